/- A part. -/
import Derived.Test.YtibiiafcnaijeaaGreatB00
import Derived.Test.YtibiiafcnaijeaaGreatB18
namespace Go.Proofs.YtibiiafcnaijeaaGreat
open Go Go.RowKit Go.Proofs.YtibiiafcnaijeaaGreat.Steady
set_option linter.unusedVariables false
set_option linter.unusedSimpArgs false
set_option maxRecDepth 100000
set_option maxHeartbeats 40000000
def FreshC (c:Chg') (w:World) (e:Ending) (w':World):Prop:=∃ u,e=.returned u∧CHV (fun g=>w.heap.size≤g) w' u c∧Below w.heap.size w w'
theorem delete_any (i:Inst) (why:Int) (b:Bool) (P:Nat→Prop) (w:World) (x:Value) (hx:IV P w x i) (h1:szV i.attrs≤1000) (h2:kyV i.attrs≤1000) (h3:i.deps.length≤1000) :
  Calls Tryz.prog 34 #[x,.int .i64 why,.bool b] w (FreshC (deleteD i why b) w):=by
 obtain⟨k,n,s,oi,mi,ci,ok,mk,ck,od,cd,rfl,hVV,hSV⟩:=hx;generalize hA:w.alloc (.cells #[.string i.addr,.string i.deposed,.string i.id,.string i.type,.int .i64 k,.int .i64 n,.string s,.slice oi mi ci,.slice ok mk ck,.int .i64 i.version,.bool i.tainted,.bool i.createFirst,.slice od i.deps.length cd] 34)=wa
 have hao:wa.heap[w.heap.size]? = some (.cells #[.string i.addr,.string i.deposed,.string i.id,.string i.type,.int .i64 k,.int .i64 n,.string s,.slice oi mi ci,.slice ok mk ck,.int .i64 i.version,.bool i.tainted,.bool i.createFirst,.slice od i.deps.length cd] 34):=by rw[←hA];exact zhh w _
 have has:wa.heap.size=w.heap.size+1:=by rw[←hA];simp
 have hab:Below w.heap.size w wa:=by rw[←hA];exact(Below.refl _ _).alloc (nR _) _
 generalize hB:wa.alloc zero22=wb
 have hbo:wb.heap[w.heap.size+1]? = some zero22:=by rw[←hB,←has];exact zhh wa _
 have hbs:wb.heap.size=w.heap.size+2:=by rw[←hB];simp[has]
 have hbb:Below wa.heap.size wa wb:=by rw[←hB];exact(Below.refl _ _).alloc (nR _) _
 have HA0:=hid hA;have HB0:=hid hB;have HB:=hid (hab.trans (hbb.mono hab.size));have HS:=hid hbs;have HZ:=hid hbo;have HXA:=hid (kO hao hbb);have HVV:=hid (hVV.bel HB.out);have HSV:=hid (hSV.bel HB.out);clear hA hB hao has hab hbo hbs hbb hVV hSV;have hdr:Below wb.heap.size wb wb.drew:=zdd (Below.refl _ _);have HCP:=hid (copy_any i.attrs P wb.drew _ (HVV.out.bel hdr) (by omega) (by omega))
 go_enter Tryz.func34,Tryz.ntmps34
 go_upto_region 1 with (fail)
 rw[HA0.out,HB0.out];have h:=C13.bel (C13.of HXA.out) hdr;refine zt 17 (C13 w.heap.size (.string i.addr) (.string i.deposed) (.string i.id) (.string i.type) (.int .i64 k) (.int .i64 n) (.string s) (.slice oi mi ci) (.slice ok mk ck) (.int .i64 i.version) (.bool i.tainted) (.bool i.createFirst) (.slice od i.deps.length cd)) (by kernel_rfl) (by kernel_rfl) (h) ?_;simp only[List.take_succ_cons,List.take_zero,List.drop_succ_cons,List.drop_zero];refine cR3 ?_;refine qqL rfl (by rfl) (fun K hK=>?_)
 go_simp
 refine HCP.out.mono ?_;rintro e w2 ⟨u,rfl,hu,hb2⟩;obtain⟨k2,n2,s2,oi2,mi2,ci2,ok2,mk2,ck2,rfl⟩:=hu.agg5;have HU2:=hid hu;have HB2:=hid (hdr.trans (hb2.mono hdr.size));have HCL:=hid (clone_any P w2 _ i.deps (HSV.out.bel (show Below wb.heap.size wb w2 from HB2.out)) (by omega));replace h:=C13.bel h hb2;clear hu hb2 HCP hdr;refine hK.out _ _ (h) ?_;clear hK K
 try simp only[pT]
 refine cR3 ?_;refine qqL rfl (by rfl) (fun K hK=>?_)
 go_simp
 refine HCL.out.mono ?_;rintro e w3 ⟨u,rfl,hu,hb3⟩;obtain⟨o3,c3,rfl⟩:=hu.len;have HU3:=hid hu;have HB3:=hT HB2 hb3;have hz:=kO HZ.out HB3.out;have hf:=zff hz;have HZ3:=hid hz;have HU2':=hid (HU2.out.bel hb3);replace h:=C13.bel h hb3;clear hu hb3 hz HCL;refine hK.out _ _ (h) ?_;clear hK K
 try simp only[pT]
 refine cR3 ?_;refine zn ?_;clear h;refine zo rfl 46 _ _ rfl (w.heap.size+1) 0 [_,_,_,_,_,_,_,_,_,_,_,_,_,_,_,_,_,_,_,_,_,_] rfl rfl _ _ HZ3.out (by simp) (by kernel_rfl) rfl ?_;intro w4 hz4 hc4
 go_wp2_with fail
 have HB4:=hT HB HB3.out;have HD4:=hid (Below.trans HB4.out (zgg hc4 (fun k hk=>by rw[hk];omega) HB4.out.size));have HQ:=hid (ZK.chg (P:=fun g=>wb.heap.size≤g) hc4 (fun g hg e=>by have:=HS.out;omega))
 try simp only[Exit.inBlock,Exit.then]
 refine bodyPost_ret (results_cell_row rfl _ w4 (w.heap.size+1) 46 _ (0,0) _ rfl hz4 Tryz.underlying46 rfl (by kernel_rfl)) rfl ?_;have hle:w.heap.size≤wb.heap.size:=HB.out.size;have hle2:wb.heap.size≤w2.heap.size:=HB2.out.size;exact⟨_,rfl,⟨_,_,_,_,_,_,_,_,_,_,_,_,_,_,_,_,_,_,none,_,none,_,_,_,rfl,HU2'.out.keep HQ.out (fun g hg=>Nat.le_trans hle hg),VV.zero _ _,SV.zero _ _,SV.zero _ _,(HU3.out.mono fun g hg=>Nat.le_trans hle2 hg).keep HQ.out fun g hg=>Nat.le_trans hle hg⟩,HD4.out⟩
theorem requal_self (t:Vl) (P Q:Nat→Prop) (w:World) (x y:Value) (hx:VV P w x t) (hy:VV Q w y t):Calls Tryz.prog 15 #[x,y] w (Ret (.bool true) w):=by
 have h:=requal_any t t P Q w x y hx hy
 rwa [eqV_refl] at h
theorem same_self (l:List ByteArray) (P Q:Nat→Prop) (w:World) (x y:Value) (hx:SV P w x l) (hy:SV Q w y l):Calls Tryz.prog 35 #[x,y] w (Ret (.bool true) w):=by
 have h:=same_any P Q w x y l l hx hy
 rwa [dTT rfl] at h
theorem requalC_any (c:Chg') (P Q:Nat→Prop) (w:World) (x y:Value) (hx:CHV P w x c) (hy:CHV Q w y c):Calls Tryz.prog 9 #[x,y] w (Ret (.bool true) w):=by
 obtain⟨k1,n1,s1,oi1,mi1,ci1,ok1,mk1,ck1,k2,n2,s2,oi2,mi2,ci2,ok2,mk2,ck2,oR1,cR1,od1,cd1,oo1,co1,rfl,hx1,hx2,hx3,hx4,hx5⟩:=hx;obtain⟨k3,n3,s3,oi3,mi3,ci3,ok3,mk3,ck3,k4,n4,s4,oi4,mi4,ci4,ok4,mk4,ck4,oR2,cR2,od2,cd2,oo2,co2,rfl,hy1,hy2,hy3,hy4,hy5⟩:=hy;generalize hA:w.alloc (.cells #[.string c.addr,.string c.deposed,.string c.type,.int .i64 c.action,.int .i64 c.reason,.int .i64 k1,.int .i64 n1,.string s1,.slice oi1 mi1 ci1,.slice ok1 mk1 ck1,.int .i64 k2,.int .i64 n2,.string s2,.slice oi2 mi2 ci2,.slice ok2 mk2 ck2,.string c.id,.slice oR1 c.replace.length cR1,.bool c.createFirst,.bool c.protect,.bool c.imp,.slice od1 c.deps.length cd1,.slice oo1 c.oldDeps.length co1] 46)=wa
 have hao:wa.heap[w.heap.size]? = some (.cells #[.string c.addr,.string c.deposed,.string c.type,.int .i64 c.action,.int .i64 c.reason,.int .i64 k1,.int .i64 n1,.string s1,.slice oi1 mi1 ci1,.slice ok1 mk1 ck1,.int .i64 k2,.int .i64 n2,.string s2,.slice oi2 mi2 ci2,.slice ok2 mk2 ck2,.string c.id,.slice oR1 c.replace.length cR1,.bool c.createFirst,.bool c.protect,.bool c.imp,.slice od1 c.deps.length cd1,.slice oo1 c.oldDeps.length co1] 46):=by rw[←hA];exact zhh w _
 have has:wa.heap.size=w.heap.size+1:=by rw[←hA];simp
 have hab:Below w.heap.size w wa:=by rw[←hA];exact(Below.refl _ _).alloc (nR _) _
 generalize hB:wa.alloc (.cells #[.string c.addr,.string c.deposed,.string c.type,.int .i64 c.action,.int .i64 c.reason,.int .i64 k3,.int .i64 n3,.string s3,.slice oi3 mi3 ci3,.slice ok3 mk3 ck3,.int .i64 k4,.int .i64 n4,.string s4,.slice oi4 mi4 ci4,.slice ok4 mk4 ck4,.string c.id,.slice oR2 c.replace.length cR2,.bool c.createFirst,.bool c.protect,.bool c.imp,.slice od2 c.deps.length cd2,.slice oo2 c.oldDeps.length co2] 46)=wb
 have hbo:wb.heap[w.heap.size+1]? = some (.cells #[.string c.addr,.string c.deposed,.string c.type,.int .i64 c.action,.int .i64 c.reason,.int .i64 k3,.int .i64 n3,.string s3,.slice oi3 mi3 ci3,.slice ok3 mk3 ck3,.int .i64 k4,.int .i64 n4,.string s4,.slice oi4 mi4 ci4,.slice ok4 mk4 ck4,.string c.id,.slice oR2 c.replace.length cR2,.bool c.createFirst,.bool c.protect,.bool c.imp,.slice od2 c.deps.length cd2,.slice oo2 c.oldDeps.length co2] 46):=by rw[←hB,←has];exact zhh wa _
 have hbb:Below wa.heap.size wa wb:=by rw[←hB];exact(Below.refl _ _).alloc (nR _) _
 have HA0:=hid hA;have HB0:=hid hB;have HB1:=hid (hab.trans (hbb.mono hab.size));have HY1:=hid hbo;have HX1:=hid (kO hao hbb);have HX:=hid (And.intro hx1 (And.intro hx2 (And.intro hx3 (And.intro hx4 hx5))));have HY:=hid (And.intro hy1 (And.intro hy2 (And.intro hy3 (And.intro hy4 hy5))));clear hA hB hao has hab hbo hbb hx1 hx2 hx3 hx4 hx5 hy1 hy2 hy3 hy4 hy5;obtain⟨x0,x1,x2,x3,x4,x5,x6,x7,x8,x9,x10,x11,x12,x13,x14,x15,x16,x17,x18,x19,x20,x21⟩:=C22.of HX1.out;obtain⟨y0,y1,y2,y3,y4,y5,y6,y7,y8,y9,y10,y11,y12,y13,y14,y15,y16,y17,y18,y19,y20,y21⟩:=C22.of HY1.out
 go_enter Tryz.func9,Tryz.ntmps9
 go_upto_region 1 with (fail)
 rw[HA0.out,HB0.out]
 go_wp2_with fail
 refine(requal_self c.before P Q _ _ _ (HX.out.1.bel HB1.out) (HY.out.1.bel HB1.out)).mono ?_;rintro e w2 ⟨rfl,hb⟩;have HB2:=hT HB1 hb;have HX2:=kH HX1 hb;have HY2:=kH HY1 hb;clear hb x0 x1 x2 x3 x4 x5 x6 x7 x8 x9 x10 x11 x12 x13 x14 x15 x16 x17 x18 x19 x20 x21 y0 y1 y2 y3 y4 y5 y6 y7 y8 y9 y10 y11 y12 y13 y14 y15 y16 y17 y18 y19 y20 y21;obtain⟨x0,x1,x2,x3,x4,x5,x6,x7,x8,x9,x10,x11,x12,x13,x14,x15,x16,x17,x18,x19,x20,x21⟩:=C22.of HX2.out;obtain⟨y0,y1,y2,y3,y4,y5,y6,y7,y8,y9,y10,y11,y12,y13,y14,y15,y16,y17,y18,y19,y20,y21⟩:=C22.of HY2.out
 go_wp2_with fail
 refine(requal_self c.after P Q _ _ _ (HX.out.2.1.bel HB2.out) (HY.out.2.1.bel HB2.out)).mono ?_;rintro e w3 ⟨rfl,hb⟩;have HB3:=hT HB2 hb;have HX3:=kH HX2 hb;have HY3:=kH HY2 hb;clear hb x0 x1 x2 x3 x4 x5 x6 x7 x8 x9 x10 x11 x12 x13 x14 x15 x16 x17 x18 x19 x20 x21 y0 y1 y2 y3 y4 y5 y6 y7 y8 y9 y10 y11 y12 y13 y14 y15 y16 y17 y18 y19 y20 y21;obtain⟨x0,x1,x2,x3,x4,x5,x6,x7,x8,x9,x10,x11,x12,x13,x14,x15,x16,x17,x18,x19,x20,x21⟩:=C22.of HX3.out;obtain⟨y0,y1,y2,y3,y4,y5,y6,y7,y8,y9,y10,y11,y12,y13,y14,y15,y16,y17,y18,y19,y20,y21⟩:=C22.of HY3.out
 go_wp2_with fail
 refine(same_self c.replace P Q _ _ _ (HX.out.2.2.1.bel HB3.out) (HY.out.2.2.1.bel HB3.out)).mono ?_;rintro e w4 ⟨rfl,hb⟩;have HB4:=hT HB3 hb;have HX4:=kH HX3 hb;have HY4:=kH HY3 hb;clear hb x0 x1 x2 x3 x4 x5 x6 x7 x8 x9 x10 x11 x12 x13 x14 x15 x16 x17 x18 x19 x20 x21 y0 y1 y2 y3 y4 y5 y6 y7 y8 y9 y10 y11 y12 y13 y14 y15 y16 y17 y18 y19 y20 y21;obtain⟨x0,x1,x2,x3,x4,x5,x6,x7,x8,x9,x10,x11,x12,x13,x14,x15,x16,x17,x18,x19,x20,x21⟩:=C22.of HX4.out;obtain⟨y0,y1,y2,y3,y4,y5,y6,y7,y8,y9,y10,y11,y12,y13,y14,y15,y16,y17,y18,y19,y20,y21⟩:=C22.of HY4.out
 go_wp2_with fail
 refine(same_self c.deps P Q _ _ _ (HX.out.2.2.2.1.bel HB4.out) (HY.out.2.2.2.1.bel HB4.out)).mono ?_;rintro e w5 ⟨rfl,hb⟩;have HB5:=hT HB4 hb;have HX5:=kH HX4 hb;have HY5:=kH HY4 hb;clear hb x0 x1 x2 x3 x4 x5 x6 x7 x8 x9 x10 x11 x12 x13 x14 x15 x16 x17 x18 x19 x20 x21 y0 y1 y2 y3 y4 y5 y6 y7 y8 y9 y10 y11 y12 y13 y14 y15 y16 y17 y18 y19 y20 y21;obtain⟨x0,x1,x2,x3,x4,x5,x6,x7,x8,x9,x10,x11,x12,x13,x14,x15,x16,x17,x18,x19,x20,x21⟩:=C22.of HX5.out;obtain⟨y0,y1,y2,y3,y4,y5,y6,y7,y8,y9,y10,y11,y12,y13,y14,y15,y16,y17,y18,y19,y20,y21⟩:=C22.of HY5.out
 go_wp2_with fail
 refine(same_self c.oldDeps P Q _ _ _ (HX.out.2.2.2.2.bel HB5.out) (HY.out.2.2.2.2.bel HB5.out)).mono ?_;rintro e w6 ⟨rfl,hb⟩;have HB6:=hT HB5 hb;have HX6:=kH HX5 hb;have HY6:=kH HY5 hb;clear hb x0 x1 x2 x3 x4 x5 x6 x7 x8 x9 x10 x11 x12 x13 x14 x15 x16 x17 x18 x19 x20 x21 y0 y1 y2 y3 y4 y5 y6 y7 y8 y9 y10 y11 y12 y13 y14 y15 y16 y17 y18 y19 y20 y21;obtain⟨x0,x1,x2,x3,x4,x5,x6,x7,x8,x9,x10,x11,x12,x13,x14,x15,x16,x17,x18,x19,x20,x21⟩:=C22.of HX6.out;obtain⟨y0,y1,y2,y3,y4,y5,y6,y7,y8,y9,y10,y11,y12,y13,y14,y15,y16,y17,y18,y19,y20,y21⟩:=C22.of HY6.out
 go_wp2_with fail
 go_ret;exact⟨rfl,HB6.out⟩
end Go.Proofs.YtibiiafcnaijeaaGreat
