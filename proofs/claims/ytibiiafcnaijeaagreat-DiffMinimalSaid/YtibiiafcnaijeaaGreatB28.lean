/- Texts that stand alike under several statements, run together. -/
import Derived.Test.YtibiiafcnaijeaaGreatB00
import Derived.Test.YtibiiafcnaijeaaGreatB26
import Derived.Test.YtibiiafcnaijeaaGreatB01
import Derived.Test.YtibiiafcnaijeaaGreatB27
namespace Go.Proofs.YtibiiafcnaijeaaGreat
open Go Go.RowKit Go.Proofs.YtibiiafcnaijeaaGreat.Steady
set_option linter.unusedVariables false
set_option linter.unusedSimpArgs false
set_option maxRecDepth 100000
set_option maxHeartbeats 40000000
structure CS (w3 wx:World) (X:Nat) (i:Inp) (vd:Value):Prop where
 bel:Below w3.heap.size w3 wx
 hX:w3.heap.size≤X
 obj:wx.heap[X]? = some (.cells #[.string i.addr,.string ⟨#[]⟩,.string i.tname,.int .i64 0,.int .i64 0,.int .i64 0,.int .i64 0,.string ⟨#[]⟩,.slice none 0 0,.slice none 0 0,.int .i64 0,.int .i64 0,.string ⟨#[]⟩,.slice none 0 0,.slice none 0 0,.string ⟨#[]⟩,.slice none 0 0,.bool false,.bool i.protect,.bool false,vd,.slice none 0 0] 46)
 sv:SV (fun g=>w3.heap.size≤g∧g≠X) wx vd i.deps
theorem CS.one {w3 w5 w6 w7:World} {i:Inp} {vd:Value} (hb:Below w3.heap.size w3 w5) (hu:SV (fun g=>w3.heap.size≤g) w5 vd i.deps) (ha:Below w5.heap.size w5 w6) (hc:Chg (fun k=>k=w5.heap.size) w6 w7)
  (hz:w7.heap[w5.heap.size]? = some (.cells #[.string i.addr,.string ⟨#[]⟩,.string i.tname,.int .i64 0,.int .i64 0,.int .i64 0,.int .i64 0,.string ⟨#[]⟩,.slice none 0 0,.slice none 0 0,.int .i64 0,.int .i64 0,.string ⟨#[]⟩,.slice none 0 0,.slice none 0 0,.string ⟨#[]⟩,.slice none 0 0,.bool false,.bool i.protect,.bool false,vd,.slice none 0 0] 46)):CS w3 w7 w5.heap.size i vd :=
 ⟨(hb.trans (ha.mono hb.size)).trans (zgg hc (fun k hk=>by rw [hk];exact hb.size) (Nat.le_trans hb.size ha.size)),hb.size,hz,
  ((hu.ex.bel ha).keep (ZK.chg hc fun g hg e=>by omega) fun g hg=>⟨hg.1,by omega⟩)⟩
theorem CS.two {w3 w5 w7:World} {i:Inp} {vd:Value} (hb:Below (w3.drew.alloc zero22).heap.size (w3.drew.alloc zero22) w5) (hu:SV (fun g=>(w3.drew.alloc zero22).heap.size≤g) w5 vd i.deps) (hc:Chg (fun k=>k=w3.heap.size) w5 w7)
  (hz:w7.heap[w3.heap.size]? = some (.cells #[.string i.addr,.string ⟨#[]⟩,.string i.tname,.int .i64 0,.int .i64 0,.int .i64 0,.int .i64 0,.string ⟨#[]⟩,.slice none 0 0,.slice none 0 0,.int .i64 0,.int .i64 0,.string ⟨#[]⟩,.slice none 0 0,.slice none 0 0,.string ⟨#[]⟩,.slice none 0 0,.bool false,.bool i.protect,.bool false,vd,.slice none 0 0] 46)):CS w3 w7 w3.heap.size i vd:=by
 have hs:(w3.drew.alloc zero22).heap.size=w3.heap.size + 1:=by simp
 have h1:Below w3.heap.size w3 (w3.drew.alloc zero22):=(zdd (Below.refl _ _)).alloc (nR _) _;have h2:=h1.trans (hb.mono h1.size);exact ⟨h2.trans (zgg hc (fun k hk=>by omega) h2.size),nR _,hz,hu.keep (ZK.chg hc fun g hg e=>by omega) fun g hg=>⟨by omega,by omega⟩⟩
theorem change_any (i:Inp) (P:Nat→Prop) (w:World) (x:Value) (hx:INV P w x i) (hok:InOk i) :
  Calls Tryz.prog 10 #[x] w (FreshC (changeD i) w):=by
 have HX0:=hid hx;obtain ⟨oa,ca,on,cn,kp,np,sp,oip,mip,cip,okp,mkp,ckp,od,cd,kc,nc,sc,oic,mic,cic,okc,mkc,ckc,og,cg,ot,mt,ct,oD,cD,rfl,hSC,hVP,hSD,hVC,hSG,hSS⟩:=hx;generalize hA:w.alloc (.cells #[.string i.addr,.string i.tname,.slice oa i.sc.attrs.length ca,.slice on i.sc.nested.length cn,.int .i64 i.quota,.bool i.has,.string i.prior.addr,.string i.prior.deposed,.string i.prior.id,.string i.prior.type,.int .i64 kp,.int .i64 np,.string sp,.slice oip mip cip,.slice okp mkp ckp,.int .i64 i.prior.version,.bool i.prior.tainted,.bool i.prior.createFirst,.slice od i.prior.deps.length cd,.int .i64 kc,.int .i64 nc,.string sc,.slice oic mic cic,.slice okc mkc ckc,.bool i.createFirst,.bool i.protect,.slice og i.ignore.length cg,.slice ot mt ct,.bool i.triggered,.bool i.requested,.slice oD i.deps.length cD] 48)=wa
 have hao:wa.heap[w.heap.size]? = some (.cells #[.string i.addr,.string i.tname,.slice oa i.sc.attrs.length ca,.slice on i.sc.nested.length cn,.int .i64 i.quota,.bool i.has,.string i.prior.addr,.string i.prior.deposed,.string i.prior.id,.string i.prior.type,.int .i64 kp,.int .i64 np,.string sp,.slice oip mip cip,.slice okp mkp ckp,.int .i64 i.prior.version,.bool i.prior.tainted,.bool i.prior.createFirst,.slice od i.prior.deps.length cd,.int .i64 kc,.int .i64 nc,.string sc,.slice oic mic cic,.slice okc mkc ckc,.bool i.createFirst,.bool i.protect,.slice og i.ignore.length cg,.slice ot mt ct,.bool i.triggered,.bool i.requested,.slice oD i.deps.length cD] 48):=by rw [← hA];exact zhh w _
 have has:wa.heap.size=w.heap.size + 1:=by rw [← hA];simp
 have hab:Below w.heap.size w wa:=by rw [← hA];exact (Below.refl _ _).alloc (nR _) _
 have HA0:=hid hA;clear hA;generalize hB:wa.alloc zero22=wb
 have hbo:wb.heap[w.heap.size + 1]? = some zero22:=by rw [← hB,← has];exact zhh wa _
 have hbs:wb.heap.size=w.heap.size + 2:=by rw [← hB];simp [has]
 have hbb:Below wa.heap.size wa wb:=by rw [← hB];exact (Below.refl _ _).alloc (nR _) _
 generalize hC:wb.alloc (.cells #[.slice oa i.sc.attrs.length ca,.slice on i.sc.nested.length cn] 25)=wc
 have hco:wc.heap[wb.heap.size]? = some (.cells #[.slice oa i.sc.attrs.length ca,.slice on i.sc.nested.length cn] 25):=by rw [← hC];exact zhh wb _
 have hcs:wc.heap.size=w.heap.size + 3:=by rw [← hC];simp [hbs]
 have hcb:Below wb.heap.size wb wc:=by rw [← hC];exact (Below.refl _ _).alloc (nR _) _
 have HB0:=hid hB;have HC0:=hid hC;have HB:=hid (hab.trans ((hbb.trans (hcb.mono hbb.size)).mono hab.size));have HS:=hid (And.intro hbs hcs);have HXS:=hid hco;have HZ:=hid (kO hbo hcb);have HXA:=hid (kO (kO hao hbb) hcb);have HXAb:=hid (kO hao hbb);have HI:=hid (And.intro hSC (And.intro hVP (And.intro hSD (And.intro hVC (And.intro hSG hSS)))));have HOK:=hid hok;clear hB hao has hab hbo hbs hbb hSC hVP hSD hVC hSG hSS hok hC hco hcs hcb;have HEF:=hid (effective_any i P wc _ (HX0.out.bel HB.out) HOK.out);have HSZ:=hid (effD_small HOK.out);have HNM:=hid (show (namesS i.sc).length≤40 by rw [names_len];have:=HOK.out.2.1;have:=HOK.out.2.2.1;omega);obtain ⟨x0,x1,x2,x3,x4,x5,x6,x7,x8,x9,x10,x11,x12,x13,x14,x15,x16,x17,x18,x19,x20,x21,x22,x23,x24,x25,x26,x27,x28,x29,x30⟩:=C31.of HXAb.out
 go_enter Tryz.func10,Tryz.ntmps10
 go_upto_region 1 with (fail)
 rw [HA0.out,HB0.out]
 go_upto_region 2 with (fail)
 rw [HC0.out];clear x0 x1 x2 x3 x4 x5 x6 x7 x8 x9 x10 x11 x12 x13 x14 x15 x16 x17 x18 x19 x20 x21 x22 x23 x24 x25 x26 x27 x28 x29 x30
 go_wp2_with (refine wpList_load_row rfl 48 (.tmp 1) rfl w.heap.size rfl _ _ (0,0) _ HXA.out Tryz.underlying48 rfl (by kernel_rfl) ?_)
 refine HEF.out.mono ?_;rintro e w2 ⟨u,rfl,hu,hb2⟩;obtain ⟨ke,ne,se,oie,mie,cie,oke,mke,cke,rfl⟩:=hu.agg5;have HB2:=hid (HB.out.trans (hb2.mono HB.out.size));have HE2:=hid hu.ex;have HWS:=hid hb2.size;have HXA2:=hid (kO HXA.out hb2);have HXS2:=hid (kO HXS.out hb2);have HZ2:=hid (kO HZ.out hb2);clear hu hb2 HEF HXA HXS HZ HXAb
 go_upto_region 3 with (fail)
 have hba:Below w2.heap.size w2 (w2.alloc (.cells #[.int .i64 ke,.int .i64 ne,.string se,.slice oie mie cie,.slice oke mke cke] 32)):=(Below.refl _ _).alloc (nR _) _;have hoa:=zhh w2 (.cells #[.int .i64 ke,.int .i64 ne,.string se,.slice oie mie cie,.slice oke mke cke] 32)
 generalize w2.alloc (.cells #[.int .i64 ke,.int .i64 ne,.string se,.slice oie mie cie,.slice oke mke cke] 32)=w3 at *
 have HB3:=hid (HB2.out.trans (hba.mono HB2.out.size));have HE3:=hid (HE2.out.bel hba);have HXE3:=hid hoa;have HXA3:=hid (kO HXA2.out hba);have HXS3:=hid (kO HXS2.out hba);have HZ3:=hid (kO HZ2.out hba);have HSE:=hid (And.intro HWS.out (show w2.heap.size < w3.heap.size from (aS hoa).1));clear hba hoa HXA2 HXS2 HZ2 HE2;have hdr:Below w3.heap.size w3 w3.drew:=zdd (Below.refl _ _);have HCL1:=hid (clone_any P w3.drew _ i.deps (HI.out.2.2.2.2.2.bel (HB3.out.trans (hdr.mono HB3.out.size))) (by have:=HOK.out.2.2.2.2.2.2.2.2.1;omega));have h:=C31.bel (C31.of HXA3.out) hdr;have HCL2:=hid (clone_any P (w3.drew.alloc zero22) _ i.deps (HI.out.2.2.2.2.2.bel ((HB3.out.trans (hdr.mono HB3.out.size)).alloc (by have:=HB3.out.size;exact this) _)) (by have:=HOK.out.2.2.2.2.2.2.2.2.1;omega))
 go_cut [5] (fun y wx=>∃ (X:Nat) (oD2:Option Addr) (cD2:Nat),y=.pointer (some ⟨X,0,none⟩)∧Hid (CS w3 wx X i (.slice oD2 i.deps.length cD2)))
 case first =>
  refine wp_region_free 12 10 10 (C31 w.heap.size (.string i.addr) (.string i.tname) (.slice oa i.sc.attrs.length ca) (.slice on i.sc.nested.length cn) (.int .i64 i.quota) (.bool i.has) (.string i.prior.addr) (.string i.prior.deposed) (.string i.prior.id) (.string i.prior.type) (.int .i64 kp) (.int .i64 np) (.string sp) (.slice oip mip cip) (.slice okp mkp ckp) (.int .i64 i.prior.version) (.bool i.prior.tainted) (.bool i.prior.createFirst) (.slice od i.prior.deps.length cd) (.int .i64 kc) (.int .i64 nc) (.string sc) (.slice oic mic cic) (.slice okc mkc ckc) (.bool i.createFirst) (.bool i.protect) (.slice og i.ignore.length cg) (.slice ot mt ct) (.bool i.triggered) (.bool i.requested) (.slice oD i.deps.length cD)) (by kernel_rfl) (by kernel_rfl) h ?_ ?_
  ·repeat (first
    | (refine wpSteady_skip (by rfl) ?_;try simp only [Act.put,sA,sZ,sS])
    | (refine wpSteady_calm (v:=?_) (by rfl) ?_ ?_;rotate_left;(focus (intro v hSv;(try simp only [C31] at hSv);go_simp;(try with_reducible rfl);done));try simp only [Act.put,sA,sZ,sS]))
   refine sL fun K hK=>?_
   go_simp
   refine HCL1.out.mono ?_;rintro e w5 ⟨u,rfl,hu,hb5⟩;obtain ⟨oD2,cD2,rfl⟩:=hu.len;have h5:=C31.bel h hb5;have HU:=hid hu;have HB5:=hid hb5;clear h hu hb5;refine hK.out _ _ (h5) ?_;clear hK K
   try simp only [Act.put,sA,sZ,sS]
   repeat ((first
    | refine sK ?_
    | refine sC5 ?_);try simp only [Act.put,sA,sZ,sS])
   refine sL fun K hK=>?_
   go_simp
   have hba:Below w5.heap.size w5 (w5.alloc zero22):=(Below.refl _ _).alloc (nR _) _;have hoa:=zhh w5 zero22
   generalize w5.alloc zero22=w6 at *
   have h6:=C31.bel h5 hba;refine hK.out _ _ (h6) ?_;clear hK K
   try simp only [Act.put,sA,sZ,sS]
   refine sL fun K hK=>?_
   refine zq 46 _ _ rfl w5.heap.size 0 [_,_,_,_,_,_,_,_,_,_,_,_,_,_,_,_,_,_,_,_,_,_] rfl rfl _ _ hoa (by simp) (by kernel_rfl) rfl ?_;intro w7 hz7 hc7;have h7:=C31.chg h6 hc7 (by have:=HB5.out.size;have:=HB3.out.size;have h0:=HSE.out.2;have h1:=HSE.out.1;have h2:=HS.out.2;simp at *;omega);refine hK.out _ _ h7 ?_;clear hK K
   try simp only [Act.put]
   refine zn ?_
   go_wp2_with fail
   go_meet;exact ⟨_,_,_,rfl,hid (CS.one (show Below w3.heap.size w3 w5 from ⟨HB5.out.os,HB5.out.tape,HB5.out.output,HB5.out.size,HB5.out.block⟩) HU.out hba hc7 hz7)⟩
  ·simp only [mv,List.take_succ_cons,List.take_zero,List.drop_succ_cons,List.drop_zero,List.cons_append,List.nil_append]
   repeat ((first
    | refine sK ?_
    | refine sC5 ?_);try simp only [Act.put,sA,sZ,sS])
   refine sL fun K hK=>?_
   go_simp
   have h5:=C31.bel h (show Below w3.drew.heap.size w3.drew (w3.drew.alloc zero22) from (Below.refl _ _).alloc (nR _) _);have hoa:=zhh w3.drew zero22;refine hK.out _ _ (h5) ?_;clear hK K
   try simp only [Act.put,sA,sZ,sS]
   refine sL fun K hK=>?_
   go_simp
   refine HCL2.out.mono ?_;rintro e w5 ⟨u,rfl,hu,hb5⟩;obtain ⟨oD2,cD2,rfl⟩:=hu.len;have h6:=C31.bel h5 hb5;have HU:=hid hu;have HB5:=hid hb5;have hoa5:=kO hoa hb5;clear h hu hb5 h5;refine hK.out _ _ (h6) ?_;clear hK K
   try simp only [Act.put,sA,sZ,sS]
   repeat ((first
    | refine sK ?_
    | refine sC5 ?_);try simp only [Act.put,sA,sZ,sS])
   refine sL fun K hK=>?_
   refine zq 46 _ _ rfl w3.heap.size 0 [_,_,_,_,_,_,_,_,_,_,_,_,_,_,_,_,_,_,_,_,_,_] rfl rfl _ _ hoa5 (by simp) (by kernel_rfl) rfl ?_;intro w7 hz7 hc7;have h7:=C31.chg h6 hc7 (by have:=HB3.out.size;have h0:=HSE.out.2;have h1:=HSE.out.1;have h2:=HS.out.2;omega);refine hK.out _ _ h7 ?_;clear hK K
   try simp only [Act.put]
   refine zn ?_
   go_wp2_with fail
   go_meet;exact ⟨_,_,_,rfl,hid (CS.two HB5.out HU.out hc7 hz7)⟩
 case rest =>
  obtain ⟨X,oD2,cD2,rfl,CS5⟩:=hcut;clear h hdr HCL1 HCL2;have HB5:=hid (HB3.out.trans (CS5.out.bel.mono HB3.out.size));have HXA5:=hid (kO HXA3.out CS5.out.bel);have HXS5:=hid (kO HXS3.out CS5.out.bel);have HZ5:=hid (kO HZ3.out CS5.out.bel);have HXE5:=hid (kO HXE3.out CS5.out.bel);have HE5:=hid (HE3.out.bel CS5.out.bel);have HPF:=hid (propose_any i.sc nullV (effD i) P (fun _=>True) _ wc _ _ _ _ (HI.out.1.bel HB5.out) (VV.zero _ _) HE5.out HOK.out.1 ⟨by unfold SzOk;decide,HSZ.out.1⟩);clear HXA3 HXS3 HZ3 HXE3 HE3;have s0:=(cII HXS5.out 0).trans rfl;have s1:=(cII HXS5.out 1).trans rfl;have q0:=(cII HXE5.out 0).trans rfl;have q1:=(cII HXE5.out 1).trans rfl;have q2:=(cII HXE5.out 2).trans rfl;have q3:=(cII HXE5.out 3).trans rfl;have q4:=(cII HXE5.out 4).trans rfl
  go_wp2_with fail
  clear s0 s1 q0 q1 q2 q3 q4;refine HPF.out.mono ?_;rintro e w6 ⟨u,rfl,hu,hb6⟩;obtain ⟨kf,nf,sf,oif,mif,cif,okf,mkf,ckf,rfl⟩:=hu.agg5;have HF6:=hid hu;have HB6:=hid hb6;clear hu hb6 HPF
  go_upto_region 5 with (fail)
  have hba:Below w6.heap.size w6 (w6.alloc (.cells #[.int .i64 kf,.int .i64 nf,.string sf,.slice oif mif cif,.slice okf mkf ckf] 32)):=(Below.refl _ _).alloc (nR _) _;have hoa:=zhh w6 (.cells #[.int .i64 kf,.int .i64 nf,.string sf,.slice oif mif cif,.slice okf mkf ckf] 32)
  generalize w6.alloc (.cells #[.int .i64 kf,.int .i64 nf,.string sf,.slice oif mif cif,.slice okf mkf ckf] 32)=w7 at *
  have HB7':=hid (HB6.out.trans (hba.mono HB6.out.size));have HB7:=hid (HB5.out.trans (HB7'.out.mono HB5.out.size));have HXA7:=hid (kO HXA5.out HB7'.out);have HXS7:=hid (kO HXS5.out HB7'.out);have HZ7:=hid (kO HZ5.out HB7'.out);have HXE7:=hid (kO HXE5.out HB7'.out);have HE7:=hid (HE5.out.bel HB7'.out);have HF7:=hid (HF6.out.bel hba);have HXF7:=hid hoa;have HXO7:=hid (kO CS5.out.obj HB7'.out);have HSD7:=hid (CS5.out.sv.bel HB7'.out);have HWX:=hid (And.intro (show X < wc.heap.size from (aS CS5.out.obj).1) (show wc.heap.size≤w6.heap.size from HB6.out.size));clear hba hoa HXA5 HXS5 HZ5 HXE5 HE5 HF6;have HN:=hid (show w.heap.size + 2≤w3.heap.size∧w3.heap.size≤X∧X < wc.heap.size∧wc.heap.size≤w6.heap.size∧w6.heap.size < w7.heap.size by have h9:=CS5.out.hX;have h0:=HSE.out.2;have h1:=HSE.out.1;have h2:=HWS.out;have h3:=HS.out.1;have h4:=HS.out.2;have h5:=HWX.out.1;have h6:=HWX.out.2;have h7:=(aS HXF7.out).1;exact ⟨by omega,h9,h5,h6,h7⟩)
  have HNB:=hid (show ¬ (fun k=>k=X) (w.heap.size + 1) from fun (e:w.heap.size + 1=X)=>by have:=HN.out.1;have:=HN.out.2.1;omega);have HNX:=hid (show ¬ (fun k=>k=X) w6.heap.size from fun (e:w6.heap.size=X)=>by have:=HWX.out.1;have:=HWX.out.2;omega)
  cases hh:i.has with
  | false =>
   rw [hh] at HXA7;have HQ5:=hid (C5.of HXF7.out);obtain ⟨x0,x1,x2,x3,x4,x5,x6,x7,x8,x9,x10,x11,x12,x13,x14,x15,x16,x17,x18,x19,x20,x21,x22,x23,x24,x25,x26,x27,x28,x29,x30⟩:=C31.of HXA7.out
   go_upto_region 6 with (fail)
   clear x0 x1 x2 x3 x4 x5 x6 x7 x8 x9 x10 x11 x12 x13 x14 x15 x16 x17 x18 x19 x20 x21 x22 x23 x24 x25 x26 x27 x28 x29 x30;have h:=C5.bel HQ5.out (show Below w7.heap.size w7 w7.drew from zdd (Below.refl _ _));refine zss (C5 w6.heap.size (.int .i64 kf) (.int .i64 nf) (.string sf) (.slice oif mif cif) (.slice okf mkf ckf)) (by kernel_rfl) (by kernel_rfl) (h) ?_
   repeat ((first
    | refine sK ?_
    | refine sC6 ?_);try simp only [Act.put,sA,sZ,sS])
   refine sL fun K hK=>?_
   refine wp_store_one 43 _ _ rfl X 3 (.int .i64 1) rfl rfl _ _ HXO7.out (by simp) (by kernel_rfl) rfl ?_;intro w8 hz8 hc8;have h8:=C5.chg (B:=fun k=>k=X) h hc8 HNX.out;refine hK.out _ _ h8 ?_;clear hK K
   try simp only [Act.put]
   repeat ((first
    | refine sK ?_
    | refine sC6 ?_);try simp only [Act.put,sA,sZ,sS])
   refine sL fun K hK=>?_
   refine wp_store_one 44 _ _ rfl X 4 (.int .i64 1) rfl rfl _ _ hz8 (by simp) (by kernel_rfl) rfl ?_;intro w9 hz9 hc9;have h9:=C5.chg (B:=fun k=>k=X) h8 hc9 HNX.out;refine hK.out _ _ h9 ?_;clear hK K
   try simp only [Act.put]
   repeat ((first
    | refine sK ?_
    | refine sC6 ?_);try simp only [Act.put,sA,sZ,sS])
   refine sL fun K hK=>?_
   refine zq 32 _ _ rfl X 10 [_,_,_,_,_] rfl rfl _ _ hz9 (by simp) (by kernel_rfl) rfl ?_;intro w10 hz10 hc10;have h10:=C5.chg (B:=fun k=>k=X) h9 hc10 HNX.out;refine hK.out _ _ h10 ?_;clear hK K
   try simp only [Act.put]
   refine zn ?_;clear h h8 h9 h10;have hc:=(hc8.trans hc9).trans hc10;have HZ10:=hid (keep_chg HZ7.out (show Chg (fun k=>k=X) w7 w10 from ⟨hc.os,hc.tape,hc.output,hc.size,hc.block⟩) HNB.out)
   go_wp2_with (first | (refine wpList_load_row rfl 46 (.tmp 5) rfl X rfl _ _ (0,0) _ hz10 Tryz.underlying46 rfl (by kernel_rfl) ?_) | (refine zo rfl 46 _ _ rfl (w.heap.size + 1) 0 [_,_,_,_,_,_,_,_,_,_,_,_,_,_,_,_,_,_,_,_,_,_] rfl rfl _ _ HZ10.out (by simp) (by kernel_rfl) rfl ?_;intro w11 hz11 hc11))
   have HCD:changeD i=⟨i.addr,⟨#[]⟩,i.tname,1,1,nullV,proposeS i.sc nullV (effD i),⟨#[]⟩,[],false,i.protect,false,i.deps,[]⟩:=by unfold changeD;simp [hh]
   try simp only [Exit.inBlock,Exit.then]
   refine bodyPost_ret (results_cell_row rfl _ w11 (w.heap.size + 1) 46 _ (0,0) _ rfl hz11 Tryz.underlying46 rfl (by kernel_rfl)) rfl ?_;rw [HCD];have hcA:Chg (fun k=>k=X) w7 w10:=⟨hc.os,hc.tape,hc.output,hc.size,hc.block⟩;have hk:ZK (fun g=>w3.heap.size≤g∧g≠X) w7 w11:=(ZK.chg hcA fun g hg e=>hg.2 e).trans (ZK.chg hc11 fun g hg e=>by have:=HN.out.1;omega)
   exact ⟨_,rfl,⟨_,_,_,_,_,_,_,_,_,_,_,_,_,_,_,_,_,_,none,_,_,_,none,_,rfl,VV.zero _ _,(HF7.out.mono (Q:=fun g=>w3.heap.size≤g∧g≠X) fun g (hg:wc.heap.size≤g)=>⟨by have:=HN.out.2.1;have:=HN.out.2.2.1;omega,by have:=HN.out.2.2.1;omega⟩).keep hk fun g hg=>by have:=HN.out.1;omega,SV.zero _ _,HSD7.out.keep hk fun g hg=>by have:=HN.out.1;omega,SV.zero _ _⟩,
    (HB7.out.trans (zgg hcA (fun k hk=>by have:=HN.out.1;have:=HN.out.2.1;omega) HB7.out.size)).trans (zgg hc11 (fun k hk=>by omega) (Nat.le_trans HB7.out.size hcA.size))⟩
  | true =>
   have A7:Hid (Chg (fun k=>k=X) w7 w7):=hid (Chg.refl _ _);have hz7:=HXO7.out;have HNA:=hid (show ¬ (fun k=>k=X) w.heap.size from fun (e:w.heap.size=X)=>by have:=HN.out.1;have:=HN.out.2.1;omega);have HNS:=hid (show ¬ (fun k=>k=X) wb.heap.size from fun (e:wb.heap.size=X)=>by have:=HN.out.1;have:=HN.out.2.1;have:=HSE.out;have:=HWS.out;have:=HS.out;omega);have HNE:=hid (show ¬ (fun k=>k=X) w2.heap.size from fun (e:w2.heap.size=X)=>by have:=HN.out.2.1;have:=HSE.out;omega);have HVD:=hid HSD7.out;have HVF:=hid (HF7.out.mono (Q:=fun g=>w3.heap.size≤g∧g≠X) fun g (hg:wc.heap.size≤g)=>⟨by have:=HN.out;omega,by have:=HN.out;omega⟩);have HVE:=hid (HE7.out.mono (Q:=fun g=>g≠X) fun g hg=>by have:=hg.2;have:=HSE.out;have:=HN.out;omega);rw [hh] at HXA7;have hxa:=keep_chg HXA7.out A7.out HNA.out
   have x10:=(cII hxa 10).trans rfl;have x11:=(cII hxa 11).trans rfl;have x12:=(cII hxa 12).trans rfl;have x13:=(cII hxa 13).trans rfl;have x14:=(cII hxa 14).trans rfl;clear hxa;have HC:=hid (copy_any i.prior.attrs P w7 _ (HI.out.2.1.bel HB7.out) (by have:=HOK.out.2.2.2.1;omega) (by have:=HOK.out.2.2.2.2.1;omega));have hxa:=keep_chg HXA7.out A7.out HNA.out;have x5:=(cII hxa 5).trans rfl;clear hxa
   go_upto_region 8 with (fail)
   go_wp2_with fail
   refine HC.out.mono ?_;rintro e w8 ⟨u,rfl,hu,hb⟩;obtain ⟨kb,nb,sb,oib,mib,cib,okb,mkb,ckb,rfl⟩:=hu.agg5;have A8:=hid (A7.out.trans (Chg.below (B:=fun k=>k=X) hb));have HVb:=hid (hu.mono (Q:=fun g=>w3.heap.size≤g∧g≠X) fun g (hg:w7.heap.size≤g)=>⟨by have:=A7.out.size;have:=HN.out;omega,by have:=A7.out.size;have:=HN.out;omega⟩);have hz8':=kO hz7 hb;replace HVD:=hid (HVD.out.bel hb);replace HVF:=hid (HVF.out.bel hb);replace HVE:=hid (HVE.out.bel hb);clear hu hb HC;have hz8:w8.heap[X]? = some (.cells #[.string i.addr,.string ⟨#[]⟩,.string i.tname,.int .i64 0,.int .i64 0,.int .i64 0,.int .i64 0,.string ⟨#[]⟩,.slice none 0 0,.slice none 0 0,.int .i64 0,.int .i64 0,.string ⟨#[]⟩,.slice none 0 0,.slice none 0 0,.string ⟨#[]⟩,.slice none 0 0,.bool false,.bool i.protect,.bool false,.slice oD2 i.deps.length cD2,.slice none 0 0] 46):=hz8'
   clear x5 x10 x11 x12 x13 x14
   go_upto_region 9 with (refine zo rfl 32 _ _ rfl X 5 [_,_,_,_,_] rfl rfl _ _ hz8 (by simp) (by kernel_rfl) rfl ?_;intro w9 hz9' hc)
   have hz9:w9.heap[X]? = some (.cells #[.string i.addr,.string ⟨#[]⟩,.string i.tname,.int .i64 0,.int .i64 0,.int .i64 kb,.int .i64 nb,.string sb,.slice oib mib cib,.slice okb mkb ckb,.int .i64 0,.int .i64 0,.string ⟨#[]⟩,.slice none 0 0,.slice none 0 0,.string ⟨#[]⟩,.slice none 0 0,.bool false,.bool i.protect,.bool false,.slice oD2 i.deps.length cD2,.slice none 0 0] 46):=hz9';have A9:=hid (A8.out.trans hc);replace HVb:=hid (HVb.out.keep (ZK.chg hc fun g hg e=>hg.2 e) fun g hg=>hg);replace HVD:=hid (HVD.out.keep (ZK.chg hc fun g hg e=>hg.2 e) fun g hg=>hg);replace HVF:=hid (HVF.out.keep (ZK.chg hc fun g hg e=>hg.2 e) fun g hg=>hg);replace HVE:=hid (HVE.out.keep (ZK.chg hc fun g hg e=>hg e) fun g hg=>hg);clear hc hz9' hz8;have hxa:=keep_chg HXA7.out A9.out HNA.out;have x8:=(cII hxa 8).trans rfl;clear hxa
   go_upto_region 10 with (refine z1s rfl 9 _ _ rfl X 15 _ rfl rfl _ _ hz9 (by simp) (by kernel_rfl) rfl ?_;intro w10 hz10' hc)
   have hz10:w10.heap[X]? = some (.cells #[.string i.addr,.string ⟨#[]⟩,.string i.tname,.int .i64 0,.int .i64 0,.int .i64 kb,.int .i64 nb,.string sb,.slice oib mib cib,.slice okb mkb ckb,.int .i64 0,.int .i64 0,.string ⟨#[]⟩,.slice none 0 0,.slice none 0 0,.string i.prior.id,.slice none 0 0,.bool false,.bool i.protect,.bool false,.slice oD2 i.deps.length cD2,.slice none 0 0] 46):=hz10';have A10:=hid (A9.out.trans hc);replace HVb:=hid (HVb.out.keep (ZK.chg hc fun g hg e=>hg.2 e) fun g hg=>hg);replace HVD:=hid (HVD.out.keep (ZK.chg hc fun g hg e=>hg.2 e) fun g hg=>hg);replace HVF:=hid (HVF.out.keep (ZK.chg hc fun g hg e=>hg.2 e) fun g hg=>hg);replace HVE:=hid (HVE.out.keep (ZK.chg hc fun g hg e=>hg e) fun g hg=>hg);clear hc hz10' hz9;clear x8;have hxa:=keep_chg HXA7.out A10.out HNA.out;have x18:=(cII hxa 18).trans rfl
   clear hxa;have HBW10:=hid (HB7.out.trans (zgg A10.out (fun k hk=>by have:=HN.out.1;have:=HN.out.2.1;omega) HB7.out.size));have HC:=hid (clone_any P w10 _ i.prior.deps (HI.out.2.2.1.bel HBW10.out) (by have:=HOK.out.2.2.2.2.2.2.2.2.2;omega))
   go_wp2_with fail
   refine HC.out.mono ?_;rintro e w11 ⟨u,rfl,hu,hb⟩;obtain ⟨oO,cO,rfl⟩:=hu.len;have A11:=hid (A10.out.trans (Chg.below (B:=fun k=>k=X) hb));have HVO:=hid (hu.mono (Q:=fun g=>w3.heap.size≤g∧g≠X) fun g (hg:w10.heap.size≤g)=>⟨by have:=A10.out.size;have:=HN.out;omega,by have:=A10.out.size;have:=HN.out;omega⟩);have hz11':=kO hz10 hb;replace HVb:=hid (HVb.out.bel hb);replace HVD:=hid (HVD.out.bel hb);replace HVF:=hid (HVF.out.bel hb);replace HVE:=hid (HVE.out.bel hb);clear hu hb HC;have hz11:w11.heap[X]? = some (.cells #[.string i.addr,.string ⟨#[]⟩,.string i.tname,.int .i64 0,.int .i64 0,.int .i64 kb,.int .i64 nb,.string sb,.slice oib mib cib,.slice okb mkb ckb,.int .i64 0,.int .i64 0,.string ⟨#[]⟩,.slice none 0 0,.slice none 0 0,.string i.prior.id,.slice none 0 0,.bool false,.bool i.protect,.bool false,.slice oD2 i.deps.length cD2,.slice none 0 0] 46):=hz11'
   clear x18
   go_upto_region 11 with (refine z1s rfl 30 _ _ rfl X 21 _ rfl rfl _ _ hz11 (by simp) (by kernel_rfl) rfl ?_;intro w12 hz12' hc)
   have hz12:w12.heap[X]? = some (.cells #[.string i.addr,.string ⟨#[]⟩,.string i.tname,.int .i64 0,.int .i64 0,.int .i64 kb,.int .i64 nb,.string sb,.slice oib mib cib,.slice okb mkb ckb,.int .i64 0,.int .i64 0,.string ⟨#[]⟩,.slice none 0 0,.slice none 0 0,.string i.prior.id,.slice none 0 0,.bool false,.bool i.protect,.bool false,.slice oD2 i.deps.length cD2,.slice oO i.prior.deps.length cO] 46):=hz12';have A12:=hid (A11.out.trans hc);replace HVb:=hid (HVb.out.keep (ZK.chg hc fun g hg e=>hg.2 e) fun g hg=>hg);replace HVD:=hid (HVD.out.keep (ZK.chg hc fun g hg e=>hg.2 e) fun g hg=>hg);replace HVF:=hid (HVF.out.keep (ZK.chg hc fun g hg e=>hg.2 e) fun g hg=>hg);replace HVE:=hid (HVE.out.keep (ZK.chg hc fun g hg e=>hg e) fun g hg=>hg);replace HVO:=hid (HVO.out.keep (ZK.chg hc fun g hg e=>hg.2 e) fun g hg=>hg);clear hc hz12' hz11
   have HBW12:=hid (HB7.out.trans (zgg A12.out (fun k hk=>by have:=HN.out.1;have:=HN.out.2.1;omega) HB7.out.size));have hxs:=keep_chg HXS7.out A12.out HNS.out;have s0:=(cII hxs 0).trans rfl;have s1:=(cII hxs 1).trans rfl;clear hxs;have hxa:=keep_chg HXA7.out A12.out HNA.out;have x10:=(cII hxa 10).trans rfl;have x11:=(cII hxa 11).trans rfl;have x12:=(cII hxa 12).trans rfl;have x13:=(cII hxa 13).trans rfl;have x14:=(cII hxa 14).trans rfl;clear hxa;have hxe:=keep_chg HXE7.out A12.out HNE.out;have q0:=(cII hxe 0).trans rfl;have q1:=(cII hxe 1).trans rfl;have q2:=(cII hxe 2).trans rfl;have q3:=(cII hxe 3).trans rfl;have q4:=(cII hxe 4).trans rfl;clear hxe;have HSP:=hid (itm_small (show szV i.prior.attrs≤300 from HOK.out.2.2.2.1) (show kyV i.prior.attrs≤600 from HOK.out.2.2.2.2.1))
   have HSA:=hid (show SzOk i.prior.attrs from ⟨by have:=HOK.out.2.2.2.1;omega,by have:=HOK.out.2.2.2.2.1;omega⟩);have HC:=hid (propose_any i.sc i.prior.attrs (effD i) P P _ w12 _ _ _ _ (HI.out.1.bel HBW12.out) (HI.out.2.1.bel HBW12.out) HVE.out HOK.out.1 ⟨HSA.out,HSZ.out.1⟩)
   go_wp2_with fail
   refine HC.out.mono ?_;rintro e w13 ⟨u,rfl,hu,hb⟩;obtain ⟨ka,na,sa,oia,mia,cia,oka,mka,cka,rfl⟩:=hu.agg5;have A13:=hid (A12.out.trans (Chg.below (B:=fun k=>k=X) hb));have HVa:=hid (hu.mono (Q:=fun g=>w3.heap.size≤g∧g≠X) fun g (hg:w12.heap.size≤g)=>⟨by have:=A12.out.size;have:=HN.out;omega,by have:=A12.out.size;have:=HN.out;omega⟩);have hz13':=kO hz12 hb;replace HVb:=hid (HVb.out.bel hb);replace HVD:=hid (HVD.out.bel hb);replace HVF:=hid (HVF.out.bel hb);replace HVE:=hid (HVE.out.bel hb);replace HVO:=hid (HVO.out.bel hb);clear hu hb HC;have hz13:w13.heap[X]? = some (.cells #[.string i.addr,.string ⟨#[]⟩,.string i.tname,.int .i64 0,.int .i64 0,.int .i64 kb,.int .i64 nb,.string sb,.slice oib mib cib,.slice okb mkb ckb,.int .i64 0,.int .i64 0,.string ⟨#[]⟩,.slice none 0 0,.slice none 0 0,.string i.prior.id,.slice none 0 0,.bool false,.bool i.protect,.bool false,.slice oD2 i.deps.length cD2,.slice oO i.prior.deps.length cO] 46):=hz13'
   clear s0 s1 q0 q1 q2 q3 q4 x10 x11 x12 x13 x14;have HZA:=hid (proposeS_small i.sc HNM.out HSP.out HSZ.out.2)
   go_upto_region 12 with (refine zo rfl 32 _ _ rfl X 10 [_,_,_,_,_] rfl rfl _ _ hz13 (by simp) (by kernel_rfl) rfl ?_;intro w14 hz14' hc)
   have hz14:w14.heap[X]? = some (.cells #[.string i.addr,.string ⟨#[]⟩,.string i.tname,.int .i64 0,.int .i64 0,.int .i64 kb,.int .i64 nb,.string sb,.slice oib mib cib,.slice okb mkb ckb,.int .i64 ka,.int .i64 na,.string sa,.slice oia mia cia,.slice oka mka cka,.string i.prior.id,.slice none 0 0,.bool false,.bool i.protect,.bool false,.slice oD2 i.deps.length cD2,.slice oO i.prior.deps.length cO] 46):=hz14';have A14:=hid (A13.out.trans hc);replace HVb:=hid (HVb.out.keep (ZK.chg hc fun g hg e=>hg.2 e) fun g hg=>hg);replace HVD:=hid (HVD.out.keep (ZK.chg hc fun g hg e=>hg.2 e) fun g hg=>hg);replace HVF:=hid (HVF.out.keep (ZK.chg hc fun g hg e=>hg.2 e) fun g hg=>hg);replace HVE:=hid (HVE.out.keep (ZK.chg hc fun g hg e=>hg e) fun g hg=>hg);replace HVO:=hid (HVO.out.keep (ZK.chg hc fun g hg e=>hg.2 e) fun g hg=>hg)
   replace HVa:=hid (HVa.out.keep (ZK.chg hc fun g hg e=>hg.2 e) fun g hg=>hg);clear hc hz14' hz13;have HBW14:=hid (HB7.out.trans (zgg A14.out (fun k hk=>by have:=HN.out.1;have:=HN.out.2.1;omega) HB7.out.size));have hxs:=keep_chg HXS7.out A14.out HNS.out;have s0:=(cII hxs 0).trans rfl;have s1:=(cII hxs 1).trans rfl;clear hxs;have hxa:=keep_chg HXA7.out A14.out HNA.out;have x10:=(cII hxa 10).trans rfl;have x11:=(cII hxa 11).trans rfl;have x12:=(cII hxa 12).trans rfl;have x13:=(cII hxa 13).trans rfl;have x14:=(cII hxa 14).trans rfl;clear hxa;have z10:=(cII hz14 10).trans rfl;have z11:=(cII hz14 11).trans rfl;have z12:=(cII hz14 12).trans rfl;have z13:=(cII hz14 13).trans rfl;have z14:=(cII hz14 14).trans rfl;have HC:=hid (replaced_any i.sc i.prior.attrs (proposeS i.sc i.prior.attrs (effD i)) P P _ w14 _ _ _ _ (HI.out.1.bel HBW14.out) (HI.out.2.1.bel HBW14.out) HVa.out HOK.out.1 ⟨HSA.out,HZA.out⟩)
   go_wp2_with fail
   refine HC.out.mono ?_;rintro e w15 ⟨u,rfl,hu,hb⟩;obtain ⟨oR,cR,rfl⟩:=hu.len;have A15:=hid (A14.out.trans (Chg.below (B:=fun k=>k=X) hb));have HVR:=hid (hu.mono (Q:=fun g=>w3.heap.size≤g∧g≠X) fun g (hg:w14.heap.size≤g)=>⟨by have:=A14.out.size;have:=HN.out;omega,by have:=A14.out.size;have:=HN.out;omega⟩);have hz15':=kO hz14 hb;replace HVb:=hid (HVb.out.bel hb);replace HVD:=hid (HVD.out.bel hb);replace HVF:=hid (HVF.out.bel hb);replace HVE:=hid (HVE.out.bel hb);replace HVO:=hid (HVO.out.bel hb);replace HVa:=hid (HVa.out.bel hb);clear hu hb HC;have hz15:w15.heap[X]? = some (.cells #[.string i.addr,.string ⟨#[]⟩,.string i.tname,.int .i64 0,.int .i64 0,.int .i64 kb,.int .i64 nb,.string sb,.slice oib mib cib,.slice okb mkb ckb,.int .i64 ka,.int .i64 na,.string sa,.slice oia mia cia,.slice oka mka cka,.string i.prior.id,.slice none 0 0,.bool false,.bool i.protect,.bool false,.slice oD2 i.deps.length cD2,.slice oO i.prior.deps.length cO] 46):=hz15'
   clear s0 s1 x10 x11 x12 x13 x14 z10 z11 z12 z13 z14;have HLR:=hid (show (replacedS i.sc i.prior.attrs (proposeS i.sc i.prior.attrs (effD i))).length≤40 from Nat.le_trans (List.length_filter_le _ _) (Nat.le_trans (List.length_filter_le _ _) HNM.out))
   go_upto_region 13 with (refine z1s rfl 30 _ _ rfl X 16 _ rfl rfl _ _ hz15 (by simp) (by kernel_rfl) rfl ?_;intro w16 hz16' hc)
   have hz16:w16.heap[X]? = some (.cells #[.string i.addr,.string ⟨#[]⟩,.string i.tname,.int .i64 0,.int .i64 0,.int .i64 kb,.int .i64 nb,.string sb,.slice oib mib cib,.slice okb mkb ckb,.int .i64 ka,.int .i64 na,.string sa,.slice oia mia cia,.slice oka mka cka,.string i.prior.id,.slice oR (replacedS i.sc i.prior.attrs (proposeS i.sc i.prior.attrs (effD i))).length cR,.bool false,.bool i.protect,.bool false,.slice oD2 i.deps.length cD2,.slice oO i.prior.deps.length cO] 46):=hz16';have A16:=hid (A15.out.trans hc);replace HVb:=hid (HVb.out.keep (ZK.chg hc fun g hg e=>hg.2 e) fun g hg=>hg);replace HVD:=hid (HVD.out.keep (ZK.chg hc fun g hg e=>hg.2 e) fun g hg=>hg);replace HVF:=hid (HVF.out.keep (ZK.chg hc fun g hg e=>hg.2 e) fun g hg=>hg);replace HVE:=hid (HVE.out.keep (ZK.chg hc fun g hg e=>hg e) fun g hg=>hg);replace HVO:=hid (HVO.out.keep (ZK.chg hc fun g hg e=>hg.2 e) fun g hg=>hg)
   replace HVa:=hid (HVa.out.keep (ZK.chg hc fun g hg e=>hg.2 e) fun g hg=>hg);replace HVR:=hid (HVR.out.keep (ZK.chg hc fun g hg e=>hg.2 e) fun g hg=>hg);clear hc hz16' hz15;have HBW16:=hid (HB7.out.trans (zgg A16.out (fun k hk=>by have:=HN.out.1;have:=HN.out.2.1;omega) HB7.out.size));have z16:=(cII hz16 16).trans rfl;have hxa:=keep_chg HXA7.out A16.out HNA.out;have HC:=hid (reason_any i (replacedS i.sc i.prior.attrs (proposeS i.sc i.prior.attrs (effD i))) P w16 _ oR cR (HX0.out.bel HBW16.out) (by have:=HLR.out;omega));rw [hh] at HC
   go_wp2_with (refine wpList_load_row rfl 48 (.tmp 1) rfl w.heap.size rfl _ _ (0,0) _ hxa Tryz.underlying48 rfl (by kernel_rfl) ?_)
   clear hxa z16;refine HC.out.mono ?_;rintro e w17 ⟨rfl,hb⟩;have A17:=hid (A16.out.trans (Chg.below (B:=fun k=>k=X) hb));have hz17:=kO hz16 hb;replace HVb:=hid (HVb.out.bel hb);replace HVD:=hid (HVD.out.bel hb);replace HVF:=hid (HVF.out.bel hb);replace HVE:=hid (HVE.out.bel hb);replace HVO:=hid (HVO.out.bel hb);replace HVa:=hid (HVa.out.bel hb);replace HVR:=hid (HVR.out.bel hb);clear hb hz16 HC;obtain ⟨r,hr0⟩:∃ r,reasonD i (replacedS i.sc i.prior.attrs (proposeS i.sc i.prior.attrs (effD i)))=r:=⟨_,rfl⟩;rw [hr0];have HR:=hid hr0;clear hr0
   by_cases hr:r=0
   ·subst hr
    have HBW17:=hid (HB7.out.trans (zgg A17.out (fun k hk=>by have:=HN.out.1;have:=HN.out.2.1;omega) HB7.out.size));have hxs:=keep_chg HXS7.out A17.out HNS.out;have s0:=(cII hxs 0).trans rfl;have s1:=(cII hxs 1).trans rfl;clear hxs;have hxa:=keep_chg HXA7.out A17.out HNA.out;have x10:=(cII hxa 10).trans rfl;have x11:=(cII hxa 11).trans rfl;have x12:=(cII hxa 12).trans rfl;have x13:=(cII hxa 13).trans rfl;have x14:=(cII hxa 14).trans rfl;clear hxa;have z10:=(cII hz17 10).trans rfl;have z11:=(cII hz17 11).trans rfl;have z12:=(cII hz17 12).trans rfl;have z13:=(cII hz17 13).trans rfl;have z14:=(cII hz17 14).trans rfl;have HC:=hid (changed_any i.sc i.prior.attrs (proposeS i.sc i.prior.attrs (effD i)) P P _ w17 _ _ _ _ (HI.out.1.bel HBW17.out) (HI.out.2.1.bel HBW17.out) HVa.out HOK.out.1 ⟨HSA.out,HZA.out⟩)
    go_wp2_with fail
    refine HC.out.mono ?_;rintro e w18 ⟨u,rfl,hu,hb⟩;obtain ⟨oC,cC,rfl⟩:=hu.len;have A18:=hid (A17.out.trans (Chg.below (B:=fun k=>k=X) hb));have hz18:=kO hz17 hb;replace HVb:=hid (HVb.out.bel hb);replace HVD:=hid (HVD.out.bel hb);replace HVF:=hid (HVF.out.bel hb);replace HVE:=hid (HVE.out.bel hb);replace HVO:=hid (HVO.out.bel hb);replace HVa:=hid (HVa.out.bel hb);replace HVR:=hid (HVR.out.bel hb);clear hu hb hz17 HC s0 s1 x10 x11 x12 x13 x14 z10 z11 z12 z13 z14
    by_cases hl:changedS i.sc i.prior.attrs (proposeS i.sc i.prior.attrs (effD i)) = []
    ·have HCD:Hid (changeD i=⟨i.addr,⟨#[]⟩,i.tname,0,0,i.prior.attrs,proposeS i.sc i.prior.attrs (effD i),i.prior.id,replacedS i.sc i.prior.attrs (proposeS i.sc i.prior.attrs (effD i)),false,i.protect,false,i.deps,i.prior.deps⟩):=hid (by unfold changeD;simp only [hh];rw [HR.out,hl];rfl)
     have hlen:decide (0 < (changedS i.sc i.prior.attrs (proposeS i.sc i.prior.attrs (effD i))).length)=false:=by rw [hl];rfl
     clear hl;have HZ18:=keep_chg HZ7.out A18.out HNB.out
     go_wp2_with (first | (refine wpList_load_row rfl 46 (.tmp 5) rfl X rfl _ _ (0,0) _ hz18 Tryz.underlying46 rfl (by kernel_rfl) ?_) | (refine zo rfl 46 _ _ rfl (w.heap.size + 1) 0 [_,_,_,_,_,_,_,_,_,_,_,_,_,_,_,_,_,_,_,_,_,_] rfl rfl _ _ HZ18 (by simp) (by kernel_rfl) rfl ?_;intro wf hzf hcf))
     try simp only [Exit.inBlock,Exit.then]
     refine bodyPost_ret (results_cell_row rfl _ wf (w.heap.size + 1) 46 _ (0,0) _ rfl hzf Tryz.underlying46 rfl (by kernel_rfl)) rfl ?_;rw [HCD.out]
     have hk:ZK (fun g=>w3.heap.size≤g∧g≠X) w18 wf:=ZK.chg hcf fun g hg e=>by have:=HN.out.1;omega
     exact ⟨_,rfl,⟨_,_,_,_,_,_,_,_,_,_,_,_,_,_,_,_,_,_,_,_,_,_,_,_,rfl,HVb.out.keep hk fun g hg=>by have:=HN.out.1;omega,HVa.out.keep hk fun g hg=>by have:=HN.out.1;omega,HVR.out.keep hk fun g hg=>by have:=HN.out.1;omega,HVD.out.keep hk fun g hg=>by have:=HN.out.1;omega,HVO.out.keep hk fun g hg=>by have:=HN.out.1;omega⟩,
      (HB7.out.trans (zgg A18.out (fun k hk=>by have:=HN.out.1;have:=HN.out.2.1;omega) HB7.out.size)).trans (zgg hcf (fun k hk=>by omega) (Nat.le_trans HB7.out.size A18.out.size))⟩
    ·have HCD:Hid (changeD i=⟨i.addr,⟨#[]⟩,i.tname,2,2,i.prior.attrs,proposeS i.sc i.prior.attrs (effD i),i.prior.id,replacedS i.sc i.prior.attrs (proposeS i.sc i.prior.attrs (effD i)),false,i.protect,false,i.deps,i.prior.deps⟩):=hid (by unfold changeD;simp only [hh];rw [HR.out];simp [hl])
     have hlen:decide (0 < (changedS i.sc i.prior.attrs (proposeS i.sc i.prior.attrs (effD i))).length)=true:=dTT (List.length_pos_iff.2 hl);clear hl
     go_upto_region 19 with (first | (refine z1s rfl 43 _ _ rfl X 3 _ rfl rfl _ _ hz18 (by simp) (by kernel_rfl) rfl ?_;intro w19 hz19 hc19) | (refine z1s rfl 44 _ _ rfl X 4 _ rfl rfl _ _ hz19 (by simp) (by kernel_rfl) rfl ?_;intro w20 hz20' hc20))
     have hz20:w20.heap[X]? = some (.cells #[.string i.addr,.string ⟨#[]⟩,.string i.tname,.int .i64 2,.int .i64 2,.int .i64 kb,.int .i64 nb,.string sb,.slice oib mib cib,.slice okb mkb ckb,.int .i64 ka,.int .i64 na,.string sa,.slice oia mia cia,.slice oka mka cka,.string i.prior.id,.slice oR (replacedS i.sc i.prior.attrs (proposeS i.sc i.prior.attrs (effD i))).length cR,.bool false,.bool i.protect,.bool false,.slice oD2 i.deps.length cD2,.slice oO i.prior.deps.length cO] 46):=hz20';have hc:=hc19.trans hc20;have A20:=hid (A18.out.trans hc);replace HVb:=hid (HVb.out.keep (ZK.chg hc fun g hg e=>hg.2 e) fun g hg=>hg);replace HVD:=hid (HVD.out.keep (ZK.chg hc fun g hg e=>hg.2 e) fun g hg=>hg);replace HVF:=hid (HVF.out.keep (ZK.chg hc fun g hg e=>hg.2 e) fun g hg=>hg);replace HVE:=hid (HVE.out.keep (ZK.chg hc fun g hg e=>hg e) fun g hg=>hg)
     replace HVO:=hid (HVO.out.keep (ZK.chg hc fun g hg e=>hg.2 e) fun g hg=>hg);replace HVa:=hid (HVa.out.keep (ZK.chg hc fun g hg e=>hg.2 e) fun g hg=>hg);replace HVR:=hid (HVR.out.keep (ZK.chg hc fun g hg e=>hg.2 e) fun g hg=>hg);clear hc hc19 hc20 hz18 hz19 hz20';have HZ20:=keep_chg HZ7.out A20.out HNB.out
     go_wp2_with (first | (refine wpList_load_row rfl 46 (.tmp 5) rfl X rfl _ _ (0,0) _ hz20 Tryz.underlying46 rfl (by kernel_rfl) ?_) | (refine zo rfl 46 _ _ rfl (w.heap.size + 1) 0 [_,_,_,_,_,_,_,_,_,_,_,_,_,_,_,_,_,_,_,_,_,_] rfl rfl _ _ HZ20 (by simp) (by kernel_rfl) rfl ?_;intro wf hzf hcf))
     try simp only [Exit.inBlock,Exit.then]
     refine bodyPost_ret (results_cell_row rfl _ wf (w.heap.size + 1) 46 _ (0,0) _ rfl hzf Tryz.underlying46 rfl (by kernel_rfl)) rfl ?_;rw [HCD.out]
     have hk:ZK (fun g=>w3.heap.size≤g∧g≠X) w20 wf:=ZK.chg hcf fun g hg e=>by have:=HN.out.1;omega
     exact ⟨_,rfl,⟨_,_,_,_,_,_,_,_,_,_,_,_,_,_,_,_,_,_,_,_,_,_,_,_,rfl,HVb.out.keep hk fun g hg=>by have:=HN.out.1;omega,HVa.out.keep hk fun g hg=>by have:=HN.out.1;omega,HVR.out.keep hk fun g hg=>by have:=HN.out.1;omega,HVD.out.keep hk fun g hg=>by have:=HN.out.1;omega,HVO.out.keep hk fun g hg=>by have:=HN.out.1;omega⟩,
      (HB7.out.trans (zgg A20.out (fun k hk=>by have:=HN.out.1;have:=HN.out.2.1;omega) HB7.out.size)).trans (zgg hcf (fun k hk=>by omega) (Nat.le_trans HB7.out.size A20.out.size))⟩
   ·have d1:decide (r=0)=false:=dF hr
    have d2:(r == 0)=false:=bF hr
    have d3:(r != 0)=true:=by rw [bne,d2];rfl
    have HCD:Hid (changeD i=⟨i.addr,⟨#[]⟩,i.tname,3,r,i.prior.attrs,proposeS i.sc nullV (effD i),i.prior.id,replacedS i.sc i.prior.attrs (proposeS i.sc i.prior.attrs (effD i)),i.createFirst,i.protect,false,i.deps,i.prior.deps⟩):=hid (by unfold changeD;simp only [hh];rw [HR.out];simp [hr]);clear hr
    go_upto_region 15 with (fail)
    clear d1 d2 d3;have h:=C5.bel (C5.of (keep_chg HXF7.out A17.out HNX.out)) (show Below w17.heap.size w17 w17.drew from zdd (Below.refl _ _));refine zss (C5 w6.heap.size (.int .i64 kf) (.int .i64 nf) (.string sf) (.slice oif mif cif) (.slice okf mkf ckf)) (by kernel_rfl) (by kernel_rfl) (h) ?_
    repeat ((first
     | refine sK ?_
     | refine sC6 ?_);try simp only [Act.put,sA,sZ,sS])
    refine sL fun K hK=>?_
    refine wp_store_one 43 _ _ rfl X 3 (.int .i64 3) rfl rfl _ _ hz17 (by simp) (by kernel_rfl) rfl ?_;intro w18 hz18 hc18;have h8:=C5.chg (B:=fun k=>k=X) h hc18 HNX.out;refine hK.out _ _ h8 ?_;clear hK K
    try simp only [Act.put]
    repeat ((first
     | refine sK ?_
     | refine sC6 ?_);try simp only [Act.put,sA,sZ,sS])
    refine sL fun K hK=>?_
    refine wp_store_one 44 _ _ rfl X 4 (.int .i64 r) rfl rfl _ _ hz18 (by simp) (by kernel_rfl) rfl ?_;intro w19 hz19 hc19;have h9:=C5.chg (B:=fun k=>k=X) h8 hc19 HNX.out;refine hK.out _ _ h9 ?_;clear hK K
    try simp only [Act.put]
    repeat ((first
     | refine sK ?_
     | refine sC6 ?_);try simp only [Act.put,sA,sZ,sS])
    refine sL fun K hK=>?_
    refine zq 32 _ _ rfl X 10 [_,_,_,_,_] rfl rfl _ _ hz19 (by simp) (by kernel_rfl) rfl ?_;intro w20 hz20' hc20;have h10:=C5.chg (B:=fun k=>k=X) h9 hc20 HNX.out;refine hK.out _ _ h10 ?_;clear hK K
    try simp only [Act.put]
    refine zn ?_;have hz20:w20.heap[X]? = some (.cells #[.string i.addr,.string ⟨#[]⟩,.string i.tname,.int .i64 3,.int .i64 r,.int .i64 kb,.int .i64 nb,.string sb,.slice oib mib cib,.slice okb mkb ckb,.int .i64 kf,.int .i64 nf,.string sf,.slice oif mif cif,.slice okf mkf ckf,.string i.prior.id,.slice oR (replacedS i.sc i.prior.attrs (proposeS i.sc i.prior.attrs (effD i))).length cR,.bool false,.bool i.protect,.bool false,.slice oD2 i.deps.length cD2,.slice oO i.prior.deps.length cO] 46):=hz20';have hc:=(hc18.trans hc19).trans hc20;have hc':Chg (fun k=>k=X) w17 w20:=⟨hc.os,hc.tape,hc.output,hc.size,hc.block⟩;have A20:=hid (A17.out.trans hc');replace HVb:=hid (HVb.out.keep (ZK.chg hc' fun g hg e=>hg.2 e) fun g hg=>hg);replace HVD:=hid (HVD.out.keep (ZK.chg hc' fun g hg e=>hg.2 e) fun g hg=>hg);replace HVF:=hid (HVF.out.keep (ZK.chg hc' fun g hg e=>hg.2 e) fun g hg=>hg)
    replace HVE:=hid (HVE.out.keep (ZK.chg hc' fun g hg e=>hg e) fun g hg=>hg);replace HVO:=hid (HVO.out.keep (ZK.chg hc' fun g hg e=>hg.2 e) fun g hg=>hg);replace HVa:=hid (HVa.out.keep (ZK.chg hc' fun g hg e=>hg.2 e) fun g hg=>hg);replace HVR:=hid (HVR.out.keep (ZK.chg hc' fun g hg e=>hg.2 e) fun g hg=>hg);clear hc hc' hc18 hc19 hc20 hz17 hz18 hz19 hz20' h h8 h9 h10;have hxa:=keep_chg HXA7.out A20.out HNA.out;have x24:=(cII hxa 24).trans rfl
    go_upto_region 16 with (fail)
    go_upto_region 19 with (refine z1s rfl 4 _ _ rfl X 17 _ rfl rfl _ _ hz20 (by simp) (by kernel_rfl) rfl ?_;intro w21 hz21' hc)
    have hz21:w21.heap[X]? = some (.cells #[.string i.addr,.string ⟨#[]⟩,.string i.tname,.int .i64 3,.int .i64 r,.int .i64 kb,.int .i64 nb,.string sb,.slice oib mib cib,.slice okb mkb ckb,.int .i64 kf,.int .i64 nf,.string sf,.slice oif mif cif,.slice okf mkf ckf,.string i.prior.id,.slice oR (replacedS i.sc i.prior.attrs (proposeS i.sc i.prior.attrs (effD i))).length cR,.bool i.createFirst,.bool i.protect,.bool false,.slice oD2 i.deps.length cD2,.slice oO i.prior.deps.length cO] 46):=hz21';have A21:=hid (A20.out.trans hc);replace HVb:=hid (HVb.out.keep (ZK.chg hc fun g hg e=>hg.2 e) fun g hg=>hg);replace HVD:=hid (HVD.out.keep (ZK.chg hc fun g hg e=>hg.2 e) fun g hg=>hg);replace HVF:=hid (HVF.out.keep (ZK.chg hc fun g hg e=>hg.2 e) fun g hg=>hg);replace HVE:=hid (HVE.out.keep (ZK.chg hc fun g hg e=>hg e) fun g hg=>hg);replace HVO:=hid (HVO.out.keep (ZK.chg hc fun g hg e=>hg.2 e) fun g hg=>hg)
    replace HVa:=hid (HVa.out.keep (ZK.chg hc fun g hg e=>hg.2 e) fun g hg=>hg);replace HVR:=hid (HVR.out.keep (ZK.chg hc fun g hg e=>hg.2 e) fun g hg=>hg);clear hc hxa x24 hz20 hz21';have HZ21:=keep_chg HZ7.out A21.out HNB.out
    go_wp2_with (first | (refine wpList_load_row rfl 46 (.tmp 5) rfl X rfl _ _ (0,0) _ hz21 Tryz.underlying46 rfl (by kernel_rfl) ?_) | (refine zo rfl 46 _ _ rfl (w.heap.size + 1) 0 [_,_,_,_,_,_,_,_,_,_,_,_,_,_,_,_,_,_,_,_,_,_] rfl rfl _ _ HZ21 (by simp) (by kernel_rfl) rfl ?_;intro wf hzf hcf))
    try simp only [Exit.inBlock,Exit.then]
    refine bodyPost_ret (results_cell_row rfl _ wf (w.heap.size + 1) 46 _ (0,0) _ rfl hzf Tryz.underlying46 rfl (by kernel_rfl)) rfl ?_;rw [HCD.out]
    have hk:ZK (fun g=>w3.heap.size≤g∧g≠X) w21 wf:=ZK.chg hcf fun g hg e=>by have:=HN.out.1;omega
    exact ⟨_,rfl,⟨_,_,_,_,_,_,_,_,_,_,_,_,_,_,_,_,_,_,_,_,_,_,_,_,rfl,HVb.out.keep hk fun g hg=>by have:=HN.out.1;omega,HVF.out.keep hk fun g hg=>by have:=HN.out.1;omega,HVR.out.keep hk fun g hg=>by have:=HN.out.1;omega,HVD.out.keep hk fun g hg=>by have:=HN.out.1;omega,HVO.out.keep hk fun g hg=>by have:=HN.out.1;omega⟩,
     (HB7.out.trans (zgg A21.out (fun k hk=>by have:=HN.out.1;have:=HN.out.2.1;omega) HB7.out.size)).trans (zgg hcf (fun k hk=>by omega) (Nat.le_trans HB7.out.size A21.out.size))⟩
end Go.Proofs.YtibiiafcnaijeaaGreat
