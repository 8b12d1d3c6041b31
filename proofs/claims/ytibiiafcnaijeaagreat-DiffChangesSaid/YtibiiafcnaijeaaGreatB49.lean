/- A part. -/
import Derived.Test.YtibiiafcnaijeaaGreatB00
import Derived.Test.YtibiiafcnaijeaaGreatB48
namespace Go.Proofs.YtibiiafcnaijeaaGreat
open Go Go.RowKit Go.Proofs.YtibiiafcnaijeaaGreat.Steady
set_option linter.unusedVariables false
set_option linter.unusedSimpArgs false
set_option maxRecDepth 100000
set_option maxHeartbeats 40000000
structure CSR (w W:World) (x s c:Obj):Prop where
 b:Below w.heap.size w W
 c:W.heap[w.heap.size+3]? = some c
 x:W.heap[w.heap.size]? = some x
 s:W.heap[w.heap.size+2]? = some s
 z:W.heap[w.heap.size+1]? = some zero22
 w:w.heap.size+4≤W.heap.size
theorem CSR.sto {w W W':World}{x s c c':Obj}(h:CSR w W x s c) (hc:Chg (fun k=>k=w.heap.size+3) W W') (hz:W'.heap[w.heap.size+3]? = some c'):CSR w W' x s c' :=
 ⟨h.b.trans (zgg hc (fun k hk=>by omega) h.b.size),hz,(hc.block _ (aS h.x).1 (by omega)).trans h.x,(hc.block _ (aS h.s).1 (by omega)).trans h.s,(hc.block _ (aS h.z).1 (by omega)).trans h.z,Nat.le_trans h.w hc.size⟩
theorem CSR.call {w W W':World}{x s c:Obj}(h:CSR w W x s c) (hb:Below W.heap.size W W'):CSR w W' x s c :=
 ⟨h.b.trans (hb.mono h.b.size),kO h.c hb,kO h.x hb,kO h.s hb,kO h.z hb,Nat.le_trans h.w hb.size⟩
structure GE (n:Nat) (w0 wx:World) (Y:Nat) (k m s i ks:Value) (t:Vl):Prop where
 bel:Below w0.heap.size w0 wx
 lo:w0.heap.size≤Y
 obj:wx.heap[Y]? = some (.cells #[k,m,s,i,ks] 32)
 vv:VV (KB n) wx (.agg #[k,m,s,i,ks]) t
theorem GE.mk' {n:Nat}{w0 w6 w7:World}{Y:Nat}{Q:Nat→Prop}{k m s i ks:Value}{t:Vl}(hb:Below w0.heap.size w0 w6) (hlo:w0.heap.size≤Y) (hn:n+4≤w0.heap.size) (hv:VV Q w6 (.agg #[k,m,s,i,ks]) t) (hQ:∀ g,Q g→(g<n∨n+4≤g)∧g≠Y) (hc:Chg (fun k=>k=Y) w6 w7)
  (hz:w7.heap[Y]? = some (.cells #[k,m,s,i,ks] 32)):GE n w0 w7 Y k m s i ks t :=
 ⟨hb.trans (zgg hc (fun k hk=>by omega) hb.size),hlo,hz,(hv.keep (ZK.chg hc fun g hg e=>(hQ g hg).2 e) fun _ h=>h).kbo fun g hg=>(hQ g hg).1⟩
theorem rchange_any (i:Inp) (w:World) (x:Value) (hx:INV (fun _=>True) w x i) (hok:InOk i) (hty:TyOk i.sc) :
  Calls Tryz.prog 12 #[x] w fun e w'=>∃ u,e=.returned u∧CHV (fun _=>True) w' u (changeR i)∧Below w.heap.size w w':=by
 have HX0:=hid hx;obtain⟨oa,ca,on,cn,kp,np,sp,oip,mip,cip,okp,mkp,ckp,od,cd,kc,nc,sc,oic,mic,cic,okc,mkc,ckc,og,cg,ot,mt,ct,oD,cD,rfl,hSC,hVP,hSD,hVC,hSG,hSS⟩:=hx;have HSC:Hid (SCV (fun g=>True∧g<w.heap.size) w _ _ i.sc):=hid ⟨hSC.1.ex,hSC.2.ex⟩;have HVP:=hid hVP.ex;have HVC:=hid hVC.ex;have HSG:=hid hSG;have HSD:=hid (hSD.ex.kbo (n:=w.heap.size) fun g hg=>.inl hg.2);have HSS:=hid (hSS.ex.kbo (n:=w.heap.size) fun g hg=>.inl hg.2);have HOK:=hid hok;have HTY:=hid hty;generalize hA:w.alloc (.cells #[.string i.addr,.string i.tname,.slice oa i.sc.attrs.length ca,.slice on i.sc.nested.length cn,.int .i64 i.quota,.bool i.has,.string i.prior.addr,.string i.prior.deposed,.string i.prior.id,.string i.prior.type,.int .i64 kp,.int .i64 np,.string sp,.slice oip mip cip,.slice okp mkp ckp,.int .i64 i.prior.version,.bool i.prior.tainted,.bool i.prior.createFirst,.slice od i.prior.deps.length cd,.int .i64 kc,.int .i64 nc,.string sc,.slice oic mic cic,.slice okc mkc ckc,.bool i.createFirst,.bool i.protect,.slice og i.ignore.length cg,.slice ot mt ct,.bool i.triggered,.bool i.requested,.slice oD i.deps.length cD] 39)=wa
 have a1:Below w.heap.size w wa:=by rw[←hA];exact zaa
 have a2:wa.heap[w.heap.size]? = some (.cells #[.string i.addr,.string i.tname,.slice oa i.sc.attrs.length ca,.slice on i.sc.nested.length cn,.int .i64 i.quota,.bool i.has,.string i.prior.addr,.string i.prior.deposed,.string i.prior.id,.string i.prior.type,.int .i64 kp,.int .i64 np,.string sp,.slice oip mip cip,.slice okp mkp ckp,.int .i64 i.prior.version,.bool i.prior.tainted,.bool i.prior.createFirst,.slice od i.prior.deps.length cd,.int .i64 kc,.int .i64 nc,.string sc,.slice oic mic cic,.slice okc mkc ckc,.bool i.createFirst,.bool i.protect,.slice og i.ignore.length cg,.slice ot mt ct,.bool i.triggered,.bool i.requested,.slice oD i.deps.length cD] 39):=by rw[←hA];exact zhh w _
 have a3:wa.heap.size=w.heap.size+1:=by rw[←hA];simp
 generalize hB:wa.alloc zero22=wb
 have b1:Below wa.heap.size wa wb:=by rw[←hB];exact zaa
 have b2:wb.heap[w.heap.size+1]? = some zero22:=by rw[←hB,←a3];exact zhh wa _
 have b3:wb.heap.size=w.heap.size+2:=by rw[←hB];simp[a3]
 generalize hS:wb.alloc (.cells #[.slice oa i.sc.attrs.length ca,.slice on i.sc.nested.length cn] 25)=ws0
 have s1:Below wb.heap.size wb ws0:=by rw[←hS];exact zaa
 have s2:ws0.heap[w.heap.size+2]? = some (.cells #[.slice oa i.sc.attrs.length ca,.slice on i.sc.nested.length cn] 25):=by rw[←hS,←b3];exact zhh wb _
 have s3:ws0.heap.size=w.heap.size+3:=by rw[←hS];simp[b3]
 generalize hC:ws0.alloc zero22=w0
 have c1:Below ws0.heap.size ws0 w0:=by rw[←hC];exact zaa
 have c2:w0.heap[w.heap.size+3]? = some zero22:=by rw[←hC,←s3];exact zhh ws0 _
 have c3:w0.heap.size=w.heap.size+4:=by rw[←hC];simp[s3]
 have HA:=hid hA;have HBB:=hid hB;have HSS0:=hid hS;have HCC:=hid hC;have Hb3:=hid b3;have Hs3:=hid s3;have HXB:=hid (kO a2 b1);have HXS:=hid (kO (kO a2 b1) s1);have HB0:=hid (a1.trans ((b1.trans ((s1.trans (c1.mono s1.size)).mono b1.size)).mono a1.size));have HC0:=hid c2;have HX0':=hid (kO (kO (kO a2 b1) s1) c1);have HS0:=hid (kO s2 c1);have HZ0:=hid (kO (kO b2 s1) c1);have HW0:=hid (Nat.le_of_eq c3.symm);clear hA hB hS hC a1 a2 a3 b1 b2 b3 s1 s2 s3 c1 c2 c3 hSC hVP hSD hVC hSG hSS hok hty;have x2:=(cII HXB.out 2).trans rfl;have x3:=(cII HXB.out 3).trans rfl
 go_enter Tryz.func12,Tryz.ntmps12
 go_upto_region 1 with (fail)
 rw[HA.out,HBB.out]
 go_upto_region 2 with (fail)
 rw[HSS0.out,Hb3.out];clear x2 x3;have x0:=(cII HXS.out 0).trans rfl;have x1:=(cII HXS.out 1).trans rfl;have x25:=(cII HXS.out 25).trans rfl;have x30:=(cII HXS.out 30).trans rfl
 go_upto_region 3 with (rw[HCC.out,Hs3.out];refine zo rfl 46 _ _ rfl (w.heap.size+3) 0 [_,_,_,_,_,_,_,_,_,_,_,_,_,_,_,_,_,_,_,_,_,_] rfl rfl _ _ HC0.out (by simp) (by kernel_rfl) rfl ?_;intro w1 hz hc)
 clear x0 x1 x25 x30;have HX0q:=HX0';clear HX0';have A1:Hid (CSR w w1 _ _ (.cells #[.string i.addr,.string ⟨#[]⟩,.string i.tname,.int .i64 0,.int .i64 0,.int .i64 0,.int .i64 0,.string ⟨#[]⟩,.slice none 0 0,.slice none 0 0,.int .i64 0,.int .i64 0,.string ⟨#[]⟩,.slice none 0 0,.slice none 0 0,.string ⟨#[]⟩,.slice none 0 0,.bool false,.bool i.protect,.bool false,.slice oD i.deps.length cD,.slice none 0 0] 46)):=hid ⟨HB0.out.trans (zgg hc (fun k hk=>by omega) HB0.out.size),hz,(hc.block _ (aS HX0q.out).1 (by omega)).trans HX0q.out,(hc.block _ (aS HS0.out).1 (by omega)).trans HS0.out,(hc.block _ (aS HZ0.out).1 (by omega)).trans HZ0.out,Nat.le_trans HW0.out hc.size⟩;clear hz hc HC0 HX0q HS0 HZ0 HXB HXS;replace HSS:=hid (HSS.out.bel A1.out.b);replace HSD:=hid (HSD.out.bel A1.out.b);simp only[Act.put];generalize (Value.agg #[.string i.addr,.string i.tname,.slice oa i.sc.attrs.length ca,.slice on i.sc.nested.length cn,.int .i64 i.quota,.bool i.has,.string i.prior.addr,.string i.prior.deposed,.string i.prior.id,.string i.prior.type,.int .i64 kp,.int .i64 np,.string sp,.slice oip mip cip,.slice okp mkp ckp,.int .i64 i.prior.version,.bool i.prior.tainted,.bool i.prior.createFirst,.slice od i.prior.deps.length cd,.int .i64 kc,.int .i64 nc,.string sc,.slice oic mic cic,.slice okc mkc ckc,.bool i.createFirst,.bool i.protect,.slice og i.ignore.length cg,.slice ot mt ct,.bool i.triggered,.bool i.requested,.slice oD i.deps.length cD])=vx0
 obtain⟨x0,x1,x2,x3,x4,x5,x6,x7,x8,x9,x10,x11,x12,x13,x14,x15,x16,x17,x18,x19,x20,x21,x22,x23,x24,x25,x26,x27,x28,x29,x30⟩:=C31.of A1.out.x;clear x0 x1 x2 x3 x4 x6 x7 x8 x9 x10 x11 x12 x13 x14 x15 x16 x17 x18 x19 x20 x21 x22 x23 x24 x25 x26 x27 x28 x29 x30
 cases hh:i.has with
 | false =>
  rw[hh] at x5;have HCE:Hid (changeR i=⟨i.addr,⟨#[]⟩,i.tname,1,1,nullV,proposeR i.sc nullV i.cnfg,⟨#[]⟩,[],false,i.protect,false,i.deps,[]⟩):=hid (by unfold changeR;rw[if_pos hh]);clear hh
  go_upto_region 5 with (refine z1s rfl 43 _ _ rfl (w.heap.size+3) 3 _ rfl rfl _ _ A1.out.c (by simp) (by kernel_rfl) rfl ?_;intro w2 hz hc)
  have A2:Hid (CSR w w2 _ _ (.cells #[.string i.addr,.string ⟨#[]⟩,.string i.tname,.int .i64 1,.int .i64 0,.int .i64 0,.int .i64 0,.string ⟨#[]⟩,.slice none 0 0,.slice none 0 0,.int .i64 0,.int .i64 0,.string ⟨#[]⟩,.slice none 0 0,.slice none 0 0,.string ⟨#[]⟩,.slice none 0 0,.bool false,.bool i.protect,.bool false,.slice oD i.deps.length cD,.slice none 0 0] 46)):=hid (A1.out.sto hc hz);replace HSS:=hid (HSS.out.kb hc (.inl rfl));replace HSD:=hid (HSD.out.kb hc (.inl rfl));clear hz hc A1;clear x5
  go_upto_region 6 with (refine z1s rfl 44 _ _ rfl (w.heap.size+3) 4 _ rfl rfl _ _ A2.out.c (by simp) (by kernel_rfl) rfl ?_;intro w3 hz hc)
  have A3:Hid (CSR w w3 _ _ (.cells #[.string i.addr,.string ⟨#[]⟩,.string i.tname,.int .i64 1,.int .i64 1,.int .i64 0,.int .i64 0,.string ⟨#[]⟩,.slice none 0 0,.slice none 0 0,.int .i64 0,.int .i64 0,.string ⟨#[]⟩,.slice none 0 0,.slice none 0 0,.string ⟨#[]⟩,.slice none 0 0,.bool false,.bool i.protect,.bool false,.slice oD i.deps.length cD,.slice none 0 0] 46)):=hid (A2.out.sto hc hz);replace HSS:=hid (HSS.out.kb hc (.inl rfl));replace HSD:=hid (HSD.out.kb hc (.inl rfl));clear hz hc A2;obtain⟨x0,x1,x2,x3,x4,x5,x6,x7,x8,x9,x10,x11,x12,x13,x14,x15,x16,x17,x18,x19,x20,x21,x22,x23,x24,x25,x26,x27,x28,x29,x30⟩:=C31.of A3.out.x;clear x0 x1 x2 x3 x4 x5 x6 x7 x8 x9 x10 x11 x12 x13 x14 x15 x16 x17 x18 x24 x25 x26 x27 x28 x29 x30;have q0:=(cII A3.out.s 0).trans rfl;have q1:=(cII A3.out.s 1).trans rfl;have e0:=x19
  have e1:=x20;have e2:=x21;have e3:=x22;have e4:=x23;clear x19 x20 x21 x22 x23;have HVCK:=hid ((HVC.out.kbo (n:=w.heap.size) fun g hg=>.inl hg.2).bel A3.out.b)
  go_upto_region 6 with (fail)
  have HBD:=hid (show Below w.heap.size w w3.drew from zdd A3.out.b);have HND:=hid (show Below w3.heap.size w3 w3.drew from zdd (Below.refl _ _));have hc:CL [(w.heap.size+2,0,.slice oa i.sc.attrs.length ca),(w.heap.size+2,1,.slice on i.sc.nested.length cn),(w.heap.size,19,.int .i64 kc),(w.heap.size,20,.int .i64 nc),(w.heap.size,21,.string sc),(w.heap.size,22,.slice oic mic cic),(w.heap.size,23,.slice okc mkc ckc)] w3.drew:=CL.bel (show CL _ w3 from⟨q0,q1,e0,e1,e2,e3,e4,trivial⟩) (zdd (Below.refl _ _));have HLT:=hid (CL.lt (show CL [(w.heap.size+2,0,.slice oa i.sc.attrs.length ca),(w.heap.size+2,1,.slice on i.sc.nested.length cn),(w.heap.size,19,.int .i64 kc),(w.heap.size,20,.int .i64 nc),(w.heap.size,21,.string sc),(w.heap.size,22,.slice oic mic cic),(w.heap.size,23,.slice okc mkc ckc)] w3 from⟨q0,q1,e0,e1,e2,e3,e4,trivial⟩))
  clear q0 q1 e0 e1 e2 e3 e4;refine zss (CL _) (by kernel_rfl) (by kernel_rfl) (hc) ?_;refine cR0 ?_;refine qqL rfl (by rfl) (fun K hK=>?_)
  go_simp
  refine(null_any _).mono ?_;rintro e wA ⟨rfl,hbA⟩;have HBA:=hT HBD hbA;have HNA:=hT HND hbA;refine hK.out _ _ (CL.bel hc hbA) ?_;replace hc:=CL.bel hc hbA;clear hK K
  try simp only[pT]
  clear hbA;have HPR:=hid (rpropose_any i.sc nullV i.cnfg _ (fun g=>KB w.heap.size g∧g<wA.heap.size) wA _ _ _ _ (HSC.out.bel HBA.out) (VV.flat _ _ 0 0 ⟨#[]⟩ (by decide)) (HVCK.out.bel HNA.out).ex (fun g hg=>hg.2) HTY.out);refine cR0 ?_;refine qqL rfl (by rfl) (fun K hK=>?_)
  go_simp
  refine HPR.out.mono ?_;rintro e wB ⟨u,rfl,hu,hbB⟩;obtain⟨k7,n7,s7,oi7,mi7,ci7,ok7,mk7,ck7,rfl⟩:=hu.agg5;have HNB:=hT HNA hbB;have HVA:=hid (hu.keep (Q:=KB w.heap.size) (ZK.refl _ _) fun g hg=>hg.elim (fun h=>h.1) fun h=>⟨by have:=HNA.out.size;have:=A3.out.w;omega,by have:=HNA.out.size;have:=A3.out.w;omega⟩);refine hK.out _ _ (CL.bel hc hbB) ?_;replace hc:=CL.bel hc hbB;clear hK K
  try simp only[pT]
  have hoC:=kO A3.out.c HNB.out;clear hbB hu HPR;refine cR0 ?_;refine qqL rfl (by rfl) (fun K hK=>?_);refine zq 32 _ _ rfl (w.heap.size+3) 10 [_,_,_,_,_] rfl rfl _ _ hoC (by simp) (by kernel_rfl) rfl ?_;intro w5 hz hc8;refine hK.out _ _ (CL.chg hc hc8 (fun q hq e=>by simp only[List.mem_cons,List.not_mem_nil,or_false] at hq;rcases hq with rfl|rfl|rfl|rfl|rfl|rfl|rfl <;> simp only at e <;> omega)) ?_;clear hK K hc
  try simp only[pT]
  refine cR0 ?_;refine zn ?_;obtain⟨w4,rfl⟩:∃ v,v=wB:=⟨_,rfl⟩;have hbN:=HNB.out;clear hoC HLT HBD HND HNA HBA HNB;have A4:=hid (A3.out.call hbN);replace HSS:=hid (HSS.out.bel hbN);replace HSD:=hid (HSD.out.bel hbN);clear A3;clear hbN;have hc:=hc8;clear hc8;have A5:Hid (CSR w w5 _ _ (.cells #[.string i.addr,.string ⟨#[]⟩,.string i.tname,.int .i64 1,.int .i64 1,.int .i64 0,.int .i64 0,.string ⟨#[]⟩,.slice none 0 0,.slice none 0 0,.int .i64 k7,.int .i64 n7,.string s7,.slice oi7 mi7 ci7,.slice ok7 mk7 ck7,.string ⟨#[]⟩,.slice none 0 0,.bool false,.bool i.protect,.bool false,.slice oD i.deps.length cD,.slice none 0 0] 46)):=hid (A4.out.sto hc hz);replace HSS:=hid (HSS.out.kb hc (.inl rfl));replace HSD:=hid (HSD.out.kb hc (.inl rfl));replace HVA:=hid (HVA.out.kb hc (.inl rfl));clear hz hc A4
  go_wp2_with (first|(refine wpList_load_row rfl 46 (.tmp 4) rfl (w.heap.size+3) rfl _ _ (0,0) _ A5.out.c Tryz.underlying46 rfl (by kernel_rfl) ?_)|(refine zo rfl 46 _ _ rfl (w.heap.size+1) 0 [_,_,_,_,_,_,_,_,_,_,_,_,_,_,_,_,_,_,_,_,_,_] rfl rfl _ _ A5.out.z (by simp) (by kernel_rfl) rfl ?_;intro ws hzs hcs))
  try simp only[Exit.inBlock,Exit.then]
  refine bodyPost_ret (results_cell_row rfl _ ws (w.heap.size+1) 46 _ (0,0) _ rfl hzs Tryz.underlying46 rfl (by kernel_rfl)) rfl ?_;have HBF:=hid (A5.out.b.trans (zgg hcs (fun k hk=>by omega) A5.out.b.size));replace HVA:=hid (HVA.out.kb hcs (.inr rfl));replace HSS:=hid (HSS.out.kb hcs (.inr rfl));exact⟨_,rfl,by rw[HCE.out];exact⟨_,_,_,_,_,_,_,_,_,_,_,_,_,_,_,_,_,_,_,_,_,_,_,_,rfl,VV.flat _ _ 0 0 ⟨#[]⟩ (by decide),HVA.out.keep (ZK.refl _ _) fun _ _=>trivial,⟨⟨by simp,.inl ⟨rfl,_,_,rfl⟩⟩,fun s h=>by cases h⟩,HSS.out.keep (ZK.refl _ _) fun _ _=>trivial,⟨⟨by simp,.inl ⟨rfl,_,_,rfl⟩⟩,fun s h=>by cases h⟩⟩,HBF.out⟩
 | true =>
  rw[hh] at x5;obtain⟨cfg,hcfg⟩:∃ c,ignoreR i.prior.attrs i.cnfg (ignN i.sc i.ignore)=c:=⟨_,rfl⟩;obtain⟨aft,haft⟩:∃ c,proposeR i.sc i.prior.attrs cfg=c:=⟨_,rfl⟩;obtain⟨rep,hrep⟩:∃ c,replacedR i.sc i.prior.attrs aft=c:=⟨_,rfl⟩
  have HCE:Hid (changeR i=if reasonD i rep≠0 then ⟨i.addr,⟨#[]⟩,i.tname,3,reasonD i rep,i.prior.attrs,proposeR i.sc nullV cfg,i.prior.id,rep,i.createFirst,i.protect,false,i.deps,i.prior.deps⟩ else if changedR i.sc i.prior.attrs aft = [] then ⟨i.addr,⟨#[]⟩,i.tname,0,0,i.prior.attrs,aft,i.prior.id,rep,false,i.protect,false,i.deps,i.prior.deps⟩ else ⟨i.addr,⟨#[]⟩,i.tname,2,2,i.prior.attrs,aft,i.prior.id,rep,false,i.protect,false,i.deps,i.prior.deps⟩):=hid (by
   unfold changeR;rw[if_neg (by rw[hh];decide)]
   simp only[hcfg,haft,hrep])
  have HCFG:=hid hcfg;have HAFT:=hid haft;have HREP:=hid hrep
  have HLG:=hid (show(ignN i.sc i.ignore).length≤20 by
   have h1:(ignN i.sc i.ignore).length≤i.ignore.length:=List.length_filter_le _ _;have h2:=HOK.out.2.2.2.2.2.2.2.1
   omega)
  clear hh hcfg haft hrep;obtain⟨x0,x1,x2,x3,x4,x5,x6,x7,x8,x9,x10,x11,x12,x13,x14,x15,x16,x17,x18,x19,x20,x21,x22,x23,x24,x25,x26,x27,x28,x29,x30⟩:=C31.of A1.out.x;clear x0 x1 x2 x3 x4 x5 x6 x7 x8 x9 x15 x16 x17 x18 x24 x25 x27 x28 x29 x30;have q0:=(cII A1.out.s 0).trans rfl;have q1:=(cII A1.out.s 1).trans rfl;have hcl0:CL [(w.heap.size,10,.int .i64 kp),(w.heap.size,11,.int .i64 np),(w.heap.size,12,.string sp),(w.heap.size,13,.slice oip mip cip),(w.heap.size,14,.slice okp mkp ckp),(w.heap.size,19,.int .i64 kc),(w.heap.size,20,.int .i64 nc),(w.heap.size,21,.string sc),(w.heap.size,22,.slice oic mic cic),(w.heap.size,23,.slice okc mkc ckc),(w.heap.size,26,.slice og i.ignore.length cg),(w.heap.size+2,0,.slice oa i.sc.attrs.length ca),(w.heap.size+2,1,.slice on i.sc.nested.length cn)] w1:=⟨x10,x11,x12,x13,x14,x19,x20,x21,x22,x23,x26,q0,q1,trivial⟩
  have HLT:=hid (CL.lt hcl0);have hc:=CB.start hcl0;clear hcl0 x10 x11 x12 x13 x14 x19 x20 x21 x22 x23 x26 q0 q1
  have HIG:Hid (∀ W,Below w1.heap.size w1 W→Calls Tryz.prog 45 #[.agg #[.slice oa i.sc.attrs.length ca,.slice on i.sc.nested.length cn],.slice og i.ignore.length cg] W (FreshS (ignN i.sc i.ignore) W)):=hid fun W hb=>rignored_any i.sc i.ignore _ _ W _ _ _ (HSC.out.bel (A1.out.b.trans (hb.mono A1.out.b.size))) (HSG.out.bel (A1.out.b.trans (hb.mono A1.out.b.size))) (by have:=HOK.out.2.2.2.2.2.2.2.1;omega)
  have HIC:Hid (∀ (W:World) (S:Nat→Prop) (u:Value),Below w1.heap.size w1 W→SV S W u (ignN i.sc i.ignore)→Calls Tryz.prog 44 #[.agg #[.int .i64 kp,.int .i64 np,.string sp,.slice oip mip cip,.slice okp mkp ckp],.agg #[.int .i64 kc,.int .i64 nc,.string sc,.slice oic mic cic,.slice okc mkc ckc],u] W (fun e w'=>∃ u,e=.returned u∧VV (fun g=>g<w.heap.size∨W.heap.size≤g) w' u cfg∧Below W.heap.size W w')):=hid fun W S u hb hl=>by
   have hbw:=A1.out.b.trans (hb.mono A1.out.b.size);have h:=rignore_any i.prior.attrs i.cnfg (ignN i.sc i.ignore) (fun g=>g<w.heap.size) S W _ _ _ ((HVP.out.mono fun g hg=>hg.2).bel hbw) ((HVC.out.mono fun g hg=>hg.2).bel hbw) hl (fun g hg=>Nat.lt_of_lt_of_le hg hbw.size) (by have:=HOK.out.2.2.2.1;omega) (by have:=HOK.out.2.2.2.2.1;omega) (by have:=HOK.out.2.2.2.2.2.1;omega) (by have:=HOK.out.2.2.2.2.2.2.1;omega) (by have:=HLG.out;omega);rw[HCFG.out] at h;exact h
  go_upto_region 8 with (fail)
  obtain⟨wp,rfl⟩:∃ v,v=w1:=⟨_,rfl⟩
  go_cut [5] (fun pv wx=>∃ (Y:Nat) (k6 n6:Int) (s6:ByteArray) (oi6:Option Addr) (mi6 ci6:Nat) (ok6:Option Addr) (mk6 ck6:Nat),pv=.pointer (some ⟨Y,0,none⟩)∧Hid (GE w.heap.size wp wx Y (.int .i64 k6) (.int .i64 n6) (.string s6) (.slice oi6 mi6 ci6) (.slice ok6 mk6 ck6) cfg))
  case first =>
   have e9:(wp.drew.alloc zero5).heap.size=wp.heap.size+1:=(by simp:(wp.alloc zero5).heap.size=wp.heap.size+1);have HE9:=hid e9;clear e9;refine wp_region_pk (.node 11 9 (.leaf [0,1,2,3,4,5,6,7,8,11,9,10,12]) (.node 11 10 (.leaf [0,1,2,3,4,5,6,7,8,9,11,10,12]) (.leaf [0,1,2,3,4,5,6,7,8,9,10,11,12]))) (CB _ wp) (by kernel_rfl) (by kernel_rfl) hc ?_
   with_reducible repeat' (first|refine OT.Ok.node ?_ ?_|refine OT.Ok.leaf ?_)
   ·repeat (first
     | (refine Pk.skip (by rfl) (by rfl) ?_;try simp only[pT])
     | (refine Pk.calm (v:=?_) (by rfl) (by rfl) (by rfl) ?_ ?_;rotate_left;(focus intro v hSv;(try simp only[CB,CL] at hSv);go_simp;(try rw[if_neg (by omega)]);(try with_reducible rfl);done);try simp only[pT]))
    refine Pk.loud (by rfl) (by rfl) (by rfl) (fun K hK=>?_)
    go_simp
    have hoa:=zhh wp.drew zero5;refine hK.out _ _ ((hc.later zaa)) ?_;clear hK K
    try simp only[pT]
    replace hc:=hc.later (zaa (o:=zero5));refine pR0 ?_;refine Pk.loud (by rfl) (by rfl) (by rfl) (fun K hK=>?_)
    go_simp
    refine(HIG.out _ hc.1).mono ?_;rintro e w5 ⟨ul,rfl,hl,hb5⟩;obtain⟨ol,cl,rfl⟩:=hl.len;have hs5:=hb5.size;replace hoa:=kO hoa hb5;refine hK.out _ _ ((hc.later hb5)) ?_;clear hK K
    try simp only[pT]
    replace hc:=hc.later hb5;refine pR0 ?_;refine Pk.loud (by rfl) (by rfl) (by rfl) (fun K hK=>?_)
    go_simp
    refine(HIC.out _ _ _ hc.1 hl).mono ?_;rintro e w6 ⟨u,rfl,hu,hb6⟩;obtain⟨k6,n6,s6,oi6,mi6,ci6,ok6,mk6,ck6,rfl⟩:=hu.agg5;replace hoa:=kO hoa hb6;refine hK.out _ _ ((hc.later hb6)) ?_;clear hK K
    try simp only[pT]
    replace hc:=hc.later hb6;refine pR0 ?_;refine Pk.loud (by rfl) (by rfl) (by rfl) (fun K hK=>?_);refine zq 32 _ _ rfl _ 0 [_,_,_,_,_] rfl rfl _ _ hoa (by simp) (by kernel_rfl) rfl ?_;intro w7 hz7 hc7;refine hK.out _ _ ((hc.chg hc7 (nR _) HLT.out)) ?_;clear hK K
    try simp only[pT]
    refine pR0 ?_;refine Pk.nil ?_
    go_wp2_with fail
    go_meet;exact⟨_,_,_,_,_,_,_,_,_,_,rfl,hid (GE.mk' hc.1 (nR _) A1.out.w hu (fun g hg=>by have h1:=HE9.out;have h2:=A1.out.w;have h3:wp.heap.size+1≤w5.heap.size:=(by rw[←h1];exact hs5);have h4:wp.drew.heap.size=wp.heap.size:=rfl;rcases hg with h|h <;> omega) hc7 hz7)⟩
   ·repeat (first
     | (refine Pk.skip (by rfl) (by rfl) ?_;try simp only[pT])
     | (refine Pk.calm (v:=?_) (by rfl) (by rfl) (by rfl) ?_ ?_;rotate_left;(focus intro v hSv;(try simp only[CB,CL] at hSv);go_simp;(try rw[if_neg (by omega)]);(try with_reducible rfl);done);try simp only[pT]))
    refine Pk.loud (by rfl) (by rfl) (by rfl) (fun K hK=>?_)
    go_simp
    refine(HIG.out _ hc.1).mono ?_;rintro e w5 ⟨ul,rfl,hl,hb5⟩;obtain⟨ol,cl,rfl⟩:=hl.len;have hs5:=hc.1.size;have hs55:=hb5.size;refine hK.out _ _ ((hc.later hb5)) ?_;clear hK K
    try simp only[pT]
    replace hc:=hc.later hb5;refine pR0 ?_;refine Pk.loud (by rfl) (by rfl) (by rfl) (fun K hK=>?_)
    go_simp
    have hoa:=zhh w5 zero5
    have e8:(w5.alloc zero5).heap.size=w5.heap.size+1:=by simp
    replace hl:=hl.bel (zaa (o:=zero5));refine hK.out _ _ ((hc.later zaa)) ?_;clear hK K
    try simp only[pT]
    replace hc:=hc.later (zaa (o:=zero5));have HE8:=hid e8;clear e8;refine pR0 ?_;refine Pk.loud (by rfl) (by rfl) (by rfl) (fun K hK=>?_)
    go_simp
    refine(HIC.out _ _ _ hc.1 hl).mono ?_;rintro e w6 ⟨u,rfl,hu,hb6⟩;obtain⟨k6,n6,s6,oi6,mi6,ci6,ok6,mk6,ck6,rfl⟩:=hu.agg5;replace hoa:=kO hoa hb6;refine hK.out _ _ ((hc.later hb6)) ?_;clear hK K
    try simp only[pT]
    replace hc:=hc.later hb6;refine pR0 ?_;refine Pk.loud (by rfl) (by rfl) (by rfl) (fun K hK=>?_);refine zq 32 _ _ rfl _ 0 [_,_,_,_,_] rfl rfl _ _ hoa (by simp) (by kernel_rfl) rfl ?_;intro w7 hz7 hc7;refine hK.out _ _ ((hc.chg hc7 (Nat.le_trans hs5 hs55) HLT.out)) ?_;clear hK K
    try simp only[pT]
    refine pR0 ?_;refine Pk.nil ?_
    go_wp2_with fail
    go_meet;exact⟨_,_,_,_,_,_,_,_,_,_,rfl,hid (GE.mk' hc.1 (Nat.le_trans hs5 hs55) A1.out.w hu (fun g hg=>by have h1:=HE8.out;have h2:=A1.out.w;have h3:wp.heap.size≤w5.heap.size:=Nat.le_trans hs5 hs55;rw[h1] at hg;rcases hg with h|h <;> omega) hc7 hz7)⟩
   ·repeat (first
     | (refine Pk.skip (by rfl) (by rfl) ?_;try simp only[pT])
     | (refine Pk.calm (v:=?_) (by rfl) (by rfl) (by rfl) ?_ ?_;rotate_left;(focus intro v hSv;(try simp only[CB,CL] at hSv);go_simp;(try rw[if_neg (by omega)]);(try with_reducible rfl);done);try simp only[pT]))
    refine Pk.loud (by rfl) (by rfl) (by rfl) (fun K hK=>?_)
    go_simp
    refine(HIG.out _ hc.1).mono ?_;rintro e w5 ⟨ul,rfl,hl,hb5⟩;obtain⟨ol,cl,rfl⟩:=hl.len;have hs5:=Nat.le_trans hc.1.size hb5.size;refine hK.out _ _ ((hc.later hb5)) ?_;clear hK K
    try simp only[pT]
    replace hc:=hc.later hb5;refine pR0 ?_;refine Pk.loud (by rfl) (by rfl) (by rfl) (fun K hK=>?_)
    go_simp
    refine(HIC.out _ _ _ hc.1 hl).mono ?_;rintro e w6 ⟨u,rfl,hu,hb6⟩;obtain⟨k6,n6,s6,oi6,mi6,ci6,ok6,mk6,ck6,rfl⟩:=hu.agg5;have hs6:=hb6.size;refine hK.out _ _ ((hc.later hb6)) ?_;clear hK K
    try simp only[pT]
    replace hc:=hc.later hb6;refine pR0 ?_;refine Pk.loud (by rfl) (by rfl) (by rfl) (fun K hK=>?_)
    go_simp
    have hoa:=zhh w6 zero5;have hux:=hu.ex.bel (zaa (o:=zero5));refine hK.out _ _ ((hc.later zaa)) ?_;clear hK K
    try simp only[pT]
    replace hc:=hc.later (zaa (o:=zero5));refine pR0 ?_;refine Pk.loud (by rfl) (by rfl) (by rfl) (fun K hK=>?_);refine zq 32 _ _ rfl _ 0 [_,_,_,_,_] rfl rfl _ _ hoa (by simp) (by kernel_rfl) rfl ?_;intro w7 hz7 hc7;refine hK.out _ _ ((hc.chg hc7 (Nat.le_trans hs5 hs6) HLT.out)) ?_;clear hK K
    try simp only[pT]
    refine pR0 ?_;refine Pk.nil ?_
    go_wp2_with fail
    go_meet;exact⟨_,_,_,_,_,_,_,_,_,_,rfl,hid (GE.mk' hc.1 (Nat.le_trans hs5 hs6) A1.out.w hux (fun g hg=>by have h2:=A1.out.w;have h3:wp.heap.size≤w5.heap.size:=hs5;have h4:=hg.2;rcases hg.1 with h|h <;> omega) hc7 hz7)⟩
  case rest =>
  obtain⟨Y,k6,n6,s6,oi6,mi6,ci6,ok6,mk6,ck6,rfl,G⟩:=hcut;obtain⟨w2,rfl⟩:∃ v,v=wc:=⟨_,rfl⟩;have HYO:=hid G.out.obj;have HV6:=hid G.out.vv;have hbN:=G.out.bel;have HYL:=hid (Nat.le_trans A1.out.w G.out.lo);clear hc HIG HIC HLT G x5;have HVB:=hid ((HVP.out.kbo (n:=w.heap.size) fun g hg=>.inl hg.2).bel A1.out.b);obtain⟨w1,rfl⟩:∃ v,v=wp:=⟨_,rfl⟩;have A2:=hid (A1.out.call hbN);replace HSS:=hid (HSS.out.bel hbN);replace HSD:=hid (HSD.out.bel hbN);replace HVB:=hid (HVB.out.bel hbN);clear A1;clear hbN;obtain⟨x0,x1,x2,x3,x4,x5,x6,x7,x8,x9,x10,x11,x12,x13,x14,x15,x16,x17,x18,x19,x20,x21,x22,x23,x24,x25,x26,x27,x28,x29,x30⟩:=C31.of A2.out.x;clear x0 x1 x2 x3 x4 x5 x6 x7 x8 x9 x15 x16 x17 x18 x19 x20 x21 x22 x23 x24 x25 x26 x27 x28 x29 x30
  go_upto_region 10 with (refine zo rfl 32 _ _ rfl (w.heap.size+3) 5 [_,_,_,_,_] rfl rfl _ _ A2.out.c (by simp) (by kernel_rfl) rfl ?_;intro w3 hz hc)
  replace HYO:=hid ((hc.block _ (aS HYO.out).1 (by have:=HYL.out;omega)).trans HYO.out);have A3:Hid (CSR w w3 _ _ (.cells #[.string i.addr,.string ⟨#[]⟩,.string i.tname,.int .i64 0,.int .i64 0,.int .i64 kp,.int .i64 np,.string sp,.slice oip mip cip,.slice okp mkp ckp,.int .i64 0,.int .i64 0,.string ⟨#[]⟩,.slice none 0 0,.slice none 0 0,.string ⟨#[]⟩,.slice none 0 0,.bool false,.bool i.protect,.bool false,.slice oD i.deps.length cD,.slice none 0 0] 46)):=hid (A2.out.sto hc hz);replace HSS:=hid (HSS.out.kb hc (.inl rfl));replace HSD:=hid (HSD.out.kb hc (.inl rfl));replace HVB:=hid (HVB.out.kb hc (.inl rfl));replace HV6:=hid (HV6.out.kb hc (.inl rfl));clear hz hc A2;clear x10 x11 x12 x13 x14;obtain⟨x0,x1,x2,x3,x4,x5,x6,x7,x8,x9,x10,x11,x12,x13,x14,x15,x16,x17,x18,x19,x20,x21,x22,x23,x24,x25,x26,x27,x28,x29,x30⟩:=C31.of A3.out.x
  clear x0 x1 x2 x3 x4 x5 x6 x7 x9 x10 x11 x12 x13 x14 x15 x16 x17 x18 x19 x20 x21 x22 x23 x24 x25 x26 x27 x28 x29 x30
  go_upto_region 11 with (refine z1s rfl 9 _ _ rfl (w.heap.size+3) 15 _ rfl rfl _ _ A3.out.c (by simp) (by kernel_rfl) rfl ?_;intro w4 hz hc)
  replace HYO:=hid ((hc.block _ (aS HYO.out).1 (by have:=HYL.out;omega)).trans HYO.out);have A4:Hid (CSR w w4 _ _ (.cells #[.string i.addr,.string ⟨#[]⟩,.string i.tname,.int .i64 0,.int .i64 0,.int .i64 kp,.int .i64 np,.string sp,.slice oip mip cip,.slice okp mkp ckp,.int .i64 0,.int .i64 0,.string ⟨#[]⟩,.slice none 0 0,.slice none 0 0,.string i.prior.id,.slice none 0 0,.bool false,.bool i.protect,.bool false,.slice oD i.deps.length cD,.slice none 0 0] 46)):=hid (A3.out.sto hc hz);replace HSS:=hid (HSS.out.kb hc (.inl rfl));replace HSD:=hid (HSD.out.kb hc (.inl rfl));replace HVB:=hid (HVB.out.kb hc (.inl rfl));replace HV6:=hid (HV6.out.kb hc (.inl rfl));clear hz hc A3;clear x8;obtain⟨x0,x1,x2,x3,x4,x5,x6,x7,x8,x9,x10,x11,x12,x13,x14,x15,x16,x17,x18,x19,x20,x21,x22,x23,x24,x25,x26,x27,x28,x29,x30⟩:=C31.of A4.out.x
  clear x0 x1 x2 x3 x4 x5 x6 x7 x8 x9 x10 x11 x12 x13 x14 x15 x16 x17 x19 x20 x21 x22 x23 x24 x25 x26 x27 x28 x29 x30
  go_upto_region 12 with (refine z1s rfl 30 _ _ rfl (w.heap.size+3) 21 _ rfl rfl _ _ A4.out.c (by simp) (by kernel_rfl) rfl ?_;intro w5 hz hc)
  replace HYO:=hid ((hc.block _ (aS HYO.out).1 (by have:=HYL.out;omega)).trans HYO.out);have A5:Hid (CSR w w5 _ _ (.cells #[.string i.addr,.string ⟨#[]⟩,.string i.tname,.int .i64 0,.int .i64 0,.int .i64 kp,.int .i64 np,.string sp,.slice oip mip cip,.slice okp mkp ckp,.int .i64 0,.int .i64 0,.string ⟨#[]⟩,.slice none 0 0,.slice none 0 0,.string i.prior.id,.slice none 0 0,.bool false,.bool i.protect,.bool false,.slice oD i.deps.length cD,.slice od i.prior.deps.length cd] 46)):=hid (A4.out.sto hc hz);replace HSS:=hid (HSS.out.kb hc (.inl rfl));replace HSD:=hid (HSD.out.kb hc (.inl rfl));replace HVB:=hid (HVB.out.kb hc (.inl rfl));replace HV6:=hid (HV6.out.kb hc (.inl rfl));clear hz hc A4;clear x18;obtain⟨x0,x1,x2,x3,x4,x5,x6,x7,x8,x9,x10,x11,x12,x13,x14,x15,x16,x17,x18,x19,x20,x21,x22,x23,x24,x25,x26,x27,x28,x29,x30⟩:=C31.of A5.out.x
  clear x0 x1 x2 x3 x4 x5 x6 x7 x8 x9 x15 x16 x17 x18 x19 x20 x21 x22 x23 x24 x25 x26 x27 x28 x29 x30;have q0:=(cII A5.out.s 0).trans rfl;have q1:=(cII A5.out.s 1).trans rfl;obtain⟨e0,e1,e2,e3,e4⟩:=C5.of HYO.out;have HPR:=hid (rpropose_any i.sc i.prior.attrs cfg _ (fun g=>KB w.heap.size g∧g<w5.heap.size) w5 _ _ _ _ (HSC.out.bel A5.out.b) HVB.out.ex HV6.out.ex (fun g hg=>hg.2) HTY.out)
  go_wp2_with fail
  refine HPR.out.mono ?_;rintro e w6 ⟨u,rfl,hu,hb6⟩;obtain⟨k8,n8,s8,oi8,mi8,ci8,ok8,mk8,ck8,rfl⟩:=hu.agg5;rw[HAFT.out] at hu;have HVA:=hid (hu.keep (Q:=KB w.heap.size) (ZK.refl _ _) fun g hg=>hg.elim (fun h=>h.1) fun h=>⟨by have:=A5.out.w;omega,by have:=A5.out.w;omega⟩);clear hu HPR x10 x11 x12 x13 x14 q0 q1 e0 e1 e2 e3 e4;replace HYO:=kH HYO hb6;have A6:=hid (A5.out.call hb6);replace HSS:=hid (HSS.out.bel hb6);replace HSD:=hid (HSD.out.bel hb6);replace HVB:=hid (HVB.out.bel hb6);replace HV6:=hid (HV6.out.bel hb6);clear A5;clear hb6
  go_upto_region 13 with (refine zo rfl 32 _ _ rfl (w.heap.size+3) 10 [_,_,_,_,_] rfl rfl _ _ A6.out.c (by simp) (by kernel_rfl) rfl ?_;intro w7 hz hc)
  replace HYO:=hid ((hc.block _ (aS HYO.out).1 (by have:=HYL.out;omega)).trans HYO.out);have A7:Hid (CSR w w7 _ _ (.cells #[.string i.addr,.string ⟨#[]⟩,.string i.tname,.int .i64 0,.int .i64 0,.int .i64 kp,.int .i64 np,.string sp,.slice oip mip cip,.slice okp mkp ckp,.int .i64 k8,.int .i64 n8,.string s8,.slice oi8 mi8 ci8,.slice ok8 mk8 ck8,.string i.prior.id,.slice none 0 0,.bool false,.bool i.protect,.bool false,.slice oD i.deps.length cD,.slice od i.prior.deps.length cd] 46)):=hid (A6.out.sto hc hz);replace HSS:=hid (HSS.out.kb hc (.inl rfl));replace HSD:=hid (HSD.out.kb hc (.inl rfl));replace HVB:=hid (HVB.out.kb hc (.inl rfl));replace HV6:=hid (HV6.out.kb hc (.inl rfl));replace HVA:=hid (HVA.out.kb hc (.inl rfl));clear hz hc A6;obtain⟨x0,x1,x2,x3,x4,x5,x6,x7,x8,x9,x10,x11,x12,x13,x14,x15,x16,x17,x18,x19,x20,x21,x22,x23,x24,x25,x26,x27,x28,x29,x30⟩:=C31.of A7.out.x
  clear x0 x1 x2 x3 x4 x5 x6 x7 x8 x9 x15 x16 x17 x18 x19 x20 x21 x22 x23 x24 x25 x26 x27 x28 x29 x30;obtain⟨z0,z1,z2,z3,z4,z5,z6,z7,z8,z9,za,zb,zc,zd,ze,zf,zg,zh,zi,zj,zk,zl⟩:=C22.of A7.out.c;clear z0 z1 z2 z3 z4 z5 z6 z7 z8 z9 zf zg zh zi zj zk zl;have q0:=(cII A7.out.s 0).trans rfl;have q1:=(cII A7.out.s 1).trans rfl;have HRR:=hid (rreplaced_any i.sc i.prior.attrs aft _ _ _ w7 _ _ _ _ (HSC.out.bel A7.out.b) HVB.out.ex HVA.out.ex (fun g hg=>hg.2) (fun g hg=>hg.2) HTY.out)
  go_wp2_with fail
  refine HRR.out.mono ?_;rintro e w8 ⟨u,rfl,hu,hb8⟩;rw[HREP.out] at hu;obtain⟨oR,cR,rfl⟩:=hu.len;have HRP:=hid (hu.kbo (n:=w.heap.size) fun g hg=>.inr (by have:=A7.out.w;omega));have HRL:=hid hu.le;clear hu HRR x10 x11 x12 x13 x14 za zb zc zd ze q0 q1;replace HYO:=kH HYO hb8;have A8:=hid (A7.out.call hb8);replace HSS:=hid (HSS.out.bel hb8);replace HSD:=hid (HSD.out.bel hb8);replace HVB:=hid (HVB.out.bel hb8);replace HV6:=hid (HV6.out.bel hb8);replace HVA:=hid (HVA.out.bel hb8);clear A7;clear hb8
  go_upto_region 14 with (refine z1s rfl 30 _ _ rfl (w.heap.size+3) 16 _ rfl rfl _ _ A8.out.c (by simp) (by kernel_rfl) rfl ?_;intro w9 hz hc)
  replace HYO:=hid ((hc.block _ (aS HYO.out).1 (by have:=HYL.out;omega)).trans HYO.out);have A9:Hid (CSR w w9 _ _ (.cells #[.string i.addr,.string ⟨#[]⟩,.string i.tname,.int .i64 0,.int .i64 0,.int .i64 kp,.int .i64 np,.string sp,.slice oip mip cip,.slice okp mkp ckp,.int .i64 k8,.int .i64 n8,.string s8,.slice oi8 mi8 ci8,.slice ok8 mk8 ck8,.string i.prior.id,.slice oR rep.length cR,.bool false,.bool i.protect,.bool false,.slice oD i.deps.length cD,.slice od i.prior.deps.length cd] 46)):=hid (A8.out.sto hc hz);replace HSS:=hid (HSS.out.kb hc (.inl rfl));replace HSD:=hid (HSD.out.kb hc (.inl rfl));replace HVB:=hid (HVB.out.kb hc (.inl rfl));replace HV6:=hid (HV6.out.kb hc (.inl rfl));replace HVA:=hid (HVA.out.kb hc (.inl rfl));replace HRP:=hid (HRP.out.kb hc (.inl rfl));clear hz hc A8;obtain⟨z0,z1,z2,z3,z4,z5,z6,z7,z8,z9,za,zb,zc,zd,ze,zf,zg,zh,zi,zj,zk,zl⟩:=C22.of A9.out.c
  clear z0 z1 z2 z3 z4 z5 z6 z7 z8 z9 za zb zc zd ze zf zh zi zj zk zl;have HRS:=hid (rreason_any i rep _ w9 _ oR cR (HX0.out.bel A9.out.b) HRL.out)
  go_wp2_with (refine wpList_load_row rfl 39 (.tmp 1) rfl w.heap.size rfl _ _ (0,0) _ A9.out.x Tryz.underlying39 rfl (by kernel_rfl) ?_)
  refine HRS.out.mono ?_;rintro e w10 ⟨rfl,hb10⟩;generalize (Value.agg #[.string i.addr,.string i.tname,.slice oa i.sc.attrs.length ca,.slice on i.sc.nested.length cn,.int .i64 i.quota,.bool i.has,.string i.prior.addr,.string i.prior.deposed,.string i.prior.id,.string i.prior.type,.int .i64 kp,.int .i64 np,.string sp,.slice oip mip cip,.slice okp mkp ckp,.int .i64 i.prior.version,.bool i.prior.tainted,.bool i.prior.createFirst,.slice od i.prior.deps.length cd,.int .i64 kc,.int .i64 nc,.string sc,.slice oic mic cic,.slice okc mkc ckc,.bool i.createFirst,.bool i.protect,.slice og i.ignore.length cg,.slice ot mt ct,.bool i.triggered,.bool i.requested,.slice oD i.deps.length cD])=vx1
  generalize reasonD i rep=rs at *
  clear HRS zg;replace HYO:=kH HYO hb10;have A10:=hid (A9.out.call hb10);replace HSS:=hid (HSS.out.bel hb10);replace HSD:=hid (HSD.out.bel hb10);replace HVB:=hid (HVB.out.bel hb10);replace HV6:=hid (HV6.out.bel hb10);replace HVA:=hid (HVA.out.bel hb10);replace HRP:=hid (HRP.out.bel hb10);clear A9;clear hb10
  go_upto_region 15 with (refine z1s rfl 44 _ _ rfl (w.heap.size+3) 4 _ rfl rfl _ _ A10.out.c (by simp) (by kernel_rfl) rfl ?_;intro w11 hz hc)
  replace HYO:=hid ((hc.block _ (aS HYO.out).1 (by have:=HYL.out;omega)).trans HYO.out);have A11:Hid (CSR w w11 _ _ (.cells #[.string i.addr,.string ⟨#[]⟩,.string i.tname,.int .i64 0,.int .i64 rs,.int .i64 kp,.int .i64 np,.string sp,.slice oip mip cip,.slice okp mkp ckp,.int .i64 k8,.int .i64 n8,.string s8,.slice oi8 mi8 ci8,.slice ok8 mk8 ck8,.string i.prior.id,.slice oR rep.length cR,.bool false,.bool i.protect,.bool false,.slice oD i.deps.length cD,.slice od i.prior.deps.length cd] 46)):=hid (A10.out.sto hc hz);replace HSS:=hid (HSS.out.kb hc (.inl rfl));replace HSD:=hid (HSD.out.kb hc (.inl rfl));replace HVB:=hid (HVB.out.kb hc (.inl rfl));replace HV6:=hid (HV6.out.kb hc (.inl rfl));replace HVA:=hid (HVA.out.kb hc (.inl rfl));replace HRP:=hid (HRP.out.kb hc (.inl rfl));clear hz hc A10;obtain⟨z0,z1,z2,z3,z4,z5,z6,z7,z8,z9,za,zb,zc,zd,ze,zf,zg,zh,zi,zj,zk,zl⟩:=C22.of A11.out.c
  clear z0 z1 z2 z3 z5 z6 z7 z8 z9 za zb zc zd ze zf zg zh zi zj zk zl
  by_cases hr:rs=0
  case neg =>
   obtain⟨r0a,r0b,r0c⟩:=tF hr;have HCE2:=hid (HCE.out.trans (if_pos hr));clear hr HCE
   go_upto_region 17 with (refine z1s rfl 43 _ _ rfl (w.heap.size+3) 3 _ rfl rfl _ _ A11.out.c (by simp) (by kernel_rfl) rfl ?_;intro w12 hz hc)
   replace HYO:=hid ((hc.block _ (aS HYO.out).1 (by have:=HYL.out;omega)).trans HYO.out);have A12:Hid (CSR w w12 _ _ (.cells #[.string i.addr,.string ⟨#[]⟩,.string i.tname,.int .i64 3,.int .i64 rs,.int .i64 kp,.int .i64 np,.string sp,.slice oip mip cip,.slice okp mkp ckp,.int .i64 k8,.int .i64 n8,.string s8,.slice oi8 mi8 ci8,.slice ok8 mk8 ck8,.string i.prior.id,.slice oR rep.length cR,.bool false,.bool i.protect,.bool false,.slice oD i.deps.length cD,.slice od i.prior.deps.length cd] 46)):=hid (A11.out.sto hc hz);replace HSS:=hid (HSS.out.kb hc (.inl rfl));replace HSD:=hid (HSD.out.kb hc (.inl rfl));replace HVB:=hid (HVB.out.kb hc (.inl rfl));replace HV6:=hid (HV6.out.kb hc (.inl rfl));replace HVA:=hid (HVA.out.kb hc (.inl rfl));replace HRP:=hid (HRP.out.kb hc (.inl rfl));clear hz hc A11;clear z4 r0a r0b r0c;obtain⟨x0,x1,x2,x3,x4,x5,x6,x7,x8,x9,x10,x11,x12,x13,x14,x15,x16,x17,x18,x19,x20,x21,x22,x23,x24,x25,x26,x27,x28,x29,x30⟩:=C31.of A12.out.x
   clear x0 x1 x2 x3 x4 x5 x6 x7 x8 x9 x10 x11 x12 x13 x14 x15 x16 x17 x18 x19 x20 x21 x22 x23 x25 x26 x27 x28 x29 x30
   go_upto_region 18 with (refine z1s rfl 4 _ _ rfl (w.heap.size+3) 17 _ rfl rfl _ _ A12.out.c (by simp) (by kernel_rfl) rfl ?_;intro w13 hz hc)
   replace HYO:=hid ((hc.block _ (aS HYO.out).1 (by have:=HYL.out;omega)).trans HYO.out);have A13:Hid (CSR w w13 _ _ (.cells #[.string i.addr,.string ⟨#[]⟩,.string i.tname,.int .i64 3,.int .i64 rs,.int .i64 kp,.int .i64 np,.string sp,.slice oip mip cip,.slice okp mkp ckp,.int .i64 k8,.int .i64 n8,.string s8,.slice oi8 mi8 ci8,.slice ok8 mk8 ck8,.string i.prior.id,.slice oR rep.length cR,.bool i.createFirst,.bool i.protect,.bool false,.slice oD i.deps.length cD,.slice od i.prior.deps.length cd] 46)):=hid (A12.out.sto hc hz);replace HSS:=hid (HSS.out.kb hc (.inl rfl));replace HSD:=hid (HSD.out.kb hc (.inl rfl));replace HVB:=hid (HVB.out.kb hc (.inl rfl));replace HV6:=hid (HV6.out.kb hc (.inl rfl));replace HVA:=hid (HVA.out.kb hc (.inl rfl));replace HRP:=hid (HRP.out.kb hc (.inl rfl));clear hz hc A12;clear x24;have q0:=(cII A13.out.s 0).trans rfl
   have q1:=(cII A13.out.s 1).trans rfl;obtain⟨e0,e1,e2,e3,e4⟩:=C5.of HYO.out;have hYL:=HYL.out
   go_upto_region 18 with (fail)
   clear HVA;have HBD:=hid (show Below w.heap.size w w13.drew from zdd A13.out.b);have HND:=hid (show Below w13.heap.size w13 w13.drew from zdd (Below.refl _ _));have hc:CL [(w.heap.size+2,0,.slice oa i.sc.attrs.length ca),(w.heap.size+2,1,.slice on i.sc.nested.length cn),(Y,0,.int .i64 k6),(Y,1,.int .i64 n6),(Y,2,.string s6),(Y,3,.slice oi6 mi6 ci6),(Y,4,.slice ok6 mk6 ck6)] w13.drew:=CL.bel (show CL _ w13 from⟨q0,q1,e0,e1,e2,e3,e4,trivial⟩) (zdd (Below.refl _ _));have HLT:=hid (CL.lt (show CL [(w.heap.size+2,0,.slice oa i.sc.attrs.length ca),(w.heap.size+2,1,.slice on i.sc.nested.length cn),(Y,0,.int .i64 k6),(Y,1,.int .i64 n6),(Y,2,.string s6),(Y,3,.slice oi6 mi6 ci6),(Y,4,.slice ok6 mk6 ck6)] w13 from⟨q0,q1,e0,e1,e2,e3,e4,trivial⟩));clear q0 q1 e0 e1 e2 e3 e4;refine zss (CL _) (by kernel_rfl) (by kernel_rfl) (hc) ?_
   refine cR0 ?_;refine qqL rfl (by rfl) (fun K hK=>?_)
   go_simp
   refine(null_any _).mono ?_;rintro e wA ⟨rfl,hbA⟩;have HBA:=hT HBD hbA;have HNA:=hT HND hbA;refine hK.out _ _ (CL.bel hc hbA) ?_;replace hc:=CL.bel hc hbA;clear hK K
   try simp only[pT]
   clear hbA;have HPR:=hid (rpropose_any i.sc nullV cfg _ (fun g=>KB w.heap.size g∧g<wA.heap.size) wA _ _ _ _ (HSC.out.bel HBA.out) (VV.flat _ _ 0 0 ⟨#[]⟩ (by decide)) (HV6.out.bel HNA.out).ex (fun g hg=>hg.2) HTY.out);refine cR0 ?_;refine qqL rfl (by rfl) (fun K hK=>?_)
   go_simp
   refine HPR.out.mono ?_;rintro e wB ⟨u,rfl,hu,hbB⟩;obtain⟨k7,n7,s7,oi7,mi7,ci7,ok7,mk7,ck7,rfl⟩:=hu.agg5;have HNB:=hT HNA hbB;have HVA:=hid (hu.keep (Q:=KB w.heap.size) (ZK.refl _ _) fun g hg=>hg.elim (fun h=>h.1) fun h=>⟨by have:=HNA.out.size;have:=A13.out.w;omega,by have:=HNA.out.size;have:=A13.out.w;omega⟩);refine hK.out _ _ (CL.bel hc hbB) ?_;replace hc:=CL.bel hc hbB;clear hK K
   try simp only[pT]
   have hoC:=kO A13.out.c HNB.out;clear hbB hu HPR;refine cR0 ?_;refine qqL rfl (by rfl) (fun K hK=>?_);refine zq 32 _ _ rfl (w.heap.size+3) 10 [_,_,_,_,_] rfl rfl _ _ hoC (by simp) (by kernel_rfl) rfl ?_;intro w15 hz hc8;refine hK.out _ _ (CL.chg hc hc8 (fun q hq e=>by simp only[List.mem_cons,List.not_mem_nil,or_false] at hq;rcases hq with rfl|rfl|rfl|rfl|rfl|rfl|rfl <;> simp only at e <;> omega)) ?_;clear hK K hc
   try simp only[pT]
   refine cR0 ?_;refine zn ?_;obtain⟨w14,rfl⟩:∃ v,v=wB:=⟨_,rfl⟩;have hbN:=HNB.out;clear hoC HLT HBD HND HNA HBA HNB;replace HYO:=kH HYO hbN;have A14:=hid (A13.out.call hbN);replace HSS:=hid (HSS.out.bel hbN);replace HSD:=hid (HSD.out.bel hbN);replace HVB:=hid (HVB.out.bel hbN);replace HV6:=hid (HV6.out.bel hbN);replace HRP:=hid (HRP.out.bel hbN);clear A13;clear hbN;have hc:=hc8;clear hc8;replace HYO:=hid ((hc.block _ (aS HYO.out).1 (by have:=HYL.out;omega)).trans HYO.out);have A15:Hid (CSR w w15 _ _ (.cells #[.string i.addr,.string ⟨#[]⟩,.string i.tname,.int .i64 3,.int .i64 rs,.int .i64 kp,.int .i64 np,.string sp,.slice oip mip cip,.slice okp mkp ckp,.int .i64 k7,.int .i64 n7,.string s7,.slice oi7 mi7 ci7,.slice ok7 mk7 ck7,.string i.prior.id,.slice oR rep.length cR,.bool i.createFirst,.bool i.protect,.bool false,.slice oD i.deps.length cD,.slice od i.prior.deps.length cd] 46)):=hid (A14.out.sto hc hz)
   replace HSS:=hid (HSS.out.kb hc (.inl rfl));replace HSD:=hid (HSD.out.kb hc (.inl rfl));replace HVB:=hid (HVB.out.kb hc (.inl rfl));replace HV6:=hid (HV6.out.kb hc (.inl rfl));replace HRP:=hid (HRP.out.kb hc (.inl rfl));replace HVA:=hid (HVA.out.kb hc (.inl rfl));clear hz hc A14;have HCE:=hid HCE2.out;clear HCE2 hYL
   go_wp2_with (first|(refine wpList_load_row rfl 46 (.tmp 4) rfl (w.heap.size+3) rfl _ _ (0,0) _ A15.out.c Tryz.underlying46 rfl (by kernel_rfl) ?_)|(refine zo rfl 46 _ _ rfl (w.heap.size+1) 0 [_,_,_,_,_,_,_,_,_,_,_,_,_,_,_,_,_,_,_,_,_,_] rfl rfl _ _ A15.out.z (by simp) (by kernel_rfl) rfl ?_;intro ws hzs hcs))
   try simp only[Exit.inBlock,Exit.then]
   refine bodyPost_ret (results_cell_row rfl _ ws (w.heap.size+1) 46 _ (0,0) _ rfl hzs Tryz.underlying46 rfl (by kernel_rfl)) rfl ?_;have HBF:=hid (A15.out.b.trans (zgg hcs (fun k hk=>by omega) A15.out.b.size));replace HVB:=hid (HVB.out.kb hcs (.inr rfl));replace HVA:=hid (HVA.out.kb hcs (.inr rfl));replace HRP:=hid (HRP.out.kb hcs (.inr rfl));replace HSS:=hid (HSS.out.kb hcs (.inr rfl));replace HSD:=hid (HSD.out.kb hcs (.inr rfl));exact⟨_,rfl,by rw[HCE.out];exact⟨_,_,_,_,_,_,_,_,_,_,_,_,_,_,_,_,_,_,_,_,_,_,_,_,rfl,HVB.out.keep (ZK.refl _ _) fun _ _=>trivial,HVA.out.keep (ZK.refl _ _) fun _ _=>trivial,HRP.out.keep (ZK.refl _ _) fun _ _=>trivial,HSS.out.keep (ZK.refl _ _) fun _ _=>trivial,HSD.out.keep (ZK.refl _ _) fun _ _=>trivial⟩,HBF.out⟩
  case pos =>
   obtain⟨r0a,r0b,r0c⟩:=tT hr;have HCE2:=hid (HCE.out.trans (if_neg (fun e=>e hr)));have HR0:=hid hr;clear HCE;clear hr;obtain⟨x0,x1,x2,x3,x4,x5,x6,x7,x8,x9,x10,x11,x12,x13,x14,x15,x16,x17,x18,x19,x20,x21,x22,x23,x24,x25,x26,x27,x28,x29,x30⟩:=C31.of A11.out.x;clear x0 x1 x2 x3 x4 x5 x6 x7 x8 x9 x15 x16 x17 x18 x19 x20 x21 x22 x23 x24 x25 x26 x27 x28 x29 x30;obtain⟨z0,z1,z2,z3,z4,z5,z6,z7,z8,z9,za,zb,zc,zd,ze,zf,zg,zh,zi,zj,zk,zl⟩:=C22.of A11.out.c;clear z0 z1 z2 z3 z4 z5 z6 z7 z8 z9 zf zg zh zi zj zk zl;have q0:=(cII A11.out.s 0).trans rfl;have q1:=(cII A11.out.s 1).trans rfl;have HRR:=hid (rchanged_any i.sc i.prior.attrs aft _ _ _ w11 _ _ _ _ (HSC.out.bel A11.out.b) HVB.out.ex HVA.out.ex (fun g hg=>hg.2) (fun g hg=>hg.2) HTY.out)
   go_wp2_with fail
   refine HRR.out.mono ?_;rintro e w12 ⟨u,rfl,hu,hb12⟩;obtain⟨oQ,cQ,rfl⟩:=hu.len;clear hu HRR x10 x11 x12 x13 x14 za zb zc zd ze q0 q1 z4 r0a r0b r0c;replace HYO:=kH HYO hb12;have A12:=hid (A11.out.call hb12);replace HSS:=hid (HSS.out.bel hb12);replace HSD:=hid (HSD.out.bel hb12);replace HVB:=hid (HVB.out.bel hb12);replace HV6:=hid (HV6.out.bel hb12);replace HVA:=hid (HVA.out.bel hb12);replace HRP:=hid (HRP.out.bel hb12);clear A11;clear hb12
   generalize changedR i.sc i.prior.attrs aft=ch at *
   by_cases h0:ch = []
   case pos =>
    have h2:decide (0<ch.length)=false:=by rw[h0];rfl
    have h3:=HCE2.out.trans (if_pos h0);have HCE:=hid h3
    have hl0:¬ 0<ch.length:=by rw[h0];exact Nat.lt_irrefl _
    clear HCE2 h3 h0;have A12:Hid (CSR w w12 _ _ (.cells #[.string i.addr,.string ⟨#[]⟩,.string i.tname,.int .i64 0,.int .i64 0,.int .i64 kp,.int .i64 np,.string sp,.slice oip mip cip,.slice okp mkp ckp,.int .i64 k8,.int .i64 n8,.string s8,.slice oi8 mi8 ci8,.slice ok8 mk8 ck8,.string i.prior.id,.slice oR rep.length cR,.bool false,.bool i.protect,.bool false,.slice oD i.deps.length cD,.slice od i.prior.deps.length cd] 46)):=hid (by have h9:=A12.out;rw[HR0.out] at h9;exact h9)
    go_wp2_with (first|(refine wpList_load_row rfl 46 (.tmp 4) rfl (w.heap.size+3) rfl _ _ (0,0) _ A12.out.c Tryz.underlying46 rfl (by kernel_rfl) ?_)|(refine zo rfl 46 _ _ rfl (w.heap.size+1) 0 [_,_,_,_,_,_,_,_,_,_,_,_,_,_,_,_,_,_,_,_,_,_] rfl rfl _ _ A12.out.z (by simp) (by kernel_rfl) rfl ?_;intro ws hzs hcs))
    try simp only[Exit.inBlock,Exit.then]
    refine bodyPost_ret (results_cell_row rfl _ ws (w.heap.size+1) 46 _ (0,0) _ rfl hzs Tryz.underlying46 rfl (by kernel_rfl)) rfl ?_;have HBF:=hid (A12.out.b.trans (zgg hcs (fun k hk=>by omega) A12.out.b.size));replace HVB:=hid (HVB.out.kb hcs (.inr rfl));replace HVA:=hid (HVA.out.kb hcs (.inr rfl));replace HRP:=hid (HRP.out.kb hcs (.inr rfl));replace HSS:=hid (HSS.out.kb hcs (.inr rfl));replace HSD:=hid (HSD.out.kb hcs (.inr rfl));exact⟨_,rfl,by rw[HCE.out];exact⟨_,_,_,_,_,_,_,_,_,_,_,_,_,_,_,_,_,_,_,_,_,_,_,_,rfl,HVB.out.keep (ZK.refl _ _) fun _ _=>trivial,HVA.out.keep (ZK.refl _ _) fun _ _=>trivial,HRP.out.keep (ZK.refl _ _) fun _ _=>trivial,HSS.out.keep (ZK.refl _ _) fun _ _=>trivial,HSD.out.keep (ZK.refl _ _) fun _ _=>trivial⟩,HBF.out⟩
   case neg =>
    have h1:0<ch.length:=List.length_pos_iff.2 h0;have h2:decide (0<ch.length)=true:=dTT h1;have h3:=HCE2.out.trans (if_neg h0);have HCE:=hid h3;clear HCE2 h3 h0
    go_upto_region 22 with (refine z1s rfl 43 _ _ rfl (w.heap.size+3) 3 _ rfl rfl _ _ A12.out.c (by simp) (by kernel_rfl) rfl ?_;intro w13 hz hc)
    replace HYO:=hid ((hc.block _ (aS HYO.out).1 (by have:=HYL.out;omega)).trans HYO.out);have A13:Hid (CSR w w13 _ _ (.cells #[.string i.addr,.string ⟨#[]⟩,.string i.tname,.int .i64 2,.int .i64 rs,.int .i64 kp,.int .i64 np,.string sp,.slice oip mip cip,.slice okp mkp ckp,.int .i64 k8,.int .i64 n8,.string s8,.slice oi8 mi8 ci8,.slice ok8 mk8 ck8,.string i.prior.id,.slice oR rep.length cR,.bool false,.bool i.protect,.bool false,.slice oD i.deps.length cD,.slice od i.prior.deps.length cd] 46)):=hid (A12.out.sto hc hz);replace HSS:=hid (HSS.out.kb hc (.inl rfl));replace HSD:=hid (HSD.out.kb hc (.inl rfl));replace HVB:=hid (HVB.out.kb hc (.inl rfl));replace HV6:=hid (HV6.out.kb hc (.inl rfl));replace HVA:=hid (HVA.out.kb hc (.inl rfl));replace HRP:=hid (HRP.out.kb hc (.inl rfl));clear hz hc A12
    go_upto_region 23 with (refine z1s rfl 44 _ _ rfl (w.heap.size+3) 4 _ rfl rfl _ _ A13.out.c (by simp) (by kernel_rfl) rfl ?_;intro w14 hz hc)
    replace HYO:=hid ((hc.block _ (aS HYO.out).1 (by have:=HYL.out;omega)).trans HYO.out);have A14:Hid (CSR w w14 _ _ (.cells #[.string i.addr,.string ⟨#[]⟩,.string i.tname,.int .i64 2,.int .i64 2,.int .i64 kp,.int .i64 np,.string sp,.slice oip mip cip,.slice okp mkp ckp,.int .i64 k8,.int .i64 n8,.string s8,.slice oi8 mi8 ci8,.slice ok8 mk8 ck8,.string i.prior.id,.slice oR rep.length cR,.bool false,.bool i.protect,.bool false,.slice oD i.deps.length cD,.slice od i.prior.deps.length cd] 46)):=hid (A13.out.sto hc hz);replace HSS:=hid (HSS.out.kb hc (.inl rfl));replace HSD:=hid (HSD.out.kb hc (.inl rfl));replace HVB:=hid (HVB.out.kb hc (.inl rfl));replace HV6:=hid (HV6.out.kb hc (.inl rfl));replace HVA:=hid (HVA.out.kb hc (.inl rfl));replace HRP:=hid (HRP.out.kb hc (.inl rfl));clear hz hc A13
    go_wp2_with (first|(refine wpList_load_row rfl 46 (.tmp 4) rfl (w.heap.size+3) rfl _ _ (0,0) _ A14.out.c Tryz.underlying46 rfl (by kernel_rfl) ?_)|(refine zo rfl 46 _ _ rfl (w.heap.size+1) 0 [_,_,_,_,_,_,_,_,_,_,_,_,_,_,_,_,_,_,_,_,_,_] rfl rfl _ _ A14.out.z (by simp) (by kernel_rfl) rfl ?_;intro ws hzs hcs))
    try simp only[Exit.inBlock,Exit.then]
    refine bodyPost_ret (results_cell_row rfl _ ws (w.heap.size+1) 46 _ (0,0) _ rfl hzs Tryz.underlying46 rfl (by kernel_rfl)) rfl ?_;have HBF:=hid (A14.out.b.trans (zgg hcs (fun k hk=>by omega) A14.out.b.size));replace HVB:=hid (HVB.out.kb hcs (.inr rfl));replace HVA:=hid (HVA.out.kb hcs (.inr rfl));replace HRP:=hid (HRP.out.kb hcs (.inr rfl));replace HSS:=hid (HSS.out.kb hcs (.inr rfl));replace HSD:=hid (HSD.out.kb hcs (.inr rfl));exact⟨_,rfl,by rw[HCE.out];exact⟨_,_,_,_,_,_,_,_,_,_,_,_,_,_,_,_,_,_,_,_,_,_,_,_,rfl,HVB.out.keep (ZK.refl _ _) fun _ _=>trivial,HVA.out.keep (ZK.refl _ _) fun _ _=>trivial,HRP.out.keep (ZK.refl _ _) fun _ _=>trivial,HSS.out.keep (ZK.refl _ _) fun _ _=>trivial,HSD.out.keep (ZK.refl _ _) fun _ _=>trivial⟩,HBF.out⟩
end Go.Proofs.YtibiiafcnaijeaaGreat
