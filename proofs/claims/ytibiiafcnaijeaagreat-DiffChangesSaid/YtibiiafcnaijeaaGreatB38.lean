/- A part. -/
import Derived.Test.YtibiiafcnaijeaaGreatB00
import Derived.Test.YtibiiafcnaijeaaGreatB37
namespace Go.Proofs.YtibiiafcnaijeaaGreat
open Go Go.RowKit Go.Proofs.YtibiiafcnaijeaaGreat.Steady
set_option linter.unusedVariables false
set_option linter.unusedSimpArgs false
set_option maxRecDepth 100000
set_option maxHeartbeats 40000000
def putsV (ps:List (ByteArray × Vl)):Vl:=ps.foldl (fun v p=>putR v p.1 p.2) (.mk 5 0 ⟨#[]⟩ [] [])
theorem putsV_snoc (ps:List (ByteArray × Vl)) (x:ByteArray) (y:Vl):putsV (ps++[(x,y)])=putR (putsV ps) x y:=by
 unfold putsV;rw[List.foldl_append];rfl
theorem putG_len:∀ (ks:List ByteArray) (is:List Vl) (d:Bool) (x:ByteArray) (y:Vl),(putG d ks is x y).length≤ks.length+(if d=true then 0 else 1)∧szL ((putG d ks is x y).map (·.2))≤szL is+(if d=true then 0 else szV y)
 | [],is,d,x,y=>by
  rw[putG]
  cases d <;> simp[szL]
 | k :: ks,[],d,x,y=>by
  rw[putG]
  cases d <;> simp[szL]
 | k :: ks,v :: is,d,x,y=>by
  obtain⟨h1,h2⟩:=putG_len ks is (d||!ltS k x) x y;rw[putG]
  have e1:∀ (a b:List (ByteArray × Vl)),szL ((a++b).map (·.2))=szL (a.map (·.2))+szL (b.map (·.2)):=fun a b=>by rw[List.map_append,szL_app]
  rw[e1,e1,List.length_append,List.length_append,szL]
  have h3:((if k=x then [] else [(k,v)]):List (ByteArray × Vl)).length≤1∧szL (((if k=x then [] else [(k,v)]):List (ByteArray × Vl)).map (·.2))≤szV v:=by
   by_cases e:k=x
   ·rw[if_pos e];simp[szL]
   ·rw[if_neg e];simp[szL]
  cases d with
  | true =>
   simp only[Bool.true_or,if_true,Bool.true_eq_false,false_and,if_false,List.length_nil,List.map_nil,szL,List.length_cons] at *
   omega
  | false =>
   cases hl:ltS k x with
   | true =>
    rw[hl] at h1 h2
    simp[szL] at *
    omega
   | false =>
    rw[hl] at h1 h2
    simp[szL] at *
    omega
theorem putsV_form (ps:List (ByteArray × Vl)):∀ (is:List Vl) (ks:List ByteArray),ks.length=is.length→∃ is' ks',ps.foldl (fun v p=>putR v p.1 p.2) (.mk 5 0 ⟨#[]⟩ is ks)=.mk 5 0 ⟨#[]⟩ is' ks'∧ks'.length=is'.length∧is'.length≤is.length+ps.length∧szL is'≤szL is+szL (ps.map (·.2)):=by
 induction ps with
 | nil=>exact fun is ks h=>⟨is,ks,rfl,h,nR _,Nat.le_add_right _ _⟩
 | cons p ps ih =>
  intro is ks h;obtain⟨is',ks',e,h1,h2,h3⟩:=ih ((putG false ks is p.1 p.2).map (·.2)) ((putG false ks is p.1 p.2).map (·.1)) (by simp);obtain⟨g1,g2⟩:=putG_len ks is false p.1 p.2;simp only[Bool.false_eq_true,if_false] at g1 g2;refine⟨is',ks',e,h1,?_,?_⟩
  ·rw[List.length_map] at h2
   rw[List.length_cons];omega
  ·rw[List.map_cons,szL];omega
theorem putsV_is (ps:List (ByteArray × Vl)):∃ is ks,putsV ps=.mk 5 0 ⟨#[]⟩ is ks∧ks.length=is.length∧is.length≤ps.length∧szL is≤szL (ps.map (·.2)):=by
 obtain⟨is,ks,e,h1,h2,h3⟩:=putsV_form ps [] [] rfl;exact⟨is,ks,e,h1,by simpa using h2,by rw[szL] at h3;omega⟩
theorem putsV_le (ps:List (ByteArray × Vl)) (h:ps.length≤1000000):∀ k n s is ks,putsV ps=.mk k n s is ks→is.length≤1000000∧ks.length≤1000000:=by
 intro k n s is ks e;obtain⟨is',ks',e',h1,h2,-⟩:=putsV_is ps;rw[e'] at e
 cases e
 omega
theorem putsV_sz (ps:List (ByteArray × Vl)):szV (putsV ps)≤1+szL (ps.map (·.2)):=by
 obtain⟨is,ks,e,-,-,h3⟩:=putsV_is ps;rw[e,szV];omega
def keysC (sc:Sc):List ByteArray:=sc.attrs.map (·.name)++sc.nested.map (·.name)
def PartsZ (sc:Sc) (t:Vl) (dk:Int):Prop:=dk=0→∃ ps,ps.map (·.1)=keysC sc∧t=putsV ps
structure ScS (sc:Sc):Prop where
 la:sc.attrs.length≤20
 ln:sc.nested.length≤20
 ta:∀ a∈sc.attrs,sizeT a.ty≤60
 na:∀ n∈sc.nested,n.attrs.length≤20
 tn:∀ n∈sc.nested,∀ a∈n.attrs,sizeT a.ty≤60
theorem parts_any (sc:Sc) (v:Vl) (P Q:Nat→Prop) (w:World) (va vn ux:Value) (hs:SCV Q w va vn sc) (hx:VV P w ux v) (hP:∀ g,P g→g<w.heap.size) (hsv:szV v≤300) (hok:ScS sc) :
  Calls Tryz.prog 60 #[.agg #[va,vn],ux] w (DRes P 3000000000 (PartsZ sc) w):=by
 obtain⟨oa,ca,rfl⟩:=hs.1.len;obtain⟨on,cn,rfl⟩:=hs.2.len;have HV0:=hid hx;have HGG:=hid (getR_sz v);obtain⟨k,m,s,is,ks⟩:=v;obtain⟨vi,vk,rfl,hI,hK,hss⟩:=hx.out;obtain⟨oi,ci,rfl⟩:=hI.len;obtain⟨ok,ck,rfl⟩:=hK.len;obtain⟨wk,hW,hS,hB,h0,h1,h2,h3⟩:=boxes4 w (.cells #[.slice oa sc.attrs.length ca,.slice on sc.nested.length cn] 25) (.cells #[.int .i64 k,.int .i64 m,.string s,.slice oi is.length ci,.slice ok ks.length ck] 32) zero5 zeroD;have hbl:=zaa (w:=wk) (o:=map0);have hob:=zhh wk map0
 generalize hD:wk.alloc map0=wd at *
 obtain⟨X,hX⟩:∃ X,wk.heap.size=X:=⟨_,rfl⟩;rw[hX] at hob;have HW:=hid hW;have HD:=hid hD;have HDX:=hid hX;have HX0:=hid (show w.heap.size+4≤X by omega);have HXX:=hid (show wk.heap.size≤X∧wk.heap.size=w.heap.size+4 by omega);have HB:=hid hB;have HBL:=hid hbl;have HXA:=hid h0;have HXB:=hid h1;have HZ:=hid h2;have HY:=hid h3;have HXAd:=hid (kO h0 hbl);have HO0:=hid hob;have HV:=hid (HV0.out.bel HB.out);have HSC:=hid (hs.bel HB.out);have HPL:=hid hP;have HSV:=hid hsv;have HOK:=hid hok;have hT0:VV (fun g=>P g∨X<g) wd (.agg #[.int .i64 5,.int .i64 0,.string ⟨#[]⟩,.slice none 0 0,.slice none 0 0]) (putsV []):=VV.flat _ _ 5 0 ⟨#[]⟩ (by decide);have HT0:=hid hT0;have hla:=hok.la;have hln:=hok.ln;clear hW hS hB h0 h1 h2 h3 hI hK hx HV0 hP hsv hok hbl hob hD hX hT0 hs;have n0:=(cII HXAd.out 0).trans rfl
 have n1:=(cII HXAd.out 1).trans rfl
 go_enter Tryz.func60,Tryz.ntmps60
 go_upto_region 1 with (fail)
 rw[HW.out]
 go_upto_region 2 with (fail)
 rw[HD.out,HDX.out]
 go_wp2_with fail
 go_loopw [7] (fun iv wr=>∃ (j:Nat) (kx nx:Int) (sx:ByteArray) (oix:Option Addr) (mix cix:Nat) (okx:Option Addr) (mkx ckx:Nat) (ps:List (ByteArray × Vl)),j≤sc.attrs.length∧iv=.int .i64 j∧Hid (Below wk.heap.size wk wr)∧Hid (wr.heap[X]? = some (.cells #[.int .i64 kx,.int .i64 nx,.string sx,.slice oix mix cix,.slice okx mkx ckx] 32))∧Hid (VV (fun g=>P g∨X<g) wr (.agg #[.int .i64 kx,.int .i64 nx,.string sx,.slice oix mix cix,.slice okx mkx ckx]) (putsV ps))∧Hid (ps.map (·.1)=(sc.attrs.map (·.name)).take j)∧Hid (ps.length=j)∧Hid (szL (ps.map (·.2))≤j*18000)) (fun iv _=>sc.attrs.length - (intOf iv).toNat)
 case atStart=>exact⟨0,_,_,_,_,_,_,_,_,_,[],Nat.zero_le _,rfl,HBL,HO0,HT0,hid rfl,hid rfl,hid (by rw[List.map_nil,szL];omega)⟩
 case round =>
  clear HT0;obtain⟨j,kx,nx,sx,oix,mix,cix,okx,mkx,ckx,ps,hj,rfl,B,HO,HT,HPN,HPS,HSL⟩:=hrel;have HBK:=hid B.out;have HBR2:=hT HB HBK.out;have HXA2:=kH HXA HBK.out;have HXB2:=kH HXB HBK.out;have HZ2:=kH HZ HBK.out;have HY2:=kH HY HBK.out;have HWK:=hid (show X<wr.heap.size from(aS HO.out).1);clear n0 n1;have n0:=(cII HXA2.out 0).trans rfl
  by_cases hn:j<sc.attrs.length
  ·have hj0:(0:Int)≤(j:Int):=by omega
   have hj1:(j:Int)<(sc.attrs.length:Int):=by omega
   obtain⟨g2,o2,c2,k2,oe2,me2,ce2,on2,mn2,cn2,hg2,e2,r0,r1,r2,r3,r4,r5,r6,r7,hTV,hsz⟩:=HSC.out.1.at hn
   cases e2
   have HQW:=hid r0;replace r0:=zbb HBK.out r0;replace r1:=zbb HBK.out r1;replace r2:=zbb HBK.out r2;replace r3:=zbb HBK.out r3;replace r4:=zbb HBK.out r4;replace r5:=zbb HBK.out r5;replace r6:=zbb HBK.out r6;replace r7:=zbb HBK.out r7;have HAT:Hid (ATV Q wk (.agg #[.string sc.attrs[j].name,.int .i64 k2,.slice oe2 me2 ce2,.slice on2 mn2 cn2,.int .i64 sc.attrs[j].mode,.bool sc.attrs[j].rep,.bool sc.attrs[j].sens,.bool sc.attrs[j].vol]) sc.attrs[j]):=hid ⟨k2,oe2,me2,ce2,on2,mn2,cn2,rfl,hTV,hsz⟩;have HTY:=hid (HOK.out.ta sc.attrs[j] (lM hn));have HTK:=hid (show(sc.attrs.map (·.name)).take j++[sc.attrs[j].name]=(sc.attrs.map (·.name)).take (j+1) by rw[List.take_add_one,List.getElem?_map,lG hn];rfl);have HNS:=hid hsz;clear hTV hsz
   generalize sc.attrs[j]=at' at *
   obtain⟨nj,ty,md,rp,sn,vl⟩:=at'
   simp only at *
   obtain⟨b0,b1,b2,b3,b4⟩:=C5.of HXB2.out;obtain⟨x0,hx0⟩:∃ x0,ofR (.mk k m s is ks) nj=x0:=⟨_,rfl⟩;have HGS:=hid (show szV x0≤300 from by rw[←hx0];exact Nat.le_trans (HGG.out nj) HSV.out);have HJM:=hid (show szV x0*sizeT ty≤18000 from Nat.mul_le_mul HGS.out HTY.out)
   have HOF:Hid (∀ w',Below wr.heap.size wr w'→Calls Tryz.prog 76 #[.agg #[.int .i64 k,.int .i64 m,.string s,.slice oi is.length ci,.slice ok ks.length ck],.string nj] w' (OfPost P x0 w')):=hid fun w' hb=>by
    have hbk:=HBK.out.trans (hb.mono HBK.out.size);rw[←hx0];exact of_any (.mk k m s is ks) nj P w' _ (HV.out.bel hbk) (fun g hg=>by have:=HPL.out g hg;have:=hbk.size;have:=HXX.out.2;omega)
   have HONE:Hid (∀ w' u,Below wr.heap.size wr w'→VV P w' u x0→Calls Tryz.prog 83 #[.agg #[.string nj,.int .i64 k2,.slice oe2 me2 ce2,.slice on2 mn2 cn2,.int .i64 md,.bool rp,.bool sn,.bool vl],u,.string nj] w' (DRes P (szV x0*sizeT ty) (fun _ _=>True) w')):=hid fun w' u hb hu=>by
    have hbk:=HBK.out.trans (hb.mono HBK.out.size);exact one_any ⟨nj,ty,md,rp,sn,vl⟩ x0 P Q w' _ u nj (HAT.out.bel hbk) hu (fun g hg=>by have:=HPL.out g hg;have:=hbk.size;have:=HXX.out.2;omega) (by have:=HGS.out;omega) (by have:=HTY.out;show sizeT ty≤1000;omega)
   clear hx0
   go_upto_region 5 with (fail)
   obtain⟨wp,rfl⟩:∃ v,v=wr:=⟨_,rfl⟩
   go_cut [8,9] (fun pv qv wx=>∃ (Y8 Y9:Nat) (k2 n2:Int) (s2:ByteArray) (oi2:Option Addr) (mi2 ci2:Nat) (ok2:Option Addr) (mk2 ck2:Nat) (dk dn:Int) (dm:ByteArray) (t2:Vl),pv=.pointer (some ⟨Y8,0,none⟩)∧qv=.pointer (some ⟨Y9,0,none⟩)∧Hid (GotD P 18000 (fun _ _=>True) wp wx Y8 Y9 (.int .i64 k2) (.int .i64 n2) (.string s2) (.slice oi2 mi2 ci2) (.slice ok2 mk2 ck2) dk dn dm t2))
   case first =>
    have hcl:CL [(w.heap.size,0,.slice (some ⟨g2,o2,none⟩) sc.attrs.length ca),(w.heap.size+1,0,.int .i64 k),(w.heap.size+1,1,.int .i64 m),(w.heap.size+1,2,.string s),(w.heap.size+1,3,.slice oi is.length ci),(w.heap.size+1,4,.slice ok ks.length ck),(g2,o2+j*8,.string nj),(g2,o2+j*8+1,.int .i64 k2),(g2,o2+j*8+2,.slice oe2 me2 ce2),(g2,o2+j*8+3,.slice on2 mn2 cn2),(g2,o2+j*8+4,.int .i64 md),(g2,o2+j*8+5,.bool rp),(g2,o2+j*8+6,.bool sn),(g2,o2+j*8+7,.bool vl)] wp:=⟨n0,b0,b1,b2,b3,b4,r0,r1,r2,r3,r4,r5,r6,r7,trivial⟩;have HLT:=hid (CL.lt hcl);have hc0:=CB.start hcl;have J0:=hid (JS.start (m:=18000) (Z:=fun _ _=>True) (tx:=x0) (show ∀ g,P g→g<wp.heap.size from fun g hg=>by have:=HPL.out g hg;have:=HWK.out;have:=HX0.out;omega));clear hcl n0 b0 b1 b2 b3 b4 r0 r1 r2 r3 r4 r5 r6 r7
    refine wp_region_pk (.node 23 12 (.node 24 12 (.node 23 24 (.leaf [0,1,2,3,4,5,6,7,8,9,10,11,23,24,12,13,14,15,16,17,18,19,20,21,22,25,26]) (.leaf [0,1,2,3,4,5,6,7,8,9,10,11,24,23,12,13,14,15,16,17,18,19,20,21,22,25,26])) (.node 24 19 (.leaf [0,1,2,3,4,5,6,7,8,9,10,11,23,12,13,14,15,16,17,18,24,19,20,21,22,25,26]) (.leaf [0,1,2,3,4,5,6,7,8,9,10,11,23,12,13,14,15,16,17,18,19,20,21,22,24,25,26]))) (.node 23 19 (.node 24 12 (.leaf [0,1,2,3,4,5,6,7,8,9,10,11,24,12,13,14,15,16,17,18,23,19,20,21,22,25,26]) (.node 24 19 (.node 23 24 (.leaf [0,1,2,3,4,5,6,7,8,9,10,11,12,13,14,15,16,17,18,23,24,19,20,21,22,25,26]) (.leaf [0,1,2,3,4,5,6,7,8,9,10,11,12,13,14,15,16,17,18,24,23,19,20,21,22,25,26])) (.leaf [0,1,2,3,4,5,6,7,8,9,10,11,12,13,14,15,16,17,18,23,19,20,21,22,24,25,26]))) (.node 24 12 (.leaf [0,1,2,3,4,5,6,7,8,9,10,11,24,12,13,14,15,16,17,18,19,20,21,22,23,25,26]) (.node 24 19 (.leaf [0,1,2,3,4,5,6,7,8,9,10,11,12,13,14,15,16,17,18,24,19,20,21,22,23,25,26]) (.node 23 24 (.leaf [0,1,2,3,4,5,6,7,8,9,10,11,12,13,14,15,16,17,18,19,20,21,22,23,24,25,26]) (.leaf [0,1,2,3,4,5,6,7,8,9,10,11,12,13,14,15,16,17,18,19,20,21,22,24,23,25,26])))))) (CB _ wp) (by kernel_rfl) (by kernel_rfl) hc0 ?_
    with_reducible repeat' (first|refine OT.Ok.node ?_ ?_|refine OT.Ok.leaf ?_)
    all_goals
     have J:=hid J0.out;have hc:=hc0
     repeat (first
      | (refine Pk.skip (by rfl) (by rfl) ?_;try simp only[pT])
      | (refine Pk.calm (v:=?_) (by rfl) (by rfl) (by rfl) ?_ ?_;rotate_left;(focus intro v hSv;(try simp only[CB,CL] at hSv);go_simp;(try rw[if_neg (by omega)]);(try with_reducible rfl);done);try simp only[pT])
      | (refine Pk.loud (by rfl) (by rfl) (by rfl) (fun K hK=>?_);go_simp;first
       | (refine hK.out _ _ (hc.later (zaa (o:=zero5))) ?_;clear hK K;(try simp only[pT]);refine Pk.al8 J.out hc (fun Wn J1 hc1=>?_);replace J:=hid J1;replace hc:=hc1;clear J1 hc1)
       | (refine hK.out _ _ (hc.later (zaa (o:=zeroD))) ?_;clear hK K;(try simp only[pT]);refine Pk.al9 J.out hc (fun Wn J1 hc1=>?_);replace J:=hid J1;replace hc:=hc1;clear J1 hc1)
       | (refine(HOF.out _ J.out.bel).mono ?_;rintro e w5 ⟨u,rfl,hu,hb5⟩;obtain⟨ka,na,sa,oia,mia,cia,oka,mka,cka,rfl⟩:=hu.agg5;replace hc:=hc.later hb5;replace J:=hid (J.out.gotX hb5 hu);refine hK.out _ _ hc ?_;clear hK K hu hb5;try simp only[pT])
       | (refine(HONE.out _ _ J.out.bel (J.out.xv _ rfl)).mono ?_;rintro e w6 ⟨u,t,dk,dn,dm,rfl,hu,hm,hz,hb6⟩;obtain⟨kb,nb,sb,oib,mib,cib,okb,mkb,ckb,rfl⟩:=hu.agg5;replace hc:=hc.later hb6;replace J:=hid (J.out.gotU (dk:=dk) hb6 (fun g hg=>hg) hu (Nat.le_trans hm HJM.out) hz);refine hK.out _ _ hc ?_;clear hK K hu hb6 hm hz;try simp only[pT])
       | (refine(HEL.out _ J.out.bel).mono ?_;rintro e w6 ⟨u,t,dk,dn,dm,rfl,hu,hm,hz,hb6⟩;obtain⟨kb,nb,sb,oib,mib,cib,okb,mkb,ckb,rfl⟩:=hu.agg5;replace hc:=hc.later hb6;replace J:=hid (J.out.gotU (dk:=dk) hb6 (fun g hg=>hg) hu (Nat.le_trans hm HJM.out) hz);refine hK.out _ _ hc ?_;clear hK K hu hb6 hm hz;try simp only[pT])))
     refine Pk.loud (by rfl) (by rfl) (by rfl) (fun K hK=>?_);refine zq 32 _ _ rfl _ 0 [_,_,_,_,_] rfl rfl _ _ (J.out.h8 _ rfl).2 (by simp) (by kernel_rfl) rfl ?_;intro w7 hz7 hc7;replace hc:=hc.chg hc7 (J.out.h8 _ rfl).1 HLT.out;refine hK.out _ _ hc ?_;clear hK K
     try simp only[pT]
     refine pR0 ?_;refine Pk.loud (by rfl) (by rfl) (by rfl) (fun K hK=>?_);refine zq 71 _ _ rfl _ 0 [_,_,_] rfl rfl _ _ ((hc7.block _ (aS (J.out.h9 _ rfl).2).1 (fun e=>J.out.ne _ _ rfl rfl e.symm)).trans (J.out.h9 _ rfl).2) (by simp) (by kernel_rfl) rfl ?_;intro w8 hz8 hc8;refine hK.out _ _ (hc.chg hc8 (J.out.h9 _ rfl).1 HLT.out) ?_;clear hK K
     try simp only[pT]
     refine pR0 ?_;refine Pk.nil ?_
     go_wp2_with fail
     go_meet;obtain⟨t,G⟩:=GotD.mk' J.out hc7 hc8 hz7 hz8;exact⟨_,_,_,_,_,_,_,_,_,_,_,_,_,_,_,rfl,rfl,hid G⟩
   case rest =>
    obtain⟨Y8,Y9,kb,nb,sb,oib,mib,cib,okb,mkb,ckb,dk,dn,dm,tb,rfl,rfl,G⟩:=hcut;clear n0 b0 b1 b2 b3 b4 r0 r1 r2 r3 r4 r5 r6 r7 HOF HONE;have HBK4:=hid (HBK.out.trans (G.out.bel.mono HBK.out.size));have HBR4:=hid (HBR2.out.trans (G.out.bel.mono HBR2.out.size));have HZ4:=hid (kO HZ2.out G.out.bel);have HY4:=hid (kO HY2.out G.out.bel);have HXA4:=hid (kO HXA2.out G.out.bel);have HO4:=hid (kO HO.out G.out.bel);have HW4:=hid (And.intro G.out.bel.size G.out.hX);have d0:=(cII G.out.objD 0).trans rfl
    by_cases hr:dk=0
    case neg =>
     have HNZ:=hid hr;obtain⟨rra,rrb,rrc⟩:=tF hr;clear hr
     go_wp2_with fail
     clear d0;have hcE:CL [(Y9,0,.int .i64 dk),(Y9,1,.int .i64 dn),(Y9,2,.string dm)] wc.drew:=⟨(cII (G.out.objD) 0).trans rfl,(cII (G.out.objD) 1).trans rfl,(cII (G.out.objD) 2).trans rfl,trivial⟩
     have hyE:w.heap.size+4≤Y9:=by have:=HW4.out.2.2.1;have:=HWK.out;have:=HX0.out;omega
     refine zss (CL _) (by kernel_rfl) (by kernel_rfl) (hcE) ?_;refine cR0 ?_;refine qqL rfl (by rfl) (fun K hK=>?_);refine zq 32 _ _ rfl (w.heap.size+2) 0 [_,_,_,_,_] rfl rfl _ _ (HZ4.out) (by simp) (by kernel_rfl) rfl ?_;intro ws hzs hcs;have hcE2:=CL.chg hcE hcs (fun x hx e=>by simp only[List.mem_cons,List.not_mem_nil,or_false] at hx;rcases hx with h|h|h <;> (rw[h] at e;simp only at e;omega));refine hK.out _ _ hcE2 ?_;clear hK K
     try simp only[pT]
     refine cR0 ?_;refine qqL rfl (by rfl) (fun K hK=>?_);refine zq 71 _ _ rfl (w.heap.size+3) 0 [_,_,_] rfl rfl _ _ ((hcs.block _ (aS (HY4.out)).1 (by omega)).trans (HY4.out)) (by simp) (by kernel_rfl) rfl ?_;intro wt hzt hct;refine hK.out _ _ (CL.chg hcE2 hct (fun x hx e=>by simp only[List.mem_cons,List.not_mem_nil,or_false] at hx;rcases hx with h|h|h <;> (rw[h] at e;simp only at e;omega))) ?_;clear hK K
     try simp only[pT]
     refine cR0 ?_;refine zn ?_
     go_wp2_with fail
     try simp only[Exit.inBlock,Exit.then]
     refine bodyPost_ret (zrc rfl _ wt (w.heap.size+2) 32 _ (0,0) _ (w.heap.size+3) 71 _ (0,0) _ rfl ((hct.block _ (aS hzs).1 (by omega)).trans hzs) Tryz.underlying32 rfl (by kernel_rfl) rfl hzt Tryz.underlying71 rfl (by kernel_rfl)) rfl ?_;exact dres_mk (Q:=fun _=>False) (VV.flat _ _ 0 0 ⟨#[]⟩ (by decide)) (fun g hg=>hg.elim) (fun g hg=>hg.elim) (zdd (HBR4.out)) (by omega) (by omega) hcs hct (by rw[szV_flat];omega) (fun h=>absurd h HNZ.out)
    obtain⟨rra,rrb,rrc⟩:=tT hr;clear hr
    go_upto_region 8 with (fail)
    clear d0;have HP1:=hid (show ∀ g,(P g∨X<g)∧g<wc.heap.size→g<wc.heap.size from fun g hg=>hg.2);have HT1:=hid ((HT.out.bel G.out.bel).ex);have HY1:Hid (VV (fun g=>(P g∨X<g)∧g<wc.heap.size) wc _ tb):=hid (G.out.vv.ex.mono fun g hg=>⟨hg.1.imp id fun h=>by have:=HWK.out;omega,hg.2⟩);have HPUT:=hid (rputL_any (putsV ps) tb nj (fun g=>(P g∨X<g)∧g<wc.heap.size) wc.drew _ _ (HT1.out.bel (zdd (Below.refl _ _))) (HY1.out.bel (zdd (Below.refl _ _))) HP1.out HNS.out (putsV_le ps (by have:=HPS.out;omega)));obtain⟨x0,x1,x2,x3,x4⟩:=C5.of HO4.out;obtain⟨y0,y1,y2,y3,y4⟩:=C5.of G.out.obj;have n0:=(cII HXA4.out 0).trans rfl;have q0:=zbb HBK4.out HQW.out;refine zt 9 (fun v=>v.cell? ⟨X,0,none⟩=some (.int .i64 kx)∧v.cell? ⟨X,1,none⟩=some (.int .i64 nx)∧v.cell? ⟨X,2,none⟩=some (.string sx)∧v.cell? ⟨X,3,none⟩=some (.slice oix mix cix)∧v.cell? ⟨X,4,none⟩=some (.slice okx mkx ckx)∧v.cell? ⟨Y8,0,none⟩=some (.int .i64 kb)∧v.cell? ⟨Y8,1,none⟩=some (.int .i64 nb)∧v.cell? ⟨Y8,2,none⟩=some (.string sb)∧v.cell? ⟨Y8,3,none⟩=some (.slice oib mib cib)∧v.cell? ⟨Y8,4,none⟩=some (.slice okb mkb ckb)∧v.cell? ⟨w.heap.size,0,none⟩=some (.slice (some ⟨g2,o2,none⟩) sc.attrs.length ca)∧v.cell? ⟨g2,o2+j*8,none⟩=some (.string nj)) (by kernel_rfl) (by kernel_rfl) (⟨x0,x1,x2,x3,x4,y0,y1,y2,y3,y4,n0,q0⟩) ?_
    simp only[List.take_succ_cons,List.take_zero,List.drop_succ_cons,List.drop_zero];refine cR2 ?_;refine qqL rfl (by rfl) (fun K hK=>?_)
    go_simp
    refine HPUT.out.mono ?_;rintro e w5 ⟨u,rfl,hu,hb5⟩;obtain⟨kq,nq,sq,oiq,miq,ciq,okq,mkq,ckq,rfl⟩:=hu.agg5;refine hK.out _ _ (⟨zbb (W:=wc.drew) hb5 x0,zbb (W:=wc.drew) hb5 x1,zbb (W:=wc.drew) hb5 x2,zbb (W:=wc.drew) hb5 x3,zbb (W:=wc.drew) hb5 x4,zbb (W:=wc.drew) hb5 y0,zbb (W:=wc.drew) hb5 y1,zbb (W:=wc.drew) hb5 y2,zbb (W:=wc.drew) hb5 y3,zbb (W:=wc.drew) hb5 y4,zbb (W:=wc.drew) hb5 n0,zbb (W:=wc.drew) hb5 q0⟩) ?_;clear hK K
    try simp only[pT]
    have HU:=hid hu;have HB5:=hid (undrew hb5);have HO5:=hid (kO HO4.out (undrew hb5));clear x0 x1 x2 x3 x4 y0 y1 y2 y3 y4 n0 q0 HPUT hu hb5;refine cR2 ?_;refine zn ?_
    go_upto_region 4 with (refine zo rfl 32 _ _ rfl X 0 [_,_,_,_,_] rfl rfl _ _ HO5.out (by simp) (by kernel_rfl) rfl ?_;intro w6 hz6 hc6)
    have HO6:=hid hz6;have B6:=hid (show Below wk.heap.size wk w6 from(HBK4.out.trans (HB5.out.mono HBK4.out.size)).trans (zgg hc6 (fun k hk=>by have:=HXX.out;omega) (by have:=HBK4.out.size;have:=HB5.out.size;omega)))
    have T6:=hid (show VV (fun g=>P g∨X<g) w6 _ (putsV (ps++[(nj,tb)])) from by
     rw[putsV_snoc]
     exact HU.out.keep (ZK.chg hc6 fun g hg e=>by
      have h0:=HWK.out;have h1:=HW4.out.1;have h2:=HX0.out;have h3:wc.drew.heap.size=wc.heap.size:=rfl
      rcases hg with ⟨h|h,-⟩|h
      ·have:=HPL.out g h;omega
      ·omega
      ·omega) fun g hg=>by
      have h0:=HWK.out;have h1:=HW4.out.1;have h3:wc.drew.heap.size=wc.heap.size:=rfl
      rcases hg with ⟨h,-⟩|h
      ·exact h
      ·exact .inr (by omega))
    have HSJ:=hid (show szL ((ps++[(nj,tb)]).map (·.2))≤(j+1)*18000 by
     have h1:=HSL.out;have h2:=G.out.sz;rw[List.map_append,szL_app];show _+szL [tb]≤_;rw[szL,szL]
     omega)
    have HPM:=hid (show(ps++[(nj,tb)]).map (·.1)=(sc.attrs.map (·.name)).take (j+1) by rw[List.map_append,HPN.out];exact HTK.out);have HPL2:=hid (show(ps++[(nj,tb)]).length=j+1 by rw[List.length_append,HPS.out];rfl);clear hz6 hc6
    go_wp2_with fail
    go_roundw
    case rel=>exact⟨j+1,_,_,_,_,_,_,_,_,_,_,by omega,by go_num,B6,HO6,T6,HPM,hid (by have:=HPL2.out;omega),HSJ⟩
    case measure=>simp[intOf];omega
  ·have HT2:=hid (show VV (fun g=>P g∨X<g) wr (.agg #[.int .i64 kx,.int .i64 nx,.string sx,.slice oix mix cix,.slice okx mkx ckx]) (putsV ps) from HT.out)
   have HPN2:=hid (show ps.map (·.1)=(sc.attrs.map (·.name))++(sc.nested.map (·.name)).take 0 by rw[HPN.out,List.take_zero,List.append_nil,List.take_of_length_le (by rw[List.length_map];omega)]);have HPS2:=hid (show ps.length=sc.attrs.length+0 by rw[HPS.out];omega);have HSL2:=hid (show szL (ps.map (·.2))≤360000+0*108000301 by have:=HSL.out;have:=HOK.out.la;omega);have HO2:=hid HO.out;have HBK2:=hid HBK.out;clear HT HPN HPS HSL
   go_wp2_with fail
   go_loopw [10] (fun iv wr=>∃ (j:Nat) (kx nx:Int) (sx:ByteArray) (oix:Option Addr) (mix cix:Nat) (okx:Option Addr) (mkx ckx:Nat) (ps:List (ByteArray × Vl)),j≤sc.nested.length∧iv=.int .i64 j∧Hid (Below wk.heap.size wk wr)∧Hid (wr.heap[X]? = some (.cells #[.int .i64 kx,.int .i64 nx,.string sx,.slice oix mix cix,.slice okx mkx ckx] 32))∧Hid (VV (fun g=>P g∨X<g) wr (.agg #[.int .i64 kx,.int .i64 nx,.string sx,.slice oix mix cix,.slice okx mkx ckx]) (putsV ps))∧Hid (ps.map (·.1)=(sc.attrs.map (·.name))++(sc.nested.map (·.name)).take j)∧Hid (ps.length=sc.attrs.length+j)∧Hid (szL (ps.map (·.2))≤360000+j*108000301)) (fun iv _=>sc.nested.length - (intOf iv).toNat)
   case atStart=>exact⟨0,_,_,_,_,_,_,_,_,_,ps,Nat.zero_le _,rfl,HBK2,HO2,HT2,HPN2,HPS2,HSL2⟩
   case round =>
    clear HT2 HPN2 HPS2 HSL2 HO2 HBK2 n0 HBK HBR2 HXA2 HXB2 HZ2 HY2 HWK HO B ps hj kx nx sx oix mix cix okx mkx ckx;obtain⟨j,kx,nx,sx,oix,mix,cix,okx,mkx,ckx,ps,hj,rfl,B,HO,HT,HPN,HPS,HSL⟩:=hrel;have HBK:=hid B.out;have HBR2:=hT HB HBK.out;have HXA2:=kH HXA HBK.out;have HXB2:=kH HXB HBK.out;have HZ2:=kH HZ HBK.out;have HY2:=kH HY HBK.out;have HWK:=hid (show X<wr.heap.size from(aS HO.out).1);have n1:=(cII HXA2.out 1).trans rfl
    by_cases hn:j<sc.nested.length
    ·have hj0:(0:Int)≤(j:Int):=by omega
     have hj1:(j:Int)<(sc.nested.length:Int):=by omega
     obtain⟨g2,o2,c2,oa2,ca2,hg2,e2,r0,r1,r2,r3,r4,hAV,hsz⟩:=HSC.out.2.at hn
     cases e2
     have HQW:=hid r0;replace r0:=zbb HBK.out r0;replace r1:=zbb HBK.out r1;replace r2:=zbb HBK.out r2;replace r3:=zbb HBK.out r3;replace r4:=zbb HBK.out r4;have HNE:Hid (NEV Q wk (.agg #[.string sc.nested[j].name,.int .i64 sc.nested[j].mn,.int .i64 sc.nested[j].mx,.slice oa2 sc.nested[j].attrs.length ca2,.bool sc.nested[j].rep]) sc.nested[j]):=hid ⟨oa2,ca2,rfl,hAV,hsz⟩;have HNA:=hid (HOK.out.na sc.nested[j] (lM hn));have HTN:=hid (HOK.out.tn sc.nested[j] (lM hn));have HTK:=hid (show(sc.attrs.map (·.name))++(sc.nested.map (·.name)).take j++[sc.nested[j].name]=(sc.attrs.map (·.name))++(sc.nested.map (·.name)).take (j+1) by rw[List.append_assoc,List.take_add_one (l:=sc.nested.map (·.name)),List.getElem?_map,lG hn];rfl);have HNS:=hid hsz;clear hAV hsz
     generalize sc.nested[j]=nd at *
     obtain⟨nj,hnj⟩:∃ nj,nd.name=nj:=⟨_,rfl⟩;rw[hnj] at r0 HTK HNS HQW;obtain⟨b0,b1,b2,b3,b4⟩:=C5.of HXB2.out;obtain⟨x0,hx0⟩:∃ x0,ofR (.mk k m s is ks) nj=x0:=⟨_,rfl⟩;have HGS:=hid (show szV x0≤300 from by rw[←hx0];exact Nat.le_trans (HGG.out nj) HSV.out);have HJM:=hid (nR 108000301)
     have HOF:Hid (∀ w',Below wr.heap.size wr w'→Calls Tryz.prog 76 #[.agg #[.int .i64 k,.int .i64 m,.string s,.slice oi is.length ci,.slice ok ks.length ck],.string nj] w' (OfPost P x0 w')):=hid fun w' hb=>by
      have hbk:=HBK.out.trans (hb.mono HBK.out.size);rw[←hx0];exact of_any (.mk k m s is ks) nj P w' _ (HV.out.bel hbk) (fun g hg=>by have:=HPL.out g hg;have:=hbk.size;have:=HXX.out.2;omega)
     have HONE:Hid (∀ w' u,Below wr.heap.size wr w'→VV P w' u x0→Calls Tryz.prog 84 #[.agg #[.string nj,.int .i64 nd.mn,.int .i64 nd.mx,.slice oa2 nd.attrs.length ca2,.bool nd.rep],u] w' (DRes P 108000301 (fun _ _=>True) w')):=hid fun w' u hb hu=>by
      have hbk:=HBK.out.trans (hb.mono HBK.out.size);rw[←hnj];exact nested_any nd x0 P Q w' _ u (HNE.out.bel hbk) hu (fun g hg=>by have:=HPL.out g hg;have:=hbk.size;have:=HXX.out.2;omega) HGS.out HNA.out HTN.out
     clear hx0 hnj
     go_upto_region 12 with (fail)
     obtain⟨wp,rfl⟩:∃ v,v=wr:=⟨_,rfl⟩
     go_cut [11,12] (fun pv qv wx=>∃ (Y8 Y9:Nat) (k2 n2:Int) (s2:ByteArray) (oi2:Option Addr) (mi2 ci2:Nat) (ok2:Option Addr) (mk2 ck2:Nat) (dk dn:Int) (dm:ByteArray) (t2:Vl),pv=.pointer (some ⟨Y8,0,none⟩)∧qv=.pointer (some ⟨Y9,0,none⟩)∧Hid (GotD P 108000301 (fun _ _=>True) wp wx Y8 Y9 (.int .i64 k2) (.int .i64 n2) (.string s2) (.slice oi2 mi2 ci2) (.slice ok2 mk2 ck2) dk dn dm t2))
     case first =>
      have hcl:CL [(w.heap.size,1,.slice (some ⟨g2,o2,none⟩) sc.nested.length cn),(w.heap.size+1,0,.int .i64 k),(w.heap.size+1,1,.int .i64 m),(w.heap.size+1,2,.string s),(w.heap.size+1,3,.slice oi is.length ci),(w.heap.size+1,4,.slice ok ks.length ck),(g2,o2+j*5,.string nj),(g2,o2+j*5+1,.int .i64 nd.mn),(g2,o2+j*5+2,.int .i64 nd.mx),(g2,o2+j*5+3,.slice oa2 nd.attrs.length ca2),(g2,o2+j*5+4,.bool nd.rep)] wp:=⟨n1,b0,b1,b2,b3,b4,r0,r1,r2,r3,r4,trivial⟩;have HLT:=hid (CL.lt hcl);have hc0:=CB.start hcl;have J0:=hid (JS.start (m:=108000301) (Z:=fun _ _=>True) (tx:=x0) (show ∀ g,P g→g<wp.heap.size from fun g hg=>by have:=HPL.out g hg;have:=HWK.out;have:=HX0.out;omega));clear hcl n1 b0 b1 b2 b3 b4 r0 r1 r2 r3 r4;refine wp_region_pk (.node 17 12 (.node 18 12 (.node 17 18 (.leaf [0,1,2,3,4,5,6,7,8,9,10,11,17,18,12,13,14,15,16,19,20]) (.leaf [0,1,2,3,4,5,6,7,8,9,10,11,18,17,12,13,14,15,16,19,20])) (.node 18 13 (.leaf [0,1,2,3,4,5,6,7,8,9,10,11,17,12,18,13,14,15,16,19,20]) (.leaf [0,1,2,3,4,5,6,7,8,9,10,11,17,12,13,14,15,16,18,19,20]))) (.node 17 13 (.node 18 12 (.leaf [0,1,2,3,4,5,6,7,8,9,10,11,18,12,17,13,14,15,16,19,20]) (.node 18 13 (.node 17 18 (.leaf [0,1,2,3,4,5,6,7,8,9,10,11,12,17,18,13,14,15,16,19,20]) (.leaf [0,1,2,3,4,5,6,7,8,9,10,11,12,18,17,13,14,15,16,19,20])) (.leaf [0,1,2,3,4,5,6,7,8,9,10,11,12,17,13,14,15,16,18,19,20]))) (.node 18 12 (.leaf [0,1,2,3,4,5,6,7,8,9,10,11,18,12,13,14,15,16,17,19,20]) (.node 18 13 (.leaf [0,1,2,3,4,5,6,7,8,9,10,11,12,18,13,14,15,16,17,19,20]) (.node 17 18 (.leaf [0,1,2,3,4,5,6,7,8,9,10,11,12,13,14,15,16,17,18,19,20]) (.leaf [0,1,2,3,4,5,6,7,8,9,10,11,12,13,14,15,16,18,17,19,20])))))) (CB _ wp) (by kernel_rfl) (by kernel_rfl) hc0 ?_
      with_reducible repeat' (first|refine OT.Ok.node ?_ ?_|refine OT.Ok.leaf ?_)
      all_goals
       have J:=hid J0.out;have hc:=hc0
       repeat (first
        | (refine Pk.skip (by rfl) (by rfl) ?_;try simp only[pT])
        | (refine Pk.calm (v:=?_) (by rfl) (by rfl) (by rfl) ?_ ?_;rotate_left;(focus intro v hSv;(try simp only[CB,CL] at hSv);go_simp;(try rw[if_neg (by omega)]);(try with_reducible rfl);done);try simp only[pT])
        | (refine Pk.loud (by rfl) (by rfl) (by rfl) (fun K hK=>?_);go_simp;first
         | (refine hK.out _ _ (hc.later (zaa (o:=zero5))) ?_;clear hK K;(try simp only[pT]);refine Pk.al8 J.out hc (fun Wn J1 hc1=>?_);replace J:=hid J1;replace hc:=hc1;clear J1 hc1)
         | (refine hK.out _ _ (hc.later (zaa (o:=zeroD))) ?_;clear hK K;(try simp only[pT]);refine Pk.al9 J.out hc (fun Wn J1 hc1=>?_);replace J:=hid J1;replace hc:=hc1;clear J1 hc1)
         | (refine(HOF.out _ J.out.bel).mono ?_;rintro e w5 ⟨u,rfl,hu,hb5⟩;obtain⟨ka,na,sa,oia,mia,cia,oka,mka,cka,rfl⟩:=hu.agg5;replace hc:=hc.later hb5;replace J:=hid (J.out.gotX hb5 hu);refine hK.out _ _ hc ?_;clear hK K hu hb5;try simp only[pT])
         | (refine(HONE.out _ _ J.out.bel (J.out.xv _ rfl)).mono ?_;rintro e w6 ⟨u,t,dk,dn,dm,rfl,hu,hm,hz,hb6⟩;obtain⟨kb,nb,sb,oib,mib,cib,okb,mkb,ckb,rfl⟩:=hu.agg5;replace hc:=hc.later hb6;replace J:=hid (J.out.gotU (dk:=dk) hb6 (fun g hg=>hg) hu (Nat.le_trans hm HJM.out) hz);refine hK.out _ _ hc ?_;clear hK K hu hb6 hm hz;try simp only[pT])
         | (refine(HEL.out _ J.out.bel).mono ?_;rintro e w6 ⟨u,t,dk,dn,dm,rfl,hu,hm,hz,hb6⟩;obtain⟨kb,nb,sb,oib,mib,cib,okb,mkb,ckb,rfl⟩:=hu.agg5;replace hc:=hc.later hb6;replace J:=hid (J.out.gotU (dk:=dk) hb6 (fun g hg=>hg) hu (Nat.le_trans hm HJM.out) hz);refine hK.out _ _ hc ?_;clear hK K hu hb6 hm hz;try simp only[pT])))
       refine Pk.loud (by rfl) (by rfl) (by rfl) (fun K hK=>?_);refine zq 32 _ _ rfl _ 0 [_,_,_,_,_] rfl rfl _ _ (J.out.h8 _ rfl).2 (by simp) (by kernel_rfl) rfl ?_;intro w7 hz7 hc7;replace hc:=hc.chg hc7 (J.out.h8 _ rfl).1 HLT.out;refine hK.out _ _ hc ?_;clear hK K
       try simp only[pT]
       refine pR0 ?_;refine Pk.loud (by rfl) (by rfl) (by rfl) (fun K hK=>?_);refine zq 71 _ _ rfl _ 0 [_,_,_] rfl rfl _ _ ((hc7.block _ (aS (J.out.h9 _ rfl).2).1 (fun e=>J.out.ne _ _ rfl rfl e.symm)).trans (J.out.h9 _ rfl).2) (by simp) (by kernel_rfl) rfl ?_;intro w8 hz8 hc8;refine hK.out _ _ (hc.chg hc8 (J.out.h9 _ rfl).1 HLT.out) ?_;clear hK K
       try simp only[pT]
       refine pR0 ?_;refine Pk.nil ?_
       go_wp2_with fail
       go_meet;obtain⟨t,G⟩:=GotD.mk' J.out hc7 hc8 hz7 hz8;exact⟨_,_,_,_,_,_,_,_,_,_,_,_,_,_,_,rfl,rfl,hid G⟩
     case rest =>
      obtain⟨Y8,Y9,kb,nb,sb,oib,mib,cib,okb,mkb,ckb,dk,dn,dm,tb,rfl,rfl,G⟩:=hcut;clear n1 b0 b1 b2 b3 b4 r0 r1 r2 r3 r4 HOF HONE;have HBK4:=hid (HBK.out.trans (G.out.bel.mono HBK.out.size));have HBR4:=hid (HBR2.out.trans (G.out.bel.mono HBR2.out.size));have HZ4:=hid (kO HZ2.out G.out.bel);have HY4:=hid (kO HY2.out G.out.bel);have HXA4:=hid (kO HXA2.out G.out.bel);have HO4:=hid (kO HO.out G.out.bel);have HW4:=hid (And.intro G.out.bel.size G.out.hX);have d0:=(cII G.out.objD 0).trans rfl
      by_cases hr:dk=0
      case neg =>
       have HNZ:=hid hr;obtain⟨rra,rrb,rrc⟩:=tF hr;clear hr
       go_wp2_with fail
       clear d0;have hcE:CL [(Y9,0,.int .i64 dk),(Y9,1,.int .i64 dn),(Y9,2,.string dm)] wc.drew:=⟨(cII (G.out.objD) 0).trans rfl,(cII (G.out.objD) 1).trans rfl,(cII (G.out.objD) 2).trans rfl,trivial⟩
       have hyE:w.heap.size+4≤Y9:=by have:=HW4.out.2.2.1;have:=HWK.out;have:=HX0.out;omega
       refine zss (CL _) (by kernel_rfl) (by kernel_rfl) (hcE) ?_;refine cR0 ?_;refine qqL rfl (by rfl) (fun K hK=>?_);refine zq 32 _ _ rfl (w.heap.size+2) 0 [_,_,_,_,_] rfl rfl _ _ (HZ4.out) (by simp) (by kernel_rfl) rfl ?_;intro ws hzs hcs;have hcE2:=CL.chg hcE hcs (fun x hx e=>by simp only[List.mem_cons,List.not_mem_nil,or_false] at hx;rcases hx with h|h|h <;> (rw[h] at e;simp only at e;omega));refine hK.out _ _ hcE2 ?_;clear hK K
       try simp only[pT]
       refine cR0 ?_;refine qqL rfl (by rfl) (fun K hK=>?_);refine zq 71 _ _ rfl (w.heap.size+3) 0 [_,_,_] rfl rfl _ _ ((hcs.block _ (aS (HY4.out)).1 (by omega)).trans (HY4.out)) (by simp) (by kernel_rfl) rfl ?_;intro wt hzt hct;refine hK.out _ _ (CL.chg hcE2 hct (fun x hx e=>by simp only[List.mem_cons,List.not_mem_nil,or_false] at hx;rcases hx with h|h|h <;> (rw[h] at e;simp only at e;omega))) ?_;clear hK K
       try simp only[pT]
       refine cR0 ?_;refine zn ?_
       go_wp2_with fail
       try simp only[Exit.inBlock,Exit.then]
       refine bodyPost_ret (zrc rfl _ wt (w.heap.size+2) 32 _ (0,0) _ (w.heap.size+3) 71 _ (0,0) _ rfl ((hct.block _ (aS hzs).1 (by omega)).trans hzs) Tryz.underlying32 rfl (by kernel_rfl) rfl hzt Tryz.underlying71 rfl (by kernel_rfl)) rfl ?_;exact dres_mk (Q:=fun _=>False) (VV.flat _ _ 0 0 ⟨#[]⟩ (by decide)) (fun g hg=>hg.elim) (fun g hg=>hg.elim) (zdd (HBR4.out)) (by omega) (by omega) hcs hct (by rw[szV_flat];omega) (fun h=>absurd h HNZ.out)
      obtain⟨rra,rrb,rrc⟩:=tT hr;clear hr
      go_upto_region 15 with (fail)
      clear d0;have HP1:=hid (show ∀ g,(P g∨X<g)∧g<wc.heap.size→g<wc.heap.size from fun g hg=>hg.2);have HT1:=hid ((HT.out.bel G.out.bel).ex);have HY1:Hid (VV (fun g=>(P g∨X<g)∧g<wc.heap.size) wc _ tb):=hid (G.out.vv.ex.mono fun g hg=>⟨hg.1.imp id fun h=>by have:=HWK.out;omega,hg.2⟩);have HPUT:=hid (rputL_any (putsV ps) tb nj (fun g=>(P g∨X<g)∧g<wc.heap.size) wc.drew _ _ (HT1.out.bel (zdd (Below.refl _ _))) (HY1.out.bel (zdd (Below.refl _ _))) HP1.out HNS.out (putsV_le ps (by have:=HPS.out;omega)));obtain⟨x0,x1,x2,x3,x4⟩:=C5.of HO4.out;obtain⟨y0,y1,y2,y3,y4⟩:=C5.of G.out.obj;have n0:=(cII HXA4.out 1).trans rfl;have q0:=zbb HBK4.out HQW.out;refine zt 9 (fun v=>v.cell? ⟨X,0,none⟩=some (.int .i64 kx)∧v.cell? ⟨X,1,none⟩=some (.int .i64 nx)∧v.cell? ⟨X,2,none⟩=some (.string sx)∧v.cell? ⟨X,3,none⟩=some (.slice oix mix cix)∧v.cell? ⟨X,4,none⟩=some (.slice okx mkx ckx)∧v.cell? ⟨Y8,0,none⟩=some (.int .i64 kb)∧v.cell? ⟨Y8,1,none⟩=some (.int .i64 nb)∧v.cell? ⟨Y8,2,none⟩=some (.string sb)∧v.cell? ⟨Y8,3,none⟩=some (.slice oib mib cib)∧v.cell? ⟨Y8,4,none⟩=some (.slice okb mkb ckb)∧v.cell? ⟨w.heap.size,1,none⟩=some (.slice (some ⟨g2,o2,none⟩) sc.nested.length cn)∧v.cell? ⟨g2,o2+j*5,none⟩=some (.string nj)) (by kernel_rfl) (by kernel_rfl) (⟨x0,x1,x2,x3,x4,y0,y1,y2,y3,y4,n0,q0⟩) ?_
      simp only[List.take_succ_cons,List.take_zero,List.drop_succ_cons,List.drop_zero];refine cR2 ?_;refine qqL rfl (by rfl) (fun K hK=>?_)
      go_simp
      refine HPUT.out.mono ?_;rintro e w5 ⟨u,rfl,hu,hb5⟩;obtain⟨kq,nq,sq,oiq,miq,ciq,okq,mkq,ckq,rfl⟩:=hu.agg5;refine hK.out _ _ (⟨zbb (W:=wc.drew) hb5 x0,zbb (W:=wc.drew) hb5 x1,zbb (W:=wc.drew) hb5 x2,zbb (W:=wc.drew) hb5 x3,zbb (W:=wc.drew) hb5 x4,zbb (W:=wc.drew) hb5 y0,zbb (W:=wc.drew) hb5 y1,zbb (W:=wc.drew) hb5 y2,zbb (W:=wc.drew) hb5 y3,zbb (W:=wc.drew) hb5 y4,zbb (W:=wc.drew) hb5 n0,zbb (W:=wc.drew) hb5 q0⟩) ?_;clear hK K
      try simp only[pT]
      have HU:=hid hu;have HB5:=hid (undrew hb5);have HO5:=hid (kO HO4.out (undrew hb5));clear x0 x1 x2 x3 x4 y0 y1 y2 y3 y4 n0 q0 HPUT hu hb5;refine cR2 ?_;refine zn ?_
      go_upto_region 11 with (refine zo rfl 32 _ _ rfl X 0 [_,_,_,_,_] rfl rfl _ _ HO5.out (by simp) (by kernel_rfl) rfl ?_;intro w6 hz6 hc6)
      have HO6:=hid hz6;have B6:=hid (show Below wk.heap.size wk w6 from(HBK4.out.trans (HB5.out.mono HBK4.out.size)).trans (zgg hc6 (fun k hk=>by have:=HXX.out;omega) (by have:=HBK4.out.size;have:=HB5.out.size;omega)))
      have T6:=hid (show VV (fun g=>P g∨X<g) w6 _ (putsV (ps++[(nj,tb)])) from by
       rw[putsV_snoc]
       exact HU.out.keep (ZK.chg hc6 fun g hg e=>by
        have h0:=HWK.out;have h1:=HW4.out.1;have h2:=HX0.out;have h3:wc.drew.heap.size=wc.heap.size:=rfl
        rcases hg with ⟨h|h,-⟩|h
        ·have:=HPL.out g h;omega
        ·omega
        ·omega) fun g hg=>by
        have h0:=HWK.out;have h1:=HW4.out.1;have h3:wc.drew.heap.size=wc.heap.size:=rfl
        rcases hg with ⟨h,-⟩|h
        ·exact h
        ·exact .inr (by omega))
      have HSJ:=hid (show szL ((ps++[(nj,tb)]).map (·.2))≤360000+(j+1)*108000301 by
       have h1:=HSL.out;have h2:=G.out.sz;rw[List.map_append,szL_app];show _+szL [tb]≤_;rw[szL,szL]
       omega)
      have HPM:=hid (show(ps++[(nj,tb)]).map (·.1)=(sc.attrs.map (·.name))++(sc.nested.map (·.name)).take (j+1) by rw[List.map_append,HPN.out];exact HTK.out);have HPL2:=hid (show(ps++[(nj,tb)]).length=(sc.attrs.length+j)+1 by rw[List.length_append,HPS.out];rfl);clear hz6 hc6
      go_wp2_with fail
      go_roundw
      case rel=>exact⟨j+1,_,_,_,_,_,_,_,_,_,_,by omega,by go_num,B6,HO6,T6,HPM,hid (by have:=HPL2.out;omega),HSJ⟩
      case measure=>simp[intOf];omega
    ·have hm:ps.map (·.1)=keysC sc:=by rw[HPN.out,List.take_of_length_le (by rw[List.length_map];omega)];rfl
     have HM:=hid hm;have HSP:=hid (Nat.le_trans (putsV_sz ps) (show _≤3000000000 by have:=HSL.out;have:=HOK.out.ln;omega));obtain⟨o0,o1,o2,o3,o4⟩:=C5.of HO.out;have hX0:=HX0.out;clear hm
     go_wp2_with (first|(refine zo rfl 32 _ _ rfl (w.heap.size+2) 0 [_,_,_,_,_] rfl rfl _ _ (HZ2.out) (by simp) (by kernel_rfl) rfl ?_;intro ws hzs hcs)|(refine zo rfl 71 _ _ rfl (w.heap.size+3) 0 [_,_,_] rfl rfl _ _ ((hcs.block _ (aS (HY2.out)).1 (by omega)).trans (HY2.out)) (by simp) (by kernel_rfl) rfl ?_;intro wt hzt hct))
     try simp only[Exit.inBlock,Exit.then]
     refine bodyPost_ret (zrc rfl _ wt (w.heap.size+2) 32 _ (0,0) _ (w.heap.size+3) 71 _ (0,0) _ rfl ((hct.block _ (aS hzs).1 (by omega)).trans hzs) Tryz.underlying32 rfl (by kernel_rfl) rfl hzt Tryz.underlying71 rfl (by kernel_rfl)) rfl ?_;exact dres_mk HT.out (fun g hg=>hg.imp id fun h=>by omega) (fun g hg=>by rcases hg with h|h;(have:=HPL.out _ h;omega);omega) HBR2.out (by omega) (by omega) hcs hct HSP.out (fun _=>⟨ps,HM.out,rfl⟩)
end Go.Proofs.YtibiiafcnaijeaaGreat
