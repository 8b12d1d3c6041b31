/- A part. -/
import Derived.Test.YtibiiafcnaijeaaGreatB00
import Derived.Test.YtibiiafcnaijeaaGreatB45
import Derived.Test.YtibiiafcnaijeaaGreatB20
namespace Go.Proofs.YtibiiafcnaijeaaGreat
open Go Go.RowKit Go.Proofs.YtibiiafcnaijeaaGreat.Steady
set_option linter.unusedVariables false
set_option linter.unusedSimpArgs false
set_option maxRecDepth 100000
set_option maxHeartbeats 40000000
def difR (s:Sc) (p c:Vl):Bool:=(namesR s).any fun x=>cfgR s c x&&differV (ofR c x) (ofR p x)
def itemR (s:Sc) (p c:Vl) (x:ByteArray):Vl:=if cfgR s c x=true then ofR c x else if kdV p=0∨(difR s p c=true∧volA (fndA s.attrs x)=true) then unkV else ofR p x
def proposeR (s:Sc) (p c:Vl):Vl:=.mk 5 0 ⟨#[]⟩ ((namesR s).map (itemR s p c)) (namesR s)
theorem any_takeR {α:Type}(f:α→Bool) (l:List α) {j:Nat}(h:j<l.length):(l.take (j+1)).any f=((l.take j).any f||f l[j]):=by
 rw[List.take_add_one,lG h,List.any_append];simp
theorem map_take {α β:Type}(f:α→β) (l:List α) {j:Nat}(h:j<l.length):(l.take (j+1)).map f=(l.take j).map f++[f l[j]]∧l.take (j+1)=l.take j++[l[j]]:=by
 rw[List.take_add_one,lG h,List.map_append];exact⟨rfl,rfl⟩
theorem RP.later {P:Nat→Prop}{n0:Nat}{w2 wr w':World}{vi vk:Value}{is:List Vl}{ks:List ByteArray}(h:RP P n0 w2 wr vi vk is ks) (hb:Below wr.heap.size wr w'):RP P n0 w2 w' vi vk is ks :=
 ⟨h.hP,h.sz,h.chg.trans (Chg.below hb),kO h.obj hb,h.items.later hb,h.row.of_same fun g hg=>hb.block g (h.row.lt hg),h.rown,h.str⟩
theorem GA.up {P:Nat→Prop}{w0 w1 wx:World}{Y:Nat}{k n s i ks:Value}{t:Vl}(h:GA P w1 wx Y k n s i ks t) (hb:Below w0.heap.size w0 w1):GA P w0 wx Y k n s i ks t :=
 ⟨hb.trans (h.bel.mono hb.size),Nat.le_trans hb.size h.lo,h.obj,h.vv⟩
theorem GA.later {P:Nat→Prop}{w0 wx w':World}{Y:Nat}{k n s i ks:Value}{t:Vl}(h:GA P w0 wx Y k n s i ks t) (hb:Below wx.heap.size wx w'):GA P w0 w' Y k n s i ks t :=
 ⟨h.bel.trans (hb.mono h.bel.size),h.lo,kO h.obj hb,h.vv.bel hb⟩
theorem GA.set {P:Nat→Prop}{w0 wx w7:World}{Y:Nat}{k n s i ks k' n' s' i' ks':Value}{t t':Vl}(h:GA P w0 wx Y k n s i ks t) (hP:∀ g,P g→g<w0.heap.size) (hv:VV P wx (.agg #[k',n',s',i',ks']) t') (hc:Chg (fun k=>k=Y) wx w7)
  (hz:w7.heap[Y]? = some (.cells #[k',n',s',i',ks'] 32)):GA P w0 w7 Y k' n' s' i' ks' t' :=
 ⟨h.bel.trans (zgg hc (fun k hk=>by have:=h.lo;omega) h.bel.size),h.lo,hz,hv.keep (ZK.chg hc fun g hg e=>by have:=hP g hg;have:=h.lo;omega) fun _ h=>h⟩
theorem rpropose_any (s:Sc) (b a:Vl) (S P:Nat→Prop) (w:World) (va vn x y:Value) (hs:SCV S w va vn s) (hp:VV P w x b) (hq:VV P w y a) (hP:∀ g,P g→g<w.heap.size) (hok:TyOk s) :
  Calls Tryz.prog 43 #[.agg #[va,vn],x,y] w fun e w'=>∃ u,e=.returned u∧VV (fun g=>P g∨w.heap.size≤g) w' u (proposeR s b a)∧Below w.heap.size w w':=by
 obtain⟨oa,ca,rfl⟩:=hs.1.len;obtain⟨on,cn,rfl⟩:=hs.2.len;have HKB:Hid (∃ k,kdV b=k):=hid ⟨_,rfl⟩
 obtain⟨kp,np,sp,oip,mip,cip,okp,mkp,ckp,e1,e2,e3,e4,e5,hkb⟩:=(show ∃ kp np sp oip mip cip okp mkp ckp,x=.agg #[.int .i64 kp,.int .i64 np,.string sp,.slice oip mip cip,.slice okp mkp ckp]∧True∧True∧True∧True∧kdV b=kp from by
  obtain⟨kp,np,sp,oip,mip,cip,okp,mkp,ckp,rfl⟩:=hp.agg5;obtain⟨_,_,_,_,_,_,_,_,_,e,-,-,-,-,hk⟩:=hp.five
  cases e
  exact⟨_,_,_,_,_,_,_,_,_,rfl,trivial,trivial,trivial,trivial,hk⟩)
 subst e1;clear e2 e3 e4 e5 HKB;have HKB:=hid hkb;clear hkb;obtain⟨kq,nq,sq,oiq,miq,ciq,okq,mkq,ckq,rfl⟩:=hq.agg5;obtain⟨wd,hW,hS,hB,h0,h1,h2,h3⟩:=boxes4 w (.cells #[.slice oa s.attrs.length ca,.slice on s.nested.length cn] 25) (.cells #[.int .i64 kp,.int .i64 np,.string sp,.slice oip mip cip,.slice okp mkp ckp] 32) (.cells #[.int .i64 kq,.int .i64 nq,.string sq,.slice oiq miq ciq,.slice okq mkq ckq] 32) zero5;have HA:=hid hW;have HB:=hid hB;have HSC:=hid hs;have HVP:=hid hp;have HVQ:=hid hq;have HPL:=hid hP;have HXA:=hid h0;have HXB:=hid h1;have HXC:=hid h2;have HXZ:=hid h3;have HSZ:=hid (Nat.le_of_eq hS.symm);have HNC:=hid (rnames_any s S wd _ _ (hs.bel hB) hok);have HNL:=hid (show(namesR s).length≤2000 by unfold namesR;rw[List.length_map,mergeR_len];have:=hok.1;have:=hok.2.1;omega);have HDR:=hid (show difR s b a=(namesR s).any fun x=>cfgR s a x&&differV (ofR a x) (ofR b x) from rfl)
 have HRES:=hid (show proposeR s b a=.mk 5 0 ⟨#[]⟩ ((namesR s).map (itemR s b a)) (namesR s) from rfl);have a0:=(cII h0 0).trans rfl;have a1:=(cII h0 1).trans rfl;clear hW hS hB h0 h1 h2 h3 hs hp hq hP hok;have hnl:=HNL.out
 generalize namesR s=ns at *
 go_enter Tryz.func43,Tryz.ntmps43
 go_upto_region 1 with (fail)
 rw[HA.out]
 go_wp2_with fail
 clear a0 a1;refine HNC.out.mono ?_;rintro e w2 ⟨u,rfl,hu,hb2⟩;obtain⟨ou,cu,rfl⟩:=hu.len;have HN:=hid hu;have HB2:=hT HB hb2;have HXA2:=kH HXA hb2;have HXB2:=kH HXB hb2;have HXC2:=kH HXC hb2;have HXZ2:=kH HXZ hb2;have HSZ2:=hid (Nat.le_trans HSZ.out hb2.size);clear hu hb2 HNC HXA HXB HXC HXZ HSZ
 go_wp2_with fail
 go_loopw [8,9] (fun d iv wr=>∃ (j:Nat) (da:Bool),j≤ns.length∧d=.bool da∧iv=.int .i64 j∧Hid (Below w2.heap.size w2 wr)∧Hid (da=(ns.take j).any fun x=>cfgR s a x&&differV (ofR a x) (ofR b x))) (fun _ iv _=>ns.length - (intOf iv).toNat)
 case atStart=>exact⟨0,_,Nat.zero_le _,rfl,rfl,hid (Below.refl _ _),hid rfl⟩
 case round =>
  obtain⟨j,da,hj,rfl,rfl,B1,DA⟩:=hrel
  by_cases hlt:j<ns.length
  ·obtain⟨g,o,c,e1,p2⟩:=HN.out.at hlt
   cases e1
   have hj0:(0:Int)≤(j:Int):=by omega
   have hj1:(j:Int)<(ns.length:Int):=by omega
   have HTK:=hid (any_takeR (fun x=>cfgR s a x&&differV (ofR a x) (ofR b x)) ns hlt)
   generalize ns[j]=x at *
   have HBR:=hT HB2 B1.out;have p0:=zbb B1.out p2;have n0:=(cII (kO HXA2.out B1.out) 0).trans rfl;have n1:=(cII (kO HXA2.out B1.out) 1).trans rfl;obtain⟨x0,x1,x2,x3,x4⟩:=C5.of (kO HXB2.out B1.out);obtain⟨y0,y1,y2,y3,y4⟩:=C5.of (kO HXC2.out B1.out);have HBD:=hid (show Below w.heap.size w wr.drew from zdd HBR.out);have BD:=hid (show Below w2.heap.size w2 wr.drew from zdd B1.out);have hc:CL [(w.heap.size,0,.slice oa s.attrs.length ca),(w.heap.size,1,.slice on s.nested.length cn),(w.heap.size+1,0,.int .i64 kp),(w.heap.size+1,1,.int .i64 np),(w.heap.size+1,2,.string sp),(w.heap.size+1,3,.slice oip mip cip),(w.heap.size+1,4,.slice okp mkp ckp),(w.heap.size+2,0,.int .i64 kq),(w.heap.size+2,1,.int .i64 nq),(w.heap.size+2,2,.string sq),(w.heap.size+2,3,.slice oiq miq ciq),(w.heap.size+2,4,.slice okq mkq ckq),(g,o+j,.string x)] wr.drew:=CL.bel (show CL _ wr from⟨n0,n1,x0,x1,x2,x3,x4,y0,y1,y2,y3,y4,p0,trivial⟩) (zdd (Below.refl _ _))
   have HC1:=hid (rconf_any s a x P _ wr.drew _ _ _ (HSC.out.bel HBD.out) (HVQ.out.bel HBD.out) (fun g hg=>Nat.lt_of_lt_of_le (HPL.out g hg) HBD.out.size));clear p2 p0 n0 n1 x0 x1 x2 x3 x4 y0 y1 y2 y3 y4
   go_wp2_with fail
   refine zss (CL _) (by kernel_rfl) (by kernel_rfl) (hc) ?_;refine cR0 ?_;refine qqL rfl (by rfl) (fun K hK=>?_)
   go_simp
   obtain⟨cf,hcf⟩:∃ c,cfgR s a x=c:=⟨_,rfl⟩;rw[hcf] at HC1;simp only[hcf] at HTK;clear hcf;refine HC1.out.mono ?_;rintro e w3 ⟨rfl,hb3⟩;have HB3:=hT HBD hb3;have B3:=hT BD hb3;refine hK.out _ _ (CL.bel hc hb3) ?_;replace hc:=CL.bel hc hb3;clear hK K
   try simp only[pT]
   clear hb3 HC1
   cases cf with
   | false =>
    simp only[Bool.false_and,Bool.or_false] at HTK;refine cR0 ?_;refine zn ?_;clear hc
    go_wp2_with fail
    go_roundw
    case rel=>exact⟨j+1,_,by omega,rfl,by go_num,B3,hid (by rw[HTK.out,DA.out])⟩
    case measure=>simp[intOf];omega
   | true =>
   simp only[Bool.true_and] at HTK;have HC2:=hid (of_any a x P w3 _ (HVQ.out.bel HB3.out) (fun g hg=>Nat.lt_of_lt_of_le (HPL.out g hg) HB3.out.size));refine cR0 ?_;refine qqL rfl (by rfl) (fun K hK=>?_)
   go_simp
   refine HC2.out.mono ?_;rintro e w4 ⟨u1,rfl,hu1,hb4⟩;obtain⟨k3,n3,s3,oi3,mi3,ci3,ok3,mk3,ck3,rfl⟩:=hu1.agg5;have HU1:=hid hu1;have HB4:=hT HB3 hb4;have B4:=hT B3 hb4;have HC3:=hid (of_any b x P w4 _ (HVP.out.bel HB4.out) (fun g hg=>Nat.lt_of_lt_of_le (HPL.out g hg) HB4.out.size));refine hK.out _ _ (CL.bel hc hb4) ?_;replace hc:=CL.bel hc hb4;clear hK K
   try simp only[pT]
   clear hu1 hb4 HC2;refine cR0 ?_;refine qqL rfl (by rfl) (fun K hK=>?_)
   go_simp
   refine HC3.out.mono ?_;rintro e w5 ⟨u2,rfl,hu2,hb5⟩;obtain⟨k4,n4,s4,oi4,mi4,ci4,ok4,mk4,ck4,rfl⟩:=hu2.agg5;have HC4:=hid (rdiffer_any (ofR a x) (ofR b x) _ _ w5 _ _ (HU1.out.bel hb5) hu2);have B5:=hT B4 hb5;refine hK.out _ _ (CL.bel hc hb5) ?_;replace hc:=CL.bel hc hb5;clear hK K
   try simp only[pT]
   clear hu2 hb5 HC3 HU1;obtain⟨df,hdf⟩:∃ df,differV (ofR a x) (ofR b x)=df:=⟨_,rfl⟩;rw[hdf] at HC4;simp only[hdf] at HTK;clear hdf;refine cR0 ?_;refine qqL rfl (by rfl) (fun K hK=>?_)
   go_simp
   refine HC4.out.mono ?_;rintro e w6 ⟨rfl,hb6⟩;have B6:=hT B5 hb6;refine hK.out _ _ (CL.bel hc hb6) ?_;replace hc:=CL.bel hc hb6;clear hK K
   try simp only[pT]
   clear hb6 HC4;refine cR0 ?_;refine zn ?_;clear hc
   cases df with
   | false =>
    rw[Bool.or_false] at HTK
    go_wp2_with fail
    go_roundw
    case rel=>exact⟨j+1,_,by omega,rfl,by go_num,B6,hid (by rw[HTK.out,DA.out])⟩
    case measure=>simp[intOf];omega
   | true =>
    rw[Bool.or_true] at HTK
    go_wp2_with fail
    go_roundw
    case rel=>exact⟨j+1,_,by omega,rfl,by go_num,B6,hid HTK.out.symm⟩
    case measure=>simp[intOf];omega
  ·have DA2:=hid (show da=difR s b a by rw[HDR.out,DA.out,List.take_of_length_le (by omega)])
   clear DA;have HBR:=hT HB2 B1.out;have HXA3:=kH HXA2 B1.out;have HXB3:=kH HXB2 B1.out;have HXC3:=kH HXC2 B1.out;have HXZ3:=kH HXZ2 B1.out;have HN3:=hid (HN.out.bel B1.out);have HSZ3:=hid (Nat.le_trans HSZ2.out B1.out.size);clear HXA2 HXB2 HXC2 HXZ2 HN HSZ2
   generalize hg:wr.alloc map0=w3 at *
   have d1:Below wr.heap.size wr w3:=by rw[←hg];exact zaa
   have d2:w3.heap[wr.heap.size]? = some map0:=by rw[←hg];exact zhh wr _
   have d3:w3.heap.size=wr.heap.size+1:=by rw[←hg];simp
   obtain⟨n0,hn0,hn1⟩:∃ n0,wr.heap.size=n0+3∧w.heap.size+1≤n0:=⟨wr.heap.size - 3,by have:=HSZ3.out;omega,by have:=HSZ3.out;omega⟩;have R0:Hid (RP P n0 w3 w3 (.slice none 0 0) (.slice none 0 0) [] []):=hid ⟨fun g hg=>by have:=HPL.out g hg;omega,by omega,Chg.refl _ _,by rw[hn0] at d2;exact d2,OwnW.nil _ _ _ _,.inl ⟨rfl,rfl⟩,(fun g e=>by cases e),(fun s h=>by cases h)⟩;have HG:=hid hg;have HW0:=hid hn0;have HB4:=hT HBR d1;have HXA4:=kH HXA3 d1;have HXB4:=kH HXB3 d1;have HXC4:=kH HXC3 d1;have HXZ4:=kH HXZ3 d1
   have HNN:Hid (∀ (j:Nat) (h:j<ns.length),∃ g o c,ou=some ⟨g,o,none⟩∧cu=c∧g<n0+3∧w3.cell? ⟨g,o+j,none⟩=some (.string ns[j])∧ns[j].size≤140737488355328):=hid fun j h=>by
    obtain⟨g,o,c,e,p⟩:=HN3.out.at h
    cases e
    exact⟨g,o,cu,rfl,rfl,by have h9:g<wr.heap.size:=World.block_lt_of_cell? wr _ p;omega,zbb d1 p,HN3.out.2 _ (lM h)⟩
   clear d1 d2 d3 hg hn0 HXA3 HXB3 HXC3 HXZ3 HN3
   go_upto_region 9 with (fail)
   rw[HG.out,HW0.out]
   go_wp2_with fail
   go_loopw [11] (fun iv wz=>∃ (j:Nat) (oi:Option Addr) (mi ci:Nat) (ok:Option Addr) (mk ck:Nat),j≤ns.length∧iv=.int .i64 j∧Hid (RP P n0 w3 wz (.slice oi mi ci) (.slice ok mk ck) ((ns.take j).map (itemR s b a)) (ns.take j))) (fun iv _=>ns.length - (intOf iv).toNat)
   case atStart=>exact⟨0,_,_,_,_,_,_,Nat.zero_le _,rfl,R0⟩
   case round =>
    obtain⟨wz,rfl⟩:∃ v,v=wr:=⟨_,rfl⟩;obtain⟨j,oi,mi,ci,ok,mk,ck,hj,rfl,R⟩:=hrel;have HBX:=hid (HB4.out.trans (zgg R.out.chg (fun k hk=>by omega) HB4.out.size))
    by_cases hlt:j<ns.length
    ·obtain⟨g,o,c,rfl,rfl,hg3,p2,hxs⟩:=HNN.out j hlt
     have hj0:(0:Int)≤(j:Int):=by omega
     have hj1:(j:Int)<(ns.length:Int):=by omega
     have HTK:=hid (map_take (itemR s b a) ns hlt)
     have HLN:=hid (show((ns.take j).map (itemR s b a)).length≤2000∧(ns.take j).length≤2000 by
      have h2:=List.length_take_le j ns;have h3:=HNL.out
      rw[List.length_map];omega)
     generalize ns[j]=x at *
     generalize (ns.take j).map (itemR s b a)=is at *
     generalize ns.take j=ks at *
     have HG3:=hid hg3;have HXS:=hid hxs;have P2:=hid p2;have HIT:=hid (show itemR s b a x=if cfgR s a x=true then ofR a x else if kdV b=0∨(difR s b a=true∧volA (fndA s.attrs x)=true) then unkV else ofR b x from rfl);have p0:=zcc R.out.chg (by omega) p2;have HXA5:=hid (R.out.old (by omega) HXA4.out);have HXB5:=hid (R.out.old (by omega) HXB4.out);have HXC5:=hid (R.out.old (by omega) HXC4.out)
     have HPZ:Hid (∀ g,P g→g<wz.heap.size):=hid fun g hg=>Nat.lt_of_lt_of_le (HPL.out g hg) HBX.out.size
     have n0':=(cII HXA5.out 0).trans rfl;have n1':=(cII HXA5.out 1).trans rfl;obtain⟨x0,x1,x2,x3,x4⟩:=C5.of HXB5.out;obtain⟨y0,y1,y2,y3,y4⟩:=C5.of HXC5.out;have HC0:Hid (CL [(w.heap.size,0,.slice oa s.attrs.length ca),(w.heap.size,1,.slice on s.nested.length cn),(w.heap.size+1,0,.int .i64 kp),(w.heap.size+1,1,.int .i64 np),(w.heap.size+1,2,.string sp),(w.heap.size+1,3,.slice oip mip cip),(w.heap.size+1,4,.slice okp mkp ckp),(w.heap.size+2,0,.int .i64 kq),(w.heap.size+2,1,.int .i64 nq),(w.heap.size+2,2,.string sq),(w.heap.size+2,3,.slice oiq miq ciq),(w.heap.size+2,4,.slice okq mkq ckq),(g,o+j,.string x)] wz):=hid ⟨n0',n1',x0,x1,x2,x3,x4,y0,y1,y2,y3,y4,p0,trivial⟩;have HLTZ:=hid (CL.lt HC0.out);clear hg3 hxs p2 n1' x0 x1 x2 x3 x4 y0 y1 y2 y3 y4
     have HAT:Hid (∀ W,Below wz.heap.size wz W→Calls Tryz.prog 53 #[.slice oa s.attrs.length ca,.string x] W (fun e w'=>∃ z0 z1 z2 z3 z4 z5 z6 z7 md z9 za zb,e=.returned (.tuple #[.agg #[.string z0,.int .i64 z1,.slice z2 z3 z4,.slice z5 z6 z7,.int .i64 md,.bool z9,.bool za,.bool zb],.bool (fndA s.attrs x).isSome])∧Below W.heap.size W w'∧md=modeA (fndA s.attrs x)∧z9=repA (fndA s.attrs x)∧zb=volA (fndA s.attrs x))):=hid fun W hb=>(rAttr_any s.attrs x S w W _ HSC.out.1 (HBX.out.trans (hb.mono HBX.out.size))).mono fun e w' h=>h.flags
     generalize (fndA s.attrs x).isSome=ia at *
     generalize repA (fndA s.attrs x)=ra at *
     generalize modeA (fndA s.attrs x)=md0 at *
     generalize volA (fndA s.attrs x)=vo at *
     go_upto_region 12 with (fail)
     obtain⟨wp,rfl⟩:∃ v,v=wz:=⟨_,rfl⟩
     go_cut [12] (fun pv wx=>∃ (Y:Nat) (z0:ByteArray) (z1:Int) (z2:Option Addr) (z3 z4:Nat) (z5:Option Addr) (z6 z7:Nat) (za:Bool),pv=.pointer (some ⟨Y,0,none⟩)∧Hid (GB wp wx Y 64 [.string z0,.int .i64 z1,.slice z2 z3 z4,.slice z5 z6 z7,.int .i64 md0,.bool ra,.bool za,.bool vo]))
     case first =>
      have hc0:CL [(w.heap.size,0,.slice oa s.attrs.length ca),(g,o+j,.string x)] wp.drew:=CL.bel (show CL _ wp from⟨n0',p0,trivial⟩) (zdd (Below.refl _ _));have HLT:=hid (CL.lt hc0);refine wp_region_free 10 6 6 (CL _) (by kernel_rfl) (by kernel_rfl) hc0 ?_ ?_
      ·repeat (first
        | (refine qqK (by rfl) ?_;try simp only[pT])
        | (refine qqC (v:=?_) (by rfl) ?_ ?_;rotate_left;(focus intro v hSv;(try simp only[CL] at hSv);go_simp;(try with_reducible rfl);done);try simp only[pT]))
       refine qqL rfl (by rfl) (fun K hK=>?_)
       go_simp
       refine(HAT.out wp.drew (zdd (Below.refl _ _))).mono ?_;rintro e w5 ⟨z0,z1,z2,z3,z4,z5,z6,z7,z8,z9,za,zb,rfl,hb5,hf1,hf2,hf3⟩;subst hf1;subst hf2;subst hf3;have hb5':Below wp.heap.size wp w5:=(zdd (Below.refl _ _)).trans (hb5.mono (nR _));have hc5:=CL.bel hc0 hb5;refine hK.out _ _ (hc5) ?_;clear hK K
       try simp only[pT]
       refine cR0 ?_;refine qqL rfl (by rfl) (fun K hK=>?_)
       go_simp
       have hba:Below w5.heap.size w5 (w5.alloc zero8):=zaa;have hoa:=zhh w5 zero8
       generalize w5.alloc zero8=w6 at *
       have hc6:=CL.bel hc5 hba;refine hK.out _ _ (hc6) ?_;clear hK K
       try simp only[pT]
       refine cR0 ?_;refine qqL rfl (by rfl) (fun K hK=>?_);refine zq 64 _ _ rfl w5.heap.size 0 [_,_,_,_,_,_,_,_] rfl rfl _ _ hoa (by simp) (by kernel_rfl) rfl ?_;intro w7 hz7 hc7;have hle5:wp.heap.size≤w5.heap.size:=hb5'.size;refine hK.out _ _ (CL.chg hc6 hc7 (fun x hx e=>by have h8:x.1<wp.heap.size:=HLT.out x hx;omega)) ?_;clear hK K hc5 hc6
       try simp only[pT]
       refine cR0 ?_;refine zn ?_
       go_wp2_with fail
       go_meet;have hGB:=GB.one hb5' hba hc7 hz7;exact⟨_,_,_,_,_,_,_,_,_,_,rfl,hid hGB⟩
      ·simp only[mv,List.take_succ_cons,List.take_zero,List.drop_succ_cons,List.drop_zero,List.cons_append,List.nil_append]
       refine cR0 ?_;refine qqL rfl (by rfl) (fun K hK=>?_)
       go_simp
       have hba:Below wp.heap.size wp (wp.alloc zero8).drew:=(zdd (Below.refl _ _)).alloc (nR _) _;have hba0:Below wp.drew.heap.size wp.drew (wp.alloc zero8).drew:=(Below.refl wp.drew.heap.size wp.drew).alloc (nR _) _;have hoa:(wp.alloc zero8).drew.heap[wp.heap.size]? = some zero8:=zhh wp zero8;have hc5:=CL.bel hc0 hba0
       generalize (wp.alloc zero8).drew=w4 at *
       refine hK.out _ _ (hc5) ?_;clear hK K
       try simp only[pT]
       refine cR0 ?_;refine qqL rfl (by rfl) (fun K hK=>?_)
       go_simp
       refine(HAT.out w4 hba).mono ?_;rintro e w5 ⟨z0,z1,z2,z3,z4,z5,z6,z7,z8,z9,za,zb,rfl,hb5,hf1,hf2,hf3⟩;subst hf1;subst hf2;subst hf3;have hc6:=CL.bel hc5 hb5;have hoa5:=kO hoa hb5;refine hK.out _ _ (hc6) ?_;clear hK K
       try simp only[pT]
       refine cR0 ?_;refine qqL rfl (by rfl) (fun K hK=>?_);refine zq 64 _ _ rfl wp.heap.size 0 [_,_,_,_,_,_,_,_] rfl rfl _ _ hoa5 (by simp) (by kernel_rfl) rfl ?_;intro w7 hz7 hc7;refine hK.out _ _ (CL.chg hc6 hc7 (fun x hx e=>by have h8:x.1<wp.heap.size:=HLT.out x hx;omega)) ?_;clear hK K hc5 hc6
       try simp only[pT]
       refine cR0 ?_;refine zn ?_
       go_wp2_with fail
       go_meet;have hGB:=GB.two hba hb5 hc7 hz7;exact⟨_,_,_,_,_,_,_,_,_,_,rfl,hid hGB⟩
     case rest =>
     obtain⟨Y2,z0,z1,z2,z3,z4,z5,z6,z7,za,rfl,G2⟩:=hcut;obtain⟨wq,rfl⟩:∃ v,v=wc:=⟨_,rfl⟩;clear n0' p0 HAT;have BQ:=hid G2.out.bel;have HO2:=hid G2.out.obj;have hcq:=CL.bel HC0.out BQ.out;obtain⟨-,-,-,-,-,-,-,y0,y1,y2,y3,y4,p0,-⟩:=hcq;have HBQ:=hT HBX BQ.out
     have HOFA:Hid (∀ W,Below wq.heap.size wq W→Calls Tryz.prog 76 #[.agg #[.int .i64 kq,.int .i64 nq,.string sq,.slice oiq miq ciq,.slice okq mkq ckq],.string x] W (fun e w'=>∃ u,e=.returned u∧VV P w' u (ofR a x)∧Below W.heap.size W w')):=hid fun W hb=>of_any a x P W _ (HVQ.out.bel (HBQ.out.trans (hb.mono HBQ.out.size))) (fun g hg=>Nat.lt_of_lt_of_le (HPL.out g hg) (Nat.le_trans HBQ.out.size hb.size))
     have HPQ:Hid (∀ g,P g→g<wq.heap.size):=hid fun g hg=>Nat.lt_of_lt_of_le (HPZ.out g hg) BQ.out.size
     clear G2
     go_upto_region 13 with (fail)
     go_cut [14] (fun pv wx=>∃ (Y:Nat) (k6 n6:Int) (s6:ByteArray) (oi6:Option Addr) (mi6 ci6:Nat) (ok6:Option Addr) (mk6 ck6:Nat),pv=.pointer (some ⟨Y,0,none⟩)∧Hid (GA P wq wx Y (.int .i64 k6) (.int .i64 n6) (.string s6) (.slice oi6 mi6 ci6) (.slice ok6 mk6 ck6) (ofR a x)))
     case first =>
      have hc0:CL [(w.heap.size+2,0,.int .i64 kq),(w.heap.size+2,1,.int .i64 nq),(w.heap.size+2,2,.string sq),(w.heap.size+2,3,.slice oiq miq ciq),(w.heap.size+2,4,.slice okq mkq ckq),(g,o+j,.string x)] wq.drew:=CL.bel (show CL _ wq from⟨y0,y1,y2,y3,y4,p0,trivial⟩) (zdd (Below.refl _ _));have HLT:=hid (CL.lt hc0);refine wp_region_free 6 5 5 (CL _) (by kernel_rfl) (by kernel_rfl) hc0 ?_ ?_
      ·repeat (first
        | (refine qqK (by rfl) ?_;try simp only[pT])
        | (refine qqC (v:=?_) (by rfl) ?_ ?_;rotate_left;(focus intro v hSv;(try simp only[CL] at hSv);go_simp;(try with_reducible rfl);done);try simp only[pT]))
       refine qqL rfl (by rfl) (fun K hK=>?_)
       go_simp
       refine(HOFA.out wq.drew (zdd (Below.refl _ _))).mono ?_;rintro e w5 ⟨u,rfl,hu,hb5⟩;obtain⟨k9,n9,s9,oi9,mi9,ci9,ok9,mk9,ck9,rfl⟩:=hu.agg5;have hb5':Below wq.heap.size wq w5:=(zdd (Below.refl _ _)).trans (hb5.mono (nR _));have hc5:=CL.bel hc0 hb5;refine hK.out _ _ (hc5) ?_;clear hK K
       try simp only[pT]
       refine cR0 ?_;refine qqL rfl (by rfl) (fun K hK=>?_)
       go_simp
       have hba:Below w5.heap.size w5 (w5.alloc zero5):=zaa;have hoa:=zhh w5 zero5
       generalize w5.alloc zero5=w6 at *
       have hc6:=CL.bel hc5 hba;refine hK.out _ _ (hc6) ?_;clear hK K
       try simp only[pT]
       refine cR0 ?_;refine qqL rfl (by rfl) (fun K hK=>?_);refine zq 32 _ _ rfl w5.heap.size 0 [_,_,_,_,_] rfl rfl _ _ hoa (by simp) (by kernel_rfl) rfl ?_;intro w7 hz7 hc7;have hle5:wq.heap.size≤w5.heap.size:=hb5'.size;refine hK.out _ _ (CL.chg hc6 hc7 (fun x hx e=>by have h8:x.1<wq.heap.size:=HLT.out x hx;omega)) ?_;clear hK K hc5 hc6
       try simp only[pT]
       refine cR0 ?_;refine zn ?_
       go_wp2_with fail
       go_meet;have hGA:=GA.one HPQ.out hb5' hu hba hc7 hz7;exact⟨_,_,_,_,_,_,_,_,_,_,rfl,hid hGA⟩
      ·simp only[mv,List.take_succ_cons,List.take_zero,List.drop_succ_cons,List.drop_zero,List.cons_append,List.nil_append]
       refine cR0 ?_;refine qqL rfl (by rfl) (fun K hK=>?_)
       go_simp
       have hba:Below wq.heap.size wq (wq.alloc zero5).drew:=(zdd (Below.refl _ _)).alloc (nR _) _;have hba0:Below wq.drew.heap.size wq.drew (wq.alloc zero5).drew:=(Below.refl wq.drew.heap.size wq.drew).alloc (nR _) _;have hoa:(wq.alloc zero5).drew.heap[wq.heap.size]? = some zero5:=zhh wq zero5;have hc5:=CL.bel hc0 hba0
       generalize (wq.alloc zero5).drew=w4 at *
       refine hK.out _ _ (hc5) ?_;clear hK K
       try simp only[pT]
       refine cR0 ?_;refine qqL rfl (by rfl) (fun K hK=>?_)
       go_simp
       refine(HOFA.out w4 hba).mono ?_;rintro e w5 ⟨u,rfl,hu,hb5⟩;obtain⟨k9,n9,s9,oi9,mi9,ci9,ok9,mk9,ck9,rfl⟩:=hu.agg5;have hc6:=CL.bel hc5 hb5;have hoa5:=kO hoa hb5;refine hK.out _ _ (hc6) ?_;clear hK K
       try simp only[pT]
       refine cR0 ?_;refine qqL rfl (by rfl) (fun K hK=>?_);refine zq 32 _ _ rfl wq.heap.size 0 [_,_,_,_,_] rfl rfl _ _ hoa5 (by simp) (by kernel_rfl) rfl ?_;intro w7 hz7 hc7;refine hK.out _ _ (CL.chg hc6 hc7 (fun x hx e=>by have h8:x.1<wq.heap.size:=HLT.out x hx;omega)) ?_;clear hK K hc5 hc6
       try simp only[pT]
       refine cR0 ?_;refine zn ?_
       go_wp2_with fail
       go_meet;have hGA:=GA.two HPQ.out hba hb5 hu hc7 hz7;exact⟨_,_,_,_,_,_,_,_,_,_,rfl,hid hGA⟩
     case rest =>
     obtain⟨Y,k6,n6,s6,oi6,mi6,ci6,ok6,mk6,ck6,rfl,G⟩:=hcut;obtain⟨wr2,rfl⟩:∃ v,v=wc:=⟨_,rfl⟩;clear y0 y1 y2 y3 y4 p0 HOFA;have HYY:=hid (show Y2<Y from Nat.lt_of_lt_of_le (aS HO2.out).1 G.out.lo);have GZ:=hid (G.out.up BQ.out);have BR2:=hid GZ.out.bel;have HO22:=hid (kO HO2.out G.out.bel);have HBR2:=hT HBX BR2.out;have HBRD:=hid (show Below w.heap.size w wr2.drew from zdd HBR2.out);have hc:=CL.bel HC0.out (show Below wp.heap.size wp wr2.drew from zdd BR2.out);have HC1:=hid (rconf_any s a x P _ wr2.drew _ _ _ (HSC.out.bel HBRD.out) (HVQ.out.bel HBRD.out) (fun g hg=>Nat.lt_of_lt_of_le (HPL.out g hg) HBRD.out.size));clear G BQ HO2 HBQ HPQ
     go_upto_region 14 with (fail)
     go_cut [75] (fun cv wx=>cv=.bool (!cfgR s a x)∧Hid (Below wr2.heap.size wr2 wx))
     case first =>
      refine zss (CL _) (by kernel_rfl) (by kernel_rfl) (hc) ?_;refine cR0 ?_;refine qqL rfl (by rfl) (fun K hK=>?_)
      go_simp
      refine HC1.out.mono ?_;rintro e w5 ⟨rfl,hb5⟩;have HB5:=hid (show Below wr2.heap.size wr2 w5 from(zdd (Below.refl _ _)).trans (hb5.mono (nR _)));refine hK.out _ _ (CL.bel hc hb5) ?_;replace hc:=CL.bel hc hb5;clear hK K
      try simp only[pT]
      clear hb5;refine cR0 ?_;refine zn ?_;clear hc
      go_wp2_with fail
      go_meet;exact⟨rfl,HB5⟩
     case rest =>
     obtain⟨rfl,C5'⟩:=hcut;obtain⟨wr3,rfl⟩:∃ v,v=wc:=⟨_,rfl⟩;have GZ3:=hid (GZ.out.later C5'.out);have BR3:=hid GZ3.out.bel;have HO23:=hid (kO HO22.out C5'.out);clear hc HC1 GZ HO22 HBRD HBR2 BR2
     generalize cfgR s a x=cf at *
     go_upto_if 75 with (fail)
     go_cut [14] (fun pv wx=>∃ (k6 n6:Int) (s6:ByteArray) (oi6:Option Addr) (mi6 ci6:Nat) (ok6:Option Addr) (mk6 ck6:Nat),pv=.pointer (some ⟨Y,0,none⟩)∧Hid (GA P wp wx Y (.int .i64 k6) (.int .i64 n6) (.string s6) (.slice oi6 mi6 ci6) (.slice ok6 mk6 ck6) (itemR s b a x)))
     case first =>
      cases cf with
      | true =>
       have HIT2:=hid (HIT.out.trans (if_pos rfl));clear HIT
       go_wp2_with fail
       go_meet;exact⟨_,_,_,_,_,_,_,_,_,rfl,hid (by rw[HIT2.out];exact GZ3.out)⟩
      | false =>
      have HIT2:=hid (HIT.out.trans (if_neg (by decide)));have HBR3:=hT HBX BR3.out;have HBRD:=hid (show Below w.heap.size w wr3.drew from zdd HBR3.out);obtain⟨-,-,x0,x1,x2,x3,x4,-,-,-,-,-,p0,-⟩:=CL.bel HC0.out BR3.out;have hc:CL [(w.heap.size+1,0,.int .i64 kp),(w.heap.size+1,1,.int .i64 np),(w.heap.size+1,2,.string sp),(w.heap.size+1,3,.slice oip mip cip),(w.heap.size+1,4,.slice okp mkp ckp),(g,o+j,.string x)] wr3.drew:=CL.bel (show CL _ wr3 from⟨x0,x1,x2,x3,x4,p0,trivial⟩) (zdd (Below.refl _ _))
      have HLT2:Hid (∀ q∈([(w.heap.size+1,0,.int .i64 kp),(w.heap.size+1,1,.int .i64 np),(w.heap.size+1,2,.string sp),(w.heap.size+1,3,.slice oip mip cip),(w.heap.size+1,4,.slice okp mkp ckp),(g,o+j,.string x)]:List (Nat × Nat × Value)),q.1<wp.heap.size):=hid fun q hq=>HLTZ.out q (by
       simp only[List.mem_cons,List.not_mem_nil,or_false] at hq ⊢
       rcases hq with rfl|rfl|rfl|rfl|rfl|rfl <;> simp)
      have HOF:=hid (of_any b x P wr3.drew _ (HVP.out.bel HBRD.out) (fun g hg=>Nat.lt_of_lt_of_le (HPL.out g hg) HBRD.out.size));clear x0 x1 x2 x3 x4 p0 HIT
      go_upto_region 15 with (fail)
      refine zss (CL _) (by kernel_rfl) (by kernel_rfl) (hc) ?_;refine cR0 ?_;refine qqL rfl (by rfl) (fun K hK=>?_)
      go_simp
      refine HOF.out.mono ?_;rintro e w5 ⟨u,rfl,hu,hb5⟩;obtain⟨k7,n7,s7,oi7,mi7,ci7,ok7,mk7,ck7,rfl⟩:=hu.agg5;have HB5:=hid (show Below wr3.heap.size wr3 w5 from(zdd (Below.refl _ _)).trans (hb5.mono (nR _)));refine hK.out _ _ (CL.bel hc hb5) ?_;replace hc:=CL.bel hc hb5;clear hK K
      try simp only[pT]
      have G5:=hid (GZ3.out.later HB5.out);have HO25:=kH HO23 HB5.out;clear hb5 HOF;refine cR0 ?_;refine qqL rfl (by rfl) (fun K hK=>?_);refine zq 32 _ _ rfl Y 0 [_,_,_,_,_] rfl rfl _ _ G5.out.obj (by simp) (by kernel_rfl) rfl ?_;intro w7 hz7 hc7;have hlo:=G5.out.lo;refine hK.out _ _ (CL.chg hc hc7 (fun q hq e=>by have h8:=HLT2.out q hq;omega)) ?_;clear hK K
      try simp only[pT]
      refine cR0 ?_;refine zn ?_;have G7:=hid (G5.out.set HPZ.out hu hc7 hz7);have hcl:=CL.chg hc hc7 (fun q hq e=>by have h8:=HLT2.out q hq;omega);obtain⟨x0,-,-,-,-,-,-⟩:=hcl;have m7:=(cII ((hc7.block _ (aS HO25.out).1 (by have:=HYY.out;omega)).trans HO25.out) 7).trans rfl;clear hc hc7 hz7 hu hlo G5 HO25 GZ3 HO23
      by_cases k0:kp=0
      ·have HIT3:=hid (HIT2.out.trans (if_pos (.inl (HKB.out.trans k0))))
       obtain⟨t9a,t9b,t9c⟩:=tT k0;clear k0 HIT2
       go_wp2_with (refine zo rfl 32 _ _ rfl Y 0 [_,_,_,_,_] rfl rfl _ _ G7.out.obj (by simp) (by kernel_rfl) rfl ?_;intro w8 hz8 hc8)
       go_meet;exact⟨_,_,_,_,_,_,_,_,_,rfl,hid (by rw[HIT3.out];exact G7.out.set HPZ.out (VV.flat _ _ 6 0 ⟨#[]⟩ (by decide)) hc8 hz8)⟩
      ·have HK9:=hid k0
       obtain⟨t9a,t9b,t9c⟩:=tF k0;clear k0
       cases da with
       | false =>
        have HIT3:=hid (HIT2.out.trans (if_neg (by rintro (h|⟨h,-⟩);exact HK9.out (HKB.out.symm.trans h);rw[←DA2.out] at h;cases h)));clear HIT2
        go_wp2_with fail
        go_meet;exact⟨_,_,_,_,_,_,_,_,_,rfl,hid (by rw[HIT3.out];exact G7.out)⟩
       | true =>
       cases vo with
       | false =>
        have HIT3:=hid (HIT2.out.trans (if_neg (by rintro (h|⟨-,h⟩);exact HK9.out (HKB.out.symm.trans h);cases h)));clear HIT2
        go_wp2_with fail
        go_meet;exact⟨_,_,_,_,_,_,_,_,_,rfl,hid (by rw[HIT3.out];exact G7.out)⟩
       | true =>
        have HIT3:=hid (HIT2.out.trans (if_pos (.inr ⟨DA2.out.symm,rfl⟩)));clear HIT2
        go_wp2_with (refine zo rfl 32 _ _ rfl Y 0 [_,_,_,_,_] rfl rfl _ _ G7.out.obj (by simp) (by kernel_rfl) rfl ?_;intro w8 hz8 hc8)
        go_meet;exact⟨_,_,_,_,_,_,_,_,_,rfl,hid (by rw[HIT3.out];exact G7.out.set HPZ.out (VV.flat _ _ 6 0 ⟨#[]⟩ (by decide)) hc8 hz8)⟩
     case rest =>
     obtain⟨k6,n6,s6,oi6,mi6,ci6,ok6,mk6,ck6,rfl,G⟩:=hcut;obtain⟨wq,rfl⟩:∃ v,v=wc:=⟨_,rfl⟩;have R1:=hid (R.out.later G.out.bel);have HOY:=hid G.out.obj;have HVY:=hid G.out.vv;have HYL:=hid G.out.lo;have HRL:=hid (fun(gg:Nat) (e:(Value.slice ok mk ck).ownBlock=some gg)=>R.out.row.lt e);have h4:=(cII R1.out.obj 4).trans rfl;have p0:=zcc R1.out.chg (by have:=HG3.out;omega) P2.out;have R9:=hid R1.out.drew;clear HO23 GZ3 BR3 HC0 HLTZ G HIT
     go_upto_region 18 with (fail)
     refine zt 9 (fun v=>v.cell? ⟨n0+3,4,none⟩=some (.slice ok mk ck)∧v.cell? ⟨g,o+j,none⟩=some (.string x)) (by kernel_rfl) (by kernel_rfl) (⟨h4,p0⟩) ?_;simp only[List.take_succ_cons,List.take_zero,List.drop_succ_cons,List.drop_zero];refine cR1 ?_;refine qqL rfl (by rfl) (fun K hK=>?_)
     go_simp
     have hal:Below wq.drew.heap.size wq.drew (wq.drew.alloc (.cells #[.string x] 9)):=(Below.refl _ _).alloc (nR _) _;refine hK.out _ _ (⟨zbb (W:=wq.drew) hal h4,zbb (W:=wq.drew) hal p0⟩) ?_;clear hK K
     try simp only[pT]
     clear hal;refine qqL rfl (by rfl) (fun K hK=>?_);refine app_tag_wp (.tmp 94) (.tmp 99) 30 (by rfl) 9 (.string ⟨#[]⟩) 1 16 Tryz.underlying30 info9 (by rfl) (by decide) (by decide) _ _ _ R9.out.row.owns (by rfl) [.string x] wq.drew.heap.size (by rfl) (by rfl) (by rfl) (by simp[Value.oneCell']) (by have:=HLN.out;simp;omega) ?_;intro v9 w9 hown9 hc9 hp9 hne9;obtain⟨o9,n9',c9,rfl⟩:=zw hown9;have hX9:=(hc9.block _ R9.out.lt R9.out.kX).trans R9.out.obj;refine hK.out _ _ ⟨zcc hc9 R9.out.kX h4,zcc hc9 (fun e=>by have:=(R9.out.rown _ e).1;have:=HG3.out;omega) p0⟩ ?_;clear hK K
     try simp only[pT]
     clear h4 p0;refine cR1 ?_;refine zn ?_;refine z1s rfl 30 _ _ rfl (n0+3) 4 _ rfl rfl _ _ hX9 (by simp) (by kernel_rfl) rfl ?_;intro wk hzk hck;have RK:=hid (R9.out.pushK (owns_row (l:=_++[x]) (by rw[strs,List.map_append];exact hown9) (by simp)) (snoc_str R9.out.str HXS.out) hp9 hc9 hck hzk)
     have hYX:n0+3<Y:=by have h1:=R.out.lt;have h2:=HYL.out;omega
     have HO9:=hid ((hc9.block Y (aS HOY.out).1 (fun e=>by have h1:=HRL.out _ e;have h2:=HYL.out;omega)).trans (show wq.drew.heap[Y]? = _ from HOY.out));have HOYk:=hid ((hck.block Y (aS HO9.out).1 (by omega)).trans HO9.out);have HVYk:=hid (((HVY.out.bel (zdd (Below.refl _ _))).keep (ZK.chg hc9 fun gg hg e=>by have h1:=(R9.out.rown _ e).1;have h2:=R9.out.hP gg hg;omega) fun _ h=>h).keep (ZK.chg hck fun gg hg e=>by have h2:=R9.out.hP gg hg;omega) fun _ h=>h);clear hown9 hc9 hp9 hne9 hX9 hck hzk R9 HO9 hYX HOY HVY HYL HRL;have o3:=(cII RK.out.obj 3).trans rfl;obtain⟨e0,e1,e2,e3,e4⟩:=C5.of HOYk.out
     go_upto_region 11 with (first|(at_builtin;obtain⟨rs,hm,hl2,he4⟩:=RK.out.items;refine app_tag (by rfl) (.tmp 103) (.tmp 105) 29 (by rfl) 32 (.agg #[.int .i64 0,.int .i64 0,.string ⟨#[]⟩,.slice none 0 0,.slice none 0 0]) 5 80 Tryz.underlying29 infoV (by rfl) (by decide) (by decide) _ _ _ hm.1 (by rfl) [.int .i64 k6,.int .i64 n6,.string s6,.slice oi6 mi6 ci6,.slice ok6 mk6 ck6] wk.heap.size (by rfl) (by rfl) (by rfl) (by simp[Value.oneCell']) (by have:=HLN.out;simp;omega) ?_;intro v9 w9 hown9 hc9 hp9 hne9;obtain⟨o8,n8,c8,rfl⟩:=zw hown9;have hX9:=(hc9.block _ RK.out.lt RK.out.iX).trans RK.out.obj;have HOW:=hid (RK.out.item (r:=(.int .i64 k6,.int .i64 n6,.string s6,.slice oi6 mi6 ci6,.slice ok6 mk6 ck6)) hm hl2 he4 hown9 HVYk.out hp9 hc9);clear hm hl2 he4)|(refine z1s rfl 29 _ _ rfl (n0+3) 3 _ rfl rfl _ _ hX9 (by simp) (by kernel_rfl) rfl ?_;intro wl hz10 hc10))
     have RI:=hid (RK.out.pushI HOW.out hp9 hc9 hc10 hz10);clear hown9 hc9 hp9 hne9 hX9 hz10 hc10 o3 e0 e1 e2 e3 e4 HOW HVYk HOYk RK
     go_wp2_with fail
     go_roundw
     case rel=>exact⟨j+1,_,_,_,_,_,_,by omega,by go_num,by rw[HTK.out.1,HTK.out.2];exact RI⟩
     case measure=>simp[intOf];omega
    ·rw[List.take_of_length_le (by omega)] at R
     have HXZ5:=hid (R.out.old (by omega) HXZ4.out);obtain⟨e0,e1,e2,e3,e4⟩:=C5.of R.out.obj;have HVW:=hid (R.out.view (by rw[List.length_map];have:=HNL.out;omega) (by have:=HNL.out;omega))
     go_wp2_with (refine zo rfl 32 _ _ rfl (w.heap.size+3) 0 [_,_,_,_,_] rfl rfl _ _ HXZ5.out (by simp) (by kernel_rfl) rfl ?_;intro ws hzs hcs)
     try simp only[Exit.inBlock,Exit.then]
     refine bodyPost_ret (results_cell_row rfl _ ws (w.heap.size+3) 32 _ (0,0) _ rfl hzs Tryz.underlying32 rfl (by kernel_rfl)) rfl ?_;exact⟨_,rfl,by rw[HRES.out];exact HVW.out.keep (ZK.chg hcs fun gg hg e=>by rcases hg with h|h;(have:=HPL.out gg h;omega);omega) fun gg hg=>hg.imp id fun h=>by omega,HBX.out.trans (zgg hcs (fun k hk=>by omega) HBX.out.size)⟩
end Go.Proofs.YtibiiafcnaijeaaGreat
