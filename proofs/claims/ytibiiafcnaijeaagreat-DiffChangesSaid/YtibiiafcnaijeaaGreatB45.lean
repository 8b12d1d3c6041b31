/- A part. -/
import Derived.Test.YtibiiafcnaijeaaGreatB00
import Derived.Test.YtibiiafcnaijeaaGreatB44
import Derived.Test.YtibiiafcnaijeaaGreatB19
import Derived.Test.YtibiiafcnaijeaaGreatB25
namespace Go.Proofs.YtibiiafcnaijeaaGreat
open Go Go.RowKit Go.Proofs.YtibiiafcnaijeaaGreat.Steady
set_option linter.unusedVariables false
set_option linter.unusedSimpArgs false
set_option maxRecDepth 100000
set_option maxHeartbeats 40000000
def modeA:Option At→Int
 | none=>0
 | some a=>a.mode
def repA:Option At→Bool
 | none=>false
 | some a=>a.rep
def volA:Option At→Bool
 | none=>false
 | some a=>a.vol
def repNe:Option Ne→Bool
 | none=>false
 | some n=>n.rep
def replacedR (s:Sc) (b a:Vl):List ByteArray:=(changedR s b a).filter (repS s)
theorem RAtPost.flags {P:Nat→Prop}{w0:World}{o:Option At}{w w':World}{e:Ending}(h:RAtPost P w0 o w e w') :
  ∃ z0 z1 z2 z3 z4 z5 z6 z7 md z9 za zb,e=.returned (.tuple #[.agg #[.string z0,.int .i64 z1,.slice z2 z3 z4,.slice z5 z6 z7,.int .i64 md,.bool z9,.bool za,.bool zb],.bool o.isSome])∧Below w.heap.size w w'∧md=modeA o∧z9=repA o∧zb=volA o:=by
 obtain⟨u,rfl,hb,hy,hn⟩:=h
 cases o with
 | none=>exact⟨⟨#[]⟩,0,none,0,0,none,0,0,0,false,false,false,by rw[hn rfl],hb,rfl,rfl,rfl⟩
 | some a =>
  obtain⟨k,oe,me,ce,on2,mn2,cn2,e,-,-⟩:=hy a rfl;exact⟨a.name,k,oe,me,ce,on2,mn2,cn2,a.mode,a.rep,a.sens,a.vol,by rw[e],hb,rfl,rfl,rfl⟩
theorem RNePost.flag {P:Nat→Prop}{w0:World}{o:Option Ne}{w w':World}{e:Ending}(h:RNePost P w0 o w e w') :
  ∃ nm mn mx oa ma ca rp,e=.returned (.tuple #[.agg #[.string nm,.int .i64 mn,.int .i64 mx,.slice oa ma ca,.bool rp],.bool o.isSome])∧Below w.heap.size w w'∧rp=repNe o:=by
 obtain⟨nm,mn,mx,oa,ma,ca,rp,e,hb,hy,hn⟩:=h;refine⟨nm,mn,mx,oa,ma,ca,rp,e,hb,?_⟩
 cases o with
 | none=>exact hn rfl
 | some n=>exact(hy n rfl).2.2.2.1
structure GB (w0 wx:World) (Y T:Nat) (cs:List Value):Prop where
 bel:Below w0.heap.size w0 wx
 lo:w0.heap.size≤Y
 obj:wx.heap[Y]? = some (.cells cs.toArray T)
theorem GB.one {w0 w5 w6 w7:World}{T:Nat}{cs:List Value}(hb:Below w0.heap.size w0 w5) (hba:Below w5.heap.size w5 w6) (hc:Chg (fun k=>k=w5.heap.size) w6 w7) (hz:w7.heap[w5.heap.size]? = some (.cells cs.toArray T)):GB w0 w7 w5.heap.size T cs:=by
 have hs:=hb.size;have h6:=hba.size;exact⟨(hb.trans (hba.mono hb.size)).trans (zgg hc (fun k hk=>by omega) (by omega)),hs,hz⟩
theorem GB.two {w0 w1 w5 w7:World}{T:Nat}{cs:List Value}(h1:Below w0.heap.size w0 w1) (hb:Below w1.heap.size w1 w5) (hc:Chg (fun k=>k=w0.heap.size) w5 w7) (hz:w7.heap[w0.heap.size]? = some (.cells cs.toArray T)):GB w0 w7 w0.heap.size T cs:=by
 have hs:=h1.size;have h6:=hb.size;exact⟨(h1.trans (hb.mono h1.size)).trans (zgg hc (fun k hk=>by omega) (by omega)),nR _,hz⟩
theorem rchanged_any (s:Sc) (b a:Vl) (P Q R:Nat→Prop) (w:World) (va vn x y:Value) (hs:SCV P w va vn s) (hp:VV Q w x b) (hq:VV R w y a) (hQ:∀ g,Q g→g<w.heap.size) (hR:∀ g,R g→g<w.heap.size) (hok:TyOk s) :
  Calls Tryz.prog 48 #[.agg #[va,vn],x,y] w (FreshS (changedR s b a) w):=by
 obtain⟨oa,ca,rfl⟩:=hs.1.len;obtain⟨on,cn,rfl⟩:=hs.2.len;obtain⟨kp,np,sp,oip,mip,cip,okp,mkp,ckp,rfl⟩:=hp.agg5;obtain⟨kq,nq,sq,oiq,miq,ciq,okq,mkq,ckq,rfl⟩:=hq.agg5;generalize hA:((w.alloc (.cells #[.slice oa s.attrs.length ca,.slice on s.nested.length cn] 25)).alloc (.cells #[.int .i64 kp,.int .i64 np,.string sp,.slice oip mip cip,.slice okp mkp ckp] 32)).alloc (.cells #[.int .i64 kq,.int .i64 nq,.string sq,.slice oiq miq ciq,.slice okq mkq ckq] 32)=wd
 obtain⟨hb,h0,h1,h2⟩:Below w.heap.size w wd∧wd.heap[w.heap.size]? = some (.cells #[.slice oa s.attrs.length ca,.slice on s.nested.length cn] 25)∧wd.heap[w.heap.size+1]? = some (.cells #[.int .i64 kp,.int .i64 np,.string sp,.slice oip mip cip,.slice okp mkp ckp] 32)∧wd.heap[w.heap.size+2]? = some (.cells #[.int .i64 kq,.int .i64 nq,.string sq,.slice oiq miq ciq,.slice okq mkq ckq] 32):=by
  rw[←hA];exact boxes3 w _ _ _
 have HA:=hid hA;have HB:=hid hb;have HVP:=hid hp;have HVQ:=hid hq;have HQ:=hid hQ;have HR:=hid hR;have HXB:=hid h1;have HXC:=hid h2;have HNC:=hid (rnames_any s P wd _ _ (hs.bel hb) hok);have HNL:=hid (show(namesR s).length≤2000 by unfold namesR;rw[List.length_map,mergeR_len];have:=hok.1;have:=hok.2.1;omega);have HRES:=hid (show changedR s b a=(namesR s).filter fun x=>differV (ofR b x) (ofR a x) from rfl);have a0:=(cII h0 0).trans rfl;have a1:=(cII h0 1).trans rfl;clear hA hb h0 h1 h2 hs hp hq hQ hR hok;have hnl:=HNL.out
 generalize namesR s=ns at *
 go_enter Tryz.func48,Tryz.ntmps48
 go_upto_region 1 with (fail)
 rw[HA.out]
 go_wp2_with fail
 clear a0 a1;refine HNC.out.mono ?_;rintro e w2 ⟨u,rfl,hu,hb2⟩;obtain⟨ou,cu,rfl⟩:=hu.len;have HN:=hid hu;have HB2:=hT HB hb2;have HXB2:=kH HXB hb2;have HXC2:=kH HXC hb2;clear hu hb2 HNC
 go_wp2_with fail
 go_loopw [8,9] (fun o i wr=>∃ (j:Nat) (oo:Option Addr) (mo co:Nat),j≤ns.length∧o=.slice oo mo co∧i=.int .i64 j∧Hid (FL w2.heap.size w2 wr (.slice oo mo co) ((ns.take j).filter fun x=>differV (ofR b x) (ofR a x)))) (fun _ i _=>ns.length - (intOf i).toNat)
 case atStart=>exact⟨0,_,_,_,Nat.zero_le _,rfl,rfl,hid ⟨Below.refl _ _,nR _,.inl ⟨rfl,rfl⟩,(fun g e=>by cases e),(fun s h=>by cases h)⟩⟩
 case round =>
  obtain⟨j,oo,mo,co,hj,rfl,rfl,F⟩:=hrel
  by_cases hlt:j<ns.length
  ·obtain⟨g,o,c,e1,p2⟩:=HN.out.at hlt
   cases e1
   have hj0:(0:Int)≤(j:Int):=by omega
   have hj1:(j:Int)<(ns.length:Int):=by omega
   have HTK:=hid (filter_take (fun x=>differV (ofR b x) (ofR a x)) ns hlt);have HXS:=hid (HN.out.2 ns[j] (lM hlt))
   have HLF:=hid (show((ns.take j).filter fun x=>differV (ofR b x) (ofR a x)).length≤2000 by
    have h1:=List.length_filter_le (fun x=>differV (ofR b x) (ofR a x)) (ns.take j);have h2:=List.length_take_le j ns;have h3:=HNL.out
    omega)
   generalize ns[j]=x at *
   generalize (ns.take j).filter (fun x=>differV (ofR b x) (ofR a x))=l at *
   have P2:=hid p2;have HBR:=hid (HB2.out.trans (F.out.bel.mono HB2.out.size));have p0:=zbb F.out.bel p2;obtain⟨x0,x1,x2,x3,x4⟩:=C5.of (kO HXB2.out F.out.bel);obtain⟨y0,y1,y2,y3,y4⟩:=C5.of (kO HXC2.out F.out.bel);have HBD:=hid (show Below w.heap.size w wr.drew from zdd HBR.out);have hc:CL [(w.heap.size+1,0,.int .i64 kp),(w.heap.size+1,1,.int .i64 np),(w.heap.size+1,2,.string sp),(w.heap.size+1,3,.slice oip mip cip),(w.heap.size+1,4,.slice okp mkp ckp),(w.heap.size+2,0,.int .i64 kq),(w.heap.size+2,1,.int .i64 nq),(w.heap.size+2,2,.string sq),(w.heap.size+2,3,.slice oiq miq ciq),(w.heap.size+2,4,.slice okq mkq ckq),(g,o+j,.string x)] wr.drew:=CL.bel (show CL _ wr from⟨x0,x1,x2,x3,x4,y0,y1,y2,y3,y4,p0,trivial⟩) (zdd (Below.refl _ _));have HC1:=hid (of_any b x Q wr.drew _ (HVP.out.bel HBD.out) (fun g hg=>Nat.lt_of_lt_of_le (HQ.out g hg) HBD.out.size))
   have HBW:=hid (show Below wr.heap.size wr wr.drew from zdd (Below.refl _ _));clear p2 p0 x0 x1 x2 x3 x4 y0 y1 y2 y3 y4
   go_wp2_with fail
   refine zss (CL _) (by kernel_rfl) (by kernel_rfl) (hc) ?_;refine cR0 ?_;refine qqL rfl (by rfl) (fun K hK=>?_)
   go_simp
   refine HC1.out.mono ?_;rintro e w3 ⟨u1,rfl,hu1,hb3⟩;obtain⟨k3,n3,s3,oi3,mi3,ci3,ok3,mk3,ck3,rfl⟩:=hu1.agg5;have HU1:=hid hu1;have HB3:=hT HBD hb3;have HBW3:=hT HBW hb3;have HC2:=hid (of_any a x R w3 _ (HVQ.out.bel HB3.out) (fun g hg=>Nat.lt_of_lt_of_le (HR.out g hg) HB3.out.size));refine hK.out _ _ (CL.bel hc hb3) ?_;replace hc:=CL.bel hc hb3;clear hK K
   try simp only[pT]
   clear hu1 hb3 HC1;refine cR0 ?_;refine qqL rfl (by rfl) (fun K hK=>?_)
   go_simp
   refine HC2.out.mono ?_;rintro e w4 ⟨u2,rfl,hu2,hb4⟩;obtain⟨k4,n4,s4,oi4,mi4,ci4,ok4,mk4,ck4,rfl⟩:=hu2.agg5;have HC3:=hid (rdiffer_any (ofR b x) (ofR a x) _ _ w4 _ _ (HU1.out.bel hb4) hu2);have HB4:=hT HB3 hb4;have HBW4:=hT HBW3 hb4;refine hK.out _ _ (CL.bel hc hb4) ?_;replace hc:=CL.bel hc hb4;clear hK K
   try simp only[pT]
   clear hu2 hb4 HC2 HU1;obtain⟨df,hdf⟩:∃ df,differV (ofR b x) (ofR a x)=df:=⟨_,rfl⟩;rw[hdf] at HC3;simp only[hdf] at HTK;clear hdf;refine cR0 ?_;refine qqL rfl (by rfl) (fun K hK=>?_)
   go_simp
   refine HC3.out.mono ?_;rintro e w5 ⟨rfl,hb5⟩;have F5:=hid (F.out.later (HBW4.out.trans (hb5.mono HBW4.out.size)));refine hK.out _ _ (CL.bel hc hb5) ?_;replace hc:=CL.bel hc hb5;clear hK K
   try simp only[pT]
   clear hb5 HC3;refine cR0 ?_;refine zn ?_;clear hc
   cases df with
   | false =>
    rw[if_neg (by decide)] at HTK
    go_wp2_with fail
    go_roundw
    case rel=>exact⟨j+1,_,_,_,by omega,rfl,by go_num,by rw[HTK.out];exact F5⟩
    case measure=>simp[intOf];omega
   | true =>
    rw[if_pos rfl] at HTK;have p0:=zbb F5.out.bel P2.out
    go_upto_region 5 with (at_builtin;refine app_tag (by rfl) (.tmp 31) (.tmp 36) 30 (by rfl) 9 (.string ⟨#[]⟩) 1 16 Tryz.underlying30 info9 rfl (by decide) (by decide) _ _ _ F5.out.row.owns (by rfl) [.string x] w5.heap.size (by rfl) (by rfl) (by rfl) (by simp[Value.oneCell']) (by have:=HLF.out;omega) ?_;intro v9 w9 hown9 hc9 hp9 hne9;obtain⟨o9,n9,c9,rfl⟩:=zw hown9;have HF9:=hid (F5.out.push HXS.out hown9 hc9 hp9);clear hown9 hc9 hp9 hne9)
    clear p0
    go_wp2_with fail
    go_roundw
    case rel=>exact⟨j+1,_,_,_,by omega,rfl,by go_num,by rw[HTK.out];exact HF9⟩
    case measure=>simp[intOf];omega
  ·rw[List.take_of_length_le (by omega),←HRES.out] at F
   have HLC:=hid (show(changedR s b a).length≤2000 by rw[HRES.out];have h1:=List.length_filter_le (fun x=>differV (ofR b x) (ofR a x)) ns;have:=HNL.out;omega);have HB3:=hid (HB2.out.trans (F.out.bel.mono HB2.out.size))
   go_wp2_with fail
   go_ret;exact⟨_,rfl,F.out.row.sv (fun g e=>by have:=F.out.own g e;have:=HB2.out.size;omega) (by have:=HLC.out;omega) F.out.str,HB3.out⟩
theorem rreplaced_any (s:Sc) (b a:Vl) (P Q R:Nat→Prop) (w:World) (va vn x y:Value) (hs:SCV P w va vn s) (hp:VV Q w x b) (hq:VV R w y a) (hQ:∀ g,Q g→g<w.heap.size) (hR:∀ g,R g→g<w.heap.size) (hok:TyOk s) :
  Calls Tryz.prog 46 #[.agg #[va,vn],x,y] w (FreshS (replacedR s b a) w):=by
 obtain⟨oa,ca,rfl⟩:=hs.1.len;obtain⟨on,cn,rfl⟩:=hs.2.len;obtain⟨kp,np,sp,oip,mip,cip,okp,mkp,ckp,rfl⟩:=hp.agg5;obtain⟨kq,nq,sq,oiq,miq,ciq,okq,mkq,ckq,rfl⟩:=hq.agg5;generalize hA:((w.alloc (.cells #[.slice oa s.attrs.length ca,.slice on s.nested.length cn] 25)).alloc (.cells #[.int .i64 kp,.int .i64 np,.string sp,.slice oip mip cip,.slice okp mkp ckp] 32)).alloc (.cells #[.int .i64 kq,.int .i64 nq,.string sq,.slice oiq miq ciq,.slice okq mkq ckq] 32)=wd
 obtain⟨hb,h0,h1,h2⟩:Below w.heap.size w wd∧wd.heap[w.heap.size]? = some (.cells #[.slice oa s.attrs.length ca,.slice on s.nested.length cn] 25)∧wd.heap[w.heap.size+1]? = some (.cells #[.int .i64 kp,.int .i64 np,.string sp,.slice oip mip cip,.slice okp mkp ckp] 32)∧wd.heap[w.heap.size+2]? = some (.cells #[.int .i64 kq,.int .i64 nq,.string sq,.slice oiq miq ciq,.slice okq mkq ckq] 32):=by
  rw[←hA];exact boxes3 w _ _ _
 have HA:=hid hA;have HB:=hid hb;have HSC:=hid hs;have HXA:=hid h0;have HNC:=hid (rchanged_any s b a P Q R wd _ _ _ _ (hs.bel hb) (hp.bel hb) (hq.bel hb) (fun g hg=>Nat.lt_of_lt_of_le (hQ g hg) hb.size) (fun g hg=>Nat.lt_of_lt_of_le (hR g hg) hb.size) hok)
 have HNL:=hid (show(changedR s b a).length≤2000 by
  unfold changedR;have h3:=List.length_filter_le (fun x=>differV (ofR b x) (ofR a x)) (namesR s)
  have h4:(namesR s).length≤2000:=by unfold namesR;rw[List.length_map,mergeR_len];have:=hok.1;have:=hok.2.1;omega
  omega)
 have HRES:=hid (show replacedR s b a=(changedR s b a).filter (repS s) from rfl);have a0:=(cII h0 0).trans rfl;have a1:=(cII h0 1).trans rfl;obtain⟨x0,x1,x2,x3,x4⟩:=C5.of h1;obtain⟨y0,y1,y2,y3,y4⟩:=C5.of h2;clear hA hb h0 h1 h2 hs hp hq hQ hR hok;have hnl:=HNL.out
 generalize changedR s b a=ns at *
 go_enter Tryz.func46,Tryz.ntmps46
 go_upto_region 1 with (fail)
 rw[HA.out]
 go_wp2_with fail
 clear a0 a1 x0 x1 x2 x3 x4 y0 y1 y2 y3 y4;refine HNC.out.mono ?_;rintro e w2 ⟨u,rfl,hu,hb2⟩;obtain⟨ou,cu,rfl⟩:=hu.len;have HN:=hid hu;have HB2:=hT HB hb2;have HXA2:=kH HXA hb2;clear hu hb2 HNC
 go_wp2_with fail
 go_loopw [8,9] (fun o i wr=>∃ (j:Nat) (oo:Option Addr) (mo co:Nat),j≤ns.length∧o=.slice oo mo co∧i=.int .i64 j∧Hid (FL w2.heap.size w2 wr (.slice oo mo co) ((ns.take j).filter (repS s)))) (fun _ i _=>ns.length - (intOf i).toNat)
 case atStart=>exact⟨0,_,_,_,Nat.zero_le _,rfl,rfl,hid ⟨Below.refl _ _,nR _,.inl ⟨rfl,rfl⟩,(fun g e=>by cases e),(fun s h=>by cases h)⟩⟩
 case round =>
  obtain⟨j,oo,mo,co,hj,rfl,rfl,F⟩:=hrel
  by_cases hlt:j<ns.length
  ·obtain⟨g,o,c,e1,p2⟩:=HN.out.at hlt
   cases e1
   have hj0:(0:Int)≤(j:Int):=by omega
   have hj1:(j:Int)<(ns.length:Int):=by omega
   have HTK:=hid (filter_take (repS s) ns hlt);have HXS:=hid (HN.out.2 ns[j] (lM hlt))
   have HLF:=hid (show((ns.take j).filter (repS s)).length≤2000 by
    have h1:=List.length_filter_le (repS s) (ns.take j);have h2:=List.length_take_le j ns;have h3:=HNL.out
    omega)
   generalize ns[j]=x at *
   generalize (ns.take j).filter (repS s)=l at *
   have P2:=hid p2;have HBR:=hid (HB2.out.trans (F.out.bel.mono HB2.out.size));have HXA3:=hid (kO HXA2.out F.out.bel);have p0:=zbb F.out.bel p2;have n0:=(cII HXA3.out 0).trans rfl;clear p2
   have HAT:Hid (∀ W,Below wr.heap.size wr W→Calls Tryz.prog 53 #[.slice oa s.attrs.length ca,.string x] W (fun e w'=>∃ z0 z1 z2 z3 z4 z5 z6 z7 md z9 za zb,e=.returned (.tuple #[.agg #[.string z0,.int .i64 z1,.slice z2 z3 z4,.slice z5 z6 z7,.int .i64 md,.bool z9,.bool za,.bool zb],.bool (fndA s.attrs x).isSome])∧Below W.heap.size W w'∧md=modeA (fndA s.attrs x)∧z9=repA (fndA s.attrs x)∧zb=volA (fndA s.attrs x))):=hid fun W hb=>(rAttr_any s.attrs x P w W _ HSC.out.1 (HBR.out.trans (hb.mono HBR.out.size))).mono fun e w' h=>h.flags
   have HNE:Hid (∀ W,Below wr.heap.size wr W→Calls Tryz.prog 59 #[.agg #[.slice oa s.attrs.length ca,.slice on s.nested.length cn],.string x] W (fun e w'=>∃ nm mn mx oa ma ca rp,e=.returned (.tuple #[.agg #[.string nm,.int .i64 mn,.int .i64 mx,.slice oa ma ca,.bool rp],.bool (fndK s.nested x).isSome])∧Below W.heap.size W w'∧rp=repNe (fndK s.nested x))):=hid fun W hb=>(rnested_any s x P w W _ _ HSC.out (HBR.out.trans (hb.mono HBR.out.size))).mono fun e w' h=>h.flag
   have HRP:Hid (repS s x=(repA (fndA s.attrs x)||repNe (fndK s.nested x))):=hid (by
    unfold repS repA repNe
    cases fndA s.attrs x <;> cases fndK s.nested x <;> rfl)
   generalize (fndA s.attrs x).isSome=ia at *
   generalize (fndK s.nested x).isSome=ik at *
   generalize repA (fndA s.attrs x)=ra at *
   generalize repNe (fndK s.nested x)=rk at *
   generalize modeA (fndA s.attrs x)=md0 at *
   generalize volA (fndA s.attrs x)=vo at *
   go_upto_region 6 with (fail)
   obtain⟨wp,rfl⟩:∃ v,v=wr:=⟨_,rfl⟩
   go_cut [10] (fun pv wx=>∃ (Y:Nat) (z0:ByteArray) (z1:Int) (z2:Option Addr) (z3 z4:Nat) (z5:Option Addr) (z6 z7:Nat) (za:Bool),pv=.pointer (some ⟨Y,0,none⟩)∧Hid (GB wp wx Y 64 [.string z0,.int .i64 z1,.slice z2 z3 z4,.slice z5 z6 z7,.int .i64 md0,.bool ra,.bool za,.bool vo]))
   case first =>
    have hc0:CL [(w.heap.size,0,.slice oa s.attrs.length ca),(g,o+j,.string x)] wp.drew:=CL.bel (show CL _ wp from⟨n0,p0,trivial⟩) (zdd (Below.refl _ _));have HLT:=hid (CL.lt hc0);refine wp_region_free 10 6 6 (CL _) (by kernel_rfl) (by kernel_rfl) hc0 ?_ ?_
    ·repeat (first
      | (refine qqK (by rfl) ?_;try simp only[pT])
      | (refine qqC (v:=?_) (by rfl) ?_ ?_;rotate_left;(focus intro v hSv;(try simp only[CL] at hSv);go_simp;(try with_reducible rfl);done);try simp only[pT]))
     refine qqL rfl (by rfl) (fun K hK=>?_)
     go_simp
     refine(HAT.out wp.drew (zdd (Below.refl _ _))).mono ?_;rintro e w5 ⟨z0,z1,z2,z3,z4,z5,z6,z7,z8,z9,za,zb,rfl,hb5,hf1,hf2,hf3⟩;subst hf1;subst hf2;subst hf3;have hb5':Below wp.heap.size wp w5:=(zdd (Below.refl _ _)).trans (hb5.mono (nR _));have hc5:=CL.bel hc0 hb5;refine hK.out _ _ (hc5) ?_;clear hK K
     try simp only[pT]
     refine cR0 ?_;refine qqL rfl (by rfl) (fun K hK=>?_)
     go_simp
     have hba:Below w5.heap.size w5 (w5.alloc zero8):=zaa;have hoa:=zhh w5 zero8
     generalize w5.alloc zero8=w6 at *
     have hc6:=CL.bel hc5 hba;refine hK.out _ _ (hc6) ?_;clear hK K
     try simp only[pT]
     refine cR0 ?_;refine qqL rfl (by rfl) (fun K hK=>?_);refine zq 64 _ _ rfl w5.heap.size 0 [_,_,_,_,_,_,_,_] rfl rfl _ _ hoa (by simp) (by kernel_rfl) rfl ?_;intro w7 hz7 hc7;have hle5:wp.heap.size≤w5.heap.size:=hb5'.size;refine hK.out _ _ (CL.chg hc6 hc7 (fun x hx e=>by have h8:x.1<wp.heap.size:=HLT.out x hx;omega)) ?_;clear hK K hc5 hc6
     try simp only[pT]
     refine cR0 ?_;refine zn ?_
     go_wp2_with fail
     go_meet;have hGB:=GB.one hb5' hba hc7 hz7;exact⟨_,_,_,_,_,_,_,_,_,_,rfl,hid hGB⟩
    ·simp only[mv,List.take_succ_cons,List.take_zero,List.drop_succ_cons,List.drop_zero,List.cons_append,List.nil_append]
     refine cR0 ?_;refine qqL rfl (by rfl) (fun K hK=>?_)
     go_simp
     have hba:Below wp.heap.size wp (wp.alloc zero8).drew:=(zdd (Below.refl _ _)).alloc (nR _) _;have hba0:Below wp.drew.heap.size wp.drew (wp.alloc zero8).drew:=(Below.refl wp.drew.heap.size wp.drew).alloc (nR _) _;have hoa:(wp.alloc zero8).drew.heap[wp.heap.size]? = some zero8:=zhh wp zero8;have hc5:=CL.bel hc0 hba0
     generalize (wp.alloc zero8).drew=w4 at *
     refine hK.out _ _ (hc5) ?_;clear hK K
     try simp only[pT]
     refine cR0 ?_;refine qqL rfl (by rfl) (fun K hK=>?_)
     go_simp
     refine(HAT.out w4 hba).mono ?_;rintro e w5 ⟨z0,z1,z2,z3,z4,z5,z6,z7,z8,z9,za,zb,rfl,hb5,hf1,hf2,hf3⟩;subst hf1;subst hf2;subst hf3;have hc6:=CL.bel hc5 hb5;have hoa5:=kO hoa hb5;refine hK.out _ _ (hc6) ?_;clear hK K
     try simp only[pT]
     refine cR0 ?_;refine qqL rfl (by rfl) (fun K hK=>?_);refine zq 64 _ _ rfl wp.heap.size 0 [_,_,_,_,_,_,_,_] rfl rfl _ _ hoa5 (by simp) (by kernel_rfl) rfl ?_;intro w7 hz7 hc7;refine hK.out _ _ (CL.chg hc6 hc7 (fun x hx e=>by have h8:x.1<wp.heap.size:=HLT.out x hx;omega)) ?_;clear hK K hc5 hc6
     try simp only[pT]
     refine cR0 ?_;refine zn ?_
     go_wp2_with fail
     go_meet;have hGB:=GB.two hba hb5 hc7 hz7;exact⟨_,_,_,_,_,_,_,_,_,_,rfl,hid hGB⟩
   case rest =>
   obtain⟨Y,z0,z1,z2,z3,z4,z5,z6,z7,za,rfl,G⟩:=hcut;obtain⟨wq,rfl⟩:∃ v,v=wc:=⟨_,rfl⟩;have F2:=hid (F.out.later G.out.bel);have HO:=hid G.out.obj;have HXA4:=hid (kO HXA3.out G.out.bel);have p1:=zbb G.out.bel p0
   have HNE2:Hid (∀ W,Below wq.heap.size wq W→Calls Tryz.prog 59 #[.agg #[.slice oa s.attrs.length ca,.slice on s.nested.length cn],.string x] W (fun e w'=>∃ nm mn mx oa ma ca rp,e=.returned (.tuple #[.agg #[.string nm,.int .i64 mn,.int .i64 mx,.slice oa ma ca,.bool rp],.bool ik])∧Below W.heap.size W w'∧rp=rk)):=hid fun W hb=>HNE.out W (G.out.bel.trans (hb.mono G.out.bel.size))
   clear p0 n0 F G HAT HNE;have n0:=(cII HXA4.out 0).trans rfl;have n1:=(cII HXA4.out 1).trans rfl
   go_upto_region 7 with (fail)
   obtain⟨wp,rfl⟩:∃ v,v=wq:=⟨_,rfl⟩
   go_cut [12] (fun pv wx=>∃ (Y2:Nat) (z0:ByteArray) (z1 z2:Int) (z3:Option Addr) (z4 z5:Nat),pv=.pointer (some ⟨Y2,0,none⟩)∧Hid (GB wp wx Y2 102 [.string z0,.int .i64 z1,.int .i64 z2,.slice z3 z4 z5,.bool rk]))
   case first =>
    have hc0:CL [(w.heap.size,0,.slice oa s.attrs.length ca),(w.heap.size,1,.slice on s.nested.length cn),(g,o+j,.string x)] wp.drew:=CL.bel (show CL _ wp from⟨n0,n1,p1,trivial⟩) (zdd (Below.refl _ _));have HLT:=hid (CL.lt hc0);refine wp_region_free 9 5 5 (CL _) (by kernel_rfl) (by kernel_rfl) hc0 ?_ ?_
    ·repeat (first
      | (refine qqK (by rfl) ?_;try simp only[pT])
      | (refine qqC (v:=?_) (by rfl) ?_ ?_;rotate_left;(focus intro v hSv;(try simp only[CL] at hSv);go_simp;(try with_reducible rfl);done);try simp only[pT]))
     refine qqL rfl (by rfl) (fun K hK=>?_)
     go_simp
     refine(HNE2.out wp.drew (zdd (Below.refl _ _))).mono ?_;rintro e w5 ⟨z0,z1,z2,z3,z4,z5,z6,rfl,hb5,hf1⟩;subst hf1;have hb5':Below wp.heap.size wp w5:=(zdd (Below.refl _ _)).trans (hb5.mono (nR _));have hc5:=CL.bel hc0 hb5;refine hK.out _ _ (hc5) ?_;clear hK K
     try simp only[pT]
     refine cR0 ?_;refine qqL rfl (by rfl) (fun K hK=>?_)
     go_simp
     have hba:Below w5.heap.size w5 (w5.alloc zeroN):=zaa;have hoa:=zhh w5 zeroN
     generalize w5.alloc zeroN=w6 at *
     have hc6:=CL.bel hc5 hba;refine hK.out _ _ (hc6) ?_;clear hK K
     try simp only[pT]
     refine cR0 ?_;refine qqL rfl (by rfl) (fun K hK=>?_);refine zq 102 _ _ rfl w5.heap.size 0 [_,_,_,_,_] rfl rfl _ _ hoa (by simp) (by kernel_rfl) rfl ?_;intro w7 hz7 hc7;have hle5:wp.heap.size≤w5.heap.size:=hb5'.size;refine hK.out _ _ (CL.chg hc6 hc7 (fun x hx e=>by have h8:x.1<wp.heap.size:=HLT.out x hx;omega)) ?_;clear hK K hc5 hc6
     try simp only[pT]
     refine cR0 ?_;refine zn ?_
     go_wp2_with fail
     go_meet;have hGB:=GB.one hb5' hba hc7 hz7;exact⟨_,_,_,_,_,_,_,rfl,hid hGB⟩
    ·simp only[mv,List.take_succ_cons,List.take_zero,List.drop_succ_cons,List.drop_zero,List.cons_append,List.nil_append]
     refine cR0 ?_;refine qqL rfl (by rfl) (fun K hK=>?_)
     go_simp
     have hba:Below wp.heap.size wp (wp.alloc zeroN).drew:=(zdd (Below.refl _ _)).alloc (nR _) _;have hba0:Below wp.drew.heap.size wp.drew (wp.alloc zeroN).drew:=(Below.refl wp.drew.heap.size wp.drew).alloc (nR _) _;have hoa:(wp.alloc zeroN).drew.heap[wp.heap.size]? = some zeroN:=zhh wp zeroN;have hc5:=CL.bel hc0 hba0
     generalize (wp.alloc zeroN).drew=w4 at *
     refine hK.out _ _ (hc5) ?_;clear hK K
     try simp only[pT]
     refine cR0 ?_;refine qqL rfl (by rfl) (fun K hK=>?_)
     go_simp
     refine(HNE2.out w4 hba).mono ?_;rintro e w5 ⟨z0,z1,z2,z3,z4,z5,z6,rfl,hb5,hf1⟩;subst hf1;have hc6:=CL.bel hc5 hb5;have hoa5:=kO hoa hb5;refine hK.out _ _ (hc6) ?_;clear hK K
     try simp only[pT]
     refine cR0 ?_;refine qqL rfl (by rfl) (fun K hK=>?_);refine zq 102 _ _ rfl wp.heap.size 0 [_,_,_,_,_] rfl rfl _ _ hoa5 (by simp) (by kernel_rfl) rfl ?_;intro w7 hz7 hc7;refine hK.out _ _ (CL.chg hc6 hc7 (fun x hx e=>by have h8:x.1<wp.heap.size:=HLT.out x hx;omega)) ?_;clear hK K hc5 hc6
     try simp only[pT]
     refine cR0 ?_;refine zn ?_
     go_wp2_with fail
     go_meet;have hGB:=GB.two hba hb5 hc7 hz7;exact⟨_,_,_,_,_,_,_,rfl,hid hGB⟩
   case rest =>
   obtain⟨Y2,t0,t1,t2,t3,t4,t5,rfl,G⟩:=hcut;obtain⟨wq,rfl⟩:∃ v,v=wc:=⟨_,rfl⟩;have F3:=hid (F2.out.later G.out.bel);have m0:=(cII (kO HO.out G.out.bel) 5).trans rfl;have m1:=(cII G.out.obj 4).trans rfl;clear n0 n1 p1 G HNE2 F2 HXA4
   cases ra with
   | true =>
    simp only[HRP.out,Bool.true_or,if_true] at HTK
    go_upto_region 9 with (fail)
    have p0:=zbb F3.out.bel P2.out
    go_upto_region 5 with (at_builtin;refine app_tag (by rfl) (.tmp 49) (.tmp 54) 30 (by rfl) 9 (.string ⟨#[]⟩) 1 16 Tryz.underlying30 info9 rfl (by decide) (by decide) _ _ _ F3.out.row.owns (by rfl) [.string x] wq.heap.size (by rfl) (by rfl) (by rfl) (by simp[Value.oneCell']) (by have:=HLF.out;omega) ?_;intro v9 w9 hown9 hc9 hp9 hne9;obtain⟨o9,n9,c9,rfl⟩:=zw hown9;have HF9:=hid (F3.out.push HXS.out hown9 hc9 hp9);clear hown9 hc9 hp9 hne9)
    clear p0 m0 m1
    go_wp2_with fail
    go_roundw
    case rel=>exact⟨j+1,_,_,_,by omega,rfl,by go_num,by rw[HTK.out];exact HF9⟩
    case measure=>simp[intOf];omega
   | false =>
   cases rk with
   | true =>
    simp only[HRP.out,Bool.or_true,if_true] at HTK
    go_upto_region 9 with (fail)
    have p0:=zbb F3.out.bel P2.out
    go_upto_region 5 with (at_builtin;refine app_tag (by rfl) (.tmp 49) (.tmp 54) 30 (by rfl) 9 (.string ⟨#[]⟩) 1 16 Tryz.underlying30 info9 rfl (by decide) (by decide) _ _ _ F3.out.row.owns (by rfl) [.string x] wq.heap.size (by rfl) (by rfl) (by rfl) (by simp[Value.oneCell']) (by have:=HLF.out;omega) ?_;intro v9 w9 hown9 hc9 hp9 hne9;obtain⟨o9,n9,c9,rfl⟩:=zw hown9;have HF9:=hid (F3.out.push HXS.out hown9 hc9 hp9);clear hown9 hc9 hp9 hne9)
    clear p0 m0 m1
    go_wp2_with fail
    go_roundw
    case rel=>exact⟨j+1,_,_,_,by omega,rfl,by go_num,by rw[HTK.out];exact HF9⟩
    case measure=>simp[intOf];omega
   | false =>
    simp only[HRP.out,Bool.or_false,Bool.false_eq_true,if_false] at HTK
    go_wp2_with fail
    go_roundw
    case rel=>exact⟨j+1,_,_,_,by omega,rfl,by go_num,by rw[HTK.out];exact F3⟩
    case measure=>simp[intOf];omega
  ·rw[List.take_of_length_le (by omega),←HRES.out] at F
   have HLC:=hid (show(replacedR s b a).length≤2000 by rw[HRES.out];have h1:=List.length_filter_le (repS s) ns;have:=HNL.out;omega);have HB3:=hid (HB2.out.trans (F.out.bel.mono HB2.out.size))
   go_wp2_with fail
   go_ret;exact⟨_,rfl,F.out.row.sv (fun g e=>by have:=F.out.own g e;have:=HB2.out.size;omega) (by have:=HLC.out;omega) F.out.str,HB3.out⟩
end Go.Proofs.YtibiiafcnaijeaaGreat
