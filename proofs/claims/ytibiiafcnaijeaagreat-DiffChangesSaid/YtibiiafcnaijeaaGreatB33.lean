/- A part. -/
import Derived.Test.YtibiiafcnaijeaaGreatB00
import Derived.Test.YtibiiafcnaijeaaGreatB32
import Derived.Test.YtibiiafcnaijeaaGreatB01
import Derived.Test.YtibiiafcnaijeaaGreatB07
import Derived.Deep.DeepCutAuto
import Derived.Deep.CutBlock
namespace Go.Proofs.YtibiiafcnaijeaaGreat
open Go Go.RowKit Go.Proofs.YtibiiafcnaijeaaGreat.Steady
set_option linter.unusedVariables false
set_option linter.unusedSimpArgs false
set_option maxRecDepth 100000
set_option maxHeartbeats 40000000
def ToOk (t:Ty):Prop:=∀ (v:Vl) (P Q:Nat→Prop) (w:World) (x y:Value),VV P w x v→TV Q w y t→(∀ g,P g→g<w.heap.size)→szV v≤1000000→sizeT t≤1000000 →
 Calls Tryz.prog 110 #[x,y] w (VRes P (szV v*sizeT t) w)
def ObjOk (es:List Ty) (ns:List ByteArray):Prop:=∀ (q:Int) (v:Vl) (P Q:Nat→Prop) (w:World) (x y:Value),VV P w x v→TV Q w y (.mk q es ns)→(∀ g,P g→g<w.heap.size)→szV v≤1000000→sizeT (.mk q es ns)≤1000000 →
 Calls Tryz.prog 122 #[x,y] w (VRes P (szV v*sizeT (.mk q es ns)) w)
theorem cobj_any (es:List Ty) (ns:List ByteArray) (ih:∀ e∈es,ToOk e):ObjOk es ns:=by
 intro q v P Q w x y hx hy hP hsv hst;have HGG:=hid (getR_sz v);have HV0:=hid hx;obtain⟨k,n,s,is,ks⟩:=v;obtain⟨vi,vk,rfl,hI,hK,hss⟩:=hx.out;obtain⟨oi,ci,rfl⟩:=hI.len;obtain⟨ok,ck,rfl⟩:=hK.len;obtain⟨ve,vn,rfl,hE,hN⟩:=hy.out;obtain⟨oe,ce,rfl⟩:=hE.len;obtain⟨on,cn,rfl⟩:=hN.len;have hli:=hI.le;have hlk:=hK.le;have hle:=hE.le;have hln:=hN.le;generalize hA:w.alloc (.cells #[.int .i64 k,.int .i64 n,.string s,.slice oi is.length ci,.slice ok ks.length ck] 32)=wa
 have hao:wa.heap[w.heap.size]? = some (.cells #[.int .i64 k,.int .i64 n,.string s,.slice oi is.length ci,.slice ok ks.length ck] 32):=by rw[←hA];exact zhh w _
 have has:wa.heap.size=w.heap.size+1:=by rw[←hA];simp
 have hab:Below w.heap.size w wa:=by rw[←hA];exact(Below.refl _ _).alloc (nR _) _
 generalize hB:wa.alloc (.cells #[.int .i64 q,.slice oe es.length ce,.slice on ns.length cn] 61)=wb
 have hbo:wb.heap[w.heap.size+1]? = some (.cells #[.int .i64 q,.slice oe es.length ce,.slice on ns.length cn] 61):=by rw[←hB,←has];exact zhh wa _
 have hbs:wb.heap.size=w.heap.size+2:=by rw[←hB];simp[has]
 have hbb:Below wa.heap.size wa wb:=by rw[←hB];exact(Below.refl _ _).alloc (nR _) _
 generalize hC:wb.alloc zero5=wk
 have hco:wk.heap[w.heap.size+2]? = some zero5:=by rw[←hC,←hbs];exact zhh wb _
 have hcs:wk.heap.size=w.heap.size+3:=by rw[←hC];simp[hbs]
 have hcb:Below wb.heap.size wb wk:=by rw[←hC];exact(Below.refl _ _).alloc (nR _) _
 have HA0:=hid hA;have HB0:=hid hB;have HC0:=hid hC;have HB:=hid (hab.trans ((hbb.trans (hcb.mono hbb.size)).mono hab.size));have HS:=hid (And.intro hbs hcs);have HZ:=hid hco;have HXB:=hid (kO hbo hcb);have HXA:=hid (kO (kO hao hbb) hcb);have HV:=hid (hx.bel HB.out);have HY:=hid (hy.bel HB.out);have HI:=hid (hI.bel HB.out);have HK:=hid (hK.bel HB.out);have HE:=hid (hE.bel HB.out);have HN:=hid (hN.bel HB.out);have HPL:=hid hP;have HSZ:=hid (And.intro hsv hst)
 have HM:=hid (show 1≤szV (.mk k n s is ks)∧1≤sizeT (.mk q es ns)∧szV (.mk k n s is ks)≤szV (.mk k n s is ks)*sizeT (.mk q es ns)∧1≤szV (.mk k n s is ks)*sizeT (.mk q es ns) from
  ⟨szV_pos _,by rw[sizeT_eq];omega,Nat.le_mul_of_pos_right _ (by rw[sizeT_eq];omega),Nat.mul_pos (szV_pos _) (by rw[sizeT_eq];omega)⟩)
 clear hA hB hC hao has hab hbo hbs hbb hco hcs hcb hI hK hE hN hx hy hP hsv hst;obtain⟨a0,a1,a2,a3,a4⟩:=C5.of HXA.out;have b0:=(cII HXB.out 0).trans rfl;have b1:=(cII HXB.out 1).trans rfl;have b2:=(cII HXB.out 2).trans rfl;have IH:=hid ih;clear ih
 go_enter Tryz.func122,Tryz.ntmps122
 go_upto_region 1 with (fail)
 rw[HA0.out,HB0.out,HC0.out]
 go_wp2_with fail
 go_loopw [6] (fun iv wr=>∃ j:Nat,j≤ks.length∧iv=.int .i64 j∧Hid (Below wk.heap.size wk wr)) (fun iv _=>ks.length - (intOf iv).toNat)
 case atStart=>exact⟨0,Nat.zero_le _,rfl,hid (Below.refl _ _)⟩
 case round =>
  clear a0 a1 a2 a3 a4 b0 b1 b2;obtain⟨j,hj,rfl,B⟩:=hrel;have HBR:=hT HB B.out;have HZ1:=kH HZ B.out;have hxa:=kO HXA.out B.out;have hxb:=kO HXB.out B.out
  by_cases hlt:j<ks.length
  ·obtain⟨g1,o1,c1,e1,p0⟩:=HK.out.at hlt
   cases e1
   have hj0:(0:Int)≤(j:Int):=by omega
   have hj1:(j:Int)<(ks.length:Int):=by omega
   replace p0:=zbb B.out p0;obtain⟨kj,hkj⟩:∃ kj,ks[j]=kj:=⟨_,rfl⟩;rw[hkj] at p0;have a4:=(cII hxa 4).trans rfl;have b2:=(cII hxb 2).trans rfl;clear hkj hxa hxb
   go_wp2_with fail
   refine zss (fun v=>v.cell? ⟨w.heap.size+1,2,none⟩=some (.slice on ns.length cn)∧v.cell? ⟨w.heap.size,4,none⟩=some (.slice (some ⟨g1,o1,none⟩) ks.length ck)∧v.cell? ⟨g1,o1+j,none⟩=some (.string kj)) (by kernel_rfl) (by kernel_rfl) (⟨b2,a4,p0⟩) ?_;refine cR2 ?_;refine qqL rfl (by rfl) (fun K hK=>?_)
   go_simp
   refine(chas_any ns kj Q wr.drew _ (HN.out.bel (show Below wk.heap.size wk wr.drew from zdd B.out))).mono ?_;rintro e w5 ⟨b,rfl,-,rfl⟩;refine hK.out _ _ (⟨b2,a4,p0⟩) ?_;clear hK K
   try simp only[pT]
   refine cR2 ?_;refine zn ?_;have B2:=hid (show Below wk.heap.size wk wr.drew from zdd B.out);have HBR2:=hid (show Below w.heap.size w wr.drew from zdd HBR.out);clear a4 b2 p0
   cases b with
   | false =>
    go_wp2_with (refine zo rfl 32 _ _ rfl (w.heap.size+2) 0 [_,_,_,_,_] rfl rfl _ _ (HZ1.out) (by simp) (by kernel_rfl) rfl ?_;intro ws hzs hcs)
    try simp only[Exit.inBlock,Exit.then]
    refine bodyPost_ret (zrt rfl _ ws (w.heap.size+2) 32 _ (0,0) _ rfl hzs Tryz.underlying32 rfl (by kernel_rfl)) rfl ?_;exact vres_mk (Q:=fun _=>False) _ (VV.flat _ _ 0 0 ⟨#[]⟩ (by decide)) (fun g hg=>hg.elim) (fun hg=>hg) HBR2.out (by omega) hcs (by rw[szV_flat];have:=HM.out;omega)
   | true =>
    go_wp2_with fail
    go_roundw
    case rel=>exact⟨j+1,by omega,by go_num,B2⟩
    case measure=>simp[intOf];omega
  ·have hdo:=zhh wr (.cells #[.int .i64 5,.int .i64 0,.string ⟨#[]⟩,.slice none 0 0,.slice none 0 0] 32)
   have hdb:Below wr.heap.size wr (wr.alloc (.cells #[.int .i64 5,.int .i64 0,.string ⟨#[]⟩,.slice none 0 0,.slice none 0 0] 32)):=(Below.refl _ _).alloc (nR _) _
   generalize hD:wr.alloc (.cells #[.int .i64 5,.int .i64 0,.string ⟨#[]⟩,.slice none 0 0,.slice none 0 0] 32)=wd at *
   have hX0:w.heap.size+3≤wr.heap.size:=by have:=B.out.size;have:=HS.out.2;omega
   generalize hXX:wr.heap.size=X at *
   have HD0:=hid hD;have HX0:=hid hX0;have HDX:=hid hXX;have BD:=hid (B.out.trans (hdb.mono (by have:=B.out.size;omega)));have HBD:=hT HB BD.out;have HAD:=kH HXA BD.out;have HYD:=kH HXB BD.out;have HZD:=kH HZ BD.out;have HT:Hid (VB P X X wd wd 5 (.slice none 0 0) (.slice none 0 0) [] []):=hid ⟨by have:=hdb.size;omega,Below.refl _ _,nR _,hdo,OwnW.nil _ _ _ _,(fun e=>by cases e),.inl ⟨rfl,rfl⟩,(fun g e=>by cases e),fun s h=>by cases h⟩;have a4:=(cII hxa 4).trans rfl;clear hdo hdb hD hX0 hXX hxa hxb
   go_upto_region 7 with (fail)
   rw[HD0.out,HDX.out]
   go_wp2_with fail
   clear a4
   go_loopw [8] (fun iv wr=>∃ (j:Nat) (oi':Option Addr) (mi' ci':Nat) (ok':Option Addr) (mk' ck':Nat) (acc:List Vl),j≤ns.length∧j≤es.length∧iv=.int .i64 j∧Hid (VB P X X wd wr 5 (.slice oi' mi' ci') (.slice ok' mk' ck') acc (ns.take j))∧Hid (acc.length=j∧szL acc+szV (.mk k n s is ks)*sizeL (es.drop j)≤szV (.mk k n s is ks)*sizeL es)) (fun iv _=>ns.length - (intOf iv).toNat)
   case atStart=>exact⟨0,_,_,_,_,_,_,[],Nat.zero_le _,Nat.zero_le _,rfl,HT,hid ⟨rfl,by rw[szL,List.drop_zero];omega⟩⟩
   case round =>
    clear HT;obtain⟨j,oi',mi',ci',ok',mk',ck',acc,hj,hje,rfl,U,HAC⟩:=hrel;have HBK:=hid (show Below wk.heap.size wk wr from BD.out.trans (U.out.bel.mono (by have:=HX0.out;have:=HS.out.2;omega)));have HBR2:=hT HB HBK.out;have HXA2:Hid (wr.heap[w.heap.size]? = _):=hid ((U.out.bel.block _ (by have:=HX0.out;omega)).trans HAD.out);have HXB2:Hid (wr.heap[w.heap.size+1]? = _):=hid ((U.out.bel.block _ (by have:=HX0.out;omega)).trans HYD.out);have HXZ2:Hid (wr.heap[w.heap.size+2]? = _):=hid ((U.out.bel.block _ (by have:=HX0.out;omega)).trans HZD.out)
    have hWK:w.heap.size+4≤wr.heap.size:=by have:=HX0.out;have:=U.out.lt;omega
    have HWK:=hid hWK;have b1:=(cII HXB2.out 1).trans rfl;have b2:=(cII HXB2.out 2).trans rfl
    by_cases hn:j<ns.length
    ·by_cases he:j<es.length
     ·have hj0:(0:Int)≤(j:Int):=by omega
      have hj1:(j:Int)<(ns.length:Int):=by omega
      have hj2:(j:Int)<(es.length:Int):=by omega
      obtain⟨gn,onn,cnn,e1,q0⟩:=HN.out.at hn
      cases e1
      obtain⟨g2,o2,c2,k2,oe2,me2,ce2,on2,mn2,cn2,e2,r0,r1,r2,hT2⟩:=HE.out.at2 he
      cases e2
      have HR:=hid (And.intro r0 (And.intro r1 (And.intro r2 hT2)));clear r0 r1 r2 hT2
      have hG1:gn<wr.heap.size:=by
       have h1:gn<wk.heap.size:=World.block_lt_of_cell? wk _ q0;have:=HBK.out.size;omega
      have HQW:=hid q0;replace q0:=zbb HBK.out q0;obtain⟨nj,hnj⟩:∃ nj,ns[j]=nj:=⟨_,rfl⟩;rw[hnj] at q0 HQW;have HNJ:=hid hnj;clear hnj;obtain⟨a0,a1,a2,a3,a4⟩:=C5.of HXA2.out;have HGS:=hid (HGG.out nj);have HC1:=hid (rget_any (.mk k n s is ks) nj P wr.drew _ (HV.out.bel (show Below wk.heap.size wk wr.drew from zdd HBK.out)) (fun g hg=>by have:=HPL.out g hg;show g<wr.heap.size;omega));have HC2:=hid (rget_any (.mk k n s is ks) nj P (wr.drew.alloc zero5) _ (HV.out.bel ((show Below wk.heap.size wk wr.drew from zdd HBK.out).alloc HBK.out.size _)) (fun g hg=>by have:=HPL.out g hg;show g<(wr.alloc zero5).heap.size;simp;omega));obtain⟨x0,hx0⟩:∃ x0,(getR (.mk k n s is ks) nj).getD nullV=x0:=⟨_,rfl⟩;rw[hx0] at HGS;have HX1:=hid hx0;clear hx0
      go_upto_region 10 with (fail)
      clear b1;obtain⟨wp,rfl⟩:∃ v,v=wr:=⟨_,rfl⟩
      go_cut [9] (fun pv wx=>∃ (Y:Nat) (k2 n2:Int) (s2:ByteArray) (oi2:Option Addr) (mi2 ci2:Nat) (ok2:Option Addr) (mk2 ck2:Nat),pv=.pointer (some ⟨Y,0,none⟩)∧Hid (Got0 P (szV (.mk k n s is ks)) wp wx Y (.int .i64 k2) (.int .i64 n2) (.string s2) (.slice oi2 mi2 ci2) (.slice ok2 mk2 ck2) x0))
      case first =>
       unfold RGetPost at HC1 HC2;rw[HX1.out] at HC1 HC2;refine wp_region_free 10 6 6 (fun v=>v.cell? ⟨w.heap.size,0,none⟩=some (.int .i64 k)∧v.cell? ⟨w.heap.size,1,none⟩=some (.int .i64 n)∧v.cell? ⟨w.heap.size,2,none⟩=some (.string s)∧v.cell? ⟨w.heap.size,3,none⟩=some (.slice oi is.length ci)∧v.cell? ⟨w.heap.size,4,none⟩=some (.slice ok ks.length ck)∧v.cell? ⟨w.heap.size+1,2,none⟩=some (.slice (some ⟨gn,onn,none⟩) ns.length cn)∧v.cell? ⟨gn,onn+j,none⟩=some (.string nj)) (by kernel_rfl) (by kernel_rfl) ⟨a0,a1,a2,a3,a4,b2,q0⟩ ?_ ?_
       ·repeat (first
         | (refine qqK (by rfl) ?_;try simp only[pT])
         | (refine qqC (v:=?_) (by rfl) ?_ ?_;rotate_left;(focus intro v hSv;(try dsimp only at hSv);go_simp;(try rw[if_neg (by omega)]);(try with_reducible rfl);done);try simp only[pT]))
        refine qqL rfl (by rfl) (fun K hK=>?_)
        go_simp
        refine HC1.out.mono ?_;rintro e w5 ⟨u,rfl,hu,hb5⟩;obtain⟨ka,na,sa,oia,mia,cia,oka,mka,cka,rfl⟩:=hu.agg5;replace a0:=zbb (W:=wp.drew) hb5 a0;replace a1:=zbb (W:=wp.drew) hb5 a1;replace a2:=zbb (W:=wp.drew) hb5 a2;replace a3:=zbb (W:=wp.drew) hb5 a3;replace a4:=zbb (W:=wp.drew) hb5 a4;replace b2:=zbb (W:=wp.drew) hb5 b2;replace q0:=zbb (W:=wp.drew) hb5 q0;have HG5:=hid (And.intro hu hb5);clear hu hb5;refine hK.out _ _ (⟨a0,a1,a2,a3,a4,b2,q0⟩) ?_;clear hK K
        try simp only[pT]
        refine cR2 ?_;refine qqL rfl (by rfl) (fun K hK=>?_)
        go_simp
        have ha:Below w5.heap.size w5 (w5.alloc zero5):=(Below.refl _ _).alloc (nR _) _;have ho:=zhh w5 zero5
        generalize w5.alloc zero5=w6 at *
        replace a0:=zbb (W:=w5) ha a0;replace a1:=zbb (W:=w5) ha a1;replace a2:=zbb (W:=w5) ha a2;replace a3:=zbb (W:=w5) ha a3;replace a4:=zbb (W:=w5) ha a4;replace b2:=zbb (W:=w5) ha b2;replace q0:=zbb (W:=w5) ha q0;refine hK.out _ _ (⟨a0,a1,a2,a3,a4,b2,q0⟩) ?_;clear hK K
        try simp only[pT]
        refine qqL rfl (by rfl) (fun K hK=>?_);refine zq 32 _ _ rfl w5.heap.size 0 [_,_,_,_,_] rfl rfl _ _ ho (by simp) (by kernel_rfl) rfl ?_;intro w7 hz7 hc7;have hw5:wp.heap.size≤w5.heap.size:=HG5.out.2.size;replace a0:=zcc hc7 (fun e=>by omega) a0;replace a1:=zcc hc7 (fun e=>by omega) a1;replace a2:=zcc hc7 (fun e=>by omega) a2;replace a3:=zcc hc7 (fun e=>by omega) a3;replace a4:=zcc hc7 (fun e=>by omega) a4;replace b2:=zcc hc7 (fun e=>by omega) b2;replace q0:=zcc hc7 (fun e=>by omega) q0;refine hK.out _ _ ⟨a0,a1,a2,a3,a4,b2,q0⟩ ?_;clear hK K
        try simp only[Act.put]
        refine cR2 ?_;refine zn ?_
        go_wp2_with fail
        go_meet;exact⟨_,_,_,_,_,_,_,_,_,_,rfl,hid (Got0.one (wr:=wp) (fun g hg=>by have:=HPL.out g hg;have:=HWK.out;omega) (undrew HG5.out.2) HG5.out.1 HGS.out ha hc7 hz7)⟩
       ·simp only[mv,List.take_succ_cons,List.take_zero,List.drop_succ_cons,List.drop_zero,List.cons_append,List.nil_append]
        refine cR2 ?_;refine qqL rfl (by rfl) (fun K hK=>?_)
        go_simp
        have ha:Below wp.drew.heap.size wp.drew (wp.drew.alloc zero5):=(Below.refl _ _).alloc (nR _) _;have ho:=zhh wp.drew zero5;replace a0:=zbb (W:=wp.drew) ha a0;replace a1:=zbb (W:=wp.drew) ha a1;replace a2:=zbb (W:=wp.drew) ha a2;replace a3:=zbb (W:=wp.drew) ha a3;replace a4:=zbb (W:=wp.drew) ha a4;replace b2:=zbb (W:=wp.drew) ha b2;replace q0:=zbb (W:=wp.drew) ha q0;refine hK.out _ _ (⟨a0,a1,a2,a3,a4,b2,q0⟩) ?_;clear hK K
        try simp only[pT]
        refine qqL rfl (by rfl) (fun K hK=>?_)
        go_simp
        refine HC2.out.mono ?_;rintro e w5 ⟨u,rfl,hu,hb5⟩;obtain⟨ka,na,sa,oia,mia,cia,oka,mka,cka,rfl⟩:=hu.agg5;replace a0:=zbb (W:=wp.drew.alloc zero5) hb5 a0;replace a1:=zbb (W:=wp.drew.alloc zero5) hb5 a1;replace a2:=zbb (W:=wp.drew.alloc zero5) hb5 a2;replace a3:=zbb (W:=wp.drew.alloc zero5) hb5 a3;replace a4:=zbb (W:=wp.drew.alloc zero5) hb5 a4;replace b2:=zbb (W:=wp.drew.alloc zero5) hb5 b2;replace q0:=zbb (W:=wp.drew.alloc zero5) hb5 q0;have HG5:=hid (And.intro hu hb5);have ho5:=kO ho hb5;clear hu hb5;refine hK.out _ _ (⟨a0,a1,a2,a3,a4,b2,q0⟩) ?_;clear hK K
        try simp only[pT]
        refine cR2 ?_;refine qqL rfl (by rfl) (fun K hK=>?_);refine zq 32 _ _ rfl wp.heap.size 0 [_,_,_,_,_] rfl rfl _ _ ho5 (by simp) (by kernel_rfl) rfl ?_;intro w7 hz7 hc7;have hw5:wp.heap.size≤wp.heap.size:=nR _;replace a0:=zcc hc7 (fun e=>by omega) a0;replace a1:=zcc hc7 (fun e=>by omega) a1;replace a2:=zcc hc7 (fun e=>by omega) a2;replace a3:=zcc hc7 (fun e=>by omega) a3;replace a4:=zcc hc7 (fun e=>by omega) a4;replace b2:=zcc hc7 (fun e=>by omega) b2;replace q0:=zcc hc7 (fun e=>by omega) q0;refine hK.out _ _ ⟨a0,a1,a2,a3,a4,b2,q0⟩ ?_;clear hK K
        try simp only[Act.put]
        refine cR2 ?_;refine zn ?_
        go_wp2_with fail
        go_meet;exact⟨_,_,_,_,_,_,_,_,_,_,rfl,hid (Got0.two (wr:=wp) (fun g hg=>by have:=HPL.out g hg;have:=HWK.out;omega) (undrew ha) (by simp) HG5.out.2 HG5.out.1 HGS.out hc7 hz7)⟩
      case rest =>
       obtain⟨Y,ka,na,sa,oia,mia,cia,oka,mka,cka,rfl,G0⟩:=hcut;clear a0 a1 a2 a3 a4 b2 q0 hWK hG1 HC1 HC2;have U2:=hid (U.out.later G0.out.bel);have HBK2:=hid (HBK.out.trans (G0.out.bel.mono HBK.out.size));have HBR3:=hid (HBR2.out.trans (G0.out.bel.mono HBR2.out.size));have HXZ3:=hid (kO HXZ2.out G0.out.bel);have HXB3:=hid (kO HXB2.out G0.out.bel);have HWW:=hid (And.intro G0.out.bel.size G0.out.hX);have hYL:Y<wc.heap.size:=(aS G0.out.obj).1;have HYL:=hid hYL
       have HPL2:Hid (∀ g,P g→g<wc.heap.size):=hid fun g hg=>by have:=HPL.out g hg;have:=HWK.out;have:=HWW.out.1;omega
       have hWK:w.heap.size+4≤wc.heap.size:=by have:=HWK.out;have:=HWW.out.1;omega
       obtain⟨y0,y1,y2,y3,y4⟩:=C5.of G0.out.obj;have b1:=(cII HXB3.out 1).trans rfl;have p0:=zbb HBK2.out HR.out.1;have p1:=zbb HBK2.out HR.out.2.1;have p2:=zbb HBK2.out HR.out.2.2.1;have hG1:g2<wc.heap.size:=World.block_lt_of_cell? wc _ p0;have HSE:=hid (show sizeT es[j]≤sizeL es from sizeT_mem (lM he));have HVX:=hid (show VV P wc _ x0 from G0.out.vv);have HTX:=hid (HR.out.2.2.2.bel HBK2.out);have hsz:=HSZ.out;rw[sizeT_eq] at hsz;have HC1:=hid (IH.out _ (lM he) x0 P Q wc.drew _ _ (HVX.out.bel (zdd (Below.refl _ _))) (HTX.out.bel (zdd (Below.refl _ _))) (fun g hg=>HPL2.out g hg) (by have:=HGS.out;omega) (by have:=HSE.out;omega));have HC2:=hid (IH.out _ (lM he) x0 P Q (wc.drew.alloc zero5) _ _ (HVX.out.bel ((zdd (Below.refl _ _)).alloc (nR _) _)) (HTX.out.bel ((zdd (Below.refl _ _)).alloc (nR _) _)) (fun g hg=>by have:=HPL2.out g hg;show g<(wc.alloc zero5).heap.size;simp;omega) (by have:=HGS.out;omega) (by have:=HSE.out;omega))
       have HJ:=hid (show szV x0*sizeT es[j]≤szV (.mk k n s is ks)*sizeT es[j] from Nat.mul_le_mul_right _ HGS.out);have HSI:=hid (sizeL_drop he);clear hsz
       go_upto_region 11 with (fail)
       obtain⟨wq,rfl⟩:∃ v,v=wc:=⟨_,rfl⟩
       go_cut [11,12] (fun pv ev wx=>∃ (Y2:Nat) (r k2 n2:Int) (s2:ByteArray) (oi2:Option Addr) (mi2 ci2:Nat) (ok2:Option Addr) (mk2 ck2:Nat) (t2:Vl),pv=.pointer (some ⟨Y2,0,none⟩)∧ev=.int .i64 r∧Hid (Got P (szV x0*sizeT es[j]) wq wx Y2 (.int .i64 k2) (.int .i64 n2) (.string s2) (.slice oi2 mi2 ci2) (.slice ok2 mk2 ck2) t2))
       case first =>
        refine wp_region_free 10 6 6 (fun v=>v.cell? ⟨Y,0,none⟩=some (.int .i64 ka)∧v.cell? ⟨Y,1,none⟩=some (.int .i64 na)∧v.cell? ⟨Y,2,none⟩=some (.string sa)∧v.cell? ⟨Y,3,none⟩=some (.slice oia mia cia)∧v.cell? ⟨Y,4,none⟩=some (.slice oka mka cka)∧v.cell? ⟨w.heap.size+1,1,none⟩=some (.slice (some ⟨g2,o2,none⟩) es.length ce)∧v.cell? ⟨g2,o2+j*3,none⟩=some (.int .i64 k2)∧v.cell? ⟨g2,o2+j*3+1,none⟩=some (.slice oe2 me2 ce2)∧v.cell? ⟨g2,o2+j*3+2,none⟩=some (.slice on2 mn2 cn2)) (by kernel_rfl) (by kernel_rfl) ⟨y0,y1,y2,y3,y4,b1,p0,p1,p2⟩ ?_ ?_
        ·repeat (first
          | (refine qqK (by rfl) ?_;try simp only[pT])
          | (refine qqC (v:=?_) (by rfl) ?_ ?_;rotate_left;(focus intro v hSv;(try dsimp only at hSv);go_simp;(try rw[if_neg (by omega)]);(try with_reducible rfl);done);try simp only[pT]))
         refine qqL rfl (by rfl) (fun K hK=>?_)
         go_simp
         refine HC1.out.mono ?_;rintro e w5 ⟨u,r,t2,rfl,hu,hsz2,hb5⟩;obtain⟨ka,na,sa,oia,mia,cia,oka,mka,cka,rfl⟩:=hu.agg5;replace y0:=zbb (W:=wq.drew) hb5 y0;replace y1:=zbb (W:=wq.drew) hb5 y1;replace y2:=zbb (W:=wq.drew) hb5 y2;replace y3:=zbb (W:=wq.drew) hb5 y3;replace y4:=zbb (W:=wq.drew) hb5 y4;replace b1:=zbb (W:=wq.drew) hb5 b1;replace p0:=zbb (W:=wq.drew) hb5 p0;replace p1:=zbb (W:=wq.drew) hb5 p1;replace p2:=zbb (W:=wq.drew) hb5 p2;have HG5:=hid (And.intro hu (And.intro hsz2 hb5));clear hu hsz2 hb5;refine hK.out _ _ (⟨y0,y1,y2,y3,y4,b1,p0,p1,p2⟩) ?_;clear hK K
         try simp only[pT]
         refine cR2 ?_;refine qqL rfl (by rfl) (fun K hK=>?_)
         go_simp
         have ha:Below w5.heap.size w5 (w5.alloc zero5):=(Below.refl _ _).alloc (nR _) _;have ho:=zhh w5 zero5
         generalize w5.alloc zero5=w6 at *
         replace y0:=zbb (W:=w5) ha y0;replace y1:=zbb (W:=w5) ha y1;replace y2:=zbb (W:=w5) ha y2;replace y3:=zbb (W:=w5) ha y3;replace y4:=zbb (W:=w5) ha y4;replace b1:=zbb (W:=w5) ha b1;replace p0:=zbb (W:=w5) ha p0;replace p1:=zbb (W:=w5) ha p1;replace p2:=zbb (W:=w5) ha p2;refine hK.out _ _ (⟨y0,y1,y2,y3,y4,b1,p0,p1,p2⟩) ?_;clear hK K
         try simp only[pT]
         refine qqL rfl (by rfl) (fun K hK=>?_);refine zq 32 _ _ rfl w5.heap.size 0 [_,_,_,_,_] rfl rfl _ _ ho (by simp) (by kernel_rfl) rfl ?_;intro w7 hz7 hc7;have hw5:wq.heap.size≤w5.heap.size:=HG5.out.2.2.size;replace y0:=zcc hc7 (fun e=>by omega) y0;replace y1:=zcc hc7 (fun e=>by omega) y1;replace y2:=zcc hc7 (fun e=>by omega) y2;replace y3:=zcc hc7 (fun e=>by omega) y3;replace y4:=zcc hc7 (fun e=>by omega) y4;replace b1:=zcc hc7 (fun e=>by omega) b1;replace p0:=zcc hc7 (fun e=>by omega) p0;replace p1:=zcc hc7 (fun e=>by omega) p1;replace p2:=zcc hc7 (fun e=>by omega) p2;refine hK.out _ _ ⟨y0,y1,y2,y3,y4,b1,p0,p1,p2⟩ ?_;clear hK K
         try simp only[Act.put]
         refine cR2 ?_;refine zn ?_
         go_wp2_with fail
         go_meet;exact⟨_,_,_,_,_,_,_,_,_,_,_,_,rfl,rfl,hid (Got.one (wr:=wq) (fun g hg=>by have:=HPL2.out g hg;omega) (undrew HG5.out.2.2) HG5.out.1 HG5.out.2.1 ha hc7 hz7)⟩
        ·simp only[mv,List.take_succ_cons,List.take_zero,List.drop_succ_cons,List.drop_zero,List.cons_append,List.nil_append]
         refine cR2 ?_;refine qqL rfl (by rfl) (fun K hK=>?_)
         go_simp
         have ha:Below wq.drew.heap.size wq.drew (wq.drew.alloc zero5):=(Below.refl _ _).alloc (nR _) _;have ho:=zhh wq.drew zero5;replace y0:=zbb (W:=wq.drew) ha y0;replace y1:=zbb (W:=wq.drew) ha y1;replace y2:=zbb (W:=wq.drew) ha y2;replace y3:=zbb (W:=wq.drew) ha y3;replace y4:=zbb (W:=wq.drew) ha y4;replace b1:=zbb (W:=wq.drew) ha b1;replace p0:=zbb (W:=wq.drew) ha p0;replace p1:=zbb (W:=wq.drew) ha p1;replace p2:=zbb (W:=wq.drew) ha p2;refine hK.out _ _ (⟨y0,y1,y2,y3,y4,b1,p0,p1,p2⟩) ?_;clear hK K
         try simp only[pT]
         refine qqL rfl (by rfl) (fun K hK=>?_)
         go_simp
         refine HC2.out.mono ?_;rintro e w5 ⟨u,r,t2,rfl,hu,hsz2,hb5⟩;obtain⟨ka,na,sa,oia,mia,cia,oka,mka,cka,rfl⟩:=hu.agg5;replace y0:=zbb (W:=wq.drew.alloc zero5) hb5 y0;replace y1:=zbb (W:=wq.drew.alloc zero5) hb5 y1;replace y2:=zbb (W:=wq.drew.alloc zero5) hb5 y2;replace y3:=zbb (W:=wq.drew.alloc zero5) hb5 y3;replace y4:=zbb (W:=wq.drew.alloc zero5) hb5 y4;replace b1:=zbb (W:=wq.drew.alloc zero5) hb5 b1;replace p0:=zbb (W:=wq.drew.alloc zero5) hb5 p0;replace p1:=zbb (W:=wq.drew.alloc zero5) hb5 p1;replace p2:=zbb (W:=wq.drew.alloc zero5) hb5 p2;have HG5:=hid (And.intro hu (And.intro hsz2 hb5));have ho5:=kO ho hb5;clear hu hsz2 hb5;refine hK.out _ _ (⟨y0,y1,y2,y3,y4,b1,p0,p1,p2⟩) ?_;clear hK K
         try simp only[pT]
         refine cR2 ?_;refine qqL rfl (by rfl) (fun K hK=>?_);refine zq 32 _ _ rfl wq.heap.size 0 [_,_,_,_,_] rfl rfl _ _ ho5 (by simp) (by kernel_rfl) rfl ?_;intro w7 hz7 hc7;have hw5:wq.heap.size≤wq.heap.size:=nR _;replace y0:=zcc hc7 (fun e=>by omega) y0;replace y1:=zcc hc7 (fun e=>by omega) y1;replace y2:=zcc hc7 (fun e=>by omega) y2;replace y3:=zcc hc7 (fun e=>by omega) y3;replace y4:=zcc hc7 (fun e=>by omega) y4;replace b1:=zcc hc7 (fun e=>by omega) b1;replace p0:=zcc hc7 (fun e=>by omega) p0;replace p1:=zcc hc7 (fun e=>by omega) p1;replace p2:=zcc hc7 (fun e=>by omega) p2;refine hK.out _ _ ⟨y0,y1,y2,y3,y4,b1,p0,p1,p2⟩ ?_;clear hK K
         try simp only[Act.put]
         refine cR2 ?_;refine zn ?_
         go_wp2_with fail
         go_meet;exact⟨_,_,_,_,_,_,_,_,_,_,_,_,rfl,rfl,hid (Got.two (wr:=wq) (fun g hg=>by have:=HPL2.out g hg;omega) (undrew ha) (by simp) HG5.out.2.2 HG5.out.1 HG5.out.2.1 hc7 hz7)⟩
       case rest =>
        obtain⟨Y2,r,kb,nb,sb,oib,mib,cib,okb,mkb,ckb,tb,rfl,rfl,G⟩:=hcut;clear y0 y1 y2 y3 y4 b1 p0 p1 p2 hWK hG1 HC1 HC2 hYL;have U3:=hid (U2.out.later G.out.bel);have HBR4:=hid (HBR3.out.trans (G.out.bel.mono HBR3.out.size));have HXZ4:=hid (kO HXZ3.out G.out.bel);have HXB4:=hid (kO HXB3.out G.out.bel);have HW4:=hid (And.intro G.out.bel.size G.out.hX)
        by_cases hr:r=0
        case neg =>
         obtain⟨rra,rrb,rrc⟩:=tF hr;clear hr
         go_wp2_with (refine zo rfl 32 _ _ rfl (w.heap.size+2) 0 [_,_,_,_,_] rfl rfl _ _ (HXZ4.out) (by simp) (by kernel_rfl) rfl ?_;intro ws hzs hcs)
         try simp only[Exit.inBlock,Exit.then]
         refine bodyPost_ret (zrt rfl _ ws (w.heap.size+2) 32 _ (0,0) _ rfl hzs Tryz.underlying32 rfl (by kernel_rfl)) rfl ?_;exact vres_mk (Q:=fun _=>False) _ (VV.flat _ _ 0 0 ⟨#[]⟩ (by decide)) (fun g hg=>hg.elim) (fun hg=>hg) HBR4.out (by omega) hcs (by rw[szV_flat];have:=HM.out;omega)
        obtain⟨rra,rrb,rrc⟩:=tT hr;clear hr;have T1:=hid (U3.out.later (zdd (Below.refl _ _)));have o4:=(cII T1.out.obj 4).trans rfl;have b2:=(cII HXB4.out 2).trans rfl;have q0:=zbb (HBK2.out.trans (G.out.bel.mono HBK2.out.size)) HQW.out;have HGN:=hid (show gn<wk.heap.size from World.block_lt_of_cell? wk _ HQW.out)
        have HLN:=hid (show acc.length≤1000000∧(ns.take j).length≤1000000 by
         have:=HAC.out.1;have h1:=HSZ.out.2;rw[sizeT_eq] at h1;have:=sizeL_len es
         rw[List.length_take];omega)
        have HNM:=hid (show nj.size≤140737488355328 from HNJ.out▸HN.out.2 _ (lM hn));have hXw:w.heap.size+3≤X:=HX0.out
        have hWX:wk.heap.size≤X:=by have:=BD.out.size;have:=HS.out.2;omega
        have hVN:¬ (Value.slice ok' mk' ck').ownBlock=some gn:=fun e=>by have:=(T1.out.rown _ e).1;have:=HGN.out;omega
        have hVN1:¬ (Value.slice ok' mk' ck').ownBlock=some (w.heap.size+1):=fun e=>by have:=(T1.out.rown _ e).1;omega
        have HVN:=hid hVN;have HVN1:=hid hVN1;have HXW:=hid hXw;clear hVN hVN1 hXw hWX
        go_wp2_with fail
        refine zt 10 (fun v=>v.cell? ⟨X,4,none⟩=some (.slice ok' mk' ck')∧v.cell? ⟨w.heap.size+1,2,none⟩=some (.slice (some ⟨gn,onn,none⟩) ns.length cn)∧v.cell? ⟨gn,onn+j,none⟩=some (.string nj)) (by kernel_rfl) (by kernel_rfl) (⟨o4,b2,q0⟩) ?_;simp only[List.take_succ_cons,List.take_zero,List.drop_succ_cons,List.drop_zero];refine cR2 ?_;refine qqL rfl (by rfl) (fun K hK=>?_)
        go_simp
        have hal:Below wc.drew.heap.size wc.drew (wc.drew.alloc (.cells #[.string nj] 9)):=(Below.refl _ _).alloc (nR _) _;refine hK.out _ _ (⟨zbb (W:=wc.drew) hal o4,zbb (W:=wc.drew) hal b2,zbb (W:=wc.drew) hal q0⟩) ?_;clear hK K
        try simp only[pT]
        clear hal;refine qqL rfl (by rfl) (fun K hK=>?_);refine app_tag_wp (.tmp 70) (.tmp 76) 30 (by rfl) 9 (.string ⟨#[]⟩) 1 16 Tryz.underlying30 info9 (by rfl) (by decide) (by decide) _ _ _ T1.out.row.owns (by rfl) [.string nj] wc.drew.heap.size (by rfl) (by rfl) (by rfl) (by simp[Value.oneCell']) (by have:=HLN.out.2;omega) ?_;intro v3 w3 hown3 hc3 hp3 hne3;obtain⟨o3,n3,c3,rfl⟩:=zw hown3;have hT3:w3.heap[X]? = _:=(hc3.block _ T1.out.lt (fun e=>(T1.out.rown _ e).2.1 rfl)).trans T1.out.obj;refine hK.out _ _ ⟨zcc hc3 (fun e=>(T1.out.rown _ e).2.1 rfl) o4,zcc hc3 HVN1.out b2,zcc hc3 HVN.out q0⟩ ?_;clear hK K
        try simp only[pT]
        have T4:=hid (T1.out.pushK (owns_row (l:=ns.take j++[nj]) (by rw[strs,List.map_append];exact hown3) (by simp)) (snocS T1.out.strs HNM.out) hp3 hc3 (Chg.setCell w3 X 4 (.slice o3 n3 c3) rfl) (obj_set (po:=4) hT3 (.slice o3 n3 c3)));have t2:=(cII hT3 4).trans rfl;have tf:=zff hT3
        have HC4:=hid (show Chg (fun g=>(Value.slice ok' mk' ck').ownBlock=some g∨g=X) wc (w3.setCell ⟨X,4,none⟩ (.slice o3 n3 c3)) from
         ((Chg.drew (fun g=>(Value.slice ok' mk' ck').ownBlock=some g∨g=X) wc).trans (hc3.mono fun g _ h=>.inl h)).trans (Chg.setCell w3 X 4 (.slice o3 n3 c3) (Or.inr rfl)))
        have HP3:Hid ((Value.slice o3 n3 c3).ownBlock=(Value.slice ok' mk' ck').ownBlock∨∃ g,(Value.slice o3 n3 c3).ownBlock=some g∧wc.heap.size≤g):=hid hp3;clear hown3 hc3 hp3 hne3 hT3 o4 b2 q0 T1;refine cR2 ?_;refine zn ?_
        go_upto_region 15 with (fail)
        clear t2 tf
        generalize w3.setCell ⟨X,4,none⟩ (.slice o3 n3 c3)=w4 at *
        have HBR5:=hid (HBD.out.trans (T4.out.bel.mono (by have:=HXW.out;omega)))
        have HO5:=hid ((HC4.out.block Y2 (aS G.out.obj).1 (fun e=>by
         have:=HW4.out.2
         rcases e with e|e
         ·have:=U2.out.row.lt e;omega
         ·have:=U2.out.lt;omega)).trans G.out.obj)
        have HVV5:=hid (G.out.vv.ex.keep (ZK.chg HC4.out fun g hg e=>by
         have h0:=HXW.out
         rcases hg.1 with h|h
         ·have:=HPL.out g h
          rcases e with e|e
          ·have:=(U2.out.rown _ e).1;omega
          ·omega
         ·rcases e with e|e
          ·have:=U2.out.row.lt e;omega
          ·have:=U2.out.lt;omega) fun g hg=>hg)
        have HS9:Hid (∀ g,((P g∨(wq.heap.size≤g∧g≠Y2))∧g<wc.heap.size)→((P g∨X≤g)∧(Value.slice o3 n3 c3).ownBlock≠some g)∧g≠X∧(Value.slice oi' mi' ci').ownBlock≠some g):=hid fun g hg=>by
         have h0:=HXW.out;have h1:=U2.out.lt
         rcases hg.1 with h|h
         ·have:=HPL.out g h
          exact⟨⟨.inl h,fun e=>by have:=(T4.out.rown _ e).1;omega⟩,by omega,fun e=>by have:=(U2.out.own.block e).1;omega⟩
         ·refine⟨⟨.inr (by omega),fun e=>?_⟩,by omega,fun e=>by have:=(U2.out.own.block e).2;omega⟩
          rcases HP3.out with h2|⟨g',h2,h3⟩
          ·rw[h2] at e
           have:=U2.out.row.lt e;omega
          ·rw[h2] at e
           cases e
           omega
        obtain⟨y0,y1,y2,y3,y4⟩:=C5.of HO5.out;have o3':=(cII T4.out.obj 3).trans rfl
        go_upto_region 9 with (first|(at_builtin;obtain⟨rs,hm,hl2,he4⟩:=T4.out.own;refine app_tag (by rfl) (.tmp 80) (.tmp 82) 29 (by rfl) 32 (.agg #[.int .i64 0,.int .i64 0,.string ⟨#[]⟩,.slice none 0 0,.slice none 0 0]) 5 80 Tryz.underlying29 infoV (by rfl) (by decide) (by decide) _ _ _ hm.1 (by rfl) [.int .i64 kb,.int .i64 nb,.string sb,.slice oib mib cib,.slice okb mkb ckb] w4.heap.size (by rfl) (by rfl) (by rfl) (by simp[Value.oneCell']) (by have:=HLN.out.1;omega) ?_;intro v9 w9 hown9 hc9 hp9 hne9;obtain⟨o8,n8,c8,rfl⟩:=zw hown9;have hX9:=(hc9.block _ T4.out.lt (fun e=>T4.out.eown e)).trans T4.out.obj;have HOW:=hid (T4.out.item (r:=(.int .i64 kb,.int .i64 nb,.string sb,.slice oib mib cib,.slice okb mkb ckb)) hm hl2 he4 hown9 HVV5.out HS9.out hp9 hc9);clear hm hl2 he4)|(refine z1s rfl 29 _ _ rfl X 3 _ rfl rfl _ _ hX9 (by simp) (by kernel_rfl) rfl ?_;intro w10 hz10 hc10))
        have U6:=hid (T4.out.pushI HOW.out hp9 hc9 hc10 hz10);clear hown9 hc9 hp9 hne9 hX9 hz10 hc10 o3' y0 y1 y2 y3 y4 HOW;have HTK:=hid (show ns.take (j+1)=ns.take j++[nj] by rw[List.take_add_one,lG hn,HNJ.out];rfl)
        go_wp2_with fail
        go_roundw
        case rel =>
         refine⟨j+1,_,_,_,_,_,_,acc++[tb],by omega,by omega,by go_num,by rw[HTK.out];exact U6,hid ⟨by rw[List.length_append,HAC.out.1];rfl,?_⟩⟩;have h1:=HAC.out.2;have h2:=G.out.sz;have h3:=HJ.out;have h4:=HSI.out;rw[szL_app,szL,szL];rw[h4,Nat.mul_add] at h1
         omega
        case measure=>simp[intOf];omega
     ·have fe:decide ((j:Int)<(es.length:Int))=false:=dF (by omega)
      have HFA:=hid (show szL acc≤szV (.mk k n s is ks)*sizeL es by have:=HAC.out.2;omega);have HRD:=hid (U.out.read (by have:=HAC.out.1;have h1:=HSZ.out.2;rw[sizeT_eq] at h1;have:=sizeL_len es;omega) (by rw[List.length_take];omega));obtain⟨o0,o1,o2,o3,o4⟩:=C5.of U.out.obj;have hX0:=HX0.out
      go_wp2_with (refine zo rfl 32 _ _ rfl (w.heap.size+2) 0 [_,_,_,_,_] rfl rfl _ _ (HXZ2.out) (by simp) (by kernel_rfl) rfl ?_;intro ws hzs hcs)
      try simp only[Exit.inBlock,Exit.then]
      refine bodyPost_ret (zrt rfl _ ws (w.heap.size+2) 32 _ (0,0) _ rfl hzs Tryz.underlying32 rfl (by kernel_rfl)) rfl ?_;refine vres_mk _ HRD.out (fun g hg=>hg.1.imp id fun h=>by omega) (fun hg=>by rcases hg.1 with h|h;(have:=HPL.out _ h;omega);omega) HBR2.out (by omega) hcs ?_;have h1:=HFA.out;have h2:=HM.out.1;rw[szV,sizeT_eq,Nat.mul_add]
      omega
    ·have fe:decide ((j:Int)<(ns.length:Int))=false:=dF (by omega)
     have HFA:=hid (show szL acc≤szV (.mk k n s is ks)*sizeL es by have:=HAC.out.2;omega);have HRD:=hid (U.out.read (by have:=HAC.out.1;have h1:=HSZ.out.2;rw[sizeT_eq] at h1;have:=sizeL_len es;omega) (by rw[List.length_take];omega));obtain⟨o0,o1,o2,o3,o4⟩:=C5.of U.out.obj;have hX0:=HX0.out
     go_wp2_with (refine zo rfl 32 _ _ rfl (w.heap.size+2) 0 [_,_,_,_,_] rfl rfl _ _ (HXZ2.out) (by simp) (by kernel_rfl) rfl ?_;intro ws hzs hcs)
     try simp only[Exit.inBlock,Exit.then]
     refine bodyPost_ret (zrt rfl _ ws (w.heap.size+2) 32 _ (0,0) _ rfl hzs Tryz.underlying32 rfl (by kernel_rfl)) rfl ?_;refine vres_mk _ HRD.out (fun g hg=>hg.1.imp id fun h=>by omega) (fun hg=>by rcases hg.1 with h|h;(have:=HPL.out _ h;omega);omega) HBR2.out (by omega) hcs ?_;have h1:=HFA.out;have h2:=HM.out.1;rw[szV,sizeT_eq,Nat.mul_add]
     omega
end Go.Proofs.YtibiiafcnaijeaaGreat
