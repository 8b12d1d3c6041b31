/- Texts that stand alike under several statements, run together. -/
import Derived.Test.YtibiiafcnaijeaaGreatB00
import Derived.Test.YtibiiafcnaijeaaGreatB38
import Derived.Test.YtibiiafcnaijeaaGreatB25
import Derived.Test.YtibiiafcnaijeaaGreatB04
namespace Go.Proofs.YtibiiafcnaijeaaGreat
open Go Go.RowKit Go.Proofs.YtibiiafcnaijeaaGreat.Steady
set_option linter.unusedVariables false
set_option linter.unusedSimpArgs false
set_option maxRecDepth 100000
set_option maxHeartbeats 40000000
theorem smallT_facts {t:Ty} (h:smallB t 60=true):sizeT t≤60∧namesT t≤120:=by
 unfold smallB at h;rw [Bool.and_eq_true,decide_eq_true_eq,decide_eq_true_eq] at h;have:=left_le t 60 40
 omega
structure SmI (i:Inp):Prop where
 sc:ScS i.sc
 la:∀ a∈i.sc.attrs,namesT a.ty≤120
 lna:∀ n∈i.sc.nested,∀ a∈n.attrs,namesT a.ty≤120
 ig:i.ignore.length≤20
 ds:i.deps.length≤20
 pd:i.prior.deps.length≤20
 pv:szV i.prior.attrs≤300∧kyV i.prior.attrs≤600
 cv:szV i.cnfg≤300∧kyV i.cnfg≤600
theorem SmI.inOk {i:Inp} (h:SmI i):InOk i:=by
 obtain ⟨⟨h1,h2,h3,h4,h5⟩,h6,h7,h8,h9,h10,h11,h12⟩:=h;exact ⟨⟨by omega,by omega,fun a ha=>⟨by have:=h3 a ha;omega,by have:=h6 a ha;omega⟩,fun n hn=>⟨by have:=h4 n hn;omega,fun a ha=>⟨by have:=h5 n hn a ha;omega,by have:=h7 n hn a ha;omega⟩⟩⟩,h1,h2,h11.1,h11.2,h12.1,h12.2,h8,h9,h10⟩
def SmPost (i:Inp) (w:World) (e:Ending) (w':World):Prop:=∃ b:Bool,e=.returned (.bool b)∧(b=true→SmI i)∧Below w.heap.size w w'
theorem lsmall_any (i:Inp) (P:Nat→Prop) (w:World) (x:Value) (hx:INV P w x i) :
  Calls Tryz.prog 21 #[x] w (SmPost i w):=by
 obtain ⟨oa,ca,on,cn,kp,np,sp,oip,mip,cip,okp,mkp,ckp,od,cd,kc,nc,sc,oic,mic,cic,okc,mkc,ckc,og,cg,ot,mt,ct,oD,cD,rfl,hSC,hVP,hSD,hVC,hSG,hSS⟩:=hx;have hla:=hSC.1.le;have hln:=hSC.2.le;have hl1:=hSD.le;have hl2:=hSG.le;have hl3:=hSS.le;have hbo:=zaa (w:=w) (o:=.cells #[.string i.addr,.string i.tname,.slice oa i.sc.attrs.length ca,.slice on i.sc.nested.length cn,.int .i64 i.quota,.bool i.has,.string i.prior.addr,.string i.prior.deposed,.string i.prior.id,.string i.prior.type,.int .i64 kp,.int .i64 np,.string sp,.slice oip mip cip,.slice okp mkp ckp,.int .i64 i.prior.version,.bool i.prior.tainted,.bool i.prior.createFirst,.slice od i.prior.deps.length cd,.int .i64 kc,.int .i64 nc,.string sc,.slice oic mic cic,.slice okc mkc ckc,.bool i.createFirst,.bool i.protect,.slice og i.ignore.length cg,.slice ot mt ct,.bool i.triggered,.bool i.requested,.slice oD i.deps.length cD] 39)
 have hoo:=zhh w (.cells #[.string i.addr,.string i.tname,.slice oa i.sc.attrs.length ca,.slice on i.sc.nested.length cn,.int .i64 i.quota,.bool i.has,.string i.prior.addr,.string i.prior.deposed,.string i.prior.id,.string i.prior.type,.int .i64 kp,.int .i64 np,.string sp,.slice oip mip cip,.slice okp mkp ckp,.int .i64 i.prior.version,.bool i.prior.tainted,.bool i.prior.createFirst,.slice od i.prior.deps.length cd,.int .i64 kc,.int .i64 nc,.string sc,.slice oic mic cic,.slice okc mkc ckc,.bool i.createFirst,.bool i.protect,.slice og i.ignore.length cg,.slice ot mt ct,.bool i.triggered,.bool i.requested,.slice oD i.deps.length cD] 39)
 generalize hA:w.alloc (.cells #[.string i.addr,.string i.tname,.slice oa i.sc.attrs.length ca,.slice on i.sc.nested.length cn,.int .i64 i.quota,.bool i.has,.string i.prior.addr,.string i.prior.deposed,.string i.prior.id,.string i.prior.type,.int .i64 kp,.int .i64 np,.string sp,.slice oip mip cip,.slice okp mkp ckp,.int .i64 i.prior.version,.bool i.prior.tainted,.bool i.prior.createFirst,.slice od i.prior.deps.length cd,.int .i64 kc,.int .i64 nc,.string sc,.slice oic mic cic,.slice okc mkc ckc,.bool i.createFirst,.bool i.protect,.slice og i.ignore.length cg,.slice ot mt ct,.bool i.triggered,.bool i.requested,.slice oD i.deps.length cD] 39)=wa at *
 have hsz:wa.heap.size=w.heap.size + 1:=by rw [← hA];simp
 have hbs:=zaa (w:=wa) (o:=.cells #[.slice oa i.sc.attrs.length ca,.slice on i.sc.nested.length cn] 25);have hos:=zhh wa (.cells #[.slice oa i.sc.attrs.length ca,.slice on i.sc.nested.length cn] 25)
 generalize hC:wa.alloc (.cells #[.slice oa i.sc.attrs.length ca,.slice on i.sc.nested.length cn] 25)=W at *
 rw [hsz] at hos;have HA:=hid hA;have HC:=hid hC;have HSZ:=hid hsz;have HB:=hid (hbo.trans (hbs.mono hbo.size));have HXS:=hid hos;have HSC:=hid (hSC.bel HB.out);have HVP:=hid (hVP.bel HB.out);have HVC:=hid (hVC.bel HB.out);have HXI:=hid (kO hoo hbs);obtain ⟨x0,x1,x2,x3,x4,x5,x6,x7,x8,x9,x10,x11,x12,x13,x14,x15,x16,x17,x18,x19,x20,x21,x22,x23,x24,x25,x26,x27,x28,x29,x30⟩:=C31.of hoo;clear hA hC hbo hoo hsz hbs hos hSC hVP hVC hSD hSG hSS
 go_enter Tryz.func21,Tryz.ntmps21
 go_upto_region 1 with (fail)
 rw [HA.out]
 go_upto_region 2 with (fail)
 rw [HC.out,HSZ.out];clear x0 x1 x2 x3 x4 x5 x6 x7 x8 x9 x10 x11 x12 x13 x14 x15 x16 x17 x18 x19 x20 x21 x22 x23 x24 x25 x26 x27 x28 x29 x30;obtain ⟨x0,x1,x2,x3,x4,x5,x6,x7,x8,x9,x10,x11,x12,x13,x14,x15,x16,x17,x18,x19,x20,x21,x22,x23,x24,x25,x26,x27,x28,x29,x30⟩:=C31.of HXI.out;have s0:=(cII HXS.out 0).trans rfl;have s1:=(cII HXS.out 1).trans rfl;clear x0 x1 x2 x3 x4 x5 x6 x7 x8 x9 x15 x16 x17 x24 x25 x27 x28 x29
 by_cases h1:(i.sc.attrs.length:Int) > 20
 ·have fh1:decide ((i.sc.attrs.length:Int) > 20)=true:=dTT h1
  clear h1
  go_wp2_with fail
  go_ret;exact ⟨false,rfl,nF,HB.out⟩
 have fh1:decide ((i.sc.attrs.length:Int) > 20)=false:=dF h1;have Lh1:=hid (show i.sc.attrs.length≤20 by omega);clear h1
 by_cases h2:(i.sc.nested.length:Int) > 20
 ·have fh2:decide ((i.sc.nested.length:Int) > 20)=true:=dTT h2
  clear h2
  go_wp2_with fail
  go_ret;exact ⟨false,rfl,nF,HB.out⟩
 have fh2:decide ((i.sc.nested.length:Int) > 20)=false:=dF h2;have Lh2:=hid (show i.sc.nested.length≤20 by omega);clear h2
 by_cases h3:(i.deps.length:Int) > 20
 ·have fh3:decide ((i.deps.length:Int) > 20)=true:=dTT h3
  clear h3
  go_wp2_with fail
  go_ret;exact ⟨false,rfl,nF,HB.out⟩
 have fh3:decide ((i.deps.length:Int) > 20)=false:=dF h3;have Lh3:=hid (show i.deps.length≤20 by omega);clear h3
 by_cases h4:(i.prior.deps.length:Int) > 20
 ·have fh4:decide ((i.prior.deps.length:Int) > 20)=true:=dTT h4
  clear h4
  go_wp2_with fail
  go_ret;exact ⟨false,rfl,nF,HB.out⟩
 have fh4:decide ((i.prior.deps.length:Int) > 20)=false:=dF h4;have Lh4:=hid (show i.prior.deps.length≤20 by omega);clear h4
 by_cases h5:(i.ignore.length:Int) > 20
 ·have fh5:decide ((i.ignore.length:Int) > 20)=true:=dTT h5
  clear h5
  go_wp2_with fail
  go_ret;exact ⟨false,rfl,nF,HB.out⟩
 have fh5:decide ((i.ignore.length:Int) > 20)=false:=dF h5;have Lh5:=hid (show i.ignore.length≤20 by omega);clear h5;have HP:=hid (smallV_any P W _ _ HVP.out 300 (by decide) (by decide));have hpf:=smallV_facts (v:=i.prior.attrs) (n:=300);have HPF:=hid hpf;clear hpf
 cases hp:smallVB i.prior.attrs 300 with
 | false =>
  rw [hp] at HP;clear hp
  go_wp2_with fail
  refine HP.out.mono ?_;rintro e w2 ⟨rfl,hb2⟩;have HB2:=hid (HB.out.trans (hb2.mono HB.out.size));clear hb2
  go_wp2_with fail
  go_ret;exact ⟨false,rfl,nF,HB2.out⟩
 | true =>
 have HPF2:=hid (HPF.out hp);rw [hp] at HP;clear hp HPF
 go_wp2_with fail
 refine HP.out.mono ?_;rintro e w2 ⟨rfl,hb2⟩;have HB2:=hid (HB.out.trans (hb2.mono HB.out.size));have HXS2:=hid (kO HXS.out hb2);have HXI2:=hid (kO HXI.out hb2);have HC2:=hid (smallV_any P w2 _ _ (HVC.out.bel hb2) 300 (by decide) (by decide));have hpf:=smallV_facts (v:=i.cnfg) (n:=300);have HCF:=hid hpf;have HSC2:=hid (HSC.out.bel hb2);clear hpf hb2 x10 x11 x12 x13 x14 x18 x19 x20 x21 x22 x23 x26 x30 s0 s1 HP HSC;obtain ⟨x0,x1,x2,x3,x4,x5,x6,x7,x8,x9,x10,x11,x12,x13,x14,x15,x16,x17,x18,x19,x20,x21,x22,x23,x24,x25,x26,x27,x28,x29,x30⟩:=C31.of HXI2.out;clear x0 x1 x2 x3 x4 x5 x6 x7 x8 x9 x10 x11 x12 x13 x14 x15 x16 x17 x18 x24 x25 x26 x27 x28 x29 x30
 cases hp:smallVB i.cnfg 300 with
 | false =>
  rw [hp] at HC2;clear hp
  go_wp2_with fail
  refine HC2.out.mono ?_;rintro e w3 ⟨rfl,hb3⟩;have HB3:=hid (HB2.out.trans (hb3.mono HB2.out.size));clear hb3
  go_wp2_with fail
  go_ret;exact ⟨false,rfl,nF,HB3.out⟩
 | true =>
 have HCF2:=hid (HCF.out hp);rw [hp] at HC2;clear hp HCF
 go_wp2_with fail
 refine HC2.out.mono ?_;rintro e w3 ⟨rfl,hb3⟩;have HB3:=hid (HB2.out.trans (hb3.mono HB2.out.size));have HXS3:=hid (kO HXS2.out hb3);have HSC3:=hid (HSC2.out.bel hb3);clear hb3 HC2 x19 x20 x21 x22 x23 HXS HXS2 HXI HXI2 HVP HVC HB HB2 HSC2 fh1 fh2 fh3 fh4 fh5
 go_wp2_with fail
 go_loopw [4] (fun iv wr=>∃ j:Nat,j≤i.sc.attrs.length∧iv=.int .i64 j∧Hid (Below w3.heap.size w3 wr)∧Hid (∀ k (h:k < i.sc.attrs.length),k < j→sizeT i.sc.attrs[k].ty≤60∧namesT i.sc.attrs[k].ty≤120)) (fun iv _=>i.sc.attrs.length - (intOf iv).toNat)
 case atStart=>exact ⟨0,Nat.zero_le _,rfl,hid (Below.refl _ _),hid fun k h hk=>absurd hk (Nat.not_lt_zero _)⟩
 case round =>
  obtain ⟨j,hj,rfl,B,A⟩:=hrel;have HXS4:=hid (kO HXS3.out B.out);have HB4:=hid (HB3.out.trans (B.out.mono HB3.out.size));have s0:=(cII HXS4.out 0).trans rfl
  by_cases hlt:j < i.sc.attrs.length
  ·obtain ⟨g,o,c,k,oe,me,ce,on',mn,cn',hg,e1,a0,a1,a2,a3,a4,a5,a6,a7,hTV,hsz⟩:=(HSC3.out.1.bel B.out).at hlt
   cases e1
   have hj0:(0:Int)≤(j:Int):=by omega
   have hj1:(j:Int) < (i.sc.attrs.length:Int):=by omega
   have HS:=hid (small_any P wr _ _ hTV 60 (by decide) (by decide))
   have HST:Hid (smallB i.sc.attrs[j].ty 60=true→∀ k (h:k < i.sc.attrs.length),k < j + 1→sizeT i.sc.attrs[k].ty≤60∧namesT i.sc.attrs[k].ty≤120):=hid fun hs k h hk=>by
    by_cases e:k=j
    ·subst e;exact smallT_facts hs
    ·exact A.out k h (by omega)
   clear hTV A a0 a4 a5 a6 a7
   cases hs:smallB i.sc.attrs[j].ty 60 with
   | false =>
    rw [hs] at HS;clear hs
    go_wp2_with fail
    refine HS.out.mono ?_;rintro e w5 ⟨rfl,hb5⟩;have HB5:=hid (HB4.out.trans (hb5.mono HB4.out.size));clear hb5
    go_wp2_with fail
    go_ret;exact ⟨false,rfl,nF,HB5.out⟩
   | true =>
    have HS2:=hid (HST.out hs);rw [hs] at HS;clear hs HST
    go_wp2_with fail
    refine HS.out.mono ?_;rintro e w5 ⟨rfl,hb5⟩;have B5:=hid (B.out.trans (hb5.mono B.out.size));clear hb5
    go_wp2_with fail
    go_roundw
    case rel=>exact ⟨j + 1,by omega,by go_num,B5,HS2⟩
    case measure=>simp [intOf];omega
  ·have HTA:=hid (show ∀ a∈i.sc.attrs,sizeT a.ty≤60∧namesT a.ty≤120 from fun a ha=>by
    obtain ⟨k,hk,rfl⟩:=List.getElem_of_mem ha
    exact A.out k hk (by omega))
   have BB:=hid B.out;clear A
   go_wp2_with fail
   go_loopw [5] (fun iv wr=>∃ j:Nat,j≤i.sc.nested.length∧iv=.int .i64 j∧Hid (Below w3.heap.size w3 wr)∧Hid (∀ k (h:k < i.sc.nested.length),k < j→i.sc.nested[k].attrs.length≤20∧∀ a∈i.sc.nested[k].attrs,sizeT a.ty≤60∧namesT a.ty≤120)) (fun iv _=>i.sc.nested.length - (intOf iv).toNat)
   case atStart=>exact ⟨0,Nat.zero_le _,rfl,BB,hid fun k h hk=>absurd hk (Nat.not_lt_zero _)⟩
   case round =>
    clear BB s0 B HB4 HXS4;obtain ⟨j,hj,rfl,B,A⟩:=hrel;have HXS4:=hid (kO HXS3.out B.out);have HB4:=hid (HB3.out.trans (B.out.mono HB3.out.size));have s1:=(cII HXS4.out 1).trans rfl
    by_cases hlt:j < i.sc.nested.length
    ·obtain ⟨g,o,c,on',cn',hg,e1,a0,a1,a2,a3,a4,hAV,hsz⟩:=(HSC3.out.2.bel B.out).at hlt
     cases e1
     have hj0:(0:Int)≤(j:Int):=by omega
     have hj1:(j:Int) < (i.sc.nested.length:Int):=by omega
     have HAV:=hid hAV
     have HST:Hid ((i.sc.nested[j].attrs.length≤20∧∀ a∈i.sc.nested[j].attrs,sizeT a.ty≤60∧namesT a.ty≤120)→∀ k (h:k < i.sc.nested.length),k < j + 1→i.sc.nested[k].attrs.length≤20∧∀ a∈i.sc.nested[k].attrs,sizeT a.ty≤60∧namesT a.ty≤120):=hid fun hs k h hk=>by
      by_cases e:k=j
      ·subst e;exact hs
      ·exact A.out k h (by omega)
     have hle:=hAV.le;have HA3:=hid a3;clear hAV A a0 a1 a2 a4
     generalize i.sc.nested[j]=nd at *
     by_cases hl:(nd.attrs.length:Int) > 20
     ·have fl:decide ((nd.attrs.length:Int) > 20)=true:=dTT hl
      clear hl
      go_wp2_with fail
      go_ret;exact ⟨false,rfl,nF,HB4.out⟩
     have fl:decide ((nd.attrs.length:Int) > 20)=false:=dF hl;have HLN:=hid (show nd.attrs.length≤20 by omega);clear hl;obtain ⟨wo,rfl⟩:∃ v,v=wr:=⟨_,rfl⟩
     go_wp2_with fail
     go_loopw [6] (fun iv wr=>∃ q:Nat,q≤nd.attrs.length∧iv=.int .i64 q∧Hid (Below wo.heap.size wo wr)∧Hid (∀ k (h:k < nd.attrs.length),k < q→sizeT nd.attrs[k].ty≤60∧namesT nd.attrs[k].ty≤120)) (fun iv _=>nd.attrs.length - (intOf iv).toNat)
     case atStart=>exact ⟨0,Nat.zero_le _,rfl,hid (Below.refl _ _),hid fun k h hk=>absurd hk (Nat.not_lt_zero _)⟩
     case round =>
      clear s1 a3;obtain ⟨q,hq,rfl,B2,A2⟩:=hrel;have HXS5:=hid (kO HXS4.out B2.out);have HB5:=hid (HB4.out.trans (B2.out.mono HB4.out.size));have s1:=(cII HXS5.out 1).trans rfl;have a3:=zbb B2.out HA3.out
      by_cases hlq:q < nd.attrs.length
      ·obtain ⟨g',o',c',k,oe,me,ce,on2,mn2,cn2,hg',e2,b0,b1,b2,b3,b4,b5,b6,b7,hTV,hsz2⟩:=(HAV.out.bel B2.out).at hlq
       cases e2
       have hq0:(0:Int)≤(q:Int):=by omega
       have hq1:(q:Int) < (nd.attrs.length:Int):=by omega
       have HS:=hid (small_any P wr _ _ hTV 60 (by decide) (by decide))
       have HSQ:Hid (smallB nd.attrs[q].ty 60=true→∀ k (h:k < nd.attrs.length),k < q + 1→sizeT nd.attrs[k].ty≤60∧namesT nd.attrs[k].ty≤120):=hid fun hs k h hk=>by
        by_cases e:k=q
        ·subst e;exact smallT_facts hs
        ·exact A2.out k h (by omega)
       clear hTV A2 b0 b4 b5 b6 b7
       cases hs:smallB nd.attrs[q].ty 60 with
       | false =>
        rw [hs] at HS;clear hs
        go_wp2_with fail
        refine HS.out.mono ?_;rintro e w5 ⟨rfl,hb5⟩;have HB6:=hid (HB5.out.trans (hb5.mono HB5.out.size));clear hb5
        go_wp2_with fail
        go_ret;exact ⟨false,rfl,nF,HB6.out⟩
       | true =>
        have HS2:=hid (HSQ.out hs);rw [hs] at HS;clear hs HSQ
        go_wp2_with fail
        refine HS.out.mono ?_;rintro e w5 ⟨rfl,hb5⟩;have B5:=hid (B2.out.trans (hb5.mono B2.out.size));clear hb5
        go_wp2_with fail
        go_roundw
        case rel=>exact ⟨q + 1,by omega,by go_num,B5,HS2⟩
        case measure=>simp [intOf];omega
      ·have HTN:=hid (HST.out ⟨HLN.out,fun a ha=>by
        obtain ⟨k,hk,rfl⟩:=List.getElem_of_mem ha
        exact A2.out k hk (by omega)⟩)
       have B5:=hid (B.out.trans (B2.out.mono B.out.size));clear A2 HST
       go_wp2_with fail
       go_roundw
       case rel=>exact ⟨j + 1,by omega,by go_num,B5,HTN⟩
       case measure=>simp [intOf];omega
    ·have HTN:=hid (show ∀ n∈i.sc.nested,n.attrs.length≤20∧∀ a∈n.attrs,sizeT a.ty≤60∧namesT a.ty≤120 from fun a ha=>by
      obtain ⟨k,hk,rfl⟩:=List.getElem_of_mem ha
      exact A.out k hk (by omega))
     clear A
     go_wp2_with fail
     go_ret;exact ⟨true,rfl,fun _=>⟨⟨Lh1.out,Lh2.out,fun a ha=>(HTA.out a ha).1,fun n hn=>(HTN.out n hn).1,fun n hn a ha=>((HTN.out n hn).2 a ha).1⟩,fun a ha=>(HTA.out a ha).2,fun n hn a ha=>((HTN.out n hn).2 a ha).2,Lh5.out,Lh3.out,Lh4.out,HPF2.out,HCF2.out⟩,HB4.out⟩
end Go.Proofs.YtibiiafcnaijeaaGreat
