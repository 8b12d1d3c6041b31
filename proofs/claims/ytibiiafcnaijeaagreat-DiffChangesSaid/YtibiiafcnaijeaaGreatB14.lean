/- A part. -/
import Derived.Test.YtibiiafcnaijeaaGreatB00
import Derived.Test.YtibiiafcnaijeaaGreatB10
import Derived.Test.YtibiiafcnaijeaaGreatB13
namespace Go.Proofs.YtibiiafcnaijeaaGreat
open Go Go.RowKit Go.Proofs.YtibiiafcnaijeaaGreat.Steady
set_option linter.unusedVariables false
set_option linter.unusedSimpArgs false
set_option maxRecDepth 100000
set_option maxHeartbeats 40000000
def ATV (P:Nat→Prop) (w:World) (v:Value) (a:At):Prop:=∃ k oe me ce on mn cn,v=.agg #[.string a.name,.int .i64 k,.slice oe me ce,.slice on mn cn,.int .i64 a.mode,.bool a.rep,.bool a.sens,.bool a.vol] ∧
 TV P w (.agg #[.int .i64 k,.slice oe me ce,.slice on mn cn]) a.ty∧a.name.size≤140737488355328
theorem ATV.keep {P Q:Nat→Prop}{w w':World}{v:Value}{a:At}(h:ATV P w v a) (k:ZK P w w') (hq:∀ g,P g→Q g):ATV Q w' v a:=by
 obtain⟨k1,oe,me,ce,on,mn,cn,e,ht,hs⟩:=h;exact⟨k1,oe,me,ce,on,mn,cn,e,ht.keep k hq,hs⟩
theorem ATV.bel {P:Nat→Prop}{w w':World}{v:Value}{a:At}(h:ATV P w v a) (hb:Below w.heap.size w w'):ATV P w' v a:=h.keep (ZK.below hb) fun _ h=>h
def attrE (a:At) (p:Option ByteArray):Int:=if identB a.name=false then 7 else if badP p a.name=true then 1 else if checkT a.ty 1≠0 then checkT a.ty 1 else if a.mode<1∨4<a.mode then 1 else if a.vol=true∧(a.mode=1∨a.mode=2) then 1 else 0
def firstO (before:ByteArray) (first:Bool):Option ByteArray:=if first then none else some before
theorem rattr_any (a:At) (before:ByteArray) (first:Bool) (P:Nat→Prop) (w:World) (v:Value) (hv:ATV P w v a) :
  Calls Tryz.prog 80 #[v,.string before,.bool first] w (Ret (.int .i64 (attrE a (firstO before first))) w):=by
 obtain⟨k,oe,me,ce,on,mn,cn,rfl,hT,hs⟩:=hv;have hA:=zhh w (.cells #[.string a.name,.int .i64 k,.slice oe me ce,.slice on mn cn,.int .i64 a.mode,.bool a.rep,.bool a.sens,.bool a.vol] 64);have hB:Below w.heap.size w (w.alloc (.cells #[.string a.name,.int .i64 k,.slice oe me ce,.slice on mn cn,.int .i64 a.mode,.bool a.rep,.bool a.sens,.bool a.vol] 64)):=(Below.refl _ _).alloc (nR _) _
 generalize hW:w.alloc (.cells #[.string a.name,.int .i64 k,.slice oe me ce,.slice on mn cn,.int .i64 a.mode,.bool a.rep,.bool a.sens,.bool a.vol] 64)=W at *
 have HI:=hid (rident_any a.name W hs);have HC:=hid (orcheck_any P W _ a.ty (hT.bel hB));have HW:=hid hW;have HB:=hid hB;have HA:=hid hA;have a0:=(cII hA 0).trans rfl;have a1:=(cII hA 1).trans rfl;have a2:=(cII hA 2).trans rfl;have a3:=(cII hA 3).trans rfl;have a4:=(cII hA 4).trans rfl;have a7:=(cII hA 7).trans rfl;clear hW hB hA hT;obtain⟨nm,ty,md,rp,sn,vl⟩:=a
 simp only at *
 have hP:Hid (attrE ⟨nm,ty,md,rp,sn,vl⟩ (firstO before first)=if identB nm=false then 7 else if badP (firstO before first) nm=true then 1 else if checkT ty 1≠0 then checkT ty 1 else if md<1∨4<md then 1 else if vl=true∧(md=1∨md=2) then 1 else 0):=hid rfl
 generalize attrE ⟨nm,ty,md,rp,sn,vl⟩ (firstO before first)=r at *
 generalize checkT ty 1=c at *
 cases hid0:identB nm with
 | false =>
  have HP:=hid (hP.out.trans (if_pos hid0));rw[hid0] at HI;clear hid0 hP
  go_enter Tryz.func80,Tryz.ntmps80
  go_wp2_with fail
  rw[HW.out];refine HI.out.mono ?_;rintro e wx ⟨rfl,rfl⟩
  go_wp2_with fail
  go_ret;exact⟨by rw[HP.out];rfl,HB.out⟩
 | true =>
  have HP:=hid (hP.out.trans (if_neg (by rw[hid0];simp)));rw[hid0] at HI;clear hid0 hP
  cases hbd:badP (firstO before first) nm with
  | true =>
   have HP2:=hid (HP.out.trans (if_pos hbd))
   cases first with
   | true=>cases hbd
   | false =>
    have hlt:ltS before nm=false:=by simpa [firstO,badP] using hbd
    have l1:=ltS_not hlt;clear hbd HP hlt
    go_enter Tryz.func80,Tryz.ntmps80
    go_wp2_with fail
    rw[HW.out];refine HI.out.mono ?_;rintro e wx ⟨rfl,rfl⟩
    go_wp2_with fail
    go_ret;exact⟨by rw[HP2.out];rfl,HB.out⟩
  | false =>
   have HP2:=hid (HP.out.trans (if_neg (by rw[hbd];simp)));have HBD:=hid hbd;clear HP hbd
   go_enter Tryz.func80,Tryz.ntmps80
   go_wp2_with fail
   rw[HW.out];refine HI.out.mono ?_;rintro e wx ⟨rfl,rfl⟩
   go_upto_region 3 with (fail)
   go_cut [19] (fun v wy=>v=.bool false∧W=wy)
   case first =>
    cases first with
    | true =>
     go_wp2_with fail
     go_meet;exact⟨rfl,rfl⟩
    | false =>
     have hlt:ltS before nm=true:=by simpa [firstO,badP] using HBD.out
     obtain⟨l1,l2⟩:=ltS_facts hlt
     go_wp2_with fail
     go_meet;exact⟨rfl,rfl⟩
   clear HBD HI
   case rest =>
    obtain⟨rfl,rfl⟩:=hcut
    by_cases hc:c=0
    ·subst hc
     have HP3:=hid (HP2.out.trans (if_neg (by decide)));clear HP2
     go_wp2_with fail
     refine HC.out.mono ?_;rintro e wz ⟨rfl,hbz⟩;have b4:=zbb hbz a4;have b7:=zbb hbz a7;have HBZ:=hT HB hbz;clear hbz HB HC a0 a1 a2 a3 a4 a7 HA
     by_cases m1:md<1
     ·have HP4:=hid (HP3.out.trans (if_pos (Or.inl m1)))
      have f1:decide (md<1)=true:=dTT m1;clear HP3 m1
      go_wp2_with fail
      go_ret;exact⟨by rw[HP4.out];rfl,HBZ.out⟩
     ·have f1:decide (md<1)=false:=dF m1
      by_cases m4:md > 4
      ·have HP4:=hid (HP3.out.trans (if_pos (Or.inr m4)))
       have f2:decide (md > 4)=true:=dTT m4;clear HP3 m1 m4
       go_wp2_with fail
       go_ret;exact⟨by rw[HP4.out];rfl,HBZ.out⟩
      ·have f2:decide (md > 4)=false:=dF m4
       have HP4:=hid (HP3.out.trans (if_neg (by omega)));clear HP3 m1 m4
       cases vl with
       | false =>
        have HP5:=hid (HP4.out.trans (if_neg (by simp)));clear HP4
        go_wp2_with fail
        go_ret;exact⟨by rw[HP5.out];rfl,HBZ.out⟩
       | true =>
        by_cases e1:md=1
        ·have HP5:=hid (HP4.out.trans (if_pos ⟨rfl,Or.inl e1⟩))
         have f3:(md == 1)=true:=bT e1;have f4:decide (md=1)=true:=dTT e1;clear HP4 e1
         go_wp2_with fail
         go_ret;exact⟨by rw[HP5.out];rfl,HBZ.out⟩
        ·have f3:(md == 1)=false:=bF e1
         have f4:decide (md=1)=false:=dF e1
         by_cases e2:md=2
         ·have HP5:=hid (HP4.out.trans (if_pos ⟨rfl,Or.inr e2⟩))
          have f5:(md == 2)=true:=bT e2;have f6:decide (md=2)=true:=dTT e2;clear HP4 e1 e2
          go_wp2_with fail
          go_ret;exact⟨by rw[HP5.out];rfl,HBZ.out⟩
         ·have HP5:=hid (HP4.out.trans (if_neg (fun h=>h.2.elim e1 e2)))
          have f5:(md == 2)=false:=bF e2;have f6:decide (md=2)=false:=dF e2;clear HP4 e1 e2
          go_wp2_with fail
          go_ret;exact⟨by rw[HP5.out];rfl,HBZ.out⟩
    ·have HP3:=hid (HP2.out.trans (if_pos hc))
     have f2:(c == 0)=false:=bF hc
     have f3:(c != 0)=true:=by rw[bne,f2];rfl
     have f4:decide (c=0)=false:=dF hc;clear hc HP2
     go_wp2_with fail
     refine HC.out.mono ?_;rintro e wz ⟨rfl,hbz⟩
     go_wp2_with fail
     go_ret;exact⟨by rw[HP3.out];rfl,HB.out.trans (hbz.mono HB.out.size)⟩
def attrsE:List At→Option ByteArray→Bool→Int
 | [],_,_=>0
 | a :: l,p,n=>if attrE a p≠0 then attrE a p else if n=true∧a.mode≠1∧a.mode≠2 then 1 else attrsE l (some a.name) n
theorem attrsE_step {l:List At}{k:Nat}(h:k<l.length) (p:Option ByteArray) (n:Bool):attrsE (l.drop k) p n=if attrE l[k] p≠0 then attrE l[k] p else if n=true∧l[k].mode≠1∧l[k].mode≠2 then 1 else attrsE (l.drop (k+1)) (some l[k].name) n:=by
 rw[List.drop_eq_getElem_cons h,attrsE]
theorem rattrs_any (l:List At) (n:Bool) (P:Nat→Prop) (w:World) (v:Value) (hv:AV P w v l) :
  Calls Tryz.prog 55 #[v,.bool n] w (Ret (.int .i64 (attrsE l none n)) w):=by
 obtain⟨oa,ca,rfl⟩:=hv.len;have hle:=hv.le;have HV:=hid hv;clear hv
 go_enter Tryz.func55,Tryz.ntmps55
 go_wp2_with fail
 go_loopw [5,6] (fun b i wr=>∃ (j:Nat) (s:ByteArray),j≤l.length∧i=.int .i64 j∧b=.string s∧Hid (Below w.heap.size w wr)∧Hid (attrsE (l.drop j) (firstO s (decide (j=0))) n=attrsE l none n)) (fun b i _=>l.length - (intOf i).toNat)
 case atStart=>exact⟨0,_,Nat.zero_le _,rfl,rfl,hid (Below.refl _ _),hid rfl⟩
 case round =>
  obtain⟨j,s,hj,rfl,rfl,B,A⟩:=hrel
  by_cases hlt:j<l.length
  ·obtain⟨g,o,c,k,oe,me,ce,on,mn,cn,-,e1,a0,a1,a2,a3,a4,a5,a6,a7,hTV,hsz⟩:=(HV.out.bel B.out).at hlt
   cases e1
   have hj0:(0:Int)≤(j:Int):=by omega
   have hj1:(j:Int)<(l.length:Int):=by omega
   have hst:=attrsE_step hlt (firstO s (decide (j=0))) n;rw[A.out] at hst;have HS:=hid hst;have HC:=hid (rattr_any l[j] s (decide (j=0)) P wr _ ⟨k,oe,me,ce,on,mn,cn,rfl,hTV,hsz⟩)
   have f0:((j:Int) == 0)=decide (j=0):=by rw[Bool.eq_iff_iff];simp
   have f00:decide ((j:Int)=0)=decide (j=0):=by rw[Bool.eq_iff_iff];simp
   have hnx:firstO l[j].name (decide (j+1=0))=some l[j].name:=by simp[firstO]
   have HNX:=hid hnx;obtain⟨c,hce⟩:∃ c,attrE l[j] (firstO s (decide (j=0)))=c:=⟨_,rfl⟩;rw[hce] at HC HS;clear hce hst hTV hsz
   generalize l[j]=at' at *
   obtain⟨nm,ty,md,rp,sn,vl⟩:=at'
   simp only at *
   by_cases hc:c=0
   ·subst hc
    have HS2:=hid (HS.out.trans (if_neg (by decide)));clear HS
    cases n with
    | false =>
     have HS3:=hid (HS2.out.trans (if_neg (by simp)));clear HS2
     go_wp2_with fail
     refine HC.out.mono ?_;rintro e wz ⟨rfl,hbz⟩;have b0:=zbb hbz a0;have b4:=zbb hbz a4;have HBZ:=hT B hbz;clear hbz a0 a1 a2 a3 a4 a5 a6 a7
     go_wp2_with fail
     go_roundw
     case rel=>exact⟨j+1,nm,by omega,by go_num,rfl,HBZ,hid (by rw[HNX.out];exact HS3.out.symm)⟩
     case measure=>simp[intOf];omega
    | true =>
     by_cases m1:md=1
     ·have HS3:=hid (HS2.out.trans (if_neg (by simp[m1])))
      have g1:(md == 1)=true:=bT m1
      have g2:(md != 1)=false:=by rw[bne,g1];rfl
      have g3:decide (md=1)=true:=dTT m1;clear HS2 m1
      go_wp2_with fail
      refine HC.out.mono ?_;rintro e wz ⟨rfl,hbz⟩;have b0:=zbb hbz a0;have b4:=zbb hbz a4;have HBZ:=hT B hbz;clear hbz a0 a1 a2 a3 a4 a5 a6 a7
      go_wp2_with fail
      go_roundw
      case rel=>exact⟨j+1,nm,by omega,by go_num,rfl,HBZ,hid (by rw[HNX.out];exact HS3.out.symm)⟩
      case measure=>simp[intOf];omega
     ·have g1:(md == 1)=false:=bF m1
      have g2:(md != 1)=true:=by rw[bne,g1];rfl
      have g3:decide (md=1)=false:=dF m1
      by_cases m2:md=2
      ·have HS3:=hid (HS2.out.trans (if_neg (by simp[m2])))
       have g4:(md == 2)=true:=bT m2
       have g5:(md != 2)=false:=by rw[bne,g4];rfl
       have g6:decide (md=2)=true:=dTT m2;clear HS2 m1 m2
       go_wp2_with fail
       refine HC.out.mono ?_;rintro e wz ⟨rfl,hbz⟩;have b0:=zbb hbz a0;have b4:=zbb hbz a4;have HBZ:=hT B hbz;clear hbz a0 a1 a2 a3 a4 a5 a6 a7
       go_wp2_with fail
       go_roundw
       case rel=>exact⟨j+1,nm,by omega,by go_num,rfl,HBZ,hid (by rw[HNX.out];exact HS3.out.symm)⟩
       case measure=>simp[intOf];omega
      ·have HS3:=hid (HS2.out.trans (if_pos ⟨rfl,m1,m2⟩))
       have g4:(md == 2)=false:=bF m2
       have g5:(md != 2)=true:=by rw[bne,g4];rfl
       have g6:decide (md=2)=false:=dF m2;clear HS2 m1 m2
       go_wp2_with fail
       refine HC.out.mono ?_;rintro e wz ⟨rfl,hbz⟩;have b0:=zbb hbz a0;have b4:=zbb hbz a4;have HBZ:=hT B hbz;clear hbz a0 a1 a2 a3 a4 a5 a6 a7
       go_wp2_with fail
       go_ret;exact⟨by rw[HS3.out];rfl,HBZ.out⟩
   ·have HS2:=hid (HS.out.trans (if_pos hc))
    have f2:(c == 0)=false:=bF hc
    have f3:(c != 0)=true:=by rw[bne,f2];rfl
    have f4:decide (c=0)=false:=dF hc;clear hc HS
    go_wp2_with fail
    refine HC.out.mono ?_;rintro e wz ⟨rfl,hbz⟩;have HBZ:=hT B hbz;clear hbz a0 a1 a2 a3 a4 a5 a6 a7
    go_wp2_with fail
    go_ret;exact⟨by rw[HS2.out];rfl,HBZ.out⟩
  ·have hje:j=l.length:=by omega
   have hp:attrsE l none n=0:=by rw[←A.out,hje,List.drop_length,attrsE]
   have HP:=hid hp;clear hp
   go_wp2_with fail
   go_ret;exact⟨by rw[HP.out];rfl,B.out⟩
def RAtPost (P:Nat→Prop) (w0:World) (o:Option At) (w:World) (e:Ending) (w':World):Prop:=∃ u,e=.returned (.tuple #[u,.bool o.isSome])∧Below w.heap.size w w'∧(∀ a,o=some a→ATV P w0 u a)∧(o=none→u=.agg #[.string ⟨#[]⟩,.int .i64 0,.slice none 0 0,.slice none 0 0,.int .i64 0,.bool false,.bool false,.bool false])
theorem rAttr_any (l:List At) (x:ByteArray) (P:Nat→Prop) (w0 w:World) (v:Value) (hv:AV P w0 v l) (h0:Below w0.heap.size w0 w) :
  Calls Tryz.prog 53 #[v,.string x] w (RAtPost P w0 (fndA l x) w):=by
 obtain⟨oa,ca,rfl⟩:=hv.len;have hle:=hv.le;have hT:=zhh w zero8;have hbb:Below w.heap.size w (w.alloc zero8):=(Below.refl _ _).alloc (nR _) _
 have hbs:(w.alloc zero8).heap.size=w.heap.size+1:=by simp
 have HV:=hid hv;have H0:=hid h0;clear h0
 go_enter Tryz.func53,Tryz.ntmps53
 go_upto_region 1 with (fail)
 generalize hB:w.alloc zero8=wb at *
 have HB:=hid hbb;have HS:=hid hbs;have HZ:=hid hT;clear hv hbb hbs hT hB
 go_wp2_with fail
 go_loopw [6] (fun i wr=>∃ j:Nat,j≤l.length∧i=.int .i64 j∧Hid (Below wb.heap.size wb wr)∧Hid (∀ i (hi:i<l.length),i<j→l[i].name≠x)) (fun i _=>l.length - (intOf i).toNat)
 case atStart=>exact⟨0,Nat.zero_le _,rfl,hid (Below.refl _ _),hid fun i _ hi=>absurd hi (Nat.not_lt_zero _)⟩
 case round =>
  obtain⟨j,hj,rfl,B,A⟩:=hrel;have HZ2:=kH HZ B.out;have HB2:=hT HB B.out
  by_cases hlt:j<l.length
  ·obtain⟨g,o,c,k,oe,me,ce,on,mn,cn,hg,e1,a0,a1,a2,a3,a4,a5,a6,a7,hTV,hsz⟩:=HV.out.at hlt
   cases e1
   replace a0:=zbb (H0.out.trans (HB2.out.mono H0.out.size)) a0;replace a1:=zbb (H0.out.trans (HB2.out.mono H0.out.size)) a1;replace a2:=zbb (H0.out.trans (HB2.out.mono H0.out.size)) a2;replace a3:=zbb (H0.out.trans (HB2.out.mono H0.out.size)) a3;replace a4:=zbb (H0.out.trans (HB2.out.mono H0.out.size)) a4;replace a5:=zbb (H0.out.trans (HB2.out.mono H0.out.size)) a5;replace a6:=zbb (H0.out.trans (HB2.out.mono H0.out.size)) a6;replace a7:=zbb (H0.out.trans (HB2.out.mono H0.out.size)) a7
   have hj0:(0:Int)≤(j:Int):=by omega
   have hj1:(j:Int)<(l.length:Int):=by omega
   have HAT:Hid (ATV P w0 (.agg #[.string l[j].name,.int .i64 k,.slice oe me ce,.slice on mn cn,.int .i64 l[j].mode,.bool l[j].rep,.bool l[j].sens,.bool l[j].vol]) l[j]):=hid ⟨k,oe,me,ce,on,mn,cn,rfl,hTV,hsz⟩;have HHIT:=hid (fun hy=>fndA_hit hlt A.out (x:=x) hy)
   have HMISS:Hid (l[j].name≠x→∀ i (hi:i<l.length),i<j+1→l[i].name≠x):=hid fun hne i hi hij=>by
    by_cases e:i=j
    ·subst e;exact hne
    ·exact A.out i hi (by omega)
   clear hTV hsz A
   generalize l[j]=at' at *
   obtain⟨nm,ty,md,rp,sn,vl⟩:=at'
   simp only at *
   by_cases hx:nm=x
   ·subst hx
    have HF:=hid (HHIT.out rfl);clear HHIT HMISS;have f0:=(cII HZ2.out 0).trans rfl;have f1:=(cII HZ2.out 1).trans rfl;have f2:=(cII HZ2.out 2).trans rfl;have f3:=(cII HZ2.out 3).trans rfl;have f4:=(cII HZ2.out 4).trans rfl;have f5:=(cII HZ2.out 5).trans rfl;have f6:=(cII HZ2.out 6).trans rfl;have f7:=(cII HZ2.out 7).trans rfl;have fz:=zff HZ2.out
    go_wp2_with fail
    try simp only[Exit.inBlock,Exit.then]
    refine bodyPost_ret (v:=.tuple #[.agg #[.string nm,.int .i64 k,.slice oe me ce,.slice on mn cn,.int .i64 md,.bool rp,.bool sn,.bool vl],.bool true]) (by simp[results,Tryz.results53,go_sem,f0,f1,f2,f3,f4,f5,f6,f7]) rfl ?_;rw[HF.out];have hbl:=store8_below HB2.out (nR _) (nR _) (.string nm) (.int .i64 k) (.slice oe me ce) (.slice on mn cn) (.int .i64 md) (.bool rp) (.bool sn) (.bool vl);exact⟨_,rfl,hbl,(by intro a h;cases h;exact HAT.out),fun h=>by cases h⟩
   ·obtain⟨hb1,hb2⟩:=str_ne hx
    have HM:=hid (HMISS.out hx);clear HHIT HMISS hx HAT
    go_wp2_with fail
    go_roundw
    case rel=>exact⟨j+1,by omega,by go_num,hid B.out,HM⟩
    case measure=>simp[intOf];omega
  ·have HF:=hid (fndA_miss fun i hi=>A.out i hi (by omega))
   have f0:=(cII HZ2.out 0).trans rfl;have f1:=(cII HZ2.out 1).trans rfl;have f2:=(cII HZ2.out 2).trans rfl;have f3:=(cII HZ2.out 3).trans rfl;have f4:=(cII HZ2.out 4).trans rfl;have f5:=(cII HZ2.out 5).trans rfl;have f6:=(cII HZ2.out 6).trans rfl;have f7:=(cII HZ2.out 7).trans rfl;have fz:=zff HZ2.out
   go_wp2_with fail
   try simp only[Exit.inBlock,Exit.then]
   refine bodyPost_ret (v:=.tuple #[.agg #[.string ⟨#[]⟩,.int .i64 0,.slice none 0 0,.slice none 0 0,.int .i64 0,.bool false,.bool false,.bool false],.bool false]) (by simp[results,Tryz.results53,go_sem,f0,f1,f2,f3,f4,f5,f6,f7]) rfl ?_;rw[HF.out];exact⟨_,rfl,store8_below HB2.out (nR _) (nR _) _ _ _ _ _ _ _ _,(by intro a h;cases h),fun _=>rfl⟩
end Go.Proofs.YtibiiafcnaijeaaGreat
