/- A part. -/
import Derived.Test.YtibiiafcnaijeaaGreatB00
import Derived.Test.YtibiiafcnaijeaaGreatB21
namespace Go.Proofs.YtibiiafcnaijeaaGreat
open Go Go.RowKit Go.Proofs.YtibiiafcnaijeaaGreat.Steady
set_option linter.unusedVariables false
set_option linter.unusedSimpArgs false
set_option maxRecDepth 100000
set_option maxHeartbeats 40000000
def ScF (s:Sc):Prop:=s.attrs.length≤64∧s.nested.length≤64∧attrsE s.attrs none false=0∧(∀ (j:Nat) (h:j<s.nested.length),kindE s s.nested[j] (prevK s.nested j)=0)∧checkT (typR s) 1=0
def ScPost (s:Sc) (w:World) (e:Ending) (w':World):Prop:=∃ r:Int,e=.returned (.int .i64 r)∧(r=0→ScF s)∧Below w.heap.size w w'
theorem kindE_len {s:Sc}{n:Ne}{p:Option ByteArray}(h:kindE s n p=0):n.attrs.length≤64:=by
 unfold kindE at h
 by_cases h6:64<n.attrs.length
 ·rw[if_pos h6] at h
  repeat' split at h
  all_goals first|omega|cases h
 ·omega
theorem rscheck_any (s:Sc) (P:Nat→Prop) (w:World) (va vn:Value) (hs:SCV P w va vn s) :
  Calls Tryz.prog 22 #[.agg #[va,vn]] w (ScPost s w):=by
 obtain⟨oa,ca,rfl⟩:=hs.1.len;obtain⟨on,cn,rfl⟩:=hs.2.len;have hla:=hs.1.le;have hlk:=hs.2.le;generalize hA:w.alloc (.cells #[.slice oa s.attrs.length ca,.slice on s.nested.length cn] 25)=wa
 have hao:wa.heap[w.heap.size]? = some (.cells #[.slice oa s.attrs.length ca,.slice on s.nested.length cn] 25):=by rw[←hA];exact zhh w _
 have hab:Below w.heap.size w wa:=by rw[←hA];exact(Below.refl _ _).alloc (nR _) _
 have HA:=hid hA;have HX:=hid hao;have HB:=hid hab;have HSV:=hid hs;clear hs hA hao hab;have x0:=(cII HX.out 0).trans rfl;have x1:=(cII HX.out 1).trans rfl
 go_enter Tryz.func22,Tryz.ntmps22
 go_upto_region 1 with (fail)
 rw[HA.out]
 by_cases h1:(s.attrs.length:Int) > 64
 ·have f1:decide ((s.attrs.length:Int) > 64)=true:=dTT h1
  clear h1
  go_wp2_with fail
  go_ret;exact⟨_,rfl,(fun h=>by cases h),HB.out⟩
 have f1:decide ((s.attrs.length:Int) > 64)=false:=dF h1
 by_cases h2:(s.nested.length:Int) > 64
 ·have f2:decide ((s.nested.length:Int) > 64)=true:=dTT h2
  clear h1 h2
  go_wp2_with fail
  go_ret;exact⟨_,rfl,(fun h=>by cases h),HB.out⟩
 have f2:decide ((s.nested.length:Int) > 64)=false:=dF h2;have HL:=hid (show s.attrs.length≤64∧s.nested.length≤64 by omega);clear h1 h2
 go_wp2_with fail
 refine(rattrs_any s.attrs false P wa _ (HSV.out.1.bel HB.out)).mono ?_;rintro e w1 ⟨rfl,hb1⟩;have HB1:=hT HB hb1;have HX1:=kH HX hb1;clear hb1 x0 x1 f1 f2 HB HX;generalize hr1:attrsE s.attrs none false=r1
 by_cases hz:r1=0
 case neg =>
  have g1:decide (r1=0)=false:=dF hz;have g2:(r1 == 0)=false:=bF hz
  have g3:(r1 != 0)=true:=by rw[bne,g2];rfl
  have HZ:=hid hz;clear hz hr1
  go_wp2_with fail
  go_ret;exact⟨_,rfl,fun h=>absurd h HZ.out,HB1.out⟩
 subst hz;have HR1:=hid hr1;clear hr1
 go_wp2_with fail
 have x0:=(cII HX1.out 0).trans rfl;have x1:=(cII HX1.out 1).trans rfl
 go_loopw [3,4] (fun ev iv wr=>∃ j:Nat,j≤s.nested.length∧ev=.int .i64 0∧iv=.int .i64 j∧Hid (Below w1.heap.size w1 wr)∧Hid (∀ (i:Nat) (h:i<s.nested.length),i<j→kindE s s.nested[i] (prevK s.nested i)=0)) (fun _ iv _=>s.nested.length - (intOf iv).toNat)
 case atStart=>exact⟨0,Nat.zero_le _,rfl,rfl,hid (Below.refl _ _),hid fun i h h2=>absurd h2 (Nat.not_lt_zero _)⟩
 case round =>
  clear x0 x1;obtain⟨j,hj,rfl,rfl,B,HK⟩:=hrel;have HX2:=kH HX1 B.out;have HB2:=hT HB1 B.out;have x0:=(cII HX2.out 0).trans rfl;have x1:=(cII HX2.out 1).trans rfl
  by_cases hlt:j<s.nested.length
  ·have hj1:(j:Int)<(s.nested.length:Int):=by omega
   have HC:=hid (rkind_any s j hlt P wr _ _ (HSV.out.bel HB2.out));have HLT:=hid hlt;generalize hr2:kindE s s.nested[j] (prevK s.nested j)=r2 at HC
   go_wp2_with fail
   refine HC.out.mono ?_;rintro e w3 ⟨rfl,hb3⟩
   by_cases hz:r2=0
   case neg =>
    have g1:decide (r2=0)=false:=dF hz;have g2:(r2 == 0)=false:=bF hz
    have g3:(r2 != 0)=true:=by rw[bne,g2];rfl
    have HZ:=hid hz;have HB3:=hT HB2 hb3;clear hz hr2 hb3
    go_wp2_with fail
    go_ret;exact⟨_,rfl,fun h=>absurd h HZ.out,HB3.out⟩
   subst hz;have B3:=hT B hb3
   have HK3:Hid (∀ (i:Nat) (h:i<s.nested.length),i<j+1→kindE s s.nested[i] (prevK s.nested i)=0):=hid fun i h h2=>by
    by_cases e:i=j
    ·subst e;exact hr2
    ·exact HK.out i h (by omega)
   clear hr2 hb3 x0 x1
   go_wp2_with fail
   go_roundw
   case rel=>exact⟨j+1,by omega,rfl,by go_num,B3,HK3⟩
   case measure=>simp[intOf];omega
  ·have HKA:=hid (fun i (h:i<s.nested.length)=>HK.out i h (by omega))
   have HC:=hid (rAttr_any s.attrs ⟨#[105,100]⟩ P w wr _ HSV.out.1 HB2.out);clear HK
   go_wp2_with fail
   refine HC.out.mono ?_;rintro e w6 ⟨u,rfl,hb6,hy,hn⟩
   have hu:∃ z0 z1 z2 z3 z4 z5 z6 z7 z8 z9 za zb,u=.agg #[.string z0,.int .i64 z1,.slice z2 z3 z4,.slice z5 z6 z7,.int .i64 z8,.bool z9,.bool za,.bool zb]:=by
    cases hf:fndA s.attrs ⟨#[105,100]⟩ with
    | none=>exact⟨_,_,_,_,_,_,_,_,_,_,_,_,hn hf⟩
    | some a =>
     obtain⟨k,oe,me,ce,on2,mn2,cn2,e,-,-⟩:=hy a hf;exact⟨_,_,_,_,_,_,_,_,_,_,_,_,e⟩
   obtain⟨z0,z1,z2,z3,z4,z5,z6,z7,z8,z9,za,zb,rfl⟩:=hu;clear hy hn HC x0 x1;have HX6:=kH HX2 hb6;have HB6:=hT HB2 hb6;have hb7:Below w6.heap.size w6 (w6.alloc (.cells #[.string z0,.int .i64 z1,.slice z2 z3 z4,.slice z5 z6 z7,.int .i64 z8,.bool z9,.bool za,.bool zb] 64)):=(Below.refl _ _).alloc (nR _) _;have ho7:=zhh w6 (.cells #[.string z0,.int .i64 z1,.slice z2 z3 z4,.slice z5 z6 z7,.int .i64 z8,.bool z9,.bool za,.bool zb] 64)
   generalize h7:w6.alloc (.cells #[.string z0,.int .i64 z1,.slice z2 z3 z4,.slice z5 z6 z7,.int .i64 z8,.bool z9,.bool za,.bool zb] 64)=w7 at *
   have H7:=hid h7;have HB7:=hT HB6 hb7;have HX7:=kH HX6 hb7;have y1:=(cII ho7 1).trans rfl;have y4:=(cII ho7 4).trans rfl;have y7:=(cII ho7 7).trans rfl;have HO7:=hid ho7;clear h7 ho7 hb7 hb6 HX2 HB2 HX6 HB6 B HX1 HB1
   go_upto_region 13 with (fail)
   rw[H7.out];have HX8:=hid (HX7.out)
   cases (fndA s.attrs ⟨#[105,100]⟩).isSome with
   | false =>
    go_wp2_with fail
    go_ret;exact⟨_,rfl,(fun h=>by cases h),HB7.out⟩
   | true =>
    have hz8:z8=3∨z8≠3:=Decidable.em _;have hz1:z1=3∨z1≠3:=Decidable.em _
    rcases hz8 with hz|hz
    case inr =>
     have g1:decide (z8=3)=false:=dF hz;have g2:(z8 == 3)=false:=bF hz
     have g3:(z8 != 3)=true:=by rw[bne,g2];rfl
     clear hz hz1
     go_wp2_with fail
     go_ret;exact⟨_,rfl,(fun h=>by cases h),HB7.out⟩
    subst hz
    rcases hz1 with hz|hz
    case inr =>
     have g1:decide (z1=3)=false:=dF hz;have g2:(z1 == 3)=false:=bF hz
     have g3:(z1 != 3)=true:=by rw[bne,g2];rfl
     clear hz
     go_wp2_with fail
     go_ret;exact⟨_,rfl,(fun h=>by cases h),HB7.out⟩
    subst hz
    cases zb with
    | true =>
     go_wp2_with fail
     go_ret;exact⟨_,rfl,(fun h=>by cases h),HB7.out⟩
    | false =>
     have x0:=(cII HX8.out 0).trans rfl;have x1:=(cII HX8.out 1).trans rfl
     have HTY:=hid (rtype_any s P w7 _ _ (HSV.out.bel HB7.out) ⟨by have:=HL.out.1;omega,by have:=HL.out.2;omega,fun n hn=>by
      obtain⟨i,hi,rfl⟩:=List.getElem_of_mem hn
      have:=kindE_len (HKA.out i hi);omega⟩)
     go_wp2_with fail
     refine HTY.out.mono ?_;rintro e w8 ⟨u,rfl,hb8,hu⟩;have HB8:=hT HB7 hb8;have HC8:=hid (orcheck_any _ w8 u _ hu);obtain⟨_,_,rfl,hE,hN⟩:=hu.out;obtain⟨oe,ce,rfl⟩:=hE.len;obtain⟨on8,cn8,rfl⟩:=hN.len
     generalize ((mergeR s.attrs s.nested).map (·.2)).length=m8 at *
     generalize ((mergeR s.attrs s.nested).map (·.1)).length=n8 at *
     clear hE hN hu hb8 x0 x1 y1 y4 y7
     go_wp2_with fail
     refine HC8.out.mono ?_;rintro e w9 ⟨rfl,hb9⟩;have HB9:=hT HB8 hb9;clear hb9
     go_wp2_with fail
     go_ret;exact⟨_,rfl,fun h=>⟨HL.out.1,HL.out.2,HR1.out,HKA.out,h⟩,HB9.out⟩
end Go.Proofs.YtibiiafcnaijeaaGreat
