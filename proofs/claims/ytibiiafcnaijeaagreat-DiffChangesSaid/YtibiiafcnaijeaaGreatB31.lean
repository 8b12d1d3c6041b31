/- A part. -/
import Derived.Test.YtibiiafcnaijeaaGreatB00
import Derived.Test.YtibiiafcnaijeaaGreatB30
import Derived.Test.YtibiiafcnaijeaaGreatB18
namespace Go.Proofs.YtibiiafcnaijeaaGreat
open Go Go.RowKit Go.Proofs.YtibiiafcnaijeaaGreat.Steady
set_option linter.unusedVariables false
set_option linter.unusedSimpArgs false
set_option maxRecDepth 100000
set_option maxHeartbeats 40000000
def VRes (P:Nat→Prop) (m:Nat) (w:World) (e:Ending) (w':World):Prop:=∃ u r t,e=.returned (.tuple #[u,.int .i64 r])∧VV (fun g=>P g∨w.heap.size≤g) w' u t∧szV t≤m∧Below w.heap.size w w'
theorem vres_mk {P Q:Nat→Prop}{m b:Nat}{w wx ws:World}{u:Value}{t:Vl}(r:Int) (hv:VV Q wx u t) (hq:∀ g,Q g→P g∨w.heap.size≤g) (hqb:¬ Q b) (hb:Below w.heap.size w wx) (hwb:w.heap.size≤b) (hc:Chg (fun k=>k=b) wx ws) (hm:szV t≤m) :
  VRes P m w (.returned (.tuple #[u,.int .i64 r])) ws :=
 ⟨u,r,t,rfl,hv.keep (ZK.chg hc fun g hg e=>hqb (e▸hg)) hq,hm,hb.trans (zgg hc (fun k hk=>by rw[hk];exact hwb) hb.size)⟩
theorem VV.flat (Q:Nat→Prop) (w:World) (k n:Int) (s:ByteArray) (hs:s.size≤140737488355328):VV Q w (.agg #[.int .i64 k,.int .i64 n,.string s,.slice none 0 0,.slice none 0 0]) (.mk k n s [] []) :=
 VV.mk' hs ⟨⟨by simp,.inl ⟨rfl,_,_,rfl⟩⟩,fun s h=>by cases h⟩ (WV.nil _ _)
theorem szV_flat (k n:Int) (s:ByteArray) (ks:List ByteArray):szV (.mk k n s [] ks)=1:=by rw[szV,szL]
theorem word_any (k n:Int) (s:ByteArray) (x3 x4:Value) (w:World):Calls Tryz.prog 131 #[.agg #[.int .i64 k,.int .i64 n,.string s,x3,x4]] w (FmtPost 30 w):=by
 obtain⟨hB,a0,a1,a2,a3,a4⟩:=box5 w (.int .i64 k) (.int .i64 n) (.string s) x3 x4 32;have HB:=hid hB
 generalize hA:w.alloc (.cells #[.int .i64 k,.int .i64 n,.string s,x3,x4] 32)=wa at *
 have HA:=hid hA;clear hA hB
 by_cases hk:k=2
 ·have da:decide (k=2)=true:=dTT hk
  have db:(k == 2)=true:=bT hk
  have dc:(k != 2)=false:=by rw[bne,db];rfl
  clear hk
  go_enter Tryz.func131,Tryz.ntmps131
  go_upto_region 1 with (fail)
  rw[HA.out]
  go_wp2_with fail
  refine(nfmt_any n wa).mono ?_;rintro e w1 ⟨z,rfl,hz,hb⟩;have HB2:=hT HB hb;clear hb
  go_wp2_with fail
  go_ret;exact⟨_,rfl,hz,HB2.out⟩
 ·have da:decide (k=2)=false:=dF hk
  have db:(k == 2)=false:=bF hk
  have dc:(k != 2)=true:=by rw[bne,db];rfl
  clear hk
  by_cases hn:n=1
  ·have ha:decide (n=1)=true:=dTT hn
   have hb:(n == 1)=true:=bT hn
   have hc:(n != 1)=false:=by rw[bne,hb];rfl
   clear hn
   go_enter Tryz.func131,Tryz.ntmps131
   go_upto_region 1 with (fail)
   rw[HA.out]
   go_wp2_with fail
   go_ret;exact⟨_,rfl,by decide,HB.out⟩
  ·have ha:decide (n=1)=false:=dF hn
   have hb:(n == 1)=false:=bF hn
   have hc:(n != 1)=true:=by rw[bne,hb];rfl
   clear hn
   go_enter Tryz.func131,Tryz.ntmps131
   go_upto_region 1 with (fail)
   rw[HA.out]
   go_wp2_with fail
   go_ret;exact⟨_,rfl,by decide,HB.out⟩
theorem chas_any (l:List ByteArray) (x:ByteArray) (P:Nat→Prop) (w:World) (v:Value) (hv:SV P w v l) :
  Calls Tryz.prog 129 #[v,.string x] w (IsB True w):=by
 obtain⟨oa,ca,rfl⟩:=hv.len;have hle:=hv.le;have HV:=hid hv;clear hv
 go_enter Tryz.func129,Tryz.ntmps129
 go_wp2_with fail
 go_loop [5] (fun i=>∃ k:Nat,k≤l.length∧i=.int .i64 k) (fun i=>l.length - (intOf i).toNat)
 case atStart=>exact⟨0,Nat.zero_le _,rfl⟩
 case round =>
  obtain⟨k,hk,rfl⟩:=hrel
  by_cases hlt:k<l.length
  ·obtain⟨g1,o1,c1,e1,a1⟩:=HV.out.at hlt
   cases e1
   have hk0:(0:Int)≤(k:Int):=by omega
   have hk1:(k:Int)<(l.length:Int):=by omega
   generalize l[k]=y at *
   by_cases hxy:y=x
   ·subst hxy
    go_wp2_with fail
    go_ret;exact⟨_,rfl,fun _=>trivial,rfl⟩
   ·obtain⟨f1,f2⟩:=str_ne hxy
    have f3:=str_ne2 hxy;clear hxy
    go_wp2_with fail
    go_round
    case rel=>exact⟨k+1,by omega,by go_num⟩
    case measure=>simp[intOf];omega
  ·go_wp2_with fail
   go_ret;exact⟨_,rfl,fun _=>trivial,rfl⟩
theorem simple_any (v:Vl) (P:Nat→Prop) (w:World) (u:Value) (hv:VV P w u v) (hP:∀ g,P g→g<w.heap.size) (q:Int):Calls Tryz.prog 123 #[u,.int .i64 q] w (VRes P (szV v) w):=by
 have HM:=hid (And.intro (nR (szV v)) (szV_pos v));have HV0:=hid hv;obtain⟨k,n,s,is,ks⟩:=v;obtain⟨vi,vk,rfl,hI,hK,hss⟩:=hv.out;obtain⟨oi,ci,rfl⟩:=hI.len;obtain⟨ok,ck,rfl⟩:=hK.len;have hli:=hI.le;have hlk:=hK.le;generalize hA:w.alloc (.cells #[.int .i64 k,.int .i64 n,.string s,.slice oi is.length ci,.slice ok ks.length ck] 32)=wa
 have hao:wa.heap[w.heap.size]? = some (.cells #[.int .i64 k,.int .i64 n,.string s,.slice oi is.length ci,.slice ok ks.length ck] 32):=by rw[←hA];exact zhh w _
 have has:wa.heap.size=w.heap.size+1:=by rw[←hA];simp
 have hab:Below w.heap.size w wa:=by rw[←hA];exact(Below.refl _ _).alloc (nR _) _
 generalize hB:wa.alloc zero5=wb
 have hbo:wb.heap[w.heap.size+1]? = some zero5:=by rw[←hB,←has];exact zhh wa _
 have hbs:wb.heap.size=w.heap.size+2:=by rw[←hB];simp[has]
 have hbb:Below wa.heap.size wa wb:=by rw[←hB];exact(Below.refl _ _).alloc (nR _) _
 have HA0:=hid hA;have HB0:=hid hB;have HB:=hid (hab.trans (hbb.mono hab.size));have HS:=hid hbs;have HZ:=hid hbo;have HXA:=hid (kO hao hbb);have HV:=hid (HV0.out.bel HB.out);have HPL:=hid hP;clear hA hB hao has hab hbo hbs hbb hI hK hv hP HV0;obtain⟨a0,a1,a2,a3,a4⟩:=C5.of HXA.out
 by_cases q1:q=1
 ·have qaa:decide (q=1)=true:=dTT q1
  have qab:(q == 1)=true:=bT q1
  have qac:(q != 1)=false:=by rw[bne,qab];rfl
  clear q1
  by_cases k1:k=1
  ·have kaa:decide (k=1)=true:=dTT k1
   have kab:(k == 1)=true:=bT k1
   have kac:(k != 1)=false:=by rw[bne,kab];rfl
   clear k1
   go_enter Tryz.func123,Tryz.ntmps123
   go_upto_region 1 with (fail)
   rw[HA0.out,HB0.out]
   go_wp2_with (refine zo rfl 32 _ _ rfl (w.heap.size+1) 0 [_,_,_,_,_] rfl rfl _ _ (HZ.out) (by simp) (by kernel_rfl) rfl ?_;intro ws hzs hcs)
   try simp only[Exit.inBlock,Exit.then]
   refine bodyPost_ret (zrt rfl _ ws (w.heap.size+1) 32 _ (0,0) _ rfl hzs Tryz.underlying32 rfl (by kernel_rfl)) rfl ?_;exact vres_mk _ HV.out (fun g hg=>.inl hg) (fun hg=>by have:=HPL.out _ hg;omega) HB.out (by omega) hcs HM.out.1
  ·have kaa:decide (k=1)=false:=dF k1
   have kab:(k == 1)=false:=bF k1
   have kac:(k != 1)=true:=by rw[bne,kab];rfl
   clear k1
   by_cases k3:k=3
   ·have kca:decide (k=3)=true:=dTT k3
    have kcb:(k == 3)=true:=bT k3
    have kcc:(k != 3)=false:=by rw[bne,kcb];rfl
    clear k3
    cases g1:(s.toList == [116,114,117,101]) with
    | true =>
     go_enter Tryz.func123,Tryz.ntmps123
     go_upto_region 1 with (fail)
     rw[HA0.out,HB0.out];have hco:=zhh wb (.cells #[.int .i64 1,.int .i64 0,.string ⟨#[]⟩,.slice none 0 0,.slice none 0 0] 32);have hcb:Below wb.heap.size wb (wb.alloc (.cells #[.int .i64 1,.int .i64 0,.string ⟨#[]⟩,.slice none 0 0,.slice none 0 0] 32)):=(Below.refl _ _).alloc (nR _) _;rw[HS.out] at hco
     generalize hC:wb.alloc (.cells #[.int .i64 1,.int .i64 0,.string ⟨#[]⟩,.slice none 0 0,.slice none 0 0] 32)=wc at *
     have HC0:=hid hC;have HBC:=hT HB hcb;have HZC:=kH HZ hcb;have HXC:=kH HXA hcb;have HCO:=hid hco;clear hC hcb hco
     go_upto_region 11 with (fail)
     rw[HC0.out,HS.out];clear a0 a1 a2 a3 a4;obtain⟨a0,a1,a2,a3,a4⟩:=C5.of HXC.out;obtain⟨c0,c1,c2,c3,c4⟩:=C5.of HCO.out;have fz:=zff HCO.out;have cs:=Chg.setCell (B:=fun k=>k=w.heap.size+2) wc (w.heap.size+2) 1 (.int .i64 1) rfl;have HZD:=kS cs HZC (by omega);have HBD:=hid (HBC.out.trans (zgg cs (fun k hk=>by omega) HBC.out.size));clear cs
     go_wp2_with (refine zo rfl 32 _ _ rfl (w.heap.size+1) 0 [_,_,_,_,_] rfl rfl _ _ (HZD.out) (by simp) (by kernel_rfl) rfl ?_;intro ws hzs hcs)
     try simp only[Exit.inBlock,Exit.then]
     refine bodyPost_ret (zrt rfl _ ws (w.heap.size+1) 32 _ (0,0) _ rfl hzs Tryz.underlying32 rfl (by kernel_rfl)) rfl ?_;exact vres_mk (Q:=fun _=>False) _ (VV.flat _ _ 1 1 ⟨#[]⟩ (by decide)) (fun g hg=>hg.elim) (fun hg=>hg) HBD.out (by omega) hcs (by rw[szV_flat];have:=HM.out;omega)
    | false =>
     cases g2:(s.toList == [102,97,108,115,101]) with
     | true =>
      go_enter Tryz.func123,Tryz.ntmps123
      go_upto_region 1 with (fail)
      rw[HA0.out,HB0.out];have hco:=zhh wb (.cells #[.int .i64 1,.int .i64 0,.string ⟨#[]⟩,.slice none 0 0,.slice none 0 0] 32);have hcb:Below wb.heap.size wb (wb.alloc (.cells #[.int .i64 1,.int .i64 0,.string ⟨#[]⟩,.slice none 0 0,.slice none 0 0] 32)):=(Below.refl _ _).alloc (nR _) _;rw[HS.out] at hco
      generalize hC:wb.alloc (.cells #[.int .i64 1,.int .i64 0,.string ⟨#[]⟩,.slice none 0 0,.slice none 0 0] 32)=wc at *
      have HC0:=hid hC;have HBC:=hT HB hcb;have HZC:=kH HZ hcb;have HXC:=kH HXA hcb;have HCO:=hid hco;clear hC hcb hco
      go_upto_region 11 with (fail)
      rw[HC0.out,HS.out];clear a0 a1 a2 a3 a4;obtain⟨a0,a1,a2,a3,a4⟩:=C5.of HXC.out;obtain⟨c0,c1,c2,c3,c4⟩:=C5.of HCO.out
      go_wp2_with (refine zo rfl 32 _ _ rfl (w.heap.size+1) 0 [_,_,_,_,_] rfl rfl _ _ (HZC.out) (by simp) (by kernel_rfl) rfl ?_;intro ws hzs hcs)
      try simp only[Exit.inBlock,Exit.then]
      refine bodyPost_ret (zrt rfl _ ws (w.heap.size+1) 32 _ (0,0) _ rfl hzs Tryz.underlying32 rfl (by kernel_rfl)) rfl ?_;exact vres_mk (Q:=fun _=>False) _ (VV.flat _ _ 1 0 ⟨#[]⟩ (by decide)) (fun g hg=>hg.elim) (fun hg=>hg) HBC.out (by omega) hcs (by rw[szV_flat];have:=HM.out;omega)
     | false =>
      go_enter Tryz.func123,Tryz.ntmps123
      go_upto_region 1 with (fail)
      rw[HA0.out,HB0.out]
      go_wp2_with (refine zo rfl 32 _ _ rfl (w.heap.size+1) 0 [_,_,_,_,_] rfl rfl _ _ (HZ.out) (by simp) (by kernel_rfl) rfl ?_;intro ws hzs hcs)
      try simp only[Exit.inBlock,Exit.then]
      refine bodyPost_ret (zrt rfl _ ws (w.heap.size+1) 32 _ (0,0) _ rfl hzs Tryz.underlying32 rfl (by kernel_rfl)) rfl ?_;exact vres_mk (Q:=fun _=>False) _ (VV.flat _ _ 0 0 ⟨#[]⟩ (by decide)) (fun g hg=>hg.elim) (fun hg=>hg) HB.out (by omega) hcs (by rw[szV_flat];have:=HM.out;omega)
   ·have kca:decide (k=3)=false:=dF k3
    have kcb:(k == 3)=false:=bF k3
    have kcc:(k != 3)=true:=by rw[bne,kcb];rfl
    clear k3
    go_enter Tryz.func123,Tryz.ntmps123
    go_upto_region 1 with (fail)
    rw[HA0.out,HB0.out]
    go_wp2_with (refine zo rfl 32 _ _ rfl (w.heap.size+1) 0 [_,_,_,_,_] rfl rfl _ _ (HZ.out) (by simp) (by kernel_rfl) rfl ?_;intro ws hzs hcs)
    try simp only[Exit.inBlock,Exit.then]
    refine bodyPost_ret (zrt rfl _ ws (w.heap.size+1) 32 _ (0,0) _ rfl hzs Tryz.underlying32 rfl (by kernel_rfl)) rfl ?_;exact vres_mk (Q:=fun _=>False) _ (VV.flat _ _ 0 0 ⟨#[]⟩ (by decide)) (fun g hg=>hg.elim) (fun hg=>hg) HB.out (by omega) hcs (by rw[szV_flat];have:=HM.out;omega)
 ·have qaa:decide (q=1)=false:=dF q1
  have qab:(q == 1)=false:=bF q1
  have qac:(q != 1)=true:=by rw[bne,qab];rfl
  clear q1
  by_cases q2:q=2
  ·have qba:decide (q=2)=true:=dTT q2
   have qbb:(q == 2)=true:=bT q2
   have qbc:(q != 2)=false:=by rw[bne,qbb];rfl
   clear q2
   by_cases k2:k=2
   ·have kba:decide (k=2)=true:=dTT k2
    have kbb:(k == 2)=true:=bT k2
    have kbc:(k != 2)=false:=by rw[bne,kbb];rfl
    clear k2
    go_enter Tryz.func123,Tryz.ntmps123
    go_upto_region 1 with (fail)
    rw[HA0.out,HB0.out]
    go_wp2_with (refine zo rfl 32 _ _ rfl (w.heap.size+1) 0 [_,_,_,_,_] rfl rfl _ _ (HZ.out) (by simp) (by kernel_rfl) rfl ?_;intro ws hzs hcs)
    try simp only[Exit.inBlock,Exit.then]
    refine bodyPost_ret (zrt rfl _ ws (w.heap.size+1) 32 _ (0,0) _ rfl hzs Tryz.underlying32 rfl (by kernel_rfl)) rfl ?_;exact vres_mk _ HV.out (fun g hg=>.inl hg) (fun hg=>by have:=HPL.out _ hg;omega) HB.out (by omega) hcs HM.out.1
   ·have kba:decide (k=2)=false:=dF k2
    have kbb:(k == 2)=false:=bF k2
    have kbc:(k != 2)=true:=by rw[bne,kbb];rfl
    clear k2
    go_enter Tryz.func123,Tryz.ntmps123
    go_upto_region 1 with (fail)
    rw[HA0.out,HB0.out]
    go_wp2_with fail
    refine(nparse_any s _ hss).mono ?_;rintro e w2 ⟨pn,pr,rfl,hb2⟩;have HB2:=hT HB hb2;have HZ2:=kH HZ hb2;have HX2:=kH HXA hb2;clear a0 a1 a2 a3 a4 hb2;obtain⟨a0,a1,a2,a3,a4⟩:=C5.of HX2.out
    by_cases k3:k=3
    ·have kca:decide (k=3)=true:=dTT k3
     have kcb:(k == 3)=true:=bT k3
     have kcc:(k != 3)=false:=by rw[bne,kcb];rfl
     clear k3
     by_cases r0:pr=0
     ·have rra:decide (pr=0)=true:=dTT r0
      have rrb:(pr == 0)=true:=bT r0
      have rrc:(pr != 0)=false:=by rw[bne,rrb];rfl
      clear r0
      go_wp2_with (refine zo rfl 32 _ _ rfl (w.heap.size+1) 0 [_,_,_,_,_] rfl rfl _ _ (HZ2.out) (by simp) (by kernel_rfl) rfl ?_;intro ws hzs hcs)
      try simp only[Exit.inBlock,Exit.then]
      refine bodyPost_ret (zrt rfl _ ws (w.heap.size+1) 32 _ (0,0) _ rfl hzs Tryz.underlying32 rfl (by kernel_rfl)) rfl ?_;exact vres_mk (Q:=fun _=>False) _ (VV.flat _ _ 2 pn ⟨#[]⟩ (by decide)) (fun g hg=>hg.elim) (fun hg=>hg) HB2.out (by omega) hcs (by rw[szV_flat];have:=HM.out;omega)
     ·have rra:decide (pr=0)=false:=dF r0
      have rrb:(pr == 0)=false:=bF r0
      have rrc:(pr != 0)=true:=by rw[bne,rrb];rfl
      clear r0
      go_wp2_with (refine zo rfl 32 _ _ rfl (w.heap.size+1) 0 [_,_,_,_,_] rfl rfl _ _ (HZ2.out) (by simp) (by kernel_rfl) rfl ?_;intro ws hzs hcs)
      try simp only[Exit.inBlock,Exit.then]
      refine bodyPost_ret (zrt rfl _ ws (w.heap.size+1) 32 _ (0,0) _ rfl hzs Tryz.underlying32 rfl (by kernel_rfl)) rfl ?_;exact vres_mk (Q:=fun _=>False) _ (VV.flat _ _ 0 0 ⟨#[]⟩ (by decide)) (fun g hg=>hg.elim) (fun hg=>hg) HB2.out (by omega) hcs (by rw[szV_flat];have:=HM.out;omega)
    ·have kca:decide (k=3)=false:=dF k3
     have kcb:(k == 3)=false:=bF k3
     have kcc:(k != 3)=true:=by rw[bne,kcb];rfl
     clear k3
     go_wp2_with (refine zo rfl 32 _ _ rfl (w.heap.size+1) 0 [_,_,_,_,_] rfl rfl _ _ (HZ2.out) (by simp) (by kernel_rfl) rfl ?_;intro ws hzs hcs)
     try simp only[Exit.inBlock,Exit.then]
     refine bodyPost_ret (zrt rfl _ ws (w.heap.size+1) 32 _ (0,0) _ rfl hzs Tryz.underlying32 rfl (by kernel_rfl)) rfl ?_;exact vres_mk (Q:=fun _=>False) _ (VV.flat _ _ 0 0 ⟨#[]⟩ (by decide)) (fun g hg=>hg.elim) (fun hg=>hg) HB2.out (by omega) hcs (by rw[szV_flat];have:=HM.out;omega)
  ·have qba:decide (q=2)=false:=dF q2
   have qbb:(q == 2)=false:=bF q2
   have qbc:(q != 2)=true:=by rw[bne,qbb];rfl
   clear q2
   by_cases k3:k=3
   ·have kca:decide (k=3)=true:=dTT k3
    have kcb:(k == 3)=true:=bT k3
    have kcc:(k != 3)=false:=by rw[bne,kcb];rfl
    clear k3
    go_enter Tryz.func123,Tryz.ntmps123
    go_upto_region 1 with (fail)
    rw[HA0.out,HB0.out]
    go_wp2_with (refine zo rfl 32 _ _ rfl (w.heap.size+1) 0 [_,_,_,_,_] rfl rfl _ _ (HZ.out) (by simp) (by kernel_rfl) rfl ?_;intro ws hzs hcs)
    try simp only[Exit.inBlock,Exit.then]
    refine bodyPost_ret (zrt rfl _ ws (w.heap.size+1) 32 _ (0,0) _ rfl hzs Tryz.underlying32 rfl (by kernel_rfl)) rfl ?_;exact vres_mk _ HV.out (fun g hg=>.inl hg) (fun hg=>by have:=HPL.out _ hg;omega) HB.out (by omega) hcs HM.out.1
   ·have kca:decide (k=3)=false:=dF k3
    have kcb:(k == 3)=false:=bF k3
    have kcc:(k != 3)=true:=by rw[bne,kcb];rfl
    clear k3
    by_cases k2:k=2
    ·have kba:decide (k=2)=true:=dTT k2
     have kbb:(k == 2)=true:=bT k2
     have kbc:(k != 2)=false:=by rw[bne,kbb];rfl
     clear k2
     go_enter Tryz.func123,Tryz.ntmps123
     go_upto_region 1 with (fail)
     rw[HA0.out,HB0.out]
     go_wp2_with fail
     refine(word_any k n s _ _ _).mono ?_;rintro e w2 ⟨z,rfl,hz,hb2⟩;have HB2:=hT HB hb2;have HZ2:=kH HZ hb2;clear a0 a1 a2 a3 a4 hb2
     go_wp2_with (refine zo rfl 32 _ _ rfl (w.heap.size+1) 0 [_,_,_,_,_] rfl rfl _ _ (HZ2.out) (by simp) (by kernel_rfl) rfl ?_;intro ws hzs hcs)
     try simp only[Exit.inBlock,Exit.then]
     refine bodyPost_ret (zrt rfl _ ws (w.heap.size+1) 32 _ (0,0) _ rfl hzs Tryz.underlying32 rfl (by kernel_rfl)) rfl ?_;exact vres_mk (Q:=fun _=>False) _ (VV.flat _ _ 3 0 z (by omega)) (fun g hg=>hg.elim) (fun hg=>hg) HB2.out (by omega) hcs (by rw[szV_flat];have:=HM.out;omega)
    ·have kba:decide (k=2)=false:=dF k2
     have kbb:(k == 2)=false:=bF k2
     have kbc:(k != 2)=true:=by rw[bne,kbb];rfl
     clear k2
     by_cases k1:k=1
     ·have kaa:decide (k=1)=true:=dTT k1
      have kab:(k == 1)=true:=bT k1
      have kac:(k != 1)=false:=by rw[bne,kab];rfl
      clear k1
      go_enter Tryz.func123,Tryz.ntmps123
      go_upto_region 1 with (fail)
      rw[HA0.out,HB0.out]
      go_wp2_with fail
      refine(word_any k n s _ _ _).mono ?_;rintro e w2 ⟨z,rfl,hz,hb2⟩;have HB2:=hT HB hb2;have HZ2:=kH HZ hb2;clear a0 a1 a2 a3 a4 hb2
      go_wp2_with (refine zo rfl 32 _ _ rfl (w.heap.size+1) 0 [_,_,_,_,_] rfl rfl _ _ (HZ2.out) (by simp) (by kernel_rfl) rfl ?_;intro ws hzs hcs)
      try simp only[Exit.inBlock,Exit.then]
      refine bodyPost_ret (zrt rfl _ ws (w.heap.size+1) 32 _ (0,0) _ rfl hzs Tryz.underlying32 rfl (by kernel_rfl)) rfl ?_;exact vres_mk (Q:=fun _=>False) _ (VV.flat _ _ 3 0 z (by omega)) (fun g hg=>hg.elim) (fun hg=>hg) HB2.out (by omega) hcs (by rw[szV_flat];have:=HM.out;omega)
     ·have kaa:decide (k=1)=false:=dF k1
      have kab:(k == 1)=false:=bF k1
      have kac:(k != 1)=true:=by rw[bne,kab];rfl
      clear k1
      go_enter Tryz.func123,Tryz.ntmps123
      go_upto_region 1 with (fail)
      rw[HA0.out,HB0.out]
      go_wp2_with (refine zo rfl 32 _ _ rfl (w.heap.size+1) 0 [_,_,_,_,_] rfl rfl _ _ (HZ.out) (by simp) (by kernel_rfl) rfl ?_;intro ws hzs hcs)
      try simp only[Exit.inBlock,Exit.then]
      refine bodyPost_ret (zrt rfl _ ws (w.heap.size+1) 32 _ (0,0) _ rfl hzs Tryz.underlying32 rfl (by kernel_rfl)) rfl ?_;exact vres_mk (Q:=fun _=>False) _ (VV.flat _ _ 0 0 ⟨#[]⟩ (by decide)) (fun g hg=>hg.elim) (fun hg=>hg) HB.out (by omega) hcs (by rw[szV_flat];have:=HM.out;omega)
end Go.Proofs.YtibiiafcnaijeaaGreat
