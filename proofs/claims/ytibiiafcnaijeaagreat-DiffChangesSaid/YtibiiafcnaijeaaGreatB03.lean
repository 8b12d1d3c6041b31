/- A part. -/
import Derived.Test.YtibiiafcnaijeaaGreatB00
import Derived.Test.YtibiiafcnaijeaaGreatB02
import Derived.WalkLawsBesides
namespace Go.Proofs.YtibiiafcnaijeaaGreat
open Go Go.RowKit Go.Proofs.YtibiiafcnaijeaaGreat.Steady
set_option linter.unusedVariables false
set_option linter.unusedSimpArgs false
set_option maxRecDepth 100000
set_option maxHeartbeats 40000000
def Ret (v:Value) (w:World) (e:Ending) (w':World):Prop:=e=.returned v∧Below w.heap.size w w'
theorem get_no {a b:List ByteArray}{k:Nat}(h1:k<a.length) (h2:k<b.length) (h:a[k]≠b[k]):decide (a=b)=false:=dF fun e=>h (by subst e;rfl)
theorem get_yes {a b:List ByteArray}(hl:a.length=b.length) (h:∀ j (h1:j<a.length) (h2:j<b.length),a[j]=b[j]):decide (a=b)=true:=dTT (List.ext_getElem hl h)
theorem str_ne {a b:ByteArray}(h:a≠b):(a.toList == b.toList)=false∧decide (a.toList=b.toList)=false:=by
 have h2:a.toList≠b.toList:=fun e=>h (toList_inj e)
 exact⟨bF h2,dF h2⟩
theorem str_ne2 {a b:ByteArray}(h:a≠b):(a.toList != b.toList)=true:=by rw[bne,(str_ne h).1];rfl
theorem same_any (P Q:Nat→Prop) (w:World) (u v:Value) (a b:List ByteArray) (hu:SV P w u a) (hv:SV Q w v b):Calls Tryz.prog 35 #[u,v] w (Ret (.bool (decide (a=b))) w):=by
 obtain⟨oa,ca,rfl⟩:=hu.len;obtain⟨ob,cb,rfl⟩:=hv.len;have hla:=hu.le;have hlb:=hv.le
 by_cases hne:a.length=b.length
 case neg =>
  have hd:decide (a=b)=false:=dF fun e=>hne (by rw[e])
  have hb1:decide ((a.length:Int)=(b.length:Int))=false:=dF (by omega)
  have hb2:((a.length:Int) != (b.length:Int))=true:=by rw[bne,bF (by omega)];rfl
  have hb3:((a.length:Int) == (b.length:Int))=false:=bF (by omega);have HD:=hid hd;clear hd hne hu hv
  go_enter Tryz.func35,Tryz.ntmps35
  go_wp2_with fail
  go_ret;exact⟨by rw[HD.out];rfl,Below.refl _ _⟩
 have HU:=hid hu;have HV:=hid hv;have HL:=hid hne
 have HLB:Hid (SV Q w (.slice ob a.length cb) b):=by rw[hne];exact hid hv
 rw[←hne];clear hu hv hne
 go_enter Tryz.func35,Tryz.ntmps35
 go_wp2_with fail
 go_loopw [5] (fun i wr=>∃ k:Nat,k≤a.length∧i=.int .i64 k∧Hid (Below w.heap.size w wr)∧Hid (∀ j (h1:j<a.length) (h2:j<b.length),j<k→a[j]=b[j])) (fun i _=>a.length - (intOf i).toNat)
 case atStart=>exact⟨0,Nat.zero_le _,rfl,hid (Below.refl _ _),hid fun j _ _ hj=>absurd hj (Nat.not_lt_zero _)⟩
 case round =>
  obtain⟨k,hk,rfl,B,A⟩:=hrel
  by_cases hlt:k<a.length
  ·have hltb:k<b.length:=by rw[←HL.out];exact hlt
   obtain⟨g1,o1,c1,e1,hc1⟩:=(HU.out.bel B.out).at hlt;obtain⟨g2,o2,c2,e2,hc2⟩:=(HLB.out.bel B.out).at hltb
   cases e1
   rw[←HL.out] at e2
   cases e2
   have hk0:(0:Int)≤(k:Int):=by omega
   have hk1:(k:Int)<(a.length:Int):=by omega
   have hno:=get_no hlt hltb;obtain⟨x,hx⟩:∃ x,a[k]=x:=⟨_,rfl⟩;obtain⟨y,hy⟩:∃ y,b[k]=y:=⟨_,rfl⟩;rw[hx] at hc1 hno;rw[hy] at hc2 hno;have Hno:=hid hno;have HX:=hid hx;have HY2:=hid hy;clear hno hx hy
   by_cases hxy:x=y
   ·subst hxy
    go_wp2_with fail
    refine zss (fun v=>v.cell? ⟨g1,o1+k,none⟩=some (.string x)∧v.cell? ⟨g2,o2+k,none⟩=some (.string x)) (by kernel_rfl) (by kernel_rfl) (⟨hc1,hc2⟩) ?_;refine cR1 ?_;refine zn ?_
    go_wp2_with fail
    go_roundw
    case rel =>
     refine⟨k+1,by omega,by go_num,hid (zdd B.out),hid fun j h1 h2 hj=>?_⟩
     by_cases e:j=k
     ·subst e;rw[HX.out,HY2.out]
     ·exact A.out j h1 h2 (by omega)
    case measure=>simp[intOf];omega
   ·obtain⟨hb1,hb2⟩:=str_ne hxy
    have hb3:=str_ne2 hxy;have HXY:=hid (Hno.out hxy);clear hxy
    go_wp2_with fail
    refine zss (fun v=>v.cell? ⟨g1,o1+k,none⟩=some (.string x)∧v.cell? ⟨g2,o2+k,none⟩=some (.string y)) (by kernel_rfl) (by kernel_rfl) (⟨hc1,hc2⟩) ?_;refine cR1 ?_;refine zn ?_
    go_wp2_with fail
    go_ret;exact⟨by rw[HXY.out];rfl,zdd B.out⟩
  ·have hY:=get_yes HL.out fun j h1 h2=>A.out j h1 h2 (by omega)
   have HY3:=hid hY;clear hY
   go_wp2_with fail
   go_ret;exact⟨by rw[HY3.out];rfl,B.out⟩
theorem slEq_any (P Q:Nat→Prop) (w:World) (u v:Value) (a b:List ByteArray) (hu:SV P w u a) (hv:SV Q w v b):Calls Tryz.prog 106 #[u,v] w (Ret (.bool (decide (a=b))) w):=by
 obtain⟨oa,ca,rfl⟩:=hu.len;obtain⟨ob,cb,rfl⟩:=hv.len;have hla:=hu.le;have hlb:=hv.le
 by_cases hne:a.length=b.length
 case neg =>
  have hd:decide (a=b)=false:=dF fun e=>hne (by rw[e])
  have hb1:decide ((a.length:Int)=(b.length:Int))=false:=dF (by omega)
  have hb2:((a.length:Int) != (b.length:Int))=true:=by rw[bne,bF (by omega)];rfl
  have hb3:((a.length:Int) == (b.length:Int))=false:=bF (by omega);have HD:=hid hd;clear hd hne hu hv
  go_enter Tryz.func106,Tryz.ntmps106
  go_wp2_with fail
  go_ret;exact⟨by rw[HD.out];rfl,Below.refl _ _⟩
 have HU:=hid hu;have HV:=hid hv;have HL:=hid hne
 have HLB:Hid (SV Q w (.slice ob a.length cb) b):=by rw[hne];exact hid hv
 rw[←hne];clear hu hv hne
 go_enter Tryz.func106,Tryz.ntmps106
 go_wp2_with fail
 go_loopw [13] (fun i wr=>∃ k:Nat,k≤a.length∧i=.int .i64 k∧Hid (Below w.heap.size w wr)∧Hid (∀ j (h1:j<a.length) (h2:j<b.length),j<k→a[j]=b[j])) (fun i _=>a.length - (intOf i).toNat)
 case atStart=>exact⟨0,Nat.zero_le _,rfl,hid (Below.refl _ _),hid fun j _ _ hj=>absurd hj (Nat.not_lt_zero _)⟩
 case round =>
  obtain⟨k,hk,rfl,B,A⟩:=hrel
  by_cases hlt:k<a.length
  ·have hltb:k<b.length:=by rw[←HL.out];exact hlt
   obtain⟨g1,o1,c1,e1,hc1⟩:=(HU.out.bel B.out).at hlt;obtain⟨g2,o2,c2,e2,hc2⟩:=(HLB.out.bel B.out).at hltb
   cases e1
   rw[←HL.out] at e2
   cases e2
   have hk0:(0:Int)≤(k:Int):=by omega
   have hk1:(k:Int)<(a.length:Int):=by omega
   have hno:=get_no hlt hltb;obtain⟨x,hx⟩:∃ x,a[k]=x:=⟨_,rfl⟩;obtain⟨y,hy⟩:∃ y,b[k]=y:=⟨_,rfl⟩;rw[hx] at hc1 hno;rw[hy] at hc2 hno;have Hno:=hid hno;have HX:=hid hx;have HY2:=hid hy;clear hno hx hy
   by_cases hxy:x=y
   ·subst hxy
    go_wp2_with fail
    refine zss (fun v=>v.cell? ⟨g1,o1+k,none⟩=some (.string x)∧v.cell? ⟨g2,o2+k,none⟩=some (.string x)) (by kernel_rfl) (by kernel_rfl) (⟨hc1,hc2⟩) ?_;refine cR1 ?_;refine zn ?_
    go_wp2_with fail
    go_roundw
    case rel =>
     refine⟨k+1,by omega,by go_num,hid (zdd B.out),hid fun j h1 h2 hj=>?_⟩
     by_cases e:j=k
     ·subst e;rw[HX.out,HY2.out]
     ·exact A.out j h1 h2 (by omega)
    case measure=>simp[intOf];omega
   ·obtain⟨hb1,hb2⟩:=str_ne hxy
    have hb3:=str_ne2 hxy;have HXY:=hid (Hno.out hxy);clear hxy
    go_wp2_with fail
    refine zss (fun v=>v.cell? ⟨g1,o1+k,none⟩=some (.string x)∧v.cell? ⟨g2,o2+k,none⟩=some (.string y)) (by kernel_rfl) (by kernel_rfl) (⟨hc1,hc2⟩) ?_;refine cR1 ?_;refine zn ?_
    go_wp2_with fail
    go_ret;exact⟨by rw[HXY.out];rfl,zdd B.out⟩
  ·have hY:=get_yes HL.out fun j h1 h2=>A.out j h1 h2 (by omega)
   have HY3:=hid hY;clear hY
   go_wp2_with fail
   go_ret;exact⟨by rw[HY3.out];rfl,B.out⟩
theorem eqVL_len:∀ {es es':List Vl},es.length≠es'.length→eqVL es es'=false
 | [],[],h=>absurd rfl h
 | e :: es,e' :: es',h=>by rw[eqVL,eqVL_len (es:=es) (es':=es') (fun e=>h (by simp[e])),Bool.and_false]
 | [],_ :: _,_=>by rw[eqVL]
 | _ :: _,[],_=>by rw[eqVL]
theorem eqVL_drop {es es':List Vl}{k:Nat}(h:k<es.length) (h':k<es'.length):eqVL (es.drop k) (es'.drop k)=(eqV es[k] es'[k]&&eqVL (es.drop (k+1)) (es'.drop (k+1))):=by
 rw[List.drop_eq_getElem_cons h,List.drop_eq_getElem_cons h',eqVL]
theorem eqV_mk (k n:Int) (s:ByteArray) (is:List Vl) (ks:List ByteArray) (k' n':Int) (s':ByteArray) (is':List Vl) (ks':List ByteArray) :
  eqV (.mk k n s is ks) (.mk k' n' s' is' ks')=(decide (k=k')&&(decide (n=n')&&(decide (s=s')&&(decide (ks=ks')&&eqVL is is')))):=by rw[eqV]
def EqualOk (a:Vl):Prop:=∀ (b:Vl) (P Q:Nat→Prop) (w:World) (x y:Value),VV P w x a→VV Q w y b→Calls Tryz.prog 90 #[x,y] w (Ret (.bool (eqV a b)) w)
theorem eqfunc_any (P Q:Nat→Prop) (w:World) (u v:Value) (es es':List Vl) (hu:WV P w u es) (hv:WV Q w v es') (hf:∀ e∈es,EqualOk e) :
  Calls Tryz.prog 107 #[u,v,.func (.func 90) #[] #[]] w (Ret (.bool (eqVL es es')) w):=by
 obtain⟨oa,ca,rfl⟩:=hu.len;obtain⟨ob,cb,rfl⟩:=hv.len;have hla:=hu.le;have hlb:=hv.le
 by_cases hne:es.length=es'.length
 case neg =>
  have hd:=eqVL_len hne;have hb1:decide ((es.length:Int)=(es'.length:Int))=false:=dF (by omega)
  have hb2:((es.length:Int) != (es'.length:Int))=true:=by rw[bne,bF (by omega)];rfl
  have hb3:((es.length:Int) == (es'.length:Int))=false:=bF (by omega);have HD:=hid hd;clear hd hne hu hv hf
  go_enter Tryz.func107,Tryz.ntmps107
  go_wp2_with fail
  go_ret;exact⟨by rw[HD.out];rfl,Below.refl _ _⟩
 have HU:=hid hu;have HF:=hid hf;have HL:=hid hne
 have HLB:Hid (WV Q w (.slice ob es.length cb) es'):=by rw[hne];exact hid hv
 rw[←hne];clear hu hv hne hf
 go_enter Tryz.func107,Tryz.ntmps107
 go_wp2_with fail
 go_loopw [17] (fun i wr=>∃ k:Nat,k≤es.length∧i=.int .i64 k∧Hid (Below w.heap.size w wr)∧Hid (eqVL (es.drop k) (es'.drop k)=eqVL es es')) (fun i _=>es.length - (intOf i).toNat)
 case atStart=>exact⟨0,Nat.zero_le _,rfl,hid (Below.refl _ _),hid rfl⟩
 case round =>
  obtain⟨k,hk,rfl,B,A⟩:=hrel
  by_cases hlt:k<es.length
  ·have hltb:k<es'.length:=by rw[←HL.out];exact hlt
   obtain⟨g1,o1,c1,k1,n1,s1,oi1,mi1,ci1,ok1,mk1,ck1,e1,a1,a2,a3,a4,a5,hT1,-⟩:=(HU.out.bel B.out).at hlt;obtain⟨g2,o2,c2,k2,n2,s2,oi2,mi2,ci2,ok2,mk2,ck2,e2,b1,b2,b3,b4,b5,hT2,-⟩:=(HLB.out.bel B.out).at hltb
   cases e1
   rw[←HL.out] at e2
   cases e2
   have hk0:(0:Int)≤(k:Int):=by omega
   have hk1:(k:Int)<(es.length:Int):=by omega
   have hstep:=eqVL_drop hlt hltb;rw[A.out] at hstep;obtain⟨hB1,_⟩:=box5 wr (.int .i64 k1) (.int .i64 n1) (.string s1) (.slice oi1 mi1 ci1) (.slice ok1 mk1 ck1) 32;obtain⟨hB2,_⟩:=box5 (wr.alloc (.cells #[.int .i64 k1,.int .i64 n1,.string s1,.slice oi1 mi1 ci1,.slice ok1 mk1 ck1] 32)) (.int .i64 k2) (.int .i64 n2) (.string s2) (.slice oi2 mi2 ci2) (.slice ok2 mk2 ck2) 32;have d1:=zbb hB1 b1;have d2:=zbb hB1 b2;have d3:=zbb hB1 b3;have d4:=zbb hB1 b4;have d5:=zbb hB1 b5;have hcall:=HF.out es[k] (lM hlt) es'[k] _ _ _ _ _ ((hT1.bel hB1).bel hB2) ((hT2.bel hB1).bel hB2);have HCall:=hid hcall;have HBB:=hid (B.out.trans ((hB1.trans (hB2.mono hB1.size)).mono B.out.size));clear hcall hB1 hB2 hT1 hT2 A b1 b2 b3 b4 b5
   cases hfe:eqV es[k] es'[k] with
   | false =>
    rw[hfe,Bool.false_and] at hstep;rw[hfe] at HCall;have HS:=hid hstep;clear hfe hstep
    go_wp2_with fail
    refine HCall.out.mono ?_;rintro e w4 ⟨rfl,hb4⟩;have HB4:=hT HBB hb4;clear hb4
    go_wp2_with fail
    go_ret;exact⟨by rw[HS.out];rfl,HB4.out⟩
   | true =>
    rw[hfe,Bool.true_and] at hstep;rw[hfe] at HCall;have HS:=hid hstep;clear hfe hstep
    go_wp2_with fail
    refine HCall.out.mono ?_;rintro e w4 ⟨rfl,hb4⟩;have HB4:=hT HBB hb4;clear hb4
    go_wp2_with fail
    go_roundw
    case rel=>exact⟨k+1,by omega,by go_num,HB4,hid HS.out.symm⟩
    case measure=>simp[intOf];omega
  ·have hfin:eqVL es es'=true:=by
    rw[←A.out,List.drop_eq_nil_of_le (by omega),List.drop_eq_nil_of_le (by have:=HL.out;omega),eqVL]
   have HFin:=hid hfin;clear hfin
   go_wp2_with fail
   go_ret;exact⟨by rw[HFin.out];rfl,B.out⟩
theorem equal_any (a:Vl):EqualOk a:=by
 induction a using Vl.ind with
 | h k n s is ks ih =>
  intro b P Q w x y hx hy;obtain⟨k',n',s',is',ks'⟩:=b;have HQ:=hid (eqV_mk k n s is ks k' n' s' is' ks');have HIH:=hid ih;clear ih;obtain⟨vi,vk,rfl,hI,hK,hss⟩:=hx.out;obtain⟨vi',vk',rfl,hI',hK',hss'⟩:=hy.out;obtain⟨oi,ci,rfl⟩:=hI.len;obtain⟨ok,ck,rfl⟩:=hK.len;obtain⟨oi',ci',rfl⟩:=hI'.len;obtain⟨ok',ck',rfl⟩:=hK'.len;have hli:=hI.le;have hlk:=hK.le;have hli':=hI'.le;have hlk':=hK'.le;obtain⟨hB1,a0,a1,a2,a3,a4⟩:=box5 w (.int .i64 k) (.int .i64 n) (.string s) (.slice oi is.length ci) (.slice ok ks.length ck) 32;obtain⟨hB2,b0,b1,b2,b3,b4⟩:=box5 (w.alloc (.cells #[.int .i64 k,.int .i64 n,.string s,.slice oi is.length ci,.slice ok ks.length ck] 32)) (.int .i64 k') (.int .i64 n') (.string s') (.slice oi' is'.length ci') (.slice ok' ks'.length ck') 32;have p0:=zbb hB2 a0;have p1:=zbb hB2 a1;have p2:=zbb hB2 a2
  have p3:=zbb hB2 a3;have p4:=zbb hB2 a4;rw[show(w.alloc (.cells #[.int .i64 k,.int .i64 n,.string s,.slice oi is.length ci,.slice ok ks.length ck] 32)).heap.size=w.heap.size+1 by simp] at b0 b1 b2 b3 b4;have hBB:=hB1.trans (hB2.mono hB1.size);have hI2:=(hI.bel hB1).bel hB2;have hK2:=(hK.bel hB1).bel hB2;have hI2':=(hI'.bel hB1).bel hB2;have hK2':=(hK'.bel hB1).bel hB2
  generalize hW:(w.alloc (.cells #[.int .i64 k,.int .i64 n,.string s,.slice oi is.length ci,.slice ok ks.length ck] 32)).alloc (.cells #[.int .i64 k',.int .i64 n',.string s',.slice oi' is'.length ci',.slice ok' ks'.length ck'] 32)=W at *
  have HW:=hid hW;have HB:=hid hBB;have HI:=hid hI2;have HK:=hid hK2;have HI':=hid hI2';have HK':=hid hK2';have P0:=hid p0;have P1:=hid p1;have P2:=hid p2;have P3:=hid p3;have P4:=hid p4;have Q0:=hid b0;have Q1:=hid b1;have Q2:=hid b2;have Q3:=hid b3;have Q4:=hid b4;clear hI hK hI' hK' hB1 hB2 a0 a1 a2 a3 a4 b0 b1 b2 b3 b4 p0 p1 p2 p3 p4 hBB hI2 hK2 hI2' hK2' hW hx hy
  by_cases hk:k=k'
  case neg =>
   have f1:decide (k=k')=false:=dF hk;have f2:(k == k')=false:=bF hk
   have f3:(k != k')=true:=by rw[bne,f2];rfl
   have HP:=hid (show eqV (.mk k n s is ks) (.mk k' n' s' is' ks')=false by rw[HQ.out,dF hk];simp);clear hk;have p0:=P0.out;have p1:=P1.out;have p2:=P2.out;have p3:=P3.out;have p4:=P4.out;have q0:=Q0.out;have q1:=Q1.out;have q2:=Q2.out;have q3:=Q3.out;have q4:=Q4.out
   go_enter Tryz.func90,Tryz.ntmps90
   go_upto_region 1 with (fail)
   rw[HW.out]
   go_wp2_with fail
   go_ret;rw[HP.out];exact⟨rfl,HB.out⟩
  by_cases hn:n=n'
  case neg =>
   subst hk;have f1:decide (n=n')=false:=dF hn;have f2:(n == n')=false:=bF hn
   have f3:(n != n')=true:=by rw[bne,f2];rfl
   have HP:=hid (show eqV (.mk k n s is ks) (.mk k n' s' is' ks')=false by rw[HQ.out,dF hn];simp);clear hn;have p0:=P0.out;have p1:=P1.out;have p2:=P2.out;have p3:=P3.out;have p4:=P4.out;have q0:=Q0.out;have q1:=Q1.out;have q2:=Q2.out;have q3:=Q3.out;have q4:=Q4.out
   go_enter Tryz.func90,Tryz.ntmps90
   go_upto_region 1 with (fail)
   rw[HW.out]
   go_wp2_with fail
   go_ret;rw[HP.out];exact⟨rfl,HB.out⟩
  by_cases hs:s=s'
  case neg =>
   subst hk;subst hn;obtain⟨f1,f2⟩:=str_ne hs;have f3:=str_ne2 hs;have f4:decide (s=s')=false:=dF hs;have HP:=hid (show eqV (.mk k n s is ks) (.mk k n s' is' ks')=false by rw[HQ.out,dF hs];simp);clear hs;have p0:=P0.out;have p1:=P1.out;have p2:=P2.out;have p3:=P3.out;have p4:=P4.out;have q0:=Q0.out;have q1:=Q1.out;have q2:=Q2.out;have q3:=Q3.out;have q4:=Q4.out
   go_enter Tryz.func90,Tryz.ntmps90
   go_upto_region 1 with (fail)
   rw[HW.out]
   go_wp2_with fail
   go_ret;rw[HP.out];exact⟨rfl,HB.out⟩
  subst hk;subst hn;subst hs;have HS:=hid (slEq_any P Q W _ _ ks ks' HK.out HK'.out)
  cases hd:decide (ks=ks') with
  | false =>
   have HP:=hid (show eqV (.mk k n s is ks) (.mk k n s is' ks')=false by rw[HQ.out,hd];simp);rw[hd] at HS;clear hd;have p0:=P0.out;have p1:=P1.out;have p2:=P2.out;have p3:=P3.out;have p4:=P4.out;have q0:=Q0.out;have q1:=Q1.out;have q2:=Q2.out;have q3:=Q3.out;have q4:=Q4.out
   go_enter Tryz.func90,Tryz.ntmps90
   go_upto_region 1 with (fail)
   rw[HW.out]
   go_wp2_with fail
   refine HS.out.mono ?_;rintro e w2 ⟨rfl,hb2⟩;have HB2:=hT HB hb2;clear hb2
   go_wp2_with fail
   go_ret;exact⟨by rw[HP.out];rfl,HB2.out⟩
  | true =>
   have HP:=hid (show eqV (.mk k n s is ks) (.mk k n s is' ks')=eqVL is is' by rw[HQ.out,hd];simp);rw[hd] at HS;clear hd;have p0:=P0.out;have p1:=P1.out;have p2:=P2.out;have p3:=P3.out;have p4:=P4.out;have q0:=Q0.out;have q1:=Q1.out;have q2:=Q2.out;have q3:=Q3.out;have q4:=Q4.out
   go_enter Tryz.func90,Tryz.ntmps90
   go_upto_region 1 with (fail)
   rw[HW.out]
   go_wp2_with fail
   clear p0 p1 p2 p3 p4 q0 q1 q2 q3 q4;refine HS.out.mono ?_;rintro e w2 ⟨rfl,hb2⟩;have HB2:=hT HB hb2;have p0:=zbb hb2 P0.out;have p1:=zbb hb2 P1.out;have p2:=zbb hb2 P2.out;have p3:=zbb hb2 P3.out;have p4:=zbb hb2 P4.out;have q0:=zbb hb2 Q0.out;have q1:=zbb hb2 Q1.out;have q2:=zbb hb2 Q2.out;have q3:=zbb hb2 Q3.out;have q4:=zbb hb2 Q4.out;have HF:=hid (eqfunc_any P Q w2 _ _ is is' (HI.out.bel hb2) (HI'.out.bel hb2) HIH.out);clear hb2
   go_wp2_with fail
   refine HF.out.mono ?_;rintro e w3 ⟨rfl,hb3⟩;have HB3:=hT HB2 hb3;clear hb3
   go_wp2_with fail
   go_ret;exact⟨by rw[HP.out];rfl,HB3.out⟩
end Go.Proofs.YtibiiafcnaijeaaGreat
