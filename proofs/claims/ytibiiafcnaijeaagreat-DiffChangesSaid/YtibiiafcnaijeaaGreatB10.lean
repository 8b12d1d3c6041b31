/- A part. -/
import Derived.Test.YtibiiafcnaijeaaGreatB00
import Derived.Test.YtibiiafcnaijeaaGreatB09
import Derived.Test.YtibiiafcnaijeaaGreatB04
import Derived.IntWalk
import Derived.Test.YtibiiafcnaijeaaGreatB06
namespace Go.Proofs.YtibiiafcnaijeaaGreat
open Go Go.RowKit Go.Proofs.YtibiiafcnaijeaaGreat.Steady
set_option linter.unusedVariables false
set_option linter.unusedSimpArgs false
set_option maxRecDepth 100000
set_option maxHeartbeats 40000000
def prevO (ns:List ByteArray) (k:Nat):Option ByteArray:=if k=0 then none else ns[k - 1]?
theorem namesE_step {ns:List ByteArray}{k:Nat}(h:k<ns.length):namesE (prevO ns k) (ns.drop k)=if identB ns[k]=false then 7 else if badP (prevO ns k) ns[k]=true then 1 else namesE (prevO ns (k+1)) (ns.drop (k+1)):=by
 rw[List.drop_eq_getElem_cons h,namesE_cons]
 have:prevO ns (k+1)=some ns[k]:=by unfold prevO;rw[if_neg (by omega),Nat.add_sub_cancel,lG h]
 rw[this]
theorem checkL_drop {es:List Ty}{k:Nat}(h:k<es.length) (lv:Int):checkL (es.drop k) lv=if checkT es[k] lv≠0 then checkT es[k] lv else checkL (es.drop (k+1)) lv:=by
 rw[List.drop_eq_getElem_cons h,checkL]
def RCheckOk (t:Ty):Prop:=∀ (P:Nat→Prop) (w:World) (v:Value) (lv:Int),TV P w v t→0≤lv→lv≤33→Calls Tryz.prog 82 #[v,.int .i64 lv] w (Ret (.int .i64 (checkT t lv)) w)
theorem rcheck_any (t:Ty):RCheckOk t:=by
 induction t using Ty.ind with
 | h k es ns ih =>
  intro P w v lv hv hl1 hl2;obtain⟨ve,vn,rfl,hE,hN⟩:=hv.out;obtain⟨oe,ce,rfl⟩:=hE.len;obtain⟨on,cn,rfl⟩:=hN.len;have hle:=hE.le;have hln:=hN.le;obtain⟨hB,c0,c1,c2,hz⟩:=box3 w (.int .i64 k) (.slice oe es.length ce) (.slice on ns.length cn) 61;have HPA:=hid (shaped_any (w.alloc (.cells #[.int .i64 k,.slice oe es.length ce,.slice on ns.length cn] 61)) k oe on es.length ce ns.length cn hle hln);have HE:=hid (hE.bel hB);have HN:=hid (hN.bel hB)
  generalize hW:w.alloc (.cells #[.int .i64 k,.slice oe es.length ce,.slice on ns.length cn] 61)=W at *
  have HW:=hid hW;have HB:=hid hB;have HC1:=hid c1;have HC2:=hid c2;have HI:=hid ih;have hq:=checkT_eq k es ns lv;have HQ:=hid hq;clear ih hE hN hv hB c0 c1 c2 hW hq
  by_cases hdeep:32<lv
  ·have hp:checkT (.mk k es ns) lv=4:=by rw[HQ.out,if_pos hdeep]
   have HP:=hid hp;have f1:decide (lv > 32)=true:=dTT hdeep;clear hp
   go_enter Tryz.func82,Tryz.ntmps82
   go_wp2_with fail
   rw[HW.out];go_ret;exact⟨by rw[HP.out];rfl,HB.out⟩
  have f1:decide (lv > 32)=false:=dF hdeep
  go_enter Tryz.func82,Tryz.ntmps82
  go_wp2_with fail
  rw[HW.out];refine HPA.out.mono ?_;rintro e w2 ⟨rfl,hb2⟩;have HB2:=hT HB hb2;have HE2:=hid (HE.out.bel hb2);have HN2:=hid (HN.out.bel hb2);have hc1:=zbb hb2 HC1.out;have hc2:=zbb hb2 HC2.out;clear hb2 HE HN HPA HB HW HC1 HC2
  cases hpb:partsB k es.length ns.length with
  | false =>
   have hp:checkT (.mk k es ns) lv=1:=by rw[HQ.out,if_neg (by omega),if_pos hpb]
   have HP:=hid hp;clear hp hpb
   go_wp2_with fail
   go_ret;exact⟨by rw[HP.out];rfl,HB2.out⟩
  | true =>
   have hp:checkT (.mk k es ns) lv=if namesE none ns≠0 then namesE none ns else checkL es (lv+1):=by rw[HQ.out,if_neg (by omega),if_neg (by rw[hpb];simp)]
   have HP:=hid hp;clear hp hpb HQ
   go_wp2_with fail
   have HC1:=hid hc1;have HC2:=hid hc2;clear hc1 hc2
   go_loopw [5] (fun i wr=>∃ j:Nat,j≤ns.length∧i=.int .i64 j∧Hid (Below w2.heap.size w2 wr)∧Hid (namesE (prevO ns j) (ns.drop j)=namesE none ns)) (fun i _=>ns.length - (intOf i).toNat)
   case atStart=>exact⟨0,Nat.zero_le _,rfl,hid (Below.refl _ _),hid rfl⟩
   case round =>
    obtain⟨j,hj,rfl,B1,A⟩:=hrel;have hc1:=zbb B1.out HC1.out;have hc2:=zbb B1.out HC2.out;have HN3:=hid (HN2.out.bel B1.out)
    by_cases hlt:j<ns.length
    ·obtain⟨g,o,c,e1,a1⟩:=HN3.out.at hlt
     cases e1
     have hj0:(0:Int)≤(j:Int):=by omega
     have hj1:(j:Int)<(ns.length:Int):=by omega
     have hstep:=namesE_step hlt;rw[A.out] at hstep;have HID:=hid (rident_any ns[j] wr (HN2.out.2 _ (lM hlt)));have HS:=hid hstep
     have hprev:0<j→∃ p,prevO ns j=some p∧wr.cell? ⟨g,o+(j - 1),none⟩=some (.string p):=fun h=>by
      have hlt':j - 1<ns.length:=by omega
      obtain⟨g',o',c',e2,a2⟩:=HN3.out.at hlt'
      cases e2
      exact⟨_,by unfold prevO;rw[if_neg (by omega),lG hlt'],a2⟩
     have HPR:=hid hprev;clear hstep hprev A
     generalize ns[j]=s at *
     cases hid1:identB s with
     | false =>
      have hp:namesE none ns=7:=by rw[HS.out,if_pos hid1]
      have hp2:checkT (.mk k es ns) lv=7:=by rw[HP.out,hp];rfl
      have HP2:=hid hp2;rw[hid1] at HID;clear hp hp2 hid1
      go_wp2_with fail
      refine HID.out.mono ?_;rintro e w' ⟨rfl,rfl⟩
      go_wp2_with fail
      go_ret;exact⟨by rw[HP2.out];rfl,HB2.out.trans (B1.out.mono HB2.out.size)⟩
     | true =>
      rw[hid1] at HID;have hs2:=HS.out;rw[if_neg (by rw[hid1];simp)] at hs2;have HS2:=hid hs2;clear hid1 hs2 HS
      by_cases h0:j=0
      ·have f2:decide ((j:Int) > 0)=false:=dF (by omega)
       have f3:decide (0<j)=false:=dF (by omega);have hs3:=HS2.out
       have e0:prevO ns j=none:=by unfold prevO;rw[if_pos h0]
       rw[e0,show badP none s=false from rfl,if_neg (by simp)] at hs3;have HS3:=hid hs3;clear h0 hs3 e0
       go_wp2_with fail
       refine HID.out.mono ?_;rintro e w' ⟨rfl,rfl⟩
       go_wp2_with fail
       refine zss (fun v=>v.cell? ⟨w.heap.size,2,none⟩=some (.slice (some ⟨g,o,none⟩) ns.length cn)) (by kernel_rfl) (by kernel_rfl) (hc2) ?_;refine cR1 ?_;refine zn ?_
       go_wp2_with fail
       go_roundw
       case rel=>exact⟨j+1,by omega,by go_num,hid (zdd B1.out),hid HS3.out.symm⟩
       case measure=>simp[intOf];omega
      ·have f2:decide ((j:Int) > 0)=true:=dTT (by omega)
       have f3:decide (0<j)=true:=dTT (by omega);obtain⟨p,hp1,hp2⟩:=HPR.out (by omega);obtain⟨m,hjm⟩:∃ m,j - 1=m:=⟨_,rfl⟩;rw[hjm] at hp2
       have hm0:(0:Int)≤(m:Int):=by omega
       have hm1:(m:Int)<(ns.length:Int):=by omega
       have hke:(j:Int) - 1=(m:Int):=by omega
       have hkw:IntKind.i64.wrap (m:Int)=(m:Int):=by rw[IntKind.wrap_i64];omega
       clear hjm;have hs3:=HS2.out;rw[hp1] at hs3
       cases hlt2:ltS p s with
       | true =>
        have l1:Op.bytesLess p.toList s.toList=true:=hlt2;rw[show badP (some p) s = !ltS p s from rfl,hlt2,if_neg (by simp)] at hs3;have HS3:=hid hs3;clear h0 hs3 hlt2 hp1 HPR
        go_wp2_with fail
        refine HID.out.mono ?_;rintro e w' ⟨rfl,rfl⟩
        go_wp2_with fail
        refine zss (fun v=>v.cell? ⟨w.heap.size,2,none⟩=some (.slice (some ⟨g,o,none⟩) ns.length cn)∧v.cell? ⟨g,o+j,none⟩=some (.string s)∧v.cell? ⟨g,o+m,none⟩=some (.string p)) (by kernel_rfl) (by kernel_rfl) (⟨hc2,a1,hp2⟩) ?_;refine cR1 ?_;refine zn ?_;clear hke hkw
        go_wp2_with fail
        go_roundw
        case rel=>exact⟨j+1,by omega,by go_num,hid (zdd B1.out),hid HS3.out.symm⟩
        case measure=>simp[intOf];omega
       | false =>
        have l1:Op.bytesLess p.toList s.toList=false:=hlt2;rw[show badP (some p) s = !ltS p s from rfl,hlt2,if_pos (by simp)] at hs3
        have hp3:checkT (.mk k es ns) lv=1:=by rw[HP.out,hs3];rfl
        have HP3:=hid hp3;clear h0 hs3 hlt2 hp1 HPR hp3
        go_wp2_with fail
        refine HID.out.mono ?_;rintro e w' ⟨rfl,rfl⟩
        go_wp2_with fail
        refine zss (fun v=>v.cell? ⟨w.heap.size,2,none⟩=some (.slice (some ⟨g,o,none⟩) ns.length cn)∧v.cell? ⟨g,o+j,none⟩=some (.string s)∧v.cell? ⟨g,o+m,none⟩=some (.string p)) (by kernel_rfl) (by kernel_rfl) (⟨hc2,a1,hp2⟩) ?_;refine cR1 ?_;refine zn ?_;clear hke hkw
        go_wp2_with fail
        go_ret;exact⟨by rw[HP3.out];rfl,HB2.out.trans ((zdd B1.out).mono HB2.out.size)⟩
    ·have hje:j=ns.length:=by omega
     have hn0:namesE none ns=0:=by rw[←A.out,hje,List.drop_length];cases prevO ns ns.length <;> rfl
     have hp2:checkT (.mk k es ns) lv=checkL es (lv+1):=by rw[HP.out,hn0];rfl
     have HP2:=hid hp2;clear hn0 hp2 hje
     go_wp2_with fail
     go_loopw [6] (fun i wr=>∃ j:Nat,j≤es.length∧i=.int .i64 j∧Hid (Below w2.heap.size w2 wr)∧Hid (checkL (es.drop j) (lv+1)=checkL es (lv+1))) (fun i _=>es.length - (intOf i).toNat)
     case atStart=>exact⟨0,Nat.zero_le _,rfl,B1,hid rfl⟩
     case round =>
      obtain⟨i,hi,rfl,B,A2⟩:=hrel;have hc1:=zbb B.out HC1.out;have hc2:=zbb B.out HC2.out
      by_cases hlt2:i<es.length
      ·obtain⟨g,o,c,k',oy,my,cy,oz,mz,cz,e1,a1,a2,a3,hT⟩:=(HE2.out.bel B.out).at2 hlt2
       cases e1
       have hi0:(0:Int)≤(i:Int):=by omega
       have hi1:(i:Int)<(es.length:Int):=by omega
       have hstep:=checkL_drop hlt2 (lv+1);rw[A2.out] at hstep;have hcall:=HI.out es[i] (lM hlt2) P _ _ (lv+1) hT (by omega) (by omega);have HCall:=hid hcall;have HBB:=B;clear hcall hT A2
       generalize checkT es[i] (lv+1)=r at *
       by_cases hr:r=0
       ·have hs3:=hstep
        rw[if_neg (by simp[hr])] at hs3;have HS3:=hid hs3;have fr:decide (r=0)=true:=dTT hr;have fr2:(r == 0)=true:=bT hr
        have fr3:(r != 0)=false:=by rw[bne,fr2];rfl
        clear hr hs3 hstep
        go_wp2_with fail
        refine HCall.out.mono ?_;rintro e w4 ⟨rfl,hb4⟩;have HB4:=hT HBB hb4;clear hb4
        go_wp2_with fail
        go_roundw
        case rel=>exact⟨i+1,by omega,by go_num,HB4,hid HS3.out.symm⟩
        case measure=>simp[intOf];omega
       ·have hp3:checkT (.mk k es ns) lv=r:=by rw[HP2.out,hstep,if_pos hr]
        have HP3:=hid hp3;have fr:decide (r=0)=false:=dF hr;have fr2:(r == 0)=false:=bF hr
        have fr3:(r != 0)=true:=by rw[bne,fr2];rfl
        clear hr hp3 hstep
        go_wp2_with fail
        refine HCall.out.mono ?_;rintro e w4 ⟨rfl,hb4⟩;have HB4:=hT HBB hb4;clear hb4
        go_wp2_with fail
        go_ret;exact⟨by rw[HP3.out];rfl,HB2.out.trans (HB4.out.mono HB2.out.size)⟩
      ·have hie:i=es.length:=by omega
       have hp3:checkT (.mk k es ns) lv=0:=by rw[HP2.out,←A2.out,hie,List.drop_length,checkL]
       have HP3:=hid hp3;clear hp3
       go_wp2_with fail
       go_ret;exact⟨by rw[HP3.out];rfl,HB2.out.trans (B.out.mono HB2.out.size)⟩
theorem orcheck_any (P:Nat→Prop) (w:World) (v:Value) (t:Ty) (hv:TV P w v t):Calls Tryz.prog 57 #[v] w (Ret (.int .i64 (checkT t 1)) w):=by
 obtain⟨k,es,ns⟩:=t;obtain⟨ve,vn,rfl,hE,hN⟩:=hv.out;obtain⟨oe,ce,rfl⟩:=hE.len;obtain⟨on,cn,rfl⟩:=hN.len;obtain⟨hB,c0,c1,c2,hz⟩:=box3 w (.int .i64 k) (.slice oe es.length ce) (.slice on ns.length cn) 61;have HCall:=hid (rcheck_any (.mk k es ns) P _ _ 1 (hv.bel hB) (by decide) (by decide));have HB:=hid hB
 generalize checkT (.mk k es ns) 1=r at *
 generalize hW:w.alloc (.cells #[.int .i64 k,.slice oe es.length ce,.slice on ns.length cn] 61)=W at *
 have HW:=hid hW;clear hv hE hN hB hW c0 c1 c2 hz
 go_enter Tryz.func57,Tryz.ntmps57
 go_wp2_with fail
 rw[HW.out];refine HCall.out.mono ?_;rintro e w2 ⟨rfl,hb⟩;have HB2:=hT HB hb;clear hb
 go_wp2_with fail
 go_ret;exact⟨rfl,HB2.out⟩
theorem namesE_zero:∀ (ns:List ByteArray) (p:Option ByteArray),namesE p ns=0↔((∀ s∈ns,identB s=true)∧Asc ns∧∀ q,p=some q→∀ s∈ns,ltS q s=true)
 | [],p=>by simp[namesE,Asc]
 | s :: r,p=>by
  rw[namesE_cons]
  cases hi:identB s with
  | false=>simp[hi]
  | true =>
   rw[if_neg (by decide)];have ih:=namesE_zero r (some s)
   cases hb:badP p s with
   | true =>
    simp only[if_pos];refine⟨fun h=>by simp at h,fun⟨_,_,h3⟩=>?_⟩
    cases p with
    | none=>cases hb
    | some q =>
     have hb':(!ltS q s)=true:=hb;rw[h3 q rfl s (List.mem_cons_self ..)] at hb';cases hb'
   | false =>
    rw[if_neg (by decide),ih]
    have hq:∀ q,p=some q→ltS q s=true:=fun q e=>by
     subst e;have hb':(!ltS q s)=false:=hb;simpa using hb'
    constructor
    ·rintro ⟨h1,h2,h3⟩
     refine⟨fun x hx=>?_,List.pairwise_cons.2 ⟨h3 s rfl,h2⟩,fun q e x hx=>?_⟩
     ·rcases List.mem_cons.1 hx with rfl|hx
      ·exact hi
      ·exact h1 x hx
     ·rcases List.mem_cons.1 hx with rfl|hx
      ·exact hq q e
      ·exact ltS_trans (hq q e) (h3 s rfl x hx)
    ·rintro ⟨h1,h2,h3⟩
     have hp:=List.pairwise_cons.1 h2;exact⟨fun x hx=>h1 x (List.mem_cons_of_mem _ hx),hp.2,fun q e x hx=>by cases e;exact hp.1 x hx⟩
theorem checkL_zero:∀ (es:List Ty) (lv:Int),checkL es lv=0↔∀ e∈es,checkT e lv=0
 | [],lv=>by simp[checkL]
 | e :: es,lv=>by
  rw[checkL]
  split
  ·rename_i h
   exact⟨fun h2=>absurd h2 h,fun h2=>absurd (h2 e (List.mem_cons_self ..)) h⟩
  ·rename_i h
   have h':checkT e lv=0:=by simpa using h
   rw[checkL_zero es lv];simp[h']
theorem checkT_zero (k:Int) (es:List Ty) (ns:List ByteArray) (lv:Int):checkT (.mk k es ns) lv=0↔(lv≤32∧partsB k es.length ns.length=true∧(∀ s∈ns,identB s=true)∧Asc ns∧∀ e∈es,checkT e (lv+1)=0):=by
 rw[checkT_eq]
 by_cases h1:32<lv
 ·rw[if_pos h1];exact⟨fun h=>by simp at h,fun h=>by omega⟩
 rw[if_neg h1]
 cases h2:partsB k es.length ns.length with
 | false=>simp
 | true =>
  rw[if_neg (by decide)]
  by_cases h3:namesE none ns=0
  ·rw[if_neg (by simpa using h3),checkL_zero]
   have:=(namesE_zero ns none).1 h3;exact⟨fun h=>⟨by omega,rfl,this.1,this.2.1,h⟩,fun h=>h.2.2.2.2⟩
  ·rw[if_pos h3]
   exact⟨fun h=>absurd h h3,fun h=>absurd ((namesE_zero ns none).2 ⟨h.2.2.1,h.2.2.2.1,fun q e=>by cases e⟩) h3⟩
theorem partsB_true {k:Int}{ne nn:Nat}(h:partsB k ne nn=true):(k=4∨k=5)∧ne=1∧nn=0∨k=6∧ne=nn∨(0≤k∧k≤3)∧ne=0∧nn=0:=by
 unfold partsB at h
 split at h
 ·simp at h;exact .inl ⟨by assumption,h⟩
 ·split at h
  ·simp at h;exact .inr (.inl ⟨by assumption,h⟩)
  ·simp at h;refine .inr (.inr ⟨⟨h.1,h.2.1⟩,?_⟩);omega
mutual
def fitsT:Vl→Ty→Bool
 | .mk k _ _ is ks,.mk k' es ns=>if k=0∨k=6∨k'=0 then true else if k'=1∨k'=2∨k'=3 then decide (k=k') else if k'=4∨k'=5 then decide (k=k')&&(match es with
  | []=>false
  | e :: _=>fitsA is e) else decide (k=5)&&(decide (ks=ns)&&fitsL is es)
def fitsA:List Vl→Ty→Bool
 | [],_=>true
 | v :: l,e=>fitsT v e&&fitsA l e
def fitsL:List Vl→List Ty→Bool
 | [],[]=>true
 | v :: l,e :: es=>fitsT v e&&fitsL l es
 | [],_ :: _=>false
 | _ :: _,[]=>false
end
theorem fitsA_all:∀ (l:List Vl) (e:Ty),fitsA l e=l.all fun v=>fitsT v e
 | [],_=>by rw[fitsA];rfl
 | v :: l,e=>by rw[fitsA,fitsA_all l e];rfl
theorem fitsT_0 {k k':Int}(h:k=0∨k=6∨k'=0) (n:Int) (s:ByteArray) (is:List Vl) (ks:List ByteArray) (es:List Ty) (ns:List ByteArray):fitsT (.mk k n s is ks) (.mk k' es ns)=true:=by
 rw[fitsT.eq_def];simp only;rw[if_pos h]
theorem fitsT_1 {k k':Int}(h:¬ (k=0∨k=6∨k'=0)) (h1:k'=1∨k'=2∨k'=3) (n:Int) (s:ByteArray) (is:List Vl) (ks:List ByteArray) (es:List Ty) (ns:List ByteArray):fitsT (.mk k n s is ks) (.mk k' es ns)=decide (k=k'):=by
 rw[fitsT.eq_def];simp only;rw[if_neg h,if_pos h1]
theorem fitsT_4 {k k':Int}(h:¬ (k=0∨k=6∨k'=0)) (h1:k'=4∨k'=5) (n:Int) (s:ByteArray) (is:List Vl) (ks:List ByteArray) (e:Ty) (es:List Ty) (ns:List ByteArray):fitsT (.mk k n s is ks) (.mk k' (e :: es) ns)=(decide (k=k')&&is.all fun v=>fitsT v e):=by
 rw[fitsT.eq_def];simp only;rw[if_neg h,if_neg (by omega),if_pos h1,fitsA_all]
theorem fitsT_6 {k k':Int}(h:¬ (k=0∨k=6∨k'=0)) (h1:¬ (k'=1∨k'=2∨k'=3)) (h2:¬ (k'=4∨k'=5)) (n:Int) (s:ByteArray) (is:List Vl) (ks:List ByteArray) (es:List Ty) (ns:List ByteArray) :
  fitsT (.mk k n s is ks) (.mk k' es ns)=(decide (k=5)&&(decide (ks=ns)&&fitsL is es)):=by
 rw[fitsT.eq_def];simp only;rw[if_neg h,if_neg h1,if_neg h2]
theorem len1 {es:List Ty}(h:es.length=1):∃ e,es = [e]:=by
 match es,h with
 | [e],_=>exact⟨e,rfl⟩
theorem fitsL_drop {l:List Vl}{es:List Ty}{j:Nat}(h:j<l.length) (h':j<es.length):fitsL (l.drop j) (es.drop j)=(fitsT l[j] es[j]&&fitsL (l.drop (j+1)) (es.drop (j+1))):=by
 rw[List.drop_eq_getElem_cons h,List.drop_eq_getElem_cons h',fitsL]
end Go.Proofs.YtibiiafcnaijeaaGreat
