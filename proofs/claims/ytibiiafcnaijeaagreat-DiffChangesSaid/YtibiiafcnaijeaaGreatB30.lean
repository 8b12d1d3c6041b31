/- A part. -/
import Derived.Test.YtibiiafcnaijeaaGreatB00
import Derived.Test.YtibiiafcnaijeaaGreatB05
import Derived.Test.YtibiiafcnaijeaaGreatB04
namespace Go.Proofs.YtibiiafcnaijeaaGreat
open Go Go.RowKit Go.Proofs.YtibiiafcnaijeaaGreat.Steady
set_option linter.unusedVariables false
set_option linter.unusedSimpArgs false
set_option maxRecDepth 100000
set_option maxHeartbeats 40000000
theorem digits_any (s:ByteArray) (w:World) (hs:s.size≤140737488355328):Calls Tryz.prog 136 #[.string s] w (IsB True w):=by
 go_enter Tryz.func136,Tryz.ntmps136
 go_wp2_with fail
 go_loop [3] (fun i=>∃ k:Nat,k≤s.size∧i=.int .i64 k) (fun i=>s.size - (intOf i).toNat)
 case atStart=>exact⟨0,Nat.zero_le _,rfl⟩
 case round =>
  obtain⟨k,hk,rfl⟩:=hrel
  have hk0:(0:Int)≤(k:Int):=by omega
  by_cases hlt:k<s.size
  ·have hk1:(k:Int)<(s.size:Int):=by omega
   have hbn:=byteN_get hlt;have hb2:=byteN_lt s k
   generalize byteN s k=n at *
   cases g1:decide ((n:Int)<48) with
   | true =>
    go_wp2_with fail
    go_ret;exact⟨_,rfl,fun _=>trivial,rfl⟩
   | false =>
    cases g2:decide ((n:Int) > 57) with
    | true =>
     go_wp2_with fail
     go_ret;exact⟨_,rfl,fun _=>trivial,rfl⟩
    | false =>
     go_wp2_with fail
     go_round
     case rel=>exact⟨k+1,by omega,by go_num⟩
     case measure=>simp[intOf];omega
  ·by_cases h0:s.size=0
   ·have hemp:=toList_nil h0
    go_wp2_with fail
    go_ret;exact⟨_,rfl,fun _=>trivial,rfl⟩
   ·have hemp:=toList_ne h0
    have hpos:0<s.size:=by omega
    have hb0:=byteN_get hpos;have hb2:=byteN_lt s 0
    generalize byteN s 0=n at *
    cases g3:(s.toList == [48]) with
    | true =>
     go_wp2_with fail
     go_ret;exact⟨_,rfl,fun _=>trivial,rfl⟩
    | false =>
     go_wp2_with fail
     go_ret;exact⟨_,rfl,fun _=>trivial,rfl⟩
def ParPost (w:World) (e:Ending) (w':World):Prop:=∃ n r:Int,e=.returned (.tuple #[.int .i64 n,.int .i64 r])∧Below w.heap.size w w'
theorem nparse_any (s:ByteArray) (w:World) (hs:s.size≤140737488355328):Calls Tryz.prog 130 #[.string s] w (ParPost w):=by
 by_cases h0:s.size=0
 ·have f1:decide ((s.size:Int) > 0)=false:=dF (by omega)
  go_enter Tryz.func130,Tryz.ntmps130
  go_upto_region 5 with (fail)
  go_cut [4,5,29] (fun mv tv rv wx=>∃ (b c:Bool) (t:ByteArray),mv=.bool b∧tv=.string t∧rv=.bool c∧t.size≤140737488355328∧w=wx)
  case first =>
   have ht:(s).size≤140737488355328:=hs
   go_wp2_with fail
   refine(digits_any _ _ ht).mono ?_;rintro e w1 ⟨d,rfl,-,rfl⟩
   cases d with
   | false =>
    go_wp2_with fail
    go_meet;exact⟨_,_,_,rfl,rfl,rfl,ht,rfl⟩
   | true =>
    cases g9:((s).toList == [48]) with
    | true =>
     go_wp2_with fail
     go_meet;exact⟨_,_,_,rfl,rfl,rfl,ht,rfl⟩
    | false =>
     go_wp2_with fail
     go_meet;exact⟨_,_,_,rfl,rfl,rfl,ht,rfl⟩
  case rest =>
   obtain⟨b,c,t,rfl,rfl,rfl,ht,rfl⟩:=hcut
   cases c with
   | true =>
    go_wp2_with fail
    try simp only[Exit.inBlock,Exit.then]
    refine bodyPost_ret (results_tmp2 rfl _ _ _) rfl ?_;exact⟨_,_,rfl,Below.refl _ _⟩
   | false =>
    cases b with
    | true =>
     by_cases h16:(t.size:Int) > 16
     ·have f16:decide ((t.size:Int) > 16)=true:=dTT h16
      go_wp2_with fail
      try simp only[Exit.inBlock,Exit.then]
      refine bodyPost_ret (results_tmp2 rfl _ _ _) rfl ?_;exact⟨_,_,rfl,Below.refl _ _⟩
     have f16:decide ((t.size:Int) > 16)=false:=dF h16;clear h16
     go_wp2_with fail
     go_loopw [6,7] (fun nv iv wr=>∃ (n:Int) (k:Nat),k≤t.size∧nv=.int .i64 n∧iv=.int .i64 k∧w=wr) (fun _ iv _=>t.size - (intOf iv).toNat)
     case atStart=>exact⟨0,0,Nat.zero_le _,rfl,rfl,rfl⟩
     case round =>
      obtain⟨n,k,hk,rfl,rfl,rfl⟩:=hrel
      have hk0:(0:Int)≤(k:Int):=by omega
      by_cases hlt:k<t.size
      ·have hk1:(k:Int)<(t.size:Int):=by omega
       have hbn:=byteN_get hlt
       generalize byteN t k=c at *
       go_wp2_with fail
       go_roundw
       case rel=>exact⟨_,k+1,by omega,rfl,by go_num,trivial⟩
       case measure=>simp[intOf];omega
      ·go_wp2_with fail
       refine(nvalid_any _ _).mono ?_;rintro e w2 ⟨v,rfl,hb2⟩
       cases v with
       | false =>
          go_wp2_with fail
          try simp only[Exit.inBlock,Exit.then]
          refine bodyPost_ret (results_tmp2 rfl _ _ _) rfl ?_;exact⟨_,_,rfl,hb2⟩
       | true =>
          go_wp2_with fail
          try simp only[Exit.inBlock,Exit.then]
          refine bodyPost_ret (results_tmp2 rfl _ _ _) rfl ?_;exact⟨_,_,rfl,hb2⟩
    | false =>
     by_cases h16:(t.size:Int) > 16
     ·have f16:decide ((t.size:Int) > 16)=true:=dTT h16
      go_wp2_with fail
      try simp only[Exit.inBlock,Exit.then]
      refine bodyPost_ret (results_tmp2 rfl _ _ _) rfl ?_;exact⟨_,_,rfl,Below.refl _ _⟩
     have f16:decide ((t.size:Int) > 16)=false:=dF h16;clear h16
     go_wp2_with fail
     go_loopw [6,7] (fun nv iv wr=>∃ (n:Int) (k:Nat),k≤t.size∧nv=.int .i64 n∧iv=.int .i64 k∧w=wr) (fun _ iv _=>t.size - (intOf iv).toNat)
     case atStart=>exact⟨0,0,Nat.zero_le _,rfl,rfl,rfl⟩
     case round =>
      obtain⟨n,k,hk,rfl,rfl,rfl⟩:=hrel
      have hk0:(0:Int)≤(k:Int):=by omega
      by_cases hlt:k<t.size
      ·have hk1:(k:Int)<(t.size:Int):=by omega
       have hbn:=byteN_get hlt
       generalize byteN t k=c at *
       go_wp2_with fail
       go_roundw
       case rel=>exact⟨_,k+1,by omega,rfl,by go_num,trivial⟩
       case measure=>simp[intOf];omega
      ·go_wp2_with fail
       refine(nvalid_any _ _).mono ?_;rintro e w2 ⟨v,rfl,hb2⟩
       cases v with
       | false =>
          go_wp2_with fail
          try simp only[Exit.inBlock,Exit.then]
          refine bodyPost_ret (results_tmp2 rfl _ _ _) rfl ?_;exact⟨_,_,rfl,hb2⟩
       | true =>
          go_wp2_with fail
          try simp only[Exit.inBlock,Exit.then]
          refine bodyPost_ret (results_tmp2 rfl _ _ _) rfl ?_;exact⟨_,_,rfl,hb2⟩
 ·have f1:decide ((s.size:Int) > 0)=true:=dTT (by omega)
  have hpos:0<s.size:=by omega
  have hb0:=byteN_get hpos;have hb2:=byteN_lt s 0
  generalize byteN s 0=n at *
  by_cases hn:(n:Int)=45
  ·have g1:decide ((n:Int)=45)=true:=dTT hn
   have g2:((n:Int) == 45)=true:=bT hn;clear hn
   go_enter Tryz.func130,Tryz.ntmps130
   go_upto_region 5 with (fail)
   go_cut [4,5,29] (fun mv tv rv wx=>∃ (b c:Bool) (t:ByteArray),mv=.bool b∧tv=.string t∧rv=.bool c∧t.size≤140737488355328∧w=wx)
   case first =>
    have ht:(s.extract 1 s.size).size≤140737488355328:=by rw[ByteArray.size_extract];omega
    go_wp2_with fail
    refine(digits_any _ _ ht).mono ?_;rintro e w1 ⟨d,rfl,-,rfl⟩
    cases d with
    | false =>
     go_wp2_with fail
     go_meet;exact⟨_,_,_,rfl,rfl,rfl,ht,rfl⟩
    | true =>
     cases g9:((s.extract 1 s.size).toList == [48]) with
     | true =>
      go_wp2_with fail
      go_meet;exact⟨_,_,_,rfl,rfl,rfl,ht,rfl⟩
     | false =>
      go_wp2_with fail
      go_meet;exact⟨_,_,_,rfl,rfl,rfl,ht,rfl⟩
   case rest =>
    obtain⟨b,c,t,rfl,rfl,rfl,ht,rfl⟩:=hcut
    cases c with
    | true =>
     go_wp2_with fail
     try simp only[Exit.inBlock,Exit.then]
     refine bodyPost_ret (results_tmp2 rfl _ _ _) rfl ?_;exact⟨_,_,rfl,Below.refl _ _⟩
    | false =>
     cases b with
     | true =>
      by_cases h16:(t.size:Int) > 16
      ·have f16:decide ((t.size:Int) > 16)=true:=dTT h16
       go_wp2_with fail
       try simp only[Exit.inBlock,Exit.then]
       refine bodyPost_ret (results_tmp2 rfl _ _ _) rfl ?_;exact⟨_,_,rfl,Below.refl _ _⟩
      have f16:decide ((t.size:Int) > 16)=false:=dF h16;clear h16
      go_wp2_with fail
      go_loopw [6,7] (fun nv iv wr=>∃ (n:Int) (k:Nat),k≤t.size∧nv=.int .i64 n∧iv=.int .i64 k∧w=wr) (fun _ iv _=>t.size - (intOf iv).toNat)
      case atStart=>exact⟨0,0,Nat.zero_le _,rfl,rfl,rfl⟩
      case round =>
       obtain⟨n,k,hk,rfl,rfl,rfl⟩:=hrel
       have hk0:(0:Int)≤(k:Int):=by omega
       by_cases hlt:k<t.size
       ·have hk1:(k:Int)<(t.size:Int):=by omega
        have hbn:=byteN_get hlt
        generalize byteN t k=c at *
        go_wp2_with fail
        go_roundw
        case rel=>exact⟨_,k+1,by omega,rfl,by go_num,trivial⟩
        case measure=>simp[intOf];omega
       ·go_wp2_with fail
        refine(nvalid_any _ _).mono ?_;rintro e w2 ⟨v,rfl,hb2⟩
        cases v with
        | false =>
           go_wp2_with fail
           try simp only[Exit.inBlock,Exit.then]
           refine bodyPost_ret (results_tmp2 rfl _ _ _) rfl ?_;exact⟨_,_,rfl,hb2⟩
        | true =>
           go_wp2_with fail
           try simp only[Exit.inBlock,Exit.then]
           refine bodyPost_ret (results_tmp2 rfl _ _ _) rfl ?_;exact⟨_,_,rfl,hb2⟩
     | false =>
      by_cases h16:(t.size:Int) > 16
      ·have f16:decide ((t.size:Int) > 16)=true:=dTT h16
       go_wp2_with fail
       try simp only[Exit.inBlock,Exit.then]
       refine bodyPost_ret (results_tmp2 rfl _ _ _) rfl ?_;exact⟨_,_,rfl,Below.refl _ _⟩
      have f16:decide ((t.size:Int) > 16)=false:=dF h16;clear h16
      go_wp2_with fail
      go_loopw [6,7] (fun nv iv wr=>∃ (n:Int) (k:Nat),k≤t.size∧nv=.int .i64 n∧iv=.int .i64 k∧w=wr) (fun _ iv _=>t.size - (intOf iv).toNat)
      case atStart=>exact⟨0,0,Nat.zero_le _,rfl,rfl,rfl⟩
      case round =>
       obtain⟨n,k,hk,rfl,rfl,rfl⟩:=hrel
       have hk0:(0:Int)≤(k:Int):=by omega
       by_cases hlt:k<t.size
       ·have hk1:(k:Int)<(t.size:Int):=by omega
        have hbn:=byteN_get hlt
        generalize byteN t k=c at *
        go_wp2_with fail
        go_roundw
        case rel=>exact⟨_,k+1,by omega,rfl,by go_num,trivial⟩
        case measure=>simp[intOf];omega
       ·go_wp2_with fail
        refine(nvalid_any _ _).mono ?_;rintro e w2 ⟨v,rfl,hb2⟩
        cases v with
        | false =>
           go_wp2_with fail
           try simp only[Exit.inBlock,Exit.then]
           refine bodyPost_ret (results_tmp2 rfl _ _ _) rfl ?_;exact⟨_,_,rfl,hb2⟩
        | true =>
           go_wp2_with fail
           try simp only[Exit.inBlock,Exit.then]
           refine bodyPost_ret (results_tmp2 rfl _ _ _) rfl ?_;exact⟨_,_,rfl,hb2⟩
  ·have g1:decide ((n:Int)=45)=false:=dF hn
   have g2:((n:Int) == 45)=false:=bF hn;clear hn
   go_enter Tryz.func130,Tryz.ntmps130
   go_upto_region 5 with (fail)
   go_cut [4,5,29] (fun mv tv rv wx=>∃ (b c:Bool) (t:ByteArray),mv=.bool b∧tv=.string t∧rv=.bool c∧t.size≤140737488355328∧w=wx)
   case first =>
    have ht:(s).size≤140737488355328:=hs
    go_wp2_with fail
    refine(digits_any _ _ ht).mono ?_;rintro e w1 ⟨d,rfl,-,rfl⟩
    cases d with
    | false =>
     go_wp2_with fail
     go_meet;exact⟨_,_,_,rfl,rfl,rfl,ht,rfl⟩
    | true =>
     cases g9:((s).toList == [48]) with
     | true =>
      go_wp2_with fail
      go_meet;exact⟨_,_,_,rfl,rfl,rfl,ht,rfl⟩
     | false =>
      go_wp2_with fail
      go_meet;exact⟨_,_,_,rfl,rfl,rfl,ht,rfl⟩
   case rest =>
    obtain⟨b,c,t,rfl,rfl,rfl,ht,rfl⟩:=hcut
    cases c with
    | true =>
     go_wp2_with fail
     try simp only[Exit.inBlock,Exit.then]
     refine bodyPost_ret (results_tmp2 rfl _ _ _) rfl ?_;exact⟨_,_,rfl,Below.refl _ _⟩
    | false =>
     cases b with
     | true =>
      by_cases h16:(t.size:Int) > 16
      ·have f16:decide ((t.size:Int) > 16)=true:=dTT h16
       go_wp2_with fail
       try simp only[Exit.inBlock,Exit.then]
       refine bodyPost_ret (results_tmp2 rfl _ _ _) rfl ?_;exact⟨_,_,rfl,Below.refl _ _⟩
      have f16:decide ((t.size:Int) > 16)=false:=dF h16;clear h16
      go_wp2_with fail
      go_loopw [6,7] (fun nv iv wr=>∃ (n:Int) (k:Nat),k≤t.size∧nv=.int .i64 n∧iv=.int .i64 k∧w=wr) (fun _ iv _=>t.size - (intOf iv).toNat)
      case atStart=>exact⟨0,0,Nat.zero_le _,rfl,rfl,rfl⟩
      case round =>
       obtain⟨n,k,hk,rfl,rfl,rfl⟩:=hrel
       have hk0:(0:Int)≤(k:Int):=by omega
       by_cases hlt:k<t.size
       ·have hk1:(k:Int)<(t.size:Int):=by omega
        have hbn:=byteN_get hlt
        generalize byteN t k=c at *
        go_wp2_with fail
        go_roundw
        case rel=>exact⟨_,k+1,by omega,rfl,by go_num,trivial⟩
        case measure=>simp[intOf];omega
       ·go_wp2_with fail
        refine(nvalid_any _ _).mono ?_;rintro e w2 ⟨v,rfl,hb2⟩
        cases v with
        | false =>
           go_wp2_with fail
           try simp only[Exit.inBlock,Exit.then]
           refine bodyPost_ret (results_tmp2 rfl _ _ _) rfl ?_;exact⟨_,_,rfl,hb2⟩
        | true =>
           go_wp2_with fail
           try simp only[Exit.inBlock,Exit.then]
           refine bodyPost_ret (results_tmp2 rfl _ _ _) rfl ?_;exact⟨_,_,rfl,hb2⟩
     | false =>
      by_cases h16:(t.size:Int) > 16
      ·have f16:decide ((t.size:Int) > 16)=true:=dTT h16
       go_wp2_with fail
       try simp only[Exit.inBlock,Exit.then]
       refine bodyPost_ret (results_tmp2 rfl _ _ _) rfl ?_;exact⟨_,_,rfl,Below.refl _ _⟩
      have f16:decide ((t.size:Int) > 16)=false:=dF h16;clear h16
      go_wp2_with fail
      go_loopw [6,7] (fun nv iv wr=>∃ (n:Int) (k:Nat),k≤t.size∧nv=.int .i64 n∧iv=.int .i64 k∧w=wr) (fun _ iv _=>t.size - (intOf iv).toNat)
      case atStart=>exact⟨0,0,Nat.zero_le _,rfl,rfl,rfl⟩
      case round =>
       obtain⟨n,k,hk,rfl,rfl,rfl⟩:=hrel
       have hk0:(0:Int)≤(k:Int):=by omega
       by_cases hlt:k<t.size
       ·have hk1:(k:Int)<(t.size:Int):=by omega
        have hbn:=byteN_get hlt
        generalize byteN t k=c at *
        go_wp2_with fail
        go_roundw
        case rel=>exact⟨_,k+1,by omega,rfl,by go_num,trivial⟩
        case measure=>simp[intOf];omega
       ·go_wp2_with fail
        refine(nvalid_any _ _).mono ?_;rintro e w2 ⟨v,rfl,hb2⟩
        cases v with
        | false =>
           go_wp2_with fail
           try simp only[Exit.inBlock,Exit.then]
           refine bodyPost_ret (results_tmp2 rfl _ _ _) rfl ?_;exact⟨_,_,rfl,hb2⟩
        | true =>
           go_wp2_with fail
           try simp only[Exit.inBlock,Exit.then]
           refine bodyPost_ret (results_tmp2 rfl _ _ _) rfl ?_;exact⟨_,_,rfl,hb2⟩
def FmtPost (k:Nat) (w:World) (e:Ending) (w':World):Prop:=∃ s,e=.returned (.string s)∧s.size≤k∧Below w.heap.size w w'
theorem nfmt_dig (n:Int) (h0:0≤n) (h9:n≤9) (w:World):Calls Tryz.prog 137 #[.int .i64 n] w (FmtPost 1 w):=by
 have f1:decide (n ≥ 0)=true:=dTT h0;have f2:decide (n≤9)=true:=dTT h9
 have hcv:=run_convert_bytes_arg (P:=Tryz.prog) (w.alloc (.cells #[.int .u8 (48+n)] 5)) 160 5 Tryz.underlying160 Tryz.underlying5 w.heap.size 0 1 1 [48+n] rfl (fun i hi=>by
  obtain rfl:i=0:=by omega
  rw[cII (zhh w _)];rfl) 9 Tryz.underlying9
 have hsz:=strOfNums_size [48+n];generalize strOfNums [48+n]=s at hcv hsz;have HS:=hid hsz;have HB:=hid (show Below w.heap.size w (w.alloc (.cells #[.int .u8 (48+n)] 5)) from(Below.refl _ _).alloc (nR _) _);clear hsz
 go_enter Tryz.func137,Tryz.ntmps137
 go_wp2_with fail
 go_ret;exact⟨_,rfl,by rw[HS.out];exact nR _,HB.out⟩
theorem nfmt_neg (n:Int) (h0:-10<n) (h9:n<0) (w:World):Calls Tryz.prog 137 #[.int .i64 n] w (FmtPost 2 w):=by
 have f1:decide (n ≥ 0)=false:=dF (by omega);have f2:decide (n<0)=true:=dTT (by omega);have f3:decide (n > -10)=true:=dTT (by omega)
 go_enter Tryz.func137,Tryz.ntmps137
 go_wp2_with fail
 refine(nfmt_dig (-n) (by omega) (by omega) _).mono ?_;rintro e w1 ⟨s,rfl,hs,hb⟩;have HB:=hid hb;clear hb
 go_wp2_with fail
 go_ret;exact⟨_,rfl,by rw[ByteArray.size_append];show 1+_≤_;omega,HB.out⟩
theorem nfmt_step (n:Int) (hn:n < -9∨9<n) (k:Nat) (hk:k≤100) (hq:Hid (∀ w,Calls Tryz.prog 137 #[.int .i64 (wrap64 (n.tdiv 10))] w (FmtPost k w))) (w:World):Calls Tryz.prog 137 #[.int .i64 n] w (FmtPost (k+1) w):=by
 by_cases h:n<0
 ·have HW:=hid (show wrap64 (-n.tmod 10) = -n.tmod 10∧0≤-n.tmod 10∧-n.tmod 10≤9 by
   have e:-n.tmod 10=(-n) % 10:=by rw[←Int.neg_tmod,Int.tmod_eq_emod_of_nonneg (by omega)]
   rw[e]
   refine⟨by unfold wrap64;omega,by omega,by omega⟩)
  have f1:decide (n ≥ 0)=false:=dF (by omega);have f2:decide (n<0)=true:=dTT (by omega);have f3:decide (n > -10)=false:=dF (by omega)
  go_enter Tryz.func137,Tryz.ntmps137
  go_wp2_with fail
  refine(hq.out _).mono ?_;rintro e w1 ⟨s,rfl,hs,hb⟩;have HB:=hid hb;clear hb
  go_wp2_with fail
  refine(nfmt_dig _ (by rw[HW.out.1];exact HW.out.2.1) (by rw[HW.out.1];exact HW.out.2.2) _).mono ?_;rintro e w2 ⟨s2,rfl,hs2,hb2⟩;have HB2:=hT HB hb2;clear hb2
  go_wp2_with fail
  go_ret;exact⟨_,rfl,by rw[ByteArray.size_append];omega,HB2.out⟩
 ·have f1:decide (n ≥ 0)=true:=dTT (by omega)
  have f2:decide (n<0)=false:=dF (by omega);have f3:decide (n≤9)=false:=dF (by omega)
  go_enter Tryz.func137,Tryz.ntmps137
  go_wp2_with fail
  refine(hq.out _).mono ?_;rintro e w1 ⟨s,rfl,hs,hb⟩;have HB:=hid hb;clear hb
  go_wp2_with fail
  refine(nfmt_dig _ (by omega) (by omega) _).mono ?_;rintro e w2 ⟨s2,rfl,hs2,hb2⟩;have HB2:=hT HB hb2;clear hb2
  go_wp2_with fail
  go_ret;exact⟨_,rfl,by rw[ByteArray.size_append];omega,HB2.out⟩
theorem tdiv10 (n:Int):(0≤n→n.tdiv 10=n / 10)∧(n<0→n.tdiv 10 = -((-n) / 10)) :=
 ⟨fun h=>Int.tdiv_eq_ediv_of_nonneg h,fun h=>by rw[←Int.tdiv_eq_ediv_of_nonneg (show 0≤-n by omega),Int.neg_tdiv,Int.neg_neg]⟩
theorem nfmt_pow:∀ (k:Nat),k≤17→∀ n:Int,-(10 ^ (k+1):Nat)<n→n<(10 ^ (k+1):Nat)→∀ w,Calls Tryz.prog 137 #[.int .i64 n] w (FmtPost (k+2) w)
 | 0,_,n,h1,h2,w=>by
  by_cases h:n<0
  ·exact nfmt_neg n (by omega) h w
  ·refine(nfmt_dig n (by omega) (by omega) w).mono ?_
   rintro e w1 ⟨s,rfl,hs,hb⟩;exact⟨s,rfl,by omega,hb⟩
 | k+1,hk,n,h1,h2,w=>by
  by_cases h:n < -9∨9<n
  ·refine nfmt_step n h (k+2) (by omega) (hid fun w=>?_) w
   have hp:10 ^ (k+1+1)=10*10 ^ (k+1):=by rw[Nat.pow_succ,Nat.mul_comm]
   have hpl:10 ^ (k+1)≤10 ^ 18:=Nat.pow_le_pow_right (by omega) (by omega);have ht:=tdiv10 n
   generalize 10 ^ (k+1)=p at *
   rw[hp] at h1 h2
   have hw:wrap64 (n.tdiv 10)=n.tdiv 10:=by
    unfold wrap64
    by_cases h0:0≤n
    ·rw[ht.1 h0];omega
    ·rw[ht.2 (by omega)];omega
   rw[hw];refine nfmt_pow k (by omega) _ ?_ ?_ w
   ·by_cases h0:0≤n
    ·rw[ht.1 h0];omega
    ·rw[ht.2 (by omega)];omega
   ·by_cases h0:0≤n
    ·rw[ht.1 h0];omega
    ·rw[ht.2 (by omega)];omega
  ·by_cases h':n<0
   ·refine(nfmt_neg n (by omega) h' w).mono ?_
    rintro e w1 ⟨s,rfl,hs,hb⟩;exact⟨s,rfl,by omega,hb⟩
   ·refine(nfmt_dig n (by omega) (by omega) w).mono ?_
    rintro e w1 ⟨s,rfl,hs,hb⟩;exact⟨s,rfl,by omega,hb⟩
theorem nfmt_any (n:Int) (w:World):Calls Tryz.prog 137 #[.int .i64 n] w (FmtPost 30 w):=by
 have h18:∀ m:Int,-1000000000000000000<m→m<1000000000000000000→∀ w,Calls Tryz.prog 137 #[.int .i64 m] w (FmtPost 19 w):=fun m h1 h2 w=>nfmt_pow 17 (by omega) m h1 h2 w
 have up:∀ {k w e w'},k≤30→FmtPost k w e w'→FmtPost 30 w e w':=fun hk ⟨s,e,hs,hb⟩=>⟨s,e,by omega,hb⟩
 have h19:∀ m:Int,-9223372036854775808≤m→m<9223372036854775808→∀ w,Calls Tryz.prog 137 #[.int .i64 m] w (FmtPost 20 w):=fun m h1 h2 w=>by
  by_cases h:m < -9∨9<m
  ·refine nfmt_step m h 19 (by omega) (hid fun w=>?_) w
   have ht:=tdiv10 m
   have hw:wrap64 (m.tdiv 10)=m.tdiv 10:=by
    unfold wrap64
    by_cases h0:0≤m
    ·rw[ht.1 h0];omega
    ·rw[ht.2 (by omega)];omega
   rw[hw];refine h18 _ ?_ ?_ w
   ·by_cases h0:0≤m
    ·rw[ht.1 h0];omega
    ·rw[ht.2 (by omega)];omega
   ·by_cases h0:0≤m
    ·rw[ht.1 h0];omega
    ·rw[ht.2 (by omega)];omega
  ·refine(h18 m (by omega) (by omega) w).mono ?_
   rintro e w1 ⟨s,rfl,hs,hb⟩;exact⟨s,rfl,by omega,hb⟩
 by_cases h:n < -9∨9<n
 ·refine(nfmt_step n h 20 (by omega) (hid fun w=>?_) w).mono fun e w' hp=>up (by omega) hp
  refine h19 _ ?_ ?_ w
  ·unfold wrap64;omega
  ·unfold wrap64;omega
 ·exact(h18 n (by omega) (by omega) w).mono fun e w' hp=>up (by omega) hp
end Go.Proofs.YtibiiafcnaijeaaGreat
