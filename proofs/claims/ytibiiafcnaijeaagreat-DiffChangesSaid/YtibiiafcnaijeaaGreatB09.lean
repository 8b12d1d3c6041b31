/- A part. -/
import Derived.Test.YtibiiafcnaijeaaGreatB00
import Derived.Test.YtibiiafcnaijeaaGreatB04
namespace Go.Proofs.YtibiiafcnaijeaaGreat
open Go Go.RowKit
set_option linter.unusedVariables false
set_option linter.unusedSimpArgs false
set_option maxRecDepth 100000
set_option maxHeartbeats 40000000
theorem shaped_any (w:World) (k:Int) (oe on:Option Addr) (ne ce nn cn:Nat) (hne:ne≤140737488355328) (hnn:nn≤140737488355328) :
  Calls Tryz.prog 93 #[.agg #[.int .i64 k,.slice oe ne ce,.slice on nn cn]] w (Ret (.bool (partsB k ne nn)) w):=by
 have HB:=hid (box3 w (.int .i64 k) (.slice oe ne ce) (.slice on nn cn) 61).1
 by_cases k4:k=4
 ·subst k4
  by_cases h1:ne=1
  ·subst h1
   by_cases h2:nn=0
   ·subst h2
    have hp:partsB 4 1 0=true:=rfl;have HP:=hid hp;clear hp
    go_enter Tryz.func93,Tryz.ntmps93
    go_wp2_with fail
    go_ret;exact⟨by rw[HP.out];rfl,HB.out⟩
   ·have hp:partsB 4 1 nn=false:=by unfold partsB;simp[h2]
    have d2:decide ((nn:Int)=0)=false:=dF (by omega);have e2:((nn:Int) == 0)=false:=bF (by omega);have HP:=hid hp;clear hp
    go_enter Tryz.func93,Tryz.ntmps93
    go_wp2_with fail
    go_ret;exact⟨by rw[HP.out];rfl,HB.out⟩
  ·have hp:partsB 4 ne nn=false:=by unfold partsB;simp[h1]
   have d1:decide ((ne:Int)=1)=false:=dF (by omega);have e1:((ne:Int) == 1)=false:=bF (by omega);have HP:=hid hp;clear hp
   go_enter Tryz.func93,Tryz.ntmps93
   go_wp2_with fail
   go_ret;exact⟨by rw[HP.out];rfl,HB.out⟩
 by_cases k5:k=5
 ·subst k5
  by_cases h1:ne=1
  ·subst h1
   by_cases h2:nn=0
   ·subst h2
    have hp:partsB 5 1 0=true:=rfl;have HP:=hid hp;clear hp
    go_enter Tryz.func93,Tryz.ntmps93
    go_wp2_with fail
    go_ret;exact⟨by rw[HP.out];rfl,HB.out⟩
   ·have hp:partsB 5 1 nn=false:=by unfold partsB;simp[h2]
    have d2:decide ((nn:Int)=0)=false:=dF (by omega);have e2:((nn:Int) == 0)=false:=bF (by omega);have HP:=hid hp;clear hp
    go_enter Tryz.func93,Tryz.ntmps93
    go_wp2_with fail
    go_ret;exact⟨by rw[HP.out];rfl,HB.out⟩
  ·have hp:partsB 5 ne nn=false:=by unfold partsB;simp[h1]
   have d1:decide ((ne:Int)=1)=false:=dF (by omega);have e1:((ne:Int) == 1)=false:=bF (by omega);have HP:=hid hp;clear hp
   go_enter Tryz.func93,Tryz.ntmps93
   go_wp2_with fail
   go_ret;exact⟨by rw[HP.out];rfl,HB.out⟩
 by_cases k6:k=6
 ·subst k6
  by_cases h1:ne=nn
  ·subst h1
   have hp:partsB 6 ne ne=true:=by unfold partsB;simp
   have HP:=hid hp;clear hp
   go_enter Tryz.func93,Tryz.ntmps93
   go_wp2_with fail
   go_ret;exact⟨by rw[HP.out];rfl,HB.out⟩
  ·have hp:partsB 6 ne nn=false:=by unfold partsB;simp[h1]
   have d1:decide ((ne:Int)=(nn:Int))=false:=dF (by omega);have e1:((ne:Int) == (nn:Int))=false:=bF (by omega);have HP:=hid hp;clear hp
   go_enter Tryz.func93,Tryz.ntmps93
   go_wp2_with fail
   go_ret;exact⟨by rw[HP.out];rfl,HB.out⟩
 have da:decide ((k:Int)=4)=false:=dF (by omega);have ea:((k:Int) == 4)=false:=bF (by omega);have db:decide ((k:Int)=5)=false:=dF (by omega);have eb:((k:Int) == 5)=false:=bF (by omega);have dc:decide ((k:Int)=6)=false:=dF (by omega);have ec:((k:Int) == 6)=false:=bF (by omega)
 by_cases k0:k<0
 ·have hp:partsB k ne nn=false:=by unfold partsB;simp[k4,k5,k6];omega
  have f0:decide (k ≥ 0)=false:=dF (by omega);have f1:decide (k<0)=true:=dTT k0;clear k4 k5 k6;have HP:=hid hp;clear hp
  go_enter Tryz.func93,Tryz.ntmps93
  go_wp2_with fail
  go_ret;exact⟨by rw[HP.out];rfl,HB.out⟩
 have f0:decide (k ≥ 0)=true:=dTT (by omega);have f1:decide (k<0)=false:=dF k0
 by_cases k3:3<k
 ·have hp:partsB k ne nn=false:=by unfold partsB;simp[k4,k5,k6];omega
  have f2:decide (k≤3)=false:=dF (by omega);have f3:decide (k > 6)=true:=dTT (by omega);clear k4 k5 k6;have HP:=hid hp;clear hp
  go_enter Tryz.func93,Tryz.ntmps93
  go_wp2_with fail
  go_ret;exact⟨by rw[HP.out];rfl,HB.out⟩
 have f2:decide (k≤3)=true:=dTT (by omega);have f3:decide (k > 6)=false:=dF (by omega)
 by_cases h1:ne=0
 ·subst h1
  by_cases h2:nn=0
  ·subst h2
   have hp:partsB k 0 0=true:=by unfold partsB;simp[k4,k5,k6];omega
   clear k4 k5 k6;have HP:=hid hp;clear hp
   go_enter Tryz.func93,Tryz.ntmps93
   go_wp2_with fail
   go_ret;exact⟨by rw[HP.out];rfl,HB.out⟩
  ·have hp:partsB k 0 nn=false:=by unfold partsB;simp[k4,k5,k6];omega
   have d2:decide ((nn:Int)=0)=false:=dF (by omega);have e2:((nn:Int) == 0)=false:=bF (by omega);clear k4 k5 k6;have HP:=hid hp;clear hp
   go_enter Tryz.func93,Tryz.ntmps93
   go_wp2_with fail
   go_ret;exact⟨by rw[HP.out];rfl,HB.out⟩
 ·have hp:partsB k ne nn=false:=by unfold partsB;simp[k4,k5,k6];omega
  have d1:decide ((ne:Int)=0)=false:=dF (by omega);have e1:((ne:Int) == 0)=false:=bF (by omega);have g1:decide ((ne:Int)+(nn:Int)=0)=false:=dF (by omega);have g2:((ne:Int)+(nn:Int) == 0)=false:=bF (by omega);clear k4 k5 k6;have HP:=hid hp;clear hp
  go_enter Tryz.func93,Tryz.ntmps93
  go_wp2_with fail
  go_ret;exact⟨by rw[HP.out];rfl,HB.out⟩
end Go.Proofs.YtibiiafcnaijeaaGreat
