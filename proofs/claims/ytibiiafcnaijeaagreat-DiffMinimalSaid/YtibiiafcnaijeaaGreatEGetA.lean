/- A part. -/
import Derived.Test.YtibiiafcnaijeaaGreatB00
import Derived.Test.YtibiiafcnaijeaaGreatE00
import Derived.Test.YtibiiafcnaijeaaGreatB45
namespace Go.Proofs.YtibiiafcnaijeaaGreat
set_option maxRecDepth 100000
set_option maxHeartbeats 40000000
open Go Go.RowKit Go.Proofs.YtibiiafcnaijeaaGreat.Steady
set_option linter.unusedVariables false
set_option linter.unusedSimpArgs false
structure GA (P:Nat→Prop) (w0 wx:World) (Y:Nat) (k n s i ks:Value) (t:Vl):Prop where
 bel:Below w0.heap.size w0 wx
 lo:w0.heap.size≤Y
 obj:wx.heap[Y]? = some (.cells #[k,n,s,i,ks] 32)
 vv:VV P wx (.agg #[k,n,s,i,ks]) t
theorem GA.one {P:Nat→Prop} {w0 w5 w6 w7:World} {k n s i ks:Value} {t:Vl} (hP:∀ g,P g→g < w0.heap.size) (hb:Below w0.heap.size w0 w5) (hv:VV P w5 (.agg #[k,n,s,i,ks]) t) (hba:Below w5.heap.size w5 w6) (hc:Chg (fun k=>k=w5.heap.size) w6 w7)
  (hz:w7.heap[w5.heap.size]? = some (.cells #[k,n,s,i,ks] 32)):GA P w0 w7 w5.heap.size k n s i ks t:=by
 have hs:=hb.size;have h6:=hba.size;refine ⟨(hb.trans (hba.mono hb.size)).trans (zgg hc (fun k hk=>by omega) (by omega)),hs,hz,(hv.bel hba).keep (ZK.chg hc fun g hg e=>?_) fun _ h=>h⟩;have:=hP g hg;omega
theorem GA.two {P:Nat→Prop} {w0 w1 w5 w7:World} {k n s i ks:Value} {t:Vl} (hP:∀ g,P g→g < w0.heap.size) (h1:Below w0.heap.size w0 w1) (hb:Below w1.heap.size w1 w5) (hv:VV P w5 (.agg #[k,n,s,i,ks]) t) (hc:Chg (fun k=>k=w0.heap.size) w5 w7)
  (hz:w7.heap[w0.heap.size]? = some (.cells #[k,n,s,i,ks] 32)):GA P w0 w7 w0.heap.size k n s i ks t:=by
 have hs:=h1.size;have h6:=hb.size;refine ⟨(h1.trans (hb.mono h1.size)).trans (zgg hc (fun k hk=>by omega) (by omega)),nR _,hz,hv.keep (ZK.chg hc fun g hg e=>?_) fun _ h=>h⟩;have:=hP g hg;omega
end Go.Proofs.YtibiiafcnaijeaaGreat
