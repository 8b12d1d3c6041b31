/- Texts that stand alike under several statements, run together. -/
import Derived.Test.YtibiiafcnaijeaaGreatB00
import Derived.Test.YtibiiafcnaijeaaGreatB43
import Derived.Test.YtibiiafcnaijeaaGreatB26
import Derived.Test.YtibiiafcnaijeaaGreatB44
import Derived.Test.YtibiiafcnaijeaaGreatB01
import Derived.Test.YtibiiafcnaijeaaGreatB28
import Derived.Test.YtibiiafcnaijeaaGreatB29
namespace Go.Proofs.YtibiiafcnaijeaaGreat
open Go Go.RowKit Go.Proofs.YtibiiafcnaijeaaGreat.Steady
set_option linter.unusedVariables false
set_option linter.unusedSimpArgs false
set_option maxRecDepth 100000
set_option maxHeartbeats 40000000
theorem wpList_load_row_g {Pr:Program} {ops:Array Oper} {rest:List Oper} {o:Oper} {a:Act} {w:World} {Q:Exit→Act→World→Prop} (hw:Region.wanted o (yielded ops a.tmps)=true) (ty:TypeId) (x:Operand) (ho:o.op=.load ty x)
  (g:Nat) (hx:a.eval x=.pointer (some ⟨g,0,none⟩)) (t:TypeId) (cs:Array Value) (fr:Nat × Nat) (d:TypeDesc) (hg:w.heap[g]? = some (.cells cs t fr))
  (hu:Pr.underlying ty=some d) (hd:(match d with | .struct _ | .array _ _=>true | _=>false)=true) (hi:(Pr.info? ty).map (·.size)=some cs.size)
  (h:wpList Pr ops Q rest (a.put o.dst (.agg cs)) w):wpList Pr ops Q (o :: rest) a w :=
 wpList_step fun K hK=>by rw [if_pos hw];exact wp_load_row ty x ho g hx t cs fr d hg hu hd hi (hK _ _ h)
structure JC (c:Chg') (w0 W:World) (o1 o2:Option Value):Prop where
 bel:Below w0.heap.size w0 W
 v1:∀ u,o1=some u→CHV (fun _=>True) W u c
 v2:∀ u,o2=some u→CHV (fun _=>True) W u c
section
variable {c:Chg'} {w0 W W':World} {o1 o2:Option Value} {u:Value}
theorem JC.start (c:Chg') (w0:World):JC c w0 w0.drew none none:=⟨zdd (Below.refl _ _),nF,nF⟩
theorem JC.later (h:JC c w0 W o1 o2) (hb:Below W.heap.size W W'):JC c w0 W' o1 o2 :=
 ⟨h.bel.trans (hb.mono h.bel.size),fun u e=>(h.v1 u e).bel hb,fun u e=>(h.v2 u e).bel hb⟩
theorem JC.one (h:JC c w0 W none o2) (hb:Below W.heap.size W W') {n:Nat} (hu:CHV (fun g=>n≤g) W' u c):JC c w0 W' (some u) o2 :=
 ⟨h.bel.trans (hb.mono h.bel.size),fun v e=>by cases e;exact hu.keep (ZK.refl _ _) fun _ _=>trivial,fun u e=>(h.v2 u e).bel hb⟩
theorem JC.two (h:JC c w0 W o1 none) (hb:Below W.heap.size W W') {n:Nat} (hu:CHV (fun g=>n≤g) W' u c):JC c w0 W' o1 (some u) :=
 ⟨h.bel.trans (hb.mono h.bel.size),fun u e=>(h.v1 u e).bel hb,fun v e=>by cases e;exact hu.keep (ZK.refl _ _) fun _ _=>trivial⟩
end
theorem vv_mkN {P:Nat→Prop} {w:World} {k n:Int} {s:ByteArray} {oi ok:Option Addr} {mi ci mk ck:Nat} {ns:List ByteArray} {f:ByteArray→Vl} (h:VV P w (.agg #[.int .i64 k,.int .i64 n,.string s,.slice oi mi ci,.slice ok mk ck]) (mkN ns f)) :
  k=5∧mi=ns.length∧mk=ns.length∧WV P w (.slice oi mi ci) (ns.map f)∧SV P w (.slice ok mk ck) ns:=by
 obtain ⟨vi,vk,e,h1,h2,-⟩:=VV.out h;obtain ⟨oi',ci',rfl⟩:=h1.len;obtain ⟨ok',ck',rfl⟩:=h2.len;simp only [Value.agg.injEq,Array.mk.injEq,List.cons.injEq,and_true,Value.int.injEq,Value.string.injEq,Value.slice.injEq,true_and,List.length_map] at e;obtain ⟨rfl,rfl,rfl,⟨rfl,rfl,rfl⟩,rfl,rfl,rfl⟩:=e;rw [List.length_map] at h1;exact ⟨rfl,rfl,rfl,h1,h2⟩
theorem getR_mkN {ns:List ByteArray} {v:Vl} (ha:Asc ns) (h:v=mkN ns (getN v)) (x:ByteArray):(getR v x).getD nullV=getN v x:=by
 have e:getR v x=getV v x:=by rw [h];exact (getV_R x ha).symm
 rw [e];rfl
theorem RAtPost.mode {P:Nat→Prop} {w0:World} {o:Option At} {w w':World} {e:Ending} (h:RAtPost P w0 o w e w') :
  ∃ z0 z1 z2 z3 z4 z5 z6 z7 md z9 za zb,e=.returned (.tuple #[.agg #[.string z0,.int .i64 z1,.slice z2 z3 z4,.slice z5 z6 z7,.int .i64 md,.bool z9,.bool za,.bool zb],.bool o.isSome])∧Below w.heap.size w w'∧∀ a,o=some a→a.mode=md:=by
 obtain ⟨u,rfl,hb,hy,hn⟩:=h
 cases o with
 | none=>exact ⟨_,_,_,_,_,_,_,_,_,_,_,_,by rw [hn rfl],hb,nF⟩
 | some a =>
  obtain ⟨k,oe,me,ce,on2,mn2,cn2,e,-,-⟩:=hy a rfl;exact ⟨_,_,_,_,_,_,_,_,_,_,_,_,by rw [e],hb,fun b hb=>by cases hb;rfl⟩
end Go.Proofs.YtibiiafcnaijeaaGreat
