/- A part. -/
import Derived.Test.YtibiiafcnaijeaaGreatB00
import Derived.Test.YtibiiafcnaijeaaGreatB49
namespace Go.Proofs.YtibiiafcnaijeaaGreat
open Go Go.RowKit
set_option linter.unusedVariables false
set_option linter.unusedSimpArgs false
set_option maxRecDepth 100000
set_option maxHeartbeats 40000000
structure MapOk (v:Vl):Prop where
 ex:∃ is ks,v=.mk 5 0 ⟨#[]⟩ is ks∧Asc ks∧ks.length=is.length
theorem putV_ok {v:Vl}{x:ByteArray}{y:Vl}(h:MapOk v) (hx:(getV v x).isSome=true):putV v x y=putR v x y∧MapOk (putV v x y):=by
 obtain⟨is,ks,rfl,ha,hl⟩:=h.ex;refine⟨putV_R x y ha hl,?_⟩;rw[getV_eq] at hx;rw[putV_eq]
 split at hx
 ·rename_i h1
  split
  ·exact⟨is,ks,rfl,ha,hl⟩
  ·rw[if_pos h1.2]
   exact⟨is.set (posN ks x) y,ks,rfl,ha,by simp[hl]⟩
 ·cases hx
theorem ignore_same (prior:Vl) (hp:MapOk prior):∀ (l:List ByteArray) (c:Vl),MapOk c→ignoreV prior c l=ignoreR prior c l
 | [],c,_=>rfl
 | x :: l,c,hc=>by
  obtain⟨is,ks,e,ha,hl⟩:=hc.ex;obtain⟨isp,ksp,ep,hap,hlp⟩:=hp.ex
  have g1:getV prior x=getR prior x:=by rw[ep];exact getV_R x hap
  have g2:getV c x=getR c x:=by rw[e];exact getV_R x ha
  have hs:ignStep prior c x=ignR prior c x∧MapOk (ignStep prior c x):=by
   unfold ignStep ignR;rw[←g1,←g2]
   cases h1:getV prior x with
   | none=>exact⟨rfl,hc⟩
   | some v =>
    simp only
    by_cases h2:(getV c x).isSome=true
    ·rw[if_pos h2,if_pos h2];exact putV_ok hc h2
    ·rw[if_neg h2,if_neg h2];exact⟨rfl,hc⟩
  show ignoreV prior (ignStep prior c x) l=ignoreR prior (ignR prior c x) l;rw[ignore_same prior hp l _ hs.2,hs.1]
theorem mapOk_mkN {ns:List ByteArray}{v:Vl}{f:ByteArray→Vl}(ha:Asc ns) (h:v=mkN ns f):MapOk v:=⟨_,ns,h,ha,by simp⟩
theorem ofR_null (x:ByteArray):ofR nullV x=getN nullV x:=by
 show(getR nullV x).getD nullV=(getV nullV x).getD nullV;rw[getR,getV_eq,if_neg (by decide),if_neg (by rintro ⟨h,-⟩;exact absurd h (by decide))]
theorem cfgR_eq {i:Inp}(h:ValN i) {c:Vl}{x:ByteArray}(hc:ofR c x=getN c x):cfgR i.sc c x = !detS i.sc c x:=by
 rw[←h.dec];unfold cfgR decX;rw[hc]
 rfl
theorem proposeR_eq {i:Inp}(h:ValN i) {p c:Vl}(hp:∀ x,ofR p x=getN p x) (hc:∀ x,ofR c x=getN c x):proposeR i.sc p c=proposeS i.sc p c:=by
 have hr:namesR i.sc=namesS i.sc:=h.mr
 have hd:difR i.sc p c=chgS i.sc p c:=by
  unfold difR chgS;rw[hr]
  congr 1
  funext x
  rw[cfgR_eq h (hc x),hc x,hp x]
 have hi:∀ x,itemR i.sc p c x=if volS i.sc p c x=true∧chgS i.sc p c=true then unkV else itemS i.sc p c x:=fun x=>by
  unfold itemR itemS volS;rw[cfgR_eq h (hc x),hd,hc x,hp x]
  cases hdt:detS i.sc c x with
  | false=>simp
  | true =>
   by_cases hk:kdV p=0
   ·simp[hk]
   ·cases hf:fndA i.sc.attrs x with
    | none=>simp[hk,volA]
    | some a =>
     cases hv:a.vol with
     | false=>simp[hk,volA,hv]
     | true =>
      cases hg:chgS i.sc p c with
      | false=>simp[hk,volA,hv]
      | true=>simp[hk,volA,hv]
 unfold proposeR proposeS;rw[hr]
 congr 1
 exact List.map_congr_left fun x _=>hi x
theorem changedR_eq {i:Inp}(h:ValN i) {b a:Vl}(hb:∀ x,ofR b x=getN b x) (ha:∀ x,ofR a x=getN a x):changedR i.sc b a=changedS i.sc b a:=by
 have hr:namesR i.sc=namesS i.sc:=h.mr;unfold changedR changedS;rw[hr]
 congr 1
 funext x
 rw[hb x,ha x]
theorem ValN.change {i:Inp}(h:ValN i):changeR i=changeD i:=by
 have hcf:∀ x,ofR i.cnfg x=getN i.cnfg x:=fun x=>getR_mkN h.asc h.cf x
 have hef:∀ x,ofR (effD i) x=getN (effD i) x:=fun x=>getR_mkN h.asc (by
  rw[h.eff]
  exact mkN_ext fun y hy=>(getN_mkN h.asc hy).symm) x
 have hnul:∀ x,ofR nullV x=getN nullV x:=ofR_null;unfold changeR changeD
 cases hh:i.has with
 | false =>
  have he:effD i=i.cnfg:=by unfold effD;rw[hh];rfl
  simp only[if_true];rw[he,proposeR_eq h hnul hcf]
 | true =>
  have hpr:∀ x,ofR i.prior.attrs x=getN i.prior.attrs x:=fun x=>getR_mkN h.asc (h.pr hh).1 x
  have he:ignoreR i.prior.attrs i.cnfg (ignN i.sc i.ignore)=effD i:=by
   unfold effD;rw[hh,if_pos rfl];exact(ignore_same _ (mapOk_mkN h.asc (h.pr hh).1) _ _ (mapOk_mkN h.asc h.cf)).symm
  have haf:∀ x,ofR (proposeS i.sc i.prior.attrs (effD i)) x=getN (proposeS i.sc i.prior.attrs (effD i)) x:=fun x=>getR_mkN h.asc (show proposeS i.sc i.prior.attrs (effD i)=mkN (namesS i.sc) (getN (proposeS i.sc i.prior.attrs (effD i))) from mkN_ext fun y hy=>(getN_propose h.asc hy).symm) x
  simp only[Bool.true_eq_false,if_false]
  have hrep:replacedR i.sc i.prior.attrs (proposeS i.sc i.prior.attrs (effD i))=replacedS i.sc i.prior.attrs (proposeS i.sc i.prior.attrs (effD i)):=by
   unfold replacedR replacedS;rw[changedR_eq h hpr haf]
  rw[he,proposeR_eq h hpr hef,proposeR_eq h hnul hef,hrep,changedR_eq h hpr haf]
end Go.Proofs.YtibiiafcnaijeaaGreat
