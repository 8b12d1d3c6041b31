/- Texts that stand alike under several statements, run together. -/
import Derived.Test.YtibiiafcnaijeaaGreatB00
import Derived.Test.YtibiiafcnaijeaaGreatB42
namespace Go.Proofs.YtibiiafcnaijeaaGreat
open Go Go.RowKit
set_option linter.unusedVariables false
set_option linter.unusedSimpArgs false
set_option maxRecDepth 100000
set_option maxHeartbeats 40000000
def changeE (x:Inp) (e:Vl):Chg' :=
 let c:Chg':=⟨x.addr,⟨#[]⟩,x.tname,0,0,nullV,nullV,⟨#[]⟩,[],false,x.protect,false,x.deps,[]⟩
 let fresh:=proposeS x.sc nullV e
 if x.has=false then { c with action:=1,reason:=1,after:=fresh } else
  let after:=proposeS x.sc x.prior.attrs e
  let rep:=replacedS x.sc x.prior.attrs after
  let c:={ c with before:=x.prior.attrs,id:=x.prior.id,oldDeps:=x.prior.deps,after:=after,replace:=rep }
  if reasonD x rep≠0 then { c with action:=3,reason:=reasonD x rep,after:=fresh,createFirst:=x.createFirst } else
   if changedS x.sc x.prior.attrs after = [] then c else { c with action:=2,reason:=2 }
theorem changeD_E (i:Inp):changeD i=changeE i (effD i):=rfl
def effX (i:Inp) (x:ByteArray):Vl:=if i.has=true∧hasB (ignN i.sc i.ignore) x=true then getN i.prior.attrs x else getN i.cnfg x
theorem ValN.eff {i:Inp} (h:ValN i):effD i=mkN (namesS i.sc) (effX i):=by
 unfold effD effX
 cases hh:i.has with
 | false =>
  rw [if_neg (by simp)];simp only [Bool.false_eq_true,false_and,if_false];exact h.cf
 | true =>
  rw [if_pos rfl];have e:=ignoreV_mkN (p:=getN i.prior.attrs) h.asc (ignN i.sc i.ignore) (getN i.cnfg);rw [← (h.pr hh).1,← h.cf] at e;rw [e]
  exact mkN_ext fun x _=>by simp
theorem ignored_same {i:Inp} {o:Vl} (hi:ValN i) (ho:ValN { i with cnfg:=o }) (hh:i.has=true)
  (h:∀ x∈namesS i.sc,x∈ignN i.sc i.ignore∨getN i.cnfg x=getN o x):changeD { i with cnfg:=o } = changeD i:=by
 have e:effD { i with cnfg:=o } = effD i:=by
  rw [hi.eff,ho.eff]
  refine mkN_ext fun x hx=>?_
  show (if i.has=true∧hasB (ignN i.sc i.ignore) x=true then getN i.prior.attrs x else getN o x)=if i.has=true∧hasB (ignN i.sc i.ignore) x=true then getN i.prior.attrs x else getN i.cnfg x
  by_cases hm:hasB (ignN i.sc i.ignore) x=true
  ·rw [if_pos ⟨hh,hm⟩,if_pos ⟨hh,hm⟩]
  ·rw [if_neg fun h=>hm h.2,if_neg fun h=>hm h.2]
   exact ((h x hx).resolve_left fun e=>hm ((hasB_iff _ _).2 e)).symm
 rw [changeD_E,changeD_E,e];rfl
def decX (s:Sc) (cnfg:Vl) (x:ByteArray):Bool:=match fndA s.attrs x with
 | none=>true
 | some a=>decide (a.mode=1) || (decide (a.mode=2) || (decide (a.mode=4) && !decide (kdV (getN cnfg x)=0)))
theorem ValN.mode {i:Inp} (h:ValN i) {x:ByteArray} {a:At} (hx:fndA i.sc.attrs x=some a):1≤a.mode∧a.mode≤4:=h.md a (fndA_mem hx).1
theorem ValN.dec {i:Inp} (h:ValN i) (cnfg:Vl) (x:ByteArray):decX i.sc cnfg x = !detS i.sc cnfg x:=by
 unfold decX detS
 cases hf:fndA i.sc.attrs x with
 | none=>rfl
 | some a =>
  obtain ⟨h1,h2⟩:=h.mode hf;simp only
  by_cases e1:a.mode=1
  ·simp [e1]
  ·by_cases e2:a.mode=2
   ·simp [e2]
   ·by_cases e3:a.mode=3
    ·simp [e3]
    ·have e4:a.mode=4:=by omega
     simp [e4]
def difX (i:Inp) (x:ByteArray):Bool:=decX i.sc i.cnfg x && (!hasB i.ignore x && (!knownV (getN i.cnfg x) || !eqV (getN i.prior.attrs x) (getN i.cnfg x)))
def differsD (i:Inp):Bool:=(namesS i.sc).any (difX i)
theorem ignN_mem {s:Sc} {l:List ByteArray} {x:ByteArray}:x∈ignN s l ↔ x∈l∧(match fndA s.attrs x with
 | none=>true
 | some a=>decide (a.mode≠3))=true:=by
 unfold ignN;exact List.mem_filter
theorem knownV_mkN (ns:List ByteArray) (f:ByteArray→Vl):knownV (mkN ns f)=ns.all fun x=>knownV (f x):=by
 unfold mkN;rw [knownV_eq,List.all_map];simp [Function.comp_def]
theorem differV_self {a:Vl} (h:knownV a=true):differV a a=false:=by unfold differV;rw [eqV_refl,h];rfl
theorem differV_false {a b:Vl}:differV a b=false ↔ a=b∧knownV a=true:=by
 unfold differV
 constructor
 ·intro h
  simp only [Bool.or_eq_false_iff,Bool.not_eq_false'] at h;exact ⟨(eqV_iff a b).1 h.1,h.2.1⟩
 ·rintro ⟨rfl,h⟩
  rw [eqV_refl,h];rfl
theorem ValN.dif {i:Inp} (h:ValN i) (hh:i.has=true) {x:ByteArray} (hx:x∈namesS i.sc) :
  difX i x=(!detS i.sc (effD i) x && differV (getN (effD i) x) (getN i.prior.attrs x)):=by
 have ge:getN (effD i) x=effX i x:=by rw [h.eff];exact getN_mkN h.asc hx
 obtain ⟨hp,hkp⟩:=h.pr hh
 have kp:knownV (getN i.prior.attrs x)=true:=by
  rw [hp,knownV_mkN,List.all_eq_true] at hkp;exact hkp x hx
 unfold difX;rw [h.dec]
 by_cases hg:x∈i.ignore
 ·rw [(hasB_iff _ _).2 hg]
  simp only [Bool.not_true,Bool.false_and,Bool.and_false]
  by_cases hm:x∈ignN i.sc i.ignore
  ·have e:getN (effD i) x=getN i.prior.attrs x:=by rw [ge];unfold effX;rw [if_pos ⟨hh,(hasB_iff _ _).2 hm⟩]
   rw [e,differV_self kp,Bool.and_false]
  ·have hd:detS i.sc (effD i) x=true:=by
    unfold detS
    cases hf:fndA i.sc.attrs x with
    | none=>exact absurd (ignN_mem.2 ⟨hg,by rw [hf]⟩) hm
    | some a =>
     simp only
     by_cases e3:a.mode=3
     ·simp [e3]
     ·exact absurd (ignN_mem.2 ⟨hg,by rw [hf];simp [e3]⟩) hm
   rw [hd];rfl
 ·have hb:hasB i.ignore x=false:=by
   cases hb:hasB i.ignore x with
   | false=>rfl
   | true=>exact absurd ((hasB_iff _ _).1 hb) hg
  have hm:x ∉ ignN i.sc i.ignore:=fun e=>hg (ignN_mem.1 e).1
  have e:getN (effD i) x=getN i.cnfg x:=by rw [ge];unfold effX;rw [if_neg fun e=>hm ((hasB_iff _ _).1 e.2)]
  have hd:detS i.sc (effD i) x=detS i.sc i.cnfg x:=by unfold detS;rw [e]
  rw [hb,hd,e];simp only [Bool.not_false,Bool.true_and]
  congr 1
  have e4:eqV (getN i.cnfg x) (getN i.prior.attrs x)=eqV (getN i.prior.attrs x) (getN i.cnfg x):=by
   by_cases e5:getN i.cnfg x=getN i.prior.attrs x
   ·rw [e5]
   ·rw [Bool.eq_false_iff.2 fun e=>e5 ((eqV_iff _ _).1 e),Bool.eq_false_iff.2 fun e=>e5 ((eqV_iff _ _).1 e).symm]
  unfold differV;rw [kp,e4]
  cases knownV (getN i.cnfg x) <;> cases eqV (getN i.prior.attrs x) (getN i.cnfg x) <;> rfl
theorem getN_propose {s:Sc} {p c:Vl} (ha:Asc (namesS s)) {x:ByteArray} (hx:x∈namesS s):getN (proposeS s p c) x=if volS s p c x=true∧chgS s p c=true then unkV else itemS s p c x :=
 getN_mkN ha hx
theorem ValN.min {i:Inp} (h:ValN i) (hh:i.has=true) (ht:i.prior.tainted=false) (hq:i.requested=false) (hg:i.triggered=false) :
  ((changeD i).action=0 ↔ differsD i=false)∧((changeD i).action=0→(changeD i).after=i.prior.attrs∧(changeD i).reason=0):=by
 obtain ⟨hp,hkp⟩:=h.pr hh
 have kp:∀ x∈namesS i.sc,knownV (getN i.prior.attrs x)=true:=fun x hx=>by
  rw [hp,knownV_mkN,List.all_eq_true] at hkp;exact hkp x hx
 have kd5:kdV i.prior.attrs≠0:=by rw [hp];show (5:Int)≠0;decide
 have hdif:differsD i=chgS i.sc i.prior.attrs (effD i):=by
  unfold differsD chgS;rw [Bool.eq_iff_iff,List.any_eq_true,List.any_eq_true];exact ⟨fun ⟨x,hx,e⟩=>⟨x,hx,by rw [← h.dif hh hx];exact e⟩,fun ⟨x,hx,e⟩=>⟨x,hx,by rw [h.dif hh hx];exact e⟩⟩
 have hch:changedS i.sc i.prior.attrs (proposeS i.sc i.prior.attrs (effD i)) = [] ↔ chgS i.sc i.prior.attrs (effD i)=false:=by
  unfold changedS;rw [List.filter_eq_nil_iff]
  constructor
  ·intro hn
   unfold chgS;rw [List.any_eq_false];intro x hx hc;rw [Bool.and_eq_true,Bool.not_eq_true'] at hc;refine hn x hx ?_
   have hv:volS i.sc i.prior.attrs (effD i) x=false:=by unfold volS;rw [hc.1];rfl
   rw [getN_propose h.asc hx,if_neg (by rw [hv];simp)];unfold itemS;rw [hc.1,if_neg (by simp)]
   cases hd:differV (getN i.prior.attrs x) (getN (effD i) x) with
   | true=>rfl
   | false =>
    obtain ⟨e1,e2⟩:=differV_false.1 hd;rw [← e1,differV_self e2] at hc;exact absurd hc.2 (by decide)
  ·intro hc x hx
   rw [getN_propose h.asc hx,if_neg (by rw [hc];simp)];unfold itemS
   by_cases hd:detS i.sc (effD i) x=true
   ·rw [if_pos hd,if_neg kd5,differV_self (kp x hx)];simp
   ·rw [if_neg hd]
    unfold chgS at hc;rw [List.any_eq_false] at hc;have h3:=hc x hx
    have hd':detS i.sc (effD i) x=false:=by simpa using hd
    rw [hd'] at h3
    have h4:differV (getN (effD i) x) (getN i.prior.attrs x)=false:=by simpa using h3
    obtain ⟨e1,e2⟩:=differV_false.1 h4;rw [e1,differV_self (kp x hx)];simp
 have haft:chgS i.sc i.prior.attrs (effD i)=false→proposeS i.sc i.prior.attrs (effD i)=i.prior.attrs:=fun hc=>by
  have hn:=hch.2 hc
  have e:proposeS i.sc i.prior.attrs (effD i)=mkN (namesS i.sc) (getN i.prior.attrs):=by
   refine mkN_ext fun x hx=>?_
   unfold changedS at hn;rw [List.filter_eq_nil_iff] at hn
   have h4:differV (getN i.prior.attrs x) (getN (proposeS i.sc i.prior.attrs (effD i)) x)=false:=by simpa using hn x hx
   obtain ⟨e1,-⟩:=differV_false.1 h4;rw [getN_propose h.asc hx] at e1;exact e1.symm
  rw [e];exact hp.symm
 have hr0:∀ l,reasonD i l=if l = [] then 0 else 3:=fun l=>by unfold reasonD;rw [ht,hq,hg];simp
 rw [changeD_E];unfold changeE;simp only [hh,Bool.true_eq_false,if_false]
 by_cases hc:chgS i.sc i.prior.attrs (effD i)=false
 ·have hn:=hch.2 hc
  have hrp:replacedS i.sc i.prior.attrs (proposeS i.sc i.prior.attrs (effD i)) = []:=by unfold replacedS;rw [hn];rfl
  rw [hr0,hrp,hn];simp only [if_true,ne_eq,not_true_eq_false,if_false];exact ⟨by rw [hdif];simp [hc],fun _=>⟨haft hc,trivial⟩⟩
 ·have hn:changedS i.sc i.prior.attrs (proposeS i.sc i.prior.attrs (effD i))≠[]:=fun e=>hc (hch.1 e)
  rw [hr0]
  by_cases hrp:replacedS i.sc i.prior.attrs (proposeS i.sc i.prior.attrs (effD i)) = []
  ·rw [if_pos hrp,if_neg (by simp),if_neg hn]
   rw [hdif];simp [hc]
  ·rw [if_neg hrp,if_pos (by decide)]
   rw [hdif];simp [hc]
mutual
def refV:Vl→Vl→Bool
 | .mk k n s is ks,.mk k' n' s' is' ks'=>if k'=6 then true else decide (k=k') && (decide (n=n') && (decide (s=s') && (decide (ks=ks') && refL is is')))
def refL:List Vl→List Vl→Bool
 | [],[]=>true
 | e :: es,e' :: es'=>refV e e' && refL es es'
 | [],_ :: _=>false
 | _ :: _,[]=>false
end
end Go.Proofs.YtibiiafcnaijeaaGreat
