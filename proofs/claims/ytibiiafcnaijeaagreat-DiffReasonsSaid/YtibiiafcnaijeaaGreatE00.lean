/- What the texts run together left out. -/
import Derived.Test.YtibiiafcnaijeaaGreatB00
import Derived.Test.YtibiiafcnaijeaaGreatB43
namespace Go.Proofs.YtibiiafcnaijeaaGreat
open Go Go.RowKit
set_option linter.unusedVariables false
set_option linter.unusedSimpArgs false
theorem refL_len:∀ {l m:List Vl},refL l m=true→l.length=m.length
 | [],[],_=>rfl
 | [],_ :: _,h=>by simp [refL] at h
 | _ :: _,[],h=>by simp [refL] at h
 | e :: l,x :: m,h=>by
  rw [refL,Bool.and_eq_true] at h;simp [refL_len h.2]
end Go.Proofs.YtibiiafcnaijeaaGreat
namespace Go.Proofs.YtibiiafcnaijeaaGreat
open Go Go.RowKit
set_option linter.unusedVariables false
set_option linter.unusedSimpArgs false
theorem refL_at:∀ {l m:List Vl} (j:Nat) (h1:j < l.length) (h2:j < m.length),refL l m=true→refV l[j] m[j]=true
 | [],_,_,h1,_,_=>absurd h1 (by simp)
 | _ :: _,[],_,_,h2,_=>absurd h2 (by simp)
 | e :: l,x :: m,0,_,_,h=>by
  rw [refL,Bool.and_eq_true] at h;exact h.1
 | e :: l,x :: m,j + 1,h1,h2,h=>by
  rw [refL,Bool.and_eq_true] at h;exact refL_at j (by simpa using h1) (by simpa using h2) h.2
end Go.Proofs.YtibiiafcnaijeaaGreat
namespace Go.Proofs.YtibiiafcnaijeaaGreat
open Go Go.RowKit
set_option linter.unusedVariables false
set_option linter.unusedSimpArgs false
theorem ref_known (a:Vl):∀ b,refV a b=true→knownV b=true→a=b:=by
 induction a using Vl.ind with
 | h k n s is ks ih =>
  intro b h hk;obtain ⟨k',n',s',is',ks'⟩:=b;rw [knownV_eq,Bool.and_eq_true,decide_eq_true_eq] at hk;rw [refV,if_neg hk.1] at h;simp only [Bool.and_eq_true,decide_eq_true_eq] at h;obtain ⟨rfl,rfl,rfl,rfl,h5⟩:=h;have hl:=refL_len h5
  have e:is=is':=List.ext_getElem hl fun j h1 h2=>ih _ (lM h1) _ (refL_at j h1 h2 h5) (List.all_eq_true.1 hk.2 _ (lM h2))
  rw [e]
end Go.Proofs.YtibiiafcnaijeaaGreat
namespace Go.Proofs.YtibiiafcnaijeaaGreat
open Go Go.RowKit
set_option linter.unusedVariables false
set_option linter.unusedSimpArgs false
theorem after_form (i:Inp):∃ p,(changeD i).after=proposeS i.sc p (effD i):=by
 rw [changeD_E];unfold changeE;simp only
 split
 ·exact ⟨_,rfl⟩
 ·split
  ·exact ⟨_,rfl⟩
  ·split
   ·exact ⟨_,rfl⟩
   ·exact ⟨_,rfl⟩
end Go.Proofs.YtibiiafcnaijeaaGreat
namespace Go.Proofs.YtibiiafcnaijeaaGreat
open Go Go.RowKit
set_option linter.unusedVariables false
set_option linter.unusedSimpArgs false
def nextI (i:Inp) (f:Vl):Inp:={ i with has:=true,prior:=⟨i.addr,⟨#[]⟩,⟨#[110,101,119]⟩,i.tname,f,1,false,false,[]⟩,requested:=false,triggered:=false }
end Go.Proofs.YtibiiafcnaijeaaGreat
namespace Go.Proofs.YtibiiafcnaijeaaGreat
open Go Go.RowKit
set_option linter.unusedVariables false
set_option linter.unusedSimpArgs false
theorem ValN.next {i:Inp} {f:Vl} (h:ValN i) (hs:ScN i.sc) (hc:knownV i.cnfg=true) (hv:VOk f) (hk:knownV f=true) (hf:fitsT f (typR i.sc)=true) (hr:refV f (changeD i).after=true) :
  (changeD (nextI i f)).action=0∧(changeD (nextI i f)).reason=0∧(changeD (nextI i f)).after=f:=by
 obtain ⟨p,ha⟩:=after_form i;rw [ha] at hr
 have hkd:kdV f=5:=by
  obtain ⟨k,n,s,is,ks⟩:=f;unfold proposeS at hr;rw [refV,if_neg (by decide)] at hr;simp only [Bool.and_eq_true,decide_eq_true_eq] at hr;exact hr.1
 have hfn:=fit_names hs hkd hv hf;have hn:ValN (nextI i f):=⟨h.asc,h.md,h.mr,h.cf,fun _=>⟨hfn,hk⟩⟩
 have hz:differsD (nextI i f)=false:=by
  unfold differsD;rw [List.any_eq_false];intro x hx hd;have hx':x∈namesS i.sc:=hx;unfold difX at hd;rw [Bool.and_eq_true,Bool.and_eq_true] at hd;obtain ⟨d1,d2,d3⟩:=hd;have d1':decX i.sc i.cnfg x=true:=d1;rw [h.dec,Bool.not_eq_true'] at d1'
  have d2':x ∉ i.ignore:=fun e=>by
   have e2:hasB i.ignore x=true:=(hasB_iff _ _).2 e;have d2'':(!hasB i.ignore x)=true:=d2;rw [e2] at d2'';cases d2''
  have d3':(!knownV (getN i.cnfg x) || !eqV (getN f x) (getN i.cnfg x))=true:=d3
  have kc:knownV (getN i.cnfg x)=true:=by
   rw [h.cf,knownV_mkN,List.all_eq_true] at hc;exact hc x hx'
  have ge:getN (effD i) x=getN i.cnfg x:=by
   rw [h.eff,getN_mkN h.asc hx'];unfold effX;rw [if_neg fun e=>d2' (ignN_mem.1 ((hasB_iff _ _).1 e.2)).1]
  have hd:detS i.sc (effD i) x=false:=by
   rw [← d1'];unfold detS;rw [ge]
  have gp:getN (proposeS i.sc p (effD i)) x=getN i.cnfg x:=by
   have hv:volS i.sc p (effD i) x=false:=by unfold volS;rw [hd];rfl
   rw [getN_propose h.asc hx',if_neg (by rw [hv];simp)];unfold itemS;rw [hd,if_neg (by simp),ge]
  have hrx:refV (getN f x) (getN (proposeS i.sc p (effD i)) x)=true:=by
   obtain ⟨j,hj,rfl⟩:=List.getElem_of_mem hx';have hr2:=hr;rw [hfn] at hr2;unfold mkN proposeS at hr2;rw [refV,if_neg (by decide)] at hr2;simp only [Bool.and_eq_true,decide_eq_true_eq] at hr2;have h6:=refL_at j (by simpa using hj) (by simpa using hj) hr2.2.2.2.2;rw [List.getElem_map,List.getElem_map] at h6;rw [getN_propose h.asc hx'];exact h6
  have e:=ref_known _ _ hrx (by rw [gp];exact kc);rw [gp] at e;rw [e,eqV_refl,kc] at d3'
  cases d3'
 obtain ⟨m1,m2⟩:=hn.min rfl rfl rfl rfl;have h0:=m1.2 hz;obtain ⟨m3,m4⟩:=m2 h0;exact ⟨h0,m4,m3⟩
end Go.Proofs.YtibiiafcnaijeaaGreat
