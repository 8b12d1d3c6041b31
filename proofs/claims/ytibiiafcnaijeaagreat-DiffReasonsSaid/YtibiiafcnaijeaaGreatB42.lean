/- Texts that stand alike under several statements, run together. -/
import Derived.Test.YtibiiafcnaijeaaGreatB00
import Derived.Test.YtibiiafcnaijeaaGreatB41
namespace Go.Proofs.YtibiiafcnaijeaaGreat
open Go Go.RowKit
set_option linter.unusedVariables false
set_option linter.unusedSimpArgs false
set_option maxRecDepth 100000
set_option maxHeartbeats 40000000
theorem Asc.ne {a:ByteArray} {l:List ByteArray} (h:Asc (a :: l)):a ∉ l:=fun hm=>by
 have:=(List.pairwise_cons.1 h).1 a hm;rw [ltS_irr] at this;cases this
theorem asc_ext:∀ {l m:List ByteArray},Asc l→Asc m→(∀ x,x∈l ↔ x∈m)→l=m
 | [],[],_,_,_=>rfl
 | [],b :: m,_,_,h=>absurd ((h b).2 (List.mem_cons_self ..)) List.not_mem_nil
 | a :: l,[],_,_,h=>absurd ((h a).1 (List.mem_cons_self ..)) List.not_mem_nil
 | a :: l,b :: m,ha,hb,h=>by
  have hpa:=List.pairwise_cons.1 ha;have hpb:=List.pairwise_cons.1 hb
  have e:a=b:=by
   rcases List.mem_cons.1 ((h a).1 (List.mem_cons_self ..)) with e | e
   ·exact e
   ·rcases List.mem_cons.1 ((h b).2 (List.mem_cons_self ..)) with e2 | e2
    ·exact e2.symm
    ·have h1:=hpb.1 a e
     have h2:=hpa.1 b e2;rw [ltS_asymm h1] at h2;cases h2
  subst e
  rw [asc_ext hpa.2 hpb.2 fun x=>⟨fun hx=>by
   rcases List.mem_cons.1 ((h x).1 (List.mem_cons_of_mem _ hx)) with rfl | e
   ·exact absurd hx ha.ne
   ·exact e,fun hx=>by
   rcases List.mem_cons.1 ((h x).2 (List.mem_cons_of_mem _ hx)) with rfl | e
   ·exact absurd hx hb.ne
   ·exact e⟩]
theorem posT_get:∀ (ns:List ByteArray) (j:Nat) (h:j < ns.length),Asc ns→posT ns ns[j]=j
 | a :: ns,0,h,ha=>by simp [posT,ltS_irr]
 | a :: ns,j + 1,h,ha=>by
  have hp:=List.pairwise_cons.1 ha
  have hj:j < ns.length:=by simpa using h
  have e:(a :: ns)[j + 1]=ns[j]:=rfl;rw [e];unfold posT;rw [if_pos (hp.1 _ (lM hj)),posT_get ns j hj hp.2]
def mkN (ns:List ByteArray) (f:ByteArray→Vl):Vl:=.mk 5 0 ⟨#[]⟩ (ns.map f) ns
theorem mkN_ext {ns:List ByteArray} {f g:ByteArray→Vl} (h:∀ x∈ns,f x=g x):mkN ns f=mkN ns g:=by
 unfold mkN;rw [List.map_congr_left h]
theorem getV_in {ns:List ByteArray} {is:List Vl} {n:Int} {s:ByteArray} (ha:Asc ns) {j:Nat} (h:j < ns.length):getV (.mk 5 n s is ns) ns[j]=is[j]?:=by
 rw [getV_eq,fndN_asc _ ha,posN_asc _ ha,posT_get ns j h ha];rw [if_pos ⟨rfl,dTT ⟨h,by simp [h]⟩⟩]
theorem getV_out {ns:List ByteArray} {is:List Vl} {k n:Int} {s:ByteArray} {x:ByteArray} (ha:Asc ns) (h:x ∉ ns):getV (.mk k n s is ns) x=none:=by
 rw [getV_eq,if_neg];rintro ⟨-,h2⟩;rw [fndN_asc _ ha] at h2;obtain ⟨h3,h4⟩:=of_decide_eq_true h2;refine h ?_;rw [← h4];simp [h3]
theorem getV_mkN {ns:List ByteArray} {f:ByteArray→Vl} (ha:Asc ns) {x:ByteArray} (hx:x∈ns):getV (mkN ns f) x=some (f x):=by
 obtain ⟨j,h,rfl⟩:=List.getElem_of_mem hx;unfold mkN;rw [getV_in ha h,List.getElem?_map,lG h];rfl
theorem getN_mkN {ns:List ByteArray} {f:ByteArray→Vl} (ha:Asc ns) {x:ByteArray} (hx:x∈ns):getN (mkN ns f) x=f x:=by
 unfold getN;rw [getV_mkN ha hx];rfl
theorem mkN_of {ns:List ByteArray} {is:List Vl} (ha:Asc ns) (hl:ns.length=is.length):(.mk 5 0 ⟨#[]⟩ is ns:Vl)=mkN ns (getN (.mk 5 0 ⟨#[]⟩ is ns)):=by
 have e:is=ns.map (getN (.mk 5 0 ⟨#[]⟩ is ns)):=by
  refine List.ext_getElem (by simp [hl]) fun j h1 h2=>?_
  rw [List.getElem_map];unfold getN;rw [getV_in ha (by omega),lG h1];rfl
 unfold mkN;rw [← e]
theorem putV_mkN {ns:List ByteArray} {f:ByteArray→Vl} (ha:Asc ns) {x:ByteArray} (hx:x∈ns) (y:Vl):putV (mkN ns f) x y=mkN ns (fun z=>if z=x then y else f z):=by
 obtain ⟨j,h,rfl⟩:=List.getElem_of_mem hx
 have hp:posN ns ns[j]=j:=by rw [posN_asc _ ha,posT_get ns j h ha]
 have hf:fndN ns ns[j]=true:=by rw [fndN_asc _ ha,posT_get ns j h ha];exact dTT ⟨h,by simp [h]⟩
 unfold mkN;rw [putV_eq,hp,hf,if_neg (by simp;omega),if_pos rfl];refine congrArg (fun l=>Vl.mk 5 0 ⟨#[]⟩ l ns) (List.ext_getElem (by simp) fun i h1 h2=>?_)
 have hi:i < ns.length:=by simpa using h2
 rw [List.getElem_set,List.getElem_map,List.getElem_map]
 by_cases hij:j=i
 ·subst hij;rw [if_pos rfl,if_pos rfl]
 ·rw [if_neg hij,if_neg]
  intro e;have h3:=posT_get ns i hi ha;rw [e,posT_get ns j h ha] at h3;exact hij h3
theorem ignStep_mkN {ns:List ByteArray} {p c:ByteArray→Vl} (ha:Asc ns) (x:ByteArray):ignStep (mkN ns p) (mkN ns c) x=mkN ns (fun z=>if z=x then p z else c z):=by
 unfold ignStep
 by_cases hx:x∈ns
 ·rw [getV_mkN ha hx,getV_mkN ha hx]
  simp only [Option.isSome_some,if_true];rw [putV_mkN ha hx]
  refine mkN_ext fun z _=>?_
  by_cases hz:z=x
  ·subst hz;simp
  ·simp [hz]
 ·have e:getV (mkN ns p) x=none:=getV_out ha hx
  rw [e]
  refine mkN_ext fun z hz=>?_
  exact (if_neg fun e2=>hx (by rw [← e2];exact hz)).symm
theorem hasB_iff (l:List ByteArray) (x:ByteArray):hasB l x=true ↔ x∈l:=by
 unfold hasB;simp
theorem ignoreV_mkN {ns:List ByteArray} {p:ByteArray→Vl} (ha:Asc ns):∀ (l:List ByteArray) (c:ByteArray→Vl),ignoreV (mkN ns p) (mkN ns c) l=mkN ns (fun z=>if hasB l z=true then p z else c z)
 | [],c=>mkN_ext fun z _=>by simp [hasB]
 | x :: l,c=>by
  show ignoreV (mkN ns p) (ignStep (mkN ns p) (mkN ns c) x) l=_;rw [ignStep_mkN ha,ignoreV_mkN ha l]
  refine mkN_ext fun z _=>?_
  by_cases h1:hasB l z=true
  ·rw [if_pos h1,if_pos ((hasB_iff _ _).2 (List.mem_cons_of_mem _ ((hasB_iff _ _).1 h1)))]
  ·rw [if_neg h1]
   by_cases h2:z=x
   ·subst h2;rw [if_pos rfl,if_pos ((hasB_iff _ _).2 (List.mem_cons_self ..))]
   ·rw [if_neg h2,if_neg fun h=>(List.mem_cons.1 ((hasB_iff _ _).1 h)).elim h2 fun h3=>h1 ((hasB_iff _ _).2 h3)]
theorem badP_no {p:Option ByteArray} {x:ByteArray} (h:badP p x=false):∀ q,p=some q→ltS q x=true:=by
 rintro q rfl;simpa [badP] using h
theorem attrE_zero {a:At} {p:Option ByteArray} (h:attrE a p=0):badP p a.name=false∧1≤a.mode∧a.mode≤4:=by
 unfold attrE at h
 split at h
 ·omega
 split at h
 ·omega
 rename_i h2
 split at h
 ·omega
 split at h
 ·omega
 rename_i h4;exact ⟨by simpa using h2,by omega,by omega⟩
theorem attrsE_zero:∀ (l:List At) (p:Option ByteArray) (n:Bool),attrsE l p n=0→Asc (l.map (·.name))∧(∀ q,p=some q→∀ a∈l,ltS q a.name=true)∧∀ a∈l,1≤a.mode∧a.mode≤4
 | [],_,_,_=>⟨List.Pairwise.nil,fun _ _ _ h=>absurd h List.not_mem_nil,fun _ h=>absurd h List.not_mem_nil⟩
 | a :: l,p,n,h=>by
  rw [attrsE] at h
  by_cases h1:attrE a p=0
  ·rw [if_neg (by omega)] at h
   split at h
   ·omega
   obtain ⟨i1,i2,i3⟩:=attrsE_zero l (some a.name) n h;obtain ⟨b1,b2,b3⟩:=attrE_zero h1;refine ⟨List.pairwise_cons.2 ⟨fun x hx=>?_,i1⟩,fun q e b hb=>?_,fun b hb=>?_⟩
   ·obtain ⟨b,hb,rfl⟩:=List.mem_map.1 hx
    exact i2 _ rfl b hb
   ·rcases List.mem_cons.1 hb with rfl | hb
    ·exact badP_no b1 q e
    ·exact ltS_trans (badP_no b1 q e) (i2 _ rfl b hb)
   ·rcases List.mem_cons.1 hb with rfl | hb
    ·exact ⟨b2,b3⟩
    ·exact i3 b hb
  ·rw [if_pos h1] at h;exact absurd h h1
theorem fndA_mem {l:List At} {x:ByteArray} {a:At} (h:fndA l x=some a):a∈l∧a.name=x:=⟨List.mem_of_find?_eq_some h,by have:=List.find?_some h;simpa using this⟩
theorem fndA_none {l:List At} {x:ByteArray} (h:(fndA l x).isSome=false):∀ a∈l,a.name≠x:=by
 have:fndA l x=none:=by simpa using h
 intro a ha;have:=List.find?_eq_none.1 this a ha;simpa using this
theorem kindE_zero {s:Sc} {n:Ne} {p:Option ByteArray} (h:kindE s n p=0):badP p n.name=false∧∀ a∈s.attrs,a.name≠n.name:=by
 unfold kindE at h
 split at h
 ·omega
 split at h
 ·omega
 rename_i h2
 split at h
 ·omega
 rename_i h3;exact ⟨by simpa using h2,fndA_none (by simpa using h3)⟩
structure ScN (s:Sc):Prop where
 aa:Asc (s.attrs.map (·.name))
 md:∀ a∈s.attrs,1≤a.mode∧a.mode≤4
 na:Asc (s.nested.map (·.name))
 dj:∀ n∈s.nested,∀ a∈s.attrs,a.name≠n.name
 ty:checkT (typR s) 1=0
theorem ScF.names {s:Sc} (h:ScF s):ScN s:=by
 obtain ⟨-,-,h3,h4,h5⟩:=h;obtain ⟨a1,-,a3⟩:=attrsE_zero _ _ _ h3;refine ⟨a1,a3,asc_adj _ fun i hi=>?_,fun n hn=>?_,h5⟩
 ·have hi':i + 1 < s.nested.length:=by simpa using hi
  have:=badP_no (kindE_zero (h4 (i + 1) hi')).1 s.nested[i].name (by
   unfold prevK
   rw [if_neg (by omega),show i + 1 - 1=i by omega,lG (by omega)];rfl)
  simpa using this
 ·obtain ⟨j,hj,rfl⟩:=List.getElem_of_mem hn
  exact (kindE_zero (h4 j hj)).2
theorem mergeR_mem (x:ByteArray):∀ (l:List At) (k:List Ne),x∈(mergeR l k).map (·.1) ↔ (x∈l.map (·.name)∨x∈k.map (·.name))
 | [],[]=>by rw [mergeR];simp
 | [],n :: k=>by
  rw [mergeR,List.map_cons,List.mem_cons,mergeR_mem x [] k];simp
 | a :: l,[]=>by
  rw [mergeR,List.map_cons,List.mem_cons,mergeR_mem x l []];simp
 | a :: l,n :: k=>by
  rw [mergeR]
  split
  ·rw [List.map_cons,List.mem_cons,mergeR_mem x l (n :: k)]
   simp only [List.map_cons,List.mem_cons,or_assoc]
  ·rw [List.map_cons,List.mem_cons,mergeR_mem x (a :: l) k]
   simp only [List.map_cons,List.mem_cons]
   constructor
   ·rintro (h | (h | h) | h) <;> simp [h]
   ·rintro ((h | h) | h | h) <;> simp [h]
termination_by l k=>l.length + k.length
theorem addN_names (k:List Ne):∀ p:List ByteArray × List Ty,Asc p.1→(∀ n∈k,n.name ∉ p.1)→Asc (k.map (·.name))→Asc (k.foldl addN p).1∧∀ x,x∈(k.foldl addN p).1 ↔ (x∈p.1∨x∈k.map (·.name)):=by
 induction k with
 | nil=>intro p h _ _;exact ⟨h,fun x=>by simp⟩
 | cons n k ih =>
  intro p h hd hn;have hnn:n.name ∉ p.1:=hd n (List.mem_cons_self ..)
  have hm:∀ x,x∈(addN p n).1 ↔ (x=n.name∨x∈p.1):=fun x=>by
   show x∈p.1.insertIdx (posN p.1 n.name) n.name ↔ _;exact List.mem_insertIdx (posN_le _ _)
  have ha:Asc (addN p n).1:=by
   show Asc (p.1.insertIdx (posN p.1 n.name) n.name);rw [posN_asc _ h]
   exact asc_ins _ _ h fun y hy e=>hnn (e ▸ hy)
  obtain ⟨i1,i2⟩:=ih (addN p n) ha (fun m hmk hmm=>by
   rcases (hm _).1 hmm with e | e
   ·exact Asc.ne hn (show n.name∈k.map (·.name) by rw [← e];exact List.mem_map_of_mem hmk)
   ·exact hd m (List.mem_cons_of_mem _ hmk) e) (List.pairwise_cons.1 hn).2
  refine ⟨i1,fun x=>?_⟩;rw [List.foldl_cons,i2 x,hm x,List.map_cons,List.mem_cons]
  constructor
  ·rintro ((h | h) | h) <;> simp [h]
  ·rintro (h | h | h) <;> simp [h]
theorem ScN.names {s:Sc} (h:ScN s):Asc (namesS s)∧(∀ x,x∈namesS s ↔ x∈keysC s)∧(mergeR s.attrs s.nested).map (·.1)=namesS s:=by
 obtain ⟨i1,i2⟩:=addN_names s.nested (s.attrs.map (·.name),s.attrs.map (·.ty)) h.aa (fun n hn hm=>by
  obtain ⟨a,ha,e⟩:=List.mem_map.1 hm
  exact h.dj n hn a ha e) h.na
 have i3:∀ x,x∈namesS s ↔ x∈keysC s:=fun x=>(i2 x).trans (by unfold keysC;rw [List.mem_append])
 refine ⟨i1,i3,asc_ext ((checkT_zero _ _ _ _).1 h.ty).2.2.2.1 i1 fun x=>?_⟩;rw [mergeR_mem,i3 x];unfold keysC;rw [List.mem_append]
theorem putG_mem (z x:ByteArray) (y:Vl):∀ (ks:List ByteArray) (is:List Vl) (d:Bool),ks.length=is.length→(z∈(putG d ks is x y).map (·.1) ↔ (z∈ks∧z≠x)∨(d=false∧z=x))
 | [],[],d,_=>by rw [putG];cases d <;> simp
 | [],_ :: _,_,h=>by cases h
 | _ :: _,[],_,h=>by cases h
 | k :: ks,v :: is,d,h=>by
  have hl:ks.length=is.length:=by simpa using h
  rw [putG,List.map_append,List.map_append,List.mem_append,List.mem_append,putG_mem z x y ks is _ hl]
  by_cases hk:k=x
  ·subst hk
   by_cases hz:z=k
   ·subst hz;cases d <;> simp [ltS_irr]
   ·cases d <;> simp [ltS_irr,hz]
  ·by_cases hz:z=x
   ·subst hz
    cases d <;> cases hlt:ltS k z <;> simp [hk,Ne.symm hk]
   ·cases d <;> cases hlt:ltS k x <;> simp [hz,hk]
theorem puts_mem (z:ByteArray) (ps:List (ByteArray × Vl)):∀ (is:List Vl) (ks:List ByteArray),ks.length=is.length→∃ is' ks',ps.foldl (fun v p=>putR v p.1 p.2) (.mk 5 0 ⟨#[]⟩ is ks)=.mk 5 0 ⟨#[]⟩ is' ks'∧ks'.length=is'.length∧(z∈ks' ↔ z∈ks∨z∈ps.map (·.1)):=by
 induction ps with
 | nil=>intro is ks h;exact ⟨is,ks,rfl,h,by simp⟩
 | cons p ps ih =>
  intro is ks h;obtain ⟨is',ks',e,h1,h2⟩:=ih ((putG false ks is p.1 p.2).map (·.2)) ((putG false ks is p.1 p.2).map (·.1)) (by simp);refine ⟨is',ks',e,h1,h2.trans ?_⟩;rw [putG_mem z _ _ ks is false h,List.map_cons,List.mem_cons]
  by_cases hz:z=p.1
  ·simp [hz]
  ·simp [hz]
theorem puts_keys {ps:List (ByteArray × Vl)} {k n:Int} {s:ByteArray} {is:List Vl} {ks:List ByteArray} (e:Vl.mk k n s is ks=putsV ps) (z:ByteArray):z∈ks ↔ z∈ps.map (·.1):=by
 obtain ⟨is',ks',e',-,h2⟩:=puts_mem z ps [] [] rfl;have e2:Vl.mk k n s is ks=.mk 5 0 ⟨#[]⟩ is' ks':=e.trans e'
 cases e2
 simpa using h2
structure ValN (i:Inp):Prop where
 asc:Asc (namesS i.sc)
 md:∀ a∈i.sc.attrs,1≤a.mode∧a.mode≤4
 mr:(mergeR i.sc.attrs i.sc.nested).map (·.1)=namesS i.sc
 cf:i.cnfg=mkN (namesS i.sc) (getN i.cnfg)
 pr:i.has=true→i.prior.attrs=mkN (namesS i.sc) (getN i.prior.attrs)∧knownV i.prior.attrs=true
theorem fit_names {s:Sc} {v:Vl} (h:ScN s) (hk:kdV v=5) (hv:VOk v) (hf:fitsT v (typR s)=true):v=mkN (namesS s) (getN v):=by
 obtain ⟨ha,-,hm⟩:=h.names;obtain ⟨k,n,z,is,ks⟩:=v;have hk5:k=5:=hk;subst hk5;obtain ⟨-,h5,-,-,hz,-,-⟩:=hv.out;obtain ⟨rfl,rfl⟩:=hz rfl;unfold typR at hf;rw [fitsT_6 (by decide) (by decide) (by decide),Bool.and_eq_true,Bool.and_eq_true,decide_eq_true_eq,decide_eq_true_eq,hm] at hf;obtain ⟨-,e,-⟩:=hf;subst e;exact mkN_of ha (h5 rfl)
theorem ValI.names {i:Inp} (h:ValI i):ValN i:=by
 have hn:=h.scf.names;obtain ⟨ha,hk,hm⟩:=hn.names;refine ⟨ha,hn.md,hm,?_,fun hh=>?_⟩
 ·obtain ⟨ps,hp,e⟩:=h.cps
  have ok:=h.cok;have kd:=h.ckd
  generalize i.cnfg=v at *
  obtain ⟨k,n,z,is,ks⟩:=v;have hk5:k=5:=kd;subst hk5;obtain ⟨-,h5,-,-,hz,hak,-⟩:=ok.out;obtain ⟨rfl,rfl⟩:=hz rfl
  have e2:ks=namesS i.sc:=asc_ext hak ha fun x=>by rw [puts_keys e x,hp,hk x]
  subst e2;exact mkN_of ha (h5 rfl)
 ·obtain ⟨h1,h2,h3,h4⟩:=h.pr hh
  exact ⟨fit_names hn h1 h2 h4,h3⟩
end Go.Proofs.YtibiiafcnaijeaaGreat
