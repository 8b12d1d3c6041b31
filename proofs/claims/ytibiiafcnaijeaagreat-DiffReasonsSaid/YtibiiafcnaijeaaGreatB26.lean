/- Texts that stand alike under several statements, run together. -/
import Derived.Test.YtibiiafcnaijeaaGreatB00
import Derived.Test.YtibiiafcnaijeaaGreatB25
import Derived.SliceStrings
import Derived.Deep.Strs
import Derived.SizedLaws
import Derived.ProofKit
import Derived.OpenShut
import Derived.Test.YtibiiafcnaijeaaGreatRows
import Derived.WalkKit
import Derived.ShutString
import Derived.RowKit
namespace Go.Proofs.YtibiiafcnaijeaaGreat
open Go Go.RowKit
set_option linter.unusedVariables false
set_option linter.unusedSimpArgs false
set_option maxRecDepth 100000
set_option maxHeartbeats 40000000
def itmV:Vl→List Vl
 | .mk _ _ _ is _=>is
theorem getV_mem {v:Vl} {x:ByteArray} {y:Vl} (h:getV v x=some y):y∈itmV v:=by
 obtain ⟨k,n,s,is,ks⟩:=v;rw [getV_eq] at h
 split at h
 ·exact List.mem_of_getElem? h
 ·cases h
theorem putV_items (v:Vl) (x:ByteArray) (y:Vl):∀ e∈itmV (putV v x y),e∈itmV v∨e=y:=by
 obtain ⟨k,n,s,is,ks⟩:=v;intro e he;rw [putV_eq] at he
 split at he
 ·exact .inl he
 ·split at he
  ·rcases List.mem_or_eq_of_mem_set he with h | h
   ·exact .inl h
   ·exact .inr h
  ·have he':e∈is.insertIdx (posN ks x) y:=he
   by_cases hl:posN ks x≤is.length
   ·rcases (List.mem_insertIdx hl).1 he' with h | h
    ·exact .inr h
    ·exact .inl h
   ·rw [List.insertIdx_of_length_lt (by omega)] at he'
    exact .inl he'
theorem ignStep_items (p c:Vl) (x:ByteArray):∀ e∈itmV (ignStep p c x),e∈itmV c∨e∈itmV p:=by
 intro e he;unfold ignStep at he
 cases hg:getV p x with
 | none=>rw [hg] at he;exact .inl he
 | some v =>
  rw [hg] at he;simp only at he
  split at he
  ·rcases putV_items _ _ _ e he with h | h
   ·exact .inl h
   ·exact .inr (h ▸ getV_mem hg)
  ·exact .inl he
theorem ignoreV_items (p:Vl):∀ (l:List ByteArray) (c:Vl),∀ e∈itmV (ignoreV p c l),e∈itmV c∨e∈itmV p
 | [],c,e,he=>.inl he
 | x :: l,c,e,he=>by
  rcases ignoreV_items p l (ignStep p c x) e he with h | h
  ·exact ignStep_items p c x e h
  ·exact .inr h
theorem ignStep_size (p c:Vl) (x:ByteArray):szV (ignStep p c x)≤szV c + szV p∧kyV (ignStep p c x)≤kyV c + kyV p + 1:=by
 unfold ignStep
 cases hg:getV p x with
 | none=>simp only;omega
 | some v =>
  simp only;have h1:=getV_size hg
  split
  ·have h2:=putV_size c x v;omega
  ·omega
theorem ignoreV_size (p:Vl):∀ (l:List ByteArray) (c:Vl),szV (ignoreV p c l)≤szV c + l.length * szV p∧kyV (ignoreV p c l)≤kyV c + l.length * (kyV p + 1)
 | [],c=>by simp [ignoreV]
 | x :: l,c=>by
  have h1:=ignoreV_size p l (ignStep p c x);have h2:=ignStep_size p c x;have h3:ignoreV p c (x :: l)=ignoreV p (ignStep p c x) l:=rfl;rw [h3];simp only [List.length_cons,Nat.succ_mul]
  omega
theorem itm_small {v:Vl} {m k:Nat} (h1:szV v≤m) (h2:kyV v≤k):∀ e∈itmV v,szV e≤m∧kyV e≤k:=by
 obtain ⟨kk,n,s,is,ks⟩:=v;intro e he;have a:=szV_mem (show e∈is from he);have b:=kyV_mem (show e∈is from he);rw [szV] at h1;rw [kyV] at h2
 omega
theorem effD_items (i:Inp):∀ e∈itmV (effD i),e∈itmV i.cnfg∨e∈itmV i.prior.attrs:=by
 intro e he;unfold effD at he
 split at he
 ·exact ignoreV_items _ _ _ e he
 ·exact .inl he
theorem effD_small {i:Inp} (h:InOk i):SzOk (effD i)∧∀ e∈itmV (effD i),szV e≤300∧kyV e≤600:=by
 obtain ⟨_,_,_,h1,h2,h3,h4,h5,_,_⟩:=h;refine ⟨?_,fun e he=>?_⟩
 ·unfold effD SzOk
  split
  ·have h6:=ignoreV_size i.prior.attrs (ignN i.sc i.ignore) i.cnfg
   have h7:(ignN i.sc i.ignore).length≤20:=Nat.le_trans (List.length_filter_le _ _) h5;have h8:=Nat.mul_le_mul h7 h1;have h9:=Nat.mul_le_mul h7 (Nat.succ_le_succ h2);simp only [Nat.succ_eq_add_one] at h9
   omega
  ·omega
 ·rcases effD_items i e he with h | h
  ·exact itm_small h3 h4 e h
  ·exact itm_small h1 h2 e h
theorem szL_le {m:Nat}:∀ {l:List Vl},(∀ e∈l,szV e≤m)→szL l≤l.length * m
 | [],_=>by simp [szL]
 | a :: l,h=>by
  have:=h a (List.mem_cons_self ..)
  have:=szL_le fun e he=>h e (List.mem_cons_of_mem _ he)
  rw [szL,List.length_cons,Nat.succ_mul];omega
theorem kyL_le {m:Nat}:∀ {l:List Vl},(∀ e∈l,kyV e≤m)→kyL l≤l.length * m
 | [],_=>by simp [kyL]
 | a :: l,h=>by
  have:=h a (List.mem_cons_self ..)
  have:=kyL_le fun e he=>h e (List.mem_cons_of_mem _ he)
  rw [kyL,List.length_cons,Nat.succ_mul];omega
theorem getN_small {v:Vl} (hv:∀ e∈itmV v,szV e≤300∧kyV e≤600) (x:ByteArray):szV (getN v x)≤300∧kyV (getN v x)≤600:=by
 unfold getN
 cases h:getV v x with
 | none=>exact ⟨by decide,by decide⟩
 | some y=>exact hv y (getV_mem h)
theorem itemS_small (s:Sc) {p c:Vl} (hp:∀ e∈itmV p,szV e≤300∧kyV e≤600) (hc:∀ e∈itmV c,szV e≤300∧kyV e≤600) (x:ByteArray):szV (itemS s p c x)≤300∧kyV (itemS s p c x)≤600:=by
 unfold itemS
 split
 ·split
  ·exact ⟨by decide,by decide⟩
  ·exact getN_small hp x
 ·exact getN_small hc x
theorem proposeS_items (s:Sc) {p c:Vl} (hp:∀ e∈itmV p,szV e≤300∧kyV e≤600) (hc:∀ e∈itmV c,szV e≤300∧kyV e≤600):∀ e∈itmV (proposeS s p c),szV e≤300∧kyV e≤600:=by
 intro e he;obtain ⟨x,_,rfl⟩:=List.mem_map.1 he
 split
 ·exact ⟨by decide,by decide⟩
 ·exact itemS_small s hp hc x
theorem proposeS_small (s:Sc) {p c:Vl} (hs:(namesS s).length≤40) (hp:∀ e∈itmV p,szV e≤300∧kyV e≤600) (hc:∀ e∈itmV c,szV e≤300∧kyV e≤600):SzOk (proposeS s p c):=by
 have h:=proposeS_items s hp hc;unfold SzOk;unfold proposeS at h ⊢
 have h1:=szL_le fun e he=>(h e he).1
 have h2:=kyL_le fun e he=>(h e he).2
 rw [szV,kyV];simp only [itmV,List.length_map] at h1 h2
 omega
abbrev sE:ByteArray:=⟨#[101]⟩
abbrev sEtag:ByteArray:=⟨#[101,116,97,103]⟩
abbrev sId:ByteArray:=⟨#[105,100]⟩
abbrev sN:ByteArray:=⟨#[110]⟩
abbrev sSize:ByteArray:=⟨#[115,105,122,101]⟩
abbrev sNet1:ByteArray:=⟨#[110,101,116,45,49]⟩
abbrev sNetA:ByteArray:=⟨#[110,101,116,46,97]⟩
abbrev sNetZ:ByteArray:=⟨#[110,101,116,46,122]⟩
abbrev sNet:ByteArray:=⟨#[110,101,116]⟩
abbrev strV (s:ByteArray):Vl:=.mk 3 0 s [] []
abbrev numV (n:Int):Vl:=.mk 2 n ⟨#[]⟩ [] []
abbrev fourV (a b c d:Vl):Vl:=.mk 5 0 ⟨#[]⟩ [a,b,c,d] [sEtag,sId,sN,sSize]
abbrev kindS:Sc:=⟨[⟨sEtag,.mk 3 [] [],3,false,false,true⟩,⟨sId,.mk 3 [] [],3,false,false,false⟩,⟨sN,.mk 2 [] [],2,false,false,false⟩,⟨sSize,.mk 2 [] [],2,true,false,false⟩],[]⟩
abbrev priorI:Inst:=⟨sNetA,⟨#[]⟩,sNet1,sNet,fourV (strV sE) (strV sNet1) (numV 1) (numV 1),1,false,false,[sNetZ]⟩
abbrev inp1:Inp:=⟨sNetA,sNet,kindS,0,true,priorI,fourV nullV nullV (numV 2) (numV 1),false,false,[],false,false,[]⟩
abbrev inp2:Inp:=⟨sNetA,sNet,kindS,0,true,priorI,fourV nullV nullV (numV 1) (numV 2),true,false,[],false,false,[]⟩
abbrev inp3:Inp:=⟨sNetA,sNet,kindS,0,true,priorI,fourV nullV nullV (numV 1) (numV 2),true,false,[sSize],false,false,[]⟩
abbrev inp4:Inp:=⟨sNetA,sNet,kindS,0,false,priorI,fourV nullV nullV (numV 1) (numV 2),true,false,[sSize],false,false,[]⟩
set_option maxRecDepth 100000
theorem chg1:(changeD inp1).action=2∧(changeD inp1).reason=2∧(changeD inp1).oldDeps.length=1∧eqV (changeD inp1).after (fourV unkV (strV sNet1) (numV 2) (numV 1))=true:=⟨by kernel_rfl,by kernel_rfl,by kernel_rfl,by kernel_rfl⟩
theorem chg2:(changeD inp2).action=3∧(changeD inp2).reason=3∧(changeD inp2).createFirst=true∧(changeD inp2).replace.length=1∧eqV (changeD inp2).after (fourV unkV unkV (numV 1) (numV 2))=true:=⟨by kernel_rfl,by kernel_rfl,by kernel_rfl,by kernel_rfl,by kernel_rfl⟩
theorem chg3:(changeD inp3).action=0∧(changeD inp3).reason=0:=⟨by kernel_rfl,by kernel_rfl⟩
theorem chg4:(changeD inp4).action=1∧(changeD inp4).reason=1:=⟨by kernel_rfl,by kernel_rfl⟩
theorem ok1:InOk inp1:=by unfold InOk ScOk;decide
theorem ok2:InOk inp2:=by unfold InOk ScOk;decide
theorem ok3:InOk inp3:=by unfold InOk ScOk;decide
theorem ok4:InOk inp4:=by unfold InOk ScOk;decide
end Go.Proofs.YtibiiafcnaijeaaGreat
namespace Go.Proofs.YtibiiafcnaijeaaGreat
open Go Go.ChangeShapes Go.WideShapes Go.ChangeAt Go.RowKit Go.Deep
set_option linter.unusedVariables false
set_option linter.unusedSimpArgs false
set_option maxRecDepth 100000
set_option maxHeartbeats 40000000
theorem cellsT:Tryz.prog.cellsOf 61=3:=by kernel_rfl
theorem cellsI:Tryz.prog.cellsOf 58=1:=by kernel_rfl
theorem cellsE:Tryz.prog.cellsOf 59=1:=by kernel_rfl
theorem cellsN:Tryz.prog.cellsOf 30=1:=by kernel_rfl
theorem cellsS:Tryz.prog.cellsOf 9=1:=by kernel_rfl
theorem bytesT:Tryz.prog.bytesOf 61=56:=by kernel_rfl
theorem bytesS:Tryz.prog.bytesOf 9=16:=by kernel_rfl
theorem reach_le:reachBytes≤140737488355328:=by decide
theorem add_off (b o i:Nat):(⟨b,o,none⟩:Addr).add i=⟨b,o + i,none⟩:=by
 unfold Addr.add;split <;> simp_all
theorem spot_none {W:World} {a:Addr} {v:Value} (h0:W.cell? a=some v):a.spot=none:=by
 unfold World.cell? at h0
 split at h0
 ·split at h0
  ·cases h0
  ·rename_i h;simpa using h
 ·cases h0
theorem addr_flat {W:World} {a:Addr} {v:Value} (h:W.cell? (a.add 0)=some v):∃ g o,a=⟨g,o,none⟩:=by
 have ea:a.add 0=a:=by simp [Addr.add]
 rw [ea] at h;have hs:=spot_none h;obtain ⟨g,o,s⟩:=a;simp at hs;subst hs;exact ⟨g,o,rfl⟩
section
variable {H:Type} {enc:TypeId × Value→H} {W:World}
theorem weights_all {P:Program} {e:TypeId}:∀ {l:List (DataW H)} {d:DataW H} {n:Nat},d∈l→n∈d.weights P e→n∈DataW.weightsAll P e l
 | x :: l,d,n,hm,hn=>by
  rw [DataW.weightsAll,List.mem_append]
  rcases List.mem_cons.1 hm with rfl | hm
  ·exact .inl hn
  ·exact .inr (weights_all hm hn)
def dstr (ss:List ByteArray):List (DataW H):=ss.map fun s=>.lit (.string s.data.toList)
theorem trod_struct3' {P:Program} {t:TypeId} {f0 f1 f2:Field} (m:Nat) {cs:List Value} {x:DataW H × List MemPlace} (ht:P.underlying t=some (.struct #[f0,f1,f2])) (h:DataW.trod enc P W 0 (fun _=>true) true (m + 1) t cs=some x) :
  ∃ y0 y1 y2 n,(n=m∧x=(.agg [y0.1,y1.1,y2.1],y0.2 ++ (y1.2 ++ y2.2)))∧cs.length=P.cellsOf t∧DataW.trod enc P W 0 (fun _=>true) true n f0.type ((cs.drop f0.offset).take (P.cellsOf f0.type))=some y0 ∧
   DataW.trod enc P W 0 (fun _=>true) true n f1.type ((cs.drop f1.offset).take (P.cellsOf f1.type))=some y1∧DataW.trod enc P W 0 (fun _=>true) true n f2.type ((cs.drop f2.offset).take (P.cellsOf f2.type))=some y2:=by
 obtain ⟨xs,n,hn,rfl,hl,hlen,hf⟩:=DataW.trod_struct ht h
 match xs,hlen with
 | [y0,y1,y2],_=>exact ⟨y0,y1,y2,n,⟨by omega,by simp⟩,hl,by simpa using hf 0 f0 rfl,by simpa using hf 1 f1 rfl,by simpa using hf 2 f2 rfl⟩
theorem LV.nil' (P:Nat→Prop) (w:World):LV P w (.slice none 0 0) []:=⟨[],⟨by simp,.inl ⟨rfl,_,_,rfl⟩⟩,rfl,fun i r e h=>by simp at h⟩
theorem open_names {fuel:Nat} {v:Value} {x:DataW H × List MemPlace} (h:DataW.trod enc Tryz.prog W 0 (fun _=>true) true fuel 30 [v]=some x) (hw:∀ n∈x.1.weights Tryz.prog 30,n≤reachBytes) :
  ∃ ns,SV (fun _=>True) W v ns:=by
 have hr:=reach_le
 rcases open_strings Tryz.underlying30 Tryz.underlying9 cellsS h with ⟨hcs,hx⟩ | ⟨a,len,cap,ss,hcs,hb,hl,hm,hlen,hx,hc,hs⟩
 ·simp only [List.cons.injEq,and_true] at hcs
  subst hcs;exact ⟨[],⟨by simp,.inl ⟨rfl,_,_,rfl⟩⟩,List.forall_mem_nil _⟩
 ·simp only [List.cons.injEq,and_true] at hcs
  subst hcs;subst hx
  have hw2:∀ n,n∈((dstr (H:=H) (ss.take len)).length + (dstr (H:=H) (ss.drop len)).length) * Tryz.prog.bytesOf 9 :: (DataW.weightsAll Tryz.prog 9 (dstr (H:=H) (ss.take len)) ++ DataW.weightsAll Tryz.prog 9 (dstr (H:=H) (ss.drop len)))→n≤reachBytes:=fun n hn=>hw n (by
   rw [DataW.weights,Tryz.underlying30];exact hn)
  have h1:=hw2 _ (List.mem_cons_self ..);rw [bytesS] at h1
  have hsl:ss.length=cap:=by simpa using hlen
  have htl:(ss.take len).length=len:=by rw [List.length_take];omega
  refine ⟨ss.take len,⟨?_,?_⟩,fun s hs'=>?_⟩
  ·have:(dstr (H:=H) (ss.take len)).length=len:=by unfold dstr;rw [List.length_map,htl]
   rw [List.length_map,htl];omega
  ·by_cases h0:len=0
   ·subst h0;exact .inl ⟨by simp,_,_,rfl⟩
   ·have hc0:=hc 0 (by omega)
    obtain ⟨g,o,rfl⟩:=addr_flat hc0;refine .inr ⟨g,o,cap,trivial,by rw [List.length_map,htl],fun i u hu=>?_⟩
    have hi:i < len:=by have:=(List.getElem?_eq_some_iff.1 hu).1;rw [List.length_map,htl] at this;exact this
    rw [List.getElem?_map,List.getElem?_take,if_pos hi] at hu;have:=hc i (by omega);rw [add_off] at this;rw [this]
    have hl2:i < ss.length:=by omega
    rw [lG hl2] at hu;rw [← hu,List.getD_eq_getElem?_getD,lG hl2];rfl
  ·have hm2:s.data.toList.length≤reachBytes:=hw2 _ (List.mem_cons_of_mem _ (List.mem_append_left _ (weights_all (d:=.lit (.string s.data.toList)) (by unfold dstr;exact List.mem_map.2 ⟨s,hs',rfl⟩) (by rw [DataW.weights];exact List.mem_singleton.2 rfl))))
   rw [size_eq];omega
theorem open_type:∀ (fuel:Nat) (cs:List Value) (x:DataW H × List MemPlace),DataW.trod enc Tryz.prog W 0 (fun _=>true) true fuel 61 cs=some x→(∀ n∈x.1.weights Tryz.prog 61,n≤reachBytes) →
  ∃ a b c t,cs = [a,b,c]∧TV (fun _=>True) W (.agg #[a,b,c]) t:=by
 intro fuel
 induction fuel using Nat.strongRecOn with
 | ind fuel ih =>
  intro cs x h hw;have hr:=reach_le
  cases fuel with
  | zero=>simp [DataW.trod] at h
  | succ m =>
  obtain ⟨y0,y1,y2,n,hx,hl,h0,h1,h2⟩:=trod_struct3' m Tryz.underlying61 h;rw [cellsT] at hl
  obtain ⟨a,b,c,rfl⟩:∃ a b c,cs = [a,b,c]:=by
   match cs,hl with
   | [a,b,c],_=>exact ⟨a,b,c,rfl⟩
  obtain ⟨rfl,rfl⟩:=hx;simp only [cellsI,cellsE,cellsN] at h0 h1 h2;have e0:(List.drop 0 [a,b,c]).take 1 = [a]:=rfl;have e1:(List.drop 1 [a,b,c]).take 1 = [b]:=rfl;have e2:(List.drop 2 [a,b,c]).take 1 = [c]:=rfl;rw [e0] at h0;rw [e1] at h1;rw [e2] at h2;obtain ⟨k,hk,_,_⟩:=DataW.trod_int Tryz.underlying58 h0;simp only [List.cons.injEq,and_true] at hk;subst hk
  have hw1:∀ n∈y1.1.weights Tryz.prog 59,n≤reachBytes:=fun q hq=>hw q (by
   rw [DataW.weights,Tryz.underlying61];simp only [List.map_cons,List.map_nil,DataW.weightsEach,List.mem_append]
   exact .inr (.inl hq))
  have hw2:∀ n∈y2.1.weights Tryz.prog 30,n≤reachBytes:=fun q hq=>hw q (by
   rw [DataW.weights,Tryz.underlying61];simp only [List.map_cons,List.map_nil,DataW.weightsEach,List.mem_append]
   exact .inr (.inr (.inl hq)))
  obtain ⟨ns,hns⟩:=open_names h2 hw2
  suffices hE:∃ es,LV (fun _=>True) W b es by
   obtain ⟨es,hes⟩:=hE;exact ⟨_,b,c,.mk k es ns,rfl,TV.mk' hns hes⟩
  rcases DataW.trod_slice Tryz.underlying59 h1 with ⟨hcs,hx⟩ | ⟨ad,len,cap,elems,rest,n',rfl,hcs,hx,hb,hlc,hm,hlen,hel,hsp,hns'⟩
  ·simp only [List.cons.injEq,and_true] at hcs
   subst hcs;exact ⟨[],LV.nil' _ _⟩
  ·simp only [List.cons.injEq,and_true] at hcs
   subst hcs;subst hx
   dsimp only at hw1
   have hwE:∀ n,n∈((elems.map (·.1)).length + (rest.map (·.1)).length) * Tryz.prog.bytesOf 61 :: (DataW.weightsAll Tryz.prog 61 (elems.map (·.1)) ++ DataW.weightsAll Tryz.prog 61 (rest.map (·.1)))→n≤reachBytes:=fun q hq=>hw1 q (by
    rw [DataW.weights,Tryz.underlying59];exact hq)
   have hbig:=hwE _ (List.mem_cons_self ..);rw [bytesT,List.length_map,hlen] at hbig
   have each:∀ i,i < len→∃ x y z t,W.cells? 0 (ad.add (i * 3)) 3=some [x,y,z]∧TV (fun _=>True) W (.agg #[x,y,z]) t:=fun i hi=>by
    have hi':i < elems.length:=by omega
    have he:=hel i hi;rw [cellsT,lG hi'] at he
    cases hcq:W.cells? 0 (ad.add (i * 3)) 3 with
    | none=>rw [hcq] at he;cases he
    | some l =>
     rw [hcq] at he;obtain ⟨x,y,z,t,rfl,ht⟩:=ih n' (by omega) l elems[i] he (fun q hq=>hwE q (List.mem_cons_of_mem _ (List.mem_append_left _ (weights_all (d:=elems[i].1) (List.mem_map.2 ⟨_,lM hi',rfl⟩) hq))));exact ⟨x,y,z,t,rfl,ht⟩
   by_cases h00:len=0
   ·subst h00;exact ⟨[],⟨[],⟨by simp,.inl ⟨rfl,_,_,rfl⟩⟩,rfl,fun i r e h=>by simp at h⟩⟩
   ·obtain ⟨g,o,rfl⟩:∃ g o,ad=⟨g,o,none⟩:=by
     obtain ⟨x,y,z,t,hc,_⟩:=each 0 (by omega);have:=(World.cells?_some hc).2.2 0 (by omega);rw [show ad.add (0 * 3)=ad by simp [Addr.add]] at this;exact addr_flat this
    have cell:∀ i,i < len→∃ (r:Value × Value × Value) (t:Ty),W.cell? ⟨g,o + i * 3,none⟩=some r.1∧W.cell? ⟨g,o + i * 3 + 1,none⟩=some r.2.1∧W.cell? ⟨g,o + i * 3 + 2,none⟩=some r.2.2∧TV (fun _=>True) W (tri r) t:=fun i hi=>by
     obtain ⟨x,y,z,t,hc,ht⟩:=each i hi;have hc':=(World.cells?_some hc).2.2;refine ⟨(x,y,z),t,?_,?_,?_,ht⟩
     ·have:=hc' 0 (by omega);rw [add_off,add_off] at this;exact this
     ·have:=hc' 1 (by omega);rw [add_off,add_off] at this;exact this
     ·have:=hc' 2 (by omega);rw [add_off,add_off] at this;exact this
    have:∃ f:Nat→(Value × Value × Value) × Ty,∀ i,i < len→W.cell? ⟨g,o + i * 3,none⟩=some (f i).1.1∧W.cell? ⟨g,o + i * 3 + 1,none⟩=some (f i).1.2.1∧W.cell? ⟨g,o + i * 3 + 2,none⟩=some (f i).1.2.2∧TV (fun _=>True) W (tri (f i).1) (f i).2:=by
     have hch:∀ i,∃ p:(Value × Value × Value) × Ty,i < len→W.cell? ⟨g,o + i * 3,none⟩=some p.1.1∧W.cell? ⟨g,o + i * 3 + 1,none⟩=some p.1.2.1∧W.cell? ⟨g,o + i * 3 + 2,none⟩=some p.1.2.2∧TV (fun _=>True) W (tri p.1) p.2:=fun i=>by
      by_cases hi:i < len
      ·obtain ⟨r,t,h⟩:=cell i hi
       exact ⟨(r,t),fun _=>h⟩
      ·exact ⟨((.bool true,.bool true,.bool true),.mk 0 [] []),fun h=>absurd h hi⟩
     exact ⟨fun i=>(hch i).choose,fun i hi=>(hch i).choose_spec hi⟩
    obtain ⟨f,hf⟩:=this;refine ⟨(List.range len).map fun i=>(f i).2,(List.range len).map fun i=>(f i).1,⟨by simp;omega,.inr ⟨g,o,cap,trivial,by simp,fun i r hr=>?_⟩⟩,by simp,fun i r t hr ht=>?_⟩
    ·have hi:i < len:=by have:=(List.getElem?_eq_some_iff.1 hr).1;simpa using this
     rw [List.getElem?_map,List.getElem?_range hi] at hr
     cases hr
     exact ⟨(hf i hi).1,(hf i hi).2.1,(hf i hi).2.2.1⟩
    ·have hi:i < len:=by have:=(List.getElem?_eq_some_iff.1 hr).1;simpa using this
     rw [List.getElem?_map,List.getElem?_range hi] at hr ht
     cases hr
     cases ht
     exact (hf i hi).2.2.2
end
theorem cellsV:Tryz.prog.cellsOf 32=5:=by kernel_rfl
theorem cellsVK:Tryz.prog.cellsOf 28=1:=by kernel_rfl
theorem cellsInt:Tryz.prog.cellsOf 3=1:=by kernel_rfl
theorem cellsVE:Tryz.prog.cellsOf 29=1:=by kernel_rfl
theorem bytesV:Tryz.prog.bytesOf 32=80:=by kernel_rfl
section
variable {H:Type} {enc:TypeId × Value→H} {W:World}
theorem trod_struct5' {P:Program} {t:TypeId} {f0 f1 f2 f3 f4:Field} (m:Nat) {cs:List Value} {x:DataW H × List MemPlace} (ht:P.underlying t=some (.struct #[f0,f1,f2,f3,f4])) (h:DataW.trod enc P W 0 (fun _=>true) true (m + 1) t cs=some x) :
  ∃ y0 y1 y2 y3 y4 n,(n=m∧x.1=.agg [y0.1,y1.1,y2.1,y3.1,y4.1])∧cs.length=P.cellsOf t∧DataW.trod enc P W 0 (fun _=>true) true n f0.type ((cs.drop f0.offset).take (P.cellsOf f0.type))=some y0 ∧
   DataW.trod enc P W 0 (fun _=>true) true n f1.type ((cs.drop f1.offset).take (P.cellsOf f1.type))=some y1∧DataW.trod enc P W 0 (fun _=>true) true n f2.type ((cs.drop f2.offset).take (P.cellsOf f2.type))=some y2 ∧
   DataW.trod enc P W 0 (fun _=>true) true n f3.type ((cs.drop f3.offset).take (P.cellsOf f3.type))=some y3∧DataW.trod enc P W 0 (fun _=>true) true n f4.type ((cs.drop f4.offset).take (P.cellsOf f4.type))=some y4:=by
 obtain ⟨xs,n,hn,rfl,hl,hlen,hf⟩:=DataW.trod_struct ht h
 match xs,hlen with
 | [y0,y1,y2,y3,y4],_=>exact ⟨y0,y1,y2,y3,y4,n,⟨by omega,rfl⟩,hl,by simpa using hf 0 f0 rfl,by simpa using hf 1 f1 rfl,by simpa using hf 2 f2 rfl,by simpa using hf 3 f3 rfl,by simpa using hf 4 f4 rfl⟩
theorem open_val:∀ (fuel:Nat) (cs:List Value) (x:DataW H × List MemPlace),DataW.trod enc Tryz.prog W 0 (fun _=>true) true fuel 32 cs=some x→(∀ n∈x.1.weights Tryz.prog 32,n≤reachBytes) →
  ∃ a b c d e t,cs = [a,b,c,d,e]∧VV (fun _=>True) W (.agg #[a,b,c,d,e]) t:=by
 intro fuel
 induction fuel using Nat.strongRecOn with
 | ind fuel ih =>
  intro cs x h hw;have hr:=reach_le
  cases fuel with
  | zero=>simp [DataW.trod] at h
  | succ m =>
  obtain ⟨y0,y1,y2,y3,y4,n,hx,hl,h0,h1,h2,h3,h4⟩:=trod_struct5' m Tryz.underlying32 h;rw [cellsV] at hl
  obtain ⟨a,b,c,d,e,rfl⟩:∃ a b c d e,cs = [a,b,c,d,e]:=by
   match cs,hl with
   | [a,b,c,d,e],_=>exact ⟨a,b,c,d,e,rfl⟩
  obtain ⟨rfl,hx⟩:=hx;rw [hx] at hw;simp only [cellsVK,cellsInt,cellsS,cellsVE,cellsN] at h0 h1 h2 h3 h4;have e0:(List.drop 0 [a,b,c,d,e]).take 1 = [a]:=rfl;have e1:(List.drop 1 [a,b,c,d,e]).take 1 = [b]:=rfl;have e2:(List.drop 2 [a,b,c,d,e]).take 1 = [c]:=rfl;have e3:(List.drop 3 [a,b,c,d,e]).take 1 = [d]:=rfl;have e4:(List.drop 4 [a,b,c,d,e]).take 1 = [e]:=rfl;rw [e0] at h0;rw [e1] at h1;rw [e2] at h2;rw [e3] at h3;rw [e4] at h4;obtain ⟨k,hk,_,_⟩:=DataW.trod_int Tryz.underlying28 h0;simp only [List.cons.injEq,and_true] at hk;subst hk;obtain ⟨nn,hk,_,_⟩:=DataW.trod_int Tryz.underlying3 h1;simp only [List.cons.injEq,and_true] at hk;subst hk;obtain ⟨s,hk,hy2,_⟩:=DataW.trod_string Tryz.underlying9 h2;simp only [List.cons.injEq,and_true] at hk;subst hk
  have hwS:∀ n∈y2.1.weights Tryz.prog 9,n≤reachBytes:=fun q hq=>hw q (by
   rw [DataW.weights,Tryz.underlying32];simp only [List.map_cons,List.map_nil,DataW.weightsEach,List.mem_append]
   exact .inr (.inr (.inl hq)))
  have hw1:∀ n∈y3.1.weights Tryz.prog 29,n≤reachBytes:=fun q hq=>hw q (by
   rw [DataW.weights,Tryz.underlying32];simp only [List.map_cons,List.map_nil,DataW.weightsEach,List.mem_append]
   exact .inr (.inr (.inr (.inl hq))))
  have hw2:∀ n∈y4.1.weights Tryz.prog 30,n≤reachBytes:=fun q hq=>hw q (by
   rw [DataW.weights,Tryz.underlying32];simp only [List.map_cons,List.map_nil,DataW.weightsEach,List.mem_append]
   exact .inr (.inr (.inr (.inr (.inl hq)))))
  have hsz:s.size≤140737488355328:=by
   have:=hwS s.data.toList.length (by rw [hy2,DataW.weights];exact List.mem_singleton.2 rfl);rw [size_eq];omega
  obtain ⟨ks,hks⟩:=open_names h4 hw2
  suffices hE:∃ is,WV (fun _=>True) W d is by
   obtain ⟨is,his⟩:=hE;exact ⟨_,_,_,d,e,.mk k nn s is ks,rfl,VV.mk' hsz hks his⟩
  rcases DataW.trod_slice Tryz.underlying29 h3 with ⟨hcs,hx⟩ | ⟨ad,len,cap,elems,rest,n',rfl,hcs,hx,hb,hlc,hm,hlen,hel,hsp,hns'⟩
  ·simp only [List.cons.injEq,and_true] at hcs
   subst hcs;exact ⟨[],WV.nil _ _⟩
  ·simp only [List.cons.injEq,and_true] at hcs
   subst hcs;subst hx
   dsimp only at hw1
   have hwE:∀ n,n∈((elems.map (·.1)).length + (rest.map (·.1)).length) * Tryz.prog.bytesOf 32 :: (DataW.weightsAll Tryz.prog 32 (elems.map (·.1)) ++ DataW.weightsAll Tryz.prog 32 (rest.map (·.1)))→n≤reachBytes:=fun q hq=>hw1 q (by
    rw [DataW.weights,Tryz.underlying29];exact hq)
   have hbig:=hwE _ (List.mem_cons_self ..);rw [bytesV,List.length_map,hlen] at hbig
   have each:∀ i,i < len→∃ x y z u v t,W.cells? 0 (ad.add (i * 5)) 5=some [x,y,z,u,v]∧VV (fun _=>True) W (.agg #[x,y,z,u,v]) t:=fun i hi=>by
    have hi':i < elems.length:=by omega
    have he:=hel i hi;rw [cellsV,lG hi'] at he
    cases hcq:W.cells? 0 (ad.add (i * 5)) 5 with
    | none=>rw [hcq] at he;cases he
    | some l =>
     rw [hcq] at he;obtain ⟨x,y,z,u,v,t,rfl,ht⟩:=ih n' (by omega) l elems[i] he (fun q hq=>hwE q (List.mem_cons_of_mem _ (List.mem_append_left _ (weights_all (d:=elems[i].1) (List.mem_map.2 ⟨_,lM hi',rfl⟩) hq))));exact ⟨x,y,z,u,v,t,rfl,ht⟩
   by_cases h00:len=0
   ·subst h00;exact ⟨[],⟨[],⟨by simp,.inl ⟨rfl,_,_,rfl⟩⟩,rfl,fun i r e h=>by simp at h⟩⟩
   ·obtain ⟨g,o,rfl⟩:∃ g o,ad=⟨g,o,none⟩:=by
     obtain ⟨x,y,z,u,v,t,hc,_⟩:=each 0 (by omega);have:=(World.cells?_some hc).2.2 0 (by omega);rw [show ad.add (0 * 5)=ad by simp [Addr.add]] at this;exact addr_flat this
    have cell:∀ i,i < len→∃ (r:V5) (t:Vl),W.cell? ⟨g,o + i * 5,none⟩=some r.1∧W.cell? ⟨g,o + i * 5 + 1,none⟩=some r.2.1∧W.cell? ⟨g,o + i * 5 + 2,none⟩=some r.2.2.1∧W.cell? ⟨g,o + i * 5 + 3,none⟩=some r.2.2.2.1∧W.cell? ⟨g,o + i * 5 + 4,none⟩=some r.2.2.2.2∧VV (fun _=>True) W (pent r) t:=fun i hi=>by
     obtain ⟨x,y,z,u,v,t,hc,ht⟩:=each i hi;have hc':=(World.cells?_some hc).2.2;refine ⟨(x,y,z,u,v),t,?_,?_,?_,?_,?_,ht⟩
     ·have:=hc' 0 (by omega);rw [add_off,add_off] at this;exact this
     ·have:=hc' 1 (by omega);rw [add_off,add_off] at this;exact this
     ·have:=hc' 2 (by omega);rw [add_off,add_off] at this;exact this
     ·have:=hc' 3 (by omega);rw [add_off,add_off] at this;exact this
     ·have:=hc' 4 (by omega);rw [add_off,add_off] at this;exact this
    have:∃ f:Nat→V5 × Vl,∀ i,i < len→W.cell? ⟨g,o + i * 5,none⟩=some (f i).1.1∧W.cell? ⟨g,o + i * 5 + 1,none⟩=some (f i).1.2.1∧W.cell? ⟨g,o + i * 5 + 2,none⟩=some (f i).1.2.2.1∧W.cell? ⟨g,o + i * 5 + 3,none⟩=some (f i).1.2.2.2.1∧W.cell? ⟨g,o + i * 5 + 4,none⟩=some (f i).1.2.2.2.2∧VV (fun _=>True) W (pent (f i).1) (f i).2:=by
     have hch:∀ i,∃ p:V5 × Vl,i < len→W.cell? ⟨g,o + i * 5,none⟩=some p.1.1∧W.cell? ⟨g,o + i * 5 + 1,none⟩=some p.1.2.1∧W.cell? ⟨g,o + i * 5 + 2,none⟩=some p.1.2.2.1∧W.cell? ⟨g,o + i * 5 + 3,none⟩=some p.1.2.2.2.1∧W.cell? ⟨g,o + i * 5 + 4,none⟩=some p.1.2.2.2.2∧VV (fun _=>True) W (pent p.1) p.2:=fun i=>by
      by_cases hi:i < len
      ·obtain ⟨r,t,h⟩:=cell i hi
       exact ⟨(r,t),fun _=>h⟩
      ·exact ⟨((.bool true,.bool true,.bool true,.bool true,.bool true),.mk 0 0 ⟨#[]⟩ [] []),fun h=>absurd h hi⟩
     exact ⟨fun i=>(hch i).choose,fun i hi=>(hch i).choose_spec hi⟩
    obtain ⟨f,hf⟩:=this;refine ⟨(List.range len).map fun i=>(f i).2,(List.range len).map fun i=>(f i).1,⟨by simp;omega,.inr ⟨g,o,cap,trivial,by simp,fun i r hr=>?_⟩⟩,by simp,fun i r t hr ht=>?_⟩
    ·have hi:i < len:=by have:=(List.getElem?_eq_some_iff.1 hr).1;simpa using this
     rw [List.getElem?_map,List.getElem?_range hi] at hr
     cases hr
     exact ⟨(hf i hi).1,(hf i hi).2.1,(hf i hi).2.2.1,(hf i hi).2.2.2.1,(hf i hi).2.2.2.2.1⟩
    ·have hi:i < len:=by have:=(List.getElem?_eq_some_iff.1 hr).1;simpa using this
     rw [List.getElem?_map,List.getElem?_range hi] at hr ht
     cases hr
     cases ht
     exact (hf i hi).2.2.2.2.2
theorem open_value {v:Value} {d:DataW H} {p:List MemPlace} {base:Nat} (hv:Value.okWide Tryz.prog W .any base 32 v) (h:DataW.Trod enc Tryz.prog W 0 (fun _=>true) true 32 v d p)
  (hw:∀ n∈d.weights Tryz.prog 32,n≤reachBytes):∃ t,VV (fun _=>True) W v t:=by
 obtain ⟨cs,rfl,hcs⟩:=okWide_struct Tryz.underlying32 hv;obtain ⟨fuel,hf⟩:=h;obtain ⟨a,b,c,x,y,t,he,ht⟩:=open_val fuel _ _ hf hw
 have:cs.toList = [a,b,c,x,y]:=by simpa [Value.cells] using he
 have e:cs=#[a,b,c,x,y]:=Array.toList_inj.1 (by rw [this]);exact ⟨t,by rw [e];exact ht⟩
end
theorem cellsB:Tryz.prog.cellsOf 4=1:=by kernel_rfl
theorem cellsMo:Tryz.prog.cellsOf 62=1:=by kernel_rfl
theorem cellsAL:Tryz.prog.cellsOf 22=1:=by kernel_rfl
theorem cellsNL:Tryz.prog.cellsOf 23=1:=by kernel_rfl
theorem cellsA8:Tryz.prog.cellsOf 64=8:=by kernel_rfl
theorem cellsNe5:Tryz.prog.cellsOf 102=5:=by kernel_rfl
theorem cellsSc2:Tryz.prog.cellsOf 25=2:=by kernel_rfl
theorem cellsRT4:Tryz.prog.cellsOf 27=4:=by kernel_rfl
theorem cellsLi4:Tryz.prog.cellsOf 37=4:=by kernel_rfl
theorem cellsI13:Tryz.prog.cellsOf 34=13:=by kernel_rfl
theorem cellsRf:Tryz.prog.cellsOf 35=1:=by kernel_rfl
theorem cellsIn31:Tryz.prog.cellsOf 39=31:=by kernel_rfl
theorem bytesA:Tryz.prog.bytesOf 64=88:=by kernel_rfl
theorem bytesNe:Tryz.prog.bytesOf 102=64:=by kernel_rfl
section
variable {H:Type} {enc:TypeId × Value→H} {W:World}
theorem open_list {α:Type} {T E c b:Nat} (ht:Tryz.prog.underlying T=some (.slice E)) (hcl:Tryz.prog.cellsOf E=c) (hc0:0 < c) (hby:Tryz.prog.bytesOf E=b) (hb0:0 < b) (Op:List Value→α→Prop) (dflt:α) {fuel:Nat} {v:Value} {x:DataW H × List MemPlace}
  (h:DataW.trod enc Tryz.prog W 0 (fun _=>true) true fuel T [v]=some x) (hw:∀ n∈x.1.weights Tryz.prog T,n≤reachBytes)
  (hop:∀ (n:Nat) (cs:List Value) (y:DataW H × List MemPlace),DataW.trod enc Tryz.prog W 0 (fun _=>true) true n E cs=some y→(∀ q∈y.1.weights Tryz.prog E,q≤reachBytes)→∃ a,Op cs a) :
  ∃ l:List α,l.length≤140737488355328∧((l = []∧∃ oa c,v=.slice oa 0 c)∨∃ g o cap,v=.slice (some ⟨g,o,none⟩) l.length cap∧∀ (i:Nat) (a:α),l[i]? = some a→∃ cs,Op cs a∧cs.length=c∧∀ k,k < c→W.cell? ⟨g,o + i * c + k,none⟩=cs[k]?):=by
 have hr:=reach_le
 rcases DataW.trod_slice ht h with ⟨hcs,hx⟩ | ⟨ad,len,cap,elems,rest,n',rfl,hcs,hx,hb,hlc,hm,hlen,hel,hsp,hns'⟩
 ·simp only [List.cons.injEq,and_true] at hcs
  subst hcs;exact ⟨[],by simp,.inl ⟨rfl,_,_,rfl⟩⟩
 ·simp only [List.cons.injEq,and_true] at hcs
  subst hcs;subst hx
  have hwE:∀ n,n∈((elems.map (·.1)).length + (rest.map (·.1)).length) * Tryz.prog.bytesOf E :: (DataW.weightsAll Tryz.prog E (elems.map (·.1)) ++ DataW.weightsAll Tryz.prog E (rest.map (·.1)))→n≤reachBytes:=fun q hq=>hw q (by
   rw [DataW.weights,ht];exact hq)
  have hbig:=hwE _ (List.mem_cons_self ..);rw [hby,List.length_map,hlen] at hbig
  have hll:len≤140737488355328:=by
   have h1:len + (rest.map (·.1)).length≤(len + (rest.map (·.1)).length) * b:=Nat.le_mul_of_pos_right _ hb0
   omega
  have each:∀ i,i < len→∃ (cs:List Value) (a:α),W.cells? 0 (ad.add (i * c)) c=some cs∧Op cs a:=fun i hi=>by
   have hi':i < elems.length:=by omega
   have he:=hel i hi;rw [hcl,lG hi'] at he
   cases hcq:W.cells? 0 (ad.add (i * c)) c with
   | none=>rw [hcq] at he;cases he
   | some l =>
    rw [hcq] at he;obtain ⟨a,ha⟩:=hop n' l elems[i] he (fun q hq=>hwE q (List.mem_cons_of_mem _ (List.mem_append_left _ (weights_all (d:=elems[i].1) (List.mem_map.2 ⟨_,lM hi',rfl⟩) hq))));exact ⟨l,a,rfl,ha⟩
  by_cases h00:len=0
  ·subst h00;exact ⟨[],by simp,.inl ⟨rfl,_,_,rfl⟩⟩
  ·obtain ⟨g,o,rfl⟩:∃ g o,ad=⟨g,o,none⟩:=by
    obtain ⟨cs,a,hc,_⟩:=each 0 (by omega);obtain ⟨-,h2,h3⟩:=World.cells?_some hc;have:=h3 0 hc0;rw [show ad.add (0 * c)=ad by simp [Addr.add],lG (by omega)] at this;exact addr_flat this
   have hch:∀ i,∃ p:List Value × α,i < len→Op p.1 p.2∧p.1.length=c∧∀ k,k < c→W.cell? ⟨g,o + i * c + k,none⟩=p.1[k]?:=fun i=>by
    by_cases hi:i < len
    ·obtain ⟨cs,a,hc,ha⟩:=each i hi
     obtain ⟨-,h2,h3⟩:=World.cells?_some hc;exact ⟨(cs,a),fun _=>⟨ha,h2,fun k hk=>by have:=h3 k hk;rw [add_off,add_off] at this;exact this⟩⟩
    ·exact ⟨([],dflt),fun h=>absurd h hi⟩
   refine ⟨(List.range len).map fun i=>(hch i).choose.2,by simp;omega,.inr ⟨g,o,cap,by simp,fun i a ha=>?_⟩⟩
   have hi:i < len:=by have:=(List.getElem?_eq_some_iff.1 ha).1;simpa using this
   rw [List.getElem?_map,List.getElem?_range hi] at ha
   cases ha
   exact ⟨_,(hch i).choose_spec hi⟩
abbrev AttrOp (W:World) (cs:List Value) (a:At):Prop:=∃ k oe me ce on mn cn,cs = [.string a.name,.int .i64 k,.slice oe me ce,.slice on mn cn,.int .i64 a.mode,.bool a.rep,.bool a.sens,.bool a.vol]∧TV (fun _=>True) W (.agg #[.int .i64 k,.slice oe me ce,.slice on mn cn]) a.ty∧a.name.size≤140737488355328
theorem open_attr {fuel:Nat} {cs:List Value} {x:DataW H × List MemPlace} (h:DataW.trod enc Tryz.prog W 0 (fun _=>true) true fuel 64 cs=some x) (hw:∀ n∈x.1.weights Tryz.prog 64,n≤reachBytes) :
  ∃ a,AttrOp W cs a:=by
 have hr:=reach_le
 cases fuel with
 | zero=>simp [DataW.trod] at h
 | succ m =>
 obtain ⟨xs,n,hn,rfl,hl,hlen,hf⟩:=DataW.trod_struct Tryz.underlying64 h;rw [cellsA8] at hl
 obtain ⟨c0,c1,c2,c3,c4,c5,c6,c7,rfl⟩:∃ c0 c1 c2 c3 c4 c5 c6 c7,cs = [c0,c1,c2,c3,c4,c5,c6,c7]:=by
  match cs,hl with
  | [c0,c1,c2,c3,c4,c5,c6,c7],_=>exact ⟨c0,c1,c2,c3,c4,c5,c6,c7,rfl⟩
 match xs,hlen with
 | [y0,y1,y2,y3,y4,y5],_ =>
  have h0:DataW.trod enc Tryz.prog W 0 (fun _=>true) true n 9 ((List.drop 0 [c0,c1,c2,c3,c4,c5,c6,c7]).take (Tryz.prog.cellsOf 9))=some y0:=by simpa using hf 0 _ rfl
  rw [cellsS,show (List.drop 0 [c0,c1,c2,c3,c4,c5,c6,c7]).take 1 = [c0] from rfl] at h0
  have w0:∀ q∈y0.1.weights Tryz.prog 9,q≤reachBytes:=fun q hq=>hw q (by
   rw [DataW.weights,Tryz.underlying64];simp only [List.map_cons,List.map_nil,DataW.weightsEach,List.mem_append]
   exact .inl hq)
  have h1:DataW.trod enc Tryz.prog W 0 (fun _=>true) true n 61 ((List.drop 1 [c0,c1,c2,c3,c4,c5,c6,c7]).take (Tryz.prog.cellsOf 61))=some y1:=by simpa using hf 1 _ rfl
  rw [cellsT,show (List.drop 1 [c0,c1,c2,c3,c4,c5,c6,c7]).take 3 = [c1,c2,c3] from rfl] at h1
  have w1:∀ q∈y1.1.weights Tryz.prog 61,q≤reachBytes:=fun q hq=>hw q (by
   rw [DataW.weights,Tryz.underlying64];simp only [List.map_cons,List.map_nil,DataW.weightsEach,List.mem_append]
   exact .inr (.inl hq))
  have h2:DataW.trod enc Tryz.prog W 0 (fun _=>true) true n 62 ((List.drop 4 [c0,c1,c2,c3,c4,c5,c6,c7]).take (Tryz.prog.cellsOf 62))=some y2:=by simpa using hf 2 _ rfl
  rw [cellsMo,show (List.drop 4 [c0,c1,c2,c3,c4,c5,c6,c7]).take 1 = [c4] from rfl] at h2
  have h3:DataW.trod enc Tryz.prog W 0 (fun _=>true) true n 4 ((List.drop 5 [c0,c1,c2,c3,c4,c5,c6,c7]).take (Tryz.prog.cellsOf 4))=some y3:=by simpa using hf 3 _ rfl
  rw [cellsB,show (List.drop 5 [c0,c1,c2,c3,c4,c5,c6,c7]).take 1 = [c5] from rfl] at h3
  have h4:DataW.trod enc Tryz.prog W 0 (fun _=>true) true n 4 ((List.drop 6 [c0,c1,c2,c3,c4,c5,c6,c7]).take (Tryz.prog.cellsOf 4))=some y4:=by simpa using hf 4 _ rfl
  rw [cellsB,show (List.drop 6 [c0,c1,c2,c3,c4,c5,c6,c7]).take 1 = [c6] from rfl] at h4
  have h5:DataW.trod enc Tryz.prog W 0 (fun _=>true) true n 4 ((List.drop 7 [c0,c1,c2,c3,c4,c5,c6,c7]).take (Tryz.prog.cellsOf 4))=some y5:=by simpa using hf 5 _ rfl
  rw [cellsB,show (List.drop 7 [c0,c1,c2,c3,c4,c5,c6,c7]).take 1 = [c7] from rfl] at h5;obtain ⟨s0,e0,hy0,-⟩:=DataW.trod_string Tryz.underlying9 h0;simp only [List.cons.injEq,and_true] at e0;subst e0
  have hs0:s0.size≤140737488355328:=by
   have:=w0 s0.data.toList.length (by rw [hy0,DataW.weights];exact List.mem_singleton.2 rfl);rw [size_eq];omega
  obtain ⟨q0,q1,q2,t1,hv1,ht1⟩:=open_type _ _ _ h1 w1;simp only [List.cons.injEq,and_true] at hv1;obtain ⟨rfl,rfl,rfl⟩:=hv1;obtain ⟨tk1,oe1,me1,ce1,ot1,mt1,ct1,rfl,rfl,rfl⟩:=ht1.agg3;obtain ⟨n2,e2,-,-⟩:=DataW.trod_int Tryz.underlying62 h2;simp only [List.cons.injEq,and_true] at e2;subst e2;obtain ⟨b3,e3,-⟩:=DataW.trod_bool Tryz.underlying4 h3;simp only [List.cons.injEq,and_true] at e3;subst e3;obtain ⟨b4,e4,-⟩:=DataW.trod_bool Tryz.underlying4 h4;simp only [List.cons.injEq,and_true] at e4;subst e4;obtain ⟨b5,e5,-⟩:=DataW.trod_bool Tryz.underlying4 h5;simp only [List.cons.injEq,and_true] at e5;subst e5;exact ⟨⟨s0,t1,n2,b3,b4,b5⟩,_,_,_,_,_,_,_,rfl,ht1,hs0⟩
theorem open_attrs {fuel:Nat} {v:Value} {x:DataW H × List MemPlace} (h:DataW.trod enc Tryz.prog W 0 (fun _=>true) true fuel 22 [v]=some x) (hw:∀ n∈x.1.weights Tryz.prog 22,n≤reachBytes):∃ l,AV (fun _=>True) W v l:=by
 obtain ⟨l,hl,hr⟩:=open_list Tryz.underlying22 cellsA8 (by decide) bytesA (by decide) (AttrOp W) ⟨⟨#[]⟩,.mk 0 [] [],0,false,false,false⟩ h hw (fun n cs y h1 h2=>open_attr h1 h2);refine ⟨l,hl,hr.imp id fun ⟨g,o,c,e,hc⟩=>⟨g,o,c,trivial,e,fun i a ha=>?_⟩⟩;obtain ⟨cs,⟨k,oe,me,ce,on,mn,cn,e2,ht,hs⟩,-,hk⟩:=hc i a ha;rw [e2] at hk;exact ⟨k,oe,me,ce,on,mn,cn,hk 0 (by decide),hk 1 (by decide),hk 2 (by decide),hk 3 (by decide),hk 4 (by decide),hk 5 (by decide),hk 6 (by decide),hk 7 (by decide),ht,hs⟩
abbrev NestOp (W:World) (cs:List Value) (n:Ne):Prop:=∃ oa ca,cs = [.string n.name,.int .i64 n.mn,.int .i64 n.mx,.slice oa n.attrs.length ca,.bool n.rep]∧AV (fun _=>True) W (.slice oa n.attrs.length ca) n.attrs∧n.name.size≤140737488355328
theorem open_nested {fuel:Nat} {cs:List Value} {x:DataW H × List MemPlace} (h:DataW.trod enc Tryz.prog W 0 (fun _=>true) true fuel 102 cs=some x) (hw:∀ n∈x.1.weights Tryz.prog 102,n≤reachBytes) :
  ∃ a,NestOp W cs a:=by
 have hr:=reach_le
 cases fuel with
 | zero=>simp [DataW.trod] at h
 | succ m =>
 obtain ⟨xs,n,hn,rfl,hl,hlen,hf⟩:=DataW.trod_struct Tryz.underlying102 h;rw [cellsNe5] at hl
 obtain ⟨c0,c1,c2,c3,c4,rfl⟩:∃ c0 c1 c2 c3 c4,cs = [c0,c1,c2,c3,c4]:=by
  match cs,hl with
  | [c0,c1,c2,c3,c4],_=>exact ⟨c0,c1,c2,c3,c4,rfl⟩
 match xs,hlen with
 | [y0,y1,y2,y3,y4],_ =>
  have h0:DataW.trod enc Tryz.prog W 0 (fun _=>true) true n 9 ((List.drop 0 [c0,c1,c2,c3,c4]).take (Tryz.prog.cellsOf 9))=some y0:=by simpa using hf 0 _ rfl
  rw [cellsS,show (List.drop 0 [c0,c1,c2,c3,c4]).take 1 = [c0] from rfl] at h0
  have w0:∀ q∈y0.1.weights Tryz.prog 9,q≤reachBytes:=fun q hq=>hw q (by
   rw [DataW.weights,Tryz.underlying102];simp only [List.map_cons,List.map_nil,DataW.weightsEach,List.mem_append]
   exact .inl hq)
  have h1:DataW.trod enc Tryz.prog W 0 (fun _=>true) true n 3 ((List.drop 1 [c0,c1,c2,c3,c4]).take (Tryz.prog.cellsOf 3))=some y1:=by simpa using hf 1 _ rfl
  rw [cellsInt,show (List.drop 1 [c0,c1,c2,c3,c4]).take 1 = [c1] from rfl] at h1
  have h2:DataW.trod enc Tryz.prog W 0 (fun _=>true) true n 3 ((List.drop 2 [c0,c1,c2,c3,c4]).take (Tryz.prog.cellsOf 3))=some y2:=by simpa using hf 2 _ rfl
  rw [cellsInt,show (List.drop 2 [c0,c1,c2,c3,c4]).take 1 = [c2] from rfl] at h2
  have h3:DataW.trod enc Tryz.prog W 0 (fun _=>true) true n 22 ((List.drop 3 [c0,c1,c2,c3,c4]).take (Tryz.prog.cellsOf 22))=some y3:=by simpa using hf 3 _ rfl
  rw [cellsAL,show (List.drop 3 [c0,c1,c2,c3,c4]).take 1 = [c3] from rfl] at h3
  have w3:∀ q∈y3.1.weights Tryz.prog 22,q≤reachBytes:=fun q hq=>hw q (by
   rw [DataW.weights,Tryz.underlying102];simp only [List.map_cons,List.map_nil,DataW.weightsEach,List.mem_append]
   exact .inr (.inr (.inr (.inl hq))))
  have h4:DataW.trod enc Tryz.prog W 0 (fun _=>true) true n 4 ((List.drop 4 [c0,c1,c2,c3,c4]).take (Tryz.prog.cellsOf 4))=some y4:=by simpa using hf 4 _ rfl
  rw [cellsB,show (List.drop 4 [c0,c1,c2,c3,c4]).take 1 = [c4] from rfl] at h4;obtain ⟨s0,e0,hy0,-⟩:=DataW.trod_string Tryz.underlying9 h0;simp only [List.cons.injEq,and_true] at e0;subst e0
  have hs0:s0.size≤140737488355328:=by
   have:=w0 s0.data.toList.length (by rw [hy0,DataW.weights];exact List.mem_singleton.2 rfl);rw [size_eq];omega
  obtain ⟨n1,e1,-,-⟩:=DataW.trod_int Tryz.underlying3 h1;simp only [List.cons.injEq,and_true] at e1;subst e1;obtain ⟨n2,e2,-,-⟩:=DataW.trod_int Tryz.underlying3 h2;simp only [List.cons.injEq,and_true] at e2;subst e2;obtain ⟨al3,ha3⟩:=open_attrs h3 w3;obtain ⟨oa3,ca3,ea3⟩:=ha3.len;subst ea3;obtain ⟨b4,e4,-⟩:=DataW.trod_bool Tryz.underlying4 h4;simp only [List.cons.injEq,and_true] at e4;subst e4;exact ⟨⟨s0,n1,n2,al3,b4⟩,_,_,rfl,ha3,hs0⟩
theorem open_nesteds {fuel:Nat} {v:Value} {x:DataW H × List MemPlace} (h:DataW.trod enc Tryz.prog W 0 (fun _=>true) true fuel 23 [v]=some x) (hw:∀ n∈x.1.weights Tryz.prog 23,n≤reachBytes):∃ l,KV (fun _=>True) W v l:=by
 obtain ⟨l,hl,hr⟩:=open_list Tryz.underlying23 cellsNe5 (by decide) bytesNe (by decide) (NestOp W) ⟨⟨#[]⟩,0,0,[],false⟩ h hw (fun n cs y h1 h2=>open_nested h1 h2);refine ⟨l,hl,hr.imp id fun ⟨g,o,c,e,hc⟩=>⟨g,o,c,trivial,e,fun i a ha=>?_⟩⟩;obtain ⟨cs,⟨oa,ca,e2,ht,hs⟩,-,hk⟩:=hc i a ha;rw [e2] at hk;exact ⟨oa,ca,hk 0 (by decide),hk 1 (by decide),hk 2 (by decide),hk 3 (by decide),hk 4 (by decide),ht,hs⟩
theorem open_schema {fuel:Nat} {cs:List Value} {x:DataW H × List MemPlace} (h:DataW.trod enc Tryz.prog W 0 (fun _=>true) true fuel 25 cs=some x) (hw:∀ n∈x.1.weights Tryz.prog 25,n≤reachBytes) :
  ∃ s va vn,cs = [va,vn]∧SCV (fun _=>True) W va vn s:=by
 have hr:=reach_le
 cases fuel with
 | zero=>simp [DataW.trod] at h
 | succ m =>
 obtain ⟨xs,n,hn,rfl,hl,hlen,hf⟩:=DataW.trod_struct Tryz.underlying25 h;rw [cellsSc2] at hl
 obtain ⟨c0,c1,rfl⟩:∃ c0 c1,cs = [c0,c1]:=by
  match cs,hl with
  | [c0,c1],_=>exact ⟨c0,c1,rfl⟩
 match xs,hlen with
 | [y0,y1],_ =>
  have h0:DataW.trod enc Tryz.prog W 0 (fun _=>true) true n 22 ((List.drop 0 [c0,c1]).take (Tryz.prog.cellsOf 22))=some y0:=by simpa using hf 0 _ rfl
  rw [cellsAL,show (List.drop 0 [c0,c1]).take 1 = [c0] from rfl] at h0
  have w0:∀ q∈y0.1.weights Tryz.prog 22,q≤reachBytes:=fun q hq=>hw q (by
   rw [DataW.weights,Tryz.underlying25];simp only [List.map_cons,List.map_nil,DataW.weightsEach,List.mem_append]
   exact .inl hq)
  have h1:DataW.trod enc Tryz.prog W 0 (fun _=>true) true n 23 ((List.drop 1 [c0,c1]).take (Tryz.prog.cellsOf 23))=some y1:=by simpa using hf 1 _ rfl
  rw [cellsNL,show (List.drop 1 [c0,c1]).take 1 = [c1] from rfl] at h1
  have w1:∀ q∈y1.1.weights Tryz.prog 23,q≤reachBytes:=fun q hq=>hw q (by
   rw [DataW.weights,Tryz.underlying25];simp only [List.map_cons,List.map_nil,DataW.weightsEach,List.mem_append]
   exact .inr (.inl hq))
  obtain ⟨al0,ha0⟩:=open_attrs h0 w0;obtain ⟨oa0,ca0,ea0⟩:=ha0.len;subst ea0;obtain ⟨nl1,hnl1⟩:=open_nesteds h1 w1;obtain ⟨onl1,cnl1,enl1⟩:=hnl1.len;subst enl1;exact ⟨⟨al0,nl1⟩,_,_,rfl,ha0,hnl1⟩
theorem open_rt {fuel:Nat} {cs:List Value} {x:DataW H × List MemPlace} (h:DataW.trod enc Tryz.prog W 0 (fun _=>true) true fuel 27 cs=some x) (hw:∀ n∈x.1.weights Tryz.prog 27,n≤reachBytes) :
  ∃ (nm:ByteArray) (s:Sc) (q:Int) (oa:Option Addr) (ca:Nat) (ob:Option Addr) (cb:Nat),cs = [.string nm,.slice oa s.attrs.length ca,.slice ob s.nested.length cb,.int .i64 q]∧SCV (fun _=>True) W (.slice oa s.attrs.length ca) (.slice ob s.nested.length cb) s:=by
 have hr:=reach_le
 cases fuel with
 | zero=>simp [DataW.trod] at h
 | succ m =>
 obtain ⟨xs,n,hn,rfl,hl,hlen,hf⟩:=DataW.trod_struct Tryz.underlying27 h;rw [cellsRT4] at hl
 obtain ⟨c0,c1,c2,c3,rfl⟩:∃ c0 c1 c2 c3,cs = [c0,c1,c2,c3]:=by
  match cs,hl with
  | [c0,c1,c2,c3],_=>exact ⟨c0,c1,c2,c3,rfl⟩
 match xs,hlen with
 | [y0,y1,y2],_ =>
  have h0:DataW.trod enc Tryz.prog W 0 (fun _=>true) true n 9 ((List.drop 0 [c0,c1,c2,c3]).take (Tryz.prog.cellsOf 9))=some y0:=by simpa using hf 0 _ rfl
  rw [cellsS,show (List.drop 0 [c0,c1,c2,c3]).take 1 = [c0] from rfl] at h0
  have h1:DataW.trod enc Tryz.prog W 0 (fun _=>true) true n 25 ((List.drop 1 [c0,c1,c2,c3]).take (Tryz.prog.cellsOf 25))=some y1:=by simpa using hf 1 _ rfl
  rw [cellsSc2,show (List.drop 1 [c0,c1,c2,c3]).take 2 = [c1,c2] from rfl] at h1
  have w1:∀ q∈y1.1.weights Tryz.prog 25,q≤reachBytes:=fun q hq=>hw q (by
   rw [DataW.weights,Tryz.underlying27];simp only [List.map_cons,List.map_nil,DataW.weightsEach,List.mem_append]
   exact .inr (.inl hq))
  have h2:DataW.trod enc Tryz.prog W 0 (fun _=>true) true n 3 ((List.drop 3 [c0,c1,c2,c3]).take (Tryz.prog.cellsOf 3))=some y2:=by simpa using hf 2 _ rfl
  rw [cellsInt,show (List.drop 3 [c0,c1,c2,c3]).take 1 = [c3] from rfl] at h2;obtain ⟨s0,e0,hy0,-⟩:=DataW.trod_string Tryz.underlying9 h0;simp only [List.cons.injEq,and_true] at e0;subst e0;obtain ⟨sc1,va1,vn1,es1,hsc1⟩:=open_schema h1 w1
  try simp only [List.cons.injEq,and_true] at es1
  obtain ⟨rfl,rfl⟩:=es1;obtain ⟨oa1,ca1,ea1⟩:=hsc1.1.len;subst ea1;obtain ⟨ob1,cb1,eb1⟩:=hsc1.2.len;subst eb1;obtain ⟨n2,e2,-,-⟩:=DataW.trod_int Tryz.underlying3 h2;simp only [List.cons.injEq,and_true] at e2;subst e2;exact ⟨s0,sc1,n2,_,_,_,_,rfl,hsc1⟩
theorem open_life {fuel:Nat} {cs:List Value} {x:DataW H × List MemPlace} (h:DataW.trod enc Tryz.prog W 0 (fun _=>true) true fuel 37 cs=some x) (hw:∀ n∈x.1.weights Tryz.prog 37,n≤reachBytes) :
  ∃ (c p:Bool) (ig:List ByteArray) (og:Option Addr) (cg:Nat) (ot:Option Addr) (mt ct:Nat),cs = [.bool c,.bool p,.slice og ig.length cg,.slice ot mt ct]∧SV (fun _=>True) W (.slice og ig.length cg) ig:=by
 have hr:=reach_le
 cases fuel with
 | zero=>simp [DataW.trod] at h
 | succ m =>
 obtain ⟨xs,n,hn,rfl,hl,hlen,hf⟩:=DataW.trod_struct Tryz.underlying37 h;rw [cellsLi4] at hl
 obtain ⟨c0,c1,c2,c3,rfl⟩:∃ c0 c1 c2 c3,cs = [c0,c1,c2,c3]:=by
  match cs,hl with
  | [c0,c1,c2,c3],_=>exact ⟨c0,c1,c2,c3,rfl⟩
 match xs,hlen with
 | [y0,y1,y2,y3],_ =>
  have h0:DataW.trod enc Tryz.prog W 0 (fun _=>true) true n 4 ((List.drop 0 [c0,c1,c2,c3]).take (Tryz.prog.cellsOf 4))=some y0:=by simpa using hf 0 _ rfl
  rw [cellsB,show (List.drop 0 [c0,c1,c2,c3]).take 1 = [c0] from rfl] at h0
  have h1:DataW.trod enc Tryz.prog W 0 (fun _=>true) true n 4 ((List.drop 1 [c0,c1,c2,c3]).take (Tryz.prog.cellsOf 4))=some y1:=by simpa using hf 1 _ rfl
  rw [cellsB,show (List.drop 1 [c0,c1,c2,c3]).take 1 = [c1] from rfl] at h1
  have h2:DataW.trod enc Tryz.prog W 0 (fun _=>true) true n 30 ((List.drop 2 [c0,c1,c2,c3]).take (Tryz.prog.cellsOf 30))=some y2:=by simpa using hf 2 _ rfl
  rw [cellsN,show (List.drop 2 [c0,c1,c2,c3]).take 1 = [c2] from rfl] at h2
  have w2:∀ q∈y2.1.weights Tryz.prog 30,q≤reachBytes:=fun q hq=>hw q (by
   rw [DataW.weights,Tryz.underlying37];simp only [List.map_cons,List.map_nil,DataW.weightsEach,List.mem_append]
   exact .inr (.inr (.inl hq)))
  have h3:DataW.trod enc Tryz.prog W 0 (fun _=>true) true n 35 ((List.drop 3 [c0,c1,c2,c3]).take (Tryz.prog.cellsOf 35))=some y3:=by simpa using hf 3 _ rfl
  rw [cellsRf,show (List.drop 3 [c0,c1,c2,c3]).take 1 = [c3] from rfl] at h3;obtain ⟨b0,e0,-⟩:=DataW.trod_bool Tryz.underlying4 h0;simp only [List.cons.injEq,and_true] at e0;subst e0;obtain ⟨b1,e1,-⟩:=DataW.trod_bool Tryz.underlying4 h1;simp only [List.cons.injEq,and_true] at e1;subst e1;obtain ⟨ns2,hn2⟩:=open_names h2 w2;obtain ⟨on2,cn2,en2⟩:=hn2.len;subst en2
  obtain ⟨os3,ms3,cs3,e3⟩:∃ o m c,c3=.slice o m c:=by
   rcases DataW.trod_slice Tryz.underlying35 h3 with ⟨hcs,-⟩ | ⟨ad,len,cap,elems,rest,n',-,hcs,-⟩
   ·simp only [List.cons.injEq,and_true] at hcs;exact ⟨_,_,_,hcs⟩
   ·simp only [List.cons.injEq,and_true] at hcs;exact ⟨_,_,_,hcs⟩
  subst e3;exact ⟨b0,b1,ns2,_,_,_,_,_,rfl,hn2⟩
theorem open_inst {fuel:Nat} {cs:List Value} {x:DataW H × List MemPlace} (h:DataW.trod enc Tryz.prog W 0 (fun _=>true) true fuel 34 cs=some x) (hw:∀ n∈x.1.weights Tryz.prog 34,n≤reachBytes) :
  ∃ (i:Inst) (k n:Int) (s:ByteArray) (oi:Option Addr) (mi ci:Nat) (ok:Option Addr) (mk ck:Nat) (od:Option Addr) (cd:Nat),cs = [.string i.addr,.string i.deposed,.string i.id,.string i.type,.int .i64 k,.int .i64 n,.string s,.slice oi mi ci,.slice ok mk ck,.int .i64 i.version,.bool i.tainted,.bool i.createFirst,.slice od i.deps.length cd]∧VV (fun _=>True) W (.agg #[.int .i64 k,.int .i64 n,.string s,.slice oi mi ci,.slice ok mk ck]) i.attrs∧SV (fun _=>True) W (.slice od i.deps.length cd) i.deps:=by
 have hr:=reach_le
 cases fuel with
 | zero=>simp [DataW.trod] at h
 | succ m =>
 obtain ⟨xs,n,hn,rfl,hl,hlen,hf⟩:=DataW.trod_struct Tryz.underlying34 h;rw [cellsI13] at hl
 obtain ⟨c0,c1,c2,c3,c4,c5,c6,c7,c8,c9,c10,c11,c12,rfl⟩:∃ c0 c1 c2 c3 c4 c5 c6 c7 c8 c9 c10 c11 c12,cs = [c0,c1,c2,c3,c4,c5,c6,c7,c8,c9,c10,c11,c12]:=by
  match cs,hl with
  | [c0,c1,c2,c3,c4,c5,c6,c7,c8,c9,c10,c11,c12],_=>exact ⟨c0,c1,c2,c3,c4,c5,c6,c7,c8,c9,c10,c11,c12,rfl⟩
 match xs,hlen with
 | [y0,y1,y2,y3,y4,y5,y6,y7,y8],_ =>
  have h0:DataW.trod enc Tryz.prog W 0 (fun _=>true) true n 9 ((List.drop 0 [c0,c1,c2,c3,c4,c5,c6,c7,c8,c9,c10,c11,c12]).take (Tryz.prog.cellsOf 9))=some y0:=by simpa using hf 0 _ rfl
  rw [cellsS,show (List.drop 0 [c0,c1,c2,c3,c4,c5,c6,c7,c8,c9,c10,c11,c12]).take 1 = [c0] from rfl] at h0
  have h1:DataW.trod enc Tryz.prog W 0 (fun _=>true) true n 9 ((List.drop 1 [c0,c1,c2,c3,c4,c5,c6,c7,c8,c9,c10,c11,c12]).take (Tryz.prog.cellsOf 9))=some y1:=by simpa using hf 1 _ rfl
  rw [cellsS,show (List.drop 1 [c0,c1,c2,c3,c4,c5,c6,c7,c8,c9,c10,c11,c12]).take 1 = [c1] from rfl] at h1
  have h2:DataW.trod enc Tryz.prog W 0 (fun _=>true) true n 9 ((List.drop 2 [c0,c1,c2,c3,c4,c5,c6,c7,c8,c9,c10,c11,c12]).take (Tryz.prog.cellsOf 9))=some y2:=by simpa using hf 2 _ rfl
  rw [cellsS,show (List.drop 2 [c0,c1,c2,c3,c4,c5,c6,c7,c8,c9,c10,c11,c12]).take 1 = [c2] from rfl] at h2
  have h3:DataW.trod enc Tryz.prog W 0 (fun _=>true) true n 9 ((List.drop 3 [c0,c1,c2,c3,c4,c5,c6,c7,c8,c9,c10,c11,c12]).take (Tryz.prog.cellsOf 9))=some y3:=by simpa using hf 3 _ rfl
  rw [cellsS,show (List.drop 3 [c0,c1,c2,c3,c4,c5,c6,c7,c8,c9,c10,c11,c12]).take 1 = [c3] from rfl] at h3
  have h4:DataW.trod enc Tryz.prog W 0 (fun _=>true) true n 32 ((List.drop 4 [c0,c1,c2,c3,c4,c5,c6,c7,c8,c9,c10,c11,c12]).take (Tryz.prog.cellsOf 32))=some y4:=by simpa using hf 4 _ rfl
  rw [cellsV,show (List.drop 4 [c0,c1,c2,c3,c4,c5,c6,c7,c8,c9,c10,c11,c12]).take 5 = [c4,c5,c6,c7,c8] from rfl] at h4
  have w4:∀ q∈y4.1.weights Tryz.prog 32,q≤reachBytes:=fun q hq=>hw q (by
   rw [DataW.weights,Tryz.underlying34];simp only [List.map_cons,List.map_nil,DataW.weightsEach,List.mem_append]
   exact .inr (.inr (.inr (.inr (.inl hq)))))
  have h5:DataW.trod enc Tryz.prog W 0 (fun _=>true) true n 3 ((List.drop 9 [c0,c1,c2,c3,c4,c5,c6,c7,c8,c9,c10,c11,c12]).take (Tryz.prog.cellsOf 3))=some y5:=by simpa using hf 5 _ rfl
  rw [cellsInt,show (List.drop 9 [c0,c1,c2,c3,c4,c5,c6,c7,c8,c9,c10,c11,c12]).take 1 = [c9] from rfl] at h5
  have h6:DataW.trod enc Tryz.prog W 0 (fun _=>true) true n 4 ((List.drop 10 [c0,c1,c2,c3,c4,c5,c6,c7,c8,c9,c10,c11,c12]).take (Tryz.prog.cellsOf 4))=some y6:=by simpa using hf 6 _ rfl
  rw [cellsB,show (List.drop 10 [c0,c1,c2,c3,c4,c5,c6,c7,c8,c9,c10,c11,c12]).take 1 = [c10] from rfl] at h6
  have h7:DataW.trod enc Tryz.prog W 0 (fun _=>true) true n 4 ((List.drop 11 [c0,c1,c2,c3,c4,c5,c6,c7,c8,c9,c10,c11,c12]).take (Tryz.prog.cellsOf 4))=some y7:=by simpa using hf 7 _ rfl
  rw [cellsB,show (List.drop 11 [c0,c1,c2,c3,c4,c5,c6,c7,c8,c9,c10,c11,c12]).take 1 = [c11] from rfl] at h7
  have h8:DataW.trod enc Tryz.prog W 0 (fun _=>true) true n 30 ((List.drop 12 [c0,c1,c2,c3,c4,c5,c6,c7,c8,c9,c10,c11,c12]).take (Tryz.prog.cellsOf 30))=some y8:=by simpa using hf 8 _ rfl
  rw [cellsN,show (List.drop 12 [c0,c1,c2,c3,c4,c5,c6,c7,c8,c9,c10,c11,c12]).take 1 = [c12] from rfl] at h8
  have w8:∀ q∈y8.1.weights Tryz.prog 30,q≤reachBytes:=fun q hq=>hw q (by
   rw [DataW.weights,Tryz.underlying34];simp only [List.map_cons,List.map_nil,DataW.weightsEach,List.mem_append]
   exact .inr (.inr (.inr (.inr (.inr (.inr (.inr (.inr (.inl hq)))))))))
  obtain ⟨s0,e0,hy0,-⟩:=DataW.trod_string Tryz.underlying9 h0;simp only [List.cons.injEq,and_true] at e0;subst e0;obtain ⟨s1,e1,hy1,-⟩:=DataW.trod_string Tryz.underlying9 h1;simp only [List.cons.injEq,and_true] at e1;subst e1;obtain ⟨s2,e2,hy2,-⟩:=DataW.trod_string Tryz.underlying9 h2;simp only [List.cons.injEq,and_true] at e2;subst e2;obtain ⟨s3,e3,hy3,-⟩:=DataW.trod_string Tryz.underlying9 h3;simp only [List.cons.injEq,and_true] at e3;subst e3;obtain ⟨q0,q1,q2,q3,q4,t4,hv4,ht4⟩:=open_val _ _ _ h4 w4;simp only [List.cons.injEq,and_true] at hv4;obtain ⟨rfl,rfl,rfl,rfl,rfl⟩:=hv4;obtain ⟨vk4,vn4,vs4,oi4,mi4,ci4,ok4,mk4,ck4,e4⟩:=ht4.agg5;simp only [Value.agg.injEq,Array.mk.injEq,List.cons.injEq,and_true] at e4;obtain ⟨rfl,rfl,rfl,rfl,rfl⟩:=e4;obtain ⟨n5,e5,-,-⟩:=DataW.trod_int Tryz.underlying3 h5;simp only [List.cons.injEq,and_true] at e5
  subst e5;obtain ⟨b6,e6,-⟩:=DataW.trod_bool Tryz.underlying4 h6;simp only [List.cons.injEq,and_true] at e6;subst e6;obtain ⟨b7,e7,-⟩:=DataW.trod_bool Tryz.underlying4 h7;simp only [List.cons.injEq,and_true] at e7;subst e7;obtain ⟨ns8,hn8⟩:=open_names h8 w8;obtain ⟨on8,cn8,en8⟩:=hn8.len;subst en8;exact ⟨⟨s0,s1,s2,s3,t4,n5,b6,b7,ns8⟩,_,_,_,_,_,_,_,_,_,_,_,rfl,ht4,hn8⟩
theorem open_in {fuel:Nat} {cs:List Value} {x:DataW H × List MemPlace} (h:DataW.trod enc Tryz.prog W 0 (fun _=>true) true fuel 39 cs=some x) (hw:∀ n∈x.1.weights Tryz.prog 39,n≤reachBytes) :
  ∃ i,INV (fun _=>True) W (.agg cs.toArray) i:=by
 have hr:=reach_le
 cases fuel with
 | zero=>simp [DataW.trod] at h
 | succ m =>
 obtain ⟨xs,n,hn,rfl,hl,hlen,hf⟩:=DataW.trod_struct Tryz.underlying39 h;rw [cellsIn31] at hl
 obtain ⟨c0,c1,c2,c3,c4,c5,c6,c7,c8,c9,c10,c11,c12,c13,c14,c15,c16,c17,c18,c19,c20,c21,c22,c23,c24,c25,c26,c27,c28,c29,c30,rfl⟩:∃ c0 c1 c2 c3 c4 c5 c6 c7 c8 c9 c10 c11 c12 c13 c14 c15 c16 c17 c18 c19 c20 c21 c22 c23 c24 c25 c26 c27 c28 c29 c30,cs = [c0,c1,c2,c3,c4,c5,c6,c7,c8,c9,c10,c11,c12,c13,c14,c15,c16,c17,c18,c19,c20,c21,c22,c23,c24,c25,c26,c27,c28,c29,c30]:=by
  match cs,hl with
  | [c0,c1,c2,c3,c4,c5,c6,c7,c8,c9,c10,c11,c12,c13,c14,c15,c16,c17,c18,c19,c20,c21,c22,c23,c24,c25,c26,c27,c28,c29,c30],_=>exact ⟨c0,c1,c2,c3,c4,c5,c6,c7,c8,c9,c10,c11,c12,c13,c14,c15,c16,c17,c18,c19,c20,c21,c22,c23,c24,c25,c26,c27,c28,c29,c30,rfl⟩
 match xs,hlen with
 | [y0,y1,y2,y3,y4,y5,y6,y7,y8],_ =>
  have h0:DataW.trod enc Tryz.prog W 0 (fun _=>true) true n 9 ((List.drop 0 [c0,c1,c2,c3,c4,c5,c6,c7,c8,c9,c10,c11,c12,c13,c14,c15,c16,c17,c18,c19,c20,c21,c22,c23,c24,c25,c26,c27,c28,c29,c30]).take (Tryz.prog.cellsOf 9))=some y0:=by simpa using hf 0 _ rfl
  rw [cellsS,show (List.drop 0 [c0,c1,c2,c3,c4,c5,c6,c7,c8,c9,c10,c11,c12,c13,c14,c15,c16,c17,c18,c19,c20,c21,c22,c23,c24,c25,c26,c27,c28,c29,c30]).take 1 = [c0] from rfl] at h0
  have h1:DataW.trod enc Tryz.prog W 0 (fun _=>true) true n 27 ((List.drop 1 [c0,c1,c2,c3,c4,c5,c6,c7,c8,c9,c10,c11,c12,c13,c14,c15,c16,c17,c18,c19,c20,c21,c22,c23,c24,c25,c26,c27,c28,c29,c30]).take (Tryz.prog.cellsOf 27))=some y1:=by simpa using hf 1 _ rfl
  rw [cellsRT4,show (List.drop 1 [c0,c1,c2,c3,c4,c5,c6,c7,c8,c9,c10,c11,c12,c13,c14,c15,c16,c17,c18,c19,c20,c21,c22,c23,c24,c25,c26,c27,c28,c29,c30]).take 4 = [c1,c2,c3,c4] from rfl] at h1
  have w1:∀ q∈y1.1.weights Tryz.prog 27,q≤reachBytes:=fun q hq=>hw q (by
   rw [DataW.weights,Tryz.underlying39];simp only [List.map_cons,List.map_nil,DataW.weightsEach,List.mem_append]
   exact .inr (.inl hq))
  have h2:DataW.trod enc Tryz.prog W 0 (fun _=>true) true n 4 ((List.drop 5 [c0,c1,c2,c3,c4,c5,c6,c7,c8,c9,c10,c11,c12,c13,c14,c15,c16,c17,c18,c19,c20,c21,c22,c23,c24,c25,c26,c27,c28,c29,c30]).take (Tryz.prog.cellsOf 4))=some y2:=by simpa using hf 2 _ rfl
  rw [cellsB,show (List.drop 5 [c0,c1,c2,c3,c4,c5,c6,c7,c8,c9,c10,c11,c12,c13,c14,c15,c16,c17,c18,c19,c20,c21,c22,c23,c24,c25,c26,c27,c28,c29,c30]).take 1 = [c5] from rfl] at h2
  have h3:DataW.trod enc Tryz.prog W 0 (fun _=>true) true n 34 ((List.drop 6 [c0,c1,c2,c3,c4,c5,c6,c7,c8,c9,c10,c11,c12,c13,c14,c15,c16,c17,c18,c19,c20,c21,c22,c23,c24,c25,c26,c27,c28,c29,c30]).take (Tryz.prog.cellsOf 34))=some y3:=by simpa using hf 3 _ rfl
  rw [cellsI13,show (List.drop 6 [c0,c1,c2,c3,c4,c5,c6,c7,c8,c9,c10,c11,c12,c13,c14,c15,c16,c17,c18,c19,c20,c21,c22,c23,c24,c25,c26,c27,c28,c29,c30]).take 13 = [c6,c7,c8,c9,c10,c11,c12,c13,c14,c15,c16,c17,c18] from rfl] at h3
  have w3:∀ q∈y3.1.weights Tryz.prog 34,q≤reachBytes:=fun q hq=>hw q (by
   rw [DataW.weights,Tryz.underlying39];simp only [List.map_cons,List.map_nil,DataW.weightsEach,List.mem_append]
   exact .inr (.inr (.inr (.inl hq))))
  have h4:DataW.trod enc Tryz.prog W 0 (fun _=>true) true n 32 ((List.drop 19 [c0,c1,c2,c3,c4,c5,c6,c7,c8,c9,c10,c11,c12,c13,c14,c15,c16,c17,c18,c19,c20,c21,c22,c23,c24,c25,c26,c27,c28,c29,c30]).take (Tryz.prog.cellsOf 32))=some y4:=by simpa using hf 4 _ rfl
  rw [cellsV,show (List.drop 19 [c0,c1,c2,c3,c4,c5,c6,c7,c8,c9,c10,c11,c12,c13,c14,c15,c16,c17,c18,c19,c20,c21,c22,c23,c24,c25,c26,c27,c28,c29,c30]).take 5 = [c19,c20,c21,c22,c23] from rfl] at h4
  have w4:∀ q∈y4.1.weights Tryz.prog 32,q≤reachBytes:=fun q hq=>hw q (by
   rw [DataW.weights,Tryz.underlying39];simp only [List.map_cons,List.map_nil,DataW.weightsEach,List.mem_append]
   exact .inr (.inr (.inr (.inr (.inl hq)))))
  have h5:DataW.trod enc Tryz.prog W 0 (fun _=>true) true n 37 ((List.drop 24 [c0,c1,c2,c3,c4,c5,c6,c7,c8,c9,c10,c11,c12,c13,c14,c15,c16,c17,c18,c19,c20,c21,c22,c23,c24,c25,c26,c27,c28,c29,c30]).take (Tryz.prog.cellsOf 37))=some y5:=by simpa using hf 5 _ rfl
  rw [cellsLi4,show (List.drop 24 [c0,c1,c2,c3,c4,c5,c6,c7,c8,c9,c10,c11,c12,c13,c14,c15,c16,c17,c18,c19,c20,c21,c22,c23,c24,c25,c26,c27,c28,c29,c30]).take 4 = [c24,c25,c26,c27] from rfl] at h5
  have w5:∀ q∈y5.1.weights Tryz.prog 37,q≤reachBytes:=fun q hq=>hw q (by
   rw [DataW.weights,Tryz.underlying39];simp only [List.map_cons,List.map_nil,DataW.weightsEach,List.mem_append]
   exact .inr (.inr (.inr (.inr (.inr (.inl hq))))))
  have h6:DataW.trod enc Tryz.prog W 0 (fun _=>true) true n 4 ((List.drop 28 [c0,c1,c2,c3,c4,c5,c6,c7,c8,c9,c10,c11,c12,c13,c14,c15,c16,c17,c18,c19,c20,c21,c22,c23,c24,c25,c26,c27,c28,c29,c30]).take (Tryz.prog.cellsOf 4))=some y6:=by simpa using hf 6 _ rfl
  rw [cellsB,show (List.drop 28 [c0,c1,c2,c3,c4,c5,c6,c7,c8,c9,c10,c11,c12,c13,c14,c15,c16,c17,c18,c19,c20,c21,c22,c23,c24,c25,c26,c27,c28,c29,c30]).take 1 = [c28] from rfl] at h6
  have h7:DataW.trod enc Tryz.prog W 0 (fun _=>true) true n 4 ((List.drop 29 [c0,c1,c2,c3,c4,c5,c6,c7,c8,c9,c10,c11,c12,c13,c14,c15,c16,c17,c18,c19,c20,c21,c22,c23,c24,c25,c26,c27,c28,c29,c30]).take (Tryz.prog.cellsOf 4))=some y7:=by simpa using hf 7 _ rfl
  rw [cellsB,show (List.drop 29 [c0,c1,c2,c3,c4,c5,c6,c7,c8,c9,c10,c11,c12,c13,c14,c15,c16,c17,c18,c19,c20,c21,c22,c23,c24,c25,c26,c27,c28,c29,c30]).take 1 = [c29] from rfl] at h7
  have h8:DataW.trod enc Tryz.prog W 0 (fun _=>true) true n 30 ((List.drop 30 [c0,c1,c2,c3,c4,c5,c6,c7,c8,c9,c10,c11,c12,c13,c14,c15,c16,c17,c18,c19,c20,c21,c22,c23,c24,c25,c26,c27,c28,c29,c30]).take (Tryz.prog.cellsOf 30))=some y8:=by simpa using hf 8 _ rfl
  rw [cellsN,show (List.drop 30 [c0,c1,c2,c3,c4,c5,c6,c7,c8,c9,c10,c11,c12,c13,c14,c15,c16,c17,c18,c19,c20,c21,c22,c23,c24,c25,c26,c27,c28,c29,c30]).take 1 = [c30] from rfl] at h8
  have w8:∀ q∈y8.1.weights Tryz.prog 30,q≤reachBytes:=fun q hq=>hw q (by
   rw [DataW.weights,Tryz.underlying39];simp only [List.map_cons,List.map_nil,DataW.weightsEach,List.mem_append]
   exact .inr (.inr (.inr (.inr (.inr (.inr (.inr (.inr (.inl hq)))))))))
  obtain ⟨s0,e0,hy0,-⟩:=DataW.trod_string Tryz.underlying9 h0;simp only [List.cons.injEq,and_true] at e0;subst e0;obtain ⟨rn1,sc1,rq1,oa1,ca1,ob1,cb1,es1,hsc1⟩:=open_rt h1 w1
  try simp only [List.cons.injEq,and_true] at es1
  obtain ⟨rfl,rfl,rfl,rfl⟩:=es1;obtain ⟨b2,e2,-⟩:=DataW.trod_bool Tryz.underlying4 h2;simp only [List.cons.injEq,and_true] at e2;subst e2;obtain ⟨inst3,ik,inn,isx,oii,mii,cii,oki,mki,cki,od,cd,es3,hvi,hdi⟩:=open_inst h3 w3
  try simp only [List.cons.injEq,and_true] at es3
  obtain ⟨rfl,rfl,rfl,rfl,rfl,rfl,rfl,rfl,rfl,rfl,rfl,rfl,rfl⟩:=es3;obtain ⟨q0,q1,q2,q3,q4,t4,hv4,ht4⟩:=open_val _ _ _ h4 w4;simp only [List.cons.injEq,and_true] at hv4;obtain ⟨rfl,rfl,rfl,rfl,rfl⟩:=hv4;obtain ⟨vk4,vn4,vs4,oi4,mi4,ci4,ok4,mk4,ck4,e4⟩:=ht4.agg5;simp only [Value.agg.injEq,Array.mk.injEq,List.cons.injEq,and_true] at e4;obtain ⟨rfl,rfl,rfl,rfl,rfl⟩:=e4;obtain ⟨lc5,lp5,ig5,og5,cg5,ot5,mt5,ct5,es5,hig5⟩:=open_life h5 w5
  try simp only [List.cons.injEq,and_true] at es5
  obtain ⟨rfl,rfl,rfl,rfl⟩:=es5;obtain ⟨b6,e6,-⟩:=DataW.trod_bool Tryz.underlying4 h6;simp only [List.cons.injEq,and_true] at e6;subst e6;obtain ⟨b7,e7,-⟩:=DataW.trod_bool Tryz.underlying4 h7;simp only [List.cons.injEq,and_true] at e7;subst e7;obtain ⟨ns8,hn8⟩:=open_names h8 w8;obtain ⟨on8,cn8,en8⟩:=hn8.len;subst en8;exact ⟨⟨s0,rn1,sc1,rq1,b2,inst3,t4,lc5,lp5,ig5,b6,b7,ns8⟩,_,_,_,_,_,_,_,_,_,_,_,_,_,_,_,_,_,_,_,_,_,_,_,_,_,_,_,_,_,_,_,rfl,hsc1,hvi,hdi,ht4,hig5,hn8⟩
theorem open_input {v:Value} {d:DataW H} {p:List MemPlace} {base:Nat} (hv:Value.okWide Tryz.prog W .any base 39 v) (h:DataW.Trod enc Tryz.prog W 0 (fun _=>true) true 39 v d p)
  (hw:∀ n∈d.weights Tryz.prog 39,n≤reachBytes):∃ i,INV (fun _=>True) W v i:=by
 obtain ⟨cs,rfl,hcs⟩:=okWide_struct Tryz.underlying39 hv;obtain ⟨fuel,hf⟩:=h;obtain ⟨i,hi⟩:=open_in hf hw;exact ⟨i,by simpa [Value.cells] using hi⟩
end
end Go.Proofs.YtibiiafcnaijeaaGreat
namespace Go.Proofs.YtibiiafcnaijeaaGreat
open Go Go.ChangeShapes Go.WideShapes Go.ChangeAt Go.RowKit Go.Proofs.YtibiiafcnaijeaaGreat.Steady
set_option linter.unusedVariables false
set_option linter.unusedSimpArgs false
set_option maxRecDepth 100000
set_option maxHeartbeats 40000000
theorem own:ownKnob Tryz.prog.godebug=none:=by kernel_rfl
theorem laidOut:laidOutB Tryz.prog=true:=by kernel_rfl
theorem trodAll_below {H:Type} {enc:TypeId × Value→H} {P:Program} (hl:laidOutB P=true) {W W':World} (hb:Below W.heap.size W W') :
  ∀ (ts:List TypeId) (vs:List Value) (ds:List (DataW H)) (ps:List MemPlace),(∀ t∈ts,P.readableRec t=true∧t < P.types.size) →
   DataW.TrodAll enc P W 0 (fun _=>true) true ts vs ds ps→(∀ x∈ps,x.block < W.heap.size) →
   DataW.TrodAll enc P W' 0 (fun b=>decide (b < W.heap.size)) true ts vs ds ps
 | [],[],[],ps,_,h,_=>h
 | t :: ts,v :: vs,d :: ds,ps,hr,⟨p,q,h1,h2,e⟩,hlt=>by
  subst e;obtain ⟨r1,r2⟩:=hr t (List.mem_cons_self ..)
  exact ⟨p,q,Below.trod hl r1 r2 h1 hb (fun x hx=>hlt x (List.mem_append_left _ hx)),
   trodAll_below hl hb ts vs ds q (fun t' ht=>hr t' (List.mem_cons_of_mem _ ht)) h2 (fun x hx=>hlt x (List.mem_append_right _ hx)),rfl⟩
 | [],[],_ :: _,_,_,h,_=>h.elim
 | [],_ :: _,_,_,_,h,_=>h.elim
 | _ :: _,[],_,_,_,h,_=>h.elim
 | _ :: _,_ :: _,[],_,_,h,_=>h.elim
theorem law_post {H:Type} {enc:TypeId × Value→H} {f:Func} {s:ChangeSpec} {W W':World} {args:Array Value} {ds gs:List (DataW H)} {before:List MemPlace}
  (hW:DataW.Whole enc Tryz.prog f.params.toList s.vars false W args.toList ds gs before) (hv:s.vars = [])
  (hr:∀ t∈f.params.toList,Tryz.prog.readableRec t=true∧t < Tryz.prog.types.size) (hres:f.resultTypes=#[4])
  (hs:(s.fn H (ds ++ [])).results = [.lit (.bool true)]∧(s.fn H (ds ++ [])).args=ds∧(s.fn H (ds ++ [])).vars = [])
  (hb:Below W.heap.size W W'):s.post enc Tryz.prog f false true false false W args (.bool true) W':=by
 have hW':=hW;obtain ⟨p,q,hA,hV,rfl,hfz,hnd⟩:=hW;rw [hv] at hV;obtain ⟨rfl,rfl⟩:=trodVars_none hV
 have hlt:∀ x∈p,x.block < W.heap.size:=fun x hx=>by
  have:=hW'.lt x (List.mem_append_left _ hx);exact this
 obtain ⟨h1,h2,h3⟩:=hs;refine ⟨ds,[],_,[],p,[],hW',?_,?_,?_,hb.frame _,fun h=>by cases h⟩
 ·rw [h1,hres]
  exact trodAll_cons_mk (shut_bool Tryz.underlying4 _) trodAll_mk0
 ·rw [h2]
  exact trodAll_below laidOut hb _ _ _ _ hr hA hlt
 ·rw [h3,hv];rfl
end Go.Proofs.YtibiiafcnaijeaaGreat
