/- A part. -/
import Derived.Test.YtibiiafcnaijeaaGreatB00
import Derived.Test.YtibiiafcnaijeaaGreatB02
import Derived.Test.YtibiiafcnaijeaaGreatB16
namespace Go.Proofs.YtibiiafcnaijeaaGreat
open Go Go.RowKit Go.Proofs.YtibiiafcnaijeaaGreat.Steady
set_option linter.unusedVariables false
set_option linter.unusedSimpArgs false
set_option maxRecDepth 100000
set_option maxHeartbeats 40000000
theorem OwnW.chgP {B box:Nat}{R Q:Nat→Prop}{C:Nat→Prop}{w w':World}{v:Value}{ts:List Vl}(h:OwnW B box R w v ts) (hc:Chg C w w') (hv:∀ g,v.ownBlock=some g→¬ C g) (hr:∀ g,R g→g<w.heap.size→g≠box→¬ C g) (hq:∀ g,R g→g<w.heap.size→Q g):OwnW B box Q w' v ts:=by
 obtain⟨rs,h1,h2,h3⟩:=h;exact⟨rs,⟨owns_keep h1.1 hc hv,h1.2⟩,h2,fun i r t hr' ht=>(h3 i r t hr' ht).keep (ZK.chg hc fun g hg=>hr g hg.1 hg.2.1 hg.2.2.1) fun g hg=>⟨hq g hg.1 hg.2.1,Nat.lt_of_lt_of_le hg.2.1 hc.size,hg.2.2⟩⟩
theorem Row.sv {Q:Nat→Prop}{w:World}{v:Value}{l:List ByteArray}(h:Row w v l) (hq:∀ g,v.ownBlock=some g→Q g) (hl:l.length≤140737488355328) (hs:∀ s∈l,s.size≤140737488355328):SV Q w v l:=by
 refine⟨⟨by simpa using hl,?_⟩,hs⟩
 rcases h with ⟨rfl,rfl⟩|⟨g,pad,rfl,hh,hc⟩
 ·exact .inl ⟨rfl,_,_,rfl⟩
 ·refine .inr ⟨g,0,l.length+pad.length,hq g rfl,by simp,fun i u hu=>?_⟩
  rw[Nat.zero_add];exact cells_at (n:=l.length) hh (by simp) hu
structure PO (w wr:World) (X:Nat) (xo:Obj) (k n:Int) (s:ByteArray) (vi vk:Value) (is:List Vl) (ks:List ByteArray):Prop where
 bel:Below w.heap.size w wr
 z:wr.heap[w.heap.size+2]? = some zero5
 x:wr.heap[w.heap.size+1]? = some xo
 hX:w.heap.size+3≤X
 obj:wr.heap[X]? = some (.cells #[.int .i64 k,.int .i64 n,.string s,vi,vk] 32)
 row:Row wr vk ks
 strs:∀ s∈ks,s.size≤140737488355328
 rown:∀ g,vk.ownBlock=some g→w.heap.size+3≤g∧g≠X∧vi.ownBlock≠some g
 iown:vi.ownBlock≠some X
 items:OwnW (w.heap.size+3) X (fun g=>w.heap.size+3≤g∧vk.ownBlock≠some g) wr vi is
section
variable {w wr w':World} {X:Nat} {xo:Obj} {k n:Int} {s:ByteArray} {vi vk vi' vk':Value} {is is':List Vl} {ks ks':List ByteArray}
theorem PO.lt (h:PO w wr X xo k n s vi vk is ks):X<wr.heap.size:=(aS h.obj).1
theorem PO.later (h:PO w wr X xo k n s vi vk is ks) (hb:Below wr.heap.size wr w'):PO w w' X xo k n s vi vk is ks :=
 ⟨h.bel.trans (hb.mono h.bel.size),kO h.z hb,kO h.x hb,h.hX,kO h.obj hb,h.row.of_same fun g e=>hb.block g (h.row.lt e),h.strs,h.rown,h.iown,h.items.later hb⟩
theorem PO.keys (h:PO w wr X xo k n s vi vk is ks) (hr:Row w' vk' ks') (hs:∀ s∈ks',s.size≤140737488355328) (hp:vk'.ownBlock=vk.ownBlock∨∃ g,vk'.ownBlock=some g∧wr.heap.size≤g) (hc:Chg (fun g=>vk.ownBlock=some g) wr w') :
  PO w (w'.setCell ⟨X,4,none⟩ vk') X xo k n s vi vk' is ks':=by
 have hl:=h.lt;have hX:=h.hX;have c2:=Chg.setCell (B:=fun g=>g=X) w' X 4 vk' rfl
 have hkX:∀ g,vk.ownBlock=some g→g≠X:=fun g e=>(h.rown g e).2.1
 have hk3:∀ g,vk.ownBlock=some g→w.heap.size+3≤g:=fun g e=>(h.rown g e).1
 have hnew:∀ g,vk'.ownBlock=some g→vk.ownBlock=some g∨wr.heap.size≤g:=fun g e=>by
  rcases hp with h1|⟨g',h1,h2⟩
  ·exact .inl (h1▸e)
  ·rw[h1] at e;cases e;exact .inr h2
 have hi:∀ g,vi.ownBlock=some g→g<wr.heap.size∧w.heap.size+3≤g:=fun g e=>⟨(h.items.block e).2,(h.items.block e).1⟩
 have ho:=(hc.block X hl (fun e=>hkX X e rfl)).trans h.obj
 have i1:OwnW (w.heap.size+3) X (fun g=>w.heap.size+3≤g∧vk'.ownBlock≠some g) w' vi is:=h.items.chgP hc (fun g e e2=>(h.rown g e2).2.2 e) (fun g hg _ _=>hg.2) (fun g hg hlt=>⟨hg.1,fun e=>by
  rcases hnew g e with h1|h1
  ·exact hg.2 h1
  ·omega⟩)
 refine⟨(h.bel.trans (zgg hc (fun g e=>by have:=hk3 g e;omega) h.bel.size)).trans (zgg c2 (fun g e=>by rw[e];omega) (by have:=h.bel.size;have:=hc.size;omega)),(c2.block _ (by have:=hc.size;omega) (by omega)).trans ((hc.block _ (by omega) (fun e=>by have:=hk3 _ e;omega)).trans h.z),
  (c2.block _ (by have:=hc.size;omega) (by omega)).trans ((hc.block _ (by omega) (fun e=>by have:=hk3 _ e;omega)).trans h.x),hX,obj_set (po:=4) ho _,hr.chg c2 (fun g e e2=>?_),hs,fun g e=>?_,h.iown,i1.chgP c2 (fun g e e2=>h.iown (e2▸e)) (fun g _ _ hb e=>hb e) fun g hg _=>hg⟩
 ·rcases hnew g e with h1|h1
  ·exact hkX g h1 e2
  ·omega
 ·rcases hnew g e with h1|h1
  ·exact h.rown g h1
  ·exact⟨by omega,by omega,fun e2=>by have:=(hi g e2).1;omega⟩
theorem PO.turn (h:PO w wr X xo k n s vi vk is ks) (hr:OwnW (w.heap.size+3) X (fun g=>w.heap.size+3≤g∧vk.ownBlock≠some g) w' vi' is') (hp:vi'.ownBlock=vi.ownBlock∨∃ g,vi'.ownBlock=some g∧wr.heap.size≤g) (hc:Chg (fun g=>vi.ownBlock=some g) wr w') :
  PO w (w'.setCell ⟨X,3,none⟩ vi') X xo k n s vi' vk is' ks:=by
 have hl:=h.lt;have hX:=h.hX;have c2:=Chg.setCell (B:=fun g=>g=X) w' X 3 vi' rfl
 have hi:∀ g,vi.ownBlock=some g→g<wr.heap.size∧w.heap.size+3≤g∧g≠X:=fun g e=>⟨(h.items.block e).2,(h.items.block e).1,fun e2=>h.iown (e2▸e)⟩
 have hnew:∀ g,vi'.ownBlock=some g→vi.ownBlock=some g∨wr.heap.size≤g:=fun g e=>by
  rcases hp with h1|⟨g',h1,h2⟩
  ·exact .inl (h1▸e)
  ·rw[h1] at e;cases e;exact .inr h2
 have hniX:vi'.ownBlock≠some X:=fun e=>by
  rcases hnew X e with h1|h1
  ·exact h.iown h1
  ·omega
 have ho:=(hc.block X hl (fun e=>h.iown e)).trans h.obj
 refine⟨(h.bel.trans (zgg hc (fun g e=>by have:=hi g e;omega) h.bel.size)).trans (zgg c2 (fun g e=>by rw[e];omega) (by have:=h.bel.size;have:=hc.size;omega)),(c2.block _ (by have:=hc.size;omega) (by omega)).trans ((hc.block _ (by omega) (fun e=>by have:=hi _ e;omega)).trans h.z),
  (c2.block _ (by have:=hc.size;omega) (by omega)).trans ((hc.block _ (by omega) (fun e=>by have:=hi _ e;omega)).trans h.x),hX,obj_set (po:=3) ho _,(h.row.chg hc fun g e e2=>(h.rown g e).2.2 e2).chg c2 (fun g e e2=>(h.rown g e).2.1 e2),h.strs,fun g e=>⟨(h.rown g e).1,(h.rown g e).2.1,fun e2=>?_⟩,hniX,hr.chgP c2 (fun g e e2=>hniX (e2▸e)) (fun g _ _ hb e=>hb e) fun g hg _=>hg⟩
 rcases hnew g e2 with h1|h1
 ·exact(h.rown g e).2.2 h1
 ·have:=h.row.lt e;omega
theorem PO.set {g c j:Nat}{r:V5}{t:Vl}{S:Nat→Prop}(h:PO w wr X xo k n s (.slice (some ⟨g,0,none⟩) is.length c) vk is ks) (hj:j<is.length) (hr:VV S wr (pent r) t) (hS:∀ b,S b→w.heap.size+3≤b∧vk.ownBlock≠some b∧b≠X∧b≠g) :
  PO w (wr.setCells g (j*5) [r.1,r.2.1,r.2.2.1,r.2.2.2.1,r.2.2.2.2]) X xo k n s (.slice (some ⟨g,0,none⟩) is.length c) vk (is.set j t) ks:=by
 have hl:=h.lt;have hX:=h.hX;have hg:=(h.items.block (g:=g) rfl).1
 have hgX:g≠X:=fun e=>h.iown (by rw[e];rfl)
 obtain⟨h1,hc⟩:=h.items.x.set hj hr (fun b hb=>⟨(hS b hb).2.2.1,(hS b hb).2.2.2⟩)
 exact⟨h.bel.trans (zgg hc (fun b e=>by rw[e];omega) h.bel.size),(hc.block _ (by omega) (by omega)).trans h.z,(hc.block _ (by omega) (by omega)).trans h.x,hX,(hc.block _ hl (fun e=>hgX e.symm)).trans h.obj,h.row.chg hc (fun b e e2=>(h.rown b e).2.2 (by rw[e2];rfl)),h.strs,h.rown,h.iown,
  h1.mono fun i b hi hb=>by
   by_cases e:i=j
   ·have hb':S b:=by rw[if_pos e] at hb;exact hb
    exact⟨(hS b hb').1,(hS b hb').2.1⟩
   ·rw[if_neg e] at hb;exact hb⟩
theorem PO.vv (h:PO w wr X xo k n s vi vk is ks) (hs:s.size≤140737488355328) (hl:is.length≤140737488355328) (hk:ks.length≤140737488355328):VV (fun g=>w.heap.size+3≤g) wr (.agg #[.int .i64 k,.int .i64 n,.string s,vi,vk]) (.mk k n s is ks) :=
 VV.mk' hs (h.row.sv (fun g e=>(h.rown g e).1) hk h.strs) (h.items.x.read (fun i g _ hg=>hg.1) (fun g hg=>hg) hl)
end
theorem OwnW.re {B C box box':Nat}{R Q:Nat→Prop}{w:World}{v:Value}{ts:List Vl}(h:OwnW B box R w v ts) (hC:C≤B) (hq:∀ g,R g→g<w.heap.size→Q g∧g≠box'):OwnW C box' Q w v ts:=by
 obtain⟨rs,h1,h2,h3⟩:=h;exact⟨rs,⟨h1.1,fun g hg=>Nat.le_trans hC (h1.2 g hg)⟩,h2,fun i r t hr ht=>(h3 i r t hr ht).mono fun g hg=>⟨(hq g hg.1 hg.2.1).1,hg.2.1,(hq g hg.1 hg.2.1).2,hg.2.2.2⟩⟩
theorem bsGo_le (less:Nat→Bool):∀ (f lo hi:Nat),lo≤hi→Lib.bsGo less f lo hi≤hi
 | 0,lo,hi,h=>by simp[Lib.bsGo];exact h
 | f+1,lo,hi,h=>by
  unfold Lib.bsGo
  split
  ·split
   ·exact bsGo_le less f _ _ (by omega)
   ·exact Nat.le_trans (bsGo_le less f _ _ (by omega)) (by omega)
  ·exact h
theorem posN_le (ns:List ByteArray) (x:ByteArray):posN ns x≤ns.length:=bsGo_le _ _ _ _ (Nat.zero_le _)
theorem putV_eq (k n:Int) (s:ByteArray) (is:List Vl) (ks:List ByteArray) (x:ByteArray) (y:Vl):putV (.mk k n s is ks) x y=if is.length<posN ks x∨(fndN ks x=true∧is.length=posN ks x) then .mk k n s is ks else
  if fndN ks x=true then .mk k n s (is.set (posN ks x) y) ks else .mk k n s (is.insertIdx (posN ks x) y) (ks.insertIdx (posN ks x) x):=rfl
theorem insertIdx_set {α:Type}:∀ (l:List α) (i:Nat) (a b:α),(l.insertIdx i a).set i b=l.insertIdx i b
 | l,0,a,b=>by simp
 | [],i+1,a,b=>by simp
 | c :: l,i+1,a,b=>by rw[List.insertIdx_succ_cons,List.insertIdx_succ_cons,sS,insertIdx_set l i a b]
theorem Row.slice {w:World}{v:Value}{l:List ByteArray}(h:Row w v l):∃ o c,v=.slice o l.length c:=by
 rcases h with ⟨rfl,rfl⟩|⟨g,pad,rfl,_⟩
 ·exact⟨none,0,rfl⟩
 ·exact⟨_,_,rfl⟩
theorem OwnW.slice2 {B box:Nat}{R:Nat→Prop}{w:World}{v:Value}{ts:List Vl}(h:OwnW B box R w v ts):∃ o c,v=.slice o ts.length c:=by
 rcases h.x.slice with ⟨rfl,h0⟩|⟨g,c,rfl,_⟩
 ·exact⟨none,0,by rw[h0];rfl⟩
 ·exact⟨_,c,rfl⟩
theorem vput_any (v:Vl) (x:ByteArray) (y:Vl) (P Q:Nat→Prop) (w:World) (u uy:Value) (hx:VV P w u v) (hy:VV Q w uy y) (hsz:szV v≤90000) (hky:kyV v≤90000) (hsy:szV y≤90000) (hkyy:kyV y≤90000) (hxs:x.size≤140737488355328) :
  Calls Tryz.prog 88 #[u,.string x,uy] w (FreshV (putV v x y) w):=by
 have HY0:=hid hy;obtain⟨ky,ny,sy,oiy,miy,ciy,oky,mky,cky,rfl⟩:=hy.agg5;have HX0:=hid hx;obtain⟨k,n,s,is,ks⟩:=v;obtain⟨vi0,vk0,rfl,hI,hK,hss⟩:=hx.out;obtain⟨oi,ci,rfl⟩:=hI.len;obtain⟨ok,ck,rfl⟩:=hK.len
 have hlen:is.length≤90000:=by rw[szV] at hsz;have:=szL_len is;omega
 have hklen:ks.length≤90000:=by rw[kyV] at hky;omega
 generalize hA:w.alloc (.cells #[.int .i64 k,.int .i64 n,.string s,.slice oi is.length ci,.slice ok ks.length ck] 32)=wa
 have hao:wa.heap[w.heap.size]? = some (.cells #[.int .i64 k,.int .i64 n,.string s,.slice oi is.length ci,.slice ok ks.length ck] 32):=by rw[←hA];exact zhh w _
 have has:wa.heap.size=w.heap.size+1:=by rw[←hA];simp
 have hab:Below w.heap.size w wa:=by rw[←hA];exact(Below.refl _ _).alloc (nR _) _
 generalize hB:wa.alloc (.cells #[.int .i64 ky,.int .i64 ny,.string sy,.slice oiy miy ciy,.slice oky mky cky] 32)=wb
 have hbo:wb.heap[w.heap.size+1]? = some (.cells #[.int .i64 ky,.int .i64 ny,.string sy,.slice oiy miy ciy,.slice oky mky cky] 32):=by rw[←hB,←has];exact zhh wa _
 have hbs:wb.heap.size=w.heap.size+2:=by rw[←hB];simp[has]
 have hbb:Below wa.heap.size wa wb:=by rw[←hB];exact(Below.refl _ _).alloc (nR _) _
 generalize hC:wb.alloc zero5=wc
 have hco:wc.heap[w.heap.size+2]? = some zero5:=by rw[←hC,←hbs];exact zhh wb _
 have hcs:wc.heap.size=w.heap.size+3:=by rw[←hC];simp[hbs]
 have hcb:Below wb.heap.size wb wc:=by rw[←hC];exact(Below.refl _ _).alloc (nR _) _
 have HA0:=hid hA;have HB0:=hid hB;have HC0:=hid hC;have HB:=hid (hab.trans ((hbb.trans (hcb.mono hbb.size)).mono hab.size));have HS:=hid hcs;have HZ:=hid hco;have HXB:=hid (kO hbo hcb);have HA:=hid (kO (kO hao hbb) hcb);clear hx hy hI hK hA hB hC hao hbo hco has hbs hcs hab hbb hcb;have a0:=(cII HA.out 0).trans rfl;have a1:=(cII HA.out 1).trans rfl;have a2:=(cII HA.out 2).trans rfl;have a3:=(cII HA.out 3).trans rfl;have a4:=(cII HA.out 4).trans rfl;have HCP:=hid ((vcopyO_any (.mk k n s is ks)) P wc _ (HX0.out.bel HB.out) (by omega) (by omega))
 go_enter Tryz.func88,Tryz.ntmps88
 go_upto_region 1 with (fail)
 rw[HA0.out,HB0.out,HC0.out]
 go_wp2_with fail
 clear a0 a1 a2 a3 a4;refine HCP.out.mono ?_;rintro e w4 ⟨vi,vk,M,rfl,hb4,hM,-,hrow,hkown,hsv,how⟩;obtain⟨oa,ca,rfl⟩:=how.slice2;obtain⟨ob,cb,rfl⟩:=hrow.slice
 go_upto_region 2 with (fail)
 have hb5:Below w4.heap.size w4 (w4.alloc (.cells #[.int .i64 k,.int .i64 n,.string s,.slice oa is.length ca,.slice ob ks.length cb] 32)):=(Below.refl _ _).alloc (nR _) _;have hxo:=zhh w4 (.cells #[.int .i64 k,.int .i64 n,.string s,.slice oa is.length ca,.slice ob ks.length cb] 32)
 generalize w4.alloc (.cells #[.int .i64 k,.int .i64 n,.string s,.slice oa is.length ca,.slice ob ks.length cb] 32)=w5 at *
 have HPO:Hid (PO w w5 w4.heap.size (.cells #[.int .i64 ky,.int .i64 ny,.string sy,.slice oiy miy ciy,.slice oky mky cky] 32) k n s (.slice oa is.length ca) (.slice ob ks.length cb) is ks):=hid (by
  have h3:=HS.out;have h4:=hb4.size;have h5:=hb5.size
  refine⟨HB.out.trans ((hb4.trans (hb5.mono hb4.size)).mono HB.out.size),kO (kO HZ.out hb4) hb5,kO (kO HXB.out hb4) hb5,by omega,hxo,hrow.of_same fun g e=>hb5.block g (hrow.lt e),hsv.2,fun g e=>⟨by have:=(hkown g e).1;omega,by have:=hrow.lt e;omega,fun e2=>by have:=(how.block e2).1;have:=(hkown g e).2;omega⟩,
   fun e=>by have:=(how.block e).2;omega,(how.re (by omega) (fun g (hg:M<g) hlt=>⟨⟨by omega,fun e=>by have:=(hkown g e).2;omega⟩,by omega⟩)).later hb5⟩)
 clear hb4 hb5 hxo hrow hkown hsv how HZ HXB HA HCP HX0;have HKS:=hid (HPO.out.row.sv (Q:=fun _=>True) (fun _ _=>trivial) (by omega) HPO.out.strs);have HBS:=hid (bsearch_any _ w5 _ ks x HKS.out);obtain⟨p,hp⟩:∃ p,posN ks x=p:=⟨_,rfl⟩;obtain⟨fd,hfd⟩:∃ fd,fndN ks x=fd:=⟨_,rfl⟩;have hpk:=posN_le ks x;have hpv:=putV_eq k n s is ks x y;rw[hp] at hpk;rw[hp,hfd] at HBS hpv;have HPV0:=hid hpv;clear hp hfd hpv;have q0:=(cII HPO.out.obj 0).trans rfl;have q1:=(cII HPO.out.obj 1).trans rfl;have q2:=(cII HPO.out.obj 2).trans rfl;have q3:=(cII HPO.out.obj 3).trans rfl;have q4:=(cII HPO.out.obj 4).trans rfl;have qf:=zff HPO.out.obj
 go_wp2_with fail
 clear q0 q1 q2 q3 q4 qf;refine HBS.out.mono ?_;rintro e w6 ⟨rfl,q,rfl⟩;have HP6:=hid (HPO.out.later (below_drewN (Below.refl _ _) q));clear HPO HKS HBS
 generalize w5.drewN q=w6 at *
 by_cases hbig:is.length<p
 ·have d1:decide ((p:Int) > (is.length:Int))=true:=dTT (by omega)
  have d1n:decide (is.length<p)=true:=dTT hbig;have HPV:=hid (HPV0.out.trans (if_pos (.inl hbig)));have q0:=(cII HP6.out.obj 0).trans rfl;have q1:=(cII HP6.out.obj 1).trans rfl;have q2:=(cII HP6.out.obj 2).trans rfl;have q3:=(cII HP6.out.obj 3).trans rfl;have q4:=(cII HP6.out.obj 4).trans rfl;have qf:=zff HP6.out.obj;have f0:=(cII HP6.out.z 0).trans rfl;have f1:=(cII HP6.out.z 1).trans rfl;have f2:=(cII HP6.out.z 2).trans rfl;have f3:=(cII HP6.out.z 3).trans rfl;have f4:=(cII HP6.out.z 4).trans rfl;have fz:=zff HP6.out.z
  go_wp2_with fail
  try simp only[Exit.inBlock,Exit.then]
  refine bodyPost_ret (v:=.agg #[.int .i64 k,.int .i64 n,.string s,.slice oa is.length ca,.slice ob ks.length cb]) (by simp[results,Tryz.results88,go_sem,f0,f1,f2,f3,f4]) rfl ?_;rw[HPV.out];exact⟨_,rfl,store5_vv (Q:=fun g=>w.heap.size≤g) (HP6.out.vv hss (by omega) (by omega)) (by omega) (fun g hg=>by omega) _ _ _ _ _,store5_below HP6.out.bel (by omega) (nR _) _ _ _ _ _⟩
 have d1:decide ((p:Int) > (is.length:Int))=false:=dF (by omega);have d1n:decide (is.length<p)=false:=dF hbig
 cases fd with
 | true =>
  by_cases heq:is.length=p
  ·have d2:decide ((p:Int)=(is.length:Int))=true:=dTT (by omega)
   have d2b:((p:Int) == (is.length:Int))=true:=bT (by omega);have d2n:decide (p=is.length)=true:=dTT heq.symm;have HPV:=hid (HPV0.out.trans (if_pos (.inr ⟨rfl,heq⟩)));clear heq;have q0:=(cII HP6.out.obj 0).trans rfl;have q1:=(cII HP6.out.obj 1).trans rfl;have q2:=(cII HP6.out.obj 2).trans rfl;have q3:=(cII HP6.out.obj 3).trans rfl;have q4:=(cII HP6.out.obj 4).trans rfl;have qf:=zff HP6.out.obj;have f0:=(cII HP6.out.z 0).trans rfl;have f1:=(cII HP6.out.z 1).trans rfl;have f2:=(cII HP6.out.z 2).trans rfl;have f3:=(cII HP6.out.z 3).trans rfl;have f4:=(cII HP6.out.z 4).trans rfl;have fz:=zff HP6.out.z
   go_wp2_with fail
   try simp only[Exit.inBlock,Exit.then]
   refine bodyPost_ret (v:=.agg #[.int .i64 k,.int .i64 n,.string s,.slice oa is.length ca,.slice ob ks.length cb]) (by simp[results,Tryz.results88,go_sem,f0,f1,f2,f3,f4]) rfl ?_;rw[HPV.out];exact⟨_,rfl,store5_vv (Q:=fun g=>w.heap.size≤g) (HP6.out.vv hss (by omega) (by omega)) (by omega) (fun g hg=>by omega) _ _ _ _ _,store5_below HP6.out.bel (by omega) (nR _) _ _ _ _ _⟩
  have d2:decide ((p:Int)=(is.length:Int))=false:=dF (by omega);have d2b:((p:Int) == (is.length:Int))=false:=bF (by omega)
  have d2n:decide (p=is.length)=false:=dF fun e=>heq e.symm
  have HPV:=hid (HPV0.out.trans ((if_neg (by rintro (h|h);exact hbig h;exact heq h.2)).trans (if_pos rfl)))
  have hpl:p<is.length:=by omega
  clear heq;have q0:=(cII HP6.out.obj 0).trans rfl;have q1:=(cII HP6.out.obj 1).trans rfl;have q2:=(cII HP6.out.obj 2).trans rfl;have q3:=(cII HP6.out.obj 3).trans rfl;have q4:=(cII HP6.out.obj 4).trans rfl;have qf:=zff HP6.out.obj
  go_upto_region 8 with (fail)
  clear q0 q1 q2 q3 q4 qf
  have hpl2:p<(is).length:=by omega
  obtain⟨g,c,e,hg1,hg2,cur,hcur⟩:=HP6.out.items.x.slice.resolve_left (fun h=>by rw[h.2] at hpl2;cases hpl2)
  obtain rfl:oa=some ⟨g,0,none⟩:=by cases e;rfl
  have HCU:=hid hcur;have HG:=hid (And.intro hg1 hg2);obtain⟨k1,n1,s1,oi1,mi1,ci1,ok1,mk1,ck1,a1,a2,a3,a4,a5,-⟩:=HP6.out.items.x.at hpl2;have q3:=(cII HP6.out.obj 3).trans rfl;have y0:=(cII HP6.out.x 0).trans rfl;have y1:=(cII HP6.out.x 1).trans rfl;have y2:=(cII HP6.out.x 2).trans rfl;have y3:=(cII HP6.out.x 3).trans rfl;have y4:=(cII HP6.out.x 4).trans rfl
  have hp0:(0:Int)≤(p:Int):=by omega
  have hp1:(p:Int)<((is).length:Int):=by omega
  have HCall:=hid (vcopy_any y Q w6.drew _ ((HY0.out.bel HP6.out.bel).bel (zdd (Below.refl _ _))) (by omega) (by omega));clear e hcur hg1 hg2 a1 a2 a3 a4 a5;refine zt 6 (fun v=>v.cell? ⟨w4.heap.size,3,none⟩=some (.slice (some ⟨g,0,none⟩) (is).length ca)∧v.cell? ⟨w.heap.size+1,0,none⟩=some (.int .i64 ky)∧v.cell? ⟨w.heap.size+1,1,none⟩=some (.int .i64 ny)∧v.cell? ⟨w.heap.size+1,2,none⟩=some (.string sy)∧v.cell? ⟨w.heap.size+1,3,none⟩=some (.slice oiy miy ciy)∧v.cell? ⟨w.heap.size+1,4,none⟩=some (.slice oky mky cky)) (by kernel_rfl) (by kernel_rfl) (⟨q3,y0,y1,y2,y3,y4⟩) ?_;simp only[List.take_succ_cons,List.take_zero,List.drop_succ_cons,List.drop_zero];refine cR1 ?_;refine qqL rfl (by rfl) (fun K hK=>?_)
  go_simp
  refine HCall.out.mono ?_;rintro e w9 ⟨u,rfl,hu,hb9⟩;have P9:=hid (HP6.out.later (show Below w6.heap.size w6 w9 from⟨hb9.os,hb9.tape,hb9.output,hb9.size,hb9.block⟩));have hcu9:w9.heap[g]? = _:=(hb9.block g HG.out.2).trans HCU.out;have HU9:=hid (show VV (fun b=>w6.heap.size≤b) w9 u y from hu);have HSB:=hid (show HP6.out.bel.size=HP6.out.bel.size from rfl);have hf:=zff hcu9;obtain⟨k1',n1',s1',oi1',mi1',ci1',ok1',mk1',ck1',a1,a2,a3,a4,a5,-⟩:=P9.out.items.x.at hpl2;have r1:=zbb (W:=w6.drew) hb9 q3;have r2:=zbb (W:=w6.drew) hb9 y0;have r3:=zbb (W:=w6.drew) hb9 y1;have r4:=zbb (W:=w6.drew) hb9 y2;have r5:=zbb (W:=w6.drew) hb9 y3;have r6:=zbb (W:=w6.drew) hb9 y4;obtain⟨k6,n6,s6,oi6,mi6,ci6,ok6,mk6,ck6,rfl⟩:=hu.agg5;clear hu hb9 hcu9 q3 y0 y1 y2 y3 y4 HSB;refine hK.out _ _ (⟨r1,r2,r3,r4,r5,r6⟩) ?_
  clear hK K
  try simp only[pT]
  refine cR2 ?_;refine zn ?_;have hst:PO w (((((w9.setCell ⟨g,p*5,none⟩ (.int .i64 k6)).setCell ⟨g,p*5+1,none⟩ (.int .i64 n6)).setCell ⟨g,p*5+2,none⟩ (.string s6)).setCell ⟨g,p*5+3,none⟩ (.slice oi6 mi6 ci6)).setCell ⟨g,p*5+4,none⟩ (.slice ok6 mk6 ck6)) w4.heap.size (.cells #[.int .i64 ky,.int .i64 ny,.string sy,.slice oiy miy ciy,.slice oky mky cky] 32) k n s (.slice (some ⟨g,0,none⟩) (is).length ca) (.slice ob ks.length cb) ((is).set p y) ks:=PO.set (r:=(.int .i64 k6,.int .i64 n6,.string s6,.slice oi6 mi6 ci6,.slice ok6 mk6 ck6)) P9.out hpl2 HU9.out (fun b (hb:w6.heap.size≤b)=>⟨by have:=HP6.out.bel.size;have:=HP6.out.lt;have:=HP6.out.hX;omega,fun e=>by have:=HP6.out.row.lt e;omega,by have:=HP6.out.lt;omega,by have:=HG.out.2;omega⟩);have HST:=hid hst;clear hst P9 HU9
  go_upto_region 9 with (fail)
  generalize (((((w9.setCell ⟨g,p*5,none⟩ (.int .i64 k6)).setCell ⟨g,p*5+1,none⟩ (.int .i64 n6)).setCell ⟨g,p*5+2,none⟩ (.string s6)).setCell ⟨g,p*5+3,none⟩ (.slice oi6 mi6 ci6)).setCell ⟨g,p*5+4,none⟩ (.slice ok6 mk6 ck6))=w10 at *
  clear r1 r2 r3 r4 r5 r6 a1 a2 a3 a4 a5 hf;have q0:=(cII HST.out.obj 0).trans rfl;have q1:=(cII HST.out.obj 1).trans rfl;have q2:=(cII HST.out.obj 2).trans rfl;have q3:=(cII HST.out.obj 3).trans rfl;have q4:=(cII HST.out.obj 4).trans rfl;have qf:=zff HST.out.obj;have f0:=(cII HST.out.z 0).trans rfl;have f1:=(cII HST.out.z 1).trans rfl;have f2:=(cII HST.out.z 2).trans rfl;have f3:=(cII HST.out.z 3).trans rfl;have f4:=(cII HST.out.z 4).trans rfl;have fz:=zff HST.out.z
  go_wp2_with fail
  try simp only[Exit.inBlock,Exit.then]
  refine bodyPost_ret (v:=.agg #[.int .i64 k,.int .i64 n,.string s,.slice (some ⟨g,0,none⟩) (is).length ca,.slice ob ks.length cb]) (by simp[results,Tryz.results88,go_sem,f0,f1,f2,f3,f4]) rfl ?_;rw[HPV.out];exact⟨_,rfl,store5_vv (Q:=fun g=>w.heap.size≤g) (HST.out.vv hss (by (try simp only[List.length_set]);omega) (by (try simp only[List.length_set]);omega)) (by omega) (fun g hg=>by omega) _ _ _ _ _,store5_below HST.out.bel (by omega) (nR _) _ _ _ _ _⟩
 | false =>
  have HPV1:=hid (HPV0.out.trans ((if_neg (by rintro (h|h);exact hbig h;exact absurd h.1 (by decide))).trans (if_neg (by decide))))
  have hpl:p≤is.length:=by omega
  have hpz:(0:Int)≤(p:Int):=by omega
  have q0:=(cII HP6.out.obj 0).trans rfl;have q1:=(cII HP6.out.obj 1).trans rfl;have q2:=(cII HP6.out.obj 2).trans rfl;have q3:=(cII HP6.out.obj 3).trans rfl;have q4:=(cII HP6.out.obj 4).trans rfl;have qf:=zff HP6.out.obj
  go_wp2_with fail
  clear q0 q1 q2 q3 q4 qf;have hb7:Below w6.heap.size w6 (w6.alloc (.cells #[.string x] 9)):=(Below.refl _ _).alloc (nR _) _;have hvb:=zhh w6 (.cells #[.string x] 9)
  generalize w6.alloc (.cells #[.string x] 9)=w7 at *
  have HP7:=hid (HP6.out.later hb7);refine(ins_any (.slice ob ks.length cb) ks p hpk (by omega) x w6.heap.size w7 HP7.out.row hvb (fun e=>by have:=HP6.out.row.lt e;omega)).mono ?_;rintro e w8 ⟨vk',rfl,hr8,hp8,hc8⟩;obtain⟨ks',hks'⟩:∃ ks',ks.take p++x :: ks.drop p=ks':=⟨_,rfl⟩;rw[hks'] at hr8
  have hkl:ks'.length≤90001:=by rw[←hks'];simp;omega
  obtain⟨ob',cb',rfl⟩:=hr8.slice
  have HPK:=hid (HP7.out.keys hr8 (fun z hz=>by
   rw[←hks'] at hz
   rcases List.mem_append.1 hz with h|h
   ·exact HP7.out.strs z (List.mem_of_mem_take h)
   ·rcases List.mem_cons.1 h with rfl|h
    ·exact hxs
    ·exact HP7.out.strs z (List.mem_of_mem_drop h)) hp8 hc8)
  have ho8:=(hc8.block _ HP7.out.lt (fun e=>(HP7.out.rown _ e).2.1 rfl)).trans HP7.out.obj;have HKS':=hid hks';have q4:=(cII ho8 4).trans rfl;have qf:=zff ho8;clear hb7 hvb hr8 hp8 hc8 ho8 HP7 HP6 hks'
  go_upto_region 7 with (fail)
  clear q4 qf
  generalize w8.setCell ⟨w4.heap.size,4,none⟩ (.slice ob' ks'.length cb')=w9 at *
  have q0:=(cII HPK.out.obj 0).trans rfl;have q1:=(cII HPK.out.obj 1).trans rfl;have q2:=(cII HPK.out.obj 2).trans rfl;have q3:=(cII HPK.out.obj 3).trans rfl;have q4:=(cII HPK.out.obj 4).trans rfl;have qf:=zff HPK.out.obj
  go_wp2_with fail
  clear q0 q1 q2 q3 q4 qf;have hb10:Below w9.heap.size w9 (w9.alloc (.cells #[.int .i64 0,.int .i64 0,.string ⟨#[]⟩,.slice none 0 0,.slice none 0 0] 32)):=(Below.refl _ _).alloc (nR _) _;have hvb2:=zhh w9 (.cells #[.int .i64 0,.int .i64 0,.string ⟨#[]⟩,.slice none 0 0,.slice none 0 0] 32)
  generalize w9.alloc (.cells #[.int .i64 0,.int .i64 0,.string ⟨#[]⟩,.slice none 0 0,.slice none 0 0] 32)=w10 at *
  have HP10:=hid (HPK.out.later hb10);refine(insV_any (S:=fun _=>False) (.slice oa is.length ca) is nullV (.int .i64 0,.int .i64 0,.string ⟨#[]⟩,.slice none 0 0,.slice none 0 0) p w9.heap.size w10 HP10.out.items (by have:=HP10.out.bel.size;have:=HP10.out.lt;have:=HP10.out.hX;omega) hpl (by omega) hvb2 (fun e=>by have:=(HPK.out.items.block e).2;omega) (VV.mk' (by decide) ⟨⟨by simp,.inl ⟨rfl,_,_,rfl⟩⟩,fun s h=>by cases h⟩ (WV.nil _ _)) (fun g h=>h.elim)).mono ?_;rintro e w11 ⟨vi',rfl,ho11,hp11,hc11⟩;obtain⟨is',his'⟩:∃ is',is.insertIdx p nullV=is':=⟨_,rfl⟩;rw[his'] at ho11
  have hil:p<is'.length∧is'.length≤90001:=by
   have:=List.length_insertIdx_of_le_length hpl nullV;rw[←his'];omega
  obtain⟨hil1,hil2⟩:=hil;obtain⟨oa',ca',rfl⟩:=OwnW.slice2 ho11;have HPT:=hid (HP10.out.turn ho11 hp11 hc11);have ho12:=(hc11.block _ HP10.out.lt (fun e=>HP10.out.iown e)).trans HP10.out.obj;have HPV:=hid (HPV1.out.trans (show Vl.mk k n s (is.insertIdx p y) (ks.insertIdx p x)=.mk k n s (is'.set p y) ks' by rw[←his',←HKS'.out,insertIdx_set,insertIdx_eq ks p x hpk]));have q3:=(cII ho12 3).trans rfl;have qf:=zff ho12;clear hb10 hvb2 ho11 hp11 hc11 ho12 HP10 HPK his'
  go_upto_region 8 with (fail)
  clear q3 qf
  generalize w11.setCell ⟨w4.heap.size,3,none⟩ (.slice oa' is'.length ca')=w12 at *
  have hpl2:p<(is').length:=by omega
  obtain⟨g,c,e,hg1,hg2,cur,hcur⟩:=HPT.out.items.x.slice.resolve_left (fun h=>by rw[h.2] at hpl2;cases hpl2)
  obtain rfl:oa'=some ⟨g,0,none⟩:=by cases e;rfl
  have HCU:=hid hcur;have HG:=hid (And.intro hg1 hg2);obtain⟨k1,n1,s1,oi1,mi1,ci1,ok1,mk1,ck1,a1,a2,a3,a4,a5,-⟩:=HPT.out.items.x.at hpl2;have q3:=(cII HPT.out.obj 3).trans rfl;have y0:=(cII HPT.out.x 0).trans rfl;have y1:=(cII HPT.out.x 1).trans rfl;have y2:=(cII HPT.out.x 2).trans rfl;have y3:=(cII HPT.out.x 3).trans rfl;have y4:=(cII HPT.out.x 4).trans rfl
  have hp0:(0:Int)≤(p:Int):=by omega
  have hp1:(p:Int)<((is').length:Int):=by omega
  have HCall:=hid (vcopy_any y Q w12.drew _ ((HY0.out.bel HPT.out.bel).bel (zdd (Below.refl _ _))) (by omega) (by omega));clear e hcur hg1 hg2 a1 a2 a3 a4 a5;refine zt 6 (fun v=>v.cell? ⟨w4.heap.size,3,none⟩=some (.slice (some ⟨g,0,none⟩) (is').length ca')∧v.cell? ⟨w.heap.size+1,0,none⟩=some (.int .i64 ky)∧v.cell? ⟨w.heap.size+1,1,none⟩=some (.int .i64 ny)∧v.cell? ⟨w.heap.size+1,2,none⟩=some (.string sy)∧v.cell? ⟨w.heap.size+1,3,none⟩=some (.slice oiy miy ciy)∧v.cell? ⟨w.heap.size+1,4,none⟩=some (.slice oky mky cky)) (by kernel_rfl) (by kernel_rfl) (⟨q3,y0,y1,y2,y3,y4⟩) ?_;simp only[List.take_succ_cons,List.take_zero,List.drop_succ_cons,List.drop_zero];refine cR1 ?_;refine qqL rfl (by rfl) (fun K hK=>?_)
  go_simp
  refine HCall.out.mono ?_;rintro e w9 ⟨u,rfl,hu,hb9⟩;have P9:=hid (HPT.out.later (show Below w12.heap.size w12 w9 from⟨hb9.os,hb9.tape,hb9.output,hb9.size,hb9.block⟩));have hcu9:w9.heap[g]? = _:=(hb9.block g HG.out.2).trans HCU.out;have HU9:=hid (show VV (fun b=>w12.heap.size≤b) w9 u y from hu);have HSB:=hid (show HPT.out.bel.size=HPT.out.bel.size from rfl);have hf:=zff hcu9;obtain⟨k1',n1',s1',oi1',mi1',ci1',ok1',mk1',ck1',a1,a2,a3,a4,a5,-⟩:=P9.out.items.x.at hpl2;have r1:=zbb (W:=w12.drew) hb9 q3;have r2:=zbb (W:=w12.drew) hb9 y0;have r3:=zbb (W:=w12.drew) hb9 y1;have r4:=zbb (W:=w12.drew) hb9 y2;have r5:=zbb (W:=w12.drew) hb9 y3;have r6:=zbb (W:=w12.drew) hb9 y4;obtain⟨k6,n6,s6,oi6,mi6,ci6,ok6,mk6,ck6,rfl⟩:=hu.agg5;clear hu hb9 hcu9 q3 y0 y1 y2 y3 y4 HSB;refine hK.out _ _ (⟨r1,r2,r3,r4,r5,r6⟩) ?_
  clear hK K
  try simp only[pT]
  refine cR2 ?_;refine zn ?_;have hst:PO w (((((w9.setCell ⟨g,p*5,none⟩ (.int .i64 k6)).setCell ⟨g,p*5+1,none⟩ (.int .i64 n6)).setCell ⟨g,p*5+2,none⟩ (.string s6)).setCell ⟨g,p*5+3,none⟩ (.slice oi6 mi6 ci6)).setCell ⟨g,p*5+4,none⟩ (.slice ok6 mk6 ck6)) w4.heap.size (.cells #[.int .i64 ky,.int .i64 ny,.string sy,.slice oiy miy ciy,.slice oky mky cky] 32) k n s (.slice (some ⟨g,0,none⟩) (is').length ca') (.slice ob' ks'.length cb') ((is').set p y) ks':=PO.set (r:=(.int .i64 k6,.int .i64 n6,.string s6,.slice oi6 mi6 ci6,.slice ok6 mk6 ck6)) P9.out hpl2 HU9.out (fun b (hb:w12.heap.size≤b)=>⟨by have:=HPT.out.bel.size;have:=HPT.out.lt;have:=HPT.out.hX;omega,fun e=>by have:=HPT.out.row.lt e;omega,by have:=HPT.out.lt;omega,by have:=HG.out.2;omega⟩);have HST:=hid hst;clear hst P9 HU9
  go_upto_region 9 with (fail)
  generalize (((((w9.setCell ⟨g,p*5,none⟩ (.int .i64 k6)).setCell ⟨g,p*5+1,none⟩ (.int .i64 n6)).setCell ⟨g,p*5+2,none⟩ (.string s6)).setCell ⟨g,p*5+3,none⟩ (.slice oi6 mi6 ci6)).setCell ⟨g,p*5+4,none⟩ (.slice ok6 mk6 ck6))=w10 at *
  clear r1 r2 r3 r4 r5 r6 a1 a2 a3 a4 a5 hf;have q0:=(cII HST.out.obj 0).trans rfl;have q1:=(cII HST.out.obj 1).trans rfl;have q2:=(cII HST.out.obj 2).trans rfl;have q3:=(cII HST.out.obj 3).trans rfl;have q4:=(cII HST.out.obj 4).trans rfl;have qf:=zff HST.out.obj;have f0:=(cII HST.out.z 0).trans rfl;have f1:=(cII HST.out.z 1).trans rfl;have f2:=(cII HST.out.z 2).trans rfl;have f3:=(cII HST.out.z 3).trans rfl;have f4:=(cII HST.out.z 4).trans rfl;have fz:=zff HST.out.z
  go_wp2_with fail
  try simp only[Exit.inBlock,Exit.then]
  refine bodyPost_ret (v:=.agg #[.int .i64 k,.int .i64 n,.string s,.slice (some ⟨g,0,none⟩) (is').length ca',.slice ob' ks'.length cb']) (by simp[results,Tryz.results88,go_sem,f0,f1,f2,f3,f4]) rfl ?_;rw[HPV.out];exact⟨_,rfl,store5_vv (Q:=fun g=>w.heap.size≤g) (HST.out.vv hss (by (try simp only[List.length_set]);omega) (by (try simp only[List.length_set]);omega)) (by omega) (fun g hg=>by omega) _ _ _ _ _,store5_below HST.out.bel (by omega) (nR _) _ _ _ _ _⟩
end Go.Proofs.YtibiiafcnaijeaaGreat
