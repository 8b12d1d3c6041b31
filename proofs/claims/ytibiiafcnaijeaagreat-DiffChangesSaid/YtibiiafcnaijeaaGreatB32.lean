/- A part. -/
import Derived.Test.YtibiiafcnaijeaaGreatB00
import Derived.Test.YtibiiafcnaijeaaGreatB31
import Derived.Test.YtibiiafcnaijeaaGreatB18
import Derived.Test.YtibiiafcnaijeaaGreatB01
import Derived.Test.YtibiiafcnaijeaaGreatB07
import Derived.Test.YtibiiafcnaijeaaGreatB14
namespace Go.Proofs.YtibiiafcnaijeaaGreat
open Go Go.RowKit Go.Proofs.YtibiiafcnaijeaaGreat.Steady
set_option linter.unusedVariables false
set_option linter.unusedSimpArgs false
set_option maxRecDepth 100000
set_option maxHeartbeats 40000000
theorem undrew {w w':World}(h:Below w.drew.heap.size w.drew w'):Below w.heap.size w w':=⟨h.os,h.tape,h.output,h.size,h.block⟩
structure VB (A:Nat→Prop) (B X:Nat) (w1 wr:World) (k:Int) (vi vk:Value) (is:List Vl) (ks:List ByteArray):Prop where
 hB:B≤w1.heap.size
 bel:Below B w1 wr
 hX:B≤X
 obj:wr.heap[X]? = some (.cells #[.int .i64 k,.int .i64 0,.string ⟨#[]⟩,vi,vk] 32)
 own:OwnW B X (fun g=>(A g∨B≤g)∧vk.ownBlock≠some g) wr vi is
 eown:vi.ownBlock≠some X
 row:Row wr vk ks
 rown:∀ g,vk.ownBlock=some g→B≤g∧g≠X∧vi.ownBlock≠some g
 strs:∀ s∈ks,s.size≤140737488355328
structure VI (A:Nat→Prop) (B X:Nat) (w1 wr:World) (k:Int) (vi vk:Value) (is:List Vl):Prop where
 hB:B≤w1.heap.size
 bel:Below B w1 wr
 hX:B≤X
 obj:wr.heap[X]? = some (.cells #[.int .i64 k,.int .i64 0,.string ⟨#[]⟩,vi,vk] 32)
 own:OwnW B X (fun g=>A g∨B≤g) wr vi is
 eown:vi.ownBlock≠some X
section
variable {A:Nat→Prop} {B X:Nat} {w1 wr w' w'':World} {k:Int} {vi vk vi' vk':Value} {is is':List Vl} {ks ks':List ByteArray}
theorem VB.lt (h:VB A B X w1 wr k vi vk is ks):X<wr.heap.size:=(aS h.obj).1
theorem VB.later (h:VB A B X w1 wr k vi vk is ks) (hb:Below wr.heap.size wr w'):VB A B X w1 w' k vi vk is ks :=
 ⟨h.hB,h.bel.trans (hb.mono (Nat.le_trans h.hB h.bel.size)),h.hX,kO h.obj hb,h.own.later hb,h.eown,h.row.of_same fun g hg=>hb.block g (h.row.lt hg),h.rown,h.strs⟩
theorem VB.pushK (h:VB A B X w1 wr k vi vk is ks) (hr:Row w' vk' ks') (hs:∀ s∈ks',s.size≤140737488355328) (hp:vk'.ownBlock=vk.ownBlock∨∃ g,vk'.ownBlock=some g∧wr.heap.size≤g) (hc:Chg (fun g=>vk.ownBlock=some g) wr w') (c2:Chg (fun g=>g=X) w' w'')
  (ho:w''.heap[X]? = some (.cells #[.int .i64 k,.int .i64 0,.string ⟨#[]⟩,vi,vk'] 32)):VB A B X w1 w'' k vi vk' is ks':=by
 have hl:=h.lt;have hX:=h.hX;have hsz:=Nat.le_trans h.hB h.bel.size
 have hnew:∀ g,vk'.ownBlock=some g→vk.ownBlock=some g∨wr.heap.size≤g:=fun g e=>by
  rcases hp with h1|⟨g',h1,h2⟩
  ·exact .inl (h1▸e)
  ·rw[h1] at e;cases e;exact .inr h2
 have i1:OwnW B X (fun g=>(A g∨B≤g)∧vk'.ownBlock≠some g) w' vi is:=h.own.chgP hc (fun g e e2=>(h.rown g e2).2.2 e) (fun g hg _ _ e=>hg.2 e) (fun g hg hlt=>⟨hg.1,fun e=>by
  rcases hnew g e with h1|h1
  ·exact hg.2 h1
  ·omega⟩)
 refine⟨h.hB,(h.bel.trans (zgg hc (fun g e=>(h.rown g e).1) hsz)).trans (zgg c2 (fun g e=>by rw[e];exact hX) (Nat.le_trans hsz hc.size)),hX,ho,i1.chgP c2 (fun g e e2=>h.eown (e2▸e)) (fun g _ _ hb e=>hb e) (fun g hg _=>hg),h.eown,hr.chg c2 (fun g e e2=>?_),fun g e=>?_,hs⟩
 ·rcases hnew g e with h1|h1
  ·exact(h.rown g h1).2.1 e2
  ·omega
 ·rcases hnew g e with h1|h1
  ·exact h.rown g h1
  ·exact⟨by omega,by omega,fun e2=>by have:=(h.own.block e2).2;omega⟩
theorem VB.pushI (h:VB A B X w1 wr k vi vk is ks) (hr:OwnW B X (fun g=>(A g∨B≤g)∧vk.ownBlock≠some g) w' vi' is') (hp:vi'.ownBlock=vi.ownBlock∨∃ g,vi'.ownBlock=some g∧wr.heap.size≤g) (hc:Chg (fun g=>vi.ownBlock=some g) wr w') (c2:Chg (fun g=>g=X) w' w'')
  (ho:w''.heap[X]? = some (.cells #[.int .i64 k,.int .i64 0,.string ⟨#[]⟩,vi',vk] 32)):VB A B X w1 w'' k vi' vk is' ks:=by
 have hl:=h.lt;have hX:=h.hX;have hsz:=Nat.le_trans h.hB h.bel.size
 have hnew:∀ g,vi'.ownBlock=some g→vi.ownBlock=some g∨wr.heap.size≤g:=fun g e=>by
  rcases hp with h1|⟨g',h1,h2⟩
  ·exact .inl (h1▸e)
  ·rw[h1] at e;cases e;exact .inr h2
 have hniX:vi'.ownBlock≠some X:=fun e=>by
  rcases hnew X e with h1|h1
  ·exact h.eown h1
  ·omega
 refine⟨h.hB,(h.bel.trans (zgg hc (fun g e=>(h.own.block e).1) hsz)).trans (zgg c2 (fun g e=>by rw[e];exact hX) (Nat.le_trans hsz hc.size)),hX,ho,hr.chgP c2 (fun g e e2=>hniX (e2▸e)) (fun g _ _ hb e=>hb e) (fun g hg _=>hg),hniX,
  (h.row.chg hc fun g e e2=>(h.rown g e).2.2 e2).chg c2 (fun g e e2=>(h.rown g e).2.1 e2),fun g e=>⟨(h.rown g e).1,(h.rown g e).2.1,fun e2=>?_⟩,h.strs⟩
 rcases hnew g e2 with h1|h1
 ·exact(h.rown g e).2.2 h1
 ·have:=h.row.lt e;omega
theorem VB.read (h:VB A B X w1 wr k vi vk is ks) (hl:is.length≤140737488355328) (hk:ks.length≤140737488355328):VV (fun g=>(A g∨B≤g)∧g<wr.heap.size) wr (.agg #[.int .i64 k,.int .i64 0,.string ⟨#[]⟩,vi,vk]) (.mk k 0 ⟨#[]⟩ is ks) :=
 (VV.mk' (by decide) (h.row.sv (Q:=fun g=>A g∨B≤g) (fun g e=>Or.inr (h.rown g e).1) hk h.strs) ((h.own.x.mono (Q:=fun _ g=>A g∨B≤g) fun _ g _ hg=>hg.1).read (fun i g _ hg=>hg) (fun g hg=>Or.inr hg) hl)).ex
theorem VI.lt (h:VI A B X w1 wr k vi vk is):X<wr.heap.size:=(aS h.obj).1
theorem VI.later (h:VI A B X w1 wr k vi vk is) (hb:Below wr.heap.size wr w'):VI A B X w1 w' k vi vk is :=
 ⟨h.hB,h.bel.trans (hb.mono (Nat.le_trans h.hB h.bel.size)),h.hX,kO h.obj hb,h.own.later hb,h.eown⟩
theorem VI.pushI (h:VI A B X w1 wr k vi vk is) (hr:OwnW B X (fun g=>A g∨B≤g) w' vi' is') (hp:vi'.ownBlock=vi.ownBlock∨∃ g,vi'.ownBlock=some g∧wr.heap.size≤g) (hc:Chg (fun g=>vi.ownBlock=some g) wr w') (c2:Chg (fun g=>g=X) w' w'')
  (ho:w''.heap[X]? = some (.cells #[.int .i64 k,.int .i64 0,.string ⟨#[]⟩,vi',vk] 32)):VI A B X w1 w'' k vi' vk is':=by
 have hl:=h.lt;have hX:=h.hX;have hsz:=Nat.le_trans h.hB h.bel.size
 have hniX:vi'.ownBlock≠some X:=fun e=>by
  rcases hp with h1|⟨g',h1,h2⟩
  ·exact h.eown (h1▸e)
  ·rw[h1] at e;cases e;omega
 exact⟨h.hB,(h.bel.trans (zgg hc (fun g e=>(h.own.block e).1) hsz)).trans (zgg c2 (fun g e=>by rw[e];exact hX) (Nat.le_trans hsz hc.size)),hX,ho,hr.chgP c2 (fun g e e2=>hniX (e2▸e)) (fun g _ _ hb e=>hb e) (fun g hg _=>hg),hniX⟩
theorem VI.read (h:VI A B X w1 wr k vi vk is) (hl:is.length≤140737488355328) (hk:SV (fun g=>A g∨B≤g) wr vk ks):VV (fun g=>(A g∨B≤g)∧g<wr.heap.size) wr (.agg #[.int .i64 k,.int .i64 0,.string ⟨#[]⟩,vi,vk]) (.mk k 0 ⟨#[]⟩ is ks) :=
 (VV.mk' (by decide) hk (h.own.x.read (fun i g _ hg=>hg) (fun g hg=>Or.inr hg) hl)).ex
end
theorem VI.item {A S:Nat→Prop}{B X:Nat}{w1 wr w':World}{k:Int}{vi vk vi':Value}{is:List Vl}{r:V5}{t:Vl}{rs:List V5}(h:VI A B X w1 wr k vi vk is) (hm:Made B wr 32 5 vi is.length (flat5 rs)) (hl:rs.length=is.length)
  (he:∀ (i:Nat) r t,rs[i]? = some r→is[i]? = some t→VV (fun g=>(A g∨B≤g)∧g<wr.heap.size∧g≠X∧vi.ownBlock≠some g) wr (pent r) t)
  (hown:w'.ownsRow 0 32 5 vi' (is.length+1) (flat5 rs++[r.1,r.2.1,r.2.2.1,r.2.2.2.1,r.2.2.2.2])) (ht:VV S wr (pent r) t) (hs:∀ g,S g→(A g∨B≤g)∧g≠X∧vi.ownBlock≠some g) (hp:vi'.ownBlock=vi.ownBlock∨∃ g,vi'.ownBlock=some g∧wr.heap.size≤g) (hc:Chg (fun g=>vi.ownBlock=some g) wr w') :
  OwnW B X (fun g=>A g∨B≤g) w' vi' (is++[t]) :=
 OwnW.push (Nat.le_trans h.hB h.bel.size) ⟨rs,hm,hl,he,hown⟩ ht hs hc hp
theorem VB.item {A S:Nat→Prop}{B X:Nat}{w1 wr w':World}{k:Int}{vi vk vi':Value}{is:List Vl}{ks:List ByteArray}{r:V5}{t:Vl}{rs:List V5}(h:VB A B X w1 wr k vi vk is ks) (hm:Made B wr 32 5 vi is.length (flat5 rs)) (hl:rs.length=is.length)
  (he:∀ (i:Nat) r t,rs[i]? = some r→is[i]? = some t→VV (fun g=>((A g∨B≤g)∧vk.ownBlock≠some g)∧g<wr.heap.size∧g≠X∧vi.ownBlock≠some g) wr (pent r) t)
  (hown:w'.ownsRow 0 32 5 vi' (is.length+1) (flat5 rs++[r.1,r.2.1,r.2.2.1,r.2.2.2.1,r.2.2.2.2])) (ht:VV S wr (pent r) t) (hs:∀ g,S g→((A g∨B≤g)∧vk.ownBlock≠some g)∧g≠X∧vi.ownBlock≠some g) (hp:vi'.ownBlock=vi.ownBlock∨∃ g,vi'.ownBlock=some g∧wr.heap.size≤g) (hc:Chg (fun g=>vi.ownBlock=some g) wr w') :
  OwnW B X (fun g=>(A g∨B≤g)∧vk.ownBlock≠some g) w' vi' (is++[t]) :=
 OwnW.push (Nat.le_trans h.hB h.bel.size) ⟨rs,hm,hl,he,hown⟩ ht hs hc hp
structure Got (P:Nat→Prop) (m:Nat) (wr wx:World) (X:Nat) (u0 u1 u2 u3 u4:Value) (t:Vl):Prop where
 bel:Below wr.heap.size wr wx
 hX:wr.heap.size≤X
 obj:wx.heap[X]? = some (.cells #[u0,u1,u2,u3,u4] 32)
 vv:VV (fun g=>P g∨(wr.heap.size≤g∧g≠X)) wx (.agg #[u0,u1,u2,u3,u4]) t
 sz:szV t≤m
section
variable {P:Nat→Prop} {m:Nat} {wr w5 w6 w7:World} {u0 u1 u2 u3 u4:Value} {t:Vl}
theorem Got.one (hP:∀ g,P g→g<wr.heap.size) (hb:Below wr.heap.size wr w5) (hv:VV (fun g=>P g∨wr.heap.size≤g) w5 (.agg #[u0,u1,u2,u3,u4]) t) (hm:szV t≤m) (ha:Below w5.heap.size w5 w6) (hc:Chg (fun k=>k=w5.heap.size) w6 w7) (ho:w7.heap[w5.heap.size]? = some (.cells #[u0,u1,u2,u3,u4] 32)) :
  Got P m wr w7 w5.heap.size u0 u1 u2 u3 u4 t :=
 ⟨(hb.trans (ha.mono hb.size)).trans (zgg hc (fun k hk=>by rw[hk];exact hb.size) (Nat.le_trans hb.size ha.size)),hb.size,ho,
  (hv.ex.bel ha).keep (ZK.chg hc fun g hg e=>by have:=hg.2;omega) (fun g hg=>hg.1.imp id fun h=>⟨h,by have:=hg.2;omega⟩),hm⟩
theorem Got.two (hP:∀ g,P g→g<wr.heap.size) (ha:Below wr.heap.size wr w5) (h5:w5.heap.size=wr.heap.size+1) (hb:Below w5.heap.size w5 w6) (hv:VV (fun g=>P g∨w5.heap.size≤g) w6 (.agg #[u0,u1,u2,u3,u4]) t) (hm:szV t≤m) (hc:Chg (fun k=>k=wr.heap.size) w6 w7) (ho:w7.heap[wr.heap.size]? = some (.cells #[u0,u1,u2,u3,u4] 32)) :
  Got P m wr w7 wr.heap.size u0 u1 u2 u3 u4 t :=
 ⟨(ha.trans (hb.mono ha.size)).trans (zgg hc (fun k hk=>by omega) (Nat.le_trans ha.size hb.size)),nR _,ho,
  hv.keep (ZK.chg hc fun g hg e=>by rcases hg with h|h;(have:=hP g h;omega);omega) (fun g hg=>hg.imp id fun h=>⟨by omega,by omega⟩),hm⟩
end
structure Got0 (P:Nat→Prop) (m:Nat) (wr wx:World) (X:Nat) (u0 u1 u2 u3 u4:Value) (t:Vl):Prop where
 bel:Below wr.heap.size wr wx
 hX:wr.heap.size≤X
 obj:wx.heap[X]? = some (.cells #[u0,u1,u2,u3,u4] 32)
 vv:VV P wx (.agg #[u0,u1,u2,u3,u4]) t
 sz:szV t≤m
section
variable {P:Nat→Prop} {m:Nat} {wr w5 w6 w7:World} {u0 u1 u2 u3 u4:Value} {t:Vl}
theorem Got0.one (hP:∀ g,P g→g<wr.heap.size) (hb:Below wr.heap.size wr w5) (hv:VV P w5 (.agg #[u0,u1,u2,u3,u4]) t) (hm:szV t≤m) (ha:Below w5.heap.size w5 w6) (hc:Chg (fun k=>k=w5.heap.size) w6 w7) (ho:w7.heap[w5.heap.size]? = some (.cells #[u0,u1,u2,u3,u4] 32)) :
  Got0 P m wr w7 w5.heap.size u0 u1 u2 u3 u4 t :=
 ⟨(hb.trans (ha.mono hb.size)).trans (zgg hc (fun k hk=>by rw[hk];exact hb.size) (Nat.le_trans hb.size ha.size)),hb.size,ho,
  (hv.ex.bel ha).keep (ZK.chg hc fun g hg e=>by have:=hg.2;omega) (fun g hg=>hg.1),hm⟩
theorem Got0.two (hP:∀ g,P g→g<wr.heap.size) (ha:Below wr.heap.size wr w5) (h5:w5.heap.size=wr.heap.size+1) (hb:Below w5.heap.size w5 w6) (hv:VV P w6 (.agg #[u0,u1,u2,u3,u4]) t) (hm:szV t≤m) (hc:Chg (fun k=>k=wr.heap.size) w6 w7) (ho:w7.heap[wr.heap.size]? = some (.cells #[u0,u1,u2,u3,u4] 32)) :
  Got0 P m wr w7 wr.heap.size u0 u1 u2 u3 u4 t :=
 ⟨(ha.trans (hb.mono ha.size)).trans (zgg hc (fun k hk=>by omega) (Nat.le_trans ha.size hb.size)),nR _,ho,
  hv.keep (ZK.chg hc fun g hg e=>by have:=hP g hg;omega) (fun g hg=>hg),hm⟩
end
theorem szL_app:∀ (a b:List Vl),szL (a++b)=szL a+szL b
 | [],b=>by rw[List.nil_append,szL,Nat.zero_add]
 | x :: a,b=>by rw[List.cons_append,szL,szL,szL_app a b];omega
theorem sizeL_drop {l:List Ty}{j:Nat}(h:j<l.length):sizeL (l.drop j)=sizeT l[j]+sizeL (l.drop (j+1)):=by
 rw[List.drop_eq_getElem_cons h,sizeL]
theorem getRL_mem:∀ (ks:List ByteArray) (is:List Vl) (x:ByteArray) (y:Vl),getRL ks is x=some y→y∈is
 | [],_,x,y,h=>by rw[getRL] at h;cases h
 | _ :: _,[],x,y,h=>by rw[getRL] at h;cases h
 | k :: ks,i :: is,x,y,h=>by
  rw[getRL] at h
  by_cases e:k=x
  ·rw[if_pos e] at h;cases h;exact List.mem_cons_self ..
  ·rw[if_neg e] at h;exact List.mem_cons_of_mem _ (getRL_mem ks is x y h)
theorem getR_sz (v:Vl) (x:ByteArray):szV ((getR v x).getD nullV)≤szV v:=by
 obtain⟨k,n,s,is,ks⟩:=v;have h1:=szV_pos (.mk k n s is ks)
 cases h:getR (.mk k n s is ks) x with
 | none=>show szV nullV≤_;rw[szV_flat];exact h1
 | some y =>
  show szV y≤_;rw[getR] at h
  by_cases e:k=5
  ·rw[if_pos e] at h
   have:=szV_mem (getRL_mem _ _ _ _ h);rw[szV];omega
  ·rw[if_neg e] at h;cases h
theorem zrc {Pr:Program}{fn:Func}{p u:Tmp}{ty ty2:TypeId}(h:fn.results=#[.cell p ty,.cell u ty2]) (tmps:Array Value) (w:World) (g:Nat) (t:TypeId) (cs:Array Value) (fr:Nat × Nat) (d:TypeDesc) (g2:Nat) (t2:TypeId) (cs2:Array Value) (fr2:Nat × Nat) (d2:TypeDesc)
  (hp:tmps.getD p undef=.pointer (some ⟨g,0,none⟩)) (hg:w.heap[g]? = some (.cells cs t fr)) (hu:Pr.underlying ty=some d) (hd:(match d with|.struct _|.array _ _=>true|_=>false)=true) (hi:(Pr.info? ty).map (·.size)=some cs.size)
  (hp2:tmps.getD u undef=.pointer (some ⟨g2,0,none⟩)) (hg2:w.heap[g2]? = some (.cells cs2 t2 fr2)) (hu2:Pr.underlying ty2=some d2) (hd2:(match d2 with|.struct _|.array _ _=>true|_=>false)=true) (hi2:(Pr.info? ty2).map (·.size)=some cs2.size) :
  (results fn tmps).run Pr w=.ok (.tuple #[.agg cs,.agg cs2]) w:=by
 have hp':tmps[p]?.getD undef=.pointer (some ⟨g,0,none⟩):=by simpa using hp
 have hp2':tmps[u]?.getD undef=.pointer (some ⟨g2,0,none⟩):=by simpa using hp2
 simp[results,h,hp',hp2',asAddr,run_loadVar_row w g t ty cs fr d hg hu hd hi,run_loadVar_row w g2 t2 ty2 cs2 fr2 d2 hg2 hu2 hd2 hi2,Sem.run_bind,Result.andThen]
def CL:List (Nat × Nat × Value)→World→Prop
 | [],_=>True
 | x :: l,v=>v.cell? ⟨x.1,x.2.1,none⟩=some x.2.2∧CL l v
theorem CL.bel:∀ {l:List (Nat × Nat × Value)}{v v':World},CL l v→Below v.heap.size v v'→CL l v'
 | [],_,_,_,_=>trivial
 | _ :: _,_,_,h,hb=>⟨zbb hb h.1,CL.bel h.2 hb⟩
theorem CL.chg {B:Nat→Prop}:∀ {l:List (Nat × Nat × Value)}{v v':World},CL l v→Chg B v v'→(∀ x∈l,¬ B x.1)→CL l v'
 | [],_,_,_,_,_=>trivial
 | x :: l,_,_,h,hc,hn=>⟨zcc hc (hn x (List.mem_cons_self ..)) h.1,CL.chg h.2 hc fun y hy=>hn y (List.mem_cons_of_mem _ hy)⟩
theorem CL.lt:∀ {l:List (Nat × Nat × Value)}{v:World},CL l v→∀ x∈l,x.1<v.heap.size
 | x :: l,v,h,y,hy=>by
  rcases List.mem_cons.1 hy with e|e
  ·subst e;exact World.block_lt_of_cell? v _ h.1
  ·exact CL.lt h.2 y e
abbrev zeroD:Obj:=.cells #[.int .i64 0,.int .i64 0,.string ⟨#[]⟩] 71
def DRes (P:Nat→Prop) (m:Nat) (Z:Vl→Int→Prop) (w:World) (e:Ending) (w':World):Prop:=∃ u t dk dn dm,e=.returned (.tuple #[u,.agg #[.int .i64 dk,.int .i64 dn,.string dm]])∧VV (fun g=>P g∨w.heap.size≤g) w' u t∧szV t≤m∧Z t dk∧Below w.heap.size w w'
theorem dres_mk {P Q:Nat→Prop}{m b b2:Nat}{Z:Vl→Int→Prop}{w wx ws wt:World}{u:Value}{t:Vl}{dk dn:Int}{dm:ByteArray}(hv:VV Q wx u t) (hq:∀ g,Q g→P g∨w.heap.size≤g) (hqb:∀ g,Q g→g≠b∧g≠b2) (hb:Below w.heap.size w wx) (hwb:w.heap.size≤b) (hwb2:w.heap.size≤b2)
  (hc:Chg (fun k=>k=b) wx ws) (hc2:Chg (fun k=>k=b2) ws wt) (hm:szV t≤m) (hz:Z t dk) :
  DRes P m Z w (.returned (.tuple #[u,.agg #[.int .i64 dk,.int .i64 dn,.string dm]])) wt :=
 ⟨u,t,dk,dn,dm,rfl,(hv.keep (ZK.chg hc fun g hg e=>(hqb g hg).1 e) fun g hg=>hg).keep (ZK.chg hc2 fun g hg e=>(hqb g hg).2 e) hq,hm,hz,
  (hb.trans (zgg hc (fun k hk=>by rw[hk];exact hwb) hb.size)).trans (zgg hc2 (fun k hk=>by rw[hk];exact hwb2) (Nat.le_trans hb.size hc.size))⟩
theorem wrong_any (k:Int) (s:ByteArray) (w:World):Calls Tryz.prog 58 #[.int .i64 k,.string s] w (Ret (.agg #[.int .i64 k,.int .i64 0,.string s]) w):=by
 have ho:=zhh w zeroD;have hb:Below w.heap.size w (w.alloc zeroD):=(Below.refl _ _).alloc (nR _) _
 generalize hA:w.alloc zeroD=wa at *
 have HA:=hid hA;have HO:=hid ho;have HB:=hid hb;clear hA ho hb
 go_enter Tryz.func58,Tryz.ntmps58
 go_upto_region 1 with (fail)
 rw[HA.out];have fz:=zff HO.out
 go_wp2_with (refine zo rfl 71 _ _ rfl w.heap.size 0 [_,_,_] rfl rfl _ _ HO.out (by simp) (by kernel_rfl) rfl ?_;intro ws hzs hcs)
 try simp only[Exit.inBlock,Exit.then]
 refine bodyPost_ret (results_cell_row rfl _ ws w.heap.size 71 _ (0,0) _ rfl hzs Tryz.underlying71 rfl (by kernel_rfl)) rfl ?_;exact⟨rfl,HB.out.trans (zgg hcs (fun k hk=>by omega) HB.out.size)⟩
structure JS (P:Nat→Prop) (m:Nat) (Z:Vl→Int→Prop) (w0 w:World) (b8 b9:Option Nat) (oX:Option Value) (tx:Vl) (oU:Option (Value × Int)):Prop where
 hP:∀ g,P g→g<w0.heap.size
 bel:Below w0.heap.size w0 w
 h8:∀ b,b8=some b→w0.heap.size≤b∧w.heap[b]? = some zero5
 h9:∀ b,b9=some b→w0.heap.size≤b∧w.heap[b]? = some zeroD
 ne:∀ b b',b8=some b→b9=some b'→b≠b'
 xv:∀ x,oX=some x→VV P w x tx
 uv:∀ u,oU=some u→∃ t,VV (fun g=>(P g∨w0.heap.size≤g)∧b8≠some g∧b9≠some g) w u.1 t∧szV t≤m∧Z t u.2
section
variable {P:Nat→Prop} {m:Nat} {Z:Vl→Int→Prop} {w0 w w':World} {b8 b9:Option Nat} {oX:Option Value} {tx:Vl} {oU:Option (Value × Int)}
theorem JS.later (h:JS P m Z w0 w b8 b9 oX tx oU) (hb:Below w.heap.size w w'):JS P m Z w0 w' b8 b9 oX tx oU :=
 ⟨h.hP,h.bel.trans (hb.mono h.bel.size),fun b e=>⟨(h.h8 b e).1,kO (h.h8 b e).2 hb⟩,fun b e=>⟨(h.h9 b e).1,kO (h.h9 b e).2 hb⟩,h.ne,fun x e=>(h.xv x e).bel hb,fun u e=>by
  obtain⟨t,h1,h2⟩:=h.uv u e
  exact⟨t,h1.bel hb,h2⟩⟩
theorem JS.alloc8 (h:JS P m Z w0 w none b9 oX tx oU):JS P m Z w0 (w.alloc zero5) (some w.heap.size) b9 oX tx oU:=by
 have hb:Below w.heap.size w (w.alloc zero5):=(Below.refl _ _).alloc (nR _) _;refine⟨h.hP,h.bel.trans (hb.mono h.bel.size),fun b e=>by cases e;exact⟨h.bel.size,zhh w _⟩,fun b e=>⟨(h.h9 b e).1,kO (h.h9 b e).2 hb⟩,fun b b' e e' e2=>?_,fun x e=>(h.xv x e).bel hb,fun u e=>?_⟩
 ·cases e
  subst e2;have:=(aS (h.h9 _ e').2).1
  omega
 ·obtain⟨t,h1,h2⟩:=h.uv u e
  exact⟨t,(h1.ex.bel hb).mono fun g hg=>⟨hg.1.1,fun e=>by cases e;have:=hg.2;omega,hg.1.2.2⟩,h2⟩
theorem JS.alloc9 (h:JS P m Z w0 w b8 none oX tx oU):JS P m Z w0 (w.alloc zeroD) b8 (some w.heap.size) oX tx oU:=by
 have hb:Below w.heap.size w (w.alloc zeroD):=(Below.refl _ _).alloc (nR _) _;refine⟨h.hP,h.bel.trans (hb.mono h.bel.size),fun b e=>⟨(h.h8 b e).1,kO (h.h8 b e).2 hb⟩,fun b e=>by cases e;exact⟨h.bel.size,zhh w _⟩,fun b b' e e' e2=>?_,fun x e=>(h.xv x e).bel hb,fun u e=>?_⟩
 ·cases e'
  subst e2;have:=(aS (h.h8 _ e).2).1
  omega
 ·obtain⟨t,h1,h2⟩:=h.uv u e
  exact⟨t,(h1.ex.bel hb).mono fun g hg=>⟨hg.1.1,hg.1.2.1,fun e=>by cases e;have:=hg.2;omega⟩,h2⟩
theorem JS.gotX (h:JS P m Z w0 w b8 b9 none tx oU) (hb:Below w.heap.size w w') {x:Value}(hx:VV P w' x tx):JS P m Z w0 w' b8 b9 (some x) tx oU :=
 have h':=h.later hb
 ⟨h'.hP,h'.bel,h'.h8,h'.h9,h'.ne,fun y e=>by cases e;exact hx,h'.uv⟩
theorem JS.gotU {Q:Nat→Prop}(h:JS P m Z w0 w b8 b9 oX tx none) (hb:Below w.heap.size w w') {u:Value}{t:Vl}{dk:Int}(hq:∀ g,Q g→P g) (hu:VV (fun g=>Q g∨w.heap.size≤g) w' u t) (hm:szV t≤m) (hz:Z t dk):JS P m Z w0 w' b8 b9 oX tx (some (u,dk)) :=
 have h':=h.later hb
 ⟨h'.hP,h'.bel,h'.h8,h'.h9,h'.ne,h'.xv,fun y e=>by
  cases e
  refine⟨t,hu.mono fun g hg=>?_,hm,hz⟩
  rcases hg with hg|hg
  ·have:=h.hP g (hq g hg)
   exact⟨.inl (hq g hg),fun e=>by have:=(h.h8 g e).1;omega,fun e=>by have:=(h.h9 g e).1;omega⟩
  ·refine⟨.inr (Nat.le_trans h.bel.size hg),fun e=>?_,fun e=>?_⟩
   ·have:=(aS (h.h8 _ e).2).1;omega
   ·have:=(aS (h.h9 _ e).2).1;omega⟩
end
structure GotD (P:Nat→Prop) (m:Nat) (Z:Vl→Int→Prop) (wr wx:World) (X Y:Nat) (u0 u1 u2 u3 u4:Value) (dk dn:Int) (dm:ByteArray) (t:Vl):Prop where
 bel:Below wr.heap.size wr wx
 hX:wr.heap.size≤X∧wr.heap.size≤Y∧X≠Y
 obj:wx.heap[X]? = some (.cells #[u0,u1,u2,u3,u4] 32)
 objD:wx.heap[Y]? = some (.cells #[.int .i64 dk,.int .i64 dn,.string dm] 71)
 vv:VV (fun g=>P g∨(wr.heap.size≤g∧g≠X∧g≠Y)) wx (.agg #[u0,u1,u2,u3,u4]) t
 sz:szV t≤m
 z:Z t dk
theorem GotD.mk' {P:Nat→Prop}{m X Y:Nat}{Z:Vl→Int→Prop}{w0 w w' w'':World}{oX:Option Value}{tx:Vl}{u0 u1 u2 u3 u4:Value}{dk dn:Int}{dm:ByteArray}(h:JS P m Z w0 w (some X) (some Y) oX tx (some (.agg #[u0,u1,u2,u3,u4],dk)))
  (hc:Chg (fun k=>k=X) w w') (hc2:Chg (fun k=>k=Y) w' w'') (ho:w'.heap[X]? = some (.cells #[u0,u1,u2,u3,u4] 32)) (ho2:w''.heap[Y]? = some (.cells #[.int .i64 dk,.int .i64 dn,.string dm] 71)) :
  ∃ t,GotD P m Z w0 w'' X Y u0 u1 u2 u3 u4 dk dn dm t:=by
 obtain⟨t,h1,h2,h3⟩:=h.uv _ rfl;have hX:=(h.h8 X rfl).1;have hY:=(h.h9 Y rfl).1;have hne:=h.ne X Y rfl rfl;refine⟨t,(h.bel.trans (zgg hc (fun k hk=>by omega) h.bel.size)).trans (zgg hc2 (fun k hk=>by omega) (Nat.le_trans h.bel.size hc.size)),⟨hX,hY,hne⟩,(hc2.block X (aS ho).1 (fun e=>hne e)).trans ho,ho2,?_,h2,h3⟩
 refine(h1.keep (ZK.chg hc fun g hg e=>hg.2.1 (by rw[e])) fun g hg=>hg).keep (ZK.chg hc2 fun g hg e=>hg.2.2 (by rw[e])) fun g hg=>hg.1.imp (fun h=>h) fun h=>⟨h,fun e=>hg.2.1 (by rw[e]),fun e=>hg.2.2 (by rw[e])⟩
abbrev ofR (v:Vl) (x:ByteArray):Vl:=(getR v x).getD nullV
def OfPost (P:Nat→Prop) (t:Vl) (w:World) (e:Ending) (w':World):Prop:=∃ u,e=.returned u∧VV P w' u t∧Below w.heap.size w w'
theorem of_any (v:Vl) (x:ByteArray) (P:Nat→Prop) (w:World) (u:Value) (hv:VV P w u v) (hP:∀ g,P g→g<w.heap.size):Calls Tryz.prog 76 #[u,.string x] w (OfPost P (ofR v x) w):=by
 have HV0:=hid hv;obtain⟨k,n,s,is,ks⟩:=v;obtain⟨vi,vk,rfl,hI,hK,hss⟩:=hv.out;obtain⟨oi,ci,rfl⟩:=hI.len;obtain⟨ok,ck,rfl⟩:=hK.len;generalize hA:w.alloc (.cells #[.int .i64 k,.int .i64 n,.string s,.slice oi is.length ci,.slice ok ks.length ck] 32)=wa
 have hao:wa.heap[w.heap.size]? = some (.cells #[.int .i64 k,.int .i64 n,.string s,.slice oi is.length ci,.slice ok ks.length ck] 32):=by rw[←hA];exact zhh w _
 have has:wa.heap.size=w.heap.size+1:=by rw[←hA];simp
 have hab:Below w.heap.size w wa:=by rw[←hA];exact(Below.refl _ _).alloc (nR _) _
 generalize hB:wa.alloc zero5=wb
 have hbo:wb.heap[w.heap.size+1]? = some zero5:=by rw[←hB,←has];exact zhh wa _
 have hbs:wb.heap.size=w.heap.size+2:=by rw[←hB];simp[has]
 have hbb:Below wa.heap.size wa wb:=by rw[←hB];exact(Below.refl _ _).alloc (nR _) _
 have HA0:=hid hA;have HB0:=hid hB;have HB:=hid (hab.trans (hbb.mono hab.size));have HS:=hid hbs;have HZ:=hid hbo;have HXA:=hid (kO hao hbb);have HV:=hid (HV0.out.bel HB.out);have HPL:=hid hP;clear hA hB hao has hab hbo hbs hbb hI hK hv hP HV0;obtain⟨a0,a1,a2,a3,a4⟩:=C5.of HXA.out
 by_cases hk:k=5
 case neg =>
  have HG:Hid (ofR (.mk k n s is ks) x=nullV):=hid (by rw[ofR,getR,if_neg hk];rfl);obtain⟨da,db,dc⟩:=tF hk;clear hk
  go_enter Tryz.func76,Tryz.ntmps76
  go_upto_region 1 with (fail)
  rw[HA0.out,HB0.out]
  go_wp2_with (refine zo rfl 32 _ _ rfl (w.heap.size+1) 0 [_,_,_,_,_] rfl rfl _ _ (HZ.out) (by simp) (by kernel_rfl) rfl ?_;intro ws hzs hcs)
  try simp only[Exit.inBlock,Exit.then]
  refine bodyPost_ret (results_cell_row rfl _ ws (w.heap.size+1) 32 _ (0,0) _ rfl hzs Tryz.underlying32 rfl (by kernel_rfl)) rfl ?_;rw[HG.out];exact⟨_,rfl,VV.zero _ _,HB.out.trans (zgg hcs (fun k hk=>by omega) HB.out.size)⟩
 obtain⟨da,db,dc⟩:=tT hk;have HC:=hid (rget_any (.mk k n s is ks) x P wb _ HV.out (fun g hg=>by have:=HPL.out g hg;have:=HS.out;omega));have HR:Hid (ofR (.mk k n s is ks) x=(getR (.mk k n s is ks) x).getD nullV):=hid rfl;clear hk;unfold RGetPost at HC;generalize getR (.mk k n s is ks) x=o at HC HR
 go_enter Tryz.func76,Tryz.ntmps76
 go_upto_region 1 with (fail)
 rw[HA0.out,HB0.out]
 go_wp2_with fail
 refine HC.out.mono ?_;rintro e w2 ⟨u,rfl,hu,hb2⟩;obtain⟨k2,n2,s2,oi2,mi2,ci2,ok2,mk2,ck2,rfl⟩:=hu.agg5;have hba:Below w2.heap.size w2 (w2.alloc (.cells #[.int .i64 k2,.int .i64 n2,.string s2,.slice oi2 mi2 ci2,.slice ok2 mk2 ck2] 32)):=(Below.refl _ _).alloc (nR _) _;have hoa:=zhh w2 (.cells #[.int .i64 k2,.int .i64 n2,.string s2,.slice oi2 mi2 ci2,.slice ok2 mk2 ck2] 32)
 generalize hA:w2.alloc (.cells #[.int .i64 k2,.int .i64 n2,.string s2,.slice oi2 mi2 ci2,.slice ok2 mk2 ck2] 32)=w3 at *
 have HA3:=hid hA;have HB3:=hid (HB.out.trans ((hb2.trans (hba.mono hb2.size)).mono HB.out.size));have HZ3:=hid (kO (kO HZ.out hb2) hba);have HU3:=hid (hu.bel hba);have HO3:=hid hoa;clear a0 a1 a2 a3 a4 hu hb2 hba hoa hA
 go_upto_region 4 with (fail)
 rw[HA3.out];obtain⟨y0,y1,y2,y3,y4⟩:=C5.of HO3.out
 cases o with
 | none =>
  go_wp2_with (refine zo rfl 32 _ _ rfl (w.heap.size+1) 0 [_,_,_,_,_] rfl rfl _ _ (HZ3.out) (by simp) (by kernel_rfl) rfl ?_;intro ws hzs hcs)
  try simp only[Exit.inBlock,Exit.then]
  refine bodyPost_ret (results_cell_row rfl _ ws (w.heap.size+1) 32 _ (0,0) _ rfl hzs Tryz.underlying32 rfl (by kernel_rfl)) rfl ?_;rw[HR.out];exact⟨_,rfl,VV.zero _ _,HB3.out.trans (zgg hcs (fun k hk=>by omega) HB3.out.size)⟩
 | some t =>
  go_wp2_with (refine zo rfl 32 _ _ rfl (w.heap.size+1) 0 [_,_,_,_,_] rfl rfl _ _ (HZ3.out) (by simp) (by kernel_rfl) rfl ?_;intro ws hzs hcs)
  try simp only[Exit.inBlock,Exit.then]
  refine bodyPost_ret (results_cell_row rfl _ ws (w.heap.size+1) 32 _ (0,0) _ rfl hzs Tryz.underlying32 rfl (by kernel_rfl)) rfl ?_;rw[HR.out];exact⟨_,rfl,HU3.out.keep (ZK.chg hcs fun g hg e=>by have:=HPL.out g hg;omega) (fun g hg=>hg),HB3.out.trans (zgg hcs (fun k hk=>by omega) HB3.out.size)⟩
end Go.Proofs.YtibiiafcnaijeaaGreat
