/- A part. -/
import Derived.Test.YtibiiafcnaijeaaGreatB00
import Derived.Test.YtibiiafcnaijeaaGreatB01
import Derived.Test.YtibiiafcnaijeaaGreatB12
import Derived.Test.YtibiiafcnaijeaaGreatB03
namespace Go.Proofs.YtibiiafcnaijeaaGreat
open Go Go.RowKit Go.Proofs.YtibiiafcnaijeaaGreat.Steady
set_option linter.unusedVariables false
set_option linter.unusedSimpArgs false
set_option maxRecDepth 100000
set_option maxHeartbeats 40000000
section
open Go.Shelf Go.Lib
theorem flat_set (rs:List (Value × Value × Value)) (i:Nat) (r:Value × Value × Value) (h:i<rs.length):flat (rs.set i r)=(flat rs).take (i*3)++[r.1,r.2.1,r.2.2]++(flat rs).drop ((i+1)*3):=by
 rw[set_eq rs i r h,flat_app,flat_take,flat_drop,flat];simp
theorem set_row3 {α:Type}(cur new:List α) (n j:Nat) (hn:new.length=3) (hl:n*3≤cur.length) (hj:j<n) :
  (cur.take (j*3)++new++cur.drop (j*3+new.length)).take (n*3)=(cur.take (n*3)).take (j*3)++new++(cur.take (n*3)).drop ((j+1)*3):=by
 have hA:(cur.take (j*3)++new).length=(j+1)*3:=by rw[List.length_append,List.length_take,Nat.min_eq_left (by omega),hn];omega
 rw[List.take_take,Nat.min_eq_left (by omega),List.take_append,hA,List.take_of_length_le (by rw[hA];omega),hn,List.drop_take];rw[show j*3+3=(j+1)*3 by omega]
def OwnXT (B box:Nat) (R:Nat→Nat→Prop) (w:World) (v:Value) (ts:List Ty):Prop :=
 ∃ rs:List (Value × Value × Value),Made B w 61 3 v ts.length (flat rs)∧rs.length=ts.length ∧
  ∀ (i:Nat) r t,rs[i]? = some r→ts[i]? = some t→TV (fun g=>R i g∧g<w.heap.size∧g≠box∧v.ownBlock≠some g) w (tri r) t
theorem OwnL.x {B box:Nat}{R:Nat→Prop}{w:World}{v:Value}{ts:List Ty}(h:OwnL B box R w v ts):OwnXT B box (fun _=>R) w v ts:=h
theorem OwnXT.mono {B box:Nat}{R Q:Nat→Nat→Prop}{w:World}{v:Value}{ts:List Ty}(h:OwnXT B box R w v ts) (hq:∀ i g,i<ts.length→R i g→Q i g):OwnXT B box Q w v ts:=by
 obtain⟨rs,h1,h2,h3⟩:=h;exact⟨rs,h1,h2,fun i r t hr ht=>(h3 i r t hr ht).mono fun g hg=>⟨hq i g (List.getElem?_eq_some_iff.1 ht).1 hg.1,hg.2⟩⟩
theorem OwnXT.base {B C box:Nat}{R:Nat→Nat→Prop}{w:World}{v:Value}{ts:List Ty}(h:OwnXT B box R w v ts) (hC:C≤B):OwnXT C box R w v ts:=by
 obtain⟨rs,h1,h2,h3⟩:=h;exact⟨rs,⟨h1.1,fun g hg=>Nat.le_trans hC (h1.2 g hg)⟩,h2,h3⟩
theorem OwnXT.later {B box:Nat}{R:Nat→Nat→Prop}{w w':World}{v:Value}{ts:List Ty}(h:OwnXT B box R w v ts) (hb:Below w.heap.size w w'):OwnXT B box R w' v ts:=by
 obtain⟨rs,h1,h2,h3⟩:=h;exact⟨rs,h1.later hb,h2,fun i r t hr ht=>(h3 i r t hr ht).keep (ZK.below hb) fun g hg=>⟨hg.1,Nat.lt_of_lt_of_le hg.2.1 hb.size,hg.2.2⟩⟩
theorem OwnXT.store {B box o:Nat}{R:Nat→Nat→Prop}{w:World}{v:Value}{ts:List Ty}(h:OwnXT B box R w v ts) (hB:box<B) (x:Value):OwnXT B box R (w.setCell ⟨box,o,none⟩ x) v ts:=by
 obtain⟨rs,h1,h2,h3⟩:=h;have hc:Chg (fun k=>k=box) w (w.setCell ⟨box,o,none⟩ x):=Chg.setCell w box o x rfl;exact⟨rs,made_keep h1 hc fun k hk=>by omega,h2,fun i r t hr ht=>(h3 i r t hr ht).keep (ZK.chg hc fun g hg=>hg.2.2.1) fun g hg=>⟨hg.1,Nat.lt_of_lt_of_le hg.2.1 hc.size,hg.2.2⟩⟩
theorem OwnXT.slice {B box:Nat}{R:Nat→Nat→Prop}{w:World}{v:Value}{ts:List Ty}(h:OwnXT B box R w v ts):(v=.slice none 0 0∧ts = [])∨∃ g c,v=.slice (some ⟨g,0,none⟩) ts.length c∧B≤g∧g<w.heap.size∧∃ cur,w.heap[g]? = some (.cells cur 61):=by
 obtain⟨rs,h1,h2,h3⟩:=h
 rcases h1.1.2 with ⟨e,h0⟩|⟨g,cap,cur,e,p1,p2,p3⟩
 ·exact .inl ⟨e,List.eq_nil_of_length_eq_zero h0⟩
 ·exact .inr ⟨g,cap,e,h1.2 g (by rw[e];rfl),(aS p2).1,cur,p2⟩
theorem OwnXT.read {B box:Nat}{R:Nat→Nat→Prop}{Q:Nat→Prop}{w:World}{v:Value}{ts:List Ty}(h:OwnXT B box R w v ts) (hR:∀ i g,i<ts.length→R i g→Q g) (hB:∀ g,B≤g→Q g) (hl:ts.length≤140737488355328):LV Q w v ts:=by
 obtain⟨rs,h1,h2,h3⟩:=h;refine⟨rs,⟨by omega,?_⟩,h2,fun i r t hr ht=>(h3 i r t hr ht).mono fun g hg=>hR i g (List.getElem?_eq_some_iff.1 ht).1 hg.1⟩
 rcases h1.1.2 with ⟨rfl,h0⟩|⟨g,cap,cur,rfl,p1,p2,p3,p4,p5,p6⟩
 ·exact .inl ⟨List.eq_nil_of_length_eq_zero (by omega),_,_,rfl⟩
 ·refine .inr ⟨g,0,cap,hB g (h1.2 g rfl),by rw[h2],fun i r hr=>?_⟩
  obtain⟨a1,a2,a3⟩:=flat_get rs i r hr;rw[Nat.zero_add];exact⟨cells_at p2 p6 a1,cells_at p2 p6 a2,cells_at p2 p6 a3⟩
theorem OwnXT.at {B box g n c j:Nat}{R:Nat→Nat→Prop}{w:World}{ts:List Ty}(h:OwnXT B box R w (.slice (some ⟨g,0,none⟩) n c) ts) (hj:j<ts.length) :
  ∃ k' oi mi ci ok mk ck,w.cell? ⟨g,j*3,none⟩=some (.int .i64 k')∧w.cell? ⟨g,j*3+1,none⟩=some (.slice oi mi ci)∧w.cell? ⟨g,j*3+2,none⟩=some (.slice ok mk ck) ∧
   TV (fun k=>R j k∧k<w.heap.size∧k≠box∧k≠g) w (.agg #[.int .i64 k',.slice oi mi ci,.slice ok mk ck]) ts[j]:=by
 obtain⟨rs,h1,h2,h3⟩:=h
 rcases h1.1.2 with ⟨e,_⟩|⟨g',cap,cur,e,p1,p2,p3,p4,p5,p6⟩
 ·cases e
 ·cases e
  have hr:rs[j]? = some rs[j]:=lG (by omega);obtain⟨a1,a2,a3⟩:=flat_get rs j _ hr;have b1:=cells_at p2 p6 a1;have b2:=cells_at p2 p6 a2;have b3:=cells_at p2 p6 a3;have hV:=h3 j _ _ hr (lG hj);obtain⟨k',oi,mi,ci,ok,mk,ck,e1,e2,e3⟩:=hV.agg3;rw[e1] at b1;rw[e2] at b2;rw[e3] at b3
  have hp:tri rs[j]=.agg #[.int .i64 k',.slice oi mi ci,.slice ok mk ck]:=by
   unfold tri;rw[e1,e2,e3]
  rw[hp] at hV;exact⟨k',oi,mi,ci,ok,mk,ck,b1,b2,b3,hV.mono fun k hk=>⟨hk.1,hk.2.1,hk.2.2.1,fun e=>hk.2.2.2 (by rw[e];rfl)⟩⟩
theorem OwnXT.set {B box g n c j:Nat}{R:Nat→Nat→Prop}{S:Nat→Prop}{w:World}{ts:List Ty}{t:Ty}{r:(Value × Value × Value)}(h:OwnXT B box R w (.slice (some ⟨g,0,none⟩) n c) ts) (hj:j<ts.length) (ht:TV S w (tri r) t) (hs:∀ k,S k→k≠box∧k≠g) :
  OwnXT B box (fun i k=>if i=j then S k else R i k) (w.setCells g (j*3) [r.1,r.2.1,r.2.2]) (.slice (some ⟨g,0,none⟩) n c) (ts.set j t)∧Chg (fun k=>k=g) w (w.setCells g (j*3) [r.1,r.2.1,r.2.2]):=by
 obtain⟨rs,h1,h2,h3⟩:=h;have hc:Chg (fun k=>k=g) w (w.setCells g (j*3) [r.1,r.2.1,r.2.2]):=Chg.setCells _ _ _ _ rfl;refine⟨⟨rs.set j r,⟨⟨?_,?_⟩,h1.2⟩,by simp[h2],fun i q x hq he=>?_⟩,hc⟩
 ·rw[flat_len];simp[h2]
 ·rcases h1.1.2 with ⟨e,_⟩|⟨g',cap,cur,e,p1,p2,p3,p4,p5,p6⟩
  ·cases e
  ·cases e
   have hl:cur.toList.length=c*3:=by simpa using p5
   have hH:=heap_setCells [r.1,r.2.1,r.2.2] (j*3) cur.toList 61 (0,0) w p2 (by rw[hl];simp;omega);refine .inr ⟨g,c,_,by simp,p1,hH,by simpa using p3,p4,?_,?_⟩
   ·simp[hl];omega
   ·have hrl:=flat_len rs
    rw[flat_set rs j r (by omega),←p6,List.length_set];have hc3:c*3=cur.toList.length:=hl.symm;exact set_row3 cur.toList [r.1,r.2.1,r.2.2] ts.length j rfl (by omega) hj
 ·have hsz:=hc.size
  by_cases e:i=j
  ·subst e
   rw[List.getElem?_set_self (by omega)] at hq;rw[List.getElem?_set_self (by omega)] at he
   cases hq
   cases he
   refine(ht.ex.keep (ZK.chg hc fun k hk e=>(hs k hk.1).2 e) fun k hk=>⟨by show(if i=i then S k else R i k);rw[if_pos rfl];exact hk.1,by omega,(hs k hk.1).1,fun e=>(hs k hk.1).2 (by cases e;rfl)⟩)
  ·rw[List.getElem?_set_ne (fun h=>e h.symm)] at hq he
   exact(h3 i q x hq he).keep (ZK.chg hc fun k hk e=>hk.2.2.2 (by rw[e];rfl)) fun k hk=>⟨by show(if i=j then S k else R i k);rw[if_neg e];exact hk.1,by omega,hk.2.2⟩
theorem flat_cells {w:World}{g o:Nat}{rs:List (Value × Value × Value)}(h:∀ (i:Nat) r,rs[i]? = some r→w.cell? ⟨g,o+i*3,none⟩=some r.1∧w.cell? ⟨g,o+i*3+1,none⟩=some r.2.1∧w.cell? ⟨g,o+i*3+2,none⟩=some r.2.2) :
  ∀ (j:Nat) u,(flat rs)[j]? = some u→w.cell? ⟨g,o+j,none⟩=some u:=by
 intro j u hu;have hj:j<(flat rs).length:=(List.getElem?_eq_some_iff.1 hu).1;rw[flat_len] at hj
 have hi:j / 3<rs.length:=by omega
 obtain⟨c0,c1,c2⟩:=h (j / 3) _ (lG hi);obtain⟨f0,f1,f2⟩:=flat_get rs (j / 3) _ (lG hi)
 have hm:j=j / 3*3+j % 3:=by omega
 have hlt:j % 3<3:=Nat.mod_lt _ (by decide)
 generalize j / 3=i at *
 generalize j % 3=m at *
 subst hm
 match m,hlt with
 | 0,_=>rw[Nat.add_zero,f0] at hu;cases hu;exact c0
 | 1,_=>rw[f1] at hu;cases hu;exact c1
 | 2,_=>rw[f2] at hu;cases hu;exact c2
theorem flat_one {P:Nat→Prop}{w:World}{rs:List (Value × Value × Value)}{is:List Ty}(hl:rs.length=is.length) (h:∀ (i:Nat) r e,rs[i]? = some r→is[i]? = some e→TV P w (tri r) e):∀ u∈flat rs,u.oneCell'=true:=fun u hu=>by
 obtain⟨r,hr,hu⟩:=flat_mem hu;obtain⟨j,hj,rfl⟩:=List.getElem_of_mem hr;obtain⟨k,oi,mi,ci,ok,mk,ck,e1,e2,e3⟩:=(h j rs[j] (is[j]'(by omega)) (lG hj) (lG (by omega))).agg3
 rcases hu with rfl|rfl|rfl
 ·rw[e1];rfl
 ·rw[e2];rfl
 ·rw[e3];rfl
theorem cloneT_any (P:Nat→Prop) (box:Nat) (w:World) (v:Value) (is:List Ty) (h:LV P w v is) (hl:is.length≤1000000) (hbox:∀ g,P g→g≠box) :
  Calls Tryz.prog 99 #[v] w fun e w'=>∃ v',e=.returned v'∧OwnL w.heap.size box P w' v' is∧Below w.heap.size w w':=by
 obtain⟨rs,hq,hrl,he⟩:=h
 have fin:∀ (w':World) (v':Value),w'.ownsRow w.heap.size 61 3 v' is.length (flat rs)→Below w.heap.size w w'→OwnL w.heap.size box P w' v' is:=fun w' v' ho hb=>by
  have hB:∀ g,v'.ownBlock=some g→w.heap.size≤g:=fun g hg=>by
   rcases ho.2 with ⟨rfl,_⟩|⟨g',cap,cur,rfl,p1,_⟩
   ·cases hg
   ·cases hg;exact p1
  refine⟨rs,⟨⟨ho.1,ho.2.imp id fun⟨g,cap,cur,e,p1,p2⟩=>⟨g,cap,cur,e,Nat.zero_le _,p2⟩⟩,hB⟩,hrl,fun i r t hr ht=>?_⟩;refine((he i r t hr ht).ex.keep (ZK.below hb) fun g hg=>⟨hg.1,Nat.lt_of_lt_of_le hg.2 hb.size,hbox g hg.1,fun e=>?_⟩);have:=hB g e
  omega
 rcases hq.2 with ⟨rfl,oa,c,rfl⟩|⟨g,o,c,hp,rfl,hc⟩
 ·obtain rfl:is = []:=List.eq_nil_of_length_eq_zero (by simpa using hrl.symm)
  cases oa with
  | none=>exact(AnyE.slices_Clone_nil Tryz.clT 0 c w).mono fun e w' ⟨h1,h2⟩=>⟨_,h1,OwnL.nil _ _ _ _,by rw[h2];exact Below.refl _ _⟩
  | some a=>exact(cloneT_zero a c w).mono fun e w' ⟨v',h1,h2,h3⟩=>⟨v',h1,fin w' v' h2 h3,h3⟩
 ·obtain⟨i0,hi,hz0,hz1,hz2⟩:=info_parts info26
  rw[hrl]
  exact(AnyE.slices_Clone Tryz.clT i0 _ 3 56 hi hz0 hz1 hz2 rfl (by decide) (by intro w;kernel_rfl) g o is.length c (flat rs) w (by rw[flat_len,hrl]) (by unfold maxLen;omega) (by omega) (flat_cells hc) (flat_one hrl he)).mono fun e w' ⟨v',h1,h2,_,h4⟩=>⟨v',h1,fin w' v' h2 h4,h4⟩
end
abbrev zero3:Obj:=.cells #[.int .i64 0,.slice none 0 0,.slice none 0 0] 61
theorem TV.agg {P:Nat→Prop}{w:World}{u:Value}{t:Ty}(h:TV P w u t):∃ k oi mi ci ok mk ck,u=.agg #[.int .i64 k,.slice oi mi ci,.slice ok mk ck]:=by
 obtain⟨k,is,ks⟩:=t;obtain⟨vi,vk,rfl,hI,hK⟩:=h.out;obtain⟨oi,ci,rfl⟩:=hI.len;obtain⟨ok,ck,rfl⟩:=hK.len;exact⟨k,_,_,_,_,_,_,rfl⟩
theorem chg_store3 (w:World) (b:Nat) (x y z:Value):Chg (fun k=>k=b) w (((w.setCell ⟨b,0,none⟩ x).setCell ⟨b,1,none⟩ y).setCell ⟨b,2,none⟩ z) :=
 ((Chg.setCell (B:=fun k=>k=b) w b 0 x rfl).trans (Chg.setCell _ b 1 y rfl)).trans (Chg.setCell _ b 2 z rfl)
theorem store3_below {n b:Nat}{w w2:World}(h:Below n w w2) (hb:n≤b) (hn:n≤w.heap.size) (x y z:Value):Below n w (((w2.setCell ⟨b,0,none⟩ x).setCell ⟨b,1,none⟩ y).setCell ⟨b,2,none⟩ z) :=
 h.trans (zgg (chg_store3 w2 b x y z) (fun k hk=>by rw[hk];exact hb) (Nat.le_trans hn h.size))
theorem store3_tv {P Q:Nat→Prop}{b:Nat}{w:World}{q:Value}{t:Ty}(h:TV P w q t) (hb:¬ P b) (hq:∀ g,P g→Q g) (x y z:Value):TV Q (((w.setCell ⟨b,0,none⟩ x).setCell ⟨b,1,none⟩ y).setCell ⟨b,2,none⟩ z) q t :=
 h.keep (ZK.chg (chg_store3 w b x y z) fun g hg e=>hb (e▸hg)) hq
def FreshT (t:Ty) (w:World) (e:Ending) (w':World):Prop:=∃ u,e=.returned u∧TV (fun g=>w.heap.size≤g) w' u t∧Below w.heap.size w w'
theorem namesT_mem:∀ {l:List Ty}{e:Ty},e∈l→namesT e≤namesL l
 | x :: l,e,hm=>by
  rw[namesL]
  rcases List.mem_cons.1 hm with rfl|hm
  ·omega
  ·have:=namesT_mem hm;omega
structure TC (P:Nat→Prop) (w wr:World) (k:Int) (vi vk:Value) (is:List Ty) (ks:List ByteArray) (j:Nat):Prop where
 bel:Below w.heap.size w wr
 obj:wr.heap[w.heap.size]? = some (.cells #[.int .i64 k,vi,vk] 61)
 z:wr.heap[w.heap.size+1]? = some zero3
 own:OwnXT (w.heap.size+1+1) w.heap.size (fun i g=>if i<j then w.heap.size+1+1≤g else P g) wr vi is
 nm:SV (fun g=>w.heap.size+1+1≤g∧vi.ownBlock≠some g) wr vk ks
section
variable {P:Nat→Prop} {w wr w':World} {k:Int} {vi vk:Value} {is:List Ty} {ks:List ByteArray} {j:Nat}
theorem TC.lt (h:TC P w wr k vi vk is ks j):w.heap.size+1<wr.heap.size:=(aS h.z).1
theorem TC.later (h:TC P w wr k vi vk is ks j) (hb:Below wr.heap.size wr w'):TC P w w' k vi vk is ks j:=by
 have hl:=h.lt;exact⟨h.bel.trans (hb.mono h.bel.size),(hb.block _ (by omega)).trans h.obj,(hb.block _ hl).trans h.z,h.own.later hb,h.nm.keep (ZK.below hb) fun _ h=>h⟩
theorem TC.step {g c:Nat}{r:Value × Value × Value}(hP:∀ g,P g→g<w.heap.size) (h:TC P w wr k (.slice (some ⟨g,0,none⟩) is.length c) vk is ks j) (hg:w.heap.size+1+1≤g) (hj:j<is.length) (hr:TV (fun k=>w.heap.size+1+1≤k∧k≠g) wr (tri r) is[j]) :
  TC P w (wr.setCells g (j*3) [r.1,r.2.1,r.2.2]) k (.slice (some ⟨g,0,none⟩) is.length c) vk is ks (j+1):=by
 have hl:=h.lt;obtain⟨h1,hc⟩:=h.own.set hj hr (fun k hk=>⟨by have:=hk.1;omega,hk.2⟩);have hset:is.set j is[j]=is:=List.set_getElem_self hj;rw[hset] at h1;refine⟨h.bel.trans (zgg hc (fun k hk=>by rw[hk];omega) h.bel.size),(hc.block _ (by omega) (by omega)).trans h.obj,(hc.block _ hl (by omega)).trans h.z,h1.mono (fun i k hi hk=>?_),h.nm.keep (ZK.chg hc fun k hk e=>hk.2 (by rw[e];rfl)) fun _ h=>h⟩
 by_cases e:i=j
 ·subst e
  rw[if_pos rfl] at hk;rw[if_pos (by omega)];exact hk.1
 ·rw[if_neg e] at hk
  by_cases hlt:i<j
  ·rw[if_pos hlt] at hk
   rw[if_pos (by omega)];exact hk
  ·rw[if_neg hlt] at hk
   rw[if_neg (by omega)];exact hk
theorem TC.out {x y z:Value}(h:TC P w wr k vi vk is ks j) (hj:is.length≤j) (hl:is.length≤140737488355328) :
  TV (fun g=>w.heap.size≤g) (((wr.setCell ⟨w.heap.size+1,0,none⟩ x).setCell ⟨w.heap.size+1,1,none⟩ y).setCell ⟨w.heap.size+1,2,none⟩ z) (.agg #[.int .i64 k,vi,vk]) (.mk k is ks) ∧
  Below w.heap.size w (((wr.setCell ⟨w.heap.size+1,0,none⟩ x).setCell ⟨w.heap.size+1,1,none⟩ y).setCell ⟨w.heap.size+1,2,none⟩ z):=by
 refine⟨store3_tv (P:=fun g=>w.heap.size+1+1≤g) (TV.mk' (h.nm.keep (ZK.refl _ _) fun g hg=>hg.1) (h.own.read (fun i g hi hg=>?_) (fun g hg=>hg) hl)) (by omega) (fun g hg=>by omega) _ _ _,store3_below h.bel (by omega) (nR _) _ _ _⟩;rw[if_pos (by omega)] at hg;exact hg
end
def TypedOk (t:Ty):Prop:=∀ (P:Nat→Prop) (w:World) (x:Value),TV P w x t→sizeT t≤1000000→namesT t≤1000000→Calls Tryz.prog 86 #[x] w (FreshT t w)
theorem typed_any (t:Ty):TypedOk t:=by
 induction t using Ty.ind with
 | h k is ks ih =>
  intro P w x hx hsz hky;obtain⟨vi,vk,rfl,hI,hK⟩:=hx.out;obtain⟨oi,ci,rfl⟩:=hI.len;obtain⟨ok,ck,rfl⟩:=hK.len;have hli:=hI.le;have hlk:=hK.le;rw[sizeT] at hsz;rw[namesT] at hky;have hlen:=sizeL_len is;have IH:=hid ih
  have HIX:=hid (show LV (fun g=>P g∧g<w.heap.size) w (.slice oi is.length ci) is from by
   obtain⟨vi',vk',e,hI',_⟩:=hx.ex.out
   cases e
   exact hI')
  have HK:=hid hK;generalize hA:w.alloc (.cells #[.int .i64 k,.slice oi is.length ci,.slice ok ks.length ck] 61)=wa
  have hao:wa.heap[w.heap.size]? = some (.cells #[.int .i64 k,.slice oi is.length ci,.slice ok ks.length ck] 61):=by rw[←hA];exact zhh w _
  have has:wa.heap.size=w.heap.size+1:=by rw[←hA];simp
  have hab:Below w.heap.size w wa:=by rw[←hA];exact(Below.refl _ _).alloc (nR _) _
  have hT:=zhh wa zero3;have hbb:Below wa.heap.size wa (wa.alloc zero3):=(Below.refl _ _).alloc (nR _) _
  have hbs:(wa.alloc zero3).heap.size=w.heap.size+2:=by simp[has]
  rw[has] at hT;generalize hB:wa.alloc zero3=wb at hT hbb hbs;have hall:Below w.heap.size w wb:=hab.trans (hbb.mono hab.size);have HA0:=hid hA;have HB0:=hid hB;have HB:=hid hall;have HS:=hid hbs;have HZ:=hid hT;have HA:=hid ((hbb.block _ (by omega)).trans hao);clear hx hI hK ih hA hB hT hbb hbs hall hao has hab;have a3:=(cII HA.out 1).trans rfl;have a4:=(cII HA.out 2).trans rfl;have HCK:=hid (clone_any P wb _ ks (HK.out.bel HB.out) (by omega))
  go_enter Tryz.func86,Tryz.ntmps86
  go_upto_region 1 with (fail)
  rw[HA0.out,HB0.out]
  go_wp2_with fail
  refine HCK.out.mono ?_;rintro e w2 ⟨vk2,rfl,hk2,hb2⟩;obtain⟨ok2,ck2,rfl⟩:=hk2.len;have HA2:=kH HA hb2;have HZ2:=kH HZ hb2;have HB2:=hT HB hb2;have HS2:=hid (show w.heap.size+2≤w2.heap.size by have:=hb2.size;have:=HS.out;omega);have HK2:=hid (hk2.ex.keep (Q:=fun g=>w.heap.size+1+1≤g∧g<w2.heap.size) (ZK.refl _ _) (fun g hg=>⟨by have:=HS.out;omega,hg.2⟩));clear a3 a4 hk2 hb2;have b3:=(cII HA2.out 1).trans rfl;have b4:=(cII HA2.out 2).trans rfl;have bf:=zff HA2.out
  go_upto_region 2 with (fail)
  have HC3:=hid (Chg.setCell (B:=fun k=>k=w.heap.size) w2 w.heap.size 2 (.slice ok2 ks.length ck2) rfl);have HA3:Hid ((w2.setCell ⟨w.heap.size,2,none⟩ (.slice ok2 ks.length ck2)).heap[w.heap.size]? = some (.cells #[.int .i64 k,.slice oi is.length ci,.slice ok2 ks.length ck2] 61)):=hid (obj_set (po:=2) HA2.out _)
  generalize w2.setCell ⟨w.heap.size,2,none⟩ (.slice ok2 ks.length ck2)=w3 at *
  have HZ3:=hid ((HC3.out.block _ (by have:=HS2.out;omega) (by omega)).trans HZ2.out);have HB3:=hid (HB2.out.trans (zgg HC3.out (fun k hk=>by rw[hk];exact nR _) (by have:=HS2.out;omega)));have HS3:=hid (show w2.heap.size≤w3.heap.size from HC3.out.size);have HK3:=hid (HK2.out.keep (ZK.chg HC3.out fun g hg e=>by have:=hg.1;omega) fun g h=>h);have HCV:=hid (cloneT_any _ w.heap.size w3 _ is (HIX.out.bel HB3.out) (by omega) (fun g hg e=>by have:=hg.2;omega));clear b3 b4 bf HC3 HA2 HZ2 HK2;have b3:=(cII HA3.out 1).trans rfl
  go_wp2_with fail
  clear b3;refine HCV.out.mono ?_;rintro e w4 ⟨vi,rfl,hw,hb4⟩
  obtain⟨oa,ca,rfl⟩:∃ oa ca,vi=.slice oa is.length ca:=by
   rcases hw.x.slice with ⟨rfl,h0⟩|⟨g,c,rfl,_⟩
   ·exact⟨none,0,by rw[h0];rfl⟩
   ·exact⟨_,c,rfl⟩
  have HA4:=kH HA3 hb4;have b3:=(cII HA4.out 1).trans rfl;have bf:=zff HA4.out
  have HD:Hid (TC (fun g=>P g∧g<w.heap.size) w (w4.setCell ⟨w.heap.size,1,none⟩ (.slice oa is.length ca)) k (.slice oa is.length ca) (.slice ok2 ks.length ck2) is ks 0):=hid (by
   have hsz:=HS2.out;have hsz3:=HS3.out;have hc:=Chg.setCell (B:=fun k=>k=w.heap.size) w4 w.heap.size 1 (.slice oa is.length ca) rfl;refine⟨(HB3.out.trans (hb4.mono HB3.out.size)).trans (zgg hc (fun k hk=>by rw[hk];exact nR _) (by have:=hb4.size;omega)),obj_set (po:=1) HA4.out _,(hc.block _ (by have:=hb4.size;omega) (by omega)).trans (kO HZ3.out hb4),?_,?_⟩
   ·exact((hw.x.base (by omega)).store (by omega) _).mono fun i g hi hg=>by rw[if_neg (by omega)];exact hg
   ·refine(HK3.out.bel hb4).keep (ZK.chg hc fun g hg e=>by have:=hg.1;omega) fun g hg=>⟨hg.1,fun e=>?_⟩
    have h1:=hg.2
    rcases hw.x.slice with ⟨e0,h0⟩|⟨g',c',e',h1',h2'⟩
    ·rw[e0] at e;cases e
    ·rw[e'] at e
     have e2:g'=g:=by cases e;rfl
     have h3:w3.heap.size≤g':=h1';have h4:g<w2.heap.size:=h1
     omega)
  clear hw hb4 HA3 HZ3 HK3 HCV
  go_upto_region 4 with (fail)
  generalize w4.setCell ⟨w.heap.size,1,none⟩ (.slice oa is.length ca)=w5 at *
  clear b3 bf HA4
  go_wp2_with fail
  go_loopw [15] (fun i wr=>∃ j:Nat,j≤is.length∧i=.int .i64 j∧Hid (TC (fun g=>P g∧g<w.heap.size) w wr k (.slice oa is.length ca) (.slice ok2 ks.length ck2) is ks j)) (fun i _=>is.length - (intOf i).toNat)
  case atStart=>exact⟨0,Nat.zero_le _,rfl,HD⟩
  case round =>
   clear HD;obtain⟨j,hj,rfl,HD⟩:=hrel
   by_cases hlt:j<is.length
   ·obtain⟨g,c,e,hg1,hg2,cur,hcur⟩:=HD.out.own.slice.resolve_left (fun h=>by rw[h.2] at hlt;cases hlt)
    cases e
    obtain⟨k1,oi1,mi1,ci1,ok1,mk1,ck1,a1,a2,a3,hV⟩:=HD.out.own.at hlt;have x3:=(cII HD.out.obj 1).trans rfl
    have hj0:(0:Int)≤(j:Int):=by omega
    have hj1:(j:Int)<(is.length:Int):=by omega
    have HCall:=hid (IH.out is[j] (lM hlt) _ wr.drew _ (hV.bel (zdd (Below.refl _ _))) (by have:=sizeT_mem (lM hlt);omega) (by have:=namesT_mem (lM hlt);omega));have HCU:=hid hcur;have HG:=hid (And.intro hg1 hg2);clear hV hcur hg1 hg2
    go_wp2_with fail
    refine zt 10 (fun v=>v.cell? ⟨w.heap.size,1,none⟩=some (.slice (some ⟨g,0,none⟩) is.length ca)∧v.cell? ⟨g,j*3,none⟩=some (.int .i64 k1)∧v.cell? ⟨g,j*3+1,none⟩=some (.slice oi1 mi1 ci1)∧v.cell? ⟨g,j*3+2,none⟩=some (.slice ok1 mk1 ck1)) (by kernel_rfl) (by kernel_rfl) (⟨x3,a1,a2,a3⟩) ?_;simp only[List.take_succ_cons,List.take_zero,List.drop_succ_cons,List.drop_zero];refine cR1 ?_;refine qqL rfl (by rfl) (fun K hK=>?_)
    go_simp
    refine HCall.out.mono ?_;rintro e w6 ⟨u,rfl,hu,hb6⟩;have D6:=hid (HD.out.later (show Below wr.heap.size wr w6 from⟨hb6.os,hb6.tape,hb6.output,hb6.size,hb6.block⟩));have hcu6:w6.heap[g]? = _:=(hb6.block g HG.out.2).trans HCU.out;have HU6:=hid (hu.mono (Q:=fun k=>w.heap.size+1+1≤k∧k≠g) (fun k (hk:wr.heap.size≤k)=>⟨by have:=HD.out.lt;omega,by have:=HG.out.2;omega⟩));have hf:=zff hcu6;have r1:=zbb (W:=wr.drew) hb6 x3;have r2:=zbb (W:=wr.drew) hb6 a1;have r3:=zbb (W:=wr.drew) hb6 a2;have r4:=zbb (W:=wr.drew) hb6 a3;obtain⟨k6,oi6,mi6,ci6,ok6,mk6,ck6,rfl⟩:=hu.agg;clear hu hb6 hcu6 HCU x3 a1 a2 a3;refine hK.out _ _ (⟨r1,r2,r3,r4⟩) ?_;clear hK K
    try simp only[pT]
    refine cR2 ?_;refine zn ?_
    go_wp2_with fail
    go_roundw
    case rel =>
     have hstep:=TC.step (fun g hg=>hg.2) D6.out HG.out.1 hlt (r:=(.int .i64 k6,.slice oi6 mi6 ci6,.slice ok6 mk6 ck6)) HU6.out;exact⟨j+1,by omega,by go_num,hid hstep⟩
    case measure=>simp[intOf];omega
   ·have x0:=(cII HD.out.obj 0).trans rfl
    have x1:=(cII HD.out.obj 1).trans rfl;have x2:=(cII HD.out.obj 2).trans rfl;have f0:=(cII HD.out.z 0).trans rfl;have f1:=(cII HD.out.z 1).trans rfl;have f2:=(cII HD.out.z 2).trans rfl;have fz:=zff HD.out.z
    go_wp2_with fail
    try simp only[Exit.inBlock,Exit.then]
    refine bodyPost_ret (v:=.agg #[.int .i64 k,.slice oa is.length ca,.slice ok2 ks.length ck2]) (by simp[results,Tryz.results86,go_sem,f0,f1,f2]) rfl ?_;have OUT:=hid (HD.out.out (x:=.int .i64 k) (y:=.slice oa is.length ca) (z:=.slice ok2 ks.length ck2) (by omega) hli);exact⟨_,rfl,OUT.out.1,OUT.out.2⟩
abbrev zero8:Obj:=.cells #[.string ⟨#[]⟩,.int .i64 0,.slice none 0 0,.slice none 0 0,.int .i64 0,.bool false,.bool false,.bool false] 64
abbrev zeroN:Obj:=.cells #[.string ⟨#[]⟩,.int .i64 0,.int .i64 0,.slice none 0 0,.bool false] 102
def modeO (o:Option At):Int:=match o with
 | none=>0
 | some a=>a.mode
def repO (o:Option At):Bool:=match o with
 | none=>false
 | some a=>a.rep
def sensO (o:Option At):Bool:=match o with
 | none=>false
 | some a=>a.sens
def volO (o:Option At):Bool:=match o with
 | none=>false
 | some a=>a.vol
def repK (o:Option Ne):Bool:=match o with
 | none=>false
 | some a=>a.rep
def ScOk (s:Sc):Prop:=s.attrs.length≤1000∧s.nested.length≤1000∧(∀ a∈s.attrs,sizeT a.ty≤1000∧namesT a.ty≤1000)∧∀ n∈s.nested,n.attrs.length≤1000∧∀ a∈n.attrs,sizeT a.ty≤1000∧namesT a.ty≤1000
def FindPost (o:Option At) (w:World) (e:Ending) (w':World):Prop:=∃ nm k oe me ce on mn cn,e=.returned (.tuple #[.agg #[.string nm,.int .i64 k,.slice oe me ce,.slice on mn cn,.int .i64 (modeO o),.bool (repO o),.bool (sensO o),.bool (volO o)],.bool o.isSome])∧Below w.heap.size w w'
def KindPost (o:Option Ne) (w:World) (e:Ending) (w':World):Prop:=∃ nm mn mx oa ma ca,e=.returned (.tuple #[.agg #[.string nm,.int .i64 mn,.int .i64 mx,.slice oa ma ca,.bool (repK o)],.bool o.isSome])∧Below w.heap.size w w'
theorem fndA_hit {l:List At}{x:ByteArray}{j:Nat}(h:j<l.length) (hn:∀ i (hi:i<l.length),i<j→l[i].name≠x) (hy:l[j].name=x):fndA l x=some l[j]:=by
 induction l generalizing j with
 | nil=>cases h
 | cons a l ih =>
  rw[fndA,List.find?_cons]
  cases j with
  | zero =>
   have hy':a.name=x:=hy;rw[dTT hy'];rfl
  | succ j =>
   have h0:a.name≠x:=hn 0 (by simp) (by omega);rw[dF h0];exact ih (j:=j) (by simpa using h) (fun i hi hij=>hn (i+1) (by simpa using hi) (by omega)) hy
theorem fndA_miss:∀ {l:List At}{x:ByteArray},(∀ i (hi:i<l.length),l[i].name≠x)→fndA l x=none
 | [],x,_=>rfl
 | a :: l,x,h=>by
  have h0:a.name≠x:=h 0 (by simp);rw[fndA,List.find?_cons,dF h0]
  exact fndA_miss fun i hi=>h (i+1) (by simpa using hi)
theorem fndK_hit {l:List Ne}{x:ByteArray}{j:Nat}(h:j<l.length) (hn:∀ i (hi:i<l.length),i<j→l[i].name≠x) (hy:l[j].name=x):fndK l x=some l[j]:=by
 induction l generalizing j with
 | nil=>cases h
 | cons a l ih =>
  rw[fndK,List.find?_cons]
  cases j with
  | zero =>
   have hy':a.name=x:=hy;rw[dTT hy'];rfl
  | succ j =>
   have h0:a.name≠x:=hn 0 (by simp) (by omega);rw[dF h0];exact ih (j:=j) (by simpa using h) (fun i hi hij=>hn (i+1) (by simpa using hi) (by omega)) hy
theorem fndK_miss:∀ {l:List Ne}{x:ByteArray},(∀ i (hi:i<l.length),l[i].name≠x)→fndK l x=none
 | [],x,_=>rfl
 | a :: l,x,h=>by
  have h0:a.name≠x:=h 0 (by simp);rw[fndK,List.find?_cons,dF h0]
  exact fndK_miss fun i hi=>h (i+1) (by simpa using hi)
theorem chg_store8 (w:World) (b:Nat) (x0 x1 x2 x3 x4 x5 x6 x7:Value):Chg (fun k=>k=b) w ((((((((w.setCell ⟨b,0,none⟩ x0).setCell ⟨b,1,none⟩ x1).setCell ⟨b,2,none⟩ x2).setCell ⟨b,3,none⟩ x3).setCell ⟨b,4,none⟩ x4).setCell ⟨b,5,none⟩ x5).setCell ⟨b,6,none⟩ x6).setCell ⟨b,7,none⟩ x7):=by
 refine Chg.trans (v:=(((((((w.setCell ⟨b,0,none⟩ x0).setCell ⟨b,1,none⟩ x1).setCell ⟨b,2,none⟩ x2).setCell ⟨b,3,none⟩ x3).setCell ⟨b,4,none⟩ x4).setCell ⟨b,5,none⟩ x5).setCell ⟨b,6,none⟩ x6)) ?_ (Chg.setCell (B:=fun k=>k=b) _ b 7 x7 rfl);refine Chg.trans (v:=((((((w.setCell ⟨b,0,none⟩ x0).setCell ⟨b,1,none⟩ x1).setCell ⟨b,2,none⟩ x2).setCell ⟨b,3,none⟩ x3).setCell ⟨b,4,none⟩ x4).setCell ⟨b,5,none⟩ x5)) ?_ (Chg.setCell (B:=fun k=>k=b) _ b 6 x6 rfl);refine Chg.trans (v:=(((((w.setCell ⟨b,0,none⟩ x0).setCell ⟨b,1,none⟩ x1).setCell ⟨b,2,none⟩ x2).setCell ⟨b,3,none⟩ x3).setCell ⟨b,4,none⟩ x4)) ?_ (Chg.setCell (B:=fun k=>k=b) _ b 5 x5 rfl);exact chg_store5 w b x0 x1 x2 x3 x4
theorem store8_below {n b:Nat}{w w2:World}(h:Below n w w2) (hb:n≤b) (hn:n≤w.heap.size) (x0 x1 x2 x3 x4 x5 x6 x7:Value):Below n w ((((((((w2.setCell ⟨b,0,none⟩ x0).setCell ⟨b,1,none⟩ x1).setCell ⟨b,2,none⟩ x2).setCell ⟨b,3,none⟩ x3).setCell ⟨b,4,none⟩ x4).setCell ⟨b,5,none⟩ x5).setCell ⟨b,6,none⟩ x6).setCell ⟨b,7,none⟩ x7) :=
 h.trans (zgg (chg_store8 w2 b x0 x1 x2 x3 x4 x5 x6 x7) (fun k hk=>by rw[hk];exact hb) (Nat.le_trans hn h.size))
theorem find_any (s:Sc) (x:ByteArray) (P:Nat→Prop) (w:World) (va vn:Value) (hs:SCV P w va vn s) (hok:ScOk s) :
  Calls Tryz.prog 65 #[.agg #[va,vn],.string x] w (FindPost (fndA s.attrs x) w):=by
 have HOK:=hid hok;clear hok;obtain⟨oa,ca,rfl⟩:=hs.1.len;obtain⟨on,cn,rfl⟩:=hs.2.len;have hla:=hs.1.le;have hlk:=hs.2.le;generalize hA:w.alloc (.cells #[.slice oa s.attrs.length ca,.slice on s.nested.length cn] 25)=wa
 have hao:wa.heap[w.heap.size]? = some (.cells #[.slice oa s.attrs.length ca,.slice on s.nested.length cn] 25):=by rw[←hA];exact zhh w _
 have has:wa.heap.size=w.heap.size+1:=by rw[←hA];simp
 have hab:Below w.heap.size w wa:=by rw[←hA];exact(Below.refl _ _).alloc (nR _) _
 have hT:=zhh wa zero8;have hbb:Below wa.heap.size wa (wa.alloc zero8):=(Below.refl _ _).alloc (nR _) _
 have hbs:(wa.alloc zero8).heap.size=w.heap.size+2:=by simp[has]
 rw[has] at hT;generalize hB:wa.alloc zero8=wb at hT hbb hbs;have hall:Below w.heap.size w wb:=hab.trans (hbb.mono hab.size);have HA0:=hid hA;have HB0:=hid hB;have HB:=hid hall;have HS:=hid hbs;have HZ:=hid hT;have HA:=hid ((hbb.block _ (by omega)).trans hao);have HAT:=hid (hs.1.bel hall);have HNE:=hid (hs.2.bel hall);clear hs hA hB hT hbb hbs hall hao has hab;have a0:=(cII HA.out 0).trans rfl;have a1:=(cII HA.out 1).trans rfl
 go_enter Tryz.func65,Tryz.ntmps65
 go_upto_region 1 with (fail)
 rw[HA0.out,HB0.out]
 go_wp2_with fail
 clear a0 a1
 go_loopw [11] (fun i wr=>∃ j:Nat,j≤s.attrs.length∧i=.int .i64 j∧Hid (Below wb.heap.size wb wr)∧Hid (∀ i (hi:i<s.attrs.length),i<j→s.attrs[i].name≠x)) (fun i _=>s.attrs.length - (intOf i).toNat)
 case atStart=>exact⟨0,Nat.zero_le _,rfl,hid (Below.refl _ _),hid fun i _ hi=>absurd hi (Nat.not_lt_zero _)⟩
 case round =>
  obtain⟨j,hj,rfl,B,A⟩:=hrel;have HZ2:=kH HZ B.out;have HS2:=hid (show w.heap.size+2≤wr.heap.size by have:=B.out.size;have:=HS.out;omega);have HB2:=hT HB B.out
  by_cases hlt:j<s.attrs.length
  ·obtain⟨g,o,c,k,oe,me,ce,on2,mn,cn2,-,e1,a0,a1,a2,a3,a4,a5,a6,a7,hTV,-⟩:=(HAT.out.bel B.out).at hlt
   cases e1
   have hj0:(0:Int)≤(j:Int):=by omega
   have hj1:(j:Int)<(s.attrs.length:Int):=by omega
   have hob:=HOK.out.2.2.1 _ (lM hlt);have HTC:=hid (typed_any s.attrs[j].ty P (wr.alloc (.cells #[.string s.attrs[j].name,.int .i64 k,.slice oe me ce,.slice on2 mn cn2,.int .i64 s.attrs[j].mode,.bool s.attrs[j].rep,.bool s.attrs[j].sens,.bool s.attrs[j].vol] 64)) _ (hTV.bel ((Below.refl _ _).alloc (nR _) _)) (by omega) (by omega));have HBA:=hid (show Below wr.heap.size wr (wr.alloc (.cells #[.string s.attrs[j].name,.int .i64 k,.slice oe me ce,.slice on2 mn cn2,.int .i64 s.attrs[j].mode,.bool s.attrs[j].rep,.bool s.attrs[j].sens,.bool s.attrs[j].vol] 64)) from(Below.refl _ _).alloc (nR _) _);have HXO:=hid (zhh wr (.cells #[.string s.attrs[j].name,.int .i64 k,.slice oe me ce,.slice on2 mn cn2,.int .i64 s.attrs[j].mode,.bool s.attrs[j].rep,.bool s.attrs[j].sens,.bool s.attrs[j].vol] 64));have HHIT:=hid (fun hy=>fndA_hit hlt A.out (x:=x) hy)
   have HMISS:Hid (s.attrs[j].name≠x→∀ i (hi:i<s.attrs.length),i<j+1→s.attrs[i].name≠x):=hid fun hne i hi hij=>by
    by_cases e:i=j
    ·subst e;exact hne
    ·exact A.out i hi (by omega)
   generalize s.attrs[j]=at' at *
   obtain⟨nm,ty,md,rp,sn,vl⟩:=at';simp only at a0 a4 a5 a6 a7 HTC HBA HXO HHIT HMISS;clear hTV hob A
   by_cases hx:nm=x
   ·subst hx
    have HF:=hid (HHIT.out rfl);clear HHIT HMISS
    go_upto_region 4 with (fail)
    have hW:∃ W,wr.alloc (.cells #[.string nm,.int .i64 k,.slice oe me ce,.slice on2 mn cn2,.int .i64 md,.bool rp,.bool sn,.bool vl] 64)=W:=⟨_,rfl⟩;obtain⟨W,hW⟩:=hW;rw[hW] at HTC HBA HXO;rw[hW];clear hW a0 a1 a2 a3 a4 a5 a6 a7;have y0:=(cII HXO.out 0).trans rfl;have y1:=(cII HXO.out 1).trans rfl;have y2:=(cII HXO.out 2).trans rfl;have y3:=(cII HXO.out 3).trans rfl
    go_wp2_with fail
    clear y0 y1 y2 y3;refine HTC.out.mono ?_;rintro e w6 ⟨u,rfl,hu,hb6⟩;obtain⟨k6,oi6,mi6,ci6,ok6,mk6,ck6,rfl⟩:=hu.agg;have HXO6:=kH HXO hb6;have HZ6:=hid (kO (kO HZ2.out HBA.out) hb6);have HB6:=hid (HB2.out.trans ((HBA.out.trans (hb6.mono HBA.out.size)).mono HB2.out.size));have HX6:=hid (show w.heap.size+2≤wr.heap.size∧wr.heap.size<w6.heap.size from⟨HS2.out,by have:=hb6.size;have:=(aS HXO.out).1;omega⟩);clear hu hb6 HTC;have y0:=(cII HXO6.out 0).trans rfl;have y1:=(cII HXO6.out 1).trans rfl;have y2:=(cII HXO6.out 2).trans rfl;have y3:=(cII HXO6.out 3).trans rfl;have y4:=(cII HXO6.out 4).trans rfl;have y5:=(cII HXO6.out 5).trans rfl;have y6:=(cII HXO6.out 6).trans rfl;have y7:=(cII HXO6.out 7).trans rfl;have yf:=zff HXO6.out
    go_upto_region 6 with (fail)
    clear y0 y1 y2 y3 y4 y5 y6 y7 yf;have HC7:=hid (((Chg.setCell (B:=fun k=>k=wr.heap.size) w6 wr.heap.size 1 (.int .i64 k6) rfl).trans (Chg.setCell _ wr.heap.size 2 (.slice oi6 mi6 ci6) rfl)).trans (Chg.setCell _ wr.heap.size 3 (.slice ok6 mk6 ck6) rfl));have HXO7:=hid (obj_set (po:=3) (obj_set (po:=2) (obj_set (po:=1) HXO6.out (.int .i64 k6)) (.slice oi6 mi6 ci6)) (.slice ok6 mk6 ck6))
    generalize ((w6.setCell ⟨wr.heap.size,1,none⟩ (.int .i64 k6)).setCell ⟨wr.heap.size,2,none⟩ (.slice oi6 mi6 ci6)).setCell ⟨wr.heap.size,3,none⟩ (.slice ok6 mk6 ck6)=w7 at *
    have HZ7:=hid ((HC7.out.block _ (by have:=HX6.out;omega) (by have:=HX6.out;omega)).trans HZ6.out);have HB7:=hid (HB6.out.trans (zgg HC7.out (fun k hk=>by rw[hk];have:=HX6.out;omega) (by have:=HX6.out;omega)));have y0:=(cII HXO7.out 0).trans rfl;have y1:=(cII HXO7.out 1).trans rfl;have y2:=(cII HXO7.out 2).trans rfl;have y3:=(cII HXO7.out 3).trans rfl;have y4:=(cII HXO7.out 4).trans rfl;have y5:=(cII HXO7.out 5).trans rfl;have y6:=(cII HXO7.out 6).trans rfl;have y7:=(cII HXO7.out 7).trans rfl;have f0:=(cII HZ7.out 0).trans rfl;have f1:=(cII HZ7.out 1).trans rfl;have f2:=(cII HZ7.out 2).trans rfl;have f3:=(cII HZ7.out 3).trans rfl;have f4:=(cII HZ7.out 4).trans rfl;have f5:=(cII HZ7.out 5).trans rfl;have f6:=(cII HZ7.out 6).trans rfl;have f7:=(cII HZ7.out 7).trans rfl
    have fz:=zff HZ7.out
    go_wp2_with fail
    try simp only[Exit.inBlock,Exit.then]
    refine bodyPost_ret (v:=.tuple #[.agg #[.string nm,.int .i64 k6,.slice oi6 mi6 ci6,.slice ok6 mk6 ck6,.int .i64 md,.bool rp,.bool sn,.bool vl],.bool true]) (by simp[results,Tryz.results65,go_sem,f0,f1,f2,f3,f4,f5,f6,f7]) rfl ?_;rw[HF.out];exact⟨_,_,_,_,_,_,_,_,rfl,store8_below HB7.out (by omega) (nR _) _ _ _ _ _ _ _ _⟩
   ·obtain⟨hb1,hb2⟩:=str_ne hx
    have HM:=hid (HMISS.out hx);clear HHIT HMISS HTC hx
    go_upto_region 4 with (fail)
    have hW:∃ W,wr.alloc (.cells #[.string nm,.int .i64 k,.slice oe me ce,.slice on2 mn cn2,.int .i64 md,.bool rp,.bool sn,.bool vl] 64)=W:=⟨_,rfl⟩;obtain⟨W,hW⟩:=hW;rw[hW] at HBA HXO;rw[hW];clear hW a0 a1 a2 a3 a4 a5 a6 a7;have y0:=(cII HXO.out 0).trans rfl
    go_wp2_with fail
    go_roundw
    case rel=>exact⟨j+1,by omega,by go_num,hT B HBA.out,HM⟩
    case measure=>simp[intOf];omega
  ·have HF:=hid (fndA_miss fun i hi=>A.out i hi (by omega))
   have f0:=(cII HZ2.out 0).trans rfl;have f1:=(cII HZ2.out 1).trans rfl;have f2:=(cII HZ2.out 2).trans rfl;have f3:=(cII HZ2.out 3).trans rfl;have f4:=(cII HZ2.out 4).trans rfl;have f5:=(cII HZ2.out 5).trans rfl;have f6:=(cII HZ2.out 6).trans rfl;have f7:=(cII HZ2.out 7).trans rfl;have fz:=zff HZ2.out
   go_wp2_with fail
   try simp only[Exit.inBlock,Exit.then]
   refine bodyPost_ret (v:=.tuple #[.agg #[.string ⟨#[]⟩,.int .i64 0,.slice none 0 0,.slice none 0 0,.int .i64 0,.bool false,.bool false,.bool false],.bool false]) (by simp[results,Tryz.results65,go_sem,f0,f1,f2,f3,f4,f5,f6,f7]) rfl ?_;rw[HF.out];exact⟨_,_,_,_,_,_,_,_,rfl,store8_below HB2.out (by omega) (nR _) _ _ _ _ _ _ _ _⟩
theorem kind_any (s:Sc) (x:ByteArray) (P:Nat→Prop) (w:World) (va vn:Value) (hs:SCV P w va vn s) :
  Calls Tryz.prog 72 #[.agg #[va,vn],.string x] w (KindPost (fndK s.nested x) w):=by
 obtain⟨oa,ca,rfl⟩:=hs.1.len;obtain⟨on,cn,rfl⟩:=hs.2.len;have hla:=hs.1.le;have hlk:=hs.2.le;generalize hA:w.alloc (.cells #[.slice oa s.attrs.length ca,.slice on s.nested.length cn] 25)=wa
 have hao:wa.heap[w.heap.size]? = some (.cells #[.slice oa s.attrs.length ca,.slice on s.nested.length cn] 25):=by rw[←hA];exact zhh w _
 have has:wa.heap.size=w.heap.size+1:=by rw[←hA];simp
 have hab:Below w.heap.size w wa:=by rw[←hA];exact(Below.refl _ _).alloc (nR _) _
 have hT:=zhh wa zeroN;have hbb:Below wa.heap.size wa (wa.alloc zeroN):=(Below.refl _ _).alloc (nR _) _
 have hbs:(wa.alloc zeroN).heap.size=w.heap.size+2:=by simp[has]
 rw[has] at hT;generalize hB:wa.alloc zeroN=wb at hT hbb hbs;have hall:Below w.heap.size w wb:=hab.trans (hbb.mono hab.size);have HA0:=hid hA;have HB0:=hid hB;have HB:=hid hall;have HS:=hid hbs;have HZ:=hid hT;have HA:=hid ((hbb.block _ (by omega)).trans hao);have HAT:=hid (hs.1.bel hall);have HNE:=hid (hs.2.bel hall);clear hs hA hB hT hbb hbs hall hao has hab;have a0:=(cII HA.out 0).trans rfl;have a1:=(cII HA.out 1).trans rfl
 go_enter Tryz.func72,Tryz.ntmps72
 go_upto_region 1 with (fail)
 rw[HA0.out,HB0.out]
 go_wp2_with fail
 clear a0 a1
 go_loopw [11] (fun i wr=>∃ j:Nat,j≤s.nested.length∧i=.int .i64 j∧Hid (Below wb.heap.size wb wr)∧Hid (∀ i (hi:i<s.nested.length),i<j→s.nested[i].name≠x)) (fun i _=>s.nested.length - (intOf i).toNat)
 case atStart=>exact⟨0,Nat.zero_le _,rfl,hid (Below.refl _ _),hid fun i _ hi=>absurd hi (Nat.not_lt_zero _)⟩
 case round =>
  obtain⟨j,hj,rfl,B,A⟩:=hrel;have HZ2:=kH HZ B.out;have HS2:=hid (show w.heap.size+2≤wr.heap.size by have:=B.out.size;have:=HS.out;omega);have HB2:=hT HB B.out
  by_cases hlt:j<s.nested.length
  ·obtain⟨g,o,c,oa2,ca2,-,e1,a0,a1,a2,a3,a4,-,-⟩:=(HNE.out.bel B.out).at hlt
   cases e1
   have hj0:(0:Int)≤(j:Int):=by omega
   have hj1:(j:Int)<(s.nested.length:Int):=by omega
   have HBA:=hid (show Below wr.heap.size wr (wr.alloc (.cells #[.string s.nested[j].name,.int .i64 s.nested[j].mn,.int .i64 s.nested[j].mx,.slice oa2 s.nested[j].attrs.length ca2,.bool s.nested[j].rep] 102)) from(Below.refl _ _).alloc (nR _) _);have HXO:=hid (zhh wr (.cells #[.string s.nested[j].name,.int .i64 s.nested[j].mn,.int .i64 s.nested[j].mx,.slice oa2 s.nested[j].attrs.length ca2,.bool s.nested[j].rep] 102));have HHIT:=hid (fun hy=>fndK_hit hlt A.out (x:=x) hy)
   have HMISS:Hid (s.nested[j].name≠x→∀ i (hi:i<s.nested.length),i<j+1→s.nested[i].name≠x):=hid fun hne i hi hij=>by
    by_cases e:i=j
    ·subst e;exact hne
    ·exact A.out i hi (by omega)
   generalize s.nested[j]=at' at *
   obtain⟨nm,mn,mx,ats,rp⟩:=at';simp only at a0 a1 a2 a3 a4 HBA HXO HHIT HMISS;clear A
   generalize ats.length=ma at *
   by_cases hx:nm=x
   ·subst hx
    have HF:=hid (HHIT.out rfl);clear HHIT HMISS
    go_upto_region 4 with (fail)
    have hW:∃ W,wr.alloc (.cells #[.string nm,.int .i64 mn,.int .i64 mx,.slice oa2 ma ca2,.bool rp] 102)=W:=⟨_,rfl⟩;obtain⟨W,hW⟩:=hW;rw[hW] at HBA HXO;rw[hW];clear hW a0 a1 a2 a3 a4;have HZ6:=kH HZ2 HBA.out;have HB6:=hT HB2 HBA.out;have y0:=(cII HXO.out 0).trans rfl;have y1:=(cII HXO.out 1).trans rfl;have y2:=(cII HXO.out 2).trans rfl;have y3:=(cII HXO.out 3).trans rfl;have y4:=(cII HXO.out 4).trans rfl;have f0:=(cII HZ6.out 0).trans rfl;have f1:=(cII HZ6.out 1).trans rfl;have f2:=(cII HZ6.out 2).trans rfl;have f3:=(cII HZ6.out 3).trans rfl;have f4:=(cII HZ6.out 4).trans rfl;have fz:=zff HZ6.out
    go_wp2_with fail
    try simp only[Exit.inBlock,Exit.then]
    refine bodyPost_ret (v:=.tuple #[.agg #[.string nm,.int .i64 mn,.int .i64 mx,.slice oa2 ma ca2,.bool rp],.bool true]) (by simp[results,Tryz.results72,go_sem,f0,f1,f2,f3,f4]) rfl ?_;rw[HF.out];exact⟨_,_,_,_,_,_,rfl,store5_below HB6.out (by omega) (nR _) _ _ _ _ _⟩
   ·obtain⟨hb1,hb2⟩:=str_ne hx
    have HM:=hid (HMISS.out hx);clear HHIT HMISS hx
    go_upto_region 4 with (fail)
    have hW:∃ W,wr.alloc (.cells #[.string nm,.int .i64 mn,.int .i64 mx,.slice oa2 ma ca2,.bool rp] 102)=W:=⟨_,rfl⟩;obtain⟨W,hW⟩:=hW;rw[hW] at HBA HXO;rw[hW];clear hW a0 a1 a2 a3 a4;have y0:=(cII HXO.out 0).trans rfl
    go_wp2_with fail
    go_roundw
    case rel=>exact⟨j+1,by omega,by go_num,hT B HBA.out,HM⟩
    case measure=>simp[intOf];omega
  ·have HF:=hid (fndK_miss fun i hi=>A.out i hi (by omega))
   have f0:=(cII HZ2.out 0).trans rfl;have f1:=(cII HZ2.out 1).trans rfl;have f2:=(cII HZ2.out 2).trans rfl;have f3:=(cII HZ2.out 3).trans rfl;have f4:=(cII HZ2.out 4).trans rfl;have fz:=zff HZ2.out
   go_wp2_with fail
   try simp only[Exit.inBlock,Exit.then]
   refine bodyPost_ret (v:=.tuple #[.agg #[.string ⟨#[]⟩,.int .i64 0,.int .i64 0,.slice none 0 0,.bool false],.bool false]) (by simp[results,Tryz.results72,go_sem,f0,f1,f2,f3,f4]) rfl ?_;rw[HF.out];exact⟨_,_,_,_,_,_,rfl,store5_below HB2.out (by omega) (nR _) _ _ _ _ _⟩
end Go.Proofs.YtibiiafcnaijeaaGreat
