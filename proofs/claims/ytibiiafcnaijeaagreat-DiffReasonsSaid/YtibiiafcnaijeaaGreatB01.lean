/- Texts that stand alike under several statements, run together. -/
import Derived.Test.YtibiiafcnaijeaaGreatB00
import Derived.Test.YtibiiafcnaijeaaGreatProg
import Derived.Below
import Derived.WalkKit
import Derived.WalkSpells
import Derived.WalkLawsBesides
import Derived.Shelf.Spec.SlicesInsertGrow
import Derived.Shelf.Spec.SlicesInsert
import Derived.Shelf.Spec.SearchS
import Derived.Shelf.SlGeneric
import Derived.Shelf.Slices.Equal
import Derived.Ground.Names2Prog
import Derived.Shelf.Slices.ReverseS
import Derived.Shelf.Slices.Clone
import Derived.Shelf.Slices.Cells
import Derived.Shelf.Slices.Empties2
import Derived.Ground.SlgnProg
import Derived.Shelf.SlicesE.Reverse
import Derived.Shelf.SlicesE.Clone
import Derived.OrdersHeld
import Derived.StillTail
import Derived.KernelRfl
import Derived.Shelf.Strings.OnBuilder
import Derived.Lib.Hide
import Derived.OwnWalk
import Derived.Deep.DeepCutAuto
import Derived.Deep.CutBlock
namespace Go.Proofs.YtibiiafcnaijeaaGreat
open Go Go.RowKit
set_option linter.unusedVariables false
set_option linter.unusedSimpArgs false
set_option maxRecDepth 100000
set_option maxHeartbeats 40000000
structure Chg (B:Nat→Prop) (w w':World):Prop where
 os:w'.os=w.os
 tape:w'.tape=w.tape
 output:w'.output=w.output
 size:w.heap.size≤w'.heap.size
 block:∀ k,k < w.heap.size→¬ B k→w'.heap[k]? = w.heap[k]?
theorem Chg.refl (B:Nat→Prop) (w:World):Chg B w w:=⟨rfl,rfl,rfl,nR _,fun _ _ _=>rfl⟩
theorem Chg.trans {B:Nat→Prop} {u v w:World} (h:Chg B u v) (k:Chg B v w):Chg B u w :=
 ⟨k.os.trans h.os,k.tape.trans h.tape,k.output.trans h.output,Nat.le_trans h.size k.size,fun i hi hb=>(k.block i (Nat.lt_of_lt_of_le hi h.size) hb).trans (h.block i hi hb)⟩
theorem Chg.mono {B B':Nat→Prop} {u v:World} (h:Chg B u v) (hb:∀ k,k < u.heap.size→B k→B' k):Chg B' u v :=
 ⟨h.os,h.tape,h.output,h.size,fun i hi hn=>h.block i hi fun hB=>hn (hb i hi hB)⟩
theorem Chg.drewN (B:Nat→Prop) (w:World) (q:Nat):Chg B w (w.drewN q):=⟨rfl,rfl,rfl,nR _,fun _ _ _=>rfl⟩
theorem Chg.drew (B:Nat→Prop) (w:World):Chg B w w.drew:=⟨rfl,rfl,rfl,nR _,fun _ _ _=>rfl⟩
theorem Chg.below {B:Nat→Prop} {w w':World} (h:Below w.heap.size w w'):Chg B w w':=⟨h.os,h.tape,h.output,h.size,fun k hk _=>h.block k hk⟩
theorem Chg.alloc (B:Nat→Prop) (w:World) (o:Obj):Chg B w (w.alloc o):=Chg.below ((Below.refl _ w).alloc (nR _) o)
theorem Chg.setCells {B:Nat→Prop} (w:World) (b o:Nat) (vs:List Value) (hb:B b):Chg B w (w.setCells b o vs):=by
 induction vs generalizing w o with
 | nil=>exact Chg.refl _ _
 | cons v r ih =>
  refine Chg.trans ?_ (ih _ _);exact ⟨rfl,rfl,rfl,by simp [World.setCell],fun k hk hn=>Below.heap_setCell _ _ _ _ (fun e=>hn (e ▸ hb))⟩
theorem cII {w:World} {b:Nat} {cs:Array Value} {t:Nat} {fz:Nat × Nat} (h:w.heap[b]? = some (.cells cs t fz)) (o:Nat):w.cell? ⟨b,o,none⟩=cs[o]?:=by
 simp [World.cell?,h]
theorem zff {w:World} {b:Nat} {cs:Array Value} {t:Nat} (h:w.heap[b]? = some (.cells cs t (0,0))) (o:Nat):w.frozen? ⟨b,o,none⟩=false:=by
 simp [World.frozen?,h]
theorem zhh (w:World) (o:Obj):(w.alloc o).heap[w.heap.size]? = some o:=by
 show (w.heap.push o)[w.heap.size]? = _;simp
theorem obj_set {w:World} {pb po:Nat} {arr:Array Value} {t:Nat} (h:w.heap[pb]? = some (.cells arr t)) (v:Value) :
  (w.setCell ⟨pb,po,none⟩ v).heap[pb]? = some (.cells (arr.setIfInBounds po v) t):=by
 simp [World.setCell,Array.getElem?_modify,h]
theorem Chg.setCell {B:Nat→Prop} (w:World) (b o:Nat) (v:Value) (hb:B b):Chg B w (w.setCell ⟨b,o,none⟩ v) :=
 ⟨rfl,rfl,rfl,by simp [World.setCell],fun k hk hn=>Below.heap_setCell _ _ _ _ (fun e=>hn (e ▸ hb))⟩
theorem Chg.of_grown {w w':World} {v:Value} (h:w.grownBy w' v.ownBlock):Chg (fun k=>v.ownBlock=some k) w w' :=
 ⟨h.os,h.tape,h.output,h.size,fun k hk hn=>h.block k hk fun e=>hn e.symm⟩
theorem run_append_place {P:Program} (w:World) (t ty e:TypeId) (i:TypeInfo) (z:Value) (size bytes:Nat) (ht:P.underlying t=some (.slice e)) (hi:P.info? e=some i) (hz:i.zero=some z)
  (hsize:i.size=size) (hby:i.bytes=bytes) (hzs:z.cells.size=size) (hsz:0 < size) (v:Value) (n:Nat) (xs:List Value) (hown:w.ownsRow 0 e size v n xs)
  (a:Addr) (m c:Nat) (news:List Value) (hl:news.length=m * size) (hnews:∀ j u,news[j]? = some u→w.cell? (a.add j)=some u) (h1:∀ u∈news,u.oneCell'=true)
  (hm:0 < m) (h63:n + m≤maxLen) (hbytes:(n + m) * bytes≤140737488355328) :
  ∃ v' w',(Builtin.append_ #[t,t] ty #[v,.slice (some a) m c]).run P w=.ok v' w'∧w'.ownsRow 0 e size v' (n + m) (xs ++ news)∧w.grownBy w' v.ownBlock ∧
   (v'.ownBlock=v.ownBlock∨∃ g,v'.ownBlock=some g∧w.heap.size≤g)∧v'≠.slice none 0 0:=by
 obtain ⟨v',w',hr,h2,h3,h4⟩:=run_append_own (P:=P) w 0 t ty e i z size bytes ht hi hz hsize hby hzs hsz v n xs hown a m c news hl hnews h1 h63 hbytes (Nat.zero_le _);refine ⟨v',w',hr,h2,h3,?_,fun hv=>by have:=(h4.1 hv).2;omega⟩
 have hsmall:n + m≤9223372036854775807:=by simp only [maxLen] at h63;omega
 rcases hown.2 with ⟨rfl,rfl⟩ | ⟨g,cap,cur,rfl,hbg,hg,hnc,hcm,hcs,htake⟩
 ·obtain ⟨v'',w'',hr2,h2',h3',h4'⟩:=run_append_own (P:=P) w w.heap.size t ty e i z size bytes ht hi hz hsize hby hzs hsz (.slice none 0 0) 0 xs ⟨hown.1,.inl ⟨rfl,rfl⟩⟩ a m c news hl hnews h1 h63 hbytes (nR _)
  rw [hr] at hr2
  injection hr2 with e1 e2
  subst e1 e2
  rcases h2'.2 with ⟨rfl,h0⟩ | ⟨g,cap,cur,rfl,hb,_⟩
  ·omega
  ·exact .inr ⟨g,rfl,hb⟩
 ·subst hsize
  subst hby
  by_cases hroom:n + m≤cap
  ·have hfit:n * i.size + news.length≤cur.size:=by rw [hl,hcs,← Nat.add_mul];exact Nat.mul_le_mul_right _ hroom
   have hr2:=run_append_room (P:=P) w t ty e i ht hi g n cap cur hg a m c news hl hnews h1 hroom hfit;rw [hr] at hr2
   injection hr2 with e1 e2
   subst e1;exact .inl rfl
  ·have hr2:=run_append_grow (P:=P) w t ty e i z ht hi hz ⟨g,0,none⟩ n cap xs hown.1 (hown.cells (g:=g) rfl) a m c news hl hnews (by omega) (by omega) (growslice_fits (by omega) hbytes)
   rw [hr] at hr2
   injection hr2 with e1 e2
   subst e1;exact .inr ⟨_,rfl,nR _⟩
theorem cells_new (w:World) (news:List Value) (t:TypeId):∀ j u,news[j]? = some u→(w.alloc (.cells news.toArray t)).cell? ((⟨w.heap.size,0,none⟩:Addr).add j)=some u:=by
 intro j u hj
 have:(⟨w.heap.size,0,none⟩:Addr).add j=⟨w.heap.size,j,none⟩:=by unfold Addr.add;split <;> simp_all
 rw [this,cII (zhh w _)];simp [hj]
theorem app_tag_wp {P:Program} {w:World} {o:Oper} {a:Act} {K:Act→World→Prop} {Q:Exit→Act→World→Prop} (s x:Operand) (t:TypeId)
  (ho:o.op=.call { callee:=.builtin .append,args:=#[s,x],argTypes:=#[t,t] })
  (e:Nat) (z:Value) (size bytes:Nat) (ht:P.underlying t=some (.slice e)) (hinf:(P.info? e).map (fun i=>(i.zero,i.size,i.bytes))=some (some z,size,bytes))
  (hzs:z.cells.size=size) (hsz:0 < size) (hb:bytes≤100)
  (v:Value) (n:Nat) (xs:List Value) (hown:w.ownsRow 0 e size v n xs) (hs:a.eval s=v)
  (news:List Value) (n0:Nat) (hx:a.eval x=.slice (some ⟨n0,0,none⟩) 1 1) (hn0:n0=w.heap.size) (hl:news.length=size) (h1:∀ u∈news,u.oneCell'=true)
  (hn:n≤1000000000000)
  (h:∀ v' w',w'.ownsRow 0 e size v' (n + 1) (xs ++ news)→Chg (fun k=>v.ownBlock=some k) w w'→(v'.ownBlock=v.ownBlock∨∃ g,v'.ownBlock=some g∧w.heap.size≤g)→v'≠.slice none 0 0 →
    K (a.put o.dst v') w') :
  o.wp P a (w.alloc (.cells news.toArray e)) K Q:=by
 subst hn0;obtain ⟨i,hi,hz,hsize,hby⟩:=info_parts hinf
 obtain ⟨v',w',hr,h2,h3,h4,h5⟩:=run_append_place (P:=P) (w.alloc (.cells news.toArray e)) t o.type e i z size bytes ht hi hz hsize hby hzs hsz v n xs (hown.alloc _) ⟨w.heap.size,0,none⟩ 1 1 news (by omega)
  (cells_new w news e) h1 (by omega) (by unfold maxLen;omega) (by have:(n + 1) * bytes≤(n + 1) * 100:=Nat.mul_le_mul_left _ hb;omega)
 unfold Oper.wp execOp;simp only [ho,resolve,invoke,builtin,Sem.run_bind,Sem.run_pure,Result.andThen_ok,List.map_toArray,List.map_cons,List.map_nil,hs,hx,hr];refine h v' w' h2 ?_ ?_ h5
 ·have c1:Chg (fun k=>v.ownBlock=some k) w (w.alloc (.cells news.toArray e)):=Chg.alloc _ _ _
  exact c1.trans (Chg.of_grown h3)
 ·refine h4.imp id ?_
  rintro ⟨g,h6,h7⟩;exact ⟨g,h6,by simp at h7;omega⟩
theorem app_tag {P:Program} {w:World} {ops:Array Oper} {rest:List Oper} {o:Oper} {a:Act} {Q:Exit→Act→World→Prop} (hg:o.guard=none) (s x:Operand) (t:TypeId)
  (ho:o.op=.call { callee:=.builtin .append,args:=#[s,x],argTypes:=#[t,t] })
  (e:Nat) (z:Value) (size bytes:Nat) (ht:P.underlying t=some (.slice e)) (hinf:(P.info? e).map (fun i=>(i.zero,i.size,i.bytes))=some (some z,size,bytes))
  (hzs:z.cells.size=size) (hsz:0 < size) (hb:bytes≤100)
  (v:Value) (n:Nat) (xs:List Value) (hown:w.ownsRow 0 e size v n xs) (hs:a.eval s=v)
  (news:List Value) (n0:Nat) (hx:a.eval x=.slice (some ⟨n0,0,none⟩) 1 1) (hn0:n0=w.heap.size) (hl:news.length=size) (h1:∀ u∈news,u.oneCell'=true)
  (hn:n≤1000000000000)
  (h:∀ v' w',w'.ownsRow 0 e size v' (n + 1) (xs ++ news)→Chg (fun k=>v.ownBlock=some k) w w'→(v'.ownBlock=v.ownBlock∨∃ g,v'.ownBlock=some g∧w.heap.size≤g)→v'≠.slice none 0 0 →
    wpList P ops Q rest (a.put o.dst v') w') :
  wpList P ops Q (o :: rest) a (w.alloc (.cells news.toArray e)):=by
 refine wpList_plain hg fun K hK=>?_
 exact app_tag_wp s x t ho e z size bytes ht hinf hzs hsz hb v n xs hown hs news n0 hx hn0 hl h1 hn fun v' w' a1 a2 a3 a4=>hK _ _ (h v' w' a1 a2 a3 a4)
theorem zw {w:World} {base e size n:Nat} {v:Value} {xs:List Value} (h:w.ownsRow base e size v n xs):∃ oa m c,v=.slice oa m c:=by
 rcases h.2 with ⟨rfl,_⟩ | ⟨g,cap,cur,rfl,_⟩
 ·exact ⟨_,_,_,rfl⟩
 ·exact ⟨_,_,_,rfl⟩
def Made (B:Nat) (w:World) (e size:Nat) (v:Value) (n:Nat) (xs:List Value):Prop:=w.ownsRow 0 e size v n xs∧∀ g,v.ownBlock=some g→B≤g
theorem Made.grow {B e size n n':Nat} {w w':World} {v v':Value} {xs xs':List Value} (h:Made B w e size v n xs) (hB:B≤w.heap.size) (hown:w'.ownsRow 0 e size v' n' xs') (hp:v'.ownBlock=v.ownBlock∨∃ g,v'.ownBlock=some g∧w.heap.size≤g):Made B w' e size v' n' xs' :=
 ⟨hown,fun g hg=>by
  rcases hp with e | ⟨g',e,hg'⟩
  ·exact h.2 g (e ▸ hg)
  ·rw [e] at hg;cases hg;omega⟩
theorem Made.below {B e size n:Nat} {w0 w w':World} {v:Value} {xs:List Value} (h:Made B w e size v n xs) (hB:B≤w0.heap.size) (hb:Below B w0 w) (hc:Chg (fun k=>v.ownBlock=some k) w w'):Below B w0 w' :=
 ⟨hc.os.trans hb.os,hc.tape.trans hb.tape,hc.output.trans hb.output,Nat.le_trans hb.size hc.size,fun k hk=>(hc.block k (by have:=hb.size;omega) (fun e=>by have:=h.2 k e;omega)).trans (hb.block k hk)⟩
theorem cells_at {w:World} {g:Nat} {cur:Array Value} {e:Nat} (hh:w.heap[g]? = some (.cells cur e)) {n:Nat} {xs:List Value} (ht:cur.toList.take n=xs) {i:Nat} {u:Value} (hu:xs[i]? = some u):w.cell? ⟨g,i,none⟩=some u:=by
 rw [cII hh];subst ht;rw [List.getElem?_take] at hu
 split at hu
 ·simpa using hu
 ·cases hu
theorem owns_keep {w w':World} {e size n:Nat} {v:Value} {xs:List Value} {P:Nat→Prop} (h:w.ownsRow 0 e size v n xs) (hc:Chg P w w') (hn:∀ g,v.ownBlock=some g→¬ P g):w'.ownsRow 0 e size v n xs:=by
 refine ⟨h.1,?_⟩
 rcases h.2 with h0 | ⟨g,cap,cur,rfl,p1,p2,p3⟩
 ·exact .inl h0
 ·exact .inr ⟨g,cap,cur,rfl,p1,by rw [hc.block g (aS p2).1 (hn g rfl)];exact p2,p3⟩
theorem made_keep {B:Nat} {w w':World} {e size n:Nat} {v:Value} {xs:List Value} {P:Nat→Prop} (h:Made B w e size v n xs) (hc:Chg P w w') (hP:∀ k,P k→k < B):Made B w' e size v n xs :=
 ⟨owns_keep h.1 hc fun g hg hp=>by have:=h.2 g hg;have:=hP g hp;omega,h.2⟩
theorem zcc {P:Nat→Prop} {w w':World} {g o:Nat} {u:Value} (hc:Chg P w w') (hn:¬ P g) (h:w.cell? ⟨g,o,none⟩=some u):w'.cell? ⟨g,o,none⟩=some u:=by
 have hb:=World.block_lt_of_cell? w _ h;have:=hc.block g hb hn;unfold World.cell? at h ⊢;simp only at h ⊢;rw [this];exact h
theorem below_drewN {B:Nat} {w w':World} (h:Below B w w') (q:Nat):Below B w (w'.drewN q):=⟨h.os,h.tape,h.output,h.size,h.block⟩
theorem zdd {B:Nat} {w w':World} (h:Below B w w'):Below B w w'.drew:=⟨h.os,h.tape,h.output,h.size,h.block⟩
theorem Made.later {B:Nat} {w w':World} {e size n:Nat} {v:Value} {xs:List Value} (h:Made B w e size v n xs) (hb:Below w.heap.size w w'):Made B w' e size v n xs :=
 ⟨owns_keep (P:=fun _=>False) h.1 (Chg.below hb) (fun _ _ h=>h),h.2⟩
theorem Made.nil (B:Nat) (w:World) (e size:Nat):Made B w e size (.slice none 0 0) 0 []:=⟨World.ownsRow_nil _ _ _ _,fun g hg=>by cases hg⟩
theorem info9:(Tryz.prog.info? 9).map (fun i=>(i.zero,i.size,i.bytes))=some (some (.string ⟨#[]⟩),1,16):=by kernel_rfl
theorem info26:(Tryz.prog.info? 61).map (fun i=>(i.zero,i.size,i.bytes))=some (some (.agg #[.int .i64 0,.slice none 0 0,.slice none 0 0]),3,56):=by kernel_rfl
end Go.Proofs.YtibiiafcnaijeaaGreat
namespace Go.Proofs
open Go.Shelf
open Go.RowKit Go.Lib in
open Go.RowKit Go.Lib in
open Go.RowKit Go.Lib Go.Sort in
open Go.RowKit Go.Lib Go.Sort in
open Go.RowKit Go.Lib Go.Sort in
set_option linter.unusedVariables false
set_option linter.unusedSimpArgs false
set_option maxRecDepth 100000
set_option maxHeartbeats 40000000
def Tryz.laysNm216_ren:Go.Shelf.Ren:=⟨fun | 16=>37 | n=>n,fun | 24=>30 | 9=>9 | 4=>4 | n=>n,fun | n=>n⟩
theorem Tryz.laysNm216:Go.Proofs.Lays2.n16 Tryz.prog Tryz.laysNm216_ren:={
 mixed:=by kernel_rfl
 f16:=Tryz.func37.trans (congrArg some (by kernel_rfl))
 t4:=Tryz.underlying4
 a4:=Tryz.isAgg4
 z4:=Tryz.sizeOf4
 v4:=Tryz.zeroValue4
 t9:=Tryz.underlying9
 a9:=Tryz.isAgg9
 z9:=Tryz.sizeOf9
 v9:=Tryz.zeroValue9
 t24:=Tryz.underlying30
 a24:=Tryz.isAgg30
 z24:=Tryz.sizeOf30
 v24:=Tryz.zeroValue30
 i9:=by kernel_rfl }
open Go.RowKit Go.Lib in
theorem Tryz.slices_Clone_string (b off n c:Nat) (zs:List ByteArray) (w:World) (hz:n≤zs.length) (hbig:n * 16≤140737488355328) (hc:∀ j,j < zs.length→w.cell? ⟨b,off + j,none⟩=some (.string (zs.getD j ByteArray.empty))) :
  Calls Tryz.prog 37 #[.slice (some ⟨b,off,none⟩) n c] w fun e w'=>∃ v',e=.returned v'∧w'.ownsRow w.heap.size 9 1 v' n ((zs.take n).map (Value.string))∧v'≠.slice none 0 0∧Below w.heap.size w w':=Any.slices_Clone_string Tryz.laysNm216 b off n c zs w hz hbig hc
open Go.RowKit Go.Lib in
theorem Tryz.slices_Clone_string_nil (n c:Nat) (w:World) :
  Calls Tryz.prog 37 #[.slice none n c] w fun e w'=>e=.returned (.slice none 0 0)∧w'=w:=Any.slices_Clone_string_nil Tryz.laysNm216 n c w
open Go.RowKit Go.Lib in
theorem Tryz.slices_Clone_string_zero (a:Addr) (c:Nat) (w:World) :
  Calls Tryz.prog 37 #[.slice (some a) 0 c] w fun e w'=>∃ v',e=.returned v'∧w'.ownsRow w.heap.size 9 1 v' 0 []∧v'≠.slice none 0 0∧Below w.heap.size w w':=Any.slices_Clone_string_zero Tryz.laysNm216 a c w
open Go.RowKit Go.Lib Go.Sort in
open Go.RowKit Go.Lib in
open Go.RowKit Go.Lib Go.Sort in
open Go.RowKit Go.Lib Go.Sort in
open Go.RowKit Go.Lib Go.Sort in
def Tryz.laysSlE041_f37_ren:Go.Shelf.Ren:=⟨fun | 41=>37 | n=>n,fun | 22=>30 | 23=>9 | 4=>4 | n=>n,fun | n=>n⟩
theorem Tryz.laysSlE041_f37:Go.Proofs.SlLaysE0.n41 Tryz.prog Tryz.laysSlE041_f37_ren:={
 mixed:=by kernel_rfl
 f41:=⟨Tryz.f37.name,by decide,Tryz.func37.trans (congrArg some (by kernel_rfl))⟩
 t4:=Tryz.underlying4
 a4:=Tryz.isAgg4
 z4:=Tryz.sizeOf4
 v4:=Tryz.zeroValue4
 t22:=Tryz.underlying30
 a22:=Tryz.isAgg30
 z22:=Tryz.sizeOf30
 v22:=Tryz.zeroValue30 }
open Go.RowKit Go.Lib in
theorem Tryz.slices_Clone (i0:TypeInfo) (z:Value) (size bytes:Nat) (hi:Tryz.prog.info? 9=some i0) (hz0:i0.zero=some z) (hz1:i0.size=size) (hz2:i0.bytes=bytes) (hzs:z.cells.size=size) (hsz:0 < size) (z23:∀ w,(Go.sizeOf 9).run Tryz.prog w=.ok size w) (b off n c:Nat) (news:List Value) (w:World) (hl:news.length=n * size) (hn:n≤maxLen) (hbig:n * bytes≤140737488355328) (hc:∀ j u,news[j]? = some u→w.cell? ⟨b,off + j,none⟩=some u) (h1:∀ u∈news,u.oneCell'=true) :
  Calls Tryz.prog 37 #[.slice (some ⟨b,off,none⟩) n c] w fun e w'=>∃ v',e=.returned v'∧w'.ownsRow w.heap.size 9 size v' n news∧v'≠.slice none 0 0∧Below w.heap.size w w':=AnyE.slices_Clone Tryz.laysSlE041_f37 i0 z size bytes hi hz0 hz1 hz2 hzs hsz z23 b off n c news w hl hn hbig hc h1
open Go.RowKit Go.Lib in
theorem Tryz.slices_Clone_nil (n c:Nat) (w:World) :
  Calls Tryz.prog 37 #[.slice none n c] w fun e w'=>e=.returned (.slice none 0 0)∧w'=w:=AnyE.slices_Clone_nil Tryz.laysSlE041_f37 n c w
def Tryz.laysNm222_ren:Go.Shelf.Ren:=⟨fun | 22=>102 | 29=>115 | 30=>116 | 36=>126 | 17=>133 | n=>n,fun | 24=>30 | 9=>9 | 3=>3 | 4=>4 | 0=>0 | n=>n,fun | n=>n⟩
theorem Tryz.laysNm222:Go.Proofs.Lays2.n22 Tryz.prog Tryz.laysNm222_ren:={
 mixed:=by kernel_rfl
 f17:=Tryz.func133.trans (congrArg some (by kernel_rfl))
 f22:=Tryz.func102.trans (congrArg some (by kernel_rfl))
 f29:=Tryz.func115.trans (congrArg some (by kernel_rfl))
 f30:=Tryz.func116.trans (congrArg some (by kernel_rfl))
 f36:=Tryz.func126.trans (congrArg some (by kernel_rfl))
 t0:=Tryz.underlying0
 a0:=Tryz.isAgg0
 z0:=Tryz.sizeOf0
 v0:=Tryz.zeroValue0
 t3:=Tryz.underlying3
 a3:=Tryz.isAgg3
 z3:=Tryz.sizeOf3
 v3:=Tryz.zeroValue3
 t4:=Tryz.underlying4
 a4:=Tryz.isAgg4
 z4:=Tryz.sizeOf4
 v4:=Tryz.zeroValue4
 t9:=Tryz.underlying9
 a9:=Tryz.isAgg9
 z9:=Tryz.sizeOf9
 v9:=Tryz.zeroValue9
 t24:=Tryz.underlying30
 a24:=Tryz.isAgg30
 z24:=Tryz.sizeOf30
 v24:=Tryz.zeroValue30
 i9:=by kernel_rfl }
def Tryz.laysNm226_ren:Go.Shelf.Ren:=⟨fun | 26=>100 | 33=>112 | 34=>113 | 38=>125 | n=>n,fun | 24=>30 | 9=>9 | 3=>3 | 4=>4 | 40=>141 | 0=>0 | n=>n,fun | n=>n⟩
theorem Tryz.laysNm226:Go.Proofs.Lays2.n26 Tryz.prog Tryz.laysNm226_ren:={
 mixed:=by kernel_rfl
 f26:=Tryz.func100.trans (congrArg some (by kernel_rfl))
 f33:=Tryz.func112.trans (congrArg some (by kernel_rfl))
 f34:=Tryz.func113.trans (congrArg some (by kernel_rfl))
 f38:=Tryz.func125.trans (congrArg some (by kernel_rfl))
 t0:=Tryz.underlying0
 a0:=Tryz.isAgg0
 z0:=Tryz.sizeOf0
 v0:=Tryz.zeroValue0
 t3:=Tryz.underlying3
 a3:=Tryz.isAgg3
 z3:=Tryz.sizeOf3
 v3:=Tryz.zeroValue3
 t4:=Tryz.underlying4
 a4:=Tryz.isAgg4
 z4:=Tryz.sizeOf4
 v4:=Tryz.zeroValue4
 t9:=Tryz.underlying9
 a9:=Tryz.isAgg9
 z9:=Tryz.sizeOf9
 v9:=Tryz.zeroValue9
 t24:=Tryz.underlying30
 a24:=Tryz.isAgg30
 z24:=Tryz.sizeOf30
 v24:=Tryz.zeroValue30
 t40:=Tryz.underlying141
 a40:=Tryz.isAgg141
 z40:=Tryz.sizeOf141
 v40:=Tryz.zeroValue141 }
def Tryz.clV_ren:Go.Shelf.Ren:=⟨fun | 41=>71 | n=>n,fun | 22=>29 | 23=>32 | 4=>4 | n=>n,fun | n=>n⟩
theorem Tryz.clV:Go.Proofs.SlLaysE0.n41 Tryz.prog Tryz.clV_ren:={
 mixed:=by kernel_rfl
 f41:=⟨Tryz.f71.name,by decide,Tryz.func71.trans (congrArg some (by kernel_rfl))⟩
 t4:=Tryz.underlying4
 a4:=Tryz.isAgg4
 z4:=Tryz.sizeOf4
 v4:=Tryz.zeroValue4
 t22:=Tryz.underlying29
 a22:=Tryz.isAgg29
 z22:=Tryz.sizeOf29
 v22:=Tryz.zeroValue29 }
def Tryz.clT_ren:Go.Shelf.Ren:=⟨fun | 41=>99 | n=>n,fun | 22=>59 | 23=>61 | 4=>4 | n=>n,fun | n=>n⟩
theorem Tryz.clT:Go.Proofs.SlLaysE0.n41 Tryz.prog Tryz.clT_ren:={
 mixed:=by kernel_rfl
 f41:=⟨Tryz.f99.name,by decide,Tryz.func99.trans (congrArg some (by kernel_rfl))⟩
 t4:=Tryz.underlying4
 a4:=Tryz.isAgg4
 z4:=Tryz.sizeOf4
 v4:=Tryz.zeroValue4
 t22:=Tryz.underlying59
 a22:=Tryz.isAgg59
 z22:=Tryz.sizeOf59
 v22:=Tryz.zeroValue59 }
end Go.Proofs
namespace Go.Proofs.YtibiiafcnaijeaaGreat.Steady
open Go Go.RowKit
set_option linter.unusedVariables false
set_option linter.unusedSimpArgs false
set_option maxRecDepth 100000
set_option maxHeartbeats 40000000
def loudB (o:Oper):Bool:=match o.op with
 | .call c=>match c.callee with
  | .builtin .len=>false
  | .builtin .cap=>false
  | _=>true
 | .buildSlice _ _ _=>true
 | .alloc _=>true
 | .box _ _=>true
 | .store _ _ _=>true
 | _=>false
def NoOut:Exit→Act→World→Prop:=fun _ _ _=>False
theorem nF {G:Prop}(f:G:=by first|(intro h;cases h;done)|(intro a h;cases h;done)|(intro a b h;cases h;done)|(intro a b c h;cases h;done)):G:=f
theorem letsOut_no:¬ LetsOut NoOut:=fun ⟨_,_,h⟩=>h
section
variable {P:Program} {ops:Array Oper} {md:Region.Mode} {C:World→Prop} {Q:Act→World→Prop}
def stepS (P:Program) (ops:Array Oper) (C:World→Prop) (o:Oper) (K:Act→World→Prop) (a:Act) (w:World):Prop :=
 (∃ v,YieldsIf P ops C o v a∧K (a.put o.dst v) w) ∨
 (loudB o=true∧Region.wanted o (yielded ops a.tmps)=true∧o.wp P a w (fun a' w'=>C w'∧K a' w') NoOut)
theorem stepS_mono {o:Oper} {K K':Act→World→Prop} {a:Act} {w:World} (hC:C w) (h:∀ a w,C w→K a w→K' a w) (hh:stepS P ops C o K a w):stepS P ops C o K' a w:=by
 rcases hh with ⟨v,hy,hk⟩ | ⟨hl,hw,hp⟩
 ·exact .inl ⟨v,hy,h _ _ hC hk⟩
 ·exact .inr ⟨hl,hw,Oper.wp_mono (fun a w ⟨h1,h2⟩=>⟨h1,h _ _ h1 h2⟩) hp⟩
theorem yieldsIf_same {o:Oper} {v v':Value} {a:Act} {w:World} (hC:C w) (h:YieldsIf P ops C o v a) (h':YieldsIf P ops C o v' a):v=v':=by
 rcases h with ⟨hw,hv⟩ | ⟨hw,rfl⟩ <;> rcases h' with ⟨hw',hv'⟩ | ⟨hw',rfl⟩
 ·have e:=(hv w hC).symm.trans (hv' w hC)
  injection e with e1 e2
  injection e1
 ·rw [hw] at hw';cases hw'
 ·rw [hw] at hw';cases hw'
 ·rfl
theorem loud_put {x y:Oper} {v:Value} {K:Act→World→Prop} {a:Act} {w:World} (hap:x.apart ops y=true)
  (hsx:∀ cs b,x.op≠.select cs b) (hsy:∀ cs b,y.op≠.select cs b)
  (hy:YieldsIf P ops C x v a) (h:y.wp P (a.put x.dst v) w K NoOut) :
  y.wp P a w (fun a' w'=>YieldsIf P ops C x v a'∧K (a'.put x.dst v) w') NoOut:=by
 obtain ⟨h1,h2,h3⟩:=Oper.apart_spec hap
 have keep:∀ (a:Act),YieldsIf P ops C x v a→∀ u,YieldsIf P ops C x v (a.put y.dst u):=fun a hy u =>
  hy.of_same (execOp_put x hsx a y.dst u h3) (wanted_put x a y.dst u h3)
 have keepD:∀ d,YieldsIf P ops C x v { a with defers:=d :: a.defers }:=fun d=>hy.of_same rfl rfl
 unfold Oper.wp at *
 rw [execOp_put y hsy a x.dst v h1] at h
 generalize (execOp a.eval y).run P w=r at *
 cases r with
 | ok n w' =>
  cases n <;> simp only [Oper.upon] at h ⊢
  case value u=>exact ⟨keep a hy u,by rw [← Act.put_comm a v u h2];exact h⟩
  case skip=>exact ⟨keep a hy _,by rw [← Act.put_comm a v undef h2];exact h⟩
  case defer d =>
   refine ⟨keep _ (keepD d) _,?_⟩;rw [← Act.put_comm _ v undef h2,← Act.put_defers];exact h
  case enter f args =>
   refine Calls.mono h fun e w'' he=>?_
   cases e with
   | returned u=>exact ⟨keep a hy u,by rw [← Act.put_comm a v u h2];exact he⟩
   | panicked c=>exact he
   | outgrown=>exact he
  case row row args=>exact Rows.mono h fun u w'' he=>⟨keep a hy u,by rw [← Act.put_comm a v u h2];exact he⟩
 | halt x w' =>
  cases x <;> simp only [Oper.upon] at h ⊢
  case panic u=>exact h
theorem loud_out {x y:Oper} {K:Act→World→Prop} {a:Act} {w:World} {p:Prop} (hap:x.apart ops y=true)
  (hsx:∀ cs b,x.op≠.select cs b) (hsy:∀ cs b,y.op≠.select cs b) (hLO:LetsOut NoOut→p)
  (h:x.wp P a w K NoOut) (hp:∀ a' w',K a' w'→(∀ v,YieldsIf P ops C y v a'→YieldsIf P ops C y v a)→p):p:=by
 obtain ⟨h1,h2,h3⟩:=Oper.apart_spec hap
 have keep:∀ u v,YieldsIf P ops C y v (a.put x.dst u)→YieldsIf P ops C y v a:=fun u v hy =>
  hy.of_same (execOp_put y hsy a x.dst u h1).symm (wanted_put y a x.dst u h1).symm
 have keepF:∀ d v,YieldsIf P ops C y v (({ a with defers:=d :: a.defers }:Act).put x.dst undef)→YieldsIf P ops C y v { a with defers:=d :: a.defers }:=fun d v hy =>
  hy.of_same (execOp_put y hsy _ x.dst undef h1).symm (wanted_put y _ x.dst undef h1).symm
 unfold Oper.wp at *
 generalize (execOp a.eval x).run P w=r at *
 cases r with
 | ok n w' =>
  cases n <;> simp only [Oper.upon] at h
  case value u=>exact hp _ _ h (keep u)
  case skip=>exact hp _ _ h (keep _)
  case defer d =>
   exact hp _ _ h fun v hy=>(keepF d v hy).of_same rfl rfl
  case enter f args =>
   obtain ⟨e,w2,fr,hr,_⟩:=h []
   cases e with
   | returned u=>exact hp _ _ hr (keep u)
   | panicked c=>exact hr.elim
   | outgrown=>exact hLO hr
  case row row args =>
   obtain ⟨v,w2,hr,_⟩:=h (Frame.enter P 0 #[] .normal) [];exact hp _ _ hr (keep v)
 | halt x w' =>
  cases x <;> simp only [Oper.upon] at h
  case panic u=>exact h.elim
theorem loud_past {x y:Oper} {v:Value} {K:Act→World→Prop} {a:Act} {w:World} (hap:x.apart ops y=true)
  (hsx:∀ cs b,x.op≠.select cs b) (hsy:∀ cs b,y.op≠.select cs b)
  (hy:YieldsIf P ops C y v a) (h:x.wp P a w (fun a' w'=>∃ v',YieldsIf P ops C y v' a'∧C w'∧K (a'.put y.dst v') w') NoOut) :
  x.wp P (a.put y.dst v) w (fun a' w'=>C w'∧K a' w') NoOut:=by
 obtain ⟨h1,h2,h3⟩:=Oper.apart_spec hap
 have keep:∀ (a:Act),YieldsIf P ops C y v a→∀ u,YieldsIf P ops C y v (a.put x.dst u):=fun a hy u =>
  hy.of_same (execOp_put y hsy a x.dst u h1) (wanted_put y a x.dst u h1)
 have keepD:∀ d,YieldsIf P ops C y v { a with defers:=d :: a.defers }:=fun d=>hy.of_same rfl rfl
 unfold Oper.wp at *
 rw [execOp_put x hsx a y.dst v h3]
 generalize (execOp a.eval x).run P w=r at *
 have fin:∀ u w',(∃ v',YieldsIf P ops C y v' (a.put x.dst u)∧C w'∧K ((a.put x.dst u).put y.dst v') w')→C w'∧K ((a.put y.dst v).put x.dst u) w':=by
  rintro u w' ⟨v',hy',hc,hk⟩;have e:=yieldsIf_same hc hy' (keep a hy u);subst e;exact ⟨hc,by rw [← Act.put_comm a u v' h2];exact hk⟩
 cases r with
 | ok n w' =>
  cases n <;> simp only [Oper.upon] at h ⊢
  case value u=>exact fin u _ h
  case skip=>exact fin undef _ h
  case defer d =>
   obtain ⟨v',hy',hc,hk⟩:=h;have e:=yieldsIf_same hc hy' (keep _ (keepD d) undef);subst e;refine ⟨hc,?_⟩;rw [Act.put_defers,← Act.put_comm _ undef v' h2];exact hk
  case enter f args =>
   refine Calls.mono h fun e w'' he=>?_
   cases e with
   | returned u=>exact fin u _ he
   | panicked c=>exact he
   | outgrown=>exact he
  case row row args=>exact Rows.mono h fun u w'' he=>fin u _ he
 | halt x w' =>
  cases x <;> simp only [Oper.upon] at h ⊢
  case panic u=>exact h
theorem stepS_swap {x y:Oper} {K:Act→World→Prop} {a:Act} {w:World} (hap:x.apart ops y=true) (hnl:(loudB x && loudB y)=false)
  (hsx:∀ cs b,x.op≠.select cs b) (hsy:∀ cs b,y.op≠.select cs b) (hC:C w)
  (h:stepS P ops C x (stepS P ops C y K) a w):stepS P ops C y (stepS P ops C x K) a w:=by
 obtain ⟨h1,h2,h3⟩:=Oper.apart_spec hap
 rcases h with ⟨vx,hx,hk⟩ | ⟨hlx,hwx,hpx⟩
 ·rcases hk with ⟨vy,hy,hk⟩ | ⟨hly,hwy,hpy⟩
  ·have hy':YieldsIf P ops C y vy a:=hy.of_same (execOp_put y hsy a x.dst vx h1).symm (wanted_put y a x.dst vx h1).symm
   refine .inl ⟨vy,hy',.inl ⟨vx,hx.of_same (execOp_put x hsx a y.dst vy h3) (wanted_put x a y.dst vy h3),?_⟩⟩;rw [← Act.put_comm a vx vy h2];exact hk
  ·refine .inr ⟨hly,by rw [← wanted_put y a x.dst vx h1];exact hwy,?_⟩
   refine Oper.wp_mono (fun a' w' hh=>?_) (loud_put hap hsx hsy hx hpy);exact ⟨hh.2.1,.inl ⟨vx,hh.1,hh.2.2⟩⟩
 ·rw [hlx,Bool.true_and] at hnl
  have hyform:x.wp P a w (fun a' w'=>∃ v',YieldsIf P ops C y v' a'∧C w'∧K (a'.put y.dst v') w') NoOut:=by
   refine Oper.wp_mono (fun a' w' hh=>?_) hpx;obtain ⟨hc,hh⟩:=hh
   rcases hh with ⟨v,hv,hk⟩ | ⟨hl,_⟩
   ·exact ⟨v,hv,hc,hk⟩
   ·rw [hnl] at hl;cases hl
  obtain ⟨v,hv⟩:∃ v,YieldsIf P ops C y v a :=
   loud_out (C:=C) hap hsx hsy (fun hl=>(letsOut_no hl).elim) hyform fun a' w' ⟨v',hv',_⟩ hb=>⟨v',hb v' hv'⟩
  exact .inl ⟨v,hv,.inr ⟨hlx,by rw [wanted_put x a y.dst v h3];exact hwx,loud_past hap hsx hsy hv hyform⟩⟩
def stepAt (P:Program) (ops:Array Oper) (C:World→Prop) (i:Nat) (K:Act→World→Prop) (a:Act) (w:World):Prop :=
 match ops[i]? with
 | none=>K a w
 | some o=>stepS P ops C o K a w
theorem stepAt_mono {i:Nat} {K K':Act→World→Prop} {a:Act} {w:World} (hC:C w) (h:∀ a w,C w→K a w→K' a w) (hh:stepAt P ops C i K a w):stepAt P ops C i K' a w:=by
 unfold stepAt at *
 split
 ·rename_i ho;simp only [ho] at hh;exact h _ _ hC hh
 ·rename_i o ho;simp only [ho] at hh;exact stepS_mono hC h hh
def indepB (ops:Array Oper) (i j:Nat):Bool :=
 match ops[i]?,ops[j]? with
 | some x,some y=>x.apart ops y && !(loudB x && loudB y)
 | _,_=>true
theorem stepAt_swap {i j:Nat} {K:Act→World→Prop} {a:Act} {w:World} (hs:Region.noSelect ops=true) (hi:indepB ops i j=true) (hC:C w)
  (h:stepAt P ops C i (stepAt P ops C j K) a w):stepAt P ops C j (stepAt P ops C i K) a w:=by
 have hsel:=Region.noSelect_spec hs;unfold indepB at hi
 unfold stepAt at *
 cases hx:ops[i]? with
 | none =>
  rw [hx] at h
  cases hy:ops[j]? with
  | none=>rw [hy] at h;exact h
  | some y=>rw [hy] at h;exact h
 | some x =>
  rw [hx] at h
  cases hy:ops[j]? with
  | none=>rw [hy] at h;exact h
  | some y =>
   rw [hy] at h;rw [hx,hy] at hi;simp only [Bool.and_eq_true,Bool.not_eq_true'] at hi;exact stepS_swap hi.1 hi.2 (fun cs b=>hsel i x cs b hx) (fun cs b=>hsel j y cs b hy) hC h
def walkS (P:Program) (ops:Array Oper) (C:World→Prop) (Q:Act→World→Prop):List Nat→Act→World→Prop
 | [],a,w=>Q a w
 | i :: l,a,w=>stepAt P ops C i (walkS P ops C Q l) a w
theorem walkS_bubble (hs:Region.noSelect ops=true) {j:Nat}:∀ (l₁ l₂:List Nat) (a:Act) (w:World),(∀ q∈l₁,indepB ops q j=true)→C w →
  walkS P ops C Q (l₁ ++ j :: l₂) a w→stepAt P ops C j (walkS P ops C Q (l₁ ++ l₂)) a w
 | [],_,_,_,_,_,h=>h
 | q :: l₁,l₂,a,w,hq,hC,h =>
  stepAt_swap hs (hq q (List.mem_cons_self ..)) hC (stepAt_mono hC (fun a w hC h=>walkS_bubble hs l₁ l₂ a w (fun q hq'=>hq q (List.mem_cons_of_mem _ hq')) hC h) h)
def waitsB (md:Region.Mode) (ops:Array Oper) (q:Nat) (acc:List Nat) (j:Nat):Bool :=
 match ops[j]? with
 | some o=>o.after.any fun e=>Region.binds md e && (e.on == q || acc.contains e.on)
 | none=>false
def waiters (md:Region.Mode) (ops:Array Oper) (q:Nat):List Nat→List Nat→List Nat
 | [],acc=>acc
 | j :: js,acc=>waiters md ops q js (cond (waitsB md ops q acc j) (j :: acc) acc)
def steadyB (md:Region.Mode) (ops:Array Oper):Bool :=
 Region.noSelect ops && (List.range ops.size).all fun j =>
  (match ops[j]? with | some o=>o.after.all fun e=>!Region.binds md e || decide (e.on < j) | none=>true) &&
  (fun ws:List Nat=>(List.range ops.size).all fun i=>!decide (j < i) || indepB ops j i || ws.contains i) (waiters md ops j (List.range ops.size) [])
def ClosedL (md:Region.Mode) (ops:Array Oper) (listed:Array Bool):Prop :=
 ∀ j oj,ops[j]? = some oj→listed.getD j false=true→∀ e∈oj.after,Region.binds md e=true→listed.getD e.on false=true
def WaitsP (md:Region.Mode) (ops:Array Oper) (q j:Nat):Prop :=
 ∀ listed:Array Bool,ClosedL md ops listed→(∀ oj,ops[j]? = some oj→∀ e∈oj.after,Region.binds md e=true→listed.getD e.on false=true)→listed.getD q false=true
theorem waiters_spec {q:Nat}:∀ (js acc:List Nat),(∀ j∈acc,WaitsP md ops q j)→∀ j∈waiters md ops q js acc,WaitsP md ops q j
 | [],_,h=>h
 | j :: js,acc,h=>by
  refine waiters_spec js _ ?_
  cases hb:waitsB md ops q acc j with
  | true =>
   intro k hk;unfold waitsB at hb
   rcases List.mem_cons.1 hk with rfl | hk
   ·cases ho:ops[k]? with
    | none=>rw [ho] at hb;cases hb
    | some o =>
     rw [ho] at hb;obtain ⟨e,he,hb⟩:=Array.any_eq_true'.1 hb;simp only [Bool.and_eq_true,Bool.or_eq_true,beq_iff_eq,List.contains_iff_mem] at hb;obtain ⟨hbi,hb⟩:=hb;intro listed hc hall;have hl:=hall o ho e he hbi
     rcases hb with rfl | hb
     ·exact hl
     ·exact h e.on hb listed hc (fun oj hj=>hc e.on oj hj hl)
   ·exact h k hk
  | false=>exact h
structure InvS (md:Region.Mode) (ops:Array Oper) (n:Nat) (listed:Array Bool) (l:List Nat):Prop where
 sorted:l.Pairwise (· < ·)
 mem:∀ j,j∈l ↔ j < n∧listed.getD j true=false
 head:HeadInv md ops n listed
theorem wpAny_of_walkS {T:Nat} (hT:T≤ops.size) (hsink:T < ops.size→Region.sinkB md ops T=true∧Region.chainB md ops T=true) (hB:steadyB md ops=true) {Q':Exit→Act→World→Prop} {g:Nat}
  (hQ:∀ listed a w,HeadInv md ops T listed→(∀ j,j < T→listed.getD j true=true)→Q a w→wpAny P md ops Q' g listed a w):∀ (n:Nat) (l:List Nat) (listed:Array Bool) (a:Act) (w:World),l.length=n →
  InvS md ops T listed l→C w→walkS P ops C Q l a w→wpAny P md ops Q' (n + g) listed a w
 | 0,l,listed,a,w,hn,inv,hC,h=>by
  have hl:l = []:=List.eq_nil_of_length_eq_zero hn;subst hl;rw [Nat.zero_add];refine hQ listed a w inv.head (fun j hj=>?_) h
  cases hv:listed.getD j true with
  | true=>rfl
  | false=>have:=(inv.mem j).2 ⟨hj,hv⟩;cases this
 | n + 1,l,listed,a,w,hn,inv,hC,h=>by
  rw [show n + 1 + g=(n + g) + 1 by omega];have hB':=hB;unfold steadyB at hB';rw [Bool.and_eq_true] at hB';obtain ⟨hs,hall⟩:=hB'
  have front:∀ i,i∈Region.ready md ops listed→i < T:=by
   intro i hi
   rcases Nat.lt_or_ge i T with h1 | h1
   ·exact h1
   ·exfalso
    have hlt:i < ops.size:=by obtain ⟨_,o,ho,_⟩:=mem_ready.1 hi;exact (aS ho).1
    obtain ⟨s1,s2⟩:=hsink (by omega)
    cases l with
    | nil=>cases hn
    | cons q l =>
     obtain ⟨hq,hun⟩:=(inv.mem q).1 (List.mem_cons_self ..);exact tail_waits s1 s2 (by omega) inv.head _ q rfl hq hun i h1 hi
  constructor
  ·intro h0
   exfalso
   cases l with
   | nil=>cases hn
   | cons i l =>
    obtain ⟨hiT,hun⟩:=(inv.mem i).1 (List.mem_cons_self ..)
    have hi:i < ops.size:=by omega
    have h1:=List.all_eq_true.1 hall i (List.mem_range.2 hi);rw [Bool.and_eq_true] at h1
    have hr:i∈Region.ready md ops listed:=by
     refine mem_ready.2 ⟨hun,ops[i],Array.getElem?_eq_getElem hi,fun e he hb=>?_⟩;have h2:=h1.1;rw [Array.getElem?_eq_getElem hi] at h2;have h3:=Array.all_eq_true_iff_forall_mem.1 h2 e he;rw [hb] at h3;simp only [Bool.not_true,Bool.false_or,decide_eq_true_eq] at h3
     cases hle:listed.getD e.on false with
     | true=>rfl
     | false =>
      have hm:e.on∈i :: l:=(inv.mem e.on).2 ⟨by omega,getD_in (by rw [inv.head.size];omega) hle⟩
      rcases List.mem_cons.1 hm with h4 | h4
      ·omega
      ·have:=List.rel_of_pairwise_cons inv.sorted h4
       omega
    rw [h0] at hr
    cases hr
  ·intro i hi
   have hiT:=front i hi;obtain ⟨hun,oi,hoi,hwait⟩:=mem_ready.1 hi;have hilt:i < ops.size:=(aS hoi).1;have him:i∈l:=(inv.mem i).2 ⟨hiT,hun⟩;obtain ⟨l₁,l₂,rfl⟩:=List.append_of_mem him
   have hlt:∀ q∈l₁,q < i:=fun q hq=>(List.pairwise_append.1 inv.sorted).2.2 q hq i (List.mem_cons_self ..)
   have hgt:∀ q∈l₂,i < q:=fun q hq=>List.rel_of_pairwise_cons (List.pairwise_append.1 inv.sorted).2.1 hq
   have hind:∀ q∈l₁,indepB ops q i=true:=by
    intro q hq;have h1:=List.all_eq_true.1 hall q (List.mem_range.2 (Nat.lt_trans (hlt q hq) hilt));rw [Bool.and_eq_true] at h1;have h2:=List.all_eq_true.1 h1.2 i (List.mem_range.2 hilt)
    rcases Bool.or_eq_true _ _ ▸ h2 with h2 | h2
    ·rcases Bool.or_eq_true _ _ ▸ h2 with h2 | h2
     ·simp [hlt q hq] at h2
     ·exact h2
    ·exfalso
     have h3:=waiters_spec (md:=md) (ops:=ops) (q:=q) _ [] (fun _ h=>by cases h) i (List.contains_iff_mem.1 h2) listed inv.head.closed (fun oj hj=>by
      have:oj=oi:=Option.some.inj (hj.symm.trans hoi);subst this
      exact hwait)
     have h4:=((inv.mem q).1 (List.mem_append_left _ hq)).2;rw [getD_both h4] at h3
     cases h3
   have hb:=walkS_bubble hs l₁ l₂ a w hind hC h
   have inv':InvS md ops T (listed.setIfInBounds i true) (l₁ ++ l₂):=by
    refine ⟨inv.sorted.sublist (List.Sublist.append_left (List.sublist_cons_self ..) _),fun j=>?_,inv.head.set hi hiT⟩
    constructor
    ·intro hj
     have hne:i≠j:=by
      intro e;subst e
      rcases List.mem_append.1 hj with h5 | h5
      ·exact Nat.lt_irrefl _ (hlt _ h5)
      ·exact Nat.lt_irrefl _ (hgt _ h5)
     have:=(inv.mem j).1 (List.mem_append.2 ((List.mem_append.1 hj).imp id (List.mem_cons_of_mem _)));exact ⟨this.1,by rw [getD_set_ne true hne];exact this.2⟩
    ·rintro ⟨hj,hl⟩
     have hne:i≠j:=by
      intro e;subst e;rw [show (listed.setIfInBounds i true).getD i true=true by simp [Array.getD,inv.head.size,hilt]] at hl
      cases hl
     rw [getD_set_ne true hne] at hl;have:=(inv.mem j).2 ⟨hj,hl⟩
     rcases List.mem_append.1 this with h5 | h5
     ·exact List.mem_append_left _ h5
     ·rcases List.mem_cons.1 h5 with h6 | h6
      ·exact absurd h6.symm hne
      ·exact List.mem_append_right _ h6
   have ih:=fun a' w' hC' h'=>wpAny_of_walkS hT hsink hB hQ n (l₁ ++ l₂) (listed.setIfInBounds i true) a' w' (by simp at hn ⊢;omega) inv' hC' h'
   unfold stepAt at hb;simp only [hoi] at hb;unfold wpOp;simp only [hoi]
   rcases hb with ⟨v,hy,hk⟩ | ⟨_,hw,hp⟩
   ·have:=hy.wpOp (Q:=Q') hoi hC (K:=wpAny P md ops Q' (n + g) (listed.setIfInBounds i true)) (ih _ _ hC hk)
    unfold wpOp at this;simp only [hoi] at this;exact this
   ·rw [if_pos hw]
    refine .inl ?_;have:=Oper.wp_mono (fun a w ⟨hC,hk⟩=>ih a w hC hk) hp
    unfold Oper.wp at *
    generalize (execOp a.eval oi).run P w=r at *
    cases r with
    | ok m w' =>
     cases m <;> simp only [Oper.upon] at this ⊢ <;>
      first
       | exact this
       | (refine Calls.mono this fun e w'' he=>?_;cases e with | returned u=>exact he | panicked c=>exact he.elim | outgrown=>exact (letsOut_no he).elim)
    | halt x w' =>
     cases x <;> simp only [Oper.upon] at this ⊢
     case panic u=>exact this.elim
def wpSteady (P:Program) (ops:Array Oper) (C:World→Prop) (Q:Act→World→Prop):List Oper→Act→World→Prop
 | [],a,w=>Q a w
 | o :: rest,a,w=>stepS P ops C o (wpSteady P ops C Q rest) a w
theorem walkS_of_steady:∀ (l:List Oper) (k:Nat) (a:Act) (w:World),(∀ j,j < l.length→l[j]? = ops[k + j]?)→C w→wpSteady P ops C Q l a w→walkS P ops C Q (List.range' k l.length) a w
 | [],_,_,_,_,_,h=>h
 | o :: l,k,a,w,hl,hC,h=>by
  have h0:ops[k]? = some o:=by simpa using (hl 0 (by simp)).symm
  show stepAt P ops C k (walkS P ops C Q (List.range' (k + 1) l.length)) a w;unfold stepAt;simp only [h0];exact stepS_mono hC (fun a w hC h=>walkS_of_steady l (k + 1) a w (fun j hj=>by have:=hl (j + 1) (by simp;omega);simpa [Nat.add_assoc,Nat.add_comm 1 j] using this) hC h) h
def headDone (T n:Nat):Array Bool:=((List.range n).map fun j=>decide (j < T)).toArray
theorem headDone_eq {T:Nat} {listed:Array Bool} (inv:HeadInv md ops T listed) (h:∀ j,j < T→listed.getD j true=true):listed=headDone T ops.size:=by
 refine Array.ext (by simp [headDone,inv.size]) fun j h1 h2=>?_
 have hj:j < ops.size:=by rw [← inv.size];exact h1
 simp only [headDone,List.getElem_toArray,List.getElem_map,List.getElem_range]
 rcases Nat.lt_or_ge j T with hT | hT
 ·have:=h j hT
  simp [h1] at this;rw [this,dTT hT]
 ·have:=inv.tail j hT hj
  simp [h1] at this;rw [this,dF (by omega)]
def steadyTailB (md:Region.Mode) (ops:Array Oper) (T:Nat):Bool :=
 steadyB md ops && decide (T≤ops.size) && Region.seqB md ops (ops.size - T) T (headDone T ops.size) && (decide (T=ops.size) || (Region.sinkB md ops T && Region.chainB md ops T))
theorem zt {id:Nat} {Q:Exit→Act→World→Prop} {a:Act} {w:World} {l:List Oper} (T:Nat) (C:World→Prop) (hm:P.follows .mixedOrders=true) (hB:steadyTailB .any l.toArray T=true)
  (hC:C w.drew) (h:wpSteady P l.toArray C (wpList P l.toArray Q (l.drop T)) (l.take T) a w.drew):(Code.region id l.toArray true).wp P Q a w:=by
 simp only [steadyTailB,Bool.and_eq_true,Bool.or_eq_true,decide_eq_true_eq] at hB;obtain ⟨⟨⟨hB,hT⟩,hseq⟩,hsink⟩:=hB;refine wp_region_any hm ?_
 have hT':T≤l.length:=by simpa using hT
 have htl:(l.take T).length=T:=by simp;omega
 have hw:=walkS_of_steady (ops:=l.toArray) (l.take T) 0 a w.drew (fun j hj=>by
  have hj':j < T:=by rw [htl] at hj;exact hj
  simp [hj']) hC h
 rw [htl] at hw
 have hg:T + (l.toArray.size - T)=l.toArray.size:=by omega
 have:=wpAny_of_walkS (md:=.any) (T:=T) (g:=l.toArray.size - T) (Q':=Q) hT (fun hlt=>by rcases hsink with h | h;omega;exact h) hB (fun listed a w inv hall hq=>by
  rw [headDone_eq inv hall]
  have hdl:(l.drop T).length=l.toArray.size - T:=by simp
  rw [← hdl]
  refine wpAny_of_seq (l.drop T) T _ a w (fun j=>by simp) (by rw [hdl];exact hseq) hq) T (List.range' 0 T) (Array.replicate l.toArray.size false) a w.drew (by simp) ⟨List.pairwise_lt_range',?_,?_⟩ hC hw
 ·rw [hg] at this
  exact this
 ·intro j
  by_cases hj:j < T
  ·have:j < l.length:=by omega
   simp [List.mem_range',hj,this]
  ·simp [List.mem_range',hj]
 ·exact ⟨by simp,fun j oj _ hl=>(by rw [getD_replicate_false] at hl;cases hl),fun t _ ht=>getD_in (by simpa using ht) (getD_replicate_false _ _)⟩
theorem zss {id:Nat} {Q:Exit→Act→World→Prop} {a:Act} {w:World} {l:List Oper} (C:World→Prop) (hm:P.follows .mixedOrders=true) (hB:steadyTailB .any l.toArray l.length=true)
  (hC:C w.drew) (h:wpSteady P l.toArray C (Q .normal) l a w.drew):(Code.region id l.toArray true).wp P Q a w:=by
 refine zt l.length C hm hB hC ?_;rw [List.take_length,List.drop_length];exact h
theorem wpSteady_calm {o:Oper} {rest:List Oper} {a:Act} {w:World} {v:Value} (hw:Region.wanted o (yielded ops a.tmps)=true)
  (hy:∀ w,C w→(execOp a.eval o).run P w=.ok (.value v) w) (h:wpSteady P ops C Q rest (a.put o.dst v) w):wpSteady P ops C Q (o :: rest) a w :=
 .inl ⟨v,.inl ⟨hw,hy⟩,h⟩
theorem wpSteady_skip {o:Oper} {rest:List Oper} {a:Act} {w:World} (hw:Region.wanted o (yielded ops a.tmps)=false)
  (h:wpSteady P ops C Q rest (a.put o.dst undef) w):wpSteady P ops C Q (o :: rest) a w :=
 .inl ⟨undef,.inr ⟨hw,rfl⟩,h⟩
theorem wpSteady_loud {o:Oper} {rest:List Oper} {a:Act} {w:World} (hl:loudB o=true) (hw:Region.wanted o (yielded ops a.tmps)=true)
  (h:∀ K:Act→World→Prop,Hid (∀ a w,C w→wpSteady P ops C Q rest a w→K a w)→o.wp P a w K NoOut):wpSteady P ops C Q (o :: rest) a w :=
 .inr ⟨hl,hw,h _ (show Hid _ from fun _ _ h1 h2=>⟨h1,h2⟩)⟩
theorem zn {a:Act} {w:World} (h:Q a w):wpSteady P ops C Q [] a w:=h
end
section
variable {P : Program} {ops : Array Oper} {md : Region.Mode} {C : World → Prop} {Q : Act → World → Prop}
theorem sK {o : Oper} {rest : List Oper} {a : Act} {w : World} (h : wpSteady P ops C Q rest (a.put o.dst undef) w) (hw : Region.wanted o (yielded ops a.tmps) = false := by rfl) : wpSteady P ops C Q (o :: rest) a w := wpSteady_skip hw h
theorem sL {o : Oper} {rest : List Oper} {a : Act} {w : World} (h : ∀ K : Act → World → Prop, Hid (∀ a w, C w → wpSteady P ops C Q rest a w → K a w) → o.wp P a w K NoOut) (hl : loudB o = true := by rfl) (hw : Region.wanted o (yielded ops a.tmps) = true := by rfl) : wpSteady P ops C Q (o :: rest) a w := wpSteady_loud hl hw h
theorem sC0 {o : Oper} {rest : List Oper} {a : Act} {w : World} {v : Value} (h : wpSteady P ops C Q rest (a.put o.dst v) w) (hw : Region.wanted o (yielded ops a.tmps) = true := by rfl) (hy : ∀ w, C w → (execOp a.eval o).run P w = .ok (.value v) w := by intro v hSv; (try dsimp only at hSv); go_simp; (try with_reducible rfl)) : wpSteady P ops C Q (o :: rest) a w := wpSteady_calm hw hy h
theorem sC1 {o : Oper} {rest : List Oper} {a : Act} {w : World} {v : Value} (h : wpSteady P ops C Q rest (a.put o.dst v) w) (hw : Region.wanted o (yielded ops a.tmps) = true := by rfl) (hy : ∀ w, C w → (execOp a.eval o).run P w = .ok (.value v) w := by intro v hSv; clear hSv; go_simp; (try with_reducible rfl)) : wpSteady P ops C Q (o :: rest) a w := wpSteady_calm hw hy h
theorem sC2 {o : Oper} {rest : List Oper} {a : Act} {w : World} {v : Value} (h : wpSteady P ops C Q rest (a.put o.dst v) w) (hw : Region.wanted o (yielded ops a.tmps) = true := by rfl) (hy : ∀ w, C w → (execOp a.eval o).run P w = .ok (.value v) w := by intro v hSv; (try simp only [CL] at hSv); go_simp; (try with_reducible rfl)) : wpSteady P ops C Q (o :: rest) a w := wpSteady_calm hw hy h
theorem sC3 {o : Oper} {rest : List Oper} {a : Act} {w : World} {v : Value} (h : wpSteady P ops C Q rest (a.put o.dst v) w) (hw : Region.wanted o (yielded ops a.tmps) = true := by rfl) (hy : ∀ w, C w → (execOp a.eval o).run P w = .ok (.value v) w := by intro v hSv; (try dsimp only at hSv); go_simp; (try rw [if_neg (by omega)]); (try with_reducible rfl)) : wpSteady P ops C Q (o :: rest) a w := wpSteady_calm hw hy h
theorem sC4 {o : Oper} {rest : List Oper} {a : Act} {w : World} {v : Value} (h : wpSteady P ops C Q rest (a.put o.dst v) w) (hw : Region.wanted o (yielded ops a.tmps) = true := by rfl) (hy : ∀ w, C w → (execOp a.eval o).run P w = .ok (.value v) w := by intro v hSv; (try simp only [C13] at hSv); go_simp; (try with_reducible rfl)) : wpSteady P ops C Q (o :: rest) a w := wpSteady_calm hw hy h
theorem sC5 {o : Oper} {rest : List Oper} {a : Act} {w : World} {v : Value} (h : wpSteady P ops C Q rest (a.put o.dst v) w) (hw : Region.wanted o (yielded ops a.tmps) = true := by rfl) (hy : ∀ w, C w → (execOp a.eval o).run P w = .ok (.value v) w := by intro v hSv; (try simp only [C31] at hSv); go_simp; (try with_reducible rfl)) : wpSteady P ops C Q (o :: rest) a w := wpSteady_calm hw hy h
theorem sC6 {o : Oper} {rest : List Oper} {a : Act} {w : World} {v : Value} (h : wpSteady P ops C Q rest (a.put o.dst v) w) (hw : Region.wanted o (yielded ops a.tmps) = true := by rfl) (hy : ∀ w, C w → (execOp a.eval o).run P w = .ok (.value v) w := by intro v hSv; (try simp only [C5] at hSv); go_simp; (try with_reducible rfl)) : wpSteady P ops C Q (o :: rest) a w := wpSteady_calm hw hy h
theorem sC7 {o : Oper} {rest : List Oper} {a : Act} {w : World} {v : Value} (h : wpSteady P ops C Q rest (a.put o.dst v) w) (hw : Region.wanted o (yielded ops a.tmps) = true := by rfl) (hy : ∀ w, C w → (execOp a.eval o).run P w = .ok (.value v) w := by intro v hSv; (try simp only [C22] at hSv); go_simp; (try with_reducible rfl)) : wpSteady P ops C Q (o :: rest) a w := wpSteady_calm hw hy h
end
section
variable {P:Program} {ops:Array Oper} {md:Region.Mode} {Q:Exit→Act→World→Prop}
def stepQ (P:Program) (ops:Array Oper) (o:Oper) (a:Act) (w:World) (K:Act→World→Prop):Prop :=
 Region.wanted o (yielded ops a.tmps)=true∧o.wp P a w K NoOut
def StepOk (P:Program) (ops:Array Oper) (md:Region.Mode) (J:(Nat→Bool)→Act→World→Prop) (i:Nat) (o:Oper):Prop :=
 ∀ (D:Nat→Bool) (a:Act) (w:World),J D a w→D i=false→(o.after.all fun e=>!Region.binds md e || D e.on)=true→stepQ P ops o a w (J (fun k=>k == i || D k))
def forOps (F:Nat→Oper→Prop):Nat→List Oper→Prop
 | _,[]=>True
 | k,o :: l=>F k o∧forOps F (k + 1) l
theorem forOps_at {F:Nat→Oper→Prop}:∀ {l:List Oper} {k i:Nat} {o:Oper},forOps F k l→l[i]? = some o→F (k + i) o
 | [],_,_,_,_,h=>by simp at h
 | x :: l,k,0,o,hf,h=>by
  have e:x=o:=by simpa using h
  exact e ▸ hf.1
 | x :: l,k,i + 1,o,hf,h=>by
  have:=forOps_at (k:=k + 1) (i:=i) hf.2 (by simpa using h);rw [show k + (i + 1)=k + 1 + i by omega];exact this
theorem dep {o:Oper} {D:Nat→Bool} (h:(o.after.all fun e=>!Region.binds md e || D e.on)=true) (k:Nat) (hk:(o.after.any fun e=>Region.binds md e && e.on == k)=true):D k=true:=by
 rw [Array.all_eq_true_iff_forall_mem] at h;obtain ⟨e,he,hb⟩:=Array.any_eq_true'.1 hk;rw [Bool.and_eq_true,beq_iff_eq] at hb;have:=h e he;rw [hb.1,Bool.not_true,Bool.false_or,hb.2] at this;exact this
theorem wpAny_inv {J:(Nat→Bool)→Act→World→Prop} (hback:∀ (j:Nat) (oj:Oper),ops[j]? = some oj→∀ e∈oj.after,Region.binds md e=true→e.on < j)
  (hstep:∀ (i:Nat) (o:Oper),ops[i]? = some o→StepOk P ops md J i o) (hend:∀ (D:Nat→Bool) (a:Act) (w:World),(∀ j,j < ops.size→D j=true)→J D a w→Q .normal a w) :
  ∀ (n:Nat) (l:List Nat) (listed:Array Bool) (a:Act) (w:World),l.length=n→l.Nodup→(∀ j,j∈l ↔ j < ops.size∧listed.getD j true=false)→listed.size=ops.size →
   J (fun k=>listed.getD k false) a w→wpAny P md ops Q n listed a w
 | 0,l,listed,a,w,hn,hnd,hm,hs,hJ=>by
  obtain rfl:l = []:=List.eq_nil_of_length_eq_zero hn
  have hall:∀ j,j < ops.size→listed.getD j false=true:=fun j hj=>by
   cases hv:listed.getD j true with
   | false=>have:=(hm j).2 ⟨hj,hv⟩;cases this
   | true=>rw [Array.getD,dif_pos (by omega)] at hv ⊢;exact hv
  refine ⟨?_,hend _ a w hall hJ⟩
  refine List.eq_nil_iff_forall_not_mem.2 fun i hi=>?_
  obtain ⟨hun,o,ho,_⟩:=mem_ready.1 hi;have hlt:=(aS ho).1;have:=(hm i).2 ⟨hlt,hun⟩
  cases this
 | n + 1,l,listed,a,w,hn,hnd,hm,hs,hJ=>by
  constructor
  ·intro h0
   have hall:∀ m j,j < m→j < ops.size→listed.getD j false=true:=by
    intro m
    induction m with
    | zero=>intro j h;omega
    | succ m ih =>
     intro j hj hjs
     rcases Nat.lt_or_ge j m with h1 | h1
     ·exact ih j h1 hjs
     ·have e:j=m:=by omega
      subst e
      cases hv:listed.getD j true with
      | true=>rw [Array.getD,dif_pos (by omega)] at hv ⊢;exact hv
      | false =>
       exfalso
       have hr:j∈Region.ready md ops listed:=mem_ready.2 ⟨hv,ops[j],Array.getElem?_eq_getElem hjs,fun e he hb=>by
        have h2:=hback j _ (Array.getElem?_eq_getElem hjs) e he hb
        exact ih e.on h2 (by omega)⟩
       rw [h0] at hr
       cases hr
   exact hend _ a w (fun j hj=>hall (j + 1) j (Nat.lt_succ_self _) hj) hJ
  ·intro i hi
   obtain ⟨hun,oi,hoi,hwait⟩:=mem_ready.1 hi;have hlt:=(aS hoi).1;have him:=(hm i).2 ⟨hlt,hun⟩
   have hf:listed.getD i false=false:=by
    rw [Array.getD,dif_pos (by omega)] at hun ⊢;exact hun
   have hst:=hstep i oi hoi (fun k=>listed.getD k false) a w hJ hf (by
    rw [Array.all_eq_true_iff_forall_mem];intro e he
    cases hb:Region.binds md e with
    | false=>rfl
    | true=>rw [Bool.not_true,Bool.false_or];exact hwait e he hb)
   have ih:=fun a' w' h'=>wpAny_inv hback hstep hend n (l.erase i) (listed.setIfInBounds i true) a' w' (by rw [List.length_erase_of_mem him];omega) (hnd.erase _) (fun j=>by
    rw [hnd.mem_erase_iff,hm j]
    by_cases e:i=j
    ·subst e
     have:(listed.setIfInBounds i true).getD i true=true:=by simp [Array.getD,hs,hlt]
     simp [this]
    ·have:(listed.setIfInBounds i true).getD j true=listed.getD j true:=by rw [getD_set_ne true e]
     rw [this]
     constructor
     ·rintro ⟨_,h⟩;exact h
     ·intro h;exact ⟨fun e2=>e e2.symm,h⟩) (by simp [hs]) h'
   have hD:(fun k=>(listed.setIfInBounds i true).getD k false)=fun k=>k == i || listed.getD k false:=by
    funext k
    by_cases e:i=k
    ·subst e;simp [Array.getD,hs,hlt]
    ·rw [getD_set_ne false e,bF (fun e2=>e e2.symm),Bool.false_or]
   obtain ⟨hw,hp⟩:=hst;unfold wpOp;simp only [hoi];rw [if_pos hw];refine .inl ?_;have:=Oper.wp_mono (fun a w hk=>ih a w (by rw [hD];exact hk)) hp
   unfold Oper.wp at *
   generalize (execOp a.eval oi).run P w=r at *
   cases r with
   | ok m w' =>
    cases m <;> simp only [Oper.upon] at this ⊢ <;>
     first
      | exact this
      | (refine Calls.mono this fun e w'' he=>?_;cases e with | returned u=>exact he | panicked c=>exact he.elim | outgrown=>exact (letsOut_no he).elim)
   | halt x w' =>
    cases x <;> simp only [Oper.upon] at this ⊢
    case panic u=>exact this.elim
def backB (md:Region.Mode) (ops:Array Oper):Bool:=(List.range ops.size).all fun j=>match ops[j]? with | some o=>o.after.all fun e=>!Region.binds md e || decide (e.on < j) | none=>true
theorem wp_region_inv {id:Nat} {a:Act} {w:World} {l:List Oper} (J:(Nat→Bool)→Act→World→Prop) (hm:P.follows .mixedOrders=true) (hB:backB .any l.toArray=true)
  (h0:J (fun _=>false) a w.drew) (hstep:forOps (StepOk P l.toArray .any J) 0 l) (hend:∀ (D:Nat→Bool) (a:Act) (w:World),(∀ j,j < l.length→D j=true)→J D a w→Q .normal a w) :
  (Code.region id l.toArray true).wp P Q a w:=by
 refine wp_region_any hm ?_
 have hsz:l.toArray.size=l.length:=by simp
 rw [hsz];refine wpAny_inv (ops:=l.toArray) (fun j oj hj e he hb=>?_) (fun i o ho=>?_) (fun D a w h=>hend D a w fun j hj=>h j (by simpa using hj)) l.length (List.range l.length) _ a w.drew (by simp) List.nodup_range (fun j=>?_) (by simp) ?_
 ·have h1:=List.all_eq_true.1 hB j (List.mem_range.2 (aS hj).1)
  rw [hj] at h1;have h3:=Array.all_eq_true_iff_forall_mem.1 h1 e he;rw [hb,Bool.not_true,Bool.false_or,decide_eq_true_eq] at h3;exact h3
 ·have:=forOps_at hstep (by simpa using ho)
  rwa [Nat.zero_add] at this
 ·rw [List.mem_range]
  constructor
  ·intro h;exact ⟨h,by simp [Array.getD,h]⟩
  ·rintro ⟨h,_⟩;simpa using h
 ·have:(fun k=>(Array.replicate l.length false).getD k false)=fun _=>false:=by
   funext k
   exact getD_replicate_false _ _
  rw [this];exact h0
def putF (a:Act) (ds:List Nat) (V:Nat→Value):Act:=ds.foldl (fun a d=>a.put (some d) (V d)) a
def upd (V:Nat→Value) (d:Nat) (v:Value):Nat→Value:=fun k=>bif k == d then v else V k
def updO (V:Nat→Value) (d:Option Nat) (v:Value):Nat→Value:=match d with
 | none=>V
 | some d=>upd V d v
theorem upd_self (V:Nat→Value) (d:Nat) (v:Value):upd V d v d=v:=by unfold upd;rw [beq_self_eq_true];rfl
theorem upd_ne {V:Nat→Value} {d k:Nat} {v:Value} (h:k≠d):upd V d v k=V k:=by unfold upd;rw [bF h];rfl
theorem put_twice (a:Act) (d:Nat) (u v:Value):(a.put (some d) u).put (some d) v=a.put (some d) v:=by
 simp [Act.put]
theorem put_swap (a:Act) {d e:Nat} (h:d≠e) (u v:Value):(a.put (some d) u).put (some e) v=(a.put (some e) v).put (some d) u:=by
 simp only [Act.put]
 congr 1
 rw [Array.setIfInBounds_comm _ _ h]
theorem putF_swap (V:Nat→Value) (d:Nat) (v:Value):∀ (ds:List Nat) (a:Act),d ∉ ds→(putF a ds V).put (some d) v=putF (a.put (some d) v) ds V
 | [],_,_=>rfl
 | e :: ds,a,h=>by
  show (putF (a.put (some e) (V e)) ds V).put (some d) v=putF ((a.put (some d) v).put (some e) (V e)) ds V;rw [putF_swap V d v ds _ fun hm=>h (List.mem_cons_of_mem _ hm),put_swap a (fun e2=>h (by rw [e2];exact List.mem_cons_self ..))]
theorem putF_same {V V':Nat→Value}:∀ (ds:List Nat) (a:Act),(∀ d∈ds,V d=V' d)→putF a ds V=putF a ds V'
 | [],_,_=>rfl
 | e :: ds,a,h=>by
  show putF (a.put (some e) (V e)) ds V=putF (a.put (some e) (V' e)) ds V';rw [h e (List.mem_cons_self ..),putF_same ds _ fun d hd=>h d (List.mem_cons_of_mem _ hd)]
theorem putF_put (V:Nat→Value) (d:Nat) (v:Value):∀ (ds:List Nat) (a:Act),ds.Nodup→d∈ds→(putF a ds V).put (some d) v=putF a ds (upd V d v)
 | [],_,_,h=>by cases h
 | e :: ds,a,hn,h=>by
  obtain ⟨h1,h2⟩:=List.nodup_cons.1 hn;show (putF (a.put (some e) (V e)) ds V).put (some d) v=putF (a.put (some e) (upd V d v e)) ds (upd V d v)
  by_cases e1:e=d
  ·subst e1
   rw [putF_swap V e v ds _ h1,put_twice,upd_self]
   exact putF_same ds _ fun k hk=>(upd_ne fun e2=>h1 (by rw [← e2];exact hk)).symm
  ·rw [upd_ne e1]
   exact putF_put V d v ds _ h2 ((List.mem_cons.1 h).resolve_left fun e2=>e1 e2.symm)
def StepV (P:Program) (ops:Array Oper) (md:Region.Mode) (a:Act) (ds:List Nat) (J:(Nat→Bool)→(Nat→Value)→World→Prop) (i:Nat) (o:Oper):Prop :=
 ∀ (D:Nat→Bool) (V:Nat→Value) (w:World),J D V w→D i=false→(o.after.all fun e=>!Region.binds md e || D e.on)=true →
  Region.wanted o (yielded ops (putF a ds V).tmps)=true∧(∀ d,o.dst=some d→d∈ds) ∧
  ∀ K:Act→World→Prop,Hid (∀ v w',J (fun k=>k == i || D k) (updO V o.dst v) w'→K ((putF a ds V).put o.dst v) w')→o.wp P (putF a ds V) w K NoOut
theorem forOps_mono {F G:Nat→Oper→Prop} (h:∀ i o,F i o→G i o):∀ {l:List Oper} {k:Nat},forOps F k l→forOps G k l
 | [],_,_=>trivial
 | _ :: _,_,hf=>⟨h _ _ hf.1,forOps_mono h hf.2⟩
theorem wp_region_vals {id:Nat} {a:Act} {w:World} {l:List Oper} (ds:List Nat) (hds:ds.Nodup) (J:(Nat→Bool)→(Nat→Value)→World→Prop) (hm:P.follows .mixedOrders=true) (hB:backB .any l.toArray=true)
  (V0:Nat→Value) (hV:putF a ds V0=a) (h0:J (fun _=>false) V0 w.drew) (hstep:forOps (StepV P l.toArray .any a ds J) 0 l)
  (hend:∀ (D:Nat→Bool) (V:Nat→Value) (w:World),(∀ j,j < l.length→D j=true)→J D V w→Q .normal (putF a ds V) w) :
  (Code.region id l.toArray true).wp P Q a w:=by
 refine wp_region_inv (fun D a' w'=>∃ V,a'=putF a ds V∧J D V w') hm hB ⟨V0,hV.symm,h0⟩ (forOps_mono (fun i o hf=>?_) hstep) fun D a' w' hD ⟨V,e,hJ⟩=>e ▸ hend D V w' hD hJ
 rintro D a' w' ⟨V,rfl,hJ⟩ hi hd;obtain ⟨h1,h2,h3⟩:=hf D V w' hJ hi hd;refine ⟨h1,h3 _ (show Hid _ from fun v w2 hJ2=>?_)⟩
 cases hdst:o.dst with
 | none =>
  rw [hdst] at hJ2;exact ⟨V,rfl,hJ2⟩
 | some d =>
  rw [hdst] at hJ2;exact ⟨_,putF_put V d v ds a hds (h2 d hdst),hJ2⟩
end
section
variable {P:Program} {ops:Array Oper} {md:Region.Mode} {C:World→Prop}
inductive LinX (md:Region.Mode) (ops:Array Oper):Array Bool→List Nat→List Nat→Prop where
 | nil {listed:Array Bool}:LinX md ops listed [] []
 | cons {listed:Array Bool} {l σ:List Nat} {i:Nat} (h:i∈Region.ready md ops listed) (hl:i∈l) (t:LinX md ops (listed.setIfInBounds i true) (l.erase i) σ):LinX md ops listed l (i :: σ)
theorem lin_go (hback:∀ (j:Nat) (oj:Oper),ops[j]? = some oj→∀ e∈oj.after,Region.binds md e=true→e.on < j) :
  ∀ (n t:Nat) (l:List Nat) (listed:Array Bool),l.length=n→l.Nodup→(∀ j,j∈l ↔ j < ops.size∧listed.getD j true=false)→listed.size=ops.size→LinX md ops listed l (Region.linearise.go md ops n t listed [])
 | 0,t,l,listed,hn,_,_,_=>by
  obtain rfl:l = []:=List.eq_nil_of_length_eq_zero hn;exact .nil
 | n + 1,t,l,listed,hn,hnd,hm,hs=>by
  have hne:Region.ready md ops listed≠[]:=by
   intro h0
   have hall:∀ m j,j < m→j < ops.size→listed.getD j false=true:=by
    intro m
    induction m with
    | zero=>intro j h;omega
    | succ m ih =>
     intro j hj hjs
     rcases Nat.lt_or_ge j m with h1 | h1
     ·exact ih j h1 hjs
     ·have e:j=m:=by omega
      subst e
      cases hv:listed.getD j true with
      | true=>rw [Array.getD,dif_pos (by omega)] at hv ⊢;exact hv
      | false =>
       exfalso
       have hr:j∈Region.ready md ops listed:=mem_ready.2 ⟨hv,ops[j],Array.getElem?_eq_getElem hjs,fun e he hb=>by
        have h2:=hback j _ (Array.getElem?_eq_getElem hjs) e he hb
        exact ih e.on h2 (by omega)⟩
       rw [h0] at hr
       cases hr
   cases l with
   | nil=>cases hn
   | cons q l =>
    obtain ⟨h1,h2⟩:=(hm q).1 (List.mem_cons_self ..);have h3:=hall (q + 1) q (Nat.lt_succ_self _) h1;rw [Array.getD,dif_pos (by omega)] at h2 h3;rw [h2] at h3;cases h3
  simp only [Region.linearise.go]
  change LinX md ops listed l (match (Region.ready md ops listed)[t % (Region.ready md ops listed).length]? with
   | some i=>Region.linearise.go md ops n (t / (Region.ready md ops listed).length) (listed.setIfInBounds i true) [i]
   | none=>[].reverse)
  have hpos:0 < (Region.ready md ops listed).length:=List.length_pos_iff.2 hne;have hlt:=Nat.mod_lt t hpos;rw [lG hlt];simp only [];rw [linearise_go_acc,List.reverse_singleton,List.singleton_append];have hi:=lM hlt
  generalize (Region.ready md ops listed)[t % (Region.ready md ops listed).length]=i at *
  obtain ⟨hun,oi,hoi,_⟩:=mem_ready.1 hi;have hilt:=(aS hoi).1;have him:=(hm i).2 ⟨hilt,hun⟩;refine .cons hi him (lin_go hback n _ (l.erase i) _ (by rw [List.length_erase_of_mem him];omega) (hnd.erase _) (fun j=>?_) (by simp [hs]));rw [hnd.mem_erase_iff,hm j]
  by_cases e:i=j
  ·subst e
   have:(listed.setIfInBounds i true).getD i true=true:=by simp [Array.getD,hs,hilt]
   simp [this]
  ·rw [getD_set_ne true e]
   constructor
   ·rintro ⟨_,h⟩;exact h
   ·intro h;exact ⟨fun e2=>e e2.symm,h⟩
theorem sub_of {α:Type} {q i:α} (l1 l2:List α) (h:i∈l2):[q,i].Sublist (l1 ++ q :: l2):=(((List.singleton_sublist.2 h).cons_cons q)).trans (List.sublist_append_right _ _)
structure HS (md:Region.Mode) (ops:Array Oper) (listed:Array Bool) (l:List Nat) (L σ:List Nat):Prop where
 nd:L.Nodup
 mem:∀ j,j∈L ↔ j∈l
 un:∀ j∈l,j < ops.size∧listed.getD j true=false
 cl:ClosedL md ops listed
 size:listed.size=ops.size
 pairs:∀ q i,[q,i].Sublist L→indepB ops q i=true∨WaitsP md ops q i∨∃ c,(c=i∨WaitsP md ops c i)∧[q,c].Sublist σ
theorem ops_of_walk (hs:Region.noSelect ops=true) {Q:Exit→Act→World→Prop}:∀ {listed:Array Bool} {l σ:List Nat},LinX md ops listed l σ→∀ (L:List Nat) (a:Act) (w:World),HS md ops listed l L σ→l.Nodup→C w →
  walkS P ops C (Q .normal) L a w→wpOps P ops Q σ a w:=by
 intro listed l σ h
 induction h with
 | nil =>
  intro L a w hS _ _ hw
  have:L = []:=List.eq_nil_iff_forall_not_mem.2 fun j hj=>by have:=(hS.mem j).1 hj;cases this
  subst this;exact hw
 | @cons listed l σ i hi hl t ih =>
  intro L a w hS hnd hC hw;rw [wpOps_cons];obtain ⟨hun,oi,hoi,hwait⟩:=mem_ready.1 hi;have hilt:=(aS hoi).1;have hiL:i∈L:=(hS.mem i).2 hl;obtain ⟨l₁,l₂,rfl⟩:=List.append_of_mem hiL
  have hind:∀ q∈l₁,indepB ops q i=true:=by
   intro q hq;have hq1:q∈l:=(hS.mem q).1 (List.mem_append_left _ hq);have hun:=(hS.un q hq1).2
   have hne:q≠i:=by
    intro e;subst e;exact (List.nodup_append.1 hS.nd).2.2 q hq q (List.mem_cons_self ..) rfl
   have hsub:[q,i].Sublist (l₁ ++ i :: l₂):=by
    obtain ⟨m1,m2,rfl⟩:=List.append_of_mem hq;rw [List.append_assoc,List.cons_append];exact sub_of m1 _ (List.mem_append_right _ (List.mem_cons_self ..))
   rcases hS.pairs q i hsub with h | h | h
   ·exact h
   ·exfalso
    have:=h listed hS.cl (fun oj hj=>by
     obtain rfl:oj=oi:=Option.some.inj (hj.symm.trans hoi)
     exact hwait)
    rw [getD_both hun] at this
    cases this
   ·exfalso
    obtain ⟨c,hci,h⟩:=h
    rcases List.sublist_cons_iff.1 h with h | ⟨r,e,h⟩
    ·have hm:c∈σ:=h.subset (by simp)
     have key:∀ {listed:Array Bool} {l σ:List Nat},LinX md ops listed l σ→∀ j∈σ,j∈l:=by
      intro listed l σ h
      induction h with
      | nil=>intro j hj;cases hj
      | cons _ hl _ ih=>intro j hj;rcases List.mem_cons.1 hj with rfl | hj;exact hl;exact List.mem_of_mem_erase (ih j hj)
     have h3:=key t c hm;rw [hnd.mem_erase_iff] at h3
     rcases hci with e | hwc
     ·exact h3.1 e
     ·have h4:=hwc listed hS.cl (fun oj hj=>by
       obtain rfl:oj=oi:=Option.some.inj (hj.symm.trans hoi)
       exact hwait)
      rw [getD_both (hS.un c h3.2).2] at h4
      cases h4
    ·injection e with e1 _;exact hne e1
  have hb:=walkS_bubble hs l₁ l₂ a w hind hC hw
  have hS':HS md ops (listed.setIfInBounds i true) (l.erase i) (l₁ ++ l₂) σ:=by
   have hnd':(l₁ ++ l₂).Nodup:=hS.nd.sublist (List.Sublist.append_left (List.sublist_cons_self ..) _)
   have hni:i ∉ l₁ ++ l₂:=by
    intro h;have h0:=hS.nd;rw [List.nodup_append] at h0
    rcases List.mem_append.1 h with h | h
    ·exact h0.2.2 i h i (List.mem_cons_self ..) rfl
    ·exact (List.nodup_cons.1 h0.2.1).1 h
   refine ⟨hnd',fun j=>?_,fun j hj=>?_,?_,by simp [hS.size],fun q x hsub=>?_⟩
   ·rw [hnd.mem_erase_iff,← hS.mem j]
    constructor
    ·intro h
     exact ⟨fun e=>hni (e ▸ h),(List.mem_append.1 h).elim (List.mem_append_left _) fun h=>List.mem_append_right _ (List.mem_cons_of_mem _ h)⟩
    ·rintro ⟨h1,h2⟩
     rcases List.mem_append.1 h2 with h | h
     ·exact List.mem_append_left _ h
     ·exact List.mem_append_right _ ((List.mem_cons.1 h).resolve_left h1)
   ·rw [hnd.mem_erase_iff] at hj
    have:=hS.un j hj.2;exact ⟨this.1,by rw [getD_set_ne true (fun e=>hj.1 e.symm)];exact this.2⟩
   ·intro j oj hoj hlj e he hbi
    by_cases e1:i=j
    ·subst e1
     obtain rfl:oj=oi:=Option.some.inj (hoj.symm.trans hoi);have:=hwait e he hbi
     by_cases e2:i=e.on
     ·rw [← e2];simp [Array.getD,hS.size,hilt]
     ·rw [getD_set_ne false e2];exact this
    ·rw [getD_set_ne false e1] at hlj
     have:=hS.cl j oj hoj hlj e he hbi
     by_cases e2:i=e.on
     ·rw [← e2];simp [Array.getD,hS.size,hilt]
     ·rw [getD_set_ne false e2];exact this
   ·have hsub2:[q,x].Sublist (l₁ ++ i :: l₂):=hsub.trans (List.Sublist.append_left (List.sublist_cons_self ..) _)
    rcases hS.pairs q x hsub2 with h | h | h
    ·exact .inl h
    ·exact .inr (.inl h)
    ·obtain ⟨c,hci,h⟩:=h
     refine .inr (.inr ⟨c,hci,?_⟩)
     rcases List.sublist_cons_iff.1 h with h | ⟨r,e,h⟩
     ·exact h
     ·injection e with e1 _
      exact absurd (hsub.subset (by simp:q∈[q,x])) (fun hq=>hni (e1 ▸ hq))
  have ih':=fun a' w' hC' h'=>ih (l₁ ++ l₂) a' w' hS' (hnd.erase _) hC' h'
  unfold stepAt at hb;simp only [hoi] at hb;unfold wpOp;simp only [hoi]
  rcases hb with ⟨v,hy,hk⟩ | ⟨_,hwt,hp⟩
  ·have:=hy.wpOp (Q:=Q) hoi hC (K:=wpOps P ops Q σ) (ih' _ _ hC hk)
   unfold wpOp at this;simp only [hoi] at this;exact this
  ·rw [if_pos hwt]
   refine .inl ?_;have:=Oper.wp_mono (fun a w ⟨hC,hk⟩=>ih' a w hC hk) hp
   unfold Oper.wp at *
   generalize (execOp a.eval oi).run P w=r at *
   cases r with
   | ok m w' =>
    cases m <;> simp only [Oper.upon] at this ⊢ <;>
     first
      | exact this
      | (refine Calls.mono this fun e w'' he=>?_;cases e with | returned u=>exact he | panicked c=>exact he.elim | outgrown=>exact (letsOut_no he).elim)
   | halt x w' =>
    cases x <;> simp only [Oper.upon] at this ⊢
    case panic u=>exact this.elim
def pairsB (R:Nat→Nat→Bool):List Nat→Bool
 | []=>true
 | q :: l=>l.all (R q) && pairsB R l
theorem pairsB_spec {R:Nat→Nat→Bool}:∀ {L:List Nat},pairsB R L=true→∀ q i,[q,i].Sublist L→R q i=true
 | [],_,_,_,h=>by cases h
 | x :: l,h,q,i,hs=>by
  rw [pairsB,Bool.and_eq_true] at h
  rcases List.sublist_cons_iff.1 hs with h1 | ⟨r,e,h1⟩
  ·exact pairsB_spec h.2 q i h1
  ·injection e with e1 e2
   subst e1 e2;exact List.all_eq_true.1 h.1 i (List.singleton_sublist.1 h1)
def wB (md:Region.Mode) (ops:Array Oper) (q i:Nat):Bool:=(waiters md ops q (List.range ops.size) []).contains i
theorem wB_spec {q i:Nat} (h:wB md ops q i=true):WaitsP md ops q i:=waiters_spec _ [] (fun _ h=>by cases h) i (List.contains_iff_mem.1 h)
def mv {α:Type} (l:List α) (p f:Nat):List α:=l.take p ++ ((l.drop f).take 1 ++ ((l.take f).drop p ++ l.drop (f + 1)))
def listB (md:Region.Mode) (ops:Array Oper) (f:Nat) (before behind:List Nat) (L:List Nat):Bool :=
 pairsB (fun q i=>indepB ops q i || wB md ops q i || (q == f && behind.contains i) || (i == f && before.contains q)) L && ((List.range ops.size).all fun j=>L.contains j) && (decide L.Nodup && L.all fun j=>decide (j < ops.size))
def freeB (md:Region.Mode) (ops:Array Oper) (f c p:Nat):Bool :=
 Region.noSelect ops && ((List.range ops.size).all fun j=>match ops[j]? with | some o=>o.after.all fun e=>!Region.binds md e || decide (e.on < j) | none=>true) &&
 (listB md ops f [c] [] (List.range ops.size) && listB md ops f [] [c] (mv (List.range ops.size) p f) && (decide (f < ops.size) && decide (c < ops.size) && decide (f≠c)))
theorem lin_mem (md:Region.Mode) (ops:Array Oper):∀ {listed:Array Bool} {l σ:List Nat},LinX md ops listed l σ→∀ j∈l,j∈σ:=by
 intro listed l σ h
 induction h with
 | nil=>intro j hj;cases hj
 | @cons _ l σ i _ hl _ ih =>
  intro j hj
  by_cases e:j=i
  ·exact e ▸ List.mem_cons_self ..
  ·exact List.mem_cons_of_mem _ (ih j ((List.mem_erase_of_ne e).2 hj))
theorem two_order {α:Type} {x y:α} (hne:x≠y):∀ {l:List α},x∈l→y∈l→[x,y].Sublist l∨[y,x].Sublist l
 | z :: l,hx,hy=>by
  by_cases e1:x=z
  ·subst e1
   exact .inl ((List.singleton_sublist.2 ((List.mem_cons.1 hy).resolve_left fun e=>hne e.symm)).cons_cons _)
  ·by_cases e2:y=z
   ·subst e2
    exact .inr ((List.singleton_sublist.2 ((List.mem_cons.1 hx).resolve_left hne)).cons_cons _)
   ·rcases two_order hne ((List.mem_cons.1 hx).resolve_left e1) ((List.mem_cons.1 hy).resolve_left e2) with h | h
    ·exact .inl (h.cons _)
    ·exact .inr (h.cons _)
theorem walk_of_list {Q:Act→World→Prop}:∀ (L:List Nat) (lo:List Oper) (a:Act) (w:World),L.map (fun i=>ops[i]?)=lo.map some→C w→wpSteady P ops C Q lo a w→walkS P ops C Q L a w
 | [],lo,a,w,h,_,hw=>by
  cases lo with
  | nil=>exact hw
  | cons o lo=>cases h
 | i :: L,lo,a,w,h,hC,hw=>by
  cases lo with
  | nil=>cases h
  | cons o lo =>
   rw [List.map_cons,List.map_cons] at h
   injection h with h1 h2
   show stepAt P ops C i (walkS P ops C Q L) a w;unfold stepAt;simp only [h1];exact stepS_mono hC (fun a w hC h=>walk_of_list L lo a w h2 hC h) hw
theorem mv_map {α β:Type} (g:α→β) (l:List α) (p f:Nat):(mv l p f).map g=mv (l.map g) p f:=by
 simp only [mv,List.map_append,List.map_take,List.map_drop]
theorem range_map (l:List Oper):(List.range l.toArray.size).map (fun i=>l.toArray[i]?)=l.map some:=by
 apply List.ext_getElem?
 intro j;rw [List.getElem?_map,List.getElem?_map]
 by_cases h:j < l.length
 ·simp [h]
 ·rw [List.getElem?_eq_none (by simpa using h),List.getElem?_eq_none (by omega)];rfl
theorem wp_region_free {id:Nat} {Q:Exit→Act→World→Prop} {a:Act} {w:World} {l:List Oper} (f c p:Nat) (C:World→Prop) (hm:P.follows .mixedOrders=true) (hB:freeB .any l.toArray f c p=true)
  (hC:C w.drew) (h1:wpSteady P l.toArray C (Q .normal) l a w.drew) (h2:wpSteady P l.toArray C (Q .normal) (mv l p f) a w.drew):(Code.region id l.toArray true).wp P Q a w:=by
 refine wp_region_draw fun t=>?_
 simp only [Region.schedule,hm,Bool.true_or,if_true];unfold freeB at hB;simp only [Bool.and_eq_true] at hB;obtain ⟨⟨hs,hbk⟩,⟨hL1,hL2⟩,⟨⟨hf,hc⟩,hne⟩⟩:=hB
 have hlin:LinX .any l.toArray (Array.replicate l.toArray.size false) (List.range l.toArray.size) (Region.linearise.go .any l.toArray l.toArray.size t (Array.replicate l.toArray.size false) []):=by
  refine lin_go (fun j oj hj e he hb=>?_) _ _ _ _ (by simp) List.nodup_range (fun j=>?_) (by simp)
  ·have h3:=List.all_eq_true.1 hbk j (List.mem_range.2 (aS hj).1)
   simp only [hj] at h3;have h4:=Array.all_eq_true_iff_forall_mem.1 h3 e he;rw [hb] at h4;simpa using h4
  ·rw [List.mem_range]
   constructor
   ·intro hj;exact ⟨hj,getD_in (by simpa using hj) (getD_replicate_false _ _)⟩
   ·exact fun h=>h.1
 have go:∀ (L before behind:List Nat) (lo:List Oper),listB .any l.toArray f before behind L=true→L.map (fun i=>l.toArray[i]?)=lo.map some→(∀ q∈before,[q,f].Sublist (Region.linearise.go .any l.toArray l.toArray.size t (Array.replicate l.toArray.size false) [])) →
   (∀ q∈behind,[f,q].Sublist (Region.linearise.go .any l.toArray l.toArray.size t (Array.replicate l.toArray.size false) []))→wpSteady P l.toArray C (Q .normal) lo a w.drew →
   wpOps P l.toArray Q (Region.linearise.go .any l.toArray l.toArray.size t (Array.replicate l.toArray.size false) []) a w.drew:=by
  intro L before behind lo hL hmap hb1 hb2 hwalk;unfold listB at hL;simp only [Bool.and_eq_true] at hL;obtain ⟨⟨hp,hall⟩,hnd,hlt⟩:=hL;refine ops_of_walk (C:=C) hs hlin L a w.drew ⟨of_decide_eq_true hnd,fun j=>?_,fun j hj=>⟨List.mem_range.1 hj,getD_in (by simpa using List.mem_range.1 hj) (getD_replicate_false _ _)⟩,fun j oj _ hl=>(by rw [getD_replicate_false] at hl;cases hl),by simp,fun q i hsub=>?_⟩ List.nodup_range hC (walk_of_list L lo a _ hmap hC hwalk)
  ·constructor
   ·intro hj
    exact List.mem_range.2 (of_decide_eq_true (List.all_eq_true.1 hlt j hj))
   ·intro hj
    exact List.contains_iff_mem.1 (List.all_eq_true.1 hall j hj)
  ·have h5:=pairsB_spec hp q i hsub
   simp only [Bool.or_eq_true,Bool.and_eq_true,beq_iff_eq,List.contains_iff_mem] at h5
   rcases h5 with ((h5 | h5) | ⟨rfl,h5⟩) | ⟨rfl,h5⟩
   ·exact .inl h5
   ·exact .inr (.inl (wB_spec h5))
   ·exact .inr (.inr ⟨i,.inl rfl,hb2 i h5⟩)
   ·exact .inr (.inr ⟨i,.inl rfl,hb1 q h5⟩)
 rcases two_order (of_decide_eq_true hne) (lin_mem _ _ hlin f (List.mem_range.2 (of_decide_eq_true hf))) (lin_mem _ _ hlin c (List.mem_range.2 (of_decide_eq_true hc))) with h | h
 ·exact go (mv (List.range l.toArray.size) p f) [] [c] (mv l p f) hL2 (by rw [mv_map,mv_map,range_map]) (fun q hq=>by cases hq) (fun q hq=>(List.mem_singleton.1 hq) ▸ h) h2
 ·exact go (List.range l.toArray.size) [c] [] l hL1 (range_map l) (fun q hq=>(List.mem_singleton.1 hq) ▸ h) (fun q hq=>by cases hq) h1
def listLB (md:Region.Mode) (ops:Array Oper) (f:Nat) (before:List Nat) (c:Option Nat) (L:List Nat):Bool :=
 pairsB (fun q i=>indepB ops q i || wB md ops q i || (q == f && match c with | some c=>(c == i || wB md ops c i) | none=>false) || (i == f && before.contains q)) L && ((List.range ops.size).all fun j=>L.contains j) && (decide L.Nodup && L.all fun j=>decide (j < ops.size))
def chkB (md:Region.Mode) (ops:Array Oper) (f:Nat):List Nat→List Nat→Bool
 | before,[]=>listLB md ops f before none (mv (List.range ops.size) f f)
 | before,c :: r=>listLB md ops f before (some c) (mv (List.range ops.size) c f) && chkB md ops f (before ++ [c]) r
def freeLB (md:Region.Mode) (ops:Array Oper) (f:Nat) (cs:List Nat):Bool :=
 Region.noSelect ops && ((List.range ops.size).all fun j=>match ops[j]? with | some o=>o.after.all fun e=>!Region.binds md e || decide (e.on < j) | none=>true) &&
 (chkB md ops f [] cs && (decide (f < ops.size) && cs.all fun c=>decide (c < ops.size) && decide (f≠c)))
theorem wp_region_freeL {id:Nat} {Q:Exit→Act→World→Prop} {a:Act} {w:World} {l:List Oper} (f:Nat) (cs:List Nat) (C:World→Prop) (hm:P.follows .mixedOrders=true) (hB:freeLB .any l.toArray f cs=true)
  (hC:C w.drew) (h:∀ p∈cs ++ [f],wpSteady P l.toArray C (Q .normal) (mv l p f) a w.drew):(Code.region id l.toArray true).wp P Q a w:=by
 refine wp_region_draw fun t=>?_
 simp only [Region.schedule,hm,Bool.true_or,if_true];unfold freeLB at hB;simp only [Bool.and_eq_true] at hB;obtain ⟨⟨hs,hbk⟩,hL,hf,hcs⟩:=hB
 have hlin:LinX .any l.toArray (Array.replicate l.toArray.size false) (List.range l.toArray.size) (Region.linearise.go .any l.toArray l.toArray.size t (Array.replicate l.toArray.size false) []):=by
  refine lin_go (fun j oj hj e he hb=>?_) _ _ _ _ (by simp) List.nodup_range (fun j=>?_) (by simp)
  ·have h3:=List.all_eq_true.1 hbk j (List.mem_range.2 (aS hj).1)
   simp only [hj] at h3;have h4:=Array.all_eq_true_iff_forall_mem.1 h3 e he;rw [hb] at h4;simpa using h4
  ·rw [List.mem_range]
   constructor
   ·intro hj;exact ⟨hj,getD_in (by simpa using hj) (getD_replicate_false _ _)⟩
   ·exact fun h=>h.1
 change wpOps P l.toArray Q (Region.linearise.go .any l.toArray l.toArray.size t (Array.replicate l.toArray.size false) []) a w.drew
 generalize Region.linearise.go .any l.toArray l.toArray.size t (Array.replicate l.toArray.size false) [] = σ at *
 have go:∀ (before:List Nat) (c:Option Nat) (p:Nat),listLB .any l.toArray f before c (mv (List.range l.toArray.size) p f)=true→(∀ q∈before,[q,f].Sublist σ)→(∀ x,c=some x→[f,x].Sublist σ)→wpSteady P l.toArray C (Q .normal) (mv l p f) a w.drew →
   wpOps P l.toArray Q σ a w.drew:=by
  intro before c p hL hb1 hb2 hwalk;unfold listLB at hL;simp only [Bool.and_eq_true] at hL;obtain ⟨⟨hp,hall⟩,hnd,hlt⟩:=hL;refine ops_of_walk (C:=C) hs hlin (mv (List.range l.toArray.size) p f) a w.drew ⟨of_decide_eq_true hnd,fun j=>?_,fun j hj=>⟨List.mem_range.1 hj,getD_in (by simpa using List.mem_range.1 hj) (getD_replicate_false _ _)⟩,fun j oj _ hl=>(by rw [getD_replicate_false] at hl;cases hl),by simp,fun q i hsub=>?_⟩ List.nodup_range hC (walk_of_list _ (mv l p f) a _ (by rw [mv_map,mv_map,range_map]) hC hwalk)
  ·constructor
   ·intro hj
    exact List.mem_range.2 (of_decide_eq_true (List.all_eq_true.1 hlt j hj))
   ·intro hj
    exact List.contains_iff_mem.1 (List.all_eq_true.1 hall j hj)
  ·have h5:=pairsB_spec hp q i hsub
   simp only [Bool.or_eq_true,Bool.and_eq_true,beq_iff_eq,List.contains_iff_mem] at h5
   rcases h5 with ((h5 | h5) | ⟨rfl,h5⟩) | ⟨rfl,h5⟩
   ·exact .inl h5
   ·exact .inr (.inl (wB_spec h5))
   ·cases c with
    | none=>cases h5
    | some x =>
     simp only [Bool.or_eq_true,beq_iff_eq] at h5;exact .inr (.inr ⟨x,h5.imp (fun h=>h) wB_spec,hb2 x rfl⟩)
   ·exact .inr (.inr ⟨i,.inl rfl,hb1 q h5⟩)
 have pick:∀ (rest before:List Nat),(∀ q∈before,[q,f].Sublist σ)→chkB .any l.toArray f before rest=true→(∀ c∈rest,decide (c < l.toArray.size)=true∧decide (f≠c)=true)→(∀ p∈rest ++ [f],wpSteady P l.toArray C (Q .normal) (mv l p f) a w.drew)→wpOps P l.toArray Q σ a w.drew:=by
  intro rest
  induction rest with
  | nil=>exact fun before hb hch _ hw=>go before none f hch hb (fun x hx=>by cases hx) (hw f (by simp))
  | cons c r ih =>
   intro before hb hch hc hw;rw [chkB,Bool.and_eq_true] at hch;have hc1:=hc c (List.mem_cons_self ..)
   rcases two_order (of_decide_eq_true hc1.2) (lin_mem _ _ hlin f (List.mem_range.2 (of_decide_eq_true hf))) (lin_mem _ _ hlin c (List.mem_range.2 (of_decide_eq_true hc1.1))) with h | h
   ·exact go before (some c) c hch.1 hb (fun x hx=>by cases hx;exact h) (hw c (by simp))
   ·exact ih (before ++ [c]) (fun q hq=>by
     rcases List.mem_append.1 hq with h1 | h1
     ·exact hb q h1
     ·rw [List.mem_singleton.1 h1];exact h) hch.2 (fun x hx=>hc x (List.mem_cons_of_mem _ hx)) (fun p hp=>hw p (List.mem_cons_of_mem _ hp))
 exact pick cs [] (fun q hq=>by cases hq) hL (fun c hc=>by have:=List.all_eq_true.1 hcs c hc;rwa [Bool.and_eq_true] at this) h
end
section
variable {P:Program} {ops:Array Oper} {md:Region.Mode} {C:World→Prop}
inductive OT where
 | leaf (L:List Nat)
 | node (x y:Nat) (l r:OT)
def OT.leaves:OT→List (List Nat)
 | .leaf L=>[L]
 | .node _ _ l r=>l.leaves ++ r.leaves
def listFB (md:Region.Mode) (ops:Array Oper) (F:List (Nat × Nat)) (L:List Nat):Bool :=
 pairsB (fun q i=>indepB ops q i || wB md ops q i || F.any fun x=>x.1 == q && (x.2 == i || wB md ops x.2 i)) L && ((List.range ops.size).all fun j=>L.contains j) && (decide L.Nodup && L.all fun j=>decide (j < ops.size))
def extF (F:List (Nat × Nat)) (x y:Nat):List (Nat × Nat) :=
 (x :: (F.filter fun z=>z.2 == x).map (·.1)).flatMap (fun a=>(y :: (F.filter fun z=>z.1 == y).map (·.2)).map fun b=>(a,b)) ++ F
theorem sub_trans3 {α:Type} {a b c:α}:∀ {l:List α},l.Nodup→[a,b].Sublist l→[b,c].Sublist l→[a,c].Sublist l
 | x :: l,hn,h1,h2=>by
  have hx:=(List.nodup_cons.1 hn).1
  rcases List.sublist_cons_iff.1 h1 with k1 | ⟨r,e,k1⟩
  ·rcases List.sublist_cons_iff.1 h2 with k2 | ⟨r2,e2,k2⟩
   ·exact (sub_trans3 (List.nodup_cons.1 hn).2 k1 k2).cons _
   ·injection e2 with e3 e4
    exact absurd (k1.subset (by simp:b∈[a,b])) (e3 ▸ hx)
  ·injection e with e1 e2
   rcases List.sublist_cons_iff.1 h2 with k2 | ⟨r2,e3,k2⟩
   ·rw [e1]
    exact ((List.singleton_sublist.2 (k2.subset (by simp:c∈[b,c])))).cons_cons _
   ·injection e3 with e4 e5
    exact absurd (k1.subset (by rw [← e2];simp:b∈r)) (e4 ▸ hx)
theorem lin_nodup:∀ {listed:Array Bool} {l σ:List Nat},LinX md ops listed l σ→l.Nodup→σ.Nodup∧∀ j∈σ,j∈l:=by
 intro listed l σ h
 induction h with
 | nil=>exact fun _=>⟨List.nodup_nil,fun j h=>by cases h⟩
 | @cons _ l σ i _ hl _ ih =>
  intro hn;obtain ⟨h1,h2⟩:=ih (hn.erase _);refine ⟨List.nodup_cons.2 ⟨fun hi=>(hn.mem_erase_iff.1 (h2 i hi)).1 rfl,h1⟩,fun j hj=>?_⟩
  rcases List.mem_cons.1 hj with e | e
  ·exact e ▸ hl
  ·exact List.mem_of_mem_erase (h2 j e)
theorem extF_sub {σ:List Nat} (hn:σ.Nodup) {F:List (Nat × Nat)} (hF:∀ x∈F,[x.1,x.2].Sublist σ) {x y:Nat} (h:[x,y].Sublist σ):∀ z∈extF F x y,[z.1,z.2].Sublist σ:=by
 intro z hz
 rcases List.mem_append.1 hz with hz | hz
 ·obtain ⟨a,ha,hb⟩:=List.mem_flatMap.1 hz
  obtain ⟨b,hbm,rfl⟩:=List.mem_map.1 hb
  have h1:[a,y].Sublist σ:=by
   rcases List.mem_cons.1 ha with e | e
   ·exact e ▸ h
   ·obtain ⟨q,hq,rfl⟩:=List.mem_map.1 e
    obtain ⟨hq1,hq2⟩:=List.mem_filter.1 hq;have:=hF q hq1;rw [beq_iff_eq.1 hq2] at this;exact sub_trans3 hn this h
  rcases List.mem_cons.1 hbm with e | e
  ·exact e ▸ h1
  ·obtain ⟨q,hq,rfl⟩:=List.mem_map.1 e
   obtain ⟨hq1,hq2⟩:=List.mem_filter.1 hq;have:=hF q hq1;rw [beq_iff_eq.1 hq2] at this;exact sub_trans3 hn h1 this
 ·exact hF z hz
def chkOT (md:Region.Mode) (ops:Array Oper):OT→List (Nat × Nat)→Bool
 | .leaf L,F=>listFB md ops F L
 | .node x y l r,F=>(decide (x≠y) && decide (x < ops.size) && decide (y < ops.size)) && (chkOT md ops l (extF F x y) && chkOT md ops r (extF F y x))
def treeB (md:Region.Mode) (ops:Array Oper) (T:OT):Bool :=
 Region.noSelect ops && ((List.range ops.size).all fun j=>match ops[j]? with | some o=>o.after.all fun e=>!Region.binds md e || decide (e.on < j) | none=>true) && chkOT md ops T []
def pickL {α:Type} (l:List α) (L:List Nat):List α:=L.filterMap fun i=>l[i]?
theorem pickL_map (l:List Oper):∀ (L:List Nat),(∀ j∈L,j < l.length)→L.map (fun i=>l.toArray[i]?)=(pickL l L).map some
 | [],_=>rfl
 | i :: L,h=>by
  have hi:l[i]? = some (l[i]'(h i (List.mem_cons_self ..))):=lG _;rw [List.map_cons,pickL_map l L fun j hj=>h j (List.mem_cons_of_mem _ hj),pickL,pickL,List.filterMap_cons_some hi,List.map_cons]
  congr 1
  simp
theorem wp_region_tree {id:Nat} {Q:Exit→Act→World→Prop} {a:Act} {w:World} {l:List Oper} (T:OT) (C:World→Prop) (hm:P.follows .mixedOrders=true) (hB:treeB .any l.toArray T=true)
  (hC:C w.drew) (h:∀ L∈T.leaves,wpSteady P l.toArray C (Q .normal) (pickL l L) a w.drew):(Code.region id l.toArray true).wp P Q a w:=by
 refine wp_region_draw fun t=>?_
 simp only [Region.schedule,hm,Bool.true_or,if_true];unfold treeB at hB;simp only [Bool.and_eq_true] at hB;obtain ⟨⟨hs,hbk⟩,hT⟩:=hB
 have hlin:LinX .any l.toArray (Array.replicate l.toArray.size false) (List.range l.toArray.size) (Region.linearise.go .any l.toArray l.toArray.size t (Array.replicate l.toArray.size false) []):=by
  refine lin_go (fun j oj hj e he hb=>?_) _ _ _ _ (by simp) List.nodup_range (fun j=>?_) (by simp)
  ·have h3:=List.all_eq_true.1 hbk j (List.mem_range.2 (aS hj).1)
   simp only [hj] at h3;have h4:=Array.all_eq_true_iff_forall_mem.1 h3 e he;rw [hb] at h4;simpa using h4
  ·rw [List.mem_range]
   constructor
   ·intro hj;exact ⟨hj,getD_in (by simpa using hj) (getD_replicate_false _ _)⟩
   ·exact fun h=>h.1
 change wpOps P l.toArray Q (Region.linearise.go .any l.toArray l.toArray.size t (Array.replicate l.toArray.size false) []) a w.drew
 generalize Region.linearise.go .any l.toArray l.toArray.size t (Array.replicate l.toArray.size false) [] = σ at *
 have hnd:=(lin_nodup hlin List.nodup_range).1
 have go:∀ (T:OT) (F:List (Nat × Nat)),(∀ x∈F,[x.1,x.2].Sublist σ)→chkOT .any l.toArray T F=true→(∀ L∈T.leaves,wpSteady P l.toArray C (Q .normal) (pickL l L) a w.drew)→wpOps P l.toArray Q σ a w.drew:=by
  intro T
  induction T with
  | leaf L =>
   intro F hF hL hwalk;unfold chkOT listFB at hL;simp only [Bool.and_eq_true] at hL;obtain ⟨⟨hp,hall⟩,hnd,hlt⟩:=hL
   have hltL:∀ j∈L,j < l.toArray.size:=fun j hj=>of_decide_eq_true (List.all_eq_true.1 hlt j hj)
   refine ops_of_walk (C:=C) hs hlin L a w.drew ⟨of_decide_eq_true hnd,fun j=>?_,fun j hj=>⟨List.mem_range.1 hj,getD_in (by simpa using List.mem_range.1 hj) (getD_replicate_false _ _)⟩,fun j oj _ hl=>(by rw [getD_replicate_false] at hl;cases hl),by simp,fun q i hsub=>?_⟩ List.nodup_range hC (walk_of_list L _ a w.drew (pickL_map l L fun j hj=>by simpa using hltL j hj) hC (hwalk L (by simp [OT.leaves])))
   ·constructor
    ·intro hj
     exact List.mem_range.2 (hltL j hj)
    ·intro hj
     exact List.contains_iff_mem.1 (List.all_eq_true.1 hall j hj)
   ·have h5:=pairsB_spec hp q i hsub
    simp only [Bool.or_eq_true] at h5
    rcases h5 with (h5 | h5) | h5
    ·exact .inl h5
    ·exact .inr (.inl (wB_spec h5))
    ·obtain ⟨x,hx,h6⟩:=List.any_eq_true.1 h5
     simp only [Bool.and_eq_true,Bool.or_eq_true,beq_iff_eq] at h6;exact .inr (.inr ⟨x.2,h6.2.imp (fun h=>h) wB_spec,h6.1 ▸ hF x hx⟩)
  | node x y tl tr ihl ihr =>
   intro F hF hc hwalk;unfold chkOT at hc;simp only [Bool.and_eq_true] at hc;obtain ⟨⟨⟨hne,hx⟩,hy⟩,hcl,hcr⟩:=hc
   rcases two_order (of_decide_eq_true hne) (lin_mem _ _ hlin x (List.mem_range.2 (of_decide_eq_true hx))) (lin_mem _ _ hlin y (List.mem_range.2 (of_decide_eq_true hy))) with h1 | h1
   ·exact ihl _ (extF_sub hnd hF h1) hcl fun L hL=>hwalk L (by rw [OT.leaves];exact List.mem_append_left _ hL)
   ·exact ihr _ (extF_sub hnd hF h1) hcr fun L hL=>hwalk L (by rw [OT.leaves];exact List.mem_append_right _ hL)
 exact go T [] (fun x hx=>by cases hx) hT h
theorem pickL_cons {l:List Oper} {i:Nat} {L:List Nat} {o:Oper} (h:l[i]? = some o):pickL l (i :: L)=o :: pickL l L:=by
 unfold pickL;rw [List.filterMap_cons];simp only [h]
structure Pk (P:Program) (C:World→Prop) (Q:Act→World→Prop) (l:List Oper) (L:List Nat) (a:Act) (w:World):Prop where
 h:wpSteady P l.toArray C Q (pickL l L) a w
inductive OT.Ok (p:List Nat→Prop):OT→Prop where
 | leaf {L:List Nat} (h:p L):OT.Ok p (.leaf L)
 | node {x y:Nat} {l r:OT} (h1:OT.Ok p l) (h2:OT.Ok p r):OT.Ok p (.node x y l r)
theorem OT.Ok.all {p:List Nat→Prop} {T:OT} (h:OT.Ok p T):∀ L∈T.leaves,p L:=by
 induction h with
 | leaf h=>intro L hL;rw [OT.leaves] at hL;rw [List.mem_singleton.1 hL];exact h
 | node _ _ i1 i2 =>
  intro L hL;rw [OT.leaves] at hL
  rcases List.mem_append.1 hL with h | h
  ·exact i1 L h
  ·exact i2 L h
theorem Pk.calm {Q:Act→World→Prop} {l:List Oper} {i:Nat} {L:List Nat} {o:Oper} {a:Act} {w:World} {v:Value} (hi:l[i]? = some o) (hl:loudB o=false) (hw:Region.wanted o (yielded l.toArray a.tmps)=true)
  (hy:∀ w,C w→(execOp a.eval o).run P w=.ok (.value v) w) (h:Pk P C Q l L (a.put o.dst v) w):Pk P C Q l (i :: L) a w :=
 ⟨by rw [pickL_cons hi];exact wpSteady_calm hw hy h.h⟩
theorem Pk.skip {Q:Act→World→Prop} {l:List Oper} {i:Nat} {L:List Nat} {o:Oper} {a:Act} {w:World} (hi:l[i]? = some o) (hw:Region.wanted o (yielded l.toArray a.tmps)=false)
  (h:Pk P C Q l L (a.put o.dst undef) w):Pk P C Q l (i :: L) a w :=
 ⟨by rw [pickL_cons hi];exact wpSteady_skip hw h.h⟩
theorem Pk.loud {Q:Act→World→Prop} {l:List Oper} {i:Nat} {L:List Nat} {o:Oper} {a:Act} {w:World} (hi:l[i]? = some o) (hl:loudB o=true) (hw:Region.wanted o (yielded l.toArray a.tmps)=true)
  (h:∀ K:Act→World→Prop,Hid (∀ a w,C w→Pk P C Q l L a w→K a w)→o.wp P a w K NoOut):Pk P C Q l (i :: L) a w :=
 ⟨by rw [pickL_cons hi];exact wpSteady_loud hl hw fun K hK=>h K (show Hid _ from fun a w hc hp=>hK.out a w hc hp.h)⟩
theorem Pk.nil {Q:Act→World→Prop} {l:List Oper} {a:Act} {w:World} (h:Q a w):Pk P C Q l [] a w:=⟨by
 unfold pickL
 exact zn h⟩
theorem wp_region_pk {id:Nat} {Q:Exit→Act→World→Prop} {a:Act} {w:World} {l:List Oper} (T:OT) (C:World→Prop) (hm:P.follows .mixedOrders=true) (hB:treeB .any l.toArray T=true)
  (hC:C w.drew) (h:OT.Ok (fun L=>Pk P C (Q .normal) l L a w.drew) T):(Code.region id l.toArray true).wp P Q a w :=
 wp_region_tree T C hm hB hC fun L hL=>(h.all L hL).h
end
section
variable {P : Program} {C : World → Prop} {Q : Act → World → Prop} {l : List Oper} {i : Nat} {L : List Nat} {o : Oper} {a : Act} {w : World} {v : Value}
theorem pK (h : Pk P C Q l L (a.put o.dst undef) w) (hi : l[i]? = some o := by rfl) (hw : Region.wanted o (yielded l.toArray a.tmps) = false := by rfl) : Pk P C Q l (i :: L) a w := Pk.skip hi hw h
theorem pL (h : ∀ K : Act → World → Prop, Hid (∀ a w, C w → Pk P C Q l L a w → K a w) → o.wp P a w K NoOut) (hi : l[i]? = some o := by rfl) (hl : loudB o = true := by rfl) (hw : Region.wanted o (yielded l.toArray a.tmps) = true := by rfl) : Pk P C Q l (i :: L) a w := Pk.loud hi hl hw h
theorem pC0 (h : Pk P C Q l L (a.put o.dst v) w) (hi : l[i]? = some o := by rfl) (hl : loudB o = false := by rfl) (hw : Region.wanted o (yielded l.toArray a.tmps) = true := by rfl) (hy : ∀ w, C w → (execOp a.eval o).run P w = .ok (.value v) w := by intro v hSv; (try simp only [CB, CL] at hSv); go_simp; (try rw [if_neg (by omega)]); (try with_reducible rfl)) : Pk P C Q l (i :: L) a w := Pk.calm hi hl hw hy h
end
end Go.Proofs.YtibiiafcnaijeaaGreat.Steady
namespace Go.Proofs.YtibiiafcnaijeaaGreat
set_option linter.unusedVariables false
set_option linter.unusedSimpArgs false
set_option maxRecDepth 100000
set_option maxHeartbeats 40000000
inductive Ty where
 | mk (k:Int) (es:List Ty) (ns:List ByteArray)
theorem Ty.ind {M:Ty→Prop} (h:∀ k es ns,(∀ e∈es,M e)→M (.mk k es ns)) (t:Ty):M t :=
 Ty.rec (motive_1:=M) (motive_2:=fun es=>∀ e∈es,M e) (fun k es ns ih=>h k es ns ih) (fun e he=>absurd he List.not_mem_nil) (fun e es h1 h2 x hx=>(List.mem_cons.1 hx).elim (fun e=>e ▸ h1) (h2 x)) t
mutual
def leftT:Ty→Int→Int→Int
 | .mk _ es _,n,lv=>if n < 1∨lv < 1 then -1 else leftL es (n - 1) (lv - 1)
def leftL:List Ty→Int→Int→Int
 | [],n,_=>n
 | e :: es,n,lv=>if n < 0 then n else leftL es (leftT e n lv) lv
end
theorem leftL_neg (es:List Ty) {n:Int} (lv:Int) (h:n < 0):leftL es n lv=n:=by
 cases es with
 | nil=>unfold leftL;rfl
 | cons e es=>unfold leftL;rw [if_pos h]
mutual
def namesT:Ty→Nat
 | .mk _ es ns=>ns.length + namesL es
def namesL:List Ty→Nat
 | []=>0
 | e :: es=>namesT e + namesL es
end
mutual
def sizeT:Ty→Nat
 | .mk _ es _=>1 + sizeL es
def sizeL:List Ty→Nat
 | []=>0
 | e :: es=>sizeT e + sizeL es
end
theorem sizeT_pos (t:Ty):1≤sizeT t:=by cases t;unfold sizeT;omega
theorem sizeT_mem {es:List Ty} {e:Ty} (h:e∈es):sizeT e≤sizeL es:=by
 induction es with
 | nil=>cases h
 | cons a r ih =>
  unfold sizeL
  rcases List.mem_cons.1 h with rfl | h
  ·omega
  ·have:=ih h;omega
theorem sizeL_len (es:List Ty):es.length≤sizeL es:=by
 induction es with
 | nil=>simp
 | cons a r ih=>unfold sizeL;have:=sizeT_pos a;simp;omega
theorem sizeT_eq (k:Int) (es:List Ty) (ns:List ByteArray):sizeT (.mk k es ns)=1 + sizeL es:=by rw [sizeT]
theorem left_le (t:Ty):∀ (n lv:Int),leftT t n lv = -1∨(0≤leftT t n lv∧leftT t n lv=n - sizeT t):=by
 induction t using Ty.ind with
 | h k es ns ih =>
  have key:∀ (l:List Ty),(∀ e∈l,e∈es)→∀ (n lv:Int),0≤n→leftL l n lv = -1∨(0≤leftL l n lv∧leftL l n lv=n - sizeL l):=by
   intro l
   induction l with
   | nil=>intro _ n lv h;right;unfold leftL sizeL;omega
   | cons e l ih2 =>
    intro hl n lv hn;unfold leftL sizeL;rw [if_neg (by omega)]
    rcases ih e (hl e (List.mem_cons_self ..)) n lv with h1 | ⟨h1,h2⟩
    ·rw [h1,leftL_neg _ _ (by omega)];exact .inl rfl
    ·rcases ih2 (fun x hx=>hl x (List.mem_cons_of_mem _ hx)) (leftT e n lv) lv h1 with h3 | ⟨h3,h4⟩
     ·exact .inl h3
     ·refine .inr ⟨h3,?_⟩;rw [h4,h2];push_cast;omega
  intro n lv;unfold leftT sizeT
  by_cases h:n < 1∨lv < 1
  ·rw [if_pos h];exact .inl rfl
  ·rw [if_neg h]
   rcases key es (fun _ h=>h) (n - 1) (lv - 1) (by omega) with h1 | ⟨h1,h2⟩
   ·exact .inl h1
   ·refine .inr ⟨h1,?_⟩;rw [h2];push_cast;omega
def letterN (n:Nat):Bool:=(decide (97≤n) && decide (n≤122)) || ((decide (65≤n) && decide (n≤90)) || decide (n=95))
def digitN (n:Nat):Bool:=decide (48≤n) && decide (n≤57)
def letterB (c:UInt8):Bool:=letterN c.toNat
def digitB (c:UInt8):Bool:=digitN c.toNat
def wordB (c:UInt8):Bool:=letterB c || digitB c
def identL:List UInt8→Bool
 | []=>false
 | c :: l=>letterB c && l.all wordB && decide (l.length < 64)
def identB (s:ByteArray):Bool:=identL s.data.toList
def byteN (s:ByteArray) (j:Nat):Nat:=(s.data.toList.getD j 0).toNat
theorem byteN_lt (s:ByteArray) (j:Nat):byteN s j < 256:=UInt8.toNat_lt _
theorem byteN_get {s:ByteArray} {j:Nat} (h:j < s.size):s[j].toNat=byteN s j:=by
 unfold byteN
 have h2:j < s.data.toList.length:=by simpa using h
 rw [List.getD_eq_getElem?_getD,lG h2];rfl
def okAt (s:ByteArray) (j:Nat):Bool:=letterN (byteN s j) || (decide (j≠0) && digitN (byteN s j))
theorem identB_iff (s:ByteArray):identB s=true ↔ s.size≠0∧s.size≤64∧∀ j,j < s.size→okAt s j=true:=by
 have hsz:s.size=s.data.toList.length:=Array.length_toList.symm;rw [hsz];unfold identB okAt byteN;generalize s.data.toList=l
 cases l with
 | nil=>simp [identL]
 | cons c l =>
  simp only [identL,Bool.and_eq_true,List.all_eq_true,decide_eq_true_eq,List.length_cons]
  constructor
  ·rintro ⟨⟨h1,h2⟩,h3⟩
   refine ⟨by omega,by omega,fun j hj=>?_⟩
   cases j with
   | zero=>simp only [List.getD_cons_zero];rw [show letterN c.toNat=letterB c from rfl,h1];rfl
   | succ j =>
    have hm:l.getD j 0∈l:=by rw [List.getD_eq_getElem?_getD,lG (by omega)];exact lM _
    have:=h2 _ hm;simp only [List.getD_cons_succ];unfold wordB letterB digitB at this;simpa using this
  ·rintro ⟨_,h2,h3⟩
   refine ⟨⟨?_,fun x hx=>?_⟩,by omega⟩
   ·have:=h3 0 (by omega)
    simpa [letterB] using this
   ·obtain ⟨j,hj,rfl⟩:=List.getElem_of_mem hx
    have:=h3 (j + 1) (by omega)
    have e:l.getD j 0=l[j]:=by rw [List.getD_eq_getElem?_getD,lG hj];rfl
    rw [List.getD_cons_succ,e] at this;unfold wordB letterB digitB;simpa using this
theorem identB_bad {s:ByteArray} {j:Nat} (h:j < s.size) (hb:okAt s j=false):identB s=false:=by
 cases hi:identB s with
 | false=>rfl
 | true=>rw [((identB_iff s).1 hi).2.2 j h] at hb;cases hb
def partsB (k:Int) (ne nn:Nat):Bool :=
 if k=4∨k=5 then decide (ne=1) && decide (nn=0) else if k=6 then decide (ne=nn) else decide (0≤k) && (decide (k≤3) && decide (ne + nn=0))
theorem bl_nil (x:List UInt8):Op.bytesLess x []=false:=by cases x <;> rfl
theorem bl_cons (a b:UInt8) (x y:List UInt8):Op.bytesLess (a :: x) (b :: y)=true ↔ a < b∨(a=b∧Op.bytesLess x y=true):=by
 rw [Op.bytesLess];simp
theorem bl_asymm:∀ (x y:List UInt8),Op.bytesLess x y=true→Op.bytesLess y x=false
 | x,[],h=>by rw [bl_nil] at h;cases h
 | [],b :: y,_=>bl_nil _
 | a :: x,b :: y,h=>by
  cases hc:Op.bytesLess (b :: y) (a :: x) with
  | false=>rfl
  | true =>
   rcases (bl_cons a b x y).1 h with h1 | ⟨h1,h2⟩ <;> rcases (bl_cons b a y x).1 hc with h3 | ⟨h3,h4⟩
   ·rw [UInt8.lt_iff_toNat_lt] at h1 h3;omega
   ·subst h3;rw [UInt8.lt_iff_toNat_lt] at h1;omega
   ·subst h1;rw [UInt8.lt_iff_toNat_lt] at h3;omega
   ·rw [bl_asymm x y h2] at h4;cases h4
theorem bl_total:∀ (x y:List UInt8),Op.bytesLess x y=false→Op.bytesLess y x=true∨x=y
 | [],[],_=>.inr rfl
 | a :: x,[],_=>.inl rfl
 | [],b :: y,h=>by cases h
 | a :: x,b :: y,h=>by
  rcases Nat.lt_trichotomy a.toNat b.toNat with h1 | h1 | h1
  ·rw [(bl_cons a b x y).2 (.inl (UInt8.lt_iff_toNat_lt.2 h1))] at h;cases h
  ·have e:a=b:=UInt8.toNat_inj.1 h1
   subst e
   have h2:Op.bytesLess x y=false:=by
    cases hc:Op.bytesLess x y with
    | false=>rfl
    | true=>rw [(bl_cons a a x y).2 (.inr ⟨rfl,hc⟩)] at h;cases h
   rcases bl_total x y h2 with h3 | h3
   ·exact .inl ((bl_cons a a y x).2 (.inr ⟨rfl,h3⟩))
   ·exact .inr (by rw [h3])
  ·exact .inl ((bl_cons b a y x).2 (.inl (UInt8.lt_iff_toNat_lt.2 h1)))
theorem bl_trans:∀ (x y z:List UInt8),Op.bytesLess x y=true→Op.bytesLess y z=true→Op.bytesLess x z=true
 | x,y,[],_,h=>by rw [bl_nil] at h;cases h
 | x,[],c :: z,h,_=>by rw [bl_nil] at h;cases h
 | [],b :: y,c :: z,_,_=>rfl
 | a :: x,b :: y,c :: z,h,k=>by
  refine (bl_cons a c x z).2 ?_
  rcases (bl_cons a b x y).1 h with h1 | ⟨h1,h2⟩ <;> rcases (bl_cons b c y z).1 k with h3 | ⟨h3,h4⟩
  ·left;rw [UInt8.lt_iff_toNat_lt] at h1 h3 ⊢;omega
  ·subst h3;exact .inl h1
  ·subst h1;exact .inl h3
  ·subst h1;subst h3;exact .inr ⟨rfl,bl_trans x y z h2 h4⟩
theorem toList_inj {a b:ByteArray} (h:a.toList=b.toList):a=b:=by
 rw [ByteArray.toList_eq,ByteArray.toList_eq] at h;exact ByteArray.ext (Array.ext' h)
def ltS (a b:ByteArray):Bool:=Op.bytesLess a.toList b.toList
theorem ltS_facts {p s:ByteArray} (h:ltS p s=true):Op.bytesLess s.toList p.toList=false∧(s.toList == p.toList)=false:=by
 refine ⟨bl_asymm _ _ h,?_⟩
 cases hc:s.toList == p.toList with
 | false=>rfl
 | true =>
  have:=eq_of_beq hc;unfold ltS at h;rw [this] at h;have:=bl_asymm _ _ h;rw [h] at this;cases this
theorem ltS_not {p s:ByteArray} (h:ltS p s=false):(Op.bytesLess s.toList p.toList || s.toList == p.toList)=true:=by
 rcases bl_total _ _ h with h1 | h1
 ·rw [h1];rfl
 ·rw [h1];simp
def badP:Option ByteArray→ByteArray→Bool
 | none,_=>false
 | some q,s=>!ltS q s
def namesE:Option ByteArray→List ByteArray→Int
 | _,[]=>0
 | p,s :: r=>if identB s=false then 7 else if badP p s=true then 1 else namesE (some s) r
theorem namesE_cons (p:Option ByteArray) (s:ByteArray) (r:List ByteArray):namesE p (s :: r)=if identB s=false then 7 else if badP p s=true then 1 else namesE (some s) r:=by
 cases p <;> rfl
mutual
def checkT:Ty→Int→Int
 | .mk k es ns,lv=>if 32 < lv then 4 else if partsB k es.length ns.length=false then 1 else if namesE none ns≠0 then namesE none ns else checkL es (lv + 1)
def checkL:List Ty→Int→Int
 | [],_=>0
 | e :: es,lv=>if checkT e lv≠0 then checkT e lv else checkL es lv
end
theorem checkT_eq (k:Int) (es:List Ty) (ns:List ByteArray) (lv:Int):checkT (.mk k es ns) lv=if 32 < lv then 4 else if partsB k es.length ns.length=false then 1 else if namesE none ns≠0 then namesE none ns else checkL es (lv + 1):=by
 rw [checkT]
mutual
def eqT:Ty→Ty→Bool
 | .mk k es ns,.mk k' es' ns'=>decide (k=k') && (decide (ns=ns') && eqL es es')
def eqL:List Ty→List Ty→Bool
 | [],[]=>true
 | e :: es,e' :: es'=>eqT e e' && eqL es es'
 | [],_ :: _=>false
 | _ :: _,[]=>false
end
def wordS (k:Int):ByteArray :=
 if k=1 then ⟨#[98,111,111,108]⟩ else if k=2 then ⟨#[110,117,109,98,101,114]⟩ else if k=3 then ⟨#[115,116,114,105,110,103]⟩ else if k=4 then ⟨#[108,105,115,116]⟩ else
 if k=5 then ⟨#[109,97,112]⟩ else if k=6 then ⟨#[111,98,106,101,99,116]⟩ else ⟨#[97,110,121]⟩
def joinS (l:List ByteArray):ByteArray:=⟨(Lib.join (l.map (·.data.toList)) [44,32]).toArray⟩
mutual
def fmtT:Ty→ByteArray
 | .mk k es ns=>if k=4∨k=5 then (if es.length=1 then wordS k ++ ⟨#[40]⟩ ++ fmtH es ++ ⟨#[41]⟩ else wordS k) else if k=6 then ⟨#[111,98,106,101,99,116,40,123]⟩ ++ joinS (fmtL es ns) ++ ⟨#[125,41]⟩ else wordS k
def fmtH:List Ty→ByteArray
 | []=>⟨#[]⟩
 | e :: _=>fmtT e
def fmtL:List Ty→List ByteArray→List ByteArray
 | [],_=>[]
 | e :: es,ns=>match ns with
  | []=>[]
  | n :: ns=>(n ++ ⟨#[32,61,32]⟩ ++ fmtT e) :: fmtL es ns
end
theorem size_eq (s:ByteArray):s.size=s.data.toList.length:=Array.length_toList.symm
end Go.Proofs.YtibiiafcnaijeaaGreat
namespace Go.Proofs.YtibiiafcnaijeaaGreat
open Go Go.RowKit
set_option linter.unusedVariables false
set_option linter.unusedSimpArgs false
set_option maxRecDepth 100000
set_option maxHeartbeats 40000000
theorem hid {p:Prop} (h:p):Hid p:=h
abbrev strs (l:List ByteArray):List Value:=l.map Value.string
abbrev tri (r:Value × Value × Value):Value:=.agg #[r.1,r.2.1,r.2.2]
def CV (P:Nat→Prop) (w:World) (v:Value) (vs:List Value):Prop:=vs.length≤140737488355328∧(
 (vs = []∧∃ oa c,v=.slice oa 0 c)∨∃ g o c,P g∧v=.slice (some ⟨g,o,none⟩) vs.length c∧∀ (i:Nat) u,vs[i]? = some u→w.cell? ⟨g,o + i,none⟩=some u)
def SV (P:Nat→Prop) (w:World) (v:Value) (l:List ByteArray):Prop:=CV P w v (strs l)∧∀ s∈l,s.size≤140737488355328
def RV (P:Nat→Prop) (w:World) (v:Value) (rs:List (Value × Value × Value)):Prop:=rs.length≤140737488355328∧(
 (rs = []∧∃ oa c,v=.slice oa 0 c)∨∃ g o c,P g∧v=.slice (some ⟨g,o,none⟩) rs.length c ∧
   ∀ (i:Nat) r,rs[i]? = some r→w.cell? ⟨g,o + i * 3,none⟩=some r.1∧w.cell? ⟨g,o + i * 3 + 1,none⟩=some r.2.1∧w.cell? ⟨g,o + i * 3 + 2,none⟩=some r.2.2)
inductive TV (P:Nat→Prop) (w:World):Value→Ty→Prop where
 | mk (k:Int) (es:List Ty) (ns:List ByteArray) (ve vn:Value) (rs:List (Value × Value × Value)) (hn:SV P w vn ns) (hr:RV P w ve rs) (hl:rs.length=es.length)
  (he:∀ (i:Nat) r e,rs[i]? = some r→es[i]? = some e→TV P w (tri r) e):TV P w (.agg #[.int .i64 k,ve,vn]) (.mk k es ns)
def LV (P:Nat→Prop) (w:World) (v:Value) (es:List Ty):Prop :=
 ∃ rs,RV P w v rs∧rs.length=es.length∧∀ (i:Nat) r e,rs[i]? = some r→es[i]? = some e→TV P w (tri r) e
theorem TV.mk' {P:Nat→Prop} {w:World} {k:Int} {es:List Ty} {ns:List ByteArray} {ve vn:Value} (hn:SV P w vn ns) (he:LV P w ve es):TV P w (.agg #[.int .i64 k,ve,vn]) (.mk k es ns):=by
 obtain ⟨rs,h1,h2,h3⟩:=he;exact .mk k es ns ve vn rs hn h1 h2 h3
theorem TV.out {P:Nat→Prop} {w:World} {v:Value} {k:Int} {es:List Ty} {ns:List ByteArray} (h:TV P w v (.mk k es ns)):∃ ve vn,v=.agg #[.int .i64 k,ve,vn]∧LV P w ve es∧SV P w vn ns:=by
 cases h with
 | mk _ _ _ ve vn rs hn hr hl he=>exact ⟨ve,vn,rfl,⟨rs,hr,hl,he⟩,hn⟩
def ZK (P:Nat→Prop) (w w':World):Prop:=∀ (g o:Nat) u,P g→w.cell? ⟨g,o,none⟩=some u→w'.cell? ⟨g,o,none⟩=some u
theorem ZK.refl (P:Nat→Prop) (w:World):ZK P w w:=fun _ _ _ _ h=>h
theorem ZK.trans {P:Nat→Prop} {u v w:World} (h:ZK P u v) (k:ZK P v w):ZK P u w:=fun g o x hp hx=>k g o x hp (h g o x hp hx)
theorem ZK.below {P:Nat→Prop} {w w':World} (h:Below w.heap.size w w'):ZK P w w':=fun g o u _ hu=>by
 have hb:=World.block_lt_of_cell? w _ hu;rw [h.cell (p:=⟨g,o,none⟩) hb];exact hu
theorem CV.keep {P Q:Nat→Prop} {w w':World} {v:Value} {vs:List Value} (h:CV P w v vs) (k:ZK P w w') (hq:∀ g,P g→Q g):CV Q w' v vs :=
 ⟨h.1,h.2.imp id fun ⟨g,o,c,hp,e,hc⟩=>⟨g,o,c,hq g hp,e,fun i u hu=>k _ _ _ hp (hc i u hu)⟩⟩
theorem SV.keep {P Q:Nat→Prop} {w w':World} {v:Value} {l:List ByteArray} (h:SV P w v l) (k:ZK P w w') (hq:∀ g,P g→Q g):SV Q w' v l:=⟨h.1.keep k hq,h.2⟩
theorem RV.keep {P Q:Nat→Prop} {w w':World} {v:Value} {rs:List (Value × Value × Value)} (h:RV P w v rs) (k:ZK P w w') (hq:∀ g,P g→Q g):RV Q w' v rs :=
 ⟨h.1,h.2.imp id fun ⟨g,o,c,hp,e,hc⟩=>⟨g,o,c,hq g hp,e,fun i r hr=>⟨k _ _ _ hp (hc i r hr).1,k _ _ _ hp (hc i r hr).2.1,k _ _ _ hp (hc i r hr).2.2⟩⟩⟩
theorem TV.keep {P Q:Nat→Prop} {w w':World} {v:Value} {t:Ty} (h:TV P w v t) (k:ZK P w w') (hq:∀ g,P g→Q g):TV Q w' v t:=by
 induction h with
 | mk k' es ns ve vn rs hn hr hl he ih=>exact .mk k' es ns ve vn rs (hn.keep k hq) (hr.keep k hq) hl ih
theorem LV.keep {P Q:Nat→Prop} {w w':World} {v:Value} {es:List Ty} (h:LV P w v es) (k:ZK P w w') (hq:∀ g,P g→Q g):LV Q w' v es:=by
 obtain ⟨rs,h1,h2,h3⟩:=h;exact ⟨rs,h1.keep k hq,h2,fun i r e hr he=>(h3 i r e hr he).keep k hq⟩
theorem TV.bel {P:Nat→Prop} {w w':World} {v:Value} {t:Ty} (h:TV P w v t) (hb:Below w.heap.size w w'):TV P w' v t:=h.keep (ZK.below hb) fun _ h=>h
theorem LV.bel {P:Nat→Prop} {w w':World} {v:Value} {t:List Ty} (h:LV P w v t) (hb:Below w.heap.size w w'):LV P w' v t:=h.keep (ZK.below hb) fun _ h=>h
theorem SV.bel {P:Nat→Prop} {w w':World} {v:Value} {t:List ByteArray} (h:SV P w v t) (hb:Below w.heap.size w w'):SV P w' v t:=h.keep (ZK.below hb) fun _ h=>h
theorem CV.len {P:Nat→Prop} {w:World} {v:Value} {vs:List Value} (h:CV P w v vs):∃ oa c,v=.slice oa vs.length c:=by
 rcases h.2 with ⟨rfl,oa,c,rfl⟩ | ⟨g,o,c,_,rfl,_⟩
 ·exact ⟨oa,c,rfl⟩
 ·exact ⟨_,c,rfl⟩
theorem SV.len {P:Nat→Prop} {w:World} {v:Value} {l:List ByteArray} (h:SV P w v l):∃ oa c,v=.slice oa l.length c:=by
 have:=h.1.len
 rwa [List.length_map] at this
theorem LV.len {P:Nat→Prop} {w:World} {v:Value} {es:List Ty} (h:LV P w v es):∃ oa c,v=.slice oa es.length c:=by
 obtain ⟨rs,h1,h2,h3⟩:=h
 rcases h1.2 with ⟨rfl,oa,c,rfl⟩ | ⟨g,o,c,_,rfl,_⟩
 ·exact ⟨oa,c,by rw [← h2];rfl⟩
 ·exact ⟨_,c,by rw [h2]⟩
theorem SV.le {P:Nat→Prop} {w:World} {v:Value} {l:List ByteArray} (h:SV P w v l):l.length≤140737488355328:=by
 have:=h.1.1
 rwa [List.length_map] at this
theorem LV.le {P:Nat→Prop} {w:World} {v:Value} {es:List Ty} (h:LV P w v es):es.length≤140737488355328:=by
 obtain ⟨rs,h1,h2,h3⟩:=h;have:=h1.1
 omega
theorem SV.at {P:Nat→Prop} {w:World} {v:Value} {l:List ByteArray} (h:SV P w v l) {k:Nat} (hk:k < l.length) :
  ∃ g o c,v=.slice (some ⟨g,o,none⟩) l.length c∧w.cell? ⟨g,o + k,none⟩=some (.string l[k]):=by
 rcases h.1.2 with ⟨h0,_⟩ | ⟨g,o,c,_,rfl,hc⟩
 ·have:l = []:=by simpa using h0
  subst this;cases hk
 ·refine ⟨g,o,c,by rw [List.length_map],hc k _ ?_⟩
  rw [List.getElem?_map,lG hk];rfl
theorem LV.at {P:Nat→Prop} {w:World} {v:Value} {es:List Ty} (h:LV P w v es) {k:Nat} (hk:k < es.length) :
  ∃ g o c x y z,v=.slice (some ⟨g,o,none⟩) es.length c∧w.cell? ⟨g,o + k * 3,none⟩=some x∧w.cell? ⟨g,o + k * 3 + 1,none⟩=some y∧w.cell? ⟨g,o + k * 3 + 2,none⟩=some z∧TV P w (.agg #[x,y,z]) es[k]:=by
 obtain ⟨rs,h1,h2,h3⟩:=h
 rcases h1.2 with ⟨rfl,_⟩ | ⟨g,o,c,_,rfl,hc⟩
 ·simp at h2;omega
 ·have hr:rs[k]? = some rs[k]:=lG (by omega)
  obtain ⟨a1,a2,a3⟩:=hc k _ hr;exact ⟨g,o,c,_,_,_,by rw [h2],a1,a2,a3,h3 k _ _ hr (lG hk)⟩
theorem TV.agg3 {P:Nat→Prop} {w:World} {x y z:Value} {t:Ty} (h:TV P w (.agg #[x,y,z]) t):∃ k oy my cy oz mz cz,x=.int .i64 k∧y=.slice oy my cy∧z=.slice oz mz cz:=by
 obtain ⟨k,es,ns⟩:=t;obtain ⟨ve,vn,e,hE,hN⟩:=h.out;obtain ⟨o1,c1,rfl⟩:=hE.len;obtain ⟨o2,c2,rfl⟩:=hN.len;simp only [Value.agg.injEq,Array.mk.injEq,List.cons.injEq,and_true] at e;exact ⟨k,_,_,_,_,_,_,e.1,e.2.1,e.2.2⟩
theorem LV.at2 {P:Nat→Prop} {w:World} {v:Value} {es:List Ty} (h:LV P w v es) {k:Nat} (hk:k < es.length) :
  ∃ g o c k' oy my cy oz mz cz,v=.slice (some ⟨g,o,none⟩) es.length c∧w.cell? ⟨g,o + k * 3,none⟩=some (.int .i64 k')∧w.cell? ⟨g,o + k * 3 + 1,none⟩=some (.slice oy my cy)∧w.cell? ⟨g,o + k * 3 + 2,none⟩=some (.slice oz mz cz)∧TV P w (.agg #[.int .i64 k',.slice oy my cy,.slice oz mz cz]) es[k]:=by
 obtain ⟨g,o,c,x,y,z,e,a1,a2,a3,hT⟩:=h.at hk;obtain ⟨k',oy,my,cy,oz,mz,cz,rfl,rfl,rfl⟩:=hT.agg3;exact ⟨g,o,c,k',oy,my,cy,oz,mz,cz,e,a1,a2,a3,hT⟩
theorem zbb {W w1:World} (hb:Below W.heap.size W w1) {g o:Nat} {u:Value} (h:W.cell? ⟨g,o,none⟩=some u):w1.cell? ⟨g,o,none⟩=some u :=
 ZK.below (P:=fun _=>True) hb g o u trivial h
theorem TV.elem {P:Nat→Prop} {w:World} {v:Value} {k:Int} {es:List Ty} {ns:List ByteArray} (h:TV P w v (.mk k es ns)):∀ e∈es,∃ u,TV P w u e:=by
 obtain ⟨ve,vn,_,hE,_⟩:=h.out;intro e he;obtain ⟨i,hi,rfl⟩:=List.getElem_of_mem he;obtain ⟨_,_,_,x,y,z,_,_,_,_,hT⟩:=hE.at hi;exact ⟨_,hT⟩
theorem TV.names_le {P:Nat→Prop} {w:World} {v:Value} {t:Ty} (h:TV P w v t):namesT t≤sizeT t * 140737488355328:=by
 induction t using Ty.ind generalizing v with
 | h k es ns ih =>
  have hel:=h.elem;obtain ⟨ve,vn,_,_,hN⟩:=h.out;have hn:=hN.le
  have key:∀ l:List Ty,(∀ e∈l,e∈es)→namesL l≤sizeL l * 140737488355328:=by
   intro l
   induction l with
   | nil=>intro _;simp [namesL]
   | cons e l ih2 =>
    intro hl;obtain ⟨u,hu⟩:=hel e (hl e (List.mem_cons_self ..));have h1:=ih e (hl e (List.mem_cons_self ..)) hu
    have h2:=ih2 fun x hx=>hl x (List.mem_cons_of_mem _ hx)
    unfold namesL sizeL
    omega
  have:=key es fun _ h=>h
  unfold namesT sizeT
  omega
theorem box3 (w:World) (a b c:Value) (T:Nat):Below w.heap.size w (w.alloc (.cells #[a,b,c] T))∧(w.alloc (.cells #[a,b,c] T)).cell? ⟨w.heap.size,0,none⟩=some a∧(w.alloc (.cells #[a,b,c] T)).cell? ⟨w.heap.size,1,none⟩=some b∧(w.alloc (.cells #[a,b,c] T)).cell? ⟨w.heap.size,2,none⟩=some c∧w.heap.size < (w.alloc (.cells #[a,b,c] T)).heap.size:=by
 refine ⟨(Below.refl _ _).alloc (nR _) _,?_,?_,?_,by simp⟩ <;> simp [World.cell?_alloc_new]
theorem CV.ex {P:Nat→Prop} {w:World} {v:Value} {vs:List Value} (h:CV P w v vs):CV (fun g=>P g∧g < w.heap.size) w v vs:=by
 refine ⟨h.1,?_⟩
 rcases h.2 with h0 | ⟨g,o,c,hp,e,hc⟩
 ·exact .inl h0
 ·cases vs with
  | nil=>exact .inl ⟨rfl,_,_,e⟩
  | cons x r=>exact .inr ⟨g,o,c,⟨hp,World.block_lt_of_cell? w _ (hc 0 x rfl)⟩,e,hc⟩
theorem SV.ex {P:Nat→Prop} {w:World} {v:Value} {l:List ByteArray} (h:SV P w v l):SV (fun g=>P g∧g < w.heap.size) w v l:=⟨h.1.ex,h.2⟩
theorem RV.ex {P:Nat→Prop} {w:World} {v:Value} {rs:List (Value × Value × Value)} (h:RV P w v rs):RV (fun g=>P g∧g < w.heap.size) w v rs:=by
 refine ⟨h.1,?_⟩
 rcases h.2 with h0 | ⟨g,o,c,hp,e,hc⟩
 ·exact .inl h0
 ·cases rs with
  | nil=>exact .inl ⟨rfl,_,_,e⟩
  | cons x r=>exact .inr ⟨g,o,c,⟨hp,World.block_lt_of_cell? w _ (hc 0 x rfl).1⟩,e,hc⟩
theorem TV.ex {P:Nat→Prop} {w:World} {v:Value} {t:Ty} (h:TV P w v t):TV (fun g=>P g∧g < w.heap.size) w v t:=by
 induction h with
 | mk k es ns ve vn rs hn hr hl he ih=>exact .mk k es ns ve vn rs hn.ex hr.ex hl ih
theorem TV.mono {P Q:Nat→Prop} {w:World} {v:Value} {t:Ty} (h:TV P w v t) (hq:∀ g,P g→Q g):TV Q w v t:=h.keep (ZK.refl P w) hq
theorem ZK.chg {P B:Nat→Prop} {w w':World} (h:Chg B w w') (hn:∀ g,P g→¬ B g):ZK P w w':=fun g o u hp hu=>zcc h (hn g hp) hu
def flat:List (Value × Value × Value)→List Value
 | []=>[]
 | r :: l=>r.1 :: r.2.1 :: r.2.2 :: flat l
theorem flat_len:∀ l,(flat l).length=l.length * 3
 | []=>rfl
 | r :: l=>by rw [flat,List.length_cons,List.length_cons,List.length_cons,flat_len l,List.length_cons];omega
theorem flat_app:∀ a b,flat (a ++ b)=flat a ++ flat b
 | [],_=>rfl
 | r :: l,b=>by rw [List.cons_append,flat,flat,flat_app l b];rfl
theorem flat_get:∀ (l:List (Value × Value × Value)) (i:Nat) (r:Value × Value × Value),l[i]? = some r→(flat l)[i * 3]? = some r.1∧(flat l)[i * 3 + 1]? = some r.2.1∧(flat l)[i * 3 + 2]? = some r.2.2
 | [],i,r,h=>by simp at h
 | x :: l,0,r,h=>by simp at h;subst h;exact ⟨rfl,rfl,rfl⟩
 | x :: l,i + 1,r,h=>by
  obtain ⟨h1,h2,h3⟩:=flat_get l i r (by simpa using h);rw [flat,show (i + 1) * 3=i * 3 + 1 + 1 + 1 by omega];exact ⟨by simpa using h1,by simpa [Nat.add_assoc] using h2,by simpa [Nat.add_assoc] using h3⟩
def OwnL (B box:Nat) (R:Nat→Prop) (w:World) (v:Value) (ts:List Ty):Prop :=
 ∃ rs:List (Value × Value × Value),Made B w 61 3 v ts.length (flat rs)∧rs.length=ts.length ∧
  ∀ (i:Nat) r t,rs[i]? = some r→ts[i]? = some t→TV (fun g=>R g∧g < w.heap.size∧g≠box∧v.ownBlock≠some g) w (tri r) t
theorem OwnL.nil (B box:Nat) (R:Nat→Prop) (w:World):OwnL B box R w (.slice none 0 0) []:=⟨[],Made.nil _ _ _ _,rfl,fun i r t h=>by simp at h⟩
theorem OwnL.later {B box:Nat} {R:Nat→Prop} {w w':World} {v:Value} {ts:List Ty} (h:OwnL B box R w v ts) (hb:Below w.heap.size w w'):OwnL B box R w' v ts:=by
 obtain ⟨rs,h1,h2,h3⟩:=h;exact ⟨rs,h1.later hb,h2,fun i r t hr ht=>(h3 i r t hr ht).keep (ZK.below hb) fun g hg=>⟨hg.1,Nat.lt_of_lt_of_le hg.2.1 hb.size,hg.2.2⟩⟩
theorem OwnL.push {B box:Nat} {R S:Nat→Prop} {w w':World} {v v':Value} {ts:List Ty} {t:Ty} {x y z:Value} (hB:B≤w.heap.size)
  (h:∃ rs:List (Value × Value × Value),Made B w 61 3 v ts.length (flat rs)∧rs.length=ts.length ∧
    (∀ (i:Nat) r t,rs[i]? = some r→ts[i]? = some t→TV (fun g=>R g∧g < w.heap.size∧g≠box∧v.ownBlock≠some g) w (tri r) t)∧w'.ownsRow 0 61 3 v' (ts.length + 1) (flat rs ++ [x,y,z]))
  (ht:TV S w (.agg #[x,y,z]) t) (hs:∀ g,S g→R g∧g≠box∧v.ownBlock≠some g)
  (hc:Chg (fun k=>v.ownBlock=some k) w w') (hp:v'.ownBlock=v.ownBlock∨∃ g,v'.ownBlock=some g∧w.heap.size≤g):OwnL B box R w' v' (ts ++ [t]):=by
 obtain ⟨rs,h1,h2,h3,hown⟩:=h
 have hq:∀ g,(R g∧g < w.heap.size∧g≠box∧v.ownBlock≠some g)→R g∧g < w'.heap.size∧g≠box∧v'.ownBlock≠some g:=fun g ⟨a1,a2,a3,a4⟩ =>
  ⟨a1,Nat.lt_of_lt_of_le a2 hc.size,a3,by
   rcases hp with e | ⟨g',e,hg'⟩
   ·rw [e];exact a4
   ·rw [e];intro e2;cases e2;omega⟩
 have hk:ZK (fun g=>R g∧g < w.heap.size∧g≠box∧v.ownBlock≠some g) w w':=ZK.chg hc fun g hg=>hg.2.2.2
 refine ⟨rs ++ [(x,y,z)],?_,by simp [h2],fun i r t' hr ht'=>?_⟩
 ·rw [flat_app,List.length_append]
  exact h1.grow hB hown hp
 ·by_cases hi:i < rs.length
  ·rw [List.getElem?_append_left hi] at hr
   rw [List.getElem?_append_left (by omega)] at ht';exact (h3 i r t' hr ht').keep hk hq
  ·have hlt:=(List.getElem?_eq_some_iff.1 hr).1
   obtain rfl:i=rs.length:=by simp at hlt;omega
   rw [List.getElem?_append_right (nR _)] at hr;rw [List.getElem?_append_right (by omega)] at ht';rw [h2] at ht';simp at hr ht';subst hr ht';exact (ht.ex.mono fun g hg=>⟨(hs g hg.1).1,hg.2,(hs g hg.1).2⟩).keep hk hq
theorem OwnL.store {B box o:Nat} {R:Nat→Prop} {w:World} {v:Value} {ts:List Ty} (h:OwnL B box R w v ts) (hB:box < B) (x:Value):OwnL B box R (w.setCell ⟨box,o,none⟩ x) v ts:=by
 obtain ⟨rs,h1,h2,h3⟩:=h;have hc:Chg (fun k=>k=box) w (w.setCell ⟨box,o,none⟩ x):=Chg.setCell w box o x rfl;exact ⟨rs,made_keep h1 hc fun k hk=>by omega,h2,fun i r t hr ht=>(h3 i r t hr ht).keep (ZK.chg hc fun g hg=>hg.2.2.1) fun g hg=>⟨hg.1,Nat.lt_of_lt_of_le hg.2.1 hc.size,hg.2.2⟩⟩
theorem OwnL.read {B box:Nat} {R:Nat→Prop} {w:World} {v:Value} {ts:List Ty} (h:OwnL B box R w v ts) (hR:∀ g,B≤g→R g) (hl:ts.length≤140737488355328):LV R w v ts:=by
 obtain ⟨rs,h1,h2,h3⟩:=h;refine ⟨rs,⟨by omega,?_⟩,h2,fun i r t hr ht=>(h3 i r t hr ht).mono fun g hg=>hg.1⟩
 rcases h1.1.2 with ⟨rfl,h0⟩ | ⟨g,cap,cur,rfl,p1,p2,p3,p4,p5,p6⟩
 ·exact .inl ⟨List.eq_nil_of_length_eq_zero (by omega),_,_,rfl⟩
 ·refine .inr ⟨g,0,cap,hR g (h1.2 g rfl),by rw [h2],fun i r hr=>?_⟩
  obtain ⟨a1,a2,a3⟩:=flat_get rs i r hr;rw [Nat.zero_add];exact ⟨cells_at p2 p6 a1,cells_at p2 p6 a2,cells_at p2 p6 a3⟩
theorem OwnL.slice {B box:Nat} {R:Nat→Prop} {w:World} {v:Value} {ts:List Ty} (h:OwnL B box R w v ts):∃ oa m c,v=.slice oa m c:=by
 obtain ⟨rs,h1,_⟩:=h;exact zw h1.1
end Go.Proofs.YtibiiafcnaijeaaGreat
namespace Go.Proofs.YtibiiafcnaijeaaGreat
open Go Go.RowKit Go.Shelf Go.Lib
set_option linter.unusedVariables false
set_option linter.unusedSimpArgs false
set_option maxRecDepth 100000
set_option maxHeartbeats 40000000
def Row (w:World) (v:Value) (l:List ByteArray):Prop :=
 (v=.slice none 0 0∧l = []) ∨
 ∃ g pad,v=.slice (some ⟨g,0,none⟩) l.length (l.length + pad.length)∧w.heap[g]? = some (.cells (strs l ++ pad).toArray 9)∧l.length + pad.length≤9223372036854775807
theorem Chg.past {B:Nat→Prop} {w v:World} (h:Chg B w v) (b o:Nat) (vs:List Value) (hb:w.heap.size≤b):Chg B w (v.setCells b o vs):=by
 have hc:Chg (fun k=>k=b) v (v.setCells b o vs):=Chg.setCells _ _ _ _ rfl;exact ⟨hc.os.trans h.os,hc.tape.trans h.tape,hc.output.trans h.output,Nat.le_trans h.size hc.size,fun k hk hn=>(hc.block k (Nat.lt_of_lt_of_le hk h.size) (by omega)).trans (h.block k hk hn)⟩
theorem Row.lt {w:World} {v:Value} {l:List ByteArray} (h:Row w v l) {g:Nat} (hg:v.ownBlock=some g):g < w.heap.size:=by
 rcases h with ⟨rfl,_⟩ | ⟨g',pad,rfl,hh,_⟩
 ·cases hg
 ·cases hg
  exact (aS hh).1
theorem Row.of_same {w w':World} {v:Value} {l:List ByteArray} (h:Row w v l) (hk:∀ g,v.ownBlock=some g→w'.heap[g]? = w.heap[g]?):Row w' v l:=by
 rcases h with h | ⟨g',pad,rfl,hh,hc⟩
 ·exact .inl h
 ·exact .inr ⟨g',pad,rfl,by rw [hk g' rfl];exact hh,hc⟩
theorem Row.chg {B:Nat→Prop} {w w':World} {v:Value} {l:List ByteArray} (h:Row w v l) (hc:Chg B w w') (hn:∀ g,v.ownBlock=some g→¬ B g):Row w' v l :=
 h.of_same fun g hg=>hc.block g (h.lt hg) (hn g hg)
theorem set_take_drop {α:Type} (cs:List α) (o:Nat) (v:α) (r:List α) (h:o + r.length + 1≤cs.length) :
  (cs.set o v).take (o + 1) ++ r ++ (cs.set o v).drop (o + 1 + r.length)=cs.take o ++ (v :: r) ++ cs.drop (o + (r.length + 1)):=by
 have h1:(cs.set o v).take (o + 1)=cs.take o ++ [v]:=by
  rw [List.take_succ_eq_append_getElem (by simp;omega)]
  congr 1
  ·rw [List.take_set,List.set_eq_of_length_le (by rw [List.length_take];omega)]
  ·simp
 rw [h1,List.drop_set_of_lt (by omega),show o + (r.length + 1)=o + 1 + r.length by omega];simp
theorem heap_setCells {b:Nat}:∀ (vs:List Value) (o:Nat) (cs:List Value) (t:Nat) (fz:Nat × Nat) (w:World),w.heap[b]? = some (.cells cs.toArray t fz)→o + vs.length≤cs.length →
  (w.setCells b o vs).heap[b]? = some (.cells (cs.take o ++ vs ++ cs.drop (o + vs.length)).toArray t fz)
 | [],o,cs,t,fz,w,h,hl=>by rw [World.setCells];simpa using h
 | v :: r,o,cs,t,fz,w,h,hl=>by
  simp only [List.length_cons] at hl
  have h1:(w.setCell ⟨b,o,none⟩ v).heap[b]? = some (.cells (cs.set o v).toArray t fz):=by
   simp [World.setCell,Array.getElem?_modify,h]
  have:=heap_setCells r (o + 1) (cs.set o v) t fz _ h1 (by simp;omega);rw [World.setCells,this,set_take_drop cs o v r (by omega)]
  rfl
theorem shape_in {w:World} {b:Nat} {cs:Array Value} {t:Nat} (h:w.heap[b]? = some (.cells cs t (0,0))):w.shape? b=some (t,cs.size):=by
 simp [World.shape?,h]
def InsPost (v:Value) (l:List ByteArray) (i:Nat) (x:ByteArray) (w:World) (e:Ending) (w':World):Prop :=
 ∃ v',e=.returned v'∧Row w' v' (l.take i ++ x :: l.drop i)∧(v'.ownBlock=v.ownBlock∨∃ g,v'.ownBlock=some g∧w.heap.size≤g)∧Chg (fun k=>v.ownBlock=some k) w w'
theorem row_get {w:World} {g:Nat} {l:List ByteArray} {pad:List Value} (h:w.heap[g]? = some (.cells (strs l ++ pad).toArray 9)) (j:Nat) (v:Value) (hj:(strs l)[j]? = some v) :
  w.cell? ⟨g,0 + j,none⟩=some v:=by
 have hlt:j < (strs l).length:=(List.getElem?_eq_some_iff.1 hj).1;rw [cII h];simp only [Nat.zero_add,List.getElem?_toArray];rw [List.getElem?_append_left hlt];exact hj
theorem one_strs (l:List ByteArray):∀ v∈strs l,v.oneCell'=true:=by
 intro v hv;obtain ⟨x,_,rfl⟩:=List.mem_map.1 hv
 rfl
theorem row_mk {w:World} {g cap:Nat} {l:List ByteArray} {cs:Array Value} (h:w.heap[g]? = some (.cells cs 9)) (hs:cs.size=cap) (hc:cap≤9223372036854775807)
  (hl:l.length≤cap) (hp:cs.toList.take l.length=strs l):Row w (.slice (some ⟨g,0,none⟩) l.length cap) l:=by
 have h0:cs.toList.length=cap:=by simp [hs]
 have hlen:l.length + (cs.toList.drop l.length).length=cap:=by rw [List.length_drop,h0];omega
 refine .inr ⟨g,cs.toList.drop l.length,by rw [hlen],?_,by omega⟩;rw [← hp,List.take_append_drop];exact h
theorem shift_list {α:Type} (A pad:List α) (i:Nat) (x:α) (hi:i < A.length) (B:List α)
  (hB:B=(A ++ pad).take (i + 1) ++ A.drop i ++ (A ++ pad).drop (i + 1 + (A.drop i).length)) :
  B.take i ++ [x] ++ B.drop (i + 1)=A.take i ++ x :: A.drop i ++ pad.drop 1:=by
 have e1:(A ++ pad).take (i + 1)=A.take (i + 1):=List.take_append_of_le_length (by omega)
 have e2:(A ++ pad).drop (i + 1 + (A.drop i).length)=pad.drop 1:=by
  rw [List.length_drop,show i + 1 + (A.length - i)=A.length + 1 by omega,List.drop_append,List.drop_of_length_le (by omega),show A.length + 1 - A.length=1 by omega]
  rfl
 have hl:(A.take (i + 1)).length=i + 1:=by rw [List.length_take];omega
 rw [e1,e2,List.append_assoc] at hB;subst hB;rw [List.take_append_of_le_length (by omega),List.take_take,show min i (i + 1)=i by omega,List.drop_left' hl];simp
theorem ins_any (v:Value) (l:List ByteArray) (i:Nat) (hi:i≤l.length) (hl:l.length≤100000) (x:ByteArray) (vb:Nat) (w:World) (hr:Row w v l)
  (hvb:w.heap[vb]? = some (.cells #[.string x] 9)) (hne:v.ownBlock≠some vb) :
  Calls Tryz.prog 102 #[v,.int .i64 i,.slice (some ⟨vb,0,none⟩) 1 1] w (InsPost v l i x w):=by
 have hvs:∀ j u,[Value.string x][j]? = some u→w.cell? ⟨vb,0 + j,none⟩=some u:=fun j u hj=>by
  rw [cII hvb];simpa using hj
 have h1v:∀ u∈[Value.string x],u.oneCell'=true:=by simp [Value.oneCell']
 have t3:Tryz.laysNm222_ren.t 9=9:=rfl
 have hz:∀ n,(Builtin.zeroCells (Value.string ⟨#[]⟩).cells n).size=n:=fun n=>by rw [size_zeroCells];simp [Value.cells]
 rcases hr with ⟨rfl,rfl⟩ | ⟨g,pad,rfl,hh,hcap⟩
 ·have h0:i=0:=by simpa using hi
  subst h0;have hge:=grownCap_ge w 1 0 9;have hle:=grownCap_le_maxLen w 1 0 9 (by decide);refine (Any2.slices_Insert_string_end_grow Tryz.laysNm222 none 0 0 vb 0 1 1 [] [.string x] w (by omega) (by omega) (by omega) (by omega) rfl rfl (fun _=>rfl) (by simp) hvs h1v).mono ?_;rintro e w' ⟨rfl,rfl⟩;rw [t3,Nat.zero_add];refine ⟨_,rfl,?_,.inr ⟨_,rfl,nR _⟩,(Chg.drew _ _).trans (Chg.alloc _ _ _)⟩;refine row_mk (l:=[x]) (zhh w.drew _) ?_ hle hge ?_
  ·rw [Array.size_append,hz];simp;omega
  ·simp [strs]
 ·have hgl:g < w.heap.size:=(aS hh).1
  have hil:(strs l).length=l.length:=by simp
  by_cases hroom:1≤pad.length
  ·by_cases hend:i=l.length
   ·subst hend
    refine (Any2.slices_Insert_string_end_room Tryz.laysNm222 g 0 l.length (l.length + pad.length) vb 0 1 1 [.string x] w (by omega) (by omega) (by omega) rfl ?_ ?_ hvs h1v).mono ?_
    ·intro j hj
     rw [cII hh];simp only [List.getElem?_toArray,Option.isSome_iff_exists];exact ⟨_,lG (by simp;omega)⟩
    ·intro j hj
     exact zff hh _
    ·rintro e w' ⟨rfl,rfl⟩
     refine ⟨_,rfl,?_,.inl rfl,Chg.setCells _ _ _ _ rfl⟩;have hH:=heap_setCells [.string x] (0 + l.length) (strs l ++ pad) 9 (0,0) w hh (by simp;omega);rw [show (l.take l.length ++ x :: l.drop l.length)=l ++ [x] by simp];have:=row_mk (l:=l ++ [x]) (cap:=l.length + pad.length) hH (by simp;omega) (by omega) (by simp;omega) (by simp [strs,List.take_append];exact List.take_of_length_le (by simp));simpa using this
   ·have hilt:i < l.length:=by omega
    have hshape:=shape_in hh
    refine (Any2.slices_Insert_string_shift Tryz.laysNm222 g 0 l.length (l.length + pad.length) i vb 0 1 1 (strs l) [.string x] w hilt (by omega) (by omega) (by omega) (fun e=>hne (by rw [e];rfl)) hil rfl
     (fun j u hj=>row_get hh j u hj) ?_ (fun j _=>zff hh _) hvs (one_strs l) h1v _ _ _ _ (shape_in hvb) hshape (by rw [List.size_toArray,List.length_append,hil];omega) (zff hvb _) (zff hvb _)).mono ?_
    ·intro j hj
     rw [cII hh];simp only [List.getElem?_toArray,Option.isSome_iff_exists];exact ⟨_,lG (by simp;omega)⟩
    ·rintro e w' ⟨rfl,rfl⟩
     refine ⟨_,rfl,?_,.inl rfl,?_⟩
     rotate_left
     ·exact ((Chg.drew (fun k=>some g=some k) w).trans (Chg.setCells _ g _ _ rfl)).trans (Chg.setCells _ g _ _ rfl)
     have hH:=heap_setCells ((strs l).drop i) (0 + (i + 1)) (strs l ++ pad) 9 (0,0) w.drew hh (by simp;omega);have hH2:=heap_setCells [.string x] (0 + i) _ 9 (0,0) _ hH (by simp;omega);simp only [Nat.zero_add,List.length_singleton] at hH2;rw [shift_list (strs l) pad i (.string x) (by omega) _ rfl] at hH2
     have hlen:(l.take i ++ x :: l.drop i).length=l.length + 1:=by simp;omega
     have:=row_mk (l:=l.take i ++ x :: l.drop i) (cap:=l.length + pad.length) (by simpa only [Nat.zero_add] using hH2) (by simp;omega) (by omega) (by rw [hlen];omega)
      (by
        have e:(strs l).take i ++ Value.string x :: (strs l).drop i=strs (l.take i ++ x :: l.drop i):=by simp [strs,List.map_take,List.map_drop]
        rw [e]
        exact List.take_left' (by simp [strs]))
     rw [hlen] at this;simpa only [Nat.zero_add] using this
  ·have hp:pad = []:=List.eq_nil_of_length_eq_zero (by omega)
   subst hp;simp only [List.length_nil,Nat.add_zero] at hcap hne ⊢
   have hcs:∀ j u,(strs l)[j]? = some u→w.cell? ⟨g,0 + j,none⟩=some u:=fun j u hj=>row_get hh j u hj
   have hge:=grownCap_ge w (l.length + 1) l.length 9;have hle:=grownCap_le_maxLen w (l.length + 1) l.length 9 (by unfold maxLen;omega)
   by_cases hend:i=l.length
   ·subst hend
    refine (Any2.slices_Insert_string_end_grow Tryz.laysNm222 (some ⟨g,0,none⟩) l.length l.length vb 0 1 1 (strs l) [.string x] w (by omega) (by omega) (by omega) (by omega) hil rfl (fun h=>by cases h)
     (fun a ha j u hj=>by cases ha;have:=hcs j u hj;rw [Nat.zero_add] at this;rw [show (⟨g,0,none⟩:Addr).add j=⟨g,j,none⟩ by unfold Addr.add;split <;> simp_all];exact this) hvs h1v).mono ?_
    rintro e w' ⟨rfl,rfl⟩;rw [t3];refine ⟨_,rfl,?_,.inr ⟨_,rfl,nR _⟩,(Chg.drew _ _).trans (Chg.alloc _ _ _)⟩;rw [show (l.take l.length ++ x :: l.drop l.length)=l ++ [x] by simp]
    have:=row_mk (l:=l ++ [x]) (zhh w.drew _) (cap:=grownCap w (l.length + 1) l.length 9) (cs:=(strs l ++ [Value.string x]).toArray ++ Builtin.zeroCells (Value.string ⟨#[]⟩).cells (grownCap w (l.length + 1) l.length 9 - (l.length + 1)))
     (by rw [Array.size_append,hz];simp;omega) hle (by simpa using hge) (by rw [Array.toList_append];rw [show (strs l ++ [Value.string x])=strs (l ++ [x]) by simp [strs]];exact List.take_left' (by simp [strs]))
    simpa using this
   ·have hilt:i < l.length:=by omega
    refine (Any2.slices_Insert_string_grow Tryz.laysNm222 g 0 l.length l.length i vb 0 1 1 (strs l) [.string x] w hilt (by omega) (by omega) (by omega) (by omega) hil rfl hcs hvs (one_strs l) h1v).mono ?_;rintro e w' ⟨rfl,rfl⟩;rw [t3]
    generalize grownCap w (l.length + 1) l.length 9=C at *
    have hno:∀ k,k < w.heap.size→¬ (k=w.heap.size):=fun k hk=>Nat.ne_of_lt hk
    refine ⟨_,rfl,?_,.inr ⟨_,rfl,nR _⟩,?_⟩
    ·have hA:=zhh w (.cells ((List.take i (strs l)).toArray ++ Builtin.zeroCells (Value.string ⟨#[]⟩).cells (l.length + 1 - i) ++ Builtin.zeroCells (Value.string ⟨#[]⟩).cells (C - (l.length + 1))) 9)
     have hz':∀ n,(Builtin.zeroCells (Value.string ⟨#[]⟩).cells n).toList.length=n:=fun n=>by rw [Array.length_toList];exact hz n
     have hti:(List.take i (strs l)).length=i:=by rw [List.length_take,hil];omega
     obtain ⟨X,hX,hXl,hXt⟩:∃ X:List Value,(List.take i (strs l)).toArray ++ Builtin.zeroCells (Value.string ⟨#[]⟩).cells (l.length + 1 - i) ++ Builtin.zeroCells (Value.string ⟨#[]⟩).cells (C - (l.length + 1))=X.toArray∧X.length=C∧X.take i=List.take i (strs l):=by
      refine ⟨List.take i (strs l) ++ ((Builtin.zeroCells (Value.string ⟨#[]⟩).cells (l.length + 1 - i)).toList ++ (Builtin.zeroCells (Value.string ⟨#[]⟩).cells (C - (l.length + 1))).toList),by simp,?_,List.take_left' hti⟩;rw [List.length_append,List.length_append,hti,hz',hz']
      omega
     rw [hX] at hA ⊢
     have hD:((strs l).drop i).length=l.length - i:=by rw [List.length_drop,hil]
     have hH:=heap_setCells [.string x] (0 + i) X 9 (0,0) (w.alloc (.cells X.toArray 9)).drew hA (by simp;omega)
     have hYl:(X.take (0 + i) ++ [Value.string x] ++ X.drop (0 + i + [Value.string x].length)).length=C:=by simp;omega
     have hH2:=heap_setCells ((strs l).drop i) (0 + (i + 1)) _ 9 (0,0) ((w.alloc (.cells X.toArray 9)).drew.setCells w.heap.size (0 + i) [.string x]).drew hH (by rw [hYl,hD];omega);simp only [Nat.zero_add,List.length_singleton] at hH2
     have hlen:(l.take i ++ x :: l.drop i).length=l.length + 1:=by simp;omega
     have e1:(X.take i ++ [Value.string x] ++ X.drop (i + 1)).take (i + 1)=(strs l).take i ++ [Value.string x]:=by
      rw [hXt];exact List.take_left' (by rw [List.length_append,hti];rfl)
     have:=row_mk (l:=l.take i ++ x :: l.drop i) (cap:=C) (by simpa only [Nat.zero_add] using hH2) (by simp;omega) hle (by rw [hlen];omega)
      (by
        rw [e1,show (strs l).take i ++ [Value.string x] ++ (strs l).drop i=strs (l.take i ++ x :: l.drop i) by simp [strs,List.map_take,List.map_drop]]
        exact List.take_left' (by simp [strs]))
     rw [hlen] at this;simpa only [Nat.zero_add] using this
    ·exact ((((Chg.alloc _ w _).trans (Chg.drew _ _)).past _ _ _ (nR _)).trans (Chg.drew _ _)).past _ _ _ (nR _)
end Go.Proofs.YtibiiafcnaijeaaGreat
namespace Go.Proofs.YtibiiafcnaijeaaGreat
open Go Go.RowKit
set_option linter.unusedVariables false
set_option linter.unusedSimpArgs false
set_option maxRecDepth 100000
set_option maxHeartbeats 40000000
inductive Vl where
 | mk (k n:Int) (s:ByteArray) (is:List Vl) (ks:List ByteArray)
theorem Vl.ind {M:Vl→Prop} (h:∀ k n s is ks,(∀ e∈is,M e)→M (.mk k n s is ks)) (v:Vl):M v :=
 Vl.rec (motive_1:=M) (motive_2:=fun is=>∀ e∈is,M e) (fun k n s is ks ih=>h k n s is ks ih) (fun e he=>absurd he List.not_mem_nil) (fun e is h1 h2 x hx=>(List.mem_cons.1 hx).elim (fun e=>e ▸ h1) (h2 x)) v
mutual
def szV:Vl→Nat
 | .mk _ _ _ is _=>1 + szL is
def szL:List Vl→Nat
 | []=>0
 | e :: l=>szV e + szL l
end
mutual
def kyV:Vl→Nat
 | .mk _ _ _ is ks=>ks.length + kyL is
def kyL:List Vl→Nat
 | []=>0
 | e :: l=>kyV e + kyL l
end
theorem szV_pos (v:Vl):1≤szV v:=by cases v;unfold szV;omega
theorem szV_mem:∀ {l:List Vl} {e:Vl},e∈l→szV e≤szL l
 | x :: l,e,hm=>by
  rw [szL]
  rcases List.mem_cons.1 hm with rfl | hm
  ·omega
  ·have:=szV_mem hm;omega
theorem kyV_mem:∀ {l:List Vl} {e:Vl},e∈l→kyV e≤kyL l
 | x :: l,e,hm=>by
  rw [kyL]
  rcases List.mem_cons.1 hm with rfl | hm
  ·omega
  ·have:=kyV_mem hm;omega
theorem szL_len:∀ l:List Vl,l.length≤szL l
 | []=>by simp
 | e :: l=>by rw [szL];have:=szV_pos e;have:=szL_len l;simp;omega
def kdV:Vl→Int
 | .mk k _ _ _ _=>k
abbrev V5:=Value × Value × Value × Value × Value
abbrev pent (r:V5):Value:=.agg #[r.1,r.2.1,r.2.2.1,r.2.2.2.1,r.2.2.2.2]
def QV (P:Nat→Prop) (w:World) (v:Value) (rs:List V5):Prop:=rs.length≤140737488355328∧(
 (rs = []∧∃ oa c,v=.slice oa 0 c)∨∃ g o c,P g∧v=.slice (some ⟨g,o,none⟩) rs.length c ∧
   ∀ (i:Nat) r,rs[i]? = some r→w.cell? ⟨g,o + i * 5,none⟩=some r.1∧w.cell? ⟨g,o + i * 5 + 1,none⟩=some r.2.1∧w.cell? ⟨g,o + i * 5 + 2,none⟩=some r.2.2.1∧w.cell? ⟨g,o + i * 5 + 3,none⟩=some r.2.2.2.1∧w.cell? ⟨g,o + i * 5 + 4,none⟩=some r.2.2.2.2)
inductive VV (P:Nat→Prop) (w:World):Value→Vl→Prop where
 | mk (k n:Int) (s:ByteArray) (is:List Vl) (ks:List ByteArray) (vi vk:Value) (rs:List V5) (hs:s.size≤140737488355328) (hk:SV P w vk ks) (hr:QV P w vi rs) (hl:rs.length=is.length)
  (he:∀ (i:Nat) r e,rs[i]? = some r→is[i]? = some e→VV P w (pent r) e):VV P w (.agg #[.int .i64 k,.int .i64 n,.string s,vi,vk]) (.mk k n s is ks)
def WV (P:Nat→Prop) (w:World) (v:Value) (is:List Vl):Prop :=
 ∃ rs,QV P w v rs∧rs.length=is.length∧∀ (i:Nat) r e,rs[i]? = some r→is[i]? = some e→VV P w (pent r) e
section
variable {P Q:Nat→Prop} {w w':World} {v vi vk:Value} {k n:Int} {s:ByteArray} {is:List Vl} {ks:List ByteArray} {t:Vl}
theorem VV.mk' (hs:s.size≤140737488355328) (hk:SV P w vk ks) (hi:WV P w vi is):VV P w (.agg #[.int .i64 k,.int .i64 n,.string s,vi,vk]) (.mk k n s is ks):=by
 obtain ⟨rs,h1,h2,h3⟩:=hi;exact .mk k n s is ks vi vk rs hs hk h1 h2 h3
theorem VV.out (h:VV P w v (.mk k n s is ks)):∃ vi vk,v=.agg #[.int .i64 k,.int .i64 n,.string s,vi,vk]∧WV P w vi is∧SV P w vk ks∧s.size≤140737488355328:=by
 cases h with
 | mk _ _ _ _ _ vi vk rs hs hk hr hl he=>exact ⟨vi,vk,rfl,⟨rs,hr,hl,he⟩,hk,hs⟩
theorem QV.keep {rs:List V5} (h:QV P w v rs) (k:ZK P w w') (hq:∀ g,P g→Q g):QV Q w' v rs :=
 ⟨h.1,h.2.imp id fun ⟨g,o,c,hp,e,hc⟩=>⟨g,o,c,hq g hp,e,fun i r hr=>⟨k _ _ _ hp (hc i r hr).1,k _ _ _ hp (hc i r hr).2.1,k _ _ _ hp (hc i r hr).2.2.1,k _ _ _ hp (hc i r hr).2.2.2.1,k _ _ _ hp (hc i r hr).2.2.2.2⟩⟩⟩
theorem VV.keep (h:VV P w v t) (k:ZK P w w') (hq:∀ g,P g→Q g):VV Q w' v t:=by
 induction h with
 | mk k' n' s' is' ks' vi vk rs hs hk hr hl he ih=>exact .mk k' n' s' is' ks' vi vk rs hs (hk.keep k hq) (hr.keep k hq) hl ih
theorem WV.keep (h:WV P w v is) (k:ZK P w w') (hq:∀ g,P g→Q g):WV Q w' v is:=by
 obtain ⟨rs,h1,h2,h3⟩:=h;exact ⟨rs,h1.keep k hq,h2,fun i r e hr he=>(h3 i r e hr he).keep k hq⟩
theorem VV.bel (h:VV P w v t) (hb:Below w.heap.size w w'):VV P w' v t:=h.keep (ZK.below hb) fun _ h=>h
theorem WV.bel (h:WV P w v is) (hb:Below w.heap.size w w'):WV P w' v is:=h.keep (ZK.below hb) fun _ h=>h
theorem WV.len (h:WV P w v is):∃ oa c,v=.slice oa is.length c:=by
 obtain ⟨rs,h1,h2,h3⟩:=h
 rcases h1.2 with ⟨rfl,oa,c,rfl⟩ | ⟨g,o,c,_,rfl,_⟩
 ·exact ⟨oa,c,by rw [← h2];rfl⟩
 ·exact ⟨_,c,by rw [h2]⟩
theorem WV.le (h:WV P w v is):is.length≤140737488355328:=by
 obtain ⟨rs,h1,h2,h3⟩:=h;have:=h1.1
 omega
theorem VV.five {a b c d e:Value} (h:VV P w (.agg #[a,b,c,d,e]) t):∃ k n s oi mi ci ok mk ck,a=.int .i64 k∧b=.int .i64 n∧c=.string s∧d=.slice oi mi ci∧e=.slice ok mk ck∧kdV t=k:=by
 obtain ⟨k,n,s,is,ks⟩:=t;obtain ⟨vi,vk,e1,hI,hK,_⟩:=h.out;obtain ⟨o1,c1,rfl⟩:=hI.len;obtain ⟨o2,c2,rfl⟩:=hK.len;simp only [Value.agg.injEq,Array.mk.injEq,List.cons.injEq,and_true] at e1;exact ⟨k,n,s,_,_,_,_,_,_,e1.1,e1.2.1,e1.2.2.1,e1.2.2.2.1,e1.2.2.2.2,rfl⟩
theorem WV.at (h:WV P w v is) {j:Nat} (hj:j < is.length) :
  ∃ g o c k' n' s' oi mi ci ok mk ck,v=.slice (some ⟨g,o,none⟩) is.length c∧w.cell? ⟨g,o + j * 5,none⟩=some (.int .i64 k')∧w.cell? ⟨g,o + j * 5 + 1,none⟩=some (.int .i64 n')∧w.cell? ⟨g,o + j * 5 + 2,none⟩=some (.string s') ∧
   w.cell? ⟨g,o + j * 5 + 3,none⟩=some (.slice oi mi ci)∧w.cell? ⟨g,o + j * 5 + 4,none⟩=some (.slice ok mk ck)∧VV P w (.agg #[.int .i64 k',.int .i64 n',.string s',.slice oi mi ci,.slice ok mk ck]) is[j]∧kdV is[j]=k':=by
 obtain ⟨rs,h1,h2,h3⟩:=h
 rcases h1.2 with ⟨rfl,_⟩ | ⟨g,o,c,_,rfl,hc⟩
 ·simp at h2;omega
 ·have hr:rs[j]? = some rs[j]:=lG (by omega)
  obtain ⟨a1,a2,a3,a4,a5⟩:=hc j _ hr;have hV:=h3 j _ _ hr (lG hj);obtain ⟨k',n',s',oi,mi,ci,ok,mk,ck,e1,e2,e3,e4,e5,hk⟩:=hV.five;rw [e1] at a1;rw [e2] at a2;rw [e3] at a3;rw [e4] at a4;rw [e5] at a5;refine ⟨g,o,c,k',n',s',oi,mi,ci,ok,mk,ck,by rw [h2],a1,a2,a3,a4,a5,?_,hk⟩
  have hp:pent rs[j]=.agg #[.int .i64 k',.int .i64 n',.string s',.slice oi mi ci,.slice ok mk ck]:=by
   unfold pent;rw [e1,e2,e3,e4,e5]
  rw [← hp];exact hV
theorem WV.nil (P:Nat→Prop) (w:World):WV P w (.slice none 0 0) []:=⟨[],⟨by simp,.inl ⟨rfl,_,_,rfl⟩⟩,rfl,fun i r e h=>by simp at h⟩
end
theorem box5 (w:World) (a b c d e:Value) (T:Nat):Below w.heap.size w (w.alloc (.cells #[a,b,c,d,e] T))∧(w.alloc (.cells #[a,b,c,d,e] T)).cell? ⟨w.heap.size,0,none⟩=some a∧(w.alloc (.cells #[a,b,c,d,e] T)).cell? ⟨w.heap.size,1,none⟩=some b∧(w.alloc (.cells #[a,b,c,d,e] T)).cell? ⟨w.heap.size,2,none⟩=some c ∧
  (w.alloc (.cells #[a,b,c,d,e] T)).cell? ⟨w.heap.size,3,none⟩=some d∧(w.alloc (.cells #[a,b,c,d,e] T)).cell? ⟨w.heap.size,4,none⟩=some e:=by
 refine ⟨(Below.refl _ _).alloc (nR _) _,?_,?_,?_,?_,?_⟩ <;> simp [World.cell?_alloc_new]
mutual
def eqV:Vl→Vl→Bool
 | .mk k n s is ks,.mk k' n' s' is' ks'=>decide (k=k') && (decide (n=n') && (decide (s=s') && (decide (ks=ks') && eqVL is is')))
def eqVL:List Vl→List Vl→Bool
 | [],[]=>true
 | e :: es,e' :: es'=>eqV e e' && eqVL es es'
 | [],_ :: _=>false
 | _ :: _,[]=>false
end
theorem eqV_iff (a:Vl):∀ b,eqV a b=true ↔ a=b:=by
 induction a using Vl.ind with
 | h k n s is ks ih =>
  have key:∀ l:List Vl,(∀ e∈l,e∈is)→∀ m,eqVL l m=true ↔ l=m:=by
   intro l
   induction l with
   | nil=>intro _ m;cases m <;> simp [eqVL]
   | cons e l ih2 =>
    intro hl m
    cases m with
    | nil=>simp [eqVL]
    | cons x m=>simp [eqVL,ih e (hl e (List.mem_cons_self ..)),ih2 (fun y hy=>hl y (List.mem_cons_of_mem _ hy))]
  intro b;obtain ⟨k',n',s',is',ks'⟩:=b;simp only [eqV,Bool.and_eq_true,decide_eq_true_eq,key is (fun _ h=>h) is',Vl.mk.injEq]
  constructor
  ·rintro ⟨h1,h2,h3,h4,h5⟩;exact ⟨h1,h2,h3,h5,h4⟩
  ·rintro ⟨h1,h2,h3,h4,h5⟩;exact ⟨h1,h2,h3,h5,h4⟩
theorem eqV_refl (a:Vl):eqV a a=true:=(eqV_iff a a).2 rfl
mutual
def knownV:Vl→Bool
 | .mk k _ _ is _=>decide (k≠6) && knownL is
def knownL:List Vl→Bool
 | []=>true
 | e :: l=>knownV e && knownL l
end
theorem knownL_all:∀ l:List Vl,knownL l=l.all knownV
 | []=>by rw [knownL];rfl
 | e :: l=>by rw [knownL,knownL_all l];rfl
theorem knownV_eq (k n:Int) (s:ByteArray) (is:List Vl) (ks:List ByteArray):knownV (.mk k n s is ks)=(decide (k≠6) && is.all knownV):=by rw [knownV,knownL_all]
abbrev nullV:Vl:=.mk 0 0 ⟨#[]⟩ [] []
abbrev unkV:Vl:=.mk 6 0 ⟨#[]⟩ [] []
def posN (ns:List ByteArray) (x:ByteArray):Nat:=Lib.bsGo (fun t=>Op.bytesLess (ns.getD t ByteArray.empty).toList x.toList) ns.length 0 ns.length
def fndN (ns:List ByteArray) (x:ByteArray):Bool:=decide (posN ns x < ns.length∧ns.getD (posN ns x) ByteArray.empty=x)
def getV:Vl→ByteArray→Option Vl
 | .mk k _ _ is ks,x=>if k=5∧fndN ks x=true then is[posN ks x]? else none
def putV:Vl→ByteArray→Vl→Vl
 | .mk k n s is ks,x,y=>if is.length < posN ks x∨(fndN ks x=true∧is.length=posN ks x) then .mk k n s is ks else
  if fndN ks x=true then .mk k n s (is.set (posN ks x) y) ks else .mk k n s (is.insertIdx (posN ks x) y) (ks.insertIdx (posN ks x) x)
structure At where
 name:ByteArray
 ty:Ty
 mode:Int
 rep:Bool
 sens:Bool
 vol:Bool
structure Ne where
 name:ByteArray
 mn:Int
 mx:Int
 attrs:List At
 rep:Bool
structure Sc where
 attrs:List At
 nested:List Ne
def fndA (l:List At) (x:ByteArray):Option At:=l.find? fun a=>decide (a.name=x)
def fndK (l:List Ne) (x:ByteArray):Option Ne:=l.find? fun a=>decide (a.name=x)
def objT (l:List At):Ty:=.mk 6 (l.map (·.ty)) (l.map (·.name))
def addN (p:List ByteArray × List Ty) (n:Ne):List ByteArray × List Ty:=(p.1.insertIdx (posN p.1 n.name) n.name,p.2.insertIdx (posN p.1 n.name) (.mk 4 [objT n.attrs] []))
def typS (s:Sc):List ByteArray × List Ty:=s.nested.foldl addN (s.attrs.map (·.name),s.attrs.map (·.ty))
def namesS (s:Sc):List ByteArray:=(typS s).1
def getN (v:Vl) (x:ByteArray):Vl:=(getV v x).getD nullV
def differV (a b:Vl):Bool:=!eqV a b || (!knownV a || !knownV b)
def detS (s:Sc) (cnfg:Vl) (x:ByteArray):Bool:=match fndA s.attrs x with
 | none=>false
 | some a=>decide (a.mode=3) || (decide (a.mode=4) && decide (kdV (getN cnfg x)=0))
def volS (s:Sc) (prior cnfg:Vl) (x:ByteArray):Bool:=detS s cnfg x && (decide (kdV prior≠0) && match fndA s.attrs x with
 | none=>false
 | some a=>a.vol)
def chgS (s:Sc) (prior cnfg:Vl):Bool:=(namesS s).any fun x=>!detS s cnfg x && differV (getN cnfg x) (getN prior x)
def itemS (s:Sc) (prior cnfg:Vl) (x:ByteArray):Vl :=
 if detS s cnfg x=true then (if kdV prior=0 then unkV else getN prior x) else getN cnfg x
def proposeS (s:Sc) (prior cnfg:Vl):Vl:=.mk 5 0 ⟨#[]⟩ ((namesS s).map fun x=>if volS s prior cnfg x=true∧chgS s prior cnfg=true then unkV else itemS s prior cnfg x) (namesS s)
def changedS (s:Sc) (b a:Vl):List ByteArray:=(namesS s).filter fun x=>differV (getN b x) (getN a x)
def repS (s:Sc) (x:ByteArray):Bool:=(match fndA s.attrs x with
 | none=>false
 | some a=>a.rep) || match fndK s.nested x with
 | none=>false
 | some n=>n.rep
def replacedS (s:Sc) (b a:Vl):List ByteArray:=(changedS s b a).filter (repS s)
structure Inst where
 addr:ByteArray
 deposed:ByteArray
 id:ByteArray
 type:ByteArray
 attrs:Vl
 version:Int
 tainted:Bool
 createFirst:Bool
 deps:List ByteArray
structure Inp where
 addr:ByteArray
 tname:ByteArray
 sc:Sc
 quota:Int
 has:Bool
 prior:Inst
 cnfg:Vl
 createFirst:Bool
 protect:Bool
 ignore:List ByteArray
 triggered:Bool
 requested:Bool
 deps:List ByteArray
structure Chg' where
 addr:ByteArray
 deposed:ByteArray
 type:ByteArray
 action:Int
 reason:Int
 before:Vl
 after:Vl
 id:ByteArray
 replace:List ByteArray
 createFirst:Bool
 protect:Bool
 imp:Bool
 deps:List ByteArray
 oldDeps:List ByteArray
def ignStep (prior out:Vl) (x:ByteArray):Vl:=match getV prior x with
 | none=>out
 | some v=>if (getV out x).isSome=true then putV out x v else out
def ignoreV (prior cnfg:Vl) (l:List ByteArray):Vl:=l.foldl (ignStep prior) cnfg
def ignN (s:Sc) (l:List ByteArray):List ByteArray:=l.filter fun x=>match fndA s.attrs x with
 | none=>true
 | some a=>decide (a.mode≠3)
def effD (x:Inp):Vl:=if x.has=true then ignoreV x.prior.attrs x.cnfg (ignN x.sc x.ignore) else x.cnfg
def reasonD (x:Inp) (l:List ByteArray):Int:=if x.prior.tainted=true then 4 else if x.requested=true then 6 else if x.triggered=true then 5 else if l = [] then 0 else 3
def changeD (x:Inp):Chg' :=
 let c:Chg':=⟨x.addr,⟨#[]⟩,x.tname,0,0,nullV,nullV,⟨#[]⟩,[],false,x.protect,false,x.deps,[]⟩
 let fresh:=proposeS x.sc nullV (effD x)
 if x.has=false then { c with action:=1,reason:=1,after:=fresh } else
  let after:=proposeS x.sc x.prior.attrs (effD x)
  let rep:=replacedS x.sc x.prior.attrs after
  let c:={ c with before:=x.prior.attrs,id:=x.prior.id,oldDeps:=x.prior.deps,after:=after,replace:=rep }
  if reasonD x rep≠0 then { c with action:=3,reason:=reasonD x rep,after:=fresh,createFirst:=x.createFirst } else
   if changedS x.sc x.prior.attrs after = [] then c else { c with action:=2,reason:=2 }
def deleteD (i:Inst) (why:Int) (protect:Bool):Chg':=⟨i.addr,i.deposed,i.type,4,why,i.attrs,nullV,i.id,[],false,protect,false,[],i.deps⟩
theorem bsGo_at (less:Nat→Bool) (k n:Nat) (h1:∀ t,t < k→less t=true) (h2:∀ t,k≤t→t < n→less t=false) :
  ∀ (f lo hi:Nat),hi - lo≤f→lo≤k→k≤hi→hi≤n→Lib.bsGo less f lo hi=k
 | 0,lo,hi,hf,a,b,c=>by simp [Lib.bsGo];omega
 | f + 1,lo,hi,hf,a,b,c=>by
  unfold Lib.bsGo
  by_cases h:lo < hi
  ·rw [if_pos h]
   by_cases hm:(lo + hi) / 2 < k
   ·rw [h1 _ hm,if_pos rfl];exact bsGo_at less k n h1 h2 f _ _ (by omega) (by omega) b c
   ·rw [h2 _ (by omega) (by omega)];exact bsGo_at less k n h1 h2 f _ _ (by omega) a (by omega) (by omega)
  ·rw [if_neg h];omega
theorem ltS_trans {a b c:ByteArray} (h:ltS a b=true) (k:ltS b c=true):ltS a c=true:=bl_trans _ _ _ h k
theorem ltS_total {a b:ByteArray} (h:ltS a b=false):ltS b a=true∨a=b:=(bl_total _ _ h).imp id toList_inj
theorem ltS_irr (a:ByteArray):ltS a a=false:=by
 cases h:ltS a a with
 | false=>rfl
 | true=>have:=bl_asymm _ _ h;unfold ltS at h;rw [h] at this;cases this
theorem ltS_asymm {a b:ByteArray} (h:ltS a b=true):ltS b a=false:=bl_asymm _ _ h
def Asc (ns:List ByteArray):Prop:=ns.Pairwise fun a b=>ltS a b=true
def posT:List ByteArray→ByteArray→Nat
 | [],_=>0
 | a :: ns,x=>if ltS a x=true then posT ns x + 1 else 0
theorem posT_le:∀ (ns:List ByteArray) (x:ByteArray),posT ns x≤ns.length
 | [],_=>nR _
 | a :: ns,x=>by
  unfold posT
  split
  ·have:=posT_le ns x;simp;omega
  ·exact Nat.zero_le _
theorem posT_lt:∀ (ns:List ByteArray) (x:ByteArray) (t:Nat),t < posT ns x→ltS (ns.getD t ByteArray.empty) x=true
 | [],_,t,h=>by simp [posT] at h
 | a :: ns,x,t,h=>by
  unfold posT at h
  split at h
  ·rename_i hh
   cases t with
   | zero=>exact hh
   | succ t=>exact posT_lt ns x t (by omega)
  ·simp at h
theorem posT_ge:∀ (ns:List ByteArray) (x:ByteArray) (t:Nat),Asc ns→posT ns x≤t→t < ns.length→ltS (ns.getD t ByteArray.empty) x=false
 | [],_,t,_,_,h=>by simp at h
 | a :: ns,x,t,ha,h,hl=>by
  unfold posT at h;have hp:=List.pairwise_cons.1 ha
  split at h
  ·cases t with
   | zero=>omega
   | succ t=>exact posT_ge ns x t hp.2 (by omega) (by simpa using hl)
  ·rename_i hh
   have hh':ltS a x=false:=by simpa using hh
   cases t with
   | zero=>exact hh'
   | succ t =>
    have hl':t < ns.length:=by simpa using hl
    have e:(a :: ns).getD (t + 1) ByteArray.empty=ns[t]:=by simp [hl']
    rw [e]
    cases hc:ltS ns[t] x with
    | false=>rfl
    | true=>rw [ltS_trans (hp.1 _ (lM hl')) hc] at hh';cases hh'
theorem posN_asc {ns:List ByteArray} (x:ByteArray) (h:Asc ns):posN ns x=posT ns x:=by
 unfold posN;exact bsGo_at _ (posT ns x) ns.length (fun t ht=>posT_lt ns x t ht) (fun t h1 h2=>posT_ge ns x t h h1 h2) _ _ _ (by omega) (Nat.zero_le _) (posT_le ns x) (nR _)
theorem asc_ins:∀ (ns:List ByteArray) (x:ByteArray),Asc ns→(∀ y∈ns,y≠x)→Asc (ns.insertIdx (posT ns x) x)
 | [],x,_,_=>by simp [posT,Asc]
 | a :: ns,x,ha,hn=>by
  have hp:=List.pairwise_cons.1 ha;unfold posT
  split
  ·rename_i hh
   rw [List.insertIdx_succ_cons];refine List.pairwise_cons.2 ⟨fun b hb=>?_,asc_ins ns x hp.2 fun y hy=>hn y (List.mem_cons_of_mem _ hy)⟩
   rcases (List.mem_insertIdx (posT_le ns x)).1 hb with rfl | hb
   ·exact hh
   ·exact hp.1 b hb
  ·rename_i hh
   rw [List.insertIdx_zero];have hx:ltS x a=true:=(ltS_total (by simpa using hh)).resolve_right (hn a (List.mem_cons_self ..));refine List.pairwise_cons.2 ⟨fun b hb=>?_,ha⟩
   rcases List.mem_cons.1 hb with rfl | hb
   ·exact hx
   ·exact ltS_trans hx (hp.1 b hb)
def getRL:List ByteArray→List Vl→ByteArray→Option Vl
 | k :: ks,v :: is,x=>if k=x then some v else getRL ks is x
 | [],_,_=>none
 | _ :: _,[],_=>none
def getR:Vl→ByteArray→Option Vl
 | .mk k _ _ is ks,x=>if k=5 then getRL ks is x else none
theorem getRL_none:∀ (ks:List ByteArray) (is:List Vl) (x:ByteArray),(∀ y∈ks,y≠x)→getRL ks is x=none
 | [],_,_,_=>by rw [getRL]
 | _ :: _,[],_,_=>by rw [getRL]
 | k :: ks,v :: is,x,h=>by rw [getRL,if_neg (h k (List.mem_cons_self ..)),getRL_none ks is x fun y hy=>h y (List.mem_cons_of_mem _ hy)]
theorem getRL_pos:∀ (ks:List ByteArray) (is:List Vl) (x:ByteArray),Asc ks→getRL ks is x=if posT ks x < ks.length∧ks.getD (posT ks x) ByteArray.empty=x then is[posT ks x]? else none
 | [],_,_,_=>by rw [getRL];simp
 | k :: ks,[],x,_=>by rw [getRL];simp
 | k :: ks,v :: is,x,ha=>by
  have hp:=List.pairwise_cons.1 ha;rw [getRL];unfold posT
  by_cases hk:k=x
  ·subst hk
   simp [ltS_irr]
  ·rw [if_neg hk]
   by_cases hl:ltS k x=true
   ·rw [if_pos hl,getRL_pos ks is x hp.2]
    simp
   ·rw [if_neg hl,if_neg (by simp;exact hk),getRL_none]
    intro y hy e;subst e;exact hl (hp.1 y hy)
theorem fndN_asc {ks:List ByteArray} (x:ByteArray) (h:Asc ks):fndN ks x=decide (posT ks x < ks.length∧ks.getD (posT ks x) ByteArray.empty=x):=by
 unfold fndN;rw [posN_asc x h]
theorem getV_R {k n:Int} {s:ByteArray} {is:List Vl} {ks:List ByteArray} (x:ByteArray) (h:Asc ks):getV (.mk k n s is ks) x=getR (.mk k n s is ks) x:=by
 simp only [getV,getR];rw [fndN_asc x h,posN_asc x h,getRL_pos ks is x h]
 by_cases hk:k=5
 ·rw [if_pos hk]
  by_cases h2:posT ks x < ks.length∧ks.getD (posT ks x) ByteArray.empty=x
  ·rw [if_pos ⟨hk,dTT h2⟩,if_pos h2]
  ·rw [if_neg fun e=>h2 (of_decide_eq_true e.2),if_neg h2]
 ·rw [if_neg hk,if_neg fun e=>hk e.1]
def putG:Bool→List ByteArray→List Vl→ByteArray→Vl→List (ByteArray × Vl)
 | d,k :: ks,v :: is,x,y=>(if d=false∧ltS k x=false then [(x,y)] else []) ++ ((if k=x then [] else [(k,v)]) ++ putG (d || !ltS k x) ks is x y)
 | d,[],_,x,y=>if d=true then [] else [(x,y)]
 | d,_ :: _,[],x,y=>if d=true then [] else [(x,y)]
def putR (v:Vl) (x:ByteArray) (y:Vl):Vl:=match v with
 | .mk _ _ _ is ks=>.mk 5 0 ⟨#[]⟩ ((putG false ks is x y).map (·.2)) ((putG false ks is x y).map (·.1))
def AV (P:Nat→Prop) (w:World) (v:Value) (l:List At):Prop:=l.length≤140737488355328∧((l = []∧∃ oa c,v=.slice oa 0 c)∨∃ g o c,P g∧v=.slice (some ⟨g,o,none⟩) l.length c ∧
 ∀ (i:Nat) (a:At),l[i]? = some a→∃ k oe me ce on mn cn,w.cell? ⟨g,o + i * 8,none⟩=some (.string a.name)∧w.cell? ⟨g,o + i * 8 + 1,none⟩=some (.int .i64 k)∧w.cell? ⟨g,o + i * 8 + 2,none⟩=some (.slice oe me ce)∧w.cell? ⟨g,o + i * 8 + 3,none⟩=some (.slice on mn cn) ∧
  w.cell? ⟨g,o + i * 8 + 4,none⟩=some (.int .i64 a.mode)∧w.cell? ⟨g,o + i * 8 + 5,none⟩=some (.bool a.rep)∧w.cell? ⟨g,o + i * 8 + 6,none⟩=some (.bool a.sens)∧w.cell? ⟨g,o + i * 8 + 7,none⟩=some (.bool a.vol) ∧
  TV P w (.agg #[.int .i64 k,.slice oe me ce,.slice on mn cn]) a.ty∧a.name.size≤140737488355328)
def KV (P:Nat→Prop) (w:World) (v:Value) (l:List Ne):Prop:=l.length≤140737488355328∧((l = []∧∃ oa c,v=.slice oa 0 c)∨∃ g o c,P g∧v=.slice (some ⟨g,o,none⟩) l.length c ∧
 ∀ (i:Nat) (n:Ne),l[i]? = some n→∃ oa ca,w.cell? ⟨g,o + i * 5,none⟩=some (.string n.name)∧w.cell? ⟨g,o + i * 5 + 1,none⟩=some (.int .i64 n.mn)∧w.cell? ⟨g,o + i * 5 + 2,none⟩=some (.int .i64 n.mx)∧w.cell? ⟨g,o + i * 5 + 3,none⟩=some (.slice oa n.attrs.length ca) ∧
  w.cell? ⟨g,o + i * 5 + 4,none⟩=some (.bool n.rep)∧AV P w (.slice oa n.attrs.length ca) n.attrs∧n.name.size≤140737488355328)
section
variable {P Q:Nat→Prop} {w w':World} {v:Value}
theorem AV.keep {l:List At} (h:AV P w v l) (k:ZK P w w') (hq:∀ g,P g→Q g):AV Q w' v l :=
 ⟨h.1,h.2.imp id fun ⟨g,o,c,hp,e,hc⟩=>⟨g,o,c,hq g hp,e,fun i a ha=>by
  obtain ⟨k',oe,me,ce,on,mn,cn,c0,c1,c2,c3,c4,c5,c6,c7,ht,hs⟩:=hc i a ha
  exact ⟨k',oe,me,ce,on,mn,cn,k _ _ _ hp c0,k _ _ _ hp c1,k _ _ _ hp c2,k _ _ _ hp c3,k _ _ _ hp c4,k _ _ _ hp c5,k _ _ _ hp c6,k _ _ _ hp c7,ht.keep k hq,hs⟩⟩⟩
theorem AV.bel {l:List At} (h:AV P w v l) (hb:Below w.heap.size w w'):AV P w' v l:=h.keep (ZK.below hb) fun _ h=>h
theorem AV.len {l:List At} (h:AV P w v l):∃ oa c,v=.slice oa l.length c:=by
 rcases h.2 with ⟨rfl,oa,c,rfl⟩ | ⟨g,o,c,_,rfl,_⟩
 ·exact ⟨oa,c,rfl⟩
 ·exact ⟨_,c,rfl⟩
theorem AV.le {l:List At} (h:AV P w v l):l.length≤140737488355328:=h.1
theorem AV.at {l:List At} (h:AV P w v l) {j:Nat} (hj:j < l.length):∃ g o c k oe me ce on mn cn,P g∧v=.slice (some ⟨g,o,none⟩) l.length c∧w.cell? ⟨g,o + j * 8,none⟩=some (.string l[j].name)∧w.cell? ⟨g,o + j * 8 + 1,none⟩=some (.int .i64 k)∧w.cell? ⟨g,o + j * 8 + 2,none⟩=some (.slice oe me ce) ∧
  w.cell? ⟨g,o + j * 8 + 3,none⟩=some (.slice on mn cn)∧w.cell? ⟨g,o + j * 8 + 4,none⟩=some (.int .i64 l[j].mode)∧w.cell? ⟨g,o + j * 8 + 5,none⟩=some (.bool l[j].rep)∧w.cell? ⟨g,o + j * 8 + 6,none⟩=some (.bool l[j].sens)∧w.cell? ⟨g,o + j * 8 + 7,none⟩=some (.bool l[j].vol) ∧
  TV P w (.agg #[.int .i64 k,.slice oe me ce,.slice on mn cn]) l[j].ty∧l[j].name.size≤140737488355328:=by
 rcases h.2 with ⟨rfl,_⟩ | ⟨g,o,c,hp,rfl,hc⟩
 ·cases hj
 ·obtain ⟨k,oe,me,ce,on,mn,cn,h'⟩:=hc j _ (lG hj)
  exact ⟨g,o,c,k,oe,me,ce,on,mn,cn,hp,rfl,h'⟩
theorem KV.keep {l:List Ne} (h:KV P w v l) (k:ZK P w w') (hq:∀ g,P g→Q g):KV Q w' v l :=
 ⟨h.1,h.2.imp id fun ⟨g,o,c,hp,e,hc⟩=>⟨g,o,c,hq g hp,e,fun i n hn=>by
  obtain ⟨oa,ca,c0,c1,c2,c3,c4,ha,hs⟩:=hc i n hn
  exact ⟨oa,ca,k _ _ _ hp c0,k _ _ _ hp c1,k _ _ _ hp c2,k _ _ _ hp c3,k _ _ _ hp c4,ha.keep k hq,hs⟩⟩⟩
theorem KV.bel {l:List Ne} (h:KV P w v l) (hb:Below w.heap.size w w'):KV P w' v l:=h.keep (ZK.below hb) fun _ h=>h
theorem KV.len {l:List Ne} (h:KV P w v l):∃ oa c,v=.slice oa l.length c:=by
 rcases h.2 with ⟨rfl,oa,c,rfl⟩ | ⟨g,o,c,_,rfl,_⟩
 ·exact ⟨oa,c,rfl⟩
 ·exact ⟨_,c,rfl⟩
theorem KV.le {l:List Ne} (h:KV P w v l):l.length≤140737488355328:=h.1
theorem KV.at {l:List Ne} (h:KV P w v l) {j:Nat} (hj:j < l.length):∃ g o c oa ca,P g∧v=.slice (some ⟨g,o,none⟩) l.length c∧w.cell? ⟨g,o + j * 5,none⟩=some (.string l[j].name)∧w.cell? ⟨g,o + j * 5 + 1,none⟩=some (.int .i64 l[j].mn)∧w.cell? ⟨g,o + j * 5 + 2,none⟩=some (.int .i64 l[j].mx) ∧
  w.cell? ⟨g,o + j * 5 + 3,none⟩=some (.slice oa l[j].attrs.length ca)∧w.cell? ⟨g,o + j * 5 + 4,none⟩=some (.bool l[j].rep)∧AV P w (.slice oa l[j].attrs.length ca) l[j].attrs∧l[j].name.size≤140737488355328:=by
 rcases h.2 with ⟨rfl,_⟩ | ⟨g,o,c,hp,rfl,hc⟩
 ·cases hj
 ·obtain ⟨oa,ca,h'⟩:=hc j _ (lG hj)
  exact ⟨g,o,c,oa,ca,hp,rfl,h'⟩
end
def SCV (P:Nat→Prop) (w:World) (va vn:Value) (s:Sc):Prop:=AV P w va s.attrs∧KV P w vn s.nested
theorem SCV.bel {P:Nat→Prop} {w w':World} {va vn:Value} {s:Sc} (h:SCV P w va vn s) (hb:Below w.heap.size w w'):SCV P w' va vn s:=⟨h.1.bel hb,h.2.bel hb⟩
theorem QV.ex {P:Nat→Prop} {w:World} {v:Value} {rs:List V5} (h:QV P w v rs):QV (fun g=>P g∧g < w.heap.size) w v rs:=by
 refine ⟨h.1,?_⟩
 rcases h.2 with h0 | ⟨g,o,c,hp,e,hc⟩
 ·exact .inl h0
 ·cases rs with
  | nil=>exact .inl ⟨rfl,_,_,e⟩
  | cons x r=>exact .inr ⟨g,o,c,⟨hp,World.block_lt_of_cell? w _ (hc 0 x rfl).1⟩,e,hc⟩
theorem VV.ex {P:Nat→Prop} {w:World} {v:Value} {t:Vl} (h:VV P w v t):VV (fun g=>P g∧g < w.heap.size) w v t:=by
 induction h with
 | mk k n s is ks vi vk rs hs hk hr hl he ih=>exact .mk k n s is ks vi vk rs hs hk.ex (QV.ex hr) hl ih
theorem VV.mono {P Q:Nat→Prop} {w:World} {v:Value} {t:Vl} (h:VV P w v t) (hq:∀ g,P g→Q g):VV Q w v t:=h.keep (ZK.refl P w) hq
theorem WV.mono {P Q:Nat→Prop} {w:World} {v:Value} {t:List Vl} (h:WV P w v t) (hq:∀ g,P g→Q g):WV Q w v t:=h.keep (ZK.refl P w) hq
def flat5:List V5→List Value
 | []=>[]
 | r :: l=>r.1 :: r.2.1 :: r.2.2.1 :: r.2.2.2.1 :: r.2.2.2.2 :: flat5 l
theorem flat5_len:∀ l,(flat5 l).length=l.length * 5
 | []=>rfl
 | r :: l=>by rw [flat5,List.length_cons,List.length_cons,List.length_cons,List.length_cons,List.length_cons,flat5_len l,List.length_cons];omega
theorem flat5_app:∀ a b,flat5 (a ++ b)=flat5 a ++ flat5 b
 | [],_=>rfl
 | r :: l,b=>by rw [List.cons_append,flat5,flat5,flat5_app l b];rfl
theorem flat5_get:∀ (l:List V5) (i:Nat) (r:V5),l[i]? = some r→(flat5 l)[i * 5]? = some r.1∧(flat5 l)[i * 5 + 1]? = some r.2.1∧(flat5 l)[i * 5 + 2]? = some r.2.2.1∧(flat5 l)[i * 5 + 3]? = some r.2.2.2.1∧(flat5 l)[i * 5 + 4]? = some r.2.2.2.2
 | [],i,r,h=>by simp at h
 | x :: l,0,r,h=>by simp at h;subst h;exact ⟨rfl,rfl,rfl,rfl,rfl⟩
 | x :: l,i + 1,r,h=>by
  obtain ⟨h1,h2,h3,h4,h5⟩:=flat5_get l i r (by simpa using h);rw [flat5,show (i + 1) * 5=i * 5 + 1 + 1 + 1 + 1 + 1 by omega];exact ⟨by simpa using h1,by simpa [Nat.add_assoc] using h2,by simpa [Nat.add_assoc] using h3,by simpa [Nat.add_assoc] using h4,by simpa [Nat.add_assoc] using h5⟩
def OwnW (B box:Nat) (R:Nat→Prop) (w:World) (v:Value) (ts:List Vl):Prop :=
 ∃ rs:List V5,Made B w 32 5 v ts.length (flat5 rs)∧rs.length=ts.length ∧
  ∀ (i:Nat) r t,rs[i]? = some r→ts[i]? = some t→VV (fun g=>R g∧g < w.heap.size∧g≠box∧v.ownBlock≠some g) w (pent r) t
theorem OwnW.nil (B box:Nat) (R:Nat→Prop) (w:World):OwnW B box R w (.slice none 0 0) []:=⟨[],Made.nil _ _ _ _,rfl,fun i r t h=>by simp at h⟩
theorem OwnW.later {B box:Nat} {R:Nat→Prop} {w w':World} {v:Value} {ts:List Vl} (h:OwnW B box R w v ts) (hb:Below w.heap.size w w'):OwnW B box R w' v ts:=by
 obtain ⟨rs,h1,h2,h3⟩:=h;exact ⟨rs,h1.later hb,h2,fun i r t hr ht=>(h3 i r t hr ht).keep (ZK.below hb) fun g hg=>⟨hg.1,Nat.lt_of_lt_of_le hg.2.1 hb.size,hg.2.2⟩⟩
theorem OwnW.push {B box:Nat} {R S:Nat→Prop} {w w':World} {v v':Value} {ts:List Vl} {t:Vl} {r0:V5} (hB:B≤w.heap.size)
  (h:∃ rs:List V5,Made B w 32 5 v ts.length (flat5 rs)∧rs.length=ts.length ∧
    (∀ (i:Nat) r t,rs[i]? = some r→ts[i]? = some t→VV (fun g=>R g∧g < w.heap.size∧g≠box∧v.ownBlock≠some g) w (pent r) t)∧w'.ownsRow 0 32 5 v' (ts.length + 1) (flat5 rs ++ [r0.1,r0.2.1,r0.2.2.1,r0.2.2.2.1,r0.2.2.2.2]))
  (ht:VV S w (pent r0) t) (hs:∀ g,S g→R g∧g≠box∧v.ownBlock≠some g)
  (hc:Chg (fun k=>v.ownBlock=some k) w w') (hp:v'.ownBlock=v.ownBlock∨∃ g,v'.ownBlock=some g∧w.heap.size≤g):OwnW B box R w' v' (ts ++ [t]):=by
 obtain ⟨rs,h1,h2,h3,hown⟩:=h
 have hq:∀ g,(R g∧g < w.heap.size∧g≠box∧v.ownBlock≠some g)→R g∧g < w'.heap.size∧g≠box∧v'.ownBlock≠some g:=fun g ⟨a1,a2,a3,a4⟩ =>
  ⟨a1,Nat.lt_of_lt_of_le a2 hc.size,a3,by
   rcases hp with e | ⟨g',e,hg'⟩
   ·rw [e];exact a4
   ·rw [e];intro e2;cases e2;omega⟩
 have hk:ZK (fun g=>R g∧g < w.heap.size∧g≠box∧v.ownBlock≠some g) w w':=ZK.chg hc fun g hg=>hg.2.2.2
 refine ⟨rs ++ [r0],?_,by simp [h2],fun i r t' hr ht'=>?_⟩
 ·rw [flat5_app,List.length_append]
  exact h1.grow hB hown hp
 ·by_cases hi:i < rs.length
  ·rw [List.getElem?_append_left hi] at hr
   rw [List.getElem?_append_left (by omega)] at ht';exact (h3 i r t' hr ht').keep hk hq
  ·have hlt:=(List.getElem?_eq_some_iff.1 hr).1
   obtain rfl:i=rs.length:=by simp at hlt;omega
   rw [List.getElem?_append_right (nR _)] at hr;rw [List.getElem?_append_right (by omega)] at ht';rw [h2] at ht';simp at hr ht';subst hr ht';exact (ht.ex.mono fun g hg=>⟨(hs g hg.1).1,hg.2,(hs g hg.1).2⟩).keep hk hq
theorem OwnW.store {B box o:Nat} {R:Nat→Prop} {w:World} {v:Value} {ts:List Vl} (h:OwnW B box R w v ts) (hB:box < B) (x:Value):OwnW B box R (w.setCell ⟨box,o,none⟩ x) v ts:=by
 obtain ⟨rs,h1,h2,h3⟩:=h;have hc:Chg (fun k=>k=box) w (w.setCell ⟨box,o,none⟩ x):=Chg.setCell w box o x rfl;exact ⟨rs,made_keep h1 hc fun k hk=>by omega,h2,fun i r t hr ht=>(h3 i r t hr ht).keep (ZK.chg hc fun g hg=>hg.2.2.1) fun g hg=>⟨hg.1,Nat.lt_of_lt_of_le hg.2.1 hc.size,hg.2.2⟩⟩
theorem OwnW.read {B box:Nat} {R:Nat→Prop} {w:World} {v:Value} {ts:List Vl} (h:OwnW B box R w v ts) (hR:∀ g,B≤g→R g) (hl:ts.length≤140737488355328):WV R w v ts:=by
 obtain ⟨rs,h1,h2,h3⟩:=h;refine ⟨rs,⟨by omega,?_⟩,h2,fun i r t hr ht=>(h3 i r t hr ht).mono fun g hg=>hg.1⟩
 rcases h1.1.2 with ⟨rfl,h0⟩ | ⟨g,cap,cur,rfl,p1,p2,p3,p4,p5,p6⟩
 ·exact .inl ⟨List.eq_nil_of_length_eq_zero (by omega),_,_,rfl⟩
 ·refine .inr ⟨g,0,cap,hR g (h1.2 g rfl),by rw [h2],fun i r hr=>?_⟩
  obtain ⟨a1,a2,a3,a4,a5⟩:=flat5_get rs i r hr;rw [Nat.zero_add];exact ⟨cells_at p2 p6 a1,cells_at p2 p6 a2,cells_at p2 p6 a3,cells_at p2 p6 a4,cells_at p2 p6 a5⟩
theorem OwnW.slice {B box:Nat} {R:Nat→Prop} {w:World} {v:Value} {ts:List Vl} (h:OwnW B box R w v ts):∃ oa m c,v=.slice oa m c:=by
 obtain ⟨rs,h1,_⟩:=h;exact zw h1.1
theorem flat5_take:∀ (rs:List V5) (i:Nat),(flat5 rs).take (i * 5)=flat5 (rs.take i)
 | _,0=>by simp [flat5]
 | [],i + 1=>by simp [flat5]
 | r :: rs,i + 1=>by
  rw [show (i + 1) * 5=i * 5 + 1 + 1 + 1 + 1 + 1 by omega,flat5,List.take_succ_cons,List.take_succ_cons,List.take_succ_cons,List.take_succ_cons,List.take_succ_cons,flat5_take rs i,List.take_succ_cons,flat5]
theorem flat5_drop:∀ (rs:List V5) (i:Nat),(flat5 rs).drop (i * 5)=flat5 (rs.drop i)
 | _,0=>by simp
 | [],i + 1=>by simp [flat5]
 | r :: rs,i + 1=>by
  rw [show (i + 1) * 5=i * 5 + 1 + 1 + 1 + 1 + 1 by omega,flat5,List.drop_succ_cons,List.drop_succ_cons,List.drop_succ_cons,List.drop_succ_cons,List.drop_succ_cons,flat5_drop rs i,List.drop_succ_cons]
theorem set_eq {α:Type}:∀ (l:List α) (i:Nat) (x:α),i < l.length→l.set i x=l.take i ++ x :: l.drop (i + 1)
 | [],_,_,h=>by cases h
 | a :: l,0,x,_=>by simp
 | a :: l,i + 1,x,h=>by rw [sS,set_eq l i x (by simpa using h)];rfl
theorem flat5_set (rs:List V5) (i:Nat) (r:V5) (h:i < rs.length):flat5 (rs.set i r)=(flat5 rs).take (i * 5) ++ [r.1,r.2.1,r.2.2.1,r.2.2.2.1,r.2.2.2.2] ++ (flat5 rs).drop ((i + 1) * 5):=by
 rw [set_eq rs i r h,flat5_app,flat5_take,flat5_drop,flat5];simp
theorem set_row {α:Type} (cur new:List α) (n j:Nat) (hn:new.length=5) (hl:n * 5≤cur.length) (hj:j < n) :
  (cur.take (j * 5) ++ new ++ cur.drop (j * 5 + new.length)).take (n * 5)=(cur.take (n * 5)).take (j * 5) ++ new ++ (cur.take (n * 5)).drop ((j + 1) * 5):=by
 have hA:(cur.take (j * 5) ++ new).length=(j + 1) * 5:=by rw [List.length_append,List.length_take,Nat.min_eq_left (by omega),hn];omega
 rw [List.take_take,Nat.min_eq_left (by omega),List.take_append,hA,List.take_of_length_le (by rw [hA];omega),hn,List.drop_take];rw [show j * 5 + 5=(j + 1) * 5 by omega]
theorem OwnW.set {B box g n c j:Nat} {R S:Nat→Prop} {w:World} {ts:List Vl} {t:Vl} {r:V5} (h:OwnW B box R w (.slice (some ⟨g,0,none⟩) n c) ts) (hj:j < ts.length) (ht:VV S w (pent r) t) (hs:∀ k,S k→R k∧k≠box∧k≠g) :
  OwnW B box R (w.setCells g (j * 5) [r.1,r.2.1,r.2.2.1,r.2.2.2.1,r.2.2.2.2]) (.slice (some ⟨g,0,none⟩) n c) (ts.set j t)∧Chg (fun k=>k=g) w (w.setCells g (j * 5) [r.1,r.2.1,r.2.2.1,r.2.2.2.1,r.2.2.2.2]):=by
 obtain ⟨rs,h1,h2,h3⟩:=h;have hc:Chg (fun k=>k=g) w (w.setCells g (j * 5) [r.1,r.2.1,r.2.2.1,r.2.2.2.1,r.2.2.2.2]):=Chg.setCells _ _ _ _ rfl;refine ⟨⟨rs.set j r,⟨⟨?_,?_⟩,h1.2⟩,by simp [h2],fun i q x hq he=>?_⟩,hc⟩
 ·rw [flat5_len];simp [h2]
 ·rcases h1.1.2 with ⟨e,_⟩ | ⟨g',cap,cur,e,p1,p2,p3,p4,p5,p6⟩
  ·cases e
  ·cases e
   have hl:cur.toList.length=c * 5:=by simpa using p5
   have hH:=heap_setCells [r.1,r.2.1,r.2.2.1,r.2.2.2.1,r.2.2.2.2] (j * 5) cur.toList 32 (0,0) w p2 (by rw [hl];simp;omega);refine .inr ⟨g,c,_,by simp,p1,hH,by simpa using p3,p4,?_,?_⟩
   ·simp [hl];omega
   ·have hrl:=flat5_len rs
    rw [flat5_set rs j r (by omega),← p6,List.length_set];have hc5:c * 5=cur.toList.length:=hl.symm;exact set_row cur.toList [r.1,r.2.1,r.2.2.1,r.2.2.2.1,r.2.2.2.2] ts.length j rfl (by omega) hj
 ·have hk:ZK (fun k=>R k∧k < w.heap.size∧k≠box∧(Value.slice (some ⟨g,0,none⟩) n c).ownBlock≠some k) w (w.setCells g (j * 5) [r.1,r.2.1,r.2.2.1,r.2.2.2.1,r.2.2.2.2]):=ZK.chg hc fun k hk e=>hk.2.2.2 (by rw [e];rfl)
  have hsz:=hc.size
  by_cases e:i=j
  ·subst e
   rw [List.getElem?_set_self (by omega)] at hq;rw [List.getElem?_set_self (by omega)] at he
   cases hq
   cases he
   exact (ht.ex.mono fun k hk=>(⟨(hs k hk.1).1,hk.2,(hs k hk.1).2.1,fun e=>(hs k hk.1).2.2 (by cases e;rfl)⟩:R k∧k < w.heap.size∧k≠box∧(Value.slice (some ⟨g,0,none⟩) n c).ownBlock≠some k)).keep hk fun k hk=>⟨hk.1,by omega,hk.2.2⟩
  ·rw [List.getElem?_set_ne (fun h=>e h.symm)] at hq he
   exact (h3 i q x hq he).keep hk fun k hk=>⟨hk.1,by omega,hk.2.2⟩
theorem OwnW.block {B box:Nat} {R:Nat→Prop} {w:World} {v:Value} {ts:List Vl} (h:OwnW B box R w v ts) {g:Nat} (hg:v.ownBlock=some g):B≤g∧g < w.heap.size:=by
 obtain ⟨rs,h1,_⟩:=h;refine ⟨h1.2 g hg,?_⟩
 rcases h1.1.2 with ⟨rfl,h0⟩ | ⟨g,cap,cur,rfl,p1,p2,_⟩
 ·cases hg
 ·cases hg;exact (aS p2).1
def OwnX (B box:Nat) (R:Nat→Nat→Prop) (w:World) (v:Value) (ts:List Vl):Prop :=
 ∃ rs:List V5,Made B w 32 5 v ts.length (flat5 rs)∧rs.length=ts.length ∧
  ∀ (i:Nat) r t,rs[i]? = some r→ts[i]? = some t→VV (fun g=>R i g∧g < w.heap.size∧g≠box∧v.ownBlock≠some g) w (pent r) t
theorem OwnW.x {B box:Nat} {R:Nat→Prop} {w:World} {v:Value} {ts:List Vl} (h:OwnW B box R w v ts):OwnX B box (fun _=>R) w v ts:=h
theorem OwnX.mono {B box:Nat} {R Q:Nat→Nat→Prop} {w:World} {v:Value} {ts:List Vl} (h:OwnX B box R w v ts) (hq:∀ i g,i < ts.length→R i g→Q i g):OwnX B box Q w v ts:=by
 obtain ⟨rs,h1,h2,h3⟩:=h;exact ⟨rs,h1,h2,fun i r t hr ht=>(h3 i r t hr ht).mono fun g hg=>⟨hq i g (List.getElem?_eq_some_iff.1 ht).1 hg.1,hg.2⟩⟩
theorem OwnX.base {B C box:Nat} {R:Nat→Nat→Prop} {w:World} {v:Value} {ts:List Vl} (h:OwnX B box R w v ts) (hC:C≤B):OwnX C box R w v ts:=by
 obtain ⟨rs,h1,h2,h3⟩:=h;exact ⟨rs,⟨h1.1,fun g hg=>Nat.le_trans hC (h1.2 g hg)⟩,h2,h3⟩
theorem OwnX.later {B box:Nat} {R:Nat→Nat→Prop} {w w':World} {v:Value} {ts:List Vl} (h:OwnX B box R w v ts) (hb:Below w.heap.size w w'):OwnX B box R w' v ts:=by
 obtain ⟨rs,h1,h2,h3⟩:=h;exact ⟨rs,h1.later hb,h2,fun i r t hr ht=>(h3 i r t hr ht).keep (ZK.below hb) fun g hg=>⟨hg.1,Nat.lt_of_lt_of_le hg.2.1 hb.size,hg.2.2⟩⟩
theorem OwnX.store {B box o:Nat} {R:Nat→Nat→Prop} {w:World} {v:Value} {ts:List Vl} (h:OwnX B box R w v ts) (hB:box < B) (x:Value):OwnX B box R (w.setCell ⟨box,o,none⟩ x) v ts:=by
 obtain ⟨rs,h1,h2,h3⟩:=h;have hc:Chg (fun k=>k=box) w (w.setCell ⟨box,o,none⟩ x):=Chg.setCell w box o x rfl;exact ⟨rs,made_keep h1 hc fun k hk=>by omega,h2,fun i r t hr ht=>(h3 i r t hr ht).keep (ZK.chg hc fun g hg=>hg.2.2.1) fun g hg=>⟨hg.1,Nat.lt_of_lt_of_le hg.2.1 hc.size,hg.2.2⟩⟩
theorem OwnX.slice {B box:Nat} {R:Nat→Nat→Prop} {w:World} {v:Value} {ts:List Vl} (h:OwnX B box R w v ts):(v=.slice none 0 0∧ts = [])∨∃ g c,v=.slice (some ⟨g,0,none⟩) ts.length c∧B≤g∧g < w.heap.size∧∃ cur,w.heap[g]? = some (.cells cur 32):=by
 obtain ⟨rs,h1,h2,h3⟩:=h
 rcases h1.1.2 with ⟨e,h0⟩ | ⟨g,cap,cur,e,p1,p2,p3⟩
 ·exact .inl ⟨e,List.eq_nil_of_length_eq_zero h0⟩
 ·exact .inr ⟨g,cap,e,h1.2 g (by rw [e];rfl),(aS p2).1,cur,p2⟩
theorem OwnX.read {B box:Nat} {R:Nat→Nat→Prop} {Q:Nat→Prop} {w:World} {v:Value} {ts:List Vl} (h:OwnX B box R w v ts) (hR:∀ i g,i < ts.length→R i g→Q g) (hB:∀ g,B≤g→Q g) (hl:ts.length≤140737488355328):WV Q w v ts:=by
 obtain ⟨rs,h1,h2,h3⟩:=h;refine ⟨rs,⟨by omega,?_⟩,h2,fun i r t hr ht=>(h3 i r t hr ht).mono fun g hg=>hR i g (List.getElem?_eq_some_iff.1 ht).1 hg.1⟩
 rcases h1.1.2 with ⟨rfl,h0⟩ | ⟨g,cap,cur,rfl,p1,p2,p3,p4,p5,p6⟩
 ·exact .inl ⟨List.eq_nil_of_length_eq_zero (by omega),_,_,rfl⟩
 ·refine .inr ⟨g,0,cap,hB g (h1.2 g rfl),by rw [h2],fun i r hr=>?_⟩
  obtain ⟨a1,a2,a3,a4,a5⟩:=flat5_get rs i r hr;rw [Nat.zero_add];exact ⟨cells_at p2 p6 a1,cells_at p2 p6 a2,cells_at p2 p6 a3,cells_at p2 p6 a4,cells_at p2 p6 a5⟩
theorem OwnX.at {B box g n c j:Nat} {R:Nat→Nat→Prop} {w:World} {ts:List Vl} (h:OwnX B box R w (.slice (some ⟨g,0,none⟩) n c) ts) (hj:j < ts.length) :
  ∃ k' n' s' oi mi ci ok mk ck,w.cell? ⟨g,j * 5,none⟩=some (.int .i64 k')∧w.cell? ⟨g,j * 5 + 1,none⟩=some (.int .i64 n')∧w.cell? ⟨g,j * 5 + 2,none⟩=some (.string s')∧w.cell? ⟨g,j * 5 + 3,none⟩=some (.slice oi mi ci)∧w.cell? ⟨g,j * 5 + 4,none⟩=some (.slice ok mk ck) ∧
   VV (fun k=>R j k∧k < w.heap.size∧k≠box∧k≠g) w (.agg #[.int .i64 k',.int .i64 n',.string s',.slice oi mi ci,.slice ok mk ck]) ts[j]:=by
 obtain ⟨rs,h1,h2,h3⟩:=h
 rcases h1.1.2 with ⟨e,_⟩ | ⟨g',cap,cur,e,p1,p2,p3,p4,p5,p6⟩
 ·cases e
 ·cases e
  have hr:rs[j]? = some rs[j]:=lG (by omega);obtain ⟨a1,a2,a3,a4,a5⟩:=flat5_get rs j _ hr;have b1:=cells_at p2 p6 a1;have b2:=cells_at p2 p6 a2;have b3:=cells_at p2 p6 a3;have b4:=cells_at p2 p6 a4;have b5:=cells_at p2 p6 a5;have hV:=h3 j _ _ hr (lG hj);obtain ⟨k',n',s',oi,mi,ci,ok,mk,ck,e1,e2,e3,e4,e5,hk⟩:=hV.five;rw [e1] at b1;rw [e2] at b2;rw [e3] at b3;rw [e4] at b4;rw [e5] at b5
  have hp:pent rs[j]=.agg #[.int .i64 k',.int .i64 n',.string s',.slice oi mi ci,.slice ok mk ck]:=by
   unfold pent;rw [e1,e2,e3,e4,e5]
  rw [hp] at hV;exact ⟨k',n',s',oi,mi,ci,ok,mk,ck,b1,b2,b3,b4,b5,hV.mono fun k hk=>⟨hk.1,hk.2.1,hk.2.2.1,fun e=>hk.2.2.2 (by rw [e];rfl)⟩⟩
theorem OwnX.set {B box g n c j:Nat} {R:Nat→Nat→Prop} {S:Nat→Prop} {w:World} {ts:List Vl} {t:Vl} {r:V5} (h:OwnX B box R w (.slice (some ⟨g,0,none⟩) n c) ts) (hj:j < ts.length) (ht:VV S w (pent r) t) (hs:∀ k,S k→k≠box∧k≠g) :
  OwnX B box (fun i k=>if i=j then S k else R i k) (w.setCells g (j * 5) [r.1,r.2.1,r.2.2.1,r.2.2.2.1,r.2.2.2.2]) (.slice (some ⟨g,0,none⟩) n c) (ts.set j t)∧Chg (fun k=>k=g) w (w.setCells g (j * 5) [r.1,r.2.1,r.2.2.1,r.2.2.2.1,r.2.2.2.2]):=by
 obtain ⟨rs,h1,h2,h3⟩:=h;have hc:Chg (fun k=>k=g) w (w.setCells g (j * 5) [r.1,r.2.1,r.2.2.1,r.2.2.2.1,r.2.2.2.2]):=Chg.setCells _ _ _ _ rfl;refine ⟨⟨rs.set j r,⟨⟨?_,?_⟩,h1.2⟩,by simp [h2],fun i q x hq he=>?_⟩,hc⟩
 ·rw [flat5_len];simp [h2]
 ·rcases h1.1.2 with ⟨e,_⟩ | ⟨g',cap,cur,e,p1,p2,p3,p4,p5,p6⟩
  ·cases e
  ·cases e
   have hl:cur.toList.length=c * 5:=by simpa using p5
   have hH:=heap_setCells [r.1,r.2.1,r.2.2.1,r.2.2.2.1,r.2.2.2.2] (j * 5) cur.toList 32 (0,0) w p2 (by rw [hl];simp;omega);refine .inr ⟨g,c,_,by simp,p1,hH,by simpa using p3,p4,?_,?_⟩
   ·simp [hl];omega
   ·have hrl:=flat5_len rs
    rw [flat5_set rs j r (by omega),← p6,List.length_set];have hc5:c * 5=cur.toList.length:=hl.symm;exact set_row cur.toList [r.1,r.2.1,r.2.2.1,r.2.2.2.1,r.2.2.2.2] ts.length j rfl (by omega) hj
 ·have hsz:=hc.size
  by_cases e:i=j
  ·subst e
   rw [List.getElem?_set_self (by omega)] at hq;rw [List.getElem?_set_self (by omega)] at he
   cases hq
   cases he
   refine (ht.ex.keep (ZK.chg hc fun k hk e=>(hs k hk.1).2 e) fun k hk=>⟨by show (if i=i then S k else R i k);rw [if_pos rfl];exact hk.1,by omega,(hs k hk.1).1,fun e=>(hs k hk.1).2 (by cases e;rfl)⟩)
  ·rw [List.getElem?_set_ne (fun h=>e h.symm)] at hq he
   exact (h3 i q x hq he).keep (ZK.chg hc fun k hk e=>hk.2.2.2 (by rw [e];rfl)) fun k hk=>⟨by show (if i=j then S k else R i k);rw [if_neg e];exact hk.1,by omega,hk.2.2⟩
theorem chg_store5 (w:World) (b:Nat) (x y z u v:Value):Chg (fun k=>k=b) w (((((w.setCell ⟨b,0,none⟩ x).setCell ⟨b,1,none⟩ y).setCell ⟨b,2,none⟩ z).setCell ⟨b,3,none⟩ u).setCell ⟨b,4,none⟩ v) :=
 ((((Chg.setCell (B:=fun k=>k=b) w b 0 x rfl).trans (Chg.setCell _ b 1 y rfl)).trans (Chg.setCell _ b 2 z rfl)).trans (Chg.setCell _ b 3 u rfl)).trans (Chg.setCell _ b 4 v rfl)
theorem zgg {B:Nat→Prop} {n:Nat} {w w':World} (h:Chg B w w') (hb:∀ k,B k→n≤k) (hn:n≤w.heap.size):Below n w w' :=
 ⟨h.os,h.tape,h.output,h.size,fun k hk=>h.block k (by omega) fun e=>by have:=hb k e;omega⟩
theorem store5_below {n b:Nat} {w w2:World} (h:Below n w w2) (hb:n≤b) (hn:n≤w.heap.size) (x y z u v:Value):Below n w (((((w2.setCell ⟨b,0,none⟩ x).setCell ⟨b,1,none⟩ y).setCell ⟨b,2,none⟩ z).setCell ⟨b,3,none⟩ u).setCell ⟨b,4,none⟩ v) :=
 h.trans (zgg (chg_store5 w2 b x y z u v) (fun k hk=>by rw [hk];exact hb) (Nat.le_trans hn h.size))
theorem store5_vv {P Q:Nat→Prop} {b:Nat} {w:World} {q:Value} {t:Vl} (h:VV P w q t) (hb:¬ P b) (hq:∀ g,P g→Q g) (x y z u v:Value):VV Q (((((w.setCell ⟨b,0,none⟩ x).setCell ⟨b,1,none⟩ y).setCell ⟨b,2,none⟩ z).setCell ⟨b,3,none⟩ u).setCell ⟨b,4,none⟩ v) q t :=
 h.keep (ZK.chg (chg_store5 w b x y z u v) fun g hg e=>hb (e ▸ hg)) hq
def FreshV (t:Vl) (w:World) (e:Ending) (w':World):Prop:=∃ u,e=.returned u∧VV (fun g=>w.heap.size≤g) w' u t∧Below w.heap.size w w'
end Go.Proofs.YtibiiafcnaijeaaGreat
namespace Go.Proofs.YtibiiafcnaijeaaGreat
open Go Go.RowKit Go.Shelf Go.Lib
set_option linter.unusedVariables false
set_option linter.unusedSimpArgs false
set_option maxRecDepth 100000
set_option maxHeartbeats 40000000
theorem infoV:(Tryz.prog.info? 32).map (fun i=>(i.zero,i.size,i.bytes))=some (some (.agg #[.int .i64 0,.int .i64 0,.string ⟨#[]⟩,.slice none 0 0,.slice none 0 0]),5,80):=by kernel_rfl
theorem cloneV_zero (a:Addr) (c:Nat) (w:World):Calls Tryz.prog 71 #[.slice (some a) 0 c] w fun e w'=>∃ v',e=.returned v'∧w'.ownsRow w.heap.size 32 5 v' 0 []∧Below w.heap.size w w':=by
 obtain ⟨i0,hi,hz0,hz1,hz2⟩:=info_parts infoV
 have q22:∀ (w:World) (a:Option Addr) (n c n' c':Nat),(binOp .eql 29 (.slice a n c) (.slice none n' c')).run Tryz.prog w=.ok (.bool a.isNone) w:=fun w a n c n' c'=>Lib.run_eql_slice_nil w _ _ a n c n' c' Tryz.underlying29
 have u22:∀ w,Sem.run Tryz.prog (underlying 29) w=.ok (TypeDesc.slice 32) w:=run_underlying Tryz.underlying29
 go_enter Tryz.func71,Tryz.ntmps71
 go_wp2_with (at_builtin;refine wpList_append_own _ rfl _ _ 29 rfl w.heap.size 32 i0 _ 5 80 Tryz.underlying29 hi hz0 hz1 hz2 rfl (by decide) _ _ _ rfl (World.ownsRow_made w #[] 0 (nR _) (Nat.zero_le _) rfl) a 0 c [] rfl rfl (by intro j u hj;simp at hj) (by intro u hu;cases hu) (by unfold maxLen;omega) (by omega) (by simp) ?_)
 intro v' w1 hown hgrow hnil
 go_wp2
 go_ret;refine ⟨v',rfl,by simpa using hown,?_⟩;exact ((Below.refl _ w).alloc (nR _) _).grown hgrow (by simp) (by intro k hk;simp [Value.ownBlock] at hk;omega)
theorem cloneT_zero (a:Addr) (c:Nat) (w:World):Calls Tryz.prog 99 #[.slice (some a) 0 c] w fun e w'=>∃ v',e=.returned v'∧w'.ownsRow w.heap.size 61 3 v' 0 []∧Below w.heap.size w w':=by
 obtain ⟨i0,hi,hz0,hz1,hz2⟩:=info_parts info26
 have q22:∀ (w:World) (a:Option Addr) (n c n' c':Nat),(binOp .eql 59 (.slice a n c) (.slice none n' c')).run Tryz.prog w=.ok (.bool a.isNone) w:=fun w a n c n' c'=>Lib.run_eql_slice_nil w _ _ a n c n' c' Tryz.underlying59
 have u22:∀ w,Sem.run Tryz.prog (underlying 59) w=.ok (TypeDesc.slice 61) w:=run_underlying Tryz.underlying59
 go_enter Tryz.func99,Tryz.ntmps99
 go_wp2_with (at_builtin;refine wpList_append_own _ rfl _ _ 59 rfl w.heap.size 61 i0 _ 3 56 Tryz.underlying59 hi hz0 hz1 hz2 rfl (by decide) _ _ _ rfl (World.ownsRow_made w #[] 0 (nR _) (Nat.zero_le _) rfl) a 0 c [] rfl rfl (by intro j u hj;simp at hj) (by intro u hu;cases hu) (by unfold maxLen;omega) (by omega) (by simp) ?_)
 intro v' w1 hown hgrow hnil
 go_wp2
 go_ret;refine ⟨v',rfl,by simpa using hown,?_⟩;exact ((Below.refl _ w).alloc (nR _) _).grown hgrow (by simp) (by intro k hk;simp [Value.ownBlock] at hk;omega)
theorem flat5_cells {w:World} {g o:Nat}:∀ {rs:List V5} ,(∀ (i:Nat) r,rs[i]? = some r→w.cell? ⟨g,o + i * 5,none⟩=some r.1∧w.cell? ⟨g,o + i * 5 + 1,none⟩=some r.2.1∧w.cell? ⟨g,o + i * 5 + 2,none⟩=some r.2.2.1∧w.cell? ⟨g,o + i * 5 + 3,none⟩=some r.2.2.2.1∧w.cell? ⟨g,o + i * 5 + 4,none⟩=some r.2.2.2.2) →
  ∀ (j:Nat) u,(flat5 rs)[j]? = some u→w.cell? ⟨g,o + j,none⟩=some u:=by
 intro rs h j u hu;have hj:j < (flat5 rs).length:=(List.getElem?_eq_some_iff.1 hu).1;rw [flat5_len] at hj
 have hi:j / 5 < rs.length:=by omega
 obtain ⟨c0,c1,c2,c3,c4⟩:=h (j / 5) _ (lG hi);obtain ⟨f0,f1,f2,f3,f4⟩:=flat5_get rs (j / 5) _ (lG hi)
 have hm:j=j / 5 * 5 + j % 5:=by omega
 have hlt:j % 5 < 5:=Nat.mod_lt _ (by decide)
 generalize j / 5=i at *
 generalize j % 5=m at *
 subst hm
 match m,hlt with
 | 0,_=>rw [Nat.add_zero,f0] at hu;cases hu;exact c0
 | 1,_=>rw [f1] at hu;cases hu;exact c1
 | 2,_=>rw [f2] at hu;cases hu;exact c2
 | 3,_=>rw [f3] at hu;cases hu;exact c3
 | 4,_=>rw [f4] at hu;cases hu;exact c4
theorem flat5_mem:∀ {rs:List V5} {u:Value},u∈flat5 rs→∃ r∈rs,u=r.1∨u=r.2.1∨u=r.2.2.1∨u=r.2.2.2.1∨u=r.2.2.2.2
 | r :: rs,u,h=>by
  rw [flat5] at h;simp only [List.mem_cons] at h
  rcases h with h | h | h | h | h | h
  ·exact ⟨r,List.mem_cons_self ..,.inl h⟩
  ·exact ⟨r,List.mem_cons_self ..,.inr (.inl h)⟩
  ·exact ⟨r,List.mem_cons_self ..,.inr (.inr (.inl h))⟩
  ·exact ⟨r,List.mem_cons_self ..,.inr (.inr (.inr (.inl h)))⟩
  ·exact ⟨r,List.mem_cons_self ..,.inr (.inr (.inr (.inr h)))⟩
  ·obtain ⟨r',h1,h2⟩:=flat5_mem h
   exact ⟨r',List.mem_cons_of_mem _ h1,h2⟩
theorem flat5_one {P:Nat→Prop} {w:World} {rs:List V5} {is:List Vl} (hl:rs.length=is.length) (h:∀ (i:Nat) r e,rs[i]? = some r→is[i]? = some e→VV P w (pent r) e):∀ u∈flat5 rs,u.oneCell'=true:=fun u hu=>by
 obtain ⟨r,hr,hu⟩:=flat5_mem hu;obtain ⟨j,hj,rfl⟩:=List.getElem_of_mem hr;obtain ⟨k,n,s,oi,mi,ci,ok,mk,ck,e1,e2,e3,e4,e5,_⟩:=(h j rs[j] (is[j]'(by omega)) (lG hj) (lG (by omega))).five
 rcases hu with rfl | rfl | rfl | rfl | rfl
 ·rw [e1];rfl
 ·rw [e2];rfl
 ·rw [e3];rfl
 ·rw [e4];rfl
 ·rw [e5];rfl
theorem cloneV_any (P:Nat→Prop) (box:Nat) (w:World) (v:Value) (is:List Vl) (h:WV P w v is) (hl:is.length≤1000000) (hbox:∀ g,P g→g≠box) :
  Calls Tryz.prog 71 #[v] w fun e w'=>∃ v',e=.returned v'∧OwnW w.heap.size box P w' v' is∧Below w.heap.size w w':=by
 obtain ⟨rs,hq,hrl,he⟩:=h
 have fin:∀ (w':World) (v':Value),w'.ownsRow w.heap.size 32 5 v' is.length (flat5 rs)→Below w.heap.size w w'→OwnW w.heap.size box P w' v' is:=fun w' v' ho hb=>by
  have hB:∀ g,v'.ownBlock=some g→w.heap.size≤g:=fun g hg=>by
   rcases ho.2 with ⟨rfl,_⟩ | ⟨g',cap,cur,rfl,p1,_⟩
   ·cases hg
   ·cases hg;exact p1
  refine ⟨rs,⟨⟨ho.1,ho.2.imp id fun ⟨g,cap,cur,e,p1,p2⟩=>⟨g,cap,cur,e,Nat.zero_le _,p2⟩⟩,hB⟩,hrl,fun i r t hr ht=>?_⟩;refine ((he i r t hr ht).ex.keep (ZK.below hb) fun g hg=>⟨hg.1,Nat.lt_of_lt_of_le hg.2 hb.size,hbox g hg.1,fun e=>?_⟩);have:=hB g e
  omega
 rcases hq.2 with ⟨rfl,oa,c,rfl⟩ | ⟨g,o,c,hp,rfl,hc⟩
 ·obtain rfl:is = []:=List.eq_nil_of_length_eq_zero (by simpa using hrl.symm)
  cases oa with
  | none=>exact (AnyE.slices_Clone_nil Tryz.clV 0 c w).mono fun e w' ⟨h1,h2⟩=>⟨_,h1,OwnW.nil _ _ _ _,by rw [h2];exact Below.refl _ _⟩
  | some a=>exact (cloneV_zero a c w).mono fun e w' ⟨v',h1,h2,h3⟩=>⟨v',h1,fin w' v' h2 h3,h3⟩
 ·obtain ⟨i0,hi,hz0,hz1,hz2⟩:=info_parts infoV
  rw [hrl]
  exact (AnyE.slices_Clone Tryz.clV i0 _ 5 80 hi hz0 hz1 hz2 rfl (by decide) (by intro w;kernel_rfl) g o is.length c (flat5 rs) w (by rw [flat5_len,hrl]) (by unfold maxLen;omega) (by omega) (flat5_cells hc) (flat5_one hrl he)).mono fun e w' ⟨v',h1,h2,_,h4⟩=>⟨v',h1,fin w' v' h2 h4,h4⟩
theorem clone_any (P:Nat→Prop) (w:World) (v:Value) (l:List ByteArray) (h:SV P w v l) (hl:l.length≤1000000) :
  Calls Tryz.prog 37 #[v] w fun e w'=>∃ v',e=.returned v'∧SV (fun g=>w.heap.size≤g) w' v' l∧Below w.heap.size w w':=by
 have hout:∀ (w':World) (v':Value),w'.ownsRow w.heap.size 9 1 v' l.length (strs l)→SV (fun g=>w.heap.size≤g) w' v' l:=fun w' v' ho=>by
  refine ⟨⟨by simp;omega,?_⟩,h.2⟩
  rcases ho.2 with ⟨rfl,h0⟩ | ⟨g,cap,cur,rfl,p1,p2,p3,p4,p5,p6⟩
  ·exact .inl ⟨by rw [List.eq_nil_of_length_eq_zero h0];rfl,_,_,rfl⟩
  ·exact .inr ⟨g,0,cap,p1,by simp,fun i u hu=>by rw [Nat.zero_add];exact cells_at p2 p6 hu⟩
 rcases h.1.2 with ⟨h0,oa,c,rfl⟩ | ⟨g,o,c,hp,rfl,hc⟩
 ·obtain rfl:l = []:=by simpa using h0
  cases oa with
  | none=>exact (Tryz.slices_Clone_string_nil 0 c w).mono fun e w' ⟨h1,h2⟩=>⟨_,h1,⟨⟨by simp,.inl ⟨rfl,_,_,rfl⟩⟩,fun s h=>by cases h⟩,by rw [h2];exact Below.refl _ _⟩
  | some a=>exact (Tryz.slices_Clone_string_zero a c w).mono fun e w' ⟨v',h1,h2,h3,h4⟩=>⟨v',h1,hout w' v' h2,h4⟩
 ·rw [List.length_map]
  refine (Tryz.slices_Clone_string g o l.length c l w (nR _) (by omega) fun j hj=>?_).mono fun e w' ⟨v',h1,h2,h3,h4⟩=>⟨v',h1,hout w' v' (by rw [List.take_length] at h2;exact h2),h4⟩
  refine hc j _ ?_;rw [List.getElem?_map,lG hj];simp [List.getD,hj]
end Go.Proofs.YtibiiafcnaijeaaGreat
namespace Go.Proofs.YtibiiafcnaijeaaGreat
open Go Go.RowKit Go.Proofs.YtibiiafcnaijeaaGreat.Steady
set_option linter.unusedVariables false
set_option linter.unusedSimpArgs false
set_option maxRecDepth 100000
set_option maxHeartbeats 40000000
theorem kO {w w':World} {b:Nat} {o:Obj} (h:w.heap[b]? = some o) (hb:Below w.heap.size w w'):w'.heap[b]? = some o:=(hb.block _ (aS h).1).trans h
abbrev zero5:Obj:=.cells #[.int .i64 0,.int .i64 0,.string ⟨#[]⟩,.slice none 0 0,.slice none 0 0] 32
theorem VV.agg5 {P:Nat→Prop} {w:World} {u:Value} {t:Vl} (h:VV P w u t):∃ k n s oi mi ci ok mk ck,u=.agg #[.int .i64 k,.int .i64 n,.string s,.slice oi mi ci,.slice ok mk ck]:=by
 obtain ⟨k,n,s,is,ks⟩:=t;obtain ⟨vi,vk,rfl,hI,hK,_⟩:=h.out;obtain ⟨oi,ci,rfl⟩:=hI.len;obtain ⟨ok,ck,rfl⟩:=hK.len;exact ⟨k,n,s,_,_,_,_,_,_,rfl⟩
structure DC (P:Nat→Prop) (w wr:World) (k n:Int) (s:ByteArray) (vi vk:Value) (is:List Vl) (ks:List ByteArray) (j:Nat):Prop where
 bel:Below w.heap.size w wr
 obj:wr.heap[w.heap.size]? = some (.cells #[.int .i64 k,.int .i64 n,.string s,vi,vk] 32)
 z:wr.heap[w.heap.size + 1]? = some zero5
 own:OwnX (w.heap.size + 1 + 1) w.heap.size (fun i g=>if i < j then w.heap.size + 1 + 1≤g else P g) wr vi is
 nm:SV (fun g=>w.heap.size + 1 + 1≤g∧vi.ownBlock≠some g) wr vk ks
section
variable {P:Nat→Prop} {w wr w':World} {k n:Int} {s:ByteArray} {vi vk:Value} {is:List Vl} {ks:List ByteArray} {j:Nat}
theorem DC.lt (h:DC P w wr k n s vi vk is ks j):w.heap.size + 1 < wr.heap.size:=(aS h.z).1
theorem DC.later (h:DC P w wr k n s vi vk is ks j) (hb:Below wr.heap.size wr w'):DC P w w' k n s vi vk is ks j:=by
 have hl:=h.lt;exact ⟨h.bel.trans (hb.mono h.bel.size),(hb.block _ (by omega)).trans h.obj,(hb.block _ hl).trans h.z,h.own.later hb,h.nm.keep (ZK.below hb) fun _ h=>h⟩
theorem DC.step {g c:Nat} {r:V5} (hP:∀ g,P g→g < w.heap.size) (h:DC P w wr k n s (.slice (some ⟨g,0,none⟩) is.length c) vk is ks j) (hg:w.heap.size + 1 + 1≤g) (hj:j < is.length) (hr:VV (fun k=>w.heap.size + 1 + 1≤k∧k≠g) wr (pent r) is[j]) :
  DC P w (wr.setCells g (j * 5) [r.1,r.2.1,r.2.2.1,r.2.2.2.1,r.2.2.2.2]) k n s (.slice (some ⟨g,0,none⟩) is.length c) vk is ks (j + 1):=by
 have hl:=h.lt;obtain ⟨h1,hc⟩:=h.own.set hj hr (fun k hk=>⟨by have:=hk.1;omega,hk.2⟩);have hset:is.set j is[j]=is:=List.set_getElem_self hj;rw [hset] at h1;refine ⟨h.bel.trans (zgg hc (fun k hk=>by rw [hk];omega) h.bel.size),(hc.block _ (by omega) (by omega)).trans h.obj,(hc.block _ hl (by omega)).trans h.z,h1.mono (fun i k hi hk=>?_),h.nm.keep (ZK.chg hc fun k hk e=>hk.2 (by rw [e];rfl)) fun _ h=>h⟩
 by_cases e:i=j
 ·subst e
  rw [if_pos rfl] at hk;rw [if_pos (by omega)];exact hk.1
 ·rw [if_neg e] at hk
  by_cases hlt:i < j
  ·rw [if_pos hlt] at hk
   rw [if_pos (by omega)];exact hk
  ·rw [if_neg hlt] at hk
   rw [if_neg (by omega)];exact hk
theorem DC.out {x y z u v:Value} (h:DC P w wr k n s vi vk is ks j) (hj:is.length≤j) (hs:s.size≤140737488355328) (hl:is.length≤140737488355328) :
  VV (fun g=>w.heap.size≤g) (((((wr.setCell ⟨w.heap.size + 1,0,none⟩ x).setCell ⟨w.heap.size + 1,1,none⟩ y).setCell ⟨w.heap.size + 1,2,none⟩ z).setCell ⟨w.heap.size + 1,3,none⟩ u).setCell ⟨w.heap.size + 1,4,none⟩ v) (.agg #[.int .i64 k,.int .i64 n,.string s,vi,vk]) (.mk k n s is ks) ∧
  Below w.heap.size w (((((wr.setCell ⟨w.heap.size + 1,0,none⟩ x).setCell ⟨w.heap.size + 1,1,none⟩ y).setCell ⟨w.heap.size + 1,2,none⟩ z).setCell ⟨w.heap.size + 1,3,none⟩ u).setCell ⟨w.heap.size + 1,4,none⟩ v):=by
 refine ⟨store5_vv (P:=fun g=>w.heap.size + 1 + 1≤g) (VV.mk' hs (h.nm.keep (ZK.refl _ _) fun g hg=>hg.1) (h.own.read (fun i g hi hg=>?_) (fun g hg=>hg) hl)) (by omega) (fun g hg=>by omega) _ _ _ _ _,store5_below h.bel (by omega) (nR _) _ _ _ _ _⟩;rw [if_pos (by omega)] at hg;exact hg
end
def CopyOk (v:Vl):Prop:=∀ (P:Nat→Prop) (w:World) (x:Value),VV P w x v→szV v≤1000000→kyV v≤1000000→Calls Tryz.prog 39 #[x] w (FreshV v w)
theorem copy_any (v:Vl):CopyOk v:=by
 induction v using Vl.ind with
 | h k n s is ks ih =>
  intro P w x hx hsz hky;obtain ⟨vi,vk,rfl,hI,hK,hss⟩:=hx.out;obtain ⟨oi,ci,rfl⟩:=hI.len;obtain ⟨ok,ck,rfl⟩:=hK.len;have hli:=hI.le;have hlk:=hK.le;rw [szV] at hsz;rw [kyV] at hky;have hlen:=szL_len is;have IH:=hid ih
  have HIX:=hid (show WV (fun g=>P g∧g < w.heap.size) w (.slice oi is.length ci) is from by
   obtain ⟨vi',vk',e,hI',_⟩:=hx.ex.out
   cases e
   exact hI')
  have HK:=hid hK;generalize hA:w.alloc (.cells #[.int .i64 k,.int .i64 n,.string s,.slice oi is.length ci,.slice ok ks.length ck] 32)=wa
  have hao:wa.heap[w.heap.size]? = some (.cells #[.int .i64 k,.int .i64 n,.string s,.slice oi is.length ci,.slice ok ks.length ck] 32):=by rw [← hA];exact zhh w _
  have has:wa.heap.size=w.heap.size + 1:=by rw [← hA];simp
  have hab:Below w.heap.size w wa:=by rw [← hA];exact (Below.refl _ _).alloc (nR _) _
  have hT:=zhh wa zero5;have hbb:Below wa.heap.size wa (wa.alloc zero5):=(Below.refl _ _).alloc (nR _) _
  have hbs:(wa.alloc zero5).heap.size=w.heap.size + 2:=by simp [has]
  rw [has] at hT;generalize hB:wa.alloc zero5=wb at hT hbb hbs;have hall:Below w.heap.size w wb:=hab.trans (hbb.mono hab.size);have HA0:=hid hA;have HB0:=hid hB;have HB:=hid hall;have HS:=hid hbs;have HZ:=hid hT;have HA:=hid ((hbb.block _ (by omega)).trans hao);clear hx hI hK ih hA hB hT hbb hbs hall hao has hab;have a3:=(cII HA.out 3).trans rfl;have a4:=(cII HA.out 4).trans rfl;have HCK:=hid (clone_any P wb _ ks (HK.out.bel HB.out) (by omega))
  go_enter Tryz.func39,Tryz.ntmps39
  go_upto_region 1 with (fail)
  rw [HA0.out,HB0.out]
  go_wp2_with fail
  refine HCK.out.mono ?_;rintro e w2 ⟨vk2,rfl,hk2,hb2⟩;obtain ⟨ok2,ck2,rfl⟩:=hk2.len;have HA2:=hid (kO HA.out hb2);have HZ2:=hid (kO HZ.out hb2);have HB2:=hid (HB.out.trans (hb2.mono HB.out.size));have HS2:=hid (show w.heap.size + 2≤w2.heap.size by have:=hb2.size;have:=HS.out;omega);have HK2:=hid (hk2.ex.keep (Q:=fun g=>w.heap.size + 1 + 1≤g∧g < w2.heap.size) (ZK.refl _ _) (fun g hg=>⟨by have:=HS.out;omega,hg.2⟩));clear a3 a4 hk2 hb2;have b3:=(cII HA2.out 3).trans rfl;have b4:=(cII HA2.out 4).trans rfl;have bf:=zff HA2.out
  go_upto_region 2 with (fail)
  have HC3:=hid (Chg.setCell (B:=fun k=>k=w.heap.size) w2 w.heap.size 4 (.slice ok2 ks.length ck2) rfl);have HA3:Hid ((w2.setCell ⟨w.heap.size,4,none⟩ (.slice ok2 ks.length ck2)).heap[w.heap.size]? = some (.cells #[.int .i64 k,.int .i64 n,.string s,.slice oi is.length ci,.slice ok2 ks.length ck2] 32)):=hid (obj_set (po:=4) HA2.out _)
  generalize w2.setCell ⟨w.heap.size,4,none⟩ (.slice ok2 ks.length ck2)=w3 at *
  have HZ3:=hid ((HC3.out.block _ (by have:=HS2.out;omega) (by omega)).trans HZ2.out);have HB3:=hid (HB2.out.trans (zgg HC3.out (fun k hk=>by rw [hk];exact nR _) (by have:=HS2.out;omega)));have HS3:=hid (show w2.heap.size≤w3.heap.size from HC3.out.size);have HK3:=hid (HK2.out.keep (ZK.chg HC3.out fun g hg e=>by have:=hg.1;omega) fun g h=>h);have HCV:=hid (cloneV_any _ w.heap.size w3 _ is (HIX.out.bel HB3.out) (by omega) (fun g hg e=>by have:=hg.2;omega));clear b3 b4 bf HC3 HA2 HZ2 HK2;have b3:=(cII HA3.out 3).trans rfl
  go_wp2_with fail
  clear b3;refine HCV.out.mono ?_;rintro e w4 ⟨vi,rfl,hw,hb4⟩
  obtain ⟨oa,ca,rfl⟩:∃ oa ca,vi=.slice oa is.length ca:=by
   rcases hw.x.slice with ⟨rfl,h0⟩ | ⟨g,c,rfl,_⟩
   ·exact ⟨none,0,by rw [h0];rfl⟩
   ·exact ⟨_,c,rfl⟩
  have HA4:=hid (kO HA3.out hb4);have b3:=(cII HA4.out 3).trans rfl;have bf:=zff HA4.out
  have HD:Hid (DC (fun g=>P g∧g < w.heap.size) w (w4.setCell ⟨w.heap.size,3,none⟩ (.slice oa is.length ca)) k n s (.slice oa is.length ca) (.slice ok2 ks.length ck2) is ks 0):=hid (by
   have hsz:=HS2.out;have hsz3:=HS3.out;have hc:=Chg.setCell (B:=fun k=>k=w.heap.size) w4 w.heap.size 3 (.slice oa is.length ca) rfl;refine ⟨(HB3.out.trans (hb4.mono HB3.out.size)).trans (zgg hc (fun k hk=>by rw [hk];exact nR _) (by have:=hb4.size;omega)),obj_set (po:=3) HA4.out _,(hc.block _ (by have:=hb4.size;omega) (by omega)).trans (kO HZ3.out hb4),?_,?_⟩
   ·exact ((hw.x.base (by omega)).store (by omega) _).mono fun i g hi hg=>by rw [if_neg (by omega)];exact hg
   ·refine (HK3.out.bel hb4).keep (ZK.chg hc fun g hg e=>by have:=hg.1;omega) fun g hg=>⟨hg.1,fun e=>?_⟩
    have h1:=hg.2
    rcases hw.x.slice with ⟨e0,h0⟩ | ⟨g',c',e',h1',h2'⟩
    ·rw [e0] at e;cases e
    ·rw [e'] at e
     have e2:g'=g:=by cases e;rfl
     have h3:w3.heap.size≤g':=h1';have h4:g < w2.heap.size:=h1
     omega)
  clear hw hb4 HA3 HZ3 HK3 HCV
  go_upto_region 4 with (fail)
  generalize w4.setCell ⟨w.heap.size,3,none⟩ (.slice oa is.length ca)=w5 at *
  clear b3 bf HA4
  go_wp2_with fail
  go_loopw [15] (fun i wr=>∃ j:Nat,j≤is.length∧i=.int .i64 j∧Hid (DC (fun g=>P g∧g < w.heap.size) w wr k n s (.slice oa is.length ca) (.slice ok2 ks.length ck2) is ks j)) (fun i _=>is.length - (intOf i).toNat)
  case atStart=>exact ⟨0,Nat.zero_le _,rfl,HD⟩
  case round =>
   clear HD;obtain ⟨j,hj,rfl,HD⟩:=hrel
   by_cases hlt:j < is.length
   ·obtain ⟨g,c,e,hg1,hg2,cur,hcur⟩:=HD.out.own.slice.resolve_left (fun h=>by rw [h.2] at hlt;cases hlt)
    cases e
    obtain ⟨k1,n1,s1,oi1,mi1,ci1,ok1,mk1,ck1,a1,a2,a3,a4,a5,hV⟩:=HD.out.own.at hlt;have x3:=(cII HD.out.obj 3).trans rfl
    have hj0:(0:Int)≤(j:Int):=by omega
    have hj1:(j:Int) < (is.length:Int):=by omega
    have HCall:=hid (IH.out is[j] (lM hlt) _ wr.drew _ (hV.bel (zdd (Below.refl _ _))) (by have:=szV_mem (lM hlt);omega) (by have:=kyV_mem (lM hlt);omega));have HCU:=hid hcur;have HG:=hid (And.intro hg1 hg2);clear hV hcur hg1 hg2
    go_wp2_with fail
    refine zt 10 (fun v=>v.cell? ⟨w.heap.size,3,none⟩=some (.slice (some ⟨g,0,none⟩) is.length ca)∧v.cell? ⟨g,j * 5,none⟩=some (.int .i64 k1)∧v.cell? ⟨g,j * 5 + 1,none⟩=some (.int .i64 n1)∧v.cell? ⟨g,j * 5 + 2,none⟩=some (.string s1)∧v.cell? ⟨g,j * 5 + 3,none⟩=some (.slice oi1 mi1 ci1)∧v.cell? ⟨g,j * 5 + 4,none⟩=some (.slice ok1 mk1 ck1)) (by kernel_rfl) (by kernel_rfl) (⟨x3,a1,a2,a3,a4,a5⟩) ?_;simp only [List.take_succ_cons,List.take_zero,List.drop_succ_cons,List.drop_zero]
    repeat ((first
     | refine sK ?_
     | refine sC0 ?_);try simp only [Act.put,sA,sZ,sS])
    refine sL fun K hK=>?_
    go_simp
    refine HCall.out.mono ?_;rintro e w6 ⟨u,rfl,hu,hb6⟩;have D6:=hid (HD.out.later (show Below wr.heap.size wr w6 from ⟨hb6.os,hb6.tape,hb6.output,hb6.size,hb6.block⟩));have hcu6:w6.heap[g]? = _:=(hb6.block g HG.out.2).trans HCU.out;have HU6:=hid (hu.mono (Q:=fun k=>w.heap.size + 1 + 1≤k∧k≠g) (fun k (hk:wr.heap.size≤k)=>⟨by have:=HD.out.lt;omega,by have:=HG.out.2;omega⟩));have hf:=zff hcu6;have r1:=zbb (W:=wr.drew) hb6 x3;have r2:=zbb (W:=wr.drew) hb6 a1;have r3:=zbb (W:=wr.drew) hb6 a2;have r4:=zbb (W:=wr.drew) hb6 a3;have r5:=zbb (W:=wr.drew) hb6 a4;have r6:=zbb (W:=wr.drew) hb6 a5;obtain ⟨k6,n6,s6,oi6,mi6,ci6,ok6,mk6,ck6,rfl⟩:=hu.agg5;clear hu hb6 hcu6 HCU x3 a1 a2 a3 a4 a5;refine hK.out _ _ (⟨r1,r2,r3,r4,r5,r6⟩) ?_;clear hK K
    try simp only [Act.put,sA,sZ,sS]
    repeat ((first
     | refine sK ?_
     | refine sC3 ?_);try simp only [Act.put,sA,sZ,sS])
    refine zn ?_
    go_wp2_with fail
    go_roundw
    case rel =>
     have hstep:=DC.step (fun g hg=>hg.2) D6.out HG.out.1 hlt (r:=(.int .i64 k6,.int .i64 n6,.string s6,.slice oi6 mi6 ci6,.slice ok6 mk6 ck6)) HU6.out;exact ⟨j + 1,by omega,by go_num,hid hstep⟩
    case measure=>simp [intOf];omega
   ·have x0:=(cII HD.out.obj 0).trans rfl
    have x1:=(cII HD.out.obj 1).trans rfl;have x2:=(cII HD.out.obj 2).trans rfl;have x3:=(cII HD.out.obj 3).trans rfl;have x4:=(cII HD.out.obj 4).trans rfl;have f0:=(cII HD.out.z 0).trans rfl;have f1:=(cII HD.out.z 1).trans rfl;have f2:=(cII HD.out.z 2).trans rfl;have f3:=(cII HD.out.z 3).trans rfl;have f4:=(cII HD.out.z 4).trans rfl;have fz:=zff HD.out.z
    go_wp2_with fail
    try simp only [Exit.inBlock,Exit.then]
    refine bodyPost_ret (v:=.agg #[.int .i64 k,.int .i64 n,.string s,.slice oa is.length ca,.slice ok2 ks.length ck2]) (by simp [results,Tryz.results39,go_sem,f0,f1,f2,f3,f4]) rfl ?_;have OUT:=hid (HD.out.out (x:=.int .i64 k) (y:=.int .i64 n) (z:=.string s) (u:=.slice oa is.length ca) (v:=.slice ok2 ks.length ck2) (by omega) hss hli);exact ⟨_,rfl,OUT.out.1,OUT.out.2⟩
theorem make_vals (w:World) (n:Nat) (hn:n≤1000000):∃ W,(Instr.makeSlice 29 (.int .i64 0) (.int .i64 (n:Int))).run Tryz.prog w=.ok (.slice (some ⟨w.heap.size,0,none⟩) 0 n) W ∧
  OwnW w.heap.size w.heap.size (fun g=>w.heap.size < g) W (.slice (some ⟨w.heap.size,0,none⟩) 0 n) []∧Below w.heap.size w W∧W.heap.size=w.heap.size + 1:=by
 obtain ⟨i,hi,hz,hs,hb⟩:=info_parts infoV;obtain ⟨W,h1,h2,h3⟩:=run_make_own (P:=Tryz.prog) w w.heap.size 29 32 i _ 5 Tryz.underlying29 hi hz hs .i64 .i64 n (by rw [hb];omega) (by unfold maxLen;omega) (nR _);have hr:=run_make (P:=Tryz.prog) w 29 32 i _ Tryz.underlying29 hi hz .i64 .i64 0 n (Int.le_refl _) (by omega) (by rw [hb];omega) (by omega);simp only [Int.toNat_zero,Int.toNat_natCast] at hr;rw [hr] at h1
 cases h1
 refine ⟨_,hr,⟨[],⟨⟨h2.1,h2.2.imp id fun ⟨g,cap,cur,e,p1,p2⟩=>⟨g,cap,cur,e,Nat.zero_le _,p2⟩⟩,fun g hg=>by cases hg;exact nR _⟩,rfl,fun i r t hr=>by simp at hr⟩,(Below.refl _ _).alloc (nR _) _,by simp⟩
def VCopyOk (v:Vl):Prop:=∀ (P:Nat→Prop) (w:World) (x:Value),VV P w x v→szV v≤1000000→kyV v≤1000000→Calls Tryz.prog 101 #[x] w (FreshV v w)
def FreshW (is:List Vl) (w:World) (e:Ending) (w':World):Prop:=∃ u,e=.returned u∧OwnW w.heap.size w.heap.size (fun g=>w.heap.size < g) w' u is∧Below w.heap.size w w'
theorem copies_any (is:List Vl) (ih:∀ v∈is,VCopyOk v) (P:Nat→Prop) (w:World) (x:Value) (hx:WV P w x is) (hsz:szL is≤1000000) (hky:kyL is≤1000000) :
  Calls Tryz.prog 114 #[x] w (FreshW is w):=by
 obtain ⟨ox,cx,rfl⟩:=hx.len;have hle:=hx.le;have hlen:=szL_len is;have HX:=hid hx;have IH:=hid ih;clear hx ih
 by_cases h0:is.length=0
 ·have d1:decide ((is.length:Int)=0)=true:=dTT (by omega)
  have d2:((is.length:Int) == 0)=true:=bT (by omega);obtain rfl:=List.eq_nil_of_length_eq_zero h0;clear h0
  go_enter Tryz.func114,Tryz.ntmps114
  go_wp2_with fail
  go_ret;exact ⟨_,rfl,OwnW.nil _ _ _ _,Below.refl _ _⟩
 have d1:decide ((is.length:Int)=0)=false:=dF (by omega);have d2:((is.length:Int) == 0)=false:=bF (by omega);clear h0;obtain ⟨w1,hm1,ho1,hb1,hs1⟩:=make_vals w is.length (by omega);have HO1:=hid ho1;have HB1:=hid hb1;have HS1:=hid hs1;clear ho1 hb1 hs1
 go_enter Tryz.func114,Tryz.ntmps114
 go_upto_region 4 with (fail)
 go_wp2_with fail
 go_loopw [3,14] (fun v i wr=>∃ j:Nat,j≤is.length∧i=.int .i64 j∧Hid (Below w.heap.size w wr)∧Hid (w.heap.size < wr.heap.size)∧Hid (OwnW w.heap.size w.heap.size (fun g=>w.heap.size < g) wr v (is.take j))) (fun _ i _=>is.length - (intOf i).toNat)
 case atStart=>exact ⟨0,Nat.zero_le _,rfl,HB1,hid (by have:=HS1.out;omega),HO1⟩
 case round =>
  clear hm1 HO1 HB1 HS1;obtain ⟨j,hj,rfl,HB,HL,HO⟩:=hrel;obtain ⟨ov,mv,cv,rfl⟩:=HO.out.slice
  by_cases hlt:j < is.length
  ·obtain ⟨g,off,c,k1,n1,s1,oi1,mi1,ci1,ok1,mk1,ck1,e1,a1,a2,a3,a4,a5,hV,-⟩:=(HX.out.bel HB.out).at hlt
   cases e1
   have hj0:(0:Int)≤(j:Int):=by omega
   have hj1:(j:Int) < (is.length:Int):=by omega
   have hjn:j≤1000000:=by omega
   have HV:=hid hV;clear hV
   go_upto_region 7 with (fail)
   have hb5:Below wr.heap.size wr (wr.alloc (.cells #[.int .i64 k1,.int .i64 n1,.string s1,.slice oi1 mi1 ci1,.slice ok1 mk1 ck1] 32)):=(Below.refl _ _).alloc (nR _) _;have hxo:=zhh wr (.cells #[.int .i64 k1,.int .i64 n1,.string s1,.slice oi1 mi1 ci1,.slice ok1 mk1 ck1] 32)
   generalize wr.alloc (.cells #[.int .i64 k1,.int .i64 n1,.string s1,.slice oi1 mi1 ci1,.slice ok1 mk1 ck1] 32)=w5 at *
   have HCall:=hid (IH.out is[j] (lM hlt) _ w5 _ (HV.out.bel hb5) (by have:=szV_mem (lM hlt);omega) (by have:=kyV_mem (lM hlt);omega));have HB5:=hid (HB.out.trans (hb5.mono HB.out.size));have HO5:=hid (HO.out.later hb5);have HL5:=hid (show w.heap.size < w5.heap.size by have:=hb5.size;have:=HL.out;omega);have HTK:Hid (is.take (j + 1)=is.take j ++ [is[j]]):=hid (List.take_succ_eq_append_getElem hlt);have htl:(is.take j).length≤j:=List.length_take_le _ _;have z0:=(cII hxo 0).trans rfl;have z1:=(cII hxo 1).trans rfl;have z2:=(cII hxo 2).trans rfl;have z3:=(cII hxo 3).trans rfl;have z4:=(cII hxo 4).trans rfl;clear a1 a2 a3 a4 a5 hb5 hxo HV HO HL HB
   generalize is[j]=t4 at *
   generalize is.take j=ts at *
   go_wp2_with fail
   clear z0 z1 z2 z3 z4;refine HCall.out.mono ?_;rintro e w6 ⟨u,rfl,hu,hb6⟩;obtain ⟨k6,n6,s6,oi6,mi6,ci6,ok6,mk6,ck6,rfl⟩:=hu.agg5;have HU6:=hid hu;have HB6:=hid (HB5.out.trans (hb6.mono HB5.out.size));have HL6:=hid (show w5.heap.size≤w6.heap.size from hb6.size);have HO6:=hid (HO5.out.later hb6);have HOB:=hid (fun g (e:(Value.slice ov mv cv).ownBlock=some g)=>HO5.out.block e);clear hu hb6 HCall HO5;obtain ⟨rs,hm,hl2,he4⟩:=HO6.out
   go_upto_region 8 with (at_builtin;refine app_tag (by rfl) (.tmp 18) (.tmp 21) 29 (by rfl) 32 (.agg #[.int .i64 0,.int .i64 0,.string ⟨#[]⟩,.slice none 0 0,.slice none 0 0]) 5 80 Tryz.underlying29 infoV rfl (by decide) (by decide) _ _ _ hm.1 (by rfl) [.int .i64 k6,.int .i64 n6,.string s6,.slice oi6 mi6 ci6,.slice ok6 mk6 ck6] w6.heap.size (by rfl) (by rfl) (by rfl) (by simp [Value.oneCell']) (by omega) ?_;intro v7 w7 hown7 hc7 hp7 hne7;obtain ⟨o7,n7,c7,rfl⟩:=zw hown7)
   have HO7:=hid (OwnW.push (r0:=(.int .i64 k6,.int .i64 n6,.string s6,.slice oi6 mi6 ci6,.slice ok6 mk6 ck6)) (show w.heap.size≤w6.heap.size by have:=HL5.out;have:=HL6.out;omega) ⟨rs,hm,hl2,he4,hown7⟩ HU6.out (fun k (hk:w5.heap.size≤k)=>⟨by have:=HL5.out;omega,by have:=HL5.out;omega,fun e=>by have:=(HOB.out k e).2;omega⟩) hc7 hp7);have HB7:=hid (hm.below (by have:=HL5.out;have:=HL6.out;omega) HB6.out hc7);have HL7:=hid (show w.heap.size < w7.heap.size by have:=hc7.size;have:=HL5.out;have:=HL6.out;omega);clear hown7 hc7 hp7 hne7 hm hl2 he4 rs
   go_wp2_with fail
   go_roundw
   case rel =>
    exact ⟨j + 1,by omega,by go_num,HB7,HL7,by rw [HTK.out];exact HO7⟩
   case measure=>simp [intOf];omega
  ·have hts:is.take j=is:=List.take_of_length_le (by omega)
   rw [hts] at HO;clear hts
   go_wp2_with fail
   go_ret;exact ⟨_,rfl,HO.out,HB.out⟩
theorem OwnW.chg {B box z:Nat} {R:Nat→Prop} {w w':World} {v:Value} {ts:List Vl} (h:OwnW B box R w v ts) (hc:Chg (fun k=>k=z) w w') (hz:z < B) (hr:∀ g,R g→g≠z):OwnW B box R w' v ts:=by
 obtain ⟨rs,h1,h2,h3⟩:=h;exact ⟨rs,made_keep h1 hc fun k hk=>by omega,h2,fun i r t hr' ht=>(h3 i r t hr' ht).keep (ZK.chg hc fun g hg e=>hr g hg.1 e) fun g hg=>⟨hg.1,Nat.lt_of_lt_of_le hg.2.1 hc.size,hg.2.2⟩⟩
theorem clone_row (P:Nat→Prop) (w:World) (v:Value) (l:List ByteArray) (h:SV P w v l) (hl:l.length≤1000000) :
  Calls Tryz.prog 37 #[v] w fun e w'=>∃ v',e=.returned v'∧Row w' v' l∧(∀ g,v'.ownBlock=some g→w.heap.size≤g)∧SV (fun g=>w.heap.size≤g) w' v' l∧Below w.heap.size w w':=by
 have hout:∀ (w':World) (v':Value),w'.ownsRow w.heap.size 9 1 v' l.length (strs l)→SV (fun g=>w.heap.size≤g) w' v' l:=fun w' v' ho=>by
  refine ⟨⟨by simp;omega,?_⟩,h.2⟩
  rcases ho.2 with ⟨rfl,h0⟩ | ⟨g,cap,cur,rfl,p1,p2,p3,p4,p5,p6⟩
  ·exact .inl ⟨by rw [List.eq_nil_of_length_eq_zero h0];rfl,_,_,rfl⟩
  ·exact .inr ⟨g,0,cap,p1,by simp,fun i u hu=>by rw [Nat.zero_add];exact cells_at p2 p6 hu⟩
 have hrow:∀ (w':World) (v':Value),w'.ownsRow w.heap.size 9 1 v' l.length (strs l)→Row w' v' l∧∀ g,v'.ownBlock=some g→w.heap.size≤g:=fun w' v' ho=>by
  rcases ho.2 with ⟨rfl,h0⟩ | ⟨g,cap,cur,rfl,p1,p2,p3,p4,p5,p6⟩
  ·exact ⟨.inl ⟨rfl,List.eq_nil_of_length_eq_zero h0⟩,fun g hg=>by cases hg⟩
  ·have hcl:cur.toList.length=cap:=by simpa using p5
   refine ⟨.inr ⟨g,cur.toList.drop l.length,?_,?_,?_⟩,fun g' hg=>by cases hg;exact p1⟩
   ·rw [List.length_drop,hcl,show l.length + (cap - l.length)=cap by omega]
   ·have:strs l ++ cur.toList.drop l.length=cur.toList:=by
     have h6:cur.toList.take l.length=strs l:=by simpa using p6
     rw [← h6,List.take_append_drop]
    rw [this];exact p2
   ·rw [List.length_drop,hcl];unfold maxLen at p4;omega
 rcases h.1.2 with ⟨h0,oa,c,rfl⟩ | ⟨g,o,c,hp,rfl,hc⟩
 ·obtain rfl:l = []:=by simpa using h0
  cases oa with
  | none=>exact (Tryz.slices_Clone_string_nil 0 c w).mono fun e w' ⟨h1,h2⟩=>⟨_,h1,.inl ⟨rfl,rfl⟩,(fun g hg=>by cases hg),⟨⟨by simp,.inl ⟨rfl,_,_,rfl⟩⟩,fun s h=>by cases h⟩,by rw [h2];exact Below.refl _ _⟩
  | some a=>exact (Tryz.slices_Clone_string_zero a c w).mono fun e w' ⟨v',h1,h2,h3,h4⟩=>⟨v',h1,(hrow w' v' h2).1,(hrow w' v' h2).2,hout w' v' h2,h4⟩
 ·rw [List.length_map]
  refine (Tryz.slices_Clone_string g o l.length c l w (nR _) (by omega) fun j hj=>?_).mono fun e w' ⟨v',h1,h2,h3,h4⟩=>by
   rw [List.take_length] at h2;exact ⟨v',h1,(hrow w' v' h2).1,(hrow w' v' h2).2,hout w' v' h2,h4⟩
  refine hc j _ ?_;rw [List.getElem?_map,lG hj];simp [List.getD,hj]
def FreshO (k n:Int) (s:ByteArray) (is:List Vl) (ks:List ByteArray) (w:World) (e:Ending) (w':World):Prop:=∃ vi vk M,e=.returned (.agg #[.int .i64 k,.int .i64 n,.string s,vi,vk])∧Below w.heap.size w w'∧w.heap.size + 2≤M∧s.size≤140737488355328 ∧
 Row w' vk ks∧(∀ g,vk.ownBlock=some g→w.heap.size + 2≤g∧g < M)∧SV (fun g=>w.heap.size + 2≤g) w' vk ks∧OwnW M M (fun g=>M < g) w' vi is
theorem FreshO.v {k n:Int} {s:ByteArray} {is:List Vl} {ks:List ByteArray} {w w':World} {e:Ending} (hl:is.length≤140737488355328) (h:FreshO k n s is ks w e w'):FreshV (.mk k n s is ks) w e w':=by
 obtain ⟨vi,vk,M,rfl,hb,hM,hs,hr,hk,hsv,ho⟩:=h;exact ⟨_,rfl,VV.mk' hs (hsv.keep (ZK.refl _ _) fun g hg=>by omega) (ho.x.read (fun i g _ (hg:M < g)=>by omega) (fun g hg=>by omega) hl),hb⟩
def VCopyO (v:Vl):Prop:=match v with
 | .mk k n s is ks=>∀ (P:Nat→Prop) (w:World) (x:Value),VV P w x (.mk k n s is ks)→szV (.mk k n s is ks)≤1000000→kyV (.mk k n s is ks)≤1000000→Calls Tryz.prog 101 #[x] w (FreshO k n s is ks w)
theorem VCopyO.w {v:Vl} (h:VCopyO v):VCopyOk v:=by
 obtain ⟨k,n,s,is,ks⟩:=v;intro P w x hx hsz hky
 have hl:is.length≤140737488355328:=by
  rw [szV] at hsz;have:=szL_len is
  omega
 exact (h P w x hx hsz hky).mono fun e w' h=>h.v hl
theorem vcopyO_any (v:Vl):VCopyO v:=by
 induction v using Vl.ind with
 | h k n s is ks ih =>
  intro P w x hx hsz hky;obtain ⟨vi,vk,rfl,hI,hK,hss⟩:=hx.out;obtain ⟨oi,ci,rfl⟩:=hI.len;obtain ⟨ok,ck,rfl⟩:=hK.len;rw [szV] at hsz;rw [kyV] at hky;have HI:=hid hI;have HK:=hid hK;have IH:=hid (fun v hv=>(ih v hv).w);generalize hA:w.alloc (.cells #[.int .i64 k,.int .i64 n,.string s,.slice oi is.length ci,.slice ok ks.length ck] 32)=wa
  have hao:wa.heap[w.heap.size]? = some (.cells #[.int .i64 k,.int .i64 n,.string s,.slice oi is.length ci,.slice ok ks.length ck] 32):=by rw [← hA];exact zhh w _
  have has:wa.heap.size=w.heap.size + 1:=by rw [← hA];simp
  have hab:Below w.heap.size w wa:=by rw [← hA];exact (Below.refl _ _).alloc (nR _) _
  have hT:=zhh wa zero5;have hbb:Below wa.heap.size wa (wa.alloc zero5):=(Below.refl _ _).alloc (nR _) _
  have hbs:(wa.alloc zero5).heap.size=w.heap.size + 2:=by simp [has]
  rw [has] at hT;generalize hB:wa.alloc zero5=wb at hT hbb hbs;have hall:Below w.heap.size w wb:=hab.trans (hbb.mono hab.size);have HA0:=hid hA;have HB0:=hid hB;have HB:=hid hall;have HS:=hid hbs;have HZ:=hid hT;have HA:=hid ((hbb.block _ (by omega)).trans hao);clear hx hI hK ih hA hB hT hbb hbs hall hao has hab;have a3:=(cII HA.out 3).trans rfl;have a4:=(cII HA.out 4).trans rfl;have HCK:=hid (clone_row P wb _ ks (HK.out.bel HB.out) (by omega))
  go_enter Tryz.func101,Tryz.ntmps101
  go_upto_region 1 with (fail)
  rw [HA0.out,HB0.out]
  go_wp2_with fail
  refine HCK.out.mono ?_;rintro e w2 ⟨vk2,rfl,hrow2,hown2,hk2,hb2⟩;obtain ⟨ok2,ck2,rfl⟩:=hk2.len;have HA2:=hid (kO HA.out hb2);have HZ2:=hid (kO HZ.out hb2);have HB2:=hid (HB.out.trans (hb2.mono HB.out.size));have HS2:=hid (show w.heap.size + 2≤w2.heap.size by have:=hb2.size;have:=HS.out;omega);have HR2:=hid hrow2;have HOB:=hid (fun g e=>And.intro (show w.heap.size + 2≤g by have:=hown2 g e;have:=HS.out;omega) (hrow2.lt e));have HK2:=hid (hk2.keep (Q:=fun g=>w.heap.size + 1 + 1≤g) (ZK.refl _ _) (fun g hg=>by have:=HS.out;omega));clear a3 a4 hk2 hb2 hrow2 hown2;have b3:=(cII HA2.out 3).trans rfl;have b4:=(cII HA2.out 4).trans rfl;have bf:=zff HA2.out
  go_upto_region 2 with (fail)
  have HC3:=hid (Chg.setCell (B:=fun k=>k=w.heap.size) w2 w.heap.size 4 (.slice ok2 ks.length ck2) rfl);have HA3:Hid ((w2.setCell ⟨w.heap.size,4,none⟩ (.slice ok2 ks.length ck2)).heap[w.heap.size]? = some (.cells #[.int .i64 k,.int .i64 n,.string s,.slice oi is.length ci,.slice ok2 ks.length ck2] 32)):=hid (obj_set (po:=4) HA2.out _)
  generalize w2.setCell ⟨w.heap.size,4,none⟩ (.slice ok2 ks.length ck2)=w3 at *
  have HZ3:=hid ((HC3.out.block _ (by have:=HS2.out;omega) (by omega)).trans HZ2.out);have HB3:=hid (HB2.out.trans (zgg HC3.out (fun k hk=>by rw [hk];exact nR _) (by have:=HS2.out;omega)));have HS3:=hid (show w2.heap.size≤w3.heap.size from HC3.out.size);have HK3:=hid (HK2.out.keep (ZK.chg HC3.out fun g hg e=>by omega) fun g h=>h);have HR3:=hid (HR2.out.chg HC3.out fun g e h=>by have:=(HOB.out g e).1;omega);have HCV:=hid (copies_any is IH.out P w3 _ (HI.out.bel HB3.out) (by omega) (by omega));clear b3 b4 bf HC3 HA2 HZ2 HK2 HR2;have b3:=(cII HA3.out 3).trans rfl
  go_wp2_with fail
  clear b3;refine HCV.out.mono ?_;rintro e w4 ⟨vi,rfl,hw,hb4⟩
  obtain ⟨oa,ca,rfl⟩:∃ oa ca,vi=.slice oa is.length ca:=by
   rcases hw.x.slice with ⟨rfl,h0⟩ | ⟨g,c,rfl,_⟩
   ·exact ⟨none,0,by rw [h0];rfl⟩
   ·exact ⟨_,c,rfl⟩
  have HA4:=hid (kO HA3.out hb4);have b3:=(cII HA4.out 3).trans rfl;have bf:=zff HA4.out;have HC5:=hid (Chg.setCell (B:=fun k=>k=w.heap.size) w4 w.heap.size 3 (.slice oa is.length ca) rfl);have HA5:Hid ((w4.setCell ⟨w.heap.size,3,none⟩ (.slice oa is.length ca)).heap[w.heap.size]? = some (.cells #[.int .i64 k,.int .i64 n,.string s,.slice oa is.length ca,.slice ok2 ks.length ck2] 32)):=hid (obj_set (po:=3) HA4.out _);have HZ4:=hid (kO HZ3.out hb4);have HB4:=hid (HB3.out.trans (hb4.mono HB3.out.size));have HS4:=hid (show w.heap.size + 2≤w4.heap.size by have:=hb4.size;have:=HS3.out;have:=HS2.out;omega);have HR4:=hid (HR3.out.of_same fun g e=>hb4.block g (by have:=(HOB.out g e).2;have:=HS3.out;omega));have HWV:=hid hw;have HM:=hid (show w.heap.size + 2≤w3.heap.size by have:=HS3.out;have:=HS2.out;omega)
  have HOB4:=hid (fun g e=>And.intro (HOB.out g e).1 (show g < w3.heap.size by have:=(HOB.out g e).2;have:=HS3.out;omega));have HK4:=hid (HK3.out.bel hb4);clear hw hb4 HA3 HZ3 HK3 HCV HR3 HOB
  go_upto_region 3 with (fail)
  generalize w4.setCell ⟨w.heap.size,3,none⟩ (.slice oa is.length ca)=w5 at *
  have HK5:=hid (HK4.out.keep (ZK.chg HC5.out fun g hg e=>by omega) fun g h=>h);have HR5:=hid (HR4.out.chg HC5.out fun g e h=>by have:=(HOB4.out g e).1;omega);have HW5:=hid (HWV.out.chg HC5.out (by have:=HM.out;omega) (fun g (hg:w3.heap.size < g)=>by have:=HM.out;omega));have HZ5:=hid ((HC5.out.block _ (by have:=HS4.out;omega) (by omega)).trans HZ4.out);have HB5:=hid (HB4.out.trans (zgg HC5.out (fun k hk=>by rw [hk];exact nR _) (by have:=HS4.out;omega)));clear b3 bf HA4 HC5 HZ4 HWV HK4 HR4;have x0:=(cII HA5.out 0).trans rfl;have x1:=(cII HA5.out 1).trans rfl;have x2:=(cII HA5.out 2).trans rfl;have x3:=(cII HA5.out 3).trans rfl;have x4:=(cII HA5.out 4).trans rfl;have f0:=(cII HZ5.out 0).trans rfl;have f1:=(cII HZ5.out 1).trans rfl;have f2:=(cII HZ5.out 2).trans rfl;have f3:=(cII HZ5.out 3).trans rfl
  have f4:=(cII HZ5.out 4).trans rfl;have fz:=zff HZ5.out
  go_wp2_with fail
  try simp only [Exit.inBlock,Exit.then]
  refine bodyPost_ret (v:=.agg #[.int .i64 k,.int .i64 n,.string s,.slice oa is.length ca,.slice ok2 ks.length ck2]) (by simp [results,Tryz.results101,go_sem,f0,f1,f2,f3,f4]) rfl ?_;have hc:=chg_store5 w5 (w.heap.size + 1) (.int .i64 k) (.int .i64 n) (.string s) (.slice oa is.length ca) (.slice ok2 ks.length ck2);have hMM:=HM.out;exact ⟨_,_,w3.heap.size,rfl,store5_below HB5.out (by omega) (nR _) _ _ _ _ _,hMM,hss,HR5.out.chg hc (fun g e h=>by have:=(HOB4.out g e).1;omega),HOB4.out,HK5.out.keep (ZK.chg hc fun g hg e=>by omega) (fun g h=>h),HW5.out.chg hc (by omega) (fun g (hg:w3.heap.size < g)=>by omega)⟩
theorem vcopy_any (v:Vl):VCopyOk v:=(vcopyO_any v).w
end Go.Proofs.YtibiiafcnaijeaaGreat
