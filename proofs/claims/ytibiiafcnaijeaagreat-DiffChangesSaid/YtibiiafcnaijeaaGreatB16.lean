/- A part. -/
import Derived.Test.YtibiiafcnaijeaaGreatB00
import Derived.Test.YtibiiafcnaijeaaGreatB12
import Derived.Test.YtibiiafcnaijeaaGreatB01
namespace Go.Proofs.YtibiiafcnaijeaaGreat
open Go Go.RowKit Go.Shelf Go.Lib Go.Proofs.YtibiiafcnaijeaaGreat.Steady
set_option linter.unusedVariables false
set_option linter.unusedSimpArgs false
set_option maxRecDepth 100000
set_option maxHeartbeats 40000000
theorem zeroV (n:Nat):(Builtin.zeroCells (Value.agg #[.int .i64 0,.int .i64 0,.string ⟨#[]⟩,.slice none 0 0,.slice none 0 0]).cells n).size=n*5:=by
 rw[size_zeroCells];simp[Value.cells]
def InsCV (v:Value) (xs new:List Value) (n i:Nat) (w:World) (e:Ending) (w':World):Prop :=
 ∃ v',e=.returned v'∧w'.ownsRow 0 32 5 v' (n+1) (xs.take (i*5)++new++xs.drop (i*5))∧(v'.ownBlock=v.ownBlock∨∃ g,v'.ownBlock=some g∧w.heap.size≤g)∧Chg (fun k=>v.ownBlock=some k) w w'
theorem row5_mk {w:World}{g cap:Nat}{n:Nat}{xs:List Value}{cs:Array Value}(h:w.heap[g]? = some (.cells cs 32)) (hs:cs.size=cap*5) (hc:cap≤maxLen)
  (hl:n≤cap) (hx:xs.length=n*5) (hp:cs.toList.take (n*5)=xs):w.ownsRow 0 32 5 (.slice (some ⟨g,0,none⟩) n cap) n xs :=
 ⟨hx,.inr ⟨g,cap,cs,rfl,Nat.zero_le _,h,hl,hc,hs,hp⟩⟩
theorem insV_end (v:Value) (n vb:Nat) (xs new:List Value) (w:World) (hown:w.ownsRow 0 32 5 v n xs) (hn:n≤100000) (hnew:new.length=5) (hvb:w.heap[vb]? = some (.cells new.toArray 32))
  (h1v:∀ u∈new,u.oneCell'=true):Calls Tryz.prog 103 #[v,.int .i64 n,.slice (some ⟨vb,0,none⟩) 1 1] w (InsCV v xs new n n w):=by
 obtain⟨i0,hi0,hz0,hsize,hby⟩:=info_parts infoV
 obtain⟨v',w',hr,h2,h3,h4,h5⟩:=run_append_place (P:=Tryz.prog) w 29 29 32 i0 _ 5 80 Tryz.underlying29 hi0 hz0 hsize hby rfl (by decide) v n xs hown ⟨vb,0,none⟩ 1 1 new (by omega)
  (fun j u hj=>by rw[add_lit0,cII hvb];simpa using hj) h1v (by omega) (by unfold maxLen;omega) (by omega)
 have hxl:xs.length=n*5:=hown.1;have hfin:InsCV v xs new n n w (.returned v') w':=⟨v',rfl,by rw[List.take_of_length_le (by omega),List.drop_of_length_le (by omega),List.append_nil];exact h2,h4,Chg.of_grown h3⟩;have HF:=hid hfin;have HR:=hid hr
 rcases hown.2 with ⟨rfl,rfl⟩|⟨g,cap,cur,rfl,_,hg,hnc,hcm,hcs,htake⟩
 ·clear hfin hr h2 h3 h4 h5 hown hvb h1v
  go_enter Tryz.func103,Tryz.ntmps103
  go_wp2_with (at_builtin;refine Lib.wpList_append_run _ rfl _ _ _ _ rfl _ _ rfl rfl _ _ HR.out ?_)
  go_ret;exact HF.out
 ·have hc63:cap≤9223372036854775807:=by unfold maxLen at hcm;omega
  have e2:((n:Int) == (n:Int))=true:=beq_self_eq_true _;have d2:decide ((n:Int)=(n:Int))=true:=dTT rfl;clear hfin hr h2 h3 h4 h5 hown hvb h1v hg hcs htake hcm
  go_enter Tryz.func103,Tryz.ntmps103
  go_wp2_with (at_builtin;refine Lib.wpList_append_run _ rfl _ _ _ _ rfl _ _ rfl rfl _ _ HR.out ?_)
  all_goals (go_ret;exact HF.out)
theorem insV_room (g n cap i vb:Nat) (xs new:List Value) (cur:Array Value) (w:World) (hx:xs.length=n*5) (hg:w.heap[g]? = some (.cells cur 32)) (hcs:cur.size=cap*5) (htake:cur.toList.take (n*5)=xs)
  (hcm:cap≤maxLen) (hi:i<n) (hroom:n+1≤cap) (hn:n≤100000) (hnew:new.length=5) (hvb:w.heap[vb]? = some (.cells new.toArray 32)) (hne:g≠vb) (h1c:∀ u∈xs,u.oneCell'=true)
  (h1v:∀ u∈new,u.oneCell'=true):Calls Tryz.prog 103 #[.slice (some ⟨g,0,none⟩) n cap,.int .i64 i,.slice (some ⟨vb,0,none⟩) 1 1] w (InsCV (.slice (some ⟨g,0,none⟩) n cap) xs new n i w):=by
 have hc63:cap≤9223372036854775807:=by unfold maxLen at hcm;omega
 have hsz:(Tryz.prog.info? 32).map (·.size)=some 5:=by kernel_rfl
 have hcl:cur.toList.length=cap*5:=by simpa using hcs
 have hdl:(xs.drop (i*5)).length=(n - i)*5:=by rw[List.length_drop,hx];omega
 have hlen5:(i+1)*5=i*5+5:=by omega
 have hsp:∀ j,j<(n+1)*5→(w.cell? ⟨g,j,none⟩).isSome=true:=fun j hj=>by
  rw[cII hg,Array.getElem?_eq_getElem (by omega)];rfl
 have hxs:∀ j u,xs[j]? = some u→w.cell? ⟨g,j,none⟩=some u:=fun j u hj=>cells_at hg htake hj
 have hov:∀ lb cb,(callFunc 117 #[.slice (some ⟨vb,0,none⟩) 1 1,.slice (some ⟨g,(i+1)*5,none⟩) lb cb]).run Tryz.prog w=.ok (.value (.bool false)) w:=fun lb cb=>by
  rw[run_callFunc_extern Tryz.func117 (by kernel_rfl) (by kernel_rfl) (by kernel_rfl) (e:=Extern.SlicesOverlaps.overlaps #[29,29] #[4]) (by kernel_rfl),
   Lib.run_overlaps_apart w 29 4 32 Tryz.underlying29 5 (by intro w;kernel_rfl) ⟨vb,0,none⟩ ⟨g,(i+1)*5,none⟩ 1 1 lb cb (Ne.symm hne) _ _ _ _ (shape_in hvb) (shape_in hg) (by omega) (zff hvb _) (zff hvb _)]
  rfl
 have hcp1:∀ (W:World),(∀ x,W.cell? x=w.cell? x)→(∀ x,W.frozen? x=w.frozen? x)→∀ ty dl dc sl sc,dl=n - i→sl=n+1 - i→(Builtin.copy_ #[29,29] ty #[.slice (some ⟨g,(i+1)*5,none⟩) dl dc,.slice (some ⟨g,i*5,none⟩) sl sc]).run Tryz.prog W=.ok (goInt ((n - i:Nat):Int)) (W.setCells g ((i+1)*5) (xs.drop (i*5))):=fun W hWc hWf ty dl dc sl sc hdl2 hsl2 =>
  run_copyK W _ _ ty 32 g ((i+1)*5) dl dc ⟨g,i*5,none⟩ sl sc (xs.drop (i*5)) 5 (n - i) Tryz.underlying29 hsz (by simp only[Nat.min_def];split <;> omega) hdl
   (fun j u hj=>by rw[Addr.add_lit,hWc];exact hxs _ _ (by rwa [List.getElem?_drop] at hj))
   (fun j hj=>by rw[hWc];exact hsp _ (by omega)) (fun j hj=>by rw[hWf];exact zff hg _) (fun u hu=>h1c u (List.mem_of_mem_drop hu))
 obtain⟨W1,hW1⟩:∃ W1,W1=w.drew.setCells g ((i+1)*5) (xs.drop (i*5)):=⟨_,rfl⟩
 have hsp1:∀ j,j<(n+1)*5→(W1.cell? ⟨g,j,none⟩).isSome=true:=fun j hj=>by
  rw[hW1];exact isSome_setCells g (xs.drop (i*5)) ((i+1)*5) w.drew (fun t ht=>hsp _ (by rw[hdl] at ht;omega)) j (hsp j hj)
 have hcp2:∀ ty dl dc,dl=n+1 - i→(Builtin.copy_ #[29,29] ty #[.slice (some ⟨g,i*5,none⟩) dl dc,.slice (some ⟨vb,0,none⟩) 1 1]).run Tryz.prog W1=.ok (goInt ((1:Nat):Int)) (W1.setCells g (i*5) new):=fun ty dl dc hdl2 =>
  run_copyK W1 _ _ ty 32 g (i*5) dl dc ⟨vb,0,none⟩ 1 1 new 5 1 Tryz.underlying29 hsz (by simp only[Nat.min_def];split <;> omega) hnew
   (fun j u hj=>by
     rw[add_lit0,hW1,World.cell?_setCells_out g _ _ _ _ (fun h _=>absurd h (Ne.symm hne))];show w.cell? _=_
     rw[cII hvb];simpa using hj)
   (fun j hj=>hsp1 _ (by omega)) (fun j hj=>by rw[hW1,World.frozen?_setCells];exact zff hg _) h1v
 have hfin:InsCV (.slice (some ⟨g,0,none⟩) n cap) xs new n i w (.returned (.slice (some ⟨g,0,none⟩) (n+1) cap)) (W1.setCells g (i*5) new):=by
  refine⟨_,rfl,?_,.inl rfl,?_⟩
  ·rw[hW1]
   obtain⟨D,hD⟩:∃ D,xs.drop (i*5)=D:=⟨_,rfl⟩;rw[hD] at hdl ⊢;have hH:=heap_setCells D ((i+1)*5) cur.toList 32 (0,0) w.drew hg (by rw[hdl,hcl];omega);obtain⟨B,hB⟩:∃ B,B=cur.toList.take ((i+1)*5)++D++cur.toList.drop ((i+1)*5+D.length):=⟨_,rfl⟩;rw[←hB] at hH
   have hBl:B.length=cap*5:=by
    rw[hB,List.length_append,List.length_append,List.length_take,List.length_drop,hdl,hcl,Nat.min_eq_left (by omega)];omega
   have hH2:=heap_setCells new (i*5) B 32 (0,0) _ hH (by omega)
   have hxt:(xs.take (i*5)).length=i*5:=by rw[List.length_take,hx,Nat.min_eq_left (by omega)]
   refine row5_mk hH2 ?_ hcm hroom ?_ ?_
   ·rw[List.size_toArray,List.length_append,List.length_append,List.length_take,List.length_drop,hnew,hBl,Nat.min_eq_left (by omega)];omega
   ·rw[List.length_append,List.length_append,hdl,hxt,hnew];omega
   ·have hBt:B.take (i*5)=xs.take (i*5):=by
     rw[hB,List.append_assoc,List.take_append_of_le_length (by rw[List.length_take,hcl,Nat.min_eq_left (by omega)];omega),List.take_take,Nat.min_eq_left (by omega),←htake,List.take_take,Nat.min_eq_left (by omega)]
    have hBd:B.drop (i*5+5)=D++cur.toList.drop ((i+1)*5+D.length):=by
     rw[hB,List.append_assoc,List.drop_left' (by rw[List.length_take,hcl,Nat.min_eq_left (by omega)];omega)]
    rw[show B.take (i*5)++new++B.drop (i*5+new.length)=(xs.take (i*5)++new++D)++cur.toList.drop ((i+1)*5+D.length) by rw[hnew,hBt,hBd];simp[List.append_assoc]];exact List.take_left' (by rw[List.length_append,List.length_append,hdl,hxt,hnew];omega)
  ·rw[hW1]
   exact((Chg.drew (fun k=>(Value.slice (some ⟨g,0,none⟩) n cap).ownBlock=some k) w).trans (Chg.setCells _ g _ _ rfl)).trans (Chg.setCells _ g _ _ rfl)
 have HF:=hid hfin;have HOV:=hid hov;have HC1:=hid (hcp1 w.drew (fun _=>rfl) (fun _=>rfl));have HC2:=hid hcp2;have HW1:=hid hW1
 have hz2:¬ ((i:Int)=(n:Int)):=by omega
 have e2:((i:Int) == (n:Int))=false:=bF hz2
 have hw1:IntKind.i64.wrap ((i:Int)+1)=(i:Int)+1:=by rw[IntKind.wrap_i64];omega
 have hb1:(0:Int)≤(i:Int)+1:=by omega
 have hin:i≤n:=by omega
 have htn:((i:Int)+1).toNat=i+1:=by omega
 have hb2:¬ (cap=i+1):=by omega
 have hb4:¬ (cap=i):=by omega
 have hb3:(i:Int)≤(n:Int)+1:=by omega
 clear hfin hov hcp1 hcp2 hW1 hsp hsp1 hxs hvb h1c h1v hg hcs htake hcm hcl hdl hlen5 hsz hx
 go_enter Tryz.func103,Tryz.ntmps103
 go_wp2_with fail
 simp only[HOV.out]
 go_wp2_with fail
 refine zss (fun _=>True) (by kernel_rfl) (by kernel_rfl) (trivial) ?_;refine cR1 ?_;refine qqL rfl (by rfl) (fun K hK=>?_);refine wp_copy_runI _ (.tmp 73) (.tmp 76) _ _ rfl _ _ rfl rfl (HC1.out _ _ _ _ _ (by omega) (by omega)) ?_;rw[←HW1.out];refine hK.out _ _ (trivial) ?_;clear hK K
 try simp only[pT]
 refine zn ?_
 go_wp2_with fail
 rw[HC2.out _ _ _ (by omega)]
 go_wp2_with fail
 go_ret;exact HF.out
theorem insV_grow (g n i vb:Nat) (xs new:List Value) (cur:Array Value) (w:World) (hx:xs.length=n*5) (hg:w.heap[g]? = some (.cells cur 32)) (hcs:cur.size=n*5) (htake:cur.toList.take (n*5)=xs)
  (hi:i<n) (hn:n≤100000) (hnew:new.length=5) (hvb:w.heap[vb]? = some (.cells new.toArray 32)) (h1c:∀ u∈xs,u.oneCell'=true)
  (h1v:∀ u∈new,u.oneCell'=true):Calls Tryz.prog 103 #[.slice (some ⟨g,0,none⟩) n n,.int .i64 i,.slice (some ⟨vb,0,none⟩) 1 1] w (InsCV (.slice (some ⟨g,0,none⟩) n n) xs new n i w):=by
 have hsz:(Tryz.prog.info? 32).map (·.size)=some 5:=by kernel_rfl
 obtain⟨i0,hi0,hz0,hsize,hby⟩:=info_parts infoV
 have hdl:(xs.drop (i*5)).length=(n - i)*5:=by rw[List.length_drop,hx];omega
 have hxt:(xs.take (i*5)).length=i*5:=by rw[List.length_take,hx,Nat.min_eq_left (by omega)]
 have hxs:∀ j u,xs[j]? = some u→w.cell? ⟨g,j,none⟩=some u:=fun j u hj=>cells_at hg htake hj
 have hgl:g<w.heap.size:=(aS hg).1;have hvl:vb<w.heap.size:=(aS hvb).1
 have hold:(Builtin.firstCells i0.size i (.slice (some ⟨g,0,none⟩) i n)).run Tryz.prog w.drew=.ok (xs.take (i*5)).toArray w.drew:=by
  rw[hsize]
  exact run_firstCells_some w.drew 5 i ⟨g,0,none⟩ i n (xs.take (i*5)) hxt (fun j u hj=>by
   rw[add_lit0];rw[List.getElem?_take] at hj
   split at hj
   ·exact hxs j u hj
   ·cases hj)
 obtain⟨G,hG⟩:∃ G,G=grownCap w (n+1) n 32:=⟨_,rfl⟩;obtain⟨ROW,hROW⟩:∃ ROW:List Value,ROW.toArray=(xs.take (i*5)).toArray++Builtin.zeroCells (Value.agg #[.int .i64 0,.int .i64 0,.string ⟨#[]⟩,.slice none 0 0,.slice none 0 0]).cells (n+1 - i)++Builtin.zeroCells (Value.agg #[.int .i64 0,.int .i64 0,.string ⟨#[]⟩,.slice none 0 0,.slice none 0 0]).cells (G - (n+1)):=⟨_,Array.toArray_toList⟩
 have hGn:n+1≤G:=by rw[hG];exact grownCap_ge w _ _ _
 have hGm:G≤maxLen:=by rw[hG];exact grownCap_le_maxLen w (n+1) n 32 (by unfold maxLen;omega)
 have hG63:G≤9223372036854775807:=by unfold maxLen at hGm;omega
 have hRl:ROW.length=G*5:=by
  have:=congrArg Array.size hROW;rw[Array.size_append,Array.size_append,zeroV,zeroV,List.size_toArray,List.size_toArray,hxt] at this
  omega
 have hRt:ROW.take (i*5)=xs.take (i*5):=by
  have:=congrArg Array.toList hROW;rw[Array.toList_append,Array.toList_append] at this
  have e:ROW=(xs.take (i*5))++((Builtin.zeroCells (Value.agg #[.int .i64 0,.int .i64 0,.string ⟨#[]⟩,.slice none 0 0,.slice none 0 0]).cells (n+1 - i)).toList++(Builtin.zeroCells (Value.agg #[.int .i64 0,.int .i64 0,.string ⟨#[]⟩,.slice none 0 0,.slice none 0 0]).cells (G - (n+1))).toList):=by
   rw[←List.append_assoc];exact this
  rw[e,List.take_left' hxt]
 have hrz:∀ ty q,q=(n:Int)+1 - (i:Int)→(Builtin.append_ #[29,3] ty #[.slice (some ⟨g,0,none⟩) i n,.int .i64 q]).run Tryz.prog w =
   .ok (.slice (some ⟨w.heap.size,0,none⟩) (n+1) G) (w.drew.alloc (.cells ROW.toArray 32)):=fun ty q hq=>by
  have h:=Lib.run_append_grow_zeros (P:=Tryz.prog) w 29 3 ty 32 i0 _ .i64 .i64 Tryz.underlying29 Tryz.underlying3 hi0 hz0 (some ⟨g,0,none⟩) i n (xs.take (i*5)) hold (n+1 - i) (by omega) (by omega) (by omega) (by omega) (by rw[hby];omega)
   (by rw[hby,show i+(n+1 - i)=n+1 by omega];exact growslice_fits (by omega) (by omega))
  rw[show i+(n+1 - i)=n+1 by omega,←hG,←hROW,show((n+1 - i:Nat):Int)=q by omega] at h;exact h
 obtain⟨W1,hW1⟩:∃ W1,W1=w.drew.alloc (.cells ROW.toArray 32):=⟨_,rfl⟩;rw[←hW1] at hrz
 have hH0:W1.heap[w.heap.size]? = some (.cells ROW.toArray 32):=by rw[hW1];exact zhh w.drew _
 have hOb:∀ k,k<w.heap.size→W1.heap[k]? = w.heap[k]?:=fun k hk=>by rw[hW1];exact((Below.refl _ w.drew).alloc (nR _) _).block k hk
 have hcA:∀ ty dl dc,dl=n+1 - i→(Builtin.copy_ #[29,29] ty #[.slice (some ⟨w.heap.size,i*5,none⟩) dl dc,.slice (some ⟨vb,0,none⟩) 1 1]).run Tryz.prog W1=.ok (goInt ((1:Nat):Int)) (W1.setCells w.heap.size (i*5) new):=fun ty dl dc hdl2 =>
  run_copyK W1 _ _ ty 32 w.heap.size (i*5) dl dc ⟨vb,0,none⟩ 1 1 new 5 1 Tryz.underlying29 hsz (by simp only[Nat.min_def];split <;> omega) hnew
   (fun j u hj=>by rw[add_lit0,cII ((hOb vb hvl).trans hvb)];simpa using hj)
   (fun j hj=>by rw[cII hH0,List.getElem?_toArray,lG (by omega)];rfl) (fun j hj=>zff hH0 _) h1v
 obtain⟨W2,hW2⟩:∃ W2,W2=W1.setCells w.heap.size (i*5) new:=⟨_,rfl⟩;rw[←hW2] at hcA;obtain⟨B,hB⟩:∃ B,B=ROW.take (i*5)++new++ROW.drop (i*5+new.length):=⟨_,rfl⟩
 have hBl:B.length=G*5:=by rw[hB,List.length_append,List.length_append,List.length_take,List.length_drop,hnew,hRl,Nat.min_eq_left (by omega)];omega
 have hH2:W2.heap[w.heap.size]? = some (.cells B.toArray 32):=by rw[hW2,hB];exact heap_setCells new (i*5) ROW 32 (0,0) W1 hH0 (by omega)
 have hOb2:∀ k,k<w.heap.size→W2.heap[k]? = w.heap[k]?:=fun k hk=>by
  have c:Chg (fun k=>k=w.heap.size) W1 (W1.setCells w.heap.size (i*5) new):=Chg.setCells _ _ _ _ rfl;rw[hW2,c.block k (by have:=(aS hH0).1;omega) (by omega)];exact hOb k hk
 have hcB:∀ ty dl dc sl sc,dl=n - i→sl=n - i→(Builtin.copy_ #[29,29] ty #[.slice (some ⟨w.heap.size,(i+1)*5,none⟩) dl dc,.slice (some ⟨g,i*5,none⟩) sl sc]).run Tryz.prog W2.drew=.ok (goInt ((n - i:Nat):Int)) (W2.drew.setCells w.heap.size ((i+1)*5) (xs.drop (i*5))):=fun ty dl dc sl sc hdl2 hsl2 =>
  run_copyK W2.drew _ _ ty 32 w.heap.size ((i+1)*5) dl dc ⟨g,i*5,none⟩ sl sc (xs.drop (i*5)) 5 (n - i) Tryz.underlying29 hsz (by simp only[Nat.min_def];split <;> omega) hdl
   (fun j u hj=>by
     rw[Addr.add_lit];show W2.cell? _=_;rw[cII ((hOb2 g hgl).trans hg),←cII hg]
     exact hxs _ _ (by rwa [List.getElem?_drop] at hj))
   (fun j hj=>by
     show(W2.cell? _).isSome=true
     rw[cII hH2,List.getElem?_toArray,lG (by rw[hdl] at hj;omega)];rfl) (fun j hj=>zff hH2 _) (fun u hu=>h1c u (List.mem_of_mem_drop hu))
 have hfin:InsCV (.slice (some ⟨g,0,none⟩) n n) xs new n i w (.returned (.slice (some ⟨w.heap.size,0,none⟩) (n+1) G)) (W2.drew.setCells w.heap.size ((i+1)*5) (xs.drop (i*5))):=by
  refine⟨_,rfl,?_,.inr ⟨_,rfl,nR _⟩,?_⟩
  ·obtain⟨D,hD⟩:∃ D,xs.drop (i*5)=D:=⟨_,rfl⟩
   rw[hD] at hdl ⊢;have hH3:=heap_setCells D ((i+1)*5) B 32 (0,0) W2.drew hH2 (by omega);refine row5_mk hH3 ?_ hGm hGn ?_ ?_
   ·rw[List.size_toArray,List.length_append,List.length_append,List.length_take,List.length_drop,hdl,hBl,Nat.min_eq_left (by omega)];omega
   ·rw[List.length_append,List.length_append,hdl,hxt,hnew];omega
   ·have hBt:B.take ((i+1)*5)=xs.take (i*5)++new:=by
     rw[hB,List.take_left' (by rw[List.length_append,List.length_take,hRl,hnew,Nat.min_eq_left (by omega)];omega),hRt]
    rw[hBt];exact List.take_left' (by rw[List.length_append,List.length_append,hdl,hxt,hnew];omega)
  ·rw[hW2,hW1]
   exact((((Chg.drew (fun k=>(Value.slice (some ⟨g,0,none⟩) n n).ownBlock=some k) w).trans (Chg.alloc _ w.drew _)).past _ _ _ (nR _)).trans (Chg.drew _ _)).past _ _ _ (nR _)
 have HF:=hid hfin;have HRZ:=hid hrz;have HCA:=hid hcA;have HCB:=hid hcB;have HW1:=hid hW1;have HW2:=hid hW2
 have hz2:¬ ((i:Int)=(n:Int)):=by omega
 have e2:((i:Int) == (n:Int))=false:=bF hz2
 have hw1:IntKind.i64.wrap ((i:Int)+1)=(i:Int)+1:=by rw[IntKind.wrap_i64];omega
 have hb1:(0:Int)≤(i:Int)+1:=by omega
 have hin:i≤n:=by omega
 have htn:((i:Int)+1).toNat=i+1:=by omega
 have hb2:¬ (G=i+1):=by omega
 have hb4:¬ (G=i):=by omega
 have hb5:¬ (n=i):=by omega
 have hb3:(i:Int)≤(n:Int)+1:=by omega
 have hb6:(i:Int)≤(n:Int):=by omega
 clear hfin hrz hcA hcB hW1 hW2 hxs hvb h1c h1v hg hcs htake hdl hxt hsz hx hH0 hH2 hOb hOb2 hBl hB hRt hRl hROW hold hG hGm hi0 hz0 hsize hby
 go_enter Tryz.func103,Tryz.ntmps103
 go_wp2_with (at_builtin;refine Lib.wpList_append_run _ rfl _ _ _ _ rfl _ _ rfl rfl _ _ (HRZ.out _ _ rfl) ?_)
 rw[HCA.out _ _ _ (by omega)]
 go_wp2_with fail
 refine zss (fun _=>True) (by kernel_rfl) (by kernel_rfl) (trivial) ?_;refine cR1 ?_;refine qqL rfl (by rfl) (fun K hK=>?_);refine wp_copy_runI _ (.tmp 50) (.tmp 53) _ _ rfl _ _ rfl rfl (HCB.out _ _ _ _ _ (by omega) (by omega)) ?_;refine hK.out _ _ (trivial) ?_;clear hK K
 try simp only[pT]
 refine zn ?_
 go_wp2_with fail
 go_ret;exact HF.out
theorem five_one {P:Nat→Prop}{w:World}{r:V5}{t:Vl}(h:VV P w (pent r) t):∀ u∈[r.1,r.2.1,r.2.2.1,r.2.2.2.1,r.2.2.2.2],u.oneCell'=true:=fun u hu=>by
 obtain⟨k,n,s,oi,mi,ci,ok,mk,ck,e1,e2,e3,e4,e5,_⟩:=h.five;simp only[List.mem_cons,List.not_mem_nil,or_false] at hu
 rcases hu with rfl|rfl|rfl|rfl|rfl
 ·rw[e1];rfl
 ·rw[e2];rfl
 ·rw[e3];rfl
 ·rw[e4];rfl
 ·rw[e5];rfl
def InsVPost (B box:Nat) (R:Nat→Nat→Prop) (v:Value) (ts:List Vl) (w:World) (e:Ending) (w':World):Prop :=
 ∃ v',e=.returned v'∧OwnX B box R w' v' ts∧(v'.ownBlock=v.ownBlock∨∃ g,v'.ownBlock=some g∧w.heap.size≤g)∧Chg (fun k=>v.ownBlock=some k) w w'
theorem insV_any {B box:Nat}{R S:Nat→Prop}(v:Value) (ts:List Vl) (t:Vl) (r0:V5) (i vb:Nat) (w:World) (h:OwnW B box R w v ts) (hB:B≤w.heap.size) (hi:i≤ts.length) (hl:ts.length≤100000)
  (hvb:w.heap[vb]? = some (.cells #[r0.1,r0.2.1,r0.2.2.1,r0.2.2.2.1,r0.2.2.2.2] 32)) (hne:v.ownBlock≠some vb) (ht:VV S w (pent r0) t) (hs:∀ g,S g→R g∧g≠box∧v.ownBlock≠some g) :
  Calls Tryz.prog 103 #[v,.int .i64 i,.slice (some ⟨vb,0,none⟩) 1 1] w (InsVPost B box (fun _=>R) v (ts.insertIdx i t) w):=by
 obtain⟨rs,hm,hrl,hrs⟩:=h;have hone:∀ u∈flat5 rs,u.oneCell'=true:=flat5_one hrl hrs;have hnew1:=five_one ht;obtain⟨nw,hnw⟩:∃ nw,nw = [r0.1,r0.2.1,r0.2.2.1,r0.2.2.2.1,r0.2.2.2.2]:=⟨_,rfl⟩
 have hvb':w.heap[vb]? = some (.cells nw.toArray 32):=by rw[hnw];exact hvb
 have hnl:nw.length=5:=by rw[hnw];rfl
 rw[←hnw] at hnew1
 have hcalls:Calls Tryz.prog 103 #[v,.int .i64 i,.slice (some ⟨vb,0,none⟩) 1 1] w (InsCV v (flat5 rs) nw ts.length i w):=by
  by_cases hend:i=ts.length
  ·subst hend
   exact insV_end v ts.length vb (flat5 rs) nw w hm.1 hl hnl hvb' hnew1
  ·rcases hm.1.2 with ⟨rfl,h0⟩|⟨g,cap,cur,rfl,_,hg,hnc,hcm,hcs,htake⟩
   ·omega
   ·by_cases hroom:ts.length+1≤cap
    ·exact insV_room g ts.length cap i vb (flat5 rs) nw cur w hm.1.1 hg hcs htake hcm (by omega) hroom hl hnl hvb' (fun e=>hne (by rw[e];rfl)) hone hnew1
    ·obtain rfl:cap=ts.length:=by omega
     exact insV_grow g ts.length i vb (flat5 rs) nw cur w hm.1.1 hg hcs htake (by omega) hl hnl hvb' hone hnew1
 refine hcalls.mono ?_;rintro e w' ⟨v',rfl,hown,hp,hc⟩;refine⟨v',rfl,?_,hp,hc⟩
 have hq:∀ g,(R g∧g<w.heap.size∧g≠box∧v.ownBlock≠some g)→R g∧g<w'.heap.size∧g≠box∧v'.ownBlock≠some g:=fun g ⟨a1,a2,a3,a4⟩ =>
  ⟨a1,Nat.lt_of_lt_of_le a2 hc.size,a3,by
   rcases hp with e|⟨g',e,hg'⟩
   ·rw[e];exact a4
   ·rw[e];intro e2;cases e2;omega⟩
 have hk:ZK (fun g=>R g∧g<w.heap.size∧g≠box∧v.ownBlock≠some g) w w':=ZK.chg hc fun g hg=>hg.2.2.2
 have hfl:(flat5 rs).take (i*5)++nw++(flat5 rs).drop (i*5)=flat5 (rs.insertIdx i r0):=by
  rw[flat5_take,flat5_drop,insertIdx_eq rs i _ (by omega),flat5_app,flat5,hnw];simp
 rw[hfl] at hown;have hlen:(ts.insertIdx i t).length=ts.length+1:=List.length_insertIdx_of_le_length hi t;refine⟨rs.insertIdx i r0,?_,?_,fun j r t' hr ht'=>?_⟩
 ·rw[hlen]
  exact hm.grow hB hown hp
 ·rw[hlen,List.length_insertIdx_of_le_length (by omega)];omega
 ·rw[List.getElem?_insertIdx] at hr ht'
  split at hr
  ·rename_i hlt
   rw[if_pos hlt] at ht';exact(hrs j r t' hr ht').keep hk hq
  ·rename_i hlt
   rw[if_neg hlt] at ht'
   split at hr
   ·rename_i he
    rw[if_pos he] at ht';rw[if_pos (by omega)] at hr;rw[if_pos (by omega)] at ht'
    cases hr
    cases ht'
    exact(ht.ex.mono fun g hg=>⟨(hs g hg.1).1,hg.2,(hs g hg.1).2⟩).keep hk hq
   ·rename_i he
    rw[if_neg he] at ht';exact(hrs (j - 1) r t' hr ht').keep hk hq
end Go.Proofs.YtibiiafcnaijeaaGreat
