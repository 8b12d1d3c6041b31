/- A part. -/
import Derived.Test.YtibiiafcnaijeaaGreatB00
import Derived.Test.YtibiiafcnaijeaaGreatB01
namespace Go.Proofs.YtibiiafcnaijeaaGreat
open Go Go.RowKit Go.Shelf Go.Lib Go.Proofs.YtibiiafcnaijeaaGreat.Steady
set_option linter.unusedVariables false
set_option linter.unusedSimpArgs false
set_option maxRecDepth 100000
set_option maxHeartbeats 40000000
theorem run_copyK {P:Program}(w:World) (dT sT ty elem:TypeId) (b o dLen dCap:Nat) (a:Addr) (sLen sCap:Nat) (cs:List Value) (size m:Nat)
  (hu:P.underlying dT=some (.slice elem)) (hs:(P.info? elem).map (·.size)=some size) (hm:Nat.min sLen dLen=m) (hn:cs.length=m*size)
  (hsrc:∀ j v,cs[j]? = some v→w.cell? (a.add j)=some v) (hc:∀ j,j<cs.length→(w.cell? ⟨b,o+j,none⟩).isSome=true) (hf:∀ j,j<cs.length→w.frozen? ⟨b,o+j,none⟩=false) (h1:∀ v∈cs,v.oneCell'=true) :
  (Builtin.copy_ #[dT,sT] ty #[.slice (some ⟨b,o,none⟩) dLen dCap,.slice (some a) sLen sCap]).run P w=.ok (goInt m) (w.setCells b o cs):=by
 have hl:=run_loadCells_list (P:=P) w a cs hsrc;have hst:=run_storeCells_cells (P:=P) b o cs 0 w (by simpa using hc) (by simpa using hf) h1
 cases hq:P.info? elem with
 | none=>simp[hq] at hs
 | some i =>
  have hi:i.size=size:=by simpa [hq] using hs
  simp[Builtin.copy_,run_underlying hu,Builtin.lenOf,Builtin.firstCells,sizeOf,typeInfo,hq,hi,hm,←hn,hl,hst]
theorem zeroT (n:Nat):(Builtin.zeroCells (Value.agg #[.int .i64 0,.slice none 0 0,.slice none 0 0]).cells n).size=n*3:=by
 rw[size_zeroCells];simp[Value.cells]
def InsC (v:Value) (xs new:List Value) (n i:Nat) (w:World) (e:Ending) (w':World):Prop :=
 ∃ v',e=.returned v'∧w'.ownsRow 0 61 3 v' (n+1) (xs.take (i*3)++new++xs.drop (i*3))∧(v'.ownBlock=v.ownBlock∨∃ g,v'.ownBlock=some g∧w.heap.size≤g)∧Chg (fun k=>v.ownBlock=some k) w w'
theorem row3_mk {w:World}{g cap:Nat}{n:Nat}{xs:List Value}{cs:Array Value}(h:w.heap[g]? = some (.cells cs 61)) (hs:cs.size=cap*3) (hc:cap≤maxLen)
  (hl:n≤cap) (hx:xs.length=n*3) (hp:cs.toList.take (n*3)=xs):w.ownsRow 0 61 3 (.slice (some ⟨g,0,none⟩) n cap) n xs :=
 ⟨hx,.inr ⟨g,cap,cs,rfl,Nat.zero_le _,h,hl,hc,hs,hp⟩⟩
theorem add_lit0 (g j:Nat):(⟨g,0,none⟩:Addr).add j=⟨g,j,none⟩:=by unfold Addr.add;split <;> simp_all
theorem insT_end (v:Value) (n vb:Nat) (xs new:List Value) (w:World) (hown:w.ownsRow 0 61 3 v n xs) (hn:n≤100000) (hnew:new.length=3) (hvb:w.heap[vb]? = some (.cells new.toArray 61))
  (h1v:∀ u∈new,u.oneCell'=true):Calls Tryz.prog 105 #[v,.int .i64 n,.slice (some ⟨vb,0,none⟩) 1 1] w (InsC v xs new n n w):=by
 obtain⟨i0,hi0,hz0,hsize,hby⟩:=info_parts info26
 obtain⟨v',w',hr,h2,h3,h4,h5⟩:=run_append_place (P:=Tryz.prog) w 59 59 61 i0 _ 3 56 Tryz.underlying59 hi0 hz0 hsize hby rfl (by decide) v n xs hown ⟨vb,0,none⟩ 1 1 new (by omega)
  (fun j u hj=>by rw[add_lit0,cII hvb];simpa using hj) h1v (by omega) (by unfold maxLen;omega) (by omega)
 have hxl:xs.length=n*3:=hown.1;have hfin:InsC v xs new n n w (.returned v') w':=⟨v',rfl,by rw[List.take_of_length_le (by omega),List.drop_of_length_le (by omega),List.append_nil];exact h2,h4,Chg.of_grown h3⟩;have HF:=hid hfin;have HR:=hid hr
 rcases hown.2 with ⟨rfl,rfl⟩|⟨g,cap,cur,rfl,_,hg,hnc,hcm,hcs,htake⟩
 ·clear hfin hr h2 h3 h4 h5 hown hvb h1v
  go_enter Tryz.func105,Tryz.ntmps105
  go_wp2_with (at_builtin;refine Lib.wpList_append_run _ rfl _ _ _ _ rfl _ _ rfl rfl _ _ HR.out ?_)
  go_ret;exact HF.out
 ·have hc63:cap≤9223372036854775807:=by unfold maxLen at hcm;omega
  have e2:((n:Int) == (n:Int))=true:=beq_self_eq_true _;have d2:decide ((n:Int)=(n:Int))=true:=dTT rfl;clear hfin hr h2 h3 h4 h5 hown hvb h1v hg hcs htake hcm
  go_enter Tryz.func105,Tryz.ntmps105
  go_wp2_with (at_builtin;refine Lib.wpList_append_run _ rfl _ _ _ _ rfl _ _ rfl rfl _ _ HR.out ?_)
  all_goals (go_ret;exact HF.out)
theorem insT_room (g n cap i vb:Nat) (xs new:List Value) (cur:Array Value) (w:World) (hx:xs.length=n*3) (hg:w.heap[g]? = some (.cells cur 61)) (hcs:cur.size=cap*3) (htake:cur.toList.take (n*3)=xs)
  (hcm:cap≤maxLen) (hi:i<n) (hroom:n+1≤cap) (hn:n≤100000) (hnew:new.length=3) (hvb:w.heap[vb]? = some (.cells new.toArray 61)) (hne:g≠vb) (h1c:∀ u∈xs,u.oneCell'=true)
  (h1v:∀ u∈new,u.oneCell'=true):Calls Tryz.prog 105 #[.slice (some ⟨g,0,none⟩) n cap,.int .i64 i,.slice (some ⟨vb,0,none⟩) 1 1] w (InsC (.slice (some ⟨g,0,none⟩) n cap) xs new n i w):=by
 have hc63:cap≤9223372036854775807:=by unfold maxLen at hcm;omega
 have hsz:(Tryz.prog.info? 61).map (·.size)=some 3:=by kernel_rfl
 have hcl:cur.toList.length=cap*3:=by simpa using hcs
 have hdl:(xs.drop (i*3)).length=(n - i)*3:=by rw[List.length_drop,hx];omega
 have hlen3:(i+1)*3=i*3+3:=by omega
 have hsp:∀ j,j<(n+1)*3→(w.cell? ⟨g,j,none⟩).isSome=true:=fun j hj=>by
  rw[cII hg,Array.getElem?_eq_getElem (by omega)];rfl
 have hxs:∀ j u,xs[j]? = some u→w.cell? ⟨g,j,none⟩=some u:=fun j u hj=>cells_at hg htake hj
 have hov:∀ lb cb,(callFunc 119 #[.slice (some ⟨vb,0,none⟩) 1 1,.slice (some ⟨g,(i+1)*3,none⟩) lb cb]).run Tryz.prog w=.ok (.value (.bool false)) w:=fun lb cb=>by
  rw[run_callFunc_extern Tryz.func119 (by kernel_rfl) (by kernel_rfl) (by kernel_rfl) (e:=Extern.SlicesOverlaps.overlaps #[59,59] #[4]) (by kernel_rfl),
   Lib.run_overlaps_apart w 59 4 61 Tryz.underlying59 3 (by intro w;kernel_rfl) ⟨vb,0,none⟩ ⟨g,(i+1)*3,none⟩ 1 1 lb cb (Ne.symm hne) _ _ _ _ (shape_in hvb) (shape_in hg) (by omega) (zff hvb _) (zff hvb _)]
  rfl
 have hcp1:∀ (W:World),(∀ x,W.cell? x=w.cell? x)→(∀ x,W.frozen? x=w.frozen? x)→∀ ty dl dc sl sc,dl=n - i→sl=n+1 - i→(Builtin.copy_ #[59,59] ty #[.slice (some ⟨g,(i+1)*3,none⟩) dl dc,.slice (some ⟨g,i*3,none⟩) sl sc]).run Tryz.prog W=.ok (goInt ((n - i:Nat):Int)) (W.setCells g ((i+1)*3) (xs.drop (i*3))):=fun W hWc hWf ty dl dc sl sc hdl2 hsl2 =>
  run_copyK W _ _ ty 61 g ((i+1)*3) dl dc ⟨g,i*3,none⟩ sl sc (xs.drop (i*3)) 3 (n - i) Tryz.underlying59 hsz (by simp only[Nat.min_def];split <;> omega) hdl
   (fun j u hj=>by rw[Addr.add_lit,hWc];exact hxs _ _ (by rwa [List.getElem?_drop] at hj))
   (fun j hj=>by rw[hWc];exact hsp _ (by omega)) (fun j hj=>by rw[hWf];exact zff hg _) (fun u hu=>h1c u (List.mem_of_mem_drop hu))
 obtain⟨W1,hW1⟩:∃ W1,W1=w.drew.setCells g ((i+1)*3) (xs.drop (i*3)):=⟨_,rfl⟩
 have hsp1:∀ j,j<(n+1)*3→(W1.cell? ⟨g,j,none⟩).isSome=true:=fun j hj=>by
  rw[hW1];exact isSome_setCells g (xs.drop (i*3)) ((i+1)*3) w.drew (fun t ht=>hsp _ (by rw[hdl] at ht;omega)) j (hsp j hj)
 have hcp2:∀ ty dl dc,dl=n+1 - i→(Builtin.copy_ #[59,59] ty #[.slice (some ⟨g,i*3,none⟩) dl dc,.slice (some ⟨vb,0,none⟩) 1 1]).run Tryz.prog W1=.ok (goInt ((1:Nat):Int)) (W1.setCells g (i*3) new):=fun ty dl dc hdl2 =>
  run_copyK W1 _ _ ty 61 g (i*3) dl dc ⟨vb,0,none⟩ 1 1 new 3 1 Tryz.underlying59 hsz (by simp only[Nat.min_def];split <;> omega) hnew
   (fun j u hj=>by
     rw[add_lit0,hW1,World.cell?_setCells_out g _ _ _ _ (fun h _=>absurd h (Ne.symm hne))];show w.cell? _=_
     rw[cII hvb];simpa using hj)
   (fun j hj=>hsp1 _ (by omega)) (fun j hj=>by rw[hW1,World.frozen?_setCells];exact zff hg _) h1v
 have hfin:InsC (.slice (some ⟨g,0,none⟩) n cap) xs new n i w (.returned (.slice (some ⟨g,0,none⟩) (n+1) cap)) (W1.setCells g (i*3) new):=by
  refine⟨_,rfl,?_,.inl rfl,?_⟩
  ·rw[hW1]
   obtain⟨D,hD⟩:∃ D,xs.drop (i*3)=D:=⟨_,rfl⟩;rw[hD] at hdl ⊢;have hH:=heap_setCells D ((i+1)*3) cur.toList 61 (0,0) w.drew hg (by rw[hdl,hcl];omega);obtain⟨B,hB⟩:∃ B,B=cur.toList.take ((i+1)*3)++D++cur.toList.drop ((i+1)*3+D.length):=⟨_,rfl⟩;rw[←hB] at hH
   have hBl:B.length=cap*3:=by
    rw[hB,List.length_append,List.length_append,List.length_take,List.length_drop,hdl,hcl,Nat.min_eq_left (by omega)];omega
   have hH2:=heap_setCells new (i*3) B 61 (0,0) _ hH (by omega)
   have hxt:(xs.take (i*3)).length=i*3:=by rw[List.length_take,hx,Nat.min_eq_left (by omega)]
   refine row3_mk hH2 ?_ hcm hroom ?_ ?_
   ·rw[List.size_toArray,List.length_append,List.length_append,List.length_take,List.length_drop,hnew,hBl,Nat.min_eq_left (by omega)];omega
   ·rw[List.length_append,List.length_append,hdl,hxt,hnew];omega
   ·have hBt:B.take (i*3)=xs.take (i*3):=by
     rw[hB,List.append_assoc,List.take_append_of_le_length (by rw[List.length_take,hcl,Nat.min_eq_left (by omega)];omega),List.take_take,Nat.min_eq_left (by omega),←htake,List.take_take,Nat.min_eq_left (by omega)]
    have hBd:B.drop (i*3+3)=D++cur.toList.drop ((i+1)*3+D.length):=by
     rw[hB,List.append_assoc,List.drop_left' (by rw[List.length_take,hcl,Nat.min_eq_left (by omega)];omega)]
    rw[show B.take (i*3)++new++B.drop (i*3+new.length)=(xs.take (i*3)++new++D)++cur.toList.drop ((i+1)*3+D.length) by rw[hnew,hBt,hBd];simp[List.append_assoc]];exact List.take_left' (by rw[List.length_append,List.length_append,hdl,hxt,hnew];omega)
  ·rw[hW1]
   exact((Chg.drew (fun k=>(Value.slice (some ⟨g,0,none⟩) n cap).ownBlock=some k) w).trans (Chg.setCells _ g _ _ rfl)).trans (Chg.setCells _ g _ _ rfl)
 have HF:=hid hfin;have HOV:=hid hov;have HC1:=hid (hcp1 w.drew (fun _=>rfl) (fun _=>rfl));have HC2:=hid hcp2;have HW1:=hid hW1
 have hz2:¬ ((i:Int)=(n:Int)):=by omega
 have e2:((i:Int) == (n:Int))=false:=bF hz2
 have hw1:IntKind.i64.wrap ((i:Int)+1)=(i:Int)+1:=by rw[IntKind.wrap_i64];omega
 have hb1:(0:Int)≤(i:Int)+1:=by omega
 have hin:i≤n:=by omega
 have htn:((i:Int)+1).toNat=i+1:=by omega
 have hb2:¬ (cap=i+1):=by omega
 have hb4:¬ (cap=i):=by omega
 have hb3:(i:Int)≤(n:Int)+1:=by omega
 clear hfin hov hcp1 hcp2 hW1 hsp hsp1 hxs hvb h1c h1v hg hcs htake hcm hcl hdl hlen3 hsz hx
 go_enter Tryz.func105,Tryz.ntmps105
 go_wp2_with fail
 simp only[HOV.out]
 go_wp2_with fail
 refine zss (fun _=>True) (by kernel_rfl) (by kernel_rfl) (trivial) ?_;refine cR1 ?_;refine qqL rfl (by rfl) (fun K hK=>?_);refine wp_copy_runI _ (.tmp 73) (.tmp 76) _ _ rfl _ _ rfl rfl (HC1.out _ _ _ _ _ (by omega) (by omega)) ?_;rw[←HW1.out];refine hK.out _ _ (trivial) ?_;clear hK K
 try simp only[pT]
 refine zn ?_
 go_wp2_with fail
 rw[HC2.out _ _ _ (by omega)]
 go_wp2_with fail
 go_ret;exact HF.out
theorem insT_grow (g n i vb:Nat) (xs new:List Value) (cur:Array Value) (w:World) (hx:xs.length=n*3) (hg:w.heap[g]? = some (.cells cur 61)) (hcs:cur.size=n*3) (htake:cur.toList.take (n*3)=xs)
  (hi:i<n) (hn:n≤100000) (hnew:new.length=3) (hvb:w.heap[vb]? = some (.cells new.toArray 61)) (h1c:∀ u∈xs,u.oneCell'=true)
  (h1v:∀ u∈new,u.oneCell'=true):Calls Tryz.prog 105 #[.slice (some ⟨g,0,none⟩) n n,.int .i64 i,.slice (some ⟨vb,0,none⟩) 1 1] w (InsC (.slice (some ⟨g,0,none⟩) n n) xs new n i w):=by
 have hsz:(Tryz.prog.info? 61).map (·.size)=some 3:=by kernel_rfl
 obtain⟨i0,hi0,hz0,hsize,hby⟩:=info_parts info26
 have hdl:(xs.drop (i*3)).length=(n - i)*3:=by rw[List.length_drop,hx];omega
 have hxt:(xs.take (i*3)).length=i*3:=by rw[List.length_take,hx,Nat.min_eq_left (by omega)]
 have hxs:∀ j u,xs[j]? = some u→w.cell? ⟨g,j,none⟩=some u:=fun j u hj=>cells_at hg htake hj
 have hgl:g<w.heap.size:=(aS hg).1;have hvl:vb<w.heap.size:=(aS hvb).1
 have hold:(Builtin.firstCells i0.size i (.slice (some ⟨g,0,none⟩) i n)).run Tryz.prog w.drew=.ok (xs.take (i*3)).toArray w.drew:=by
  rw[hsize]
  exact run_firstCells_some w.drew 3 i ⟨g,0,none⟩ i n (xs.take (i*3)) hxt (fun j u hj=>by
   rw[add_lit0];rw[List.getElem?_take] at hj
   split at hj
   ·exact hxs j u hj
   ·cases hj)
 obtain⟨G,hG⟩:∃ G,G=grownCap w (n+1) n 61:=⟨_,rfl⟩;obtain⟨ROW,hROW⟩:∃ ROW:List Value,ROW.toArray=(xs.take (i*3)).toArray++Builtin.zeroCells (Value.agg #[.int .i64 0,.slice none 0 0,.slice none 0 0]).cells (n+1 - i)++Builtin.zeroCells (Value.agg #[.int .i64 0,.slice none 0 0,.slice none 0 0]).cells (G - (n+1)):=⟨_,Array.toArray_toList⟩
 have hGn:n+1≤G:=by rw[hG];exact grownCap_ge w _ _ _
 have hGm:G≤maxLen:=by rw[hG];exact grownCap_le_maxLen w (n+1) n 61 (by unfold maxLen;omega)
 have hG63:G≤9223372036854775807:=by unfold maxLen at hGm;omega
 have hRl:ROW.length=G*3:=by
  have:=congrArg Array.size hROW;rw[Array.size_append,Array.size_append,zeroT,zeroT,List.size_toArray,List.size_toArray,hxt] at this
  omega
 have hRt:ROW.take (i*3)=xs.take (i*3):=by
  have:=congrArg Array.toList hROW;rw[Array.toList_append,Array.toList_append] at this
  have e:ROW=(xs.take (i*3))++((Builtin.zeroCells (Value.agg #[.int .i64 0,.slice none 0 0,.slice none 0 0]).cells (n+1 - i)).toList++(Builtin.zeroCells (Value.agg #[.int .i64 0,.slice none 0 0,.slice none 0 0]).cells (G - (n+1))).toList):=by
   rw[←List.append_assoc];exact this
  rw[e,List.take_left' hxt]
 have hrz:∀ ty q,q=(n:Int)+1 - (i:Int)→(Builtin.append_ #[59,3] ty #[.slice (some ⟨g,0,none⟩) i n,.int .i64 q]).run Tryz.prog w =
   .ok (.slice (some ⟨w.heap.size,0,none⟩) (n+1) G) (w.drew.alloc (.cells ROW.toArray 61)):=fun ty q hq=>by
  have h:=Lib.run_append_grow_zeros (P:=Tryz.prog) w 59 3 ty 61 i0 _ .i64 .i64 Tryz.underlying59 Tryz.underlying3 hi0 hz0 (some ⟨g,0,none⟩) i n (xs.take (i*3)) hold (n+1 - i) (by omega) (by omega) (by omega) (by omega) (by rw[hby];omega)
   (by rw[hby,show i+(n+1 - i)=n+1 by omega];exact growslice_fits (by omega) (by omega))
  rw[show i+(n+1 - i)=n+1 by omega,←hG,←hROW,show((n+1 - i:Nat):Int)=q by omega] at h;exact h
 obtain⟨W1,hW1⟩:∃ W1,W1=w.drew.alloc (.cells ROW.toArray 61):=⟨_,rfl⟩;rw[←hW1] at hrz
 have hH0:W1.heap[w.heap.size]? = some (.cells ROW.toArray 61):=by rw[hW1];exact zhh w.drew _
 have hOb:∀ k,k<w.heap.size→W1.heap[k]? = w.heap[k]?:=fun k hk=>by rw[hW1];exact((Below.refl _ w.drew).alloc (nR _) _).block k hk
 have hcA:∀ ty dl dc,dl=n+1 - i→(Builtin.copy_ #[59,59] ty #[.slice (some ⟨w.heap.size,i*3,none⟩) dl dc,.slice (some ⟨vb,0,none⟩) 1 1]).run Tryz.prog W1=.ok (goInt ((1:Nat):Int)) (W1.setCells w.heap.size (i*3) new):=fun ty dl dc hdl2 =>
  run_copyK W1 _ _ ty 61 w.heap.size (i*3) dl dc ⟨vb,0,none⟩ 1 1 new 3 1 Tryz.underlying59 hsz (by simp only[Nat.min_def];split <;> omega) hnew
   (fun j u hj=>by rw[add_lit0,cII ((hOb vb hvl).trans hvb)];simpa using hj)
   (fun j hj=>by rw[cII hH0,List.getElem?_toArray,lG (by omega)];rfl) (fun j hj=>zff hH0 _) h1v
 obtain⟨W2,hW2⟩:∃ W2,W2=W1.setCells w.heap.size (i*3) new:=⟨_,rfl⟩;rw[←hW2] at hcA;obtain⟨B,hB⟩:∃ B,B=ROW.take (i*3)++new++ROW.drop (i*3+new.length):=⟨_,rfl⟩
 have hBl:B.length=G*3:=by rw[hB,List.length_append,List.length_append,List.length_take,List.length_drop,hnew,hRl,Nat.min_eq_left (by omega)];omega
 have hH2:W2.heap[w.heap.size]? = some (.cells B.toArray 61):=by rw[hW2,hB];exact heap_setCells new (i*3) ROW 61 (0,0) W1 hH0 (by omega)
 have hOb2:∀ k,k<w.heap.size→W2.heap[k]? = w.heap[k]?:=fun k hk=>by
  have c:Chg (fun k=>k=w.heap.size) W1 (W1.setCells w.heap.size (i*3) new):=Chg.setCells _ _ _ _ rfl;rw[hW2,c.block k (by have:=(aS hH0).1;omega) (by omega)];exact hOb k hk
 have hcB:∀ ty dl dc sl sc,dl=n - i→sl=n - i→(Builtin.copy_ #[59,59] ty #[.slice (some ⟨w.heap.size,(i+1)*3,none⟩) dl dc,.slice (some ⟨g,i*3,none⟩) sl sc]).run Tryz.prog W2.drew=.ok (goInt ((n - i:Nat):Int)) (W2.drew.setCells w.heap.size ((i+1)*3) (xs.drop (i*3))):=fun ty dl dc sl sc hdl2 hsl2 =>
  run_copyK W2.drew _ _ ty 61 w.heap.size ((i+1)*3) dl dc ⟨g,i*3,none⟩ sl sc (xs.drop (i*3)) 3 (n - i) Tryz.underlying59 hsz (by simp only[Nat.min_def];split <;> omega) hdl
   (fun j u hj=>by
     rw[Addr.add_lit];show W2.cell? _=_;rw[cII ((hOb2 g hgl).trans hg),←cII hg]
     exact hxs _ _ (by rwa [List.getElem?_drop] at hj))
   (fun j hj=>by
     show(W2.cell? _).isSome=true
     rw[cII hH2,List.getElem?_toArray,lG (by rw[hdl] at hj;omega)];rfl) (fun j hj=>zff hH2 _) (fun u hu=>h1c u (List.mem_of_mem_drop hu))
 have hfin:InsC (.slice (some ⟨g,0,none⟩) n n) xs new n i w (.returned (.slice (some ⟨w.heap.size,0,none⟩) (n+1) G)) (W2.drew.setCells w.heap.size ((i+1)*3) (xs.drop (i*3))):=by
  refine⟨_,rfl,?_,.inr ⟨_,rfl,nR _⟩,?_⟩
  ·obtain⟨D,hD⟩:∃ D,xs.drop (i*3)=D:=⟨_,rfl⟩
   rw[hD] at hdl ⊢;have hH3:=heap_setCells D ((i+1)*3) B 61 (0,0) W2.drew hH2 (by omega);refine row3_mk hH3 ?_ hGm hGn ?_ ?_
   ·rw[List.size_toArray,List.length_append,List.length_append,List.length_take,List.length_drop,hdl,hBl,Nat.min_eq_left (by omega)];omega
   ·rw[List.length_append,List.length_append,hdl,hxt,hnew];omega
   ·have hBt:B.take ((i+1)*3)=xs.take (i*3)++new:=by
     rw[hB,List.take_left' (by rw[List.length_append,List.length_take,hRl,hnew,Nat.min_eq_left (by omega)];omega),hRt]
    rw[hBt];exact List.take_left' (by rw[List.length_append,List.length_append,hdl,hxt,hnew];omega)
  ·rw[hW2,hW1]
   exact((((Chg.drew (fun k=>(Value.slice (some ⟨g,0,none⟩) n n).ownBlock=some k) w).trans (Chg.alloc _ w.drew _)).past _ _ _ (nR _)).trans (Chg.drew _ _)).past _ _ _ (nR _)
 have HF:=hid hfin;have HRZ:=hid hrz;have HCA:=hid hcA;have HCB:=hid hcB;have HW1:=hid hW1;have HW2:=hid hW2
 have hz2:¬ ((i:Int)=(n:Int)):=by omega
 have e2:((i:Int) == (n:Int))=false:=bF hz2
 have hw1:IntKind.i64.wrap ((i:Int)+1)=(i:Int)+1:=by rw[IntKind.wrap_i64];omega
 have hb1:(0:Int)≤(i:Int)+1:=by omega
 have hin:i≤n:=by omega
 have htn:((i:Int)+1).toNat=i+1:=by omega
 have hb2:¬ (G=i+1):=by omega
 have hb4:¬ (G=i):=by omega
 have hb5:¬ (n=i):=by omega
 have hb3:(i:Int)≤(n:Int)+1:=by omega
 have hb6:(i:Int)≤(n:Int):=by omega
 clear hfin hrz hcA hcB hW1 hW2 hxs hvb h1c h1v hg hcs htake hdl hxt hsz hx hH0 hH2 hOb hOb2 hBl hB hRt hRl hROW hold hG hGm hi0 hz0 hsize hby
 go_enter Tryz.func105,Tryz.ntmps105
 go_wp2_with (at_builtin;refine Lib.wpList_append_run _ rfl _ _ _ _ rfl _ _ rfl rfl _ _ (HRZ.out _ _ rfl) ?_)
 rw[HCA.out _ _ _ (by omega)]
 go_wp2_with fail
 refine zss (fun _=>True) (by kernel_rfl) (by kernel_rfl) (trivial) ?_;refine cR1 ?_;refine qqL rfl (by rfl) (fun K hK=>?_);refine wp_copy_runI _ (.tmp 50) (.tmp 53) _ _ rfl _ _ rfl rfl (HCB.out _ _ _ _ _ (by omega) (by omega)) ?_;refine hK.out _ _ (trivial) ?_;clear hK K
 try simp only[pT]
 refine zn ?_
 go_wp2_with fail
 go_ret;exact HF.out
theorem flat_take:∀ (rs:List (Value × Value × Value)) (i:Nat),(flat rs).take (i*3)=flat (rs.take i)
 | _,0=>by simp[flat]
 | [],i+1=>by simp[flat]
 | r :: rs,i+1=>by
  rw[show(i+1)*3=i*3+1+1+1 by omega,flat,List.take_succ_cons,List.take_succ_cons,List.take_succ_cons,flat_take rs i,List.take_succ_cons,flat]
theorem flat_drop:∀ (rs:List (Value × Value × Value)) (i:Nat),(flat rs).drop (i*3)=flat (rs.drop i)
 | _,0=>by simp
 | [],i+1=>by simp[flat]
 | r :: rs,i+1=>by
  rw[show(i+1)*3=i*3+1+1+1 by omega,flat,List.drop_succ_cons,List.drop_succ_cons,List.drop_succ_cons,flat_drop rs i,List.drop_succ_cons]
theorem flat_mem:∀ {rs:List (Value × Value × Value)}{u:Value},u∈flat rs→∃ r∈rs,u=r.1∨u=r.2.1∨u=r.2.2
 | r :: rs,u,h=>by
  rw[flat] at h
  rcases List.mem_cons.1 h with rfl|h
  ·exact⟨r,List.mem_cons_self ..,.inl rfl⟩
  rcases List.mem_cons.1 h with rfl|h
  ·exact⟨r,List.mem_cons_self ..,.inr (.inl rfl)⟩
  rcases List.mem_cons.1 h with rfl|h
  ·exact⟨r,List.mem_cons_self ..,.inr (.inr rfl)⟩
  obtain⟨r',h1,h2⟩:=flat_mem h;exact⟨r',List.mem_cons_of_mem _ h1,h2⟩
theorem insertIdx_eq {α:Type}:∀ (l:List α) (i:Nat) (x:α),i≤l.length→l.insertIdx i x=l.take i++x :: l.drop i
 | l,0,x,_=>by simp
 | [],i+1,x,h=>by simp at h
 | a :: l,i+1,x,h=>by rw[List.insertIdx_succ_cons,insertIdx_eq l i x (by simpa using h)];rfl
def InsTPost (B box:Nat) (R:Nat→Prop) (v:Value) (ts:List Ty) (w:World) (e:Ending) (w':World):Prop :=
 ∃ v',e=.returned v'∧OwnL B box R w' v' ts∧(v'.ownBlock=v.ownBlock∨∃ g,v'.ownBlock=some g∧w.heap.size≤g)∧Chg (fun k=>v.ownBlock=some k) w w'
theorem insT_any {B box:Nat}{R S:Nat→Prop}(v:Value) (ts:List Ty) (t:Ty) (x y z:Value) (i vb:Nat) (w:World) (h:OwnL B box R w v ts) (hB:B≤w.heap.size) (hi:i≤ts.length) (hl:ts.length≤100000)
  (hvb:w.heap[vb]? = some (.cells #[x,y,z] 61)) (hne:v.ownBlock≠some vb) (ht:TV S w (.agg #[x,y,z]) t) (hs:∀ g,S g→R g∧g≠box∧v.ownBlock≠some g) :
  Calls Tryz.prog 105 #[v,.int .i64 i,.slice (some ⟨vb,0,none⟩) 1 1] w (InsTPost B box R v (ts.insertIdx i t) w):=by
 obtain⟨rs,hm,hrl,hrs⟩:=h
 have hone:∀ u∈flat rs,u.oneCell'=true:=fun u hu=>by
  obtain⟨r,hr,hu⟩:=flat_mem hu;obtain⟨j,hj,rfl⟩:=List.getElem_of_mem hr;obtain⟨k,oy,my,cy,oz,mz,cz,e1,e2,e3⟩:=(hrs j rs[j] (ts[j]'(by omega)) (lG hj) (lG (by omega))).agg3
  rcases hu with rfl|rfl|rfl
  ·rw[e1];rfl
  ·rw[e2];rfl
  ·rw[e3];rfl
 have hnew1:∀ u∈[x,y,z],u.oneCell'=true:=fun u hu=>by
  obtain⟨k,oy,my,cy,oz,mz,cz,rfl,rfl,rfl⟩:=ht.agg3
  rcases List.mem_cons.1 hu with rfl|hu
  ·rfl
  rcases List.mem_cons.1 hu with rfl|hu
  ·rfl
  rcases List.mem_cons.1 hu with rfl|hu
  ·rfl
  ·cases hu
 have hcalls:Calls Tryz.prog 105 #[v,.int .i64 i,.slice (some ⟨vb,0,none⟩) 1 1] w (InsC v (flat rs) [x,y,z] ts.length i w):=by
  by_cases hend:i=ts.length
  ·subst hend
   exact insT_end v ts.length vb (flat rs) [x,y,z] w hm.1 hl rfl hvb hnew1
  ·rcases hm.1.2 with ⟨rfl,h0⟩|⟨g,cap,cur,rfl,_,hg,hnc,hcm,hcs,htake⟩
   ·omega
   ·by_cases hroom:ts.length+1≤cap
    ·exact insT_room g ts.length cap i vb (flat rs) [x,y,z] cur w hm.1.1 hg hcs htake hcm (by omega) hroom hl rfl hvb (fun e=>hne (by rw[e];rfl)) hone hnew1
    ·obtain rfl:cap=ts.length:=by omega
     exact insT_grow g ts.length i vb (flat rs) [x,y,z] cur w hm.1.1 hg hcs htake (by omega) hl rfl hvb hone hnew1
 refine hcalls.mono ?_;rintro e w' ⟨v',rfl,hown,hp,hc⟩;refine⟨v',rfl,?_,hp,hc⟩
 have hq:∀ g,(R g∧g<w.heap.size∧g≠box∧v.ownBlock≠some g)→R g∧g<w'.heap.size∧g≠box∧v'.ownBlock≠some g:=fun g ⟨a1,a2,a3,a4⟩ =>
  ⟨a1,Nat.lt_of_lt_of_le a2 hc.size,a3,by
   rcases hp with e|⟨g',e,hg'⟩
   ·rw[e];exact a4
   ·rw[e];intro e2;cases e2;omega⟩
 have hk:ZK (fun g=>R g∧g<w.heap.size∧g≠box∧v.ownBlock≠some g) w w':=ZK.chg hc fun g hg=>hg.2.2.2
 have hfl:(flat rs).take (i*3)++[x,y,z]++(flat rs).drop (i*3)=flat (rs.insertIdx i (x,y,z)):=by
  rw[flat_take,flat_drop,insertIdx_eq rs i _ (by omega),flat_app,flat];simp
 rw[hfl] at hown;have hlen:(ts.insertIdx i t).length=ts.length+1:=List.length_insertIdx_of_le_length hi t;refine⟨rs.insertIdx i (x,y,z),?_,?_,fun j r t' hr ht'=>?_⟩
 ·rw[hlen]
  exact hm.grow hB hown hp
 ·rw[hlen,List.length_insertIdx_of_le_length (by omega)];omega
 ·rw[List.getElem?_insertIdx] at hr ht'
  split at hr
  ·rename_i hlt
   rw[if_pos hlt] at ht';exact(hrs j r t' hr ht').keep hk hq
  ·rename_i hlt
   rw[if_neg hlt] at ht'
   split at hr
   ·rename_i he
    rw[if_pos he] at ht';rw[if_pos (by omega)] at hr;rw[if_pos (by omega)] at ht'
    cases hr
    cases ht'
    exact(ht.ex.mono fun g hg=>⟨(hs g hg.1).1,hg.2,(hs g hg.1).2⟩).keep hk hq
   ·rename_i he
    rw[if_neg he] at ht';exact(hrs (j - 1) r t' hr ht').keep hk hq
end Go.Proofs.YtibiiafcnaijeaaGreat
