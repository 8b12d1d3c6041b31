/- A part. -/
import Derived.Test.YtibiiafcnaijeaaGreatB00
import Derived.Test.YtibiiafcnaijeaaGreatB18
namespace Go.Proofs.YtibiiafcnaijeaaGreat
open Go Go.RowKit Go.Proofs.YtibiiafcnaijeaaGreat.Steady
set_option linter.unusedVariables false
set_option linter.unusedSimpArgs false
set_option maxRecDepth 100000
set_option maxHeartbeats 40000000
theorem AV.ex {P:Nat→Prop}{w:World}{v:Value}{l:List At}(h:AV P w v l):AV (fun g=>P g∧g<w.heap.size) w v l:=by
 refine⟨h.1,?_⟩
 rcases h.2 with h0|⟨g,o,c,hp,e,hc⟩
 ·exact .inl h0
 ·cases l with
  | nil=>exact .inl ⟨rfl,_,_,e⟩
  | cons x r =>
   obtain⟨k,oe,me,ce,on,mn,cn,c0,-⟩:=hc 0 x rfl;refine .inr ⟨g,o,c,⟨hp,World.block_lt_of_cell? w _ c0⟩,e,fun i a ha=>?_⟩;obtain⟨k,oe,me,ce,on,mn,cn,c0,c1,c2,c3,c4,c5,c6,c7,ht,hs⟩:=hc i a ha;exact⟨k,oe,me,ce,on,mn,cn,c0,c1,c2,c3,c4,c5,c6,c7,ht.ex,hs⟩
theorem KV.ex {P:Nat→Prop}{w:World}{v:Value}{l:List Ne}(h:KV P w v l):KV (fun g=>P g∧g<w.heap.size) w v l:=by
 refine⟨h.1,?_⟩
 rcases h.2 with h0|⟨g,o,c,hp,e,hc⟩
 ·exact .inl h0
 ·cases l with
  | nil=>exact .inl ⟨rfl,_,_,e⟩
  | cons x r =>
   obtain⟨oa,ca,c0,-⟩:=hc 0 x rfl;refine .inr ⟨g,o,c,⟨hp,World.block_lt_of_cell? w _ c0⟩,e,fun i a ha=>?_⟩;obtain⟨oa,ca,c0,c1,c2,c3,c4,ht,hs⟩:=hc i a ha;exact⟨oa,ca,c0,c1,c2,c3,c4,ht.ex,hs⟩
def mergeR:List At→List Ne→List (ByteArray × Ty)
 | [],[]=>[]
 | [],n :: ks=>(n.name,.mk 4 [objT n.attrs] []) :: mergeR [] ks
 | a :: l,[]=>(a.name,a.ty) :: mergeR l []
 | a :: l,n :: ks=>if ltS a.name n.name=true then (a.name,a.ty) :: mergeR l (n :: ks) else (n.name,.mk 4 [objT n.attrs] []) :: mergeR (a :: l) ks
termination_by l ks=>l.length+ks.length
def typR (s:Sc):Ty:=.mk 6 ((mergeR s.attrs s.nested).map (·.2)) ((mergeR s.attrs s.nested).map (·.1))
theorem mergeR_a0 {l:List At}{ks:List Ne}{i k:Nat}(h:i<l.length) (h2:ks.length≤k):mergeR (l.drop i) (ks.drop k)=(l[i].name,l[i].ty) :: mergeR (l.drop (i+1)) (ks.drop k):=by
 rw[List.drop_of_length_le h2,List.drop_eq_getElem_cons h,mergeR]
theorem mergeR_k0 {l:List At}{ks:List Ne}{i k:Nat}(h:l.length≤i) (h2:k<ks.length):mergeR (l.drop i) (ks.drop k)=(ks[k].name,.mk 4 [objT ks[k].attrs] []) :: mergeR (l.drop i) (ks.drop (k+1)):=by
 rw[List.drop_of_length_le h,List.drop_eq_getElem_cons h2,mergeR]
theorem mergeR_a {l:List At}{ks:List Ne}{i k:Nat}(h:i<l.length) (h2:k<ks.length) (hlt:ltS l[i].name ks[k].name=true):mergeR (l.drop i) (ks.drop k)=(l[i].name,l[i].ty) :: mergeR (l.drop (i+1)) (ks.drop k):=by
 rw[List.drop_eq_getElem_cons h,List.drop_eq_getElem_cons h2,mergeR,if_pos hlt]
theorem mergeR_k {l:List At}{ks:List Ne}{i k:Nat}(h:i<l.length) (h2:k<ks.length) (hlt:ltS l[i].name ks[k].name=false):mergeR (l.drop i) (ks.drop k)=(ks[k].name,.mk 4 [objT ks[k].attrs] []) :: mergeR (l.drop i) (ks.drop (k+1)):=by
 rw[List.drop_eq_getElem_cons h,List.drop_eq_getElem_cons h2,mergeR,if_neg (by rw[hlt];simp)]
theorem mergeR_end {l:List At}{ks:List Ne}{i k:Nat}(h:l.length≤i) (h2:ks.length≤k):mergeR (l.drop i) (ks.drop k) = []:=by
 rw[List.drop_of_length_le h,List.drop_of_length_le h2,mergeR]
def TyOk (s:Sc):Prop:=s.attrs.length≤1000∧s.nested.length≤1000∧∀ n∈s.nested,n.attrs.length≤1000
theorem rtype_any (s:Sc) (P:Nat→Prop) (w:World) (va vn:Value) (hs:SCV P w va vn s) (hok:TyOk s) :
  Calls Tryz.prog 26 #[.agg #[va,vn]] w (RObjPost P (typR s) w):=by
 suffices h:∀ (P:Nat→Prop),(∀ g,P g→g<w.heap.size)→SCV P w va vn s→Calls Tryz.prog 26 #[.agg #[va,vn]] w (RObjPost P (typR s) w) by
  refine(h _ (fun g hg=>hg.2) ⟨hs.1.ex,hs.2.ex⟩).mono ?_;rintro e w' ⟨u,rfl,hb,hu⟩;exact⟨u,rfl,hb,hu.mono fun g hg=>hg.imp (fun h=>h.1) id⟩
 clear hs P;intro P hP hs;obtain⟨oa,ca,rfl⟩:=hs.1.len;obtain⟨on0,cn0,rfl⟩:=hs.2.len;have HOK:=hid hok;have hla:=hok.1;have hlk:=hok.2.1;generalize hA:w.alloc (.cells #[.slice oa s.attrs.length ca,.slice on0 s.nested.length cn0] 25)=wa
 have hao:wa.heap[w.heap.size]? = some (.cells #[.slice oa s.attrs.length ca,.slice on0 s.nested.length cn0] 25):=by rw[←hA];exact zhh w _
 have has:wa.heap.size=w.heap.size+1:=by rw[←hA];simp
 have hab:Below w.heap.size w wa:=by rw[←hA];exact(Below.refl _ _).alloc (nR _) _
 have hT:=zhh wa zero3;have hbb:Below wa.heap.size wa (wa.alloc zero3):=(Below.refl _ _).alloc (nR _) _
 have hbs:(wa.alloc zero3).heap.size=w.heap.size+2:=by simp[has]
 rw[has] at hT;generalize hB:wa.alloc zero3=wb at hT hbb hbs;have hC:=zhh wb (.cells #[.int .i64 6,.slice none 0 0,.slice none 0 0] 61);have hcb:Below wb.heap.size wb (wb.alloc (.cells #[.int .i64 6,.slice none 0 0,.slice none 0 0] 61)):=(Below.refl _ _).alloc (nR _) _
 have hcs:(wb.alloc (.cells #[.int .i64 6,.slice none 0 0,.slice none 0 0] 61)).heap.size=w.heap.size+3:=by simp[hbs]
 rw[hbs] at hC;generalize hC':wb.alloc (.cells #[.int .i64 6,.slice none 0 0,.slice none 0 0] 61)=wc at hC hcb hcs;have HA0:=hid hA;have HB0:=hid hB;have HC0:=hid hC';have HB:=hid (hab.trans ((hbb.trans (hcb.mono hbb.size)).mono hab.size));have HS:=hid (And.intro hbs hcs);have HZ:=hid (kO hT hcb);have HX:=hid (kO (kO hao hbb) hcb);have HAT:=hid hs.1;have HNE:=hid hs.2;have HP:=hid hP;have HT:Hid (TBA P (w.heap.size+2) (w.heap.size+2) wc wc 6 (.slice none 0 0) (.slice none 0 0) [] []):=hid ⟨by omega,Below.refl _ _,nR _,hC,OwnL.nil _ _ _ _,(fun e=>by cases e),.inl ⟨rfl,rfl⟩,(fun g e=>by cases e),(fun s h=>by cases h)⟩;clear hs hok hP hA hB hC hC' hT hab hao has hbb hbs hcb hcs
 go_enter Tryz.func26,Tryz.ntmps26
 go_upto_region 1 with (fail)
 rw[HA0.out,HB0.out]
 go_upto_region 2 with (fail)
 rw[HC0.out,HS.out.1]
 go_wp2_with fail
 go_loopw [4,5] (fun iv kv wr=>∃ (i k:Nat) (oe:Option Addr) (me ce:Nat) (on:Option Addr) (mn cn:Nat) (acc:List (ByteArray × Ty)),i≤s.attrs.length∧k≤s.nested.length∧iv=.int .i64 i∧kv=.int .i64 k∧Hid (TBA P (w.heap.size+2) (w.heap.size+2) wc wr 6 (.slice oe me ce) (.slice on mn cn) (acc.map (·.2)) (acc.map (·.1))) ∧
  Hid (mergeR s.attrs s.nested=acc++mergeR (s.attrs.drop i) (s.nested.drop k))∧Hid (acc.length=i+k)) (fun iv kv _=>s.attrs.length+s.nested.length - (intOf iv).toNat - (intOf kv).toNat)
 case atStart=>exact⟨0,0,_,_,_,_,_,_,[],Nat.zero_le _,Nat.zero_le _,rfl,rfl,HT,hid rfl,hid rfl⟩
 case round =>
  clear HT;obtain⟨i,k,oe,me,ce,on,mn,cn,acc,hi,hk,rfl,rfl,T,HE,HLN⟩:=hrel;have HB2:=hid (HB.out.trans (T.out.bel.mono (by omega)));have hx2:wr.heap[w.heap.size]? = _:=(T.out.bel.block _ (by omega)).trans HX.out
  have hi0:(0:Int)≤(i:Int):=by omega
  have hk0:(0:Int)≤(k:Int):=by omega
  by_cases hia:i<s.attrs.length
  ·have hi1:(i:Int)<(s.attrs.length:Int):=by omega
   have fi:decide ((i:Int)<(s.attrs.length:Int))=true:=dTT hi1
   by_cases hkb:k<s.nested.length
   ·have hk1:(k:Int)<(s.nested.length:Int):=by omega
    have fk:decide ((k:Int)=(s.nested.length:Int))=false:=dF (by omega);have fk2:decide (k=s.nested.length)=false:=dF (by omega);have fk3:(k == s.nested.length)=false:=bF (by omega);have fk4:((k:Int) == (s.nested.length:Int))=false:=bF (by omega);obtain⟨gA,oA,cA,_,_,_,_,_,_,_,-,e1,a0w,-,-,-,-,-,-,-,-,-⟩:=HAT.out.at hia
    injection e1 with e2 e3 e4
    have HEA:=hid e2;clear e2 e3 e4;obtain⟨gK,oK,cK,_,_,-,e1,b0w,-,-,-,-,-,-⟩:=HNE.out.at hkb
    injection e1 with e2 e3 e4
    have HEK:=hid e2;clear e2 e3 e4;have a0:=zbb HB2.out a0w;have b0:=zbb HB2.out b0w;clear a0w b0w
    have hma:=fun h=>mergeR_a (l:=s.attrs) (ks:=s.nested) (i:=i) (k:=k) hia hkb h
    have hmk:=fun h=>mergeR_k (l:=s.attrs) (ks:=s.nested) (i:=i) (k:=k) hia hkb h
    cases hlt:ltS s.attrs[i].name s.nested[k].name with
    | true =>
     have HE2:=hid (HE.out.trans (congrArg (acc++·) (hma hlt)));obtain⟨nmA,hA⟩:∃ x,s.attrs[i].name=x:=⟨_,rfl⟩;obtain⟨nmK,hK⟩:∃ x,s.nested[k].name=x:=⟨_,rfl⟩;rw[hA] at a0 hlt;rw[hK] at b0 hlt;have hcn:Op.bytesLess nmA.toList nmK.toList=true:=hlt;clear hma hmk HE hlt hA hK;have x0:=(cII hx2 0).trans rfl;have x1:=(cII hx2 1).trans rfl;rw[HEA.out] at x0;rw[HEK.out] at x1
     go_wp2_with fail
     refine zss (fun v=>v.cell? ⟨w.heap.size,0,none⟩=some (.slice (some ⟨gA,oA,none⟩) s.attrs.length ca)∧v.cell? ⟨w.heap.size,1,none⟩=some (.slice (some ⟨gK,oK,none⟩) s.nested.length cn0)∧ v.cell? ⟨gA,oA+i*8,none⟩=some (.string nmA)∧v.cell? ⟨gK,oK+k*5,none⟩=some (.string nmK)) (by kernel_rfl) (by kernel_rfl) (⟨x0,x1,a0,b0⟩) ?_;refine cR1 ?_;refine zn ?_;clear x0 x1
     go_wp2_with fail
     clear a0 b0 hcn;obtain⟨g,o,c,k1,oe1,me1,ce1,on1,mn1,cn1,-,e1,a0w,a1,a2,a3,-,-,-,-,hTV,hnm⟩:=HAT.out.at hia
     cases e1
     have a0:=zbb HB2.out a0w
     generalize s.attrs[i]=at' at *
     obtain⟨nm,ty,md,rp,sn,vl⟩:=at';simp only at a0 a0w hTV hnm HE2;have T1:=hid (T.out.later (zdd (zdd (Below.refl _ _))));have x0:=(cII hx2 0).trans rfl;have o2:=(cII T.out.obj 2).trans rfl;clear hx2;have A1:=hid a1;have A2:=hid a2;have A3:=hid a3;have HTV:=hid hTV;have HNM:=hid hnm;have hgl:g<w.heap.size:=World.block_lt_of_cell? w _ a0w;have HGL:=hid hgl;have HVN:=hid (show ¬ (Value.slice on mn cn).ownBlock=some g from fun e=>by have:=(T.out.rown g e).1;omega);have HVE:=hid (show ¬ (Value.slice oe me ce).ownBlock=some g from fun e=>by have:=(T.out.own.block e).1;omega);have HVN0:=hid (show ¬ (Value.slice on mn cn).ownBlock=some w.heap.size from fun e=>by have:=(T.out.rown _ e).1;omega);have HVE0:=hid (show ¬ (Value.slice oe me ce).ownBlock=some w.heap.size from fun e=>by have:=(T.out.own.block e).1;omega)
     clear hTV hnm a1 a2 a3 a0w;refine zt 10 (fun v=>v.cell? ⟨w.heap.size+2,2,none⟩=some (.slice on mn cn)∧v.cell? ⟨w.heap.size,0,none⟩=some (.slice (some ⟨g,o,none⟩) s.attrs.length ca)∧v.cell? ⟨g,o+i*8,none⟩=some (.string nm)) (by kernel_rfl) (by kernel_rfl) (⟨o2,x0,a0⟩) ?_;simp only[List.take_succ_cons,List.take_zero,List.drop_succ_cons,List.drop_zero];refine cR2 ?_;refine qqL rfl (by rfl) (fun K hK=>?_)
     go_simp
     have hal:Below wr.drew.drew.heap.size wr.drew.drew (wr.drew.drew.alloc (.cells #[.string nm] 9)):=(Below.refl _ _).alloc (nR _) _;refine hK.out _ _ (⟨zbb (W:=wr.drew.drew) hal o2,zbb (W:=wr.drew.drew) hal x0,zbb (W:=wr.drew.drew) hal a0⟩) ?_;clear hK K
     try simp only[pT]
     clear hal;refine qqL rfl (by rfl) (fun K hK=>?_);refine app_tag_wp (.tmp 47) (.tmp 54) 30 (by rfl) 9 (.string ⟨#[]⟩) 1 16 Tryz.underlying30 info9 (by rfl) (by decide) (by decide) _ _ _ T1.out.row.owns (by rfl) [.string nm] wr.drew.drew.heap.size (by rfl) (by rfl) (by rfl) (by simp[Value.oneCell']) (by have:=HLN.out;rw[List.length_map];omega) ?_;intro v3 w3 hown3 hc3 hp3 hne3;obtain⟨o3,n3,c3,rfl⟩:=zw hown3;have hT3:w3.heap[w.heap.size+2]? = _:=(hc3.block _ T1.out.lt (fun e=>(T1.out.rown _ e).2.1 rfl)).trans T1.out.obj;refine hK.out _ _ ⟨zcc hc3 (fun e=>(T1.out.rown _ e).2.1 rfl) o2,zcc hc3 HVN0.out x0,zcc hc3 HVN.out a0⟩ ?_;clear hK K
     try simp only[pT]
     have T4:=hid (T1.out.names (owns_row (l:=acc.map (·.1)++[nm]) (by rw[strs,List.map_append];exact hown3) (by simp)) (snocS T1.out.strs HNM.out) hp3 hc3);have t2:=(cII hT3 2).trans rfl;have tf:=zff hT3;clear hown3 hc3 hp3 hne3 hT3 o2 x0 a0 T1;refine cR2 ?_;refine zn ?_
     go_wp2_with fail
     clear t2 tf
     generalize w3.setCell ⟨w.heap.size+2,2,none⟩ (.slice o3 n3 c3)=w4 at *
     have T5:=hid (T4.out.later (zdd (Below.refl _ _)));have HB5:=hid (show Below w.heap.size w w4.drew from HB.out.trans (T5.out.bel.mono (by omega)));have o1:=(cII T5.out.obj 1).trans rfl;have hx5:w4.drew.heap[w.heap.size]? = _:=(T5.out.bel.block _ (by omega)).trans HX.out;have x0:=(cII hx5 0).trans rfl;have HTV5:=hid (HTV.out.bel (show Below w.heap.size w w4.drew from HB5.out));have b1:=zbb HB5.out A1.out;have b2:=zbb HB5.out A2.out;have b3:=zbb HB5.out A3.out;clear T4 hx5;refine zt 11 (fun v=>v.cell? ⟨w.heap.size+2,1,none⟩=some (.slice oe me ce)∧v.cell? ⟨w.heap.size,0,none⟩=some (.slice (some ⟨g,o,none⟩) s.attrs.length ca)∧v.cell? ⟨g,o+i*8+1,none⟩=some (.int .i64 k1)∧v.cell? ⟨g,o+i*8+2,none⟩=some (.slice oe1 me1 ce1)∧v.cell? ⟨g,o+i*8+3,none⟩=some (.slice on1 mn1 cn1)) (by kernel_rfl) (by kernel_rfl) (⟨o1,x0,b1,b2,b3⟩) ?_
     simp only[List.take_succ_cons,List.take_zero,List.drop_succ_cons,List.drop_zero];refine cR2 ?_;refine qqL rfl (by rfl) (fun K hK=>?_)
     go_simp
     have hal:Below w4.drew.heap.size w4.drew (w4.drew.alloc (.cells #[.int .i64 k1,.slice oe1 me1 ce1,.slice on1 mn1 cn1] 61)):=(Below.refl _ _).alloc (nR _) _;refine hK.out _ _ (⟨zbb (W:=w4.drew) hal o1,zbb (W:=w4.drew) hal x0,zbb (W:=w4.drew) hal b1,zbb (W:=w4.drew) hal b2,zbb (W:=w4.drew) hal b3⟩) ?_;clear hK K
     try simp only[pT]
     clear hal;refine qqL rfl (by rfl) (fun K hK=>?_);obtain⟨rs,hm,hl2,he4⟩:=T5.out.own;refine app_tag_wp (.tmp 58) (.tmp 65) 59 (by rfl) 61 (.agg #[.int .i64 0,.slice none 0 0,.slice none 0 0]) 3 56 Tryz.underlying59 info26 (by rfl) (by decide) (by decide) _ _ _ hm.1 (by rfl) [.int .i64 k1,.slice oe1 me1 ce1,.slice on1 mn1 cn1] w4.drew.heap.size (by rfl) (by rfl) (by rfl) (by simp[Value.oneCell']) (by have:=HLN.out;rw[List.length_map];omega) ?_;intro v7 w7 hown7 hc7 hp7 hne7;obtain⟨o7,n7,c7,rfl⟩:=zw hown7;have hX7:w7.heap[w.heap.size+2]? = _:=(hc7.block _ T5.out.lt (fun e=>T5.out.eown e)).trans T5.out.obj;refine hK.out _ _ ⟨zcc hc7 (fun e=>T5.out.eown e) o1,zcc hc7 HVE0.out x0,zcc hc7 HVE.out b1,zcc hc7 HVE.out b2,zcc hc7 HVE.out b3⟩ ?_;clear hK K
     try simp only[pT]
     have hpush:OwnL (w.heap.size+2) (w.heap.size+2) (fun g=>(P g∨w.heap.size+2≤g)∧(Value.slice o3 n3 c3).ownBlock≠some g) w7 (.slice o7 n7 c7) (acc.map (·.2)++[ty]):=OwnL.push (by have:=T5.out.lt;omega) ⟨rs,hm,hl2,he4,hown7⟩ HTV5.out (fun g hg=>by
      have hg:=HP.out g hg
      exact⟨⟨.inl ‹_›,fun e=>by have:=(T5.out.rown g e).1;omega⟩,by omega,fun e=>by have:=(T5.out.own.block e).1;omega⟩) hc7 hp7
     have T7:=hid (T5.out.elems hpush hp7 hc7);clear o1 x0 b1 b2 b3 T5;have h1:=(cII hX7 1).trans rfl;have hf:=zff hX7;clear hown7 hc7 hp7 hne7 hX7 hm hl2 he4 hpush;refine cR2 ?_;refine zn ?_
     go_wp2_with fail
     clear h1 hf
     go_roundw
     case rel=>exact⟨i+1,k,_,_,_,_,_,_,acc++[(nm,ty)],by omega,by omega,by go_num,by go_num,by rw[List.map_append,List.map_append];exact T7,hid (HE2.out.trans (by rw[List.append_assoc];rfl)),hid (by have:=HLN.out;rw[List.length_append];simp;omega)⟩
     case measure=>simp[intOf];omega
    | false =>
     have HE2:=hid (HE.out.trans (congrArg (acc++·) (hmk hlt)));obtain⟨nmA,hA⟩:∃ x,s.attrs[i].name=x:=⟨_,rfl⟩;obtain⟨nmK,hK⟩:∃ x,s.nested[k].name=x:=⟨_,rfl⟩;rw[hA] at a0 hlt;rw[hK] at b0 hlt;have hcn:Op.bytesLess nmA.toList nmK.toList=false:=hlt;clear hma hmk HE hlt hA hK;have x0:=(cII hx2 0).trans rfl;have x1:=(cII hx2 1).trans rfl;rw[HEA.out] at x0;rw[HEK.out] at x1
     go_wp2_with fail
     refine zss (fun v=>v.cell? ⟨w.heap.size,0,none⟩=some (.slice (some ⟨gA,oA,none⟩) s.attrs.length ca)∧v.cell? ⟨w.heap.size,1,none⟩=some (.slice (some ⟨gK,oK,none⟩) s.nested.length cn0)∧ v.cell? ⟨gA,oA+i*8,none⟩=some (.string nmA)∧v.cell? ⟨gK,oK+k*5,none⟩=some (.string nmK)) (by kernel_rfl) (by kernel_rfl) (⟨x0,x1,a0,b0⟩) ?_;refine cR1 ?_;refine zn ?_;clear x0 x1
     go_wp2_with fail
     clear a0 b0 hcn;obtain⟨g,o,c,oa1,ca1,-,e1,a0w,-,-,a3,-,hAV,hnm⟩:=HNE.out.at hkb
     cases e1
     have a0:=zbb HB2.out a0w;have HOB:=hid (HOK.out.2.2 _ (lM hkb))
     generalize s.nested[k]=at' at *
     obtain⟨nm,nmn,nmx,ats,rp⟩:=at';simp only at a0 a0w a3 hAV hnm HE2 HOB;have T1:=hid (T.out.later (zdd (zdd (Below.refl _ _))));have x0:=(cII hx2 1).trans rfl;have o2:=(cII T.out.obj 2).trans rfl;clear hx2;have A3:=hid a3;have HAV:=hid hAV;have HNM:=hid hnm;have hgl:g<w.heap.size:=World.block_lt_of_cell? w _ a0w;have HGL:=hid hgl;have HVN:=hid (show ¬ (Value.slice on mn cn).ownBlock=some g from fun e=>by have:=(T.out.rown g e).1;omega);have HVE:=hid (show ¬ (Value.slice oe me ce).ownBlock=some g from fun e=>by have:=(T.out.own.block e).1;omega);have HVN0:=hid (show ¬ (Value.slice on mn cn).ownBlock=some w.heap.size from fun e=>by have:=(T.out.rown _ e).1;omega);have HVE0:=hid (show ¬ (Value.slice oe me ce).ownBlock=some w.heap.size from fun e=>by have:=(T.out.own.block e).1;omega);clear hAV hnm a3 a0w
     refine zt 10 (fun v=>v.cell? ⟨w.heap.size+2,2,none⟩=some (.slice on mn cn)∧v.cell? ⟨w.heap.size,1,none⟩=some (.slice (some ⟨g,o,none⟩) s.nested.length cn0)∧v.cell? ⟨g,o+k*5,none⟩=some (.string nm)) (by kernel_rfl) (by kernel_rfl) (⟨o2,x0,a0⟩) ?_;simp only[List.take_succ_cons,List.take_zero,List.drop_succ_cons,List.drop_zero];refine cR2 ?_;refine qqL rfl (by rfl) (fun K hK=>?_)
     go_simp
     have hal:Below wr.drew.drew.heap.size wr.drew.drew (wr.drew.drew.alloc (.cells #[.string nm] 9)):=(Below.refl _ _).alloc (nR _) _;refine hK.out _ _ (⟨zbb (W:=wr.drew.drew) hal o2,zbb (W:=wr.drew.drew) hal x0,zbb (W:=wr.drew.drew) hal a0⟩) ?_;clear hK K
     try simp only[pT]
     clear hal;refine qqL rfl (by rfl) (fun K hK=>?_);refine app_tag_wp (.tmp 71) (.tmp 78) 30 (by rfl) 9 (.string ⟨#[]⟩) 1 16 Tryz.underlying30 info9 (by rfl) (by decide) (by decide) _ _ _ T1.out.row.owns (by rfl) [.string nm] wr.drew.drew.heap.size (by rfl) (by rfl) (by rfl) (by simp[Value.oneCell']) (by have:=HLN.out;rw[List.length_map];omega) ?_;intro v3 w3 hown3 hc3 hp3 hne3;obtain⟨o3,n3,c3,rfl⟩:=zw hown3;have hT3:w3.heap[w.heap.size+2]? = _:=(hc3.block _ T1.out.lt (fun e=>(T1.out.rown _ e).2.1 rfl)).trans T1.out.obj;refine hK.out _ _ ⟨zcc hc3 (fun e=>(T1.out.rown _ e).2.1 rfl) o2,zcc hc3 HVN0.out x0,zcc hc3 HVN.out a0⟩ ?_;clear hK K
     try simp only[pT]
     have T4:=hid (T1.out.names (owns_row (l:=acc.map (·.1)++[nm]) (by rw[strs,List.map_append];exact hown3) (by simp)) (snocS T1.out.strs HNM.out) hp3 hc3);have t2:=(cII hT3 2).trans rfl;have tf:=zff hT3;clear hown3 hc3 hp3 hne3 hT3 o2 x0 a0 T1;refine cR2 ?_;refine zn ?_
     go_wp2_with fail
     clear t2 tf
     generalize w3.setCell ⟨w.heap.size+2,2,none⟩ (.slice o3 n3 c3)=w4 at *
     have T5:=hid (T4.out.later (zdd (Below.refl _ _)));have HB5:=hid (show Below w.heap.size w w4.drew from HB.out.trans (T5.out.bel.mono (by omega)));have o1:=(cII T5.out.obj 1).trans rfl;have hx5:w4.drew.heap[w.heap.size]? = _:=(T5.out.bel.block _ (by omega)).trans HX.out;have x0:=(cII hx5 1).trans rfl;have b3:=zbb HB5.out A3.out;have HCall:=hid (robject_any ats P w4.drew _ (HAV.out.bel (show Below w.heap.size w w4.drew from HB5.out)) HOB.out);clear T4 hx5;refine zt 13 (fun v=>v.cell? ⟨w.heap.size+2,1,none⟩=some (.slice oe me ce)∧v.cell? ⟨w.heap.size,1,none⟩=some (.slice (some ⟨g,o,none⟩) s.nested.length cn0)∧v.cell? ⟨g,o+k*5+3,none⟩=some (.slice oa1 ats.length ca1)) (by kernel_rfl) (by kernel_rfl) (⟨o1,x0,b3⟩) ?_;simp only[List.take_succ_cons,List.take_zero,List.drop_succ_cons,List.drop_zero];refine cR2 ?_
     refine qqL rfl (by rfl) (fun K hK=>?_)
     go_simp
     refine HCall.out.mono ?_;rintro e w6 ⟨u6,rfl,hb6,hu6⟩;obtain⟨ve6,vn6,rfl,hE6,hN6⟩:=hu6.out;obtain⟨oe6,ce6,rfl⟩:=hE6.len;obtain⟨on6,cn6,rfl⟩:=hN6.len
     generalize (ats.map (·.ty)).length=m6 at *
     generalize (ats.map (·.name)).length=n6 at *
     have T6:=hid (T5.out.later hb6);have HU6:=hid hu6;have HW6:Hid (w4.drew.heap.size≤w6.heap.size):=hid hb6.size;replace o1:=zbb (W:=w4.drew) hb6 o1;replace x0:=zbb (W:=w4.drew) hb6 x0;replace b3:=zbb (W:=w4.drew) hb6 b3;clear hb6 hE6 hN6 hu6 HCall;refine hK.out _ _ (⟨o1,x0,b3⟩) ?_;clear hK K
     try simp only[pT]
     refine cR2 ?_;refine qqL rfl (by rfl) (fun K hK=>?_)
     go_simp
     have hal:Below w6.heap.size w6 (w6.alloc (.cells #[.int .i64 6,.slice oe6 m6 ce6,.slice on6 n6 cn6] 61)):=(Below.refl _ _).alloc (nR _) _;have ho8:=zhh w6 (.cells #[.int .i64 6,.slice oe6 m6 ce6,.slice on6 n6 cn6] 61)
     have hs8:(w6.alloc (.cells #[.int .i64 6,.slice oe6 m6 ce6,.slice on6 n6 cn6] 61)).heap.size=w6.heap.size+1:=by simp
     generalize w6.alloc (.cells #[.int .i64 6,.slice oe6 m6 ce6,.slice on6 n6 cn6] 61)=w8 at *
     replace o1:=zbb hal o1;replace x0:=zbb hal x0;replace b3:=zbb hal b3;have T8:=hid (T6.out.later hal);have HV8:Hid (TV (fun g=>(P g∧g<w.heap.size)∨w4.heap.size≤g) w8 (.agg #[.int .i64 4,.slice (some ⟨w6.heap.size,0,none⟩) 1 1,.slice none 0 0]) (.mk 4 [objT ats] [])):=hid (TV.mk' ⟨⟨by simp,.inl ⟨rfl,_,_,rfl⟩⟩,fun s h=>by cases h⟩ (lv_one (Or.inr HW6.out) ho8 ((HU6.out.bel hal).mono fun g hg=>hg.imp (fun h=>⟨h.1,HP.out g h.1⟩) id)));clear hal ho8 hs8 T6 HU6;refine hK.out _ _ (⟨o1,x0,b3⟩) ?_;clear hK K
     try simp only[pT]
     refine cR2 ?_;refine qqL rfl (by rfl) (fun K hK=>?_)
     go_simp
     have hal:Below w8.heap.size w8 (w8.alloc (.cells #[.int .i64 4,.slice (some ⟨w6.heap.size,0,none⟩) 1 1,.slice none 0 0] 61)):=(Below.refl _ _).alloc (nR _) _;refine hK.out _ _ (⟨zbb hal o1,zbb hal x0,zbb hal b3⟩) ?_;clear hK K
     try simp only[pT]
     clear hal;refine qqL rfl (by rfl) (fun K hK=>?_);obtain⟨rs,hm,hl2,he4⟩:=T8.out.own;refine app_tag_wp (.tmp 82) (.tmp 92) 59 (by rfl) 61 (.agg #[.int .i64 0,.slice none 0 0,.slice none 0 0]) 3 56 Tryz.underlying59 info26 (by rfl) (by decide) (by decide) _ _ _ hm.1 (by rfl) [.int .i64 4,.slice (some ⟨w6.heap.size,0,none⟩) 1 1,.slice none 0 0] w8.heap.size (by rfl) (by rfl) (by rfl) (by simp[Value.oneCell']) (by have:=HLN.out;rw[List.length_map];omega) ?_;intro v7 w7 hown7 hc7 hp7 hne7;obtain⟨o7,n7,c7,rfl⟩:=zw hown7;have hX7:w7.heap[w.heap.size+2]? = _:=(hc7.block _ T8.out.lt (fun e=>T8.out.eown e)).trans T8.out.obj;refine hK.out _ _ ⟨zcc hc7 (fun e=>T8.out.eown e) o1,zcc hc7 HVE0.out x0,zcc hc7 HVE.out b3⟩ ?_;clear hK K
     try simp only[pT]
     have hpush:OwnL (w.heap.size+2) (w.heap.size+2) (fun g=>(P g∨w.heap.size+2≤g)∧(Value.slice o3 n3 c3).ownBlock≠some g) w7 (.slice o7 n7 c7) (acc.map (·.2)++[.mk 4 [objT ats] []]):=OwnL.push (by have:=T8.out.lt;omega) ⟨rs,hm,hl2,he4,hown7⟩ HV8.out (fun g hg=>by
      have h1:w.heap.size+2<w4.heap.size:=T5.out.lt;have h2:g<w.heap.size∨w4.heap.size≤g:=hg.imp (·.2) id;refine⟨⟨hg.imp (·.1) (fun h=>by omega),fun e=>?_⟩,by omega,fun e=>?_⟩
      ·have:=(T5.out.rown g e).1;have:=show g<w4.heap.size from T5.out.row.lt e;omega
      ·have:=(T5.out.own.block e).1;have:=show g<w4.heap.size from(T5.out.own.block e).2;omega) hc7 hp7
     have T7:=hid (T8.out.elems hpush hp7 hc7);clear o1 x0 b3 T5 T8;have h1:=(cII hX7 1).trans rfl;have hf:=zff hX7;clear hown7 hc7 hp7 hne7 hX7 hm hl2 he4 hpush;refine cR2 ?_;refine zn ?_
     go_wp2_with fail
     clear h1 hf
     go_roundw
     case rel=>exact⟨i,k+1,_,_,_,_,_,_,acc++[(nm,.mk 4 [objT ats] [])],by omega,by omega,by go_num,by go_num,by rw[List.map_append,List.map_append];exact T7,hid (HE2.out.trans (by rw[List.append_assoc];rfl)),hid (by have:=HLN.out;rw[List.length_append];simp;omega)⟩
     case measure=>simp[intOf];omega
   ·have fk:decide ((k:Int)=(s.nested.length:Int))=true:=dTT (by omega)
    have fk2:decide (k=s.nested.length)=true:=dTT (by omega);have fk3:(k == s.nested.length)=true:=bT (by omega);have fk4:((k:Int) == (s.nested.length:Int))=true:=bT (by omega);have HE2:=hid (HE.out.trans (congrArg (acc++·) (mergeR_a0 hia (Nat.le_of_not_lt hkb))));clear HE;have x0:=(cII hx2 0).trans rfl;have x1:=(cII hx2 1).trans rfl
    skip
    go_wp2_with fail
    refine zss (fun v=>v.cell? ⟨w.heap.size,0,none⟩=some (.slice (oa) s.attrs.length ca)∧v.cell? ⟨w.heap.size,1,none⟩=some (.slice (on0) s.nested.length cn0)) (by kernel_rfl) (by kernel_rfl) (⟨x0,x1⟩) ?_;refine cR1 ?_;refine zn ?_;clear x0 x1
    go_wp2_with fail
    obtain⟨g,o,c,k1,oe1,me1,ce1,on1,mn1,cn1,-,e1,a0w,a1,a2,a3,-,-,-,-,hTV,hnm⟩:=HAT.out.at hia
    cases e1
    have a0:=zbb HB2.out a0w
    generalize s.attrs[i]=at' at *
    obtain⟨nm,ty,md,rp,sn,vl⟩:=at';simp only at a0 a0w hTV hnm HE2;have T1:=hid (T.out.later (zdd (zdd (Below.refl _ _))));have x0:=(cII hx2 0).trans rfl;have o2:=(cII T.out.obj 2).trans rfl;clear hx2;have A1:=hid a1;have A2:=hid a2;have A3:=hid a3;have HTV:=hid hTV;have HNM:=hid hnm;have hgl:g<w.heap.size:=World.block_lt_of_cell? w _ a0w;have HGL:=hid hgl;have HVN:=hid (show ¬ (Value.slice on mn cn).ownBlock=some g from fun e=>by have:=(T.out.rown g e).1;omega);have HVE:=hid (show ¬ (Value.slice oe me ce).ownBlock=some g from fun e=>by have:=(T.out.own.block e).1;omega);have HVN0:=hid (show ¬ (Value.slice on mn cn).ownBlock=some w.heap.size from fun e=>by have:=(T.out.rown _ e).1;omega);have HVE0:=hid (show ¬ (Value.slice oe me ce).ownBlock=some w.heap.size from fun e=>by have:=(T.out.own.block e).1;omega)
    clear hTV hnm a1 a2 a3 a0w;refine zt 10 (fun v=>v.cell? ⟨w.heap.size+2,2,none⟩=some (.slice on mn cn)∧v.cell? ⟨w.heap.size,0,none⟩=some (.slice (some ⟨g,o,none⟩) s.attrs.length ca)∧v.cell? ⟨g,o+i*8,none⟩=some (.string nm)) (by kernel_rfl) (by kernel_rfl) (⟨o2,x0,a0⟩) ?_;simp only[List.take_succ_cons,List.take_zero,List.drop_succ_cons,List.drop_zero];refine cR2 ?_;refine qqL rfl (by rfl) (fun K hK=>?_)
    go_simp
    have hal:Below wr.drew.drew.heap.size wr.drew.drew (wr.drew.drew.alloc (.cells #[.string nm] 9)):=(Below.refl _ _).alloc (nR _) _;refine hK.out _ _ (⟨zbb (W:=wr.drew.drew) hal o2,zbb (W:=wr.drew.drew) hal x0,zbb (W:=wr.drew.drew) hal a0⟩) ?_;clear hK K
    try simp only[pT]
    clear hal;refine qqL rfl (by rfl) (fun K hK=>?_);refine app_tag_wp (.tmp 47) (.tmp 54) 30 (by rfl) 9 (.string ⟨#[]⟩) 1 16 Tryz.underlying30 info9 (by rfl) (by decide) (by decide) _ _ _ T1.out.row.owns (by rfl) [.string nm] wr.drew.drew.heap.size (by rfl) (by rfl) (by rfl) (by simp[Value.oneCell']) (by have:=HLN.out;rw[List.length_map];omega) ?_;intro v3 w3 hown3 hc3 hp3 hne3;obtain⟨o3,n3,c3,rfl⟩:=zw hown3;have hT3:w3.heap[w.heap.size+2]? = _:=(hc3.block _ T1.out.lt (fun e=>(T1.out.rown _ e).2.1 rfl)).trans T1.out.obj;refine hK.out _ _ ⟨zcc hc3 (fun e=>(T1.out.rown _ e).2.1 rfl) o2,zcc hc3 HVN0.out x0,zcc hc3 HVN.out a0⟩ ?_;clear hK K
    try simp only[pT]
    have T4:=hid (T1.out.names (owns_row (l:=acc.map (·.1)++[nm]) (by rw[strs,List.map_append];exact hown3) (by simp)) (snocS T1.out.strs HNM.out) hp3 hc3);have t2:=(cII hT3 2).trans rfl;have tf:=zff hT3;clear hown3 hc3 hp3 hne3 hT3 o2 x0 a0 T1;refine cR2 ?_;refine zn ?_
    go_wp2_with fail
    clear t2 tf
    generalize w3.setCell ⟨w.heap.size+2,2,none⟩ (.slice o3 n3 c3)=w4 at *
    have T5:=hid (T4.out.later (zdd (Below.refl _ _)));have HB5:=hid (show Below w.heap.size w w4.drew from HB.out.trans (T5.out.bel.mono (by omega)));have o1:=(cII T5.out.obj 1).trans rfl;have hx5:w4.drew.heap[w.heap.size]? = _:=(T5.out.bel.block _ (by omega)).trans HX.out;have x0:=(cII hx5 0).trans rfl;have HTV5:=hid (HTV.out.bel (show Below w.heap.size w w4.drew from HB5.out));have b1:=zbb HB5.out A1.out;have b2:=zbb HB5.out A2.out;have b3:=zbb HB5.out A3.out;clear T4 hx5;refine zt 11 (fun v=>v.cell? ⟨w.heap.size+2,1,none⟩=some (.slice oe me ce)∧v.cell? ⟨w.heap.size,0,none⟩=some (.slice (some ⟨g,o,none⟩) s.attrs.length ca)∧v.cell? ⟨g,o+i*8+1,none⟩=some (.int .i64 k1)∧v.cell? ⟨g,o+i*8+2,none⟩=some (.slice oe1 me1 ce1)∧v.cell? ⟨g,o+i*8+3,none⟩=some (.slice on1 mn1 cn1)) (by kernel_rfl) (by kernel_rfl) (⟨o1,x0,b1,b2,b3⟩) ?_
    simp only[List.take_succ_cons,List.take_zero,List.drop_succ_cons,List.drop_zero];refine cR2 ?_;refine qqL rfl (by rfl) (fun K hK=>?_)
    go_simp
    have hal:Below w4.drew.heap.size w4.drew (w4.drew.alloc (.cells #[.int .i64 k1,.slice oe1 me1 ce1,.slice on1 mn1 cn1] 61)):=(Below.refl _ _).alloc (nR _) _;refine hK.out _ _ (⟨zbb (W:=w4.drew) hal o1,zbb (W:=w4.drew) hal x0,zbb (W:=w4.drew) hal b1,zbb (W:=w4.drew) hal b2,zbb (W:=w4.drew) hal b3⟩) ?_;clear hK K
    try simp only[pT]
    clear hal;refine qqL rfl (by rfl) (fun K hK=>?_);obtain⟨rs,hm,hl2,he4⟩:=T5.out.own;refine app_tag_wp (.tmp 58) (.tmp 65) 59 (by rfl) 61 (.agg #[.int .i64 0,.slice none 0 0,.slice none 0 0]) 3 56 Tryz.underlying59 info26 (by rfl) (by decide) (by decide) _ _ _ hm.1 (by rfl) [.int .i64 k1,.slice oe1 me1 ce1,.slice on1 mn1 cn1] w4.drew.heap.size (by rfl) (by rfl) (by rfl) (by simp[Value.oneCell']) (by have:=HLN.out;rw[List.length_map];omega) ?_;intro v7 w7 hown7 hc7 hp7 hne7;obtain⟨o7,n7,c7,rfl⟩:=zw hown7;have hX7:w7.heap[w.heap.size+2]? = _:=(hc7.block _ T5.out.lt (fun e=>T5.out.eown e)).trans T5.out.obj;refine hK.out _ _ ⟨zcc hc7 (fun e=>T5.out.eown e) o1,zcc hc7 HVE0.out x0,zcc hc7 HVE.out b1,zcc hc7 HVE.out b2,zcc hc7 HVE.out b3⟩ ?_;clear hK K
    try simp only[pT]
    have hpush:OwnL (w.heap.size+2) (w.heap.size+2) (fun g=>(P g∨w.heap.size+2≤g)∧(Value.slice o3 n3 c3).ownBlock≠some g) w7 (.slice o7 n7 c7) (acc.map (·.2)++[ty]):=OwnL.push (by have:=T5.out.lt;omega) ⟨rs,hm,hl2,he4,hown7⟩ HTV5.out (fun g hg=>by
     have hg:=HP.out g hg
     exact⟨⟨.inl ‹_›,fun e=>by have:=(T5.out.rown g e).1;omega⟩,by omega,fun e=>by have:=(T5.out.own.block e).1;omega⟩) hc7 hp7
    have T7:=hid (T5.out.elems hpush hp7 hc7);clear o1 x0 b1 b2 b3 T5;have h1:=(cII hX7 1).trans rfl;have hf:=zff hX7;clear hown7 hc7 hp7 hne7 hX7 hm hl2 he4 hpush;refine cR2 ?_;refine zn ?_
    go_wp2_with fail
    clear h1 hf
    go_roundw
    case rel=>exact⟨i+1,k,_,_,_,_,_,_,acc++[(nm,ty)],by omega,by omega,by go_num,by go_num,by rw[List.map_append,List.map_append];exact T7,hid (HE2.out.trans (by rw[List.append_assoc];rfl)),hid (by have:=HLN.out;rw[List.length_append];simp;omega)⟩
    case measure=>simp[intOf];omega
  ·have fi:decide ((i:Int)<(s.attrs.length:Int))=false:=dF (by omega)
   have fi2:decide (i<s.attrs.length)=false:=dF (by omega)
   by_cases hkb:k<s.nested.length
   ·have hk1:(k:Int)<(s.nested.length:Int):=by omega
    have fk:decide ((k:Int)=(s.nested.length:Int))=false:=dF (by omega);have fk2:decide (k=s.nested.length)=false:=dF (by omega);have fk3:(k == s.nested.length)=false:=bF (by omega);have fk4:((k:Int) == (s.nested.length:Int))=false:=bF (by omega);have HE2:=hid (HE.out.trans (congrArg (acc++·) (mergeR_k0 (Nat.le_of_not_lt hia) hkb)));clear HE;have x0:=(cII hx2 0).trans rfl;have x1:=(cII hx2 1).trans rfl
    skip
    go_wp2_with fail
    refine zss (fun v=>v.cell? ⟨w.heap.size,0,none⟩=some (.slice (oa) s.attrs.length ca)∧v.cell? ⟨w.heap.size,1,none⟩=some (.slice (on0) s.nested.length cn0)) (by kernel_rfl) (by kernel_rfl) (⟨x0,x1⟩) ?_;refine cR1 ?_;refine zn ?_;clear x0 x1
    go_wp2_with fail
    obtain⟨g,o,c,oa1,ca1,-,e1,a0w,-,-,a3,-,hAV,hnm⟩:=HNE.out.at hkb
    cases e1
    have a0:=zbb HB2.out a0w;have HOB:=hid (HOK.out.2.2 _ (lM hkb))
    generalize s.nested[k]=at' at *
    obtain⟨nm,nmn,nmx,ats,rp⟩:=at';simp only at a0 a0w a3 hAV hnm HE2 HOB;have T1:=hid (T.out.later (zdd (zdd (Below.refl _ _))));have x0:=(cII hx2 1).trans rfl;have o2:=(cII T.out.obj 2).trans rfl;clear hx2;have A3:=hid a3;have HAV:=hid hAV;have HNM:=hid hnm;have hgl:g<w.heap.size:=World.block_lt_of_cell? w _ a0w;have HGL:=hid hgl;have HVN:=hid (show ¬ (Value.slice on mn cn).ownBlock=some g from fun e=>by have:=(T.out.rown g e).1;omega);have HVE:=hid (show ¬ (Value.slice oe me ce).ownBlock=some g from fun e=>by have:=(T.out.own.block e).1;omega);have HVN0:=hid (show ¬ (Value.slice on mn cn).ownBlock=some w.heap.size from fun e=>by have:=(T.out.rown _ e).1;omega);have HVE0:=hid (show ¬ (Value.slice oe me ce).ownBlock=some w.heap.size from fun e=>by have:=(T.out.own.block e).1;omega);clear hAV hnm a3 a0w
    refine zt 10 (fun v=>v.cell? ⟨w.heap.size+2,2,none⟩=some (.slice on mn cn)∧v.cell? ⟨w.heap.size,1,none⟩=some (.slice (some ⟨g,o,none⟩) s.nested.length cn0)∧v.cell? ⟨g,o+k*5,none⟩=some (.string nm)) (by kernel_rfl) (by kernel_rfl) (⟨o2,x0,a0⟩) ?_;simp only[List.take_succ_cons,List.take_zero,List.drop_succ_cons,List.drop_zero];refine cR2 ?_;refine qqL rfl (by rfl) (fun K hK=>?_)
    go_simp
    have hal:Below wr.drew.drew.heap.size wr.drew.drew (wr.drew.drew.alloc (.cells #[.string nm] 9)):=(Below.refl _ _).alloc (nR _) _;refine hK.out _ _ (⟨zbb (W:=wr.drew.drew) hal o2,zbb (W:=wr.drew.drew) hal x0,zbb (W:=wr.drew.drew) hal a0⟩) ?_;clear hK K
    try simp only[pT]
    clear hal;refine qqL rfl (by rfl) (fun K hK=>?_);refine app_tag_wp (.tmp 71) (.tmp 78) 30 (by rfl) 9 (.string ⟨#[]⟩) 1 16 Tryz.underlying30 info9 (by rfl) (by decide) (by decide) _ _ _ T1.out.row.owns (by rfl) [.string nm] wr.drew.drew.heap.size (by rfl) (by rfl) (by rfl) (by simp[Value.oneCell']) (by have:=HLN.out;rw[List.length_map];omega) ?_;intro v3 w3 hown3 hc3 hp3 hne3;obtain⟨o3,n3,c3,rfl⟩:=zw hown3;have hT3:w3.heap[w.heap.size+2]? = _:=(hc3.block _ T1.out.lt (fun e=>(T1.out.rown _ e).2.1 rfl)).trans T1.out.obj;refine hK.out _ _ ⟨zcc hc3 (fun e=>(T1.out.rown _ e).2.1 rfl) o2,zcc hc3 HVN0.out x0,zcc hc3 HVN.out a0⟩ ?_;clear hK K
    try simp only[pT]
    have T4:=hid (T1.out.names (owns_row (l:=acc.map (·.1)++[nm]) (by rw[strs,List.map_append];exact hown3) (by simp)) (snocS T1.out.strs HNM.out) hp3 hc3);have t2:=(cII hT3 2).trans rfl;have tf:=zff hT3;clear hown3 hc3 hp3 hne3 hT3 o2 x0 a0 T1;refine cR2 ?_;refine zn ?_
    go_wp2_with fail
    clear t2 tf
    generalize w3.setCell ⟨w.heap.size+2,2,none⟩ (.slice o3 n3 c3)=w4 at *
    have T5:=hid (T4.out.later (zdd (Below.refl _ _)));have HB5:=hid (show Below w.heap.size w w4.drew from HB.out.trans (T5.out.bel.mono (by omega)));have o1:=(cII T5.out.obj 1).trans rfl;have hx5:w4.drew.heap[w.heap.size]? = _:=(T5.out.bel.block _ (by omega)).trans HX.out;have x0:=(cII hx5 1).trans rfl;have b3:=zbb HB5.out A3.out;have HCall:=hid (robject_any ats P w4.drew _ (HAV.out.bel (show Below w.heap.size w w4.drew from HB5.out)) HOB.out);clear T4 hx5;refine zt 13 (fun v=>v.cell? ⟨w.heap.size+2,1,none⟩=some (.slice oe me ce)∧v.cell? ⟨w.heap.size,1,none⟩=some (.slice (some ⟨g,o,none⟩) s.nested.length cn0)∧v.cell? ⟨g,o+k*5+3,none⟩=some (.slice oa1 ats.length ca1)) (by kernel_rfl) (by kernel_rfl) (⟨o1,x0,b3⟩) ?_;simp only[List.take_succ_cons,List.take_zero,List.drop_succ_cons,List.drop_zero];refine cR2 ?_
    refine qqL rfl (by rfl) (fun K hK=>?_)
    go_simp
    refine HCall.out.mono ?_;rintro e w6 ⟨u6,rfl,hb6,hu6⟩;obtain⟨ve6,vn6,rfl,hE6,hN6⟩:=hu6.out;obtain⟨oe6,ce6,rfl⟩:=hE6.len;obtain⟨on6,cn6,rfl⟩:=hN6.len
    generalize (ats.map (·.ty)).length=m6 at *
    generalize (ats.map (·.name)).length=n6 at *
    have T6:=hid (T5.out.later hb6);have HU6:=hid hu6;have HW6:Hid (w4.drew.heap.size≤w6.heap.size):=hid hb6.size;replace o1:=zbb (W:=w4.drew) hb6 o1;replace x0:=zbb (W:=w4.drew) hb6 x0;replace b3:=zbb (W:=w4.drew) hb6 b3;clear hb6 hE6 hN6 hu6 HCall;refine hK.out _ _ (⟨o1,x0,b3⟩) ?_;clear hK K
    try simp only[pT]
    refine cR2 ?_;refine qqL rfl (by rfl) (fun K hK=>?_)
    go_simp
    have hal:Below w6.heap.size w6 (w6.alloc (.cells #[.int .i64 6,.slice oe6 m6 ce6,.slice on6 n6 cn6] 61)):=(Below.refl _ _).alloc (nR _) _;have ho8:=zhh w6 (.cells #[.int .i64 6,.slice oe6 m6 ce6,.slice on6 n6 cn6] 61)
    have hs8:(w6.alloc (.cells #[.int .i64 6,.slice oe6 m6 ce6,.slice on6 n6 cn6] 61)).heap.size=w6.heap.size+1:=by simp
    generalize w6.alloc (.cells #[.int .i64 6,.slice oe6 m6 ce6,.slice on6 n6 cn6] 61)=w8 at *
    replace o1:=zbb hal o1;replace x0:=zbb hal x0;replace b3:=zbb hal b3;have T8:=hid (T6.out.later hal);have HV8:Hid (TV (fun g=>(P g∧g<w.heap.size)∨w4.heap.size≤g) w8 (.agg #[.int .i64 4,.slice (some ⟨w6.heap.size,0,none⟩) 1 1,.slice none 0 0]) (.mk 4 [objT ats] [])):=hid (TV.mk' ⟨⟨by simp,.inl ⟨rfl,_,_,rfl⟩⟩,fun s h=>by cases h⟩ (lv_one (Or.inr HW6.out) ho8 ((HU6.out.bel hal).mono fun g hg=>hg.imp (fun h=>⟨h.1,HP.out g h.1⟩) id)));clear hal ho8 hs8 T6 HU6;refine hK.out _ _ (⟨o1,x0,b3⟩) ?_;clear hK K
    try simp only[pT]
    refine cR2 ?_;refine qqL rfl (by rfl) (fun K hK=>?_)
    go_simp
    have hal:Below w8.heap.size w8 (w8.alloc (.cells #[.int .i64 4,.slice (some ⟨w6.heap.size,0,none⟩) 1 1,.slice none 0 0] 61)):=(Below.refl _ _).alloc (nR _) _;refine hK.out _ _ (⟨zbb hal o1,zbb hal x0,zbb hal b3⟩) ?_;clear hK K
    try simp only[pT]
    clear hal;refine qqL rfl (by rfl) (fun K hK=>?_);obtain⟨rs,hm,hl2,he4⟩:=T8.out.own;refine app_tag_wp (.tmp 82) (.tmp 92) 59 (by rfl) 61 (.agg #[.int .i64 0,.slice none 0 0,.slice none 0 0]) 3 56 Tryz.underlying59 info26 (by rfl) (by decide) (by decide) _ _ _ hm.1 (by rfl) [.int .i64 4,.slice (some ⟨w6.heap.size,0,none⟩) 1 1,.slice none 0 0] w8.heap.size (by rfl) (by rfl) (by rfl) (by simp[Value.oneCell']) (by have:=HLN.out;rw[List.length_map];omega) ?_;intro v7 w7 hown7 hc7 hp7 hne7;obtain⟨o7,n7,c7,rfl⟩:=zw hown7;have hX7:w7.heap[w.heap.size+2]? = _:=(hc7.block _ T8.out.lt (fun e=>T8.out.eown e)).trans T8.out.obj;refine hK.out _ _ ⟨zcc hc7 (fun e=>T8.out.eown e) o1,zcc hc7 HVE0.out x0,zcc hc7 HVE.out b3⟩ ?_;clear hK K
    try simp only[pT]
    have hpush:OwnL (w.heap.size+2) (w.heap.size+2) (fun g=>(P g∨w.heap.size+2≤g)∧(Value.slice o3 n3 c3).ownBlock≠some g) w7 (.slice o7 n7 c7) (acc.map (·.2)++[.mk 4 [objT ats] []]):=OwnL.push (by have:=T8.out.lt;omega) ⟨rs,hm,hl2,he4,hown7⟩ HV8.out (fun g hg=>by
     have h1:w.heap.size+2<w4.heap.size:=T5.out.lt;have h2:g<w.heap.size∨w4.heap.size≤g:=hg.imp (·.2) id;refine⟨⟨hg.imp (·.1) (fun h=>by omega),fun e=>?_⟩,by omega,fun e=>?_⟩
     ·have:=(T5.out.rown g e).1;have:=show g<w4.heap.size from T5.out.row.lt e;omega
     ·have:=(T5.out.own.block e).1;have:=show g<w4.heap.size from(T5.out.own.block e).2;omega) hc7 hp7
    have T7:=hid (T8.out.elems hpush hp7 hc7);clear o1 x0 b3 T5 T8;have h1:=(cII hX7 1).trans rfl;have hf:=zff hX7;clear hown7 hc7 hp7 hne7 hX7 hm hl2 he4 hpush;refine cR2 ?_;refine zn ?_
    go_wp2_with fail
    clear h1 hf
    go_roundw
    case rel=>exact⟨i,k+1,_,_,_,_,_,_,acc++[(nm,.mk 4 [objT ats] [])],by omega,by omega,by go_num,by go_num,by rw[List.map_append,List.map_append];exact T7,hid (HE2.out.trans (by rw[List.append_assoc];rfl)),hid (by have:=HLN.out;rw[List.length_append];simp;omega)⟩
    case measure=>simp[intOf];omega
   ·have fk:decide ((k:Int)<(s.nested.length:Int))=false:=dF (by omega)
    have fk2:decide (k<s.nested.length)=false:=dF (by omega);have HE2:=hid (HE.out.trans (congrArg (acc++·) (mergeR_end (Nat.le_of_not_lt hia) (Nat.le_of_not_lt hkb))));have x0:=(cII hx2 0).trans rfl;have x1:=(cII hx2 1).trans rfl;have HZ2:=hid ((T.out.bel.block _ (by omega)).trans HZ.out);have o0:=(cII T.out.obj 0).trans rfl;have o1:=(cII T.out.obj 1).trans rfl;have o2:=(cII T.out.obj 2).trans rfl;have f0:=(cII HZ2.out 0).trans rfl;have f1:=(cII HZ2.out 1).trans rfl;have f2:=(cII HZ2.out 2).trans rfl;have fz:=zff HZ2.out;clear HE hx2
    go_wp2_with fail
    try simp only[Exit.inBlock,Exit.then]
    refine bodyPost_ret (v:=.agg #[.int .i64 6,.slice oe me ce,.slice on mn cn]) (by simp[results,Tryz.results26,go_sem,f0,f1,f2]) rfl ?_;refine⟨_,rfl,store3_below HB2.out (by omega) (nR _) _ _ _,?_⟩
    have he:typR s=.mk 6 (acc.map (·.2)) (acc.map (·.1)):=by rw[typR,HE2.out,List.append_nil]
    rw[he];refine store3_tv (T.out.read (by have:=HLN.out;simp;omega) (by have:=HLN.out;simp;omega)) (fun h=>?_) (fun g hg=>?_) _ _ _
    ·rcases h.1 with h1|h1
     ·have:=HP.out _ h1;omega
     ·omega
    ·rcases hg.1 with h1|h1
     ·exact .inl ⟨h1,HP.out _ h1⟩
     ·exact .inr (by omega)
end Go.Proofs.YtibiiafcnaijeaaGreat
