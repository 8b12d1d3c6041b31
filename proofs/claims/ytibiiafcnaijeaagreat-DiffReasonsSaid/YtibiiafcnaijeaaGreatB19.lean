/- Texts that stand alike under several statements, run together. -/
import Derived.Test.YtibiiafcnaijeaaGreatB00
import Derived.Test.YtibiiafcnaijeaaGreatB18
import Derived.Test.YtibiiafcnaijeaaGreatB01
namespace Go.Proofs.YtibiiafcnaijeaaGreat
open Go Go.RowKit Go.Proofs.YtibiiafcnaijeaaGreat.Steady
set_option linter.unusedVariables false
set_option linter.unusedSimpArgs false
set_option maxRecDepth 100000
set_option maxHeartbeats 40000000
theorem replaced_any (s:Sc) (b a:Vl) (P Q R:Nat→Prop) (w:World) (va vn x y:Value) (hs:SCV P w va vn s) (hp:VV Q w x b) (hq:VV R w y a) (hok:ScOk s) (hsz:SzOk b∧SzOk a) :
  Calls Tryz.prog 40 #[.agg #[va,vn],x,y] w (FreshS (replacedS s b a) w):=by
 obtain ⟨oa,ca,rfl⟩:=hs.1.len;obtain ⟨on,cn,rfl⟩:=hs.2.len;have HSC:=hid hs;have HVP:=hid hp;have HVQ:=hid hq;have HOK:=hid hok;have HSZ:=hid hsz;obtain ⟨kp,np,sp,oip,mip,cip,okp,mkp,ckp,rfl⟩:=hp.agg5;obtain ⟨kq,nq,sq,oiq,miq,ciq,okq,mkq,ckq,rfl⟩:=hq.agg5;generalize hA:w.alloc (.cells #[.slice oa s.attrs.length ca,.slice on s.nested.length cn] 25)=wa
 have hao:wa.heap[w.heap.size]? = some (.cells #[.slice oa s.attrs.length ca,.slice on s.nested.length cn] 25):=by rw [← hA];exact zhh w _
 have has:wa.heap.size=w.heap.size + 1:=by rw [← hA];simp
 have hab:Below w.heap.size w wa:=by rw [← hA];exact (Below.refl _ _).alloc (nR _) _
 generalize hB:wa.alloc (.cells #[.int .i64 kp,.int .i64 np,.string sp,.slice oip mip cip,.slice okp mkp ckp] 32)=wb
 have hbo:wb.heap[w.heap.size + 1]? = some (.cells #[.int .i64 kp,.int .i64 np,.string sp,.slice oip mip cip,.slice okp mkp ckp] 32):=by rw [← hB,← has];exact zhh wa _
 have hbs:wb.heap.size=w.heap.size + 2:=by rw [← hB];simp [has]
 have hbb:Below wa.heap.size wa wb:=by rw [← hB];exact (Below.refl _ _).alloc (nR _) _
 generalize hC:wb.alloc (.cells #[.int .i64 kq,.int .i64 nq,.string sq,.slice oiq miq ciq,.slice okq mkq ckq] 32)=wc
 have hco:wc.heap[w.heap.size + 2]? = some (.cells #[.int .i64 kq,.int .i64 nq,.string sq,.slice oiq miq ciq,.slice okq mkq ckq] 32):=by rw [← hC,← hbs];exact zhh wb _
 have hcs:wc.heap.size=w.heap.size + 3:=by rw [← hC];simp [hbs]
 have hcb:Below wb.heap.size wb wc:=by rw [← hC];exact (Below.refl _ _).alloc (nR _) _
 have HA0:=hid hA;have HB0:=hid hB;have HC0:=hid hC;have HB:=hid (hab.trans ((hbb.trans (hcb.mono hbb.size)).mono hab.size));have HS:=hid hcs;have HXC:=hid hco;have HXB:=hid (kO hbo hcb);have HXA:=hid (kO (kO hao hbb) hcb);clear hp hq hs hok hsz hA hB hC hao hbo hco has hbs hcs hab hbb hcb;have HNC:=hid (changed_any s b a P Q R wc _ _ _ _ (HSC.out.bel HB.out) (HVP.out.bel HB.out) (HVQ.out.bel HB.out) HOK.out HSZ.out);have HNL:=hid (show (changedS s b a).length≤2000 by have h1:(changedS s b a).length≤(namesS s).length:=List.length_filter_le _ _;rw [names_len] at h1;have:=HOK.out.1;have:=HOK.out.2.1;omega);have HRES:=hid (show replacedS s b a=(changedS s b a).filter (repS s) from rfl);have hnl:=HNL.out
 generalize changedS s b a=ns at *
 have a0:=(cII HXA.out 0).trans rfl;have a1:=(cII HXA.out 1).trans rfl;have b0:=(cII HXB.out 0).trans rfl;have b1:=(cII HXB.out 1).trans rfl;have b2:=(cII HXB.out 2).trans rfl;have b3:=(cII HXB.out 3).trans rfl;have b4:=(cII HXB.out 4).trans rfl;have c0:=(cII HXC.out 0).trans rfl;have c1:=(cII HXC.out 1).trans rfl;have c2:=(cII HXC.out 2).trans rfl;have c3:=(cII HXC.out 3).trans rfl;have c4:=(cII HXC.out 4).trans rfl
 go_enter Tryz.func40,Tryz.ntmps40
 go_upto_region 2 with (fail)
 rw [HA0.out,HB0.out,HC0.out]
 go_wp2_with fail
 clear a0 a1 b0 b1 b2 b3 b4 c0 c1 c2 c3 c4;refine HNC.out.mono ?_;rintro e w2 ⟨u,rfl,hu,hb2⟩;obtain ⟨ou,cu,rfl⟩:=hu.len;have HN:=hid (hu.ex.keep (Q:=fun _=>True) (ZK.refl _ _) fun _ _=>trivial);have HB2:=hid (HB.out.trans (hb2.mono HB.out.size));have HXA2:=hid (kO HXA.out hb2);clear hu hb2 HNC HXB HXC
 go_wp2_with fail
 go_loopw [7,19] (fun o i wr=>∃ (j:Nat) (oo:Option Addr) (mo co:Nat),j≤ns.length∧o=.slice oo mo co∧i=.int .i64 j∧Hid (FL w2.heap.size w2 wr (.slice oo mo co) ((ns.take j).filter (repS s)))) (fun _ i _=>ns.length - (intOf i).toNat)
 case atStart=>exact ⟨0,_,_,_,Nat.zero_le _,rfl,rfl,hid ⟨Below.refl _ _,nR _,.inl ⟨rfl,rfl⟩,(fun g e=>by cases e),(fun s h=>by cases h)⟩⟩
 case round =>
  obtain ⟨j,oo,mo,co,hj,rfl,rfl,F⟩:=hrel
  by_cases hlt:j < ns.length
  ·obtain ⟨g,o,c,e1,a1'⟩:=(HN.out.bel F.out.bel).at hlt
   cases e1
   have hj0:(0:Int)≤(j:Int):=by omega
   have hj1:(j:Int) < (ns.length:Int):=by omega
   have HTK:=hid (filter_take (repS s) ns hlt);have HXS:=hid (HN.out.2 ns[j] (lM hlt))
   have HLF:=hid (show ((ns.take j).filter (repS s)).length≤2000 by
    have h1:=List.length_filter_le (repS s) (ns.take j);have h2:=List.length_take_le j ns;have h3:=HNL.out
    omega)
   generalize ns[j]=x at *
   generalize (ns.take j).filter (repS s)=l at *
   have HRP:=hid (show repS s x=(repO (fndA s.attrs x) || repK (fndK s.nested x)) from rfl);have HXA3:=hid (kO HXA2.out F.out.bel);have HBD:=hid (HB2.out.trans (F.out.bel.mono HB2.out.size));have HC1:=hid (find_any s x P wr _ _ (HSC.out.bel HBD.out) HOK.out);have a0:=(cII HXA3.out 0).trans rfl;have a1:=(cII HXA3.out 1).trans rfl
   go_wp2_with fail
   clear a0 a1 a1';refine HC1.out.mono ?_;rintro e w3 ⟨nm3,k3,oe3,me3,ce3,on3,mn3,cn3,rfl,hb3⟩
   generalize modeO (fndA s.attrs x)=md3 at *
   generalize repO (fndA s.attrs x)=rp3 at *
   generalize sensO (fndA s.attrs x)=sn3 at *
   generalize volO (fndA s.attrs x)=vl3 at *
   generalize (fndA s.attrs x).isSome=is3 at *
   go_upto_region 6 with (fail)
   have hal:=(Below.refl w3.heap.size w3).alloc (nR _) (.cells #[.string nm3,.int .i64 k3,.slice oe3 me3 ce3,.slice on3 mn3 cn3,.int .i64 md3,.bool rp3,.bool sn3,.bool vl3] 64);have hxo:=zhh w3 (.cells #[.string nm3,.int .i64 k3,.slice oe3 me3 ce3,.slice on3 mn3 cn3,.int .i64 md3,.bool rp3,.bool sn3,.bool vl3] 64)
   generalize w3.alloc (.cells #[.string nm3,.int .i64 k3,.slice oe3 me3 ce3,.slice on3 mn3 cn3,.int .i64 md3,.bool rp3,.bool sn3,.bool vl3] 64)=w4 at *
   have F4:=hid (F.out.later (hb3.trans (hal.mono hb3.size)));have HXA4:=hid (kO (kO HXA3.out hb3) hal);have HXO:=hid hxo;have HC2:=hid (kind_any s x P w4 _ _ (HSC.out.bel (HBD.out.trans ((hb3.trans (hal.mono hb3.size)).mono HBD.out.size))));clear hb3 hal hxo HC1;have a0:=(cII HXA4.out 0).trans rfl;have a1:=(cII HXA4.out 1).trans rfl
   go_wp2_with fail
   clear a0 a1;refine HC2.out.mono ?_;rintro e w5 ⟨nm5,mn5,mx5,oa5,ma5,ca5,rfl,hb5⟩
   generalize repK (fndK s.nested x)=rp5 at *
   generalize (fndK s.nested x).isSome=is5 at *
   go_upto_region 7 with (fail)
   have hal:=(Below.refl w5.heap.size w5).alloc (nR _) (.cells #[.string nm5,.int .i64 mn5,.int .i64 mx5,.slice oa5 ma5 ca5,.bool rp5] 102);have hxn:=zhh w5 (.cells #[.string nm5,.int .i64 mn5,.int .i64 mx5,.slice oa5 ma5 ca5,.bool rp5] 102)
   generalize w5.alloc (.cells #[.string nm5,.int .i64 mn5,.int .i64 mx5,.slice oa5 ma5 ca5,.bool rp5] 102)=w6 at *
   have F6:=hid (F4.out.later (hb5.trans (hal.mono hb5.size)));have h5:=(cII (kO (kO HXO.out hb5) hal) 5).trans rfl;have h4:=(cII hxn 4).trans rfl;clear hb5 hal hxn HC2;rw [HRP.out] at HTK
   cases rp3 with
   | true =>
    rw [if_pos (by rfl)] at HTK
    go_upto_region 9 with (at_builtin;refine app_tag (by rfl) (.tmp 41) (.tmp 43) 30 (by rfl) 9 (.string ⟨#[]⟩) 1 16 Tryz.underlying30 info9 rfl (by decide) (by decide) _ _ _ F6.out.row.owns (by rfl) [.string x] w6.heap.size (by rfl) (by rfl) (by rfl) (by simp [Value.oneCell']) (by have:=HLF.out;omega) ?_;intro v9 w9 hown9 hc9 hp9 hne9;obtain ⟨o9,n9,c9,rfl⟩:=zw hown9;have HF9:=hid (F6.out.push HXS.out hown9 hc9 hp9);clear hown9 hc9 hp9 hne9)
    go_wp2_with fail
    go_roundw
    case rel=>exact ⟨j + 1,_,_,_,by omega,rfl,by go_num,by rw [HTK.out];exact HF9⟩
    case measure=>simp [intOf];omega
   | false =>
    cases rp5 with
    | true =>
     rw [if_pos (by rfl)] at HTK
     go_upto_region 9 with (at_builtin;refine app_tag (by rfl) (.tmp 41) (.tmp 43) 30 (by rfl) 9 (.string ⟨#[]⟩) 1 16 Tryz.underlying30 info9 rfl (by decide) (by decide) _ _ _ F6.out.row.owns (by rfl) [.string x] w6.heap.size (by rfl) (by rfl) (by rfl) (by simp [Value.oneCell']) (by have:=HLF.out;omega) ?_;intro v9 w9 hown9 hc9 hp9 hne9;obtain ⟨o9,n9,c9,rfl⟩:=zw hown9;have HF9:=hid (F6.out.push HXS.out hown9 hc9 hp9);clear hown9 hc9 hp9 hne9)
     go_wp2_with fail
     go_roundw
     case rel=>exact ⟨j + 1,_,_,_,by omega,rfl,by go_num,by rw [HTK.out];exact HF9⟩
     case measure=>simp [intOf];omega
    | false =>
     rw [if_neg (by decide)] at HTK
     go_wp2_with fail
     go_roundw
     case rel=>exact ⟨j + 1,_,_,_,by omega,rfl,by go_num,by rw [HTK.out];exact F6⟩
     case measure=>simp [intOf];omega
  ·rw [List.take_of_length_le (by omega),← HRES.out] at F
   have HLC:=hid (show (replacedS s b a).length≤2000 by rw [HRES.out];have h1:=List.length_filter_le (repS s) ns;have:=HNL.out;omega);have HB3:=hid (HB2.out.trans (F.out.bel.mono HB2.out.size))
   go_wp2_with fail
   go_ret;exact ⟨_,rfl,F.out.row.sv (fun g e=>by have:=F.out.own g e;have:=HB2.out.size;omega) (by have:=HLC.out;omega) F.out.str,HB3.out⟩
end Go.Proofs.YtibiiafcnaijeaaGreat
namespace Go.Proofs.YtibiiafcnaijeaaGreat
open Go Go.RowKit
set_option linter.unusedVariables false
set_option linter.unusedSimpArgs false
set_option maxRecDepth 100000
set_option maxHeartbeats 40000000
theorem info3:(Tryz.prog.info? 3).map (fun i=>(i.zero,i.size,i.bytes))=some (some (.int .i64 0),1,8):=by kernel_rfl
abbrev ints (l:List Nat):List Value:=l.map fun (i:Nat)=>.int .i64 (i:Int)
theorem chg_step {X:Nat} {C:Nat→Prop} {w2 wr w':World} (h:Chg (fun k=>k=X) w2 wr) (hc:Chg C wr w') (hC:∀ k,C k→k=X∨w2.heap.size≤k):Chg (fun k=>k=X) w2 w' :=
 ⟨hc.os.trans h.os,hc.tape.trans h.tape,hc.output.trans h.output,Nat.le_trans h.size hc.size,fun k hk hn=>(hc.block k (Nat.lt_of_lt_of_le hk h.size) fun hb=>(hC k hb).elim hn (by omega)).trans (h.block k hk hn)⟩
structure PR (w2 wr:World) (X:Nat) (vi vk vv:Value) (is:List Vl) (ks:List ByteArray) (vs:List Nat):Prop where
 hX:X < w2.heap.size
 chg:Chg (fun k=>k=X) w2 wr
 obj:wr.heap[X]? = some (.cells #[.int .i64 5,.int .i64 0,.string ⟨#[]⟩,vi,vk] 32)
 items:OwnW w2.heap.size X (fun g=>w2.heap.size≤g∧vk.ownBlock≠some g∧vv.ownBlock≠some g) wr vi is
 row:Row wr vk ks
 rown:∀ g,vk.ownBlock=some g→w2.heap.size≤g∧vi.ownBlock≠some g
 vol:wr.ownsRow 0 3 1 vv vs.length (ints vs)
 vown:∀ g,vv.ownBlock=some g→w2.heap.size≤g∧g < wr.heap.size∧vi.ownBlock≠some g∧vk.ownBlock≠some g
 str:∀ s∈ks,s.size≤140737488355328
section
variable {w2 wr w':World} {X:Nat} {vi vk vv vi' vk' vv':Value} {is is':List Vl} {ks ks':List ByteArray} {vs:List Nat}
theorem PR.lt (h:PR w2 wr X vi vk vv is ks vs):X < wr.heap.size:=Nat.lt_of_lt_of_le h.hX h.chg.size
theorem PR.kX (h:PR w2 wr X vi vk vv is ks vs):∀ g,vk.ownBlock=some g→g≠X:=fun g e=>by have:=(h.rown g e).1;have:=h.hX;omega
theorem PR.iX (h:PR w2 wr X vi vk vv is ks vs):∀ g,vi.ownBlock=some g→g≠X:=fun g e=>by have:=(h.items.block e).1;have:=h.hX;omega
theorem PR.later (h:PR w2 wr X vi vk vv is ks vs) (hb:Below wr.heap.size wr w'):PR w2 w' X vi vk vv is ks vs :=
 ⟨h.hX,chg_step h.chg (Chg.below (B:=fun _=>False) hb) (fun _ h=>h.elim),kO h.obj hb,h.items.later hb,h.row.of_same fun g hg=>hb.block g (h.row.lt hg),h.rown,owns_keep h.vol (Chg.below (B:=fun _=>False) hb) (fun _ _ h=>h),fun g e=>⟨(h.vown g e).1,Nat.lt_of_lt_of_le (h.vown g e).2.1 hb.size,(h.vown g e).2.2⟩,h.str⟩
theorem PR.pushK (h:PR w2 wr X vi vk vv is ks vs) (hr:Row w' vk' ks') (hs:∀ s∈ks',s.size≤140737488355328) (hp:vk'.ownBlock=vk.ownBlock∨∃ g,vk'.ownBlock=some g∧wr.heap.size≤g) (hc:Chg (fun g=>vk.ownBlock=some g) wr w') :
  PR w2 (w'.setCell ⟨X,4,none⟩ vk') X vi vk' vv is ks' vs:=by
 have hl:=h.lt;have hX:=h.hX;have hsz:=h.chg.size;have c2:=Chg.setCell (B:=fun g=>g=X) w' X 4 vk' rfl
 have hnew:∀ g,vk'.ownBlock=some g→vk.ownBlock=some g∨wr.heap.size≤g:=fun g e=>by
  rcases hp with h1 | ⟨g',h1,h2⟩
  ·exact .inl (h1 ▸ e)
  ·rw [h1] at e;cases e;exact .inr h2
 have hkX:∀ g,vk.ownBlock=some g→g≠X:=fun g e=>by have:=(h.rown g e).1;omega
 have ho:=(hc.block X hl (fun e=>hkX X e rfl)).trans h.obj
 have i1:OwnW w2.heap.size X (fun g=>w2.heap.size≤g∧vk'.ownBlock≠some g∧vv.ownBlock≠some g) w' vi is:=h.items.chgP hc (fun g e e2=>(h.rown g e2).2 e) (fun g hg _ _=>hg.2.1) (fun g hg hlt=>⟨hg.1,(fun e=>by
  rcases hnew g e with h1 | h1
  ·exact hg.2.1 h1
  ·omega),hg.2.2⟩)
 refine ⟨hX,chg_step (chg_step h.chg hc fun k e=>.inr (h.rown k e).1) c2 fun k e=>.inl e,obj_set (po:=4) ho _,i1.chgP c2 (fun g e e2=>by have:=(h.items.block e).1;omega) (fun g hg _ _ e=>by have:=hg.1;omega) (fun g hg _=>hg),hr.chg c2 (fun g e e2=>?_),fun g e=>?_,
  owns_keep (owns_keep h.vol hc fun g e e2=>(h.vown g e).2.2.2 e2) c2 (fun g e e2=>by have:=(h.vown g e).1;omega),fun g e=>⟨(h.vown g e).1,by have:=(h.vown g e).2.1;have:=hc.size;have:=c2.size;omega,(h.vown g e).2.2.1,fun e2=>?_⟩,hs⟩
 ·rcases hnew g e with h1 | h1
  ·exact hkX g h1 e2
  ·omega
 ·rcases hnew g e with h1 | h1
  ·exact h.rown g h1
  ·exact ⟨by omega,fun e2=>by have:=(h.items.block e2).2;omega⟩
 ·rcases hnew g e2 with h1 | h1
  ·exact (h.vown g e).2.2.2 h1
  ·have:=(h.vown g e).2.1;omega
theorem PR.pushI (h:PR w2 wr X vi vk vv is ks vs) (hr:OwnW w2.heap.size X (fun g=>w2.heap.size≤g∧vk.ownBlock≠some g∧vv.ownBlock≠some g) w' vi' is') (hp:vi'.ownBlock=vi.ownBlock∨∃ g,vi'.ownBlock=some g∧wr.heap.size≤g) (hc:Chg (fun g=>vi.ownBlock=some g) wr w') :
  PR w2 (w'.setCell ⟨X,3,none⟩ vi') X vi' vk vv is' ks vs:=by
 have hl:=h.lt;have hX:=h.hX;have hsz:=h.chg.size;have c2:=Chg.setCell (B:=fun g=>g=X) w' X 3 vi' rfl
 have hnew:∀ g,vi'.ownBlock=some g→vi.ownBlock=some g∨wr.heap.size≤g:=fun g e=>by
  rcases hp with h1 | ⟨g',h1,h2⟩
  ·exact .inl (h1 ▸ e)
  ·rw [h1] at e;cases e;exact .inr h2
 have hiX:∀ g,vi.ownBlock=some g→w2.heap.size≤g:=fun g e=>(h.items.block e).1
 have ho:=(hc.block X hl (fun e=>by have:=hiX X e;omega)).trans h.obj
 refine ⟨hX,chg_step (chg_step h.chg hc fun k e=>.inr (hiX k e)) c2 fun k e=>.inl e,obj_set (po:=3) ho _,hr.chgP c2 (fun g e e2=>?_) (fun g hg _ _ e=>by have:=hg.1;omega) (fun g hg _=>hg),(h.row.chg hc fun g e e2=>(h.rown g e).2 e2).chg c2 (fun g e e2=>by have:=(h.rown g e).1;omega),fun g e=>⟨(h.rown g e).1,fun e2=>?_⟩,
  owns_keep (owns_keep h.vol hc fun g e e2=>(h.vown g e).2.2.1 e2) c2 (fun g e e2=>by have:=(h.vown g e).1;omega),fun g e=>⟨(h.vown g e).1,by have:=(h.vown g e).2.1;have:=hc.size;have:=c2.size;omega,fun e2=>?_,(h.vown g e).2.2.2⟩,h.str⟩
 ·rcases hnew g e with h1 | h1
  ·have:=hiX g h1;omega
  ·omega
 ·rcases hnew g e2 with h1 | h1
  ·exact (h.rown g e).2 h1
  ·have:=h.row.lt e;omega
 ·rcases hnew g e2 with h1 | h1
  ·exact (h.vown g e).2.2.1 h1
  ·have:=(h.vown g e).2.1;omega
theorem PR.pushV {j:Nat} (h:PR w2 wr X vi vk vv is ks vs) (hr:w'.ownsRow 0 3 1 vv' (vs.length + 1) (ints vs ++ [.int .i64 (j:Int)])) (hp:vv'.ownBlock=vv.ownBlock∨∃ g,vv'.ownBlock=some g∧wr.heap.size≤g) (hc:Chg (fun g=>vv.ownBlock=some g) wr w') :
  PR w2 w' X vi vk vv' is ks (vs ++ [j]):=by
 have hl:=h.lt;have hX:=h.hX;have hsz:=h.chg.size
 have hnew:∀ g,vv'.ownBlock=some g→vv.ownBlock=some g∨wr.heap.size≤g:=fun g e=>by
  rcases hp with h1 | ⟨g',h1,h2⟩
  ·exact .inl (h1 ▸ e)
  ·rw [h1] at e;cases e;exact .inr h2
 have hvX:∀ g,vv.ownBlock=some g→w2.heap.size≤g:=fun g e=>(h.vown g e).1
 have hlt:∀ g,vv'.ownBlock=some g→g < w'.heap.size:=fun g e=>by
  rcases hr.2 with ⟨rfl,_⟩ | ⟨g',cap,cur,rfl,p1,p2,_⟩
  ·cases e
  ·cases e;exact (aS p2).1
 refine ⟨hX,chg_step h.chg hc fun k e=>.inr (hvX k e),(hc.block X hl (fun e=>by have:=hvX X e;omega)).trans h.obj,h.items.chgP hc (fun g e e2=>(h.vown g e2).2.2.1 e) (fun g hg _ _=>hg.2.2) (fun g hg hlt=>⟨hg.1,hg.2.1,fun e=>?_⟩),h.row.chg hc (fun g e e2=>(h.vown g e2).2.2.2 e),h.rown,?_,fun g e=>⟨?_,hlt g e,fun e2=>?_,fun e2=>?_⟩,h.str⟩
 ·rcases hnew g e with h1 | h1
  ·exact hg.2.2 h1
  ·omega
 ·rw [List.length_append,ints,List.map_append];exact hr
 ·rcases hnew g e with h1 | h1
  ·exact hvX g h1
  ·omega
 ·rcases hnew g e with h1 | h1
  ·exact (h.vown g h1).2.2.1 e2
  ·have:=(h.items.block e2).2;omega
 ·rcases hnew g e with h1 | h1
  ·exact (h.vown g h1).2.2.2 e2
  ·have:=h.row.lt e2;omega
theorem PR.set {g c j n:Nat} {r:V5} {t:Vl} {S:Nat→Prop} (h:PR w2 wr X (.slice (some ⟨g,0,none⟩) n c) vk vv is ks vs) (hj:j < is.length) (hr:VV S wr (pent r) t) (hS:∀ b,S b→w2.heap.size≤b∧vk.ownBlock≠some b∧vv.ownBlock≠some b∧b≠g) :
  PR w2 (wr.setCells g (j * 5) [r.1,r.2.1,r.2.2.1,r.2.2.2.1,r.2.2.2.2]) X (.slice (some ⟨g,0,none⟩) n c) vk vv (is.set j t) ks vs:=by
 have hl:=h.lt;have hX:=h.hX;have hg:=(h.items.block (g:=g) rfl).1;obtain ⟨h1,hc⟩:=h.items.x.set hj hr (fun b hb=>⟨by have:=(hS b hb).1;omega,(hS b hb).2.2.2⟩);refine ⟨hX,chg_step h.chg hc fun k e=>.inr (by rw [e];exact hg),(hc.block X hl (by omega)).trans h.obj,h1.mono fun i b hi hb=>?_,h.row.chg hc (fun b e e2=>(h.rown b e).2 (by rw [e2];rfl)),h.rown,owns_keep h.vol hc (fun b e e2=>(h.vown b e).2.2.1 (by rw [e2];rfl)),fun b e=>⟨(h.vown b e).1,Nat.lt_of_lt_of_le (h.vown b e).2.1 hc.size,(h.vown b e).2.2⟩,h.str⟩
 by_cases e:i=j
 ·have hb':S b:=by rw [if_pos e] at hb;exact hb
  exact ⟨(hS b hb').1,(hS b hb').2.1,(hS b hb').2.2.1⟩
 ·rw [if_neg e] at hb;exact hb
theorem PR.view (h:PR w2 wr X vi vk vv is ks vs) (hl:is.length≤140737488355328) (hk:ks.length≤140737488355328):VV (fun g=>w2.heap.size≤g) wr (.agg #[.int .i64 5,.int .i64 0,.string ⟨#[]⟩,vi,vk]) (.mk 5 0 ⟨#[]⟩ is ks) :=
 VV.mk' (by decide) (h.row.sv (fun g e=>(h.rown g e).1) hk h.str) (h.items.x.read (fun i g _ hg=>hg.1) (fun g hg=>hg) hl)
theorem PR.nil {w:World} (hX:X < w.heap.size) (ho:w.heap[X]? = some (.cells #[.int .i64 5,.int .i64 0,.string ⟨#[]⟩,.slice none 0 0,.slice none 0 0] 32)):PR w w X (.slice none 0 0) (.slice none 0 0) (.slice none 0 0) [] [] [] :=
 ⟨hX,Chg.refl _ _,ho,OwnW.nil _ _ _ _,.inl ⟨rfl,rfl⟩,(fun g e=>by cases e),World.ownsRow_nil _ _ _ _,(fun g e=>by cases e),(fun s h=>by cases h)⟩
theorem PR.volAt {g n c t:Nat} (h:PR w2 wr X vi vk vv is ks vs) (e:vv=.slice (some ⟨g,0,none⟩) n c) (ht:t < vs.length):wr.cell? ⟨g,t,none⟩=some (.int .i64 (vs[t]:Int)):=by
 rcases h.vol.2 with ⟨rfl,_⟩ | ⟨g',cap,cur,rfl,p1,p2,p3,p4,p5,p6⟩
 ·cases e
 ·cases e
  refine cells_at p2 p6 ?_;rw [List.getElem?_map,lG ht];rfl
theorem PR.volSl (h:PR w2 wr X vi vk vv is ks vs):(vv=.slice none 0 0∧vs = [])∨∃ g c,vv=.slice (some ⟨g,0,none⟩) vs.length c:=by
 rcases h.vol.2 with ⟨rfl,h0⟩ | ⟨g',cap,cur,rfl,_⟩
 ·exact .inl ⟨rfl,List.eq_nil_of_length_eq_zero h0⟩
 ·exact .inr ⟨_,_,rfl⟩
theorem PR.volLen (h:PR w2 wr X vi vk vv is ks vs):∃ o c,vv=.slice o vs.length c:=by
 rcases h.volSl with ⟨e,rfl⟩ | ⟨g,c,e⟩
 ·exact ⟨_,_,e⟩
 ·exact ⟨_,_,e⟩
theorem PR.iLen (h:PR w2 wr X vi vk vv is ks vs):∃ o c,vi=.slice o is.length c:=by
 rcases h.items.x.slice with ⟨e,rfl⟩ | ⟨g,c,e,-⟩
 ·exact ⟨_,_,e⟩
 ·exact ⟨_,_,e⟩
end
def detC (s:Sc) (p c:Vl) (x:ByteArray):Bool:=!detS s c x && differV (getN c x) (getN p x)
def volJ (s:Sc) (p c:Vl) (ns:List ByteArray) (j:Nat):List Nat:=(List.range j).filter fun i=>volS s p c (ns.getD i ByteArray.empty)
theorem volJ_succ (s:Sc) (p c:Vl) (ns:List ByteArray) {j:Nat} (h:j < ns.length):volJ s p c ns (j + 1)=if volS s p c ns[j]=true then volJ s p c ns j ++ [j] else volJ s p c ns j:=by
 have e:ns.getD j ByteArray.empty=ns[j]:=by simp [List.getD,h]
 rw [volJ,List.range_succ,List.filter_append]
 cases hf:volS s p c ns[j] with
 | true=>simp [List.getD,h,hf,volJ]
 | false=>simp [List.getD,h,hf,volJ]
theorem volJ_lt (s:Sc) (p c:Vl) (ns:List ByteArray) (j t:Nat) (h:t < (volJ s p c ns j).length):(volJ s p c ns j)[t] < j:=by
 have h1:=lM h
 generalize (volJ s p c ns j)[t]=y at *
 rw [volJ,List.mem_filter,List.mem_range] at h1;exact h1.1
theorem volJ_len (s:Sc) (p c:Vl) (ns:List ByteArray) (j:Nat):(volJ s p c ns j).length≤j:=by
 have:=List.length_filter_le (fun i=>volS s p c (ns.getD i ByteArray.empty)) (List.range j);rw [List.length_range] at this;exact this
theorem any_take {α:Type} (f:α→Bool) (l:List α) {j:Nat} (h:j < l.length):(l.take (j + 1)).any f=((l.take j).any f || f l[j]):=by
 rw [List.take_add_one,lG h,List.any_append];simp
theorem map_take1 {α β:Type} (f:α→β) (l:List α) {j:Nat} (h:j < l.length):(l.take (j + 1)).map f=(l.take j).map f ++ [f l[j]]:=by
 rw [List.take_add_one,lG h,List.map_append];rfl
def unkAll (is:List Vl) (l:List Nat):List Vl:=l.foldl (fun a i=>a.set i unkV) is
theorem unkAll_len:∀ (l:List Nat) (is:List Vl),(unkAll is l).length=is.length
 | [],_=>rfl
 | i :: l,is=>by
  show (unkAll (is.set i unkV) l).length=is.length;rw [unkAll_len l,List.length_set]
theorem unkAll_get:∀ (l:List Nat) (is:List Vl) (k:Nat) (hk:k < is.length),(unkAll is l)[k]? = some (if k∈l then unkV else is[k])
 | [],is,k,hk=>by rw [unkAll,List.foldl_nil,lG hk,if_neg (by simp)]
 | i :: l,is,k,hk=>by
  show (unkAll (is.set i unkV) l)[k]? = _;rw [unkAll_get l _ k (by rw [List.length_set];exact hk)]
  by_cases h1:k∈l
  ·rw [if_pos h1,if_pos (List.mem_cons_of_mem _ h1)]
  ·rw [if_neg h1]
   by_cases h2:k=i
   ·subst h2
    rw [if_pos (List.mem_cons_self ..)];simp
   ·rw [if_neg (by simp [h1,h2]),List.getElem_set_ne (by omega)]
theorem unkAll_take (is:List Vl) (l:List Nat) {t:Nat} (h:t < l.length):unkAll is (l.take (t + 1))=(unkAll is (l.take t)).set l[t] unkV:=by
 rw [unkAll,List.take_add_one,lG h,List.foldl_append];rfl
theorem propose_eq (s:Sc) (p c:Vl):proposeS s p c=.mk 5 0 ⟨#[]⟩ (if chgS s p c=true then unkAll ((namesS s).map (itemS s p c)) (volJ s p c (namesS s) (namesS s).length) else (namesS s).map (itemS s p c)) (namesS s):=by
 rw [proposeS]
 congr 1
 cases hc:chgS s p c with
 | false=>simp
 | true =>
  rw [if_pos rfl]
  refine List.ext_getElem (by rw [unkAll_len];simp) fun k h1 h2=>?_
  have hk:k < (namesS s).length:=by simpa using h1
  have hg:=unkAll_get (volJ s p c (namesS s) (namesS s).length) ((namesS s).map (itemS s p c)) k (by simpa using hk);rw [lG h2,Option.some.injEq] at hg;rw [hg,List.getElem_map]
  have hm:k∈volJ s p c (namesS s) (namesS s).length ↔ volS s p c (namesS s)[k]=true:=by
   rw [volJ,List.mem_filter,List.mem_range];simp [List.getD,hk]
  by_cases hv:volS s p c (namesS s)[k]=true
  ·rw [if_pos ⟨hv,rfl⟩,if_pos (hm.2 hv)]
  ·rw [if_neg fun h=>hv h.1,if_neg fun h=>hv (hm.1 h),List.getElem_map]
theorem chgS_eq (s:Sc) (p c:Vl):chgS s p c=(namesS s).any (detC s p c):=rfl
theorem detS_eq (s:Sc) (c:Vl) (x:ByteArray):detS s c x=((fndA s.attrs x).isSome && (decide (modeO (fndA s.attrs x)=3) || (decide (modeO (fndA s.attrs x)=4) && decide (kdV (getN c x)=0)))):=by
 rw [detS]
 cases fndA s.attrs x <;> rfl
theorem volS_eq (s:Sc) (p c:Vl) (x:ByteArray):volS s p c x=(detS s c x && (decide (kdV p≠0) && volO (fndA s.attrs x))):=by
 rw [volS]
 cases fndA s.attrs x <;> rfl
end Go.Proofs.YtibiiafcnaijeaaGreat
namespace Go.Proofs.YtibiiafcnaijeaaGreat
open Go Go.RowKit Go.Proofs.YtibiiafcnaijeaaGreat.Steady
set_option linter.unusedVariables false
set_option linter.unusedSimpArgs false
set_option maxRecDepth 100000
set_option maxHeartbeats 40000000
theorem bel_chg {n X:Nat} {w w2 wr:World} (h:Below n w w2) (hc:Chg (fun k=>k=X) w2 wr) (hn:n≤w.heap.size) (hx:n≤X):Below n w wr :=
 h.trans (zgg hc (fun k e=>by rw [e];exact hx) (Nat.le_trans hn h.size))
abbrev five0:Obj:=.cells #[.int .i64 5,.int .i64 0,.string ⟨#[]⟩,.slice none 0 0,.slice none 0 0] 32
theorem bjoin {w wr W:World} (h:Below w.heap.size w wr) (k:Below wr.heap.size wr W):Below w.heap.size w W:=h.trans (k.mono h.size)
inductive St (wr:World) (v1 v2:Vl):Option V5→Option V5→Option Nat→Option Nat→World→Prop where
 | start:St wr v1 v2 none none none none wr.drew
 | call1 {o2:Option V5} {B1 B2:Option Nat} {W W':World} {r:V5} (h:St wr v1 v2 none o2 B1 B2 W) (hb:Below W.heap.size W W') (hv:VV (fun g=>W.heap.size≤g) W' (pent r) v1):St wr v1 v2 (some r) o2 B1 B2 W'
 | call2 {o1:Option V5} {B1 B2:Option Nat} {W W':World} {r:V5} (h:St wr v1 v2 o1 none B1 B2 W) (hb:Below W.heap.size W W') (hv:VV (fun g=>W.heap.size≤g) W' (pent r) v2):St wr v1 v2 o1 (some r) B1 B2 W'
 | al1 {o1 o2:Option V5} {B2:Option Nat} {W:World} {n:Nat} (h:St wr v1 v2 o1 o2 none B2 W) (hn:n=W.heap.size):St wr v1 v2 o1 o2 (some n) B2 (W.alloc zero5)
 | al2 {o1 o2:Option V5} {B1:Option Nat} {W:World} {n:Nat} (h:St wr v1 v2 o1 o2 B1 none W) (hn:n=W.heap.size):St wr v1 v2 o1 o2 B1 (some n) (W.alloc zero5)
structure SI (wr:World) (v1 v2:Vl) (o1 o2:Option V5) (B1 B2:Option Nat) (W:World):Prop where
 bel:Below wr.heap.size wr W
 p:∀ r,o1=some r→VV (fun g=>wr.heap.size≤g∧B1≠some g∧B2≠some g) W (pent r) v1
 q:∀ r,o2=some r→VV (fun g=>wr.heap.size≤g∧B1≠some g∧B2≠some g) W (pent r) v2
 b1:∀ n,B1=some n→wr.heap.size≤n∧W.heap[n]? = some zero5
 b2:∀ n,B2=some n→wr.heap.size≤n∧W.heap[n]? = some zero5
 ne:∀ n,B1=some n→B2≠some n
theorem St.inv {wr:World} {v1 v2:Vl} {o1 o2:Option V5} {B1 B2:Option Nat} {W:World} (h:St wr v1 v2 o1 o2 B1 B2 W):SI wr v1 v2 o1 o2 B1 B2 W:=by
 induction h with
 | start=>exact ⟨zdd (Below.refl _ _),(fun r e=>by cases e),(fun r e=>by cases e),(fun r e=>by cases e),(fun r e=>by cases e),(fun r e=>by cases e)⟩
 | @call1 o2 B1 B2 W W' r h hb hv ih =>
  refine ⟨ih.bel.trans (hb.mono ih.bel.size),fun r e=>?_,fun r e=>(ih.q r e).bel hb,fun n e=>⟨(ih.b1 n e).1,kO (ih.b1 n e).2 hb⟩,fun n e=>⟨(ih.b2 n e).1,kO (ih.b2 n e).2 hb⟩,ih.ne⟩
  cases e
  exact hv.mono fun g (hg:W.heap.size≤g)=>⟨Nat.le_trans ih.bel.size hg,(fun e=>by have:=(aS (ih.b1 g e).2).1;omega),(fun e=>by have:=(aS (ih.b2 g e).2).1;omega)⟩
 | @call2 o1 B1 B2 W W' r h hb hv ih =>
  refine ⟨ih.bel.trans (hb.mono ih.bel.size),fun r e=>(ih.p r e).bel hb,fun r e=>?_,fun n e=>⟨(ih.b1 n e).1,kO (ih.b1 n e).2 hb⟩,fun n e=>⟨(ih.b2 n e).1,kO (ih.b2 n e).2 hb⟩,ih.ne⟩
  cases e
  exact hv.mono fun g (hg:W.heap.size≤g)=>⟨Nat.le_trans ih.bel.size hg,(fun e=>by have:=(aS (ih.b1 g e).2).1;omega),(fun e=>by have:=(aS (ih.b2 g e).2).1;omega)⟩
 | @al1 o1 o2 B2 W n h hn ih =>
  subst hn;have hb:Below W.heap.size W (W.alloc zero5):=(Below.refl _ _).alloc (nR _) _;refine ⟨ih.bel.trans (hb.mono ih.bel.size),fun r e=>((ih.p r e).ex.bel hb).mono fun g hg=>⟨hg.1.1,(fun e=>by cases e;omega),hg.1.2.2⟩,fun r e=>((ih.q r e).ex.bel hb).mono fun g hg=>⟨hg.1.1,(fun e=>by cases e;omega),hg.1.2.2⟩,fun n e=>?_,fun n e=>⟨(ih.b2 n e).1,kO (ih.b2 n e).2 hb⟩,fun n e e2=>?_⟩
  ·cases e;exact ⟨ih.bel.size,zhh _ _⟩
  ·cases e;have:=(aS (ih.b2 _ e2).2).1;omega
 | @al2 o1 o2 B1 W n h hn ih =>
  subst hn;have hb:Below W.heap.size W (W.alloc zero5):=(Below.refl _ _).alloc (nR _) _;refine ⟨ih.bel.trans (hb.mono ih.bel.size),fun r e=>((ih.p r e).ex.bel hb).mono fun g hg=>⟨hg.1.1,hg.1.2.1,(fun e=>by cases e;omega)⟩,fun r e=>((ih.q r e).ex.bel hb).mono fun g hg=>⟨hg.1.1,hg.1.2.1,(fun e=>by cases e;omega)⟩,fun n e=>⟨(ih.b1 n e).1,kO (ih.b1 n e).2 hb⟩,fun n e=>?_,fun n e e2=>?_⟩
  ·cases e;exact ⟨ih.bel.size,zhh _ _⟩
  ·cases e2;have:=(aS (ih.b1 _ e).2).1;omega
abbrev cells5 (r:V5):Obj:=.cells #[r.1,r.2.1,r.2.2.1,r.2.2.2.1,r.2.2.2.2] 32
abbrev put5 (w:World) (b:Nat) (r:V5):World:=((((w.setCell ⟨b,0,none⟩ r.1).setCell ⟨b,1,none⟩ r.2.1).setCell ⟨b,2,none⟩ r.2.2.1).setCell ⟨b,3,none⟩ r.2.2.2.1).setCell ⟨b,4,none⟩ r.2.2.2.2
structure TW (wr wx:World) (m n:Nat) (r1 r2:V5) (v1 v2:Vl):Prop where
 bel:Below wr.heap.size wr wx
 hm:wr.heap.size≤m
 hn:wr.heap.size≤n
 ne:m≠n
 om:wx.heap[m]? = some (cells5 r1)
 on:wx.heap[n]? = some (cells5 r2)
 p:VV (fun g=>wr.heap.size≤g∧g≠m∧g≠n) wx (pent r1) v1
 q:VV (fun g=>wr.heap.size≤g∧g≠m∧g≠n) wx (pent r2) v2
theorem put5_obj {w:World} {b:Nat} {arr:Array Value} (h:w.heap[b]? = some (.cells arr 32)) (hs:arr.size=5) (r:V5):(put5 w b r).heap[b]? = some (cells5 r):=by
 obtain ⟨a0,a1,a2,a3,a4,rfl⟩:∃ a0 a1 a2 a3 a4,arr=#[a0,a1,a2,a3,a4]:=by
  rcases arr with ⟨l⟩
  match l,hs with
  | [a0,a1,a2,a3,a4],_=>exact ⟨a0,a1,a2,a3,a4,rfl⟩
 exact obj_set (po:=4) (obj_set (po:=3) (obj_set (po:=2) (obj_set (po:=1) (obj_set (po:=0) h _) _) _) _) _
theorem St.tw {wr:World} {v1 v2:Vl} {r1 r2:V5} {m n:Nat} {W:World} (h:St wr v1 v2 (some r1) (some r2) (some m) (some n) W):TW wr (put5 (put5 W m r1) n r2) m n r1 r2 v1 v2:=by
 have i:=h.inv;have hm:=i.b1 m rfl;have hn:=i.b2 n rfl
 have hne:m≠n:=fun e=>i.ne m rfl (by rw [e])
 have lm:=(aS hm.2).1;have ln:=(aS hn.2).1;have c1:=chg_store5 W m r1.1 r1.2.1 r1.2.2.1 r1.2.2.2.1 r1.2.2.2.2;have c2:=chg_store5 (put5 W m r1) n r2.1 r2.2.1 r2.2.2.1 r2.2.2.2.1 r2.2.2.2.2;have s1:W.heap.size≤(put5 W m r1).heap.size:=c1.size
 have k:ZK (fun g=>wr.heap.size≤g∧(some m:Option Nat)≠some g∧(some n:Option Nat)≠some g) W (put5 (put5 W m r1) n r2) :=
  (ZK.chg c1 fun g hg e=>hg.2.1 (by rw [e])).trans (ZK.chg c2 fun g hg e=>hg.2.2 (by rw [e]))
 refine ⟨(i.bel.trans (zgg c1 (fun g e=>by rw [e];exact hm.1) i.bel.size)).trans (zgg c2 (fun g e=>by rw [e];exact hn.1) (Nat.le_trans i.bel.size s1)),hm.1,hn.1,hne,?_,?_,?_,?_⟩
 ·exact (c2.block m (by omega) hne).trans (put5_obj hm.2 rfl r1)
 ·exact put5_obj ((c1.block n ln (fun e=>hne e.symm)).trans hn.2) rfl r2
 ·exact (i.p r1 rfl).keep k fun g hg=>⟨hg.1,(fun e=>hg.2.1 (by rw [e])),(fun e=>hg.2.2 (by rw [e]))⟩
 ·exact (i.q r2 rfl).keep k fun g hg=>⟨hg.1,(fun e=>hg.2.1 (by rw [e])),(fun e=>hg.2.2 (by rw [e]))⟩
structure RJ (wr:World) (v1 v2:Vl) (pP pQ sx:Value) (D:Nat→Bool) (V:Nat→Value) (W:World):Prop where
 r0:D 0=true→V 28=pP
 r1:D 1=true→V 29=sx
 r3:D 3=true→V 31=pQ
 r4:D 4=true→V 32=sx
 all:D 8=true→D 0=true∧D 1=true∧D 2=true∧D 3=true∧D 4=true∧D 5=true∧D 6=true∧D 7=true
 last:D 9=true→D 8=true
 five:D 5=true→D 3=true∧D 4=true
 ex:∃ o1 o2 B1 B2 W0,(D 2=false→o1=none)∧(D 2=true→∃ r,o1=some r∧V 30=pent r)∧(D 5=false→o2=none)∧(D 5=true→∃ r,o2=some r∧V 33=pent r)∧(D 6=false→B1=none)∧(D 6=true→∃ n,B1=some n∧V 12=.pointer (some ⟨n,0,none⟩)) ∧
  (D 7=false→B2=none)∧(D 7=true→∃ n,B2=some n∧V 13=.pointer (some ⟨n,0,none⟩))∧St wr v1 v2 o1 o2 B1 B2 W0∧(D 8=false→W=W0)∧(D 8=true→∃ r m,o1=some r∧B1=some m∧(D 9=false→W=put5 W0 m r)∧(D 9=true→∃ r2 n,o2=some r2∧B2=some n∧W=put5 (put5 W0 m r) n r2))
section
variable {wr:World} {v1 v2:Vl} {pP pQ sx:Value} {D:Nat→Bool} {V:Nat→Value} {W W':World}
theorem RJ.eight (h:RJ wr v1 v2 pP pQ sx D V W) {k:Nat} (hk:k < 8) (hd:D k=false):D 8=false:=by
 cases h8:D 8 with
 | false=>rfl
 | true =>
  exfalso
  obtain ⟨a0,a1,a2,a3,a4,a5,a6,a7⟩:=h.all h8
  match k,hk with
  | 0,_=>rw [a0] at hd;cases hd
  | 1,_=>rw [a1] at hd;cases hd
  | 2,_=>rw [a2] at hd;cases hd
  | 3,_=>rw [a3] at hd;cases hd
  | 4,_=>rw [a4] at hd;cases hd
  | 5,_=>rw [a5] at hd;cases hd
  | 6,_=>rw [a6] at hd;cases hd
  | 7,_=>rw [a7] at hd;cases hd
theorem RJ.nine (h:RJ wr v1 v2 pP pQ sx D V W) (h8:D 8=false):D 9=false:=by
 cases h9:D 9 with
 | false=>rfl
 | true=>rw [h.last h9] at h8;cases h8
theorem RJ.inv (h:RJ wr v1 v2 pP pQ sx D V W) (h8:D 8=false):Below wr.heap.size wr W:=by
 obtain ⟨o1,o2,B1,B2,W0,-,-,-,-,-,-,-,-,hst,hw,-⟩:=h.ex;rw [hw h8];exact hst.inv.bel
theorem RJ.s0 (h:RJ wr v1 v2 pP pQ sx D V W) (hd:D 0=false):RJ wr v1 v2 pP pQ sx (fun k=>k == 0 || D k) (upd V 28 pP) W:=by
 have h8:=h.eight (by decide) hd;have h9:=h.nine h8;obtain ⟨o1,o2,B1,B2,W0,e1,e2,e3,e4,e5,e6,e7,e8,hst,hw,hw2⟩:=h.ex;exact ⟨fun _=>upd_self _ _ _,h.r1,h.r3,h.r4,(fun (h:D 8=true)=>by rw [h8] at h;cases h),(fun (h:D 9=true)=>by rw [h9] at h;cases h),h.five,o1,o2,B1,B2,W0,e1,e2,e3,e4,e5,e6,e7,e8,hst,hw,hw2⟩
theorem RJ.s1 (h:RJ wr v1 v2 pP pQ sx D V W) (hd:D 1=false):RJ wr v1 v2 pP pQ sx (fun k=>k == 1 || D k) (upd V 29 sx) W:=by
 have h8:=h.eight (by decide) hd;have h9:=h.nine h8;obtain ⟨o1,o2,B1,B2,W0,e1,e2,e3,e4,e5,e6,e7,e8,hst,hw,hw2⟩:=h.ex;exact ⟨h.r0,fun _=>upd_self _ _ _,h.r3,h.r4,(fun (h:D 8=true)=>by rw [h8] at h;cases h),(fun (h:D 9=true)=>by rw [h9] at h;cases h),h.five,o1,o2,B1,B2,W0,e1,e2,e3,e4,e5,e6,e7,e8,hst,hw,hw2⟩
theorem RJ.s3 (h:RJ wr v1 v2 pP pQ sx D V W) (hd:D 3=false):RJ wr v1 v2 pP pQ sx (fun k=>k == 3 || D k) (upd V 31 pQ) W:=by
 have h8:=h.eight (by decide) hd;have h9:=h.nine h8;obtain ⟨o1,o2,B1,B2,W0,e1,e2,e3,e4,e5,e6,e7,e8,hst,hw,hw2⟩:=h.ex;exact ⟨h.r0,h.r1,fun _=>upd_self _ _ _,h.r4,(fun (h:D 8=true)=>by rw [h8] at h;cases h),(fun (h:D 9=true)=>by rw [h9] at h;cases h),(fun h5=>⟨rfl,(h.five h5).2⟩),o1,o2,B1,B2,W0,e1,e2,e3,e4,e5,e6,e7,e8,hst,hw,hw2⟩
theorem RJ.s4 (h:RJ wr v1 v2 pP pQ sx D V W) (hd:D 4=false):RJ wr v1 v2 pP pQ sx (fun k=>k == 4 || D k) (upd V 32 sx) W:=by
 have h8:=h.eight (by decide) hd;have h9:=h.nine h8;obtain ⟨o1,o2,B1,B2,W0,e1,e2,e3,e4,e5,e6,e7,e8,hst,hw,hw2⟩:=h.ex;exact ⟨h.r0,h.r1,h.r3,fun _=>upd_self _ _ _,(fun (h:D 8=true)=>by rw [h8] at h;cases h),(fun (h:D 9=true)=>by rw [h9] at h;cases h),(fun h5=>⟨(h.five h5).1,rfl⟩),o1,o2,B1,B2,W0,e1,e2,e3,e4,e5,e6,e7,e8,hst,hw,hw2⟩
theorem RJ.s2 {r:V5} (h:RJ wr v1 v2 pP pQ sx D V W) (hd:D 2=false) (hb:Below W.heap.size W W') (hv:VV (fun g=>W.heap.size≤g) W' (pent r) v1):RJ wr v1 v2 pP pQ sx (fun k=>k == 2 || D k) (upd V 30 (pent r)) W':=by
 have h8:=h.eight (by decide) hd;have h9:=h.nine h8;obtain ⟨o1,o2,B1,B2,W0,e1,e2,e3,e4,e5,e6,e7,e8,hst,hw,hw2⟩:=h.ex;obtain rfl:=hw h8;obtain rfl:=e1 hd;exact ⟨h.r0,h.r1,h.r3,h.r4,(fun (h:D 8=true)=>by rw [h8] at h;cases h),(fun (h:D 9=true)=>by rw [h9] at h;cases h),h.five,some r,o2,B1,B2,W',(fun (h:(2 == 2 || D 2)=false)=>by simp at h),(fun _=>⟨r,rfl,upd_self _ _ _⟩),e3,e4,e5,e6,e7,e8,hst.call1 hb hv,(fun _=>rfl),(fun (h:D 8=true)=>by rw [h8] at h;cases h)⟩
theorem RJ.s5 {r:V5} (h:RJ wr v1 v2 pP pQ sx D V W) (h3:D 3=true) (h4:D 4=true) (hd:D 5=false) (hb:Below W.heap.size W W') (hv:VV (fun g=>W.heap.size≤g) W' (pent r) v2):RJ wr v1 v2 pP pQ sx (fun k=>k == 5 || D k) (upd V 33 (pent r)) W':=by
 have h8:=h.eight (by decide) hd;have h9:=h.nine h8;obtain ⟨o1,o2,B1,B2,W0,e1,e2,e3,e4,e5,e6,e7,e8,hst,hw,hw2⟩:=h.ex;obtain rfl:=hw h8;obtain rfl:=e3 hd;exact ⟨h.r0,h.r1,h.r3,h.r4,(fun (h:D 8=true)=>by rw [h8] at h;cases h),(fun (h:D 9=true)=>by rw [h9] at h;cases h),(fun _=>⟨h3,h4⟩),o1,some r,B1,B2,W',e1,e2,(fun (h:(5 == 5 || D 5)=false)=>by simp at h),(fun _=>⟨r,rfl,upd_self _ _ _⟩),e5,e6,e7,e8,hst.call2 hb hv,(fun _=>rfl),(fun (h:D 8=true)=>by rw [h8] at h;cases h)⟩
theorem RJ.s6 (h:RJ wr v1 v2 pP pQ sx D V W) (hd:D 6=false):RJ wr v1 v2 pP pQ sx (fun k=>k == 6 || D k) (upd V 12 (.pointer (some ⟨W.heap.size,0,none⟩))) (W.alloc zero5):=by
 have h8:=h.eight (by decide) hd;have h9:=h.nine h8;obtain ⟨o1,o2,B1,B2,W0,e1,e2,e3,e4,e5,e6,e7,e8,hst,hw,hw2⟩:=h.ex;obtain rfl:=hw h8;obtain rfl:=e5 hd;exact ⟨h.r0,h.r1,h.r3,h.r4,(fun (h:D 8=true)=>by rw [h8] at h;cases h),(fun (h:D 9=true)=>by rw [h9] at h;cases h),h.five,o1,o2,some W.heap.size,B2,W.alloc zero5,e1,e2,e3,e4,(fun (h:(6 == 6 || D 6)=false)=>by simp at h),(fun _=>⟨_,rfl,upd_self _ _ _⟩),e7,e8,hst.al1 rfl,(fun _=>rfl),(fun (h:D 8=true)=>by rw [h8] at h;cases h)⟩
theorem RJ.s7 (h:RJ wr v1 v2 pP pQ sx D V W) (hd:D 7=false):RJ wr v1 v2 pP pQ sx (fun k=>k == 7 || D k) (upd V 13 (.pointer (some ⟨W.heap.size,0,none⟩))) (W.alloc zero5):=by
 have h8:=h.eight (by decide) hd;have h9:=h.nine h8;obtain ⟨o1,o2,B1,B2,W0,e1,e2,e3,e4,e5,e6,e7,e8,hst,hw,hw2⟩:=h.ex;obtain rfl:=hw h8;obtain rfl:=e7 hd;exact ⟨h.r0,h.r1,h.r3,h.r4,(fun (h:D 8=true)=>by rw [h8] at h;cases h),(fun (h:D 9=true)=>by rw [h9] at h;cases h),h.five,o1,o2,B1,some W.heap.size,W.alloc zero5,e1,e2,e3,e4,e5,e6,(fun (h:(7 == 7 || D 7)=false)=>by simp at h),(fun _=>⟨_,rfl,upd_self _ _ _⟩),hst.al2 rfl,(fun _=>rfl),(fun (h:D 8=true)=>by rw [h8] at h;cases h)⟩
theorem VV.kd {P:Nat→Prop} {w:World} {k:Int} {b c d e:Value} {t:Vl} (h:VV P w (.agg #[.int .i64 k,b,c,d,e]) t):kdV t=k:=by
 obtain ⟨k',n,s,is,ks⟩:=t;obtain ⟨vi,vk,e,-⟩:=h.out;simp only [Value.agg.injEq,Array.mk.injEq,List.cons.injEq,Value.int.injEq,and_true] at e;exact e.1.2.symm
theorem VV.r5 {P:Nat→Prop} {w:World} {r:V5} {t:Vl} (h:VV P w (pent r) t):∃ k n s oi mi ci ok mk ck,r=(.int .i64 k,.int .i64 n,.string s,.slice oi mi ci,.slice ok mk ck):=by
 obtain ⟨k,n,s,oi,mi,ci,ok,mk,ck,e⟩:=h.agg5;obtain ⟨a,b,c,d,f⟩:=r;simp only [pent,Value.agg.injEq,Array.mk.injEq,List.cons.injEq,and_true] at e;obtain ⟨rfl,rfl,rfl,rfl,rfl⟩:=e;exact ⟨k,n,s,oi,mi,ci,ok,mk,ck,rfl⟩
theorem RJ.got8 (h:RJ wr v1 v2 pP pQ sx D V W) (h2:D 2=true) (h6:D 6=true) (hd:D 8=false):∃ r m,(∃ k n s oi mi ci ok mk ck,r=(.int .i64 k,.int .i64 n,.string s,.slice oi mi ci,.slice ok mk ck))∧V 30=pent r∧V 12=.pointer (some ⟨m,0,none⟩)∧W.heap[m]? = some zero5 ∧
  (D 0=true→D 1=true→D 5=true→D 7=true→RJ wr v1 v2 pP pQ sx (fun k=>k == 8 || D k) V (put5 W m r)):=by
 have h9:=h.nine hd;obtain ⟨o1,o2,B1,B2,W0,e1,e2,e3,e4,e5,e6,e7,e8,hst,hw,hw2⟩:=h.ex;obtain rfl:=hw hd;obtain ⟨r,rfl,er⟩:=e2 h2;obtain ⟨m,rfl,em⟩:=e6 h6;refine ⟨r,m,(hst.inv.p r rfl).r5,er,em,(hst.inv.b1 m rfl).2,fun h0 h1 h5 h7=>?_⟩;obtain ⟨h3,h4⟩:=h.five h5;exact ⟨h.r0,h.r1,h.r3,h.r4,(fun _=>⟨h0,h1,h2,h3,h4,h5,h6,h7⟩),(fun _=>rfl),h.five,some r,o2,some m,B2,W,e1,(fun _=>⟨r,rfl,er⟩),e3,e4,e5,(fun _=>⟨m,rfl,em⟩),e7,e8,hst,(fun (h:(8 == 8 || D 8)=false)=>by simp at h),fun _=>⟨r,m,rfl,rfl,fun _=>rfl,(fun (h:D 9=true)=>by rw [h9] at h;cases h)⟩⟩
theorem RJ.got9 (h:RJ wr v1 v2 pP pQ sx D V W) (h8:D 8=true) (hd:D 9=false):∃ r n,(∃ k n s oi mi ci ok mk ck,r=(.int .i64 k,.int .i64 n,.string s,.slice oi mi ci,.slice ok mk ck))∧V 33=pent r∧V 13=.pointer (some ⟨n,0,none⟩)∧(∃ arr:Array Value,W.heap[n]? = some (.cells arr 32)∧arr=#[.int .i64 0,.int .i64 0,.string ⟨#[]⟩,.slice none 0 0,.slice none 0 0]) ∧
  RJ wr v1 v2 pP pQ sx (fun k=>k == 9 || D k) V (put5 W n r):=by
 obtain ⟨h0,h1,h2,h3,h4,h5,h6,h7⟩:=h.all h8;obtain ⟨o1,o2,B1,B2,W0,e1,e2,e3,e4,e5,e6,e7,e8,hst,hw,hw2⟩:=h.ex;obtain ⟨r1,m,rfl,rfl,hw3,hw4⟩:=hw2 h8;obtain ⟨r,rfl,er⟩:=e4 h5;obtain ⟨n,rfl,en⟩:=e8 h7;obtain rfl:=hw3 hd;have hi:=hst.inv;have hn:=hi.b2 n rfl;have c1:=chg_store5 W0 m r1.1 r1.2.1 r1.2.2.1 r1.2.2.2.1 r1.2.2.2.2;refine ⟨r,n,(hst.inv.q r rfl).r5,er,en,⟨_,(c1.block n (aS hn.2).1 (fun e=>hi.ne m rfl (by rw [e]))).trans hn.2,rfl⟩,?_⟩;exact ⟨h.r0,h.r1,h.r3,h.r4,h.all,(fun _=>h8),h.five,some r1,some r,some m,some n,W0,e1,e2,e3,(fun _=>⟨r,rfl,er⟩),e5,e6,e7,(fun _=>⟨n,rfl,en⟩),hst,(fun (h:D 8=false)=>by rw [h8] at h;cases h),fun _=>⟨r1,m,rfl,rfl,(fun (h:(9 == 9 || D 9)=false)=>by simp at h),fun _=>⟨r,n,rfl,rfl,rfl⟩⟩⟩
theorem RJ.fin (h:RJ wr v1 v2 pP pQ sx D V W) (h9:D 9=true):∃ m n r1 r2,V 12=.pointer (some ⟨m,0,none⟩)∧V 13=.pointer (some ⟨n,0,none⟩)∧TW wr W m n r1 r2 v1 v2:=by
 have h8:=h.last h9;obtain ⟨h0,h1,h2,h3,h4,h5,h6,h7⟩:=h.all h8;obtain ⟨o1,o2,B1,B2,W0,e1,e2,e3,e4,e5,e6,e7,e8,hst,hw,hw2⟩:=h.ex;obtain ⟨r1,m,rfl,rfl,hw3,hw4⟩:=hw2 h8;obtain ⟨r2,n,rfl,rfl,rfl⟩:=hw4 h9;obtain ⟨m',e,em⟩:=e6 h6
 cases e
 obtain ⟨n',e,en⟩:=e8 h7
 cases e
 exact ⟨m,n,r1,r2,em,en,hst.tw⟩
theorem RJ.start (wr:World) (v1 v2:Vl) (pP pQ sx:Value) (V:Nat→Value):RJ wr v1 v2 pP pQ sx (fun _=>false) V wr.drew :=
 ⟨(fun h=>by cases h),(fun h=>by cases h),(fun h=>by cases h),(fun h=>by cases h),(fun h=>by cases h),(fun h=>by cases h),(fun h=>by cases h),none,none,none,none,wr.drew,(fun _=>rfl),(fun h=>by cases h),(fun _=>rfl),(fun h=>by cases h),(fun _=>rfl),(fun h=>by cases h),(fun _=>rfl),(fun h=>by cases h),St.start,(fun _=>rfl),(fun h=>by cases h)⟩
end
end Go.Proofs.YtibiiafcnaijeaaGreat
namespace Go.Proofs.YtibiiafcnaijeaaGreat
open Go Go.RowKit
set_option linter.unusedVariables false
set_option linter.unusedSimpArgs false
set_option maxRecDepth 100000
set_option maxHeartbeats 40000000
def Free (vi vk vv:Value) (g:Nat):Prop:=vi.ownBlock≠some g∧vk.ownBlock≠some g∧vv.ownBlock≠some g
structure TS (wr wx:World) (n:Nat) (r:V5) (it:Vl):Prop where
 bel:Below wr.heap.size wr wx
 hn:wr.heap.size≤n
 on:wx.heap[n]? = some (cells5 r)
 it:VV (fun g=>wr.heap.size≤g∧g≠n) wx (pent r) it
structure TL (w2 wx:World) (X n:Nat) (r:V5) (it:Vl) (vi vk vv:Value) (is:List Vl) (ks:List ByteArray) (vs:List Nat):Prop where
 pr:PR w2 wx X vi vk vv is ks vs
 hn:w2.heap.size≤n
 on:wx.heap[n]? = some (cells5 r)
 own:Free vi vk vv n
 it:VV (fun g=>w2.heap.size≤g∧g≠n∧Free vi vk vv g) wx (pent r) it
section
variable {w2 wr wx w':World} {X m n j:Nat} {r r1 r2:V5} {it v1 v2:Vl} {vi vk vv vi' vk' vv':Value} {is:List Vl} {ks ks':List ByteArray} {vs:List Nat}
theorem TW.later (h:TW wr wx m n r1 r2 v1 v2) (hb:Below wx.heap.size wx w'):TW wr w' m n r1 r2 v1 v2 :=
 ⟨h.bel.trans (hb.mono h.bel.size),h.hm,h.hn,h.ne,kO h.om hb,kO h.on hb,h.p.bel hb,h.q.bel hb⟩
theorem TS.later (h:TS wr wx n r it) (hb:Below wx.heap.size wx w'):TS wr w' n r it :=
 ⟨h.bel.trans (hb.mono h.bel.size),h.hn,kO h.on hb,h.it.bel hb⟩
theorem TW.cnfg (h:TW wr wx m n r1 r2 v1 v2):TS wr wx n r2 v2:=⟨h.bel,h.hn,h.on,h.q.mono fun g hg=>⟨hg.1,hg.2.2⟩⟩
theorem TW.put (h:TW wr wx m n r1 r2 v1 v2) {S:Nat→Prop} {t:Vl} (ht:VV S wx (pent r) t) (hs:∀ g,S g→wr.heap.size≤g∧g≠n):TS wr (put5 wx n r) n r t:=by
 have c:=chg_store5 wx n r.1 r.2.1 r.2.2.1 r.2.2.2.1 r.2.2.2.2;exact ⟨h.bel.trans (zgg c (fun g e=>by rw [e];exact h.hn) h.bel.size),h.hn,put5_obj h.on rfl r,(ht.keep (ZK.chg c fun g hg=>(hs g hg).2) hs)⟩
theorem TW.prior (h:TW wr wx m n r1 r2 v1 v2):TS wr (put5 wx n r1) n r1 v1:=h.put h.p fun g hg=>⟨hg.1,hg.2.2⟩
theorem TW.fresh (h:TW wr wx m n r1 r2 v1 v2) {t:Vl} (hb:Below wx.heap.size wx w') (ht:VV (fun g=>wx.heap.size≤g) w' (pent r) t):TS wr (put5 w' n r) n r t :=
 (h.later hb).put ht fun g hg=>⟨Nat.le_trans h.bel.size hg,fun e=>by have:=(aS h.on).1;rw [e] at hg;omega⟩
theorem TL.of (T:PR w2 wr X vi vk vv is ks vs) (t:TS wr wx n r it):TL w2 wx X n r it vi vk vv is ks vs:=by
 have hs:=T.chg.size;have hn:=t.hn
 have fr:∀ g,wr.heap.size≤g→Free vi vk vv g:=fun g hg=>⟨fun e=>by have:=(T.items.block e).2;omega,fun e=>by have:=T.row.lt e;omega,fun e=>by have:=(T.vown g e).2.1;omega⟩
 exact ⟨T.later t.bel,by omega,t.on,fr n hn,t.it.mono fun g hg=>⟨by have:=hg.1;omega,hg.2,fr g hg.1⟩⟩
theorem TL.later (h:TL w2 wx X n r it vi vk vv is ks vs) (hb:Below wx.heap.size wx w'):TL w2 w' X n r it vi vk vv is ks vs :=
 ⟨h.pr.later hb,h.hn,kO h.on hb,h.own,h.it.bel hb⟩
theorem TL.pushV (h:TL w2 wx X n r it vi vk vv is ks vs) (hr:w'.ownsRow 0 3 1 vv' (vs.length + 1) (ints vs ++ [.int .i64 (j:Int)])) (hp:vv'.ownBlock=vv.ownBlock∨∃ g,vv'.ownBlock=some g∧wx.heap.size≤g) (hc:Chg (fun g=>vv.ownBlock=some g) wx w') :
  TL w2 w' X n r it vi vk vv' is ks (vs ++ [j]):=by
 have lt:=(aS h.on).1
 have hnew:∀ g,g < wx.heap.size→Free vi vk vv g→Free vi vk vv' g:=fun g hg hf=>⟨hf.1,hf.2.1,fun e=>by
  rcases hp with h1 | ⟨g',h1,h2⟩
  ·exact hf.2.2 (h1 ▸ e)
  ·rw [h1] at e;cases e;omega⟩
 exact ⟨h.pr.pushV hr hp hc,h.hn,(hc.block n lt (fun e=>h.own.2.2 e)).trans h.on,hnew n lt h.own,h.it.ex.keep (ZK.chg hc fun g hg=>hg.1.2.2.2.2) fun g hg=>⟨hg.1.1,hg.1.2.1,hnew g hg.2 hg.1.2.2⟩⟩
theorem TL.pushK (h:TL w2 wx X n r it vi vk vv is ks vs) (hr:Row w' vk' ks') (hs:∀ s∈ks',s.size≤140737488355328) (hp:vk'.ownBlock=vk.ownBlock∨∃ g,vk'.ownBlock=some g∧wx.heap.size≤g) (hc:Chg (fun g=>vk.ownBlock=some g) wx w') :
  TL w2 (w'.setCell ⟨X,4,none⟩ vk') X n r it vi vk' vv is ks' vs:=by
 have lt:=(aS h.on).1;have hX:=h.pr.hX;have hn:=h.hn;have c2:=Chg.setCell (B:=fun g=>g=X) w' X 4 vk' rfl
 have hnew:∀ g,g < wx.heap.size→Free vi vk vv g→Free vi vk' vv g:=fun g hg hf=>⟨hf.1,(fun e=>by
  rcases hp with h1 | ⟨g',h1,h2⟩
  ·exact hf.2.1 (h1 ▸ e)
  ·rw [h1] at e;cases e;omega),hf.2.2⟩
 refine ⟨h.pr.pushK hr hs hp hc,hn,(c2.block n (Nat.lt_of_lt_of_le lt hc.size) (by omega)).trans ((hc.block n lt (fun e=>h.own.2.1 e)).trans h.on),hnew n lt h.own,?_⟩
 exact (h.it.ex.keep (Q:=fun g=>w2.heap.size≤g∧g≠n∧Free vi vk' vv g) (ZK.chg hc fun g hg=>hg.1.2.2.2.1) fun g hg=>⟨hg.1.1,hg.1.2.1,hnew g hg.2 hg.1.2.2⟩).keep (ZK.chg c2 fun g hg e=>by have:=hg.1;omega) fun g hg=>hg
theorem TL.pushI (h:TL w2 wx X n r it vi vk vv is ks vs) {rs:List V5} (hm:Made w2.heap.size wx 32 5 vi is.length (flat5 rs)) (hl:rs.length=is.length)
  (he:∀ (i:Nat) r t,rs[i]? = some r→is[i]? = some t→VV (fun g=>(w2.heap.size≤g∧vk.ownBlock≠some g∧vv.ownBlock≠some g)∧g < wx.heap.size∧g≠X∧vi.ownBlock≠some g) wx (pent r) t)
  (hown:w'.ownsRow 0 32 5 vi' (is.length + 1) (flat5 rs ++ [r.1,r.2.1,r.2.2.1,r.2.2.2.1,r.2.2.2.2])) (hp:vi'.ownBlock=vi.ownBlock∨∃ g,vi'.ownBlock=some g∧wx.heap.size≤g) (hc:Chg (fun g=>vi.ownBlock=some g) wx w') :
  PR w2 (w'.setCell ⟨X,3,none⟩ vi') X vi' vk vv (is ++ [it]) ks vs :=
 h.pr.pushI (OwnW.push h.pr.chg.size ⟨rs,hm,hl,he,hown⟩ h.it (fun g hg=>⟨⟨hg.1,hg.2.2.2.1,hg.2.2.2.2⟩,(fun e=>by have:=h.pr.hX;have:=hg.1;omega),hg.2.2.1⟩) hc hp) hp hc
end
end Go.Proofs.YtibiiafcnaijeaaGreat
