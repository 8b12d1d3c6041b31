/- A part. -/
import Derived.Test.YtibiiafcnaijeaaGreatB00
import Derived.Test.YtibiiafcnaijeaaGreatB26
import Derived.Test.YtibiiafcnaijeaaGreatB18
namespace Go.Proofs.YtibiiafcnaijeaaGreat
open Go Go.RowKit Go.Proofs.YtibiiafcnaijeaaGreat.Steady
set_option linter.unusedVariables false
set_option linter.unusedSimpArgs false
set_option maxRecDepth 100000
set_option maxHeartbeats 40000000
theorem null_any (w:World):Calls Tryz.prog 31 #[] w fun e w'=>e=.returned (.agg #[.int .i64 0,.int .i64 0,.string ⟨#[]⟩,.slice none 0 0,.slice none 0 0])∧Below w.heap.size w w':=by
 generalize hA:w.alloc zero5=wa
 have hao:wa.heap[w.heap.size]? = some zero5:=by rw[←hA];exact zhh w _
 have hab:Below w.heap.size w wa:=by rw[←hA];exact(Below.refl _ _).alloc (nR _) _
 have HA0:=hid hA;have HZ:=hid hao;have HB:=hid hab;clear hA hao hab
 go_enter Tryz.func31,Tryz.ntmps31
 go_upto_region 1 with (fail)
 rw[HA0.out]
 go_wp2_with (refine zo rfl 32 _ _ rfl w.heap.size 0 [_,_,_,_,_] rfl rfl _ _ HZ.out (by simp) (by kernel_rfl) rfl ?_;intro ws hzs hcs)
 try simp only[Exit.inBlock,Exit.then]
 refine bodyPost_ret (results_cell_row rfl _ ws w.heap.size 32 _ (0,0) _ rfl hzs Tryz.underlying32 rfl (by kernel_rfl)) rfl ?_;exact⟨rfl,HB.out.trans (zgg hcs (fun k hk=>by omega) HB.out.size)⟩
theorem runknown_any (w:World):Calls Tryz.prog 32 #[] w fun e w'=>e=.returned (.agg #[.int .i64 6,.int .i64 0,.string ⟨#[]⟩,.slice none 0 0,.slice none 0 0])∧Below w.heap.size w w':=by
 generalize hA:w.alloc zero5=wa
 have hao:wa.heap[w.heap.size]? = some zero5:=by rw[←hA];exact zhh w _
 have hab:Below w.heap.size w wa:=by rw[←hA];exact(Below.refl _ _).alloc (nR _) _
 have HA0:=hid hA;have HZ:=hid hao;have HB:=hid hab;clear hA hao hab
 go_enter Tryz.func32,Tryz.ntmps32
 go_upto_region 1 with (fail)
 rw[HA0.out]
 go_wp2_with (refine zo rfl 32 _ _ rfl w.heap.size 0 [_,_,_,_,_] rfl rfl _ _ HZ.out (by simp) (by kernel_rfl) rfl ?_;intro ws hzs hcs)
 try simp only[Exit.inBlock,Exit.then]
 refine bodyPost_ret (results_cell_row rfl _ ws w.heap.size 32 _ (0,0) _ rfl hzs Tryz.underlying32 rfl (by kernel_rfl)) rfl ?_;exact⟨rfl,HB.out.trans (zgg hcs (fun k hk=>by omega) HB.out.size)⟩
theorem number_any (n:Int) (w:World):Calls Tryz.prog 29 #[.int .i64 n] w fun e w'=>e=.returned (.agg #[.int .i64 2,.int .i64 n,.string ⟨#[]⟩,.slice none 0 0,.slice none 0 0])∧Below w.heap.size w w':=by
 generalize hA:w.alloc zero5=wa
 have hao:wa.heap[w.heap.size]? = some zero5:=by rw[←hA];exact zhh w _
 have hab:Below w.heap.size w wa:=by rw[←hA];exact(Below.refl _ _).alloc (nR _) _
 have HA0:=hid hA;have HZ:=hid hao;have HB:=hid hab;clear hA hao hab
 go_enter Tryz.func29,Tryz.ntmps29
 go_upto_region 1 with (fail)
 rw[HA0.out]
 go_wp2_with (refine zo rfl 32 _ _ rfl w.heap.size 0 [_,_,_,_,_] rfl rfl _ _ HZ.out (by simp) (by kernel_rfl) rfl ?_;intro ws hzs hcs)
 try simp only[Exit.inBlock,Exit.then]
 refine bodyPost_ret (results_cell_row rfl _ ws w.heap.size 32 _ (0,0) _ rfl hzs Tryz.underlying32 rfl (by kernel_rfl)) rfl ?_;exact⟨rfl,HB.out.trans (zgg hcs (fun k hk=>by omega) HB.out.size)⟩
theorem string_any (s:ByteArray) (w:World):Calls Tryz.prog 28 #[.string s] w fun e w'=>e=.returned (.agg #[.int .i64 3,.int .i64 0,.string s,.slice none 0 0,.slice none 0 0])∧Below w.heap.size w w':=by
 generalize hA:w.alloc zero5=wa
 have hao:wa.heap[w.heap.size]? = some zero5:=by rw[←hA];exact zhh w _
 have hab:Below w.heap.size w wa:=by rw[←hA];exact(Below.refl _ _).alloc (nR _) _
 have HA0:=hid hA;have HZ:=hid hao;have HB:=hid hab;clear hA hao hab
 go_enter Tryz.func28,Tryz.ntmps28
 go_upto_region 1 with (fail)
 rw[HA0.out]
 go_wp2_with (refine zo rfl 32 _ _ rfl w.heap.size 0 [_,_,_,_,_] rfl rfl _ _ HZ.out (by simp) (by kernel_rfl) rfl ?_;intro ws hzs hcs)
 try simp only[Exit.inBlock,Exit.then]
 refine bodyPost_ret (results_cell_row rfl _ ws w.heap.size 32 _ (0,0) _ rfl hzs Tryz.underlying32 rfl (by kernel_rfl)) rfl ?_;exact⟨rfl,HB.out.trans (zgg hcs (fun k hk=>by omega) HB.out.size)⟩
theorem sv_block {P:Nat→Prop}{w:World}{g T c:Nat}{l:List ByteArray}(hp:P g) (h:w.heap[g]? = some (.cells (strs l).toArray T)) (hl:l.length≤140737488355328) (hs:∀ s∈l,s.size≤140737488355328):SV P w (.slice (some ⟨g,0,none⟩) l.length c) l :=
 ⟨⟨by simpa using hl,.inr ⟨g,0,c,hp,by simp,fun i u hu=>by rw[Nat.zero_add,cII h];simpa using hu⟩⟩,hs⟩
theorem wv_block {P:Nat→Prop}{w:World}{g T c:Nat}{rs:List V5}{is:List Vl}(hp:P g) (h:w.heap[g]? = some (.cells (flat5 rs).toArray T)) (hl:rs.length=is.length) (hn:is.length≤140737488355328) (he:∀ (i:Nat) r e,rs[i]? = some r→is[i]? = some e→VV P w (pent r) e):WV P w (.slice (some ⟨g,0,none⟩) is.length c) is:=by
 refine⟨rs,⟨by omega,.inr ⟨g,0,c,hp,by rw[hl],fun i r hr=>?_⟩⟩,hl,he⟩;obtain⟨h0,h1,h2,h3,h4⟩:=flat5_get rs i r hr
 have hc:∀ o u,(flat5 rs)[o]? = some u→w.cell? ⟨g,o,none⟩=some u:=fun o u hu=>by rw[cII h];simpa using hu
 rw[Nat.zero_add];exact⟨hc _ _ h0,hc _ _ h1,hc _ _ h2,hc _ _ h3,hc _ _ h4⟩
theorem keep_chg {B:Nat→Prop}{w w':World}{b:Nat}{o:Obj}(h:w.heap[b]? = some o) (hc:Chg B w w') (hn:¬ B b):w'.heap[b]? = some o:=(hc.block b (aS h).1 hn).trans h
theorem simple_vv (P:Nat→Prop) (w:World) (k n:Int) (s:ByteArray) (hs:s.size≤140737488355328):VV P w (.agg #[.int .i64 k,.int .i64 n,.string s,.slice none 0 0,.slice none 0 0]) (.mk k n s [] []):=VV.mk' hs (SV.zero P w) (WV.nil P w)
theorem four_any (k1 n1:Int) (s1:ByteArray) (k2 n2:Int) (s2:ByteArray) (k3 n3:Int) (s3:ByteArray) (k4 n4:Int) (s4:ByteArray) (h1:s1.size≤140737488355328) (h2:s2.size≤140737488355328) (h3:s3.size≤140737488355328) (h4:s4.size≤140737488355328) (w:World) :
  Calls Tryz.prog 27 #[.agg #[.int .i64 k1,.int .i64 n1,.string s1,.slice none 0 0,.slice none 0 0],.agg #[.int .i64 k2,.int .i64 n2,.string s2,.slice none 0 0,.slice none 0 0],.agg #[.int .i64 k3,.int .i64 n3,.string s3,.slice none 0 0,.slice none 0 0],.agg #[.int .i64 k4,.int .i64 n4,.string s4,.slice none 0 0,.slice none 0 0]] w (FreshV (fourV (.mk k1 n1 s1 [] []) (.mk k2 n2 s2 [] []) (.mk k3 n3 s3 [] []) (.mk k4 n4 s4 [] [])) w):=by
 generalize hA0:w.alloc (.cells #[.int .i64 k1,.int .i64 n1,.string s1,.slice none 0 0,.slice none 0 0] 32)=wa
 have ho0:wa.heap[w.heap.size]? = some (.cells #[.int .i64 k1,.int .i64 n1,.string s1,.slice none 0 0,.slice none 0 0] 32):=by rw[←hA0];exact zhh w _
 have hs0:wa.heap.size=w.heap.size+1:=by rw[←hA0];show(w.heap.push _).size=_;rw[Array.size_push]
 have hb0:Below w.heap.size w wa:=by rw[←hA0];exact(Below.refl _ _).alloc (nR _) _
 generalize hA1:wa.alloc (.cells #[.int .i64 k2,.int .i64 n2,.string s2,.slice none 0 0,.slice none 0 0] 32)=wb
 have ho1:wb.heap[w.heap.size+1]? = some (.cells #[.int .i64 k2,.int .i64 n2,.string s2,.slice none 0 0,.slice none 0 0] 32):=by rw[←hA1,←hs0];exact zhh wa _
 have hs1:wb.heap.size=w.heap.size+1+1:=by rw[←hA1];show(wa.heap.push _).size=_;rw[Array.size_push,hs0]
 have hb1:Below wa.heap.size wa wb:=by rw[←hA1];exact(Below.refl _ _).alloc (nR _) _
 generalize hA2:wb.alloc (.cells #[.int .i64 k3,.int .i64 n3,.string s3,.slice none 0 0,.slice none 0 0] 32)=wc
 have ho2:wc.heap[w.heap.size+1+1]? = some (.cells #[.int .i64 k3,.int .i64 n3,.string s3,.slice none 0 0,.slice none 0 0] 32):=by rw[←hA2,←hs1];exact zhh wb _
 have hs2:wc.heap.size=w.heap.size+1+1+1:=by rw[←hA2];show(wb.heap.push _).size=_;rw[Array.size_push,hs1]
 have hb2:Below wb.heap.size wb wc:=by rw[←hA2];exact(Below.refl _ _).alloc (nR _) _
 generalize hA3:wc.alloc (.cells #[.int .i64 k4,.int .i64 n4,.string s4,.slice none 0 0,.slice none 0 0] 32)=wd
 have ho3:wd.heap[w.heap.size+1+1+1]? = some (.cells #[.int .i64 k4,.int .i64 n4,.string s4,.slice none 0 0,.slice none 0 0] 32):=by rw[←hA3,←hs2];exact zhh wc _
 have hs3:wd.heap.size=w.heap.size+1+1+1+1:=by rw[←hA3];show(wc.heap.push _).size=_;rw[Array.size_push,hs2]
 have hb3:Below wc.heap.size wc wd:=by rw[←hA3];exact(Below.refl _ _).alloc (nR _) _
 generalize hA4:wd.alloc zero5=we
 have ho4:we.heap[w.heap.size+1+1+1+1]? = some zero5:=by rw[←hA4,←hs3];exact zhh wd _
 have hs4:we.heap.size=w.heap.size+1+1+1+1+1:=by rw[←hA4];show(wd.heap.push _).size=_;rw[Array.size_push,hs3]
 have hb4:Below wd.heap.size wd we:=by rw[←hA4];exact(Below.refl _ _).alloc (nR _) _
 have HB:=hid (hb0.trans ((hb1.trans ((hb2.trans ((hb3.trans (hb4.mono hb3.size)).mono hb2.size)).mono hb1.size)).mono hb0.size));have HS:=hid hs4;have HX0:=hid (kO (kO (kO (kO ho0 hb1) hb2) hb3) hb4);have HX1:=hid (kO (kO (kO ho1 hb2) hb3) hb4);have HX2:=hid (kO (kO ho2 hb3) hb4);have HX3:=hid (kO ho3 hb4);have HZ:=hid ho4;have HA0:=hid hA0;have HA1:=hid hA1;have HA2:=hid hA2;have HA3:=hid hA3;have HA4:=hid hA4;have HSZ:=hid (And.intro h1 (And.intro h2 (And.intro h3 h4)));clear h1 h2 h3 h4 hA0 ho0 hs0 hb0 hA1 ho1 hs1 hb1 hA2 ho2 hs2 hb2 hA3 ho3 hs3 hb3 hA4 ho4 hs4 hb4
 go_enter Tryz.func27,Tryz.ntmps27
 go_upto_region 1 with (fail)
 rw[HA0.out,HA1.out,HA2.out,HA3.out,HA4.out];generalize hK:we.alloc (.cells #[.string sEtag,.string sId,.string sN,.string sSize] 9)=wf
 have hko:wf.heap[we.heap.size]? = some (.cells #[.string sEtag,.string sId,.string sN,.string sSize] 9):=by rw[←hK];exact zhh we _
 have hks:wf.heap.size=we.heap.size+1:=by rw[←hK];simp
 have hkb:Below we.heap.size we wf:=by rw[←hK];exact(Below.refl _ _).alloc (nR _) _
 have HK0:=hid hK;have HKO:=hid hko;have HKB:=hid hkb;clear hK;obtain⟨x00,x01,x02,x03,x04⟩:=C5.of (kO HX0.out hkb);obtain⟨x10,x11,x12,x13,x14⟩:=C5.of (kO HX1.out hkb);obtain⟨x20,x21,x22,x23,x24⟩:=C5.of (kO HX2.out hkb);obtain⟨x30,x31,x32,x33,x34⟩:=C5.of (kO HX3.out hkb);clear hko hks hkb;have HZf:=kH HZ HKB.out
 go_wp2_with (first|(rw[HK0.out])|(refine zo rfl 32 _ _ rfl (w.heap.size+1+1+1+1) 0 [_,_,_,_,_] rfl rfl _ _ (kO HZf.out ((Below.refl _ _).alloc (nR _) _)) (by simp) (by kernel_rfl) rfl ?_;intro ws hzs hcs))
 have hba:Below wf.heap.size wf (wf.alloc (.cells (flat5 [(.int .i64 k1,.int .i64 n1,.string s1,.slice none 0 0,.slice none 0 0),(.int .i64 k2,.int .i64 n2,.string s2,.slice none 0 0,.slice none 0 0),(.int .i64 k3,.int .i64 n3,.string s3,.slice none 0 0,.slice none 0 0),(.int .i64 k4,.int .i64 n4,.string s4,.slice none 0 0,.slice none 0 0)]).toArray 32)):=(Below.refl _ _).alloc (nR _) _;have hbo:(wf.alloc (.cells (flat5 [(.int .i64 k1,.int .i64 n1,.string s1,.slice none 0 0,.slice none 0 0),(.int .i64 k2,.int .i64 n2,.string s2,.slice none 0 0,.slice none 0 0),(.int .i64 k3,.int .i64 n3,.string s3,.slice none 0 0,.slice none 0 0),(.int .i64 k4,.int .i64 n4,.string s4,.slice none 0 0,.slice none 0 0)]).toArray 32)).heap[wf.heap.size]? = some (.cells (flat5 [(.int .i64 k1,.int .i64 n1,.string s1,.slice none 0 0,.slice none 0 0),(.int .i64 k2,.int .i64 n2,.string s2,.slice none 0 0,.slice none 0 0),(.int .i64 k3,.int .i64 n3,.string s3,.slice none 0 0,.slice none 0 0),(.int .i64 k4,.int .i64 n4,.string s4,.slice none 0 0,.slice none 0 0)]).toArray 32):=zhh wf _
 have hcs':Chg (fun k=>k=w.heap.size+1+1+1+1) (wf.alloc (.cells (flat5 [(.int .i64 k1,.int .i64 n1,.string s1,.slice none 0 0,.slice none 0 0),(.int .i64 k2,.int .i64 n2,.string s2,.slice none 0 0,.slice none 0 0),(.int .i64 k3,.int .i64 n3,.string s3,.slice none 0 0,.slice none 0 0),(.int .i64 k4,.int .i64 n4,.string s4,.slice none 0 0,.slice none 0 0)]).toArray 32)) ws:=hcs;have hs1:=HKB.out.size;have hs2:=HS.out;have hsf:we.heap.size<wf.heap.size:=(aS HKO.out).1;have hk5:=keep_chg (kO HKO.out hba) hcs' (by omega);have hi5:=keep_chg hbo hcs' (by omega)
 try simp only[Exit.inBlock,Exit.then]
 refine bodyPost_ret (results_cell_row rfl _ ws (w.heap.size+1+1+1+1) 32 _ (0,0) _ rfl hzs Tryz.underlying32 rfl (by kernel_rfl)) rfl ?_;have hB1:=HB.out.trans (HKB.out.mono HB.out.size);have hB2:=hB1.trans (hba.mono hB1.size);refine⟨_,rfl,VV.mk' (by decide) (sv_block (l:=[sEtag,sId,sN,sSize]) (show w.heap.size≤we.heap.size by omega) hk5 (by decide) (by decide)) (wv_block (is:=[.mk k1 n1 s1 [] [],.mk k2 n2 s2 [] [],.mk k3 n3 s3 [] [],.mk k4 n4 s4 [] []]) (show w.heap.size≤wf.heap.size by omega) hi5 rfl (by simp) fun i r e hr he=>?_),hB2.trans (zgg hcs' (fun k hk=>by omega) hB2.size)⟩
 rcases i with _|_|_|_|i
 ·cases hr;cases he;exact simple_vv _ _ _ _ _ HSZ.out.1
 ·cases hr;cases he;exact simple_vv _ _ _ _ _ HSZ.out.2.1
 ·cases hr;cases he;exact simple_vv _ _ _ _ _ HSZ.out.2.2.1
 ·cases hr;cases he;exact simple_vv _ _ _ _ _ HSZ.out.2.2.2
 ·simp at hr
theorem nil_tv (P:Nat→Prop) (w:World) (k:Int):TV P w (.agg #[.int .i64 k,.slice none 0 0,.slice none 0 0]) (.mk k [] []):=TV.mk' (SV.zero P w) ⟨[],⟨by simp,.inl ⟨rfl,_,_,rfl⟩⟩,rfl,fun i r e h=>by simp at h⟩
abbrev kindCells:List Value:=[.string sEtag,.int .i64 3,.slice none 0 0,.slice none 0 0,.int .i64 3,.bool false,.bool false,.bool true,.string sId,.int .i64 3,.slice none 0 0,.slice none 0 0,.int .i64 3,.bool false,.bool false,.bool false,.string sN,.int .i64 2,.slice none 0 0,.slice none 0 0,.int .i64 2,.bool false,.bool false,.bool false,.string sSize,.int .i64 2,.slice none 0 0,.slice none 0 0,.int .i64 2,.bool true,.bool false,.bool false]
theorem kind_av {P:Nat→Prop}{w:World}{g T:Nat}(hp:P g) (h:w.heap[g]? = some (.cells kindCells.toArray T)):AV P w (.slice (some ⟨g,0,none⟩) 4 4) kindS.attrs:=by
 have hc:∀ o u,kindCells[o]? = some u→w.cell? ⟨g,o,none⟩=some u:=fun o u hu=>by rw[cII h];simpa using hu
 refine⟨by decide,.inr ⟨g,0,4,hp,rfl,fun i a ha=>?_⟩⟩
 rcases i with _|_|_|_|i
 ·cases ha;exact⟨3,_,_,_,_,_,_,hc 0 _ rfl,hc 1 _ rfl,hc 2 _ rfl,hc 3 _ rfl,hc 4 _ rfl,hc 5 _ rfl,hc 6 _ rfl,hc 7 _ rfl,nil_tv _ _ _,by decide⟩
 ·cases ha;exact⟨3,_,_,_,_,_,_,hc 8 _ rfl,hc 9 _ rfl,hc 10 _ rfl,hc 11 _ rfl,hc 12 _ rfl,hc 13 _ rfl,hc 14 _ rfl,hc 15 _ rfl,nil_tv _ _ _,by decide⟩
 ·cases ha;exact⟨2,_,_,_,_,_,_,hc 16 _ rfl,hc 17 _ rfl,hc 18 _ rfl,hc 19 _ rfl,hc 20 _ rfl,hc 21 _ rfl,hc 22 _ rfl,hc 23 _ rfl,nil_tv _ _ _,by decide⟩
 ·cases ha;exact⟨2,_,_,_,_,_,_,hc 24 _ rfl,hc 25 _ rfl,hc 26 _ rfl,hc 27 _ rfl,hc 28 _ rfl,hc 29 _ rfl,hc 30 _ rfl,hc 31 _ rfl,nil_tv _ _ _,by decide⟩
 ·simp at ha
theorem kindF_any (w:World):Calls Tryz.prog 30 #[] w fun e w'=>∃ g,e=.returned (.agg #[.string sNet,.slice (some ⟨g,0,none⟩) 4 4,.slice none 0 0,.int .i64 0])∧SCV (fun b=>b=g) w' (.slice (some ⟨g,0,none⟩) 4 4) (.slice none 0 0) kindS∧(w.heap.size≤g∧g<w'.heap.size)∧Below w.heap.size w w':=by
 generalize hA:w.alloc (.cells #[.string ⟨#[]⟩,.slice none 0 0,.slice none 0 0,.int .i64 0] 27)=wa
 have hao:wa.heap[w.heap.size]? = some (.cells #[.string ⟨#[]⟩,.slice none 0 0,.slice none 0 0,.int .i64 0] 27):=by rw[←hA];exact zhh w _
 have has:wa.heap.size=w.heap.size+1:=by rw[←hA];simp
 have hab:Below w.heap.size w wa:=by rw[←hA];exact(Below.refl _ _).alloc (nR _) _
 generalize hB:wa.alloc (.cells #[.int .i64 3,.slice none 0 0,.slice none 0 0] 61)=wb
 have hbo:wb.heap[wa.heap.size]? = some (.cells #[.int .i64 3,.slice none 0 0,.slice none 0 0] 61):=by rw[←hB];exact zhh wa _
 have hbb:Below wa.heap.size wa wb:=by rw[←hB];exact(Below.refl _ _).alloc (nR _) _
 have hbs:wb.heap.size=wa.heap.size+1:=by rw[←hB];simp
 generalize hC:wb.alloc (.cells #[.int .i64 2,.slice none 0 0,.slice none 0 0] 61)=wc
 have hco:wc.heap[wa.heap.size+1]? = some (.cells #[.int .i64 2,.slice none 0 0,.slice none 0 0] 61):=by rw[←hC,←hbs];exact zhh wb _
 have hcb:Below wb.heap.size wb wc:=by rw[←hC];exact(Below.refl _ _).alloc (nR _) _
 have hcs:wc.heap.size=wb.heap.size+1:=by rw[←hC];simp
 have HA0:=hid hA;have HB0:=hid hB;have HC0:=hid hC;have HB:=hid (hab.trans ((hbb.trans (hcb.mono hbb.size)).mono hab.size));have HS:=hid (And.intro has (And.intro hbs hcs));have HZ:=hid (kO (kO hao hbb) hcb);have HX1:=hid (kO hbo hcb);have HX2:=hid hco;clear hA hB hC hao hbo hco has hbs hcs hab hbb hcb;have x0:=(cII HX1.out 0).trans rfl;have x1:=(cII HX1.out 1).trans rfl;have x2:=(cII HX1.out 2).trans rfl;have y0:=(cII HX2.out 0).trans rfl;have y1:=(cII HX2.out 1).trans rfl;have y2:=(cII HX2.out 2).trans rfl
 go_enter Tryz.func30,Tryz.ntmps30
 go_upto_region 1 with (fail)
 rw[HA0.out]
 go_upto_region 2 with (fail)
 rw[HB0.out,HC0.out]
 go_wp2_with (refine zo rfl 27 _ _ rfl w.heap.size 0 [_,_,_,_] rfl rfl _ _ (kO HZ.out ((Below.refl _ _).alloc (nR _) _)) (by simp) (by kernel_rfl) rfl ?_;intro ws hzs hcs)
 have hba:Below wc.heap.size wc (wc.alloc (.cells kindCells.toArray 64)):=(Below.refl _ _).alloc (nR _) _;have hbo:(wc.alloc (.cells kindCells.toArray 64)).heap[wc.heap.size]? = some (.cells kindCells.toArray 64):=zhh wc _;have hcs':Chg (fun k=>k=w.heap.size) (wc.alloc (.cells kindCells.toArray 64)) ws:=hcs;have hs:=HS.out;have hi5:=keep_chg hbo hcs' (by omega)
 try simp only[Exit.inBlock,Exit.then]
 refine bodyPost_ret (results_cell_row rfl _ ws w.heap.size 27 _ (0,0) _ rfl hzs Tryz.underlying27 rfl (by kernel_rfl)) rfl ?_;have hB2:=HB.out.trans (hba.mono HB.out.size);exact⟨_,rfl,⟨kind_av rfl hi5,⟨by decide,.inl ⟨rfl,_,_,rfl⟩⟩⟩,⟨by omega,(aS hi5).1⟩,hB2.trans (zgg hcs' (fun k hk=>by omega) hB2.size)⟩
end Go.Proofs.YtibiiafcnaijeaaGreat
