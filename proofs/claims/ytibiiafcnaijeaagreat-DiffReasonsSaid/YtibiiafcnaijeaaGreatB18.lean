/- Texts that stand alike under several statements, run together. -/
import Derived.Test.YtibiiafcnaijeaaGreatB00
import Derived.Test.YtibiiafcnaijeaaGreatB17
import Derived.Test.YtibiiafcnaijeaaGreatB13
import Derived.Test.YtibiiafcnaijeaaGreatB15
import Derived.Test.YtibiiafcnaijeaaGreatB08
import Derived.Deep.MidRow
import Derived.Test.YtibiiafcnaijeaaGreatB04
namespace Go.Proofs.YtibiiafcnaijeaaGreat
open Go Go.RowKit Go.Proofs.YtibiiafcnaijeaaGreat.Steady
set_option linter.unusedVariables false
set_option linter.unusedSimpArgs false
set_option maxRecDepth 100000
set_option maxHeartbeats 40000000
theorem szL_set:∀ (l:List Vl) (i:Nat) (y:Vl),szL (l.set i y)≤szL l + szV y
 | [],_,_=>by simp [szL]
 | a :: l,0,y=>by rw [sZ,szL,szL];omega
 | a :: l,i + 1,y=>by rw [sS,szL,szL];have:=szL_set l i y;omega
theorem kyL_set:∀ (l:List Vl) (i:Nat) (y:Vl),kyL (l.set i y)≤kyL l + kyV y
 | [],_,_=>by simp [kyL]
 | a :: l,0,y=>by rw [sZ,kyL,kyL];omega
 | a :: l,i + 1,y=>by rw [sS,kyL,kyL];have:=kyL_set l i y;omega
theorem szL_ins:∀ (l:List Vl) (i:Nat) (y:Vl),szL (l.insertIdx i y)≤szL l + szV y
 | l,0,y=>by rw [List.insertIdx_zero,szL];omega
 | [],i + 1,y=>by simp [szL]
 | a :: l,i + 1,y=>by rw [List.insertIdx_succ_cons,szL,szL];have:=szL_ins l i y;omega
theorem kyL_ins:∀ (l:List Vl) (i:Nat) (y:Vl),kyL (l.insertIdx i y)≤kyL l + kyV y
 | l,0,y=>by rw [List.insertIdx_zero,kyL];omega
 | [],i + 1,y=>by simp [kyL]
 | a :: l,i + 1,y=>by rw [List.insertIdx_succ_cons,kyL,kyL];have:=kyL_ins l i y;omega
theorem putV_size (v:Vl) (x:ByteArray) (y:Vl):szV (putV v x y)≤szV v + szV y∧kyV (putV v x y)≤kyV v + kyV y + 1:=by
 obtain ⟨k,n,s,is,ks⟩:=v;rw [putV_eq]
 split
 ·omega
 ·split
  ·rw [szV,szV,kyV,kyV]
   have:=szL_set is (posN ks x) y;have:=kyL_set is (posN ks x) y
   omega
  ·rw [szV,szV,kyV,kyV]
   have:=szL_ins is (posN ks x) y;have:=kyL_ins is (posN ks x) y
   have:(ks.insertIdx (posN ks x) x).length≤ks.length + 1:=by rw [List.length_insertIdx];split <;> omega
   omega
theorem getV_size {v:Vl} {x:ByteArray} {y:Vl} (h:getV v x=some y):szV y≤szV v∧kyV y≤kyV v:=by
 obtain ⟨k,n,s,is,ks⟩:=v;rw [getV_eq] at h
 split at h
 ·have hm:=List.mem_of_getElem? h
  rw [szV,kyV];have:=szV_mem hm;have:=kyV_mem hm
  omega
 ·cases h
structure IG (w wr:World) (X:Nat) (po:Obj) (k n:Int) (s:ByteArray) (vi vk:Value) (out:Vl):Prop where
 bel:Below w.heap.size w wr
 z:wr.heap[w.heap.size + 2]? = some zero5
 p:wr.heap[w.heap.size]? = some po
 hX:w.heap.size + 3≤X
 obj:wr.heap[X]? = some (.cells #[.int .i64 k,.int .i64 n,.string s,vi,vk] 32)
 vv:VV (fun g=>w.heap.size + 3≤g∧g≠X) wr (.agg #[.int .i64 k,.int .i64 n,.string s,vi,vk]) out
section
variable {w wr w':World} {X:Nat} {po:Obj} {k n k' n':Int} {s s':ByteArray} {vi vk vi' vk':Value} {out out':Vl}
theorem IG.lt (h:IG w wr X po k n s vi vk out):X < wr.heap.size:=(aS h.obj).1
theorem IG.later (h:IG w wr X po k n s vi vk out) (hb:Below wr.heap.size wr w'):IG w w' X po k n s vi vk out :=
 ⟨h.bel.trans (hb.mono h.bel.size),kO h.z hb,kO h.p hb,h.hX,kO h.obj hb,h.vv.bel hb⟩
theorem IG.set (h:IG w wr X po k n s vi vk out) (hu:VV (fun g=>w.heap.size + 3≤g∧g≠X) wr (.agg #[.int .i64 k',.int .i64 n',.string s',vi',vk']) out') :
  IG w (((((wr.setCell ⟨X,0,none⟩ (.int .i64 k')).setCell ⟨X,1,none⟩ (.int .i64 n')).setCell ⟨X,2,none⟩ (.string s')).setCell ⟨X,3,none⟩ vi').setCell ⟨X,4,none⟩ vk') X po k' n' s' vi' vk' out':=by
 have hl:=h.lt;have hX:=h.hX;have hc:=chg_store5 wr X (.int .i64 k') (.int .i64 n') (.string s') vi' vk'
 exact ⟨store5_below h.bel (by omega) (nR _) _ _ _ _ _,(hc.block _ (by omega) (by omega)).trans h.z,(hc.block _ (by omega) (by omega)).trans h.p,hX,
  obj_set (po:=4) (obj_set (po:=3) (obj_set (po:=2) (obj_set (po:=1) (obj_set (po:=0) h.obj _) _) _) _) _,store5_vv hu (fun h=>h.2 rfl) (fun g hg=>hg) _ _ _ _ _⟩
end
theorem ignore_any (prior cnfg:Vl) (l:List ByteArray) (P Q S:Nat→Prop) (w:World) (up uc ul:Value) (hp:VV P w up prior) (hc:VV Q w uc cnfg) (hl:SV S w ul l)
  (h1:szV prior≤1000) (h2:kyV prior≤1000) (h3:szV cnfg≤1000) (h4:kyV cnfg≤1000) (h5:l.length≤40) :
  Calls Tryz.prog 66 #[up,uc,ul] w (FreshV (ignoreV prior cnfg l) w):=by
 obtain ⟨k1,n1,s1,oi1,mi1,ci1,ok1,mk1,ck1,rfl⟩:=hp.agg5;obtain ⟨k2,n2,s2,oi2,mi2,ci2,ok2,mk2,ck2,rfl⟩:=hc.agg5;obtain ⟨ol,cl,rfl⟩:=hl.len;have HPR:=hid hp;have HCO:=hid hc;have HLL:=hid hl;generalize hA:w.alloc (.cells #[.int .i64 k1,.int .i64 n1,.string s1,.slice oi1 mi1 ci1,.slice ok1 mk1 ck1] 32)=wa
 have hao:wa.heap[w.heap.size]? = some (.cells #[.int .i64 k1,.int .i64 n1,.string s1,.slice oi1 mi1 ci1,.slice ok1 mk1 ck1] 32):=by rw [← hA];exact zhh w _
 have has:wa.heap.size=w.heap.size + 1:=by rw [← hA];simp
 have hab:Below w.heap.size w wa:=by rw [← hA];exact (Below.refl _ _).alloc (nR _) _
 generalize hB:wa.alloc (.cells #[.int .i64 k2,.int .i64 n2,.string s2,.slice oi2 mi2 ci2,.slice ok2 mk2 ck2] 32)=wb
 have hbo:wb.heap[w.heap.size + 1]? = some (.cells #[.int .i64 k2,.int .i64 n2,.string s2,.slice oi2 mi2 ci2,.slice ok2 mk2 ck2] 32):=by rw [← hB,← has];exact zhh wa _
 have hbs:wb.heap.size=w.heap.size + 2:=by rw [← hB];simp [has]
 have hbb:Below wa.heap.size wa wb:=by rw [← hB];exact (Below.refl _ _).alloc (nR _) _
 generalize hC:wb.alloc zero5=wc
 have hco:wc.heap[w.heap.size + 2]? = some zero5:=by rw [← hC,← hbs];exact zhh wb _
 have hcs:wc.heap.size=w.heap.size + 3:=by rw [← hC];simp [hbs]
 have hcb:Below wb.heap.size wb wc:=by rw [← hC];exact (Below.refl _ _).alloc (nR _) _
 have HA0:=hid hA;have HB0:=hid hB;have HC0:=hid hC;have HB:=hid (hab.trans ((hbb.trans (hcb.mono hbb.size)).mono hab.size));have HS:=hid hcs;have HZ:=hid hco;have HXB:=hid (kO hbo hcb);have HA:=hid (kO (kO hao hbb) hcb);clear hp hc hl hA hB hC hao hbo hco has hbs hcs hab hbb hcb;have a0:=(cII HXB.out 0).trans rfl;have a1:=(cII HXB.out 1).trans rfl;have a2:=(cII HXB.out 2).trans rfl;have a3:=(cII HXB.out 3).trans rfl;have a4:=(cII HXB.out 4).trans rfl;have HCP:=hid (copy_any cnfg Q wc _ (HCO.out.bel HB.out) (by omega) (by omega))
 go_enter Tryz.func66,Tryz.ntmps66
 go_upto_region 1 with (fail)
 rw [HA0.out,HB0.out,HC0.out]
 go_wp2_with fail
 clear a0 a1 a2 a3 a4;refine HCP.out.mono ?_;rintro e w4 ⟨u,rfl,hu,hb4⟩;obtain ⟨k3,n3,s3,oi3,mi3,ci3,ok3,mk3,ck3,rfl⟩:=hu.agg5
 go_upto_region 2 with (fail)
 have hba:Below w4.heap.size w4 (w4.alloc (.cells #[.int .i64 k3,.int .i64 n3,.string s3,.slice oi3 mi3 ci3,.slice ok3 mk3 ck3] 32)):=(Below.refl _ _).alloc (nR _) _;have hoa:=zhh w4 (.cells #[.int .i64 k3,.int .i64 n3,.string s3,.slice oi3 mi3 ci3,.slice ok3 mk3 ck3] 32)
 generalize w4.alloc (.cells #[.int .i64 k3,.int .i64 n3,.string s3,.slice oi3 mi3 ci3,.slice ok3 mk3 ck3] 32)=w5 at *
 have HI0:Hid (IG w w5 w4.heap.size (.cells #[.int .i64 k1,.int .i64 n1,.string s1,.slice oi1 mi1 ci1,.slice ok1 mk1 ck1] 32) k3 n3 s3 (.slice oi3 mi3 ci3) (.slice ok3 mk3 ck3) cnfg):=hid (by
  have h3:=HS.out;have h4:=hb4.size
  exact ⟨HB.out.trans ((hb4.trans (hba.mono hb4.size)).mono HB.out.size),kO (kO HZ.out hb4) hba,kO (kO HA.out hb4) hba,by omega,hoa,(hu.ex.mono fun g hg=>⟨by omega,by omega⟩).bel hba⟩)
 clear hu hb4 hba hoa HZ HXB HA HCP HCO
 go_wp2_with fail
 go_loopw [18] (fun i wr=>∃ (j:Nat) (out:Vl) (k n:Int) (s:ByteArray) (oi:Option Addr) (mi ci:Nat) (ok:Option Addr) (mk ck:Nat),j≤l.length∧i=.int .i64 j∧Hid (IG w wr w4.heap.size (.cells #[.int .i64 k1,.int .i64 n1,.string s1,.slice oi1 mi1 ci1,.slice ok1 mk1 ck1] 32) k n s (.slice oi mi ci) (.slice ok mk ck) out) ∧
  Hid (ignoreV prior cnfg l=(l.drop j).foldl (ignStep prior) out)∧Hid (szV out≤1000 + j * 1000∧kyV out≤1000 + j * 1001)) (fun i _=>l.length - (intOf i).toNat)
 case atStart=>exact ⟨0,cnfg,_,_,_,_,_,_,_,_,_,Nat.zero_le _,rfl,HI0,rfl,hid ⟨by omega,by omega⟩⟩
 case round =>
  clear HI0;obtain ⟨j,out,k,n,s,oi,mi,ci,ok,mk,ck,hj,rfl,HI,HE,HSZ⟩:=hrel
  by_cases hlt:j < l.length
  ·obtain ⟨g,o,c,e1,a1⟩:=(HLL.out.bel HI.out.bel).at hlt
   cases e1
   have hj0:(0:Int)≤(j:Int):=by omega
   have hj1:(j:Int) < (l.length:Int):=by omega
   have hj40:j≤40:=by omega
   obtain ⟨x,hx⟩:∃ x,l[j]=x:=⟨_,rfl⟩;have hxs:=HLL.out.2 l[j] (lM hlt);rw [hx] at a1 hxs;have HN:=hid hx;clear hx;have HG1:=hid (get_any prior x P wr _ (HPR.out.bel HI.out.bel) (by omega) (by omega));obtain ⟨o1,ho1⟩:∃ o1,getV prior x=o1:=⟨_,rfl⟩;rw [ho1] at HG1;have HO1:=hid ho1;clear ho1;have p0:=(cII HI.out.p 0).trans rfl;have p1:=(cII HI.out.p 1).trans rfl;have p2:=(cII HI.out.p 2).trans rfl;have p3:=(cII HI.out.p 3).trans rfl;have p4:=(cII HI.out.p 4).trans rfl
   go_wp2_with fail
   clear p0 p1 p2 p3 p4 a1;refine HG1.out.mono ?_;rintro e w5' ⟨u,rfl,hu,hb5⟩;obtain ⟨k5,n5,s5,oi5,mi5,ci5,ok5,mk5,ck5,rfl⟩:=hu.agg5;have IG5:=hid (HI.out.later hb5);have HU5:=hid hu;have HW5:=hid (show wr.heap.size≤w5'.heap.size from hb5.size);clear hu hb5 HG1
   go_upto_region 6 with (fail)
   have hba:Below w5'.heap.size w5' (w5'.alloc (.cells #[.int .i64 k5,.int .i64 n5,.string s5,.slice oi5 mi5 ci5,.slice ok5 mk5 ck5] 32)):=(Below.refl _ _).alloc (nR _) _;have hoa:=zhh w5' (.cells #[.int .i64 k5,.int .i64 n5,.string s5,.slice oi5 mi5 ci5,.slice ok5 mk5 ck5] 32)
   generalize w5'.alloc (.cells #[.int .i64 k5,.int .i64 n5,.string s5,.slice oi5 mi5 ci5,.slice ok5 mk5 ck5] 32)=w6 at *
   replace IG5:=hid (IG5.out.later hba);replace HU5:=hid (HU5.out.bel hba);have HO6:=hid hoa;clear hba hoa;have HG2:=hid (get_any out x _ w6 _ IG5.out.vv (by have:=HSZ.out.1;omega) (by have:=HSZ.out.2;omega));obtain ⟨o2,ho2⟩:∃ o2,getV out x=o2:=⟨_,rfl⟩;rw [ho2] at HG2;have HO2:=hid ho2;clear ho2;have q0:=(cII IG5.out.obj 0).trans rfl;have q1:=(cII IG5.out.obj 1).trans rfl;have q2:=(cII IG5.out.obj 2).trans rfl;have q3:=(cII IG5.out.obj 3).trans rfl;have q4:=(cII IG5.out.obj 4).trans rfl;have qf:=zff IG5.out.obj
   go_wp2_with fail
   clear q0 q1 q2 q3 q4 qf;refine HG2.out.mono ?_;rintro e w7 ⟨u,rfl,hu,hb7⟩;obtain ⟨k7,n7,s7,oi7,mi7,ci7,ok7,mk7,ck7,rfl⟩:=hu.agg5;have IG6:=hid (IG5.out.later hb7);replace HU5:=hid (HU5.out.bel hb7);replace HO6:=hid (kO HO6.out hb7);clear hu hb7 HG2 IG5
   go_upto_region 7 with (fail)
   have hba:Below w7.heap.size w7 (w7.alloc (.cells #[.int .i64 k7,.int .i64 n7,.string s7,.slice oi7 mi7 ci7,.slice ok7 mk7 ck7] 32)):=(Below.refl _ _).alloc (nR _) _;have hoa:=zhh w7 (.cells #[.int .i64 k7,.int .i64 n7,.string s7,.slice oi7 mi7 ci7,.slice ok7 mk7 ck7] 32)
   generalize w7.alloc (.cells #[.int .i64 k7,.int .i64 n7,.string s7,.slice oi7 mi7 ci7,.slice ok7 mk7 ck7] 32)=w8 at *
   replace IG6:=hid (IG6.out.later hba);replace HU5:=hid (HU5.out.bel hba);replace HO6:=hid (kO HO6.out hba);clear hba hoa
   cases o1 with
   | none =>
    have HE2:Hid (ignoreV prior cnfg l=(l.drop (j + 1)).foldl (ignStep prior) out):=hid (by have h:=HE.out;rw [List.drop_eq_getElem_cons hlt,List.foldl_cons,HN.out] at h;rw [show ignStep prior out x=out by rw [ignStep,HO1.out]] at h;exact h)
    go_wp2_with fail
    go_roundw
    case rel=>exact ⟨j + 1,out,_,_,_,_,_,_,_,_,_,by omega,by go_num,IG6,HE2,hid ⟨by have:=HSZ.out.1;rw [Nat.succ_mul];omega,by have:=HSZ.out.2;rw [Nat.succ_mul];omega⟩⟩
    case measure=>simp [intOf];omega
   | some v1 =>
    cases o2 with
    | none =>
     have HE2:Hid (ignoreV prior cnfg l=(l.drop (j + 1)).foldl (ignStep prior) out):=hid (by have h:=HE.out;rw [List.drop_eq_getElem_cons hlt,List.foldl_cons,HN.out] at h;rw [show ignStep prior out x=out by rw [ignStep,HO1.out];simp only [HO2.out];rfl] at h;exact h)
     go_wp2_with fail
     go_roundw
     case rel=>exact ⟨j + 1,out,_,_,_,_,_,_,_,_,_,by omega,by go_num,IG6,HE2,hid ⟨by have:=HSZ.out.1;rw [Nat.succ_mul];omega,by have:=HSZ.out.2;rw [Nat.succ_mul];omega⟩⟩
     case measure=>simp [intOf];omega
    | some v2 =>
     have HSV1:=hid (getV_size HO1.out);have HPS:=hid (putV_size out x v1);have HPU:=hid (vput_any out x v1 _ _ w8 _ _ IG6.out.vv HU5.out (by have:=HSZ.out.1;omega) (by have:=HSZ.out.2;omega) (by have:=HSV1.out.1;omega) (by have:=HSV1.out.2;omega) hxs);have HE2:Hid (ignoreV prior cnfg l=(l.drop (j + 1)).foldl (ignStep prior) (putV out x v1)):=hid (by have h:=HE.out;rw [List.drop_eq_getElem_cons hlt,List.foldl_cons,HN.out] at h;rw [show ignStep prior out x=putV out x v1 by rw [ignStep,HO1.out];simp only [HO2.out];rfl] at h;exact h);have q0:=(cII IG6.out.obj 0).trans rfl;have q1:=(cII IG6.out.obj 1).trans rfl;have q2:=(cII IG6.out.obj 2).trans rfl;have q3:=(cII IG6.out.obj 3).trans rfl;have q4:=(cII IG6.out.obj 4).trans rfl;have qf:=zff IG6.out.obj;have z0:=(cII HO6.out 0).trans rfl;have z1:=(cII HO6.out 1).trans rfl
     have z2:=(cII HO6.out 2).trans rfl;have z3:=(cII HO6.out 3).trans rfl;have z4:=(cII HO6.out 4).trans rfl
     go_wp2_with fail
     clear q0 q1 q2 q3 q4 qf z0 z1 z2 z3 z4;refine HPU.out.mono ?_;rintro e w9 ⟨u,rfl,hu,hb9⟩;obtain ⟨k9,n9,s9,oi9,mi9,ci9,ok9,mk9,ck9,rfl⟩:=hu.agg5;have IG9:=hid (IG6.out.later hb9);have HST:=hid (IG9.out.set (hu.mono fun g hg=>⟨by have:=IG6.out.bel.size;have:=IG6.out.lt;have:=IG6.out.hX;omega,by have:=IG6.out.lt;omega⟩));have q0:=(cII IG9.out.obj 0).trans rfl;have q1:=(cII IG9.out.obj 1).trans rfl;have q2:=(cII IG9.out.obj 2).trans rfl;have q3:=(cII IG9.out.obj 3).trans rfl;have q4:=(cII IG9.out.obj 4).trans rfl;have qf:=zff IG9.out.obj;clear hu hb9 HPU
     go_wp2_with fail
     go_roundw
     case rel=>exact ⟨j + 1,_,_,_,_,_,_,_,_,_,_,by omega,by go_num,HST,HE2,hid ⟨by have:=HSZ.out.1;have:=HPS.out.1;have:=HSV1.out.1;omega,by have:=HSZ.out.2;have:=HPS.out.2;have:=HSV1.out.2;omega⟩⟩
     case measure=>simp [intOf];omega
  ·have HE2:=hid (HE.out.trans (by rw [List.drop_of_length_le (by omega),List.foldl_nil]))
   have q0:=(cII HI.out.obj 0).trans rfl;have q1:=(cII HI.out.obj 1).trans rfl;have q2:=(cII HI.out.obj 2).trans rfl;have q3:=(cII HI.out.obj 3).trans rfl;have q4:=(cII HI.out.obj 4).trans rfl;have qf:=zff HI.out.obj;have f0:=(cII HI.out.z 0).trans rfl;have f1:=(cII HI.out.z 1).trans rfl;have f2:=(cII HI.out.z 2).trans rfl;have f3:=(cII HI.out.z 3).trans rfl;have f4:=(cII HI.out.z 4).trans rfl;have fz:=zff HI.out.z
   go_wp2_with fail
   try simp only [Exit.inBlock,Exit.then]
   refine bodyPost_ret (v:=.agg #[.int .i64 k,.int .i64 n,.string s,.slice oi mi ci,.slice ok mk ck]) (by simp [results,Tryz.results66,go_sem,f0,f1,f2,f3,f4]) rfl ?_;rw [HE2.out];exact ⟨_,rfl,store5_vv (Q:=fun g=>w.heap.size≤g) (HI.out.vv.mono (Q:=fun g=>w.heap.size + 3≤g) fun g hg=>hg.1) (by omega) (fun g hg=>by omega) _ _ _ _ _,store5_below HI.out.bel (by omega) (nR _) _ _ _ _ _⟩
theorem OwnL.chg {B box:Nat} {R C:Nat→Prop} {w w':World} {v:Value} {ts:List Ty} (h:OwnL B box R w v ts) (hc:Chg C w w') (h1:∀ g,v.ownBlock=some g→¬ C g) (h2:∀ g,R g→g≠box→¬ C g):OwnL B box R w' v ts:=by
 obtain ⟨rs,m,l,e⟩:=h;exact ⟨rs,⟨owns_keep m.1 hc h1,m.2⟩,l,fun i r t hr ht=>(e i r t hr ht).keep (ZK.chg hc fun g hg=>h2 g hg.1 hg.2.2.1) fun g hg=>⟨hg.1,Nat.lt_of_lt_of_le hg.2.1 hc.size,hg.2.2⟩⟩
theorem OwnL.mono {B box:Nat} {R R':Nat→Prop} {w:World} {v:Value} {ts:List Ty} (h:OwnL B box R w v ts) (hr:∀ g,g < w.heap.size→R g→R' g):OwnL B box R' w v ts:=by
 obtain ⟨rs,m,l,e⟩:=h;exact ⟨rs,m,l,fun i r t h1 h2=>(e i r t h1 h2).mono fun g hg=>⟨hr g hg.2.1 hg.1,hg.2⟩⟩
theorem OwnL.block {B box:Nat} {R:Nat→Prop} {w:World} {v:Value} {ts:List Ty} (h:OwnL B box R w v ts) {g:Nat} (hg:v.ownBlock=some g):B≤g∧g < w.heap.size:=by
 obtain ⟨rs,h1,_⟩:=h;refine ⟨h1.2 g hg,?_⟩
 rcases h1.1.2 with ⟨rfl,h0⟩ | ⟨g,cap,cur,rfl,p1,p2,_⟩
 ·cases hg
 ·cases hg;exact (aS p2).1
theorem OwnL.re {B C box box':Nat} {R Q:Nat→Prop} {w:World} {v:Value} {ts:List Ty} (h:OwnL B box R w v ts) (hC:C≤B) (hq:∀ g,R g→g < w.heap.size→Q g∧g≠box'):OwnL C box' Q w v ts:=by
 obtain ⟨rs,h1,h2,h3⟩:=h;exact ⟨rs,⟨h1.1,fun g hg=>Nat.le_trans hC (h1.2 g hg)⟩,h2,fun i r t hr ht=>(h3 i r t hr ht).mono fun g hg=>⟨(hq g hg.1 hg.2.1).1,hg.2.1,(hq g hg.1 hg.2.1).2,hg.2.2.2⟩⟩
theorem OwnL.base {B C box:Nat} {R:Nat→Prop} {w:World} {v:Value} {ts:List Ty} (h:OwnL B box R w v ts) (hC:C≤B):OwnL C box R w v ts:=by
 obtain ⟨rs,h1,h2,h3⟩:=h;exact ⟨rs,⟨h1.1,fun g hg=>Nat.le_trans hC (h1.2 g hg)⟩,h2,h3⟩
theorem OwnL.slice2 {B box:Nat} {R:Nat→Prop} {w:World} {v:Value} {ts:List Ty} (h:OwnL B box R w v ts):∃ o c,v=.slice o ts.length c:=by
 obtain ⟨rs,h1,h2,h3⟩:=h
 rcases h1.1.2 with ⟨rfl,h0⟩ | ⟨g,cap,cur,rfl,_⟩
 ·exact ⟨none,0,by rw [h0]⟩
 ·exact ⟨_,_,rfl⟩
theorem Row.owns {w:World} {v:Value} {l:List ByteArray} (h:Row w v l):w.ownsRow 0 9 1 v l.length (strs l):=by
 refine ⟨by simp,?_⟩
 rcases h with ⟨rfl,rfl⟩ | ⟨g,pad,rfl,hh,hc⟩
 ·exact .inl ⟨rfl,rfl⟩
 ·refine .inr ⟨g,l.length + pad.length,_,rfl,Nat.zero_le _,hh,by omega,by unfold maxLen;omega,by simp,?_⟩
  rw [Nat.mul_one];exact List.take_left' (by simp)
theorem owns_row {w:World} {v:Value} {l:List ByteArray} {n:Nat} (h:w.ownsRow 0 9 1 v n (strs l)) (hn:n=l.length):Row w v l:=by
 subst hn
 rcases h.2 with ⟨rfl,h0⟩ | ⟨g,cap,cur,rfl,p1,p2,p3,p4,p5,p6⟩
 ·exact .inl ⟨rfl,List.eq_nil_of_length_eq_zero h0⟩
 ·exact row_mk p2 (by rw [p5];omega) (by unfold maxLen at p4;omega) p3 (by rw [Nat.mul_one] at p6;exact p6)
structure TB (B X:Nat) (w1 wr:World) (k:Int) (ve vn:Value) (ts:List Ty) (ns:List ByteArray):Prop where
 hB:B≤w1.heap.size
 bel:Below B w1 wr
 hX:B≤X
 obj:wr.heap[X]? = some (.cells #[.int .i64 k,ve,vn] 61)
 own:OwnL B X (fun g=>B≤g∧vn.ownBlock≠some g) wr ve ts
 eown:ve.ownBlock≠some X
 row:Row wr vn ns
 rown:∀ g,vn.ownBlock=some g→B≤g∧g≠X∧ve.ownBlock≠some g
 strs:∀ s∈ns,s.size≤140737488355328
section
variable {B X:Nat} {w1 wr w':World} {k:Int} {ve vn ve' vn':Value} {ts ts':List Ty} {ns ns':List ByteArray}
theorem TB.lt (h:TB B X w1 wr k ve vn ts ns):X < wr.heap.size:=(aS h.obj).1
theorem TB.later (h:TB B X w1 wr k ve vn ts ns) (hb:Below wr.heap.size wr w'):TB B X w1 w' k ve vn ts ns :=
 ⟨h.hB,h.bel.trans (hb.mono (Nat.le_trans h.hB h.bel.size)),h.hX,kO h.obj hb,h.own.later hb,h.eown,h.row.of_same fun g hg=>hb.block g (h.row.lt hg),h.rown,h.strs⟩
theorem TB.names (h:TB B X w1 wr k ve vn ts ns) (hr:Row w' vn' ns') (hs:∀ s∈ns',s.size≤140737488355328) (hp:vn'.ownBlock=vn.ownBlock∨∃ g,vn'.ownBlock=some g∧wr.heap.size≤g) (hc:Chg (fun g=>vn.ownBlock=some g) wr w') :
  TB B X w1 (w'.setCell ⟨X,2,none⟩ vn') k ve vn' ts ns':=by
 have hl:=h.lt;have hX:=h.hX;have hsz:=Nat.le_trans h.hB h.bel.size;have c2:=Chg.setCell (B:=fun g=>g=X) w' X 2 vn' rfl
 have hnew:∀ g,vn'.ownBlock=some g→vn.ownBlock=some g∨wr.heap.size≤g:=fun g e=>by
  rcases hp with h1 | ⟨g',h1,h2⟩
  ·exact .inl (h1 ▸ e)
  ·rw [h1] at e;cases e;exact .inr h2
 have ho:=(hc.block X hl (fun e=>(h.rown X e).2.1 rfl)).trans h.obj
 have i1:OwnL B X (fun g=>B≤g∧vn'.ownBlock≠some g) w' ve ts:=((h.own.mono (R':=fun g=>(B≤g∧vn'.ownBlock≠some g)∧vn.ownBlock≠some g) fun g hlt hg=>⟨⟨hg.1,fun e=>by
  rcases hnew g e with h1 | h1
  ·exact hg.2 h1
  ·omega⟩,hg.2⟩).chg hc (fun g e e2=>(h.rown g e2).2.2 e) (fun g hg _ e=>hg.2 e)).mono fun g _ hg=>hg.1
 refine ⟨h.hB,(h.bel.trans (zgg hc (fun g e=>(h.rown g e).1) hsz)).trans (zgg c2 (fun g e=>by rw [e];exact hX) (Nat.le_trans hsz hc.size)),hX,obj_set (po:=2) ho _,i1.chg c2 (fun g e e2=>h.eown (e2 ▸ e)) (fun g _ hb e=>hb e),h.eown,hr.chg c2 (fun g e e2=>?_),fun g e=>?_,hs⟩
 ·rcases hnew g e with h1 | h1
  ·exact (h.rown g h1).2.1 e2
  ·omega
 ·rcases hnew g e with h1 | h1
  ·exact h.rown g h1
  ·exact ⟨by omega,by omega,fun e2=>by have:=(h.own.block e2).2;omega⟩
theorem TB.elems (h:TB B X w1 wr k ve vn ts ns) (hr:OwnL B X (fun g=>B≤g∧vn.ownBlock≠some g) w' ve' ts') (hp:ve'.ownBlock=ve.ownBlock∨∃ g,ve'.ownBlock=some g∧wr.heap.size≤g) (hc:Chg (fun g=>ve.ownBlock=some g) wr w') :
  TB B X w1 (w'.setCell ⟨X,1,none⟩ ve') k ve' vn ts' ns:=by
 have hl:=h.lt;have hX:=h.hX;have hsz:=Nat.le_trans h.hB h.bel.size;have c2:=Chg.setCell (B:=fun g=>g=X) w' X 1 ve' rfl
 have hnew:∀ g,ve'.ownBlock=some g→ve.ownBlock=some g∨wr.heap.size≤g:=fun g e=>by
  rcases hp with h1 | ⟨g',h1,h2⟩
  ·exact .inl (h1 ▸ e)
  ·rw [h1] at e;cases e;exact .inr h2
 have hniX:ve'.ownBlock≠some X:=fun e=>by
  rcases hnew X e with h1 | h1
  ·exact h.eown h1
  ·omega
 have ho:=(hc.block X hl (fun e=>h.eown e)).trans h.obj
 refine ⟨h.hB,(h.bel.trans (zgg hc (fun g e=>(h.own.block e).1) hsz)).trans (zgg c2 (fun g e=>by rw [e];exact hX) (Nat.le_trans hsz hc.size)),hX,obj_set (po:=1) ho _,hr.chg c2 (fun g e e2=>hniX (e2 ▸ e)) (fun g _ hb e=>hb e),hniX,
  (h.row.chg hc fun g e e2=>(h.rown g e).2.2 e2).chg c2 (fun g e e2=>(h.rown g e).2.1 e2),fun g e=>⟨(h.rown g e).1,(h.rown g e).2.1,fun e2=>?_⟩,h.strs⟩
 rcases hnew g e2 with h1 | h1
 ·exact (h.rown g e).2.2 h1
 ·have:=h.row.lt e;omega
theorem TB.read (h:TB B X w1 wr k ve vn ts ns) (hl:ts.length≤140737488355328) (hk:ns.length≤140737488355328):TV (fun g=>B≤g∧g < wr.heap.size) wr (.agg #[.int .i64 k,ve,vn]) (.mk k ts ns) :=
 (TV.mk' (h.row.sv (Q:=fun g=>B≤g) (fun g e=>(h.rown g e).1) hk h.strs) ((h.own.mono (R':=fun g=>B≤g) fun g _ hg=>hg.1).read (fun g hg=>hg) hl)).ex
end
def ObjPost (k:Int) (ts:List Ty) (ns:List ByteArray) (w:World) (e:Ending) (w':World):Prop:=∃ ve vn box,e=.returned (.agg #[.int .i64 k,ve,vn])∧Below w.heap.size w w'∧OwnL w.heap.size box (fun g=>w.heap.size≤g∧vn.ownBlock≠some g) w' ve ts∧Row w' vn ns ∧
 (∀ g,vn.ownBlock=some g→w.heap.size≤g∧ve.ownBlock≠some g)∧∀ s∈ns,s.size≤140737488355328
theorem object_any (l:List At) (P:Nat→Prop) (w:World) (v:Value) (hs:AV P w v l) (hl:l.length≤1000) (hok:∀ a∈l,sizeT a.ty≤1000∧namesT a.ty≤1000) :
  Calls Tryz.prog 104 #[v] w (ObjPost 6 (l.map (·.ty)) (l.map (·.name)) w):=by
 obtain ⟨oa,ca,rfl⟩:=hs.len;have HOK:=hid hok;have hT:=zhh w zero3;have hab:Below w.heap.size w (w.alloc zero3):=(Below.refl _ _).alloc (nR _) _
 have has:(w.alloc zero3).heap.size=w.heap.size + 1:=by simp
 generalize hA:w.alloc zero3=wa at hT hab has;have hob:=zhh wa (.cells #[.int .i64 6,.slice none 0 0,.slice none 0 0] 61);have hbb:Below wa.heap.size wa (wa.alloc (.cells #[.int .i64 6,.slice none 0 0,.slice none 0 0] 61)):=(Below.refl _ _).alloc (nR _) _
 have hbs:(wa.alloc (.cells #[.int .i64 6,.slice none 0 0,.slice none 0 0] 61)).heap.size=w.heap.size + 2:=by simp [has]
 rw [has] at hob;generalize hB:wa.alloc (.cells #[.int .i64 6,.slice none 0 0,.slice none 0 0] 61)=wb at hob hbb hbs;have HA0:=hid hA;have HB0:=hid hB;have HB:=hid (hab.trans (hbb.mono hab.size));have HS:=hid hbs;have HZ:=hid (kO hT hbb);have HAT:=hid hs;have HT:Hid (TB (w.heap.size + 1) (w.heap.size + 1) wb wb 6 (.slice none 0 0) (.slice none 0 0) [] []):=hid ⟨by omega,Below.refl _ _,nR _,hob,OwnL.nil _ _ _ _,(fun e=>by cases e),.inl ⟨rfl,rfl⟩,(fun g e=>by cases e),(fun s h=>by cases h)⟩;clear hs hok hT hab has hob hbb hbs hA hB
 go_enter Tryz.func104,Tryz.ntmps104
 go_upto_region 2 with (fail)
 rw [HA0.out,HB0.out]
 go_wp2_with fail
 go_loopw [9] (fun i wr=>∃ (j:Nat) (oe:Option Addr) (me ce:Nat) (on:Option Addr) (mn cn:Nat),j≤l.length∧i=.int .i64 j∧Hid (TB (w.heap.size + 1) (w.heap.size + 1) wb wr 6 (.slice oe me ce) (.slice on mn cn) ((l.map (·.ty)).take j) ((l.map (·.name)).take j))) (fun i _=>l.length - (intOf i).toNat)
 case atStart=>exact ⟨0,_,_,_,_,_,_,Nat.zero_le _,rfl,HT⟩
 case round =>
  clear HT;obtain ⟨j,oe,me,ce,on,mn,cn,hj,rfl,T⟩:=hrel;have HB2:=hid (HB.out.trans (T.out.bel.mono (by omega)))
  by_cases hlt:j < l.length
  ·obtain ⟨g,o,c,k,oe1,me1,ce1,on1,mn1,cn1,-,e1,a0,a1,a2,a3,a4,a5,a6,a7,hTV,hnm⟩:=HAT.out.at hlt
   cases e1
   replace a0:=zbb HB2.out a0;replace a1:=zbb HB2.out a1;replace a2:=zbb HB2.out a2;replace a3:=zbb HB2.out a3;replace a4:=zbb HB2.out a4;replace a5:=zbb HB2.out a5;replace a6:=zbb HB2.out a6;replace a7:=zbb HB2.out a7
   have hj0:(0:Int)≤(j:Int):=by omega
   have hj1:(j:Int) < (l.length:Int):=by omega
   have hob:=HOK.out _ (lM hlt)
   have HTK:=hid (show (l.map (·.ty)).take (j + 1)=(l.map (·.ty)).take j ++ [l[j].ty]∧(l.map (·.name)).take (j + 1)=(l.map (·.name)).take j ++ [l[j].name] by
    rw [List.take_add_one,List.take_add_one,List.getElem?_map,List.getElem?_map,lG hlt];exact ⟨rfl,rfl⟩)
   have HLN:=hid (show ((l.map (·.ty)).take j).length≤1000∧((l.map (·.name)).take j).length≤1000 by
    constructor <;> (rw [List.length_take,List.length_map];omega))
   have HTV:=hid hTV
   generalize l[j]=at' at *
   obtain ⟨nm,ty,md,rp,sn,vl⟩:=at';simp only at a0 a4 a5 a6 a7 HTV HTK hnm hob
   generalize (l.map (·.ty)).take j=ts at *
   generalize (l.map (·.name)).take j=ns at *
   have HOB:=hid hob;have HNM:=hid hnm;clear hTV hob hnm
   go_upto_region 5 with (fail)
   have hal:Below wr.heap.size wr (wr.alloc (.cells #[.string nm,.int .i64 k,.slice oe1 me1 ce1,.slice on1 mn1 cn1,.int .i64 md,.bool rp,.bool sn,.bool vl] 64)):=(Below.refl _ _).alloc (nR _) _;have hxo:=zhh wr (.cells #[.string nm,.int .i64 k,.slice oe1 me1 ce1,.slice on1 mn1 cn1,.int .i64 md,.bool rp,.bool sn,.bool vl] 64)
   generalize wr.alloc (.cells #[.string nm,.int .i64 k,.slice oe1 me1 ce1,.slice on1 mn1 cn1,.int .i64 md,.bool rp,.bool sn,.bool vl] 64)=wx at *
   have TX:=hid (T.out.later hal);have HXO:=hid hxo;have HXL:=hid (show w.heap.size + 1 < wr.heap.size by have:=T.out.lt;omega);have HVN:=hid (fun g (e:(Value.slice on mn cn).ownBlock=some g)=>T.out.row.lt e);have HVE:=hid (fun g (e:(Value.slice oe me ce).ownBlock=some g)=>(T.out.own.block e).2);have HXS:=hid (show wr.heap.size < wx.heap.size from (aS hxo).1);clear hal hxo a0 a1 a2 a3 a4 a5 a6 a7 T;have o2:=(cII TX.out.obj 2).trans rfl;have y0:=(cII HXO.out 0).trans rfl
   go_upto_region 6 with (at_builtin;refine app_tag (by rfl) (.tmp 14) (.tmp 17) 30 (by rfl) 9 (.string ⟨#[]⟩) 1 16 Tryz.underlying30 info9 rfl (by decide) (by decide) _ _ _ TX.out.row.owns (by rfl) [.string nm] wx.heap.size (by rfl) (by rfl) (by rfl) (by simp [Value.oneCell']) (by have:=HLN.out;omega) ?_;intro v3 w3 hown3 hc3 hp3 hne3;obtain ⟨o3,n3,c3,rfl⟩:=zw hown3;have hT3:w3.heap[w.heap.size + 1]? = _:=(hc3.block _ TX.out.lt (fun e=>(TX.out.rown _ e).2.1 rfl)).trans TX.out.obj;have t2:=(cII hT3 2).trans rfl;have tf:=zff hT3)
   have T4:=hid (TX.out.names (owns_row (l:=ns ++ [nm]) (by rw [strs,List.map_append];exact hown3) (by simp)) (fun s hs=>by
    rcases List.mem_append.1 hs with h | h
    ·exact TX.out.strs s h
    ·rw [List.mem_singleton.1 h];exact HNM.out) hp3 hc3)
   have HXO4:Hid ((w3.setCell ⟨w.heap.size + 1,2,none⟩ (.slice o3 n3 c3)).heap[wr.heap.size]? = some (.cells #[.string nm,.int .i64 k,.slice oe1 me1 ce1,.slice on1 mn1 cn1,.int .i64 md,.bool rp,.bool sn,.bool vl] 64)):=hid (by
    have hx:=HXL.out;have c2:=Chg.setCell (B:=fun g=>g=w.heap.size + 1) w3 (w.heap.size + 1) 2 (.slice o3 n3 c3) rfl
    exact (c2.block _ (by have:=hc3.size;have:=HXS.out;omega) (by omega)).trans ((hc3.block _ HXS.out (fun e=>by have:=HVN.out _ e;omega)).trans HXO.out))
   have HX4:Hid (wr.heap.size < (w3.setCell ⟨w.heap.size + 1,2,none⟩ (.slice o3 n3 c3)).heap.size):=hid (aS HXO4.out).1;clear hown3 hc3 hp3 hne3 hT3 t2 tf o2 y0 TX HXO
   generalize w3.setCell ⟨w.heap.size + 1,2,none⟩ (.slice o3 n3 c3)=w4 at *
   have HCall:=hid (typed_any ty P w4.drew _ (HTV.out.bel (zdd (HB.out.trans (T4.out.bel.mono (by omega))))) (by have:=HOB.out;omega) (by have:=HOB.out;omega));have o1:=(cII T4.out.obj 1).trans rfl;have y1:=(cII HXO4.out 1).trans rfl;have y2:=(cII HXO4.out 2).trans rfl;have y3:=(cII HXO4.out 3).trans rfl
   go_wp2_with fail
   refine zt 8 (fun v=>v.cell? ⟨w.heap.size + 1,1,none⟩=some (.slice oe me ce)∧v.cell? ⟨wr.heap.size,1,none⟩=some (.int .i64 k)∧v.cell? ⟨wr.heap.size,2,none⟩=some (.slice oe1 me1 ce1)∧v.cell? ⟨wr.heap.size,3,none⟩=some (.slice on1 mn1 cn1)) (by kernel_rfl) (by kernel_rfl) (⟨o1,y1,y2,y3⟩) ?_;simp only [List.take_succ_cons,List.take_zero,List.drop_succ_cons,List.drop_zero]
   repeat ((first
    | refine sK ?_
    | refine sC3 ?_);try simp only [Act.put,sA,sZ,sS])
   refine sL fun K hK=>?_
   go_simp
   refine HCall.out.mono ?_;rintro e w5 ⟨u,rfl,hu,hb5⟩;obtain ⟨k5,oi5,mi5,ci5,ok5,mk5,ck5,rfl⟩:=hu.agg;have T5:=hid (T4.out.later (show Below w4.heap.size w4 w5 from ⟨hb5.os,hb5.tape,hb5.output,hb5.size,hb5.block⟩));have HU5:Hid (TV (fun g=>w4.heap.size≤g) w5 (.agg #[.int .i64 k5,.slice oi5 mi5 ci5,.slice ok5 mk5 ck5]) ty):=hid hu;have r1:=zbb (W:=w4.drew) hb5 o1;have r2:=zbb (W:=w4.drew) hb5 y1;have r3:=zbb (W:=w4.drew) hb5 y2;have r4:=zbb (W:=w4.drew) hb5 y3;have HW5:Hid (w4.heap.size≤w5.heap.size):=hid hb5.size;clear hu hb5 HCall o1 y1 y2 y3;refine hK.out _ _ (⟨r1,r2,r3,r4⟩) ?_;clear hK K
   try simp only [Act.put,sA,sZ,sS]
   refine sL fun K hK=>?_
   go_simp
   have hal:Below w5.heap.size w5 (w5.alloc (.cells #[.int .i64 k5,.slice oi5 mi5 ci5,.slice ok5 mk5 ck5] 61)):=(Below.refl _ _).alloc (nR _) _;refine hK.out _ _ (⟨zbb hal r1,zbb hal r2,zbb hal r3,zbb hal r4⟩) ?_;clear hK K
   try simp only [Act.put,sA,sZ,sS]
   clear hal
   refine sL fun K hK=>?_
   obtain ⟨rs,hm,hl2,he4⟩:=T5.out.own
   have hno:∀ g,wr.heap.size≤g→¬ (Value.slice oe me ce).ownBlock=some g:=fun g hg e=>by have:=HVE.out g e;omega
   refine app_tag_wp (.tmp 21) (.tmp 25) 59 (by rfl) 61 (.agg #[.int .i64 0,.slice none 0 0,.slice none 0 0]) 3 56 Tryz.underlying59 info26 (by rfl) (by decide) (by decide) _ _ _ hm.1 (by rfl) [.int .i64 k5,.slice oi5 mi5 ci5,.slice ok5 mk5 ck5] w5.heap.size (by rfl) (by rfl) (by rfl) (by simp [Value.oneCell']) (by have:=HLN.out;omega) ?_;intro v7 w7 hown7 hc7 hp7 hne7;obtain ⟨o7,n7,c7,rfl⟩:=zw hown7;have hX7:w7.heap[w.heap.size + 1]? = _:=(hc7.block _ T5.out.lt (fun e=>T5.out.eown e)).trans T5.out.obj;refine hK.out _ _ ⟨zcc hc7 (fun e=>T5.out.eown e) r1,zcc hc7 (hno _ (nR _)) r2,zcc hc7 (hno _ (nR _)) r3,zcc hc7 (hno _ (nR _)) r4⟩ ?_;clear hK K
   try simp only [Act.put,sA,sZ,sS]
   have hpush:OwnL (w.heap.size + 1) (w.heap.size + 1) (fun g=>w.heap.size + 1≤g∧(Value.slice o3 n3 c3).ownBlock≠some g) w7 (.slice o7 n7 c7) (ts ++ [ty]):=OwnL.push (by have:=T5.out.lt;omega) ⟨rs,hm,hl2,he4,hown7⟩ HU5.out (fun g (hg:w4.heap.size≤g)=>by
    have h1:=T4.out.lt;refine ⟨⟨by omega,fun e=>?_⟩,by omega,fun e=>?_⟩
    ·have:=T4.out.row.lt e;omega
    ·have:=(T4.out.own.block e).2;omega) hc7 hp7
   have T7:=hid (T5.out.elems hpush hp7 hc7);have h1:=(cII hX7 1).trans rfl;have hf:=zff hX7;clear hown7 hc7 hp7 hne7 hX7 hno r1 r2 r3 r4 T5 hm hl2 he4 hpush
   repeat ((first
    | refine sK ?_
    | refine sC3 ?_);try simp only [Act.put,sA,sZ,sS])
   refine zn ?_
   go_wp2_with fail
   clear h1 hf
   go_roundw
   case rel=>exact ⟨j + 1,_,_,_,_,_,_,by omega,by go_num,by rw [HTK.out.1,HTK.out.2];exact T7⟩
   case measure=>simp [intOf];omega
  ·have HTE:=hid (show (l.map (·.ty)).take j=l.map (·.ty)∧(l.map (·.name)).take j=l.map (·.name) from ⟨List.take_of_length_le (by simp;omega),List.take_of_length_le (by simp;omega)⟩)
   rw [HTE.out.1,HTE.out.2] at T;have HZ2:=hid ((T.out.bel.block _ (by omega)).trans HZ.out);have o0:=(cII T.out.obj 0).trans rfl;have o1:=(cII T.out.obj 1).trans rfl;have o2:=(cII T.out.obj 2).trans rfl;have f0:=(cII HZ2.out 0).trans rfl;have f1:=(cII HZ2.out 1).trans rfl;have f2:=(cII HZ2.out 2).trans rfl;have fz:=zff HZ2.out
   go_wp2_with fail
   try simp only [Exit.inBlock,Exit.then]
   refine bodyPost_ret (v:=.agg #[.int .i64 6,.slice oe me ce,.slice on mn cn]) (by simp [results,Tryz.results104,go_sem,f0,f1,f2]) rfl ?_;have c3:=chg_store3 wr w.heap.size (.int .i64 6) (.slice oe me ce) (.slice on mn cn);refine ⟨_,_,w.heap.size + 1,rfl,store3_below HB2.out (nR _) (nR _) _ _ _,?_,T.out.row.chg c3 fun g e e2=>by have:=(T.out.rown g e).1;omega,fun g e=>⟨by have:=(T.out.rown g e).1;omega,(T.out.rown g e).2.2⟩,T.out.strs⟩
   exact (T.out.own.chg c3 (fun g e e2=>by have:=(T.out.own.block e).1;omega) (fun g hg _ e=>by have:=hg.1;omega)).base (Nat.le_succ _) |>.mono fun g _ hg=>⟨Nat.le_of_succ_le hg.1,hg.2⟩
theorem snocS {ks:List ByteArray} {x:ByteArray} (h:∀ s∈ks,s.size≤140737488355328) (hx:x.size≤140737488355328):∀ s∈ks ++ [x],s.size≤140737488355328:=fun s hs=>by
 rcases List.mem_append.1 hs with h1 | h1
 ·exact h s h1
 ·rw [List.mem_singleton.1 h1];exact hx
structure TBA (A:Nat→Prop) (B X:Nat) (w1 wr:World) (k:Int) (ve vn:Value) (ts:List Ty) (ns:List ByteArray):Prop where
 hB:B≤w1.heap.size
 bel:Below B w1 wr
 hX:B≤X
 obj:wr.heap[X]? = some (.cells #[.int .i64 k,ve,vn] 61)
 own:OwnL B X (fun g=>(A g∨B≤g)∧vn.ownBlock≠some g) wr ve ts
 eown:ve.ownBlock≠some X
 row:Row wr vn ns
 rown:∀ g,vn.ownBlock=some g→B≤g∧g≠X∧ve.ownBlock≠some g
 strs:∀ s∈ns,s.size≤140737488355328
section
variable {A:Nat→Prop} {B X:Nat} {w1 wr w':World} {k:Int} {ve vn ve' vn':Value} {ts ts':List Ty} {ns ns':List ByteArray}
theorem TBA.lt (h:TBA A B X w1 wr k ve vn ts ns):X < wr.heap.size:=(aS h.obj).1
theorem TBA.later (h:TBA A B X w1 wr k ve vn ts ns) (hb:Below wr.heap.size wr w'):TBA A B X w1 w' k ve vn ts ns :=
 ⟨h.hB,h.bel.trans (hb.mono (Nat.le_trans h.hB h.bel.size)),h.hX,kO h.obj hb,h.own.later hb,h.eown,h.row.of_same fun g hg=>hb.block g (h.row.lt hg),h.rown,h.strs⟩
theorem TBA.names (h:TBA A B X w1 wr k ve vn ts ns) (hr:Row w' vn' ns') (hs:∀ s∈ns',s.size≤140737488355328) (hp:vn'.ownBlock=vn.ownBlock∨∃ g,vn'.ownBlock=some g∧wr.heap.size≤g) (hc:Chg (fun g=>vn.ownBlock=some g) wr w') :
  TBA A B X w1 (w'.setCell ⟨X,2,none⟩ vn') k ve vn' ts ns':=by
 have hl:=h.lt;have hX:=h.hX;have hsz:=Nat.le_trans h.hB h.bel.size;have c2:=Chg.setCell (B:=fun g=>g=X) w' X 2 vn' rfl
 have hnew:∀ g,vn'.ownBlock=some g→vn.ownBlock=some g∨wr.heap.size≤g:=fun g e=>by
  rcases hp with h1 | ⟨g',h1,h2⟩
  ·exact .inl (h1 ▸ e)
  ·rw [h1] at e;cases e;exact .inr h2
 have ho:=(hc.block X hl (fun e=>(h.rown X e).2.1 rfl)).trans h.obj
 have i1:OwnL B X (fun g=>(A g∨B≤g)∧vn'.ownBlock≠some g) w' ve ts:=((h.own.mono (R':=fun g=>((A g∨B≤g)∧vn'.ownBlock≠some g)∧vn.ownBlock≠some g) fun g hlt hg=>⟨⟨hg.1,fun e=>by
  rcases hnew g e with h1 | h1
  ·exact hg.2 h1
  ·omega⟩,hg.2⟩).chg hc (fun g e e2=>(h.rown g e2).2.2 e) (fun g hg _ e=>hg.2 e)).mono fun g _ hg=>hg.1
 refine ⟨h.hB,(h.bel.trans (zgg hc (fun g e=>(h.rown g e).1) hsz)).trans (zgg c2 (fun g e=>by rw [e];exact hX) (Nat.le_trans hsz hc.size)),hX,obj_set (po:=2) ho _,i1.chg c2 (fun g e e2=>h.eown (e2 ▸ e)) (fun g _ hb e=>hb e),h.eown,hr.chg c2 (fun g e e2=>?_),fun g e=>?_,hs⟩
 ·rcases hnew g e with h1 | h1
  ·exact (h.rown g h1).2.1 e2
  ·omega
 ·rcases hnew g e with h1 | h1
  ·exact h.rown g h1
  ·exact ⟨by omega,by omega,fun e2=>by have:=(h.own.block e2).2;omega⟩
theorem TBA.elems (h:TBA A B X w1 wr k ve vn ts ns) (hr:OwnL B X (fun g=>(A g∨B≤g)∧vn.ownBlock≠some g) w' ve' ts') (hp:ve'.ownBlock=ve.ownBlock∨∃ g,ve'.ownBlock=some g∧wr.heap.size≤g) (hc:Chg (fun g=>ve.ownBlock=some g) wr w') :
  TBA A B X w1 (w'.setCell ⟨X,1,none⟩ ve') k ve' vn ts' ns:=by
 have hl:=h.lt;have hX:=h.hX;have hsz:=Nat.le_trans h.hB h.bel.size;have c2:=Chg.setCell (B:=fun g=>g=X) w' X 1 ve' rfl
 have hnew:∀ g,ve'.ownBlock=some g→ve.ownBlock=some g∨wr.heap.size≤g:=fun g e=>by
  rcases hp with h1 | ⟨g',h1,h2⟩
  ·exact .inl (h1 ▸ e)
  ·rw [h1] at e;cases e;exact .inr h2
 have hniX:ve'.ownBlock≠some X:=fun e=>by
  rcases hnew X e with h1 | h1
  ·exact h.eown h1
  ·omega
 have ho:=(hc.block X hl (fun e=>h.eown e)).trans h.obj
 refine ⟨h.hB,(h.bel.trans (zgg hc (fun g e=>(h.own.block e).1) hsz)).trans (zgg c2 (fun g e=>by rw [e];exact hX) (Nat.le_trans hsz hc.size)),hX,obj_set (po:=1) ho _,hr.chg c2 (fun g e e2=>hniX (e2 ▸ e)) (fun g _ hb e=>hb e),hniX,
  (h.row.chg hc fun g e e2=>(h.rown g e).2.2 e2).chg c2 (fun g e e2=>(h.rown g e).2.1 e2),fun g e=>⟨(h.rown g e).1,(h.rown g e).2.1,fun e2=>?_⟩,h.strs⟩
 rcases hnew g e2 with h1 | h1
 ·exact (h.rown g e).2.2 h1
 ·have:=h.row.lt e;omega
theorem TBA.read (h:TBA A B X w1 wr k ve vn ts ns) (hl:ts.length≤140737488355328) (hk:ns.length≤140737488355328):TV (fun g=>(A g∨B≤g)∧g < wr.heap.size) wr (.agg #[.int .i64 k,ve,vn]) (.mk k ts ns) :=
 (TV.mk' (h.row.sv (Q:=fun g=>A g∨B≤g) (fun g e=>Or.inr (h.rown g e).1) hk h.strs) ((h.own.mono (R':=fun g=>A g∨B≤g) fun g _ hg=>hg.1).read (fun g hg=>Or.inr hg) hl)).ex
end
def RObjPost (P:Nat→Prop) (t:Ty) (w:World) (e:Ending) (w':World):Prop:=∃ u,e=.returned u∧Below w.heap.size w w'∧TV (fun g=>(P g∧g < w.heap.size)∨w.heap.size≤g) w' u t
theorem robject_any (l:List At) (P:Nat→Prop) (w:World) (v:Value) (hs:AV P w v l) (hl:l.length≤1000) :
  Calls Tryz.prog 64 #[v] w (RObjPost P (.mk 6 (l.map (·.ty)) (l.map (·.name))) w):=by
 obtain ⟨oa,ca,rfl⟩:=hs.len;have hT:=zhh w zero3;have hab:Below w.heap.size w (w.alloc zero3):=(Below.refl _ _).alloc (nR _) _
 have has:(w.alloc zero3).heap.size=w.heap.size + 1:=by simp
 generalize hA:w.alloc zero3=wa at hT hab has;have hob:=zhh wa (.cells #[.int .i64 6,.slice none 0 0,.slice none 0 0] 61);have hbb:Below wa.heap.size wa (wa.alloc (.cells #[.int .i64 6,.slice none 0 0,.slice none 0 0] 61)):=(Below.refl _ _).alloc (nR _) _
 have hbs:(wa.alloc (.cells #[.int .i64 6,.slice none 0 0,.slice none 0 0] 61)).heap.size=w.heap.size + 2:=by simp [has]
 rw [has] at hob;generalize hB:wa.alloc (.cells #[.int .i64 6,.slice none 0 0,.slice none 0 0] 61)=wb at hob hbb hbs;have HA0:=hid hA;have HB0:=hid hB;have HB:=hid (hab.trans (hbb.mono hab.size));have HS:=hid hbs;have HZ:=hid (kO hT hbb);have HAT:=hid hs;have HT:Hid (TBA (fun g=>P g∧g < w.heap.size) (w.heap.size + 1) (w.heap.size + 1) wb wb 6 (.slice none 0 0) (.slice none 0 0) [] []):=hid ⟨by omega,Below.refl _ _,nR _,hob,OwnL.nil _ _ _ _,(fun e=>by cases e),.inl ⟨rfl,rfl⟩,(fun g e=>by cases e),(fun s h=>by cases h)⟩;clear hs hT hab has hob hbb hbs hA hB
 go_enter Tryz.func64,Tryz.ntmps64
 go_upto_region 2 with (fail)
 rw [HA0.out,HB0.out]
 go_wp2_with fail
 go_loopw [4] (fun i wr=>∃ (j:Nat) (oe:Option Addr) (me ce:Nat) (on:Option Addr) (mn cn:Nat),j≤l.length∧i=.int .i64 j∧Hid (TBA (fun g=>P g∧g < w.heap.size) (w.heap.size + 1) (w.heap.size + 1) wb wr 6 (.slice oe me ce) (.slice on mn cn) ((l.map (·.ty)).take j) ((l.map (·.name)).take j))) (fun i _=>l.length - (intOf i).toNat)
 case atStart=>exact ⟨0,_,_,_,_,_,_,Nat.zero_le _,rfl,HT⟩
 case round =>
  clear HT;obtain ⟨j,oe,me,ce,on,mn,cn,hj,rfl,T⟩:=hrel;have HB2:=hid (HB.out.trans (T.out.bel.mono (by omega)))
  by_cases hlt:j < l.length
  ·obtain ⟨g,o,c,k,oe1,me1,ce1,on1,mn1,cn1,-,e1,a0,a1,a2,a3,a4,a5,a6,a7,hTV,hnm⟩:=HAT.out.at hlt
   cases e1
   have HGL:=hid (show g < w.heap.size from World.block_lt_of_cell? w _ a0);replace a0:=zbb HB2.out a0
   have hj0:(0:Int)≤(j:Int):=by omega
   have hj1:(j:Int) < (l.length:Int):=by omega
   have HTK:=hid (show (l.map (·.ty)).take (j + 1)=(l.map (·.ty)).take j ++ [l[j].ty]∧(l.map (·.name)).take (j + 1)=(l.map (·.name)).take j ++ [l[j].name] by
    rw [List.take_add_one,List.take_add_one,List.getElem?_map,List.getElem?_map,lG hlt];exact ⟨rfl,rfl⟩)
   have HLN:=hid (show ((l.map (·.ty)).take j).length≤1000∧((l.map (·.name)).take j).length≤1000 by
    constructor <;> (rw [List.length_take,List.length_map];omega))
   have HTV:=hid hTV.ex
   generalize l[j]=at' at *
   obtain ⟨nm,ty,md,rp,sn,vl⟩:=at';simp only at a0 a4 a5 a6 a7 HTV HTK hnm
   generalize (l.map (·.ty)).take j=ts at *
   generalize (l.map (·.name)).take j=ns at *
   have HNM:=hid hnm;have A1:=hid a1;have A2:=hid a2;have A3:=hid a3;clear hTV hnm a1 a2 a3 a4 a5 a6 a7;have hgl:g < w.heap.size:=HGL.out;have HVN:=hid (show ¬ (Value.slice on mn cn).ownBlock=some g from fun e=>by have:=(T.out.rown g e).1;omega);have HVE:=hid (show ¬ (Value.slice oe me ce).ownBlock=some g from fun e=>by have:=(T.out.own.block e).1;omega);have T1:=hid (T.out.later (zdd (Below.refl _ _)));have o2:=(cII T1.out.obj 2).trans rfl;clear T
   go_wp2_with fail
   refine zt 10 (fun v=>v.cell? ⟨w.heap.size + 1,2,none⟩=some (.slice on mn cn)∧v.cell? ⟨g,o + j * 8,none⟩=some (.string nm)) (by kernel_rfl) (by kernel_rfl) (⟨o2,a0⟩) ?_;simp only [List.take_succ_cons,List.take_zero,List.drop_succ_cons,List.drop_zero]
   repeat ((first
    | refine sK ?_
    | refine sC3 ?_);try simp only [Act.put,sA,sZ,sS])
   refine sL fun K hK=>?_
   go_simp
   have hal:Below wr.drew.heap.size wr.drew (wr.drew.alloc (.cells #[.string nm] 9)):=(Below.refl _ _).alloc (nR _) _;refine hK.out _ _ (⟨zbb (W:=wr.drew) hal o2,zbb (W:=wr.drew) hal a0⟩) ?_;clear hK K
   try simp only [Act.put,sA,sZ,sS]
   clear hal
   refine sL fun K hK=>?_
   refine app_tag_wp (.tmp 13) (.tmp 19) 30 (by rfl) 9 (.string ⟨#[]⟩) 1 16 Tryz.underlying30 info9 (by rfl) (by decide) (by decide) _ _ _ T1.out.row.owns (by rfl) [.string nm] wr.drew.heap.size (by rfl) (by rfl) (by rfl) (by simp [Value.oneCell']) (by have:=HLN.out;omega) ?_;intro v3 w3 hown3 hc3 hp3 hne3;obtain ⟨o3,n3,c3,rfl⟩:=zw hown3;have hT3:w3.heap[w.heap.size + 1]? = _:=(hc3.block _ T1.out.lt (fun e=>(T1.out.rown _ e).2.1 rfl)).trans T1.out.obj;refine hK.out _ _ ⟨zcc hc3 (fun e=>(T1.out.rown _ e).2.1 rfl) o2,zcc hc3 HVN.out a0⟩ ?_;clear hK K
   try simp only [Act.put,sA,sZ,sS]
   have T4:=hid (T1.out.names (owns_row (l:=ns ++ [nm]) (by rw [strs,List.map_append];exact hown3) (by simp)) (snocS T1.out.strs HNM.out) hp3 hc3);have t2:=(cII hT3 2).trans rfl;have tf:=zff hT3;clear hown3 hc3 hp3 hne3 hT3 o2 a0 T1
   repeat ((first
    | refine sK ?_
    | refine sC3 ?_);try simp only [Act.put,sA,sZ,sS])
   refine zn ?_
   go_wp2_with fail
   clear t2 tf
   generalize w3.setCell ⟨w.heap.size + 1,2,none⟩ (.slice o3 n3 c3)=w4 at *
   have T5:=hid (T4.out.later (zdd (Below.refl _ _)));have HB5:=hid (show Below w.heap.size w w4.drew from HB.out.trans (T5.out.bel.mono (by omega)));have HTV5:=hid (HTV.out.bel (show Below w.heap.size w w4.drew from HB5.out));have o1:=(cII T5.out.obj 1).trans rfl;have b1:=zbb HB5.out A1.out;have b2:=zbb HB5.out A2.out;have b3:=zbb HB5.out A3.out;clear T4;refine zt 10 (fun v=>v.cell? ⟨w.heap.size + 1,1,none⟩=some (.slice oe me ce)∧v.cell? ⟨g,o + j * 8 + 1,none⟩=some (.int .i64 k)∧v.cell? ⟨g,o + j * 8 + 2,none⟩=some (.slice oe1 me1 ce1)∧v.cell? ⟨g,o + j * 8 + 3,none⟩=some (.slice on1 mn1 cn1)) (by kernel_rfl) (by kernel_rfl) (⟨o1,b1,b2,b3⟩) ?_;simp only [List.take_succ_cons,List.take_zero,List.drop_succ_cons,List.drop_zero]
   repeat ((first
    | refine sK ?_
    | refine sC3 ?_);try simp only [Act.put,sA,sZ,sS])
   refine sL fun K hK=>?_
   go_simp
   have hal:Below w4.drew.heap.size w4.drew (w4.drew.alloc (.cells #[.int .i64 k,.slice oe1 me1 ce1,.slice on1 mn1 cn1] 61)):=(Below.refl _ _).alloc (nR _) _;refine hK.out _ _ (⟨zbb (W:=w4.drew) hal o1,zbb (W:=w4.drew) hal b1,zbb (W:=w4.drew) hal b2,zbb (W:=w4.drew) hal b3⟩) ?_;clear hK K
   try simp only [Act.put,sA,sZ,sS]
   clear hal
   refine sL fun K hK=>?_
   obtain ⟨rs,hm,hl2,he4⟩:=T5.out.own;refine app_tag_wp (.tmp 23) (.tmp 29) 59 (by rfl) 61 (.agg #[.int .i64 0,.slice none 0 0,.slice none 0 0]) 3 56 Tryz.underlying59 info26 (by rfl) (by decide) (by decide) _ _ _ hm.1 (by rfl) [.int .i64 k,.slice oe1 me1 ce1,.slice on1 mn1 cn1] w4.drew.heap.size (by rfl) (by rfl) (by rfl) (by simp [Value.oneCell']) (by have:=HLN.out;omega) ?_;intro v7 w7 hown7 hc7 hp7 hne7;obtain ⟨o7,n7,c7,rfl⟩:=zw hown7;have hX7:w7.heap[w.heap.size + 1]? = _:=(hc7.block _ T5.out.lt (fun e=>T5.out.eown e)).trans T5.out.obj;refine hK.out _ _ ⟨zcc hc7 (fun e=>T5.out.eown e) o1,zcc hc7 HVE.out b1,zcc hc7 HVE.out b2,zcc hc7 HVE.out b3⟩ ?_;clear hK K
   try simp only [Act.put,sA,sZ,sS]
   have hpush:OwnL (w.heap.size + 1) (w.heap.size + 1) (fun g=>((P g∧g < w.heap.size)∨w.heap.size + 1≤g)∧(Value.slice o3 n3 c3).ownBlock≠some g) w7 (.slice o7 n7 c7) (ts ++ [ty]):=OwnL.push (by have:=T5.out.lt;omega) ⟨rs,hm,hl2,he4,hown7⟩ HTV5.out (fun g hg=>⟨⟨.inl hg,fun e=>by have:=(T5.out.rown g e).1;have:=hg.2;omega⟩,by have:=hg.2;omega,fun e=>by have:=(T5.out.own.block e).1;have:=hg.2;omega⟩) hc7 hp7;have T7:=hid (T5.out.elems hpush hp7 hc7);have h1:=(cII hX7 1).trans rfl;have hf:=zff hX7;clear hown7 hc7 hp7 hne7 hX7 o1 b1 b2 b3 T5 hm hl2 he4 hpush
   repeat ((first
    | refine sK ?_
    | refine sC3 ?_);try simp only [Act.put,sA,sZ,sS])
   refine zn ?_
   go_wp2_with fail
   clear h1 hf
   go_roundw
   case rel=>exact ⟨j + 1,_,_,_,_,_,_,by omega,by go_num,by rw [HTK.out.1,HTK.out.2];exact T7⟩
   case measure=>simp [intOf];omega
  ·have HTE:=hid (show (l.map (·.ty)).take j=l.map (·.ty)∧(l.map (·.name)).take j=l.map (·.name) from ⟨List.take_of_length_le (by simp;omega),List.take_of_length_le (by simp;omega)⟩)
   rw [HTE.out.1,HTE.out.2] at T;have HZ2:=hid ((T.out.bel.block _ (by omega)).trans HZ.out);have o0:=(cII T.out.obj 0).trans rfl;have o1:=(cII T.out.obj 1).trans rfl;have o2:=(cII T.out.obj 2).trans rfl;have f0:=(cII HZ2.out 0).trans rfl;have f1:=(cII HZ2.out 1).trans rfl;have f2:=(cII HZ2.out 2).trans rfl;have fz:=zff HZ2.out
   go_wp2_with fail
   try simp only [Exit.inBlock,Exit.then]
   refine bodyPost_ret (v:=.agg #[.int .i64 6,.slice oe me ce,.slice on mn cn]) (by simp [results,Tryz.results64,go_sem,f0,f1,f2]) rfl ?_;refine ⟨_,rfl,store3_below HB2.out (nR _) (nR _) _ _ _,?_⟩;refine store3_tv (T.out.read (by simp;omega) (by simp;omega)) (fun h=>?_) (fun g hg=>?_) _ _ _
   ·rcases h.1 with h1 | h1 <;> omega
   ·rcases hg.1 with h1 | h1
    ·exact .inl h1
    ·exact .inr (by omega)
abbrev C5 (b:Nat) (x0 x1 x2 x3 x4:Value) (v:World):Prop:=v.cell? ⟨b,0,none⟩=some x0∧v.cell? ⟨b,1,none⟩=some x1∧v.cell? ⟨b,2,none⟩=some x2∧v.cell? ⟨b,3,none⟩=some x3∧v.cell? ⟨b,4,none⟩=some x4
theorem C5.of {b T:Nat} {x0 x1 x2 x3 x4:Value} {v:World} (h:v.heap[b]? = some (.cells #[x0,x1,x2,x3,x4] T)):C5 b x0 x1 x2 x3 x4 v:=⟨(cII h 0).trans rfl,(cII h 1).trans rfl,(cII h 2).trans rfl,(cII h 3).trans rfl,(cII h 4).trans rfl⟩
theorem C5.bel {b:Nat} {x0 x1 x2 x3 x4:Value} {v v':World} (h:C5 b x0 x1 x2 x3 x4 v) (hb:Below v.heap.size v v'):C5 b x0 x1 x2 x3 x4 v':=⟨zbb hb h.1,zbb hb h.2.1,zbb hb h.2.2.1,zbb hb h.2.2.2.1,zbb hb h.2.2.2.2⟩
theorem C5.chg {b:Nat} {x0 x1 x2 x3 x4:Value} {v v':World} {B:Nat→Prop} (h:C5 b x0 x1 x2 x3 x4 v) (hc:Chg B v v') (hn:¬ B b):C5 b x0 x1 x2 x3 x4 v':=⟨zcc hc hn h.1,zcc hc hn h.2.1,zcc hc hn h.2.2.1,zcc hc hn h.2.2.2.1,zcc hc hn h.2.2.2.2⟩
abbrev C13 (b:Nat) (x0 x1 x2 x3 x4 x5 x6 x7 x8 x9 x10 x11 x12:Value) (v:World):Prop:=v.cell? ⟨b,0,none⟩=some x0∧v.cell? ⟨b,1,none⟩=some x1∧v.cell? ⟨b,2,none⟩=some x2∧v.cell? ⟨b,3,none⟩=some x3∧v.cell? ⟨b,4,none⟩=some x4∧v.cell? ⟨b,5,none⟩=some x5∧v.cell? ⟨b,6,none⟩=some x6∧v.cell? ⟨b,7,none⟩=some x7∧v.cell? ⟨b,8,none⟩=some x8∧v.cell? ⟨b,9,none⟩=some x9∧v.cell? ⟨b,10,none⟩=some x10∧v.cell? ⟨b,11,none⟩=some x11∧v.cell? ⟨b,12,none⟩=some x12
theorem C13.of {b T:Nat} {x0 x1 x2 x3 x4 x5 x6 x7 x8 x9 x10 x11 x12:Value} {v:World} (h:v.heap[b]? = some (.cells #[x0,x1,x2,x3,x4,x5,x6,x7,x8,x9,x10,x11,x12] T)):C13 b x0 x1 x2 x3 x4 x5 x6 x7 x8 x9 x10 x11 x12 v:=⟨(cII h 0).trans rfl,(cII h 1).trans rfl,(cII h 2).trans rfl,(cII h 3).trans rfl,(cII h 4).trans rfl,(cII h 5).trans rfl,(cII h 6).trans rfl,(cII h 7).trans rfl,(cII h 8).trans rfl,(cII h 9).trans rfl,(cII h 10).trans rfl,(cII h 11).trans rfl,(cII h 12).trans rfl⟩
theorem C13.bel {b:Nat} {x0 x1 x2 x3 x4 x5 x6 x7 x8 x9 x10 x11 x12:Value} {v v':World} (h:C13 b x0 x1 x2 x3 x4 x5 x6 x7 x8 x9 x10 x11 x12 v) (hb:Below v.heap.size v v'):C13 b x0 x1 x2 x3 x4 x5 x6 x7 x8 x9 x10 x11 x12 v':=⟨zbb hb h.1,zbb hb h.2.1,zbb hb h.2.2.1,zbb hb h.2.2.2.1,zbb hb h.2.2.2.2.1,zbb hb h.2.2.2.2.2.1,zbb hb h.2.2.2.2.2.2.1,zbb hb h.2.2.2.2.2.2.2.1,zbb hb h.2.2.2.2.2.2.2.2.1,zbb hb h.2.2.2.2.2.2.2.2.2.1,zbb hb h.2.2.2.2.2.2.2.2.2.2.1,zbb hb h.2.2.2.2.2.2.2.2.2.2.2.1,zbb hb h.2.2.2.2.2.2.2.2.2.2.2.2⟩
theorem C13.chg {b:Nat} {x0 x1 x2 x3 x4 x5 x6 x7 x8 x9 x10 x11 x12:Value} {v v':World} {B:Nat→Prop} (h:C13 b x0 x1 x2 x3 x4 x5 x6 x7 x8 x9 x10 x11 x12 v) (hc:Chg B v v') (hn:¬ B b):C13 b x0 x1 x2 x3 x4 x5 x6 x7 x8 x9 x10 x11 x12 v':=⟨zcc hc hn h.1,zcc hc hn h.2.1,zcc hc hn h.2.2.1,zcc hc hn h.2.2.2.1,zcc hc hn h.2.2.2.2.1,zcc hc hn h.2.2.2.2.2.1,zcc hc hn h.2.2.2.2.2.2.1,zcc hc hn h.2.2.2.2.2.2.2.1,zcc hc hn h.2.2.2.2.2.2.2.2.1,zcc hc hn h.2.2.2.2.2.2.2.2.2.1,zcc hc hn h.2.2.2.2.2.2.2.2.2.2.1,zcc hc hn h.2.2.2.2.2.2.2.2.2.2.2.1,zcc hc hn h.2.2.2.2.2.2.2.2.2.2.2.2⟩
abbrev C22 (b:Nat) (x0 x1 x2 x3 x4 x5 x6 x7 x8 x9 x10 x11 x12 x13 x14 x15 x16 x17 x18 x19 x20 x21:Value) (v:World):Prop:=v.cell? ⟨b,0,none⟩=some x0∧v.cell? ⟨b,1,none⟩=some x1∧v.cell? ⟨b,2,none⟩=some x2∧v.cell? ⟨b,3,none⟩=some x3∧v.cell? ⟨b,4,none⟩=some x4∧v.cell? ⟨b,5,none⟩=some x5∧v.cell? ⟨b,6,none⟩=some x6∧v.cell? ⟨b,7,none⟩=some x7∧v.cell? ⟨b,8,none⟩=some x8∧v.cell? ⟨b,9,none⟩=some x9∧v.cell? ⟨b,10,none⟩=some x10∧v.cell? ⟨b,11,none⟩=some x11∧v.cell? ⟨b,12,none⟩=some x12∧v.cell? ⟨b,13,none⟩=some x13∧v.cell? ⟨b,14,none⟩=some x14∧v.cell? ⟨b,15,none⟩=some x15∧v.cell? ⟨b,16,none⟩=some x16∧v.cell? ⟨b,17,none⟩=some x17∧v.cell? ⟨b,18,none⟩=some x18∧v.cell? ⟨b,19,none⟩=some x19∧v.cell? ⟨b,20,none⟩=some x20∧v.cell? ⟨b,21,none⟩=some x21
theorem C22.of {b T:Nat} {x0 x1 x2 x3 x4 x5 x6 x7 x8 x9 x10 x11 x12 x13 x14 x15 x16 x17 x18 x19 x20 x21:Value} {v:World} (h:v.heap[b]? = some (.cells #[x0,x1,x2,x3,x4,x5,x6,x7,x8,x9,x10,x11,x12,x13,x14,x15,x16,x17,x18,x19,x20,x21] T)):C22 b x0 x1 x2 x3 x4 x5 x6 x7 x8 x9 x10 x11 x12 x13 x14 x15 x16 x17 x18 x19 x20 x21 v:=⟨(cII h 0).trans rfl,(cII h 1).trans rfl,(cII h 2).trans rfl,(cII h 3).trans rfl,(cII h 4).trans rfl,(cII h 5).trans rfl,(cII h 6).trans rfl,(cII h 7).trans rfl,(cII h 8).trans rfl,(cII h 9).trans rfl,(cII h 10).trans rfl,(cII h 11).trans rfl,(cII h 12).trans rfl,(cII h 13).trans rfl,(cII h 14).trans rfl,(cII h 15).trans rfl,(cII h 16).trans rfl,(cII h 17).trans rfl,(cII h 18).trans rfl,(cII h 19).trans rfl,(cII h 20).trans rfl,(cII h 21).trans rfl⟩
theorem C22.bel {b:Nat} {x0 x1 x2 x3 x4 x5 x6 x7 x8 x9 x10 x11 x12 x13 x14 x15 x16 x17 x18 x19 x20 x21:Value} {v v':World} (h:C22 b x0 x1 x2 x3 x4 x5 x6 x7 x8 x9 x10 x11 x12 x13 x14 x15 x16 x17 x18 x19 x20 x21 v) (hb:Below v.heap.size v v'):C22 b x0 x1 x2 x3 x4 x5 x6 x7 x8 x9 x10 x11 x12 x13 x14 x15 x16 x17 x18 x19 x20 x21 v':=⟨zbb hb h.1,zbb hb h.2.1,zbb hb h.2.2.1,zbb hb h.2.2.2.1,zbb hb h.2.2.2.2.1,zbb hb h.2.2.2.2.2.1,zbb hb h.2.2.2.2.2.2.1,zbb hb h.2.2.2.2.2.2.2.1,zbb hb h.2.2.2.2.2.2.2.2.1,zbb hb h.2.2.2.2.2.2.2.2.2.1,zbb hb h.2.2.2.2.2.2.2.2.2.2.1,zbb hb h.2.2.2.2.2.2.2.2.2.2.2.1,zbb hb h.2.2.2.2.2.2.2.2.2.2.2.2.1,zbb hb h.2.2.2.2.2.2.2.2.2.2.2.2.2.1,zbb hb h.2.2.2.2.2.2.2.2.2.2.2.2.2.2.1,zbb hb h.2.2.2.2.2.2.2.2.2.2.2.2.2.2.2.1,zbb hb h.2.2.2.2.2.2.2.2.2.2.2.2.2.2.2.2.1,zbb hb h.2.2.2.2.2.2.2.2.2.2.2.2.2.2.2.2.2.1,zbb hb h.2.2.2.2.2.2.2.2.2.2.2.2.2.2.2.2.2.2.1,zbb hb h.2.2.2.2.2.2.2.2.2.2.2.2.2.2.2.2.2.2.2.1,zbb hb h.2.2.2.2.2.2.2.2.2.2.2.2.2.2.2.2.2.2.2.2.1,zbb hb h.2.2.2.2.2.2.2.2.2.2.2.2.2.2.2.2.2.2.2.2.2⟩
theorem C22.chg {b:Nat} {x0 x1 x2 x3 x4 x5 x6 x7 x8 x9 x10 x11 x12 x13 x14 x15 x16 x17 x18 x19 x20 x21:Value} {v v':World} {B:Nat→Prop} (h:C22 b x0 x1 x2 x3 x4 x5 x6 x7 x8 x9 x10 x11 x12 x13 x14 x15 x16 x17 x18 x19 x20 x21 v) (hc:Chg B v v') (hn:¬ B b):C22 b x0 x1 x2 x3 x4 x5 x6 x7 x8 x9 x10 x11 x12 x13 x14 x15 x16 x17 x18 x19 x20 x21 v':=⟨zcc hc hn h.1,zcc hc hn h.2.1,zcc hc hn h.2.2.1,zcc hc hn h.2.2.2.1,zcc hc hn h.2.2.2.2.1,zcc hc hn h.2.2.2.2.2.1,zcc hc hn h.2.2.2.2.2.2.1,zcc hc hn h.2.2.2.2.2.2.2.1,zcc hc hn h.2.2.2.2.2.2.2.2.1,zcc hc hn h.2.2.2.2.2.2.2.2.2.1,zcc hc hn h.2.2.2.2.2.2.2.2.2.2.1,zcc hc hn h.2.2.2.2.2.2.2.2.2.2.2.1,zcc hc hn h.2.2.2.2.2.2.2.2.2.2.2.2.1,zcc hc hn h.2.2.2.2.2.2.2.2.2.2.2.2.2.1,zcc hc hn h.2.2.2.2.2.2.2.2.2.2.2.2.2.2.1,zcc hc hn h.2.2.2.2.2.2.2.2.2.2.2.2.2.2.2.1,zcc hc hn h.2.2.2.2.2.2.2.2.2.2.2.2.2.2.2.2.1,zcc hc hn h.2.2.2.2.2.2.2.2.2.2.2.2.2.2.2.2.2.1,zcc hc hn h.2.2.2.2.2.2.2.2.2.2.2.2.2.2.2.2.2.2.1,zcc hc hn h.2.2.2.2.2.2.2.2.2.2.2.2.2.2.2.2.2.2.2.1,zcc hc hn h.2.2.2.2.2.2.2.2.2.2.2.2.2.2.2.2.2.2.2.2.1,zcc hc hn h.2.2.2.2.2.2.2.2.2.2.2.2.2.2.2.2.2.2.2.2.2⟩
abbrev C31 (b:Nat) (x0 x1 x2 x3 x4 x5 x6 x7 x8 x9 x10 x11 x12 x13 x14 x15 x16 x17 x18 x19 x20 x21 x22 x23 x24 x25 x26 x27 x28 x29 x30:Value) (v:World):Prop:=v.cell? ⟨b,0,none⟩=some x0∧v.cell? ⟨b,1,none⟩=some x1∧v.cell? ⟨b,2,none⟩=some x2∧v.cell? ⟨b,3,none⟩=some x3∧v.cell? ⟨b,4,none⟩=some x4∧v.cell? ⟨b,5,none⟩=some x5∧v.cell? ⟨b,6,none⟩=some x6∧v.cell? ⟨b,7,none⟩=some x7∧v.cell? ⟨b,8,none⟩=some x8∧v.cell? ⟨b,9,none⟩=some x9∧v.cell? ⟨b,10,none⟩=some x10∧v.cell? ⟨b,11,none⟩=some x11∧v.cell? ⟨b,12,none⟩=some x12∧v.cell? ⟨b,13,none⟩=some x13∧v.cell? ⟨b,14,none⟩=some x14∧v.cell? ⟨b,15,none⟩=some x15∧v.cell? ⟨b,16,none⟩=some x16∧v.cell? ⟨b,17,none⟩=some x17∧v.cell? ⟨b,18,none⟩=some x18∧v.cell? ⟨b,19,none⟩=some x19∧v.cell? ⟨b,20,none⟩=some x20∧v.cell? ⟨b,21,none⟩=some x21∧v.cell? ⟨b,22,none⟩=some x22∧v.cell? ⟨b,23,none⟩=some x23∧v.cell? ⟨b,24,none⟩=some x24∧v.cell? ⟨b,25,none⟩=some x25∧v.cell? ⟨b,26,none⟩=some x26∧v.cell? ⟨b,27,none⟩=some x27∧v.cell? ⟨b,28,none⟩=some x28∧v.cell? ⟨b,29,none⟩=some x29∧v.cell? ⟨b,30,none⟩=some x30
theorem C31.of {b T:Nat} {x0 x1 x2 x3 x4 x5 x6 x7 x8 x9 x10 x11 x12 x13 x14 x15 x16 x17 x18 x19 x20 x21 x22 x23 x24 x25 x26 x27 x28 x29 x30:Value} {v:World} (h:v.heap[b]? = some (.cells #[x0,x1,x2,x3,x4,x5,x6,x7,x8,x9,x10,x11,x12,x13,x14,x15,x16,x17,x18,x19,x20,x21,x22,x23,x24,x25,x26,x27,x28,x29,x30] T)):C31 b x0 x1 x2 x3 x4 x5 x6 x7 x8 x9 x10 x11 x12 x13 x14 x15 x16 x17 x18 x19 x20 x21 x22 x23 x24 x25 x26 x27 x28 x29 x30 v:=⟨(cII h 0).trans rfl,(cII h 1).trans rfl,(cII h 2).trans rfl,(cII h 3).trans rfl,(cII h 4).trans rfl,(cII h 5).trans rfl,(cII h 6).trans rfl,(cII h 7).trans rfl,(cII h 8).trans rfl,(cII h 9).trans rfl,(cII h 10).trans rfl,(cII h 11).trans rfl,(cII h 12).trans rfl,(cII h 13).trans rfl,(cII h 14).trans rfl,(cII h 15).trans rfl,(cII h 16).trans rfl,(cII h 17).trans rfl,(cII h 18).trans rfl,(cII h 19).trans rfl,(cII h 20).trans rfl,(cII h 21).trans rfl,(cII h 22).trans rfl,(cII h 23).trans rfl,(cII h 24).trans rfl,(cII h 25).trans rfl,(cII h 26).trans rfl,(cII h 27).trans rfl,(cII h 28).trans rfl,(cII h 29).trans rfl,(cII h 30).trans rfl⟩
theorem C31.bel {b:Nat} {x0 x1 x2 x3 x4 x5 x6 x7 x8 x9 x10 x11 x12 x13 x14 x15 x16 x17 x18 x19 x20 x21 x22 x23 x24 x25 x26 x27 x28 x29 x30:Value} {v v':World} (h:C31 b x0 x1 x2 x3 x4 x5 x6 x7 x8 x9 x10 x11 x12 x13 x14 x15 x16 x17 x18 x19 x20 x21 x22 x23 x24 x25 x26 x27 x28 x29 x30 v) (hb:Below v.heap.size v v'):C31 b x0 x1 x2 x3 x4 x5 x6 x7 x8 x9 x10 x11 x12 x13 x14 x15 x16 x17 x18 x19 x20 x21 x22 x23 x24 x25 x26 x27 x28 x29 x30 v':=⟨zbb hb h.1,zbb hb h.2.1,zbb hb h.2.2.1,zbb hb h.2.2.2.1,zbb hb h.2.2.2.2.1,zbb hb h.2.2.2.2.2.1,zbb hb h.2.2.2.2.2.2.1,zbb hb h.2.2.2.2.2.2.2.1,zbb hb h.2.2.2.2.2.2.2.2.1,zbb hb h.2.2.2.2.2.2.2.2.2.1,zbb hb h.2.2.2.2.2.2.2.2.2.2.1,zbb hb h.2.2.2.2.2.2.2.2.2.2.2.1,zbb hb h.2.2.2.2.2.2.2.2.2.2.2.2.1,zbb hb h.2.2.2.2.2.2.2.2.2.2.2.2.2.1,zbb hb h.2.2.2.2.2.2.2.2.2.2.2.2.2.2.1,zbb hb h.2.2.2.2.2.2.2.2.2.2.2.2.2.2.2.1,zbb hb h.2.2.2.2.2.2.2.2.2.2.2.2.2.2.2.2.1,zbb hb h.2.2.2.2.2.2.2.2.2.2.2.2.2.2.2.2.2.1,zbb hb h.2.2.2.2.2.2.2.2.2.2.2.2.2.2.2.2.2.2.1,zbb hb h.2.2.2.2.2.2.2.2.2.2.2.2.2.2.2.2.2.2.2.1,zbb hb h.2.2.2.2.2.2.2.2.2.2.2.2.2.2.2.2.2.2.2.2.1,zbb hb h.2.2.2.2.2.2.2.2.2.2.2.2.2.2.2.2.2.2.2.2.2.1,zbb hb h.2.2.2.2.2.2.2.2.2.2.2.2.2.2.2.2.2.2.2.2.2.2.1,zbb hb h.2.2.2.2.2.2.2.2.2.2.2.2.2.2.2.2.2.2.2.2.2.2.2.1,zbb hb h.2.2.2.2.2.2.2.2.2.2.2.2.2.2.2.2.2.2.2.2.2.2.2.2.1,zbb hb h.2.2.2.2.2.2.2.2.2.2.2.2.2.2.2.2.2.2.2.2.2.2.2.2.2.1,zbb hb h.2.2.2.2.2.2.2.2.2.2.2.2.2.2.2.2.2.2.2.2.2.2.2.2.2.2.1,zbb hb h.2.2.2.2.2.2.2.2.2.2.2.2.2.2.2.2.2.2.2.2.2.2.2.2.2.2.2.1,zbb hb h.2.2.2.2.2.2.2.2.2.2.2.2.2.2.2.2.2.2.2.2.2.2.2.2.2.2.2.2.1,zbb hb h.2.2.2.2.2.2.2.2.2.2.2.2.2.2.2.2.2.2.2.2.2.2.2.2.2.2.2.2.2.1,zbb hb h.2.2.2.2.2.2.2.2.2.2.2.2.2.2.2.2.2.2.2.2.2.2.2.2.2.2.2.2.2.2⟩
theorem C31.chg {b:Nat} {x0 x1 x2 x3 x4 x5 x6 x7 x8 x9 x10 x11 x12 x13 x14 x15 x16 x17 x18 x19 x20 x21 x22 x23 x24 x25 x26 x27 x28 x29 x30:Value} {v v':World} {B:Nat→Prop} (h:C31 b x0 x1 x2 x3 x4 x5 x6 x7 x8 x9 x10 x11 x12 x13 x14 x15 x16 x17 x18 x19 x20 x21 x22 x23 x24 x25 x26 x27 x28 x29 x30 v) (hc:Chg B v v') (hn:¬ B b):C31 b x0 x1 x2 x3 x4 x5 x6 x7 x8 x9 x10 x11 x12 x13 x14 x15 x16 x17 x18 x19 x20 x21 x22 x23 x24 x25 x26 x27 x28 x29 x30 v':=⟨zcc hc hn h.1,zcc hc hn h.2.1,zcc hc hn h.2.2.1,zcc hc hn h.2.2.2.1,zcc hc hn h.2.2.2.2.1,zcc hc hn h.2.2.2.2.2.1,zcc hc hn h.2.2.2.2.2.2.1,zcc hc hn h.2.2.2.2.2.2.2.1,zcc hc hn h.2.2.2.2.2.2.2.2.1,zcc hc hn h.2.2.2.2.2.2.2.2.2.1,zcc hc hn h.2.2.2.2.2.2.2.2.2.2.1,zcc hc hn h.2.2.2.2.2.2.2.2.2.2.2.1,zcc hc hn h.2.2.2.2.2.2.2.2.2.2.2.2.1,zcc hc hn h.2.2.2.2.2.2.2.2.2.2.2.2.2.1,zcc hc hn h.2.2.2.2.2.2.2.2.2.2.2.2.2.2.1,zcc hc hn h.2.2.2.2.2.2.2.2.2.2.2.2.2.2.2.1,zcc hc hn h.2.2.2.2.2.2.2.2.2.2.2.2.2.2.2.2.1,zcc hc hn h.2.2.2.2.2.2.2.2.2.2.2.2.2.2.2.2.2.1,zcc hc hn h.2.2.2.2.2.2.2.2.2.2.2.2.2.2.2.2.2.2.1,zcc hc hn h.2.2.2.2.2.2.2.2.2.2.2.2.2.2.2.2.2.2.2.1,zcc hc hn h.2.2.2.2.2.2.2.2.2.2.2.2.2.2.2.2.2.2.2.2.1,zcc hc hn h.2.2.2.2.2.2.2.2.2.2.2.2.2.2.2.2.2.2.2.2.2.1,zcc hc hn h.2.2.2.2.2.2.2.2.2.2.2.2.2.2.2.2.2.2.2.2.2.2.1,zcc hc hn h.2.2.2.2.2.2.2.2.2.2.2.2.2.2.2.2.2.2.2.2.2.2.2.1,zcc hc hn h.2.2.2.2.2.2.2.2.2.2.2.2.2.2.2.2.2.2.2.2.2.2.2.2.1,zcc hc hn h.2.2.2.2.2.2.2.2.2.2.2.2.2.2.2.2.2.2.2.2.2.2.2.2.2.1,zcc hc hn h.2.2.2.2.2.2.2.2.2.2.2.2.2.2.2.2.2.2.2.2.2.2.2.2.2.2.1,zcc hc hn h.2.2.2.2.2.2.2.2.2.2.2.2.2.2.2.2.2.2.2.2.2.2.2.2.2.2.2.1,zcc hc hn h.2.2.2.2.2.2.2.2.2.2.2.2.2.2.2.2.2.2.2.2.2.2.2.2.2.2.2.2.1,zcc hc hn h.2.2.2.2.2.2.2.2.2.2.2.2.2.2.2.2.2.2.2.2.2.2.2.2.2.2.2.2.2.1,zcc hc hn h.2.2.2.2.2.2.2.2.2.2.2.2.2.2.2.2.2.2.2.2.2.2.2.2.2.2.2.2.2.2⟩
def IV (P:Nat→Prop) (w:World) (v:Value) (i:Inst):Prop:=∃ k n s oi mi ci ok mk ck od cd,v=.agg #[.string i.addr,.string i.deposed,.string i.id,.string i.type,.int .i64 k,.int .i64 n,.string s,.slice oi mi ci,.slice ok mk ck,.int .i64 i.version,.bool i.tainted,.bool i.createFirst,.slice od i.deps.length cd] ∧
 VV P w (.agg #[.int .i64 k,.int .i64 n,.string s,.slice oi mi ci,.slice ok mk ck]) i.attrs∧SV P w (.slice od i.deps.length cd) i.deps
def CHV (P:Nat→Prop) (w:World) (v:Value) (c:Chg'):Prop:=∃ k n s oi mi ci ok mk ck k' n' s' oi' mi' ci' ok' mk' ck' oR cR od cd oo co,v=.agg #[.string c.addr,.string c.deposed,.string c.type,.int .i64 c.action,.int .i64 c.reason,.int .i64 k,.int .i64 n,.string s,.slice oi mi ci,.slice ok mk ck,.int .i64 k',.int .i64 n',.string s',.slice oi' mi' ci',.slice ok' mk' ck',.string c.id,.slice oR c.replace.length cR,.bool c.createFirst,.bool c.protect,.bool c.imp,.slice od c.deps.length cd,.slice oo c.oldDeps.length co] ∧
 VV P w (.agg #[.int .i64 k,.int .i64 n,.string s,.slice oi mi ci,.slice ok mk ck]) c.before∧VV P w (.agg #[.int .i64 k',.int .i64 n',.string s',.slice oi' mi' ci',.slice ok' mk' ck']) c.after∧SV P w (.slice oR c.replace.length cR) c.replace∧SV P w (.slice od c.deps.length cd) c.deps∧SV P w (.slice oo c.oldDeps.length co) c.oldDeps
section
variable {P Q:Nat→Prop} {w w':World} {v:Value}
theorem IV.keep {i:Inst} (h:IV P w v i) (k:ZK P w w') (hq:∀ g,P g→Q g):IV Q w' v i:=by
 obtain ⟨_,_,_,_,_,_,_,_,_,_,_,e,h1,h2⟩:=h;exact ⟨_,_,_,_,_,_,_,_,_,_,_,e,h1.keep k hq,h2.keep k hq⟩
theorem IV.bel {i:Inst} (h:IV P w v i) (hb:Below w.heap.size w w'):IV P w' v i:=h.keep (ZK.below hb) fun _ h=>h
theorem CHV.keep {c:Chg'} (h:CHV P w v c) (k:ZK P w w') (hq:∀ g,P g→Q g):CHV Q w' v c:=by
 obtain ⟨_,_,_,_,_,_,_,_,_,_,_,_,_,_,_,_,_,_,_,_,_,_,_,_,e,h1,h2,h3,h4,h5⟩:=h;exact ⟨_,_,_,_,_,_,_,_,_,_,_,_,_,_,_,_,_,_,_,_,_,_,_,_,e,h1.keep k hq,h2.keep k hq,h3.keep k hq,h4.keep k hq,h5.keep k hq⟩
theorem CHV.bel {c:Chg'} (h:CHV P w v c) (hb:Below w.heap.size w w'):CHV P w' v c:=h.keep (ZK.below hb) fun _ h=>h
theorem SV.mono {l:List ByteArray} (h:SV P w v l) (hq:∀ g,P g→Q g):SV Q w v l:=h.keep (ZK.refl P w) hq
theorem VV.zero (P:Nat→Prop) (w:World):VV P w (.agg #[.int .i64 0,.int .i64 0,.string ⟨#[]⟩,.slice none 0 0,.slice none 0 0]) nullV:=VV.mk' (by decide) ⟨⟨by simp,.inl ⟨rfl,_,_,rfl⟩⟩,fun s h=>by cases h⟩ (WV.nil P w)
theorem SV.zero (P:Nat→Prop) (w:World):SV P w (.slice none 0 0) []:=⟨⟨by simp,.inl ⟨rfl,_,_,rfl⟩⟩,fun s h=>by cases h⟩
end
theorem zo {Pr:Program} {ops:Array Oper} {rest:List Oper} {op:Oper} {a:Act} {w:World} {Q:Exit→Act→World→Prop} (hgd:op.guard=none) (ty:TypeId) (x y:Operand) (ho:op.op=.store ty x y)
  (b o:Nat) (cells:List Value) (hx:a.eval x=.pointer (some ⟨b,o,none⟩)) (hy:a.eval y=.agg cells.toArray) (cur:List Value) (T:Nat) (hobj:w.heap[b]? = some (.cells cur.toArray T)) (hl:o + cells.length≤cur.length)
  (hi:(Pr.info? ty).map (·.size)=some cells.length) (h1:cells.all (·.oneCell')=true)
  (h:∀ w',w'.heap[b]? = some (.cells (cur.take o ++ cells ++ cur.drop (o + cells.length)).toArray T)→Chg (fun k=>k=b) w w'→wpList Pr ops Q rest (a.put op.dst undef) w'):wpList Pr ops Q (op :: rest) a w :=
 wpList_store_mid hgd ty x y ho b o cells.toArray hx hy (fun j hj=>by
  have hj':j < cells.length:=by simpa using hj
  refine ⟨?_,zff hobj _⟩;rw [cII hobj]
  simp;omega) (by simpa using hi) (by simpa using h1) (h _ (heap_setCells cells o cur T (0,0) w hobj hl) (Chg.setCells _ _ _ _ rfl))
theorem zq {Pr:Program} {op:Oper} {a:Act} {w:World} {K:Act→World→Prop} {Q:Exit→Act→World→Prop} (ty:TypeId) (x y:Operand) (ho:op.op=.store ty x y)
  (b o:Nat) (cells:List Value) (hx:a.eval x=.pointer (some ⟨b,o,none⟩)) (hy:a.eval y=.agg cells.toArray) (cur:List Value) (T:Nat) (hobj:w.heap[b]? = some (.cells cur.toArray T)) (hl:o + cells.length≤cur.length)
  (hi:(Pr.info? ty).map (·.size)=some cells.length) (h1:cells.all (·.oneCell')=true)
  (h:∀ w',w'.heap[b]? = some (.cells (cur.take o ++ cells ++ cur.drop (o + cells.length)).toArray T)→Chg (fun k=>k=b) w w'→K (a.put op.dst undef) w'):op.wp Pr a w K Q :=
 wp_store_mid ty x y ho b o cells.toArray hx hy (fun j hj=>by
  have hj':j < cells.length:=by simpa using hj
  refine ⟨?_,zff hobj _⟩;rw [cII hobj]
  simp;omega) (by simpa using hi) (by simpa using h1) (h _ (heap_setCells cells o cur T (0,0) w hobj hl) (Chg.setCells _ _ _ _ rfl))
theorem store_one (ty:TypeId) (p v:Value) (hv:v.oneCell'=true):Instr.storeAt ty p v=Instr.storeAt ty p (.agg #[v]):=by
 have h:v.cells=#[v]:=by cases v <;> first | rfl | simp [Value.oneCell'] at hv
 unfold Instr.storeAt storeVar;rw [h]
 rfl
theorem wp_store_one {Pr:Program} {op:Oper} {a:Act} {w:World} {K:Act→World→Prop} {Q:Exit→Act→World→Prop} (ty:TypeId) (x y:Operand) (ho:op.op=.store ty x y)
  (b o:Nat) (v:Value) (hx:a.eval x=.pointer (some ⟨b,o,none⟩)) (hy:a.eval y=v) (cur:List Value) (T:Nat) (hobj:w.heap[b]? = some (.cells cur.toArray T)) (hl:o < cur.length)
  (hi:(Pr.info? ty).map (·.size)=some 1) (h1:v.oneCell'=true)
  (h:∀ w',w'.heap[b]? = some (.cells (cur.take o ++ [v] ++ cur.drop (o + 1)).toArray T)→Chg (fun k=>k=b) w w'→K (a.put op.dst undef) w'):op.wp Pr a w K Q:=by
 have hr:(Instr.storeAt ty (.pointer (some ⟨b,o,none⟩)) v).run Pr w=.ok () (w.setCells b o [v]):=by
  rw [store_one ty _ v h1];refine run_storeAt_mid w b o ty #[v] (fun j hj=>?_) (by simpa using hi) (by simpa using h1)
  have hj':j < 1:=by simpa using hj
  refine ⟨?_,zff hobj _⟩;rw [cII hobj];simp;omega
 unfold Oper.wp execOp;simp only [ho,hx,hy,Sem.run_bind,hr,Result.andThen_ok,Sem.run_pure];exact h _ (heap_setCells [v] o cur T (0,0) w hobj hl) (Chg.setCells _ _ _ _ rfl)
theorem z1s {Pr:Program} {ops:Array Oper} {rest:List Oper} {op:Oper} {a:Act} {w:World} {Q:Exit→Act→World→Prop} (hgd:op.guard=none) (ty:TypeId) (x y:Operand) (ho:op.op=.store ty x y)
  (b o:Nat) (v:Value) (hx:a.eval x=.pointer (some ⟨b,o,none⟩)) (hy:a.eval y=v) (cur:List Value) (T:Nat) (hobj:w.heap[b]? = some (.cells cur.toArray T)) (hl:o < cur.length)
  (hi:(Pr.info? ty).map (·.size)=some 1) (h1:v.oneCell'=true)
  (h:∀ w',w'.heap[b]? = some (.cells (cur.take o ++ [v] ++ cur.drop (o + 1)).toArray T)→Chg (fun k=>k=b) w w'→wpList Pr ops Q rest (a.put op.dst undef) w'):wpList Pr ops Q (op :: rest) a w :=
 wpList_plain hgd fun _ hK=>wp_store_one ty x y ho b o v hx hy cur T hobj hl hi h1 fun w' a1 a2=>hK _ _ (h w' a1 a2)
abbrev zero22:Obj:=.cells #[.string ⟨#[]⟩,.string ⟨#[]⟩,.string ⟨#[]⟩,.int .i64 0,.int .i64 0,.int .i64 0,.int .i64 0,.string ⟨#[]⟩,.slice none 0 0,.slice none 0 0,.int .i64 0,.int .i64 0,.string ⟨#[]⟩,.slice none 0 0,.slice none 0 0,.string ⟨#[]⟩,.slice none 0 0,.bool false,.bool false,.bool false,.slice none 0 0,.slice none 0 0] 46
theorem zrt {Pr:Program} {fn:Func} {p u:Tmp} {ty:TypeId} (h:fn.results=#[.cell p ty,.tmp u]) (tmps:Array Value) (w:World) (g:Nat) (t:TypeId) (cs:Array Value) (fr:Nat × Nat) (d:TypeDesc)
  (hp:tmps.getD p undef=.pointer (some ⟨g,0,none⟩)) (hg:w.heap[g]? = some (.cells cs t fr)) (hu:Pr.underlying ty=some d) (hd:(match d with | .struct _ | .array _ _=>true | _=>false)=true) (hi:(Pr.info? ty).map (·.size)=some cs.size) :
  (results fn tmps).run Pr w=.ok (.tuple #[.agg cs,tmps.getD u undef]) w:=by
 rw [results_cell_tmp h,hp];simp [asAddr,run_loadVar_row w g t ty cs fr d hg hu hd hi,Result.andThen]
theorem getRL_hit {ks:List ByteArray} {is:List Vl} {j:Nat} (h:j < ks.length) (h2:j < is.length):getRL (ks.drop j) (is.drop j) ks[j]=some is[j]:=by
 rw [List.drop_eq_getElem_cons h,List.drop_eq_getElem_cons h2,getRL,if_pos rfl]
theorem getRL_miss {ks:List ByteArray} {is:List Vl} {x:ByteArray} {j:Nat} (h:j < ks.length) (h2:j < is.length) (hn:ks[j]≠x):getRL (ks.drop j) (is.drop j) x=getRL (ks.drop (j + 1)) (is.drop (j + 1)) x:=by
 rw [List.drop_eq_getElem_cons h,List.drop_eq_getElem_cons h2,getRL,if_neg hn]
theorem getRL_end {ks:List ByteArray} {is:List Vl} {x:ByteArray} {j:Nat} (h:ks.length≤j∨is.length≤j):getRL (ks.drop j) (is.drop j) x=none:=by
 rcases h with h | h
 ·rw [List.drop_of_length_le h,getRL]
 ·rw [List.drop_of_length_le h]
  cases ks.drop j <;> rw [getRL]
def RGetPost (P:Nat→Prop) (o:Option Vl) (w:World) (e:Ending) (w':World):Prop:=∃ u,e=.returned (.tuple #[u,.bool o.isSome])∧VV P w' u (o.getD nullV)∧Below w.heap.size w w'
theorem rget_any (v:Vl) (x:ByteArray) (P:Nat→Prop) (w:World) (u:Value) (hv:VV P w u v) (hP:∀ g,P g→g < w.heap.size):Calls Tryz.prog 18 #[u,.string x] w (RGetPost P (getR v x) w):=by
 obtain ⟨k,n,s,is,ks⟩:=v;obtain ⟨vi,vk,rfl,hI,hK,hss⟩:=hv.out;obtain ⟨oi,ci,rfl⟩:=hI.len;obtain ⟨ok,ck,rfl⟩:=hK.len;have hli:=hI.le;have hlk:=hK.le;generalize hA:w.alloc (.cells #[.int .i64 k,.int .i64 n,.string s,.slice oi is.length ci,.slice ok ks.length ck] 32)=wa
 have hao:wa.heap[w.heap.size]? = some (.cells #[.int .i64 k,.int .i64 n,.string s,.slice oi is.length ci,.slice ok ks.length ck] 32):=by rw [← hA];exact zhh w _
 have has:wa.heap.size=w.heap.size + 1:=by rw [← hA];simp
 have hab:Below w.heap.size w wa:=by rw [← hA];exact (Below.refl _ _).alloc (nR _) _
 generalize hB:wa.alloc zero5=wb
 have hbo:wb.heap[w.heap.size + 1]? = some zero5:=by rw [← hB,← has];exact zhh wa _
 have hbs:wb.heap.size=w.heap.size + 2:=by rw [← hB];simp [has]
 have hbb:Below wa.heap.size wa wb:=by rw [← hB];exact (Below.refl _ _).alloc (nR _) _
 have HA0:=hid hA;have HB0:=hid hB;have HB:=hid (hab.trans (hbb.mono hab.size));have HS:=hid hbs;have HZ:=hid hbo;have HXA:=hid (kO hao hbb);have HI:=hid (hI.bel HB.out);have HK:=hid (hK.bel HB.out);have HPL:=hid hP;clear hA hB hao has hab hbo hbs hbb hI hK hv hP;obtain ⟨a0,a1,a2,a3,a4⟩:=C5.of HXA.out
 by_cases hk:k=5
 case neg =>
  have HG:Hid (getR (.mk k n s is ks) x=none):=hid (by rw [getR];exact if_neg hk);have d1:decide (k=5)=false:=dF hk;have d2:(k == 5)=false:=bF hk
  have d3:(k != 5)=true:=by rw [bne,d2];rfl
  clear hk
  go_enter Tryz.func18,Tryz.ntmps18
  go_upto_region 1 with (fail)
  rw [HA0.out,HB0.out]
  go_wp2_with (refine zo rfl 32 _ _ rfl (w.heap.size + 1) 0 [_,_,_,_,_] rfl rfl _ _ HZ.out (by simp) (by kernel_rfl) rfl ?_;intro ws hzs hcs)
  try simp only [Exit.inBlock,Exit.then]
  refine bodyPost_ret (zrt rfl _ ws (w.heap.size + 1) 32 _ (0,0) _ rfl hzs Tryz.underlying32 rfl (by kernel_rfl)) rfl ?_;rw [HG.out];exact ⟨_,rfl,VV.zero _ _,HB.out.trans (zgg hcs (fun k hk=>by omega) HB.out.size)⟩
 subst hk;have HG:Hid (getR (.mk 5 n s is ks) x=getRL ks is x):=hid (by rw [getR];exact if_pos rfl)
 go_enter Tryz.func18,Tryz.ntmps18
 go_upto_region 1 with (fail)
 rw [HA0.out,HB0.out]
 go_wp2_with fail
 go_loopw [6] (fun i wr=>∃ (j:Nat),j≤ks.length∧i=.int .i64 j∧wb=wr∧Hid (getRL ks is x=getRL (ks.drop j) (is.drop j) x)) (fun i _=>ks.length - (intOf i).toNat)
 case atStart=>exact ⟨0,Nat.zero_le _,rfl,rfl,hid rfl⟩
 case round =>
  obtain ⟨j,hj,rfl,rfl,HR⟩:=hrel
  by_cases hlt:j < ks.length
  ·by_cases hlt2:j < is.length
   ·obtain ⟨g,o,c,e1,b1⟩:=HK.out.at hlt
    cases e1
    have hj0:(0:Int)≤(j:Int):=by omega
    have hj1:(j:Int) < (ks.length:Int):=by omega
    have hj2:(j:Int) < (is.length:Int):=by omega
    have HM:=hid (fun hn=>getRL_miss (x:=x) hlt hlt2 hn);have HH:=hid (getRL_hit hlt hlt2);obtain ⟨y,hy⟩:∃ y,ks[j]=y:=⟨_,rfl⟩;rw [hy] at HM HH b1;clear hy
    by_cases hxy:y=x
    ·subst hxy
     obtain ⟨g2,o2,c2,k1,n1,s1,oi1,mi1,ci1,ok1,mk1,ck1,e2,q0,q1,q2,q3,q4,hT,-⟩:=HI.out.at hlt2
     cases e2
     have HE:=hid (HG.out.trans (HR.out.trans HH.out));have HT:=hid hT;clear hT HG HM HH HR
     go_wp2_with (refine zo rfl 32 _ _ rfl (w.heap.size + 1) 0 [_,_,_,_,_] rfl rfl _ _ HZ.out (by simp) (by kernel_rfl) rfl ?_;intro ws hzs hcs)
     try simp only [Exit.inBlock,Exit.then]
     refine bodyPost_ret (zrt rfl _ ws (w.heap.size + 1) 32 _ (0,0) _ rfl hzs Tryz.underlying32 rfl (by kernel_rfl)) rfl ?_;rw [HE.out];exact ⟨_,rfl,HT.out.keep (ZK.chg hcs fun g hg e=>by have:=HPL.out g hg;omega) (fun g hg=>hg),HB.out.trans (zgg hcs (fun k hk=>by omega) HB.out.size)⟩
    ·obtain ⟨f1,f2⟩:=str_ne hxy
     have f3:=str_ne2 hxy;have HE:=hid (HR.out.trans (HM.out hxy));clear hxy HM HH
     go_wp2_with fail
     go_roundw
     case rel=>exact ⟨j + 1,by omega,by go_num,trivial,HE⟩
     case measure=>simp [intOf];omega
   ·have HE:=hid (HG.out.trans (HR.out.trans (getRL_end (.inr (by omega)))))
    clear HG HR
    go_wp2_with (refine zo rfl 32 _ _ rfl (w.heap.size + 1) 0 [_,_,_,_,_] rfl rfl _ _ HZ.out (by simp) (by kernel_rfl) rfl ?_;intro ws hzs hcs)
    try simp only [Exit.inBlock,Exit.then]
    refine bodyPost_ret (zrt rfl _ ws (w.heap.size + 1) 32 _ (0,0) _ rfl hzs Tryz.underlying32 rfl (by kernel_rfl)) rfl ?_;rw [HE.out];exact ⟨_,rfl,VV.zero _ _,HB.out.trans (zgg hcs (fun k hk=>by omega) HB.out.size)⟩
  ·have HE:=hid (HG.out.trans (HR.out.trans (getRL_end (.inl (by omega)))))
   clear HG HR
   go_wp2_with (refine zo rfl 32 _ _ rfl (w.heap.size + 1) 0 [_,_,_,_,_] rfl rfl _ _ HZ.out (by simp) (by kernel_rfl) rfl ?_;intro ws hzs hcs)
   try simp only [Exit.inBlock,Exit.then]
   refine bodyPost_ret (zrt rfl _ ws (w.heap.size + 1) 32 _ (0,0) _ rfl hzs Tryz.underlying32 rfl (by kernel_rfl)) rfl ?_;rw [HE.out];exact ⟨_,rfl,VV.zero _ _,HB.out.trans (zgg hcs (fun k hk=>by omega) HB.out.size)⟩
theorem addN_fst (p:List ByteArray × List Ty) (n:Ne):(addN p n).1=p.1.insertIdx (posN p.1 n.name) n.name:=rfl
theorem addN_snd (p:List ByteArray × List Ty) (n:Ne):(addN p n).2=p.2.insertIdx (posN p.1 n.name) (.mk 4 [objT n.attrs] []):=rfl
def typJ (s:Sc) (j:Nat):List ByteArray × List Ty:=(s.nested.take j).foldl addN (s.attrs.map (·.name),s.attrs.map (·.ty))
theorem typJ_zero (s:Sc):typJ s 0=(s.attrs.map (·.name),s.attrs.map (·.ty)):=by simp [typJ]
theorem typJ_succ (s:Sc) {j:Nat} (h:j < s.nested.length):typJ s (j + 1)=addN (typJ s j) s.nested[j]:=by
 rw [typJ,List.take_add_one,lG h,List.foldl_append];rfl
theorem typJ_end (s:Sc) {j:Nat} (h:s.nested.length≤j):typJ s j=typS s:=by rw [typJ,List.take_of_length_le h];rfl
theorem typJ_len (s:Sc):∀ j,j≤s.nested.length→(typJ s j).1.length=s.attrs.length + j∧(typJ s j).2.length=s.attrs.length + j
 | 0,_=>by rw [typJ_zero];simp
 | j + 1,h=>by
  obtain ⟨h1,h2⟩:=typJ_len s j (by omega);have:=posN_le (typJ s j).1 s.nested[j].name;rw [typJ_succ s (by omega),addN_fst,addN_snd,List.length_insertIdx_of_le_length (by omega),List.length_insertIdx_of_le_length (by omega)]
  omega
theorem lv_one {P:Nat→Prop} {w:World} {g:Nat} {x y z:Value} {t:Ty} (hp:P g) (h:w.heap[g]? = some (.cells #[x,y,z] 61)) (ht:TV P w (.agg #[x,y,z]) t):LV P w (.slice (some ⟨g,0,none⟩) 1 1) [t]:=by
 refine ⟨[(x,y,z)],⟨by simp,.inr ⟨g,0,1,hp,rfl,fun i r hr=>?_⟩⟩,rfl,fun i r e hr he=>?_⟩
 ·have hi:i < 1:=(List.getElem?_eq_some_iff.1 hr).1
  obtain rfl:i=0:=by omega
  cases hr
  exact ⟨(cII h 0).trans rfl,(cII h 1).trans rfl,(cII h 2).trans rfl⟩
 ·have hi:i < 1:=(List.getElem?_eq_some_iff.1 hr).1
  obtain rfl:i=0:=by omega
  cases hr
  cases he
  exact ht
theorem type_any (s:Sc) (P:Nat→Prop) (w:World) (va vn:Value) (hs:SCV P w va vn s) (hok:ScOk s) :
  Calls Tryz.prog 89 #[.agg #[va,vn]] w (ObjPost 6 (typS s).2 (typS s).1 w):=by
 obtain ⟨oa,ca,rfl⟩:=hs.1.len;obtain ⟨on,cn,rfl⟩:=hs.2.len;have hla:=hs.1.le;have hlk:=hs.2.le;have HOK:=hid hok;have HLE:=hid (show s.attrs.length≤1000∧s.nested.length≤1000 from ⟨hok.1,hok.2.1⟩);generalize hA:w.alloc (.cells #[.slice oa s.attrs.length ca,.slice on s.nested.length cn] 25)=wa
 have hao:wa.heap[w.heap.size]? = some (.cells #[.slice oa s.attrs.length ca,.slice on s.nested.length cn] 25):=by rw [← hA];exact zhh w _
 have has:wa.heap.size=w.heap.size + 1:=by rw [← hA];simp
 have hab:Below w.heap.size w wa:=by rw [← hA];exact (Below.refl _ _).alloc (nR _) _
 have hT:=zhh wa zero3;have hbb:Below wa.heap.size wa (wa.alloc zero3):=(Below.refl _ _).alloc (nR _) _
 have hbs:(wa.alloc zero3).heap.size=w.heap.size + 2:=by simp [has]
 rw [has] at hT;generalize hB:wa.alloc zero3=wb at hT hbb hbs;have hall:Below w.heap.size w wb:=hab.trans (hbb.mono hab.size);have HA0:=hid hA;have HB0:=hid hB;have HB:=hid hall;have HS:=hid hbs;have HZ:=hid hT;have HA:=hid ((hbb.block _ (by omega)).trans hao);have HAT:=hid hs.1;have HNE:=hid hs.2;have HOC:=hid (object_any s.attrs P wb _ (hs.1.bel hall) hok.1 hok.2.2.1);clear hs hok hA hB hT hbb hbs hall hao has hab;have a0:=(cII HA.out 0).trans rfl
 go_enter Tryz.func89,Tryz.ntmps89
 go_upto_region 1 with (fail)
 rw [HA0.out,HB0.out]
 go_wp2_with fail
 clear a0;refine HOC.out.mono ?_;rintro e w2 ⟨ve,vn,box,rfl,hb2,hown,hrow,hsep,hstr⟩;obtain ⟨oe,ce,e1⟩:=hown.slice2;obtain ⟨on2,cn2,e2⟩:=hrow.slice;rw [List.length_map] at e1 e2;subst e1 e2
 go_upto_region 2 with (fail)
 generalize hW:w2.alloc (.cells #[.int .i64 6,.slice oe s.attrs.length ce,.slice on2 s.attrs.length cn2] 61)=w3
 have hal:Below w2.heap.size w2 w3:=by rw [← hW];exact (Below.refl _ _).alloc (nR _) _
 have hob:w3.heap[w2.heap.size]? = some (.cells #[.int .i64 6,.slice oe s.attrs.length ce,.slice on2 s.attrs.length cn2] 61):=by rw [← hW];exact zhh w2 _
 have HT:Hid (TB (w.heap.size + 2) w2.heap.size wb w3 6 (.slice oe s.attrs.length ce) (.slice on2 s.attrs.length cn2) (s.attrs.map (·.ty)) (s.attrs.map (·.name))):=hid (by
  have h0:=HS.out;have h1:=hb2.size;refine ⟨by omega,by rw [← h0];exact hb2.trans (hal.mono hb2.size),by omega,hob,?_,fun e=>?_,hrow.of_same fun g hg=>hal.block g (hrow.lt hg),fun g e=>⟨?_,fun e2=>?_,(hsep g e).2⟩,hstr⟩
  ·rw [← h0]
   exact (hown.re (nR _) fun g hg hlt=>⟨hg,by omega⟩).later hal
  ·have:=(hown.block e).2;omega
  ·have:=(hsep g e).1;omega
  ·have:=hrow.lt e;omega)
 have HX3:=hid (show w.heap.size + 2≤w2.heap.size by have:=HS.out;have:=hb2.size;omega);clear hb2 hown hrow hsep hstr hW hal hob HOC;have HA2:=hid ((HT.out.bel.block _ (by omega)).trans HA.out);have a1:=(cII HA2.out 1).trans rfl
 go_wp2_with fail
 clear a1
 go_loopw [14] (fun i wr=>∃ (j:Nat) (oe:Option Addr) (me ce:Nat) (on:Option Addr) (mn cn:Nat),j≤s.nested.length∧i=.int .i64 j∧Hid (TB (w.heap.size + 2) w2.heap.size wb wr 6 (.slice oe me ce) (.slice on mn cn) (typJ s j).2 (typJ s j).1)) (fun i _=>s.nested.length - (intOf i).toNat)
 case atStart=>exact ⟨0,_,_,_,_,_,_,Nat.zero_le _,rfl,by rw [typJ_zero];exact HT⟩
 case round =>
  clear HT HA2;obtain ⟨j,oe,me,ce,on,mn,cn,hj,rfl,T⟩:=hrel;have HB2:=hid (HB.out.trans (T.out.bel.mono (by omega)))
  by_cases hlt:j < s.nested.length
  ·obtain ⟨g,o,c,oa1,ca1,-,e1,a0,a1,a2,a3,a4,hAV,hnm⟩:=HNE.out.at hlt
   cases e1
   replace a0:=zbb HB2.out a0;replace a1:=zbb HB2.out a1;replace a2:=zbb HB2.out a2;replace a3:=zbb HB2.out a3;replace a4:=zbb HB2.out a4
   have hj0:(0:Int)≤(j:Int):=by omega
   have hj1:(j:Int) < (s.nested.length:Int):=by omega
   have HTK:=hid (typJ_succ s hlt);have HLN:=hid (typJ_len s j hj);have hob:=HOK.out.2.2.2 _ (lM hlt);have HAV:=hid hAV
   generalize s.nested[j]=at' at *
   obtain ⟨nm,nmn,nmx,ats,rp⟩:=at';simp only at a0 a1 a2 a3 a4 HAV HTK hnm hob;rw [show typJ s (j + 1)=((typJ s (j + 1)).1,(typJ s (j + 1)).2) from rfl,Prod.mk.injEq,addN_fst,addN_snd] at HTK
   generalize (typJ s j).2=ts at *
   generalize (typJ s j).1=ns at *
   have HOB:=hid hob;have HNM:=hid hnm;have HPL:=hid (posN_le ns nm);clear hAV hob hnm
   go_upto_region 5 with (fail)
   have hal:Below wr.heap.size wr (wr.alloc (.cells #[.string nm,.int .i64 nmn,.int .i64 nmx,.slice oa1 ats.length ca1,.bool rp] 102)):=(Below.refl _ _).alloc (nR _) _;have hxo:=zhh wr (.cells #[.string nm,.int .i64 nmn,.int .i64 nmx,.slice oa1 ats.length ca1,.bool rp] 102)
   generalize wr.alloc (.cells #[.string nm,.int .i64 nmn,.int .i64 nmx,.slice oa1 ats.length ca1,.bool rp] 102)=wx at *
   have TX:=hid (T.out.later hal);have HXO:=hid hxo;have HXL:=hid (show w2.heap.size < wr.heap.size from T.out.lt);have HVN:=hid (fun g (e:(Value.slice on mn cn).ownBlock=some g)=>T.out.row.lt e);have HVE:=hid (fun g (e:(Value.slice oe me ce).ownBlock=some g)=>(T.out.own.block e).2);have HXS:=hid (show wr.heap.size < wx.heap.size from (aS hxo).1);clear hal hxo a0 a1 a2 a3 a4 T;have o2:=(cII TX.out.obj 2).trans rfl;have y0:=(cII HXO.out 0).trans rfl;have HBS:=hid (bsearch_any (fun _=>True) wx (.slice on mn cn) ns nm (TX.out.row.sv (fun _ _=>trivial) (by have:=HLN.out;have:=HLE.out;omega) TX.out.strs));obtain ⟨p,hp⟩:∃ p,posN ns nm=p:=⟨_,rfl⟩;obtain ⟨fd,hfd⟩:∃ fd,fndN ns nm=fd:=⟨_,rfl⟩;rw [hp,hfd] at HBS;rw [hp] at HPL HTK;clear hp hfd
   go_wp2_with fail
   clear o2 y0;refine HBS.out.mono ?_;rintro e w4 ⟨rfl,q,rfl⟩;have hd:Below wx.heap.size wx (wx.drewN q):=below_drewN (Below.refl _ _) q;have T4:=hid (TX.out.later hd);have HXO4:=hid (kO HXO.out hd);have HX4:=hid (show wx.heap.size≤(wx.drewN q).heap.size from hd.size);clear hd HBS TX HXO
   generalize wx.drewN q=w4 at *
   have o2:=(cII T4.out.obj 2).trans rfl;have y0:=(cII HXO4.out 0).trans rfl;have hal:Below w4.heap.size w4 (w4.alloc (.cells #[.string nm] 9)):=(Below.refl _ _).alloc (nR _) _;have HIN:=hid (ins_any (.slice on mn cn) ns p HPL.out (by have:=HLN.out;have:=HLE.out;omega) nm w4.heap.size (w4.alloc (.cells #[.string nm] 9)) (T4.out.later hal).row (zhh _ _) (fun e=>by have:=T4.out.row.lt e;omega));have T5:=hid (T4.out.later hal);have HXO5:=hid (kO HXO4.out hal);have HX5:=hid (show wx.heap.size≤(w4.alloc (.cells #[.string nm] 9)).heap.size by have:=hal.size;have:=HX4.out;omega);clear hal
   go_upto_region 6 with (fail)
   go_wp2_with fail
   clear o2 y0 HXO4 T4
   generalize w4.alloc (.cells #[.string nm] 9)=w5 at *
   refine HIN.out.mono ?_;rintro e w6' ⟨vn6,rfl,hr6,hp6,hc6⟩;rw [← insertIdx_eq _ _ _ HPL.out] at hr6;obtain ⟨on6,cn6,e6⟩:=hr6.slice;rw [List.length_insertIdx_of_le_length HPL.out] at e6;subst e6;have hT6:w6'.heap[w2.heap.size]? = _:=(hc6.block _ T5.out.lt (fun e=>(T5.out.rown _ e).2.1 rfl)).trans T5.out.obj;have t2:=(cII hT6 2).trans rfl;have tf:=zff hT6;have HXO6':=hid ((hc6.block _ (by have:=HX5.out;have:=HXS.out;omega) (fun e=>by have:=HVN.out _ e;omega)).trans HXO5.out)
   have T6:=hid (T5.out.names hr6 (fun s hs=>by
    rw [insertIdx_eq _ _ _ HPL.out] at hs
    rcases List.mem_append.1 hs with h | h
    ·exact T5.out.strs s (List.mem_of_mem_take h)
    ·rcases List.mem_cons.1 h with h | h
     ·rw [h];exact HNM.out
     ·exact T5.out.strs s (List.mem_of_mem_drop h)) hp6 hc6)
   have HX6:=hid (show wx.heap.size≤w6'.heap.size by have:=hc6.size;have:=HX5.out;omega);clear hr6 hp6 HIN T5 HXO5
   go_upto_region 7 with (fail)
   clear hT6 t2 tf hc6;have HXO6:Hid ((w6'.setCell ⟨w2.heap.size,2,none⟩ (.slice on6 (ns.length + 1) cn6)).heap[wr.heap.size]? = _):=hid (((Chg.setCell (B:=fun g=>g=w2.heap.size) w6' w2.heap.size 2 (.slice on6 (ns.length + 1) cn6) rfl).block _ (by have:=HX6.out;have:=HXS.out;omega) (by have:=HXL.out;omega)).trans HXO6'.out);have HX6':Hid (wx.heap.size≤(w6'.setCell ⟨w2.heap.size,2,none⟩ (.slice on6 (ns.length + 1) cn6)).heap.size):=hid (by have:=(Chg.setCell (B:=fun g=>g=w2.heap.size) w6' w2.heap.size 2 (.slice on6 (ns.length + 1) cn6) rfl).size;have:=HX6.out;omega);clear HX6 HXO6'
   generalize w6'.setCell ⟨w2.heap.size,2,none⟩ (.slice on6 (ns.length + 1) cn6)=w6 at *
   have HCall:=hid (object_any ats P w6.drew _ (HAV.out.bel (zdd (HB.out.trans (T6.out.bel.mono (by omega))))) HOB.out.1 HOB.out.2);have o1:=(cII T6.out.obj 1).trans rfl;have y3:=(cII HXO6.out 3).trans rfl
   go_wp2_with fail
   refine zt 11 (fun v=>v.cell? ⟨w2.heap.size,1,none⟩=some (.slice oe me ce)∧v.cell? ⟨wr.heap.size,3,none⟩=some (.slice oa1 ats.length ca1)) (by kernel_rfl) (by kernel_rfl) (⟨o1,y3⟩) ?_;simp only [List.take_succ_cons,List.take_zero,List.drop_succ_cons,List.drop_zero]
   repeat ((first
    | refine sK ?_
    | refine sC3 ?_);try simp only [Act.put,sA,sZ,sS])
   refine sL fun K hK=>?_
   go_simp
   refine HCall.out.mono ?_;rintro e w7 ⟨ve7,vn7,box7,rfl,hb7,hown7,hrow7,hsep7,hstr7⟩;have T7:=hid (T6.out.later (show Below w6.heap.size w6 w7 from ⟨hb7.os,hb7.tape,hb7.output,hb7.size,hb7.block⟩));have HU7:Hid (TV (fun g=>w6.heap.size≤g) w7 (.agg #[.int .i64 6,ve7,vn7]) (objT ats)):=hid (TV.mk' (hrow7.sv (fun g e=>(hsep7 g e).1) (by have:=HOB.out.1;simp;omega) hstr7) ((hown7.mono (R':=fun g=>w6.heap.size≤g) fun g _ hg=>hg.1).read (fun g hg=>hg) (by have:=HOB.out.1;simp;omega)));obtain ⟨oe7,ce7,rfl⟩:=hown7.slice2;obtain ⟨on7,cn7,rfl⟩:=hrow7.slice;have r1:=zbb (W:=w6.drew) hb7 o1;have r2:=zbb (W:=w6.drew) hb7 y3;have HW7:Hid (w6.heap.size≤w7.heap.size):=hid hb7.size;clear hb7 hown7 hrow7 hsep7 hstr7 HCall o1 y3;refine hK.out _ _ (⟨r1,r2⟩) ?_;clear hK K
   try simp only [Act.put,sA,sZ,sS]
   generalize (ats.map (·.ty)).length=m7 at *
   generalize (ats.map (·.name)).length=k7 at *
   repeat ((first
    | refine sK ?_
    | refine sC3 ?_);try simp only [Act.put,sA,sZ,sS])
   refine sL fun K hK=>?_
   go_simp
   have hal:Below w7.heap.size w7 (w7.alloc (.cells #[.int .i64 6,.slice oe7 m7 ce7,.slice on7 k7 cn7] 61)):=(Below.refl _ _).alloc (nR _) _;have ho8:=zhh w7 (.cells #[.int .i64 6,.slice oe7 m7 ce7,.slice on7 k7 cn7] 61)
   have hs8:(w7.alloc (.cells #[.int .i64 6,.slice oe7 m7 ce7,.slice on7 k7 cn7] 61)).heap.size=w7.heap.size + 1:=by simp
   generalize w7.alloc (.cells #[.int .i64 6,.slice oe7 m7 ce7,.slice on7 k7 cn7] 61)=w8 at *
   replace r1:=zbb hal r1;replace r2:=zbb hal r2;have T8:=hid (T7.out.later hal);have HV8:Hid (TV (fun g=>w6.heap.size≤g) w8 (.agg #[.int .i64 4,.slice (some ⟨w7.heap.size,0,none⟩) 1 1,.slice none 0 0]) (.mk 4 [objT ats] [])):=hid (TV.mk' ⟨⟨by simp,.inl ⟨rfl,_,_,rfl⟩⟩,fun s h=>by cases h⟩ (lv_one HW7.out ho8 (HU7.out.bel hal)));have HS8:=hid hs8;clear hal ho8 hs8 T7 HU7;refine hK.out _ _ (⟨r1,r2⟩) ?_;clear hK K
   try simp only [Act.put,sA,sZ,sS]
   repeat ((first
    | refine sK ?_
    | refine sC3 ?_);try simp only [Act.put,sA,sZ,sS])
   refine sL fun K hK=>?_
   go_simp
   have hal:Below w8.heap.size w8 (w8.alloc (.cells #[.int .i64 4,.slice (some ⟨w7.heap.size,0,none⟩) 1 1,.slice none 0 0] 61)):=(Below.refl _ _).alloc (nR _) _;have ho9:=zhh w8 (.cells #[.int .i64 4,.slice (some ⟨w7.heap.size,0,none⟩) 1 1,.slice none 0 0] 61)
   generalize w8.alloc (.cells #[.int .i64 4,.slice (some ⟨w7.heap.size,0,none⟩) 1 1,.slice none 0 0] 61)=w9 at *
   replace r1:=zbb hal r1;replace r2:=zbb hal r2;have T9:=hid (T8.out.later hal)
   have HI9:=hid (insT_any (.slice oe me ce) ts (.mk 4 [objT ats] []) _ _ _ p w8.heap.size w9 T9.out.own (by have:=T9.out.lt;have:=HX3.out;omega) (by have:=HLN.out;have:=HPL.out;omega) (by have:=HLN.out;have:=HLE.out;omega) ho9 (fun e=>by have:=(T8.out.own.block e).2;omega) (HV8.out.bel hal) (fun g (hg:w6.heap.size≤g)=>by
    have h1:=T6.out.lt;have h2:=HX3.out;refine ⟨⟨by omega,fun e=>?_⟩,by omega,fun e=>?_⟩
    ·have:=T6.out.row.lt e;omega
    ·have:=(T6.out.own.block e).2;omega))
   clear hal ho9 T8 HV8;refine hK.out _ _ (⟨r1,r2⟩) ?_;clear hK K
   try simp only [Act.put,sA,sZ,sS]
   repeat ((first
    | refine sK ?_
    | refine sC3 ?_);try simp only [Act.put,sA,sZ,sS])
   refine sL fun K hK=>?_
   go_simp
   refine HI9.out.mono ?_;rintro e w10 ⟨ve10,rfl,hown10,hp10,hc10⟩;obtain ⟨o10,n10,c10,rfl⟩:=hown10.slice
   have hno:∀ g,wr.heap.size≤g→¬ (Value.slice oe me ce).ownBlock=some g:=fun g hg e=>by have:=HVE.out g e;omega
   have hX10:w10.heap[w2.heap.size]? = _:=(hc10.block _ T9.out.lt (fun e=>T9.out.eown e)).trans T9.out.obj;refine hK.out _ _ (⟨zcc hc10 (fun e=>T9.out.eown e) r1,zcc hc10 (hno _ (nR _)) r2⟩) ?_;clear hK K
   try simp only [Act.put,sA,sZ,sS]
   have T10:=hid (T9.out.elems hown10 hp10 hc10);have h1:=(cII hX10 1).trans rfl;have hf:=zff hX10;clear hown10 hp10 hc10 hX10 hno r1 r2 T9 HI9
   repeat ((first
    | refine sK ?_
    | refine sC3 ?_);try simp only [Act.put,sA,sZ,sS])
   refine zn ?_
   go_wp2_with fail
   clear h1 hf
   go_roundw
   case rel=>exact ⟨j + 1,_,_,_,_,_,_,by omega,by go_num,by rw [HTK.out.1,HTK.out.2];exact T10⟩
   case measure=>simp [intOf];omega
  ·have hte:=typJ_end s (j:=j) (by omega)
   rw [hte] at T;have HZ2:=hid ((T.out.bel.block _ (by omega)).trans HZ.out);have o0:=(cII T.out.obj 0).trans rfl;have o1:=(cII T.out.obj 1).trans rfl;have o2:=(cII T.out.obj 2).trans rfl;have f0:=(cII HZ2.out 0).trans rfl;have f1:=(cII HZ2.out 1).trans rfl;have f2:=(cII HZ2.out 2).trans rfl;have fz:=zff HZ2.out;clear hte
   go_wp2_with fail
   try simp only [Exit.inBlock,Exit.then]
   refine bodyPost_ret (v:=.agg #[.int .i64 6,.slice oe me ce,.slice on mn cn]) (by simp [results,Tryz.results89,go_sem,f0,f1,f2]) rfl ?_;have c3:=chg_store3 wr (w.heap.size + 1) (.int .i64 6) (.slice oe me ce) (.slice on mn cn);refine ⟨_,_,w2.heap.size,rfl,store3_below HB2.out (by omega) (nR _) _ _ _,?_,T.out.row.chg c3 fun g e e2=>by have:=(T.out.rown g e).1;omega,fun g e=>⟨by have:=(T.out.rown g e).1;omega,(T.out.rown g e).2.2⟩,T.out.strs⟩
   exact (T.out.own.chg c3 (fun g e e2=>by have:=(T.out.own.block e).1;omega) (fun g hg _ e=>by have:=hg.1;omega)).base (Nat.le_add_right _ 2) |>.mono fun g _ hg=>⟨by have:=hg.1;omega,hg.2⟩
def FreshS (l:List ByteArray) (w:World) (e:Ending) (w':World):Prop:=∃ u,e=.returned u∧SV (fun g=>w.heap.size≤g) w' u l∧Below w.heap.size w w'
theorem names_len (s:Sc):(namesS s).length=s.attrs.length + s.nested.length:=by
 have h:=(typJ_len s s.nested.length (nR _)).1;rw [typJ_end s (nR _)] at h;exact h
theorem names_any (s:Sc) (P:Nat→Prop) (w:World) (va vn:Value) (hs:SCV P w va vn s) (hok:ScOk s) :
  Calls Tryz.prog 67 #[.agg #[va,vn]] w (FreshS (namesS s) w):=by
 obtain ⟨oa,ca,rfl⟩:=hs.1.len;obtain ⟨on,cn,rfl⟩:=hs.2.len;have hla:=hs.1.le;have hlk:=hs.2.le;have HL:=hid (show (namesS s).length≤2000 by rw [names_len];have:=hok.1;have:=hok.2.1;omega);have hab:Below w.heap.size w (w.alloc (.cells #[.slice oa s.attrs.length ca,.slice on s.nested.length cn] 25)):=(Below.refl _ _).alloc (nR _) _;have hao:=zhh w (.cells #[.slice oa s.attrs.length ca,.slice on s.nested.length cn] 25)
 generalize hA:w.alloc (.cells #[.slice oa s.attrs.length ca,.slice on s.nested.length cn] 25)=wa at *
 have HA:=hid hA;have HB:=hid hab;have HT:=hid (type_any s P wa _ _ ⟨hs.1.bel hab,hs.2.bel hab⟩ hok);have a0:=(cII hao 0).trans rfl;have a1:=(cII hao 1).trans rfl;clear hA hab hao hs hok
 go_enter Tryz.func67,Tryz.ntmps67
 go_upto_region 1 with (fail)
 rw [HA.out]
 go_wp2_with fail
 clear a0 a1;refine HT.out.mono ?_;rintro e w2 ⟨ve,vn,box,rfl,hb2,hown,hrow,hsep,hstr⟩;have HN:=hid (hrow.sv (Q:=fun g=>w.heap.size≤g) (fun g e=>by have:=(hsep g e).1;have:=HB.out.size;omega) (by have:=HL.out;rw [namesS] at this;omega) hstr);have HB2:=hid (HB.out.trans (hb2.mono HB.out.size));obtain ⟨oe,ce,rfl⟩:=hown.slice2;obtain ⟨on2,cn2,rfl⟩:=hrow.slice;clear hb2 hown hrow hsep hstr HT
 generalize (typS s).2.length=m2 at *
 obtain ⟨m1,hm1⟩:∃ m1,(typS s).1.length=m1:=⟨_,rfl⟩;rw [hm1] at HN ⊢
 have hfd:∀ w:World,(Instr.field 61 (.agg #[.int .i64 6,.slice oe m2 ce,.slice on2 m1 cn2]) 2).run Tryz.prog w=.ok (.slice on2 m1 cn2) w:=fun _=>by kernel_rfl
 clear hm1
 go_wp2_with fail
 go_ret;exact ⟨_,rfl,HN.out,HB2.out⟩
theorem differ_any (a b:Vl) (P Q:Nat→Prop) (w:World) (x y:Value) (hx:VV P w x a) (hy:VV Q w y b):Calls Tryz.prog 70 #[x,y] w (Ret (.bool (differV a b)) w):=by
 have HD:=hid (show differV a b=(!eqV a b || (!knownV a || !knownV b)) from rfl);have HX0:=hid hx;have HY0:=hid hy;obtain ⟨k,n,s,oi,mi,ci,ok,mk,ck,rfl⟩:=hx.agg5;obtain ⟨k',n',s',oi',mi',ci',ok',mk',ck',rfl⟩:=hy.agg5;generalize hA:w.alloc (.cells #[.int .i64 k,.int .i64 n,.string s,.slice oi mi ci,.slice ok mk ck] 32)=wa
 have hao:wa.heap[w.heap.size]? = some (.cells #[.int .i64 k,.int .i64 n,.string s,.slice oi mi ci,.slice ok mk ck] 32):=by rw [← hA];exact zhh w _
 have has:wa.heap.size=w.heap.size + 1:=by rw [← hA];simp
 have hab:Below w.heap.size w wa:=by rw [← hA];exact (Below.refl _ _).alloc (nR _) _
 generalize hB:wa.alloc (.cells #[.int .i64 k',.int .i64 n',.string s',.slice oi' mi' ci',.slice ok' mk' ck'] 32)=wb
 have hbo:wb.heap[w.heap.size + 1]? = some (.cells #[.int .i64 k',.int .i64 n',.string s',.slice oi' mi' ci',.slice ok' mk' ck'] 32):=by rw [← hB,← has];exact zhh wa _
 have hbb:Below wa.heap.size wa wb:=by rw [← hB];exact (Below.refl _ _).alloc (nR _) _
 have hall:=hab.trans (hbb.mono hab.size);have HA0:=hid hA;have HB0:=hid hB;have HB:=hid hall;have HXA:=hid (kO hao hbb);have HXB:=hid hbo;clear hx hy hA hB hao has hab hbo hbb hall;have HEQ:=hid (equal_any a b P Q wb _ _ (HX0.out.bel HB.out) (HY0.out.bel HB.out));have a0:=(cII HXA.out 0).trans rfl;have a1:=(cII HXA.out 1).trans rfl;have a2:=(cII HXA.out 2).trans rfl;have a3:=(cII HXA.out 3).trans rfl;have a4:=(cII HXA.out 4).trans rfl;have b0:=(cII HXB.out 0).trans rfl;have b1:=(cII HXB.out 1).trans rfl;have b2:=(cII HXB.out 2).trans rfl;have b3:=(cII HXB.out 3).trans rfl;have b4:=(cII HXB.out 4).trans rfl
 cases he:eqV a b with
 | false =>
  rw [he] at HEQ HD;clear he
  go_enter Tryz.func70,Tryz.ntmps70
  go_upto_region 1 with (fail)
  rw [HA0.out,HB0.out]
  go_wp2_with fail
  refine HEQ.out.mono ?_;rintro e w2 ⟨rfl,hb⟩;have HB2:=hid (HB.out.trans (hb.mono HB.out.size));clear hb
  go_wp2_with fail
  go_ret;exact ⟨by rw [HD.out];rfl,HB2.out⟩
 | true =>
  rw [he] at HEQ HD;clear he
  go_enter Tryz.func70,Tryz.ntmps70
  go_upto_region 1 with (fail)
  rw [HA0.out,HB0.out]
  go_wp2_with fail
  clear a0 a1 a2 a3 a4 b0 b1 b2 b3 b4;refine HEQ.out.mono ?_;rintro e w2 ⟨rfl,hb⟩;have HB2:=hid (HB.out.trans (hb.mono HB.out.size));have HXA2:=hid (kO HXA.out hb);have HXB2:=hid (kO HXB.out hb);have HKA:=hid (known_any a P w2 _ (HX0.out.bel HB2.out));clear hb;have a0:=(cII HXA2.out 0).trans rfl;have a1:=(cII HXA2.out 1).trans rfl;have a2:=(cII HXA2.out 2).trans rfl;have a3:=(cII HXA2.out 3).trans rfl;have a4:=(cII HXA2.out 4).trans rfl
  cases hk:knownV a with
  | false =>
   rw [hk] at HKA HD;clear hk
   go_wp2_with fail
   refine HKA.out.mono ?_;rintro e w3 ⟨rfl,hb⟩;have HB3:=hid (HB2.out.trans (hb.mono HB2.out.size));clear hb
   go_wp2_with fail
   go_ret;exact ⟨by rw [HD.out];rfl,HB3.out⟩
  | true =>
   rw [hk] at HKA HD;clear hk
   go_wp2_with fail
   clear a0 a1 a2 a3 a4;refine HKA.out.mono ?_;rintro e w3 ⟨rfl,hb⟩;have HB3:=hid (HB2.out.trans (hb.mono HB2.out.size));have HXB3:=hid (kO HXB2.out hb);have HKB:=hid (known_any b Q w3 _ (HY0.out.bel HB3.out));clear hb;have b0:=(cII HXB3.out 0).trans rfl;have b1:=(cII HXB3.out 1).trans rfl;have b2:=(cII HXB3.out 2).trans rfl;have b3:=(cII HXB3.out 3).trans rfl;have b4:=(cII HXB3.out 4).trans rfl
   go_wp2_with fail
   refine HKB.out.mono ?_;rintro e w4 ⟨rfl,hb⟩;have HB4:=hid (HB3.out.trans (hb.mono HB3.out.size));clear hb
   go_wp2_with fail
   go_ret;exact ⟨by rw [HD.out];rfl,HB4.out⟩
def SzOk (a:Vl):Prop:=szV a≤80000∧kyV a≤80000
theorem filter_take {α:Type} (f:α→Bool) (l:List α) {j:Nat} (h:j < l.length):(l.take (j + 1)).filter f=if f l[j]=true then (l.take j).filter f ++ [l[j]] else (l.take j).filter f:=by
 rw [List.take_add_one,lG h,List.filter_append]
 cases hf:f l[j] <;> simp [hf]
structure FL (n:Nat) (w wr:World) (o:Value) (l:List ByteArray):Prop where
 bel:Below n w wr
 le:n≤w.heap.size
 row:Row wr o l
 own:∀ g,o.ownBlock=some g→n≤g
 str:∀ s∈l,s.size≤140737488355328
theorem FL.later {n:Nat} {w wr w':World} {o:Value} {l:List ByteArray} (h:FL n w wr o l) (hb:Below wr.heap.size wr w'):FL n w w' o l :=
 ⟨h.bel.trans (hb.mono (Nat.le_trans h.le h.bel.size)),h.le,h.row.of_same fun g hg=>hb.block g (h.row.lt hg),h.own,h.str⟩
theorem FL.push {n:Nat} {w wr w':World} {o o':Value} {l:List ByteArray} {x:ByteArray} (h:FL n w wr o l) (hx:x.size≤140737488355328) (hown:w'.ownsRow 0 9 1 o' (l.length + 1) (strs l ++ [.string x])) (hc:Chg (fun k=>o.ownBlock=some k) wr w')
  (hp:o'.ownBlock=o.ownBlock∨∃ g,o'.ownBlock=some g∧wr.heap.size≤g):FL n w w' o' (l ++ [x]):=by
 refine ⟨h.bel.trans (zgg hc (fun k hk=>h.own k hk) (Nat.le_trans h.le h.bel.size)),h.le,owns_row (by rw [strs,List.map_append];exact hown) (by simp),fun g hg=>?_,fun s hs=>?_⟩
 ·rcases hp with e | ⟨g',e,hg'⟩
  ·exact h.own g (e ▸ hg)
  ·rw [e] at hg;cases hg
   exact Nat.le_trans (Nat.le_trans h.le h.bel.size) hg'
 ·rcases List.mem_append.1 hs with h1 | h1
  ·exact h.str s h1
  ·rw [List.mem_singleton.1 h1];exact hx
theorem changed_any (s:Sc) (b a:Vl) (P Q R:Nat→Prop) (w:World) (va vn x y:Value) (hs:SCV P w va vn s) (hp:VV Q w x b) (hq:VV R w y a) (hok:ScOk s) (hsz:SzOk b∧SzOk a) :
  Calls Tryz.prog 42 #[.agg #[va,vn],x,y] w (FreshS (changedS s b a) w):=by
 obtain ⟨oa,ca,rfl⟩:=hs.1.len;obtain ⟨on,cn,rfl⟩:=hs.2.len;have HSC:=hid hs;have HVP:=hid hp;have HVQ:=hid hq;have HOK:=hid hok;have HSZ:=hid hsz;obtain ⟨kp,np,sp,oip,mip,cip,okp,mkp,ckp,rfl⟩:=hp.agg5;obtain ⟨kq,nq,sq,oiq,miq,ciq,okq,mkq,ckq,rfl⟩:=hq.agg5;generalize hA:w.alloc (.cells #[.slice oa s.attrs.length ca,.slice on s.nested.length cn] 25)=wa
 have hao:wa.heap[w.heap.size]? = some (.cells #[.slice oa s.attrs.length ca,.slice on s.nested.length cn] 25):=by rw [← hA];exact zhh w _
 have has:wa.heap.size=w.heap.size + 1:=by rw [← hA];simp
 have hab:Below w.heap.size w wa:=by rw [← hA];exact (Below.refl _ _).alloc (nR _) _
 generalize hB:wa.alloc (.cells #[.int .i64 kp,.int .i64 np,.string sp,.slice oip mip cip,.slice okp mkp ckp] 32)=wb
 have hbo:wb.heap[w.heap.size + 1]? = some (.cells #[.int .i64 kp,.int .i64 np,.string sp,.slice oip mip cip,.slice okp mkp ckp] 32):=by rw [← hB,← has];exact zhh wa _
 have hbs:wb.heap.size=w.heap.size + 2:=by rw [← hB];simp [has]
 have hbb:Below wa.heap.size wa wb:=by rw [← hB];exact (Below.refl _ _).alloc (nR _) _
 generalize hC:wb.alloc (.cells #[.int .i64 kq,.int .i64 nq,.string sq,.slice oiq miq ciq,.slice okq mkq ckq] 32)=wc
 have hco:wc.heap[w.heap.size + 2]? = some (.cells #[.int .i64 kq,.int .i64 nq,.string sq,.slice oiq miq ciq,.slice okq mkq ckq] 32):=by rw [← hC,← hbs];exact zhh wb _
 have hcs:wc.heap.size=w.heap.size + 3:=by rw [← hC];simp [hbs]
 have hcb:Below wb.heap.size wb wc:=by rw [← hC];exact (Below.refl _ _).alloc (nR _) _
 have HA0:=hid hA;have HB0:=hid hB;have HC0:=hid hC;have HB:=hid (hab.trans ((hbb.trans (hcb.mono hbb.size)).mono hab.size));have HS:=hid hcs;have HXC:=hid hco;have HXB:=hid (kO hbo hcb);have HXA:=hid (kO (kO hao hbb) hcb);clear hp hq hs hok hsz hA hB hC hao hbo hco has hbs hcs hab hbb hcb;have HNC:=hid (names_any s P wc _ _ (HSC.out.bel HB.out) HOK.out);have HNL:=hid (show (namesS s).length≤2000 by rw [names_len];have:=HOK.out.1;have:=HOK.out.2.1;omega);have HRES:=hid (show changedS s b a=(namesS s).filter fun x=>differV (getN b x) (getN a x) from rfl);have hnl:=HNL.out
 generalize namesS s=ns at *
 have a0:=(cII HXA.out 0).trans rfl;have a1:=(cII HXA.out 1).trans rfl
 go_enter Tryz.func42,Tryz.ntmps42
 go_upto_region 2 with (fail)
 rw [HA0.out,HB0.out,HC0.out]
 go_wp2_with fail
 clear a0 a1;refine HNC.out.mono ?_;rintro e w2 ⟨u,rfl,hu,hb2⟩;obtain ⟨ou,cu,rfl⟩:=hu.len;have HN:=hid (hu.ex.keep (Q:=fun _=>True) (ZK.refl _ _) fun _ _=>trivial);have HB2:=hid (HB.out.trans (hb2.mono HB.out.size));have HXB2:=hid (kO HXB.out hb2);have HXC2:=hid (kO HXC.out hb2);clear hu hb2 HNC
 go_wp2_with fail
 go_loopw [7,13] (fun o i wr=>∃ (j:Nat) (oo:Option Addr) (mo co:Nat),j≤ns.length∧o=.slice oo mo co∧i=.int .i64 j∧Hid (FL w2.heap.size w2 wr (.slice oo mo co) ((ns.take j).filter fun x=>differV (getN b x) (getN a x)))) (fun _ i _=>ns.length - (intOf i).toNat)
 case atStart=>exact ⟨0,_,_,_,Nat.zero_le _,rfl,rfl,hid ⟨Below.refl _ _,nR _,.inl ⟨rfl,rfl⟩,(fun g e=>by cases e),(fun s h=>by cases h)⟩⟩
 case round =>
  obtain ⟨j,oo,mo,co,hj,rfl,rfl,F⟩:=hrel
  by_cases hlt:j < ns.length
  ·obtain ⟨g,o,c,e1,a1⟩:=(HN.out.bel F.out.bel).at hlt
   cases e1
   have hj0:(0:Int)≤(j:Int):=by omega
   have hj1:(j:Int) < (ns.length:Int):=by omega
   have HTK:=hid (filter_take (fun x=>differV (getN b x) (getN a x)) ns hlt);have HXS:=hid (HN.out.2 ns[j] (lM hlt))
   have HLF:=hid (show ((ns.take j).filter fun x=>differV (getN b x) (getN a x)).length≤2000 by
    have h1:=List.length_filter_le (fun x=>differV (getN b x) (getN a x)) (ns.take j);have h2:=List.length_take_le j ns;have h3:=HNL.out
    omega)
   generalize ns[j]=x at *
   generalize (ns.take j).filter (fun x=>differV (getN b x) (getN a x))=l at *
   have HXB3:=hid (kO HXB2.out F.out.bel);have HXC3:=hid (kO HXC2.out F.out.bel);have hdr:Below wr.heap.size wr wr.drew:=zdd (Below.refl _ _);have HBD:=hid (HB2.out.trans ((F.out.bel.trans (hdr.mono F.out.bel.size)).mono HB2.out.size));have HC1:=hid (sget_any b x Q wr.drew _ (HVP.out.bel HBD.out) (by have:=HSZ.out.1.1;omega) (by have:=HSZ.out.1.2;omega));clear hdr;have x0:=(cII HXB3.out 0).trans rfl;have x1:=(cII HXB3.out 1).trans rfl;have x2:=(cII HXB3.out 2).trans rfl;have x3:=(cII HXB3.out 3).trans rfl;have x4:=(cII HXB3.out 4).trans rfl;have y0:=(cII HXC3.out 0).trans rfl;have y1:=(cII HXC3.out 1).trans rfl;have y2:=(cII HXC3.out 2).trans rfl;have y3:=(cII HXC3.out 3).trans rfl;have y4:=(cII HXC3.out 4).trans rfl
   go_wp2_with fail
   refine zss (fun v=>v.cell? ⟨w.heap.size + 1,0,none⟩=some (.int .i64 kp)∧v.cell? ⟨w.heap.size + 1,1,none⟩=some (.int .i64 np)∧v.cell? ⟨w.heap.size + 1,2,none⟩=some (.string sp)∧v.cell? ⟨w.heap.size + 1,3,none⟩=some (.slice oip mip cip)∧v.cell? ⟨w.heap.size + 1,4,none⟩=some (.slice okp mkp ckp)∧v.cell? ⟨w.heap.size + 1 + 1,0,none⟩=some (.int .i64 kq)∧v.cell? ⟨w.heap.size + 1 + 1,1,none⟩=some (.int .i64 nq)∧v.cell? ⟨w.heap.size + 1 + 1,2,none⟩=some (.string sq)∧v.cell? ⟨w.heap.size + 1 + 1,3,none⟩=some (.slice oiq miq ciq)∧v.cell? ⟨w.heap.size + 1 + 1,4,none⟩=some (.slice okq mkq ckq)) (by kernel_rfl) (by kernel_rfl) (⟨x0,x1,x2,x3,x4,y0,y1,y2,y3,y4⟩) ?_
   repeat ((first
    | refine sK ?_
    | refine sC0 ?_);try simp only [Act.put,sA,sZ,sS])
   refine sL fun K hK=>?_
   go_simp
   refine HC1.out.mono ?_;rintro e w3 ⟨u1,rfl,hu1,hb3⟩;obtain ⟨k3,n3,s3,oi3,mi3,ci3,ok3,mk3,ck3,rfl⟩:=hu1.agg5;have HU1:=hid hu1;have HB3:=hid hb3;have HC2:=hid (sget_any a x R w3 _ (HVQ.out.bel (HBD.out.trans (hb3.mono HBD.out.size))) (by have:=HSZ.out.2.1;omega) (by have:=HSZ.out.2.2;omega));have r0:=zbb (W:=wr.drew) hb3 x0;have r1:=zbb (W:=wr.drew) hb3 x1;have r2:=zbb (W:=wr.drew) hb3 x2;have r3:=zbb (W:=wr.drew) hb3 x3;have r4:=zbb (W:=wr.drew) hb3 x4;have t0:=zbb (W:=wr.drew) hb3 y0;have t1:=zbb (W:=wr.drew) hb3 y1;have t2:=zbb (W:=wr.drew) hb3 y2;have t3:=zbb (W:=wr.drew) hb3 y3;have t4:=zbb (W:=wr.drew) hb3 y4;clear hu1 hb3 HC1 x0 x1 x2 x3 x4 y0 y1 y2 y3 y4;refine hK.out _ _ (⟨r0,r1,r2,r3,r4,t0,t1,t2,t3,t4⟩) ?_;clear hK K
   try simp only [Act.put,sA,sZ,sS]
   repeat ((first
    | refine sK ?_
    | refine sC0 ?_);try simp only [Act.put,sA,sZ,sS])
   refine sL fun K hK=>?_
   go_simp
   refine HC2.out.mono ?_;rintro e w4 ⟨u2,rfl,hu2,hb4⟩;obtain ⟨k4,n4,s4,oi4,mi4,ci4,ok4,mk4,ck4,rfl⟩:=hu2.agg5;have HC3:=hid (differ_any (getN b x) (getN a x) _ _ w4 _ _ (HU1.out.bel hb4) hu2);have HB4:=hid (HB3.out.trans (hb4.mono HB3.out.size));have x0:=zbb (W:=w3) hb4 r0;have x1:=zbb (W:=w3) hb4 r1;have x2:=zbb (W:=w3) hb4 r2;have x3:=zbb (W:=w3) hb4 r3;have x4:=zbb (W:=w3) hb4 r4;have y0:=zbb (W:=w3) hb4 t0;have y1:=zbb (W:=w3) hb4 t1;have y2:=zbb (W:=w3) hb4 t2;have y3:=zbb (W:=w3) hb4 t3;have y4:=zbb (W:=w3) hb4 t4;clear hu2 hb4 HC2 r0 r1 r2 r3 r4 t0 t1 t2 t3 t4 HU1 HB3;refine hK.out _ _ (⟨x0,x1,x2,x3,x4,y0,y1,y2,y3,y4⟩) ?_;clear hK K
   try simp only [Act.put,sA,sZ,sS]
   obtain ⟨df,hdf⟩:∃ df,differV (getN b x) (getN a x)=df:=⟨_,rfl⟩;rw [hdf] at HC3;simp only [hdf] at HTK;clear hdf
   refine sL fun K hK=>?_
   go_simp
   refine HC3.out.mono ?_;rintro e w5 ⟨rfl,hb5⟩
   have F5:=hid (F.out.later (show Below wr.heap.size wr w5 from by
    have h:=HB4.out.trans (hb5.mono HB4.out.size)
    exact ⟨h.os,h.tape,h.output,h.size,h.block⟩))
   have r0:=zbb (W:=w4) hb5 x0;have r1:=zbb (W:=w4) hb5 x1;have r2:=zbb (W:=w4) hb5 x2;have r3:=zbb (W:=w4) hb5 x3;have r4:=zbb (W:=w4) hb5 x4;have t0:=zbb (W:=w4) hb5 y0;have t1:=zbb (W:=w4) hb5 y1;have t2:=zbb (W:=w4) hb5 y2;have t3:=zbb (W:=w4) hb5 y3;have t4:=zbb (W:=w4) hb5 y4;clear hb5 HC3 x0 x1 x2 x3 x4 y0 y1 y2 y3 y4;refine hK.out _ _ (⟨r0,r1,r2,r3,r4,t0,t1,t2,t3,t4⟩) ?_;clear hK K
   try simp only [Act.put,sA,sZ,sS]
   refine zn ?_;clear r0 r1 r2 r3 r4 t0 t1 t2 t3 t4
   cases df with
   | false =>
    rw [if_neg (by decide)] at HTK
    go_wp2_with fail
    go_roundw
    case rel=>exact ⟨j + 1,_,_,_,by omega,rfl,by go_num,by rw [HTK.out];exact F5⟩
    case measure=>simp [intOf];omega
   | true =>
    rw [if_pos rfl] at HTK
    go_upto_region 7 with (at_builtin;refine app_tag (by rfl) (.tmp 24) (.tmp 26) 30 (by rfl) 9 (.string ⟨#[]⟩) 1 16 Tryz.underlying30 info9 rfl (by decide) (by decide) _ _ _ F5.out.row.owns (by rfl) [.string x] w5.heap.size (by rfl) (by rfl) (by rfl) (by simp [Value.oneCell']) (by have:=HLF.out;omega) ?_;intro v9 w9 hown9 hc9 hp9 hne9;obtain ⟨o9,n9,c9,rfl⟩:=zw hown9;have HF9:=hid (F5.out.push HXS.out hown9 hc9 hp9);clear hown9 hc9 hp9 hne9)
    go_wp2_with fail
    go_roundw
    case rel=>exact ⟨j + 1,_,_,_,by omega,rfl,by go_num,by rw [HTK.out];exact HF9⟩
    case measure=>simp [intOf];omega
  ·rw [List.take_of_length_le (by omega),← HRES.out] at F
   have HLC:=hid (show (changedS s b a).length≤2000 by rw [HRES.out];have h1:=List.length_filter_le (fun x=>differV (getN b x) (getN a x)) ns;have:=HNL.out;omega);have HB3:=hid (HB2.out.trans (F.out.bel.mono HB2.out.size))
   go_wp2_with fail
   go_ret;exact ⟨_,rfl,F.out.row.sv (fun g e=>by have:=F.out.own g e;have:=HB2.out.size;omega) (by have:=HLC.out;omega) F.out.str,HB3.out⟩
def NV (P:Nat→Prop) (w:World) (v:Value) (acs:List Int):Prop:=acs.length≤140737488355328∧((acs = []∧∃ oa c,v=.slice oa 0 c)∨∃ g o c,P g∧v=.slice (some ⟨g,o,none⟩) acs.length c ∧
 ∀ (i:Nat) (a:Int),acs[i]? = some a→∃ xs:List Value,xs.length=22∧xs.all (·.oneCell')=true∧xs[3]? = some (.int .i64 a)∧w.rangeAt g (o + i * 22) xs)
theorem NV.keep {P Q:Nat→Prop} {w w':World} {v:Value} {acs:List Int} (h:NV P w v acs) (k:ZK P w w') (hq:∀ g,P g→Q g):NV Q w' v acs :=
 ⟨h.1,h.2.imp id fun ⟨g,o,c,hp,e,hc⟩=>⟨g,o,c,hq g hp,e,fun i a ha=>by
  obtain ⟨xs,h1,h2,h3,h4⟩:=hc i a ha
  exact ⟨xs,h1,h2,h3,fun j u hu=>k _ _ _ hp (h4 j u hu)⟩⟩⟩
theorem NV.bel {P:Nat→Prop} {w w':World} {v:Value} {acs:List Int} (h:NV P w v acs) (hb:Below w.heap.size w w'):NV P w' v acs:=h.keep (ZK.below hb) fun _ h=>h
theorem NV.len {P:Nat→Prop} {w:World} {v:Value} {acs:List Int} (h:NV P w v acs):∃ oa c,v=.slice oa acs.length c:=by
 rcases h.2 with ⟨rfl,oa,c,rfl⟩ | ⟨g,o,c,_,rfl,_⟩
 ·exact ⟨oa,c,rfl⟩
 ·exact ⟨_,c,rfl⟩
theorem NV.at {P:Nat→Prop} {w:World} {v:Value} {acs:List Int} (h:NV P w v acs) {j:Nat} (hj:j < acs.length):∃ g o c xs,v=.slice (some ⟨g,o,none⟩) acs.length c∧xs.length=22∧xs.all (·.oneCell')=true∧xs[3]? = some (.int .i64 acs[j])∧w.rangeAt g (o + j * 22) xs:=by
 rcases h.2 with ⟨rfl,_⟩ | ⟨g,o,c,hp,rfl,hc⟩
 ·cases hj
 ·obtain ⟨xs,h⟩:=hc j _ (lG hj)
  exact ⟨g,o,c,xs,rfl,h⟩
def cntA (acs:List Int) (a:Int):Nat:=(acs.filter fun b=>decide (b=a)).length
theorem cntA_take (acs:List Int) (a:Int) {j:Nat} (h:j < acs.length):cntA (acs.take (j + 1)) a=cntA (acs.take j) a + if acs[j]=a then 1 else 0:=by
 unfold cntA;rw [filter_take (fun b=>decide (b=a)) acs h]
 by_cases e:acs[j]=a
 ·rw [if_pos (dTT e),if_pos e];simp
 ·rw [if_neg (by simp [e]),if_neg e];simp
def CntPost (acs:List Int) (w:World) (e:Ending) (w':World):Prop:=e=.returned (.tuple #[.int .i64 (cntA acs 1:Nat),.int .i64 (cntA acs 2:Nat),.int .i64 (cntA acs 3:Nat),.int .i64 (cntA acs 4:Nat)])∧Below w.heap.size w w'
theorem results_tmp4 {fn:Func} {t u v x:Tmp} (h:fn.results=#[.tmp t,.tmp u,.tmp v,.tmp x]) (tmps:Array Value) (Pr:Program) (w:World) :
  (results fn tmps).run Pr w=.ok (.tuple #[tmps.getD t undef,tmps.getD u undef,tmps.getD v undef,tmps.getD x undef]) w:=by
 simp [results,h]
theorem counts_any (acs:List Int) (P:Nat→Prop) (w:World) (u:Value) (hu:NV P w u acs):Calls Tryz.prog 33 #[u] w (CntPost acs w):=by
 obtain ⟨oa,c,rfl⟩:=hu.len;have hla:=hu.1;have HU:=hid hu;clear hu
 go_enter Tryz.func33,Tryz.ntmps33
 go_wp2_with fail
 go_loopw [2,3,4,5,10] (fun n1 n2 n3 n4 iv wr=>∃ (j m1 m2 m3 m4:Nat),j≤acs.length∧(m1≤j∧m2≤j∧m3≤j∧m4≤j)∧iv=.int .i64 j∧n1=.int .i64 m1∧n2=.int .i64 m2∧n3=.int .i64 m3∧n4=.int .i64 m4∧Hid (Below w.heap.size w wr)∧Hid (m1=cntA (acs.take j) 1∧m2=cntA (acs.take j) 2∧m3=cntA (acs.take j) 3∧m4=cntA (acs.take j) 4)) (fun _ _ _ _ iv _=>acs.length - (intOf iv).toNat)
 case atStart=>exact ⟨0,0,0,0,0,Nat.zero_le _,⟨Nat.zero_le _,Nat.zero_le _,Nat.zero_le _,Nat.zero_le _⟩,rfl,rfl,rfl,rfl,rfl,hid (Below.refl _ _),hid ⟨rfl,rfl,rfl,rfl⟩⟩
 case round =>
  obtain ⟨j,m1,m2,m3,m4,hj,⟨hm1,hm2,hm3,hm4⟩,rfl,rfl,rfl,rfl,rfl,B,HM⟩:=hrel
  by_cases hlt:j < acs.length
  ·obtain ⟨g,o,c2,xs,e1,hl,h1,h3,hr⟩:=(HU.out.bel B.out).at hlt
   cases e1
   have hj0:(0:Int)≤(j:Int):=by omega
   have hj1:(j:Int) < (acs.length:Int):=by omega
   have HL:=hid hl;have H1:=hid h1;have HR:=hid hr;have H3:=hid h3;obtain ⟨y,hy⟩:∃ y,acs[j]=y:=⟨_,rfl⟩;rw [hy] at H3;have HY:=hid hy;clear hl h1 hr h3 hy
   go_upto_region 4 with (first | (refine wpList_load_mid rfl 46 (.tmp 12) rfl g (o + j * 22) rfl xs _ HR.out Tryz.underlying46 rfl (by rw [HL.out];kernel_rfl) ?_) | (refine zo rfl 46 _ _ rfl wr.heap.size 0 xs rfl rfl _ _ (zhh wr zero22) (by rw [HL.out];simp) (by rw [HL.out];kernel_rfl) H1.out ?_;intro w4 hz4 hc4))
   have hal:Below wr.heap.size wr (wr.alloc zero22):=(Below.refl _ _).alloc (nR _) _;have HB4:=hid (show Below w.heap.size w w4 from (B.out.trans (hal.mono B.out.size)).trans (zgg hc4 (fun k hk=>by rw [hk];exact B.out.size) (Nat.le_trans B.out.size hal.size)))
   have z3:w4.cell? ⟨wr.heap.size,3,none⟩=some (.int .i64 y):=by
    rw [cII hz4,List.getElem?_toArray,List.take_zero,List.nil_append,List.getElem?_append_left (by rw [HL.out];decide)];exact H3.out
   clear hz4 hc4 hal HL H1 HR H3
   by_cases y1:y=1
   ·subst y1
    have HE:=hid (And.intro (show (m1 + 1)=cntA (acs.take (j + 1)) 1 by rw [cntA_take acs 1 hlt,HY.out,← HM.out.1];rfl) (And.intro (show m2=cntA (acs.take (j + 1)) 2 by rw [cntA_take acs 2 hlt,HY.out,← HM.out.2.1];rfl) (And.intro (show m3=cntA (acs.take (j + 1)) 3 by rw [cntA_take acs 3 hlt,HY.out,← HM.out.2.2.1];rfl) (show m4=cntA (acs.take (j + 1)) 4 by rw [cntA_take acs 4 hlt,HY.out,← HM.out.2.2.2];rfl))));clear HM HY
    go_wp2_with fail
    go_roundw
    case rel=>exact ⟨j + 1,(m1 + 1),m2,m3,m4,by omega,⟨by omega,by omega,by omega,by omega⟩,by go_num,by go_num,by go_num,by go_num,by go_num,HB4,HE⟩
    case measure=>simp [intOf];omega
   ·have N1:=hid y1
    have fa:decide (y=1)=false:=dF y1;have fb:(y == 1)=false:=bF y1;clear y1
    by_cases y2:y=2
    ·subst y2
     have HE:=hid (And.intro (show m1=cntA (acs.take (j + 1)) 1 by rw [cntA_take acs 1 hlt,HY.out,← HM.out.1];rfl) (And.intro (show (m2 + 1)=cntA (acs.take (j + 1)) 2 by rw [cntA_take acs 2 hlt,HY.out,← HM.out.2.1];rfl) (And.intro (show m3=cntA (acs.take (j + 1)) 3 by rw [cntA_take acs 3 hlt,HY.out,← HM.out.2.2.1];rfl) (show m4=cntA (acs.take (j + 1)) 4 by rw [cntA_take acs 4 hlt,HY.out,← HM.out.2.2.2];rfl))));clear HM HY
     go_wp2_with fail
     go_roundw
     case rel=>exact ⟨j + 1,m1,(m2 + 1),m3,m4,by omega,⟨by omega,by omega,by omega,by omega⟩,by go_num,by go_num,by go_num,by go_num,by go_num,HB4,HE⟩
     case measure=>simp [intOf];omega
    ·have N2:=hid y2
     have ga:decide (y=2)=false:=dF y2;have gb:(y == 2)=false:=bF y2;clear y2
     by_cases y3:y=3
     ·subst y3
      have HE:=hid (And.intro (show m1=cntA (acs.take (j + 1)) 1 by rw [cntA_take acs 1 hlt,HY.out,← HM.out.1];rfl) (And.intro (show m2=cntA (acs.take (j + 1)) 2 by rw [cntA_take acs 2 hlt,HY.out,← HM.out.2.1];rfl) (And.intro (show (m3 + 1)=cntA (acs.take (j + 1)) 3 by rw [cntA_take acs 3 hlt,HY.out,← HM.out.2.2.1];rfl) (show m4=cntA (acs.take (j + 1)) 4 by rw [cntA_take acs 4 hlt,HY.out,← HM.out.2.2.2];rfl))));clear HM HY
      go_wp2_with fail
      go_roundw
      case rel=>exact ⟨j + 1,m1,m2,(m3 + 1),m4,by omega,⟨by omega,by omega,by omega,by omega⟩,by go_num,by go_num,by go_num,by go_num,by go_num,HB4,HE⟩
      case measure=>simp [intOf];omega
     ·have N3:=hid y3
      have ha:decide (y=3)=false:=dF y3;have hb:(y == 3)=false:=bF y3;clear y3
      by_cases y4:y=4
      ·subst y4
       have HE:=hid (And.intro (show m1=cntA (acs.take (j + 1)) 1 by rw [cntA_take acs 1 hlt,HY.out,← HM.out.1];rfl) (And.intro (show m2=cntA (acs.take (j + 1)) 2 by rw [cntA_take acs 2 hlt,HY.out,← HM.out.2.1];rfl) (And.intro (show m3=cntA (acs.take (j + 1)) 3 by rw [cntA_take acs 3 hlt,HY.out,← HM.out.2.2.1];rfl) (show (m4 + 1)=cntA (acs.take (j + 1)) 4 by rw [cntA_take acs 4 hlt,HY.out,← HM.out.2.2.2];rfl))));clear HM HY
       go_wp2_with fail
       go_roundw
       case rel=>exact ⟨j + 1,m1,m2,m3,(m4 + 1),by omega,⟨by omega,by omega,by omega,by omega⟩,by go_num,by go_num,by go_num,by go_num,by go_num,HB4,HE⟩
       case measure=>simp [intOf];omega
      ·have N4:=hid y4
       have ia:decide (y=4)=false:=dF y4;have ib:(y == 4)=false:=bF y4;clear y4;have HE:=hid (And.intro (show m1=cntA (acs.take (j + 1)) 1 by rw [cntA_take acs 1 hlt,HY.out,← HM.out.1];simp [N1.out,N2.out,N3.out,N4.out]) (And.intro (show m2=cntA (acs.take (j + 1)) 2 by rw [cntA_take acs 2 hlt,HY.out,← HM.out.2.1];simp [N1.out,N2.out,N3.out,N4.out]) (And.intro (show m3=cntA (acs.take (j + 1)) 3 by rw [cntA_take acs 3 hlt,HY.out,← HM.out.2.2.1];simp [N1.out,N2.out,N3.out,N4.out]) (show m4=cntA (acs.take (j + 1)) 4 by rw [cntA_take acs 4 hlt,HY.out,← HM.out.2.2.2];simp [N1.out,N2.out,N3.out,N4.out]))));clear HM HY
       go_wp2_with fail
       go_roundw
       case rel=>exact ⟨j + 1,m1,m2,m3,m4,by omega,⟨by omega,by omega,by omega,by omega⟩,by go_num,by go_num,by go_num,by go_num,by go_num,HB4,HE⟩
       case measure=>simp [intOf];omega
  ·have HE:=hid (show m1=cntA acs 1∧m2=cntA acs 2∧m3=cntA acs 3∧m4=cntA acs 4 by have h:=HM.out;rwa [List.take_of_length_le (by omega)] at h)
   clear HM
   go_wp2_with fail
   try simp only [Exit.inBlock,Exit.then]
   refine bodyPost_ret (results_tmp4 rfl _ _ _) rfl ?_;exact ⟨by rw [← HE.out.1,← HE.out.2.1,← HE.out.2.2.1,← HE.out.2.2.2];rfl,B.out⟩
end Go.Proofs.YtibiiafcnaijeaaGreat
