/- A part. -/
import Derived.Test.YtibiiafcnaijeaaGreatB00
import Derived.Test.YtibiiafcnaijeaaGreatB01
namespace Go.Proofs.YtibiiafcnaijeaaGreat
open Go Go.RowKit Go.Proofs.YtibiiafcnaijeaaGreat.Steady
set_option linter.unusedVariables false
set_option linter.unusedSimpArgs false
set_option maxRecDepth 100000
set_option maxHeartbeats 40000000
theorem bsearch_any (P:Nat→Prop) (w:World) (u:Value) (l:List ByteArray) (x:ByteArray) (h:SV P w u l) :
  Calls Tryz.prog 100 #[u,.string x] w fun e w'=>e=.returned (.tuple #[.int .i64 (posN l x:Nat),.bool (fndN l x)])∧∃ q,w'=w.drewN q:=by
 have hl:=h.le
 rcases h.1.2 with ⟨h0,oa,c,rfl⟩|⟨g,o,c,hp,rfl,hc⟩
 ·obtain rfl:l = []:=by simpa using h0
  exact(Any2.slices_BinarySearch_string_empty Tryz.laysNm226 oa c x w).mono fun e w' ⟨h1,h2⟩=>⟨h1,0,h2⟩
 ·rw[List.length_map]
  refine(Any2.slices_BinarySearch_string Tryz.laysNm226 g o l.length c (fun t=>l.getD t ByteArray.empty) x w (by omega) fun j hj=>?_).mono fun e w' ⟨h1,h2⟩=>⟨h1,h2⟩
  refine hc j _ ?_;rw[List.getElem?_map,lG hj];simp[List.getD,hj]
theorem getV_eq (k n:Int) (s:ByteArray) (is:List Vl) (ks:List ByteArray) (x:ByteArray):getV (.mk k n s is ks) x=if k=5∧fndN ks x=true then is[posN ks x]? else none:=rfl
def GetPost (o:Option Vl) (w:World) (e:Ending) (w':World):Prop:=∃ u,e=.returned (.tuple #[u,.bool o.isSome])∧VV (fun g=>w.heap.size≤g) w' u (o.getD nullV)∧Below w.heap.size w w'
theorem get_any (v:Vl) (x:ByteArray) (P:Nat→Prop) (w:World) (u:Value) (hx:VV P w u v) (hsz:szV v≤1000000) (hky:kyV v≤1000000):Calls Tryz.prog 87 #[u,.string x] w (GetPost (getV v x) w):=by
 obtain⟨k,n,s,is,ks⟩:=v;obtain⟨vi,vk,rfl,hI,hK,hss⟩:=hx.out;obtain⟨oi,ci,rfl⟩:=hI.len;obtain⟨ok,ck,rfl⟩:=hK.len;have hli:=hI.le;rw[szV] at hsz;rw[kyV] at hky;have hlen:=szL_len is;have HI:=hid hI;have HK:=hid hK;generalize hA:w.alloc (.cells #[.int .i64 k,.int .i64 n,.string s,.slice oi is.length ci,.slice ok ks.length ck] 32)=wa
 have hao:wa.heap[w.heap.size]? = some (.cells #[.int .i64 k,.int .i64 n,.string s,.slice oi is.length ci,.slice ok ks.length ck] 32):=by rw[←hA];exact zhh w _
 have has:wa.heap.size=w.heap.size+1:=by rw[←hA];simp
 have hab:Below w.heap.size w wa:=by rw[←hA];exact(Below.refl _ _).alloc (nR _) _
 have hT:=zhh wa zero5;have hbb:Below wa.heap.size wa (wa.alloc zero5):=(Below.refl _ _).alloc (nR _) _
 have hbs:(wa.alloc zero5).heap.size=w.heap.size+2:=by simp[has]
 rw[has] at hT;generalize hB:wa.alloc zero5=wb at hT hbb hbs;have hall:Below w.heap.size w wb:=hab.trans (hbb.mono hab.size);have HA0:=hid hA;have HB0:=hid hB;have HB:=hid hall;have HS:=hid hbs;have HZ:=hid hT;have HA:=hid ((hbb.block _ (by omega)).trans hao);clear hx hI hK hA hB hT hbb hbs hall hao has hab;have a4:=(cII HA.out 4).trans rfl;have HBS:=hid (bsearch_any P wb _ ks x (HK.out.bel HB.out));obtain⟨p,hp⟩:∃ p,posN ks x=p:=⟨_,rfl⟩;obtain⟨fd,hfd⟩:∃ fd,fndN ks x=fd:=⟨_,rfl⟩;rw[hp,hfd] at HBS;have HP:=hid hp;have HFD:=hid hfd;clear hp hfd
 go_enter Tryz.func87,Tryz.ntmps87
 go_upto_region 1 with (fail)
 rw[HA0.out,HB0.out]
 go_wp2_with fail
 clear a4;refine HBS.out.mono ?_;rintro e w2 ⟨rfl,q,rfl⟩;have hd:Below wb.heap.size wb (wb.drewN q):=below_drewN (Below.refl _ _) q;have HA2:=kH HA hd;have HZ2:=kH HZ hd;have HB2:=hT HB hd;have HI2:=hid ((HI.out.bel HB2.out));have HS2:=hid (show w.heap.size+2≤(wb.drewN q).heap.size by have:=hd.size;have:=HS.out;omega);clear hd HBS
 generalize wb.drewN q=w2 at *
 have x0:=(cII HA2.out 0).trans rfl;have x3:=(cII HA2.out 3).trans rfl;have f0:=(cII HZ2.out 0).trans rfl;have f1:=(cII HZ2.out 1).trans rfl;have f2:=(cII HZ2.out 2).trans rfl;have f3:=(cII HZ2.out 3).trans rfl;have f4:=(cII HZ2.out 4).trans rfl;have fz:=zff HZ2.out
 by_cases hk:k=5
 case neg =>
  have d1:decide (k=5)=false:=dF hk;have d2:(k == 5)=false:=bF hk
  have d3:(k != 5)=true:=by rw[bne,d2];rfl
  have HG:=hid (show getV (.mk k n s is ks) x=none from by rw[getV_eq,if_neg fun h=>hk h.1]);clear hk
  go_wp2_with fail
  try simp only[Exit.inBlock,Exit.then]
  refine bodyPost_ret (v:=.tuple #[.agg #[.int .i64 0,.int .i64 0,.string ⟨#[]⟩,.slice none 0 0,.slice none 0 0],.bool false]) (by simp[results,Tryz.results87,go_sem,f0,f1,f2,f3,f4]) rfl ?_;rw[HG.out];exact⟨_,rfl,VV.mk' (by decide) ⟨⟨by simp,.inl ⟨rfl,_,_,rfl⟩⟩,fun s h=>by cases h⟩ (WV.nil _ _),store5_below HB2.out (by omega) (nR _) _ _ _ _ _⟩
 subst hk
 cases fd with
 | false =>
  have HG:=hid (show getV (.mk 5 n s is ks) x=none from by rw[getV_eq,if_neg fun h=>by rw[HFD.out] at h;cases h.2])
  skip
  go_wp2_with fail
  try simp only[Exit.inBlock,Exit.then]
  refine bodyPost_ret (v:=.tuple #[.agg #[.int .i64 0,.int .i64 0,.string ⟨#[]⟩,.slice none 0 0,.slice none 0 0],.bool false]) (by simp[results,Tryz.results87,go_sem,f0,f1,f2,f3,f4]) rfl ?_;rw[HG.out];exact⟨_,rfl,VV.mk' (by decide) ⟨⟨by simp,.inl ⟨rfl,_,_,rfl⟩⟩,fun s h=>by cases h⟩ (WV.nil _ _),store5_below HB2.out (by omega) (nR _) _ _ _ _ _⟩
 | true =>
  by_cases hpl:p<is.length
  case neg =>
   have d1:decide ((p:Int) ≥ (is.length:Int))=true:=dTT (by omega);have d1n:decide (is.length≤p)=true:=dTT (by omega);have HG:=hid (show getV (.mk 5 n s is ks) x=none from by rw[getV_eq,if_pos ⟨rfl,HFD.out⟩,HP.out,List.getElem?_eq_none (by omega)])
   skip
   go_wp2_with fail
   try simp only[Exit.inBlock,Exit.then]
   refine bodyPost_ret (v:=.tuple #[.agg #[.int .i64 0,.int .i64 0,.string ⟨#[]⟩,.slice none 0 0,.slice none 0 0],.bool false]) (by simp[results,Tryz.results87,go_sem,f0,f1,f2,f3,f4]) rfl ?_;rw[HG.out];exact⟨_,rfl,VV.mk' (by decide) ⟨⟨by simp,.inl ⟨rfl,_,_,rfl⟩⟩,fun s h=>by cases h⟩ (WV.nil _ _),store5_below HB2.out (by omega) (nR _) _ _ _ _ _⟩
  have d1:decide ((p:Int) ≥ (is.length:Int))=false:=dF (by omega);have d1n:decide (is.length≤p)=false:=dF (by omega);obtain⟨g,off,c,k1,n1,s1,oi1,mi1,ci1,ok1,mk1,ck1,e1,a1,a2,a3,a4,a5,hV,-⟩:=HI2.out.at hpl
  cases e1
  have hp0:(0:Int)≤(p:Int):=by omega
  have hp1:(p:Int)<(is.length:Int):=by omega
  have HG:=hid (show getV (.mk 5 n s is ks) x=some is[p] by rw[getV_eq,if_pos ⟨rfl,HFD.out⟩,HP.out,lG hpl]);have HCall:=hid (vcopy_any is[p] _ w2 _ hV (by have:=szV_mem (lM hpl);omega) (by have:=kyV_mem (lM hpl);omega));clear hV
  go_wp2_with fail
  clear x0 x3 f0 f1 f2 f3 f4 fz a1 a2 a3 a4 a5;refine HCall.out.mono ?_;rintro e w3 ⟨u,rfl,hu,hb3⟩;obtain⟨k6,n6,s6,oi6,mi6,ci6,ok6,mk6,ck6,rfl⟩:=hu.agg5;have HZ3:=kH HZ2 hb3;have HB3:=hT HB2 hb3;have HU:=hid (hu.mono (Q:=fun g=>w.heap.size+1+1≤g) (fun g hg=>by have:=HS2.out;omega));clear hu hb3;have f0:=(cII HZ3.out 0).trans rfl;have f1:=(cII HZ3.out 1).trans rfl;have f2:=(cII HZ3.out 2).trans rfl;have f3:=(cII HZ3.out 3).trans rfl;have f4:=(cII HZ3.out 4).trans rfl;have fz:=zff HZ3.out
  go_wp2_with fail
  try simp only[Exit.inBlock,Exit.then]
  refine bodyPost_ret (v:=.tuple #[.agg #[.int .i64 k6,.int .i64 n6,.string s6,.slice oi6 mi6 ci6,.slice ok6 mk6 ck6],.bool true]) (by simp[results,Tryz.results87,go_sem,f0,f1,f2,f3,f4]) rfl ?_;rw[HG.out];exact⟨_,rfl,store5_vv (Q:=fun g=>w.heap.size≤g) HU.out (by omega) (fun g hg=>by omega) _ _ _ _ _,store5_below HB3.out (by omega) (nR _) _ _ _ _ _⟩
theorem sget_any (v:Vl) (x:ByteArray) (P:Nat→Prop) (w:World) (u:Value) (hx:VV P w u v) (hsz:szV v≤1000000) (hky:kyV v≤1000000):Calls Tryz.prog 68 #[u,.string x] w (FreshV (getN v x) w):=by
 have HGN:=hid (show getN v x=(getV v x).getD nullV from rfl);have HX0:=hid hx;have HSZ:=hid (And.intro hsz hky);obtain⟨k,n,s,is,ks⟩:=v;obtain⟨vi,vk,rfl,hI,hK,hss⟩:=hx.out;obtain⟨oi,ci,rfl⟩:=hI.len;obtain⟨ok,ck,rfl⟩:=hK.len;generalize hA:w.alloc (.cells #[.int .i64 k,.int .i64 n,.string s,.slice oi is.length ci,.slice ok ks.length ck] 32)=wa
 have hao:wa.heap[w.heap.size]? = some (.cells #[.int .i64 k,.int .i64 n,.string s,.slice oi is.length ci,.slice ok ks.length ck] 32):=by rw[←hA];exact zhh w _
 have has:wa.heap.size=w.heap.size+1:=by rw[←hA];simp
 have hab:Below w.heap.size w wa:=by rw[←hA];exact(Below.refl _ _).alloc (nR _) _
 have hT:=zhh wa zero5;have hbb:Below wa.heap.size wa (wa.alloc zero5):=(Below.refl _ _).alloc (nR _) _
 have hbs:(wa.alloc zero5).heap.size=w.heap.size+2:=by simp[has]
 rw[has] at hT;generalize hB:wa.alloc zero5=wb at hT hbb hbs;have hall:Below w.heap.size w wb:=hab.trans (hbb.mono hab.size);have HA0:=hid hA;have HB0:=hid hB;have HB:=hid hall;have HS:=hid hbs;have HZ:=hid hT;have HA:=hid ((hbb.block _ (by omega)).trans hao);clear hx hI hK hA hB hT hbb hbs hall hao has hab hsz hky;have a0:=(cII HA.out 0).trans rfl;have a1:=(cII HA.out 1).trans rfl;have a2:=(cII HA.out 2).trans rfl;have a3:=(cII HA.out 3).trans rfl;have a4:=(cII HA.out 4).trans rfl;have HCG:=hid (get_any _ x P wb _ (HX0.out.bel HB.out) HSZ.out.1 HSZ.out.2);obtain⟨o,ho⟩:∃ o,getV (.mk k n s is ks) x=o:=⟨_,rfl⟩;rw[ho] at HCG HGN;clear ho
 go_enter Tryz.func68,Tryz.ntmps68
 go_upto_region 1 with (fail)
 rw[HA0.out,HB0.out]
 go_wp2_with fail
 clear a0 a1 a2 a3 a4;refine HCG.out.mono ?_;rintro e w3 ⟨u,rfl,hu,hb3⟩;obtain⟨k6,n6,s6,oi6,mi6,ci6,ok6,mk6,ck6,rfl⟩:=hu.agg5;have HZ3:=kH HZ hb3;have HB3:=hT HB hb3;have HU:=hid (hu.mono (Q:=fun g=>w.heap.size+1+1≤g) (fun g hg=>by have:=HS.out;omega));have HS3:=hid (show w.heap.size+2≤w3.heap.size by have:=hb3.size;have:=HS.out;omega);clear hu hb3 HCG
 go_upto_region 2 with (fail)
 have hb4:Below w3.heap.size w3 (w3.alloc (.cells #[.int .i64 k6,.int .i64 n6,.string s6,.slice oi6 mi6 ci6,.slice ok6 mk6 ck6] 32)):=(Below.refl _ _).alloc (nR _) _;have hxo:=zhh w3 (.cells #[.int .i64 k6,.int .i64 n6,.string s6,.slice oi6 mi6 ci6,.slice ok6 mk6 ck6] 32)
 generalize w3.alloc (.cells #[.int .i64 k6,.int .i64 n6,.string s6,.slice oi6 mi6 ci6,.slice ok6 mk6 ck6] 32)=w4 at *
 have HZ4:=kH HZ3 hb4;have HB4:=hT HB3 hb4;have HU4:=hid (HU.out.bel hb4);have x0:=(cII hxo 0).trans rfl;have x1:=(cII hxo 1).trans rfl;have x2:=(cII hxo 2).trans rfl;have x3:=(cII hxo 3).trans rfl;have x4:=(cII hxo 4).trans rfl;have f0:=(cII HZ4.out 0).trans rfl;have f1:=(cII HZ4.out 1).trans rfl;have f2:=(cII HZ4.out 2).trans rfl;have f3:=(cII HZ4.out 3).trans rfl;have f4:=(cII HZ4.out 4).trans rfl;have fz:=zff HZ4.out;clear hb4 hxo HU HZ3 HB3
 go_wp2_with fail
 try simp only[Exit.inBlock,Exit.then]
 refine bodyPost_ret (v:=.agg #[.int .i64 k6,.int .i64 n6,.string s6,.slice oi6 mi6 ci6,.slice ok6 mk6 ck6]) (by simp[results,Tryz.results68,go_sem,f0,f1,f2,f3,f4]) rfl ?_;rw[HGN.out];exact⟨_,rfl,store5_vv (Q:=fun g=>w.heap.size≤g) HU4.out (by omega) (fun g hg=>by omega) _ _ _ _ _,store5_below HB4.out (by omega) (nR _) _ _ _ _ _⟩
end Go.Proofs.YtibiiafcnaijeaaGreat
