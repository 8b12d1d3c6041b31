/- A part. -/
import Derived.Test.YtibiiafcnaijeaaGreatB00
import Derived.Test.YtibiiafcnaijeaaGreatB03
import Derived.WalkLawsBesides
import Derived.Deep.DeepCutAuto
namespace Go.Proofs.YtibiiafcnaijeaaGreat
open Go Go.RowKit Go.Proofs.YtibiiafcnaijeaaGreat.Steady
set_option linter.unusedVariables false
set_option linter.unusedSimpArgs false
set_option maxRecDepth 100000
set_option maxHeartbeats 40000000
def unk (e:Vl):Bool:=!knownV e
def idxV (f:Vl→Bool):List Vl→Int
 | []=>-1
 | e :: l=>if f e=true then 0 else if idxV f l = -1 then -1 else idxV f l+1
theorem idxV_ge (f:Vl→Bool):∀ l,(idxV f l = -1∧l.any f=false)∨(0≤idxV f l∧l.any f=true)
 | []=>.inl ⟨rfl,rfl⟩
 | e :: l=>by
  rw[idxV,List.any_cons]
  cases h:f e with
  | true=>right;simp
  | false =>
   rcases idxV_ge f l with ⟨h1,h2⟩|⟨h1,h2⟩
   ·left;rw[h1,h2];simp
   ·right
    rw[h2,if_neg (by decide),if_neg (by omega)];exact⟨by omega,rfl⟩
theorem idxV_hit {f:Vl→Bool}{es:List Vl}{k:Nat}(h:k<es.length) (hn:∀ j (hj:j<es.length),j<k→f es[j]=false) (hy:f es[k]=true):idxV f es=k:=by
 induction es generalizing k with
 | nil=>cases h
 | cons e l ih =>
  cases k with
  | zero=>rw[idxV,if_pos (by exact hy)];rfl
  | succ k =>
   have h0:=hn 0 (by simp) (by omega);have h1:=ih (k:=k) (by simpa using h) (fun j hj hjk=>hn (j+1) (by simpa using hj) (by omega)) hy;replace h0:f e=false:=h0;rw[idxV,if_neg (by rw[h0];decide),h1,if_neg (by omega)]
   omega
theorem idxV_miss {f:Vl→Bool}:∀ {es:List Vl},(∀ j (hj:j<es.length),f es[j]=false)→idxV f es = -1
 | [],_=>rfl
 | e :: l,h=>by
  have h0:f e=false:=h 0 (by simp);rw[idxV,if_neg (by rw[h0];decide),idxV_miss fun j hj=>h (j+1) (by simpa using hj),if_pos rfl]
theorem known_any_eq:∀ l:List Vl,l.all knownV = !l.any unk
 | []=>rfl
 | e :: l=>by rw[List.all_cons,List.any_cons,known_any_eq l,unk];cases knownV e <;> simp
def KnownOk (a:Vl):Prop:=∀ (P:Nat→Prop) (w:World) (x:Value),VV P w x a→Calls Tryz.prog 91 #[x] w (Ret (.bool (knownV a)) w)
theorem known1_any (a:Vl) (hok:KnownOk a) (P:Nat→Prop) (w:World) (x:Value) (hx:VV P w x a):Calls Tryz.prog 109 #[x] w (Ret (.bool (unk a)) w):=by
 obtain⟨k,n,s,oi,mi,ci,ok,mk,ck,rfl⟩:=hx.agg5;obtain⟨hB1,a0,a1,a2,a3,a4⟩:=box5 w (.int .i64 k) (.int .i64 n) (.string s) (.slice oi mi ci) (.slice ok mk ck) 32
 generalize hW:w.alloc (.cells #[.int .i64 k,.int .i64 n,.string s,.slice oi mi ci,.slice ok mk ck] 32)=W at *
 have HW:=hid hW;have HB:=hid hB1;have HC:=hid (hok P W _ (hx.bel hB1));have HU:=hid (show unk a = !knownV a from rfl);clear hW hB1 hx hok
 go_enter Tryz.func109,Tryz.ntmps109
 go_upto_region 1 with (fail)
 rw[HW.out]
 go_wp2_with fail
 refine HC.out.mono ?_;rintro e w2 ⟨rfl,hb⟩;have HB2:=hT HB hb;clear hb
 go_wp2_with fail
 go_ret;exact⟨by rw[HU.out];rfl,HB2.out⟩
theorem indexV_any (P:Nat→Prop) (w:World) (u:Value) (es:List Vl) (hu:WV P w u es)
  (hf:∀ e∈es,KnownOk e) :
  Calls Tryz.prog 121 #[u,.func (.func 109) #[] #[]] w (Ret (.int .i64 (idxV unk es)) w):=by
 obtain⟨oa,ca,rfl⟩:=hu.len;have hla:=hu.le;have HU:=hid hu;have HF:=hid hf;clear hu hf
 go_enter Tryz.func121,Tryz.ntmps121
 go_wp2_with fail
 go_loopw [8] (fun i wr=>∃ k:Nat,k≤es.length∧i=.int .i64 k∧Hid (Below w.heap.size w wr)∧Hid (∀ j (hj:j<es.length),j<k→unk es[j]=false)) (fun i _=>es.length - (intOf i).toNat)
 case atStart=>exact⟨0,Nat.zero_le _,rfl,hid (Below.refl _ _),hid fun j _ hj=>absurd hj (Nat.not_lt_zero _)⟩
 case round =>
  obtain⟨k,hk,rfl,B,A⟩:=hrel
  by_cases hlt:k<es.length
  ·obtain⟨g1,o1,c1,k1,n1,s1,oi1,mi1,ci1,ok1,mk1,ck1,e1,a1,a2,a3,a4,a5,hT1,-⟩:=(HU.out.bel B.out).at hlt
   cases e1
   have hk0:(0:Int)≤(k:Int):=by omega
   have hk1:(k:Int)<(es.length:Int):=by omega
   have hcall:=known1_any es[k] (HF.out es[k] (lM hlt)) P wr _ hT1;have HCall:=hid hcall;clear hcall hT1
   cases hfe:unk es[k] with
   | true =>
    rw[hfe] at HCall;have HS:=hid (idxV_hit hlt A.out hfe);clear hfe A
    go_wp2_with fail
    refine HCall.out.mono ?_;rintro e w4 ⟨rfl,hb4⟩;have HB4:=hT B hb4;clear hb4
    go_wp2_with fail
    go_ret;exact⟨by rw[HS.out];rfl,HB4.out⟩
   | false =>
    rw[hfe] at HCall
    have HS:Hid (∀ j (hj:j<es.length),j<k+1→unk es[j]=false):=hid fun j hj h=>by
     by_cases e:j=k
     ·subst e;exact hfe
     ·exact A.out j hj (by omega)
    clear hfe A
    go_wp2_with fail
    refine HCall.out.mono ?_;rintro e w4 ⟨rfl,hb4⟩;have HB4:=hT B hb4;clear hb4
    go_wp2_with fail
    go_roundw
    case rel=>exact⟨k+1,by omega,by go_num,HB4,HS⟩
    case measure=>simp[intOf];omega
  ·have hfin:=idxV_miss fun j hj=>A.out j hj (by omega)
   have HFin:=hid hfin;clear hfin
   go_wp2_with fail
   go_ret;exact⟨by rw[HFin.out];rfl,B.out⟩
theorem containsV_any (P:Nat→Prop) (w:World) (u:Value) (es:List Vl) (hu:WV P w u es)
  (hf:∀ e∈es,KnownOk e) :
  Calls Tryz.prog 108 #[u,.func (.func 109) #[] #[]] w (Ret (.bool (es.any unk)) w):=by
 have HI:=hid (indexV_any P w u es hu hf);obtain⟨oa,ca,rfl⟩:=hu.len
 have hge:decide (0≤idxV unk es)=es.any unk:=by
  rcases idxV_ge unk es with ⟨h1,h2⟩|⟨h1,h2⟩
  ·rw[h1,h2];rfl
  ·rw[h2];exact dTT h1
 have HG:=hid hge;clear hu hf hge
 go_enter Tryz.func108,Tryz.ntmps108
 go_wp2_with fail
 refine HI.out.mono ?_;rintro e w2 ⟨rfl,hb⟩;have HB:=hid hb;clear hb
 go_wp2_with fail
 go_ret;exact⟨by rw[←HG.out];rfl,HB.out⟩
theorem known_any (a:Vl):KnownOk a:=by
 induction a using Vl.ind with
 | h k n s is ks ih =>
  intro P w x hx;obtain⟨vi,vk,rfl,hI,hK,hss⟩:=hx.out;obtain⟨oi,ci,rfl⟩:=hI.len;obtain⟨ok,ck,rfl⟩:=hK.len;obtain⟨hB1,a0,a1,a2,a3,a4⟩:=box5 w (.int .i64 k) (.int .i64 n) (.string s) (.slice oi is.length ci) (.slice ok ks.length ck) 32
  generalize hW:w.alloc (.cells #[.int .i64 k,.int .i64 n,.string s,.slice oi is.length ci,.slice ok ks.length ck] 32)=W at *
  have HW:=hid hW;have HB:=hid hB1;have HC:=hid (containsV_any P W _ is (hI.bel hB1) ih);have HQ:=hid (knownV_eq k n s is ks);clear hW hB1 hx ih hI hK
  by_cases hk:k=6
  ·subst hk
   have HP:=hid (show knownV (.mk 6 n s is ks)=false by rw[HQ.out];rfl)
   go_enter Tryz.func91,Tryz.ntmps91
   go_upto_region 1 with (fail)
   rw[HW.out]
   go_wp2_with fail
   go_ret;exact⟨by rw[HP.out];rfl,HB.out⟩
  ·have f1:decide (k=6)=false:=dF hk
   have f2:(k == 6)=false:=bF hk
   have f3:(k != 6)=true:=by rw[bne,f2];rfl
   have HP:=hid (show knownV (.mk k n s is ks) = !is.any unk by rw[HQ.out,known_any_eq,dTT hk];rfl);clear hk
   go_enter Tryz.func91,Tryz.ntmps91
   go_upto_region 1 with (fail)
   rw[HW.out]
   go_wp2_with fail
   refine HC.out.mono ?_;rintro e w2 ⟨rfl,hb⟩;have HB2:=hT HB hb;clear hb
   go_wp2_with fail
   go_ret;exact⟨by rw[HP.out];rfl,HB2.out⟩
theorem unknown_any (w:World):Calls Tryz.prog 69 #[] w (FreshV unkV w):=by
 have hao:=zhh w zero5;have hab:Below w.heap.size w (w.alloc zero5):=(Below.refl _ _).alloc (nR _) _
 generalize hA:w.alloc zero5=wa at *
 have HA:=hid hA;have HB:=hid hab;have HZ:=hid hao;clear hA hab hao;have f0:=(cII HZ.out 0).trans rfl;have f1:=(cII HZ.out 1).trans rfl;have f2:=(cII HZ.out 2).trans rfl;have f3:=(cII HZ.out 3).trans rfl;have f4:=(cII HZ.out 4).trans rfl;have fz:=zff HZ.out
 go_enter Tryz.func69,Tryz.ntmps69
 go_upto_region 1 with (fail)
 rw[HA.out]
 go_wp2_with fail
 try simp only[Exit.inBlock,Exit.then]
 refine bodyPost_ret (v:=.agg #[.int .i64 6,.int .i64 0,.string ⟨#[]⟩,.slice none 0 0,.slice none 0 0]) (by simp[results,Tryz.results69,go_sem,f0,f1,f2,f3,f4]) rfl ?_;exact⟨_,rfl,store5_vv (Q:=fun g=>w.heap.size≤g) (VV.mk' (by decide) ⟨⟨by simp,.inl ⟨rfl,_,_,rfl⟩⟩,fun s h=>by cases h⟩ (WV.nil (fun g=>w.heap.size+1≤g) _)) (by omega) (fun g hg=>by omega) _ _ _ _ _,store5_below HB.out (nR _) (nR _) _ _ _ _ _⟩
end Go.Proofs.YtibiiafcnaijeaaGreat
namespace Go.Proofs.YtibiiafcnaijeaaGreat
open Go Go.RowKit
set_option linter.unusedVariables false
set_option linter.unusedSimpArgs false
set_option maxRecDepth 100000
set_option maxHeartbeats 40000000
theorem ret_int {k:IntKind}{a b:Int}(h:a=b):Ending.returned (.int k a)=.returned (.int k b):=by rw[h]
mutual
def leftV:Vl→Int→Int→Int
 | .mk _ _ _ es _,n,lv=>if n<1∨lv<1 then -1 else leftVL es (n - 1) (lv - 1)
def leftVL:List Vl→Int→Int→Int
 | [],n,_=>n
 | e :: es,n,lv=>if n<0 then n else leftVL es (leftV e n lv) lv
end
theorem leftVL_neg (es:List Vl) {n:Int}(lv:Int) (h:n<0):leftVL es n lv=n:=by
 cases es with
 | nil=>unfold leftVL;rfl
 | cons e es=>unfold leftVL;rw[if_pos h]
theorem leftV_le (t:Vl):∀ (n lv:Int),leftV t n lv = -1∨(0≤leftV t n lv∧leftV t n lv=n - szV t):=by
 induction t using Vl.ind with
 | h k nn s es ks ih =>
  have key:∀ (l:List Vl),(∀ e∈l,e∈es)→∀ (n lv:Int),0≤n→leftVL l n lv = -1∨(0≤leftVL l n lv∧leftVL l n lv=n - szL l):=by
   intro l
   induction l with
   | nil=>intro _ n lv h;right;unfold leftVL szL;omega
   | cons e l ih2 =>
    intro hl n lv hn;unfold leftVL szL;rw[if_neg (by omega)]
    rcases ih e (hl e (List.mem_cons_self ..)) n lv with h1|⟨h1,h2⟩
    ·rw[h1,leftVL_neg _ _ (by omega)];exact .inl rfl
    ·rcases ih2 (fun x hx=>hl x (List.mem_cons_of_mem _ hx)) (leftV e n lv) lv h1 with h3|⟨h3,h4⟩
     ·exact .inl h3
     ·refine .inr ⟨h3,?_⟩;rw[h4,h2];push_cast;omega
  intro n lv;unfold leftV szV
  by_cases h:n<1∨lv<1
  ·rw[if_pos h];exact .inl rfl
  ·rw[if_neg h]
   rcases key es (fun _ h=>h) (n - 1) (lv - 1) (by omega) with h1|⟨h1,h2⟩
   ·exact .inl h1
   ·refine .inr ⟨h1,?_⟩;rw[h2];push_cast;omega
theorem VV.keys_le {P:Nat→Prop}{w:World}{v:Value}{t:Vl}(h:VV P w v t):kyV t≤szV t*140737488355328:=by
 induction h with
 | mk k n s is ks vi vk rs hs hk hr hl he ih =>
  have hn:=hk.le
  have key:∀ (l:List Vl) (q:List V5),q.length=l.length→(∀ (i:Nat) r e,q[i]? = some r→l[i]? = some e→kyV e≤szV e*140737488355328)→kyL l≤szL l*140737488355328:=by
   intro l
   induction l with
   | nil=>intro _ _ _;simp[kyL]
   | cons e l ih2 =>
    intro q hq h
    match q,hq with
    | r :: q,hq =>
     have h1:=h 0 r e rfl rfl
     have h2:=ih2 q (by simpa using hq) fun i r' e' hr' he'=>h (i+1) r' e' (by simpa using hr') (by simpa using he')
     rw[kyL,szL];omega
  have:=key is rs hl ih;rw[kyV,szV];omega
theorem leftVL_drop {es:List Vl}{k:Nat}(h:k<es.length) (n lv:Int):leftVL (es.drop k) n lv=if n<0 then n else leftVL (es.drop (k+1)) (leftV es[k] n lv) lv:=by
 rw[List.drop_eq_getElem_cons h,leftVL]
def LeftVOk (t:Vl):Prop:=∀ (P:Nat→Prop) (w:World) (v:Value) (n lv:Int),VV P w v t→-1≤n→n≤1000→0≤lv→lv≤40→Calls Tryz.prog 49 #[v,.int .i64 n,.int .i64 lv] w (Ret (.int .i64 (leftV t n lv)) w)
theorem leftV_any (t:Vl):LeftVOk t:=by
 induction t using Vl.ind with
 | h k nn s es ns ih =>
  intro P w v n lv hv hn1 hn2 hl1 hl2;obtain⟨ve,vn,rfl,hE,hN,hss⟩:=hv.out;obtain⟨oe,ce,rfl⟩:=hE.len;obtain⟨on,cn,rfl⟩:=hN.len;obtain⟨hB,c0,c3,c4,c1,c2⟩:=box5 w (.int .i64 k) (.int .i64 nn) (.string s) (.slice oe es.length ce) (.slice on ns.length cn) 32;have HB:=hid hB;have HC:=hid c1;have HE:=hid (hE.bel hB);have HI:=hid ih;have hle:=hE.le;have hln:=hN.le;clear ih hE hN hv hB c0 c1 c2 c3 c4 hss
  by_cases hlow:n<1∨lv<1
  ·have he:leftV (.mk k nn s es ns) n lv = -1:=by rw[leftV,if_pos hlow]
   have HQ:=hid he;clear he
   by_cases h1:n<1
   ·clear hlow
    go_enter Tryz.func49,Tryz.ntmps49
    go_wp2_with fail
    go_ret;exact⟨by rw[HQ.out];rfl,HB.out⟩
   ·have h2:lv<1:=by omega
    clear hlow
    go_enter Tryz.func49,Tryz.ntmps49
    go_wp2_with fail
    go_ret;exact⟨by rw[HQ.out];rfl,HB.out⟩
  ·have he:leftV (.mk k nn s es ns) n lv=leftVL es (n - 1) (lv - 1):=by rw[leftV,if_neg hlow]
   have HQ:=hid he
   have h1:¬ n<1:=by omega
   have h2:¬ lv<1:=by omega
   clear he hlow
   go_enter Tryz.func49,Tryz.ntmps49
   go_wp2_with fail
   generalize w.alloc (.cells #[.int .i64 k,.int .i64 nn,.string s,.slice oe es.length ce,.slice on ns.length cn] 32)=W at *
   go_loopw [7,8] (fun m i wr=>∃ (k:Nat) (n':Int),k≤es.length∧i=.int .i64 k∧m=.int .i64 n'∧-1≤n'∧n'≤1000∧Hid (Below W.heap.size W wr)∧Hid (leftVL (es.drop k) n' (lv - 1)=leftVL es (n - 1) (lv - 1))) (fun _ i _=>es.length - (intOf i).toNat)
   case atStart=>exact⟨0,n - 1,Nat.zero_le _,rfl,by go_num,by omega,by omega,hid (Below.refl _ _),hid rfl⟩
   case round =>
    obtain⟨j,n',hj,rfl,rfl,hm1,hm2,B,E⟩:=hrel;have hc:=zbb B.out HC.out
    by_cases hneg:n'<0
    ·have hfin:leftVL (es.drop j) n' (lv - 1)=n':=leftVL_neg _ _ hneg
     have HFin:=hid hfin;clear hfin;have hd:decide (n' ≥ 0)=false:=dF (by omega)
     go_wp2_with fail
     all_goals
      go_ret;exact⟨ret_int (by rw[HQ.out,←E.out,HFin.out]),HB.out.trans (B.out.mono HB.out.size)⟩
    ·by_cases hlt:j<es.length
     ·obtain⟨g,o,c,k1,n1,s1,oi1,mi1,ci1,ok1,mk1,ck1,e1,a1,a2,a3,a4,a5,hT,-⟩:=(HE.out.bel B.out).at hlt
      cases e1
      have hstep:=leftVL_drop hlt n' (lv - 1);rw[if_neg hneg] at hstep;have hlo:=leftV_le es[j] n' (lv - 1);have hsz:=szV_pos es[j];have hcall:=HI.out es[j] (lM hlt) P wr _ n' (lv - 1) hT hm1 hm2 (by omega) (by omega);have HCall:=hid hcall;have HStep:=hid hstep
      have hr1:-1≤leftV es[j] n' (lv - 1)∧leftV es[j] n' (lv - 1)≤1000:=by omega
      generalize hr:leftV es[j] n' (lv - 1)=r at *
      have hj0:(0:Int)≤(j:Int):=by omega
      have hj1:(j:Int)<(es.length:Int):=by omega
      clear hcall hstep hT hr hlo hsz
      go_wp2_with fail
      refine HCall.out.mono ?_;rintro e w2 ⟨rfl,hb2⟩;have HB2:=hT B hb2;clear hb2
      go_wp2_with fail
      go_roundw
      case rel=>exact⟨j+1,r,by omega,by go_num,rfl,hr1.1,hr1.2,HB2,hid (by rw[←HStep.out,E.out])⟩
      case measure=>simp[intOf];omega
     ·have hje:j=es.length:=by omega
      have hfin:leftVL (es.drop j) n' (lv - 1)=n':=by rw[hje,List.drop_length,leftVL]
      have HFin:=hid hfin;clear hfin
      go_wp2_with fail
      go_ret;exact⟨ret_int (by rw[HQ.out,←E.out,HFin.out]),HB.out.trans (B.out.mono HB.out.size)⟩
theorem kyL_drop {es:List Vl}{k:Nat}(h:k<es.length):kyL (es.drop k)=kyV es[k]+kyL (es.drop (k+1)):=by
 rw[List.drop_eq_getElem_cons h,kyL]
def KeysVOk (t:Vl):Prop:=∀ (P:Nat→Prop) (w:World) (v:Value),VV P w v t→kyV t≤1000000000000000000→Calls Tryz.prog 50 #[v] w (Ret (.int .i64 (kyV t:Nat)) w)
theorem keysV_any (t:Vl):KeysVOk t:=by
 induction t using Vl.ind with
 | h k nn s es ns ih =>
  intro P w v hv hmax;obtain⟨ve,vn,rfl,hE,hN,hss⟩:=hv.out;obtain⟨oe,ce,rfl⟩:=hE.len;obtain⟨on,cn,rfl⟩:=hN.len;obtain⟨hB,c0,c3,c4,c1,c2⟩:=box5 w (.int .i64 k) (.int .i64 nn) (.string s) (.slice oe es.length ce) (.slice on ns.length cn) 32;have HB:=hid hB;have HC:=hid c1;have HE:=hid (hE.bel hB);have HI:=hid ih;have hle:=hE.le;have hln:=hN.le
  have hq:kyV (.mk k nn s es ns)=ns.length+kyL es:=by rw[kyV]
  rw[hq] at hmax;have HQ:=hid hq;clear ih hE hN hv hB c0 c1 c2 c3 c4 hss hq
  go_enter Tryz.func50,Tryz.ntmps50
  go_wp2_with fail
  generalize w.alloc (.cells #[.int .i64 k,.int .i64 nn,.string s,.slice oe es.length ce,.slice on ns.length cn] 32)=W at *
  go_loopw [3,4] (fun m i wr=>∃ (k m':Nat),k≤es.length∧i=.int .i64 k∧m=.int .i64 m'∧Hid (Below W.heap.size W wr)∧m'+kyL (es.drop k)≤1000000000000000000∧Hid (m'+kyL (es.drop k)=ns.length+kyL es)) (fun _ i _=>es.length - (intOf i).toNat)
  case atStart=>exact⟨0,ns.length,Nat.zero_le _,rfl,rfl,hid (Below.refl _ _),hmax,hid rfl⟩
  case round =>
   obtain⟨j,m',hj,rfl,rfl,B,hb,E⟩:=hrel;have hc:=zbb B.out HC.out
   by_cases hlt:j<es.length
   ·obtain⟨g,o,c,k1,n1,s1,oi1,mi1,ci1,ok1,mk1,ck1,e1,a1,a2,a3,a4,a5,hT,-⟩:=(HE.out.bel B.out).at hlt
    cases e1
    have hstep:=kyL_drop hlt;rw[hstep] at hb;have hcall:=HI.out es[j] (lM hlt) P wr _ hT (by omega);have HCall:=hid hcall;have HStep:=hid hstep
    generalize hr:kyV es[j]=r at *
    generalize hr2:kyL (es.drop (j+1))=r2 at *
    have HR2:=hid hr2
    have hj0:(0:Int)≤(j:Int):=by omega
    have hj1:(j:Int)<(es.length:Int):=by omega
    have hm1:m'+r≤1000000000000000000:=by omega
    clear hcall hstep hT hr hr2 hmax
    go_wp2_with fail
    refine HCall.out.mono ?_;rintro e w2 ⟨rfl,hb2⟩;have HB2:=hT B hb2;clear hb2
    go_wp2_with fail
    go_roundw
    case rel=>exact⟨j+1,m'+r,by omega,by go_num,by go_num,HB2,by rw[HR2.out];omega,hid (by rw[←E.out,HStep.out,HR2.out];omega)⟩
    case measure=>simp[intOf];omega
   ·have hje:j=es.length:=by omega
    have hfin:m'=kyV (.mk k nn s es ns):=by
     have:=E.out;rw[hje,List.drop_length,kyL] at this;rw[HQ.out];omega
    have HFin:=hid hfin;clear hfin
    go_wp2_with fail
    go_ret;exact⟨ret_int (by rw[←HFin.out]),HB.out.trans (B.out.mono HB.out.size)⟩
def smallVB (t:Vl) (n:Int):Bool:=decide (0≤leftV t n 40)&&decide ((kyV t:Int)≤2*n)
theorem smallV_any (P:Nat→Prop) (w:World) (v:Value) (t:Vl) (hv:VV P w v t) (n:Int) (hn1:0≤n) (hn2:n≤1000) :
  Calls Tryz.prog 13 #[v,.int .i64 n] w (Ret (.bool (smallVB t n)) w):=by
 have hnm:=hv.keys_le;have hlo:=leftV_le t n 40;obtain⟨k,nn,s,es,ns⟩:=t;obtain⟨ve,vn,rfl,hE,hN,hss⟩:=hv.out;obtain⟨hB,c0,c3,c4,c1,c2⟩:=box5 w (.int .i64 k) (.int .i64 nn) (.string s) ve vn 32;have hv2:=hv.bel hB;have h1:=leftV_any (.mk k nn s es ns) P _ _ n 40 hv2 (by omega) hn2 (by omega) (by omega);obtain⟨oe,ce,rfl⟩:=hE.len;obtain⟨on,cn,rfl⟩:=hN.len;have HB:=hid hB;have H1:=hid h1;have HV2:=hid hv2
 generalize hW:w.alloc (.cells #[.int .i64 k,.int .i64 nn,.string s,.slice oe es.length ce,.slice on ns.length cn] 32)=W at *
 have HW:=hid hW;have HC0:=hid c0;have HC1:=hid c1;have HC2:=hid c2;have HC3:=hid c3;have HC4:=hid c4;have HNM:=hid hnm;obtain⟨r,hr⟩:∃ r,leftV (.mk k nn s es ns) n 40=r:=⟨_,rfl⟩;obtain⟨m,hm⟩:∃ m,kyV (.mk k nn s es ns)=m:=⟨_,rfl⟩
 have hs:smallVB (.mk k nn s es ns) n=(decide (0≤r)&&decide ((m:Int)≤2*n)):=by unfold smallVB;rw[hr,hm]
 rw[hr] at H1 hlo;have HS:=hid hs;have HM:=hid hm
 have hmb:0≤r→m≤1000*140737488355328:=fun h=>by
  have h3:(szV (.mk k nn s es ns):Int)≤1000:=by omega
  have h4:szV (.mk k nn s es ns)≤1000:=by omega
  have:=HNM.out;rw[hm] at this;exact Nat.le_trans this (Nat.mul_le_mul_right _ h4)
 have HMB:=hid hmb;clear hE hN hv hB h1 hv2 hW c0 c1 c2 c3 c4 hss hnm hr hm hs hmb hlo
 go_enter Tryz.func13,Tryz.ntmps13
 go_wp2_with fail
 rw[HW.out];refine H1.out.mono ?_;rintro e w2 ⟨rfl,hb2⟩;have HB2:=hid hb2;have q0:=zbb hb2 HC0.out;have q1:=zbb hb2 HC1.out;have q2:=zbb hb2 HC2.out;have q3:=zbb hb2 HC3.out;have q4:=zbb hb2 HC4.out;clear hb2
 by_cases hneg:0≤r
 ·have hb:=HMB.out hneg
  have hcall:=keysV_any (.mk k nn s es ns) P w2 _ (HV2.out.bel HB2.out) (by rw[HM.out];omega);rw[HM.out] at hcall;have HCall:=hid hcall;have hd:decide (0≤r)=true:=dTT hneg;clear hcall
  go_wp2_with fail
  refine HCall.out.mono ?_;rintro e w3 ⟨rfl,hb3⟩;have HB3:=hid (HB.out.trans ((HB2.out.trans (hb3.mono HB2.out.size)).mono HB.out.size));clear hb3
  go_wp2_with fail
  go_ret;refine⟨?_,HB3.out⟩;rw[HS.out,hd,Bool.true_and]
  rfl
 ·have hd:decide (0≤r)=false:=dF hneg
  have hd2:decide (r ≥ 0)=false:=hd
  go_wp2_with fail
  go_ret;exact⟨by rw[HS.out,hd];rfl,HB.out.trans (HB2.out.mono HB.out.size)⟩
theorem smallV_facts {v:Vl}{n:Nat}(h:smallVB v n=true):szV v≤n∧kyV v≤2*n:=by
 unfold smallVB at h;rw[Bool.and_eq_true,decide_eq_true_eq,decide_eq_true_eq] at h;have:=leftV_le v n 40
 omega
theorem leftL_drop {es:List Ty}{k:Nat}(h:k<es.length) (n lv:Int):leftL (es.drop k) n lv=if n<0 then n else leftL (es.drop (k+1)) (leftT es[k] n lv) lv:=by
 rw[List.drop_eq_getElem_cons h,leftL]
def LeftOk (t:Ty):Prop:=∀ (P:Nat→Prop) (w:World) (v:Value) (n lv:Int),TV P w v t→-1≤n→n≤1000→0≤lv→lv≤40→Calls Tryz.prog 78 #[v,.int .i64 n,.int .i64 lv] w (Ret (.int .i64 (leftT t n lv)) w)
theorem left_any (t:Ty):LeftOk t:=by
 induction t using Ty.ind with
 | h k es ns ih =>
  intro P w v n lv hv hn1 hn2 hl1 hl2;obtain⟨ve,vn,rfl,hE,hN⟩:=hv.out;obtain⟨oe,ce,rfl⟩:=hE.len;obtain⟨on,cn,rfl⟩:=hN.len;obtain⟨hB,c0,c1,c2,hz⟩:=box3 w (.int .i64 k) (.slice oe es.length ce) (.slice on ns.length cn) 61;have HB:=hid hB;have HC:=hid c1;have HE:=hid (hE.bel hB);have HI:=hid ih;have hle:=hE.le;have hln:=hN.le;clear ih hE hN hv hB c0 c1 c2
  by_cases hlow:n<1∨lv<1
  ·have he:leftT (.mk k es ns) n lv = -1:=by rw[leftT,if_pos hlow]
   have HQ:=hid he;clear he
   by_cases h1:n<1
   ·clear hlow
    go_enter Tryz.func78,Tryz.ntmps78
    go_wp2_with fail
    go_ret;exact⟨by rw[HQ.out];rfl,HB.out⟩
   ·have h2:lv<1:=by omega
    clear hlow
    go_enter Tryz.func78,Tryz.ntmps78
    go_wp2_with fail
    go_ret;exact⟨by rw[HQ.out];rfl,HB.out⟩
  ·have he:leftT (.mk k es ns) n lv=leftL es (n - 1) (lv - 1):=by rw[leftT,if_neg hlow]
   have HQ:=hid he
   have h1:¬ n<1:=by omega
   have h2:¬ lv<1:=by omega
   clear he hlow
   go_enter Tryz.func78,Tryz.ntmps78
   go_wp2_with fail
   generalize w.alloc (.cells #[.int .i64 k,.slice oe es.length ce,.slice on ns.length cn] 61)=W at *
   go_loopw [7,8] (fun m i wr=>∃ (k:Nat) (n':Int),k≤es.length∧i=.int .i64 k∧m=.int .i64 n'∧-1≤n'∧n'≤1000∧Hid (Below W.heap.size W wr)∧Hid (leftL (es.drop k) n' (lv - 1)=leftL es (n - 1) (lv - 1))) (fun _ i _=>es.length - (intOf i).toNat)
   case atStart=>exact⟨0,n - 1,Nat.zero_le _,rfl,by go_num,by omega,by omega,hid (Below.refl _ _),hid rfl⟩
   case round =>
    obtain⟨j,n',hj,rfl,rfl,hm1,hm2,B,E⟩:=hrel;have hc:=zbb B.out HC.out
    by_cases hneg:n'<0
    ·have hfin:leftL (es.drop j) n' (lv - 1)=n':=leftL_neg _ _ hneg
     have HFin:=hid hfin;clear hfin;have hd:decide (n' ≥ 0)=false:=dF (by omega)
     go_wp2_with fail
     all_goals
      go_ret;exact⟨ret_int (by rw[HQ.out,←E.out,HFin.out]),HB.out.trans (B.out.mono HB.out.size)⟩
    ·by_cases hlt:j<es.length
     ·obtain⟨g,o,c,x,y,z,e1,a1,a2,a3,hT⟩:=(HE.out.bel B.out).at hlt
      cases e1
      have hstep:=leftL_drop hlt n' (lv - 1);rw[if_neg hneg] at hstep;have hlo:=left_le es[j] n' (lv - 1);have hsz:=sizeT_pos es[j];have hcall:=HI.out es[j] (lM hlt) P wr _ n' (lv - 1) hT hm1 hm2 (by omega) (by omega);have HCall:=hid hcall;have HStep:=hid hstep
      have hr1:-1≤leftT es[j] n' (lv - 1)∧leftT es[j] n' (lv - 1)≤1000:=by omega
      generalize hr:leftT es[j] n' (lv - 1)=r at *
      have hj0:(0:Int)≤(j:Int):=by omega
      have hj1:(j:Int)<(es.length:Int):=by omega
      clear hcall hstep hT hr hlo hsz
      go_wp2_with fail
      refine HCall.out.mono ?_;rintro e w2 ⟨rfl,hb2⟩;have HB2:=hT B hb2;clear hb2
      go_wp2_with fail
      go_roundw
      case rel=>exact⟨j+1,r,by omega,by go_num,rfl,hr1.1,hr1.2,HB2,hid (by rw[←HStep.out,E.out])⟩
      case measure=>simp[intOf];omega
     ·have hje:j=es.length:=by omega
      have hfin:leftL (es.drop j) n' (lv - 1)=n':=by rw[hje,List.drop_length,leftL]
      have HFin:=hid hfin;clear hfin
      go_wp2_with fail
      go_ret;exact⟨ret_int (by rw[HQ.out,←E.out,HFin.out]),HB.out.trans (B.out.mono HB.out.size)⟩
theorem namesL_drop {es:List Ty}{k:Nat}(h:k<es.length):namesL (es.drop k)=namesT es[k]+namesL (es.drop (k+1)):=by
 rw[List.drop_eq_getElem_cons h,namesL]
def NamesOk (t:Ty):Prop:=∀ (P:Nat→Prop) (w:World) (v:Value),TV P w v t→namesT t≤1000000000000000000→Calls Tryz.prog 79 #[v] w (Ret (.int .i64 (namesT t:Nat)) w)
theorem tnames_any (t:Ty):NamesOk t:=by
 induction t using Ty.ind with
 | h k es ns ih =>
  intro P w v hv hmax;obtain⟨ve,vn,rfl,hE,hN⟩:=hv.out;obtain⟨oe,ce,rfl⟩:=hE.len;obtain⟨on,cn,rfl⟩:=hN.len;obtain⟨hB,c0,c1,c2,hz⟩:=box3 w (.int .i64 k) (.slice oe es.length ce) (.slice on ns.length cn) 61;have HB:=hid hB;have HC:=hid c1;have HE:=hid (hE.bel hB);have HI:=hid ih;have hle:=hE.le;have hln:=hN.le
  have hq:namesT (.mk k es ns)=ns.length+namesL es:=by rw[namesT]
  rw[hq] at hmax;have HQ:=hid hq;clear ih hE hN hv hB c0 c1 c2 hq
  go_enter Tryz.func79,Tryz.ntmps79
  go_wp2_with fail
  generalize w.alloc (.cells #[.int .i64 k,.slice oe es.length ce,.slice on ns.length cn] 61)=W at *
  go_loopw [3,4] (fun m i wr=>∃ (k m':Nat),k≤es.length∧i=.int .i64 k∧m=.int .i64 m'∧Hid (Below W.heap.size W wr)∧m'+namesL (es.drop k)≤1000000000000000000∧Hid (m'+namesL (es.drop k)=ns.length+namesL es)) (fun _ i _=>es.length - (intOf i).toNat)
  case atStart=>exact⟨0,ns.length,Nat.zero_le _,rfl,rfl,hid (Below.refl _ _),hmax,hid rfl⟩
  case round =>
   obtain⟨j,m',hj,rfl,rfl,B,hb,E⟩:=hrel;have hc:=zbb B.out HC.out
   by_cases hlt:j<es.length
   ·obtain⟨g,o,c,x,y,z,e1,a1,a2,a3,hT⟩:=(HE.out.bel B.out).at hlt
    cases e1
    have hstep:=namesL_drop hlt;rw[hstep] at hb;have hcall:=HI.out es[j] (lM hlt) P wr _ hT (by omega);have HCall:=hid hcall;have HStep:=hid hstep
    generalize hr:namesT es[j]=r at *
    generalize hr2:namesL (es.drop (j+1))=r2 at *
    have HR2:=hid hr2
    have hj0:(0:Int)≤(j:Int):=by omega
    have hj1:(j:Int)<(es.length:Int):=by omega
    have hm1:m'+r≤1000000000000000000:=by omega
    clear hcall hstep hT hr hr2 hmax
    go_wp2_with fail
    refine HCall.out.mono ?_;rintro e w2 ⟨rfl,hb2⟩;have HB2:=hT B hb2;clear hb2
    go_wp2_with fail
    go_roundw
    case rel=>exact⟨j+1,m'+r,by omega,by go_num,by go_num,HB2,by rw[HR2.out];omega,hid (by rw[←E.out,HStep.out,HR2.out];omega)⟩
    case measure=>simp[intOf];omega
   ·have hje:j=es.length:=by omega
    have hfin:m'=namesT (.mk k es ns):=by
     have:=E.out;rw[hje,List.drop_length,namesL] at this;rw[HQ.out];omega
    have HFin:=hid hfin;clear hfin
    go_wp2_with fail
    go_ret;exact⟨ret_int (by rw[←HFin.out]),HB.out.trans (B.out.mono HB.out.size)⟩
def smallB (t:Ty) (n:Int):Bool:=decide (0≤leftT t n 40)&&decide ((namesT t:Int)≤2*n)
theorem small_any (P:Nat→Prop) (w:World) (v:Value) (t:Ty) (hv:TV P w v t) (n:Int) (hn1:0≤n) (hn2:n≤1000) :
  Calls Tryz.prog 54 #[v,.int .i64 n] w (Ret (.bool (smallB t n)) w):=by
 have hnm:=hv.names_le;have hlo:=left_le t n 40;obtain⟨k,es,ns⟩:=t;obtain⟨ve,vn,rfl,hE,hN⟩:=hv.out;obtain⟨hB,c0,c1,c2,hz⟩:=box3 w (.int .i64 k) ve vn 61;have hv2:=hv.bel hB;have h1:=left_any (.mk k es ns) P _ _ n 40 hv2 (by omega) hn2 (by omega) (by omega);obtain⟨oe,ce,rfl⟩:=hE.len;obtain⟨on,cn,rfl⟩:=hN.len;have HB:=hid hB;have H1:=hid h1;have HV2:=hid hv2
 generalize hW:w.alloc (.cells #[.int .i64 k,.slice oe es.length ce,.slice on ns.length cn] 61)=W at *
 have HW:=hid hW;have HC0:=hid c0;have HC1:=hid c1;have HC2:=hid c2;have HNM:=hid hnm;obtain⟨r,hr⟩:∃ r,leftT (.mk k es ns) n 40=r:=⟨_,rfl⟩;obtain⟨m,hm⟩:∃ m,namesT (.mk k es ns)=m:=⟨_,rfl⟩
 have hs:smallB (.mk k es ns) n=(decide (0≤r)&&decide ((m:Int)≤2*n)):=by unfold smallB;rw[hr,hm]
 rw[hr] at H1 hlo;have HS:=hid hs;have HM:=hid hm
 have hmb:0≤r→m≤1000*140737488355328:=fun h=>by
  have h3:(sizeT (.mk k es ns):Int)≤1000:=by omega
  have h4:sizeT (.mk k es ns)≤1000:=by omega
  have:=HNM.out;rw[hm] at this;exact Nat.le_trans this (Nat.mul_le_mul_right _ h4)
 have HMB:=hid hmb;clear hE hN hv hB h1 hv2 hW c0 c1 c2 hnm hr hm hs hmb hlo
 go_enter Tryz.func54,Tryz.ntmps54
 go_wp2_with fail
 rw[HW.out];refine H1.out.mono ?_;rintro e w2 ⟨rfl,hb2⟩;have HB2:=hid hb2;have q0:=zbb hb2 HC0.out;have q1:=zbb hb2 HC1.out;have q2:=zbb hb2 HC2.out;clear hb2
 by_cases hneg:0≤r
 ·have hb:=HMB.out hneg
  have hcall:=tnames_any (.mk k es ns) P w2 _ (HV2.out.bel HB2.out) (by rw[HM.out];omega);rw[HM.out] at hcall;have HCall:=hid hcall;have hd:decide (0≤r)=true:=dTT hneg;clear hcall
  go_wp2_with fail
  refine HCall.out.mono ?_;rintro e w3 ⟨rfl,hb3⟩;have HB3:=hid (HB.out.trans ((HB2.out.trans (hb3.mono HB2.out.size)).mono HB.out.size));clear hb3
  go_wp2_with fail
  go_ret;refine⟨?_,HB3.out⟩;rw[HS.out,hd,Bool.true_and]
  rfl
 ·have hd:decide (0≤r)=false:=dF hneg
  have hd2:decide (r ≥ 0)=false:=hd
  go_wp2_with fail
  go_ret;exact⟨by rw[HS.out,hd];rfl,HB.out.trans (HB2.out.mono HB.out.size)⟩
def Is (b:Bool) (w:World) (e:Ending) (w':World):Prop:=e=.returned (.bool b)∧w=w'
theorem letter_any (n:Nat) (w:World) (hn:n<256):Calls Tryz.prog 92 #[.int .u8 n] w (Is (letterN n) w):=by
 by_cases a:97≤n
 ·have a1:decide ((n:Int) ≥ 97)=true:=dTT (by omega)
  by_cases b:n≤122
  ·have a2:decide ((n:Int)≤122)=true:=dTT (by omega)
   have hp:letterN n=true:=by unfold letterN;simp;omega
   have HP:=hid hp;clear hp
   go_enter Tryz.func92,Tryz.ntmps92
   go_wp2_with fail
   go_ret;exact⟨by rw[HP.out];rfl,rfl⟩
  ·have a2:decide ((n:Int)≤122)=false:=dF (by omega)
   have a3:decide ((n:Int) ≥ 65)=true:=dTT (by omega);have a4:decide ((n:Int)≤90)=false:=dF (by omega);have e1:decide ((n:Int)=95)=false:=dF (by omega);have e2:((n:Int) == 95)=false:=bF (by omega)
   have hp:letterN n=false:=by unfold letterN;simp;omega
   have HP:=hid hp;clear hp
   go_enter Tryz.func92,Tryz.ntmps92
   go_wp2_with fail
   go_ret;exact⟨by rw[HP.out];rfl,rfl⟩
 ·have a1:decide ((n:Int) ≥ 97)=false:=dF (by omega)
  by_cases b:65≤n
  ·have a3:decide ((n:Int) ≥ 65)=true:=dTT (by omega)
   by_cases c:n≤90
   ·have a4:decide ((n:Int)≤90)=true:=dTT (by omega)
    have hp:letterN n=true:=by unfold letterN;simp;omega
    have HP:=hid hp;clear hp
    go_enter Tryz.func92,Tryz.ntmps92
    go_wp2_with fail
    go_ret;exact⟨by rw[HP.out];rfl,rfl⟩
   ·have a4:decide ((n:Int)≤90)=false:=dF (by omega)
    by_cases d:n=95
    ·have e1:decide ((n:Int)=95)=true:=dTT (by omega)
     have e2:((n:Int) == 95)=true:=bT (by omega)
     have hp:letterN n=true:=by unfold letterN;simp;omega
     have HP:=hid hp;clear hp
     go_enter Tryz.func92,Tryz.ntmps92
     go_wp2_with fail
     go_ret;exact⟨by rw[HP.out];rfl,rfl⟩
    ·have e1:decide ((n:Int)=95)=false:=dF (by omega)
     have e2:((n:Int) == 95)=false:=bF (by omega)
     have hp:letterN n=false:=by unfold letterN;simp;omega
     have HP:=hid hp;clear hp
     go_enter Tryz.func92,Tryz.ntmps92
     go_wp2_with fail
     go_ret;exact⟨by rw[HP.out];rfl,rfl⟩
  ·have a3:decide ((n:Int) ≥ 65)=false:=dF (by omega)
   have e1:decide ((n:Int)=95)=false:=dF (by omega);have e2:((n:Int) == 95)=false:=bF (by omega)
   have hp:letterN n=false:=by unfold letterN;simp;omega
   have HP:=hid hp;clear hp
   go_enter Tryz.func92,Tryz.ntmps92
   go_wp2_with fail
   go_ret;exact⟨by rw[HP.out];rfl,rfl⟩
theorem toList_nil {s:ByteArray}(h:s.size=0):s.toList = []:=by
 rw[ByteArray.toList_eq];exact List.eq_nil_of_length_eq_zero (by rw[Array.length_toList];exact h)
theorem toList_ne {s:ByteArray}(h:s.size≠0):s.toList.isEmpty=false:=by
 rw[ByteArray.toList_eq]
 cases hl:s.data.toList with
 | nil=>exact absurd (by rw[show s.size=s.data.toList.length from Array.length_toList.symm,hl];rfl) h
 | cons c l=>rfl
theorem rident_any (s:ByteArray) (w:World) (hs:s.size≤140737488355328):Calls Tryz.prog 81 #[.string s] w (Is (identB s) w):=by
 by_cases h0:s.size=0
 ·have hp:identB s=false:=by
   cases hi:identB s with
   | false=>rfl
   | true=>exact absurd h0 ((identB_iff s).1 hi).1
  have HP:=hid hp;have hemp:=toList_nil h0;clear hp
  go_enter Tryz.func81,Tryz.ntmps81
  go_wp2_with fail
  go_ret;exact⟨by rw[HP.out];rfl,rfl⟩
 have hemp:=toList_ne h0
 by_cases h1:64<s.size
 ·have hp:identB s=false:=by
   cases hi:identB s with
   | false=>rfl
   | true=>have:=((identB_iff s).1 hi).2.1;omega
  have HP:=hid hp;have f1:decide ((s.size:Int) > 64)=true:=dTT (by omega);clear hp
  go_enter Tryz.func81,Tryz.ntmps81
  go_wp2_with fail
  go_ret;exact⟨by rw[HP.out];rfl,rfl⟩
 have f1:decide ((s.size:Int) > 64)=false:=dF (by omega)
 have hpos:0<s.size:=by omega
 have hb0:=byteN_get hpos;have hl0:=letter_any (byteN s 0) w (byteN_lt s 0);have HL:=hid hl0
 cases hc:letterN (byteN s 0) with
 | false =>
  have hp:identB s=false:=identB_bad hpos (by unfold okAt;rw[hc];rfl);have HP:=hid hp;rw[hc] at HL;clear hp hl0 hc
  go_enter Tryz.func81,Tryz.ntmps81
  go_wp2_with fail
  refine HL.out.mono ?_;rintro e w' ⟨rfl,rfl⟩
  go_wp2_with fail
  go_ret;exact⟨by rw[HP.out];rfl,rfl⟩
 | true =>
  rw[hc] at HL;have HC:=hid hc;clear hl0 hc
  go_enter Tryz.func81,Tryz.ntmps81
  go_wp2_with fail
  refine HL.out.mono ?_;rintro e w' ⟨rfl,rfl⟩
  go_wp2_with fail
  clear hb0
  go_loop [3] (fun i=>∃ k:Nat,k≤s.size∧i=.int .i64 k∧Hid (∀ j,j<k→okAt s j=true)) (fun i=>s.size - (intOf i).toNat)
  case atStart=>exact⟨0,Nat.zero_le _,rfl,hid fun j hj=>absurd hj (Nat.not_lt_zero _)⟩
  case round =>
   obtain⟨k,hk,rfl,A⟩:=hrel
   by_cases hlt:k<s.size
   ·have hbn:=byteN_get hlt
    have hl1:=letter_any (byteN s k) w (byteN_lt s k);have hn:=byteN_lt s k
    have h00:k=0→letterN (byteN s k)=true:=fun e=>by rw[e];exact HC.out
    have H00:=hid h00;have HL1:=hid hl1;clear h00 hl1
    generalize hnn:byteN s k=n at *
    have HN:=hid hnn;clear hnn
    cases hc:letterN n with
    | true =>
     rw[hc] at HL1
     have hok:okAt s k=true:=by unfold okAt;rw[HN.out,hc];rfl
     have HOK:=hid hok;clear hc hok
     go_wp2_with fail
     refine HL1.out.mono ?_;rintro e w' ⟨rfl,rfl⟩
     go_wp2_with fail
     go_round
     case rel =>
      refine⟨k+1,by omega,by go_num,hid fun j hj=>?_⟩
      by_cases e:j=k
      ·subst e;exact HOK.out
      ·exact A.out j (by omega)
     case measure=>simp[intOf];omega
    | false =>
     have hk0:k≠0:=fun e=>by rw[H00.out e] at hc;cases hc
     rw[hc] at HL1
     by_cases d1:n<48
     ·have f4:decide ((n:Int)<48)=true:=dTT (by omega)
      have hok:okAt s k=false:=by unfold okAt digitN;rw[HN.out,hc];simp;omega
      have HOK:=hid hok;clear hc hok
      go_wp2_with fail
      refine HL1.out.mono ?_;rintro e w' ⟨rfl,rfl⟩
      go_wp2_with fail
      go_ret;exact⟨by rw[identB_bad hlt HOK.out];rfl,rfl⟩
     ·have f4:decide ((n:Int)<48)=false:=dF (by omega)
      by_cases d2:57<n
      ·have f5:decide ((n:Int) > 57)=true:=dTT (by omega)
       have hok:okAt s k=false:=by unfold okAt digitN;rw[HN.out,hc];simp;omega
       have HOK:=hid hok;clear hc hok
       go_wp2_with fail
       refine HL1.out.mono ?_;rintro e w' ⟨rfl,rfl⟩
       go_wp2_with fail
       go_ret;exact⟨by rw[identB_bad hlt HOK.out];rfl,rfl⟩
      ·have f5:decide ((n:Int) > 57)=false:=dF (by omega)
       have hok:okAt s k=true:=by unfold okAt digitN;rw[HN.out,hc];simp;omega
       have HOK:=hid hok;clear hc hok
       go_wp2_with fail
       refine HL1.out.mono ?_;rintro e w' ⟨rfl,rfl⟩
       go_wp2_with fail
       go_round
       case rel =>
        refine⟨k+1,by omega,by go_num,hid fun j hj=>?_⟩
        by_cases e:j=k
        ·subst e;exact HOK.out
        ·exact A.out j (by omega)
       case measure=>simp[intOf];omega
   ·have hke:k=s.size:=by omega
    have hA:∀ j,j<s.size→okAt s j=true:=fun j hj=>A.out j (by omega)
    have hp:identB s=true:=(identB_iff s).2 ⟨h0,by omega,hA⟩;have HP:=hid hp;clear hA hp
    go_wp2_with fail
    go_ret;exact⟨by rw[HP.out];rfl,rfl⟩
end Go.Proofs.YtibiiafcnaijeaaGreat
