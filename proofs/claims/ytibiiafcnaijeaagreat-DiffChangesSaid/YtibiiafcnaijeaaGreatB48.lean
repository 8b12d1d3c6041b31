/- A part. -/
import Derived.Test.YtibiiafcnaijeaaGreatB00
import Derived.Test.YtibiiafcnaijeaaGreatB46
import Derived.Test.YtibiiafcnaijeaaGreatB47
import Derived.Test.YtibiiafcnaijeaaGreatB27
namespace Go.Proofs.YtibiiafcnaijeaaGreat
open Go Go.RowKit Go.Proofs.YtibiiafcnaijeaaGreat.Steady
set_option linter.unusedVariables false
set_option linter.unusedSimpArgs false
set_option maxRecDepth 100000
set_option maxHeartbeats 40000000
theorem rreason_any (i:Inp) (l:List ByteArray) (P:Nat→Prop) (w:World) (x:Value) (oR:Option Addr) (cR:Nat) (hx:INV P w x i) (hl:l.length≤140737488355328) :
  Calls Tryz.prog 47 #[x,.slice oR l.length cR] w (Ret (.int .i64 (reasonD i l)) w):=by
 obtain⟨oa,ca,on,cn,kp,np,sp,oip,mip,cip,okp,mkp,ckp,od,cd,kc,nc,sc,oic,mic,cic,okc,mkc,ckc,og,cg,ot,mt,ct,oD,cD,rfl,hSC,hVP,hSD,hVC,hSG,hSS⟩:=hx;generalize hA:w.alloc (.cells #[.string i.addr,.string i.tname,.slice oa i.sc.attrs.length ca,.slice on i.sc.nested.length cn,.int .i64 i.quota,.bool i.has,.string i.prior.addr,.string i.prior.deposed,.string i.prior.id,.string i.prior.type,.int .i64 kp,.int .i64 np,.string sp,.slice oip mip cip,.slice okp mkp ckp,.int .i64 i.prior.version,.bool i.prior.tainted,.bool i.prior.createFirst,.slice od i.prior.deps.length cd,.int .i64 kc,.int .i64 nc,.string sc,.slice oic mic cic,.slice okc mkc ckc,.bool i.createFirst,.bool i.protect,.slice og i.ignore.length cg,.slice ot mt ct,.bool i.triggered,.bool i.requested,.slice oD i.deps.length cD] 39)=wa
 have hao:wa.heap[w.heap.size]? = some (.cells #[.string i.addr,.string i.tname,.slice oa i.sc.attrs.length ca,.slice on i.sc.nested.length cn,.int .i64 i.quota,.bool i.has,.string i.prior.addr,.string i.prior.deposed,.string i.prior.id,.string i.prior.type,.int .i64 kp,.int .i64 np,.string sp,.slice oip mip cip,.slice okp mkp ckp,.int .i64 i.prior.version,.bool i.prior.tainted,.bool i.prior.createFirst,.slice od i.prior.deps.length cd,.int .i64 kc,.int .i64 nc,.string sc,.slice oic mic cic,.slice okc mkc ckc,.bool i.createFirst,.bool i.protect,.slice og i.ignore.length cg,.slice ot mt ct,.bool i.triggered,.bool i.requested,.slice oD i.deps.length cD] 39):=by rw[←hA];exact zhh w _
 have has:wa.heap.size=w.heap.size+1:=by rw[←hA];simp
 have hab:Below w.heap.size w wa:=by rw[←hA];exact(Below.refl _ _).alloc (nR _) _
 have HA0:=hid hA;clear hA;have HB:=hid hab;clear hSC hVP hSD hVC hSG hSS has hab;obtain⟨x0,x1,x2,x3,x4,x5,x6,x7,x8,x9,x10,x11,x12,x13,x14,x15,x16,x17,x18,x19,x20,x21,x22,x23,x24,x25,x26,x27,x28,x29,x30⟩:=C31.of hao;clear hao
 cases ht:i.prior.tainted with
 | true =>
  rw[ht] at x16 HA0;have HR:=hid (show reasonD i l=4 by unfold reasonD;simp[ht]);clear ht
  go_enter Tryz.func47,Tryz.ntmps47
  go_upto_region 1 with (fail)
  rw[HA0.out]
  go_wp2_with fail
  go_ret;exact⟨by rw[HR.out];rfl,HB.out⟩
 | false =>
  rw[ht] at x16 HA0
  cases hr:i.requested with
  | true =>
   rw[hr] at x29 HA0;have HR:=hid (show reasonD i l=6 by unfold reasonD;simp[ht,hr]);clear ht hr
   go_enter Tryz.func47,Tryz.ntmps47
   go_upto_region 1 with (fail)
   rw[HA0.out]
   go_wp2_with fail
   go_ret;exact⟨by rw[HR.out];rfl,HB.out⟩
  | false =>
   rw[hr] at x29 HA0
   cases hg:i.triggered with
   | true =>
    rw[hg] at x28 HA0;have HR:=hid (show reasonD i l=5 by unfold reasonD;simp[ht,hr,hg]);clear ht hr hg
    go_enter Tryz.func47,Tryz.ntmps47
    go_upto_region 1 with (fail)
    rw[HA0.out]
    go_wp2_with fail
    go_ret;exact⟨by rw[HR.out];rfl,HB.out⟩
   | false =>
    rw[hg] at x28 HA0
    by_cases h0:l = []
    ·have h2:decide (0<l.length)=false:=by rw[h0];rfl
     have HR:=hid (show reasonD i l=0 by unfold reasonD;simp[ht,hr,hg,h0]);clear ht hr hg h0
     go_enter Tryz.func47,Tryz.ntmps47
     go_upto_region 1 with (fail)
     rw[HA0.out]
     go_wp2_with fail
     go_ret;exact⟨by rw[HR.out];rfl,HB.out⟩
    ·have h1:0<l.length:=List.length_pos_iff.2 h0
     have h2:decide (0<l.length)=true:=dTT h1;have HR:=hid (show reasonD i l=3 by unfold reasonD;simp[ht,hr,hg,h0]);clear ht hr hg h0
     go_enter Tryz.func47,Tryz.ntmps47
     go_upto_region 1 with (fail)
     rw[HA0.out]
     go_wp2_with fail
     go_ret;exact⟨by rw[HR.out];rfl,HB.out⟩
theorem rignored_any (s:Sc) (l:List ByteArray) (P Q:Nat→Prop) (w:World) (va vn u:Value) (hs:SCV P w va vn s) (hl:SV Q w u l) (hll:l.length≤2000) :
  Calls Tryz.prog 45 #[.agg #[va,vn],u] w (FreshS (ignN s l) w):=by
 obtain⟨oa,ca,rfl⟩:=hs.1.len;obtain⟨on,cn,rfl⟩:=hs.2.len;obtain⟨ou,cu,rfl⟩:=hl.len;generalize hA:w.alloc (.cells #[.slice oa s.attrs.length ca,.slice on s.nested.length cn] 25)=wd
 have hb:Below w.heap.size w wd:=by rw[←hA];exact zaa
 have h0:wd.heap[w.heap.size]? = some (.cells #[.slice oa s.attrs.length ca,.slice on s.nested.length cn] 25):=by rw[←hA];exact zhh w _
 have HA:=hid hA;have HB:=hid hb;have HSC:=hid hs;have HN:=hid (hl.bel hb);have HXA:=hid h0;have HNL:=hid hll;have HRES:=hid (show ignN s l=l.filter (ignP s) from rfl);clear hA hb h0 hs hl
 go_enter Tryz.func45,Tryz.ntmps45
 go_upto_region 1 with (fail)
 rw[HA.out]
 go_wp2_with fail
 go_loopw [5,6] (fun o i wr=>∃ (j:Nat) (oo:Option Addr) (mo co:Nat),j≤l.length∧o=.slice oo mo co∧i=.int .i64 j∧Hid (FL wd.heap.size wd wr (.slice oo mo co) ((l.take j).filter (ignP s)))) (fun _ i _=>l.length - (intOf i).toNat)
 case atStart=>exact⟨0,_,_,_,Nat.zero_le _,rfl,rfl,hid ⟨Below.refl _ _,nR _,.inl ⟨rfl,rfl⟩,(fun g e=>by cases e),(fun s h=>by cases h)⟩⟩
 case round =>
  obtain⟨j,oo,mo,co,hj,rfl,rfl,F⟩:=hrel
  by_cases hlt:j<l.length
  ·obtain⟨g,o,c,e1,p2⟩:=HN.out.at hlt
   cases e1
   have hj0:(0:Int)≤(j:Int):=by omega
   have hj1:(j:Int)<(l.length:Int):=by omega
   have HTK:=hid (filter_take (ignP s) l hlt);have HXS:=hid (HN.out.2 l[j] (lM hlt))
   have HLF:=hid (show((l.take j).filter (ignP s)).length≤2000 by
    have h1:=List.length_filter_le (ignP s) (l.take j);have h2:=List.length_take_le j l;have h3:=HNL.out
    omega)
   generalize l[j]=x at *
   generalize (l.take j).filter (ignP s)=ll at *
   have P2:=hid p2;have HBR:=hid (HB.out.trans (F.out.bel.mono HB.out.size));have p0:=zbb F.out.bel p2;have n0:=(cII (kO HXA.out F.out.bel) 0).trans rfl;have n1:=(cII (kO HXA.out F.out.bel) 1).trans rfl;clear p2
   have HAT:Hid (∀ W,Below wr.heap.size wr W→Calls Tryz.prog 19 #[.agg #[.slice oa s.attrs.length ca,.slice on s.nested.length cn],.string x] W (fun e w'=>∃ z0 z1 z2 z3 z4 z5 z6 z7 md z9 za zb,e=.returned (.tuple #[.agg #[.string z0,.int .i64 z1,.slice z2 z3 z4,.slice z5 z6 z7,.int .i64 md,.bool z9,.bool za,.bool zb],.bool (fndA s.attrs x).isSome])∧Below W.heap.size W w'∧md=modeA (fndA s.attrs x)∧z9=repA (fndA s.attrs x)∧zb=volA (fndA s.attrs x))):=hid fun W hb=>(rfind_any s x P w W _ _ HSC.out (HBR.out.trans (hb.mono HBR.out.size))).mono fun e w' h=>h.flags
   have HIP:Hid (ignP s x=(!(fndA s.attrs x).isSome||decide (modeA (fndA s.attrs x)≠3))):=hid (by
    unfold ignP modeA
    cases fndA s.attrs x <;> rfl)
   generalize (fndA s.attrs x).isSome=ia at *
   generalize repA (fndA s.attrs x)=ra at *
   generalize modeA (fndA s.attrs x)=md0 at *
   generalize volA (fndA s.attrs x)=vo at *
   go_upto_region 5 with (fail)
   obtain⟨wp,rfl⟩:∃ v,v=wr:=⟨_,rfl⟩
   go_cut [7,8] (fun pv bv wx=>∃ (Y:Nat) (z0:ByteArray) (z1:Int) (z2:Option Addr) (z3 z4:Nat) (z5:Option Addr) (z6 z7:Nat) (za:Bool),pv=.pointer (some ⟨Y,0,none⟩)∧bv=.bool ia∧Hid (GB wp wx Y 64 [.string z0,.int .i64 z1,.slice z2 z3 z4,.slice z5 z6 z7,.int .i64 md0,.bool ra,.bool za,.bool vo]))
   case first =>
    have hc0:CL [(w.heap.size,0,.slice oa s.attrs.length ca),(w.heap.size,1,.slice on s.nested.length cn),(g,o+j,.string x)] wp.drew:=CL.bel (show CL _ wp from⟨n0,n1,p0,trivial⟩) (zdd (Below.refl _ _));have HLT:=hid (CL.lt hc0);refine wp_region_free 9 5 5 (CL _) (by kernel_rfl) (by kernel_rfl) hc0 ?_ ?_
    ·repeat (first
      | (refine qqK (by rfl) ?_;try simp only[pT])
      | (refine qqC (v:=?_) (by rfl) ?_ ?_;rotate_left;(focus intro v hSv;(try simp only[CL] at hSv);go_simp;(try with_reducible rfl);done);try simp only[pT]))
     refine qqL rfl (by rfl) (fun K hK=>?_)
     go_simp
     refine(HAT.out wp.drew (zdd (Below.refl _ _))).mono ?_;rintro e w5 ⟨z0,z1,z2,z3,z4,z5,z6,z7,z8,z9,za,zb,rfl,hb5,hf1,hf2,hf3⟩;subst hf1;subst hf2;subst hf3;have hb5':Below wp.heap.size wp w5:=(zdd (Below.refl _ _)).trans (hb5.mono (nR _));have hc5:=CL.bel hc0 hb5;refine hK.out _ _ (hc5) ?_;clear hK K
     try simp only[pT]
     refine cR0 ?_;refine qqL rfl (by rfl) (fun K hK=>?_)
     go_simp
     have hba:Below w5.heap.size w5 (w5.alloc zero8):=zaa;have hoa:=zhh w5 zero8
     generalize w5.alloc zero8=w6 at *
     have hc6:=CL.bel hc5 hba;refine hK.out _ _ (hc6) ?_;clear hK K
     try simp only[pT]
     refine cR0 ?_;refine qqL rfl (by rfl) (fun K hK=>?_);refine zq 64 _ _ rfl w5.heap.size 0 [_,_,_,_,_,_,_,_] rfl rfl _ _ hoa (by simp) (by kernel_rfl) rfl ?_;intro w7 hz7 hc7;have hle5:wp.heap.size≤w5.heap.size:=hb5'.size;refine hK.out _ _ (CL.chg hc6 hc7 (fun x hx e=>by have h8:x.1<wp.heap.size:=HLT.out x hx;omega)) ?_;clear hK K hc5 hc6
     try simp only[pT]
     refine cR0 ?_;refine zn ?_
     go_wp2_with fail
     go_meet;have hGB:=GB.one hb5' hba hc7 hz7;exact⟨_,_,_,_,_,_,_,_,_,_,rfl,rfl,hid hGB⟩
    ·simp only[mv,List.take_succ_cons,List.take_zero,List.drop_succ_cons,List.drop_zero,List.cons_append,List.nil_append]
     refine cR0 ?_;refine qqL rfl (by rfl) (fun K hK=>?_)
     go_simp
     have hba:Below wp.heap.size wp (wp.alloc zero8).drew:=(zdd (Below.refl _ _)).alloc (nR _) _;have hba0:Below wp.drew.heap.size wp.drew (wp.alloc zero8).drew:=(Below.refl wp.drew.heap.size wp.drew).alloc (nR _) _;have hoa:(wp.alloc zero8).drew.heap[wp.heap.size]? = some zero8:=zhh wp zero8;have hc5:=CL.bel hc0 hba0
     generalize (wp.alloc zero8).drew=w4 at *
     refine hK.out _ _ (hc5) ?_;clear hK K
     try simp only[pT]
     refine cR0 ?_;refine qqL rfl (by rfl) (fun K hK=>?_)
     go_simp
     refine(HAT.out w4 hba).mono ?_;rintro e w5 ⟨z0,z1,z2,z3,z4,z5,z6,z7,z8,z9,za,zb,rfl,hb5,hf1,hf2,hf3⟩;subst hf1;subst hf2;subst hf3;have hc6:=CL.bel hc5 hb5;have hoa5:=kO hoa hb5;refine hK.out _ _ (hc6) ?_;clear hK K
     try simp only[pT]
     refine cR0 ?_;refine qqL rfl (by rfl) (fun K hK=>?_);refine zq 64 _ _ rfl wp.heap.size 0 [_,_,_,_,_,_,_,_] rfl rfl _ _ hoa5 (by simp) (by kernel_rfl) rfl ?_;intro w7 hz7 hc7;refine hK.out _ _ (CL.chg hc6 hc7 (fun x hx e=>by have h8:x.1<wp.heap.size:=HLT.out x hx;omega)) ?_;clear hK K hc5 hc6
     try simp only[pT]
     refine cR0 ?_;refine zn ?_
     go_wp2_with fail
     go_meet;have hGB:=GB.two hba hb5 hc7 hz7;exact⟨_,_,_,_,_,_,_,_,_,_,rfl,rfl,hid hGB⟩
   case rest =>
   obtain⟨Y,z0,z1,z2,z3,z4,z5,z6,z7,za,rfl,rfl,G⟩:=hcut;obtain⟨wq,rfl⟩:∃ v,v=wc:=⟨_,rfl⟩;have F2:=hid (F.out.later G.out.bel);have m4:=(cII G.out.obj 4).trans rfl;clear n0 n1 p0 G HAT F
   cases ia with
   | false =>
    simp only[HIP.out,Bool.not_false,Bool.true_or,if_true] at HTK
    go_upto_region 7 with (fail)
    have p0:=zbb F2.out.bel P2.out
    go_upto_region 4 with (at_builtin;refine app_tag (by rfl) (.tmp 31) (.tmp 36) 30 (by rfl) 9 (.string ⟨#[]⟩) 1 16 Tryz.underlying30 info9 rfl (by decide) (by decide) _ _ _ F2.out.row.owns (by rfl) [.string x] wq.heap.size (by rfl) (by rfl) (by rfl) (by simp[Value.oneCell']) (by have:=HLF.out;omega) ?_;intro v9 w9 hown9 hc9 hp9 hne9;obtain⟨o9,n9,c9,rfl⟩:=zw hown9;have HF9:=hid (F2.out.push HXS.out hown9 hc9 hp9);clear hown9 hc9 hp9 hne9)
    clear p0 m4
    go_wp2_with fail
    go_roundw
    case rel=>exact⟨j+1,_,_,_,by omega,rfl,by go_num,by rw[HTK.out];exact HF9⟩
    case measure=>simp[intOf];omega
   | true =>
   by_cases h3:md0=3
   ·simp only[HIP.out,Bool.not_true,Bool.false_or,h3,ne_eq,not_true_eq_false,decide_false,Bool.false_eq_true,if_false] at HTK
    obtain⟨qa,qb,qc⟩:=tT h3;clear h3 HIP
    go_wp2_with fail
    go_roundw
    case rel=>exact⟨j+1,_,_,_,by omega,rfl,by go_num,by rw[HTK.out];exact F2⟩
    case measure=>simp[intOf];omega
   ·simp only[HIP.out,Bool.not_true,Bool.false_or,h3,ne_eq,not_false_eq_true,decide_true,if_true] at HTK
    obtain⟨qa,qb,qc⟩:=tF h3;clear h3 HIP
    go_upto_region 7 with (fail)
    have p0:=zbb F2.out.bel P2.out
    go_upto_region 4 with (at_builtin;refine app_tag (by rfl) (.tmp 31) (.tmp 36) 30 (by rfl) 9 (.string ⟨#[]⟩) 1 16 Tryz.underlying30 info9 rfl (by decide) (by decide) _ _ _ F2.out.row.owns (by rfl) [.string x] wq.heap.size (by rfl) (by rfl) (by rfl) (by simp[Value.oneCell']) (by have:=HLF.out;omega) ?_;intro v9 w9 hown9 hc9 hp9 hne9;obtain⟨o9,n9,c9,rfl⟩:=zw hown9;have HF9:=hid (F2.out.push HXS.out hown9 hc9 hp9);clear hown9 hc9 hp9 hne9)
    clear p0 m4
    go_wp2_with fail
    go_roundw
    case rel=>exact⟨j+1,_,_,_,by omega,rfl,by go_num,by rw[HTK.out];exact HF9⟩
    case measure=>simp[intOf];omega
  ·rw[List.take_of_length_le (by omega),←HRES.out] at F
   have HLC:=hid (show(ignN s l).length≤2000 by rw[HRES.out];have h1:=List.length_filter_le (ignP s) l;have:=HNL.out;omega);have HB3:=hid (HB.out.trans (F.out.bel.mono HB.out.size))
   go_wp2_with fail
   go_ret;exact⟨_,rfl,F.out.row.sv (fun g e=>by have:=F.out.own g e;have:=HB.out.size;omega) (by have:=HLC.out;omega) F.out.str,HB3.out⟩
def changeR (i:Inp):Chg' :=
 let c:Chg':=⟨i.addr,⟨#[]⟩,i.tname,0,0,nullV,nullV,⟨#[]⟩,[],false,i.protect,false,i.deps,[]⟩
 if i.has=false then { c with action:=1,reason:=1,after:=proposeR i.sc nullV i.cnfg } else
  let cfg:=ignoreR i.prior.attrs i.cnfg (ignN i.sc i.ignore)
  let after:=proposeR i.sc i.prior.attrs cfg
  let rep:=replacedR i.sc i.prior.attrs after
  let c:={ c with before:=i.prior.attrs,id:=i.prior.id,oldDeps:=i.prior.deps,after:=after,replace:=rep }
  if reasonD i rep≠0 then { c with action:=3,reason:=reasonD i rep,after:=proposeR i.sc nullV cfg,createFirst:=i.createFirst } else
   if changedR i.sc i.prior.attrs after = [] then c else { c with action:=2,reason:=2 }
def KB (n:Nat) (g:Nat):Prop:=g≠n+3∧g≠n+1
theorem VV.kb {n:Nat}{w w':World}{v:Value}{t:Vl}{b:Nat}(h:VV (KB n) w v t) (hc:Chg (fun k=>k=b) w w') (hb:b=n+3∨b=n+1):VV (KB n) w' v t :=
 h.keep (ZK.chg hc fun g hg e=>by have h1:=hg.1;have h2:=hg.2;omega) fun _ h=>h
theorem SV.kb {n:Nat}{w w':World}{v:Value}{l:List ByteArray}{b:Nat}(h:SV (KB n) w v l) (hc:Chg (fun k=>k=b) w w') (hb:b=n+3∨b=n+1):SV (KB n) w' v l :=
 h.keep (ZK.chg hc fun g hg e=>by have h1:=hg.1;have h2:=hg.2;omega) fun _ h=>h
theorem VV.kbo {n:Nat}{w:World}{v:Value}{t:Vl}{P:Nat→Prop}(h:VV P w v t) (hP:∀ g,P g→g<n∨n+4≤g):VV (KB n) w v t:=h.keep (ZK.refl _ _) fun g hg=>⟨by have:=hP g hg;omega,by have:=hP g hg;omega⟩
theorem SV.kbo {n:Nat}{w:World}{v:Value}{l:List ByteArray}{P:Nat→Prop}(h:SV P w v l) (hP:∀ g,P g→g<n∨n+4≤g):SV (KB n) w v l:=h.keep (ZK.refl _ _) fun g hg=>⟨by have:=hP g hg;omega,by have:=hP g hg;omega⟩
end Go.Proofs.YtibiiafcnaijeaaGreat
