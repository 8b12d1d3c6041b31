/- A part. -/
import Derived.Test.YtibiiafcnaijeaaGreatB00
import Derived.Test.YtibiiafcnaijeaaGreatB14
import Derived.BigQuiet
namespace Go.Proofs.YtibiiafcnaijeaaGreat
open Go Go.RowKit Go.Proofs.YtibiiafcnaijeaaGreat.Steady
set_option linter.unusedVariables false
set_option linter.unusedSimpArgs false
set_option maxRecDepth 100000
set_option maxHeartbeats 40000000
def hasB (l:List ByteArray) (x:ByteArray):Bool:=l.any fun y=>decide (y=x)
theorem rfind_any (s:Sc) (x:ByteArray) (P:Nat→Prop) (w0 w:World) (va vn:Value) (hs:SCV P w0 va vn s) (h0:Below w0.heap.size w0 w) :
  Calls Tryz.prog 19 #[.agg #[va,vn],.string x] w (RAtPost P w0 (fndA s.attrs x) w):=by
 obtain⟨oa,ca,rfl⟩:=hs.1.len;obtain⟨on,cn,rfl⟩:=hs.2.len;generalize hA:w.alloc (.cells #[.slice oa s.attrs.length ca,.slice on s.nested.length cn] 25)=wa
 have hao:wa.heap[w.heap.size]? = some (.cells #[.slice oa s.attrs.length ca,.slice on s.nested.length cn] 25):=by rw[←hA];exact zhh w _
 have has:wa.heap.size=w.heap.size+1:=by rw[←hA];simp
 have hab:Below w.heap.size w wa:=by rw[←hA];exact(Below.refl _ _).alloc (nR _) _
 have hT:=zhh wa zero8;have hbb:Below wa.heap.size wa (wa.alloc zero8):=(Below.refl _ _).alloc (nR _) _;rw[has] at hT;have HA1:=hid hA;generalize hB:wa.alloc zero8=wb at hT hbb;have HB1:=hid hB;have hall:Below w.heap.size w wb:=hab.trans (hbb.mono hab.size);have HB:=hid hall;have hbs:w.heap.size+1<wb.heap.size:=(aS hT).1;have HBS:=hid hbs;have HZ:=hid hT;have HX:=hid ((hbb.block _ (by omega)).trans hao);have HC:=hid (rAttr_any s.attrs x P w0 wb _ hs.1 (h0.trans (hall.mono h0.size)));have a0:=(cII HX.out 0).trans rfl;clear hs h0 hA hB hT hbb hbs hall hao has hab
 generalize fndA s.attrs x=r at *
 go_enter Tryz.func19,Tryz.ntmps19
 go_upto_region 1 with (fail)
 rw[HA1.out,HB1.out]
 go_wp2_with fail
 refine HC.out.mono ?_;rintro e w2 ⟨u,rfl,hb2,hy,hn⟩;have HZ2:=kH HZ hb2;have HB2:=hT HB hb2;have f0:=(cII HZ2.out 0).trans rfl;have f1:=(cII HZ2.out 1).trans rfl;have f2:=(cII HZ2.out 2).trans rfl;have f3:=(cII HZ2.out 3).trans rfl;have f4:=(cII HZ2.out 4).trans rfl;have f5:=(cII HZ2.out 5).trans rfl;have f6:=(cII HZ2.out 6).trans rfl;have f7:=(cII HZ2.out 7).trans rfl;have fz:=zff HZ2.out;clear hb2
 cases r with
 | none =>
  have e:=hn rfl;subst e;clear hy hn
  go_wp2_with fail
  try simp only[Exit.inBlock,Exit.then]
  refine bodyPost_ret (v:=.tuple #[.agg #[.string ⟨#[]⟩,.int .i64 0,.slice none 0 0,.slice none 0 0,.int .i64 0,.bool false,.bool false,.bool false],.bool false]) (by simp[results,Tryz.results19,go_sem,f0,f1,f2,f3,f4,f5,f6,f7]) rfl ?_;exact⟨_,rfl,store8_below HB2.out (by omega) (nR _) _ _ _ _ _ _ _ _,(by intro a h;cases h),fun _=>rfl⟩
 | some a =>
  obtain⟨k,oe,me,ce,on2,mn,cn2,rfl,hT,hsz⟩:=hy a rfl;have HAT:Hid (ATV P w0 (.agg #[.string a.name,.int .i64 k,.slice oe me ce,.slice on2 mn cn2,.int .i64 a.mode,.bool a.rep,.bool a.sens,.bool a.vol]) a):=hid ⟨k,oe,me,ce,on2,mn,cn2,rfl,hT,hsz⟩;clear hy hn hT hsz;have HQ:=hid (show ∀ a',some a=some a'→ATV P w0 (.agg #[.string a.name,.int .i64 k,.slice oe me ce,.slice on2 mn cn2,.int .i64 a.mode,.bool a.rep,.bool a.sens,.bool a.vol]) a' from by intro a' h;cases h;exact HAT.out);clear HAT
  generalize a.name=nm at *
  generalize a.mode=md at *
  generalize a.rep=rp at *
  generalize a.sens=sn at *
  generalize a.vol=vl at *
  go_wp2_with fail
  try simp only[Exit.inBlock,Exit.then]
  refine bodyPost_ret (v:=.tuple #[.agg #[.string nm,.int .i64 k,.slice oe me ce,.slice on2 mn cn2,.int .i64 md,.bool rp,.bool sn,.bool vl],.bool true]) (by simp[results,Tryz.results19,go_sem,f0,f1,f2,f3,f4,f5,f6,f7]) rfl ?_;exact⟨_,rfl,store8_below HB2.out (by omega) (nR _) _ _ _ _ _ _ _ _,HQ.out,fun h=>by cases h⟩
def RNePost (P:Nat→Prop) (w0:World) (o:Option Ne) (w:World) (e:Ending) (w':World):Prop:=∃ nm mn mx oa ma ca rp,e=.returned (.tuple #[.agg #[.string nm,.int .i64 mn,.int .i64 mx,.slice oa ma ca,.bool rp],.bool o.isSome])∧Below w.heap.size w w' ∧
 (∀ n,o=some n→nm=n.name∧mn=n.mn∧mx=n.mx∧rp=n.rep∧ma=n.attrs.length∧AV P w0 (.slice oa ma ca) n.attrs∧n.name.size≤140737488355328)∧(o=none→rp=false)
theorem rnested_any (s:Sc) (x:ByteArray) (P:Nat→Prop) (w0 w:World) (va vn:Value) (hs:SCV P w0 va vn s) (h0:Below w0.heap.size w0 w) :
  Calls Tryz.prog 59 #[.agg #[va,vn],.string x] w (RNePost P w0 (fndK s.nested x) w):=by
 obtain⟨oa,ca,rfl⟩:=hs.1.len;obtain⟨on,cn,rfl⟩:=hs.2.len;have hle:=hs.2.le;generalize hA:w.alloc (.cells #[.slice oa s.attrs.length ca,.slice on s.nested.length cn] 25)=wa
 have hao:wa.heap[w.heap.size]? = some (.cells #[.slice oa s.attrs.length ca,.slice on s.nested.length cn] 25):=by rw[←hA];exact zhh w _
 have has:wa.heap.size=w.heap.size+1:=by rw[←hA];simp
 have hab:Below w.heap.size w wa:=by rw[←hA];exact(Below.refl _ _).alloc (nR _) _
 have hT:=zhh wa zeroN;have hbb:Below wa.heap.size wa (wa.alloc zeroN):=(Below.refl _ _).alloc (nR _) _;rw[has] at hT;have HA1:=hid hA;generalize hB:wa.alloc zeroN=wb at hT hbb;have HB1:=hid hB;have hall:Below w.heap.size w wb:=hab.trans (hbb.mono hab.size);have HB:=hid hall;have HZ:=hid hT;have HX:=hid ((hbb.block _ (by omega)).trans hao);have HV:=hid hs.2;have H0:=hid h0;clear hs h0 hA hB hT hbb hall hao has hab
 go_enter Tryz.func59,Tryz.ntmps59
 go_upto_region 1 with (fail)
 rw[HA1.out,HB1.out]
 go_wp2_with fail
 go_loopw [6] (fun i wr=>∃ j:Nat,j≤s.nested.length∧i=.int .i64 j∧Hid (Below wb.heap.size wb wr)∧Hid (∀ i (hi:i<s.nested.length),i<j→s.nested[i].name≠x)) (fun i _=>s.nested.length - (intOf i).toNat)
 case atStart=>exact⟨0,Nat.zero_le _,rfl,hid (Below.refl _ _),hid fun i _ hi=>absurd hi (Nat.not_lt_zero _)⟩
 case round =>
  obtain⟨j,hj,rfl,B,A⟩:=hrel;have HZ2:=kH HZ B.out;have HX2:=kH HX B.out;have HB2:=hT HB B.out;have x1:=(cII HX2.out 1).trans rfl;have f0:=(cII HZ2.out 0).trans rfl;have f1:=(cII HZ2.out 1).trans rfl;have f2:=(cII HZ2.out 2).trans rfl;have f3:=(cII HZ2.out 3).trans rfl;have f4:=(cII HZ2.out 4).trans rfl;have fz:=zff HZ2.out
  by_cases hlt:j<s.nested.length
  ·obtain⟨g,o,c,oa2,ca2,hg,e1,a0,a1,a2,a3,a4,hAV,hsz⟩:=HV.out.at hlt
   cases e1
   replace a0:=zbb (H0.out.trans (HB2.out.mono H0.out.size)) a0;replace a1:=zbb (H0.out.trans (HB2.out.mono H0.out.size)) a1;replace a2:=zbb (H0.out.trans (HB2.out.mono H0.out.size)) a2;replace a3:=zbb (H0.out.trans (HB2.out.mono H0.out.size)) a3;replace a4:=zbb (H0.out.trans (HB2.out.mono H0.out.size)) a4
   have hj0:(0:Int)≤(j:Int):=by omega
   have hj1:(j:Int)<(s.nested.length:Int):=by omega
   have HHIT:=hid (fun hy=>fndK_hit hlt A.out (x:=x) hy);have HAT:=hid (And.intro hAV hsz)
   have HMISS:Hid (s.nested[j].name≠x→∀ i (hi:i<s.nested.length),i<j+1→s.nested[i].name≠x):=hid fun hne i hi hij=>by
    by_cases e:i=j
    ·subst e;exact hne
    ·exact A.out i hi (by omega)
   clear hAV hsz A
   generalize s.nested[j]=at' at *
   obtain⟨nm,mn,mx,ats,rp⟩:=at'
   simp only at *
   by_cases hx:nm=x
   ·subst hx
    have HF:=hid (HHIT.out rfl);clear HHIT HMISS;have HQ:=hid (show ∀ n,some (⟨nm,mn,mx,ats,rp⟩:Ne)=some n→nm=n.name∧mn=n.mn∧mx=n.mx∧rp=n.rep∧ats.length=n.attrs.length∧AV P w0 (.slice oa2 ats.length ca2) n.attrs∧n.name.size≤140737488355328 from by intro n h;cases h;exact⟨rfl,rfl,rfl,rfl,rfl,HAT.out.1,HAT.out.2⟩);clear HAT
    generalize ats.length=ma at *
    go_wp2_with fail
    try simp only[Exit.inBlock,Exit.then]
    refine bodyPost_ret (v:=.tuple #[.agg #[.string nm,.int .i64 mn,.int .i64 mx,.slice oa2 ma ca2,.bool rp],.bool true]) (by simp[results,Tryz.results59,go_sem,f0,f1,f2,f3,f4]) rfl ?_;rw[HF.out];exact⟨_,_,_,_,_,_,_,rfl,store5_below HB2.out (by omega) (nR _) _ _ _ _ _,HQ.out,fun h=>by cases h⟩
   ·obtain⟨hb1,hb2⟩:=str_ne hx
    have HM:=hid (HMISS.out hx);clear HHIT HMISS hx HAT
    go_wp2_with fail
    go_roundw
    case rel=>exact⟨j+1,by omega,by go_num,hid B.out,HM⟩
    case measure=>simp[intOf];omega
  ·have HF:=hid (fndK_miss fun i hi=>A.out i hi (by omega))
   go_wp2_with fail
   try simp only[Exit.inBlock,Exit.then]
   refine bodyPost_ret (v:=.tuple #[.agg #[.string ⟨#[]⟩,.int .i64 0,.int .i64 0,.slice none 0 0,.bool false],.bool false]) (by simp[results,Tryz.results59,go_sem,f0,f1,f2,f3,f4]) rfl ?_;rw[HF.out];exact⟨_,_,_,_,_,_,_,rfl,store5_below HB2.out (by omega) (nR _) _ _ _ _ _,(by intro n h;cases h),fun _=>rfl⟩
def kindE (s:Sc) (n:Ne) (p:Option ByteArray):Int:=if identB n.name=false then 7 else if badP p n.name=true then 1 else if (fndA s.attrs n.name).isSome=true then 8 else if n.mn<0∨n.mx<n.mn∨256<n.mx then 1 else if 64<n.attrs.length then 14 else attrsE n.attrs none true
def prevK (l:List Ne) (j:Nat):Option ByteArray:=if j=0 then none else l[j - 1]?.map (·.name)
theorem rkind_any (s:Sc) (j:Nat) (hj:j<s.nested.length) (P:Nat→Prop) (w:World) (va vn:Value) (hs:SCV P w va vn s) :
  Calls Tryz.prog 56 #[.agg #[va,vn],.int .i64 j] w (Ret (.int .i64 (kindE s s.nested[j] (prevK s.nested j))) w):=by
 obtain⟨oa,ca,rfl⟩:=hs.1.len;obtain⟨on,cn,rfl⟩:=hs.2.len;have hle:=hs.2.le;generalize hA:w.alloc (.cells #[.slice oa s.attrs.length ca,.slice on s.nested.length cn] 25)=wa
 have hao:wa.heap[w.heap.size]? = some (.cells #[.slice oa s.attrs.length ca,.slice on s.nested.length cn] 25):=by rw[←hA];exact zhh w _
 have has:wa.heap.size=w.heap.size+1:=by rw[←hA];simp
 have hab:Below w.heap.size w wa:=by rw[←hA];exact(Below.refl _ _).alloc (nR _) _
 have HA1:=hid hA;have HX:=hid hao;have HB:=hid hab;have HAT:=hid hs.1;obtain⟨g,o,c,oa2,ca2,hg,e1,a0,a1,a2,a3,a4,hAV,hsz⟩:=hs.2.at hj
 cases e1
 have hpv:0<j→∃ p,prevK s.nested j=some p∧w.cell? ⟨g,o+(j - 1)*5,none⟩=some (.string p):=fun h=>by
  have hlt':j - 1<s.nested.length:=by omega
  obtain⟨g',o',c',oa3,ca3,hg',e2,b0,-⟩:=hs.2.at hlt'
  cases e2
  exact⟨_,by unfold prevK;rw[if_neg (by omega),lG hlt'];rfl,b0⟩
 have HPV:=hid hpv;have HAV:=hid hAV
 have hj0:(0:Int)≤(j:Int):=by omega
 have hj1:(j:Int)<(s.nested.length:Int):=by omega
 have hp0:j=0→prevK s.nested j=none:=fun h=>by unfold prevK;rw[if_pos h]
 have HP0:=hid hp0;clear hs hA hpv hp0 hAV hab hao;replace a0:=zbb HB.out a0;replace a1:=zbb HB.out a1;replace a2:=zbb HB.out a2;replace a3:=zbb HB.out a3;replace a4:=zbb HB.out a4;have x0:=(cII HX.out 0).trans rfl;have x1:=(cII HX.out 1).trans rfl
 generalize s.nested[j]=at' at *
 obtain⟨nm,mn,mx,ats,rp⟩:=at'
 simp only at *
 have HK:Hid (kindE s ⟨nm,mn,mx,ats,rp⟩ (prevK s.nested j)=if identB nm=false then 7 else if badP (prevK s.nested j) nm=true then 1 else if (fndA s.attrs nm).isSome=true then 8 else if mn<0∨mx<mn∨256<mx then 1 else if 64<ats.length then 14 else attrsE ats none true):=hid rfl
 generalize kindE s ⟨nm,mn,mx,ats,rp⟩ (prevK s.nested j)=r at *
 generalize prevK s.nested j=pv at *
 generalize hC:wa.alloc (.cells #[.string nm,.int .i64 mn,.int .i64 mx,.slice oa2 ats.length ca2,.bool rp] 102)=wc
 have hco:wc.heap[w.heap.size+1]? = some (.cells #[.string nm,.int .i64 mn,.int .i64 mx,.slice oa2 ats.length ca2,.bool rp] 102):=by rw[←hC,←has];exact zhh wa _
 have hbc:Below wa.heap.size wa wc:=by rw[←hC];exact(Below.refl _ _).alloc (nR _) _
 have HC1:=hid hC;have HCO:=hid hco;have HXC:=kH HX hbc;have HBC:=hT HB hbc;have HI:=hid (rident_any nm wc hsz)
 have HPC:Hid (0<j→∃ p,pv=some p∧wc.cell? ⟨g,o+(j - 1)*5,none⟩=some (.string p)):=hid fun h=>by
  obtain⟨p,h1,h2⟩:=HPV.out h;exact⟨p,h1,zbb HBC.out h2⟩
 clear hC hbc HPV hco
 go_enter Tryz.func56,Tryz.ntmps56
 go_upto_region 1 with (fail)
 rw[HA1.out]
 go_upto_region 2 with (fail)
 try rw[HC1.out]
 clear a0 a1 a2 a3 a4 x0 x1;have x0:=(cII HXC.out 0).trans rfl;have x1:=(cII HXC.out 1).trans rfl;have y0:=(cII HCO.out 0).trans rfl;have y1:=(cII HCO.out 1).trans rfl;have y2:=(cII HCO.out 2).trans rfl;have y3:=(cII HCO.out 3).trans rfl
 cases hi0:identB nm with
 | false =>
  have HP:=hid (HK.out.trans (if_pos hi0));rw[hi0] at HI;clear hi0 HK
  go_wp2_with fail
  refine HI.out.mono ?_;rintro e wx ⟨rfl,rfl⟩
  go_wp2_with fail
  go_ret;exact⟨by rw[HP.out];rfl,HBC.out⟩
 | true =>
  have HP:=hid (HK.out.trans (if_neg (by rw[hi0];simp)));rw[hi0] at HI;clear hi0 HK
  go_wp2_with fail
  refine HI.out.mono ?_;rintro e wx ⟨rfl,rfl⟩
  go_upto_region 4 with (fail)
  obtain⟨wp,rfl⟩:∃ v,v=wc:=⟨_,rfl⟩
  go_cut [30] (fun v wx=>v=.bool (badP pv nm)∧Hid (Below wp.heap.size wp wx))
  case first =>
   by_cases h0:j=0
   ·have f2:decide ((j:Int) > 0)=false:=dF (by omega)
    have f3:decide (0<j)=false:=dF (by omega);have HBP:Hid (badP pv nm=false):=hid (by rw[HP0.out h0];rfl);clear h0 HPC HP0;refine zss (fun v=>v.cell? ⟨w.heap.size,1,none⟩=some (.slice (some ⟨g,o,none⟩) s.nested.length cn)) (by kernel_rfl) (by kernel_rfl) (x1) ?_;refine cR1 ?_;refine zn ?_
    go_wp2_with fail
    go_meet;exact⟨by first|(rw[HBP.out];done)|(rw[HBP.out];rfl),hid (zdd (Below.refl _ _))⟩
   ·have f2:decide ((j:Int) > 0)=true:=dTT (by omega)
    have f3:decide (0<j)=true:=dTT (by omega);obtain⟨p,hp1,hp2⟩:=HPC.out (by omega);obtain⟨m,hjm⟩:∃ m,j - 1=m:=⟨_,rfl⟩;rw[hjm] at hp2
    have hm0:(0:Int)≤(m:Int):=by omega
    have hm1:(m:Int)<(s.nested.length:Int):=by omega
    have hke:(j:Int) - 1=(m:Int):=by omega
    have hkw:IntKind.i64.wrap (m:Int)=(m:Int):=by rw[IntKind.wrap_i64];omega
    have HP1:=hid hp1;clear hjm h0 hp1 HPC HP0
    cases hlt:ltS p nm with
    | true =>
     obtain⟨l1,l2⟩:=ltS_facts hlt;have HBP:=hid (show badP pv nm = !ltS p nm by rw[HP1.out];rfl);rw[hlt] at HBP;clear hlt;refine zss (fun v=>v.cell? ⟨w.heap.size,1,none⟩=some (.slice (some ⟨g,o,none⟩) s.nested.length cn)∧v.cell? ⟨w.heap.size+1,0,none⟩=some (.string nm)∧v.cell? ⟨g,o+m*5,none⟩=some (.string p)) (by kernel_rfl) (by kernel_rfl) (⟨x1,y0,hp2⟩) ?_;refine cR1 ?_;refine zn ?_
     go_wp2_with fail
     go_meet;exact⟨by first|(rw[HBP.out];done)|(rw[HBP.out];rfl),hid (zdd (Below.refl _ _))⟩
    | false =>
     have l1:=ltS_not hlt;have HBP:=hid (show badP pv nm = !ltS p nm by rw[HP1.out];rfl);rw[hlt] at HBP;clear hlt;refine zss (fun v=>v.cell? ⟨w.heap.size,1,none⟩=some (.slice (some ⟨g,o,none⟩) s.nested.length cn)∧v.cell? ⟨w.heap.size+1,0,none⟩=some (.string nm)∧v.cell? ⟨g,o+m*5,none⟩=some (.string p)) (by kernel_rfl) (by kernel_rfl) (⟨x1,y0,hp2⟩) ?_;refine cR1 ?_;refine zn ?_
     go_wp2_with fail
     go_meet;exact⟨by first|(rw[HBP.out];done)|(rw[HBP.out];rfl),hid (zdd (Below.refl _ _))⟩
  case rest =>
   obtain⟨rfl,hbx⟩:=hcut;rename_i wx;have HB5:=hT HBC hbx.out;have HCO5:=kH HCO hbx.out;have HXC5:=kH HXC hbx.out;clear x0 x1 y0 y1 y2 y3 HCO HXC HI hbx HBC
   cases hbd:badP pv nm with
   | true =>
    have HP2:=hid (HP.out.trans (if_pos hbd));clear hbd HP
    go_wp2_with fail
    go_ret;exact⟨by rw[HP2.out];rfl,HB5.out⟩
   | false =>
    have HP2:=hid (HP.out.trans (if_neg (by rw[hbd];simp)));clear hbd HP;have x0:=(cII HXC5.out 0).trans rfl;have y0:=(cII HCO5.out 0).trans rfl;have HC:=hid (rAttr_any s.attrs nm P w _ _ HAT.out HB5.out)
    go_upto_region 6 with (fail)
    go_wp2_with fail
    refine HC.out.mono ?_;rintro e w6 ⟨u,rfl,hb6,hy,hn⟩;have HB6:=hT HB5 hb6;have HCO6:=kH HCO5 hb6;clear hb6 HC HB5 HCO5 HXC5 x0 y0
    have hu:∃ z0 z1 z2 z3 z4 z5 z6 z7 z8 z9 za zb,u=.agg #[.string z0,.int .i64 z1,.slice z2 z3 z4,.slice z5 z6 z7,.int .i64 z8,.bool z9,.bool za,.bool zb]:=by
     cases hf:fndA s.attrs nm with
     | none=>exact⟨_,_,_,_,_,_,_,_,_,_,_,_,hn hf⟩
     | some a =>
      obtain⟨k,oe,me,ce,on2,mn2,cn2,e,-,-⟩:=hy a hf;exact⟨_,_,_,_,_,_,_,_,_,_,_,_,e⟩
    obtain⟨z0,z1,z2,z3,z4,z5,z6,z7,z8,z9,za,zb,rfl⟩:=hu;clear hy hn;generalize h7:w6.alloc (.cells #[.string z0,.int .i64 z1,.slice z2 z3 z4,.slice z5 z6 z7,.int .i64 z8,.bool z9,.bool za,.bool zb] 64)=w7
    have hb7:Below w6.heap.size w6 w7:=by rw[←h7];exact(Below.refl _ _).alloc (nR _) _
    have H7:=hid h7;have HB7:=hT HB6 hb7;have HCO7:=kH HCO6 hb7;have HC7:=hid (rattrs_any ats true P w7 _ (HAV.out.bel HB7.out));clear h7 hb7 HB6 HCO6
    go_upto_region 7 with (fail)
    rw[H7.out];have y0:=(cII HCO7.out 0).trans rfl;have y1:=(cII HCO7.out 1).trans rfl;have y2:=(cII HCO7.out 2).trans rfl;have y3:=(cII HCO7.out 3).trans rfl
    generalize (fndA s.attrs nm).isSome=bs at *
    cases bs with
    | true =>
     have HP3:=hid (HP2.out.trans (if_pos rfl));clear HP2
     go_wp2_with fail
     go_ret;exact⟨by rw[HP3.out];rfl,HB7.out⟩
    | false =>
     have HP3:=hid (HP2.out.trans (if_neg (by decide)));clear HP2
     by_cases m1:mn<0
     ·have HP4:=hid (HP3.out.trans (if_pos (Or.inl m1)))
      have f1:decide (mn<0)=true:=dTT m1;clear HP3 m1
      go_wp2_with fail
      go_ret;exact⟨by rw[HP4.out];rfl,HB7.out⟩
     ·have f1:decide (mn<0)=false:=dF m1
      by_cases m2:mx<mn
      ·have HP4:=hid (HP3.out.trans (if_pos (Or.inr (Or.inl m2))))
       have f2:decide (mx<mn)=true:=dTT m2;clear HP3 m1 m2
       go_wp2_with fail
       go_ret;exact⟨by rw[HP4.out];rfl,HB7.out⟩
      ·have f2:decide (mx<mn)=false:=dF m2
       by_cases m3:mx > 256
       ·have HP4:=hid (HP3.out.trans (if_pos (Or.inr (Or.inr m3))))
        have f3:decide (mx > 256)=true:=dTT m3;clear HP3 m1 m2 m3
        go_wp2_with fail
        go_ret;exact⟨by rw[HP4.out];rfl,HB7.out⟩
       ·have f3:decide (mx > 256)=false:=dF m3
        have HP4:=hid (HP3.out.trans (if_neg (by omega)));clear HP3 m1 m2 m3
        by_cases m4:(ats.length:Int) > 64
        ·have f4:decide ((ats.length:Int) > 64)=true:=dTT m4
         have HP5:=hid (HP4.out.trans (if_pos (by omega)));clear HP4 m4
         go_wp2_with fail
         go_ret;exact⟨by rw[HP5.out];rfl,HB7.out⟩
        ·have f4:decide ((ats.length:Int) > 64)=false:=dF m4
         have HP5:=hid (HP4.out.trans (if_neg (by omega)));clear HP4 m4
         go_wp2_with fail
         refine HC7.out.mono ?_;rintro e w8 ⟨rfl,hb8⟩;have HB8:=hT HB7 hb8;clear hb8
         go_wp2_with fail
         go_ret;exact⟨by rw[HP5.out];rfl,HB8.out⟩
end Go.Proofs.YtibiiafcnaijeaaGreat
