/- The statement DiffChanges holds of the given program for every input. -/
import Derived.Test.YtibiiafcnaijeaaGreatB00
import Derived.Test.YtibiiafcnaijeaaGreatB50
namespace Go.Proofs.YtibiiafcnaijeaaGreat.diffChanges
open Go Go.ChangeShapes Go.WideShapes Go.ChangeAt Go.RowKit Go.Proofs.YtibiiafcnaijeaaGreat.Steady
set_option linter.unusedVariables false
set_option linter.unusedSimpArgs false
set_option maxRecDepth 100000
set_option maxHeartbeats 40000000
theorem walk (w:World) (x:Value) (i:Inp) (hx:INV (fun _=>True) w x i):Calls Tryz.prog 3 #[x] w (Ret (.bool true) w):=by
 have HX0:=hid hx;obtain⟨oa,ca,on,cn,kp,np,sp,oip,mip,cip,okp,mkp,ckp,od,cd,kc,nc,sc,oic,mic,cic,okc,mkc,ckc,og,cg,ot,mt,ct,oD,cD,rfl,-,-,-,-,-,-⟩:=hx;have hbo:=zaa (w:=w) (o:=.cells #[.string i.addr,.string i.tname,.slice oa i.sc.attrs.length ca,.slice on i.sc.nested.length cn,.int .i64 i.quota,.bool i.has,.string i.prior.addr,.string i.prior.deposed,.string i.prior.id,.string i.prior.type,.int .i64 kp,.int .i64 np,.string sp,.slice oip mip cip,.slice okp mkp ckp,.int .i64 i.prior.version,.bool i.prior.tainted,.bool i.prior.createFirst,.slice od i.prior.deps.length cd,.int .i64 kc,.int .i64 nc,.string sc,.slice oic mic cic,.slice okc mkc ckc,.bool i.createFirst,.bool i.protect,.slice og i.ignore.length cg,.slice ot mt ct,.bool i.triggered,.bool i.requested,.slice oD i.deps.length cD] 39);have hoo:=zhh w (.cells #[.string i.addr,.string i.tname,.slice oa i.sc.attrs.length ca,.slice on i.sc.nested.length cn,.int .i64 i.quota,.bool i.has,.string i.prior.addr,.string i.prior.deposed,.string i.prior.id,.string i.prior.type,.int .i64 kp,.int .i64 np,.string sp,.slice oip mip cip,.slice okp mkp ckp,.int .i64 i.prior.version,.bool i.prior.tainted,.bool i.prior.createFirst,.slice od i.prior.deps.length cd,.int .i64 kc,.int .i64 nc,.string sc,.slice oic mic cic,.slice okc mkc ckc,.bool i.createFirst,.bool i.protect,.slice og i.ignore.length cg,.slice ot mt ct,.bool i.triggered,.bool i.requested,.slice oD i.deps.length cD] 39)
 generalize hA:w.alloc (.cells #[.string i.addr,.string i.tname,.slice oa i.sc.attrs.length ca,.slice on i.sc.nested.length cn,.int .i64 i.quota,.bool i.has,.string i.prior.addr,.string i.prior.deposed,.string i.prior.id,.string i.prior.type,.int .i64 kp,.int .i64 np,.string sp,.slice oip mip cip,.slice okp mkp ckp,.int .i64 i.prior.version,.bool i.prior.tainted,.bool i.prior.createFirst,.slice od i.prior.deps.length cd,.int .i64 kc,.int .i64 nc,.string sc,.slice oic mic cic,.slice okc mkc ckc,.bool i.createFirst,.bool i.protect,.slice og i.ignore.length cg,.slice ot mt ct,.bool i.triggered,.bool i.requested,.slice oD i.deps.length cD] 39)=wa at *
 have HA:=hid hA;have HB1:=hid hbo;have HX1:=hid hoo;clear hA hbo hoo
 go_enter Tryz.func3,Tryz.ntmps3
 go_upto_region 1 with (fail)
 rw[HA.out]
 go_wp2_with (refine wpList_load_row rfl 39 (.tmp 1) rfl w.heap.size rfl _ _ (0,0) _ HX1.out Tryz.underlying39 rfl (by kernel_rfl) ?_)
 refine(valI_any i _ wa _ (HX0.out.bel HB1.out)).mono ?_;rintro e w2 ⟨b,rfl,hv,hb2⟩;have HB2:=hT HB1 hb2;have HX2:=kH HX1 hb2
 cases b with
 | false =>
  clear hv hb2
  go_wp2_with fail
  refine(awake_any _).mono ?_;rintro e wz ⟨rfl,hb⟩;have HBZ:=hid ((HB2.out).trans (hb.mono (HB2.out).size));clear hb
  go_wp2_with fail
  go_ret;exact⟨rfl,HBZ.out⟩
 | true =>
 have HV:=hid (hv rfl);have HEQ:=hid (hv rfl).names.change
 have HCX:Hid (∀ w',Below w.heap.size w w'→Calls Tryz.prog 10 #[.agg #[.string i.addr,.string i.tname,.slice oa i.sc.attrs.length ca,.slice on i.sc.nested.length cn,.int .i64 i.quota,.bool i.has,.string i.prior.addr,.string i.prior.deposed,.string i.prior.id,.string i.prior.type,.int .i64 kp,.int .i64 np,.string sp,.slice oip mip cip,.slice okp mkp ckp,.int .i64 i.prior.version,.bool i.prior.tainted,.bool i.prior.createFirst,.slice od i.prior.deps.length cd,.int .i64 kc,.int .i64 nc,.string sc,.slice oic mic cic,.slice okc mkc ckc,.bool i.createFirst,.bool i.protect,.slice og i.ignore.length cg,.slice ot mt ct,.bool i.triggered,.bool i.requested,.slice oD i.deps.length cD]] w' (FreshC (changeD i) w')):=hid fun w' hb=>change_any i _ w' _ (HX0.out.bel hb) HV.out.sm.inOk
 have HCR:Hid (∀ w',Below w.heap.size w w'→Calls Tryz.prog 12 #[.agg #[.string i.addr,.string i.tname,.slice oa i.sc.attrs.length ca,.slice on i.sc.nested.length cn,.int .i64 i.quota,.bool i.has,.string i.prior.addr,.string i.prior.deposed,.string i.prior.id,.string i.prior.type,.int .i64 kp,.int .i64 np,.string sp,.slice oip mip cip,.slice okp mkp ckp,.int .i64 i.prior.version,.bool i.prior.tainted,.bool i.prior.createFirst,.slice od i.prior.deps.length cd,.int .i64 kc,.int .i64 nc,.string sc,.slice oic mic cic,.slice okc mkc ckc,.bool i.createFirst,.bool i.protect,.slice og i.ignore.length cg,.slice ot mt ct,.bool i.triggered,.bool i.requested,.slice oD i.deps.length cD]] w' (fun e w''=>∃ u,e=.returned u∧CHV (fun _=>True) w'' u (changeR i)∧Below w'.heap.size w' w'')):=hid fun w' hb=>rchange_any i w' _ (HX0.out.bel hb) HV.out.sm.inOk ⟨by have:=HV.out.sm.sc.la;omega,by have:=HV.out.sm.sc.ln;omega,fun n hn=>by have:=HV.out.sm.sc.na n hn;omega⟩
 rw[HEQ.out] at HCR;have HIN:=hid (fun(W:World) (hb:Below w.heap.size w W)=>HX0.out.bel hb);have hc:w2.drew.heap[w.heap.size]? = some (.cells #[.string i.addr,.string i.tname,.slice oa i.sc.attrs.length ca,.slice on i.sc.nested.length cn,.int .i64 i.quota,.bool i.has,.string i.prior.addr,.string i.prior.deposed,.string i.prior.id,.string i.prior.type,.int .i64 kp,.int .i64 np,.string sp,.slice oip mip cip,.slice okp mkp ckp,.int .i64 i.prior.version,.bool i.prior.tainted,.bool i.prior.createFirst,.slice od i.prior.deps.length cd,.int .i64 kc,.int .i64 nc,.string sc,.slice oic mic cic,.slice okc mkc ckc,.bool i.createFirst,.bool i.protect,.slice og i.ignore.length cg,.slice ot mt ct,.bool i.triggered,.bool i.requested,.slice oD i.deps.length cD] 39):=HX2.out;have HB:=hid (show Below w.heap.size w w2.drew from zdd HB2.out)
 generalize changeD i=c at *
 clear hv hb2 HX1 HB1 HV HEQ HX2
 go_upto_region 3 with (fail)
 refine zss (fun v=>v.heap[w.heap.size]? = some (.cells #[.string i.addr,.string i.tname,.slice oa i.sc.attrs.length ca,.slice on i.sc.nested.length cn,.int .i64 i.quota,.bool i.has,.string i.prior.addr,.string i.prior.deposed,.string i.prior.id,.string i.prior.type,.int .i64 kp,.int .i64 np,.string sp,.slice oip mip cip,.slice okp mkp ckp,.int .i64 i.prior.version,.bool i.prior.tainted,.bool i.prior.createFirst,.slice od i.prior.deps.length cd,.int .i64 kc,.int .i64 nc,.string sc,.slice oic mic cic,.slice okc mkc ckc,.bool i.createFirst,.bool i.protect,.slice og i.ignore.length cg,.slice ot mt ct,.bool i.triggered,.bool i.requested,.slice oD i.deps.length cD] 39)) (by kernel_rfl) (by kernel_rfl) hc ?_
 repeat ((first
  | (refine qqK (by rfl) ?_)
  | (refine zll (by rfl) 39 (.tmp 1) rfl (w.heap.size) rfl _ _ (0,0) _ (fun v hv=>hv) Tryz.underlying39 rfl (by kernel_rfl) ?_)
  | (refine qqC (v:=?_) (by rfl) ?_ ?_;rotate_left;(focus intro v hSv;clear hSv;go_simp;(try with_reducible rfl);done)));try simp only[pT])
 refine qqL rfl (by rfl) (fun K hK=>?_)
 go_simp
 refine(linput_any i _ _ _ (HIN.out _ HB.out)).mono ?_;rintro e w3 ⟨rfl,hb5⟩;have HN:=hT HB hb5;clear HB;have HB:=HN;clear HN;refine hK.out _ _ (kO hc hb5) ?_;replace hc:=kO hc hb5;clear hK K
 try simp only[pT]
 clear hb5
 repeat ((first
  | (refine qqK (by rfl) ?_)
  | (refine zll (by rfl) 39 (.tmp 1) rfl (w.heap.size) rfl _ _ (0,0) _ (fun v hv=>hv) Tryz.underlying39 rfl (by kernel_rfl) ?_)
  | (refine qqC (v:=?_) (by rfl) ?_ ?_;rotate_left;(focus intro v hSv;clear hSv;go_simp;(try with_reducible rfl);done)));try simp only[pT])
 refine qqL rfl (by rfl) (fun K hK=>?_)
 go_simp
 refine(HCX.out _ HB.out).mono ?_;rintro e w4 ⟨v1,rfl,hv1,hb5⟩;have HN:=hT HB hb5;clear HB;have HB:=HN;clear HN;refine hK.out _ _ (kO hc hb5) ?_;replace hc:=kO hc hb5;clear hK K
 try simp only[pT]
 have HV1:=hid hv1;clear hb5 hv1
 repeat ((first
  | (refine qqK (by rfl) ?_)
  | (refine zll (by rfl) 39 (.tmp 1) rfl (w.heap.size) rfl _ _ (0,0) _ (fun v hv=>hv) Tryz.underlying39 rfl (by kernel_rfl) ?_)
  | (refine qqC (v:=?_) (by rfl) ?_ ?_;rotate_left;(focus intro v hSv;clear hSv;go_simp;(try with_reducible rfl);done)));try simp only[pT])
 refine qqL rfl (by rfl) (fun K hK=>?_)
 go_simp
 refine(HCR.out _ HB.out).mono ?_;rintro e w5 ⟨v2,rfl,hv2,hb5⟩;have HV12:=hid (HV1.out.bel hb5);have HN:=hT HB hb5;clear HB;have HB:=HN;clear HN;refine hK.out _ _ (kO hc hb5) ?_;replace hc:=kO hc hb5;clear hK K
 try simp only[pT]
 have HV2:=hid hv2;clear hb5 hv2
 repeat ((first
  | (refine qqK (by rfl) ?_)
  | (refine zll (by rfl) 39 (.tmp 1) rfl (w.heap.size) rfl _ _ (0,0) _ (fun v hv=>hv) Tryz.underlying39 rfl (by kernel_rfl) ?_)
  | (refine qqC (v:=?_) (by rfl) ?_ ?_;rotate_left;(focus intro v hSv;clear hSv;go_simp;(try with_reducible rfl);done)));try simp only[pT])
 refine qqL rfl (by rfl) (fun K hK=>?_)
 go_simp
 refine(requalC_any c _ _ _ _ _ HV12.out HV2.out).mono ?_;rintro e w6 ⟨rfl,hb5⟩;have HN:=hT HB hb5;clear HB;have HB:=HN;clear HN;refine hK.out _ _ (kO hc hb5) ?_;replace hc:=kO hc hb5;clear hK K
 try simp only[pT]
 clear hb5
 repeat ((first
  | (refine qqK (by rfl) ?_)
  | (refine zll (by rfl) 39 (.tmp 1) rfl (w.heap.size) rfl _ _ (0,0) _ (fun v hv=>hv) Tryz.underlying39 rfl (by kernel_rfl) ?_)
  | (refine qqC (v:=?_) (by rfl) ?_ ?_;rotate_left;(focus intro v hSv;clear hSv;go_simp;(try with_reducible rfl);done)));try simp only[pT])
 refine qqL rfl (by rfl) (fun K hK=>?_)
 go_simp
 refine(awake_any _).mono ?_;rintro e w7 ⟨rfl,hb5⟩;have HN:=hT HB hb5;clear HB;have HB:=HN;clear HN;refine hK.out _ _ (kO hc hb5) ?_;replace hc:=kO hc hb5;clear hK K
 try simp only[pT]
 clear hb5
 repeat ((first
  | (refine qqK (by rfl) ?_)
  | (refine zll (by rfl) 39 (.tmp 1) rfl (w.heap.size) rfl _ _ (0,0) _ (fun v hv=>hv) Tryz.underlying39 rfl (by kernel_rfl) ?_)
  | (refine qqC (v:=?_) (by rfl) ?_ ?_;rotate_left;(focus intro v hSv;clear hSv;go_simp;(try with_reducible rfl);done)));try simp only[pT])
 refine zn ?_
 go_wp2_with fail
 go_ret;exact⟨rfl,HB.out⟩
theorem readable:∀ t∈#[39].toList,Tryz.prog.readableRec t=true∧t<Tryz.prog.types.size:=by
 intro t ht;have ri:Tryz.prog.readableRec 39=true∧39<Tryz.prog.types.size:=⟨by kernel_rfl,of_decide_eq_true (by kernel_rfl)⟩
 have hm:t=39:=by simpa using ht
 rw[hm];exact ri
theorem walkD {H:Type}(enc:TypeId × Value→H) (W:World) (base:Nat) (args:Array Value) (ds:List (DataW H)) (p:List MemPlace)
  (hval:∀ (j:Nat) t v,#[39][j]? = some t→args[j]? = some v→Value.okWide Tryz.prog W .any base t v)
  (hA:DataW.TrodAll enc Tryz.prog W 0 (fun _=>true) true #[39].toList args.toList ds p)
  (hws:∀ (j:Nat) t d,#[39].toList[j]? = some t→ds[j]? = some d→∀ n∈d.weights Tryz.prog t,n≤reachBytes) :
  (Calls Tryz.prog 3 args W fun e w'=>e=.returned (.bool true)∧Below W.heap.size W w') ∧
  ((Rows.diffChangesSpec.fn H (ds++[])).results = [.lit (.bool true)]∧(Rows.diffChangesSpec.fn H (ds++[])).args=ds∧(Rows.diffChangesSpec.fn H (ds++[])).vars = []):=by
 obtain⟨v0,vs0,d0,ds0,p0,q0,hargs,rfl,rfl,h0,r0⟩:=trodAll_cons hA;obtain⟨rfl,rfl,rfl⟩:=trodAll_nil r0
 obtain rfl:args=#[v0]:=by cases args;simp_all
 obtain⟨t0,w0⟩:=open_input (hval 0 _ v0 rfl rfl) h0 (hws 0 _ _ rfl rfl);exact⟨walk W _ t0 w0,rfl,rfl,rfl⟩
theorem lifted (os:Os) (started:os.Started) (H:Type) (enc:TypeId × Value→H) :
  ReturnsInHanded {} Tryz.checked os 3 .any (Rows.diffChangesSpec.pre6 enc Tryz.prog Tryz.f3 Rows.diffChangesRow.domain false) (Rows.diffChangesSpec.post enc Tryz.prog Tryz.f3 false true false false):=by
 refine returnsInHanded_of_change_sized (C:=Tryz.checked) own started (by kernel_rfl) Tryz.func3
  (ChangeSpec.witness6 (enc:=enc) (C:=Tryz.checked) false ⟨#[],#[.agg #[.string ⟨#[]⟩,.string ⟨#[]⟩,.slice none 0 0,.slice none 0 0,.int .i64 0,.bool false,.string ⟨#[]⟩,.string ⟨#[]⟩,.string ⟨#[]⟩,.string ⟨#[]⟩,.int .i64 0,.int .i64 0,.string ⟨#[]⟩,.slice none 0 0,.slice none 0 0,.int .i64 0,.bool false,.bool false,.slice none 0 0,.int .i64 0,.int .i64 0,.string ⟨#[]⟩,.slice none 0 0,.slice none 0 0,.bool false,.bool false,.slice none 0 0,.slice none 0 0,.bool false,.bool false,.slice none 0 0]],[]⟩ 8 (by kernel_rfl) (by kernel_rfl) (by kernel_rfl) (by kernel_rfl)) ?_
 intro W base args ds gs before hval0 hW _ hsz _;have hW':=hW;obtain⟨p,q,hA,hV,_,_,_⟩:=hW;obtain⟨rfl,rfl⟩:=trodVars_none hV;rw[Tryz.params3] at hA hval0 hsz
 have hws:∀ (j:Nat) t d,#[39].toList[j]? = some t→ds[j]? = some d→∀ n∈d.weights Tryz.prog t,n≤reachBytes:=fun j t d h1 h2 n hn=>by
  have hj1:=(List.getElem?_eq_some_iff.1 h1).1;have hj2:=(List.getElem?_eq_some_iff.1 h2).1;have:=List.all_eq_true.1 hsz _ (DataW.weights_mem_each (j:=j) (by rw[List.getElem?_append_left hj1];exact h1) (by rw[List.getElem?_append_left hj2];exact h2) n hn);simpa using this
 obtain⟨hcall,hds⟩:=walkD enc W base args ds p hval0 hA hws
 exact hcall.mono fun e W' ⟨he,hb⟩=>⟨_,he,law_post hW' rfl (by rw[Tryz.params3];exact readable) rfl hds hb⟩
theorem proved:Rows.DiffChangesSaid :=
 OpenClaim.holds_of_wide 3 Tryz.f3 rfl rfl rfl rfl rfl rfl rfl ⟨rfl,rfl,rfl,rfl,rfl⟩ rfl rfl rfl rfl rfl (by kernel_rfl) Tryz.func3 (by kernel_rfl)
  (of_decide_eq_true (by kernel_rfl)) (by unfold Func.isWrapper;first|(rw[if_pos (by decide +kernel)];kernel_rfl)|(rw[if_neg (by decide +kernel)];exact⟨rfl,rfl⟩))
  (fun os started H enc _=>lifted os started H enc)
#print axioms proved
end Go.Proofs.YtibiiafcnaijeaaGreat.diffChanges
