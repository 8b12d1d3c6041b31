/- A part. -/
import Derived.Test.YtibiiafcnaijeaaGreatB00
import Derived.Test.YtibiiafcnaijeaaGreatB35
import Derived.Test.YtibiiafcnaijeaaGreatB25
namespace Go.Proofs.YtibiiafcnaijeaaGreat
open Go Go.RowKit Go.Proofs.YtibiiafcnaijeaaGreat.Steady
set_option linter.unusedVariables false
set_option linter.unusedSimpArgs false
set_option maxRecDepth 100000
set_option maxHeartbeats 40000000
abbrev zeroIn31:Obj:=.cells #[.string ⟨#[]⟩,.string ⟨#[]⟩,.slice none 0 0,.slice none 0 0,.int .i64 0,.bool false,.string ⟨#[]⟩,.string ⟨#[]⟩,.string ⟨#[]⟩,.string ⟨#[]⟩,.int .i64 0,.int .i64 0,.string ⟨#[]⟩,.slice none 0 0,.slice none 0 0,.int .i64 0,.bool false,.bool false,.slice none 0 0,.int .i64 0,.int .i64 0,.string ⟨#[]⟩,.slice none 0 0,.slice none 0 0,.bool false,.bool false,.slice none 0 0,.slice none 0 0,.bool false,.bool false,.slice none 0 0] 48
theorem linput_any (i:Inp) (P:Nat→Prop) (w:World) (x:Value) (hx:INV P w x i) :
  Calls Tryz.prog 11 #[x] w fun e w'=>e=.returned x∧Below w.heap.size w w':=by
 obtain⟨oa,ca,on,cn,kp,np,sp,oip,mip,cip,okp,mkp,ckp,od,cd,kc,nc,sc,oic,mic,cic,okc,mkc,ckc,og,cg,ot,mt,ct,oD,cD,rfl,hSC,hVP,hSD,hVC,hSG,hSS⟩:=hx
 generalize i.sc.attrs.length=la at *
 generalize i.sc.nested.length=ln at *
 generalize i.prior.deps.length=lp at *
 generalize i.ignore.length=lg at *
 generalize i.deps.length=ld at *
 have hbo:=zaa (w:=w) (o:=.cells #[.string i.addr,.string i.tname,.slice oa la ca,.slice on ln cn,.int .i64 i.quota,.bool i.has,.string i.prior.addr,.string i.prior.deposed,.string i.prior.id,.string i.prior.type,.int .i64 kp,.int .i64 np,.string sp,.slice oip mip cip,.slice okp mkp ckp,.int .i64 i.prior.version,.bool i.prior.tainted,.bool i.prior.createFirst,.slice od lp cd,.int .i64 kc,.int .i64 nc,.string sc,.slice oic mic cic,.slice okc mkc ckc,.bool i.createFirst,.bool i.protect,.slice og lg cg,.slice ot mt ct,.bool i.triggered,.bool i.requested,.slice oD ld cD] 39);have hoo:=zhh w (.cells #[.string i.addr,.string i.tname,.slice oa la ca,.slice on ln cn,.int .i64 i.quota,.bool i.has,.string i.prior.addr,.string i.prior.deposed,.string i.prior.id,.string i.prior.type,.int .i64 kp,.int .i64 np,.string sp,.slice oip mip cip,.slice okp mkp ckp,.int .i64 i.prior.version,.bool i.prior.tainted,.bool i.prior.createFirst,.slice od lp cd,.int .i64 kc,.int .i64 nc,.string sc,.slice oic mic cic,.slice okc mkc ckc,.bool i.createFirst,.bool i.protect,.slice og lg cg,.slice ot mt ct,.bool i.triggered,.bool i.requested,.slice oD ld cD] 39)
 generalize hA:w.alloc (.cells #[.string i.addr,.string i.tname,.slice oa la ca,.slice on ln cn,.int .i64 i.quota,.bool i.has,.string i.prior.addr,.string i.prior.deposed,.string i.prior.id,.string i.prior.type,.int .i64 kp,.int .i64 np,.string sp,.slice oip mip cip,.slice okp mkp ckp,.int .i64 i.prior.version,.bool i.prior.tainted,.bool i.prior.createFirst,.slice od lp cd,.int .i64 kc,.int .i64 nc,.string sc,.slice oic mic cic,.slice okc mkc ckc,.bool i.createFirst,.bool i.protect,.slice og lg cg,.slice ot mt ct,.bool i.triggered,.bool i.requested,.slice oD ld cD] 39)=wa at *
 have hsz:wa.heap.size=w.heap.size+1:=by rw[←hA];simp
 have hbs:=zaa (w:=wa) (o:=zeroIn31);have hos:=zhh wa zeroIn31
 generalize hC:wa.alloc zeroIn31=W at *
 rw[hsz] at hos;have HA:=hid hA;have HC:=hid hC;have HSZ:=hid hsz;have HB:=hid (hbo.trans (hbs.mono hbo.size));have HZ:=hid hos;have HX:=hid (kO hoo hbs);clear hA hC hsz hbo hoo hbs hos hSC hVP hSD hVC hSG hSS;obtain⟨x0,x1,x2,x3,x4,x5,x6,x7,x8,x9,x10,x11,x12,x13,x14,x15,x16,x17,x18,x19,x20,x21,x22,x23,x24,x25,x26,x27,x28,x29,x30⟩:=C31.of HX.out
 go_enter Tryz.func11,Tryz.ntmps11
 go_upto_region 1 with (fail)
 rw[HA.out,HC.out]
 go_wp2_with (refine zo rfl 48 _ _ rfl (w.heap.size+1) 0 [_,_,_,_,_,_,_,_,_,_,_,_,_,_,_,_,_,_,_,_,_,_,_,_,_,_,_,_,_,_,_] rfl rfl _ _ HZ.out (by simp) (by kernel_rfl) rfl ?_;intro ws hzs hcs)
 try simp only[Exit.inBlock,Exit.then]
 refine bodyPost_ret (results_cell_row rfl _ ws (w.heap.size+1) 48 _ (0,0) _ rfl hzs Tryz.underlying48 rfl (by kernel_rfl)) rfl ?_;exact⟨rfl,HB.out.trans (zgg hcs (fun k hk=>by omega) HB.out.size)⟩
end Go.Proofs.YtibiiafcnaijeaaGreat
