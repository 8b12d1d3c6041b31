/- Texts that stand alike under several statements, run together. -/
import Derived.Test.YtibiiafcnaijeaaGreatB00
import Derived.Test.YtibiiafcnaijeaaGreatB03
namespace Go.Proofs.YtibiiafcnaijeaaGreat
open Go Go.RowKit Go.Proofs.YtibiiafcnaijeaaGreat.Steady
set_option linter.unusedVariables false
set_option linter.unusedSimpArgs false
set_option maxRecDepth 100000
set_option maxHeartbeats 40000000
def IsB (p:Prop) (w:World) (e:Ending) (w':World):Prop:=∃ b,e=.returned (.bool b)∧(b=true→p)∧w=w'
theorem cont_any (s:ByteArray) (z:Int) (i:Nat) (hz:z=(i:Int)) (lo hi:Int) (w:World) (hs:s.size≤140737488355328):Calls Tryz.prog 132 #[.string s,.int .i64 z,.int .u8 lo,.int .u8 hi] w (IsB (i < s.size) w):=by
 subst hz
 by_cases hlt:i < s.size
 ·have hbn:=byteN_get hlt
  have h0:(0:Int)≤(i:Int):=by omega
  have h1:(i:Int) < (s.size:Int):=by omega
  have HL:=hid hlt
  generalize byteN s i=n at *
  cases g1:decide ((n:Int) ≥ lo) with
  | false =>
   go_enter Tryz.func132,Tryz.ntmps132
   go_wp2_with fail
   go_ret;exact ⟨_,rfl,fun _=>HL.out,rfl⟩
  | true =>
   cases g2:decide ((n:Int)≤hi) with
   | false =>
    go_enter Tryz.func132,Tryz.ntmps132
    go_wp2_with fail
    go_ret;exact ⟨_,rfl,fun _=>HL.out,rfl⟩
   | true =>
    go_enter Tryz.func132,Tryz.ntmps132
    go_wp2_with fail
    go_ret;exact ⟨_,rfl,fun _=>HL.out,rfl⟩
 ·have g1:decide ((i:Int) < (s.size:Int))=false:=dF (by omega)
  go_enter Tryz.func132,Tryz.ntmps132
  go_wp2_with fail
  go_ret;exact ⟨false,rfl,nF,rfl⟩
def DecPost (w:World) (e:Ending) (w':World):Prop:=∃ c n:Int,e=.returned (.tuple #[.int .i64 c,.int .i64 n])∧0≤n∧n≤4∧Below w.heap.size w w'
theorem decode_any (s:ByteArray) (i:Nat) (w:World) (hs:s.size≤4096) (hi:i < s.size):Calls Tryz.prog 124 #[.string s,.int .i64 i] w (DecPost w):=by
 have hbn:=byteN_get hi;have hlt:=byteN_lt s i
 have h0:(0:Int)≤(i:Int):=by omega
 have h1:(i:Int) < (s.size:Int):=by omega
 have H1:=hid (fun lo h=>cont_any s ((i:Int) + 1) (i + 1) (by omega) lo h w (by omega));have H2:=hid (fun lo h=>cont_any s ((i:Int) + 2) (i + 2) (by omega) lo h w (by omega));have H3:=hid (fun lo h=>cont_any s ((i:Int) + 3) (i + 3) (by omega) lo h w (by omega));obtain ⟨b,hb0⟩:∃ b,byteN s i=b:=⟨_,rfl⟩;rw [hb0] at hbn hlt;clear hb0
 by_cases a1:b < 128
 ·have c1:decide ((b:Int) < 128)=true:=by first | exact dTT (by omega) | exact dF (by omega)
  clear a1
  go_enter Tryz.func124,Tryz.ntmps124
  go_wp2_with fail
  try simp only [Exit.inBlock,Exit.then]
  refine bodyPost_ret (results_tmp2 rfl _ _ _) rfl ?_;exact ⟨_,_,rfl,by decide,by decide,Below.refl _ _⟩
 have c1:decide ((b:Int) < 128)=false:=by first | exact dTT (by omega) | exact dF (by omega)
 by_cases a2:b < 194
 ·have c2:decide ((b:Int) ≥ 194)=false:=by first | exact dTT (by omega) | exact dF (by omega)
  have c4:decide ((b:Int)=224)=false:=by first | exact dTT (by omega) | exact dF (by omega)
  have c4b:((b:Int) == 224)=false:=by first | exact bT (by omega) | exact bF (by omega)
  have c5:decide ((b:Int)=237)=false:=by first | exact dTT (by omega) | exact dF (by omega)
  have c5b:((b:Int) == 237)=false:=by first | exact bT (by omega) | exact bF (by omega)
  have c6:decide ((b:Int) ≥ 224)=false:=by first | exact dTT (by omega) | exact dF (by omega)
  have c8:decide ((b:Int)=240)=false:=by first | exact dTT (by omega) | exact dF (by omega)
  have c8b:((b:Int) == 240)=false:=by first | exact bT (by omega) | exact bF (by omega)
  have c9:decide ((b:Int)=244)=false:=by first | exact dTT (by omega) | exact dF (by omega)
  have c9b:((b:Int) == 244)=false:=by first | exact bT (by omega) | exact bF (by omega)
  have c10:decide ((b:Int) ≥ 240)=false:=by first | exact dTT (by omega) | exact dF (by omega)
  clear a1 a2
  go_enter Tryz.func124,Tryz.ntmps124
  go_wp2_with fail
  try simp only [Exit.inBlock,Exit.then]
  refine bodyPost_ret (results_tmp2 rfl _ _ _) rfl ?_;exact ⟨_,_,rfl,by decide,by decide,Below.refl _ _⟩
 have c2:decide ((b:Int) ≥ 194)=true:=by first | exact dTT (by omega) | exact dF (by omega)
 by_cases a3:b≤223
 ·have c3:decide ((b:Int)≤223)=true:=by first | exact dTT (by omega) | exact dF (by omega)
  have c4:decide ((b:Int)=224)=false:=by first | exact dTT (by omega) | exact dF (by omega)
  have c4b:((b:Int) == 224)=false:=by first | exact bT (by omega) | exact bF (by omega)
  have c5:decide ((b:Int)=237)=false:=by first | exact dTT (by omega) | exact dF (by omega)
  have c5b:((b:Int) == 237)=false:=by first | exact bT (by omega) | exact bF (by omega)
  have c6:decide ((b:Int) ≥ 224)=false:=by first | exact dTT (by omega) | exact dF (by omega)
  have c8:decide ((b:Int)=240)=false:=by first | exact dTT (by omega) | exact dF (by omega)
  have c8b:((b:Int) == 240)=false:=by first | exact bT (by omega) | exact bF (by omega)
  have c9:decide ((b:Int)=244)=false:=by first | exact dTT (by omega) | exact dF (by omega)
  have c9b:((b:Int) == 244)=false:=by first | exact bT (by omega) | exact bF (by omega)
  have c10:decide ((b:Int) ≥ 240)=false:=by first | exact dTT (by omega) | exact dF (by omega)
  clear a1 a2 a3
  go_enter Tryz.func124,Tryz.ntmps124
  go_wp2_with fail
  refine (H1.out _ _).mono ?_;rintro e w' ⟨bb,rfl,hb,rfl⟩
  cases bb
  ·go_wp2_with fail
   try simp only [Exit.inBlock,Exit.then]
   refine bodyPost_ret (results_tmp2 rfl _ _ _) rfl ?_;exact ⟨_,_,rfl,by decide,by decide,Below.refl _ _⟩
  have k1:=hb rfl
  have m1:(i:Int) + 1 < (s.size:Int):=by omega
  have n1:(0:Int)≤(i:Int) + 1:=by omega
  clear hb k1
  go_wp2_with fail
  try simp only [Exit.inBlock,Exit.then]
  refine bodyPost_ret (results_tmp2 rfl _ _ _) rfl ?_;exact ⟨_,_,rfl,by decide,by decide,Below.refl _ _⟩
 have c3:decide ((b:Int)≤223)=false:=by first | exact dTT (by omega) | exact dF (by omega)
 by_cases a4:b≤239
 ·have c6:decide ((b:Int) ≥ 224)=true:=by first | exact dTT (by omega) | exact dF (by omega)
  have c7:decide ((b:Int)≤239)=true:=by first | exact dTT (by omega) | exact dF (by omega)
  have c8:decide ((b:Int)=240)=false:=by first | exact dTT (by omega) | exact dF (by omega)
  have c8b:((b:Int) == 240)=false:=by first | exact bT (by omega) | exact bF (by omega)
  have c9:decide ((b:Int)=244)=false:=by first | exact dTT (by omega) | exact dF (by omega)
  have c9b:((b:Int) == 244)=false:=by first | exact bT (by omega) | exact bF (by omega)
  have c10:decide ((b:Int) ≥ 240)=false:=by first | exact dTT (by omega) | exact dF (by omega)
  by_cases a5:b=224
  ·have c4:decide ((b:Int)=224)=true:=by first | exact dTT (by omega) | exact dF (by omega)
   have c4b:((b:Int) == 224)=true:=by first | exact bT (by omega) | exact bF (by omega)
   have c5:decide ((b:Int)=237)=false:=by first | exact dTT (by omega) | exact dF (by omega)
   have c5b:((b:Int) == 237)=false:=by first | exact bT (by omega) | exact bF (by omega)
   clear a1 a2 a3 a4 a5
   go_enter Tryz.func124,Tryz.ntmps124
   go_wp2_with fail
   refine (H1.out _ _).mono ?_;rintro e w' ⟨bb,rfl,hb,rfl⟩
   cases bb
   ·go_wp2_with fail
    try simp only [Exit.inBlock,Exit.then]
    refine bodyPost_ret (results_tmp2 rfl _ _ _) rfl ?_;exact ⟨_,_,rfl,by decide,by decide,Below.refl _ _⟩
   have hb1:=hid (hb rfl);clear hb
   go_wp2_with fail
   refine (H2.out _ _).mono ?_;rintro e w' ⟨bb,rfl,hb,rfl⟩
   cases bb
   ·go_wp2_with fail
    try simp only [Exit.inBlock,Exit.then]
    refine bodyPost_ret (results_tmp2 rfl _ _ _) rfl ?_;exact ⟨_,_,rfl,by decide,by decide,Below.refl _ _⟩
   have k1:=hb1.out;have k2:=hb rfl
   have m0:(0:Int)≤(i:Int):=by omega
   have m1:(i:Int) + 1 < (s.size:Int):=by omega
   have m2:(i:Int) + 2 < (s.size:Int):=by omega
   have n1:(0:Int)≤(i:Int) + 1:=by omega
   have n2:(0:Int)≤(i:Int) + 2:=by omega
   have q1:IntKind.i64.wrap ((i:Int) + 1)=(i:Int) + 1:=by rw [IntKind.wrap_i64];omega
   have q2:IntKind.i64.wrap ((i:Int) + 2)=(i:Int) + 2:=by rw [IntKind.wrap_i64];omega
   clear hb1 hb k1 k2
   go_upto_region 14 with (fail)
   refine zss (fun v=>True) (by kernel_rfl) (by kernel_rfl) (trivial) ?_
   repeat ((first
    | refine sK ?_
    | refine sC0 ?_);try simp only [Act.put,sA,sZ,sS])
   refine zn ?_
   go_wp2_with fail
   try simp only [Exit.inBlock,Exit.then]
   refine bodyPost_ret (results_tmp2 rfl _ _ _) rfl ?_;exact ⟨_,_,rfl,by decide,by decide,zdd (Below.refl _ _)⟩
  have c4:decide ((b:Int)=224)=false:=by first | exact dTT (by omega) | exact dF (by omega)
  have c4b:((b:Int) == 224)=false:=by first | exact bT (by omega) | exact bF (by omega)
  by_cases a6:b=237
  ·have c5:decide ((b:Int)=237)=true:=by first | exact dTT (by omega) | exact dF (by omega)
   have c5b:((b:Int) == 237)=true:=by first | exact bT (by omega) | exact bF (by omega)
   clear a1 a2 a3 a4 a5 a6
   go_enter Tryz.func124,Tryz.ntmps124
   go_wp2_with fail
   refine (H1.out _ _).mono ?_;rintro e w' ⟨bb,rfl,hb,rfl⟩
   cases bb
   ·go_wp2_with fail
    try simp only [Exit.inBlock,Exit.then]
    refine bodyPost_ret (results_tmp2 rfl _ _ _) rfl ?_;exact ⟨_,_,rfl,by decide,by decide,Below.refl _ _⟩
   have hb1:=hid (hb rfl);clear hb
   go_wp2_with fail
   refine (H2.out _ _).mono ?_;rintro e w' ⟨bb,rfl,hb,rfl⟩
   cases bb
   ·go_wp2_with fail
    try simp only [Exit.inBlock,Exit.then]
    refine bodyPost_ret (results_tmp2 rfl _ _ _) rfl ?_;exact ⟨_,_,rfl,by decide,by decide,Below.refl _ _⟩
   have k1:=hb1.out;have k2:=hb rfl
   have m0:(0:Int)≤(i:Int):=by omega
   have m1:(i:Int) + 1 < (s.size:Int):=by omega
   have m2:(i:Int) + 2 < (s.size:Int):=by omega
   have n1:(0:Int)≤(i:Int) + 1:=by omega
   have n2:(0:Int)≤(i:Int) + 2:=by omega
   have q1:IntKind.i64.wrap ((i:Int) + 1)=(i:Int) + 1:=by rw [IntKind.wrap_i64];omega
   have q2:IntKind.i64.wrap ((i:Int) + 2)=(i:Int) + 2:=by rw [IntKind.wrap_i64];omega
   clear hb1 hb k1 k2
   go_upto_region 14 with (fail)
   refine zss (fun v=>True) (by kernel_rfl) (by kernel_rfl) (trivial) ?_
   repeat ((first
    | refine sK ?_
    | refine sC0 ?_);try simp only [Act.put,sA,sZ,sS])
   refine zn ?_
   go_wp2_with fail
   try simp only [Exit.inBlock,Exit.then]
   refine bodyPost_ret (results_tmp2 rfl _ _ _) rfl ?_;exact ⟨_,_,rfl,by decide,by decide,zdd (Below.refl _ _)⟩
  have c5:decide ((b:Int)=237)=false:=by first | exact dTT (by omega) | exact dF (by omega)
  have c5b:((b:Int) == 237)=false:=by first | exact bT (by omega) | exact bF (by omega)
  clear a1 a2 a3 a4 a5 a6
  go_enter Tryz.func124,Tryz.ntmps124
  go_wp2_with fail
  refine (H1.out _ _).mono ?_;rintro e w' ⟨bb,rfl,hb,rfl⟩
  cases bb
  ·go_wp2_with fail
   try simp only [Exit.inBlock,Exit.then]
   refine bodyPost_ret (results_tmp2 rfl _ _ _) rfl ?_;exact ⟨_,_,rfl,by decide,by decide,Below.refl _ _⟩
  have hb1:=hid (hb rfl);clear hb
  go_wp2_with fail
  refine (H2.out _ _).mono ?_;rintro e w' ⟨bb,rfl,hb,rfl⟩
  cases bb
  ·go_wp2_with fail
   try simp only [Exit.inBlock,Exit.then]
   refine bodyPost_ret (results_tmp2 rfl _ _ _) rfl ?_;exact ⟨_,_,rfl,by decide,by decide,Below.refl _ _⟩
  have k1:=hb1.out;have k2:=hb rfl
  have m0:(0:Int)≤(i:Int):=by omega
  have m1:(i:Int) + 1 < (s.size:Int):=by omega
  have m2:(i:Int) + 2 < (s.size:Int):=by omega
  have n1:(0:Int)≤(i:Int) + 1:=by omega
  have n2:(0:Int)≤(i:Int) + 2:=by omega
  have q1:IntKind.i64.wrap ((i:Int) + 1)=(i:Int) + 1:=by rw [IntKind.wrap_i64];omega
  have q2:IntKind.i64.wrap ((i:Int) + 2)=(i:Int) + 2:=by rw [IntKind.wrap_i64];omega
  clear hb1 hb k1 k2
  go_upto_region 14 with (fail)
  refine zss (fun v=>True) (by kernel_rfl) (by kernel_rfl) (trivial) ?_
  repeat ((first
   | refine sK ?_
   | refine sC0 ?_);try simp only [Act.put,sA,sZ,sS])
  refine zn ?_
  go_wp2_with fail
  try simp only [Exit.inBlock,Exit.then]
  refine bodyPost_ret (results_tmp2 rfl _ _ _) rfl ?_;exact ⟨_,_,rfl,by decide,by decide,zdd (Below.refl _ _)⟩
 have c4:decide ((b:Int)=224)=false:=by first | exact dTT (by omega) | exact dF (by omega)
 have c4b:((b:Int) == 224)=false:=by first | exact bT (by omega) | exact bF (by omega)
 have c5:decide ((b:Int)=237)=false:=by first | exact dTT (by omega) | exact dF (by omega)
 have c5b:((b:Int) == 237)=false:=by first | exact bT (by omega) | exact bF (by omega)
 have c6:decide ((b:Int) ≥ 224)=true:=by first | exact dTT (by omega) | exact dF (by omega)
 have c7:decide ((b:Int)≤239)=false:=by first | exact dTT (by omega) | exact dF (by omega)
 have c10:decide ((b:Int) ≥ 240)=true:=by first | exact dTT (by omega) | exact dF (by omega)
 by_cases a5:b≤244
 ·have c11:decide ((b:Int)≤244)=true:=by first | exact dTT (by omega) | exact dF (by omega)
  by_cases a6:b=240
  ·have c8:decide ((b:Int)=240)=true:=by first | exact dTT (by omega) | exact dF (by omega)
   have c8b:((b:Int) == 240)=true:=by first | exact bT (by omega) | exact bF (by omega)
   have c9:decide ((b:Int)=244)=false:=by first | exact dTT (by omega) | exact dF (by omega)
   have c9b:((b:Int) == 244)=false:=by first | exact bT (by omega) | exact bF (by omega)
   clear a1 a2 a3 a4 a5 a6
   go_enter Tryz.func124,Tryz.ntmps124
   go_wp2_with fail
   refine (H1.out _ _).mono ?_;rintro e w' ⟨bb,rfl,hb,rfl⟩
   cases bb
   ·go_wp2_with fail
    try simp only [Exit.inBlock,Exit.then]
    refine bodyPost_ret (results_tmp2 rfl _ _ _) rfl ?_;exact ⟨_,_,rfl,by decide,by decide,Below.refl _ _⟩
   have hb1:=hid (hb rfl);clear hb
   go_wp2_with fail
   refine (H2.out _ _).mono ?_;rintro e w' ⟨bb,rfl,hb,rfl⟩
   cases bb
   ·go_wp2_with fail
    try simp only [Exit.inBlock,Exit.then]
    refine bodyPost_ret (results_tmp2 rfl _ _ _) rfl ?_;exact ⟨_,_,rfl,by decide,by decide,Below.refl _ _⟩
   have hb2:=hid (hb rfl);clear hb
   go_wp2_with fail
   refine (H3.out _ _).mono ?_;rintro e w' ⟨bb,rfl,hb,rfl⟩
   cases bb
   ·go_wp2_with fail
    try simp only [Exit.inBlock,Exit.then]
    refine bodyPost_ret (results_tmp2 rfl _ _ _) rfl ?_;exact ⟨_,_,rfl,by decide,by decide,Below.refl _ _⟩
   have k1:=hb1.out;have k2:=hb2.out;have k3:=hb rfl
   have m0:(0:Int)≤(i:Int):=by omega
   have m1:(i:Int) + 1 < (s.size:Int):=by omega
   have m2:(i:Int) + 2 < (s.size:Int):=by omega
   have m3:(i:Int) + 3 < (s.size:Int):=by omega
   have n1:(0:Int)≤(i:Int) + 1:=by omega
   have n2:(0:Int)≤(i:Int) + 2:=by omega
   have n3:(0:Int)≤(i:Int) + 3:=by omega
   have q1:IntKind.i64.wrap ((i:Int) + 1)=(i:Int) + 1:=by rw [IntKind.wrap_i64];omega
   have q2:IntKind.i64.wrap ((i:Int) + 2)=(i:Int) + 2:=by rw [IntKind.wrap_i64];omega
   have q3:IntKind.i64.wrap ((i:Int) + 3)=(i:Int) + 3:=by rw [IntKind.wrap_i64];omega
   clear hb1 hb2 hb k1 k2 k3
   go_upto_region 21 with (fail)
   refine zss (fun v=>True) (by kernel_rfl) (by kernel_rfl) (trivial) ?_
   repeat ((first
    | refine sK ?_
    | refine sC0 ?_);try simp only [Act.put,sA,sZ,sS])
   refine zn ?_
   go_wp2_with fail
   try simp only [Exit.inBlock,Exit.then]
   refine bodyPost_ret (results_tmp2 rfl _ _ _) rfl ?_;exact ⟨_,_,rfl,by decide,by decide,zdd (Below.refl _ _)⟩
  have c8:decide ((b:Int)=240)=false:=by first | exact dTT (by omega) | exact dF (by omega)
  have c8b:((b:Int) == 240)=false:=by first | exact bT (by omega) | exact bF (by omega)
  by_cases a7:b=244
  ·have c9:decide ((b:Int)=244)=true:=by first | exact dTT (by omega) | exact dF (by omega)
   have c9b:((b:Int) == 244)=true:=by first | exact bT (by omega) | exact bF (by omega)
   clear a1 a2 a3 a4 a5 a6 a7
   go_enter Tryz.func124,Tryz.ntmps124
   go_wp2_with fail
   refine (H1.out _ _).mono ?_;rintro e w' ⟨bb,rfl,hb,rfl⟩
   cases bb
   ·go_wp2_with fail
    try simp only [Exit.inBlock,Exit.then]
    refine bodyPost_ret (results_tmp2 rfl _ _ _) rfl ?_;exact ⟨_,_,rfl,by decide,by decide,Below.refl _ _⟩
   have hb1:=hid (hb rfl);clear hb
   go_wp2_with fail
   refine (H2.out _ _).mono ?_;rintro e w' ⟨bb,rfl,hb,rfl⟩
   cases bb
   ·go_wp2_with fail
    try simp only [Exit.inBlock,Exit.then]
    refine bodyPost_ret (results_tmp2 rfl _ _ _) rfl ?_;exact ⟨_,_,rfl,by decide,by decide,Below.refl _ _⟩
   have hb2:=hid (hb rfl);clear hb
   go_wp2_with fail
   refine (H3.out _ _).mono ?_;rintro e w' ⟨bb,rfl,hb,rfl⟩
   cases bb
   ·go_wp2_with fail
    try simp only [Exit.inBlock,Exit.then]
    refine bodyPost_ret (results_tmp2 rfl _ _ _) rfl ?_;exact ⟨_,_,rfl,by decide,by decide,Below.refl _ _⟩
   have k1:=hb1.out;have k2:=hb2.out;have k3:=hb rfl
   have m0:(0:Int)≤(i:Int):=by omega
   have m1:(i:Int) + 1 < (s.size:Int):=by omega
   have m2:(i:Int) + 2 < (s.size:Int):=by omega
   have m3:(i:Int) + 3 < (s.size:Int):=by omega
   have n1:(0:Int)≤(i:Int) + 1:=by omega
   have n2:(0:Int)≤(i:Int) + 2:=by omega
   have n3:(0:Int)≤(i:Int) + 3:=by omega
   have q1:IntKind.i64.wrap ((i:Int) + 1)=(i:Int) + 1:=by rw [IntKind.wrap_i64];omega
   have q2:IntKind.i64.wrap ((i:Int) + 2)=(i:Int) + 2:=by rw [IntKind.wrap_i64];omega
   have q3:IntKind.i64.wrap ((i:Int) + 3)=(i:Int) + 3:=by rw [IntKind.wrap_i64];omega
   clear hb1 hb2 hb k1 k2 k3
   go_upto_region 21 with (fail)
   refine zss (fun v=>True) (by kernel_rfl) (by kernel_rfl) (trivial) ?_
   repeat ((first
    | refine sK ?_
    | refine sC0 ?_);try simp only [Act.put,sA,sZ,sS])
   refine zn ?_
   go_wp2_with fail
   try simp only [Exit.inBlock,Exit.then]
   refine bodyPost_ret (results_tmp2 rfl _ _ _) rfl ?_;exact ⟨_,_,rfl,by decide,by decide,zdd (Below.refl _ _)⟩
  have c9:decide ((b:Int)=244)=false:=by first | exact dTT (by omega) | exact dF (by omega)
  have c9b:((b:Int) == 244)=false:=by first | exact bT (by omega) | exact bF (by omega)
  clear a1 a2 a3 a4 a5 a6 a7
  go_enter Tryz.func124,Tryz.ntmps124
  go_wp2_with fail
  refine (H1.out _ _).mono ?_;rintro e w' ⟨bb,rfl,hb,rfl⟩
  cases bb
  ·go_wp2_with fail
   try simp only [Exit.inBlock,Exit.then]
   refine bodyPost_ret (results_tmp2 rfl _ _ _) rfl ?_;exact ⟨_,_,rfl,by decide,by decide,Below.refl _ _⟩
  have hb1:=hid (hb rfl);clear hb
  go_wp2_with fail
  refine (H2.out _ _).mono ?_;rintro e w' ⟨bb,rfl,hb,rfl⟩
  cases bb
  ·go_wp2_with fail
   try simp only [Exit.inBlock,Exit.then]
   refine bodyPost_ret (results_tmp2 rfl _ _ _) rfl ?_;exact ⟨_,_,rfl,by decide,by decide,Below.refl _ _⟩
  have hb2:=hid (hb rfl);clear hb
  go_wp2_with fail
  refine (H3.out _ _).mono ?_;rintro e w' ⟨bb,rfl,hb,rfl⟩
  cases bb
  ·go_wp2_with fail
   try simp only [Exit.inBlock,Exit.then]
   refine bodyPost_ret (results_tmp2 rfl _ _ _) rfl ?_;exact ⟨_,_,rfl,by decide,by decide,Below.refl _ _⟩
  have k1:=hb1.out;have k2:=hb2.out;have k3:=hb rfl
  have m0:(0:Int)≤(i:Int):=by omega
  have m1:(i:Int) + 1 < (s.size:Int):=by omega
  have m2:(i:Int) + 2 < (s.size:Int):=by omega
  have m3:(i:Int) + 3 < (s.size:Int):=by omega
  have n1:(0:Int)≤(i:Int) + 1:=by omega
  have n2:(0:Int)≤(i:Int) + 2:=by omega
  have n3:(0:Int)≤(i:Int) + 3:=by omega
  have q1:IntKind.i64.wrap ((i:Int) + 1)=(i:Int) + 1:=by rw [IntKind.wrap_i64];omega
  have q2:IntKind.i64.wrap ((i:Int) + 2)=(i:Int) + 2:=by rw [IntKind.wrap_i64];omega
  have q3:IntKind.i64.wrap ((i:Int) + 3)=(i:Int) + 3:=by rw [IntKind.wrap_i64];omega
  clear hb1 hb2 hb k1 k2 k3
  go_upto_region 21 with (fail)
  refine zss (fun v=>True) (by kernel_rfl) (by kernel_rfl) (trivial) ?_
  repeat ((first
   | refine sK ?_
   | refine sC0 ?_);try simp only [Act.put,sA,sZ,sS])
  refine zn ?_
  go_wp2_with fail
  try simp only [Exit.inBlock,Exit.then]
  refine bodyPost_ret (results_tmp2 rfl _ _ _) rfl ?_;exact ⟨_,_,rfl,by decide,by decide,zdd (Below.refl _ _)⟩
 ·have c11:decide ((b:Int)≤244)=false:=by first | exact dTT (by omega) | exact dF (by omega)
  have c8:decide ((b:Int)=240)=false:=by first | exact dTT (by omega) | exact dF (by omega)
  have c8b:((b:Int) == 240)=false:=by first | exact bT (by omega) | exact bF (by omega)
  have c9:decide ((b:Int)=244)=false:=by first | exact dTT (by omega) | exact dF (by omega)
  have c9b:((b:Int) == 244)=false:=by first | exact bT (by omega) | exact bF (by omega)
  clear a1 a2 a3 a4 a5
  go_enter Tryz.func124,Tryz.ntmps124
  go_wp2_with fail
  try simp only [Exit.inBlock,Exit.then]
  refine bodyPost_ret (results_tmp2 rfl _ _ _) rfl ?_;exact ⟨_,_,rfl,by decide,by decide,Below.refl _ _⟩
def SomeB (w:World) (e:Ending) (w':World):Prop:=∃ b,e=.returned (.bool b)∧Below w.heap.size w w'
theorem lvalid_any (s:ByteArray) (w:World) (hs:s.size≤140737488355328):Calls Tryz.prog 111 #[.string s] w (SomeB w):=by
 by_cases hbig:4096 < s.size
 ·have f1:decide ((s.size:Int) > 4096)=true:=dTT (by omega)
  go_enter Tryz.func111,Tryz.ntmps111
  go_wp2_with fail
  go_ret;exact ⟨_,rfl,Below.refl _ _⟩
 have f1:decide ((s.size:Int) > 4096)=false:=dF (by omega)
 go_enter Tryz.func111,Tryz.ntmps111
 go_wp2_with fail
 go_loopw [3] (fun i wr=>∃ j:Nat,j≤5000∧i=.int .i64 j∧Hid (Below w.heap.size w wr)) (fun i _=>s.size - (intOf i).toNat)
 case atStart=>exact ⟨0,Nat.zero_le _,rfl,hid (Below.refl _ _)⟩
 case round =>
  obtain ⟨j,hj,rfl,B⟩:=hrel
  by_cases hlt:j < s.size
  ·have HD:=hid (decode_any s j wr (by omega) hlt)
   have hj1:(j:Int) < (s.size:Int):=by omega
   go_wp2_with fail
   refine HD.out.mono ?_;rintro e w2 ⟨c,n,rfl,hn0,hn4,hb2⟩;have HB2:=hid (B.out.trans (hb2.mono B.out.size));clear hb2 HD
   by_cases hz:n=0
   ·have d1:decide (n=0)=true:=dTT hz
    have d2:(n == 0)=true:=bT hz;clear hz
    go_wp2_with fail
    go_ret;exact ⟨_,rfl,HB2.out⟩
   ·have d1:decide (n=0)=false:=dF hz
    have d2:(n == 0)=false:=bF hz;obtain ⟨m,rfl⟩:∃ m:Nat,n=(m:Int):=⟨n.toNat,by omega⟩
    have hm1:1≤m:=by omega
    have hm4:m≤4:=by omega
    clear hz
    go_wp2_with fail
    go_roundw
    case rel=>exact ⟨j + m,by omega,by go_num,HB2⟩
    case measure=>simp [intOf];omega
  ·have hj1:decide ((j:Int) < (s.size:Int))=false:=dF (by omega)
   go_wp2_with fail
   go_ret;exact ⟨_,rfl,B.out⟩
def SomeI (w:World) (e:Ending) (w':World):Prop:=∃ r:Int,e=.returned (.int .i64 r)∧Below w.heap.size w w'
theorem text_any (s:ByteArray) (w:World) (hs:s.size≤140737488355328):Calls Tryz.prog 98 #[.string s] w (SomeI w):=by
 by_cases hbig:4096 < s.size
 ·have f1:decide ((s.size:Int) > 4096)=true:=dTT (by omega)
  go_enter Tryz.func98,Tryz.ntmps98
  go_wp2_with fail
  go_ret;exact ⟨_,rfl,Below.refl _ _⟩
 have f1:decide ((s.size:Int) > 4096)=false:=dF (by omega);have HV:=hid (lvalid_any s w hs)
 go_enter Tryz.func98,Tryz.ntmps98
 go_wp2_with fail
 refine HV.out.mono ?_;rintro e w2 ⟨b,rfl,hb⟩;have HB:=hid hb;clear hb
 cases b
 ·go_wp2_with fail
  go_ret;exact ⟨_,rfl,HB.out⟩
 ·go_wp2_with fail
  go_ret;exact ⟨_,rfl,HB.out⟩
theorem nvalid_any (n:Int) (w:World):Calls Tryz.prog 97 #[.int .i64 n] w (SomeB w):=by
 by_cases h1:n ≥ -9007199254740992
 ·have f1:decide (n ≥ -9007199254740992)=true:=dTT h1
  cases f2:decide (n≤9007199254740992) with
  | true =>
   go_enter Tryz.func97,Tryz.ntmps97
   go_wp2_with fail
   go_ret;exact ⟨_,rfl,Below.refl _ _⟩
  | false =>
   go_enter Tryz.func97,Tryz.ntmps97
   go_wp2_with fail
   go_ret;exact ⟨_,rfl,Below.refl _ _⟩
 ·have f1:decide (n ≥ -9007199254740992)=false:=dF h1
  go_enter Tryz.func97,Tryz.ntmps97
  go_wp2_with fail
  go_ret;exact ⟨_,rfl,Below.refl _ _⟩
end Go.Proofs.YtibiiafcnaijeaaGreat
