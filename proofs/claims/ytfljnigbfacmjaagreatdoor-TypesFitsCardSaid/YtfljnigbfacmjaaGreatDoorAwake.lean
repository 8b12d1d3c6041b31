/- awake: the examples of the chapter. -/
import Derived.Test.YtfljnigbfacmjaaGreatDoorOf
import Derived.Test.YtfljnigbfacmjaaGreatDoorParse
import Derived.Test.YtfljnigbfacmjaaGreatDoorFmt
import Derived.Test.YtfljnigbfacmjaaGreatDoorIncl
import Derived.Test.YtfljnigbfacmjaaGreatDoorValid
import Derived.KernelRfl
namespace Go.Proofs.YtfljnigbfacmjaaGreatDoor
open Go Go.RowKit
set_option linter.unusedVariables false

def sA : ByteArray := ⟨#[111, 98, 106, 101, 99, 116, 40, 123, 32, 98, 61, 97, 110, 121, 32, 44, 97, 32, 61, 32, 108, 105, 115, 116, 40, 32, 98, 111, 111, 108, 32, 41, 125, 41]⟩
def tA : Ty := .mk 6 [.mk 4 [.mk 1 [] []] [], .mk 0 [] []] [⟨#[97]⟩, ⟨#[98]⟩]
def sB : ByteArray := ⟨#[108, 105, 115, 116, 40, 115, 116, 114, 105, 110, 41]⟩
def vA : Vl := .mk 4 0 ⟨#[]⟩ [.mk 2 1 ⟨#[]⟩ [] [], .mk 0 0 ⟨#[]⟩ [] [], .mk 2 2 ⟨#[]⟩ [] []] []
theorem pA : parseV sA = (tA, 0, 0) := by kernel_rfl
theorem pB : parseV sB = (.mk 0 [] [], 2, 5) := by kernel_rfl
theorem fA : fmtT tA = ⟨#[111, 98, 106, 101, 99, 116, 40, 123, 97, 32, 61, 32, 108, 105, 115, 116, 40, 98, 111, 111, 108, 41, 44, 32, 98, 32, 61, 32, 97, 110, 121, 125, 41]⟩ := by kernel_rfl
theorem cA : checkT tA 1 = 0 := by kernel_rfl
theorem cB : checkT (.mk 4 [] []) 1 = 1 := by kernel_rfl
theorem iA : inclT (.mk 0 [] []) tA = true := inclT_0 _ _ _
theorem iB : inclT tA (.mk 0 [] []) = false := by
  unfold tA
  rw [inclT_o (by decide) (by decide)]
  rfl
theorem oA : ofT vA 1 = .mk 4 [.mk 2 [] []] [] := by kernel_rfl
theorem fB : fmtT (.mk 4 [.mk 2 [] []] []) = ⟨#[108, 105, 115, 116, 40, 110, 117, 109, 98, 101, 114, 41]⟩ := by kernel_rfl
def Gives (v : Value) (w : World) (e : Ending) (w' : World) : Prop := e = .returned v ∧ Below w.heap.size w w'
set_option maxRecDepth 100000 in
set_option maxHeartbeats 4000000 in
theorem num_any (n : Int) (w : World) : Calls Tryz.prog 24 #[.int .i64 n] w (Ret (.agg #[.int .i64 2, .int .i64 n, .string ⟨#[]⟩, .slice none 0 0, .slice none 0 0]) w) := by
  have HB := hid (box5 w (.int .i64 2) (.int .i64 n) (.string ⟨#[]⟩) (.slice none 0 0) (.slice none 0 0) 26)
  go_enter Tryz.func24, Tryz.ntmps24
  go_wp2_with fail
  generalize w.alloc (.cells #[.int .i64 2, .int .i64 n, .string ⟨#[]⟩, .slice none 0 0, .slice none 0 0] 26) = wf at *
  obtain ⟨hb, p0, p1, p2, p3, p4⟩ := HB.out
  refine bodyPost_ret (v := .agg #[.int .i64 2, .int .i64 n, .string ⟨#[]⟩, .slice none 0 0, .slice none 0 0]) (by simp [results, Tryz.results24, go_sem, p0, p1, p2, p3, p4]) rfl ?_
  exact ⟨rfl, hb⟩
set_option maxRecDepth 100000 in
set_option maxHeartbeats 4000000 in
theorem null_any (w : World) : Calls Tryz.prog 25 #[] w (Ret (.agg #[.int .i64 0, .int .i64 0, .string ⟨#[]⟩, .slice none 0 0, .slice none 0 0]) w) := by
  have HB := hid (box5 w (.int .i64 0) (.int .i64 0) (.string ⟨#[]⟩) (.slice none 0 0) (.slice none 0 0) 26)
  go_enter Tryz.func25, Tryz.ntmps25
  go_wp2_with fail
  generalize w.alloc (.cells #[.int .i64 0, .int .i64 0, .string ⟨#[]⟩, .slice none 0 0, .slice none 0 0] 26) = wf at *
  obtain ⟨hb, p0, p1, p2, p3, p4⟩ := HB.out
  refine bodyPost_ret (v := .agg #[.int .i64 0, .int .i64 0, .string ⟨#[]⟩, .slice none 0 0, .slice none 0 0]) (by simp [results, Tryz.results25, go_sem, p0, p1, p2, p3, p4]) rfl ?_
  exact ⟨rfl, hb⟩
set_option maxRecDepth 100000 in
set_option maxHeartbeats 4000000 in
theorem list_any (o : Option Addr) (m c : Nat) (w : World) : Calls Tryz.prog 23 #[.slice o m c] w (Ret (.agg #[.int .i64 4, .int .i64 0, .string ⟨#[]⟩, .slice o m c, .slice none 0 0]) w) := by
  have HB := hid (box5 w (.int .i64 4) (.int .i64 0) (.string ⟨#[]⟩) (.slice o m c) (.slice none 0 0) 26)
  go_enter Tryz.func23, Tryz.ntmps23
  go_wp2_with fail
  generalize w.alloc (.cells #[.int .i64 4, .int .i64 0, .string ⟨#[]⟩, .slice o m c, .slice none 0 0] 26) = wf at *
  obtain ⟨hb, p0, p1, p2, p3, p4⟩ := HB.out
  refine bodyPost_ret (v := .agg #[.int .i64 4, .int .i64 0, .string ⟨#[]⟩, .slice o m c, .slice none 0 0]) (by simp [results, Tryz.results23, go_sem, p0, p1, p2, p3, p4]) rfl ?_
  exact ⟨rfl, hb⟩
structure AW (w wr : World) (b : Nat) (oe on : Option Addr) (ce cn : Nat) : Prop where
  bel : Below w.heap.size w wr
  o1 : wr.heap[b]? = some (.cells #[.int .i64 6, .slice oe 2 ce, .slice on 2 cn] 30)
  o2 : wr.heap[b + 1]? = some (.cells #[.int .i64 0, .int .i64 0, .string ⟨#[]⟩] 47)
  tv : TV (fun _ => True) wr (.agg #[.int .i64 6, .slice oe 2 ce, .slice on 2 cn]) tA
theorem AW.later {w wr w' : World} {b : Nat} {oe on : Option Addr} {ce cn : Nat} (h : AW w wr b oe on ce cn) (hb : Below wr.heap.size wr w') : AW w w' b oe on ce cn :=
  ⟨h.bel.trans (hb.mono h.bel.size), (hb.block _ (Array.getElem?_eq_some_iff.1 h.o1).1).trans h.o1, (hb.block _ (Array.getElem?_eq_some_iff.1 h.o2).1).trans h.o2, h.tv.bel hb⟩
theorem keep_obj {w w' : World} {b : Nat} {o : Obj} (h : w.heap[b]? = some o) (hb : Below w.heap.size w w') : w'.heap[b]? = some o := (hb.block _ (Array.getElem?_eq_some_iff.1 h).1).trans h
theorem three_values {w : World} {b : Nat} (h : w.heap[b]? = some (.cells #[.int .i64 2, .int .i64 1, .string ⟨#[]⟩, .slice none 0 0, .slice none 0 0, .int .i64 0, .int .i64 0, .string ⟨#[]⟩, .slice none 0 0, .slice none 0 0, .int .i64 2, .int .i64 2, .string ⟨#[]⟩, .slice none 0 0, .slice none 0 0] 26)) :
    VV (fun _ => True) w (.agg #[.int .i64 4, .int .i64 0, .string ⟨#[]⟩, .slice (some ⟨b, 0, none⟩) 3 3, .slice none 0 0]) vA := by
  unfold vA
  have leaf : ∀ k n : Int, VV (fun _ => True) w (.agg #[.int .i64 k, .int .i64 n, .string ⟨#[]⟩, .slice none 0 0, .slice none 0 0]) (.mk k n ⟨#[]⟩ [] []) := fun k n => VV.mk' (by decide) (SV.nil _ _) (WV.nil _ _)
  refine VV.mk' (by decide) (SV.nil _ _) ⟨[(.int .i64 2, .int .i64 1, .string ⟨#[]⟩, .slice none 0 0, .slice none 0 0), (.int .i64 0, .int .i64 0, .string ⟨#[]⟩, .slice none 0 0, .slice none 0 0), (.int .i64 2, .int .i64 2, .string ⟨#[]⟩, .slice none 0 0, .slice none 0 0)], ⟨by simp, .inr ⟨b, 0, 3, trivial, rfl, fun i r hr => ?_⟩⟩, rfl, fun i r e hr he => ?_⟩
  · match i, hr with
    | 0, hr => cases hr; exact ⟨(cells_in h 0).trans rfl, (cells_in h 1).trans rfl, (cells_in h 2).trans rfl, (cells_in h 3).trans rfl, (cells_in h 4).trans rfl⟩
    | 1, hr => cases hr; exact ⟨(cells_in h 5).trans rfl, (cells_in h 6).trans rfl, (cells_in h 7).trans rfl, (cells_in h 8).trans rfl, (cells_in h 9).trans rfl⟩
    | 2, hr => cases hr; exact ⟨(cells_in h 10).trans rfl, (cells_in h 11).trans rfl, (cells_in h 12).trans rfl, (cells_in h 13).trans rfl, (cells_in h 14).trans rfl⟩
  · match i, hr, he with
    | 0, hr, he => cases hr; cases he; exact leaf 2 1
    | 1, hr, he => cases hr; cases he; exact leaf 0 0
    | 2, hr, he => cases hr; cases he; exact leaf 2 2
set_option maxRecDepth 100000 in
set_option maxHeartbeats 4000000 in
theorem awake_any (w : World) : Calls Tryz.prog 8 #[] w (Ret (.bool true) w) := by
  have HP := hid (parse_any sA w)
  rw [pA] at HP
  unfold sA at HP
  go_enter Tryz.func8, Tryz.ntmps8
  go_wp2_with fail
  refine HP.out.mono ?_
  rintro e w2 ⟨u, rfl, hu, hb⟩
  dsimp only at hu
  obtain ⟨ve, vn, rfl, hE, hN⟩ := hu.out
  obtain ⟨oe, ce, rfl⟩ : ∃ oa c, ve = .slice oa 2 c := hE.len
  obtain ⟨on, cn, rfl⟩ : ∃ oa c, vn = .slice oa 2 c := hN.len
  have HU := hid hu
  have HB := hid hb
  clear hu hb hE hN HP
  go_upto_region 2 with (fail)
  have hb1 : Below w2.heap.size w2 (w2.alloc (.cells #[.int .i64 6, .slice oe 2 ce, .slice on 2 cn] 30)) := (Below.refl _ _).alloc (Nat.le_refl _) _
  have ho1 := heap_alloc_at w2 (.cells #[.int .i64 6, .slice oe 2 ce, .slice on 2 cn] 30)
  have hs1 : (w2.alloc (.cells #[.int .i64 6, .slice oe 2 ce, .slice on 2 cn] 30)).heap.size = w2.heap.size + 1 := by simp
  generalize w2.alloc (.cells #[.int .i64 6, .slice oe 2 ce, .slice on 2 cn] 30) = wa at *
  have hb2 : Below wa.heap.size wa (wa.alloc (.cells #[.int .i64 0, .int .i64 0, .string ⟨#[]⟩] 47)) := (Below.refl _ _).alloc (Nat.le_refl _) _
  have ho2 := heap_alloc_at wa (.cells #[.int .i64 0, .int .i64 0, .string ⟨#[]⟩] 47)
  rw [hs1] at ho2
  generalize wa.alloc (.cells #[.int .i64 0, .int .i64 0, .string ⟨#[]⟩] 47) = wb at *
  have hob := keep_obj ho1 hb2
  replace hb2 := hb1.trans (hb2.mono hb1.size)
  clear hb1 ho1 hs1
  have HA := hid (show AW w wb w2.heap.size oe on ce cn from ⟨HB.out.trans (hb2.mono HB.out.size), hob, ho2, HU.out.bel hb2 |>.mono fun _ _ => trivial⟩)
  clear hb2 hob ho2 HU HB
  have HP2 := hid (parse_any sB wb)
  rw [pB] at HP2
  unfold sB at HP2
  go_wp2_with fail
  refine HP2.out.mono ?_
  rintro e w3 ⟨u, rfl, hu, hb⟩
  dsimp only at hu
  obtain ⟨ve, vn, rfl, hE, hN⟩ := hu.out
  obtain ⟨oe2, ce2, rfl⟩ : ∃ oa c, ve = .slice oa 0 c := hE.len
  obtain ⟨on2, cn2, rfl⟩ : ∃ oa c, vn = .slice oa 0 c := hN.len
  have HA3 := hid (HA.out.later hb)
  clear hu hb hE hN HP2 HA
  go_upto_region 3 with (fail)
  have hb1 : Below w3.heap.size w3 (w3.alloc (.cells #[.int .i64 0, .slice oe2 0 ce2, .slice on2 0 cn2] 30)) := (Below.refl _ _).alloc (Nat.le_refl _) _
  have ho1 := heap_alloc_at w3 (.cells #[.int .i64 0, .slice oe2 0 ce2, .slice on2 0 cn2] 30)
  have hs1 : (w3.alloc (.cells #[.int .i64 0, .slice oe2 0 ce2, .slice on2 0 cn2] 30)).heap.size = w3.heap.size + 1 := by simp
  generalize w3.alloc (.cells #[.int .i64 0, .slice oe2 0 ce2, .slice on2 0 cn2] 30) = wc at *
  have hb2 : Below wc.heap.size wc (wc.alloc (.cells #[.int .i64 2, .int .i64 5, .string ⟨#[]⟩] 47)) := (Below.refl _ _).alloc (Nat.le_refl _) _
  have ho2 := heap_alloc_at wc (.cells #[.int .i64 2, .int .i64 5, .string ⟨#[]⟩] 47)
  rw [hs1] at ho2
  generalize wc.alloc (.cells #[.int .i64 2, .int .i64 5, .string ⟨#[]⟩] 47) = wd at *
  have hob := keep_obj ho1 hb2
  replace hb2 := hb1.trans (hb2.mono hb1.size)
  clear hb1 ho1 hs1
  have HA4 := hid (HA3.out.later hb2)
  have HD := hid ho2
  clear hb2 hob ho2 HA3
  have HN1 := hid (num_any 1 wd)
  go_wp2_with fail
  refine HN1.out.mono ?_
  rintro e w5 ⟨rfl, hb⟩
  have HA5 := hid (HA4.out.later hb)
  have HD5 := hid (keep_obj HD.out hb)
  clear hb HN1 HA4 HD
  have HN1 := hid (null_any w5)
  go_wp2_with fail
  refine HN1.out.mono ?_
  rintro e w6 ⟨rfl, hb⟩
  have HA6 := hid (HA5.out.later hb)
  have HD6 := hid (keep_obj HD5.out hb)
  clear hb HN1 HA5 HD5
  have HN1 := hid (num_any 2 w6)
  go_wp2_with fail
  refine HN1.out.mono ?_
  rintro e w7 ⟨rfl, hb⟩
  have HA7 := hid (HA6.out.later hb)
  have HD7 := hid (keep_obj HD6.out hb)
  clear hb HN1 HA6 HD6
  go_wp2_with fail
  have hb8 : Below w7.heap.size w7 (w7.alloc (.cells #[.int .i64 2, .int .i64 1, .string ⟨#[]⟩, .slice none 0 0, .slice none 0 0, .int .i64 0, .int .i64 0, .string ⟨#[]⟩, .slice none 0 0, .slice none 0 0, .int .i64 2, .int .i64 2, .string ⟨#[]⟩, .slice none 0 0, .slice none 0 0] 26)) := (Below.refl _ _).alloc (Nat.le_refl _) _
  have ho8 := heap_alloc_at w7 (.cells #[.int .i64 2, .int .i64 1, .string ⟨#[]⟩, .slice none 0 0, .slice none 0 0, .int .i64 0, .int .i64 0, .string ⟨#[]⟩, .slice none 0 0, .slice none 0 0, .int .i64 2, .int .i64 2, .string ⟨#[]⟩, .slice none 0 0, .slice none 0 0] 26)
  generalize w7.alloc (.cells #[.int .i64 2, .int .i64 1, .string ⟨#[]⟩, .slice none 0 0, .slice none 0 0, .int .i64 0, .int .i64 0, .string ⟨#[]⟩, .slice none 0 0, .slice none 0 0, .int .i64 2, .int .i64 2, .string ⟨#[]⟩, .slice none 0 0, .slice none 0 0] 26) = w8 at *
  have HA8 := hid (HA7.out.later hb8)
  have HD8 := hid (keep_obj HD7.out hb8)
  have HV8 := hid (three_values ho8)
  clear hb8 ho8 HA7 HD7
  have HN1 := hid (list_any (some ⟨w7.heap.size, 0, none⟩) 3 3 w8)
  refine HN1.out.mono ?_
  rintro e w9 ⟨rfl, hb⟩
  have HA9 := hid (HA8.out.later hb)
  have HD9 := hid (keep_obj HD8.out hb)
  have HV9 := hid (HV8.out.bel hb)
  clear hb HN1 HA8 HD8 HV8
  go_upto_region 4 with (fail)
  have hb10 : Below w9.heap.size w9 (w9.alloc (.cells #[.int .i64 4, .int .i64 0, .string ⟨#[]⟩, .slice (some ⟨w7.heap.size, 0, none⟩) 3 3, .slice none 0 0] 26)) := (Below.refl _ _).alloc (Nat.le_refl _) _
  have ho10 := heap_alloc_at w9 (.cells #[.int .i64 4, .int .i64 0, .string ⟨#[]⟩, .slice (some ⟨w7.heap.size, 0, none⟩) 3 3, .slice none 0 0] 26)
  generalize w9.alloc (.cells #[.int .i64 4, .int .i64 0, .string ⟨#[]⟩, .slice (some ⟨w7.heap.size, 0, none⟩) 3 3, .slice none 0 0] 26) = w10 at *
  have HA10 := hid (HA9.out.later hb10)
  have HD10 := hid (keep_obj HD9.out hb10)
  have HV10 := hid (HV9.out.bel hb10)
  have HO10 := hid ho10
  clear hb10 ho10 HA9 HD9 HV9
  have a0 := (cells_in HA10.out.o1 0).trans rfl
  have a1 := (cells_in HA10.out.o1 1).trans rfl
  have a2 := (cells_in HA10.out.o1 2).trans rfl
  have d0 := (cells_in HA10.out.o2 0).trans rfl
  have HF := hid (fmt_any tA _ w10 _ HA10.out.tv (by decide) (by rw [fA]; decide))
  rw [fA] at HF
  go_wp2_with fail
  clear a0 a1 a2 d0
  refine HF.out.mono ?_
  rintro e w11 ⟨rfl, hb⟩
  have HA11 := hid (HA10.out.later hb)
  have HD11 := hid (keep_obj HD10.out hb)
  have HV11 := hid (HV10.out.bel hb)
  have HO11 := hid (keep_obj HO10.out hb)
  clear hb HF HA10 HD10 HV10 HO10
  have e0 := (cells_in HD11.out 0).trans rfl
  have e1 := (cells_in HD11.out 1).trans rfl
  have e2 := (cells_in HD11.out 2).trans rfl
  have v0 := (cells_in HO11.out 0).trans rfl
  have v1 := (cells_in HO11.out 1).trans rfl
  have v2 := (cells_in HO11.out 2).trans rfl
  have v3 := (cells_in HO11.out 3).trans rfl
  have v4 := (cells_in HO11.out 4).trans rfl
  have HOF := hid (ofV_any vA _ w11 _ HV11.out (by decide) (by decide))
  rw [oA] at HOF
  go_wp2_with fail
  clear e0 e1 e2 v0 v1 v2 v3 v4
  refine HOF.out.mono ?_
  rintro e w12 ⟨u, rfl, hu, hb⟩
  have HA12 := hid (HA11.out.later hb)
  have HD12 := hid (keep_obj HD11.out hb)
  have HF := hid (fmt_any _ _ w12 _ hu (by decide) (by rw [fB]; decide))
  rw [fB] at HF
  clear hb hu HOF HA11 HD11 HV11 HO11
  go_wp2_with fail
  refine HF.out.mono ?_
  rintro e w13 ⟨rfl, hb⟩
  have HA13 := hid (HA12.out.later hb)
  have HD13 := hid (keep_obj HD12.out hb)
  clear hb HF HA12 HD12
  have a0 := (cells_in HA13.out.o1 0).trans rfl
  have a1 := (cells_in HA13.out.o1 1).trans rfl
  have a2 := (cells_in HA13.out.o1 2).trans rfl
  have HF := hid (ocheck_any _ w13 _ tA HA13.out.tv)
  rw [cA] at HF
  go_wp2_with fail
  clear a0 a1 a2
  refine HF.out.mono ?_
  rintro e w14 ⟨rfl, hb⟩
  have HA14 := hid (HA13.out.later hb)
  have HD14 := hid (keep_obj HD13.out hb)
  clear hb HF HA13 HD13
  have HF := hid (ocheck_any (fun _ => True) w14 (.agg #[.int .i64 4, .slice none 0 0, .slice none 0 0]) (.mk 4 [] []) (TV.mk' (SV.nil _ _) (LV.nil _ _)))
  rw [cB] at HF
  go_wp2_with fail
  refine HF.out.mono ?_
  rintro e w15 ⟨rfl, hb⟩
  have HA15 := hid (HA14.out.later hb)
  have HD15 := hid (keep_obj HD14.out hb)
  clear hb HF HA14 HD14
  have a0 := (cells_in HA15.out.o1 0).trans rfl
  have a1 := (cells_in HA15.out.o1 1).trans rfl
  have a2 := (cells_in HA15.out.o1 2).trans rfl
  have HF := hid (incl_any (.mk 0 [] []) tA (fun _ => True) _ w15 (.agg #[.int .i64 0, .slice none 0 0, .slice none 0 0]) _ (TV.any0 _ _) HA15.out.tv)
  rw [iA] at HF
  go_wp2_with fail
  clear a0 a1 a2
  refine HF.out.mono ?_
  rintro e w16 ⟨rfl, hb⟩
  have HA16 := hid (HA15.out.later hb)
  have HD16 := hid (keep_obj HD15.out hb)
  clear hb HF HA15 HD15
  have a0 := (cells_in HA16.out.o1 0).trans rfl
  have a1 := (cells_in HA16.out.o1 1).trans rfl
  have a2 := (cells_in HA16.out.o1 2).trans rfl
  have HF := hid (incl_any tA (.mk 0 [] []) _ (fun _ => True) w16 _ (.agg #[.int .i64 0, .slice none 0 0, .slice none 0 0]) HA16.out.tv (TV.any0 _ _))
  rw [iB] at HF
  go_wp2_with fail
  clear a0 a1 a2
  refine HF.out.mono ?_
  rintro e w17 ⟨rfl, hb⟩
  have HB17 := hid (HA16.out.later hb).bel
  clear hb HF HA16 HD16
  go_wp2_with fail
  go_ret
  exact ⟨rfl, HB17.out⟩
end Go.Proofs.YtfljnigbfacmjaaGreatDoor
