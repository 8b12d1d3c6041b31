/- The reference's Parse. -/
import Derived.Test.YtfljnigbfacmjaaDoorRRdT
import Derived.Test.YtfljnigbfacmjaaDoorParse
namespace Go.Proofs.YtfljnigbfacmjaaDoor
open Go Go.RowKit Go.Proofs.YtfljnigbfacmjaaDoor.Steady
set_option linter.unusedVariables false

set_option maxRecDepth 100000 in
set_option maxHeartbeats 20000000 in
theorem rparse_of (s : ByteArray) (w : World) (HRD : s.size ≤ 65536 → RReadAt s 32) : Calls Tryd.prog 14 #[.string s] w (ParsePost (parseV s) w) := by
  generalize hA : w.alloc (.cells #[.int .i64 0, .slice none 0 0, .slice none 0 0] 26) = wa
  have hao : wa.heap[w.heap.size]? = some (.cells #[.int .i64 0, .slice none 0 0, .slice none 0 0] 26) := by rw [← hA]; exact heap_alloc_at w _
  have has : wa.heap.size = w.heap.size + 1 := by rw [← hA]; simp
  have ha : Below w.heap.size w wa := by rw [← hA]; exact (Below.refl _ _).alloc (Nat.le_refl _) _
  generalize hB : wa.alloc (.cells #[.int .i64 0, .int .i64 0, .string ⟨#[]⟩] 33) = wb
  have hbo : wb.heap[w.heap.size + 1]? = some (.cells #[.int .i64 0, .int .i64 0, .string ⟨#[]⟩] 33) := by rw [← hB, ← has]; exact heap_alloc_at wa _
  have hb : Below wa.heap.size wa wb := by rw [← hB]; exact (Below.refl _ _).alloc (Nat.le_refl _) _
  have HI := hid (show BI w wb from ⟨ha.trans (hb.mono ha.size), (hb.block _ (by omega)).trans hao, hbo⟩)
  have HA := hid hA
  have HB := hid hB
  have HR := hid HRD
  clear hA hB hao has ha hbo hb HRD
  by_cases hlt : 65536 < s.size
  · have HE := hid (parseV_1 hlt)
    have c1 : decide ((s.size : Int) > 65536) = true := decide_eq_true (by omega)
    go_enter Tryd.func14, Tryd.ntmps14
    go_wp2_with fail
    rw [HA.out, HB.out]
    go_wp2_with fail
    refine (bad_any 3 0 _).mono ?_
    rintro e wc ⟨rfl, hb⟩
    have HIB := HI.out.later hb
    clear hb
    have f0 := (cells_in HIB.z6 0).trans rfl
    have f1 := (cells_in HIB.z6 1).trans rfl
    have f2 := (cells_in HIB.z6 2).trans rfl
    have ff := frozen_in HIB.z6
    have g0 := (cells_in HIB.z8 0).trans rfl
    have g1 := (cells_in HIB.z8 1).trans rfl
    have g2 := (cells_in HIB.z8 2).trans rfl
    have gf := frozen_in HIB.z8
    go_wp2_with fail
    try simp only [Exit.inBlock, Exit.then]
    refine bodyPost_ret (v := .tuple #[.agg #[.int .i64 0, .slice none 0 0, .slice none 0 0], dg 3 0]) (by simp [results, Tryd.results14, go_sem, f0, f1, f2, g0, g1, g2, dg]) rfl ?_
    have OUT := hid (HIB.out (u := .agg #[.int .i64 0, .slice none 0 0, .slice none 0 0]) (x := .int .i64 0) (y := .slice none 0 0) (z := .slice none 0 0) (a := .int .i64 3) (b := .int .i64 0) (c := .string ⟨#[]⟩) (TV.any0 _ _))
    rw [HE.out]
    exact ⟨_, rfl, OUT.out.1, OUT.out.2⟩
  have HLT := hid hlt
  have hs : s.size ≤ 65536 := by omega
  have c1 : decide ((s.size : Int) > 65536) = false := decide_eq_false (by omega)
  have HRD := hid (HR.out hs wb 0 (Nat.zero_le _))
  rw [show (33 : Int) - ((32 : Nat) : Int) = 1 by decide] at HRD
  clear hlt HR
  go_enter Tryd.func14, Tryd.ntmps14
  go_wp2_with fail
  rw [HA.out, HB.out]
  refine HRD.out.mono ?_
  rintro e w4 ⟨hb4, u, t, hu, hpost⟩
  obtain ⟨k4, es4, ns4⟩ := t
  obtain ⟨ve4, vn4, rfl, hE4, hN4⟩ := hu.out
  obtain ⟨oe4, ce4, rfl⟩ := hE4.len
  obtain ⟨on4, cn4, rfl⟩ := hN4.len
  have HI4 := hid (HI.out.later hb4)
  have HU := hid (hu.mono (Q := fun g => w.heap.size + 2 ≤ g) fun g hg => by have := HI.out.lt; omega)
  have hl4 := HI4.out.lt
  clear hu hE4 hN4 hb4 HRD HI HA HB
  rcases hpost with ⟨p4, a1, rfl⟩ | ⟨ek, at', a1, rfl⟩
  rotate_left
  · have HE := hid (parseV_2 HLT.out a1)
    have hk := ((readP_ok s 32 1 (by decide)) 0 (Nat.zero_le _) |>.2 _ a1).1
    clear a1
    try simp only [dg]
    go_upto_region 4 with (fail)
    have hG1 : Below w4.heap.size w4 (w4.alloc (.cells #[.int .i64 k4, .slice oe4 es4.length ce4, .slice on4 ns4.length cn4] 26)) := (Below.refl _ _).alloc (Nat.le_refl _) _
    have hs1 : (w4.alloc (.cells #[.int .i64 k4, .slice oe4 es4.length ce4, .slice on4 ns4.length cn4] 26)).heap.size = w4.heap.size + 1 := by simp
    have ho1 := heap_alloc_at w4 (.cells #[.int .i64 k4, .slice oe4 es4.length ce4, .slice on4 ns4.length cn4] 26)
    have hG2 : Below (w4.alloc (.cells #[.int .i64 k4, .slice oe4 es4.length ce4, .slice on4 ns4.length cn4] 26)).heap.size _ ((w4.alloc (.cells #[.int .i64 k4, .slice oe4 es4.length ce4, .slice on4 ns4.length cn4] 26)).alloc (.cells #[.int .i64 ek, .int .i64 at', .string ⟨#[]⟩] 33)) := (Below.refl _ _).alloc (Nat.le_refl _) _
    have ho2 := heap_alloc_at (w4.alloc (.cells #[.int .i64 k4, .slice oe4 es4.length ce4, .slice on4 ns4.length cn4] 26)) (.cells #[.int .i64 ek, .int .i64 at', .string ⟨#[]⟩] 33)
    have ho3 := (hG2.block w4.heap.size (by rw [hs1]; omega)).trans ho1
    rw [hs1] at ho2
    have hG := hG1.trans (hG2.mono hG1.size)
    clear hG1 hs1 ho1 hG2
    generalize (w4.alloc (.cells #[.int .i64 k4, .slice oe4 es4.length ce4, .slice on4 ns4.length cn4] 26)).alloc (.cells #[.int .i64 ek, .int .i64 at', .string ⟨#[]⟩] 33) = w6 at *
    have HI6 := hid (HI4.out.later hG)
    have HU6 := hid (HU.out.bel hG)
    have v0 := (cells_in ho2 0).trans rfl
    clear hG HI4 HU
    have hk0 : ek ≠ 0 := by omega
    have d1 : decide (ek = 0) = false := decide_eq_false hk0
    have d2 : (ek == 0) = false := beq_eq_false_iff_ne.2 hk0
    have d3 : (ek != 0) = true := by rw [bne, d2]; rfl
    clear hk0 hk
    go_wp2_with fail
    have v1 := (cells_in ho2 1).trans rfl
    have v2 := (cells_in ho2 2).trans rfl
    refine wp_region_steady (fun v => v.cell? ⟨w4.heap.size + 1, 0, none⟩ = some (.int .i64 ek) ∧ v.cell? ⟨w4.heap.size + 1, 1, none⟩ = some (.int .i64 at') ∧ v.cell? ⟨w4.heap.size + 1, 2, none⟩ = some (.string ⟨#[]⟩)) (by kernel_rfl) (by kernel_rfl) (⟨v0, v1, v2⟩) ?_
    repeat (first
      | (refine wpSteady_skip (by rfl) ?_; try simp only [Act.put, List.setIfInBounds_toArray, List.set_cons_zero, List.set_cons_succ])
      | (refine wpSteady_calm (v := ?_) (by rfl) ?_ ?_; rotate_left; (focus (intro v hSv; (try dsimp only at hSv); go_simp; (try with_reducible rfl); done)); try simp only [Act.put, List.setIfInBounds_toArray, List.set_cons_zero, List.set_cons_succ]))
    have HIB := HI6.out.later (below_drew (Below.refl _ _))
    have XB : w6.drew.heap[w4.heap.size + 1]? = _ := ho2
    clear v0 v1 v2 ho2 ho3 HI6 HU6
    generalize w6.drew = wd at *
    have v0 := (cells_in XB 0).trans rfl
    have v1 := (cells_in XB 1).trans rfl
    have v2 := (cells_in XB 2).trans rfl
    have f0 := (cells_in HIB.z6 0).trans rfl
    have f1 := (cells_in HIB.z6 1).trans rfl
    have f2 := (cells_in HIB.z6 2).trans rfl
    have ff := frozen_in HIB.z6
    have g0 := (cells_in HIB.z8 0).trans rfl
    have g1 := (cells_in HIB.z8 1).trans rfl
    have g2 := (cells_in HIB.z8 2).trans rfl
    have gf := frozen_in HIB.z8
    refine wpSteady_loud rfl (by rfl) (fun K hK => ?_)
    go_simp
    have hc3 := chg_store3 wd w.heap.size (.int .i64 0) (.slice none 0 0) (.slice none 0 0)
    refine hK.out _ _ (⟨chg_cell hc3 (by omega) v0, chg_cell hc3 (by omega) v1, chg_cell hc3 (by omega) v2⟩) ?_
    clear hK K
    try simp only [Act.put, List.setIfInBounds_toArray, List.set_cons_zero, List.set_cons_succ]
    repeat (first
      | (refine wpSteady_skip (by rfl) ?_; try simp only [Act.put, List.setIfInBounds_toArray, List.set_cons_zero, List.set_cons_succ])
      | (refine wpSteady_calm (v := ?_) (by rfl) ?_ ?_; rotate_left; (focus (intro v hSv; (try dsimp only at hSv); go_simp; (try with_reducible rfl); done)); try simp only [Act.put, List.setIfInBounds_toArray, List.set_cons_zero, List.set_cons_succ]))
    refine wpSteady_loud rfl (by rfl) (fun K hK => ?_)
    go_simp
    have hc5 := chg_store3 (((wd.setCell ⟨w.heap.size, 0, none⟩ (.int .i64 0)).setCell ⟨w.heap.size, 1, none⟩ (.slice none 0 0)).setCell ⟨w.heap.size, 2, none⟩ (.slice none 0 0)) (w.heap.size + 1) (.int .i64 ek) (.int .i64 at') (.string ⟨#[]⟩)
    refine hK.out _ _ (⟨chg_cell hc5 (by omega) (chg_cell hc3 (by omega) v0), chg_cell hc5 (by omega) (chg_cell hc3 (by omega) v1), chg_cell hc5 (by omega) (chg_cell hc3 (by omega) v2)⟩) ?_
    clear hK K
    try simp only [Act.put, List.setIfInBounds_toArray, List.set_cons_zero, List.set_cons_succ]
    refine wpSteady_nil ?_
    clear v0 v1 v2 hc3 hc5
    go_wp2_with fail
    try simp only [Exit.inBlock, Exit.then]
    refine bodyPost_ret (v := .tuple #[.agg #[.int .i64 0, .slice none 0 0, .slice none 0 0], dg ek at']) (by simp [results, Tryd.results14, go_sem, f0, f1, f2, g0, g1, g2, dg]) rfl ?_
    have OUT := hid (HIB.out (u := .agg #[.int .i64 0, .slice none 0 0, .slice none 0 0]) (x := .int .i64 0) (y := .slice none 0 0) (z := .slice none 0 0) (a := .int .i64 ek) (b := .int .i64 at') (c := .string ⟨#[]⟩) (TV.any0 _ _))
    rw [HE.out]
    exact ⟨_, rfl, OUT.out.1, OUT.out.2⟩
  have p4b := ((readP_ok s 32 1 (by decide)) 0 (Nat.zero_le _) |>.1 _ _ a1).2.2.1
  have A1 := hid a1
  clear a1
  try simp only [dg]
  go_upto_region 4 with (fail)
  have hG1 : Below w4.heap.size w4 (w4.alloc (.cells #[.int .i64 k4, .slice oe4 es4.length ce4, .slice on4 ns4.length cn4] 26)) := (Below.refl _ _).alloc (Nat.le_refl _) _
  have hs1 : (w4.alloc (.cells #[.int .i64 k4, .slice oe4 es4.length ce4, .slice on4 ns4.length cn4] 26)).heap.size = w4.heap.size + 1 := by simp
  have ho1 := heap_alloc_at w4 (.cells #[.int .i64 k4, .slice oe4 es4.length ce4, .slice on4 ns4.length cn4] 26)
  have hG2 : Below (w4.alloc (.cells #[.int .i64 k4, .slice oe4 es4.length ce4, .slice on4 ns4.length cn4] 26)).heap.size _ ((w4.alloc (.cells #[.int .i64 k4, .slice oe4 es4.length ce4, .slice on4 ns4.length cn4] 26)).alloc (.cells #[.int .i64 0, .int .i64 0, .string ⟨#[]⟩] 33)) := (Below.refl _ _).alloc (Nat.le_refl _) _
  have ho2 := heap_alloc_at (w4.alloc (.cells #[.int .i64 k4, .slice oe4 es4.length ce4, .slice on4 ns4.length cn4] 26)) (.cells #[.int .i64 0, .int .i64 0, .string ⟨#[]⟩] 33)
  have ho3 := (hG2.block w4.heap.size (by rw [hs1]; omega)).trans ho1
  rw [hs1] at ho2
  have hG := hG1.trans (hG2.mono hG1.size)
  clear hG1 hs1 ho1 hG2
  generalize (w4.alloc (.cells #[.int .i64 k4, .slice oe4 es4.length ce4, .slice on4 ns4.length cn4] 26)).alloc (.cells #[.int .i64 0, .int .i64 0, .string ⟨#[]⟩] 33) = w6 at *
  have HI6 := hid (HI4.out.later hG)
  have HU6 := hid (HU.out.bel hG)
  have v0 := (cells_in ho2 0).trans rfl
  clear hG HI4 HU
  have HSK := hid (rskip_any s p4 w6 p4b (by omega))
  obtain ⟨j, hj⟩ : ∃ j, skipN s p4 = j := ⟨_, rfl⟩
  have hge := skipN_ge p4b
  rw [hj] at HSK hge
  have HJ := hid hj
  have hj0 : (0 : Int) ≤ (j : Int) := by omega
  clear hj
  go_wp2_with fail
  refine HSK.out.mono ?_
  rintro e w2' ⟨rfl, rfl⟩
  clear v0
  by_cases hjl : j < s.size
  · have HE := hid (parseV_3 HLT.out A1.out (show readyP s p4 = .ok j by unfold readyP; rw [HJ.out, if_pos hjl]))
    have c2 : decide ((j : Int) < (s.size : Int)) = true := decide_eq_true (by omega)
    go_wp2_with fail
    refine (bad_any 2 j _).mono ?_
    rintro e wc ⟨rfl, hb⟩
    have HIB := HI6.out.later hb
    clear hb
    have f0 := (cells_in HIB.z6 0).trans rfl
    have f1 := (cells_in HIB.z6 1).trans rfl
    have f2 := (cells_in HIB.z6 2).trans rfl
    have ff := frozen_in HIB.z6
    have g0 := (cells_in HIB.z8 0).trans rfl
    have g1 := (cells_in HIB.z8 1).trans rfl
    have g2 := (cells_in HIB.z8 2).trans rfl
    have gf := frozen_in HIB.z8
    go_wp2_with fail
    try simp only [Exit.inBlock, Exit.then]
    refine bodyPost_ret (v := .tuple #[.agg #[.int .i64 0, .slice none 0 0, .slice none 0 0], dg 2 j]) (by simp [results, Tryd.results14, go_sem, f0, f1, f2, g0, g1, g2, dg]) rfl ?_
    have OUT := hid (HIB.out (u := .agg #[.int .i64 0, .slice none 0 0, .slice none 0 0]) (x := .int .i64 0) (y := .slice none 0 0) (z := .slice none 0 0) (a := .int .i64 2) (b := .int .i64 j) (c := .string ⟨#[]⟩) (TV.any0 _ _))
    rw [HE.out]
    exact ⟨_, rfl, OUT.out.1, OUT.out.2⟩
  · have HE := hid (parseV_4 HLT.out A1.out (show readyP s p4 = .error (40, j) by unfold readyP; rw [HJ.out, if_neg hjl]))
    have c2 : decide ((j : Int) < (s.size : Int)) = false := decide_eq_false (by omega)
    have z0 := (cells_in ho3 0).trans rfl
    have z1 := (cells_in ho3 1).trans rfl
    have z2 := (cells_in ho3 2).trans rfl
    have HIB := HI6.out
    have f0 := (cells_in HIB.z6 0).trans rfl
    have f1 := (cells_in HIB.z6 1).trans rfl
    have f2 := (cells_in HIB.z6 2).trans rfl
    have ff := frozen_in HIB.z6
    have g0 := (cells_in HIB.z8 0).trans rfl
    have g1 := (cells_in HIB.z8 1).trans rfl
    have g2 := (cells_in HIB.z8 2).trans rfl
    have gf := frozen_in HIB.z8
    go_wp2_with fail
    try simp only [Exit.inBlock, Exit.then]
    refine bodyPost_ret (v := .tuple #[.agg #[.int .i64 k4, .slice oe4 es4.length ce4, .slice on4 ns4.length cn4], dg 0 0]) (by simp [results, Tryd.results14, go_sem, f0, f1, f2, g0, g1, g2, dg]) rfl ?_
    have OUT := hid (HIB.out (u := .agg #[.int .i64 k4, .slice oe4 es4.length ce4, .slice on4 ns4.length cn4]) (x := .int .i64 k4) (y := .slice oe4 es4.length ce4) (z := .slice on4 ns4.length cn4) (a := .int .i64 0) (b := .int .i64 0) (c := .string ⟨#[]⟩) HU6.out)
    rw [HE.out]
    exact ⟨_, rfl, OUT.out.1, OUT.out.2⟩
end Go.Proofs.YtfljnigbfacmjaaDoor
