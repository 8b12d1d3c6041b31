/- The statement TypesFits holds of the given program for every input. -/
import Derived.Test.YtfljnigbfacmjaaGreatDoorLawKit
import Derived.Test.YtfljnigbfacmjaaGreatDoorVChk
import Derived.Test.YtfljnigbfacmjaaGreatDoorROf
import Derived.Test.YtfljnigbfacmjaaGreatDoorOpenV
namespace Go.Proofs.YtfljnigbfacmjaaGreatDoor.typesFits
open Go Go.ChangeShapes Go.WideShapes Go.ChangeAt Go.RowKit Go.Proofs.YtfljnigbfacmjaaGreatDoor.Steady
set_option linter.unusedVariables false

theorem QV.ex {P : Nat → Prop} {w : World} {v : Value} {rs : List V5} (h : QV P w v rs) : QV (fun g => P g ∧ g < w.heap.size) w v rs := by
  refine ⟨h.1, ?_⟩
  rcases h.2 with h0 | ⟨g, o, c, hp, e, hc⟩
  · exact .inl h0
  · cases rs with
    | nil => exact .inl ⟨rfl, _, _, e⟩
    | cons x r => exact .inr ⟨g, o, c, ⟨hp, World.block_lt_of_cell? w _ (hc 0 x rfl).1⟩, e, hc⟩
/-- The blocks of a value that lies in memory are blocks of the memory. -/
theorem VV.ex {P : Nat → Prop} {w : World} {v : Value} {t : Vl} (h : VV P w v t) : VV (fun g => P g ∧ g < w.heap.size) w v t := by
  induction h with
  | mk k n s is ks vi vk rs hs hk hr hl he ih => exact .mk k n s is ks vi vk rs hs hk.ex (QV.ex hr) hl ih
set_option maxRecDepth 100000 in
set_option maxHeartbeats 4000000 in
theorem walk (w : World) (v1 : Value) (t1 : Vl) (h1 : VV (fun _ => True) w v1 t1) (v2 : Value) (t2 : Ty) (h2 : TV (fun _ => True) w v2 t2) : Calls Tryz.prog 3 #[v1, v2] w (Ret (.bool true) w) := by
  obtain ⟨k1, n1, s1, is1, ks1⟩ := t1
  obtain ⟨vi1, vk1, rfl, hI1, hK1, hss1⟩ := h1.out
  obtain ⟨oi1, ci1, rfl⟩ := hI1.len
  obtain ⟨ok1, ck1, rfl⟩ := hK1.len
  obtain ⟨k2, es2, ns2⟩ := t2
  obtain ⟨ve2, vn2, rfl, hE2, hN2⟩ := h2.out
  obtain ⟨oe2, ce2, rfl⟩ := hE2.len
  obtain ⟨on2, cn2, rfl⟩ := hN2.len
  obtain ⟨hB1, a0, a1, a2, a3, a4⟩ := box5 w (.int .i64 k1) (.int .i64 n1) (.string s1) (.slice oi1 is1.length ci1) (.slice ok1 ks1.length ck1) 26
  have hs1 : (w.alloc (.cells #[.int .i64 k1, .int .i64 n1, .string s1, .slice oi1 is1.length ci1, .slice ok1 ks1.length ck1] 26)).heap.size = w.heap.size + 1 := by simp
  generalize hW1 : w.alloc (.cells #[.int .i64 k1, .int .i64 n1, .string s1, .slice oi1 is1.length ci1, .slice ok1 ks1.length ck1] 26) = W1 at *
  obtain ⟨hB2, b0, b1, b2, -⟩ := box3 W1 (.int .i64 k2) (.slice oe2 es2.length ce2) (.slice on2 ns2.length cn2) 30
  rw [hs1] at b0 b1 b2
  generalize hW2 : W1.alloc (.cells #[.int .i64 k2, .slice oe2 es2.length ce2, .slice on2 ns2.length cn2] 30) = W2 at *
  replace a0 := bcell hB2 a0
  replace a1 := bcell hB2 a1
  replace a2 := bcell hB2 a2
  replace a3 := bcell hB2 a3
  replace a4 := bcell hB2 a4
  have hB := hB1.trans (hB2.mono hB1.size)
  have HV1 := hid (h1.bel hB)
  have HV2 := hid (h2.bel hB)
  have HB4 := hid hB
  have HW1 := hid hW1
  have HW2 := hid hW2
  have HVA := hid (value_any _ W2 _ _ HV1.out)
  clear h1 h2 hI1 hK1 hss1 hE2 hN2 hB1 hB2 hB hs1 hW1 hW2
  go_enter Tryz.func3, Tryz.ntmps3
  go_upto_region 1 with (fail)
  rw [HW1.out, HW2.out]
  go_wp2_with fail
  refine HVA.out.mono ?_
  rintro e w2 ⟨b, rfl, hvf, hb⟩
  replace a0 := bcell hb a0
  replace a1 := bcell hb a1
  replace a2 := bcell hb a2
  replace a3 := bcell hb a3
  replace a4 := bcell hb a4
  replace b0 := bcell hb b0
  replace b1 := bcell hb b1
  replace b2 := bcell hb b2
  replace HB4 := hid (HB4.out.trans (hb.mono HB4.out.size))
  replace HV1 := hid (HV1.out.bel hb)
  replace HV2 := hid (HV2.out.bel hb)
  clear hb HVA HW1 HW2
  cases b with
  | false =>
    clear a0 a1 a2 a3 a4 b0 b1 b2 hvf
    go_wp2_with fail
    refine (awake_any w2).mono ?_
    rintro e wz ⟨rfl, hb⟩
    have HBZ := hid (HB4.out.trans (hb.mono HB4.out.size))
    clear hb
    go_wp2_with fail
    go_ret
    exact ⟨rfl, HBZ.out⟩
  | true =>
    have HVF := hid (hvf rfl)
    clear hvf
    go_wp2_with fail
    have hb : Below w2.heap.size w2 (w2.alloc (.cells #[.int .i64 k2, .slice oe2 es2.length ce2, .slice on2 ns2.length cn2] 30)) := (Below.refl _ _).alloc (Nat.le_refl _) _
    have ho3 := heap_alloc_at w2 (.cells #[.int .i64 k2, .slice oe2 es2.length ce2, .slice on2 ns2.length cn2] 30)
    generalize w2.alloc (.cells #[.int .i64 k2, .slice oe2 es2.length ce2, .slice on2 ns2.length cn2] 30) = W3 at *
    replace a0 := bcell hb a0
    replace a1 := bcell hb a1
    replace a2 := bcell hb a2
    replace a3 := bcell hb a3
    replace a4 := bcell hb a4
    replace b0 := bcell hb b0
    replace b1 := bcell hb b1
    replace b2 := bcell hb b2
    replace HB4 := hid (HB4.out.trans (hb.mono HB4.out.size))
    replace HV1 := hid (HV1.out.bel hb)
    replace HV2 := hid (HV2.out.bel hb)
    have HVB := hid (valid_any _ W3 _ _ (one_type ho3 HV2.out))
    clear hb ho3
    cases hv : [Ty.mk k2 es2 ns2].all validB with
    | false =>
      rw [hv] at HVB
      clear hv
      refine HVB.out.mono ?_
      rintro e w3 ⟨rfl, hb⟩
      replace a0 := bcell hb a0
      replace a1 := bcell hb a1
      replace a2 := bcell hb a2
      replace a3 := bcell hb a3
      replace a4 := bcell hb a4
      replace b0 := bcell hb b0
      replace b1 := bcell hb b1
      replace b2 := bcell hb b2
      replace HB4 := hid (HB4.out.trans (hb.mono HB4.out.size))
      replace HV1 := hid (HV1.out.bel hb)
      replace HV2 := hid (HV2.out.bel hb)
      clear hb a0 a1 a2 a3 a4 b0 b1 b2
      go_wp2_with fail
      refine (awake_any w3).mono ?_
      rintro e wz ⟨rfl, hb⟩
      have HBZ := hid (HB4.out.trans (hb.mono HB4.out.size))
      clear hb
      go_wp2_with fail
      go_ret
      exact ⟨rfl, HBZ.out⟩
    | true =>
      rw [hv] at HVB
      have hv' : validB (.mk k2 es2 ns2) = true := by simpa using hv
      have HVD := hid (valid_facts hv')
      clear hv hv'
      refine HVB.out.mono ?_
      rintro e w3 ⟨rfl, hb⟩
      replace a0 := bcell hb a0
      replace a1 := bcell hb a1
      replace a2 := bcell hb a2
      replace a3 := bcell hb a3
      replace a4 := bcell hb a4
      replace b0 := bcell hb b0
      replace b1 := bcell hb b1
      replace b2 := bcell hb b2
      replace HB4 := hid (HB4.out.trans (hb.mono HB4.out.size))
      replace HV1 := hid (HV1.out.bel hb)
      replace HV2 := hid (HV2.out.bel hb)
      clear hb HVB
      obtain ⟨fb, hfb⟩ : ∃ fb, fitsT (.mk k1 n1 s1 is1 ks1) (.mk k2 es2 ns2) = fb := ⟨_, rfl⟩
      have HFB := hid hfb
      have hself : (fb == fb) = true := beq_self_eq_true _
      have hself2 : decide (fb = fb) = true := decide_eq_true rfl
      clear hfb
      go_upto_region 3 with (fail)
      have hb : Below w3.heap.size w3 w3.drew := below_drew (Below.refl _ _)
      replace HB4 := hid (HB4.out.trans (hb.mono HB4.out.size))
      replace HV1 := hid (HV1.out.bel hb)
      replace HV2 := hid (HV2.out.bel hb)
      clear hb
      have HF := hid (fits_any _ _ _ _ w3.drew _ _ HV1.out HV2.out)
      rw [HFB.out] at HF
      refine wp_region_steady (fun v => v.cell? ⟨w.heap.size, 0, none⟩ = some (.int .i64 k1) ∧ v.cell? ⟨w.heap.size, 1, none⟩ = some (.int .i64 n1) ∧ v.cell? ⟨w.heap.size, 2, none⟩ = some (.string s1) ∧ v.cell? ⟨w.heap.size, 3, none⟩ = some (.slice oi1 is1.length ci1) ∧ v.cell? ⟨w.heap.size, 4, none⟩ = some (.slice ok1 ks1.length ck1) ∧ v.cell? ⟨w.heap.size + 1, 0, none⟩ = some (.int .i64 k2) ∧ v.cell? ⟨w.heap.size + 1, 1, none⟩ = some (.slice oe2 es2.length ce2) ∧ v.cell? ⟨w.heap.size + 1, 2, none⟩ = some (.slice on2 ns2.length cn2)) (by kernel_rfl) (by kernel_rfl) (⟨a0, a1, a2, a3, a4, b0, b1, b2⟩) ?_
      repeat (first
        | (refine wpSteady_skip (by rfl) ?_; try simp only [Act.put, List.setIfInBounds_toArray, List.set_cons_zero, List.set_cons_succ])
        | (refine wpSteady_calm (v := ?_) (by rfl) ?_ ?_; rotate_left; (focus (intro v hSv; (try dsimp only at hSv); go_simp; (try with_reducible rfl); done)); try simp only [Act.put, List.setIfInBounds_toArray, List.set_cons_zero, List.set_cons_succ]))
      refine wpSteady_loud rfl (by rfl) (fun K hK => ?_)
      go_simp
      refine HF.out.mono ?_
      rintro e w4 ⟨rfl, hb⟩
      replace a0 := bcell (W := w3.drew) hb a0
      replace a1 := bcell (W := w3.drew) hb a1
      replace a2 := bcell (W := w3.drew) hb a2
      replace a3 := bcell (W := w3.drew) hb a3
      replace a4 := bcell (W := w3.drew) hb a4
      replace b0 := bcell (W := w3.drew) hb b0
      replace b1 := bcell (W := w3.drew) hb b1
      replace b2 := bcell (W := w3.drew) hb b2
      replace HB4 := hid (HB4.out.trans (hb.mono HB4.out.size))
      replace HV1 := hid (HV1.out.bel hb)
      replace HV2 := hid (HV2.out.bel hb)
      clear hb
      refine hK.out _ _ (⟨a0, a1, a2, a3, a4, b0, b1, b2⟩) ?_
      clear hK K
      try simp only [Act.put, List.setIfInBounds_toArray, List.set_cons_zero, List.set_cons_succ]
      repeat (first
        | (refine wpSteady_skip (by rfl) ?_; try simp only [Act.put, List.setIfInBounds_toArray, List.set_cons_zero, List.set_cons_succ])
        | (refine wpSteady_calm (v := ?_) (by rfl) ?_ ?_; rotate_left; (focus (intro v hSv; (try dsimp only at hSv); go_simp; (try with_reducible rfl); done)); try simp only [Act.put, List.setIfInBounds_toArray, List.set_cons_zero, List.set_cons_succ]))
      refine wpSteady_loud rfl (by rfl) (fun K hK => ?_)
      go_simp
      have HRF := hid (rfits_any _ HVF.out.1 _ 1 _ _ w4 _ _ HVD.out.2.2.1 HV1.out HV2.out)
      rw [HFB.out] at HRF
      refine HRF.out.mono ?_
      rintro e w5 ⟨rfl, hb⟩
      replace a0 := bcell (W := w4) hb a0
      replace a1 := bcell (W := w4) hb a1
      replace a2 := bcell (W := w4) hb a2
      replace a3 := bcell (W := w4) hb a3
      replace a4 := bcell (W := w4) hb a4
      replace b0 := bcell (W := w4) hb b0
      replace b1 := bcell (W := w4) hb b1
      replace b2 := bcell (W := w4) hb b2
      replace HB4 := hid (HB4.out.trans (hb.mono HB4.out.size))
      replace HV1 := hid (HV1.out.bel hb)
      replace HV2 := hid (HV2.out.bel hb)
      clear hb
      refine hK.out _ _ (⟨a0, a1, a2, a3, a4, b0, b1, b2⟩) ?_
      clear hK K
      try simp only [Act.put, List.setIfInBounds_toArray, List.set_cons_zero, List.set_cons_succ]
      repeat (first
        | (refine wpSteady_skip (by rfl) ?_; try simp only [Act.put, List.setIfInBounds_toArray, List.set_cons_zero, List.set_cons_succ])
        | (refine wpSteady_calm (v := ?_) (by rfl) ?_ ?_; rotate_left; (focus (intro v hSv; (try dsimp only at hSv); go_simp; (try with_reducible rfl); done)); try simp only [Act.put, List.setIfInBounds_toArray, List.set_cons_zero, List.set_cons_succ]))
      refine wpSteady_loud rfl (by rfl) (fun K hK => ?_)
      go_simp
      refine (ofV_any _ _ w5 _ HV1.out (by have := HVF.out.2.1; omega) (by have := HVF.out.2.2; omega)).mono ?_
      rintro e w6 ⟨u, rfl, hu, hb⟩
      have HU := hid hu
      clear hu
      replace a0 := bcell (W := w5) hb a0
      replace a1 := bcell (W := w5) hb a1
      replace a2 := bcell (W := w5) hb a2
      replace a3 := bcell (W := w5) hb a3
      replace a4 := bcell (W := w5) hb a4
      replace b0 := bcell (W := w5) hb b0
      replace b1 := bcell (W := w5) hb b1
      replace b2 := bcell (W := w5) hb b2
      replace HB4 := hid (HB4.out.trans (hb.mono HB4.out.size))
      replace HV1 := hid (HV1.out.bel hb)
      replace HV2 := hid (HV2.out.bel hb)
      clear hb
      refine hK.out _ _ (⟨a0, a1, a2, a3, a4, b0, b1, b2⟩) ?_
      clear hK K
      try simp only [Act.put, List.setIfInBounds_toArray, List.set_cons_zero, List.set_cons_succ]
      repeat (first
        | (refine wpSteady_skip (by rfl) ?_; try simp only [Act.put, List.setIfInBounds_toArray, List.set_cons_zero, List.set_cons_succ])
        | (refine wpSteady_calm (v := ?_) (by rfl) ?_ ?_; rotate_left; (focus (intro v hSv; (try dsimp only at hSv); go_simp; (try with_reducible rfl); done)); try simp only [Act.put, List.setIfInBounds_toArray, List.set_cons_zero, List.set_cons_succ]))
      refine wpSteady_loud rfl (by rfl) (fun K hK => ?_)
      go_simp
      refine (rofV_any _ _ w6 _ HVF.out.1 (VV.ex HV1.out) (fun g hg => hg.2) (by have := HVF.out.2.1; omega) (by have := HVF.out.2.2; omega)).mono ?_
      rintro e w7 ⟨u2, rfl, hu2, hb⟩
      have HU2 := hid hu2
      replace HU := hid (HU.out.bel hb)
      clear hu2
      replace a0 := bcell (W := w6) hb a0
      replace a1 := bcell (W := w6) hb a1
      replace a2 := bcell (W := w6) hb a2
      replace a3 := bcell (W := w6) hb a3
      replace a4 := bcell (W := w6) hb a4
      replace b0 := bcell (W := w6) hb b0
      replace b1 := bcell (W := w6) hb b1
      replace b2 := bcell (W := w6) hb b2
      replace HB4 := hid (HB4.out.trans (hb.mono HB4.out.size))
      replace HV1 := hid (HV1.out.bel hb)
      replace HV2 := hid (HV2.out.bel hb)
      clear hb
      refine hK.out _ _ (⟨a0, a1, a2, a3, a4, b0, b1, b2⟩) ?_
      clear hK K
      try simp only [Act.put, List.setIfInBounds_toArray, List.set_cons_zero, List.set_cons_succ]
      repeat (first
        | (refine wpSteady_skip (by rfl) ?_; try simp only [Act.put, List.setIfInBounds_toArray, List.set_cons_zero, List.set_cons_succ])
        | (refine wpSteady_calm (v := ?_) (by rfl) ?_ ?_; rotate_left; (focus (intro v hSv; (try dsimp only at hSv); go_simp; (try with_reducible rfl); done)); try simp only [Act.put, List.setIfInBounds_toArray, List.set_cons_zero, List.set_cons_succ]))
      refine wpSteady_loud rfl (by rfl) (fun K hK => ?_)
      go_simp
      have HQ := hid (requal_any _ _ _ _ w7 _ _ HU.out HU2.out)
      rw [(eqT_iff (ofT (.mk k1 n1 s1 is1 ks1) 1) (ofT (.mk k1 n1 s1 is1 ks1) 1)).2 rfl] at HQ
      refine HQ.out.mono ?_
      rintro e w8 ⟨rfl, hb⟩
      clear HU HU2 HQ
      replace a0 := bcell (W := w7) hb a0
      replace a1 := bcell (W := w7) hb a1
      replace a2 := bcell (W := w7) hb a2
      replace a3 := bcell (W := w7) hb a3
      replace a4 := bcell (W := w7) hb a4
      replace b0 := bcell (W := w7) hb b0
      replace b1 := bcell (W := w7) hb b1
      replace b2 := bcell (W := w7) hb b2
      replace HB4 := hid (HB4.out.trans (hb.mono HB4.out.size))
      replace HV1 := hid (HV1.out.bel hb)
      replace HV2 := hid (HV2.out.bel hb)
      clear hb
      refine hK.out _ _ (⟨a0, a1, a2, a3, a4, b0, b1, b2⟩) ?_
      clear hK K
      try simp only [Act.put, List.setIfInBounds_toArray, List.set_cons_zero, List.set_cons_succ]
      repeat (first
        | (refine wpSteady_skip (by rfl) ?_; try simp only [Act.put, List.setIfInBounds_toArray, List.set_cons_zero, List.set_cons_succ])
        | (refine wpSteady_calm (v := ?_) (by rfl) ?_ ?_; rotate_left; (focus (intro v hSv; (try dsimp only at hSv); go_simp; (try with_reducible rfl); done)); try simp only [Act.put, List.setIfInBounds_toArray, List.set_cons_zero, List.set_cons_succ]))
      refine wpSteady_loud rfl (by rfl) (fun K hK => ?_)
      go_simp
      refine (awake_any w8).mono ?_
      rintro e wz ⟨rfl, hb⟩
      replace a0 := bcell (W := w8) hb a0
      replace a1 := bcell (W := w8) hb a1
      replace a2 := bcell (W := w8) hb a2
      replace a3 := bcell (W := w8) hb a3
      replace a4 := bcell (W := w8) hb a4
      replace b0 := bcell (W := w8) hb b0
      replace b1 := bcell (W := w8) hb b1
      replace b2 := bcell (W := w8) hb b2
      replace HB4 := hid (HB4.out.trans (hb.mono HB4.out.size))
      replace HV1 := hid (HV1.out.bel hb)
      replace HV2 := hid (HV2.out.bel hb)
      clear hb
      refine hK.out _ _ (⟨a0, a1, a2, a3, a4, b0, b1, b2⟩) ?_
      clear hK K
      try simp only [Act.put, List.setIfInBounds_toArray, List.set_cons_zero, List.set_cons_succ]
      repeat (first
        | (refine wpSteady_skip (by rfl) ?_; try simp only [Act.put, List.setIfInBounds_toArray, List.set_cons_zero, List.set_cons_succ])
        | (refine wpSteady_calm (v := ?_) (by rfl) ?_ ?_; rotate_left; (focus (intro v hSv; (try dsimp only at hSv); go_simp; (try with_reducible rfl); done)); try simp only [Act.put, List.setIfInBounds_toArray, List.set_cons_zero, List.set_cons_succ]))
      refine wpSteady_nil ?_
      clear a0 a1 a2 a3 a4 b0 b1 b2
      go_wp2_with fail
      go_ret
      exact ⟨rfl, HB4.out⟩

theorem readable : ∀ t ∈ #[26, 30].toList, Tryz.prog.readableRec t = true ∧ t < Tryz.prog.types.size := by
  intro t ht
  have r0 : Tryz.prog.readableRec 26 = true ∧ 26 < Tryz.prog.types.size := ⟨by kernel_rfl, of_decide_eq_true (by kernel_rfl)⟩
  have r1 : Tryz.prog.readableRec 30 = true ∧ 30 < Tryz.prog.types.size := ⟨by kernel_rfl, of_decide_eq_true (by kernel_rfl)⟩
  have hm : t = 26 ∨ t = 30 := by simpa using ht
  rcases hm with rfl | rfl
  · exact r0
  · exact r1
set_option maxRecDepth 100000 in
theorem walkD {H : Type} (enc : TypeId × Value → H) (W : World) (base : Nat) (args : Array Value) (ds : List (DataW H)) (p : List MemPlace)
    (hval : ∀ (j : Nat) t v, #[26, 30][j]? = some t → args[j]? = some v → Value.okWide Tryz.prog W .any base t v)
    (hA : DataW.TrodAll enc Tryz.prog W 0 (fun _ => true) true #[26, 30].toList args.toList ds p)
    (hws : ∀ (j : Nat) t d, #[26, 30].toList[j]? = some t → ds[j]? = some d → ∀ n ∈ d.weights Tryz.prog t, n ≤ reachBytes) :
    (Calls Tryz.prog 3 args W fun e w' => e = .returned (.bool true) ∧ Below W.heap.size W w') ∧
    ((Rows.typesFitsSpec.fn H (ds ++ [])).results = [.lit (.bool true)] ∧ (Rows.typesFitsSpec.fn H (ds ++ [])).args = ds ∧ (Rows.typesFitsSpec.fn H (ds ++ [])).vars = []) := by
  obtain ⟨v0, vs0, d0, ds0, p0, q0, hargs, rfl, rfl, h0, r0⟩ := trodAll_cons hA
  obtain ⟨v1, vs1, d1, ds1, p1, q1, rfl, rfl, rfl, h1, r1⟩ := trodAll_cons r0
  obtain ⟨rfl, rfl, rfl⟩ := trodAll_nil r1
  obtain rfl : args = #[v0, v1] := by cases args; simp_all
  obtain ⟨t0, w0⟩ := open_value (hval 0 _ v0 rfl rfl) h0 (hws 0 _ _ rfl rfl)
  obtain ⟨t1, w1⟩ := open_arg (hval 1 _ v1 rfl rfl) h1 (hws 1 _ _ rfl rfl)
  exact ⟨walk W _ t0 w0 _ t1 w1, rfl, rfl, rfl⟩

set_option maxRecDepth 100000 in
theorem lifted (os : Os) (started : os.Started) (H : Type) (enc : TypeId × Value → H) :
    ReturnsInHanded {} Tryz.checked os 3 .any (fun w args => (Rows.typesFitsSpec.pre enc Tryz.prog Tryz.f3 [] false w args ∧ laidMetH Tryz.prog laidList w) ∧ sizedMet enc Tryz.prog Tryz.f3 (OpenSpec.ofChange Rows.typesFitsSpec) false w args)
      (Rows.typesFitsSpec.post enc Tryz.prog Tryz.f3 false true false false) := by
  refine returnsInHanded_of_change_and (C := Tryz.checked) (X := fun w _ => laidMetH Tryz.prog laidList w) (fun _ _ _ hh h => h.of_heap hh) own started (by kernel_rfl) Tryz.func3
    (ChangeSpec.witness_at (enc := enc) (C := Tryz.checked) (os := os) (X := fun w _ => laidMetH Tryz.prog laidList w) false (laidWorld os) #[.agg #[.int .i64 0, .int .i64 0, .string ⟨#[]⟩, .slice none 0 0, .slice none 0 0], .agg #[.int .i64 0, .slice none 0 0, .slice none 0 0]] 8 rfl (by kernel_rfl) (by kernel_rfl) (by kernel_rfl) (by kernel_rfl) (by kernel_rfl) (laidWorld_met os _)) ?_
  intro W base args ds gs before hval0 hW _ hsz _ _
  have hW' := hW
  obtain ⟨p, q, hA, hV, _, _, _⟩ := hW
  obtain ⟨rfl, rfl⟩ := trodVars_none hV
  rw [Tryz.params3] at hA hval0 hsz
  have hws : ∀ (j : Nat) t d, #[26, 30].toList[j]? = some t → ds[j]? = some d → ∀ n ∈ d.weights Tryz.prog t, n ≤ reachBytes := fun j t d h1 h2 n hn => by
    have hj1 := (List.getElem?_eq_some_iff.1 h1).1
    have hj2 := (List.getElem?_eq_some_iff.1 h2).1
    have := List.all_eq_true.1 hsz _ (DataW.weights_mem_each (j := j) (by rw [List.getElem?_append_left hj1]; exact h1) (by rw [List.getElem?_append_left hj2]; exact h2) n hn)
    simpa using this
  obtain ⟨hcall, hds⟩ := walkD enc W base args ds p hval0 hA hws
  exact hcall.mono fun e W' ⟨he, hb⟩ => ⟨_, he, law_post hW' rfl (by rw [Tryz.params3]; exact readable) rfl hds hb⟩

theorem over : Rows.TypesFitsSaid :=
  OpenClaim.holds_of_wide 3 Tryz.f3 rfl rfl rfl rfl rfl rfl rfl ⟨rfl, rfl, rfl, rfl, rfl⟩ rfl rfl rfl rfl rfl (by kernel_rfl) Tryz.func3 (by kernel_rfl)
    (of_decide_eq_true (by kernel_rfl)) (by unfold Func.isWrapper; first | (rw [if_pos (by decide +kernel)]; kernel_rfl) | (rw [if_neg (by decide +kernel)]; exact ⟨rfl, rfl⟩))
    (fun os started H enc _ => lifted os started H enc)

theorem proved : Rows.TypesFitsCardSaid :=
  Claim7.holds_tied_plain_at .later [] [.data, .pinned] true (true, Rows.typesFitsCard.stood.harness.2) false
    over (fun _ h => by cases h) (by kernel_rfl) (fun _ h => by cases h) typesFits_row_tie rfl ⟨rfl, rfl⟩ (by kernel_rfl) rfl
    (fun f fn hf hfn => by
      obtain rfl : f = 3 := Option.some.inj ((show Tryz.prog.funcNamed "provision/provisionlaw10.TypesFits" = some 3 by kernel_rfl).symm.trans hf) |>.symm
      obtain rfl : fn = Tryz.f3 := (Option.some.inj (Tryz.func3.symm.trans hfn)).symm
      exact ⟨by kernel_rfl, fun j t ht => by
        have hall : ∀ t ∈ Tryz.f3.params.toList, Tryz.prog.wantsStandIn t = false := by
          rw [Tryz.params3]
          intro t ht
          have hm : t = 26 ∨ t = 30 := by simpa using ht
          have s0 : Tryz.prog.wantsStandIn 26 = false := by kernel_rfl
          have s1 : Tryz.prog.wantsStandIn 30 = false := by kernel_rfl
          rcases hm with rfl | rfl
          · exact s0
          · exact s1
        exact hall t (List.mem_of_getElem? (by rw [Array.getElem?_toList]; exact ht))⟩)
    (by kernel_rfl)
#print axioms proved
end Go.Proofs.YtfljnigbfacmjaaGreatDoor.typesFits
