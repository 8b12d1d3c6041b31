/- The statement TypesTexts holds of the given program for every input. -/
import Derived.Test.YtfljnigbfacmjaaDoorLawKit
import Derived.Test.YtfljnigbfacmjaaDoorRFmt
namespace Go.Proofs.YtfljnigbfacmjaaDoor.typesTexts
open Go Go.ChangeShapes Go.WideShapes Go.ChangeAt Go.RowKit Go.Proofs.YtfljnigbfacmjaaDoor.Steady
set_option linter.unusedVariables false

set_option maxRecDepth 100000 in
set_option maxHeartbeats 4000000 in
theorem walk (w : World) (v1 : Value) (t1 : Ty) (h1 : TV (fun _ => True) w v1 t1) (v2 : Value) (t2 : Ty) (h2 : TV (fun _ => True) w v2 t2) : Calls Tryd.prog 6 #[v1, v2] w (Ret (.bool true) w) := by
  obtain ⟨k1, es1, ns1⟩ := t1
  obtain ⟨ve1, vn1, rfl, hE1, hN1⟩ := h1.out
  obtain ⟨oe1, ce1, rfl⟩ := hE1.len
  obtain ⟨on1, cn1, rfl⟩ := hN1.len
  obtain ⟨k2, es2, ns2⟩ := t2
  obtain ⟨ve2, vn2, rfl, hE2, hN2⟩ := h2.out
  obtain ⟨oe2, ce2, rfl⟩ := hE2.len
  obtain ⟨on2, cn2, rfl⟩ := hN2.len
  obtain ⟨hB1, a0, a1, a2, -⟩ := box3 w (.int .i64 k1) (.slice oe1 es1.length ce1) (.slice on1 ns1.length cn1) 26
  have hs1 : (w.alloc (.cells #[.int .i64 k1, .slice oe1 es1.length ce1, .slice on1 ns1.length cn1] 26)).heap.size = w.heap.size + 1 := by simp
  generalize hW1 : w.alloc (.cells #[.int .i64 k1, .slice oe1 es1.length ce1, .slice on1 ns1.length cn1] 26) = W1 at *
  obtain ⟨hB2, b0, b1, b2, -⟩ := box3 W1 (.int .i64 k2) (.slice oe2 es2.length ce2) (.slice on2 ns2.length cn2) 26
  rw [hs1] at b0 b1 b2
  have hs2 : (W1.alloc (.cells #[.int .i64 k2, .slice oe2 es2.length ce2, .slice on2 ns2.length cn2] 26)).heap.size = w.heap.size + 2 := by simp [hs1]
  generalize hW2 : W1.alloc (.cells #[.int .i64 k2, .slice oe2 es2.length ce2, .slice on2 ns2.length cn2] 26) = W2 at *
  replace a0 := bcell hB2 a0
  replace a1 := bcell hB2 a1
  replace a2 := bcell hB2 a2
  have hB := hB1.trans (hB2.mono hB1.size)
  have HV1 := hid (h1.bel hB)
  have HV2 := hid (h2.bel hB)
  have HB := hid hB
  have HW1 := hid hW1
  have HW2 := hid hW2
  have hB3 : Below W2.heap.size W2 (W2.alloc (.cells #[.int .i64 k1, .slice oe1 es1.length ce1, .slice on1 ns1.length cn1, .int .i64 k2, .slice oe2 es2.length ce2, .slice on2 ns2.length cn2] 26)) := (Below.refl _ _).alloc (Nat.le_refl _) _
  have ho3 := heap_alloc_at W2 (.cells #[.int .i64 k1, .slice oe1 es1.length ce1, .slice on1 ns1.length cn1, .int .i64 k2, .slice oe2 es2.length ce2, .slice on2 ns2.length cn2] 26)
  have HS2 := hid hs2
  generalize hW3 : W2.alloc (.cells #[.int .i64 k1, .slice oe1 es1.length ce1, .slice on1 ns1.length cn1, .int .i64 k2, .slice oe2 es2.length ce2, .slice on2 ns2.length cn2] 26) = W3 at *
  have HW3 := hid hW3
  have HL := hid (two_types ho3 (HV1.out.bel hB3) (HV2.out.bel hB3))
  have HVA := hid (valid_any _ W3 _ _ HL.out)
  have d0 := bcell hB3 a0
  have d1 := bcell hB3 a1
  have d2 := bcell hB3 a2
  have d3 := bcell hB3 b0
  have d4 := bcell hB3 b1
  have d5 := bcell hB3 b2
  have HB3 := hid (HB.out.trans (hB3.mono HB.out.size))
  have HV31 := hid (HV1.out.bel hB3)
  have HV32 := hid (HV2.out.bel hB3)
  clear h1 h2 hE1 hN1 hE2 hN2 hB1 hB2 hB hW1 hW2 hB3 ho3 hs1 hs2 hW3 HL HV1 HV2 HB
  cases hv : [Ty.mk k1 es1 ns1, Ty.mk k2 es2 ns2].all validB with
  | false =>
    rw [hv] at HVA
    clear hv
    go_enter Tryd.func6, Tryd.ntmps6
    go_upto_region 1 with (fail)
    rw [HW1.out, HW2.out]
    go_wp2_with fail
    rw [HW3.out]
    clear a0 a1 a2 b0 b1 b2
    refine HVA.out.mono ?_
    rintro e w2 ⟨rfl, hb⟩
    have HB4 := hid (HB3.out.trans (hb.mono HB3.out.size))
    clear hb d0 d1 d2 d3 d4 d5
    go_wp2_with fail
    refine (awake_any w2).mono ?_
    rintro e wz ⟨rfl, hb⟩
    have HBZ := hid (HB4.out.trans (hb.mono HB4.out.size))
    clear hb
    go_wp2_with fail
    go_ret
    exact ⟨rfl, HBZ.out⟩
  | true =>
    rw [hv] at HVA
    have hv' : validB (.mk k1 es1 ns1) = true ∧ validB (.mk k2 es2 ns2) = true := by simpa using hv
    obtain ⟨z1, z2, z3, z4⟩ := valid_facts hv'.1
    obtain ⟨s1, s2⟩ := fmt_sizes _ _ z3
    have hsz : sizeT (.mk k1 es1 ns1) ≤ 1000000 := by omega
    have hfs : (fmtT (.mk k1 es1 ns1)).size ≤ 140737488355328 := by omega
    have HCK := hid z3
    clear hv hv' z2 z3 z4 s1 s2 z1
    go_enter Tryd.func6, Tryd.ntmps6
    go_upto_region 1 with (fail)
    rw [HW1.out, HW2.out]
    go_wp2_with fail
    rw [HW3.out]
    clear a0 a1 a2 b0 b1 b2
    refine HVA.out.mono ?_
    rintro e w2 ⟨rfl, hb⟩
    have HB4 := hid (HB3.out.trans (hb.mono HB3.out.size))
    replace d0 := bcell hb d0
    replace d1 := bcell hb d1
    replace d2 := bcell hb d2
    replace d3 := bcell hb d3
    replace d4 := bcell hb d4
    replace d5 := bcell hb d5
    replace HV31 := hid (HV31.out.bel hb)
    replace HV32 := hid (HV32.out.bel hb)
    clear hb
    go_wp2_with fail
    have hd : Below w2.heap.size w2 w2.drew := below_drew (Below.refl _ _)
    replace HB4 := hid (HB4.out.trans (hd.mono HB4.out.size))
    replace HV31 := hid (HV31.out.bel hd)
    replace HV32 := hid (HV32.out.bel hd)
    clear hd
    refine wp_region_steady (fun v => v.cell? ⟨w.heap.size, 0, none⟩ = some (.int .i64 k1) ∧ v.cell? ⟨w.heap.size, 1, none⟩ = some (.slice oe1 es1.length ce1) ∧ v.cell? ⟨w.heap.size, 2, none⟩ = some (.slice on1 ns1.length cn1) ∧ v.cell? ⟨w.heap.size + 1, 0, none⟩ = some (.int .i64 k2) ∧ v.cell? ⟨w.heap.size + 1, 1, none⟩ = some (.slice oe2 es2.length ce2) ∧ v.cell? ⟨w.heap.size + 1, 2, none⟩ = some (.slice on2 ns2.length cn2)) (by kernel_rfl) (by kernel_rfl) (⟨d0, d1, d2, d3, d4, d5⟩) ?_
    repeat (first
      | (refine wpSteady_skip (by rfl) ?_; try simp only [Act.put, List.setIfInBounds_toArray, List.set_cons_zero, List.set_cons_succ])
      | (refine wpSteady_calm (v := ?_) (by rfl) ?_ ?_; rotate_left; (focus (intro v hSv; (try dsimp only at hSv); go_simp; (try with_reducible rfl); done)); try simp only [Act.put, List.setIfInBounds_toArray, List.set_cons_zero, List.set_cons_succ]))
    refine wpSteady_loud rfl (by rfl) (fun K hK => ?_)
    go_simp
    refine (fmt_any _ _ _ _ HV31.out hsz hfs).mono ?_
    rintro e w3 ⟨rfl, hb⟩
    replace d0 := bcell (W := w2.drew) hb d0
    replace d1 := bcell (W := w2.drew) hb d1
    replace d2 := bcell (W := w2.drew) hb d2
    replace d3 := bcell (W := w2.drew) hb d3
    replace d4 := bcell (W := w2.drew) hb d4
    replace d5 := bcell (W := w2.drew) hb d5
    replace HB4 := hid (HB4.out.trans (hb.mono HB4.out.size))
    replace HV31 := hid (HV31.out.bel hb)
    replace HV32 := hid (HV32.out.bel hb)
    clear hb
    refine hK.out _ _ (⟨d0, d1, d2, d3, d4, d5⟩) ?_
    clear hK K
    try simp only [Act.put, List.setIfInBounds_toArray, List.set_cons_zero, List.set_cons_succ]
    repeat (first
      | (refine wpSteady_skip (by rfl) ?_; try simp only [Act.put, List.setIfInBounds_toArray, List.set_cons_zero, List.set_cons_succ])
      | (refine wpSteady_calm (v := ?_) (by rfl) ?_ ?_; rotate_left; (focus (intro v hSv; (try dsimp only at hSv); go_simp; (try with_reducible rfl); done)); try simp only [Act.put, List.setIfInBounds_toArray, List.set_cons_zero, List.set_cons_succ]))
    refine wpSteady_loud rfl (by rfl) (fun K hK => ?_)
    go_simp
    refine (rfmt_any _ 1 _ w3 _ HV31.out HCK.out hsz hfs).mono ?_
    rintro e w4 ⟨rfl, hb⟩
    have hself : ((fmtT (.mk k1 es1 ns1)).toList == (fmtT (.mk k1 es1 ns1)).toList) = true := beq_self_eq_true _
    generalize fmtT (.mk k1 es1 ns1) = fs at *
    replace d0 := bcell (W := w3) hb d0
    replace d1 := bcell (W := w3) hb d1
    replace d2 := bcell (W := w3) hb d2
    replace d3 := bcell (W := w3) hb d3
    replace d4 := bcell (W := w3) hb d4
    replace d5 := bcell (W := w3) hb d5
    replace HB4 := hid (HB4.out.trans (hb.mono HB4.out.size))
    replace HV31 := hid (HV31.out.bel hb)
    replace HV32 := hid (HV32.out.bel hb)
    clear hb
    refine hK.out _ _ (⟨d0, d1, d2, d3, d4, d5⟩) ?_
    clear hK K
    try simp only [Act.put, List.setIfInBounds_toArray, List.set_cons_zero, List.set_cons_succ]
    repeat (first
      | (refine wpSteady_skip (by rfl) ?_; try simp only [Act.put, List.setIfInBounds_toArray, List.set_cons_zero, List.set_cons_succ])
      | (refine wpSteady_calm (v := ?_) (by rfl) ?_ ?_; rotate_left; (focus (intro v hSv; (try dsimp only at hSv); go_simp; (try with_reducible rfl); done)); try simp only [Act.put, List.setIfInBounds_toArray, List.set_cons_zero, List.set_cons_succ]))
    refine wpSteady_loud rfl (by rfl) (fun K hK => ?_)
    go_simp
    refine (equal_any _ _ _ _ w4 _ _ HV31.out HV32.out).mono ?_
    rintro e w5 ⟨rfl, hb⟩
    replace d0 := bcell (W := w4) hb d0
    replace d1 := bcell (W := w4) hb d1
    replace d2 := bcell (W := w4) hb d2
    replace d3 := bcell (W := w4) hb d3
    replace d4 := bcell (W := w4) hb d4
    replace d5 := bcell (W := w4) hb d5
    replace HB4 := hid (HB4.out.trans (hb.mono HB4.out.size))
    replace HV31 := hid (HV31.out.bel hb)
    replace HV32 := hid (HV32.out.bel hb)
    clear hb
    refine hK.out _ _ (⟨d0, d1, d2, d3, d4, d5⟩) ?_
    clear hK K
    try simp only [Act.put, List.setIfInBounds_toArray, List.set_cons_zero, List.set_cons_succ]
    repeat (first
      | (refine wpSteady_skip (by rfl) ?_; try simp only [Act.put, List.setIfInBounds_toArray, List.set_cons_zero, List.set_cons_succ])
      | (refine wpSteady_calm (v := ?_) (by rfl) ?_ ?_; rotate_left; (focus (intro v hSv; (try dsimp only at hSv); go_simp; (try with_reducible rfl); done)); try simp only [Act.put, List.setIfInBounds_toArray, List.set_cons_zero, List.set_cons_succ]))
    refine wpSteady_loud rfl (by rfl) (fun K hK => ?_)
    go_simp
    refine (requal_any _ _ _ _ w5 _ _ HV31.out HV32.out).mono ?_
    rintro e w6 ⟨rfl, hb⟩
    have hself2 : (eqT (.mk k1 es1 ns1) (.mk k2 es2 ns2) == eqT (.mk k1 es1 ns1) (.mk k2 es2 ns2)) = true := beq_self_eq_true _
    generalize eqT (.mk k1 es1 ns1) (.mk k2 es2 ns2) = b at *
    replace d0 := bcell (W := w5) hb d0
    replace d1 := bcell (W := w5) hb d1
    replace d2 := bcell (W := w5) hb d2
    replace d3 := bcell (W := w5) hb d3
    replace d4 := bcell (W := w5) hb d4
    replace d5 := bcell (W := w5) hb d5
    replace HB4 := hid (HB4.out.trans (hb.mono HB4.out.size))
    replace HV31 := hid (HV31.out.bel hb)
    replace HV32 := hid (HV32.out.bel hb)
    clear hb
    refine hK.out _ _ (⟨d0, d1, d2, d3, d4, d5⟩) ?_
    clear hK K
    try simp only [Act.put, List.setIfInBounds_toArray, List.set_cons_zero, List.set_cons_succ]
    repeat (first
      | (refine wpSteady_skip (by rfl) ?_; try simp only [Act.put, List.setIfInBounds_toArray, List.set_cons_zero, List.set_cons_succ])
      | (refine wpSteady_calm (v := ?_) (by rfl) ?_ ?_; rotate_left; (focus (intro v hSv; (try dsimp only at hSv); go_simp; (try with_reducible rfl); done)); try simp only [Act.put, List.setIfInBounds_toArray, List.set_cons_zero, List.set_cons_succ]))
    refine wpSteady_loud rfl (by rfl) (fun K hK => ?_)
    go_simp
    refine (awake_any w6).mono ?_
    rintro e w7 ⟨rfl, hb⟩
    replace d0 := bcell (W := w6) hb d0
    replace d1 := bcell (W := w6) hb d1
    replace d2 := bcell (W := w6) hb d2
    replace d3 := bcell (W := w6) hb d3
    replace d4 := bcell (W := w6) hb d4
    replace d5 := bcell (W := w6) hb d5
    replace HB4 := hid (HB4.out.trans (hb.mono HB4.out.size))
    replace HV31 := hid (HV31.out.bel hb)
    replace HV32 := hid (HV32.out.bel hb)
    clear hb
    refine hK.out _ _ (⟨d0, d1, d2, d3, d4, d5⟩) ?_
    clear hK K
    try simp only [Act.put, List.setIfInBounds_toArray, List.set_cons_zero, List.set_cons_succ]
    repeat (first
      | (refine wpSteady_skip (by rfl) ?_; try simp only [Act.put, List.setIfInBounds_toArray, List.set_cons_zero, List.set_cons_succ])
      | (refine wpSteady_calm (v := ?_) (by rfl) ?_ ?_; rotate_left; (focus (intro v hSv; (try dsimp only at hSv); go_simp; (try with_reducible rfl); done)); try simp only [Act.put, List.setIfInBounds_toArray, List.set_cons_zero, List.set_cons_succ]))
    refine wpSteady_nil ?_
    go_wp2_with fail
    go_ret
    exact ⟨rfl, HB4.out⟩

theorem readable : ∀ t ∈ #[26, 26].toList, Tryd.prog.readableRec t = true ∧ t < Tryd.prog.types.size := by
  intro t ht
  have r0 : Tryd.prog.readableRec 26 = true ∧ 26 < Tryd.prog.types.size := ⟨by kernel_rfl, of_decide_eq_true (by kernel_rfl)⟩
  have hm : t = 26 ∨ t = 26 := by simpa using ht
  rcases hm with rfl | rfl <;> assumption
set_option maxRecDepth 100000 in
theorem walkD {H : Type} (enc : TypeId × Value → H) (W : World) (base : Nat) (args : Array Value) (ds : List (DataW H)) (p : List MemPlace)
    (hval : ∀ (j : Nat) t v, #[26, 26][j]? = some t → args[j]? = some v → Value.okWide Tryd.prog W .any base t v)
    (hA : DataW.TrodAll enc Tryd.prog W 0 (fun _ => true) true #[26, 26].toList args.toList ds p)
    (hws : ∀ (j : Nat) t d, #[26, 26].toList[j]? = some t → ds[j]? = some d → ∀ n ∈ d.weights Tryd.prog t, n ≤ reachBytes) :
    (Calls Tryd.prog 6 args W fun e w' => e = .returned (.bool true) ∧ Below W.heap.size W w') ∧
    ((Rows.typesTextsSpec.fn H (ds ++ [])).results = [.lit (.bool true)] ∧ (Rows.typesTextsSpec.fn H (ds ++ [])).args = ds ∧ (Rows.typesTextsSpec.fn H (ds ++ [])).vars = []) := by
  obtain ⟨v0, vs0, d0, ds0, p0, q0, hargs, rfl, rfl, h0, r0⟩ := trodAll_cons hA
  obtain ⟨v1, vs1, d1, ds1, p1, q1, rfl, rfl, rfl, h1, r1⟩ := trodAll_cons r0
  obtain ⟨rfl, rfl, rfl⟩ := trodAll_nil r1
  obtain rfl : args = #[v0, v1] := by cases args; simp_all
  obtain ⟨t0, w0⟩ := open_arg (hval 0 _ v0 rfl rfl) h0 (hws 0 _ _ rfl rfl)
  obtain ⟨t1, w1⟩ := open_arg (hval 1 _ v1 rfl rfl) h1 (hws 1 _ _ rfl rfl)
  exact ⟨walk W _ t0 w0 _ t1 w1, rfl, rfl, rfl⟩

set_option maxRecDepth 100000 in
theorem lifted (os : Os) (started : os.Started) (H : Type) (enc : TypeId × Value → H) :
    ReturnsInHanded {} Tryd.checked os 6 .any (fun w args => (Rows.typesTextsSpec.pre enc Tryd.prog Tryd.f6 [] false w args ∧ laidMetH Tryd.prog laidList w) ∧ sizedMet enc Tryd.prog Tryd.f6 (OpenSpec.ofChange Rows.typesTextsSpec) false w args)
      (Rows.typesTextsSpec.post enc Tryd.prog Tryd.f6 false true false false) := by
  refine returnsInHanded_of_change_and (C := Tryd.checked) (X := fun w _ => laidMetH Tryd.prog laidList w) (fun _ _ _ hh h => h.of_heap hh) own started (by kernel_rfl) Tryd.func6
    (ChangeSpec.witness_at (enc := enc) (C := Tryd.checked) (os := os) (X := fun w _ => laidMetH Tryd.prog laidList w) false (laidWorld os) #[.agg #[.int .i64 0, .slice none 0 0, .slice none 0 0], .agg #[.int .i64 0, .slice none 0 0, .slice none 0 0]] 8 rfl (by kernel_rfl) (by kernel_rfl) (by kernel_rfl) (by kernel_rfl) (by kernel_rfl) (laidWorld_met os _)) ?_
  intro W base args ds gs before hval0 hW _ hsz _ _
  have hW' := hW
  obtain ⟨p, q, hA, hV, _, _, _⟩ := hW
  obtain ⟨rfl, rfl⟩ := trodVars_none hV
  rw [Tryd.params6] at hA hval0 hsz
  have hws : ∀ (j : Nat) t d, #[26, 26].toList[j]? = some t → ds[j]? = some d → ∀ n ∈ d.weights Tryd.prog t, n ≤ reachBytes := fun j t d h1 h2 n hn => by
    have hj1 := (List.getElem?_eq_some_iff.1 h1).1
    have hj2 := (List.getElem?_eq_some_iff.1 h2).1
    have := List.all_eq_true.1 hsz _ (DataW.weights_mem_each (j := j) (by rw [List.getElem?_append_left hj1]; exact h1) (by rw [List.getElem?_append_left hj2]; exact h2) n hn)
    simpa using this
  obtain ⟨hcall, hds⟩ := walkD enc W base args ds p hval0 hA hws
  exact hcall.mono fun e W' ⟨he, hb⟩ => ⟨_, he, law_post hW' rfl (by rw [Tryd.params6]; exact readable) rfl hds hb⟩

theorem over : Rows.TypesTextsSaid :=
  OpenClaim.holds_of_wide 6 Tryd.f6 rfl rfl rfl rfl rfl rfl rfl ⟨rfl, rfl, rfl, rfl, rfl⟩ rfl rfl rfl rfl rfl (by kernel_rfl) Tryd.func6 (by kernel_rfl)
    (of_decide_eq_true (by kernel_rfl)) (by unfold Func.isWrapper; first | (rw [if_pos (by decide +kernel)]; kernel_rfl) | (rw [if_neg (by decide +kernel)]; exact ⟨rfl, rfl⟩))
    (fun os started H enc _ => lifted os started H enc)

theorem proved : Rows.TypesTextsCardSaid :=
  Claim7.holds_tied_plain_at .later [] [.data, .pinned] true (true, Rows.typesTextsCard.stood.harness.2) false
    over (fun _ h => by cases h) (by kernel_rfl) (fun _ h => by cases h) typesTexts_row_tie rfl ⟨rfl, rfl⟩ (by kernel_rfl) rfl
    (fun f fn hf hfn => by
      obtain rfl : f = 6 := Option.some.inj ((show Tryd.prog.funcNamed "provision/provisionlaw10.TypesTexts" = some 6 by kernel_rfl).symm.trans hf) |>.symm
      obtain rfl : fn = Tryd.f6 := (Option.some.inj (Tryd.func6.symm.trans hfn)).symm
      exact ⟨by kernel_rfl, fun j t ht => by
        have hall : ∀ t ∈ Tryd.f6.params.toList, Tryd.prog.wantsStandIn t = false := by
          rw [Tryd.params6]
          intro t ht
          have hm : t = 26 ∨ t = 26 := by simpa using ht
          have s0 : Tryd.prog.wantsStandIn 26 = false := by kernel_rfl
          rcases hm with rfl | rfl <;> assumption
        exact hall t (List.mem_of_getElem? (by rw [Array.getElem?_toList]; exact ht))⟩)
    (by kernel_rfl)
#print axioms proved
end Go.Proofs.YtfljnigbfacmjaaDoor.typesTexts
