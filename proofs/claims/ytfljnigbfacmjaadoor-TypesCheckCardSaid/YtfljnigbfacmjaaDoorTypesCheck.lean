/- The statement TypesCheck holds of the given program for every input. -/
import Derived.Test.YtfljnigbfacmjaaDoorAwake
import Derived.Test.YtfljnigbfacmjaaDoorFrame
namespace Go.Proofs.YtfljnigbfacmjaaDoor.typesCheck
open Go Go.ChangeShapes Go.WideShapes Go.ChangeAt Go.RowKit Go.Proofs.YtfljnigbfacmjaaDoor.Steady
set_option linter.unusedVariables false

set_option maxRecDepth 100000 in
set_option maxHeartbeats 4000000 in
theorem walk (w : World) (v : Value) (t : Ty) (hv : TV (fun _ => True) w v t) : Calls Tryd.prog 3 #[v] w (Ret (.bool true) w) := by
  obtain ⟨k, es, ns⟩ := t
  obtain ⟨ve, vn, rfl, hE, hN⟩ := hv.out
  obtain ⟨oe, ce, rfl⟩ := hE.len
  obtain ⟨on, cn, rfl⟩ := hN.len
  obtain ⟨hB, a0, a1, a2, -⟩ := box3 w (.int .i64 k) (.slice oe es.length ce) (.slice on ns.length cn) 26
  generalize hW : w.alloc (.cells #[.int .i64 k, .slice oe es.length ce, .slice on ns.length cn] 26) = W at *
  have HV := hid (hv.bel hB)
  have HB := hid hB
  have HW := hid hW
  have HS := hid (small_any _ W _ _ HV.out 200 (by decide) (by decide))
  clear hv hE hN hB hW
  cases hs : smallB (.mk k es ns) 200 with
  | false =>
    rw [hs] at HS
    clear hs
    go_enter Tryd.func3, Tryd.ntmps3
    go_wp2_with fail
    rw [HW.out]
    refine HS.out.mono ?_
    rintro e w2 ⟨rfl, hb⟩
    have HB2 := hid (HB.out.trans (hb.mono HB.out.size))
    clear hb a0 a1 a2
    go_wp2_with fail
    refine (awake_any w2).mono ?_
    rintro e w3 ⟨rfl, hb⟩
    have HB3 := hid (HB2.out.trans (hb.mono HB2.out.size))
    clear hb
    go_wp2_with fail
    go_ret
    exact ⟨rfl, HB3.out⟩
  | true =>
    rw [hs] at HS
    clear hs
    go_enter Tryd.func3, Tryd.ntmps3
    go_wp2_with fail
    rw [HW.out]
    refine HS.out.mono ?_
    rintro e w2 ⟨rfl, hb⟩
    have HB2 := hid (HB.out.trans (hb.mono HB.out.size))
    have HV2 := hid (HV.out.bel hb)
    have b0 := bcell hb a0
    have b1 := bcell hb a1
    have b2 := bcell hb a2
    clear hb a0 a1 a2
    go_wp2_with fail
    have HC1 := hid (ocheck_any _ w2.drew _ _ (HV2.out.bel (below_drew (Below.refl _ _))))
    refine wp_region_steady (fun v => v.cell? ⟨w.heap.size, 0, none⟩ = some (.int .i64 k) ∧ v.cell? ⟨w.heap.size, 1, none⟩ = some (.slice oe es.length ce) ∧ v.cell? ⟨w.heap.size, 2, none⟩ = some (.slice on ns.length cn)) (by kernel_rfl) (by kernel_rfl) (⟨b0, b1, b2⟩) ?_
    repeat (first
      | (refine wpSteady_skip (by rfl) ?_; try simp only [Act.put, List.setIfInBounds_toArray, List.set_cons_zero, List.set_cons_succ])
      | (refine wpSteady_calm (v := ?_) (by rfl) ?_ ?_; rotate_left; (focus (intro v hSv; (try dsimp only at hSv); go_simp; (try with_reducible rfl); done)); try simp only [Act.put, List.setIfInBounds_toArray, List.set_cons_zero, List.set_cons_succ]))
    refine wpSteady_loud rfl (by rfl) (fun K hK => ?_)
    go_simp
    refine HC1.out.mono ?_
    rintro e w3 ⟨rfl, hb⟩
    have HB3 := hid (HB2.out.trans ((show Below w2.heap.size w2 w3 from ⟨hb.os, hb.tape, hb.output, hb.size, hb.block⟩).mono HB2.out.size))
    have HC2 := hid (orcheck_any _ w3 _ _ ((HV2.out.bel (below_drew (Below.refl _ _))).bel hb))
    have c0 := bcell (W := w2.drew) hb b0
    have c1 := bcell (W := w2.drew) hb b1
    have c2 := bcell (W := w2.drew) hb b2
    clear hb b0 b1 b2
    refine hK.out _ _ (⟨c0, c1, c2⟩) ?_
    clear hK K
    try simp only [Act.put, List.setIfInBounds_toArray, List.set_cons_zero, List.set_cons_succ]
    repeat (first
      | (refine wpSteady_skip (by rfl) ?_; try simp only [Act.put, List.setIfInBounds_toArray, List.set_cons_zero, List.set_cons_succ])
      | (refine wpSteady_calm (v := ?_) (by rfl) ?_ ?_; rotate_left; (focus (intro v hSv; (try dsimp only at hSv); go_simp; (try with_reducible rfl); done)); try simp only [Act.put, List.setIfInBounds_toArray, List.set_cons_zero, List.set_cons_succ]))
    refine wpSteady_loud rfl (by rfl) (fun K hK => ?_)
    go_simp
    refine HC2.out.mono ?_
    rintro e w4 ⟨rfl, hb⟩
    have HB4 := hid (HB3.out.trans (hb.mono HB3.out.size))
    have b0 := bcell hb c0
    have b1 := bcell hb c1
    have b2 := bcell hb c2
    clear hb c0 c1 c2
    refine hK.out _ _ (⟨b0, b1, b2⟩) ?_
    clear hK K
    try simp only [Act.put, List.setIfInBounds_toArray, List.set_cons_zero, List.set_cons_succ]
    have hself : ((checkT (.mk k es ns) 1) == (checkT (.mk k es ns) 1)) = true := beq_self_eq_true _
    generalize checkT (.mk k es ns) 1 = r at *
    repeat (first
      | (refine wpSteady_skip (by rfl) ?_; try simp only [Act.put, List.setIfInBounds_toArray, List.set_cons_zero, List.set_cons_succ])
      | (refine wpSteady_calm (v := ?_) (by rfl) ?_ ?_; rotate_left; (focus (intro v hSv; (try dsimp only at hSv); go_simp; (try with_reducible rfl); done)); try simp only [Act.put, List.setIfInBounds_toArray, List.set_cons_zero, List.set_cons_succ]))
    refine wpSteady_loud rfl (by rfl) (fun K hK => ?_)
    go_simp
    refine (awake_any w4).mono ?_
    rintro e w5 ⟨rfl, hb⟩
    have HB5 := hid (HB4.out.trans (hb.mono HB4.out.size))
    have c0 := bcell hb b0
    have c1 := bcell hb b1
    have c2 := bcell hb b2
    clear hb
    refine hK.out _ _ (⟨c0, c1, c2⟩) ?_
    clear hK K
    try simp only [Act.put, List.setIfInBounds_toArray, List.set_cons_zero, List.set_cons_succ]
    repeat (first
      | (refine wpSteady_skip (by rfl) ?_; try simp only [Act.put, List.setIfInBounds_toArray, List.set_cons_zero, List.set_cons_succ])
      | (refine wpSteady_calm (v := ?_) (by rfl) ?_ ?_; rotate_left; (focus (intro v hSv; (try dsimp only at hSv); go_simp; (try with_reducible rfl); done)); try simp only [Act.put, List.setIfInBounds_toArray, List.set_cons_zero, List.set_cons_succ]))
    refine wpSteady_nil ?_
    go_wp2_with fail
    go_ret
    exact ⟨rfl, HB5.out⟩

theorem readable : ∀ t ∈ #[26].toList, Tryd.prog.readableRec t = true ∧ t < Tryd.prog.types.size := by
  intro t ht
  have r0 : Tryd.prog.readableRec 26 = true ∧ 26 < Tryd.prog.types.size := ⟨by kernel_rfl, of_decide_eq_true (by kernel_rfl)⟩
  have hm : t = 26 := by simpa using ht
  rcases hm with rfl <;> assumption
set_option maxRecDepth 100000 in
theorem walkD {H : Type} (enc : TypeId × Value → H) (W : World) (base : Nat) (args : Array Value) (ds : List (DataW H)) (p : List MemPlace)
    (hval : ∀ (j : Nat) t v, #[26][j]? = some t → args[j]? = some v → Value.okWide Tryd.prog W .any base t v)
    (hA : DataW.TrodAll enc Tryd.prog W 0 (fun _ => true) true #[26].toList args.toList ds p)
    (hws : ∀ (j : Nat) t d, #[26].toList[j]? = some t → ds[j]? = some d → ∀ n ∈ d.weights Tryd.prog t, n ≤ reachBytes) :
    (Calls Tryd.prog 3 args W fun e w' => e = .returned (.bool true) ∧ Below W.heap.size W w') ∧
    ((Rows.typesCheckSpec.fn H (ds ++ [])).results = [.lit (.bool true)] ∧ (Rows.typesCheckSpec.fn H (ds ++ [])).args = ds ∧ (Rows.typesCheckSpec.fn H (ds ++ [])).vars = []) := by
  obtain ⟨v0, vs0, d0, ds0, p0, q0, hargs, rfl, rfl, h0, r0⟩ := trodAll_cons hA
  obtain ⟨rfl, rfl, rfl⟩ := trodAll_nil r0
  obtain rfl : args = #[v0] := by cases args; simp_all
  obtain ⟨t0, w0⟩ := open_arg (hval 0 _ v0 rfl rfl) h0 (hws 0 _ _ rfl rfl)
  exact ⟨walk W _ t0 w0, rfl, rfl, rfl⟩

set_option maxRecDepth 100000 in
theorem lifted (os : Os) (started : os.Started) (H : Type) (enc : TypeId × Value → H) :
    ReturnsInHanded {} Tryd.checked os 3 .any (fun w args => (Rows.typesCheckSpec.pre enc Tryd.prog Tryd.f3 [] false w args ∧ laidMetH Tryd.prog laidList w) ∧ sizedMet enc Tryd.prog Tryd.f3 (OpenSpec.ofChange Rows.typesCheckSpec) false w args)
      (Rows.typesCheckSpec.post enc Tryd.prog Tryd.f3 false true false false) := by
  refine returnsInHanded_of_change_and (C := Tryd.checked) (X := fun w _ => laidMetH Tryd.prog laidList w) (fun _ _ _ hh h => h.of_heap hh) own started (by kernel_rfl) Tryd.func3
    (ChangeSpec.witness_at (enc := enc) (C := Tryd.checked) (os := os) (X := fun w _ => laidMetH Tryd.prog laidList w) false (laidWorld os) #[.agg #[.int .i64 0, .slice none 0 0, .slice none 0 0]] 8 rfl (by kernel_rfl) (by kernel_rfl) (by kernel_rfl) (by kernel_rfl) (by kernel_rfl) (laidWorld_met os _)) ?_
  intro W base args ds gs before hval0 hW _ hsz _ _
  have hW' := hW
  obtain ⟨p, q, hA, hV, _, _, _⟩ := hW
  obtain ⟨rfl, rfl⟩ := trodVars_none hV
  rw [Tryd.params3] at hA hval0 hsz
  have hws : ∀ (j : Nat) t d, #[26].toList[j]? = some t → ds[j]? = some d → ∀ n ∈ d.weights Tryd.prog t, n ≤ reachBytes := fun j t d h1 h2 n hn => by
    have hj1 := (List.getElem?_eq_some_iff.1 h1).1
    have hj2 := (List.getElem?_eq_some_iff.1 h2).1
    have := List.all_eq_true.1 hsz _ (DataW.weights_mem_each (j := j) (by rw [List.getElem?_append_left hj1]; exact h1) (by rw [List.getElem?_append_left hj2]; exact h2) n hn)
    simpa using this
  obtain ⟨hcall, hds⟩ := walkD enc W base args ds p hval0 hA hws
  exact hcall.mono fun e W' ⟨he, hb⟩ => ⟨_, he, law_post hW' rfl (by rw [Tryd.params3]; exact readable) rfl hds hb⟩

theorem over : Rows.TypesCheckSaid :=
  OpenClaim.holds_of_wide 3 Tryd.f3 rfl rfl rfl rfl rfl rfl rfl ⟨rfl, rfl, rfl, rfl, rfl⟩ rfl rfl rfl rfl rfl (by kernel_rfl) Tryd.func3 (by kernel_rfl)
    (of_decide_eq_true (by kernel_rfl)) (by unfold Func.isWrapper; first | (rw [if_pos (by decide +kernel)]; kernel_rfl) | (rw [if_neg (by decide +kernel)]; exact ⟨rfl, rfl⟩))
    (fun os started H enc _ => lifted os started H enc)

theorem proved : Rows.TypesCheckCardSaid :=
  Claim7.holds_tied_plain_at .later [] [.data, .pinned] true (true, Rows.typesCheckCard.stood.harness.2) false
    over (fun _ h => by cases h) (by kernel_rfl) (fun _ h => by cases h) typesCheck_row_tie rfl ⟨rfl, rfl⟩ (by kernel_rfl) rfl
    (fun f fn hf hfn => by
      obtain rfl : f = 3 := Option.some.inj ((show Tryd.prog.funcNamed "provision/provisionlaw10.TypesCheck" = some 3 by kernel_rfl).symm.trans hf) |>.symm
      obtain rfl : fn = Tryd.f3 := (Option.some.inj (Tryd.func3.symm.trans hfn)).symm
      exact ⟨by kernel_rfl, fun j t ht => by
        have hall : ∀ t ∈ Tryd.f3.params.toList, Tryd.prog.wantsStandIn t = false := by
          rw [Tryd.params3]
          intro t ht
          have hm : t = 26 := by simpa using ht
          have s0 : Tryd.prog.wantsStandIn 26 = false := by kernel_rfl
          rcases hm with rfl <;> assumption
        exact hall t (List.mem_of_getElem? (by rw [Array.getElem?_toList]; exact ht))⟩)
    (by kernel_rfl)
#print axioms proved
end Go.Proofs.YtfljnigbfacmjaaDoor.typesCheck
