/- The statement TypesOf holds of the given program for every input. -/
import Derived.Test.YtfljnigbfacmjaaGreatDoorLawKit
import Derived.Test.YtfljnigbfacmjaaGreatDoorVChk
import Derived.Test.YtfljnigbfacmjaaGreatDoorFit
import Derived.Test.YtfljnigbfacmjaaGreatDoorOpenV
namespace Go.Proofs.YtfljnigbfacmjaaGreatDoor.typesOf
open Go Go.ChangeShapes Go.WideShapes Go.ChangeAt Go.RowKit Go.Proofs.YtfljnigbfacmjaaGreatDoor.Steady
set_option linter.unusedVariables false

set_option maxRecDepth 100000 in
set_option maxHeartbeats 4000000 in
theorem walk (w : World) (v1 : Value) (t1 : Vl) (h1 : VV (fun _ => True) w v1 t1) (v2 : Value) (t2 : Ty) (h2 : TV (fun _ => True) w v2 t2) : Calls Tryz.prog 4 #[v1, v2] w (Ret (.bool true) w) := by
  obtain ⟨k1, n1, s1, is1, ks1⟩ := t1
  obtain ⟨vi1, vk1, rfl, hI1, hK1, hss1⟩ := h1.out
  obtain ⟨oi1, ci1, rfl⟩ := hI1.len
  obtain ⟨ok1, ck1, rfl⟩ := hK1.len
  obtain ⟨k2, es2, ns2⟩ := t2
  obtain ⟨ve2, vn2, rfl, hE2, hN2⟩ := h2.out
  obtain ⟨oe2, ce2, rfl⟩ := hE2.len
  obtain ⟨on2, cn2, rfl⟩ := hN2.len
  obtain ⟨hB1, a0, a1, a2, a3, a4⟩ := box5 w (.int .i64 k1) (.int .i64 n1) (.string s1) (.slice oi1 is1.length ci1) (.slice ok1 ks1.length ck1) 26
  have hs1 : (w.alloc (.cells #[.int .i64 k1, .int .i64 n1, .string s1, .slice oi1 is1.length ci1, .slice ok1 ks1.length ck1] 26)).heap.size = w.heap.size + 1 := by simp
  generalize hW1 : w.alloc (.cells #[.int .i64 k1, .int .i64 n1, .string s1, .slice oi1 is1.length ci1, .slice ok1 ks1.length ck1] 26) = W1 at *
  obtain ⟨hB2, b0, b1, b2, -⟩ := box3 W1 (.int .i64 k2) (.slice oe2 es2.length ce2) (.slice on2 ns2.length cn2) 30
  rw [hs1] at b0 b1 b2
  generalize hW2 : W1.alloc (.cells #[.int .i64 k2, .slice oe2 es2.length ce2, .slice on2 ns2.length cn2] 30) = W2 at *
  replace a0 := bcell hB2 a0
  replace a1 := bcell hB2 a1
  replace a2 := bcell hB2 a2
  replace a3 := bcell hB2 a3
  replace a4 := bcell hB2 a4
  have hB := hB1.trans (hB2.mono hB1.size)
  have HV1 := hid (h1.bel hB)
  have HV2 := hid (h2.bel hB)
  have HB4 := hid hB
  have HW1 := hid hW1
  have HW2 := hid hW2
  have HVA := hid (value_any _ W2 _ _ HV1.out)
  clear h1 h2 hI1 hK1 hss1 hE2 hN2 hB1 hB2 hB hs1 hW1 hW2
  go_enter Tryz.func4, Tryz.ntmps4
  go_upto_region 1 with (fail)
  rw [HW1.out, HW2.out]
  go_wp2_with fail
  refine HVA.out.mono ?_
  rintro e w2 ⟨b, rfl, hvf, hb⟩
  replace a0 := bcell hb a0
  replace a1 := bcell hb a1
  replace a2 := bcell hb a2
  replace a3 := bcell hb a3
  replace a4 := bcell hb a4
  replace b0 := bcell hb b0
  replace b1 := bcell hb b1
  replace b2 := bcell hb b2
  replace HB4 := hid (HB4.out.trans (hb.mono HB4.out.size))
  replace HV1 := hid (HV1.out.bel hb)
  replace HV2 := hid (HV2.out.bel hb)
  clear hb HVA HW1 HW2
  cases b with
  | false =>
    clear a0 a1 a2 a3 a4 b0 b1 b2 hvf
    go_wp2_with fail
    refine (awake_any w2).mono ?_
    rintro e wz ⟨rfl, hb⟩
    have HBZ := hid (HB4.out.trans (hb.mono HB4.out.size))
    clear hb
    go_wp2_with fail
    go_ret
    exact ⟨rfl, HBZ.out⟩
  | true =>
    have HVF := hid (hvf rfl)
    clear hvf
    go_wp2_with fail
    have hb : Below w2.heap.size w2 (w2.alloc (.cells #[.int .i64 k2, .slice oe2 es2.length ce2, .slice on2 ns2.length cn2] 30)) := (Below.refl _ _).alloc (Nat.le_refl _) _
    have ho3 := heap_alloc_at w2 (.cells #[.int .i64 k2, .slice oe2 es2.length ce2, .slice on2 ns2.length cn2] 30)
    generalize w2.alloc (.cells #[.int .i64 k2, .slice oe2 es2.length ce2, .slice on2 ns2.length cn2] 30) = W3 at *
    replace a0 := bcell hb a0
    replace a1 := bcell hb a1
    replace a2 := bcell hb a2
    replace a3 := bcell hb a3
    replace a4 := bcell hb a4
    replace b0 := bcell hb b0
    replace b1 := bcell hb b1
    replace b2 := bcell hb b2
    replace HB4 := hid (HB4.out.trans (hb.mono HB4.out.size))
    replace HV1 := hid (HV1.out.bel hb)
    replace HV2 := hid (HV2.out.bel hb)
    have HVB := hid (valid_any _ W3 _ _ (one_type ho3 HV2.out))
    clear hb ho3
    cases hv : [Ty.mk k2 es2 ns2].all validB with
    | false =>
      rw [hv] at HVB
      clear hv
      refine HVB.out.mono ?_
      rintro e w3 ⟨rfl, hb⟩
      replace a0 := bcell hb a0
      replace a1 := bcell hb a1
      replace a2 := bcell hb a2
      replace a3 := bcell hb a3
      replace a4 := bcell hb a4
      replace b0 := bcell hb b0
      replace b1 := bcell hb b1
      replace b2 := bcell hb b2
      replace HB4 := hid (HB4.out.trans (hb.mono HB4.out.size))
      replace HV1 := hid (HV1.out.bel hb)
      replace HV2 := hid (HV2.out.bel hb)
      clear hb a0 a1 a2 a3 a4 b0 b1 b2
      go_wp2_with fail
      refine (awake_any w3).mono ?_
      rintro e wz ⟨rfl, hb⟩
      have HBZ := hid (HB4.out.trans (hb.mono HB4.out.size))
      clear hb
      go_wp2_with fail
      go_ret
      exact ⟨rfl, HBZ.out⟩
    | true =>
      rw [hv] at HVB
      have hv' : validB (.mk k2 es2 ns2) = true := by simpa using hv
      have HVD := hid (valid_facts hv')
      clear hv hv'
      refine HVB.out.mono ?_
      rintro e w3 ⟨rfl, hb⟩
      replace a0 := bcell hb a0
      replace a1 := bcell hb a1
      replace a2 := bcell hb a2
      replace a3 := bcell hb a3
      replace a4 := bcell hb a4
      replace b0 := bcell hb b0
      replace b1 := bcell hb b1
      replace b2 := bcell hb b2
      replace HB4 := hid (HB4.out.trans (hb.mono HB4.out.size))
      replace HV1 := hid (HV1.out.bel hb)
      replace HV2 := hid (HV2.out.bel hb)
      clear hb HVB
      have HOF := hid (ofV_any _ _ w3 _ HV1.out (by have := HVF.out.2.1; omega) (by have := HVF.out.2.2; omega))
      have HCK := hid (of_check _ HVF.out.1 1 (by decide))
      have HFI := hid (of_fits _ HVF.out.1 1)
      obtain ⟨tu, htu⟩ : ∃ tu, ofT (.mk k1 n1 s1 is1 ks1) 1 = tu := ⟨_, rfl⟩
      rw [htu] at HOF HCK HFI
      have HTU := hid htu
      clear htu
      go_wp2_with fail
      refine HOF.out.mono ?_
      rintro e w4 ⟨u, rfl, hu, hb⟩
      obtain ⟨ku, eu, nu⟩ := tu
      obtain ⟨veu, vnu, rfl, hEu, hNu⟩ := hu.out
      obtain ⟨oeu, ceu, rfl⟩ := hEu.len
      obtain ⟨onu, cnu, rfl⟩ := hNu.len
      have HU := hid hu
      replace a0 := bcell hb a0
      replace a1 := bcell hb a1
      replace a2 := bcell hb a2
      replace a3 := bcell hb a3
      replace a4 := bcell hb a4
      replace b0 := bcell hb b0
      replace b1 := bcell hb b1
      replace b2 := bcell hb b2
      replace HB4 := hid (HB4.out.trans (hb.mono HB4.out.size))
      replace HV1 := hid (HV1.out.bel hb)
      replace HV2 := hid (HV2.out.bel hb)
      clear hb hu hEu hNu HOF
      go_upto_region 4 with (fail)
      have hb : Below w4.heap.size w4 (w4.alloc (.cells #[.int .i64 ku, .slice oeu eu.length ceu, .slice onu nu.length cnu] 30)) := (Below.refl _ _).alloc (Nat.le_refl _) _
      have HXO := hid (heap_alloc_at w4 (.cells #[.int .i64 ku, .slice oeu eu.length ceu, .slice onu nu.length cnu] 30))
      generalize w4.alloc (.cells #[.int .i64 ku, .slice oeu eu.length ceu, .slice onu nu.length cnu] 30) = wa at *
      replace HU := hid (HU.out.bel hb)
      replace a0 := bcell hb a0
      replace a1 := bcell hb a1
      replace a2 := bcell hb a2
      replace a3 := bcell hb a3
      replace a4 := bcell hb a4
      replace b0 := bcell hb b0
      replace b1 := bcell hb b1
      replace b2 := bcell hb b2
      replace HB4 := hid (HB4.out.trans (hb.mono HB4.out.size))
      replace HV1 := hid (HV1.out.bel hb)
      replace HV2 := hid (HV2.out.bel hb)
      clear hb
      have u0 := (cells_in HXO.out 0).trans rfl
      have u1 := (cells_in HXO.out 1).trans rfl
      have u2 := (cells_in HXO.out 2).trans rfl
      have HC := hid (ocheck_any _ wa _ _ HU.out)
      rw [HCK.out] at HC
      go_wp2_with fail
      clear u0 u1 u2
      refine HC.out.mono ?_
      rintro e w5 ⟨rfl, hb⟩
      replace HXO := hid (keep_obj HXO.out hb)
      replace HU := hid (HU.out.bel hb)
      replace a0 := bcell hb a0
      replace a1 := bcell hb a1
      replace a2 := bcell hb a2
      replace a3 := bcell hb a3
      replace a4 := bcell hb a4
      replace b0 := bcell hb b0
      replace b1 := bcell hb b1
      replace b2 := bcell hb b2
      replace HB4 := hid (HB4.out.trans (hb.mono HB4.out.size))
      replace HV1 := hid (HV1.out.bel hb)
      replace HV2 := hid (HV2.out.bel hb)
      clear hb HC
      have u0 := (cells_in HXO.out 0).trans rfl
      have u1 := (cells_in HXO.out 1).trans rfl
      have u2 := (cells_in HXO.out 2).trans rfl
      have HF := hid (fits_any _ _ _ _ w5 _ _ HV1.out HU.out)
      rw [HFI.out] at HF
      go_wp2_with fail
      clear u0 u1 u2
      refine HF.out.mono ?_
      rintro e w6 ⟨rfl, hb⟩
      replace HXO := hid (keep_obj HXO.out hb)
      replace HU := hid (HU.out.bel hb)
      replace a0 := bcell hb a0
      replace a1 := bcell hb a1
      replace a2 := bcell hb a2
      replace a3 := bcell hb a3
      replace a4 := bcell hb a4
      replace b0 := bcell hb b0
      replace b1 := bcell hb b1
      replace b2 := bcell hb b2
      replace HB4 := hid (HB4.out.trans (hb.mono HB4.out.size))
      replace HV1 := hid (HV1.out.bel hb)
      replace HV2 := hid (HV2.out.bel hb)
      clear hb HF
      have u0 := (cells_in HXO.out 0).trans rfl
      have u1 := (cells_in HXO.out 1).trans rfl
      have u2 := (cells_in HXO.out 2).trans rfl
      have HIN := hid (incl_any _ _ _ _ w6 _ _ HV2.out HU.out)
      cases hin : inclT (.mk k2 es2 ns2) (.mk ku eu nu) with
      | false =>
        rw [hin] at HIN
        clear hin
        go_wp2_with fail
        clear u0 u1 u2
        refine HIN.out.mono ?_
        rintro e w7 ⟨rfl, hb⟩
        replace HXO := hid (keep_obj HXO.out hb)
        replace HU := hid (HU.out.bel hb)
        replace a0 := bcell hb a0
        replace a1 := bcell hb a1
        replace a2 := bcell hb a2
        replace a3 := bcell hb a3
        replace a4 := bcell hb a4
        replace b0 := bcell hb b0
        replace b1 := bcell hb b1
        replace b2 := bcell hb b2
        replace HB4 := hid (HB4.out.trans (hb.mono HB4.out.size))
        replace HV1 := hid (HV1.out.bel hb)
        replace HV2 := hid (HV2.out.bel hb)
        clear hb HIN a0 a1 a2 a3 a4 b0 b1 b2
        go_wp2_with fail
        refine (awake_any w7).mono ?_
        rintro e wz ⟨rfl, hb⟩
        have HBZ := hid (HB4.out.trans (hb.mono HB4.out.size))
        clear hb
        go_wp2_with fail
        go_ret
        exact ⟨rfl, HBZ.out⟩
      | true =>
        have HMO := hid (fits_mono (.mk k1 n1 s1 is1 ks1) _ _ hin HFI.out)
        rw [hin] at HIN
        clear hin
        go_wp2_with fail
        clear u0 u1 u2
        refine HIN.out.mono ?_
        rintro e w7 ⟨rfl, hb⟩
        replace HXO := hid (keep_obj HXO.out hb)
        replace HU := hid (HU.out.bel hb)
        replace a0 := bcell hb a0
        replace a1 := bcell hb a1
        replace a2 := bcell hb a2
        replace a3 := bcell hb a3
        replace a4 := bcell hb a4
        replace b0 := bcell hb b0
        replace b1 := bcell hb b1
        replace b2 := bcell hb b2
        replace HB4 := hid (HB4.out.trans (hb.mono HB4.out.size))
        replace HV1 := hid (HV1.out.bel hb)
        replace HV2 := hid (HV2.out.bel hb)
        clear hb HIN
        have HF := hid (fits_any _ _ _ _ w7 _ _ HV1.out HV2.out)
        rw [HMO.out] at HF
        go_wp2_with fail
        refine HF.out.mono ?_
        rintro e w8 ⟨rfl, hb⟩
        replace a0 := bcell hb a0
        replace a1 := bcell hb a1
        replace a2 := bcell hb a2
        replace a3 := bcell hb a3
        replace a4 := bcell hb a4
        replace b0 := bcell hb b0
        replace b1 := bcell hb b1
        replace b2 := bcell hb b2
        replace HB4 := hid (HB4.out.trans (hb.mono HB4.out.size))
        replace HV1 := hid (HV1.out.bel hb)
        replace HV2 := hid (HV2.out.bel hb)
        clear hb HF a0 a1 a2 a3 a4 b0 b1 b2
        go_wp2_with fail
        refine (awake_any w8).mono ?_
        rintro e wz ⟨rfl, hb⟩
        have HBZ := hid (HB4.out.trans (hb.mono HB4.out.size))
        clear hb
        go_wp2_with fail
        go_ret
        exact ⟨rfl, HBZ.out⟩

theorem readable : ∀ t ∈ #[26, 30].toList, Tryz.prog.readableRec t = true ∧ t < Tryz.prog.types.size := by
  intro t ht
  have r0 : Tryz.prog.readableRec 26 = true ∧ 26 < Tryz.prog.types.size := ⟨by kernel_rfl, of_decide_eq_true (by kernel_rfl)⟩
  have r1 : Tryz.prog.readableRec 30 = true ∧ 30 < Tryz.prog.types.size := ⟨by kernel_rfl, of_decide_eq_true (by kernel_rfl)⟩
  have hm : t = 26 ∨ t = 30 := by simpa using ht
  rcases hm with rfl | rfl
  · exact r0
  · exact r1
set_option maxRecDepth 100000 in
theorem walkD {H : Type} (enc : TypeId × Value → H) (W : World) (base : Nat) (args : Array Value) (ds : List (DataW H)) (p : List MemPlace)
    (hval : ∀ (j : Nat) t v, #[26, 30][j]? = some t → args[j]? = some v → Value.okWide Tryz.prog W .any base t v)
    (hA : DataW.TrodAll enc Tryz.prog W 0 (fun _ => true) true #[26, 30].toList args.toList ds p)
    (hws : ∀ (j : Nat) t d, #[26, 30].toList[j]? = some t → ds[j]? = some d → ∀ n ∈ d.weights Tryz.prog t, n ≤ reachBytes) :
    (Calls Tryz.prog 4 args W fun e w' => e = .returned (.bool true) ∧ Below W.heap.size W w') ∧
    ((Rows.typesOfSpec.fn H (ds ++ [])).results = [.lit (.bool true)] ∧ (Rows.typesOfSpec.fn H (ds ++ [])).args = ds ∧ (Rows.typesOfSpec.fn H (ds ++ [])).vars = []) := by
  obtain ⟨v0, vs0, d0, ds0, p0, q0, hargs, rfl, rfl, h0, r0⟩ := trodAll_cons hA
  obtain ⟨v1, vs1, d1, ds1, p1, q1, rfl, rfl, rfl, h1, r1⟩ := trodAll_cons r0
  obtain ⟨rfl, rfl, rfl⟩ := trodAll_nil r1
  obtain rfl : args = #[v0, v1] := by cases args; simp_all
  obtain ⟨t0, w0⟩ := open_value (hval 0 _ v0 rfl rfl) h0 (hws 0 _ _ rfl rfl)
  obtain ⟨t1, w1⟩ := open_arg (hval 1 _ v1 rfl rfl) h1 (hws 1 _ _ rfl rfl)
  exact ⟨walk W _ t0 w0 _ t1 w1, rfl, rfl, rfl⟩

set_option maxRecDepth 100000 in
theorem lifted (os : Os) (started : os.Started) (H : Type) (enc : TypeId × Value → H) :
    ReturnsInHanded {} Tryz.checked os 4 .any (fun w args => (Rows.typesOfSpec.pre enc Tryz.prog Tryz.f4 [] false w args ∧ laidMetH Tryz.prog laidList w) ∧ sizedMet enc Tryz.prog Tryz.f4 (OpenSpec.ofChange Rows.typesOfSpec) false w args)
      (Rows.typesOfSpec.post enc Tryz.prog Tryz.f4 false true false false) := by
  refine returnsInHanded_of_change_and (C := Tryz.checked) (X := fun w _ => laidMetH Tryz.prog laidList w) (fun _ _ _ hh h => h.of_heap hh) own started (by kernel_rfl) Tryz.func4
    (ChangeSpec.witness_at (enc := enc) (C := Tryz.checked) (os := os) (X := fun w _ => laidMetH Tryz.prog laidList w) false (laidWorld os) #[.agg #[.int .i64 0, .int .i64 0, .string ⟨#[]⟩, .slice none 0 0, .slice none 0 0], .agg #[.int .i64 0, .slice none 0 0, .slice none 0 0]] 8 rfl (by kernel_rfl) (by kernel_rfl) (by kernel_rfl) (by kernel_rfl) (by kernel_rfl) (laidWorld_met os _)) ?_
  intro W base args ds gs before hval0 hW _ hsz _ _
  have hW' := hW
  obtain ⟨p, q, hA, hV, _, _, _⟩ := hW
  obtain ⟨rfl, rfl⟩ := trodVars_none hV
  rw [Tryz.params4] at hA hval0 hsz
  have hws : ∀ (j : Nat) t d, #[26, 30].toList[j]? = some t → ds[j]? = some d → ∀ n ∈ d.weights Tryz.prog t, n ≤ reachBytes := fun j t d h1 h2 n hn => by
    have hj1 := (List.getElem?_eq_some_iff.1 h1).1
    have hj2 := (List.getElem?_eq_some_iff.1 h2).1
    have := List.all_eq_true.1 hsz _ (DataW.weights_mem_each (j := j) (by rw [List.getElem?_append_left hj1]; exact h1) (by rw [List.getElem?_append_left hj2]; exact h2) n hn)
    simpa using this
  obtain ⟨hcall, hds⟩ := walkD enc W base args ds p hval0 hA hws
  exact hcall.mono fun e W' ⟨he, hb⟩ => ⟨_, he, law_post hW' rfl (by rw [Tryz.params4]; exact readable) rfl hds hb⟩

theorem over : Rows.TypesOfSaid :=
  OpenClaim.holds_of_wide 4 Tryz.f4 rfl rfl rfl rfl rfl rfl rfl ⟨rfl, rfl, rfl, rfl, rfl⟩ rfl rfl rfl rfl rfl (by kernel_rfl) Tryz.func4 (by kernel_rfl)
    (of_decide_eq_true (by kernel_rfl)) (by unfold Func.isWrapper; first | (rw [if_pos (by decide +kernel)]; kernel_rfl) | (rw [if_neg (by decide +kernel)]; exact ⟨rfl, rfl⟩))
    (fun os started H enc _ => lifted os started H enc)

theorem proved : Rows.TypesOfCardSaid :=
  Claim7.holds_tied_plain_at .later [] [.data, .pinned] true (true, Rows.typesOfCard.stood.harness.2) false
    over (fun _ h => by cases h) (by kernel_rfl) (fun _ h => by cases h) typesOf_row_tie rfl ⟨rfl, rfl⟩ (by kernel_rfl) rfl
    (fun f fn hf hfn => by
      obtain rfl : f = 4 := Option.some.inj ((show Tryz.prog.funcNamed "provision/provisionlaw10.TypesOf" = some 4 by kernel_rfl).symm.trans hf) |>.symm
      obtain rfl : fn = Tryz.f4 := (Option.some.inj (Tryz.func4.symm.trans hfn)).symm
      exact ⟨by kernel_rfl, fun j t ht => by
        have hall : ∀ t ∈ Tryz.f4.params.toList, Tryz.prog.wantsStandIn t = false := by
          rw [Tryz.params4]
          intro t ht
          have hm : t = 26 ∨ t = 30 := by simpa using ht
          have s0 : Tryz.prog.wantsStandIn 26 = false := by kernel_rfl
          have s1 : Tryz.prog.wantsStandIn 30 = false := by kernel_rfl
          rcases hm with rfl | rfl
          · exact s0
          · exact s1
        exact hall t (List.mem_of_getElem? (by rw [Array.getElem?_toList]; exact ht))⟩)
    (by kernel_rfl)
#print axioms proved
end Go.Proofs.YtfljnigbfacmjaaGreatDoor.typesOf
