/- The statement TypesBack holds of the given program for every input. -/
import Derived.Test.YtfljnigbfacmjaaDoorLawKit
namespace Go.Proofs.YtfljnigbfacmjaaDoor.typesBack
open Go Go.ChangeShapes Go.WideShapes Go.ChangeAt Go.RowKit Go.Proofs.YtfljnigbfacmjaaDoor.Steady
set_option linter.unusedVariables false

set_option maxRecDepth 100000 in
set_option maxHeartbeats 4000000 in
theorem walk (w : World) (v1 : Value) (t1 : Ty) (h1 : TV (fun _ => True) w v1 t1) : Calls Tryd.prog 7 #[v1] w (Ret (.bool true) w) := by
  obtain ⟨k1, es1, ns1⟩ := t1
  obtain ⟨ve1, vn1, rfl, hE1, hN1⟩ := h1.out
  obtain ⟨oe1, ce1, rfl⟩ := hE1.len
  obtain ⟨on1, cn1, rfl⟩ := hN1.len
  obtain ⟨hB1, a0, a1, a2, -⟩ := box3 w (.int .i64 k1) (.slice oe1 es1.length ce1) (.slice on1 ns1.length cn1) 26
  generalize hW1 : w.alloc (.cells #[.int .i64 k1, .slice oe1 es1.length ce1, .slice on1 ns1.length cn1] 26) = W1 at *
  have HV1 := hid (h1.bel hB1)
  have HW1 := hid hW1
  have hB3 : Below W1.heap.size W1 (W1.alloc (.cells #[.int .i64 k1, .slice oe1 es1.length ce1, .slice on1 ns1.length cn1] 26)) := (Below.refl _ _).alloc (Nat.le_refl _) _
  have ho3 := heap_alloc_at W1 (.cells #[.int .i64 k1, .slice oe1 es1.length ce1, .slice on1 ns1.length cn1] 26)
  generalize hW3 : W1.alloc (.cells #[.int .i64 k1, .slice oe1 es1.length ce1, .slice on1 ns1.length cn1] 26) = W3 at *
  have HW3 := hid hW3
  have HVA := hid (valid_any _ W3 _ _ (one_type ho3 (HV1.out.bel hB3)))
  have d0 := bcell hB3 a0
  have d1 := bcell hB3 a1
  have d2 := bcell hB3 a2
  have HB3 := hid (hB1.trans (hB3.mono hB1.size))
  have HV31 := hid (HV1.out.bel hB3)
  clear h1 hE1 hN1 hB1 hW1 hB3 ho3 hW3 HV1
  cases hv : [Ty.mk k1 es1 ns1].all validB with
  | false =>
    rw [hv] at HVA
    clear hv
    go_enter Tryd.func7, Tryd.ntmps7
    go_upto_region 1 with (fail)
    rw [HW1.out]
    go_wp2_with fail
    rw [HW3.out]
    clear a0 a1 a2
    refine HVA.out.mono ?_
    rintro e w2 ⟨rfl, hb⟩
    have HB4 := hid (HB3.out.trans (hb.mono HB3.out.size))
    clear hb d0 d1 d2
    go_wp2_with fail
    refine (awake_any w2).mono ?_
    rintro e wz ⟨rfl, hb⟩
    have HBZ := hid (HB4.out.trans (hb.mono HB4.out.size))
    clear hb
    go_wp2_with fail
    go_ret
    exact ⟨rfl, HBZ.out⟩
  | true =>
    rw [hv] at HVA
    have hv' : validB (.mk k1 es1 ns1) = true := by simpa using hv
    obtain ⟨z1, z2, z3, z4⟩ := valid_facts hv'
    obtain ⟨s1, s2⟩ := fmt_sizes _ _ z3
    have hs : (fmtT (.mk k1 es1 ns1)).size ≤ 65536 := by omega
    have HPV := hid (parseV_fmt z3 hs)
    have HFM := hid (fmt_any (.mk k1 es1 ns1))
    have hsz : sizeT (.mk k1 es1 ns1) ≤ 1000000 := by omega
    have heq : eqT (.mk k1 es1 ns1) (.mk k1 es1 ns1) = true := (eqT_iff _ _).2 rfl
    have HEQ := hid heq
    clear hv hv' z2 z3 z4 s1 s2 heq z1
    go_enter Tryd.func7, Tryd.ntmps7
    go_upto_region 1 with (fail)
    rw [HW1.out]
    go_wp2_with fail
    rw [HW3.out]
    clear a0 a1 a2
    refine HVA.out.mono ?_
    rintro e w2 ⟨rfl, hb⟩
    have HB4 := hid (HB3.out.trans (hb.mono HB3.out.size))
    replace d0 := bcell hb d0
    replace d1 := bcell hb d1
    replace d2 := bcell hb d2
    replace HV31 := hid (HV31.out.bel hb)
    clear hb
    have HF := hid (HFM.out _ w2 _ HV31.out hsz (by omega))
    obtain ⟨fs, hfs⟩ : ∃ fs, fmtT (.mk k1 es1 ns1) = fs := ⟨_, rfl⟩
    rw [hfs] at HF hs HPV
    have HFS := hid hfs
    clear hfs
    go_wp2_with fail
    refine HF.out.mono ?_
    rintro e w3 ⟨rfl, hb⟩
    replace d0 := bcell hb d0
    replace d1 := bcell hb d1
    replace d2 := bcell hb d2
    replace HB4 := hid (HB4.out.trans (hb.mono HB4.out.size))
    replace HV31 := hid (HV31.out.bel hb)
    clear hb HF
    have g1 : decide ((fs.size : Int) > 65536) = false := decide_eq_false (by omega)
    have HP := hid (parse_any fs w3)
    rw [HPV.out] at HP
    go_wp2_with fail
    refine HP.out.mono ?_
    rintro e w4 ⟨u, rfl, hu, hb⟩
    dsimp only at hu
    obtain ⟨ve, vn, rfl, hE, hN⟩ := hu.out
    obtain ⟨oe, ce, rfl⟩ := hE.len
    obtain ⟨on, cn, rfl⟩ := hN.len
    have HU := hid hu
    replace d0 := bcell hb d0
    replace d1 := bcell hb d1
    replace d2 := bcell hb d2
    replace HB4 := hid (HB4.out.trans (hb.mono HB4.out.size))
    replace HV31 := hid (HV31.out.bel hb)
    clear hb hu hE hN HP
    go_upto_region 7 with (fail)
    have hb1 : Below w4.heap.size w4 (w4.alloc (.cells #[.int .i64 k1, .slice oe es1.length ce, .slice on ns1.length cn] 26)) := (Below.refl _ _).alloc (Nat.le_refl _) _
    have ho1 := heap_alloc_at w4 (.cells #[.int .i64 k1, .slice oe es1.length ce, .slice on ns1.length cn] 26)
    have hs1 : (w4.alloc (.cells #[.int .i64 k1, .slice oe es1.length ce, .slice on ns1.length cn] 26)).heap.size = w4.heap.size + 1 := by simp
    generalize w4.alloc (.cells #[.int .i64 k1, .slice oe es1.length ce, .slice on ns1.length cn] 26) = wa at *
    have hb2 : Below wa.heap.size wa (wa.alloc (.cells #[.int .i64 0, .int .i64 0, .string ⟨#[]⟩] 33)) := (Below.refl _ _).alloc (Nat.le_refl _) _
    have ho2 := heap_alloc_at wa (.cells #[.int .i64 0, .int .i64 0, .string ⟨#[]⟩] 33)
    rw [hs1] at ho2
    generalize wa.alloc (.cells #[.int .i64 0, .int .i64 0, .string ⟨#[]⟩] 33) = wb at *
    have hob := keep_obj ho1 hb2
    replace hb2 := hb1.trans (hb2.mono hb1.size)
    clear hb1 ho1 hs1
    have hb := hb2
    replace d0 := bcell hb d0
    replace d1 := bcell hb d1
    replace d2 := bcell hb d2
    replace HB4 := hid (HB4.out.trans (hb.mono HB4.out.size))
    replace HV31 := hid (HV31.out.bel hb)
    have HU2 := hid (HU.out.bel hb)
    have p0 := (cells_in hob 0).trans rfl
    have p1 := (cells_in hob 1).trans rfl
    have p2 := (cells_in hob 2).trans rfl
    have q0 := (cells_in ho2 0).trans rfl
    have q1 := (cells_in ho2 1).trans rfl
    have q2 := (cells_in ho2 2).trans rfl
    have HOB := hid hob
    clear hb hb2 hob ho2 HU
    have HQ := hid (equal_any _ _ _ _ wb _ _ HV31.out HU2.out)
    rw [HEQ.out] at HQ
    go_wp2_with fail
    clear p0 p1 p2 q0 q1 q2
    refine HQ.out.mono ?_
    rintro e w5 ⟨rfl, hb⟩
    replace d0 := bcell hb d0
    replace d1 := bcell hb d1
    replace d2 := bcell hb d2
    replace HB4 := hid (HB4.out.trans (hb.mono HB4.out.size))
    replace HV31 := hid (HV31.out.bel hb)
    have HU3 := hid (HU2.out.bel hb)
    have ho5 := keep_obj HOB.out hb
    have p0 := (cells_in ho5 0).trans rfl
    have p1 := (cells_in ho5 1).trans rfl
    have p2 := (cells_in ho5 2).trans rfl
    clear hb HQ HU2 HOB ho5
    have HF := hid (HFM.out _ w5 _ HU3.out hsz (by rw [HFS.out]; omega))
    rw [HFS.out] at HF
    have hse : (fs.toList == fs.toList) = true := beq_self_eq_true _
    go_wp2_with fail
    clear p0 p1 p2
    refine HF.out.mono ?_
    rintro e w6 ⟨rfl, hb⟩
    replace d0 := bcell hb d0
    replace d1 := bcell hb d1
    replace d2 := bcell hb d2
    replace HB4 := hid (HB4.out.trans (hb.mono HB4.out.size))
    replace HV31 := hid (HV31.out.bel hb)
    clear hb HF HU3 d0 d1 d2
    go_wp2_with fail
    refine (awake_any w6).mono ?_
    rintro e wz ⟨rfl, hb⟩
    have HBZ := hid (HB4.out.trans (hb.mono HB4.out.size))
    clear hb
    go_wp2_with fail
    go_ret
    exact ⟨rfl, HBZ.out⟩

theorem readable : ∀ t ∈ #[26].toList, Tryd.prog.readableRec t = true ∧ t < Tryd.prog.types.size := by
  intro t ht
  have r0 : Tryd.prog.readableRec 26 = true ∧ 26 < Tryd.prog.types.size := ⟨by kernel_rfl, of_decide_eq_true (by kernel_rfl)⟩
  have hm : t = 26 := by simpa using ht
  rcases hm with rfl <;> assumption
set_option maxRecDepth 100000 in
theorem walkD {H : Type} (enc : TypeId × Value → H) (W : World) (base : Nat) (args : Array Value) (ds : List (DataW H)) (p : List MemPlace)
    (hval : ∀ (j : Nat) t v, #[26][j]? = some t → args[j]? = some v → Value.okWide Tryd.prog W .any base t v)
    (hA : DataW.TrodAll enc Tryd.prog W 0 (fun _ => true) true #[26].toList args.toList ds p)
    (hws : ∀ (j : Nat) t d, #[26].toList[j]? = some t → ds[j]? = some d → ∀ n ∈ d.weights Tryd.prog t, n ≤ reachBytes) :
    (Calls Tryd.prog 7 args W fun e w' => e = .returned (.bool true) ∧ Below W.heap.size W w') ∧
    ((Rows.typesBackSpec.fn H (ds ++ [])).results = [.lit (.bool true)] ∧ (Rows.typesBackSpec.fn H (ds ++ [])).args = ds ∧ (Rows.typesBackSpec.fn H (ds ++ [])).vars = []) := by
  obtain ⟨v0, vs0, d0, ds0, p0, q0, hargs, rfl, rfl, h0, r0⟩ := trodAll_cons hA
  obtain ⟨rfl, rfl, rfl⟩ := trodAll_nil r0
  obtain rfl : args = #[v0] := by cases args; simp_all
  obtain ⟨t0, w0⟩ := open_arg (hval 0 _ v0 rfl rfl) h0 (hws 0 _ _ rfl rfl)
  exact ⟨walk W _ t0 w0, rfl, rfl, rfl⟩

set_option maxRecDepth 100000 in
theorem lifted (os : Os) (started : os.Started) (H : Type) (enc : TypeId × Value → H) :
    ReturnsInHanded {} Tryd.checked os 7 .any (fun w args => (Rows.typesBackSpec.pre enc Tryd.prog Tryd.f7 [] false w args ∧ laidMetH Tryd.prog laidList w) ∧ sizedMet enc Tryd.prog Tryd.f7 (OpenSpec.ofChange Rows.typesBackSpec) false w args)
      (Rows.typesBackSpec.post enc Tryd.prog Tryd.f7 false true false false) := by
  refine returnsInHanded_of_change_and (C := Tryd.checked) (X := fun w _ => laidMetH Tryd.prog laidList w) (fun _ _ _ hh h => h.of_heap hh) own started (by kernel_rfl) Tryd.func7
    (ChangeSpec.witness_at (enc := enc) (C := Tryd.checked) (os := os) (X := fun w _ => laidMetH Tryd.prog laidList w) false (laidWorld os) #[.agg #[.int .i64 0, .slice none 0 0, .slice none 0 0]] 8 rfl (by kernel_rfl) (by kernel_rfl) (by kernel_rfl) (by kernel_rfl) (by kernel_rfl) (laidWorld_met os _)) ?_
  intro W base args ds gs before hval0 hW _ hsz _ _
  have hW' := hW
  obtain ⟨p, q, hA, hV, _, _, _⟩ := hW
  obtain ⟨rfl, rfl⟩ := trodVars_none hV
  rw [Tryd.params7] at hA hval0 hsz
  have hws : ∀ (j : Nat) t d, #[26].toList[j]? = some t → ds[j]? = some d → ∀ n ∈ d.weights Tryd.prog t, n ≤ reachBytes := fun j t d h1 h2 n hn => by
    have hj1 := (List.getElem?_eq_some_iff.1 h1).1
    have hj2 := (List.getElem?_eq_some_iff.1 h2).1
    have := List.all_eq_true.1 hsz _ (DataW.weights_mem_each (j := j) (by rw [List.getElem?_append_left hj1]; exact h1) (by rw [List.getElem?_append_left hj2]; exact h2) n hn)
    simpa using this
  obtain ⟨hcall, hds⟩ := walkD enc W base args ds p hval0 hA hws
  exact hcall.mono fun e W' ⟨he, hb⟩ => ⟨_, he, law_post hW' rfl (by rw [Tryd.params7]; exact readable) rfl hds hb⟩

theorem over : Rows.TypesBackSaid :=
  OpenClaim.holds_of_wide 7 Tryd.f7 rfl rfl rfl rfl rfl rfl rfl ⟨rfl, rfl, rfl, rfl, rfl⟩ rfl rfl rfl rfl rfl (by kernel_rfl) Tryd.func7 (by kernel_rfl)
    (of_decide_eq_true (by kernel_rfl)) (by unfold Func.isWrapper; first | (rw [if_pos (by decide +kernel)]; kernel_rfl) | (rw [if_neg (by decide +kernel)]; exact ⟨rfl, rfl⟩))
    (fun os started H enc _ => lifted os started H enc)

theorem proved : Rows.TypesBackCardSaid :=
  Claim7.holds_tied_plain_at .later [] [.data, .pinned] true (true, Rows.typesBackCard.stood.harness.2) false
    over (fun _ h => by cases h) (by kernel_rfl) (fun _ h => by cases h) typesBack_row_tie rfl ⟨rfl, rfl⟩ (by kernel_rfl) rfl
    (fun f fn hf hfn => by
      obtain rfl : f = 7 := Option.some.inj ((show Tryd.prog.funcNamed "provision/provisionlaw10.TypesBack" = some 7 by kernel_rfl).symm.trans hf) |>.symm
      obtain rfl : fn = Tryd.f7 := (Option.some.inj (Tryd.func7.symm.trans hfn)).symm
      exact ⟨by kernel_rfl, fun j t ht => by
        have hall : ∀ t ∈ Tryd.f7.params.toList, Tryd.prog.wantsStandIn t = false := by
          rw [Tryd.params7]
          intro t ht
          have hm : t = 26 := by simpa using ht
          have s0 : Tryd.prog.wantsStandIn 26 = false := by kernel_rfl
          rcases hm with rfl <;> assumption
        exact hall t (List.mem_of_getElem? (by rw [Array.getElem?_toList]; exact ht))⟩)
    (by kernel_rfl)
#print axioms proved
end Go.Proofs.YtfljnigbfacmjaaDoor.typesBack
