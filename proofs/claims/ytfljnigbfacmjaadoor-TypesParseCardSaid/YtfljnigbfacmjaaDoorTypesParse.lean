/- The statement TypesParse holds of the given program for every input. -/
import Derived.Test.YtfljnigbfacmjaaDoorLawKit
import Derived.Test.YtfljnigbfacmjaaDoorRParse
import Derived.Test.YtfljnigbfacmjaaDoorRObj
namespace Go.Proofs.YtfljnigbfacmjaaDoor.typesParse
open Go Go.ChangeShapes Go.WideShapes Go.ChangeAt Go.RowKit Go.Proofs.YtfljnigbfacmjaaDoor.Steady
set_option linter.unusedVariables false

theorem rread_any (s : ByteArray) (hs : s.size ≤ 65536) (f : Nat) : f ≤ 32 → RReadAt s f := by
  induction f using Nat.strongRecOn with
  | ind f ih =>
    intro hf
    exact rread_step s f hs hf (fun g hg => ih g hg (by omega)) (fun g hg => robj_any s g hs (by omega) (ih g hg (by omega)))
theorem rparse_any (s : ByteArray) (w : World) : Calls Tryd.prog 14 #[.string s] w (ParsePost (parseV s) w) :=
  rparse_of s w fun h => rread_any s h 32 (Nat.le_refl _)

set_option maxRecDepth 100000 in
set_option maxHeartbeats 4000000 in
theorem walk (w : World) (s : ByteArray) (hs : s.size ≤ 140737488355328) : Calls Tryd.prog 4 #[.string s] w (Ret (.bool true) w) := by
  by_cases hlt : 3000 < s.size
  · have g1 : decide ((s.size : Int) > 3000) = true := decide_eq_true (by omega)
    have HB4 := hid (Below.refl w.heap.size w)
    clear hlt hs
    go_enter Tryd.func4, Tryd.ntmps4
    go_wp2_with fail
    refine (awake_any w).mono ?_
    rintro e wz ⟨rfl, hb⟩
    have HBZ := hid (HB4.out.trans (hb.mono HB4.out.size))
    clear hb
    go_wp2_with fail
    go_ret
    exact ⟨rfl, HBZ.out⟩
  have g1 : decide ((s.size : Int) > 3000) = false := decide_eq_false (by omega)
  have HP := hid (parse_any s w)
  have HR := hid (fun W => rparse_any s W)
  obtain ⟨r, hr⟩ : ∃ r, parseV s = r := ⟨_, rfl⟩
  rw [hr] at HP HR
  clear hr
  obtain ⟨⟨k1, es1, ns1⟩, ek, at'⟩ := r
  have HEQ := hid ((eqT_iff (.mk k1 es1 ns1) (.mk k1 es1 ns1)).2 rfl)
  clear hlt hs
  go_enter Tryd.func4, Tryd.ntmps4
  go_wp2_with fail
  refine HP.out.mono ?_
  rintro e w4 ⟨u, rfl, hu, hb⟩
  dsimp only at hu
  obtain ⟨ve, vn, rfl, hE, hN⟩ := hu.out
  obtain ⟨oe, ce, rfl⟩ := hE.len
  obtain ⟨on, cn, rfl⟩ := hN.len
  have HU := hid hu
  have HB4 := hid hb
  clear hb hu hE hN HP
  go_upto_region 4 with (fail)
  have hb1 : Below w4.heap.size w4 (w4.alloc (.cells #[.int .i64 k1, .slice oe es1.length ce, .slice on ns1.length cn] 26)) := (Below.refl _ _).alloc (Nat.le_refl _) _
  have ho1 := heap_alloc_at w4 (.cells #[.int .i64 k1, .slice oe es1.length ce, .slice on ns1.length cn] 26)
  have hs1 : (w4.alloc (.cells #[.int .i64 k1, .slice oe es1.length ce, .slice on ns1.length cn] 26)).heap.size = w4.heap.size + 1 := by simp
  generalize w4.alloc (.cells #[.int .i64 k1, .slice oe es1.length ce, .slice on ns1.length cn] 26) = wa at *
  have hb2 : Below wa.heap.size wa (wa.alloc (.cells #[.int .i64 ek, .int .i64 at', .string ⟨#[]⟩] 33)) := (Below.refl _ _).alloc (Nat.le_refl _) _
  have ho2 := heap_alloc_at wa (.cells #[.int .i64 ek, .int .i64 at', .string ⟨#[]⟩] 33)
  rw [hs1] at ho2
  generalize wa.alloc (.cells #[.int .i64 ek, .int .i64 at', .string ⟨#[]⟩] 33) = wb at *
  have hob := keep_obj ho1 hb2
  replace hb2 := hb1.trans (hb2.mono hb1.size)
  clear hb1 ho1 hs1
  have HB5 := hid (HB4.out.trans (hb2.mono HB4.out.size))
  have HU2 := hid (HU.out.bel hb2)
  have HOB := hid hob
  have HOD := hid ho2
  clear hb2 hob ho2 HU HB4
  have HR2 := hid (HR.out wb)
  go_wp2_with fail
  refine HR2.out.mono ?_
  rintro e w6 ⟨u, rfl, hu, hb⟩
  dsimp only at hu
  obtain ⟨ve', vn', rfl, hE, hN⟩ := hu.out
  obtain ⟨oe', ce', rfl⟩ := hE.len
  obtain ⟨on', cn', rfl⟩ := hN.len
  have HW := hid hu
  have HB7 := hid (HB5.out.trans (hb.mono HB5.out.size))
  have HU4 := hid (HU2.out.bel hb)
  have HO4 := hid (keep_obj HOB.out hb)
  have HD4 := hid (keep_obj HOD.out hb)
  clear hb hu hE hN HR HR2 HU2 HOB HOD HB5
  go_upto_region 5 with (fail)
  have hb1 : Below w6.heap.size w6 (w6.alloc (.cells #[.int .i64 k1, .slice oe' es1.length ce', .slice on' ns1.length cn'] 26)) := (Below.refl _ _).alloc (Nat.le_refl _) _
  have ho1 := heap_alloc_at w6 (.cells #[.int .i64 k1, .slice oe' es1.length ce', .slice on' ns1.length cn'] 26)
  have hs1 : (w6.alloc (.cells #[.int .i64 k1, .slice oe' es1.length ce', .slice on' ns1.length cn'] 26)).heap.size = w6.heap.size + 1 := by simp
  generalize w6.alloc (.cells #[.int .i64 k1, .slice oe' es1.length ce', .slice on' ns1.length cn'] 26) = wc at *
  have hb2 : Below wc.heap.size wc (wc.alloc (.cells #[.int .i64 ek, .int .i64 at', .string ⟨#[]⟩] 33)) := (Below.refl _ _).alloc (Nat.le_refl _) _
  have ho2 := heap_alloc_at wc (.cells #[.int .i64 ek, .int .i64 at', .string ⟨#[]⟩] 33)
  rw [hs1] at ho2
  generalize wc.alloc (.cells #[.int .i64 ek, .int .i64 at', .string ⟨#[]⟩] 33) = wd at *
  have hob := keep_obj ho1 hb2
  replace hb2 := hb1.trans (hb2.mono hb1.size)
  clear hb1 ho1 hs1
  have HB8 := hid (HB7.out.trans (hb2.mono HB7.out.size))
  have HU5 := hid (HU4.out.bel hb2)
  have hO5 := keep_obj HO4.out hb2
  have hD5 := keep_obj HD4.out hb2
  have HW5 := hid (HW.out.bel hb2)
  have p0 := (cells_in hO5 0).trans rfl
  have p1 := (cells_in hO5 1).trans rfl
  have p2 := (cells_in hO5 2).trans rfl
  have d0 := (cells_in hD5 0).trans rfl
  have d1 := (cells_in hD5 1).trans rfl
  have d2 := (cells_in hD5 2).trans rfl
  have q0 := (cells_in hob 0).trans rfl
  have q1 := (cells_in hob 1).trans rfl
  have q2 := (cells_in hob 2).trans rfl
  have r0 := (cells_in ho2 0).trans rfl
  have r1 := (cells_in ho2 1).trans rfl
  have r2 := (cells_in ho2 2).trans rfl
  clear hb2 hob ho2 HW HU4 HO4 HD4 HB7 hO5 hD5
  have HQ := hid (requal_any _ _ _ _ wd _ _ HU5.out HW5.out)
  rw [HEQ.out] at HQ
  have s1 : (ek == ek) = true := beq_self_eq_true _
  have s2 : ((at' : Int) == (at' : Int)) = true := beq_self_eq_true _
  go_wp2_with fail
  clear p0 p1 p2 q0 q1 q2 d0 d1 d2 r0 r1 r2
  refine HQ.out.mono ?_
  rintro e w7 ⟨rfl, hb⟩
  have HB9 := hid (HB8.out.trans (hb.mono HB8.out.size))
  clear hb HQ HU5 HW5 HB8
  go_wp2_with fail
  refine (awake_any w7).mono ?_
  rintro e wz ⟨rfl, hb⟩
  have HBZ := hid (HB9.out.trans (hb.mono HB9.out.size))
  clear hb
  go_wp2_with fail
  go_ret
  exact ⟨rfl, HBZ.out⟩

theorem readable : ∀ t ∈ #[9].toList, Tryd.prog.readableRec t = true ∧ t < Tryd.prog.types.size := by
  intro t ht
  have r0 : Tryd.prog.readableRec 9 = true ∧ 9 < Tryd.prog.types.size := ⟨by kernel_rfl, of_decide_eq_true (by kernel_rfl)⟩
  have hm : t = 9 := by simpa using ht
  rcases hm with rfl <;> assumption
set_option maxRecDepth 100000 in
theorem walkD {H : Type} (enc : TypeId × Value → H) (W : World) (base : Nat) (args : Array Value) (ds : List (DataW H)) (p : List MemPlace)
    (hval : ∀ (j : Nat) t v, #[9][j]? = some t → args[j]? = some v → Value.okWide Tryd.prog W .any base t v)
    (hA : DataW.TrodAll enc Tryd.prog W 0 (fun _ => true) true #[9].toList args.toList ds p)
    (hws : ∀ (j : Nat) t d, #[9].toList[j]? = some t → ds[j]? = some d → ∀ n ∈ d.weights Tryd.prog t, n ≤ reachBytes) :
    (Calls Tryd.prog 4 args W fun e w' => e = .returned (.bool true) ∧ Below W.heap.size W w') ∧
    ((Rows.typesParseSpec.fn H (ds ++ [])).results = [.lit (.bool true)] ∧ (Rows.typesParseSpec.fn H (ds ++ [])).args = ds ∧ (Rows.typesParseSpec.fn H (ds ++ [])).vars = []) := by
  obtain ⟨v0, vs0, d0, ds0, p0, q0, hargs, rfl, rfl, h0, r0⟩ := trodAll_cons hA
  obtain ⟨rfl, rfl, rfl⟩ := trodAll_nil r0
  obtain rfl : args = #[v0] := by cases args; simp_all
  obtain ⟨a0, rfl, rfl, rfl, w0⟩ := Go.ChangeMaps.open_string Tryd.underlying9 (hval 0 _ v0 rfl rfl) h0
  exact ⟨walk W a0 (by have := hws 0 _ _ rfl rfl a0.data.toList.length (by rw [DataW.weights]; exact List.mem_singleton.2 rfl); have := reach_le; rw [size_eq]; omega), rfl, rfl, rfl⟩

set_option maxRecDepth 100000 in
theorem lifted (os : Os) (started : os.Started) (H : Type) (enc : TypeId × Value → H) :
    ReturnsInHanded {} Tryd.checked os 4 .any (fun w args => (Rows.typesParseSpec.pre enc Tryd.prog Tryd.f4 [] false w args ∧ laidMetH Tryd.prog laidList w) ∧ sizedMet enc Tryd.prog Tryd.f4 (OpenSpec.ofChange Rows.typesParseSpec) false w args)
      (Rows.typesParseSpec.post enc Tryd.prog Tryd.f4 false true false false) := by
  refine returnsInHanded_of_change_and (C := Tryd.checked) (X := fun w _ => laidMetH Tryd.prog laidList w) (fun _ _ _ hh h => h.of_heap hh) own started (by kernel_rfl) Tryd.func4
    (ChangeSpec.witness_at (enc := enc) (C := Tryd.checked) (os := os) (X := fun w _ => laidMetH Tryd.prog laidList w) false (laidWorld os) #[.string ⟨#[]⟩] 8 rfl (by kernel_rfl) (by kernel_rfl) (by kernel_rfl) (by kernel_rfl) (by kernel_rfl) (laidWorld_met os _)) ?_
  intro W base args ds gs before hval0 hW _ hsz _ _
  have hW' := hW
  obtain ⟨p, q, hA, hV, _, _, _⟩ := hW
  obtain ⟨rfl, rfl⟩ := trodVars_none hV
  rw [Tryd.params4] at hA hval0 hsz
  have hws : ∀ (j : Nat) t d, #[9].toList[j]? = some t → ds[j]? = some d → ∀ n ∈ d.weights Tryd.prog t, n ≤ reachBytes := fun j t d h1 h2 n hn => by
    have hj1 := (List.getElem?_eq_some_iff.1 h1).1
    have hj2 := (List.getElem?_eq_some_iff.1 h2).1
    have := List.all_eq_true.1 hsz _ (DataW.weights_mem_each (j := j) (by rw [List.getElem?_append_left hj1]; exact h1) (by rw [List.getElem?_append_left hj2]; exact h2) n hn)
    simpa using this
  obtain ⟨hcall, hds⟩ := walkD enc W base args ds p hval0 hA hws
  exact hcall.mono fun e W' ⟨he, hb⟩ => ⟨_, he, law_post hW' rfl (by rw [Tryd.params4]; exact readable) rfl hds hb⟩

theorem over : Rows.TypesParseSaid :=
  OpenClaim.holds_of_wide 4 Tryd.f4 rfl rfl rfl rfl rfl rfl rfl ⟨rfl, rfl, rfl, rfl, rfl⟩ rfl rfl rfl rfl rfl (by kernel_rfl) Tryd.func4 (by kernel_rfl)
    (of_decide_eq_true (by kernel_rfl)) (by unfold Func.isWrapper; first | (rw [if_pos (by decide +kernel)]; kernel_rfl) | (rw [if_neg (by decide +kernel)]; exact ⟨rfl, rfl⟩))
    (fun os started H enc _ => lifted os started H enc)

theorem proved : Rows.TypesParseCardSaid :=
  Claim7.holds_tied_plain_at .later [] [.data, .pinned] true (true, Rows.typesParseCard.stood.harness.2) false
    over (fun _ h => by cases h) (by kernel_rfl) (fun _ h => by cases h) typesParse_row_tie rfl ⟨rfl, rfl⟩ (by kernel_rfl) rfl
    (fun f fn hf hfn => by
      obtain rfl : f = 4 := Option.some.inj ((show Tryd.prog.funcNamed "provision/provisionlaw10.TypesParse" = some 4 by kernel_rfl).symm.trans hf) |>.symm
      obtain rfl : fn = Tryd.f4 := (Option.some.inj (Tryd.func4.symm.trans hfn)).symm
      exact ⟨by kernel_rfl, fun j t ht => by
        have hall : ∀ t ∈ Tryd.f4.params.toList, Tryd.prog.wantsStandIn t = false := by
          rw [Tryd.params4]
          intro t ht
          have hm : t = 9 := by simpa using ht
          have s0 : Tryd.prog.wantsStandIn 9 = false := by kernel_rfl
          rcases hm with rfl <;> assumption
        exact hall t (List.mem_of_getElem? (by rw [Array.getElem?_toList]; exact ht))⟩)
    (by kernel_rfl)
#print axioms proved
end Go.Proofs.YtfljnigbfacmjaaDoor.typesParse
