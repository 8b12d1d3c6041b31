/- The statement ScheduleNew holds of the given program for every input. -/
import Derived.Test.YtoaellmjgejgfaaAwake
import Derived.Test.YtoaellmjgejgfaaRefNew
import Derived.Test.YtoaellmjgejgfaaOpen
namespace Go.Proofs.Ytoaellmjgejgfaa.scheduleNew
open Go.ChangeShapes Go.WideShapes Go.ChangeAt Go.RowKit Go.BigFrame
open Go.ChangeMaps (open_string shut_string)
set_option linter.unusedVariables false

theorem few_nd {ns : List (List Int)} (h : fewB ns = true) : ∀ j, j < ns.length → (nd ns j).length ≤ 50000 := fun j hj => by
  have := (few_spec h).2 (nd ns j) (by rw [nd, List.getD_eq_getElem?_getD, List.getElem?_eq_getElem hj]; exact List.getElem_mem hj)
  omega

set_option maxRecDepth 100000 in
set_option maxHeartbeats 1000000 in
theorem walk (v : Value) (ns : List (List Int)) (n : Int) (w : World) (hN : NView w v ns) (hl : ns.length ≤ 9223372036854775807) (hll : ∀ l ∈ ns, l.length ≤ 9223372036854775807) (wn : (Lit.int .i64 n).wf = true) :
    Calls Try.prog 3 #[v, .int .i64 n] w (BOOL w.heap.size w) := by
  clear wn
  have hfew := few_any w v ns hN hl hll
  have HN := hid hN
  cases hf : fewB ns with
  | false =>
    rw [hf] at hfew
    have Hfew := hid hfew
    clear hfew hN hll hf
    go_enter Try.func3, Try.ntmps3
    go_wp2_with fail
    refine Hfew.out.mono ?_; rintro e w' ⟨rfl, rfl⟩
    go_wp2_with fail
    refine (awake_any _).mono ?_; rintro e w5 ⟨rfl, hb⟩
    go_wp2_with fail
    go_ret
    exact ⟨rfl, hb⟩
  | true =>
    rw [hf] at hfew
    have hfs := few_spec hf
    have Hfew := hid hfew
    have HF := hid hf
    have hlen := hfs.1
    clear hfew hN hll hf hfs
    go_enter Try.func3, Try.ntmps3
    go_wp2_with fail
    refine Hfew.out.mono ?_; rintro e w' ⟨rfl, rfl⟩
    go_wp2_with fail
    refine (steps_any w v ns HN.out (by omega)).mono ?_; rintro e w1 ⟨v1, rfl, hs1, hb1⟩
    have HS1 := hid hs1
    have HB1 := hid hb1
    clear hs1 hb1
    go_wp2_with fail
    refine (new_any w1 v1 ns HS1.out n (by omega) (few_nd HF.out)).mono ?_; rintro e w2 hp
    rcases hp with ⟨c, hc, hcode, rfl, hb2⟩ | ⟨b, own, order, hcode, rfl, hb2, hrest⟩
    · have HB2 := hid (HB1.out.trans (hb2.mono HB1.out.size))
      have HCode := hid hcode
      have hd1 : decide (c = 0) = false := decide_eq_false hc
      have hd2 : (c == 0) = false := beq_eq_false_iff_ne.2 hc
      clear hb2 hcode
      go_wp2_with fail
      refine (steps_any w2 v ns (HN.out.keep (Keeps.below HB2.out)) (by omega)).mono ?_; rintro e w3 ⟨v3, rfl, hs3, hb3⟩
      have HS3 := hid hs3
      have HB3 := hid (HB2.out.trans (hb3.mono HB2.out.size))
      clear hs3 hb3
      go_wp2_with fail
      refine (rnew_any w3 v3 ns HS3.out n (by omega) (few_nd HF.out)).mono ?_; rintro e w4 ⟨vr, rfl, hb4, hr⟩
      rcases hr with ⟨_, rfl⟩ | ⟨h0, _⟩
      · have HB4 := hid (HB3.out.trans (hb4.mono HB3.out.size))
        have hcode := HCode.out
        rw [hcode]
        unfold zeroR
        clear hb4 hcode
        go_wp2_with fail
        have HB5 := hid (HB4.out.alloc HB4.out.size (.cells #[.slice none 0 0, .int .i64 0, .slice none 0 0] 33))
        refine (awake_any _).mono ?_; rintro e w5 ⟨rfl, hb⟩
        go_wp2_with fail
        go_ret
        exact ⟨rfl, HB5.out.trans (hb.mono HB5.out.size)⟩
      · exact absurd (HCode.out.symm.trans h0) hc
    · have HB2 := hid (HB1.out.trans (hb2.mono HB1.out.size))
      have HCode := hid hcode
      clear hb2 hcode hrest
      go_wp2_with fail
      refine (steps_any w2 v ns (HN.out.keep (Keeps.below HB2.out)) (by omega)).mono ?_; rintro e w3 ⟨v3, rfl, hs3, hb3⟩
      have HS3 := hid hs3
      have HB3 := hid (HB2.out.trans (hb3.mono HB2.out.size))
      clear hs3 hb3
      go_wp2_with fail
      refine (rnew_any w3 v3 ns HS3.out n (by omega) (few_nd HF.out)).mono ?_; rintro e w4 ⟨vr, rfl, hb4, hr⟩
      rcases hr with ⟨h0, _⟩ | ⟨_, vn, vs, rfl, hvn, hvs⟩
      · exact absurd HCode.out h0
      · have HB4 := hid (HB3.out.trans (hb4.mono HB3.out.size))
        obtain ⟨o5, c5, rfl⟩ := hvn.len
        obtain ⟨o6, c6, rfl⟩ := hvs.len
        have hcode := HCode.out
        rw [hcode]
        clear hb4 hcode hvn hvs
        rw [List.length_replicate]
        go_wp2_with fail
        have HB5 := hid (HB4.out.alloc HB4.out.size (.cells #[.slice o5 ns.length c5, .int .i64 n, .slice o6 ns.length c6] 33))
        refine (awake_any _).mono ?_; rintro e w5 ⟨rfl, hb⟩
        go_wp2_with fail
        go_ret
        exact ⟨rfl, HB5.out.trans (hb.mono HB5.out.size)⟩

theorem readable : ∀ t ∈ #[22, 3].toList, Try.prog.readableRec t = true ∧ t < Try.prog.types.size := by
  intro t ht
  have r3 : Try.prog.readableRec 3 = true ∧ 3 < Try.prog.types.size := ⟨by kernel_rfl, of_decide_eq_true (by kernel_rfl)⟩
  have r22 : Try.prog.readableRec 22 = true ∧ 22 < Try.prog.types.size := ⟨by kernel_rfl, of_decide_eq_true (by kernel_rfl)⟩
  have hm : t = 22 ∨ t = 3 := by simpa using ht
  rcases hm with rfl | rfl <;> assumption

theorem walkD {H : Type} (enc : TypeId × Value → H) (W : World) (base : Nat) (args : Array Value) (ds : List (DataW H)) (p : List MemPlace)
    (hval : ∀ (j : Nat) t v, #[22, 3][j]? = some t → args[j]? = some v → Value.okWide Try.prog W .any base t v)
    (hA : DataW.TrodAll enc Try.prog W 0 (fun _ => true) true #[22, 3].toList args.toList ds p) :
    (Calls Try.prog 3 args W (BOOL W.heap.size W)) ∧
    ((Rows.scheduleNewSpec.fn H (ds ++ [])).results = [.lit (.bool true)] ∧ (Rows.scheduleNewSpec.fn H (ds ++ [])).args = ds ∧ (Rows.scheduleNewSpec.fn H (ds ++ [])).vars = []) := by
  obtain ⟨v0, vs0, d0, ds0, p0, q0, hargs, rfl, rfl, h0, r0⟩ := trodAll_cons hA
  obtain ⟨v1, vs1, d1, ds1, p1, q1, rfl, rfl, rfl, h1, r1⟩ := trodAll_cons r0
  obtain ⟨rfl, rfl, rfl⟩ := trodAll_nil r1
  obtain rfl : args = #[v0, v1] := by cases args; simp_all
  obtain ⟨ns0, hN0, hl0, hll0⟩ := open_rows (hval 0 22 v0 rfl rfl) h0
  obtain ⟨a1, rfl, rfl, rfl, w1⟩ := open_int Try.underlying3 (hval 1 3 v1 rfl rfl) h1
  exact ⟨walk v0 ns0 a1 W hN0 hl0 hll0 w1, rfl, rfl, rfl⟩

/-! ### The row -/
set_option maxRecDepth 100000 in
theorem lifted (os : Os) (started : os.Started) (H : Type) (enc : TypeId × Value → H) :
    ReturnsInHanded {} Try.checked os 3 .any (Rows.scheduleNewSpec.pre6 enc Try.prog Try.f3 Rows.scheduleNewRow.domain false) (Rows.scheduleNewSpec.post enc Try.prog Try.f3 false true false false) := by
  refine returnsInHanded_of_change (C := Try.checked) own started (by kernel_rfl) Try.func3
    (ChangeSpec.witness6 (enc := enc) (C := Try.checked) false ⟨#[], #[.slice none 0 0, .int .i64 0], []⟩ 8 (by kernel_rfl) (by kernel_rfl) (by kernel_rfl) (by kernel_rfl)) ?_
  intro W base args ds gs before hval0 hW _ _
  have hW' := hW
  obtain ⟨p, q, hA, hV, _, _, _⟩ := hW
  obtain ⟨rfl, rfl⟩ := trodVars_none hV
  rw [Try.params3] at hA hval0
  obtain ⟨hcall, hds⟩ := walkD enc W base args ds p hval0 hA
  exact hcall.mono fun e W' ⟨he, hb⟩ => ⟨_, he, law_post hW' rfl (by rw [Try.params3]; exact readable) rfl hds hb⟩

theorem over : Rows.scheduleNewRow.holds Try.pinned (OpenSpec.ofChange Rows.scheduleNewSpec) :=
  OpenClaim.holds_of_wide 3 Try.f3 rfl rfl rfl rfl rfl rfl rfl ⟨rfl, rfl, rfl, rfl, rfl⟩ rfl rfl rfl rfl rfl (by kernel_rfl) Try.func3 (by kernel_rfl)
    (of_decide_eq_true (by kernel_rfl)) (by unfold Func.isWrapper; first | (rw [if_pos (by decide +kernel)]; kernel_rfl) | (rw [if_neg (by decide +kernel)]; exact ⟨rfl, rfl⟩))
    (fun os started H enc _ => lifted os started H enc)

theorem proved : Rows.ScheduleNewSaid :=
  over
#print axioms proved
end Go.Proofs.Ytoaellmjgejgfaa.scheduleNew
