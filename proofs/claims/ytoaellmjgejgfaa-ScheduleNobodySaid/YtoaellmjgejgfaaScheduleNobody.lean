/- The statement ScheduleNobody holds of the given program for every input. -/
import Derived.Test.YtoaellmjgejgfaaNone
import Derived.Test.YtoaellmjgejgfaaAwake
import Derived.Test.YtoaellmjgejgfaaFrame
namespace Go.Proofs.Ytoaellmjgejgfaa.scheduleNobody
open Go.ChangeShapes Go.WideShapes Go.ChangeAt Go.RowKit Go.BigFrame
open Go.ChangeMaps (open_string shut_string)
set_option linter.unusedVariables false

set_option maxRecDepth 100000 in
set_option maxHeartbeats 4000000 in
theorem walk (n : Int) (w1 : (Lit.int .i64 n).wf = true) (w : World) :
    Calls Try.prog 9 #[.int .i64 n] w (BOOL w.heap.size w) := by
  clear w1
  have ho : Odd (w.alloc (.cells #[.slice none 0 0, .slice none 0 0, .int .i64 0, .slice none 0 0, .slice none 0 0, .slice none 0 0, .slice none 0 0, .slice none 0 0] 63)) (.pointer (some ⟨w.heap.size, 0, none⟩)) :=
    .inr ⟨_, rfl, by rw [cells_in (heap_alloc_at w _)]; rfl⟩
  have hn : ∀ W, Odd W (.pointer none) := fun W => .inl rfl
  have hB : Below w.heap.size w (w.alloc (.cells #[.slice none 0 0, .slice none 0 0, .int .i64 0, .slice none 0 0, .slice none 0 0, .slice none 0 0, .slice none 0 0, .slice none 0 0] 63)) := (Below.refl _ _).alloc (Nat.le_refl _) _
  have HO := hid ho
  have HN := hid hn
  have HB := hid hB
  clear ho hn hB
  go_enter Try.func9, Try.ntmps9
  go_wp2_with fail
  generalize w.alloc (.cells #[.slice none 0 0, .slice none 0 0, .int .i64 0, .slice none 0 0, .slice none 0 0, .slice none 0 0, .slice none 0 0, .slice none 0 0] 63) = wa at *
  generalize hb : w.heap.size = b at *
  have Hb := hid hb
  clear hb
  refine (fail_odd (HN.out _) n).mono ?_; rintro e w' ⟨rfl, rfl⟩
  go_wp2_with fail
  refine (fail_odd HO.out n).mono ?_; rintro e w' ⟨rfl, rfl⟩
  go_wp2_with fail
  refine (count_odd (HN.out _)).mono ?_; rintro e w' ⟨rfl, rfl⟩
  go_wp2_with fail
  refine (count_odd HO.out).mono ?_; rintro e w' ⟨rfl, rfl⟩
  go_wp2_with fail
  refine (ready_odd (HN.out _)).mono ?_; rintro e w1 ⟨rfl, hb⟩
  have HO1 := hid (HO.out.below hb)
  have HB1 := hid (HB.out.trans (hb.mono (by have h1 := HB.out.size; have h2 := Hb.out; omega)))
  clear HO HB hb
  have HO := HO1
  have HB := HB1
  clear HO1 HB1
  go_wp2_with fail
  refine (ready_odd HO.out).mono ?_; rintro e w2 ⟨rfl, hb⟩
  have HO2 := hid (HO.out.below hb)
  have HB2 := hid (HB.out.trans (hb.mono (by have h1 := HB.out.size; have h2 := Hb.out; omega)))
  clear HO HB hb
  have HO := HO2
  have HB := HB2
  clear HO2 HB2
  go_wp2_with fail
  refine (cancel_odd (HN.out _)).mono ?_; rintro e w' ⟨rfl, rfl⟩
  go_wp2_with fail
  refine (cancel_odd HO.out).mono ?_; rintro e w' ⟨rfl, rfl⟩
  go_wp2_with fail
  refine (running_odd (HN.out _)).mono ?_; rintro e w' ⟨rfl, rfl⟩
  go_wp2_with fail
  refine (running_odd HO.out).mono ?_; rintro e w' ⟨rfl, rfl⟩
  go_wp2_with fail
  refine (begin_odd (HN.out _) n).mono ?_; rintro e w' ⟨rfl, rfl⟩
  go_wp2_with fail
  refine (begin_odd HO.out n).mono ?_; rintro e w' ⟨rfl, rfl⟩
  go_wp2_with fail
  refine (finish_odd (HN.out _) n).mono ?_; rintro e w' ⟨rfl, rfl⟩
  go_wp2_with fail
  refine (finish_odd HO.out n).mono ?_; rintro e w' ⟨rfl, rfl⟩
  go_wp2_with fail
  refine (done_odd (HN.out _)).mono ?_; rintro e w3 ⟨rfl, q3, rfl⟩
  go_wp2_with fail
  refine (done_odd (HO.out.drewN _)).mono ?_; rintro e w4 ⟨rfl, q4, rfl⟩
  go_wp2_with fail
  refine (awake_any _).mono ?_; rintro e w5 ⟨rfl, hb⟩
  go_wp2_with fail
  go_ret
  refine ⟨rfl, ?_⟩

  exact (below_drewN HB.out _).trans (hb.mono (show b ≤ w2.heap.size by have h1 := HB.out.size; have h2 := Hb.out; omega))

theorem readable : ∀ t ∈ #[3].toList, Try.prog.readableRec t = true ∧ t < Try.prog.types.size := by
  intro t ht
  have r3 : Try.prog.readableRec 3 = true ∧ 3 < Try.prog.types.size := ⟨by kernel_rfl, of_decide_eq_true (by kernel_rfl)⟩
  have hm : t = 3 := by simpa using ht
  rcases hm with rfl <;> assumption

theorem walkD {H : Type} (enc : TypeId × Value → H) (W : World) (base : Nat) (args : Array Value) (ds : List (DataW H)) (p : List MemPlace)
    (hval : ∀ (j : Nat) t v, #[3][j]? = some t → args[j]? = some v → Value.okWide Try.prog W .any base t v)
    (hA : DataW.TrodAll enc Try.prog W 0 (fun _ => true) true #[3].toList args.toList ds p) :
    (Calls Try.prog 9 args W (BOOL W.heap.size W)) ∧
    ((Rows.scheduleNobodySpec.fn H (ds ++ [])).results = [.lit (.bool true)] ∧ (Rows.scheduleNobodySpec.fn H (ds ++ [])).args = ds ∧ (Rows.scheduleNobodySpec.fn H (ds ++ [])).vars = []) := by
  obtain ⟨v0, vs0, d0, ds0, p0, q0, hargs, rfl, rfl, h0, r0⟩ := trodAll_cons hA
  obtain ⟨rfl, rfl, rfl⟩ := trodAll_nil r0
  obtain rfl : args = #[v0] := by cases args; simp_all
  obtain ⟨a0, rfl, rfl, rfl, w0⟩ := open_int Try.underlying3 (hval 0 3 v0 rfl rfl) h0
  exact ⟨walk a0 w0 W, rfl, rfl, rfl⟩

/-! ### The row -/
set_option maxRecDepth 100000 in
theorem lifted (os : Os) (started : os.Started) (H : Type) (enc : TypeId × Value → H) :
    ReturnsInHanded {} Try.checked os 9 .any (Rows.scheduleNobodySpec.pre6 enc Try.prog Try.f9 Rows.scheduleNobodyRow.domain false) (Rows.scheduleNobodySpec.post enc Try.prog Try.f9 false true false false) := by
  refine returnsInHanded_of_change (C := Try.checked) own started (by kernel_rfl) Try.func9
    (ChangeSpec.witness6 (enc := enc) (C := Try.checked) false ⟨#[], #[.int .i64 0], []⟩ 8 (by kernel_rfl) (by kernel_rfl) (by kernel_rfl) (by kernel_rfl)) ?_
  intro W base args ds gs before hval0 hW _ _
  have hW' := hW
  obtain ⟨p, q, hA, hV, _, _, _⟩ := hW
  obtain ⟨rfl, rfl⟩ := trodVars_none hV
  rw [Try.params9] at hA hval0
  obtain ⟨hcall, hds⟩ := walkD enc W base args ds p hval0 hA
  exact hcall.mono fun e W' ⟨he, hb⟩ => ⟨_, he, law_post hW' rfl (by rw [Try.params9]; exact readable) rfl hds hb⟩

theorem over : Rows.scheduleNobodyRow.holds Try.pinned (OpenSpec.ofChange Rows.scheduleNobodySpec) :=
  OpenClaim.holds_of_wide 9 Try.f9 rfl rfl rfl rfl rfl rfl rfl ⟨rfl, rfl, rfl, rfl, rfl⟩ rfl rfl rfl rfl rfl (by kernel_rfl) Try.func9 (by kernel_rfl)
    (of_decide_eq_true (by kernel_rfl)) (by unfold Func.isWrapper; first | (rw [if_pos (by decide +kernel)]; kernel_rfl) | (rw [if_neg (by decide +kernel)]; exact ⟨rfl, rfl⟩))
    (fun os started H enc _ => lifted os started H enc)

theorem proved : Rows.ScheduleNobodySaid :=
  over
#print axioms proved
end Go.Proofs.Ytoaellmjgejgfaa.scheduleNobody
