/- The statement ScheduleMany holds of the given program for every input. -/
import Derived.Test.YtoaellmjgejgfaaAwake
import Derived.Test.YtoaellmjgejgfaaFrame
namespace Go.Proofs.Ytoaellmjgejgfaa.scheduleMany
open Go.ChangeShapes Go.WideShapes Go.ChangeAt Go.RowKit Go.BigFrame
open Go.ChangeMaps (open_string shut_string)
set_option linter.unusedVariables false

theorem make_steps (w : World) (n : Int) (h0 : 0 ≤ n) (h1 : n ≤ 1000000) : ∃ o, (Instr.makeSlice 29 (.int .i64 n) (.int .i64 n)).run Try.prog w =
    .ok (.slice (some ⟨w.heap.size, 0, none⟩) n.toNat n.toNat) (w.alloc o) := by
  obtain ⟨i, hi, hz, hs, hb⟩ := info_parts info67
  exact ⟨_, run_make (P := Try.prog) w 29 67 i _ Try.underlying29 hi hz .i64 .i64 n n h0 (Int.le_refl _) (by rw [hb]; omega) (by omega)⟩

set_option maxRecDepth 100000 in
set_option maxHeartbeats 1000000 in
theorem walk (m n : Int) (wm : (Lit.int .u8 m).wf = true) (wn : (Lit.int .i64 n).wf = true) (w : World) :
    Calls Try.prog 4 #[.int .u8 m, .int .i64 n] w (BOOL w.heap.size w) := by
  have hm : 0 ≤ m ∧ m ≤ 255 := by
    have e1 : IntKind.u8.min = 0 := by decide
    have e2 : IntKind.u8.max = 255 := by decide
    simp only [Lit.wf, Bool.and_eq_true, decide_eq_true_eq, e1, e2] at wm
    exact wm
  clear wm wn
  obtain ⟨hm0, hm1⟩ := hm
  obtain ⟨o, hmk⟩ := make_steps w (2049 + m) (by omega) (by omega)
  have hnew := fun W => new_many (some ⟨w.heap.size, 0, none⟩) (2049 + m).toNat (2049 + m).toNat (by omega) (by omega) n W
  have Hnew := hid hnew
  have HB := hid ((Below.refl w.heap.size w).alloc (Nat.le_refl _) o)
  clear hnew
  go_enter Try.func4, Try.ntmps4
  go_wp2_with fail
  refine (Hnew.out _).mono ?_; rintro e w' ⟨rfl, rfl⟩
  go_wp2_with fail
  refine (awake_any _).mono ?_; rintro e w5 ⟨rfl, hb⟩
  go_wp2_with fail
  go_ret
  exact ⟨rfl, HB.out.trans (hb.mono HB.out.size)⟩

theorem readable : ∀ t ∈ #[5, 3].toList, Try.prog.readableRec t = true ∧ t < Try.prog.types.size := by
  intro t ht
  have r3 : Try.prog.readableRec 3 = true ∧ 3 < Try.prog.types.size := ⟨by kernel_rfl, of_decide_eq_true (by kernel_rfl)⟩
  have r5 : Try.prog.readableRec 5 = true ∧ 5 < Try.prog.types.size := ⟨by kernel_rfl, of_decide_eq_true (by kernel_rfl)⟩
  have hm : t = 5 ∨ t = 3 := by simpa using ht
  rcases hm with rfl | rfl <;> assumption

theorem walkD {H : Type} (enc : TypeId × Value → H) (W : World) (base : Nat) (args : Array Value) (ds : List (DataW H)) (p : List MemPlace)
    (hval : ∀ (j : Nat) t v, #[5, 3][j]? = some t → args[j]? = some v → Value.okWide Try.prog W .any base t v)
    (hA : DataW.TrodAll enc Try.prog W 0 (fun _ => true) true #[5, 3].toList args.toList ds p) :
    (Calls Try.prog 4 args W (BOOL W.heap.size W)) ∧
    ((Rows.scheduleManySpec.fn H (ds ++ [])).results = [.lit (.bool true)] ∧ (Rows.scheduleManySpec.fn H (ds ++ [])).args = ds ∧ (Rows.scheduleManySpec.fn H (ds ++ [])).vars = []) := by
  obtain ⟨v0, vs0, d0, ds0, p0, q0, hargs, rfl, rfl, h0, r0⟩ := trodAll_cons hA
  obtain ⟨v1, vs1, d1, ds1, p1, q1, rfl, rfl, rfl, h1, r1⟩ := trodAll_cons r0
  obtain ⟨rfl, rfl, rfl⟩ := trodAll_nil r1
  obtain rfl : args = #[v0, v1] := by cases args; simp_all
  obtain ⟨a0, rfl, rfl, rfl, w0⟩ := open_int Try.underlying5 (hval 0 5 v0 rfl rfl) h0
  obtain ⟨a1, rfl, rfl, rfl, w1⟩ := open_int Try.underlying3 (hval 1 3 v1 rfl rfl) h1
  exact ⟨walk a0 a1 w0 w1 W, rfl, rfl, rfl⟩

/-! ### The row -/
set_option maxRecDepth 100000 in
theorem lifted (os : Os) (started : os.Started) (H : Type) (enc : TypeId × Value → H) :
    ReturnsInHanded {} Try.checked os 4 .any (Rows.scheduleManySpec.pre6 enc Try.prog Try.f4 Rows.scheduleManyRow.domain false) (Rows.scheduleManySpec.post enc Try.prog Try.f4 false true false false) := by
  refine returnsInHanded_of_change (C := Try.checked) own started (by kernel_rfl) Try.func4
    (ChangeSpec.witness6 (enc := enc) (C := Try.checked) false ⟨#[], #[.int .u8 0, .int .i64 0], []⟩ 8 (by kernel_rfl) (by kernel_rfl) (by kernel_rfl) (by kernel_rfl)) ?_
  intro W base args ds gs before hval0 hW _ _
  have hW' := hW
  obtain ⟨p, q, hA, hV, _, _, _⟩ := hW
  obtain ⟨rfl, rfl⟩ := trodVars_none hV
  rw [Try.params4] at hA hval0
  obtain ⟨hcall, hds⟩ := walkD enc W base args ds p hval0 hA
  exact hcall.mono fun e W' ⟨he, hb⟩ => ⟨_, he, law_post hW' rfl (by rw [Try.params4]; exact readable) rfl hds hb⟩

theorem over : Rows.scheduleManyRow.holds Try.pinned (OpenSpec.ofChange Rows.scheduleManySpec) :=
  OpenClaim.holds_of_wide 4 Try.f4 rfl rfl rfl rfl rfl rfl rfl ⟨rfl, rfl, rfl, rfl, rfl⟩ rfl rfl rfl rfl rfl (by kernel_rfl) Try.func4 (by kernel_rfl)
    (of_decide_eq_true (by kernel_rfl)) (by unfold Func.isWrapper; first | (rw [if_pos (by decide +kernel)]; kernel_rfl) | (rw [if_neg (by decide +kernel)]; exact ⟨rfl, rfl⟩))
    (fun os started H enc _ => lifted os started H enc)

theorem proved : Rows.ScheduleManySaid :=
  over
#print axioms proved
end Go.Proofs.Ytoaellmjgejgfaa.scheduleMany
