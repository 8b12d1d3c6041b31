/- Methods of a nil Scheduler, and of one that New did not return. -/
import Derived.Test.YtoaellmjgejgfaaReady
namespace Go.Proofs.Ytoaellmjgejgfaa
open Go Go.RowKit Go.Shelf
set_option linter.unusedVariables false

def Odd (w : World) (p : Value) : Prop := p = .pointer none ∨ ∃ b, p = .pointer (some ⟨b, 0, none⟩) ∧ w.cell? ⟨b, 2, none⟩ = some (.int .i64 0)
theorem none_odd {w : World} {p : Value} (h : Odd w p) : Calls Try.prog 38 #[p] w fun e w' => e = .returned (.bool true) ∧ w = w' := by
  rcases h with rfl | ⟨b, rfl, hc⟩
  · exact none_nil w
  · exact none_any b 0 w hc

set_option maxRecDepth 100000 in
theorem begin_odd {w : World} {p : Value} (h : Odd w p) (n : Int) : Calls Try.prog 15 #[p, .int .i64 n] w fun e w' => e = .returned (.int .i64 38) ∧ w = w' := by
  have H := hid (none_odd h)
  clear h
  go_enter Try.func15, Try.ntmps15
  go_wp2_with fail
  refine H.out.mono ?_; rintro e w' ⟨rfl, rfl⟩
  go_wp2_with fail
  go_ret
  exact ⟨rfl, rfl⟩
set_option maxRecDepth 100000 in
theorem stop_odd {w : World} {p : Value} (h : Odd w p) (n : Int) : Calls Try.prog 41 #[p, .int .i64 n] w fun e w' => e = .returned (.int .i64 38) ∧ w = w' := by
  have H := hid (none_odd h)
  clear h
  go_enter Try.func41, Try.ntmps41
  go_wp2_with fail
  refine H.out.mono ?_; rintro e w' ⟨rfl, rfl⟩
  go_wp2_with fail
  go_ret
  exact ⟨rfl, rfl⟩
set_option maxRecDepth 100000 in
theorem finish_odd {w : World} {p : Value} (h : Odd w p) (n : Int) : Calls Try.prog 16 #[p, .int .i64 n] w fun e w' => e = .returned (.int .i64 38) ∧ w = w' := by
  have H := hid (stop_odd h n)
  clear h
  go_enter Try.func16, Try.ntmps16
  go_wp2_with fail
  refine H.out.mono ?_; rintro e w' ⟨rfl, rfl⟩
  go_wp2_with fail
  go_ret
  exact ⟨rfl, rfl⟩
set_option maxRecDepth 100000 in
theorem fail_odd {w : World} {p : Value} (h : Odd w p) (n : Int) : Calls Try.prog 17 #[p, .int .i64 n] w fun e w' => e = .returned (.tuple #[.slice none 0 0, .int .i64 38]) ∧ w = w' := by
  have H := hid (stop_odd h n)
  clear h
  go_enter Try.func17, Try.ntmps17
  go_wp2_with fail
  refine H.out.mono ?_; rintro e w' ⟨rfl, rfl⟩
  go_wp2_with fail
  go_ret2
  exact ⟨rfl, rfl⟩
set_option maxRecDepth 100000 in
theorem cancel_odd {w : World} {p : Value} (h : Odd w p) : Calls Try.prog 28 #[p] w fun e w' => e = .returned (.slice none 0 0) ∧ w = w' := by
  have H := hid (none_odd h)
  clear h
  go_enter Try.func28, Try.ntmps28
  go_wp2_with fail
  refine H.out.mono ?_; rintro e w' ⟨rfl, rfl⟩
  go_wp2_with fail
  go_ret
  exact ⟨rfl, rfl⟩
set_option maxRecDepth 100000 in
theorem running_odd {w : World} {p : Value} (h : Odd w p) : Calls Try.prog 19 #[p] w fun e w' => e = .returned (.slice none 0 0) ∧ w = w' := by
  have H := hid (none_odd h)
  clear h
  go_enter Try.func19, Try.ntmps19
  go_wp2_with fail
  refine H.out.mono ?_; rintro e w' ⟨rfl, rfl⟩
  go_wp2_with fail
  go_ret
  exact ⟨rfl, rfl⟩
set_option maxRecDepth 100000 in
theorem count_odd {w : World} {p : Value} (h : Odd w p) : Calls Try.prog 18 #[p] w fun e w' => e = .returned (.tuple #[.int .i64 0, .int .i64 0, .int .i64 0]) ∧ w = w' := by
  have H := hid (none_odd h)
  clear h
  go_enter Try.func18, Try.ntmps18
  go_wp2_with fail
  refine H.out.mono ?_; rintro e w' ⟨rfl, rfl⟩
  go_wp2_with fail
  refine bodyPost_ret (v := .tuple #[.int .i64 0, .int .i64 0, .int .i64 0]) (by simp [results, Try.results18, go_sem]) rfl ?_
  exact ⟨rfl, rfl⟩
theorem Odd.drewN {w : World} {p : Value} (h : Odd w p) (q : Nat) : Odd (w.drewN q) p := h.imp id fun ⟨b, e, hc⟩ => ⟨b, e, hc⟩
theorem Odd.below {w w' : World} {p : Value} (h : Odd w p) (hb : Below w.heap.size w w') : Odd w' p := h.imp id fun ⟨b, e, hc⟩ => ⟨b, e, by
  have hl := World.block_lt_of_cell? w _ hc
  rw [hb.cell (p := ⟨b, 2, none⟩) hl]; exact hc⟩
set_option maxRecDepth 100000 in
theorem done_odd {w : World} {p : Value} (h : Odd w p) : Calls Try.prog 20 #[p] w fun e w' => e = .returned (.bool false) ∧ ∃ q, w' = w.drewN q := by
  have H := hid fun q => none_odd (h.drewN q)
  clear h
  go_enter Try.func20, Try.ntmps20
  go_wp2_with fail
  go_quiet ((first | (go_at_call 38; exact Calls.quiet_of_same ((H.out _).mono fun _ _ h => ⟨h.1, h.2.symm⟩))))
  go_wp2_with fail
  go_ret
  exact ⟨rfl, _, rfl⟩
set_option maxRecDepth 100000 in
theorem ready_odd {w : World} {p : Value} (h : Odd w p) : Calls Try.prog 21 #[p] w fun e w' => e = .returned (.slice none 0 0) ∧ Below w.heap.size w w' := by
  have H := hid fun o => none_odd (h.below ((Below.refl w.heap.size w).alloc (Nat.le_refl _) o))
  rcases h with rfl | ⟨b, rfl, hc⟩
  · have hc := cells_in (heap_alloc_at w (.cells #[.pointer none] 25)) 0
    go_enter Try.func21, Try.ntmps21
    go_wp2_with fail
    refine (H.out _).mono ?_; rintro e w' ⟨rfl, rfl⟩
    go_wp2_with fail
    go_ret
    exact ⟨rfl, (Below.refl _ _).alloc (Nat.le_refl _) _⟩
  · clear hc
    go_enter Try.func21, Try.ntmps21
    go_wp2_with fail
    refine (H.out _).mono ?_; rintro e w' ⟨rfl, rfl⟩
    go_wp2_with fail
    go_ret
    exact ⟨rfl, (Below.refl _ _).alloc (Nat.le_refl _) _⟩
end Go.Proofs.Ytoaellmjgejgfaa
