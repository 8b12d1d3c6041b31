/- The methods of a Reader that can't read: they return zero values and change nothing. -/
import Derived.Test.YtdhfpgkncglgoaaAwake
namespace Go.Proofs.Ytdhfpgkncglgoaa
open Go.RowKit Go.BigFrame

theorem number_not (p : Value) (w : World) (h : Calls Try.prog 29 #[p] w fun e w' => e = .returned (.bool false) ∧ w = w') :
    Calls Try.prog 19 #[p] w fun e w' => e = .returned (.int .i64 0) ∧ w = w' := by
  have H := hid h
  clear h
  go_enter Try.func19, Try.ntmps19
  go_wp2_with fail
  refine (H.out).mono ?_; rintro e w' ⟨rfl, rfl⟩
  go_wp2_with fail
  go_ret
  exact ⟨rfl, rfl⟩
theorem string_not (p : Value) (w : World) (h : Calls Try.prog 29 #[p] w fun e w' => e = .returned (.bool false) ∧ w = w') :
    Calls Try.prog 18 #[p] w fun e w' => e = .returned (.string ⟨#[]⟩) ∧ w = w' := by
  have H := hid h
  clear h
  go_enter Try.func18, Try.ntmps18
  go_wp2_with fail
  refine (H.out).mono ?_; rintro e w' ⟨rfl, rfl⟩
  go_wp2_with fail
  go_ret
  exact ⟨rfl, rfl⟩
theorem count_not (p : Value) (n : Int) (w : World) (h : Calls Try.prog 29 #[p] w fun e w' => e = .returned (.bool false) ∧ w = w') :
    Calls Try.prog 25 #[p, .int .i64 n] w fun e w' => e = .returned (.int .i64 0) ∧ w = w' := by
  have H := hid h
  clear h
  go_enter Try.func25, Try.ntmps25
  go_wp2_with fail
  refine (H.out).mono ?_; rintro e w' ⟨rfl, rfl⟩
  go_wp2_with fail
  go_ret
  exact ⟨rfl, rfl⟩
end Go.Proofs.Ytdhfpgkncglgoaa
