/- word; Format. -/
import Derived.Test.YtfljnigbfacmjaaGreatDoorSmall
import Derived.Test.YtfljnigbfacmjaaGreatDoorSteady
import Derived.Test.YtfljnigbfacmjaaGreatDoorShelf
import Derived.WalkLawsBesides
namespace Go.Proofs.YtfljnigbfacmjaaGreatDoor
open Go Go.RowKit Go.Proofs.YtfljnigbfacmjaaGreatDoor.Steady
set_option linter.unusedVariables false

set_option maxRecDepth 100000 in
set_option maxHeartbeats 4000000 in
theorem word_any (k : Int) (w : World) : Calls Tryz.prog 46 #[.int .i64 k] w fun e w' => e = .returned (.string (wordS k)) ∧ w = w' := by
  by_cases h : k = 1
  · subst h
    go_enter Tryz.func46, Tryz.ntmps46
    go_wp2_with fail
    go_ret
    exact ⟨rfl, rfl⟩
  have d1 : decide (k = 1) = false := decide_eq_false h
  have e1 : (k == 1) = false := beq_eq_false_iff_ne.2 h
  have n1 := h
  clear h
  by_cases h : k = 2
  · subst h
    go_enter Tryz.func46, Tryz.ntmps46
    go_wp2_with fail
    go_ret
    exact ⟨rfl, rfl⟩
  have d2 : decide (k = 2) = false := decide_eq_false h
  have e2 : (k == 2) = false := beq_eq_false_iff_ne.2 h
  have n2 := h
  clear h
  by_cases h : k = 3
  · subst h
    go_enter Tryz.func46, Tryz.ntmps46
    go_wp2_with fail
    go_ret
    exact ⟨rfl, rfl⟩
  have d3 : decide (k = 3) = false := decide_eq_false h
  have e3 : (k == 3) = false := beq_eq_false_iff_ne.2 h
  have n3 := h
  clear h
  by_cases h : k = 4
  · subst h
    go_enter Tryz.func46, Tryz.ntmps46
    go_wp2_with fail
    go_ret
    exact ⟨rfl, rfl⟩
  have d4 : decide (k = 4) = false := decide_eq_false h
  have e4 : (k == 4) = false := beq_eq_false_iff_ne.2 h
  have n4 := h
  clear h
  by_cases h : k = 5
  · subst h
    go_enter Tryz.func46, Tryz.ntmps46
    go_wp2_with fail
    go_ret
    exact ⟨rfl, rfl⟩
  have d5 : decide (k = 5) = false := decide_eq_false h
  have e5 : (k == 5) = false := beq_eq_false_iff_ne.2 h
  have n5 := h
  clear h
  by_cases h : k = 6
  · subst h
    go_enter Tryz.func46, Tryz.ntmps46
    go_wp2_with fail
    go_ret
    exact ⟨rfl, rfl⟩
  have d6 : decide (k = 6) = false := decide_eq_false h
  have e6 : (k == 6) = false := beq_eq_false_iff_ne.2 h
  have n6 := h
  clear h
  have hp : wordS k = ⟨#[97, 110, 121]⟩ := by unfold wordS; rw [if_neg n1, if_neg n2, if_neg n3, if_neg n4, if_neg n5, if_neg n6]
  have HP := hid hp
  clear n1 n2 n3 n4 n5 n6 hp
  go_enter Tryz.func46, Tryz.ntmps46
  go_wp2_with fail
  go_ret
  exact ⟨by rw [HP.out]; rfl, rfl⟩
theorem wordS_size (k : Int) : (wordS k).size ≤ 6 := by
  unfold wordS
  repeat' split
  all_goals decide
end Go.Proofs.YtfljnigbfacmjaaGreatDoor
