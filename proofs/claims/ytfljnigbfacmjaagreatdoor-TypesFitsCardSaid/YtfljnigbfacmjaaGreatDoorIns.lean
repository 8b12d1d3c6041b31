/- Where a name belongs: BinarySearch. -/
import Derived.Test.YtfljnigbfacmjaaGreatDoorRead
namespace Go.Proofs.YtfljnigbfacmjaaGreatDoor
open Go Go.RowKit
set_option linter.unusedVariables false

theorem posN_nil (x : ByteArray) : posN [] x = 0 := by unfold posN; rfl
theorem bsearch_any (P : Nat → Prop) (w : World) (u : Value) (l : List ByteArray) (x : ByteArray) (h : SV P w u l) :
    Calls Tryz.prog 80 #[u, .string x] w fun e w' => (∃ b, e = .returned (.tuple #[.int .i64 (posN l x : Nat), .bool b])) ∧ ∃ q, w' = w.drewN q := by
  have hl := h.le
  rcases h.1.2 with ⟨h0, oa, c, rfl⟩ | ⟨g, o, c, hp, rfl, hc⟩
  · obtain rfl : l = [] := by simpa using h0
    exact (Any2.slices_BinarySearch_string_empty Tryz.laysNm226 oa c x w).mono fun e w' ⟨h1, h2⟩ => ⟨⟨false, by rw [h1, posN_nil]; rfl⟩, 0, h2⟩
  · rw [List.length_map]
    refine (Any2.slices_BinarySearch_string Tryz.laysNm226 g o l.length c (fun t => l.getD t ByteArray.empty) x w (by omega) fun j hj => ?_).mono fun e w' ⟨h1, h2⟩ => ⟨⟨_, h1⟩, h2⟩
    refine hc j _ ?_
    rw [List.getElem?_map, List.getElem?_eq_getElem hj]
    simp [List.getD, hj]
end Go.Proofs.YtfljnigbfacmjaaGreatDoor
