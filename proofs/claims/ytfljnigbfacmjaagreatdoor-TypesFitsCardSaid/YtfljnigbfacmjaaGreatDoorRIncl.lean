/- Types whose maps have one element. -/
import Derived.Test.YtfljnigbfacmjaaGreatDoorIncl
namespace Go.Proofs.YtfljnigbfacmjaaGreatDoor
open Go Go.RowKit Go.Proofs.YtfljnigbfacmjaaGreatDoor.Steady
set_option linter.unusedVariables false
mutual
def mapsT : Ty → Bool
  | .mk k es _ => (decide (k ≠ 5) || decide (es.length = 1)) && mapsL es
def mapsL : List Ty → Bool
  | [] => true
  | e :: l => mapsT e && mapsL l
end
theorem mapsL_mem : ∀ {l : List Ty} {e : Ty}, mapsL l = true → e ∈ l → mapsT e = true
  | x :: l, e, h, hm => by
    rw [mapsL, Bool.and_eq_true] at h
    rcases List.mem_cons.1 hm with rfl | hm
    · exact h.1
    · exact mapsL_mem h.2 hm
theorem all_drop {f : Ty → Bool} {l : List Ty} {k : Nat} (h : k < l.length) : (l.drop k).all f = (f l[k] && (l.drop (k + 1)).all f) := by
  rw [List.drop_eq_getElem_cons h, List.all_cons]
end Go.Proofs.YtfljnigbfacmjaaGreatDoor
