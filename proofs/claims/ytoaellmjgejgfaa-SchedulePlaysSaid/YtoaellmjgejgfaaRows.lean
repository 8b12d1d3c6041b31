/-
  No cell of these rows narrows 'for every input' (looked for: loops, veiled, ifaces, maps, wideKeys, modest, calm, conditions, laid).
  DERIVED. THE GIVEN ROWS OF THIS SEAT. 7 by the template 'for every input the law returns true; each argument reads behind the call as it read before'; 0 by the template 'total and deterministic' (their statements: YtoaellmjgejgfaaTotals.lean).
  GIVEN WITH THE SEED: the statements are not yours to turn. If you find one false, say at which input.
  Laid BY PROGRAM, IN A SANDBOX (cutbox-rows.mjs): the forced cells as the released guide's own fill.sh prints them over the translation b3fa5fe0b2262b92… (all of the seat's roots in one cut). By AI agents, Wed Nov 11 2026. No macro, syntax, notation, axiom, sorry.
-/
import Derived.Test.YtoaellmjgejgfaaChecked
import GoSem.Claim
import GoSem.ClaimJoined
import GoSem.ClaimMapViews
import Derived.JoinedTies
import Derived.KernelRfl
namespace Go.Proofs.Ytoaellmjgejgfaa
/- THE CELL 'sum', in the pinned program and in every row, IS THE sha256 OF THE DUMP (.gsa) THAT YtoaellmjgejgfaaProg.lean LOADS. Nothing in Lean hashes anything: it is a label: what it is worth is what the hold of that sum in a sandbox is worth. -/
noncomputable def Try.pinned : Pinned := { name := "ytoaellmjgejgfaa", sum := "b3fa5fe0b2262b92056d146bdb4c500d362e93c1366493458071d2ebf0daa4c5", checked := Try.checked }
namespace Rows
def none {H : Type} : Left H := { results := [], args := [] }

/-- 'provisionlaw30.ScheduleNew': WHATEVER THE INPUT: true; the input reads as it did. -/
def scheduleNewSpec : ChangeSpec := { name := "scheduleNew", fn := fun _ => fun
  | [d1, d2] => { results := [.lit (.bool true)], args := [d1, d2] }
  | _ => none }
def scheduleNewRow : OpenClaim := { program := "ytoaellmjgejgfaa", sum := "b3fa5fe0b2262b92056d146bdb4c500d362e93c1366493458071d2ebf0daa4c5", func := "provision/provisionlaw30.ScheduleNew", spec := "scheduleNew", inPlace := ["slices.overlaps[int]"], unfollowed := true, recurses := true, apart := false }
def ScheduleNewSaid : Prop := scheduleNewRow.holds Try.pinned (OpenSpec.ofChange scheduleNewSpec)

/-- ITS FALSE NEIGHBOUR: 'it returns false'. Refute it at one input. -/
def scheduleNewWrong : ChangeSpec := { name := "scheduleNew", fn := fun _ => fun
  | [d1, d2] => { results := [.lit (.bool false)], args := [d1, d2] }
  | _ => none }
def ScheduleNewWrongFalsely : Prop := scheduleNewRow.holds Try.pinned (OpenSpec.ofChange scheduleNewWrong)

/-- 'provisionlaw30.ScheduleMany': WHATEVER THE INPUT: true; the input reads as it did. -/
def scheduleManySpec : ChangeSpec := { name := "scheduleMany", fn := fun _ => fun
  | [d1, d2] => { results := [.lit (.bool true)], args := [d1, d2] }
  | _ => none }
def scheduleManyRow : OpenClaim := { program := "ytoaellmjgejgfaa", sum := "b3fa5fe0b2262b92056d146bdb4c500d362e93c1366493458071d2ebf0daa4c5", func := "provision/provisionlaw30.ScheduleMany", spec := "scheduleMany", inPlace := ["slices.overlaps[int]"], unfollowed := true, recurses := true, apart := false }
def ScheduleManySaid : Prop := scheduleManyRow.holds Try.pinned (OpenSpec.ofChange scheduleManySpec)

/-- ITS FALSE NEIGHBOUR: 'it returns false'. Refute it at one input. -/
def scheduleManyWrong : ChangeSpec := { name := "scheduleMany", fn := fun _ => fun
  | [d1, d2] => { results := [.lit (.bool false)], args := [d1, d2] }
  | _ => none }
def ScheduleManyWrongFalsely : Prop := scheduleManyRow.holds Try.pinned (OpenSpec.ofChange scheduleManyWrong)

/-- 'provisionlaw30.ScheduleInterleavings': WHATEVER THE INPUT: true; the input reads as it did. -/
def scheduleInterleavingsSpec : ChangeSpec := { name := "scheduleInterleavings", fn := fun _ => fun
  | [d1, d2, d3] => { results := [.lit (.bool true)], args := [d1, d2, d3] }
  | _ => none }
def scheduleInterleavingsRow : OpenClaim := { program := "ytoaellmjgejgfaa", sum := "b3fa5fe0b2262b92056d146bdb4c500d362e93c1366493458071d2ebf0daa4c5", func := "provision/provisionlaw30.ScheduleInterleavings", spec := "scheduleInterleavings", inPlace := ["slices.overlaps[int]"], unfollowed := true, recurses := true, apart := false }
def ScheduleInterleavingsSaid : Prop := scheduleInterleavingsRow.holds Try.pinned (OpenSpec.ofChange scheduleInterleavingsSpec)

/-- ITS FALSE NEIGHBOUR: 'it returns false'. Refute it at one input. -/
def scheduleInterleavingsWrong : ChangeSpec := { name := "scheduleInterleavings", fn := fun _ => fun
  | [d1, d2, d3] => { results := [.lit (.bool false)], args := [d1, d2, d3] }
  | _ => none }
def ScheduleInterleavingsWrongFalsely : Prop := scheduleInterleavingsRow.holds Try.pinned (OpenSpec.ofChange scheduleInterleavingsWrong)

/-- 'provisionlaw30.ScheduleCompletes': WHATEVER THE INPUT: true; the input reads as it did. -/
def scheduleCompletesSpec : ChangeSpec := { name := "scheduleCompletes", fn := fun _ => fun
  | [d1, d2, d3] => { results := [.lit (.bool true)], args := [d1, d2, d3] }
  | _ => none }
def scheduleCompletesRow : OpenClaim := { program := "ytoaellmjgejgfaa", sum := "b3fa5fe0b2262b92056d146bdb4c500d362e93c1366493458071d2ebf0daa4c5", func := "provision/provisionlaw30.ScheduleCompletes", spec := "scheduleCompletes", inPlace := ["slices.overlaps[int]"], unfollowed := true, recurses := true, apart := false }
def ScheduleCompletesSaid : Prop := scheduleCompletesRow.holds Try.pinned (OpenSpec.ofChange scheduleCompletesSpec)

/-- ITS FALSE NEIGHBOUR: 'it returns false'. Refute it at one input. -/
def scheduleCompletesWrong : ChangeSpec := { name := "scheduleCompletes", fn := fun _ => fun
  | [d1, d2, d3] => { results := [.lit (.bool false)], args := [d1, d2, d3] }
  | _ => none }
def ScheduleCompletesWrongFalsely : Prop := scheduleCompletesRow.holds Try.pinned (OpenSpec.ofChange scheduleCompletesWrong)

/-- 'provisionlaw30.ScheduleFails': WHATEVER THE INPUT: true; the input reads as it did. -/
def scheduleFailsSpec : ChangeSpec := { name := "scheduleFails", fn := fun _ => fun
  | [d1, d2] => { results := [.lit (.bool true)], args := [d1, d2] }
  | _ => none }
def scheduleFailsRow : OpenClaim := { program := "ytoaellmjgejgfaa", sum := "b3fa5fe0b2262b92056d146bdb4c500d362e93c1366493458071d2ebf0daa4c5", func := "provision/provisionlaw30.ScheduleFails", spec := "scheduleFails", inPlace := ["slices.overlaps[int]"], unfollowed := true, recurses := true, apart := false }
def ScheduleFailsSaid : Prop := scheduleFailsRow.holds Try.pinned (OpenSpec.ofChange scheduleFailsSpec)

/-- ITS FALSE NEIGHBOUR: 'it returns false'. Refute it at one input. -/
def scheduleFailsWrong : ChangeSpec := { name := "scheduleFails", fn := fun _ => fun
  | [d1, d2] => { results := [.lit (.bool false)], args := [d1, d2] }
  | _ => none }
def ScheduleFailsWrongFalsely : Prop := scheduleFailsRow.holds Try.pinned (OpenSpec.ofChange scheduleFailsWrong)

/-- 'provisionlaw30.SchedulePlays': WHATEVER THE INPUT: true; the input reads as it did. -/
def schedulePlaysSpec : ChangeSpec := { name := "schedulePlays", fn := fun _ => fun
  | [d1, d2, d3] => { results := [.lit (.bool true)], args := [d1, d2, d3] }
  | _ => none }
def schedulePlaysRow : OpenClaim := { program := "ytoaellmjgejgfaa", sum := "b3fa5fe0b2262b92056d146bdb4c500d362e93c1366493458071d2ebf0daa4c5", func := "provision/provisionlaw30.SchedulePlays", spec := "schedulePlays", inPlace := ["slices.overlaps[int]"], unfollowed := true, recurses := true, apart := false }
def SchedulePlaysSaid : Prop := schedulePlaysRow.holds Try.pinned (OpenSpec.ofChange schedulePlaysSpec)

/-- ITS FALSE NEIGHBOUR: 'it returns false'. Refute it at one input. -/
def schedulePlaysWrong : ChangeSpec := { name := "schedulePlays", fn := fun _ => fun
  | [d1, d2, d3] => { results := [.lit (.bool false)], args := [d1, d2, d3] }
  | _ => none }
def SchedulePlaysWrongFalsely : Prop := schedulePlaysRow.holds Try.pinned (OpenSpec.ofChange schedulePlaysWrong)

/-- 'provisionlaw30.ScheduleNobody': WHATEVER THE INPUT: true; the input reads as it did. -/
def scheduleNobodySpec : ChangeSpec := { name := "scheduleNobody", fn := fun _ => fun
  | [d] => { results := [.lit (.bool true)], args := [d] }
  | _ => none }
def scheduleNobodyRow : OpenClaim := { program := "ytoaellmjgejgfaa", sum := "b3fa5fe0b2262b92056d146bdb4c500d362e93c1366493458071d2ebf0daa4c5", func := "provision/provisionlaw30.ScheduleNobody", spec := "scheduleNobody", inPlace := ["slices.overlaps[int]"], unfollowed := true, recurses := true, apart := false }
def ScheduleNobodySaid : Prop := scheduleNobodyRow.holds Try.pinned (OpenSpec.ofChange scheduleNobodySpec)

/-- ITS FALSE NEIGHBOUR: 'it returns false'. Refute it at one input. -/
def scheduleNobodyWrong : ChangeSpec := { name := "scheduleNobody", fn := fun _ => fun
  | [d] => { results := [.lit (.bool false)], args := [d] }
  | _ => none }
def ScheduleNobodyWrongFalsely : Prop := scheduleNobodyRow.holds Try.pinned (OpenSpec.ofChange scheduleNobodyWrong)

/- THE SECOND FORM. 'bulk': how many values and letters a reading holds, each counted each time it is reached (what is shared counts as often as it is met; a slice's spare places count too). A statement '..UptoSaid' is the law's where the arguments, and the package variables that the reading takes, are together of bulk at most 1048576: NARROWER than '..Said'. Prove '..Said' where nothing that the law and all that it calls make is longer than what came in: it says more and counts as full. Else prove '..UptoSaid'. A law counts once. -/
mutual
def uptoBulk {H : Type} : DataW H → Nat
  | .lit (.string bytes) => bytes.length + 1
  | .lit _ => 1
  | .nil => 1
  | .ptr d => uptoBulk d + 1
  | .slice elems spare => uptoBulkAll elems + uptoBulkAll spare + 1
  | .agg parts => uptoBulkAll parts + 1
  | .iface _ d => uptoBulk d + 1
  | .map entries => uptoBulkEntries entries + 1
  | .held _ => 1
def uptoBulkAll {H : Type} : List (DataW H) → Nat
  | [] => 0
  | d :: r => uptoBulk d + uptoBulkAll r
def uptoBulkEntries {H : Type} : List (Lit × DataW H) → Nat
  | [] => 0
  | x :: r => uptoBulkEntry x + uptoBulkEntries r
def uptoBulkEntry {H : Type} : Lit × DataW H → Nat
  | (.string bytes, d) => bytes.length + uptoBulk d + 1
  | (_, d) => uptoBulk d + 1
 end
def uptoSmall : (H : Type) → List (DataW H) → Bool := fun _ ds => decide (uptoBulkAll ds ≤ 1048576)
def OpenSpec.upto (s : _root_.Go.ChangeSpec) : _root_.Go.OpenSpec := { _root_.Go.OpenSpec.ofChange s with cond := some uptoSmall }

/-- 'provisionlaw30.ScheduleNew', WHERE WHAT IT READS IS OF BULK AT MOST 1048576: true; the input reads as it did. -/
def scheduleNewUptoRow : OpenClaim := { program := "ytoaellmjgejgfaa", sum := "b3fa5fe0b2262b92056d146bdb4c500d362e93c1366493458071d2ebf0daa4c5", func := "provision/provisionlaw30.ScheduleNew", spec := "scheduleNew", inPlace := ["slices.overlaps[int]"], unfollowed := true, recurses := true, apart := false, narrowed := true }
def ScheduleNewUptoSaid : Prop := scheduleNewUptoRow.holds Try.pinned (OpenSpec.upto scheduleNewSpec)

/-- 'provisionlaw30.ScheduleMany', WHERE WHAT IT READS IS OF BULK AT MOST 1048576: true; the input reads as it did. -/
def scheduleManyUptoRow : OpenClaim := { program := "ytoaellmjgejgfaa", sum := "b3fa5fe0b2262b92056d146bdb4c500d362e93c1366493458071d2ebf0daa4c5", func := "provision/provisionlaw30.ScheduleMany", spec := "scheduleMany", inPlace := ["slices.overlaps[int]"], unfollowed := true, recurses := true, apart := false, narrowed := true }
def ScheduleManyUptoSaid : Prop := scheduleManyUptoRow.holds Try.pinned (OpenSpec.upto scheduleManySpec)

/-- 'provisionlaw30.ScheduleInterleavings', WHERE WHAT IT READS IS OF BULK AT MOST 1048576: true; the input reads as it did. -/
def scheduleInterleavingsUptoRow : OpenClaim := { program := "ytoaellmjgejgfaa", sum := "b3fa5fe0b2262b92056d146bdb4c500d362e93c1366493458071d2ebf0daa4c5", func := "provision/provisionlaw30.ScheduleInterleavings", spec := "scheduleInterleavings", inPlace := ["slices.overlaps[int]"], unfollowed := true, recurses := true, apart := false, narrowed := true }
def ScheduleInterleavingsUptoSaid : Prop := scheduleInterleavingsUptoRow.holds Try.pinned (OpenSpec.upto scheduleInterleavingsSpec)

/-- 'provisionlaw30.ScheduleCompletes', WHERE WHAT IT READS IS OF BULK AT MOST 1048576: true; the input reads as it did. -/
def scheduleCompletesUptoRow : OpenClaim := { program := "ytoaellmjgejgfaa", sum := "b3fa5fe0b2262b92056d146bdb4c500d362e93c1366493458071d2ebf0daa4c5", func := "provision/provisionlaw30.ScheduleCompletes", spec := "scheduleCompletes", inPlace := ["slices.overlaps[int]"], unfollowed := true, recurses := true, apart := false, narrowed := true }
def ScheduleCompletesUptoSaid : Prop := scheduleCompletesUptoRow.holds Try.pinned (OpenSpec.upto scheduleCompletesSpec)

/-- 'provisionlaw30.ScheduleFails', WHERE WHAT IT READS IS OF BULK AT MOST 1048576: true; the input reads as it did. -/
def scheduleFailsUptoRow : OpenClaim := { program := "ytoaellmjgejgfaa", sum := "b3fa5fe0b2262b92056d146bdb4c500d362e93c1366493458071d2ebf0daa4c5", func := "provision/provisionlaw30.ScheduleFails", spec := "scheduleFails", inPlace := ["slices.overlaps[int]"], unfollowed := true, recurses := true, apart := false, narrowed := true }
def ScheduleFailsUptoSaid : Prop := scheduleFailsUptoRow.holds Try.pinned (OpenSpec.upto scheduleFailsSpec)

/-- 'provisionlaw30.SchedulePlays', WHERE WHAT IT READS IS OF BULK AT MOST 1048576: true; the input reads as it did. -/
def schedulePlaysUptoRow : OpenClaim := { program := "ytoaellmjgejgfaa", sum := "b3fa5fe0b2262b92056d146bdb4c500d362e93c1366493458071d2ebf0daa4c5", func := "provision/provisionlaw30.SchedulePlays", spec := "schedulePlays", inPlace := ["slices.overlaps[int]"], unfollowed := true, recurses := true, apart := false, narrowed := true }
def SchedulePlaysUptoSaid : Prop := schedulePlaysUptoRow.holds Try.pinned (OpenSpec.upto schedulePlaysSpec)

/-- 'provisionlaw30.ScheduleNobody', WHERE WHAT IT READS IS OF BULK AT MOST 1048576: true; the input reads as it did. -/
def scheduleNobodyUptoRow : OpenClaim := { program := "ytoaellmjgejgfaa", sum := "b3fa5fe0b2262b92056d146bdb4c500d362e93c1366493458071d2ebf0daa4c5", func := "provision/provisionlaw30.ScheduleNobody", spec := "scheduleNobody", inPlace := ["slices.overlaps[int]"], unfollowed := true, recurses := true, apart := false, narrowed := true }
def ScheduleNobodyUptoSaid : Prop := scheduleNobodyUptoRow.holds Try.pinned (OpenSpec.upto scheduleNobodySpec)

end Rows
end Go.Proofs.Ytoaellmjgejgfaa
