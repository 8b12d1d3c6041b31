/-
  NARROWER THAN 'FOR EVERY INPUT', by the rows' own cells (each row's printed sentence says how): DiffChanges: loops · DiffMinimal: loops · DiffReasons: loops · DiffIgnored: loops.
  DERIVED. THE GIVEN ROWS OF THIS SEAT. 4 by the template 'for every input the law returns true; each argument reads behind the call as it read before'; 0 by the template 'total and deterministic' (their statements: YtibiiafcnaijeaaGreatTotals.lean).
  GIVEN WITH THE SEED: the statements are not yours to turn. If you find one false, say at which input.
  Laid BY PROGRAM, IN A SANDBOX (cutbox-rows.mjs): the forced cells as the released guide's own fill.sh prints them over the translation ac2e4ec702d93e02… (all of the seat's roots in one cut). By AI agents, Wed Nov 11 2026. No macro, syntax, notation, axiom, sorry.
-/
import Derived.Test.YtibiiafcnaijeaaGreatChecked
import GoSem.Claim
import GoSem.ClaimJoined
import GoSem.ClaimMapViews
import Derived.JoinedTies
import Derived.KernelRfl
namespace Go.Proofs.YtibiiafcnaijeaaGreat
/- THE CELL 'sum', in the pinned program and in every row, IS THE sha256 OF THE DUMP (.gsa) THAT YtibiiafcnaijeaaGreatProg.lean LOADS. Nothing in Lean hashes anything: it is a label: what it is worth is what the hold of that sum in a sandbox is worth. -/
noncomputable def Tryz.pinned : Pinned := { name := "ytibiiafcnaijeaagreat", sum := "ac2e4ec702d93e0201d4568ff0a22b222938999d6865e6aa9a736403d8c4612f", checked := Tryz.checked }
namespace Rows
def none {H : Type} : Left H := { results := [], args := [] }

/-- 'provisionlaw40.DiffChanges': WHATEVER THE INPUT: true; the input reads as it did. -/
def diffChangesSpec : ChangeSpec := { name := "diffChanges", fn := fun _ => fun
  | [d] => { results := [.lit (.bool true)], args := [d] }
  | _ => none }
def diffChangesRow : OpenClaim := { program := "ytibiiafcnaijeaagreat", sum := "ac2e4ec702d93e0201d4568ff0a22b222938999d6865e6aa9a736403d8c4612f", func := "provision/provisionlaw40.DiffChanges", spec := "diffChanges", inPlace := ["slices.overlaps[string]", "slices.overlaps[provision/api.Value]", "slices.overlaps[provision/api.Type]"], unfollowed := true, recurses := true, loops := true, apart := false }
def DiffChangesSaid : Prop := diffChangesRow.holds Tryz.pinned (OpenSpec.ofChange diffChangesSpec)

/-- ITS FALSE NEIGHBOUR: 'it returns false'. Refute it at one input. -/
def diffChangesWrong : ChangeSpec := { name := "diffChanges", fn := fun _ => fun
  | [d] => { results := [.lit (.bool false)], args := [d] }
  | _ => none }
def DiffChangesWrongFalsely : Prop := diffChangesRow.holds Tryz.pinned (OpenSpec.ofChange diffChangesWrong)

/-- 'provisionlaw40.DiffMinimal': WHATEVER THE INPUT: true; the input reads as it did. -/
def diffMinimalSpec : ChangeSpec := { name := "diffMinimal", fn := fun _ => fun
  | [d1, d2] => { results := [.lit (.bool true)], args := [d1, d2] }
  | _ => none }
def diffMinimalRow : OpenClaim := { program := "ytibiiafcnaijeaagreat", sum := "ac2e4ec702d93e0201d4568ff0a22b222938999d6865e6aa9a736403d8c4612f", func := "provision/provisionlaw40.DiffMinimal", spec := "diffMinimal", inPlace := ["slices.overlaps[string]", "slices.overlaps[provision/api.Value]", "slices.overlaps[provision/api.Type]"], unfollowed := true, recurses := true, loops := true, apart := false }
def DiffMinimalSaid : Prop := diffMinimalRow.holds Tryz.pinned (OpenSpec.ofChange diffMinimalSpec)

/-- ITS FALSE NEIGHBOUR: 'it returns false'. Refute it at one input. -/
def diffMinimalWrong : ChangeSpec := { name := "diffMinimal", fn := fun _ => fun
  | [d1, d2] => { results := [.lit (.bool false)], args := [d1, d2] }
  | _ => none }
def DiffMinimalWrongFalsely : Prop := diffMinimalRow.holds Tryz.pinned (OpenSpec.ofChange diffMinimalWrong)

/-- 'provisionlaw40.DiffReasons': WHATEVER THE INPUT: true; the input reads as it did. -/
def diffReasonsSpec : ChangeSpec := { name := "diffReasons", fn := fun _ => fun
  | [d] => { results := [.lit (.bool true)], args := [d] }
  | _ => none }
def diffReasonsRow : OpenClaim := { program := "ytibiiafcnaijeaagreat", sum := "ac2e4ec702d93e0201d4568ff0a22b222938999d6865e6aa9a736403d8c4612f", func := "provision/provisionlaw40.DiffReasons", spec := "diffReasons", inPlace := ["slices.overlaps[string]", "slices.overlaps[provision/api.Value]", "slices.overlaps[provision/api.Type]"], unfollowed := true, recurses := true, loops := true, apart := false }
def DiffReasonsSaid : Prop := diffReasonsRow.holds Tryz.pinned (OpenSpec.ofChange diffReasonsSpec)

/-- ITS FALSE NEIGHBOUR: 'it returns false'. Refute it at one input. -/
def diffReasonsWrong : ChangeSpec := { name := "diffReasons", fn := fun _ => fun
  | [d] => { results := [.lit (.bool false)], args := [d] }
  | _ => none }
def DiffReasonsWrongFalsely : Prop := diffReasonsRow.holds Tryz.pinned (OpenSpec.ofChange diffReasonsWrong)

/-- 'provisionlaw40.DiffIgnored': WHATEVER THE INPUT: true; the input reads as it did. -/
def diffIgnoredSpec : ChangeSpec := { name := "diffIgnored", fn := fun _ => fun
  | [d1, d2] => { results := [.lit (.bool true)], args := [d1, d2] }
  | _ => none }
def diffIgnoredRow : OpenClaim := { program := "ytibiiafcnaijeaagreat", sum := "ac2e4ec702d93e0201d4568ff0a22b222938999d6865e6aa9a736403d8c4612f", func := "provision/provisionlaw40.DiffIgnored", spec := "diffIgnored", inPlace := ["slices.overlaps[string]", "slices.overlaps[provision/api.Value]", "slices.overlaps[provision/api.Type]"], unfollowed := true, recurses := true, loops := true, apart := false }
def DiffIgnoredSaid : Prop := diffIgnoredRow.holds Tryz.pinned (OpenSpec.ofChange diffIgnoredSpec)

/-- ITS FALSE NEIGHBOUR: 'it returns false'. Refute it at one input. -/
def diffIgnoredWrong : ChangeSpec := { name := "diffIgnored", fn := fun _ => fun
  | [d1, d2] => { results := [.lit (.bool false)], args := [d1, d2] }
  | _ => none }
def DiffIgnoredWrongFalsely : Prop := diffIgnoredRow.holds Tryz.pinned (OpenSpec.ofChange diffIgnoredWrong)

/- THE SECOND FORM. 'bulk': how many values and letters a reading holds, each counted each time it is reached (what is shared counts as often as it is met; a slice's spare places count too). A statement '..UptoSaid' is the law's where the arguments, and the package variables that the reading takes, are together of bulk at most 1048576: NARROWER than '..Said'. Prove '..Said' where nothing that the law and all that it calls make is longer than what came in: it says more and counts as full. Else prove '..UptoSaid'. A law counts once. -/
mutual
def uptoBulk {H : Type} : DataW H → Nat
  | .lit (.string bytes) => bytes.length + 1
  | .lit _ => 1
  | .nil => 1
  | .ptr d => uptoBulk d + 1
  | .slice elems spare => uptoBulkAll elems + uptoBulkAll spare + 1
  | .agg parts => uptoBulkAll parts + 1
  | .iface _ d => uptoBulk d + 1
  | .map entries => uptoBulkEntries entries + 1
  | .held _ => 1
def uptoBulkAll {H : Type} : List (DataW H) → Nat
  | [] => 0
  | d :: r => uptoBulk d + uptoBulkAll r
def uptoBulkEntries {H : Type} : List (Lit × DataW H) → Nat
  | [] => 0
  | x :: r => uptoBulkEntry x + uptoBulkEntries r
def uptoBulkEntry {H : Type} : Lit × DataW H → Nat
  | (.string bytes, d) => bytes.length + uptoBulk d + 1
  | (_, d) => uptoBulk d + 1
 end
def uptoSmall : (H : Type) → List (DataW H) → Bool := fun _ ds => decide (uptoBulkAll ds ≤ 1048576)
def OpenSpec.upto (s : _root_.Go.ChangeSpec) : _root_.Go.OpenSpec := { _root_.Go.OpenSpec.ofChange s with cond := some uptoSmall }

/-- 'provisionlaw40.DiffChanges', WHERE WHAT IT READS IS OF BULK AT MOST 1048576: true; the input reads as it did. -/
def diffChangesUptoRow : OpenClaim := { program := "ytibiiafcnaijeaagreat", sum := "ac2e4ec702d93e0201d4568ff0a22b222938999d6865e6aa9a736403d8c4612f", func := "provision/provisionlaw40.DiffChanges", spec := "diffChanges", inPlace := ["slices.overlaps[string]", "slices.overlaps[provision/api.Value]", "slices.overlaps[provision/api.Type]"], unfollowed := true, recurses := true, loops := true, apart := false, narrowed := true }
def DiffChangesUptoSaid : Prop := diffChangesUptoRow.holds Tryz.pinned (OpenSpec.upto diffChangesSpec)

/-- 'provisionlaw40.DiffMinimal', WHERE WHAT IT READS IS OF BULK AT MOST 1048576: true; the input reads as it did. -/
def diffMinimalUptoRow : OpenClaim := { program := "ytibiiafcnaijeaagreat", sum := "ac2e4ec702d93e0201d4568ff0a22b222938999d6865e6aa9a736403d8c4612f", func := "provision/provisionlaw40.DiffMinimal", spec := "diffMinimal", inPlace := ["slices.overlaps[string]", "slices.overlaps[provision/api.Value]", "slices.overlaps[provision/api.Type]"], unfollowed := true, recurses := true, loops := true, apart := false, narrowed := true }
def DiffMinimalUptoSaid : Prop := diffMinimalUptoRow.holds Tryz.pinned (OpenSpec.upto diffMinimalSpec)

/-- 'provisionlaw40.DiffReasons', WHERE WHAT IT READS IS OF BULK AT MOST 1048576: true; the input reads as it did. -/
def diffReasonsUptoRow : OpenClaim := { program := "ytibiiafcnaijeaagreat", sum := "ac2e4ec702d93e0201d4568ff0a22b222938999d6865e6aa9a736403d8c4612f", func := "provision/provisionlaw40.DiffReasons", spec := "diffReasons", inPlace := ["slices.overlaps[string]", "slices.overlaps[provision/api.Value]", "slices.overlaps[provision/api.Type]"], unfollowed := true, recurses := true, loops := true, apart := false, narrowed := true }
def DiffReasonsUptoSaid : Prop := diffReasonsUptoRow.holds Tryz.pinned (OpenSpec.upto diffReasonsSpec)

/-- 'provisionlaw40.DiffIgnored', WHERE WHAT IT READS IS OF BULK AT MOST 1048576: true; the input reads as it did. -/
def diffIgnoredUptoRow : OpenClaim := { program := "ytibiiafcnaijeaagreat", sum := "ac2e4ec702d93e0201d4568ff0a22b222938999d6865e6aa9a736403d8c4612f", func := "provision/provisionlaw40.DiffIgnored", spec := "diffIgnored", inPlace := ["slices.overlaps[string]", "slices.overlaps[provision/api.Value]", "slices.overlaps[provision/api.Type]"], unfollowed := true, recurses := true, loops := true, apart := false, narrowed := true }
def DiffIgnoredUptoSaid : Prop := diffIgnoredUptoRow.holds Tryz.pinned (OpenSpec.upto diffIgnoredSpec)

end Rows
end Go.Proofs.YtibiiafcnaijeaaGreat
