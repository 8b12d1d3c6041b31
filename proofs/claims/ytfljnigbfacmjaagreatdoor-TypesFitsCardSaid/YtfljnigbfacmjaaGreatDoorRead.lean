/- What the reader reads, as plain functions. -/
import Derived.Test.YtfljnigbfacmjaaGreatDoorName
namespace Go.Proofs.YtfljnigbfacmjaaGreatDoor
open Go Go.RowKit
set_option linter.unusedVariables false

/-- An error: its kind and its place. -/
abbrev Rd (α : Type) := Except (Int × Nat) (α × Nat)
def readyP (s : ByteArray) (p : Nat) : Except (Int × Nat) Nat := if skipN s p < s.size then .ok (skipN s p) else .error (40, skipN s p)
def signP (s : ByteArray) (p c : Nat) : Except (Int × Nat) Nat := if sgnB s p c = true then .ok (skipN s p + 1) else .error (sgnE s p, skipN s p)
def nameP (s : ByteArray) (p : Nat) (ns : List ByteArray) : Rd ByteArray := if nameK s p ns = 0 then .ok (nameX s p, wordE s (skipN s p)) else .error (nameK s p ns, skipN s p)
/-- Where a name belongs among the names. -/
def posN (ns : List ByteArray) (x : ByteArray) : Nat := Lib.bsGo (fun t => Op.bytesLess (ns.getD t ByteArray.empty).toList x.toList) ns.length 0 ns.length
/-- The attributes of an object behind its opening brace; n bounds the rounds. -/
def loopP (s : ByteArray) (rd : Nat → Rd Ty) : Nat → Nat → List Ty → List ByteArray → Rd Ty
  | 0, p, _, _ => .error (0, p)
  | n + 1, p, es, ns =>
    match nameP s p ns with
    | .error e => .error e
    | .ok (x, p1) =>
      match signP s p1 61 with
      | .error e => .error e
      | .ok p2 =>
        match rd p2 with
        | .error e => .error e
        | .ok (t, p3) =>
          match readyP s p3 with
          | .error e => .error e
          | .ok p4 =>
            if byteN s p4 = 125 then .ok (.mk 6 (es.insertIdx (posN ns x) t) (ns.insertIdx (posN ns x) x), p4 + 1) else
            match signP s p4 44 with
            | .error e => .error e
            | .ok p5 => loopP s rd n p5 (es.insertIdx (posN ns x) t) (ns.insertIdx (posN ns x) x)
def objP (s : ByteArray) (rd : Nat → Rd Ty) (p : Nat) : Rd Ty :=
  match readyP s p with
  | .error e => .error e
  | .ok p1 => if byteN s p1 = 125 then .ok (.mk 6 [] [], p1 + 1) else loopP s rd (s.size + 1) p1 [] []
/-- A type at p; f levels are left (33 - level). -/
def readP (s : ByteArray) : Nat → Nat → Rd Ty
  | f, p =>
    match readyP s p with
    | .error e => .error e
    | .ok j =>
      match kindO (s.extract j (wordE s j)) with
      | none => .error (2, j)
      | some k =>
        match f with
        | 0 => .error (4, j)
        | f + 1 =>
          if k = 4 ∨ k = 5 then
            match signP s (wordE s j) 40 with
            | .error e => .error e
            | .ok p2 =>
              match readP s f p2 with
              | .error e => .error e
              | .ok (t, p3) =>
                match signP s p3 41 with
                | .error e => .error e
                | .ok p4 => .ok (.mk k [t] [], p4)
          else if k = 6 then
            match signP s (wordE s j) 40 with
            | .error e => .error e
            | .ok p2 =>
              match signP s p2 123 with
              | .error e => .error e
              | .ok p3 =>
                match objP s (readP s f) p3 with
                | .error e => .error e
                | .ok (t, p4) =>
                  match signP s p4 41 with
                  | .error e => .error e
                  | .ok p5 => .ok (t, p5)
          else .ok (.mk k [] [], wordE s j)
/-- A whole text. -/
def parseP (s : ByteArray) : Except (Int × Nat) Ty :=
  match readP s 32 0 with
  | .error e => .error e
  | .ok (t, p) => if skipN s p < s.size then .error (2, skipN s p) else .ok t
end Go.Proofs.YtfljnigbfacmjaaGreatDoor
