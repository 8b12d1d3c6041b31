/- Schemas, records, inputs and changes as plain data; what the program's diff computes. -/
import Derived.Test.YtibiiafcnaijeaaVv
import Derived.Test.YtibiiafcnaijeaaShelf
import Derived.Lib.Hide
namespace Go.Proofs.Ytibiiafcnaijeaa
open Go Go.RowKit
set_option linter.unusedVariables false
set_option linter.unusedSimpArgs false

/-! Values -/
mutual
def eqV : Vl → Vl → Bool
  | .mk k n s is ks, .mk k' n' s' is' ks' => decide (k = k') && (decide (n = n') && (decide (s = s') && (decide (ks = ks') && eqVL is is')))
def eqVL : List Vl → List Vl → Bool
  | [], [] => true
  | e :: es, e' :: es' => eqV e e' && eqVL es es'
  | [], _ :: _ => false
  | _ :: _, [] => false
end
theorem eqV_iff (a : Vl) : ∀ b, eqV a b = true ↔ a = b := by
  induction a using Vl.ind with
  | h k n s is ks ih =>
    have key : ∀ l : List Vl, (∀ e ∈ l, e ∈ is) → ∀ m, eqVL l m = true ↔ l = m := by
      intro l
      induction l with
      | nil => intro _ m; cases m <;> simp [eqVL]
      | cons e l ih2 =>
        intro hl m
        cases m with
        | nil => simp [eqVL]
        | cons x m => simp [eqVL, ih e (hl e (List.mem_cons_self ..)), ih2 (fun y hy => hl y (List.mem_cons_of_mem _ hy))]
    intro b
    obtain ⟨k', n', s', is', ks'⟩ := b
    simp only [eqV, Bool.and_eq_true, decide_eq_true_eq, key is (fun _ h => h) is', Vl.mk.injEq]
    constructor
    · rintro ⟨h1, h2, h3, h4, h5⟩; exact ⟨h1, h2, h3, h5, h4⟩
    · rintro ⟨h1, h2, h3, h4, h5⟩; exact ⟨h1, h2, h3, h5, h4⟩
theorem eqV_refl (a : Vl) : eqV a a = true := (eqV_iff a a).2 rfl
mutual
def knownV : Vl → Bool
  | .mk k _ _ is _ => decide (k ≠ 6) && knownL is
def knownL : List Vl → Bool
  | [] => true
  | e :: l => knownV e && knownL l
end
theorem knownL_all : ∀ l : List Vl, knownL l = l.all knownV
  | [] => by rw [knownL]; rfl
  | e :: l => by rw [knownL, knownL_all l]; rfl
theorem knownV_eq (k n : Int) (s : ByteArray) (is : List Vl) (ks : List ByteArray) : knownV (.mk k n s is ks) = (decide (k ≠ 6) && is.all knownV) := by rw [knownV, knownL_all]
abbrev nullV : Vl := .mk 0 0 ⟨#[]⟩ [] []
abbrev unkV : Vl := .mk 6 0 ⟨#[]⟩ [] []
/-- Where a name belongs among the names, and whether it is there: what BinarySearch gives. -/
def posN (ns : List ByteArray) (x : ByteArray) : Nat := Lib.bsGo (fun t => Op.bytesLess (ns.getD t ByteArray.empty).toList x.toList) ns.length 0 ns.length
def fndN (ns : List ByteArray) (x : ByteArray) : Bool := decide (posN ns x < ns.length ∧ ns.getD (posN ns x) ByteArray.empty = x)
/-- The value of a key. -/
def getV : Vl → ByteArray → Option Vl
  | .mk k _ _ is ks, x => if k = 5 ∧ fndN ks x = true then is[posN ks x]? else none
/-- The map with a value for a key. -/
def putV : Vl → ByteArray → Vl → Vl
  | .mk k n s is ks, x, y => if is.length < posN ks x ∨ (fndN ks x = true ∧ is.length = posN ks x) then .mk k n s is ks else
    if fndN ks x = true then .mk k n s (is.set (posN ks x) y) ks else .mk k n s (is.insertIdx (posN ks x) y) (ks.insertIdx (posN ks x) x)

/-! Schemas -/
structure At where
  name : ByteArray
  ty : Ty
  mode : Int
  rep : Bool
  sens : Bool
  vol : Bool
structure Ne where
  name : ByteArray
  mn : Int
  mx : Int
  attrs : List At
  rep : Bool
structure Sc where
  attrs : List At
  nested : List Ne
/-- The attribute with a name. -/
def fndA (l : List At) (x : ByteArray) : Option At := l.find? fun a => decide (a.name = x)
def fndK (l : List Ne) (x : ByteArray) : Option Ne := l.find? fun a => decide (a.name = x)
def objT (l : List At) : Ty := .mk 6 (l.map (·.ty)) (l.map (·.name))
def addN (p : List ByteArray × List Ty) (n : Ne) : List ByteArray × List Ty := (p.1.insertIdx (posN p.1 n.name) n.name, p.2.insertIdx (posN p.1 n.name) (.mk 4 [objT n.attrs] []))
def typS (s : Sc) : List ByteArray × List Ty := s.nested.foldl addN (s.attrs.map (·.name), s.attrs.map (·.ty))
def namesS (s : Sc) : List ByteArray := (typS s).1
def getN (v : Vl) (x : ByteArray) : Vl := (getV v x).getD nullV
def differV (a b : Vl) : Bool := !eqV a b || (!knownV a || !knownV b)
/-- Does the provider determine a name's value? -/
def detS (s : Sc) (cnfg : Vl) (x : ByteArray) : Bool := match fndA s.attrs x with
  | none => false
  | some a => decide (a.mode = 3) || (decide (a.mode = 4) && decide (kdV (getN cnfg x) = 0))
def volS (s : Sc) (prior cnfg : Vl) (x : ByteArray) : Bool := detS s cnfg x && (decide (kdV prior ≠ 0) && match fndA s.attrs x with
  | none => false
  | some a => a.vol)
def chgS (s : Sc) (prior cnfg : Vl) : Bool := (namesS s).any fun x => !detS s cnfg x && differV (getN cnfg x) (getN prior x)
def itemS (s : Sc) (prior cnfg : Vl) (x : ByteArray) : Vl :=
  if detS s cnfg x = true then (if kdV prior = 0 then unkV else getN prior x) else getN cnfg x
def proposeS (s : Sc) (prior cnfg : Vl) : Vl := .mk 5 0 ⟨#[]⟩ ((namesS s).map fun x => if volS s prior cnfg x = true ∧ chgS s prior cnfg = true then unkV else itemS s prior cnfg x) (namesS s)
def changedS (s : Sc) (b a : Vl) : List ByteArray := (namesS s).filter fun x => differV (getN b x) (getN a x)
def repS (s : Sc) (x : ByteArray) : Bool := (match fndA s.attrs x with
  | none => false
  | some a => a.rep) || match fndK s.nested x with
  | none => false
  | some n => n.rep
def replacedS (s : Sc) (b a : Vl) : List ByteArray := (changedS s b a).filter (repS s)

/-! Changes -/
structure Inst where
  addr : ByteArray
  deposed : ByteArray
  id : ByteArray
  type : ByteArray
  attrs : Vl
  version : Int
  tainted : Bool
  createFirst : Bool
  deps : List ByteArray
structure Inp where
  addr : ByteArray
  tname : ByteArray
  sc : Sc
  quota : Int
  has : Bool
  prior : Inst
  cnfg : Vl
  createFirst : Bool
  protect : Bool
  ignore : List ByteArray
  triggered : Bool
  requested : Bool
  deps : List ByteArray
structure Chg' where
  addr : ByteArray
  deposed : ByteArray
  type : ByteArray
  action : Int
  reason : Int
  before : Vl
  after : Vl
  id : ByteArray
  replace : List ByteArray
  createFirst : Bool
  protect : Bool
  imp : Bool
  deps : List ByteArray
  oldDeps : List ByteArray
def ignStep (prior out : Vl) (x : ByteArray) : Vl := match getV prior x with
  | none => out
  | some v => if (getV out x).isSome = true then putV out x v else out
def ignoreV (prior cnfg : Vl) (l : List ByteArray) : Vl := l.foldl (ignStep prior) cnfg
/-- Ignored names that a configuration may set. -/
def ignN (s : Sc) (l : List ByteArray) : List ByteArray := l.filter fun x => match fndA s.attrs x with
  | none => true
  | some a => decide (a.mode ≠ 3)
def effD (x : Inp) : Vl := if x.has = true then ignoreV x.prior.attrs x.cnfg (ignN x.sc x.ignore) else x.cnfg
def reasonD (x : Inp) (l : List ByteArray) : Int := if x.prior.tainted = true then 4 else if x.requested = true then 6 else if x.triggered = true then 5 else if l = [] then 0 else 3
def changeD (x : Inp) : Chg' :=
  let c : Chg' := ⟨x.addr, ⟨#[]⟩, x.tname, 0, 0, nullV, nullV, ⟨#[]⟩, [], false, x.protect, false, x.deps, []⟩
  let fresh := proposeS x.sc nullV (effD x)
  if x.has = false then { c with action := 1, reason := 1, after := fresh } else
    let after := proposeS x.sc x.prior.attrs (effD x)
    let rep := replacedS x.sc x.prior.attrs after
    let c := { c with before := x.prior.attrs, id := x.prior.id, oldDeps := x.prior.deps, after := after, replace := rep }
    if reasonD x rep ≠ 0 then { c with action := 3, reason := reasonD x rep, after := fresh, createFirst := x.createFirst } else
      if changedS x.sc x.prior.attrs after = [] then c else { c with action := 2, reason := 2 }
def deleteD (i : Inst) (why : Int) (protect : Bool) : Chg' := ⟨i.addr, i.deposed, i.type, 4, why, i.attrs, nullV, i.id, [], false, protect, false, [], i.deps⟩
def countD (l : List Chg') (a : Int) : Nat := (l.filter fun c => decide (c.action = a)).length
end Go.Proofs.Ytibiiafcnaijeaa
