/- Attributes, nested kinds and schemas as they lie in memory. -/
import Derived.Test.YtibiiafcnaijeaaDp
namespace Go.Proofs.Ytibiiafcnaijeaa
open Go Go.RowKit
set_option linter.unusedVariables false
set_option linter.unusedSimpArgs false

/-- v reads as a list of attributes, eight cells each. -/
def AV (P : Nat → Prop) (w : World) (v : Value) (l : List At) : Prop := l.length ≤ 140737488355328 ∧ ((l = [] ∧ ∃ oa c, v = .slice oa 0 c) ∨ ∃ g o c, P g ∧ v = .slice (some ⟨g, o, none⟩) l.length c ∧
  ∀ (i : Nat) (a : At), l[i]? = some a → ∃ k oe me ce on mn cn, w.cell? ⟨g, o + i * 8, none⟩ = some (.string a.name) ∧ w.cell? ⟨g, o + i * 8 + 1, none⟩ = some (.int .i64 k) ∧ w.cell? ⟨g, o + i * 8 + 2, none⟩ = some (.slice oe me ce) ∧ w.cell? ⟨g, o + i * 8 + 3, none⟩ = some (.slice on mn cn) ∧
    w.cell? ⟨g, o + i * 8 + 4, none⟩ = some (.int .i64 a.mode) ∧ w.cell? ⟨g, o + i * 8 + 5, none⟩ = some (.bool a.rep) ∧ w.cell? ⟨g, o + i * 8 + 6, none⟩ = some (.bool a.sens) ∧ w.cell? ⟨g, o + i * 8 + 7, none⟩ = some (.bool a.vol) ∧
    TV P w (.agg #[.int .i64 k, .slice oe me ce, .slice on mn cn]) a.ty ∧ a.name.size ≤ 140737488355328)
/-- v reads as a list of nested kinds, five cells each. -/
def KV (P : Nat → Prop) (w : World) (v : Value) (l : List Ne) : Prop := l.length ≤ 140737488355328 ∧ ((l = [] ∧ ∃ oa c, v = .slice oa 0 c) ∨ ∃ g o c, P g ∧ v = .slice (some ⟨g, o, none⟩) l.length c ∧
  ∀ (i : Nat) (n : Ne), l[i]? = some n → ∃ oa ca, w.cell? ⟨g, o + i * 5, none⟩ = some (.string n.name) ∧ w.cell? ⟨g, o + i * 5 + 1, none⟩ = some (.int .i64 n.mn) ∧ w.cell? ⟨g, o + i * 5 + 2, none⟩ = some (.int .i64 n.mx) ∧ w.cell? ⟨g, o + i * 5 + 3, none⟩ = some (.slice oa n.attrs.length ca) ∧
    w.cell? ⟨g, o + i * 5 + 4, none⟩ = some (.bool n.rep) ∧ AV P w (.slice oa n.attrs.length ca) n.attrs ∧ n.name.size ≤ 140737488355328)
section
variable {P Q : Nat → Prop} {w w' : World} {v : Value}
theorem AV.keep {l : List At} (h : AV P w v l) (k : KeepsP P w w') (hq : ∀ g, P g → Q g) : AV Q w' v l :=
  ⟨h.1, h.2.imp id fun ⟨g, o, c, hp, e, hc⟩ => ⟨g, o, c, hq g hp, e, fun i a ha => by
    obtain ⟨k', oe, me, ce, on, mn, cn, c0, c1, c2, c3, c4, c5, c6, c7, ht, hs⟩ := hc i a ha
    exact ⟨k', oe, me, ce, on, mn, cn, k _ _ _ hp c0, k _ _ _ hp c1, k _ _ _ hp c2, k _ _ _ hp c3, k _ _ _ hp c4, k _ _ _ hp c5, k _ _ _ hp c6, k _ _ _ hp c7, ht.keep k hq, hs⟩⟩⟩
theorem AV.bel {l : List At} (h : AV P w v l) (hb : Below w.heap.size w w') : AV P w' v l := h.keep (KeepsP.below hb) fun _ h => h
theorem AV.len {l : List At} (h : AV P w v l) : ∃ oa c, v = .slice oa l.length c := by
  rcases h.2 with ⟨rfl, oa, c, rfl⟩ | ⟨g, o, c, _, rfl, _⟩
  · exact ⟨oa, c, rfl⟩
  · exact ⟨_, c, rfl⟩
theorem AV.le {l : List At} (h : AV P w v l) : l.length ≤ 140737488355328 := h.1
theorem AV.at {l : List At} (h : AV P w v l) {j : Nat} (hj : j < l.length) : ∃ g o c k oe me ce on mn cn, P g ∧ v = .slice (some ⟨g, o, none⟩) l.length c ∧ w.cell? ⟨g, o + j * 8, none⟩ = some (.string l[j].name) ∧ w.cell? ⟨g, o + j * 8 + 1, none⟩ = some (.int .i64 k) ∧ w.cell? ⟨g, o + j * 8 + 2, none⟩ = some (.slice oe me ce) ∧
    w.cell? ⟨g, o + j * 8 + 3, none⟩ = some (.slice on mn cn) ∧ w.cell? ⟨g, o + j * 8 + 4, none⟩ = some (.int .i64 l[j].mode) ∧ w.cell? ⟨g, o + j * 8 + 5, none⟩ = some (.bool l[j].rep) ∧ w.cell? ⟨g, o + j * 8 + 6, none⟩ = some (.bool l[j].sens) ∧ w.cell? ⟨g, o + j * 8 + 7, none⟩ = some (.bool l[j].vol) ∧
    TV P w (.agg #[.int .i64 k, .slice oe me ce, .slice on mn cn]) l[j].ty ∧ l[j].name.size ≤ 140737488355328 := by
  rcases h.2 with ⟨rfl, _⟩ | ⟨g, o, c, hp, rfl, hc⟩
  · cases hj
  · obtain ⟨k, oe, me, ce, on, mn, cn, h'⟩ := hc j _ (List.getElem?_eq_getElem hj)
    exact ⟨g, o, c, k, oe, me, ce, on, mn, cn, hp, rfl, h'⟩
theorem KV.keep {l : List Ne} (h : KV P w v l) (k : KeepsP P w w') (hq : ∀ g, P g → Q g) : KV Q w' v l :=
  ⟨h.1, h.2.imp id fun ⟨g, o, c, hp, e, hc⟩ => ⟨g, o, c, hq g hp, e, fun i n hn => by
    obtain ⟨oa, ca, c0, c1, c2, c3, c4, ha, hs⟩ := hc i n hn
    exact ⟨oa, ca, k _ _ _ hp c0, k _ _ _ hp c1, k _ _ _ hp c2, k _ _ _ hp c3, k _ _ _ hp c4, ha.keep k hq, hs⟩⟩⟩
theorem KV.bel {l : List Ne} (h : KV P w v l) (hb : Below w.heap.size w w') : KV P w' v l := h.keep (KeepsP.below hb) fun _ h => h
theorem KV.len {l : List Ne} (h : KV P w v l) : ∃ oa c, v = .slice oa l.length c := by
  rcases h.2 with ⟨rfl, oa, c, rfl⟩ | ⟨g, o, c, _, rfl, _⟩
  · exact ⟨oa, c, rfl⟩
  · exact ⟨_, c, rfl⟩
theorem KV.le {l : List Ne} (h : KV P w v l) : l.length ≤ 140737488355328 := h.1
theorem KV.at {l : List Ne} (h : KV P w v l) {j : Nat} (hj : j < l.length) : ∃ g o c oa ca, P g ∧ v = .slice (some ⟨g, o, none⟩) l.length c ∧ w.cell? ⟨g, o + j * 5, none⟩ = some (.string l[j].name) ∧ w.cell? ⟨g, o + j * 5 + 1, none⟩ = some (.int .i64 l[j].mn) ∧ w.cell? ⟨g, o + j * 5 + 2, none⟩ = some (.int .i64 l[j].mx) ∧
    w.cell? ⟨g, o + j * 5 + 3, none⟩ = some (.slice oa l[j].attrs.length ca) ∧ w.cell? ⟨g, o + j * 5 + 4, none⟩ = some (.bool l[j].rep) ∧ AV P w (.slice oa l[j].attrs.length ca) l[j].attrs ∧ l[j].name.size ≤ 140737488355328 := by
  rcases h.2 with ⟨rfl, _⟩ | ⟨g, o, c, hp, rfl, hc⟩
  · cases hj
  · obtain ⟨oa, ca, h'⟩ := hc j _ (List.getElem?_eq_getElem hj)
    exact ⟨g, o, c, oa, ca, hp, rfl, h'⟩
end
/-- The two slices of a schema. -/
def SCV (P : Nat → Prop) (w : World) (va vn : Value) (s : Sc) : Prop := AV P w va s.attrs ∧ KV P w vn s.nested
theorem SCV.bel {P : Nat → Prop} {w w' : World} {va vn : Value} {s : Sc} (h : SCV P w va vn s) (hb : Below w.heap.size w w') : SCV P w' va vn s := ⟨h.1.bel hb, h.2.bel hb⟩
end Go.Proofs.Ytibiiafcnaijeaa
