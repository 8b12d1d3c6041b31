/- Types and lists of strings as they lie in memory. -/
import Derived.Test.YtfljnigbfacmjaaGreatDoorProg
import Derived.Test.YtfljnigbfacmjaaGreatDoorTy
import Derived.Below
import Derived.Lib.Hide
namespace Go.Proofs.YtfljnigbfacmjaaGreatDoor
open Go Go.RowKit
set_option linter.unusedVariables false
set_option linter.unusedSimpArgs false

theorem hid {p : Prop} (h : p) : Hid p := h
abbrev strs (l : List ByteArray) : List Value := l.map Value.string
abbrev tri (r : Value × Value × Value) : Value := .agg #[r.1, r.2.1, r.2.2]

/-- v reads as vs, one cell each; its block is one of P's. -/
def CV (P : Nat → Prop) (w : World) (v : Value) (vs : List Value) : Prop := vs.length ≤ 140737488355328 ∧ (
  (vs = [] ∧ ∃ oa c, v = .slice oa 0 c) ∨ ∃ g o c, P g ∧ v = .slice (some ⟨g, o, none⟩) vs.length c ∧ ∀ (i : Nat) u, vs[i]? = some u → w.cell? ⟨g, o + i, none⟩ = some u)
def SV (P : Nat → Prop) (w : World) (v : Value) (l : List ByteArray) : Prop := CV P w v (strs l) ∧ ∀ s ∈ l, s.size ≤ 140737488355328
/-- v reads as rs, three cells each. -/
def RV (P : Nat → Prop) (w : World) (v : Value) (rs : List (Value × Value × Value)) : Prop := rs.length ≤ 140737488355328 ∧ (
  (rs = [] ∧ ∃ oa c, v = .slice oa 0 c) ∨ ∃ g o c, P g ∧ v = .slice (some ⟨g, o, none⟩) rs.length c ∧
    ∀ (i : Nat) r, rs[i]? = some r → w.cell? ⟨g, o + i * 3, none⟩ = some r.1 ∧ w.cell? ⟨g, o + i * 3 + 1, none⟩ = some r.2.1 ∧ w.cell? ⟨g, o + i * 3 + 2, none⟩ = some r.2.2)
/-- v reads as the type t; all its blocks are P's. -/
inductive TV (P : Nat → Prop) (w : World) : Value → Ty → Prop where
  | mk (k : Int) (es : List Ty) (ns : List ByteArray) (ve vn : Value) (rs : List (Value × Value × Value)) (hn : SV P w vn ns) (hr : RV P w ve rs) (hl : rs.length = es.length)
    (he : ∀ (i : Nat) r e, rs[i]? = some r → es[i]? = some e → TV P w (tri r) e) : TV P w (.agg #[.int .i64 k, ve, vn]) (.mk k es ns)
/-- A list of types. -/
def LV (P : Nat → Prop) (w : World) (v : Value) (es : List Ty) : Prop :=
  ∃ rs, RV P w v rs ∧ rs.length = es.length ∧ ∀ (i : Nat) r e, rs[i]? = some r → es[i]? = some e → TV P w (tri r) e

theorem TV.mk' {P : Nat → Prop} {w : World} {k : Int} {es : List Ty} {ns : List ByteArray} {ve vn : Value} (hn : SV P w vn ns) (he : LV P w ve es) : TV P w (.agg #[.int .i64 k, ve, vn]) (.mk k es ns) := by
  obtain ⟨rs, h1, h2, h3⟩ := he
  exact .mk k es ns ve vn rs hn h1 h2 h3
theorem TV.out {P : Nat → Prop} {w : World} {v : Value} {k : Int} {es : List Ty} {ns : List ByteArray} (h : TV P w v (.mk k es ns)) : ∃ ve vn, v = .agg #[.int .i64 k, ve, vn] ∧ LV P w ve es ∧ SV P w vn ns := by
  cases h with
  | mk _ _ _ ve vn rs hn hr hl he => exact ⟨ve, vn, rfl, ⟨rs, hr, hl, he⟩, hn⟩

/-- What could be read in P's blocks can be read still. -/
def KeepsP (P : Nat → Prop) (w w' : World) : Prop := ∀ (g o : Nat) u, P g → w.cell? ⟨g, o, none⟩ = some u → w'.cell? ⟨g, o, none⟩ = some u
theorem KeepsP.refl (P : Nat → Prop) (w : World) : KeepsP P w w := fun _ _ _ _ h => h
theorem KeepsP.trans {P : Nat → Prop} {u v w : World} (h : KeepsP P u v) (k : KeepsP P v w) : KeepsP P u w := fun g o x hp hx => k g o x hp (h g o x hp hx)
theorem KeepsP.below {P : Nat → Prop} {w w' : World} (h : Below w.heap.size w w') : KeepsP P w w' := fun g o u _ hu => by
  have hb := World.block_lt_of_cell? w _ hu
  rw [h.cell (p := ⟨g, o, none⟩) hb]; exact hu

theorem CV.keep {P Q : Nat → Prop} {w w' : World} {v : Value} {vs : List Value} (h : CV P w v vs) (k : KeepsP P w w') (hq : ∀ g, P g → Q g) : CV Q w' v vs :=
  ⟨h.1, h.2.imp id fun ⟨g, o, c, hp, e, hc⟩ => ⟨g, o, c, hq g hp, e, fun i u hu => k _ _ _ hp (hc i u hu)⟩⟩
theorem SV.keep {P Q : Nat → Prop} {w w' : World} {v : Value} {l : List ByteArray} (h : SV P w v l) (k : KeepsP P w w') (hq : ∀ g, P g → Q g) : SV Q w' v l := ⟨h.1.keep k hq, h.2⟩
theorem RV.keep {P Q : Nat → Prop} {w w' : World} {v : Value} {rs : List (Value × Value × Value)} (h : RV P w v rs) (k : KeepsP P w w') (hq : ∀ g, P g → Q g) : RV Q w' v rs :=
  ⟨h.1, h.2.imp id fun ⟨g, o, c, hp, e, hc⟩ => ⟨g, o, c, hq g hp, e, fun i r hr => ⟨k _ _ _ hp (hc i r hr).1, k _ _ _ hp (hc i r hr).2.1, k _ _ _ hp (hc i r hr).2.2⟩⟩⟩
theorem TV.keep {P Q : Nat → Prop} {w w' : World} {v : Value} {t : Ty} (h : TV P w v t) (k : KeepsP P w w') (hq : ∀ g, P g → Q g) : TV Q w' v t := by
  induction h with
  | mk k' es ns ve vn rs hn hr hl he ih => exact .mk k' es ns ve vn rs (hn.keep k hq) (hr.keep k hq) hl ih
theorem LV.keep {P Q : Nat → Prop} {w w' : World} {v : Value} {es : List Ty} (h : LV P w v es) (k : KeepsP P w w') (hq : ∀ g, P g → Q g) : LV Q w' v es := by
  obtain ⟨rs, h1, h2, h3⟩ := h
  exact ⟨rs, h1.keep k hq, h2, fun i r e hr he => (h3 i r e hr he).keep k hq⟩
theorem TV.bel {P : Nat → Prop} {w w' : World} {v : Value} {t : Ty} (h : TV P w v t) (hb : Below w.heap.size w w') : TV P w' v t := h.keep (KeepsP.below hb) fun _ h => h
theorem LV.bel {P : Nat → Prop} {w w' : World} {v : Value} {t : List Ty} (h : LV P w v t) (hb : Below w.heap.size w w') : LV P w' v t := h.keep (KeepsP.below hb) fun _ h => h
theorem SV.bel {P : Nat → Prop} {w w' : World} {v : Value} {t : List ByteArray} (h : SV P w v t) (hb : Below w.heap.size w w') : SV P w' v t := h.keep (KeepsP.below hb) fun _ h => h

theorem CV.len {P : Nat → Prop} {w : World} {v : Value} {vs : List Value} (h : CV P w v vs) : ∃ oa c, v = .slice oa vs.length c := by
  rcases h.2 with ⟨rfl, oa, c, rfl⟩ | ⟨g, o, c, _, rfl, _⟩
  · exact ⟨oa, c, rfl⟩
  · exact ⟨_, c, rfl⟩
theorem SV.len {P : Nat → Prop} {w : World} {v : Value} {l : List ByteArray} (h : SV P w v l) : ∃ oa c, v = .slice oa l.length c := by
  have := h.1.len
  rwa [List.length_map] at this
theorem LV.len {P : Nat → Prop} {w : World} {v : Value} {es : List Ty} (h : LV P w v es) : ∃ oa c, v = .slice oa es.length c := by
  obtain ⟨rs, h1, h2, h3⟩ := h
  rcases h1.2 with ⟨rfl, oa, c, rfl⟩ | ⟨g, o, c, _, rfl, _⟩
  · exact ⟨oa, c, by rw [← h2]; rfl⟩
  · exact ⟨_, c, by rw [h2]⟩
theorem SV.le {P : Nat → Prop} {w : World} {v : Value} {l : List ByteArray} (h : SV P w v l) : l.length ≤ 140737488355328 := by
  have := h.1.1
  rwa [List.length_map] at this
theorem LV.le {P : Nat → Prop} {w : World} {v : Value} {es : List Ty} (h : LV P w v es) : es.length ≤ 140737488355328 := by
  obtain ⟨rs, h1, h2, h3⟩ := h
  have := h1.1
  omega
theorem SV.at {P : Nat → Prop} {w : World} {v : Value} {l : List ByteArray} (h : SV P w v l) {k : Nat} (hk : k < l.length) :
    ∃ g o c, v = .slice (some ⟨g, o, none⟩) l.length c ∧ w.cell? ⟨g, o + k, none⟩ = some (.string l[k]) := by
  rcases h.1.2 with ⟨h0, _⟩ | ⟨g, o, c, _, rfl, hc⟩
  · have : l = [] := by simpa using h0
    subst this; cases hk
  · refine ⟨g, o, c, by rw [List.length_map], hc k _ ?_⟩
    rw [List.getElem?_map, List.getElem?_eq_getElem hk]; rfl
theorem LV.at {P : Nat → Prop} {w : World} {v : Value} {es : List Ty} (h : LV P w v es) {k : Nat} (hk : k < es.length) :
    ∃ g o c x y z, v = .slice (some ⟨g, o, none⟩) es.length c ∧ w.cell? ⟨g, o + k * 3, none⟩ = some x ∧ w.cell? ⟨g, o + k * 3 + 1, none⟩ = some y ∧ w.cell? ⟨g, o + k * 3 + 2, none⟩ = some z ∧ TV P w (.agg #[x, y, z]) es[k] := by
  obtain ⟨rs, h1, h2, h3⟩ := h
  rcases h1.2 with ⟨rfl, _⟩ | ⟨g, o, c, _, rfl, hc⟩
  · simp at h2; omega
  · have hr : rs[k]? = some rs[k] := List.getElem?_eq_getElem (by omega)
    obtain ⟨a1, a2, a3⟩ := hc k _ hr
    exact ⟨g, o, c, _, _, _, by rw [h2], a1, a2, a3, h3 k _ _ hr (List.getElem?_eq_getElem hk)⟩

/-- A type's cells. -/
theorem TV.agg3 {P : Nat → Prop} {w : World} {x y z : Value} {t : Ty} (h : TV P w (.agg #[x, y, z]) t) : ∃ k oy my cy oz mz cz, x = .int .i64 k ∧ y = .slice oy my cy ∧ z = .slice oz mz cz := by
  obtain ⟨k, es, ns⟩ := t
  obtain ⟨ve, vn, e, hE, hN⟩ := h.out
  obtain ⟨o1, c1, rfl⟩ := hE.len
  obtain ⟨o2, c2, rfl⟩ := hN.len
  simp only [Value.agg.injEq, Array.mk.injEq, List.cons.injEq, and_true] at e
  exact ⟨k, _, _, _, _, _, _, e.1, e.2.1, e.2.2⟩
theorem LV.at2 {P : Nat → Prop} {w : World} {v : Value} {es : List Ty} (h : LV P w v es) {k : Nat} (hk : k < es.length) :
    ∃ g o c k' oy my cy oz mz cz, v = .slice (some ⟨g, o, none⟩) es.length c ∧ w.cell? ⟨g, o + k * 3, none⟩ = some (.int .i64 k') ∧ w.cell? ⟨g, o + k * 3 + 1, none⟩ = some (.slice oy my cy) ∧ w.cell? ⟨g, o + k * 3 + 2, none⟩ = some (.slice oz mz cz) ∧ TV P w (.agg #[.int .i64 k', .slice oy my cy, .slice oz mz cz]) es[k] := by
  obtain ⟨g, o, c, x, y, z, e, a1, a2, a3, hT⟩ := h.at hk
  obtain ⟨k', oy, my, cy, oz, mz, cz, rfl, rfl, rfl⟩ := hT.agg3
  exact ⟨g, o, c, k', oy, my, cy, oz, mz, cz, e, a1, a2, a3, hT⟩

theorem bcell {W w1 : World} (hb : Below W.heap.size W w1) {g o : Nat} {u : Value} (h : W.cell? ⟨g, o, none⟩ = some u) : w1.cell? ⟨g, o, none⟩ = some u :=
  KeepsP.below (P := fun _ => True) hb g o u trivial h
theorem TV.elem {P : Nat → Prop} {w : World} {v : Value} {k : Int} {es : List Ty} {ns : List ByteArray} (h : TV P w v (.mk k es ns)) : ∀ e ∈ es, ∃ u, TV P w u e := by
  obtain ⟨ve, vn, _, hE, _⟩ := h.out
  intro e he
  obtain ⟨i, hi, rfl⟩ := List.getElem_of_mem he
  obtain ⟨_, _, _, x, y, z, _, _, _, _, hT⟩ := hE.at hi
  exact ⟨_, hT⟩
theorem TV.names_le {P : Nat → Prop} {w : World} {v : Value} {t : Ty} (h : TV P w v t) : namesT t ≤ sizeT t * 140737488355328 := by
  induction t using Ty.ind generalizing v with
  | h k es ns ih =>
    have hel := h.elem
    obtain ⟨ve, vn, _, _, hN⟩ := h.out
    have hn := hN.le
    have key : ∀ l : List Ty, (∀ e ∈ l, e ∈ es) → namesL l ≤ sizeL l * 140737488355328 := by
      intro l
      induction l with
      | nil => intro _; simp [namesL]
      | cons e l ih2 =>
        intro hl
        obtain ⟨u, hu⟩ := hel e (hl e (List.mem_cons_self ..))
        have h1 := ih e (hl e (List.mem_cons_self ..)) hu
        have h2 := ih2 fun x hx => hl x (List.mem_cons_of_mem _ hx)
        unfold namesL sizeL
        omega
    have := key es fun _ h => h
    unfold namesT sizeT
    omega

/-- A new block of three cells. -/
theorem box3 (w : World) (a b c : Value) (T : Nat) : Below w.heap.size w (w.alloc (.cells #[a, b, c] T)) ∧ (w.alloc (.cells #[a, b, c] T)).cell? ⟨w.heap.size, 0, none⟩ = some a ∧ (w.alloc (.cells #[a, b, c] T)).cell? ⟨w.heap.size, 1, none⟩ = some b ∧ (w.alloc (.cells #[a, b, c] T)).cell? ⟨w.heap.size, 2, none⟩ = some c ∧ w.heap.size < (w.alloc (.cells #[a, b, c] T)).heap.size := by
  refine ⟨(Below.refl _ _).alloc (Nat.le_refl _) _, ?_, ?_, ?_, by simp⟩ <;> simp [World.cell?_alloc_new]
end Go.Proofs.YtfljnigbfacmjaaGreatDoor
