/- Views: slices that are only read. -/
import Derived.Test.YtoaellmjgejgfaaApp
import Derived.Test.YtoaellmjgejgfaaReady
import Derived.Test.YtoaellmjgejgfaaKahn
namespace Go.Proofs.Ytoaellmjgejgfaa
open Go Go.RowKit Go.Shelf
set_option linter.unusedVariables false

/-- v reads as vs, one cell each. -/
def CView (w : World) (v : Value) (vs : List Value) : Prop :=
  (vs = [] ∧ ∃ oa c, v = .slice oa 0 c) ∨ ∃ g o c, v = .slice (some ⟨g, o, none⟩) vs.length c ∧ ∀ i u, vs[i]? = some u → w.cell? ⟨g, o + i, none⟩ = some u
def View (w : World) (v : Value) (l : List Int) : Prop := CView w v (ints l)
def NView (w : World) (v : Value) (ns : List (List Int)) : Prop :=
  ∃ vs, CView w v vs ∧ vs.length = ns.length ∧ ∀ (i : Nat) u l, vs[i]? = some u → ns[i]? = some l → View w u l

/-- What could be read before can be read still. -/
def Keeps (w w' : World) : Prop := ∀ (g o : Nat) u, w.cell? ⟨g, o, none⟩ = some u → w'.cell? ⟨g, o, none⟩ = some u
theorem Keeps.refl (w : World) : Keeps w w := fun _ _ _ h => h
theorem Keeps.trans {u v w : World} (h : Keeps u v) (k : Keeps v w) : Keeps u w := fun g o x hx => k g o x (h g o x hx)
theorem Keeps.below {w w' : World} (h : Below w.heap.size w w') : Keeps w w' := fun g o u hu => by
  have hb := World.block_lt_of_cell? w _ hu
  rw [h.cell (p := ⟨g, o, none⟩) hb]; exact hu

theorem CView.keep {w w' : World} {v : Value} {vs : List Value} (h : CView w v vs) (k : Keeps w w') : CView w' v vs :=
  h.imp id fun ⟨g, o, c, e, hc⟩ => ⟨g, o, c, e, fun i u hu => k _ _ _ (hc i u hu)⟩
theorem View.keep {w w' : World} {v : Value} {l : List Int} (h : View w v l) (k : Keeps w w') : View w' v l := CView.keep h k
theorem NView.keep {w w' : World} {v : Value} {ns : List (List Int)} (h : NView w v ns) (k : Keeps w w') : NView w' v ns := by
  obtain ⟨vs, h1, h2, h3⟩ := h
  exact ⟨vs, h1.keep k, h2, fun i u l hu hl => (h3 i u l hu hl).keep k⟩

theorem CView.len {w : World} {v : Value} {vs : List Value} (h : CView w v vs) : ∃ oa c, v = .slice oa vs.length c := by
  rcases h with ⟨rfl, oa, c, rfl⟩ | ⟨g, o, c, rfl, _⟩
  · exact ⟨oa, c, rfl⟩
  · exact ⟨_, c, rfl⟩
theorem View.len {w : World} {v : Value} {l : List Int} (h : View w v l) : ∃ oa c, v = .slice oa l.length c := by
  have := CView.len h
  rwa [List.length_map] at this
theorem NView.len {w : World} {v : Value} {ns : List (List Int)} (h : NView w v ns) : ∃ oa c, v = .slice oa ns.length c := by
  obtain ⟨vs, h1, h2, h3⟩ := h
  have := h1.len
  rwa [h2] at this
theorem View.at {w : World} {v : Value} {l : List Int} (h : View w v l) {k : Nat} (hk : k < l.length) :
    ∃ g o c, v = .slice (some ⟨g, o, none⟩) l.length c ∧ w.cell? ⟨g, o + k, none⟩ = some (.int .i64 (l.getD k 0)) := by
  rcases h with ⟨h0, _⟩ | ⟨g, o, c, rfl, hc⟩
  · have : l = [] := by simpa using h0
    subst this; cases hk
  · refine ⟨g, o, c, by rw [List.length_map], hc k _ ?_⟩
    rw [List.getElem?_map, List.getElem?_eq_getElem hk, List.getD_eq_getElem?_getD, List.getElem?_eq_getElem hk]; rfl
theorem NView.at {w : World} {v : Value} {ns : List (List Int)} (h : NView w v ns) {k : Nat} (hk : k < ns.length) :
    ∃ g o c u, v = .slice (some ⟨g, o, none⟩) ns.length c ∧ w.cell? ⟨g, o + k, none⟩ = some u ∧ View w u (nd ns k) := by
  obtain ⟨vs, h1, h2, h3⟩ := h
  rcases h1 with ⟨rfl, _⟩ | ⟨g, o, c, rfl, hc⟩
  · simp at h2; omega
  · have hu : vs[k]? = some vs[k] := List.getElem?_eq_getElem (by omega)
    refine ⟨g, o, c, vs[k], by rw [h2], hc k _ hu, h3 k _ _ hu ?_⟩
    rw [List.getElem?_eq_getElem hk, nd, List.getD_eq_getElem?_getD, List.getElem?_eq_getElem hk]; rfl

theorem Row.view {w : World} {v : Value} {l : List Int} (h : Row w v l) : View w v l := by
  rcases h with ⟨rfl, rfl⟩ | ⟨g, pad, rfl, hh, _⟩
  · exact .inl ⟨rfl, none, 0, rfl⟩
  · refine .inr ⟨g, 0, _, by rw [List.length_map], fun i u hu => ?_⟩
    rw [Nat.zero_add, cells_in hh]
    simp only [List.getElem?_toArray]
    rw [List.getElem?_append_left (List.getElem?_eq_some_iff.1 hu).1]
    exact hu
theorem NeedsT.nview {own : Nat → Nat} {tag : Nat} {w : World} {v : Value} {ns : List (List Int)} (h : NeedsT own tag w v ns) : NView w v ns := by
  obtain ⟨vs, hl, hr, hv⟩ := h
  refine ⟨vs, ?_, hl, fun i u l hu hn => (hr i u l hu hn).1.view⟩
  rcases hv with ⟨rfl, rfl⟩ | ⟨g, pad, rfl, hh, hg⟩
  · exact .inl ⟨rfl, none, 0, rfl⟩
  · refine .inr ⟨g, 0, _, rfl, fun i u hu => ?_⟩
    rw [Nat.zero_add, cells_in hh]
    simp only [List.getElem?_toArray]
    rw [List.getElem?_append_left (List.getElem?_eq_some_iff.1 hu).1]
    exact hu

theorem info3 : (Try.prog.info? 3).map (fun i => (i.zero, i.size, i.bytes)) = some (some (.int .i64 0), 1, 8) := by kernel_rfl
theorem info31 : (Try.prog.info? 31).map (fun i => (i.zero, i.size, i.bytes)) = some (some (.slice none 0 0), 1, 24) := by kernel_rfl
theorem info67 : (Try.prog.info? 67).map (fun i => (i.zero, i.size, i.bytes)) = some (some (.agg #[.int .i64 0, .int .i64 0, .slice none 0 0]), 3, 40) := by kernel_rfl

theorem make_ints (w : World) (n : Nat) (hn : n ≤ 1000000) : (Instr.makeSlice 31 (.int .i64 (n : Int)) (.int .i64 (n : Int))).run Try.prog w =
    .ok (.slice (some ⟨w.heap.size, 0, none⟩) n n) (w.alloc (.cells (Array.replicate n (.int .i64 0)) 3)) := by
  obtain ⟨i, hi, hz, hs, hb⟩ := info_parts info3
  have := run_make (P := Try.prog) w 31 3 i _ Try.underlying31 hi hz .i64 .i64 n n (by omega) (Int.le_refl _) (by rw [hb]; omega) (by omega)
  rw [this, hs]
  simp only [Int.toNat_natCast, Nat.mul_one]
  congr 3
  apply Array.ext'
  simp [madeCells, Value.cells, Nat.mod_one, List.map_const']
theorem make_rows (w : World) (n : Nat) (hn : n ≤ 1000000) : (Instr.makeSlice 22 (.int .i64 (n : Int)) (.int .i64 (n : Int))).run Try.prog w =
    .ok (.slice (some ⟨w.heap.size, 0, none⟩) n n) (w.alloc (.cells (Array.replicate n (.slice none 0 0)) 31)) := by
  obtain ⟨i, hi, hz, hs, hb⟩ := info_parts info31
  have := run_make (P := Try.prog) w 22 31 i _ Try.underlying22 hi hz .i64 .i64 n n (by omega) (Int.le_refl _) (by rw [hb]; omega) (by omega)
  rw [this, hs]
  simp only [Int.toNat_natCast, Nat.mul_one]
  congr 3
  apply Array.ext'
  simp [madeCells, Value.cells, Nat.mod_one, List.map_const']
end Go.Proofs.Ytoaellmjgejgfaa
