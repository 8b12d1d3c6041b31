/- Arguments that came in, opened as views. -/
import Derived.Test.YtoaellmjgejgfaaView
import Derived.Test.YtoaellmjgejgfaaFrame
import Derived.Deep.Slices
import Derived.Deep.Matrix
namespace Go.Proofs.Ytoaellmjgejgfaa
open Go.ChangeShapes Go.WideShapes Go.ChangeAt Go.RowKit Go.Deep
set_option linter.unusedVariables false

theorem c31 : Try.prog.cellsOf 31 = 1 := by kernel_rfl
theorem c3 : Try.prog.cellsOf 3 = 1 := by kernel_rfl
theorem add_off (b o i : Nat) : (⟨b, o, none⟩ : Addr).add i = ⟨b, o + i, none⟩ := by
  unfold Addr.add; split <;> simp_all
theorem spot_none {W : World} {a : Addr} {v : Value} (h0 : W.cell? a = some v) : a.spot = none := by
  unfold World.cell? at h0
  split at h0
  · split at h0
    · cases h0
    · rename_i h; simpa using h
  · cases h0
/-- An address at whose head something is read. -/
theorem addr_flat {W : World} {a : Addr} {v : Value} (h : W.cell? (a.add 0) = some v) : ∃ g o, a = ⟨g, o, none⟩ := by
  have ea : a.add 0 = a := by simp [Addr.add]
  rw [ea] at h
  have hs := spot_none h
  obtain ⟨g, o, s⟩ := a
  simp at hs
  subst hs
  exact ⟨g, o, rfl⟩

theorem open_rows {H : Type} {enc : TypeId × Value → H} {W : World} {v : Value} {d : DataW H} {p : List MemPlace} {base : Nat}
    (hv : Value.okWide Try.prog W .any base 22 v) (h : DataW.Trod enc Try.prog W 0 (fun _ => true) true 22 v d p) :
    ∃ ns : List (List Int), NView W v ns ∧ ns.length ≤ 9223372036854775807 ∧ ∀ l ∈ ns, l.length ≤ 9223372036854775807 := by
  obtain ⟨a0, len0, cap0, rfl⟩ := okWide_slice Try.underlying22 hv
  obtain ⟨fuel, hf⟩ := h
  rcases open_int_rows Try.underlying22 Try.underlying31 Try.underlying3 c31 c3 hf with ⟨hcs, hx⟩ | ⟨a, len, cap, A, L, C, Z, hcs, hb, hl, hm, hx, hel⟩
  · have hv' : Value.slice a0 len0 cap0 = .slice none 0 0 := by simpa [Value.cells] using hcs
    rw [hv']
    exact ⟨[], ⟨[], .inl ⟨rfl, none, 0, rfl⟩, rfl, fun i u l hu => by cases hu⟩, by simp, fun l hl => by cases hl⟩
  · have hv' : Value.slice a0 len0 cap0 = .slice (some a) len cap := by simpa [Value.cells] using hcs
    rw [hv']
    have hm' : cap ≤ 9223372036854775807 := by simpa [maxLen] using hm
    have hLl : ∀ r, r < cap → L r ≤ 9223372036854775807 := fun r hr => by
      have h1 := (hel r hr).2.1
      have h2 : C r ≤ 9223372036854775807 := by simpa [maxLen] using (hel r hr).2.2.1
      omega
    have hlen : ∀ r, r < cap → ((Z r).take (L r)).length = L r := fun r hr => by
      have h1 := (hel r hr).2.1
      have h2 := (hel r hr).2.2.2.1
      rw [List.length_take]; omega
    refine ⟨(List.range len).map fun r => (Z r).take (L r), ⟨(List.range len).map fun r => .slice (A r) (L r) (C r), ?_, by simp, ?_⟩, by simp; omega, ?_⟩
    · by_cases h0 : len = 0
      · subst h0
        exact .inl ⟨rfl, some a, cap, rfl⟩
      · obtain ⟨g, o, rfl⟩ := addr_flat (hel 0 (by omega)).1
        refine .inr ⟨g, o, cap, by simp, fun i u hu => ?_⟩
        have hi : i < len := by have := (List.getElem?_eq_some_iff.1 hu).1; simpa using this
        rw [List.getElem?_map, List.getElem?_range hi] at hu
        cases hu
        have := (hel i (by omega)).1
        rwa [add_off] at this
    · intro i u l hu hl'
      have hi : i < len := by have := (List.getElem?_eq_some_iff.1 hu).1; simpa using this
      rw [List.getElem?_map, List.getElem?_range hi] at hu hl'
      cases hu
      cases hl'
      show View W (.slice (A i) (L i) (C i)) ((Z i).take (L i))
      obtain ⟨e1, e2, e3, e4, e5, e6, e7⟩ := hel i (by omega)
      have hle := hlen i (by omega)
      by_cases h0 : L i = 0
      · refine .inl ⟨?_, A i, C i, by rw [h0]⟩
        have : (Z i).take (L i) = [] := List.eq_nil_of_length_eq_zero (by rw [hle, h0])
        rw [this]; rfl
      · cases hA : A i with
        | none => have := e6 hA; omega
        | some a' =>
          have hc := (e7 a' hA).2
          obtain ⟨g, o, rfl⟩ := addr_flat (hc 0 (by omega))
          refine .inr ⟨g, o, C i, by rw [List.length_map, hle], fun j x hx => ?_⟩
          have hj : j < L i := by have := (List.getElem?_eq_some_iff.1 hx).1; simp at this; omega
          have := hc j (by omega)
          rw [add_off] at this
          rw [this, ← hx, List.getElem?_map, List.getElem?_take, if_pos hj, List.getD_eq_getElem?_getD, List.getElem?_eq_getElem (by omega)]; rfl
    · intro l hl'
      simp only [List.mem_map, List.mem_range] at hl'
      obtain ⟨r, hr, rfl⟩ := hl'
      rw [hlen r (by omega)]
      exact hLl r (by omega)
end Go.Proofs.Ytoaellmjgejgfaa
