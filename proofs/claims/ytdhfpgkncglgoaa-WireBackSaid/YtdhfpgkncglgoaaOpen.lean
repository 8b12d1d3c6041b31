/- Lists of structs that came in, opened. -/
import Derived.Test.YtdhfpgkncglgoaaAny
import Derived.Test.YtdhfpgkncglgoaaFrame
import Derived.Deep.Slices
namespace Go.Proofs.Ytdhfpgkncglgoaa
open Go.ChangeShapes Go.WideShapes Go.ChangeAt Go.RowKit Go.Deep
set_option linter.unusedVariables false

theorem cells38 : Try.prog.cellsOf 43 = 2 := by kernel_rfl
theorem cells26 : Try.prog.cellsOf 29 = 3 := by kernel_rfl
theorem c3 : Try.prog.cellsOf 3 = 1 := by kernel_rfl
theorem c4 : Try.prog.cellsOf 4 = 1 := by kernel_rfl
theorem c9 : Try.prog.cellsOf 9 = 1 := by kernel_rfl

theorem add_off (b o i : Nat) : (⟨b, o, none⟩ : Addr).add i = ⟨b, o + i, none⟩ := by
  unfold Addr.add; split <;> simp_all
/-- The address of a list's elements, where there are any. -/
theorem addr_head {W : World} {a : Addr} {n m : Nat} {cs : List Value} {base : Nat} (h : W.cells? base (a.add n) (m + 1) = some cs) : n = 0 → a.spot = none := by
  intro hn
  subst hn
  obtain ⟨_, hl, hc⟩ := World.cells?_some h
  have h0 := hc 0 (by omega)
  rw [List.getElem?_eq_getElem (by omega)] at h0
  have ea : (a.add 0).add 0 = a := by simp [Addr.add]
  rw [ea] at h0
  unfold World.cell? at h0
  split at h0
  · split at h0
    · cases h0
    · rename_i h; simpa using h
  · cases h0

theorem open_acts {H : Type} {enc : TypeId × Value → H} {W : World} {v : Value} {d : DataW H} {p : List MemPlace} {base : Nat}
    (hv : Value.okWide Try.prog W .any base 38 v) (h : DataW.Trod enc Try.prog W 0 (fun _ => true) true 38 v d p) :
    ∃ (oa : Option Addr) (len cap : Nat) (kd nm : Nat → Int), v = .slice oa len cap ∧ len ≤ maxLen ∧ Acts W oa len kd nm := by
  obtain ⟨a0, len0, cap0, rfl⟩ := okWide_slice Try.underlying38 hv
  obtain ⟨fuel, hf⟩ := h
  rcases open_slice Try.underlying38 hf with ⟨hcs, hx⟩ | ⟨a, len, cap, m, n, D, Pl, hcs, hb, hl, hm, hmm, hx, hel⟩
  · have : Value.slice a0 len0 cap0 = .slice none 0 0 := by simpa [Value.cells] using hcs
    exact ⟨none, 0, 0, fun _ => 0, fun _ => 0, this, by simp [maxLen], ⟨fun h => by omega, fun _ _ _ h => by omega, fun _ _ _ _ h => by omega, fun _ _ _ _ h => by omega⟩⟩
  · have hv' : Value.slice a0 len0 cap0 = .slice (some a) len cap := by simpa [Value.cells] using hcs
    have key : ∀ i, i < len → ∃ x y : Int, W.cell? (a.add (i * 2)) = some (.int .i64 x) ∧ W.cell? ((a.add (i * 2)).add 1) = some (.int .i64 y) := by
      intro i hi
      obtain ⟨cs, h1, h2⟩ := hel i (by rw [hmm]; simp; omega)
      rw [cells38] at h1
      obtain ⟨_, hlen, hc⟩ := World.cells?_some h1
      match cs, hlen with
      | [u0, u1], _ =>
        obtain ⟨y0, y1, m, _, _, t0, t1⟩ := trod_struct2 Try.underlying43 h2
        simp only [c3, List.drop_zero, List.take_succ_cons, List.take_zero, List.drop_succ_cons] at t0 t1
        obtain ⟨x, e0, _, _⟩ := DataW.trod_int Try.underlying3 t0
        obtain ⟨y, e1, _, _⟩ := DataW.trod_int Try.underlying3 t1
        simp at e0 e1
        subst e0 e1
        refine ⟨x, y, ?_, ?_⟩
        · have := hc 0 (by omega)
          simpa [Addr.add] using this
        · exact hc 1 (by omega)
    obtain ⟨kd, hkd⟩ := choose_lt (α := Int) (p := fun i x => ∃ y : Int, W.cell? (a.add (i * 2)) = some (.int .i64 x) ∧ W.cell? ((a.add (i * 2)).add 1) = some (.int .i64 y)) key
    obtain ⟨nm, hnm⟩ := choose_lt (α := Int) hkd
    refine ⟨some a, len, cap, kd, nm, hv', Nat.le_trans hl hm, ⟨?_, ?_, ?_, ?_⟩⟩
    · intro h0
      obtain ⟨cs, h1, h2⟩ := hel 0 (by rw [hmm]; simp; omega)
      rw [cells38] at h1
      have := addr_head h1 (by omega)
      obtain ⟨b, o, sp⟩ := a
      simp at this
      subst this
      exact ⟨b, o, rfl⟩
    · intro b off e h0
      have := (hnm 0 h0).1
      have hh := World.block_lt_of_cell? W _ this
      simp at e
      subst e
      simpa [Addr.add] using hh
    · intro b off i e hi
      have := (hnm i hi).1
      simp at e
      subst e
      rwa [add_off] at this
    · intro b off i e hi
      have := (hnm i hi).2
      simp at e
      subst e
      rwa [add_off, add_off] at this
end Go.Proofs.Ytdhfpgkncglgoaa
