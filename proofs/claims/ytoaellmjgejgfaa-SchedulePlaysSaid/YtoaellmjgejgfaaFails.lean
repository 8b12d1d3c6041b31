/- A failure: plain mathematics of ScheduleFails. -/
import Derived.Test.YtoaellmjgejgfaaInter
import Derived.Test.YtoaellmjgejgfaaDeps
namespace Go.Proofs.Ytoaellmjgejgfaa
set_option linter.unusedVariables false

/-- The steps that depend on n, ascending. -/
structure IsDeps (ns : List (List Int)) (n : Int) (on : List Int) : Prop where
  sorted : Sorted on
  mem : ∀ y, y ∈ on ↔ 0 ≤ y ∧ y < ns.length ∧ Dep ns n y

structure FI (s : St) (ns : List (List Int)) (n : Int) (on : List Int) (i : Nat) : Prop where
  inv : Inv s
  needs : s.needs = ns
  meas : 2 * s.wt.length + s.rn.length + i ≤ 2 * ns.length
  phase : ((n ∈ s.wt ∨ n ∈ s.rn) ∧ s.fl = [] ∧ s.sk = []) ∨ (s.fl = [n] ∧ s.sk = on)

section
variable {s : St} {ns : List (List Int)} {n : Int} {on : List Int} {i : Nat}
theorem fi_new {order : List Int} {limit : Int} (h : Inv (stNew ns order limit)) (h0 : 0 ≤ n) (h1 : n < ns.length) : FI (stNew ns order limit) ns n on 0 :=
  ⟨h, rfl, by show 2 * ((List.range ns.length).map Int.ofNat).length + 0 + 0 ≤ _; simp, .inl ⟨.inl (range_mem.2 ⟨h0, h1⟩), rfl, rfl⟩⟩

theorem FI.begin_ (h : FI s ns n on i) {y : Int} (hy : y ∈ readyL s) : FI (beginS s y).2 ns n on (i + 1) := by
  obtain ⟨_, e, hw⟩ := begin_of_ready h.inv hy
  have hi := h.inv.begin_ y
  rw [e] at hi ⊢
  refine ⟨hi, h.needs, ?_, ?_⟩
  · show 2 * (del y s.wt).length + (ins y s.rn).length + (i + 1) ≤ _
    rw [length_ins (h.inv.wt_only hw).1]
    have h1 := length_del h.inv.good.swt hw
    have := h.meas; omega
  · rcases h.phase with ⟨h1, h2⟩ | h1
    · refine .inl ⟨?_, h2⟩
      by_cases hyn : n = y
      · exact .inr (mem_ins.2 (.inl hyn))
      · rcases h1 with h1 | h1
        · exact .inl ((mem_del h.inv.good.swt).2 ⟨h1, hyn⟩)
        · exact .inr (mem_ins.2 (.inr h1))
    · exact .inr h1
theorem FI.finish (h : FI s ns n on i) {y : Int} (hy : y ∈ s.rn) (hne : y ≠ n) : FI (finishS s y).2 ns n on (i + 1) := by
  have hi := h.inv.finish y
  rw [finish_of_running h.inv hy] at hi ⊢
  refine ⟨hi, h.needs, ?_, ?_⟩
  · show 2 * s.wt.length + (del y s.rn).length + (i + 1) ≤ _
    have h1 := length_del h.inv.good.srn hy
    have := h.meas; omega
  · rcases h.phase with ⟨h1, h2⟩ | h1
    · refine .inl ⟨?_, h2⟩
      rcases h1 with h1 | h1
      · exact .inl h1
      · exact .inr ((mem_del h.inv.good.srn).2 ⟨h1, fun e => hne e.symm⟩)
    · exact .inr h1
theorem FI.fail (h : FI s ns n on i) (hd : IsDeps ns n on) (hy : n ∈ s.rn) : (failS s n).1 = 0 ∧ (failS s n).2.2 = on ∧ FI (failS s n).2.1 ns n on (i + 1) := by
  have hst : (stopS s n).1 = 0 := by rw [stop_of_running h.inv hy]
  have hi := h.inv.fail n
  obtain ⟨e1, e2⟩ := fail_spec hst
  have hmem := mem_failL h.inv hst
  have hfl : s.fl = [] ∧ s.sk = [] := by
    rcases h.phase with h1 | h1
    · exact h1.2
    · exact absurd hy (fun hy => (h.inv.rn_only hy).2.2.1 (by rw [h1.1]; exact List.mem_singleton.2 rfl))
  have hon : failL s n = on := by
    refine sorted_ext ?_ hd.sorted fun y => ?_
    · rw [e2]; exact sorted_del (lostS_sorted _ _ _)
    · rw [hmem y, hd.mem y, h.needs]
      constructor
      · rintro ⟨a, b⟩
        have := h.inv.good.rwt y a
        rw [h.needs] at this
        exact ⟨this.1, this.2, b⟩
      · rintro ⟨a, b, c⟩
        refine ⟨?_, c⟩
        have hndn := (h.inv.rn_only hy).2.1
        have c' : Dep s.needs n y := by rw [h.needs]; exact c
        rcases h.inv.where_ a (by rw [h.needs]; exact b) with w | w | w | w | w
        · exact w.1
        · exact absurd (dep_dn h.inv c' (.inl w.2.1)) hndn
        · exact absurd (dep_dn h.inv c' (.inr (.inl w.2.2.1))) hndn
        · exact absurd (dep_dn h.inv c' (.inr (.inr w.2.2.2.1))) hndn
        · have := w.2.2.2.2; rw [hfl.2] at this; cases this
  rw [e1] at hi ⊢
  refine ⟨rfl, hon, hi, (skip_needs _ _).trans h.needs, ?_, .inr ?_⟩
  · obtain ⟨f1, f2, f3, f4, f5⟩ := skip_mem (failL s n) { s with rn := del n s.rn, fl := ins n s.fl } h.inv.good.swt
    show 2 * (skipS { s with rn := del n s.rn, fl := ins n s.fl } (failL s n)).wt.length + (skipS { s with rn := del n s.rn, fl := ins n s.fl } (failL s n)).rn.length + (i + 1) ≤ _
    rw [f1]
    have h1 := length_del h.inv.good.srn hy
    have hsk : ∀ (l : List Int) (s : St), (skipS s l).wt.length ≤ s.wt.length := by
      intro l
      induction l with
      | nil => intro s; exact Nat.le_refl _
      | cons x l ih => intro s; exact Nat.le_trans (ih (skipOne s x)) (length_del_le _ _)
    have h2 := hsk (failL s n) { s with rn := del n s.rn, fl := ins n s.fl }
    have h3 : ({ s with rn := del n s.rn, fl := ins n s.fl } : St).wt.length = s.wt.length := rfl
    have h4 : ({ s with rn := del n s.rn, fl := ins n s.fl } : St).rn = del n s.rn := rfl
    rw [h4]
    have := h.meas
    omega
  · obtain ⟨f1, f2, f3, f4, f5⟩ := skip_mem (failL s n) { s with rn := del n s.rn, fl := ins n s.fl } h.inv.good.swt
    refine ⟨?_, ?_⟩
    · show (skipS { s with rn := del n s.rn, fl := ins n s.fl } (failL s n)).fl = [n]
      rw [f3]
      show ins n s.fl = [n]
      rw [hfl.1]; rfl
    · show (skipS { s with rn := del n s.rn, fl := ins n s.fl } (failL s n)).sk = on
      refine sorted_ext hi.good.ssk hd.sorted fun y => ?_
      rw [f5 y, hon]
      show y ∈ s.sk ∨ y ∈ on ↔ _
      rw [hfl.2]; simp
theorem FI.idle (h : FI s ns n on i) (hi : i < 2 * ns.length) (h1 : readyL s = []) (h2 : s.rn = []) : FI s ns n on (i + 1) := by
  have hw : s.wt = [] := Classical.byContradiction fun hne => h.inv.progress hne h2 h1
  refine ⟨h.inv, h.needs, ?_, h.phase⟩
  rw [hw, h2]
  simp; omega
theorem FI.fin (h : FI s ns n on (2 * ns.length)) : s.wt.length + s.rn.length = 0 ∧ s.dn.length + 1 + on.length = ns.length ∧ s.fl.length = 1 ∧ s.sk.length = on.length := by
  have hm := h.meas
  have hw : s.wt = [] := List.eq_nil_of_length_eq_zero (by omega)
  have hr : s.rn = [] := List.eq_nil_of_length_eq_zero (by omega)
  have hs := h.inv.sum
  rw [h.needs] at hs
  rcases h.phase with ⟨h1, _⟩ | ⟨h1, h2⟩
  · rw [hw, hr] at h1
    rcases h1 with h1 | h1 <;> cases h1
  · have e1 : s.fl.length = 1 := by rw [h1]; rfl
    have e2 : s.sk.length = on.length := by rw [h2]
    omega
theorem FI.small (h : FI s ns n on i) : (readyL s).length ≤ ns.length ∧ s.rn.length ≤ ns.length := by
  have h1 : (readyL s).length ≤ s.wt.length := List.length_filter_le _ _
  have hs := h.inv.sum
  rw [h.needs] at hs
  omega
end
end Go.Proofs.Ytoaellmjgejgfaa
