/- What holds of a Scheduler all along: plain mathematics. -/
import Derived.Test.YtoaellmjgejgfaaLive
import Derived.Test.YtoaellmjgejgfaaRefN
namespace Go.Proofs.Ytoaellmjgejgfaa
set_option linter.unusedVariables false

def b2n (b : Bool) : Nat := if b then 1 else 0
/-- In how many of the five sets y is. -/
def mem5 (s : St) (y : Int) : Nat := b2n (s.wt.contains y) + b2n (s.rn.contains y) + b2n (s.dn.contains y) + b2n (s.fl.contains y) + b2n (s.sk.contains y)

structure Inv (s : St) : Prop where
  good : Good s
  valid : Valid s.needs
  ord : OrdSpec s.needs s.order
  full : s.order.length = s.needs.length
  lim : 1 ≤ s.limit
  part : ∀ y : Int, 0 ≤ y → y < s.needs.length → mem5 s y = 1
  rlim : (s.rn.length : Int) ≤ s.limit
  run : ∀ y : Int, (y ∈ s.rn ∨ y ∈ s.dn ∨ y ∈ s.fl) → ∀ x ∈ nd s.needs y.toNat, x ∈ s.dn
  skp : ∀ y : Int, 0 ≤ y → y < s.needs.length → (∃ x ∈ nd s.needs y.toNat, x ∈ s.fl ∨ x ∈ s.sk) → y ∈ s.sk

theorem has_ins {x y : Int} {l : List Int} : (ins x l).contains y = (decide (y = x) || l.contains y) := by
  rw [Bool.eq_iff_iff, List.contains_iff_mem, mem_ins, Bool.or_eq_true, decide_eq_true_eq, List.contains_iff_mem]
theorem has_del {x y : Int} {l : List Int} (h : Sorted l) : (del x l).contains y = (l.contains y && decide (y ≠ x)) := by
  rw [Bool.eq_iff_iff, List.contains_iff_mem, mem_del h, Bool.and_eq_true, decide_eq_true_eq, List.contains_iff_mem]

theorem mem_of_contains {l : List Int} {y : Int} : l.contains y = true ↔ y ∈ l := List.contains_iff_mem

section
variable {s : St}

/-- Where a step is. -/
theorem Inv.where_ (h : Inv s) {y : Int} (h0 : 0 ≤ y) (h1 : y < s.needs.length) :
    (y ∈ s.wt ∧ y ∉ s.rn ∧ y ∉ s.dn ∧ y ∉ s.fl ∧ y ∉ s.sk) ∨ (y ∉ s.wt ∧ y ∈ s.rn ∧ y ∉ s.dn ∧ y ∉ s.fl ∧ y ∉ s.sk) ∨ (y ∉ s.wt ∧ y ∉ s.rn ∧ y ∈ s.dn ∧ y ∉ s.fl ∧ y ∉ s.sk) ∨
    (y ∉ s.wt ∧ y ∉ s.rn ∧ y ∉ s.dn ∧ y ∈ s.fl ∧ y ∉ s.sk) ∨ (y ∉ s.wt ∧ y ∉ s.rn ∧ y ∉ s.dn ∧ y ∉ s.fl ∧ y ∈ s.sk) := by
  have hp := h.part y h0 h1
  unfold mem5 b2n at hp
  simp only [← mem_of_contains]
  generalize s.wt.contains y = a at *
  generalize s.rn.contains y = b at *
  generalize s.dn.contains y = c at *
  generalize s.fl.contains y = d at *
  generalize s.sk.contains y = e at *
  cases a <;> cases b <;> cases c <;> cases d <;> cases e <;> simp at hp ⊢

theorem Inv.wt_only (h : Inv s) {y : Int} (hy : y ∈ s.wt) : y ∉ s.rn ∧ y ∉ s.dn ∧ y ∉ s.fl ∧ y ∉ s.sk := by
  have hr := h.good.rwt y hy
  rcases h.where_ hr.1 hr.2 with h | h | h | h | h
  · exact h.2
  all_goals exact absurd hy h.1
theorem Inv.rn_only (h : Inv s) {y : Int} (hy : y ∈ s.rn) : y ∉ s.wt ∧ y ∉ s.dn ∧ y ∉ s.fl ∧ y ∉ s.sk := by
  have hr := h.good.rrn y hy
  rcases h.where_ hr.1 hr.2 with h | h | h | h | h
  · exact absurd hy h.2.1
  · exact ⟨h.1, h.2.2⟩
  all_goals exact absurd hy h.2.1

/-- The lengths add up. -/
theorem Inv.sum (h : Inv s) : s.wt.length + s.rn.length + s.dn.length + s.fl.length + s.sk.length = s.needs.length := by
  have key : ∀ (m : Nat), m ≤ s.needs.length → ∀ l : List Int, Sorted l → (∀ y ∈ l, 0 ≤ y ∧ y < s.needs.length) → (l.filter (fun y : Int => decide (y < (m : Int)))).length = ((List.range m).filter (fun n : Nat => l.contains (n : Int))).length := by
    intro m
    induction m with
    | zero =>
      intro _ l _ hr
      rw [List.range_zero, List.filter_nil, List.filter_eq_nil_iff.2 fun y hy => ?_]
      · rfl
      · have := hr y hy; simp; omega
    | succ m ih =>
      intro hm l hs hr
      rw [List.range_succ, List.filter_append, List.length_append, ← ih (by omega) l hs hr]
      have e : (l.filter (fun y : Int => decide (y < ((m + 1 : Nat) : Int)))).length = (l.filter (fun y : Int => decide (y < (m : Int)))).length + b2n (l.contains (m : Int)) := by
        clear ih hr
        induction l with
        | nil => rfl
        | cons a l ih =>
          obtain ⟨h1, h2⟩ := List.pairwise_cons.1 hs
          have ih := ih h2
          by_cases ha : a = (m : Int)
          · subst ha
            have hc : l.contains (m : Int) = false := by
              cases hc : l.contains (m : Int) with
              | false => rfl
              | true => have := h1 _ (List.contains_iff_mem.1 hc); omega
            rw [hc] at ih
            rw [List.filter_cons_of_pos (by simp; omega), List.filter_cons_of_neg (by simp), List.length_cons, ih]
            simp [b2n]
          · have hb : (a :: l).contains (m : Int) = l.contains (m : Int) := by simp [Ne.symm ha]
            rw [hb]
            by_cases hlt : a < (m : Int)
            · rw [List.filter_cons_of_pos (by simp; omega), List.filter_cons_of_pos (by simpa using hlt), List.length_cons, List.length_cons, ih]; omega
            · rw [List.filter_cons_of_neg (by simp; omega), List.filter_cons_of_neg (by simpa using hlt), ih]
      rw [e]
      congr 1
      cases hc : l.contains (m : Int) <;> simp [b2n, hc, -List.contains_eq_mem]
  have fullL : ∀ l : List Int, Sorted l → (∀ y ∈ l, 0 ≤ y ∧ y < s.needs.length) → l.length = ((List.range s.needs.length).filter (fun n : Nat => l.contains (n : Int))).length := by
    intro l hs hr
    rw [← key s.needs.length (Nat.le_refl _) l hs hr, List.filter_eq_self.2 fun y hy => by have := hr y hy; simp; omega]
  rw [fullL s.wt h.good.swt h.good.rwt, fullL s.rn h.good.srn h.good.rrn, fullL s.dn h.good.sdn h.good.rdn, fullL s.fl h.good.sfl h.good.rfl, fullL s.sk h.good.ssk h.good.rsk]
  have all : ∀ m, m ≤ s.needs.length → ((List.range m).filter (fun n : Nat => s.wt.contains (n : Int))).length + ((List.range m).filter (fun n : Nat => s.rn.contains (n : Int))).length + ((List.range m).filter (fun n : Nat => s.dn.contains (n : Int))).length +
      ((List.range m).filter (fun n : Nat => s.fl.contains (n : Int))).length + ((List.range m).filter (fun n : Nat => s.sk.contains (n : Int))).length = m := by
    intro m
    induction m with
    | zero => intro _; simp
    | succ m ih =>
      intro hm
      have ih := ih (by omega)
      have hp := h.part (m : Int) (by omega) (by omega)
      unfold mem5 at hp
      have one : ∀ l : List Int, ((List.range (m + 1)).filter (fun n : Nat => l.contains (n : Int))).length = ((List.range m).filter (fun n : Nat => l.contains (n : Int))).length + b2n (l.contains (m : Int)) := by
        intro l
        rw [List.range_succ, List.filter_append, List.length_append]
        congr 1
        cases hc : l.contains (m : Int) <;> simp [b2n, hc, -List.contains_eq_mem]
      rw [one, one, one, one, one]
      omega
  exact all _ (Nat.le_refl _)
end

theorem b2n_move {p q : Bool} {x y : Int} {a b : Bool} (hx : y = x → a = true ∧ b = false) : b2n (a && decide (y ≠ x)) + b2n (decide (y = x) || b) = b2n a + b2n b := by
  by_cases h : y = x
  · obtain ⟨rfl, rfl⟩ := hx h
    simp [h, b2n]
  · simp [h]

theorem ready_spec {s : St} {n : Nat} {l : List Int} (h : readyB s n l = true) : (n : Int) ∈ s.wt ∧ (s.rn.length : Int) < s.limit ∧ ∀ x ∈ l, x ∈ s.dn := by
  unfold readyB at h
  rw [Bool.and_eq_true, Bool.and_eq_true, List.contains_iff_mem, decide_eq_true_eq] at h
  refine ⟨h.1, h.2.1, fun x hx => ?_⟩
  have h3 := h.2.2
  rw [Bool.not_eq_true', List.any_eq_false] at h3
  have := h3 x hx
  simpa using this
theorem ready_of {s : St} {n : Nat} {l : List Int} (h1 : (n : Int) ∈ s.wt) (h2 : (s.rn.length : Int) < s.limit) (h3 : ∀ x ∈ l, x ∈ s.dn) : readyB s n l = true := by
  unfold readyB
  rw [Bool.and_eq_true, Bool.and_eq_true, List.contains_iff_mem, decide_eq_true_eq]
  refine ⟨h1, h2, ?_⟩
  rw [Bool.not_eq_true', List.any_eq_false]
  intro x hx
  simpa using h3 x hx

theorem begin_spec {s : St} {x : Int} (h : (beginS s x).1 = 0) : 0 ≤ x ∧ x < s.needs.length ∧ readyB s x.toNat (nd s.needs x.toNat) = true ∧ (beginS s x).2 = { s with wt := del x s.wt, rn := ins x s.rn } := by
  unfold beginS at h ⊢
  split at h
  · rename_i hx
    have hx' := hx
    unfold inR at hx'
    simp only [Bool.and_eq_true, decide_eq_true_eq] at hx'
    split at h
    · rename_i hr
      refine ⟨hx'.1, hx'.2, hr, ?_⟩
      rw [if_pos hx, if_pos hr]
    · cases h
  · cases h
theorem begin_same {s : St} {x : Int} (h : (beginS s x).1 ≠ 0) : (beginS s x).2 = s := by
  unfold beginS at h ⊢
  split
  · rename_i h1
    split
    · rename_i h2; rw [if_pos h1, if_pos h2] at h; exact absurd rfl h
    · rfl
  · rfl
theorem stop_spec {s : St} {x : Int} (h : (stopS s x).1 = 0) : 0 ≤ x ∧ x < s.needs.length ∧ x ∈ s.rn ∧ (stopS s x).2 = { s with rn := del x s.rn } := by
  have hi := stop_in h
  unfold stopS at h ⊢
  split at h
  · rename_i hx
    split at h
    · rename_i hr
      refine ⟨hi.1, hi.2, List.contains_iff_mem.1 hr, ?_⟩
      rw [if_pos hx, if_pos hr]
    · cases h
  · cases h
theorem stop_not {s : St} {x : Int} (h : x ∉ s.rn) : (stopS s x).1 ≠ 0 := fun e => h (stop_spec e).2.2.1

section
variable {s : St}
theorem Inv.begin_ (h : Inv s) (x : Int) : Inv (beginS s x).2 := by
  by_cases he : (beginS s x).1 = 0
  case neg => rw [begin_same he]; exact h
  obtain ⟨h0, h1, hr, e⟩ := begin_spec he
  obtain ⟨r1, r2, r3⟩ := ready_spec hr
  have hx : ((x.toNat : Nat) : Int) = x := by omega
  rw [hx] at r1
  have hw := h.wt_only r1
  have hg := good_begin h.good x
  rw [e] at hg ⊢
  refine ⟨hg, h.valid, h.ord, h.full, h.lim, fun y y0 y1 => ?_, ?_, fun y hy z hz => ?_, h.skp⟩
  · have hp := h.part y y0 y1
    unfold mem5 at hp ⊢
    simp only [has_ins, has_del h.good.swt]
    have := b2n_move (p := true) (q := true) (x := x) (y := y) (a := s.wt.contains y) (b := s.rn.contains y) (fun e => by
      subst e
      refine ⟨List.contains_iff_mem.2 r1, ?_⟩
      cases hc : s.rn.contains y with
      | false => rfl
      | true => exact absurd (List.contains_iff_mem.1 hc) hw.1)
    omega
  · show ((ins x s.rn).length : Int) ≤ s.limit
    rw [length_ins hw.1]; omega
  · rcases hy with hy | hy
    · rcases mem_ins.1 hy with rfl | hy
      · exact r3 z hz
      · exact h.run y (.inl hy) z hz
    · exact h.run y (.inr hy) z hz

theorem Inv.finish (h : Inv s) (x : Int) : Inv (finishS s x).2 := by
  by_cases he : (stopS s x).1 = 0
  case neg =>
    unfold finishS
    rw [if_neg he, stop_same he]; exact h
  obtain ⟨h0, h1, hr, e⟩ := stop_spec he
  have hw := h.rn_only hr
  have hg := good_finish h.good x
  unfold finishS at hg ⊢
  rw [if_pos he] at hg ⊢
  rw [e] at hg ⊢
  refine ⟨hg, h.valid, h.ord, h.full, h.lim, fun y y0 y1 => ?_, ?_, fun y hy z hz => ?_, h.skp⟩
  · have hp := h.part y y0 y1
    unfold mem5 at hp ⊢
    simp only [has_ins, has_del h.good.srn]
    have := b2n_move (p := true) (q := true) (x := x) (y := y) (a := s.rn.contains y) (b := s.dn.contains y) (fun e => by
      subst e
      refine ⟨List.contains_iff_mem.2 hr, ?_⟩
      cases hc : s.dn.contains y with
      | false => rfl
      | true => exact absurd (List.contains_iff_mem.1 hc) hw.2.1)
    omega
  · show ((del x s.rn).length : Int) ≤ s.limit
    have := length_del_le x s.rn
    have := h.rlim
    omega
  · have hz' : z ∈ s.dn := by
      rcases hy with hy | hy | hy
      · exact h.run y (.inl ((mem_del h.good.srn).1 hy).1) z hz
      · rcases mem_ins.1 hy with rfl | hy
        · exact h.run y (.inl hr) z hz
        · exact h.run y (.inr (.inl hy)) z hz
      · exact h.run y (.inr (.inr hy)) z hz
    exact mem_ins.2 (.inr hz')

/-- Of the sets, skipping moves from the waiting to the skipped. -/
theorem skip_mem (l : List Int) : ∀ (s : St), Sorted s.wt → (skipS s l).rn = s.rn ∧ (skipS s l).dn = s.dn ∧ (skipS s l).fl = s.fl ∧ (∀ y, y ∈ (skipS s l).wt ↔ y ∈ s.wt ∧ y ∉ l) ∧ (∀ y, y ∈ (skipS s l).sk ↔ y ∈ s.sk ∨ y ∈ l) := by
  induction l with
  | nil => intro s hs; exact ⟨rfl, rfl, rfl, fun y => by simp [skipS], fun y => by simp [skipS]⟩
  | cons x l ih =>
    intro s hs
    obtain ⟨h1, h2, h3, h4, h5⟩ := ih (skipOne s x) (sorted_del hs)
    refine ⟨h1, h2, h3, fun y => ?_, fun y => ?_⟩
    · refine (h4 y).trans ?_
      rw [show (skipOne s x).wt = del x s.wt from rfl, mem_del hs, List.mem_cons]
      constructor
      · rintro ⟨⟨a, b⟩, c⟩
        exact ⟨a, fun hc => hc.elim b c⟩
      · rintro ⟨a, b⟩
        exact ⟨⟨a, fun e => b (.inl e)⟩, fun e => b (.inr e)⟩
    · refine (h5 y).trans ?_
      rw [show (skipOne s x).sk = ins x s.sk from rfl, mem_ins, List.mem_cons]
      constructor
      · rintro ((a | a) | a)
        · exact .inr (.inl a)
        · exact .inl a
        · exact .inr (.inr a)
      · rintro (a | a | a)
        · exact .inl (.inr a)
        · exact .inl (.inl a)
        · exact .inr a

/-- All of l wait; what needs one of them and waits is in l. -/
theorem Inv.skip (h : Inv s) {l : List Int} (hl : ∀ y ∈ l, y ∈ s.wt) (hc : ∀ y ∈ s.wt, (∃ x ∈ nd s.needs y.toNat, x ∈ l) → y ∈ l) : Inv (skipS s l) := by
  obtain ⟨e1, e2, e3, e4, e5⟩ := skip_mem l s h.good.swt
  have en := skip_needs l s
  have hg := good_skip l h.good fun x hx => h.good.rwt x (hl x hx)
  refine ⟨hg, by rw [en]; exact h.valid, by rw [en, skip_order]; exact h.ord, by rw [en, skip_order]; exact h.full, by rw [skip_lim]; exact h.lim, fun y y0 y1 => ?_, by rw [e1, skip_lim]; exact h.rlim, ?_, ?_⟩
  · rw [en] at y1
    have hp := h.part y y0 y1
    unfold mem5 at hp ⊢
    rw [e1, e2, e3]
    have f4 : (skipS s l).wt.contains y = (s.wt.contains y && !l.contains y) := by
      rw [Bool.eq_iff_iff, List.contains_iff_mem, e4, Bool.and_eq_true, List.contains_iff_mem, Bool.not_eq_true', ← Bool.not_eq_true, List.contains_iff_mem]
    have f5 : (skipS s l).sk.contains y = (s.sk.contains y || l.contains y) := by
      rw [Bool.eq_iff_iff, List.contains_iff_mem, e5, Bool.or_eq_true, List.contains_iff_mem, List.contains_iff_mem]
    rw [f4, f5]
    have hly : l.contains y = true → s.wt.contains y = true := fun e => List.contains_iff_mem.2 (hl y (List.contains_iff_mem.1 e))
    generalize s.wt.contains y = a at *
    generalize s.rn.contains y = b at *
    generalize s.dn.contains y = c at *
    generalize s.fl.contains y = d at *
    generalize s.sk.contains y = e at *
    generalize l.contains y = f at *
    cases a <;> cases b <;> cases c <;> cases d <;> cases e <;> cases f <;> simp [b2n] at hp hly ⊢
  · rw [e1, e2, e3, en]; exact h.run
  · intro y y0 y1 hx
    rw [en] at y1 hx
    obtain ⟨x, hx, hxs⟩ := hx
    rw [e3, e5] at hxs
    rw [e5]
    have hold : x ∈ s.fl ∨ x ∈ s.sk ∨ x ∈ l := by
      rcases hxs with a | a | a
      · exact .inl a
      · exact .inr (.inl a)
      · exact .inr (.inr a)
    rcases hold with a | a | a
    · exact .inl (h.skp y y0 y1 ⟨x, hx, .inl a⟩)
    · exact .inl (h.skp y y0 y1 ⟨x, hx, .inr a⟩)
    · have hxd : x ∉ s.dn := (h.wt_only (hl x a)).2.1
      rcases h.where_ y0 y1 with w | w | w | w | w
      · exact .inr (hc y w.1 ⟨x, hx, a⟩)
      · exact absurd (h.run y (.inl w.2.1) x hx) hxd
      · exact absurd (h.run y (.inr (.inl w.2.2.1)) x hx) hxd
      · exact absurd (h.run y (.inr (.inr w.2.2.2.1)) x hx) hxd
      · exact .inl w.2.2.2.2
theorem Inv.cancel (h : Inv s) : Inv (skipS s s.wt) := h.skip (fun _ h => h) (fun _ h _ => h)
end
end Go.Proofs.Ytoaellmjgejgfaa
