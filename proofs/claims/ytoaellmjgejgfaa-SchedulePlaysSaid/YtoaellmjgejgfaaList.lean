/- Sorted lists as sets. -/
import Derived.Test.YtoaellmjgejgfaaSet
namespace Go.Proofs.Ytoaellmjgejgfaa
set_option linter.unusedVariables false

theorem count_zero {x y : Int} {t : List Int} (h : ∀ a ∈ t, y < a) (hy : ¬ y < x) : t.countP (· < x) = 0 := by
  rw [List.countP_eq_zero]
  intro a ha
  have := h a ha
  simp; omega

theorem mem_ins {x : Int} {l : List Int} {y : Int} : y ∈ ins x l ↔ y = x ∨ y ∈ l := by
  unfold ins
  split
  · rename_i h
    have hm : x ∈ l := List.contains_iff_mem.1 h
    constructor
    · exact .inr
    · rintro (rfl | h)
      · exact hm
      · exact h
  · have e : y ∈ l ↔ y ∈ l.take (l.countP (· < x)) ∨ y ∈ l.drop (l.countP (· < x)) := by
      rw [← List.mem_append, List.take_append_drop]
    rw [e, List.mem_append, List.mem_cons]
    constructor
    · rintro (h | h | h)
      · exact .inr (.inl h)
      · exact .inl h
      · exact .inr (.inr h)
    · rintro (h | h | h)
      · exact .inr (.inl h)
      · exact .inl h
      · exact .inr (.inr h)

theorem sorted_split {x : Int} : ∀ {l : List Int}, Sorted l → (∀ a ∈ l.take (l.countP (· < x)), a < x) ∧ (∀ a ∈ l.drop (l.countP (· < x)), x ≤ a)
  | [], _ => by simp
  | y :: t, h => by
    obtain ⟨h1, h2⟩ := List.pairwise_cons.1 h
    by_cases hy : y < x
    · rw [List.countP_cons_of_pos (by simpa using hy)]
      obtain ⟨a1, a2⟩ := sorted_split (x := x) h2
      refine ⟨?_, by simpa using a2⟩
      intro a ha
      rw [List.take_succ_cons] at ha
      rcases List.mem_cons.1 ha with rfl | ha
      · exact hy
      · exact a1 a ha
    · rw [List.countP_cons_of_neg (by simpa using hy), count_zero h1 hy]
      refine ⟨by simp, ?_⟩
      intro a ha
      rcases List.mem_cons.1 ha with rfl | ha
      · omega
      · have := h1 a ha; omega

theorem sorted_ins {x : Int} {l : List Int} (h : Sorted l) : Sorted (ins x l) := by
  unfold ins
  split
  · exact h
  · rename_i hx
    have hm : x ∉ l := fun hm => hx (List.contains_iff_mem.2 hm)
    obtain ⟨h1, h2⟩ := sorted_split (x := x) h
    refine List.pairwise_append.2 ⟨h.sublist (List.take_sublist _ _), List.pairwise_cons.2 ⟨?_, h.sublist (List.drop_sublist _ _)⟩, ?_⟩
    · intro a ha
      have := h2 a ha
      have hne : a ≠ x := fun e => hm (e ▸ List.mem_of_mem_drop ha)
      omega
    · intro a ha b hb
      have := h1 a ha
      rcases List.mem_cons.1 hb with rfl | hb
      · exact this
      · have := h2 b hb; omega

theorem drop_head {x : Int} {l : List Int} (h : Sorted l) (hx : x ∈ l) : l.drop (l.countP (· < x)) = x :: l.drop (l.countP (· < x) + 1) := by
  obtain ⟨h1, h2⟩ := sorted_split (x := x) h
  have hm : x ∈ l.drop (l.countP (· < x)) := by
    have : x ∈ l.take (l.countP (· < x)) ++ l.drop (l.countP (· < x)) := by rw [List.take_append_drop]; exact hx
    rcases List.mem_append.1 this with h3 | h3
    · have := h1 x h3; omega
    · exact h3
  have hs : Sorted (l.drop (l.countP (· < x))) := h.sublist (List.drop_sublist _ _)
  have hd : l.drop (l.countP (· < x) + 1) = (l.drop (l.countP (· < x))).drop 1 := by rw [List.drop_drop]
  rw [hd]
  generalize l.drop (l.countP (· < x)) = d at *
  cases d with
  | nil => cases hm
  | cons y t =>
    rcases List.mem_cons.1 hm with rfl | hm
    · rfl
    · have := (List.pairwise_cons.1 hs).1 x hm
      have := h2 y (List.mem_cons_self ..)
      omega

theorem sorted_del {x : Int} {l : List Int} (h : Sorted l) : Sorted (del x l) := by
  unfold del
  split
  · refine h.sublist ?_
    conv => rhs; rw [← List.take_append_drop (l.countP (· < x)) l]
    exact List.Sublist.append_left (by rw [← List.drop_drop]; exact List.drop_sublist _ _) _
  · exact h

theorem mem_del {x : Int} {l : List Int} (h : Sorted l) {y : Int} : y ∈ del x l ↔ y ∈ l ∧ y ≠ x := by
  unfold del
  split
  · rename_i hx
    have hm : x ∈ l := List.contains_iff_mem.1 hx
    obtain ⟨h1, h2⟩ := sorted_split (x := x) h
    have hd := drop_head h hm
    have hs : Sorted (l.drop (l.countP (· < x))) := h.sublist (List.drop_sublist _ _)
    have e : y ∈ l ↔ y ∈ l.take (l.countP (· < x)) ∨ y ∈ l.drop (l.countP (· < x)) := by
      rw [← List.mem_append, List.take_append_drop]
    rw [hd] at hs e
    rw [e, List.mem_append, List.mem_cons]
    constructor
    · rintro (h3 | h3)
      · exact ⟨.inl h3, fun e => by have := h1 y h3; omega⟩
      · exact ⟨.inr (.inr h3), fun e => by have := (List.pairwise_cons.1 hs).1 y h3; omega⟩
    · rintro ⟨h3 | h3 | h3, hne⟩
      · exact .inl h3
      · exact absurd h3 hne
      · exact .inr h3
  · rename_i hx
    exact ⟨fun hy => ⟨hy, fun e => hx (List.contains_iff_mem.2 (e ▸ hy))⟩, fun hy => hy.1⟩

theorem sorted_ext : ∀ {l m : List Int}, Sorted l → Sorted m → (∀ y, y ∈ l ↔ y ∈ m) → l = m
  | [], [], _, _, _ => rfl
  | [], b :: m, _, _, h => by have := (h b).2 (List.mem_cons_self ..); cases this
  | a :: l, [], _, _, h => by have := (h a).1 (List.mem_cons_self ..); cases this
  | a :: l, b :: m, h1, h2, h => by
    obtain ⟨p1, q1⟩ := List.pairwise_cons.1 h1
    obtain ⟨p2, q2⟩ := List.pairwise_cons.1 h2
    have hab : a = b := by
      have ha := (h a).1 (List.mem_cons_self ..)
      have hb := (h b).2 (List.mem_cons_self ..)
      rcases List.mem_cons.1 ha with e | ha
      · exact e
      · rcases List.mem_cons.1 hb with e | hb
        · exact e.symm
        · have := p2 a ha; have := p1 b hb; omega
    subst hab
    rw [sorted_ext q1 q2 fun y => ?_]
    constructor
    · intro hy
      rcases List.mem_cons.1 ((h y).1 (List.mem_cons_of_mem _ hy)) with rfl | h3
      · have := p1 y hy; omega
      · exact h3
    · intro hy
      rcases List.mem_cons.1 ((h y).2 (List.mem_cons_of_mem _ hy)) with rfl | h3
      · have := p2 y hy; omega
      · exact h3

theorem length_ins_le (x : Int) (l : List Int) : (ins x l).length ≤ l.length + 1 := by
  unfold ins
  split
  · omega
  · simp only [List.length_append, List.length_cons, List.length_take, List.length_drop]; omega
theorem length_ins {x : Int} {l : List Int} (h : x ∉ l) : (ins x l).length = l.length + 1 := by
  have hc : l.countP (· < x) ≤ l.length := List.countP_le_length
  unfold ins
  rw [if_neg (fun e => h (List.contains_iff_mem.1 e))]
  simp only [List.length_append, List.length_cons, List.length_take, List.length_drop]; omega
theorem length_del_le (x : Int) (l : List Int) : (del x l).length ≤ l.length := by
  unfold del
  split
  · simp only [List.length_append, List.length_take, List.length_drop]; omega
  · omega
theorem length_del {x : Int} {l : List Int} (hs : Sorted l) (h : x ∈ l) : (del x l).length + 1 = l.length := by
  have hd := congrArg List.length (drop_head hs h)
  unfold del
  rw [if_pos (List.contains_iff_mem.2 h)]
  simp only [List.length_append, List.length_cons, List.length_take, List.length_drop] at hd ⊢; omega

end Go.Proofs.Ytoaellmjgejgfaa
