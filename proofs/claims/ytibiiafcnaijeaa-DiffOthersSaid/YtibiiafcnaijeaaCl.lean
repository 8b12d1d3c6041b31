/- slices.Clone at values, types and strings. -/
import Derived.Test.YtibiiafcnaijeaaWRow
import Derived.Test.YtibiiafcnaijeaaShelf
import Derived.Test.YtibiiafcnaijeaaDp
import Derived.OwnWalk
namespace Go.Proofs.Ytibiiafcnaijeaa
open Go Go.RowKit Go.Shelf Go.Lib
set_option linter.unusedVariables false
set_option linter.unusedSimpArgs false

theorem infoV : (Try.prog.info? 26).map (fun i => (i.zero, i.size, i.bytes)) = some (some (.agg #[.int .i64 0, .int .i64 0, .string ⟨#[]⟩, .slice none 0 0, .slice none 0 0]), 5, 80) := by kernel_rfl
set_option maxRecDepth 100000 in
set_option maxHeartbeats 4000000 in
theorem cloneV_zero (a : Addr) (c : Nat) (w : World) : Calls Try.prog 39 #[.slice (some a) 0 c] w fun e w' => ∃ v', e = .returned v' ∧ w'.ownsRow w.heap.size 26 5 v' 0 [] ∧ Below w.heap.size w w' := by
  obtain ⟨i0, hi, hz0, hz1, hz2⟩ := info_parts infoV
  have q22 : ∀ (w : World) (a : Option Addr) (n c n' c' : Nat), (binOp .eql 23 (.slice a n c) (.slice none n' c')).run Try.prog w = .ok (.bool a.isNone) w := fun w a n c n' c' => Lib.run_eql_slice_nil w _ _ a n c n' c' Try.underlying23
  have u22 : ∀ w, Sem.run Try.prog (underlying 23) w = .ok (TypeDesc.slice 26) w := run_underlying Try.underlying23
  go_enter Try.func39, Try.ntmps39
  go_wp2_with (at_builtin; refine wpList_append_own _ rfl _ _ 23 rfl w.heap.size 26 i0 _ 5 80 Try.underlying23 hi hz0 hz1 hz2 rfl (by decide) _ _ _ rfl (World.ownsRow_made w #[] 0 (Nat.le_refl _) (Nat.zero_le _) rfl) a 0 c [] rfl rfl (by intro j u hj; simp at hj) (by intro u hu; cases hu) (by unfold maxLen; omega) (by omega) (by simp) ?_)
  intro v' w1 hown hgrow hnil
  go_wp2
  go_ret
  refine ⟨v', rfl, by simpa using hown, ?_⟩
  exact ((Below.refl _ w).alloc (Nat.le_refl _) _).grown hgrow (by simp) (by intro k hk; simp [Value.ownBlock] at hk; omega)
set_option maxRecDepth 100000 in
set_option maxHeartbeats 4000000 in
theorem cloneT_zero (a : Addr) (c : Nat) (w : World) : Calls Try.prog 69 #[.slice (some a) 0 c] w fun e w' => ∃ v', e = .returned v' ∧ w'.ownsRow w.heap.size 79 3 v' 0 [] ∧ Below w.heap.size w w' := by
  obtain ⟨i0, hi, hz0, hz1, hz2⟩ := info_parts info26
  have q22 : ∀ (w : World) (a : Option Addr) (n c n' c' : Nat), (binOp .eql 77 (.slice a n c) (.slice none n' c')).run Try.prog w = .ok (.bool a.isNone) w := fun w a n c n' c' => Lib.run_eql_slice_nil w _ _ a n c n' c' Try.underlying77
  have u22 : ∀ w, Sem.run Try.prog (underlying 77) w = .ok (TypeDesc.slice 79) w := run_underlying Try.underlying77
  go_enter Try.func69, Try.ntmps69
  go_wp2_with (at_builtin; refine wpList_append_own _ rfl _ _ 77 rfl w.heap.size 79 i0 _ 3 56 Try.underlying77 hi hz0 hz1 hz2 rfl (by decide) _ _ _ rfl (World.ownsRow_made w #[] 0 (Nat.le_refl _) (Nat.zero_le _) rfl) a 0 c [] rfl rfl (by intro j u hj; simp at hj) (by intro u hu; cases hu) (by unfold maxLen; omega) (by omega) (by simp) ?_)
  intro v' w1 hown hgrow hnil
  go_wp2
  go_ret
  refine ⟨v', rfl, by simpa using hown, ?_⟩
  exact ((Below.refl _ w).alloc (Nat.le_refl _) _).grown hgrow (by simp) (by intro k hk; simp [Value.ownBlock] at hk; omega)
theorem flat5_cells {w : World} {g o : Nat} : ∀ {rs : List V5} , (∀ (i : Nat) r, rs[i]? = some r → w.cell? ⟨g, o + i * 5, none⟩ = some r.1 ∧ w.cell? ⟨g, o + i * 5 + 1, none⟩ = some r.2.1 ∧ w.cell? ⟨g, o + i * 5 + 2, none⟩ = some r.2.2.1 ∧ w.cell? ⟨g, o + i * 5 + 3, none⟩ = some r.2.2.2.1 ∧ w.cell? ⟨g, o + i * 5 + 4, none⟩ = some r.2.2.2.2) →
    ∀ (j : Nat) u, (flat5 rs)[j]? = some u → w.cell? ⟨g, o + j, none⟩ = some u := by
  intro rs h j u hu
  have hj : j < (flat5 rs).length := (List.getElem?_eq_some_iff.1 hu).1
  rw [flat5_len] at hj
  have hi : j / 5 < rs.length := by omega
  obtain ⟨c0, c1, c2, c3, c4⟩ := h (j / 5) _ (List.getElem?_eq_getElem hi)
  obtain ⟨f0, f1, f2, f3, f4⟩ := flat5_get rs (j / 5) _ (List.getElem?_eq_getElem hi)
  have hm : j = j / 5 * 5 + j % 5 := by omega
  have hlt : j % 5 < 5 := Nat.mod_lt _ (by decide)
  generalize j / 5 = i at *
  generalize j % 5 = m at *
  subst hm
  match m, hlt with
  | 0, _ => rw [Nat.add_zero, f0] at hu; cases hu; exact c0
  | 1, _ => rw [f1] at hu; cases hu; exact c1
  | 2, _ => rw [f2] at hu; cases hu; exact c2
  | 3, _ => rw [f3] at hu; cases hu; exact c3
  | 4, _ => rw [f4] at hu; cases hu; exact c4
theorem flat5_mem : ∀ {rs : List V5} {u : Value}, u ∈ flat5 rs → ∃ r ∈ rs, u = r.1 ∨ u = r.2.1 ∨ u = r.2.2.1 ∨ u = r.2.2.2.1 ∨ u = r.2.2.2.2
  | r :: rs, u, h => by
    rw [flat5] at h
    simp only [List.mem_cons] at h
    rcases h with h | h | h | h | h | h
    · exact ⟨r, List.mem_cons_self .., .inl h⟩
    · exact ⟨r, List.mem_cons_self .., .inr (.inl h)⟩
    · exact ⟨r, List.mem_cons_self .., .inr (.inr (.inl h))⟩
    · exact ⟨r, List.mem_cons_self .., .inr (.inr (.inr (.inl h)))⟩
    · exact ⟨r, List.mem_cons_self .., .inr (.inr (.inr (.inr h)))⟩
    · obtain ⟨r', h1, h2⟩ := flat5_mem h
      exact ⟨r', List.mem_cons_of_mem _ h1, h2⟩
theorem flat5_one {P : Nat → Prop} {w : World} {rs : List V5} {is : List Vl} (hl : rs.length = is.length) (h : ∀ (i : Nat) r e, rs[i]? = some r → is[i]? = some e → VV P w (pent r) e) : ∀ u ∈ flat5 rs, u.oneCell' = true := fun u hu => by
  obtain ⟨r, hr, hu⟩ := flat5_mem hu
  obtain ⟨j, hj, rfl⟩ := List.getElem_of_mem hr
  obtain ⟨k, n, s, oi, mi, ci, ok, mk, ck, e1, e2, e3, e4, e5, _⟩ := (h j rs[j] (is[j]'(by omega)) (List.getElem?_eq_getElem hj) (List.getElem?_eq_getElem (by omega))).five
  rcases hu with rfl | rfl | rfl | rfl | rfl
  · rw [e1]; rfl
  · rw [e2]; rfl
  · rw [e3]; rfl
  · rw [e4]; rfl
  · rw [e5]; rfl
/-- A clone: a row of the call's own over the same parts. -/
theorem cloneV_any (P : Nat → Prop) (box : Nat) (w : World) (v : Value) (is : List Vl) (h : WV P w v is) (hl : is.length ≤ 1000000) (hbox : ∀ g, P g → g ≠ box) :
    Calls Try.prog 39 #[v] w fun e w' => ∃ v', e = .returned v' ∧ OwnW w.heap.size box P w' v' is ∧ Below w.heap.size w w' := by
  obtain ⟨rs, hq, hrl, he⟩ := h
  have fin : ∀ (w' : World) (v' : Value), w'.ownsRow w.heap.size 26 5 v' is.length (flat5 rs) → Below w.heap.size w w' → OwnW w.heap.size box P w' v' is := fun w' v' ho hb => by
    have hB : ∀ g, v'.ownBlock = some g → w.heap.size ≤ g := fun g hg => by
      rcases ho.2 with ⟨rfl, _⟩ | ⟨g', cap, cur, rfl, p1, _⟩
      · cases hg
      · cases hg; exact p1
    refine ⟨rs, ⟨⟨ho.1, ho.2.imp id fun ⟨g, cap, cur, e, p1, p2⟩ => ⟨g, cap, cur, e, Nat.zero_le _, p2⟩⟩, hB⟩, hrl, fun i r t hr ht => ?_⟩
    refine ((he i r t hr ht).ex.keep (KeepsP.below hb) fun g hg => ⟨hg.1, Nat.lt_of_lt_of_le hg.2 hb.size, hbox g hg.1, fun e => ?_⟩)
    have := hB g e
    omega
  rcases hq.2 with ⟨rfl, oa, c, rfl⟩ | ⟨g, o, c, hp, rfl, hc⟩
  · obtain rfl : is = [] := List.eq_nil_of_length_eq_zero (by simpa using hrl.symm)
    cases oa with
    | none => exact (AnyE.slices_Clone_nil Try.clV 0 c w).mono fun e w' ⟨h1, h2⟩ => ⟨_, h1, OwnW.nil _ _ _ _, by rw [h2]; exact Below.refl _ _⟩
    | some a => exact (cloneV_zero a c w).mono fun e w' ⟨v', h1, h2, h3⟩ => ⟨v', h1, fin w' v' h2 h3, h3⟩
  · obtain ⟨i0, hi, hz0, hz1, hz2⟩ := info_parts infoV
    rw [hrl]
    exact (AnyE.slices_Clone Try.clV i0 _ 5 80 hi hz0 hz1 hz2 rfl (by decide) (by intro w; kernel_rfl) g o is.length c (flat5 rs) w (by rw [flat5_len, hrl]) (by unfold maxLen; omega) (by omega) (flat5_cells hc) (flat5_one hrl he)).mono fun e w' ⟨v', h1, h2, _, h4⟩ => ⟨v', h1, fin w' v' h2 h4, h4⟩
theorem clone_any (P : Nat → Prop) (w : World) (v : Value) (l : List ByteArray) (h : SV P w v l) (hl : l.length ≤ 1000000) :
    Calls Try.prog 32 #[v] w fun e w' => ∃ v', e = .returned v' ∧ SV (fun g => w.heap.size ≤ g) w' v' l ∧ Below w.heap.size w w' := by
  have hout : ∀ (w' : World) (v' : Value), w'.ownsRow w.heap.size 9 1 v' l.length (strs l) → SV (fun g => w.heap.size ≤ g) w' v' l := fun w' v' ho => by
    refine ⟨⟨by simp; omega, ?_⟩, h.2⟩
    rcases ho.2 with ⟨rfl, h0⟩ | ⟨g, cap, cur, rfl, p1, p2, p3, p4, p5, p6⟩
    · exact .inl ⟨by rw [List.eq_nil_of_length_eq_zero h0]; rfl, _, _, rfl⟩
    · exact .inr ⟨g, 0, cap, p1, by simp, fun i u hu => by rw [Nat.zero_add]; exact cells_at p2 p6 hu⟩
  rcases h.1.2 with ⟨h0, oa, c, rfl⟩ | ⟨g, o, c, hp, rfl, hc⟩
  · obtain rfl : l = [] := by simpa using h0
    cases oa with
    | none => exact (Try.slices_Clone_string_nil 0 c w).mono fun e w' ⟨h1, h2⟩ => ⟨_, h1, ⟨⟨by simp, .inl ⟨rfl, _, _, rfl⟩⟩, fun s h => by cases h⟩, by rw [h2]; exact Below.refl _ _⟩
    | some a => exact (Try.slices_Clone_string_zero a c w).mono fun e w' ⟨v', h1, h2, h3, h4⟩ => ⟨v', h1, hout w' v' h2, h4⟩
  · rw [List.length_map]
    refine (Try.slices_Clone_string g o l.length c l w (Nat.le_refl _) (by omega) fun j hj => ?_).mono fun e w' ⟨v', h1, h2, h3, h4⟩ => ⟨v', h1, hout w' v' (by rw [List.take_length] at h2; exact h2), h4⟩
    refine hc j _ ?_
    rw [List.getElem?_map, List.getElem?_eq_getElem hj]
    simp [List.getD, hj]
end Go.Proofs.Ytibiiafcnaijeaa
