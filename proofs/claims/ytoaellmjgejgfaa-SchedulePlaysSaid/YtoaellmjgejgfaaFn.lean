/- slices.IndexFunc, slices.ContainsFunc with the program's own function values. -/
import Derived.Test.YtoaellmjgejgfaaPut

namespace Go.Proofs.Ytoaellmjgejgfaa
open Go Go.RowKit Go.Shelf
set_option linter.unusedVariables false

/-- The first place at which p holds; -1: none. -/
def idxP (p : Int → Bool) : List Int → Nat → Int
  | [], _ => -1
  | x :: l, i => if p x then i else idxP p l (i + 1)

theorem idxP_hit (p : Int → Bool) : ∀ (l : List Int) (i k : Nat), k < l.length → p (l.getD k 0) = true → (∀ j, j < k → p (l.getD j 0) = false) → idxP p l i = ((i + k : Nat) : Int)
  | [], _, _, h, _, _ => by cases h
  | x :: l, i, 0, _, h, _ => by simp at h; simp [idxP, h]
  | x :: l, i, k + 1, hk, h, hn => by
    have h0 := hn 0 (by omega)
    simp at h0
    have := idxP_hit p l (i + 1) k (by simpa using hk) (by simpa using h) (fun j hj => by simpa using hn (j + 1) (by omega))
    rw [idxP, h0, if_neg (by simp), this]
    congr 1; omega

theorem idxP_none (p : Int → Bool) : ∀ (l : List Int) (i : Nat), (∀ j, j < l.length → p (l.getD j 0) = false) → idxP p l i = -1
  | [], _, _ => rfl
  | x :: l, i, hn => by
    have h0 := hn 0 (by simp)
    simp at h0
    rw [idxP, h0, if_neg (by simp)]
    exact idxP_none p l (i + 1) (fun j hj => by simpa using hn (j + 1) (by simpa using hj))

theorem idxP_any (p : Int → Bool) : ∀ (l : List Int) (i : Nat), decide ((0 : Int) ≤ idxP p l i) = l.any p
  | [], _ => rfl
  | x :: l, i => by
    rw [idxP, List.any_cons]
    cases h : p x with
    | true => simp
    | false => simpa using idxP_any p l (i + 1)

theorem row_at {w : World} {v : Value} {l : List Int} (h : Row w v l) {k : Nat} (hk : k < l.length) : ∃ g c, v = .slice (some ⟨g, 0, none⟩) l.length c ∧ w.cell? ⟨g, k, none⟩ = some (.int .i64 (l.getD k 0)) := by
  rcases h with ⟨rfl, rfl⟩ | ⟨g, pad, rfl, hh, _⟩
  · cases hk
  · exact ⟨g, _, rfl, by have := row_cells hh k hk; rwa [Nat.zero_add] at this⟩
theorem row_len {w : World} {v : Value} {l : List Int} (h : Row w v l) : ∃ oa c, v = .slice oa l.length c := by
  rcases h with ⟨rfl, rfl⟩ | ⟨g, pad, rfl, hh, _⟩
  · exact ⟨_, _, rfl⟩
  · exact ⟨_, _, rfl⟩

set_option maxRecDepth 100000 in
set_option maxHeartbeats 2000000 in
theorem index_m (I : World → Prop) (fb : Nat) (v : Value) (l : List Int) (hl : l.length ≤ 100000) (p : Int → Bool) (hI : ∀ W, I W → Row W v l)
    (hp : ∀ W x, x ∈ l → I W → Calls Try.prog 42 #[.pointer (some ⟨fb, 0, none⟩), .int .i64 x] W fun e w' => e = .returned (.bool (p x)) ∧ I w') (w : World) (hw : I w) :
    Calls Try.prog 56 #[v, .func (.func 42) #[.pointer (some ⟨fb, 0, none⟩)] #[]] w fun e w' => e = .returned (.int .i64 (idxP p l 0)) ∧ I w' := by
  obtain ⟨oa, c, rfl⟩ := row_len (hI w hw)
  have HI := hid hI
  have Hp := hid hp
  have Hw := hid hw
  clear hI hp hw
  go_enter Try.func56, Try.ntmps56
  go_wp2_with fail
  go_loopw [5, 8] (fun _ i wr => ∃ k : Nat, k ≤ l.length ∧ i = .int .i64 k ∧ Hid (I wr) ∧ Hid (∀ j, j < k → p (l.getD j 0) = false)) (fun _ i _ => l.length - (intOf i).toNat)
  case atStart => exact ⟨0, Nat.zero_le _, rfl, Hw, hid fun j hj => absurd hj (Nat.not_lt_zero _)⟩
  case round =>
    obtain ⟨k, hk, rfl, J, A⟩ := hrel
    by_cases hlt : k < l.length
    · obtain ⟨g, c', hv, hcell⟩ := row_at (HI.out _ J.out) hlt
      cases hv
      have hk0 : (0 : Int) ≤ (k : Int) := by omega
      have hk1 : (k : Int) < (l.length : Int) := by omega
      have hmem : l.getD k 0 ∈ l := by rw [List.getD_eq_getElem?_getD, List.getElem?_eq_getElem hlt]; exact List.getElem_mem hlt
      generalize hx : l.getD k 0 = x at *
      have Hx := hid hx
      clear hx
      have hcall := fun W hW => Hp.out W x hmem hW
      clear hmem
      cases hpx : p x with
      | true =>
        rw [hpx] at hcall
        have Hpx := hid hpx
        have Hcall := hid hcall
        clear hcall hpx
        go_wp2_with fail
        refine (Hcall.out _ J.out).mono ?_; rintro e w' ⟨rfl, hi⟩
        have HJ := hid hi
        clear hi
        go_wp2_with fail
        go_ret
        refine ⟨?_, HJ.out⟩
        rw [idxP_hit p l 0 k hlt (by rw [Hx.out]; exact Hpx.out) A.out, Nat.zero_add]
        rfl
      | false =>
        rw [hpx] at hcall
        have Hpx := hid hpx
        have Hcall := hid hcall
        clear hcall hpx
        go_wp2_with fail
        refine (Hcall.out _ J.out).mono ?_; rintro e w' ⟨rfl, hi⟩
        have HJ := hid hi
        clear hi
        go_wp2_with fail
        go_roundw
        case rel =>
          refine ⟨k + 1, by omega, by go_num, HJ, hid fun j hj => ?_⟩
          by_cases e : j = k
          · subst e; rw [Hx.out]; exact Hpx.out
          · exact A.out j (by omega)
        case measure => simp [intOf]; omega
    · have hke : k = l.length := by omega
      go_wp2_with fail
      go_ret
      refine ⟨?_, J.out⟩
      rw [idxP_none p l 0 (fun j hj => A.out j (by omega))]
      rfl

set_option maxRecDepth 100000 in
set_option maxHeartbeats 2000000 in
theorem contains_m (I : World → Prop) (fb : Nat) (v : Value) (l : List Int) (hl : l.length ≤ 100000) (p : Int → Bool) (hI : ∀ W, I W → Row W v l)
    (hp : ∀ W x, x ∈ l → I W → Calls Try.prog 42 #[.pointer (some ⟨fb, 0, none⟩), .int .i64 x] W fun e w' => e = .returned (.bool (p x)) ∧ I w') (w : World) (hw : I w) :
    Calls Try.prog 43 #[v, .func (.func 42) #[.pointer (some ⟨fb, 0, none⟩)] #[]] w fun e w' => e = .returned (.bool (l.any p)) ∧ I w' := by
  have Hc := hid (index_m I fb v l hl p hI hp w hw)
  have ha := idxP_any p l 0
  generalize idxP p l 0 = i at *
  have Ha := hid ha
  clear hI hp hw ha
  go_enter Try.func43, Try.ntmps43
  go_wp2_with fail
  refine Hc.out.mono ?_; rintro e w' ⟨rfl, hi⟩
  have HJ := hid hi
  clear hi
  go_wp2_with fail
  go_ret
  refine ⟨?_, HJ.out⟩
  rw [← Ha.out]
  rfl

set_option maxRecDepth 100000 in
set_option maxHeartbeats 2000000 in
theorem index_d (I : World → Prop) (fb : Nat) (v : Value) (l : List Int) (hl : l.length ≤ 100000) (p : Int → Bool) (hI : ∀ W, I W → Row W v l)
    (hp : ∀ W x, x ∈ l → I W → Calls Try.prog 54 #[.int .i64 x, .pointer (some ⟨fb, 0, none⟩)] W fun e w' => e = .returned (.bool (p x)) ∧ I w') (w : World) (hw : I w) :
    Calls Try.prog 56 #[v, .func (.func 54) #[] #[.pointer (some ⟨fb, 0, none⟩)]] w fun e w' => e = .returned (.int .i64 (idxP p l 0)) ∧ I w' := by
  obtain ⟨oa, c, rfl⟩ := row_len (hI w hw)
  have HI := hid hI
  have Hp := hid hp
  have Hw := hid hw
  clear hI hp hw
  go_enter Try.func56, Try.ntmps56
  go_wp2_with fail
  go_loopw [5, 8] (fun _ i wr => ∃ k : Nat, k ≤ l.length ∧ i = .int .i64 k ∧ Hid (I wr) ∧ Hid (∀ j, j < k → p (l.getD j 0) = false)) (fun _ i _ => l.length - (intOf i).toNat)
  case atStart => exact ⟨0, Nat.zero_le _, rfl, Hw, hid fun j hj => absurd hj (Nat.not_lt_zero _)⟩
  case round =>
    obtain ⟨k, hk, rfl, J, A⟩ := hrel
    by_cases hlt : k < l.length
    · obtain ⟨g, c', hv, hcell⟩ := row_at (HI.out _ J.out) hlt
      cases hv
      have hk0 : (0 : Int) ≤ (k : Int) := by omega
      have hk1 : (k : Int) < (l.length : Int) := by omega
      have hmem : l.getD k 0 ∈ l := by rw [List.getD_eq_getElem?_getD, List.getElem?_eq_getElem hlt]; exact List.getElem_mem hlt
      generalize hx : l.getD k 0 = x at *
      have Hx := hid hx
      clear hx
      have hcall := fun W hW => Hp.out W x hmem hW
      clear hmem
      cases hpx : p x with
      | true =>
        rw [hpx] at hcall
        have Hpx := hid hpx
        have Hcall := hid hcall
        clear hcall hpx
        go_wp2_with fail
        refine (Hcall.out _ J.out).mono ?_; rintro e w' ⟨rfl, hi⟩
        have HJ := hid hi
        clear hi
        go_wp2_with fail
        go_ret
        refine ⟨?_, HJ.out⟩
        rw [idxP_hit p l 0 k hlt (by rw [Hx.out]; exact Hpx.out) A.out, Nat.zero_add]
        rfl
      | false =>
        rw [hpx] at hcall
        have Hpx := hid hpx
        have Hcall := hid hcall
        clear hcall hpx
        go_wp2_with fail
        refine (Hcall.out _ J.out).mono ?_; rintro e w' ⟨rfl, hi⟩
        have HJ := hid hi
        clear hi
        go_wp2_with fail
        go_roundw
        case rel =>
          refine ⟨k + 1, by omega, by go_num, HJ, hid fun j hj => ?_⟩
          by_cases e : j = k
          · subst e; rw [Hx.out]; exact Hpx.out
          · exact A.out j (by omega)
        case measure => simp [intOf]; omega
    · have hke : k = l.length := by omega
      go_wp2_with fail
      go_ret
      refine ⟨?_, J.out⟩
      rw [idxP_none p l 0 (fun j hj => A.out j (by omega))]
      rfl

set_option maxRecDepth 100000 in
set_option maxHeartbeats 2000000 in
theorem contains_d (I : World → Prop) (fb : Nat) (v : Value) (l : List Int) (hl : l.length ≤ 100000) (p : Int → Bool) (hI : ∀ W, I W → Row W v l)
    (hp : ∀ W x, x ∈ l → I W → Calls Try.prog 54 #[.int .i64 x, .pointer (some ⟨fb, 0, none⟩)] W fun e w' => e = .returned (.bool (p x)) ∧ I w') (w : World) (hw : I w) :
    Calls Try.prog 43 #[v, .func (.func 54) #[] #[.pointer (some ⟨fb, 0, none⟩)]] w fun e w' => e = .returned (.bool (l.any p)) ∧ I w' := by
  have Hc := hid (index_d I fb v l hl p hI hp w hw)
  have ha := idxP_any p l 0
  generalize idxP p l 0 = i at *
  have Ha := hid ha
  clear hI hp hw ha
  go_enter Try.func43, Try.ntmps43
  go_wp2_with fail
  refine Hc.out.mono ?_; rintro e w' ⟨rfl, hi⟩
  have HJ := hid hi
  clear hi
  go_wp2_with fail
  go_ret
  refine ⟨?_, HJ.out⟩
  rw [← Ha.out]
  rfl

set_option maxRecDepth 100000 in
set_option maxHeartbeats 2000000 in
theorem index_r (I : World → Prop) (fb : Nat) (v : Value) (l : List Int) (hl : l.length ≤ 100000) (p : Int → Bool) (hI : ∀ W, I W → Row W v l)
    (hp : ∀ W x, x ∈ l → I W → Calls Try.prog 47 #[.int .i64 x, .pointer (some ⟨fb, 0, none⟩)] W fun e w' => e = .returned (.bool (p x)) ∧ I w') (w : World) (hw : I w) :
    Calls Try.prog 56 #[v, .func (.func 47) #[] #[.pointer (some ⟨fb, 0, none⟩)]] w fun e w' => e = .returned (.int .i64 (idxP p l 0)) ∧ I w' := by
  obtain ⟨oa, c, rfl⟩ := row_len (hI w hw)
  have HI := hid hI
  have Hp := hid hp
  have Hw := hid hw
  clear hI hp hw
  go_enter Try.func56, Try.ntmps56
  go_wp2_with fail
  go_loopw [5, 8] (fun _ i wr => ∃ k : Nat, k ≤ l.length ∧ i = .int .i64 k ∧ Hid (I wr) ∧ Hid (∀ j, j < k → p (l.getD j 0) = false)) (fun _ i _ => l.length - (intOf i).toNat)
  case atStart => exact ⟨0, Nat.zero_le _, rfl, Hw, hid fun j hj => absurd hj (Nat.not_lt_zero _)⟩
  case round =>
    obtain ⟨k, hk, rfl, J, A⟩ := hrel
    by_cases hlt : k < l.length
    · obtain ⟨g, c', hv, hcell⟩ := row_at (HI.out _ J.out) hlt
      cases hv
      have hk0 : (0 : Int) ≤ (k : Int) := by omega
      have hk1 : (k : Int) < (l.length : Int) := by omega
      have hmem : l.getD k 0 ∈ l := by rw [List.getD_eq_getElem?_getD, List.getElem?_eq_getElem hlt]; exact List.getElem_mem hlt
      generalize hx : l.getD k 0 = x at *
      have Hx := hid hx
      clear hx
      have hcall := fun W hW => Hp.out W x hmem hW
      clear hmem
      cases hpx : p x with
      | true =>
        rw [hpx] at hcall
        have Hpx := hid hpx
        have Hcall := hid hcall
        clear hcall hpx
        go_wp2_with fail
        refine (Hcall.out _ J.out).mono ?_; rintro e w' ⟨rfl, hi⟩
        have HJ := hid hi
        clear hi
        go_wp2_with fail
        go_ret
        refine ⟨?_, HJ.out⟩
        rw [idxP_hit p l 0 k hlt (by rw [Hx.out]; exact Hpx.out) A.out, Nat.zero_add]
        rfl
      | false =>
        rw [hpx] at hcall
        have Hpx := hid hpx
        have Hcall := hid hcall
        clear hcall hpx
        go_wp2_with fail
        refine (Hcall.out _ J.out).mono ?_; rintro e w' ⟨rfl, hi⟩
        have HJ := hid hi
        clear hi
        go_wp2_with fail
        go_roundw
        case rel =>
          refine ⟨k + 1, by omega, by go_num, HJ, hid fun j hj => ?_⟩
          by_cases e : j = k
          · subst e; rw [Hx.out]; exact Hpx.out
          · exact A.out j (by omega)
        case measure => simp [intOf]; omega
    · have hke : k = l.length := by omega
      go_wp2_with fail
      go_ret
      refine ⟨?_, J.out⟩
      rw [idxP_none p l 0 (fun j hj => A.out j (by omega))]
      rfl

set_option maxRecDepth 100000 in
set_option maxHeartbeats 2000000 in
theorem contains_r (I : World → Prop) (fb : Nat) (v : Value) (l : List Int) (hl : l.length ≤ 100000) (p : Int → Bool) (hI : ∀ W, I W → Row W v l)
    (hp : ∀ W x, x ∈ l → I W → Calls Try.prog 47 #[.int .i64 x, .pointer (some ⟨fb, 0, none⟩)] W fun e w' => e = .returned (.bool (p x)) ∧ I w') (w : World) (hw : I w) :
    Calls Try.prog 43 #[v, .func (.func 47) #[] #[.pointer (some ⟨fb, 0, none⟩)]] w fun e w' => e = .returned (.bool (l.any p)) ∧ I w' := by
  have Hc := hid (index_r I fb v l hl p hI hp w hw)
  have ha := idxP_any p l 0
  generalize idxP p l 0 = i at *
  have Ha := hid ha
  clear hI hp hw ha
  go_enter Try.func43, Try.ntmps43
  go_wp2_with fail
  refine Hc.out.mono ?_; rintro e w' ⟨rfl, hi⟩
  have HJ := hid hi
  clear hi
  go_wp2_with fail
  go_ret
  refine ⟨?_, HJ.out⟩
  rw [← Ha.out]
  rfl

end Go.Proofs.Ytoaellmjgejgfaa
