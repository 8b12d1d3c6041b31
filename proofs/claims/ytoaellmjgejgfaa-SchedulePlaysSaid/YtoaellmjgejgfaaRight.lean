/- right, of the program and of the reference. -/
import Derived.Test.YtoaellmjgejgfaaView
import Derived.Test.YtoaellmjgejgfaaSteady
namespace Go.Proofs.Ytoaellmjgejgfaa
open Go Go.RowKit Go.Shelf Go.Proofs.Ytoaellmjgejgfaa.Steady
set_option linter.unusedVariables false

def okAt (l : List Int) (n c : Int) (i : Nat) : Bool := decide (0 ≤ l.getD i 0) && (decide (l.getD i 0 < c) && (decide (l.getD i 0 ≠ n) && (decide (i = 0) || decide (l.getD (i - 1) 0 < l.getD i 0))))
def rightB (l : List Int) (n c : Int) : Bool := (List.range l.length).all (okAt l n c)

theorem right_no {l : List Int} {n c : Int} {k : Nat} (hk : k < l.length) (h : okAt l n c k = false) : rightB l n c = false := by
  cases hb : rightB l n c with
  | false => rfl
  | true =>
    have := List.all_eq_true.1 hb k (List.mem_range.2 hk)
    rw [h] at this; cases this
theorem right_yes {l : List Int} {n c : Int} (h : ∀ j, j < l.length → okAt l n c j = true) : rightB l n c = true :=
  List.all_eq_true.2 fun j hj => h j (List.mem_range.1 hj)

theorem rightB_spec {l : List Int} {n c : Int} : rightB l n c = true ↔ Sorted l ∧ ∀ x ∈ l, 0 ≤ x ∧ x < c ∧ x ≠ n := by
  constructor
  · intro h
    have hall : ∀ j, j < l.length → okAt l n c j = true := fun j hj => List.all_eq_true.1 h j (List.mem_range.2 hj)
    constructor
    · have hstep : ∀ j, j + 1 < l.length → l.getD j 0 < l.getD (j + 1) 0 := fun j hj => by
        have := hall (j + 1) hj
        unfold okAt at this
        simp only [Bool.and_eq_true, Bool.or_eq_true, decide_eq_true_eq] at this
        have h4 := this.2.2.2
        rw [Nat.add_sub_cancel] at h4
        omega
      have hlt : ∀ d i, i + d + 1 < l.length → l.getD i 0 < l.getD (i + d + 1) 0 := by
        intro d
        induction d with
        | zero => intro i hi; exact hstep i hi
        | succ d ih =>
          intro i hi
          have h1 := ih i (by omega)
          have h2 := hstep (i + d + 1) (by omega)
          rw [show i + (d + 1) + 1 = i + d + 1 + 1 by omega]
          omega
      refine List.pairwise_iff_getElem.2 fun i j hi hj hij => ?_
      have := hlt (j - i - 1) i (by omega)
      rw [show i + (j - i - 1) + 1 = j by omega, List.getD_eq_getElem?_getD, List.getD_eq_getElem?_getD, List.getElem?_eq_getElem hi, List.getElem?_eq_getElem hj] at this
      exact this
    · intro x hx
      obtain ⟨j, hj, rfl⟩ := List.getElem_of_mem hx
      have := hall j hj
      unfold okAt at this
      simp only [Bool.and_eq_true, decide_eq_true_eq] at this
      rw [List.getD_eq_getElem?_getD, List.getElem?_eq_getElem hj, Option.getD_some] at this
      exact ⟨this.1, this.2.1, this.2.2.1⟩
  · rintro ⟨hs, hx⟩
    refine right_yes fun j hj => ?_
    have h1 := hx _ (getD_mem hj)
    unfold okAt
    simp only [Bool.and_eq_true, Bool.or_eq_true, decide_eq_true_eq]
    refine ⟨h1.1, h1.2.1, h1.2.2, ?_⟩
    by_cases h0 : j = 0
    · exact .inl h0
    · right
      have := List.pairwise_iff_getElem.1 hs (j - 1) j (by omega) hj (by omega)
      rw [List.getD_eq_getElem?_getD, List.getD_eq_getElem?_getD, List.getElem?_eq_getElem hj, List.getElem?_eq_getElem (by omega)]
      exact this

set_option maxRecDepth 100000 in
set_option maxHeartbeats 400000 in
theorem right_any (w : World) (v : Value) (l : List Int) (hV : View w v l) (hl : l.length ≤ 50000) (n c : Int) :
    Calls Try.prog 32 #[v, .int .i64 n, .int .i64 c] w fun e w' => e = .returned (.bool (rightB l n c)) ∧ w = w' := by
  obtain ⟨oa, cp, rfl⟩ := hV.len
  have HV := hid hV
  clear hV
  go_enter Try.func32, Try.ntmps32
  go_wp2_with fail
  go_loop [11] (fun i => ∃ k : Nat, k ≤ l.length ∧ i = .int .i64 k ∧ Hid (∀ j, j < k → okAt l n c j = true)) (fun i => l.length - (intOf i).toNat)
  case atStart => exact ⟨0, Nat.zero_le _, rfl, hid fun j hj => absurd hj (Nat.not_lt_zero _)⟩
  case round =>
    obtain ⟨k, hk, rfl, A⟩ := hrel
    by_cases hlt : k < l.length
    · obtain ⟨g, o, c2, hv, hcell⟩ := HV.out.at hlt
      cases hv
      have hk0 : (0 : Int) ≤ (k : Int) := by omega
      have hk1 : (k : Int) < (l.length : Int) := by omega
      have hno := fun h => right_no (l := l) (n := n) (c := c) (k := k) hlt h
      have hok : okAt l n c k = (decide (0 ≤ l.getD k 0) && (decide (l.getD k 0 < c) && (decide (l.getD k 0 ≠ n) && (decide (k = 0) || decide (l.getD (k - 1) 0 < l.getD k 0))))) := rfl
      have Hno := hid hno
      have Hok := hid hok
      clear hno hok
      by_cases hkz : k = 0
      · subst hkz
        rw [Nat.add_zero] at hcell
        clear hk0 hk1 hk
        have hk1 : (0 : Int) < (l.length : Int) := by omega
        generalize l.getD 0 0 = x at *
        by_cases h1 : x < 0
        · go_wp2_with fail
          go_ret
          exact ⟨by rw [Hno.out (by rw [Hok.out]; simp [show ¬ 0 ≤ x by omega])]; rfl, rfl⟩
        · have d1 : decide (x < 0) = false := decide_eq_false h1
          by_cases h2 : c ≤ x
          · go_wp2_with fail
            go_ret
            exact ⟨by rw [Hno.out (by rw [Hok.out]; simp [show ¬ x < c by omega])]; rfl, rfl⟩
          · have d2 : decide (c ≤ x) = false := decide_eq_false h2
            by_cases h3 : x = n
            · have e1 : decide (x = n) = true := decide_eq_true h3
              have e2 : (x == n) = true := beq_iff_eq.2 h3
              have H3 := hid h3
              clear h3
              go_wp2_with fail
              go_ret
              exact ⟨by rw [Hno.out (by rw [Hok.out]; simp [H3.out])]; rfl, rfl⟩
            · have d3 : decide (x = n) = false := decide_eq_false h3
              have d3' : (x == n) = false := beq_eq_false_iff_ne.2 h3
              have HGood := hid (show okAt l n c 0 = true by rw [Hok.out]; simp [show 0 ≤ x by omega, show x < c by omega, h3])
              go_wp2_with fail
              go_round
              case rel =>
                refine ⟨0 + 1,  by omega, by go_num, hid fun j hj => ?_⟩
                by_cases e : j = 0
                · subst e; exact HGood.out
                · exact A.out j (by omega)
              case measure => simp [intOf]; omega
      · obtain ⟨m, hkm⟩ : ∃ m, k = m + 1 := ⟨k - 1, by omega⟩ -- succ m
        have hpc : w.cell? ⟨g, o + m, none⟩ = some (.int .i64 (l.getD m 0)) := by
          obtain ⟨g', o', c', hv', hc'⟩ := HV.out.at (k := m) (by omega)
          cases hv'
          exact hc'
        have hm0 : (0 : Int) ≤ (m : Int) := by omega
        have hke : (k : Int) - 1 = (m : Int) := by omega
        have hkw : IntKind.i64.wrap (m : Int) = (m : Int) := by rw [IntKind.wrap_i64]; omega
        have hkd : decide (0 < k) = true := decide_eq_true (by omega)
        have hm1 : (m : Int) < (l.length : Int) := by omega
        rw [show k - 1 = m by omega] at Hok
        have hk3 : (0 : Int) < (k : Int) := by omega
        have Hkm := hid hkm
        clear hkm hkz
        generalize l.getD k 0 = x at *
        generalize l.getD m 0 = y at *
        by_cases h1 : x < 0
        · go_wp2_with fail
          go_ret
          exact ⟨by rw [Hno.out (by rw [Hok.out]; simp [show ¬ 0 ≤ x by omega])]; rfl, rfl⟩
        · have d1 : decide (x < 0) = false := decide_eq_false h1
          by_cases h2 : c ≤ x
          · go_wp2_with fail
            go_ret
            exact ⟨by rw [Hno.out (by rw [Hok.out]; simp [show ¬ x < c by omega])]; rfl, rfl⟩
          · have d2 : decide (c ≤ x) = false := decide_eq_false h2
            by_cases h3 : x = n
            · have e1 : decide (x = n) = true := decide_eq_true h3
              have e2 : (x == n) = true := beq_iff_eq.2 h3
              have H3 := hid h3
              clear h3
              go_wp2_with fail
              go_ret
              exact ⟨by rw [Hno.out (by rw [Hok.out]; simp [H3.out])]; rfl, rfl⟩
            · have d3 : decide (x = n) = false := decide_eq_false h3
              have d3' : (x == n) = false := beq_eq_false_iff_ne.2 h3
              by_cases h5 : x ≤ y
              · go_wp2_with fail
                go_ret
                exact ⟨by rw [Hno.out (by rw [Hok.out]; simp [show ¬ y < x by omega, show k ≠ 0 from by have := Hkm.out; omega])]; rfl, rfl⟩
              · have d5 : decide (x ≤ y) = false := decide_eq_false h5
                have HGood := hid (show okAt l n c k = true by rw [Hok.out]; simp [show 0 ≤ x by omega, show x < c by omega, h3, show y < x by omega])
                go_wp2_with fail
                go_round
                case rel =>
                  refine ⟨k + 1,  by omega, by go_num, hid fun j hj => ?_⟩
                  by_cases e : j = k
                  · subst e; exact HGood.out
                  · exact A.out j (by omega)
                case measure => simp [intOf]; omega
    · go_wp2_with fail
      go_ret
      exact ⟨by rw [right_yes fun j hj => A.out j (by omega)]; rfl, rfl⟩

set_option maxRecDepth 100000 in
set_option maxHeartbeats 8000000 in
theorem rright_any (w : World) (v : Value) (l : List Int) (hV : View w v l) (hl : l.length ≤ 50000) (n c : Int) :
    Calls Try.prog 36 #[v, .int .i64 n, .int .i64 c] w fun e w' => e = .returned (.bool (rightB l n c)) ∧ ∃ q, w' = w.drewN q := by
  obtain ⟨oa, cp, rfl⟩ := hV.len
  have HV := hid hV
  clear hV
  go_enter Try.func36, Try.ntmps36
  go_wp2_with fail
  go_loopw [7] (fun i wr => ∃ k q : Nat, wr = w.drewN q ∧ k ≤ l.length ∧ i = .int .i64 k ∧ Hid (∀ j, j < k → okAt l n c j = true)) (fun i _ => l.length - (intOf i).toNat)
  case atStart => exact ⟨0, 0, rfl, Nat.zero_le _, rfl, hid fun j hj => absurd hj (Nat.not_lt_zero _)⟩
  case round =>
    obtain ⟨k, q, rfl, hk, rfl, A⟩ := hrel
    by_cases hlt : k < l.length
    · obtain ⟨g, o, c2, hv, hcell⟩ := HV.out.at hlt
      cases hv
      have hk0 : (0 : Int) ≤ (k : Int) := by omega
      have hk1 : (k : Int) < (l.length : Int) := by omega
      have hno := fun h => right_no (l := l) (n := n) (c := c) (k := k) hlt h
      have hok : okAt l n c k = (decide (0 ≤ l.getD k 0) && (decide (l.getD k 0 < c) && (decide (l.getD k 0 ≠ n) && (decide (k = 0) || decide (l.getD (k - 1) 0 < l.getD k 0))))) := rfl
      have Hno := hid hno
      have Hok := hid hok
      clear hno hok
      by_cases hkz : k = 0
      · subst hkz
        rw [Nat.add_zero] at hcell
        clear hk0 hk1 hk
        have hk1 : (0 : Int) < (l.length : Int) := by omega
        generalize l.getD 0 0 = x at *
        by_cases h1 : x < 0
        · go_wp2_with fail
          refine wp_region_steady (fun v => v.cell? ⟨g, o, none⟩ = some (.int .i64 x)) (by kernel_rfl) (by kernel_rfl) (hcell) ?_
          repeat (first
            | (refine wpSteady_skip (by rfl) ?_; try simp only [Act.put, List.setIfInBounds_toArray, List.set_cons_zero, List.set_cons_succ])
            | (refine wpSteady_calm (v := ?_) (by rfl) ?_ ?_; rotate_left; (focus (intro v hSv; (try dsimp only at hSv); go_simp; (try with_reducible rfl); done)); try simp only [Act.put, List.setIfInBounds_toArray, List.set_cons_zero, List.set_cons_succ]))
          refine wpSteady_nil ?_
          go_wp2_with fail
          go_ret
          exact ⟨by rw [Hno.out (by rw [Hok.out]; simp [show ¬ 0 ≤ x by omega])]; rfl, q + 1, rfl⟩
        · have d1 : decide (x < 0) = false := decide_eq_false h1
          by_cases h2 : c ≤ x
          · go_wp2_with fail
            refine wp_region_steady (fun v => v.cell? ⟨g, o, none⟩ = some (.int .i64 x)) (by kernel_rfl) (by kernel_rfl) (hcell) ?_
            repeat (first
              | (refine wpSteady_skip (by rfl) ?_; try simp only [Act.put, List.setIfInBounds_toArray, List.set_cons_zero, List.set_cons_succ])
              | (refine wpSteady_calm (v := ?_) (by rfl) ?_ ?_; rotate_left; (focus (intro v hSv; (try dsimp only at hSv); go_simp; (try with_reducible rfl); done)); try simp only [Act.put, List.setIfInBounds_toArray, List.set_cons_zero, List.set_cons_succ]))
            refine wpSteady_nil ?_
            go_wp2_with fail
            go_ret
            exact ⟨by rw [Hno.out (by rw [Hok.out]; simp [show ¬ x < c by omega])]; rfl, q + 1, rfl⟩
          · have d2 : decide (c ≤ x) = false := decide_eq_false h2
            by_cases h3 : x = n
            · have e1 : decide (x = n) = true := decide_eq_true h3
              have e2 : (x == n) = true := beq_iff_eq.2 h3
              have H3 := hid h3
              clear h3
              go_wp2_with fail
              refine wp_region_steady (fun v => v.cell? ⟨g, o, none⟩ = some (.int .i64 x)) (by kernel_rfl) (by kernel_rfl) (hcell) ?_
              repeat (first
                | (refine wpSteady_skip (by rfl) ?_; try simp only [Act.put, List.setIfInBounds_toArray, List.set_cons_zero, List.set_cons_succ])
                | (refine wpSteady_calm (v := ?_) (by rfl) ?_ ?_; rotate_left; (focus (intro v hSv; (try dsimp only at hSv); go_simp; (try with_reducible rfl); done)); try simp only [Act.put, List.setIfInBounds_toArray, List.set_cons_zero, List.set_cons_succ]))
              refine wpSteady_nil ?_
              go_wp2_with fail
              go_ret
              exact ⟨by rw [Hno.out (by rw [Hok.out]; simp [H3.out])]; rfl, q + 1, rfl⟩
            · have d3 : decide (x = n) = false := decide_eq_false h3
              have d3' : (x == n) = false := beq_eq_false_iff_ne.2 h3
              have HGood := hid (show okAt l n c 0 = true by rw [Hok.out]; simp [show 0 ≤ x by omega, show x < c by omega, h3])
              go_wp2_with fail
              refine wp_region_steady (fun v => v.cell? ⟨g, o, none⟩ = some (.int .i64 x)) (by kernel_rfl) (by kernel_rfl) (hcell) ?_
              repeat (first
                | (refine wpSteady_skip (by rfl) ?_; try simp only [Act.put, List.setIfInBounds_toArray, List.set_cons_zero, List.set_cons_succ])
                | (refine wpSteady_calm (v := ?_) (by rfl) ?_ ?_; rotate_left; (focus (intro v hSv; (try dsimp only at hSv); go_simp; (try with_reducible rfl); done)); try simp only [Act.put, List.setIfInBounds_toArray, List.set_cons_zero, List.set_cons_succ]))
              refine wpSteady_nil ?_
              go_wp2_with fail
              go_roundw
              case rel =>
                refine ⟨0 + 1, q + 1, rfl, by omega, by go_num, hid fun j hj => ?_⟩
                by_cases e : j = 0
                · subst e; exact HGood.out
                · exact A.out j (by omega)
              case measure => simp [intOf]; omega
      · obtain ⟨m, hkm⟩ : ∃ m, k = m + 1 := ⟨k - 1, by omega⟩ -- succ m
        have hpc : w.cell? ⟨g, o + m, none⟩ = some (.int .i64 (l.getD m 0)) := by
          obtain ⟨g', o', c', hv', hc'⟩ := HV.out.at (k := m) (by omega)
          cases hv'
          exact hc'
        have hm0 : (0 : Int) ≤ (m : Int) := by omega
        have hke : (k : Int) - 1 = (m : Int) := by omega
        have hkw : IntKind.i64.wrap (m : Int) = (m : Int) := by rw [IntKind.wrap_i64]; omega
        have hkd : decide (0 < k) = true := decide_eq_true (by omega)
        have hm1 : (m : Int) < (l.length : Int) := by omega
        rw [show k - 1 = m by omega] at Hok
        have hk3 : (0 : Int) < (k : Int) := by omega
        have Hkm := hid hkm
        clear hkm hkz
        generalize l.getD k 0 = x at *
        generalize l.getD m 0 = y at *
        by_cases h1 : x < 0
        · go_wp2_with fail
          refine wp_region_steady (fun v => v.cell? ⟨g, o + k, none⟩ = some (.int .i64 x) ∧ v.cell? ⟨g, o + m, none⟩ = some (.int .i64 y)) (by kernel_rfl) (by kernel_rfl) (⟨hcell, hpc⟩) ?_
          repeat (first
            | (refine wpSteady_skip (by rfl) ?_; try simp only [Act.put, List.setIfInBounds_toArray, List.set_cons_zero, List.set_cons_succ])
            | (refine wpSteady_calm (v := ?_) (by rfl) ?_ ?_; rotate_left; (focus (intro v hSv; (try dsimp only at hSv); go_simp; (try with_reducible rfl); done)); try simp only [Act.put, List.setIfInBounds_toArray, List.set_cons_zero, List.set_cons_succ]))
          refine wpSteady_nil ?_
          go_wp2_with fail
          go_ret
          exact ⟨by rw [Hno.out (by rw [Hok.out]; simp [show ¬ 0 ≤ x by omega])]; rfl, q + 1, rfl⟩
        · have d1 : decide (x < 0) = false := decide_eq_false h1
          by_cases h2 : c ≤ x
          · go_wp2_with fail
            refine wp_region_steady (fun v => v.cell? ⟨g, o + k, none⟩ = some (.int .i64 x) ∧ v.cell? ⟨g, o + m, none⟩ = some (.int .i64 y)) (by kernel_rfl) (by kernel_rfl) (⟨hcell, hpc⟩) ?_
            repeat (first
              | (refine wpSteady_skip (by rfl) ?_; try simp only [Act.put, List.setIfInBounds_toArray, List.set_cons_zero, List.set_cons_succ])
              | (refine wpSteady_calm (v := ?_) (by rfl) ?_ ?_; rotate_left; (focus (intro v hSv; (try dsimp only at hSv); go_simp; (try with_reducible rfl); done)); try simp only [Act.put, List.setIfInBounds_toArray, List.set_cons_zero, List.set_cons_succ]))
            refine wpSteady_nil ?_
            go_wp2_with fail
            go_ret
            exact ⟨by rw [Hno.out (by rw [Hok.out]; simp [show ¬ x < c by omega])]; rfl, q + 1, rfl⟩
          · have d2 : decide (c ≤ x) = false := decide_eq_false h2
            by_cases h3 : x = n
            · have e1 : decide (x = n) = true := decide_eq_true h3
              have e2 : (x == n) = true := beq_iff_eq.2 h3
              have H3 := hid h3
              clear h3
              go_wp2_with fail
              refine wp_region_steady (fun v => v.cell? ⟨g, o + k, none⟩ = some (.int .i64 x) ∧ v.cell? ⟨g, o + m, none⟩ = some (.int .i64 y)) (by kernel_rfl) (by kernel_rfl) (⟨hcell, hpc⟩) ?_
              repeat (first
                | (refine wpSteady_skip (by rfl) ?_; try simp only [Act.put, List.setIfInBounds_toArray, List.set_cons_zero, List.set_cons_succ])
                | (refine wpSteady_calm (v := ?_) (by rfl) ?_ ?_; rotate_left; (focus (intro v hSv; (try dsimp only at hSv); go_simp; (try with_reducible rfl); done)); try simp only [Act.put, List.setIfInBounds_toArray, List.set_cons_zero, List.set_cons_succ]))
              refine wpSteady_nil ?_
              go_wp2_with fail
              go_ret
              exact ⟨by rw [Hno.out (by rw [Hok.out]; simp [H3.out])]; rfl, q + 1, rfl⟩
            · have d3 : decide (x = n) = false := decide_eq_false h3
              have d3' : (x == n) = false := beq_eq_false_iff_ne.2 h3
              by_cases h5 : x ≤ y
              · go_wp2_with fail
                refine wp_region_steady (fun v => v.cell? ⟨g, o + k, none⟩ = some (.int .i64 x) ∧ v.cell? ⟨g, o + m, none⟩ = some (.int .i64 y)) (by kernel_rfl) (by kernel_rfl) (⟨hcell, hpc⟩) ?_
                repeat (first
                  | (refine wpSteady_skip (by rfl) ?_; try simp only [Act.put, List.setIfInBounds_toArray, List.set_cons_zero, List.set_cons_succ])
                  | (refine wpSteady_calm (v := ?_) (by rfl) ?_ ?_; rotate_left; (focus (intro v hSv; (try dsimp only at hSv); go_simp; (try with_reducible rfl); done)); try simp only [Act.put, List.setIfInBounds_toArray, List.set_cons_zero, List.set_cons_succ]))
                refine wpSteady_nil ?_
                go_wp2_with fail
                go_ret
                exact ⟨by rw [Hno.out (by rw [Hok.out]; simp [show ¬ y < x by omega, show k ≠ 0 from by have := Hkm.out; omega])]; rfl, q + 1, rfl⟩
              · have d5 : decide (x ≤ y) = false := decide_eq_false h5
                have HGood := hid (show okAt l n c k = true by rw [Hok.out]; simp [show 0 ≤ x by omega, show x < c by omega, h3, show y < x by omega])
                go_wp2_with fail
                refine wp_region_steady (fun v => v.cell? ⟨g, o + k, none⟩ = some (.int .i64 x) ∧ v.cell? ⟨g, o + m, none⟩ = some (.int .i64 y)) (by kernel_rfl) (by kernel_rfl) (⟨hcell, hpc⟩) ?_
                repeat (first
                  | (refine wpSteady_skip (by rfl) ?_; try simp only [Act.put, List.setIfInBounds_toArray, List.set_cons_zero, List.set_cons_succ])
                  | (refine wpSteady_calm (v := ?_) (by rfl) ?_ ?_; rotate_left; (focus (intro v hSv; (try dsimp only at hSv); go_simp; (try with_reducible rfl); done)); try simp only [Act.put, List.setIfInBounds_toArray, List.set_cons_zero, List.set_cons_succ]))
                refine wpSteady_nil ?_
                go_wp2_with fail
                go_roundw
                case rel =>
                  refine ⟨k + 1, q + 1, rfl, by omega, by go_num, hid fun j hj => ?_⟩
                  by_cases e : j = k
                  · subst e; exact HGood.out
                  · exact A.out j (by omega)
                case measure => simp [intOf]; omega
    · go_wp2_with fail
      go_ret
      exact ⟨by rw [right_yes fun j hj => A.out j (by omega)]; rfl, q, rfl⟩

end Go.Proofs.Ytoaellmjgejgfaa
