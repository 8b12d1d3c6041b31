/- shaped of the reference of values: what a value of the right shape is. -/
import Derived.Test.YtibiiafcnaijeaaVDec
import Derived.Deep.DeepCutAuto
namespace Go.Proofs.Ytibiiafcnaijeaa
open Go Go.RowKit Go.Proofs.Ytibiiafcnaijeaa.Steady
set_option linter.unusedVariables false
set_option linter.unusedSimpArgs false

theorem emp_toList : (⟨#[]⟩ : ByteArray).toList = [] := by decide +kernel
/-- The shape of a value: its kind, how many items, how many keys. -/
def ShP (k n : Int) (s : ByteArray) (nI nK : Nat) : Prop := (0 ≤ k ∧ k ≤ 6) ∧ (k ≠ 4 → k ≠ 5 → nI = 0) ∧ (k = 5 → nK = nI) ∧ (k ≠ 5 → nK = 0) ∧ (k = 5 → n = 0 ∧ s = ⟨#[]⟩)
def ShPost (k n : Int) (s : ByteArray) (nI nK : Nat) (w : World) (e : Ending) (w' : World) : Prop := ∃ b, e = .returned (.bool b) ∧ (b = true → ShP k n s nI nK) ∧ Below w.heap.size w w'
set_option maxRecDepth 100000 in
set_option maxHeartbeats 4000000 in
theorem vshaped_any (k n : Int) (s : ByteArray) (oi ok : Option Addr) (nI ci nK ck : Nat) (w : World) (hI : nI ≤ 140737488355328) (hK : nK ≤ 140737488355328) :
    Calls Try.prog 44 #[.agg #[.int .i64 k, .int .i64 n, .string s, .slice oi nI ci, .slice ok nK ck]] w (ShPost k n s nI nK w) := by
  obtain ⟨hB, c0, c1, c2, c3, c4⟩ := box5 w (.int .i64 k) (.int .i64 n) (.string s) (.slice oi nI ci) (.slice ok nK ck) 26
  have HB := hid hB
  generalize hW : w.alloc (.cells #[.int .i64 k, .int .i64 n, .string s, .slice oi nI ci, .slice ok nK ck] 26) = W at *
  have HW := hid hW
  clear hB hW
  go_enter Try.func44, Try.ntmps44
  go_upto_region 1 with (fail)
  rw [HW.out]
  go_cut [3] (fun b wx => W = wx ∧ ∃ c : Bool, b = .bool c ∧ (c = true → k = 5 → n = 0))
  case first =>
    by_cases k2 : k = 2
    · have d2 : decide (k = 2) = true := by first | exact decide_eq_true (by omega) | exact decide_eq_false (by omega)
      have d2b : (k == 2) = true := by first | exact beq_iff_eq.2 (by omega) | exact beq_eq_false_iff_ne.2 (by omega)
      have d2n : (k != 2) = !true := by rw [bne, d2b]
      have HK := hid k2
      clear k2
      go_wp2_with fail
      go_meet
      exact ⟨rfl, _, rfl, fun _ h => absurd (HK.out.symm.trans h) (by decide)⟩
    have d2 : decide (k = 2) = false := by first | exact decide_eq_true (by omega) | exact decide_eq_false (by omega)
    have d2b : (k == 2) = false := by first | exact beq_iff_eq.2 (by omega) | exact beq_eq_false_iff_ne.2 (by omega)
    have d2n : (k != 2) = !false := by rw [bne, d2b]
    by_cases n0 : n = 0
    · have e0 : decide (n = 0) = true := by first | exact decide_eq_true (by omega) | exact decide_eq_false (by omega)
      have e0b : (n == 0) = true := by first | exact beq_iff_eq.2 (by omega) | exact beq_eq_false_iff_ne.2 (by omega)
      have e0n : (n != 0) = !true := by rw [bne, e0b]
      by_cases k1 : k = 1
      · have d1 : decide (k = 1) = true := by first | exact decide_eq_true (by omega) | exact decide_eq_false (by omega)
        have d1b : (k == 1) = true := by first | exact beq_iff_eq.2 (by omega) | exact beq_eq_false_iff_ne.2 (by omega)
        have d1n : (k != 1) = !true := by rw [bne, d1b]
        have HK := hid n0
        clear n0 k1 k2
        go_wp2_with fail
        go_meet
        exact ⟨rfl, _, rfl, fun _ _ => HK.out⟩
      · have d1 : decide (k = 1) = false := by first | exact decide_eq_true (by omega) | exact decide_eq_false (by omega)
        have d1b : (k == 1) = false := by first | exact beq_iff_eq.2 (by omega) | exact beq_eq_false_iff_ne.2 (by omega)
        have d1n : (k != 1) = !false := by rw [bne, d1b]
        have HK := hid n0
        clear n0 k1 k2
        go_wp2_with fail
        go_meet
        exact ⟨rfl, _, rfl, fun _ _ => HK.out⟩
    have e0 : decide (n = 0) = false := by first | exact decide_eq_true (by omega) | exact decide_eq_false (by omega)
    have e0b : (n == 0) = false := by first | exact beq_iff_eq.2 (by omega) | exact beq_eq_false_iff_ne.2 (by omega)
    have e0n : (n != 0) = !false := by rw [bne, e0b]
    by_cases k1 : k = 1
    · have d1 : decide (k = 1) = true := by first | exact decide_eq_true (by omega) | exact decide_eq_false (by omega)
      have d1b : (k == 1) = true := by first | exact beq_iff_eq.2 (by omega) | exact beq_eq_false_iff_ne.2 (by omega)
      have d1n : (k != 1) = !true := by rw [bne, d1b]
      have HK := hid k1
      by_cases n1 : n = 1
      · have e1 : decide (n = 1) = true := by first | exact decide_eq_true (by omega) | exact decide_eq_false (by omega)
        have e1b : (n == 1) = true := by first | exact beq_iff_eq.2 (by omega) | exact beq_eq_false_iff_ne.2 (by omega)
        have e1n : (n != 1) = !true := by rw [bne, e1b]
        clear n0 k1 k2 n1
        go_wp2_with fail
        go_meet
        exact ⟨rfl, _, rfl, fun _ h => absurd (HK.out.symm.trans h) (by decide)⟩
      · have e1 : decide (n = 1) = false := by first | exact decide_eq_true (by omega) | exact decide_eq_false (by omega)
        have e1b : (n == 1) = false := by first | exact beq_iff_eq.2 (by omega) | exact beq_eq_false_iff_ne.2 (by omega)
        have e1n : (n != 1) = !false := by rw [bne, e1b]
        clear n0 k1 k2 n1
        go_wp2_with fail
        go_meet
        exact ⟨rfl, _, rfl, fun _ h => absurd (HK.out.symm.trans h) (by decide)⟩
    · have d1 : decide (k = 1) = false := by first | exact decide_eq_true (by omega) | exact decide_eq_false (by omega)
      have d1b : (k == 1) = false := by first | exact beq_iff_eq.2 (by omega) | exact beq_eq_false_iff_ne.2 (by omega)
      have d1n : (k != 1) = !false := by rw [bne, d1b]
      clear n0 k1 k2
      go_wp2_with fail
      go_meet
      exact ⟨rfl, false, rfl, nF⟩
  case rest =>
    obtain ⟨rfl, b3, rfl, hb3⟩ := hcut
    have HB3 := hid hb3
    clear hb3
    go_upto_region 2 with (fail)
    go_cut [4] (fun b wx => W = wx ∧ ∃ c : Bool, b = .bool c ∧ (c = true → k = 5 → s = ⟨#[]⟩))
    case first =>
      by_cases k3 : k = 3
      · have d3 : decide (k = 3) = true := by first | exact decide_eq_true (by omega) | exact decide_eq_false (by omega)
        have d3b : (k == 3) = true := by first | exact beq_iff_eq.2 (by omega) | exact beq_eq_false_iff_ne.2 (by omega)
        have d3n : (k != 3) = !true := by rw [bne, d3b]
        have HK := hid k3
        clear k3
        go_wp2_with fail
        go_meet
        exact ⟨rfl, _, rfl, fun _ h => absurd (HK.out.symm.trans h) (by decide)⟩
      · have d3 : decide (k = 3) = false := by first | exact decide_eq_true (by omega) | exact decide_eq_false (by omega)
        have d3b : (k == 3) = false := by first | exact beq_iff_eq.2 (by omega) | exact beq_eq_false_iff_ne.2 (by omega)
        have d3n : (k != 3) = !false := by rw [bne, d3b]
        clear k3
        by_cases hs : s = ⟨#[]⟩
        · have he : s.toList.isEmpty = true := by rw [hs, emp_toList]; rfl
          have HK := hid hs
          clear hs
          go_wp2_with fail
          go_meet
          exact ⟨rfl, _, rfl, fun _ _ => HK.out⟩
        · have he : s.toList.isEmpty = false := by
            cases hq : s.toList with
            | nil => exact absurd (toList_inj (hq.trans emp_toList.symm)) hs
            | cons _ _ => rfl
          clear hs
          go_wp2_with fail
          go_meet
          exact ⟨rfl, false, rfl, nF⟩
    case rest =>
      obtain ⟨rfl, b4, rfl, hb4⟩ := hcut
      have HB4 := hid hb4
      clear hb4
      go_upto_region 3 with (fail)
      go_cut [5] (fun b wx => W = wx ∧ ∃ c : Bool, b = .bool c ∧ (c = true → k ≠ 4 → k ≠ 5 → nI = 0))
      case first =>
        by_cases k4 : k = 4
        · have d4 : decide (k = 4) = true := by first | exact decide_eq_true (by omega) | exact decide_eq_false (by omega)
          have d4b : (k == 4) = true := by first | exact beq_iff_eq.2 (by omega) | exact beq_eq_false_iff_ne.2 (by omega)
          have d4n : (k != 4) = !true := by rw [bne, d4b]
          have HK := hid k4
          clear k4
          go_wp2_with fail
          go_meet
          exact ⟨rfl, _, rfl, fun _ h => absurd HK.out h⟩
        have d4 : decide (k = 4) = false := by first | exact decide_eq_true (by omega) | exact decide_eq_false (by omega)
        have d4b : (k == 4) = false := by first | exact beq_iff_eq.2 (by omega) | exact beq_eq_false_iff_ne.2 (by omega)
        have d4n : (k != 4) = !false := by rw [bne, d4b]
        by_cases k5 : k = 5
        · have d5 : decide (k = 5) = true := by first | exact decide_eq_true (by omega) | exact decide_eq_false (by omega)
          have d5b : (k == 5) = true := by first | exact beq_iff_eq.2 (by omega) | exact beq_eq_false_iff_ne.2 (by omega)
          have d5n : (k != 5) = !true := by rw [bne, d5b]
          have HK := hid k5
          clear k4 k5
          go_wp2_with fail
          go_meet
          exact ⟨rfl, _, rfl, fun _ _ h => absurd HK.out h⟩
        have d5 : decide (k = 5) = false := by first | exact decide_eq_true (by omega) | exact decide_eq_false (by omega)
        have d5b : (k == 5) = false := by first | exact beq_iff_eq.2 (by omega) | exact beq_eq_false_iff_ne.2 (by omega)
        have d5n : (k != 5) = !false := by rw [bne, d5b]
        clear k4 k5
        by_cases z : nI = 0
        · have z0 : decide ((nI : Int) = 0) = true := by first | exact decide_eq_true (by omega) | exact decide_eq_false (by omega)
          have z0b : ((nI : Int) == 0) = true := by first | exact beq_iff_eq.2 (by omega) | exact beq_eq_false_iff_ne.2 (by omega)
          have z0n : ((nI : Int) != 0) = !true := by rw [bne, z0b]
          have HZ := hid z
          clear z
          go_wp2_with fail
          go_meet
          exact ⟨rfl, _, rfl, fun _ _ _ => HZ.out⟩
        · have z0 : decide ((nI : Int) = 0) = false := by first | exact decide_eq_true (by omega) | exact decide_eq_false (by omega)
          have z0b : ((nI : Int) == 0) = false := by first | exact beq_iff_eq.2 (by omega) | exact beq_eq_false_iff_ne.2 (by omega)
          have z0n : ((nI : Int) != 0) = !false := by rw [bne, z0b]
          clear z
          go_wp2_with fail
          go_meet
          exact ⟨rfl, false, rfl, nF⟩
      case rest =>
        obtain ⟨rfl, b5, rfl, hb5⟩ := hcut
        have HB5 := hid hb5
        clear hb5
        go_upto_region 4 with (fail)
        go_cut [6] (fun b wx => W = wx ∧ ∃ c : Bool, b = .bool c ∧ (c = true → (k = 5 → nK = nI) ∧ (k ≠ 5 → nK = 0)))
        case first =>
          by_cases k5 : k = 5
          · have d5 : decide (k = 5) = true := by first | exact decide_eq_true (by omega) | exact decide_eq_false (by omega)
            have d5b : (k == 5) = true := by first | exact beq_iff_eq.2 (by omega) | exact beq_eq_false_iff_ne.2 (by omega)
            have d5n : (k != 5) = !true := by rw [bne, d5b]
            have HK := hid k5
            clear k5
            by_cases z : nK = nI
            · have z0 : decide ((nK : Int) = (nI : Int)) = true := by first | exact decide_eq_true (by omega) | exact decide_eq_false (by omega)
              have z0b : ((nK : Int) == (nI : Int)) = true := by first | exact beq_iff_eq.2 (by omega) | exact beq_eq_false_iff_ne.2 (by omega)
              have z0n : ((nK : Int) != (nI : Int)) = !true := by rw [bne, z0b]
              have HZ := hid z
              clear z
              go_wp2_with fail
              go_meet
              exact ⟨rfl, _, rfl, fun _ => ⟨fun _ => HZ.out, fun h => absurd HK.out h⟩⟩
            · have z0 : decide ((nK : Int) = (nI : Int)) = false := by first | exact decide_eq_true (by omega) | exact decide_eq_false (by omega)
              have z0b : ((nK : Int) == (nI : Int)) = false := by first | exact beq_iff_eq.2 (by omega) | exact beq_eq_false_iff_ne.2 (by omega)
              have z0n : ((nK : Int) != (nI : Int)) = !false := by rw [bne, z0b]
              clear z
              go_wp2_with fail
              go_meet
              exact ⟨rfl, false, rfl, nF⟩
          · have d5 : decide (k = 5) = false := by first | exact decide_eq_true (by omega) | exact decide_eq_false (by omega)
            have d5b : (k == 5) = false := by first | exact beq_iff_eq.2 (by omega) | exact beq_eq_false_iff_ne.2 (by omega)
            have d5n : (k != 5) = !false := by rw [bne, d5b]
            have HK := hid k5
            clear k5
            by_cases z : nK = 0
            · have z0 : decide ((nK : Int) = 0) = true := by first | exact decide_eq_true (by omega) | exact decide_eq_false (by omega)
              have z0b : ((nK : Int) == 0) = true := by first | exact beq_iff_eq.2 (by omega) | exact beq_eq_false_iff_ne.2 (by omega)
              have z0n : ((nK : Int) != 0) = !true := by rw [bne, z0b]
              have HZ := hid z
              clear z
              go_wp2_with fail
              go_meet
              exact ⟨rfl, _, rfl, fun _ => ⟨fun h => absurd h HK.out, fun _ => HZ.out⟩⟩
            · have z0 : decide ((nK : Int) = 0) = false := by first | exact decide_eq_true (by omega) | exact decide_eq_false (by omega)
              have z0b : ((nK : Int) == 0) = false := by first | exact beq_iff_eq.2 (by omega) | exact beq_eq_false_iff_ne.2 (by omega)
              have z0n : ((nK : Int) != 0) = !false := by rw [bne, z0b]
              clear z
              go_wp2_with fail
              go_meet
              exact ⟨rfl, false, rfl, nF⟩
        case rest =>
          obtain ⟨rfl, b6, rfl, hb6⟩ := hcut
          have HB6 := hid hb6
          clear hb6
          by_cases g0 : k ≥ 0
          · have f0 : decide (k ≥ 0) = true := decide_eq_true g0
            by_cases g6 : k ≤ 6
            · have f6 : decide (k ≤ 6) = true := decide_eq_true g6
              have HG := hid (And.intro g0 g6)
              clear g0 g6
              cases b3 with
              | false =>
                go_wp2_with fail
                go_ret
                exact ⟨false, rfl, nF, HB.out⟩
              | true =>
              cases b4 with
              | false =>
                go_wp2_with fail
                go_ret
                exact ⟨false, rfl, nF, HB.out⟩
              | true =>
              cases b5 with
              | false =>
                go_wp2_with fail
                go_ret
                exact ⟨false, rfl, nF, HB.out⟩
              | true =>
              have HB34 : Hid (k = 5 → n = 0 ∧ s = ⟨#[]⟩) := hid fun h => ⟨HB3.out rfl h, HB4.out rfl h⟩
              have HB5T : Hid (k ≠ 4 → k ≠ 5 → nI = 0) := hid (HB5.out rfl)
              go_wp2_with fail
              go_ret
              exact ⟨b6, rfl, fun h => ⟨HG.out, HB5T.out, (HB6.out h).1, (HB6.out h).2, HB34.out⟩, HB.out⟩
            · have f6 : decide (k ≤ 6) = false := decide_eq_false g6
              clear g0 g6
              go_wp2_with fail
              go_ret
              exact ⟨false, rfl, nF, HB.out⟩
          · have f0 : decide (k ≥ 0) = false := decide_eq_false g0
            clear g0
            go_wp2_with fail
            go_ret
            exact ⟨false, rfl, nF, HB.out⟩
/-- A valid value. -/
inductive VOk : Vl → Prop
  | mk (k n : Int) (s : ByteArray) (is : List Vl) (ks : List ByteArray) (hk : 0 ≤ k ∧ k ≤ 6) (h5 : k = 5 → ks.length = is.length) (hn : k ≠ 5 → ks = []) (hi : k ≠ 4 → k ≠ 5 → is = []) (hz : k = 5 → n = 0 ∧ s = ⟨#[]⟩) (ha : Asc ks) (he : ∀ e ∈ is, VOk e) : VOk (.mk k n s is ks)
theorem VOk.out {k n : Int} {s : ByteArray} {is : List Vl} {ks : List ByteArray} (h : VOk (.mk k n s is ks)) : (0 ≤ k ∧ k ≤ 6) ∧ (k = 5 → ks.length = is.length) ∧ (k ≠ 5 → ks = []) ∧ (k ≠ 4 → k ≠ 5 → is = []) ∧ (k = 5 → n = 0 ∧ s = ⟨#[]⟩) ∧ Asc ks ∧ ∀ e ∈ is, VOk e := by
  cases h with
  | mk _ _ _ _ _ hk h5 hn hi hz ha he => exact ⟨hk, h5, hn, hi, hz, ha, he⟩
end Go.Proofs.Ytibiiafcnaijeaa
