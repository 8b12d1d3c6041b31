/- letter, Identifier: the program's and the reference's. -/
import Derived.Test.YtfljnigbfacmjaaGreatDoorSmall
import Derived.WalkLawsBesides
import Derived.Deep.DeepCutAuto
namespace Go.Proofs.YtfljnigbfacmjaaGreatDoor
open Go Go.RowKit
set_option linter.unusedVariables false

/-- A Bool and nothing else. -/
def Is (b : Bool) (w : World) (e : Ending) (w' : World) : Prop := e = .returned (.bool b) ∧ w = w'

set_option maxRecDepth 100000 in
set_option maxHeartbeats 1000000 in
theorem letter_any (n : Nat) (w : World) (hn : n < 256) : Calls Tryz.prog 77 #[.int .u8 n] w (Is (letterN n) w) := by
  by_cases a : 97 ≤ n
  · have a1 : decide ((n : Int) ≥ 97) = true := decide_eq_true (by omega)
    by_cases b : n ≤ 122
    · have a2 : decide ((n : Int) ≤ 122) = true := decide_eq_true (by omega)
      have hp : letterN n = true := by unfold letterN; simp; omega
      have HP := hid hp
      clear hp
      go_enter Tryz.func77, Tryz.ntmps77
      go_wp2_with fail
      go_ret
      exact ⟨by rw [HP.out]; rfl, rfl⟩
    · have a2 : decide ((n : Int) ≤ 122) = false := decide_eq_false (by omega)
      have a3 : decide ((n : Int) ≥ 65) = true := decide_eq_true (by omega)
      have a4 : decide ((n : Int) ≤ 90) = false := decide_eq_false (by omega)
      have e1 : decide ((n : Int) = 95) = false := decide_eq_false (by omega)
      have e2 : ((n : Int) == 95) = false := beq_eq_false_iff_ne.2 (by omega)
      have hp : letterN n = false := by unfold letterN; simp; omega
      have HP := hid hp
      clear hp
      go_enter Tryz.func77, Tryz.ntmps77
      go_wp2_with fail
      go_ret
      exact ⟨by rw [HP.out]; rfl, rfl⟩
  · have a1 : decide ((n : Int) ≥ 97) = false := decide_eq_false (by omega)
    by_cases b : 65 ≤ n
    · have a3 : decide ((n : Int) ≥ 65) = true := decide_eq_true (by omega)
      by_cases c : n ≤ 90
      · have a4 : decide ((n : Int) ≤ 90) = true := decide_eq_true (by omega)
        have hp : letterN n = true := by unfold letterN; simp; omega
        have HP := hid hp
        clear hp
        go_enter Tryz.func77, Tryz.ntmps77
        go_wp2_with fail
        go_ret
        exact ⟨by rw [HP.out]; rfl, rfl⟩
      · have a4 : decide ((n : Int) ≤ 90) = false := decide_eq_false (by omega)
        by_cases d : n = 95
        · have e1 : decide ((n : Int) = 95) = true := decide_eq_true (by omega)
          have e2 : ((n : Int) == 95) = true := beq_iff_eq.2 (by omega)
          have hp : letterN n = true := by unfold letterN; simp; omega
          have HP := hid hp
          clear hp
          go_enter Tryz.func77, Tryz.ntmps77
          go_wp2_with fail
          go_ret
          exact ⟨by rw [HP.out]; rfl, rfl⟩
        · have e1 : decide ((n : Int) = 95) = false := decide_eq_false (by omega)
          have e2 : ((n : Int) == 95) = false := beq_eq_false_iff_ne.2 (by omega)
          have hp : letterN n = false := by unfold letterN; simp; omega
          have HP := hid hp
          clear hp
          go_enter Tryz.func77, Tryz.ntmps77
          go_wp2_with fail
          go_ret
          exact ⟨by rw [HP.out]; rfl, rfl⟩
    · have a3 : decide ((n : Int) ≥ 65) = false := decide_eq_false (by omega)
      have e1 : decide ((n : Int) = 95) = false := decide_eq_false (by omega)
      have e2 : ((n : Int) == 95) = false := beq_eq_false_iff_ne.2 (by omega)
      have hp : letterN n = false := by unfold letterN; simp; omega
      have HP := hid hp
      clear hp
      go_enter Tryz.func77, Tryz.ntmps77
      go_wp2_with fail
      go_ret
      exact ⟨by rw [HP.out]; rfl, rfl⟩

theorem toList_nil {s : ByteArray} (h : s.size = 0) : s.toList = [] := by
  rw [ByteArray.toList_eq]
  exact List.eq_nil_of_length_eq_zero (by rw [Array.length_toList]; exact h)
theorem toList_ne {s : ByteArray} (h : s.size ≠ 0) : s.toList.isEmpty = false := by
  rw [ByteArray.toList_eq]
  cases hl : s.data.toList with
  | nil => exact absurd (by rw [show s.size = s.data.toList.length from Array.length_toList.symm, hl]; rfl) h
  | cons c l => rfl
theorem or32 (n : Nat) (h : n < 256) : (97 ≤ bits BinOp.or IntKind.u8 n 32 ∧ bits BinOp.or IntKind.u8 n 32 ≤ 122) ↔ ((97 ≤ n ∧ n ≤ 122) ∨ (65 ≤ n ∧ n ≤ 90)) := by
  have key : ∀ m : Fin 256, decide ((97 ≤ bits BinOp.or IntKind.u8 (m.val : Int) 32 ∧ bits BinOp.or IntKind.u8 (m.val : Int) 32 ≤ 122) ↔ ((97 ≤ m.val ∧ m.val ≤ 122) ∨ (65 ≤ m.val ∧ m.val ≤ 90))) = true := by decide +kernel
  exact of_decide_eq_true (key ⟨n, h⟩)

set_option maxRecDepth 100000 in
set_option maxHeartbeats 2000000 in
theorem ident_any (s : ByteArray) (w : World) (hs : s.size ≤ 140737488355328) : Calls Tryz.prog 54 #[.string s] w (Is (identB s) w) := by
  go_enter Tryz.func54, Tryz.ntmps54
  go_wp2_with fail
  go_loop [7] (fun i => ∃ k : Nat, k ≤ s.size ∧ i = .int .i64 k ∧ Hid (∀ j, j < k → okAt s j = true)) (fun i => s.size - (intOf i).toNat)
  case atStart => exact ⟨0, Nat.zero_le _, rfl, hid fun j hj => absurd hj (Nat.not_lt_zero _)⟩
  case round =>
    obtain ⟨k, hk, rfl, A⟩ := hrel
    by_cases hlt : k < s.size
    · have hbn := byteN_get hlt
      have hor := or32 (byteN s k) (byteN_lt s k)
      have hn := byteN_lt s k
      generalize hnn : byteN s k = n at *
      have HN := hid hnn
      have HBN := hid hbn
      go_upto_region 5 with (fail)
      generalize bits BinOp.or IntKind.u8 (n : Int) 32 = c at *
      clear hnn
      by_cases c95 : n = 95
      · have e1 : decide ((n : Int) = 95) = true := decide_eq_true (by omega)
        have e2 : ((n : Int) == 95) = true := beq_iff_eq.2 (by omega)
        have e3 : ((n : Int) != 95) = false := by rw [bne, e2]; rfl
        have hok : okAt s k = true := by unfold okAt letterN digitN; rw [HN.out]; simp; omega
        have HOK := hid hok
        clear hok
        go_wp2_with fail
        go_round
        case rel =>
          refine ⟨k + 1, by omega, by go_num, hid fun j hj => ?_⟩
          by_cases e : j = k
          · subst e; exact HOK.out
          · exact A.out j (by omega)
        case measure => simp [intOf]; omega
      have e1 : decide ((n : Int) = 95) = false := decide_eq_false (by omega)
      have e2 : ((n : Int) == 95) = false := beq_eq_false_iff_ne.2 (by omega)
      have e3 : ((n : Int) != 95) = true := by rw [bne, e2]; rfl
      by_cases c1 : c < 97
      · have f1 : decide (c < 97) = true := decide_eq_true (by omega)
        by_cases hk0 : k = 0
        · have hkk : decide ((k : Int) = 0) = true := decide_eq_true (by omega)
          have hkk2 : ((k : Int) == 0) = true := beq_iff_eq.2 (by omega)
          have hok : okAt s k = false := by unfold okAt letterN digitN; rw [HN.out]; simp; omega
          have HOK := hid hok
          clear hok
          clear hk0
          go_wp2_with fail
          go_ret
          exact ⟨by rw [identB_bad hlt HOK.out]; rfl, rfl⟩
        · have hkk : decide ((k : Int) = 0) = false := decide_eq_false (by omega)
          have hkk2 : ((k : Int) == 0) = false := beq_eq_false_iff_ne.2 (by omega)
          by_cases d1 : n < 48
          · have f4 : decide ((n : Int) < 48) = true := decide_eq_true (by omega)
            have hok : okAt s k = false := by unfold okAt letterN digitN; rw [HN.out]; simp; omega
            have HOK := hid hok
            clear hok
            go_wp2_with fail
            go_ret
            exact ⟨by rw [identB_bad hlt HOK.out]; rfl, rfl⟩
          · have f4 : decide ((n : Int) < 48) = false := decide_eq_false (by omega)
            by_cases d2 : 57 < n
            · have f5 : decide ((n : Int) > 57) = true := decide_eq_true (by omega)
              have hok : okAt s k = false := by unfold okAt letterN digitN; rw [HN.out]; simp; omega
              have HOK := hid hok
              clear hok
              go_wp2_with fail
              go_ret
              exact ⟨by rw [identB_bad hlt HOK.out]; rfl, rfl⟩
            · have f5 : decide ((n : Int) > 57) = false := decide_eq_false (by omega)
              have hok : okAt s k = true := by unfold okAt letterN digitN; rw [HN.out]; simp; omega
              have HOK := hid hok
              clear hok
              go_wp2_with fail
              go_round
              case rel =>
                refine ⟨k + 1, by omega, by go_num, hid fun j hj => ?_⟩
                by_cases e : j = k
                · subst e; exact HOK.out
                · exact A.out j (by omega)
              case measure => simp [intOf]; omega
      have f1 : decide (c < 97) = false := decide_eq_false (by omega)
      by_cases c2 : c > 122
      · have f2 : decide (c > 122) = true := decide_eq_true (by omega)
        by_cases hk0 : k = 0
        · have hkk : decide ((k : Int) = 0) = true := decide_eq_true (by omega)
          have hkk2 : ((k : Int) == 0) = true := beq_iff_eq.2 (by omega)
          have hok : okAt s k = false := by unfold okAt letterN digitN; rw [HN.out]; simp; omega
          have HOK := hid hok
          clear hok
          clear hk0
          go_wp2_with fail
          go_ret
          exact ⟨by rw [identB_bad hlt HOK.out]; rfl, rfl⟩
        · have hkk : decide ((k : Int) = 0) = false := decide_eq_false (by omega)
          have hkk2 : ((k : Int) == 0) = false := beq_eq_false_iff_ne.2 (by omega)
          by_cases d1 : n < 48
          · have f4 : decide ((n : Int) < 48) = true := decide_eq_true (by omega)
            have hok : okAt s k = false := by unfold okAt letterN digitN; rw [HN.out]; simp; omega
            have HOK := hid hok
            clear hok
            go_wp2_with fail
            go_ret
            exact ⟨by rw [identB_bad hlt HOK.out]; rfl, rfl⟩
          · have f4 : decide ((n : Int) < 48) = false := decide_eq_false (by omega)
            by_cases d2 : 57 < n
            · have f5 : decide ((n : Int) > 57) = true := decide_eq_true (by omega)
              have hok : okAt s k = false := by unfold okAt letterN digitN; rw [HN.out]; simp; omega
              have HOK := hid hok
              clear hok
              go_wp2_with fail
              go_ret
              exact ⟨by rw [identB_bad hlt HOK.out]; rfl, rfl⟩
            · have f5 : decide ((n : Int) > 57) = false := decide_eq_false (by omega)
              have hok : okAt s k = true := by unfold okAt letterN digitN; rw [HN.out]; simp; omega
              have HOK := hid hok
              clear hok
              go_wp2_with fail
              go_round
              case rel =>
                refine ⟨k + 1, by omega, by go_num, hid fun j hj => ?_⟩
                by_cases e : j = k
                · subst e; exact HOK.out
                · exact A.out j (by omega)
              case measure => simp [intOf]; omega
      have f2 : decide (c > 122) = false := decide_eq_false (by omega)
      have hok : okAt s k = true := by unfold okAt letterN digitN; rw [HN.out]; simp; omega
      have HOK := hid hok
      clear hok
      go_wp2_with fail
      go_round
      case rel =>
        refine ⟨k + 1, by omega, by go_num, hid fun j hj => ?_⟩
        by_cases e : j = k
        · subst e; exact HOK.out
        · exact A.out j (by omega)
      case measure => simp [intOf]; omega
    · have hke : k = s.size := by omega
      have hA : ∀ j, j < s.size → okAt s j = true := fun j hj => A.out j (by omega)
      have hid1 := identB_eq hA
      have HI := hid hid1
      clear hA hid1
      by_cases h0 : s.size = 0
      · have hemp := toList_nil h0
        go_wp2_with fail
        go_ret
        exact ⟨by rw [HI.out, h0]; rfl, rfl⟩
      · have hemp := toList_ne h0
        go_wp2_with fail
        go_ret
        refine ⟨?_, rfl⟩
        show Ending.returned (.bool (decide ((s.size : Int) ≤ 64))) = _
        have e : decide ((s.size : Int) ≤ 64) = decide (s.size ≤ 64) := decide_eq_decide.2 (by omega)
        rw [HI.out, decide_eq_true h0, Bool.true_and, e]

set_option maxRecDepth 100000 in
set_option maxHeartbeats 4000000 in
theorem rident_any (s : ByteArray) (w : World) (hs : s.size ≤ 140737488355328) : Calls Tryz.prog 61 #[.string s] w (Is (identB s) w) := by
  by_cases h0 : s.size = 0
  · have hp : identB s = false := by
      cases hi : identB s with
      | false => rfl
      | true => exact absurd h0 ((identB_iff s).1 hi).1
    have HP := hid hp
    have hemp := toList_nil h0
    clear hp
    go_enter Tryz.func61, Tryz.ntmps61
    go_wp2_with fail
    go_ret
    exact ⟨by rw [HP.out]; rfl, rfl⟩
  have hemp := toList_ne h0
  by_cases h1 : 64 < s.size
  · have hp : identB s = false := by
      cases hi : identB s with
      | false => rfl
      | true => have := ((identB_iff s).1 hi).2.1; omega
    have HP := hid hp
    have f1 : decide ((s.size : Int) > 64) = true := decide_eq_true (by omega)
    clear hp
    go_enter Tryz.func61, Tryz.ntmps61
    go_wp2_with fail
    go_ret
    exact ⟨by rw [HP.out]; rfl, rfl⟩
  have f1 : decide ((s.size : Int) > 64) = false := decide_eq_false (by omega)
  have hpos : 0 < s.size := by omega
  have hb0 := byteN_get hpos
  have hl0 := letter_any (byteN s 0) w (byteN_lt s 0)
  have HL := hid hl0
  cases hc : letterN (byteN s 0) with
  | false =>
    have hp : identB s = false := identB_bad hpos (by unfold okAt; rw [hc]; rfl)
    have HP := hid hp
    rw [hc] at HL
    clear hp hl0 hc
    go_enter Tryz.func61, Tryz.ntmps61
    go_wp2_with fail
    refine HL.out.mono ?_; rintro e w' ⟨rfl, rfl⟩
    go_wp2_with fail
    go_ret
    exact ⟨by rw [HP.out]; rfl, rfl⟩
  | true =>
    rw [hc] at HL
    have HC := hid hc
    clear hl0 hc
    go_enter Tryz.func61, Tryz.ntmps61
    go_wp2_with fail
    refine HL.out.mono ?_; rintro e w' ⟨rfl, rfl⟩
    go_wp2_with fail
    clear hb0
    go_loop [3] (fun i => ∃ k : Nat, k ≤ s.size ∧ i = .int .i64 k ∧ Hid (∀ j, j < k → okAt s j = true)) (fun i => s.size - (intOf i).toNat)
    case atStart => exact ⟨0, Nat.zero_le _, rfl, hid fun j hj => absurd hj (Nat.not_lt_zero _)⟩
    case round =>
      obtain ⟨k, hk, rfl, A⟩ := hrel
      by_cases hlt : k < s.size
      · have hbn := byteN_get hlt
        have hl1 := letter_any (byteN s k) w (byteN_lt s k)
        have hn := byteN_lt s k
        have h00 : k = 0 → letterN (byteN s k) = true := fun e => by rw [e]; exact HC.out
        have H00 := hid h00
        have HL1 := hid hl1
        clear h00 hl1
        generalize hnn : byteN s k = n at *
        have HN := hid hnn
        clear hnn
        cases hc : letterN n with
        | true =>
          rw [hc] at HL1
          have hok : okAt s k = true := by unfold okAt; rw [HN.out, hc]; rfl
          have HOK := hid hok
          clear hc hok
          go_wp2_with fail
          refine HL1.out.mono ?_; rintro e w' ⟨rfl, rfl⟩
          go_wp2_with fail
          go_round
          case rel =>
            refine ⟨k + 1, by omega, by go_num, hid fun j hj => ?_⟩
            by_cases e : j = k
            · subst e; exact HOK.out
            · exact A.out j (by omega)
          case measure => simp [intOf]; omega
        | false =>
          have hk0 : k ≠ 0 := fun e => by rw [H00.out e] at hc; cases hc
          rw [hc] at HL1
          by_cases d1 : n < 48
          · have f4 : decide ((n : Int) < 48) = true := decide_eq_true (by omega)
            have hok : okAt s k = false := by unfold okAt digitN; rw [HN.out, hc]; simp; omega
            have HOK := hid hok
            clear hc hok
            go_wp2_with fail
            refine HL1.out.mono ?_; rintro e w' ⟨rfl, rfl⟩
            go_wp2_with fail
            go_ret
            exact ⟨by rw [identB_bad hlt HOK.out]; rfl, rfl⟩
          · have f4 : decide ((n : Int) < 48) = false := decide_eq_false (by omega)
            by_cases d2 : 57 < n
            · have f5 : decide ((n : Int) > 57) = true := decide_eq_true (by omega)
              have hok : okAt s k = false := by unfold okAt digitN; rw [HN.out, hc]; simp; omega
              have HOK := hid hok
              clear hc hok
              go_wp2_with fail
              refine HL1.out.mono ?_; rintro e w' ⟨rfl, rfl⟩
              go_wp2_with fail
              go_ret
              exact ⟨by rw [identB_bad hlt HOK.out]; rfl, rfl⟩
            · have f5 : decide ((n : Int) > 57) = false := decide_eq_false (by omega)
              have hok : okAt s k = true := by unfold okAt digitN; rw [HN.out, hc]; simp; omega
              have HOK := hid hok
              clear hc hok
              go_wp2_with fail
              refine HL1.out.mono ?_; rintro e w' ⟨rfl, rfl⟩
              go_wp2_with fail
              go_round
              case rel =>
                refine ⟨k + 1, by omega, by go_num, hid fun j hj => ?_⟩
                by_cases e : j = k
                · subst e; exact HOK.out
                · exact A.out j (by omega)
              case measure => simp [intOf]; omega
      · have hke : k = s.size := by omega
        have hA : ∀ j, j < s.size → okAt s j = true := fun j hj => A.out j (by omega)
        have hp : identB s = true := (identB_iff s).2 ⟨h0, by omega, hA⟩
        have HP := hid hp
        clear hA hp
        go_wp2_with fail
        go_ret
        exact ⟨by rw [HP.out]; rfl, rfl⟩
end Go.Proofs.YtfljnigbfacmjaaGreatDoor
