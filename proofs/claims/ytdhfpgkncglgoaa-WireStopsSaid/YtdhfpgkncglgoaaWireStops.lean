/- The statement WireStops holds of the given program for every input. -/
import Derived.Test.YtdhfpgkncglgoaaOpen
namespace Go.Proofs.Ytdhfpgkncglgoaa.wireStops
open Go.ChangeShapes Go.WideShapes Go.ChangeAt Go.RowKit Go.BigFrame
open Go.ChangeMaps (open_string shut_string)
set_option linter.unusedVariables false

theorem rd_drewN {w : World} {b : Nat} {s : ByteArray} {e : Int} {g : Bool} (h : RD w b s e g) (n : Nat) : Hid (RD (w.drewN n) b s e g) := h
theorem below_drewN {B : Nat} {a w : World} (h : Below B a w) (n : Nat) : Hid (Below B a (w.drewN n)) := ⟨h.os, h.tape, h.output, h.size, h.block⟩

theorem cnt_bounds (s : ByteArray) (N : Int) : (cntOf s N).2.2 = 0 → 0 ≤ (cntOf s N).1 ∧ (cntOf s N).1 ≤ (cntOf s N).2.1.size ∧ (0 < N → (cntOf s N).1 ≤ ((cntOf s N).2.1.size : Int) / N) := by
  intro h
  obtain ⟨h0, h1⟩ := cntOf_le s N h
  refine ⟨h0, h1, fun hN => ?_⟩
  have hle := sizeOfL_le s.data.toList
  unfold cntOf at *
  generalize sizeOfL s.data.toList = G at *
  obtain ⟨n, k, e⟩ := G
  simp only at *
  have hk : k ≤ s.size := by simpa using hle
  by_cases he : e = 0
  · subst he
    by_cases hlt : ((s.size : Int) - k) / max N 1 < n
    · rw [if_neg (by simp), if_pos hlt] at h; simp at h
    · rw [if_neg (by simp), if_neg hlt]
      rw [show max N 1 = N by omega] at hlt
      simp only [ByteArray.size_extract]
      rw [show ((min s.size s.size - k : Nat) : Int) = (s.size : Int) - k by omega]
      omega
  · rw [if_pos he] at h; simp at h; exact absurd h he
set_option maxRecDepth 100000 in
set_option maxHeartbeats 4000000 in
theorem walk (s0 : ByteArray) (oa : Option Addr) (len cap : Nat) (kd nm : Nat → Int) (w0 : s0.size ≤ maxLen) (hlen : len ≤ maxLen) (w : World) (hacts : Acts w oa len kd nm) :
    Calls Try.prog 8 #[.string s0, .slice oa len cap] w fun e w' => e = .returned (.bool true) ∧ Below w.heap.size w w' := by
  unfold maxLen at w0 hlen
  by_cases h1 : 400 < s0.size
  · go_enter Try.func8, Try.ntmps8
    go_wp2_with (go_at_call 10; refine (awake_any _).mono ?_; rintro e w' ⟨rfl, hb⟩)
    go_ret
    exact ⟨rfl, hb⟩
  by_cases h2 : 60 < len
  · go_enter Try.func8, Try.ntmps8
    go_wp2_with (go_at_call 10; refine (awake_any _).mono ?_; rintro e w' ⟨rfl, hb⟩)
    go_ret
    exact ⟨rfl, hb⟩
  go_enter Try.func8, Try.ntmps8
  go_wp2_with fail
  refine (new_any _ _).mono ?_; rintro e w2 ⟨rfl, hw2⟩
  have r0 : RD w2 w.heap.size s0 0 true := by rw [← hw2]; exact heap_alloc_new w _
  have b0 : Below w.heap.size w w2 := by rw [← hw2]; exact (Below.refl _ _).alloc (Nat.le_refl _) _
  clear hw2
  have R0 := hid r0
  have B0 := hid b0
  clear r0 b0
  go_wp2_with fail
  generalize hrb : w.heap.size = rb at *
  have Hrb := hid hrb
  have A0 := hid hacts
  clear hrb hacts
  go_loopw [6] (fun i wr => ∃ (k : Nat) (s : ByteArray) (e : Int), k ≤ len ∧ i = .int .i64 k ∧ s.size ≤ 400 ∧ Hid (RD wr rb s e true) ∧ Hid (Below rb w wr)) (fun i _ => len - (intOf i).toNat)
  case atStart => exact ⟨0, s0, 0, Nat.zero_le _, rfl, by omega, R0, B0⟩
  case round =>
    obtain ⟨k, s, e, hk, rfl, hs, R, B⟩ := hrel
    clear R0 B0
    by_cases hlt : k < len
    · obtain ⟨lb, off, rfl⟩ := A0.out.head (by omega)
      have Aw := hid (A0.out.below (by rw [Hrb.out]; exact B.out))
      have hlb : lb < rb := by have := A0.out.lt lb off rfl (by omega); rw [Hrb.out] at this; exact this
      have hkd := Aw.out.kind lb off k rfl hlt
      have hnm := Aw.out.num lb off k rfl hlt
      have hk0 : (0 : Int) ≤ (k : Int) := by omega
      have hk1 : (k : Int) < (len : Int) := by omega
      by_cases k0 : kd k = 0
      · have k0' : (kd k == 0) = true := by simpa using k0
        have k2' : (kd k == 2) = false := by simp; omega
        by_cases he : e = 0
        · subst he
          clear k0
          have hsz := numOf_size s
          have hcall := fun w h => number_ok rb s (by omega) w h
          unfold Post at hcall
          generalize numOf s = G at *
          obtain ⟨n, s', e'⟩ := G
          simp only at *
          have Hcall := hid hcall
          clear hcall
          go_wp2_with fail
          refine (err_any rb s 0 _ R.out).mono ?_; rintro r w' ⟨rfl, rfl⟩
          go_wp2_with fail
          refine (left_any rb s 0 true (by omega) _ R.out).mono ?_; rintro r w' ⟨rfl, rfl⟩
          go_wp2_with fail
          refine (Hcall.out _ R.out).mono ?_; rintro r w6 ⟨rfl, r6, o6⟩
          have R6 := hid r6
          have B6 := hid (B.out.trans (o6.toBelow (Nat.le_refl _)))
          clear r6 o6 R B hkd hnm
          go_wp2_with fail
          refine (left_any rb s' e' true (by omega) _ R6.out).mono ?_; rintro r w' ⟨rfl, rfl⟩
          go_wp2_with fail
          refine (left_any rb s' e' true (by omega) _ R6.out).mono ?_; rintro r w' ⟨rfl, rfl⟩
          have Aw2 := hid (A0.out.below (by rw [Hrb.out]; exact B6.out))
          have hkd := Aw2.out.kind lb off k rfl hlt
          have hnm := Aw2.out.num lb off k rfl hlt
          go_wp2_with fail
          go_quiet ((first | fail))
          go_wp2_with fail
          go_roundw
          case rel => exact ⟨k + 1, s', e', by omega, by go_num, by omega, (rd_drewN R6.out nq), (below_drewN B6.out nq)⟩
          case measure => simp [intOf]; omega
        · have He := hid he
          have he1 : (e != 0) = true := by simpa using he
          have he2 : (e == 0) = false := by simpa using he
          clear he k0
          go_wp2_with fail
          refine (err_any rb s e _ R.out).mono ?_; rintro r w' ⟨rfl, rfl⟩
          go_wp2_with fail
          refine (left_any rb s e true (by omega) _ R.out).mono ?_; rintro r w' ⟨rfl, rfl⟩
          go_wp2_with fail
          refine (number_not _ _ (ready_err rb s e He.out _ R.out)).mono ?_; rintro r w' ⟨rfl, rfl⟩
          go_wp2_with fail
          refine (err_any rb s e _ R.out).mono ?_; rintro r w' ⟨rfl, rfl⟩
          go_wp2_with fail
          refine (left_any rb s e true (by omega) _ R.out).mono ?_; rintro r w' ⟨rfl, rfl⟩
          go_wp2_with fail
          refine (left_any rb s e true (by omega) _ R.out).mono ?_; rintro r w' ⟨rfl, rfl⟩
          go_wp2_with fail
          refine (left_any rb s e true (by omega) _ R.out).mono ?_; rintro r w' ⟨rfl, rfl⟩
          have Aw2 := hid (A0.out.below (by rw [Hrb.out]; exact B.out))
          have hkd := Aw2.out.kind lb off k rfl hlt
          have hnm := Aw2.out.num lb off k rfl hlt
          go_wp2_with fail
          go_quiet ((first | fail))
          go_wp2_with fail
          go_roundw
          case rel => exact ⟨k + 1, s, e, by omega, by go_num, by omega, (rd_drewN R.out nq), (below_drewN B.out nq)⟩
          case measure => simp [intOf]; omega
      by_cases k1 : kd k = 1
      · have k0' : (kd k == 0) = false := by simpa using k0
        have k1' : (kd k == 1) = true := by simpa using k1
        have k2' : (kd k == 2) = false := by simp; omega
        by_cases he : e = 0
        · subst he
          clear k0 k1
          have hsz := strOf_size s
          have hcall := fun w h => string_ok rb s (by omega) w h
          unfold Post at hcall
          generalize strOf s = G at *
          obtain ⟨n, s', e'⟩ := G
          simp only at *
          have Hcall := hid hcall
          clear hcall
          go_wp2_with fail
          refine (err_any rb s 0 _ R.out).mono ?_; rintro r w' ⟨rfl, rfl⟩
          go_wp2_with fail
          refine (left_any rb s 0 true (by omega) _ R.out).mono ?_; rintro r w' ⟨rfl, rfl⟩
          go_wp2_with fail
          refine (Hcall.out _ R.out).mono ?_; rintro r w6 ⟨rfl, r6, o6⟩
          have R6 := hid r6
          have B6 := hid (B.out.trans (o6.toBelow (Nat.le_refl _)))
          clear r6 o6 R B hkd hnm
          go_wp2_with fail
          refine (left_any rb s' e' true (by omega) _ R6.out).mono ?_; rintro r w' ⟨rfl, rfl⟩
          go_wp2_with fail
          refine (left_any rb s' e' true (by omega) _ R6.out).mono ?_; rintro r w' ⟨rfl, rfl⟩
          have Aw2 := hid (A0.out.below (by rw [Hrb.out]; exact B6.out))
          have hkd := Aw2.out.kind lb off k rfl hlt
          have hnm := Aw2.out.num lb off k rfl hlt
          go_wp2_with fail
          go_quiet ((first | fail))
          go_wp2_with fail
          go_roundw
          case rel => exact ⟨k + 1, s', e', by omega, by go_num, by omega, (rd_drewN R6.out nq), (below_drewN B6.out nq)⟩
          case measure => simp [intOf]; omega
        · have He := hid he
          have he1 : (e != 0) = true := by simpa using he
          have he2 : (e == 0) = false := by simpa using he
          clear he k0 k1
          go_wp2_with fail
          refine (err_any rb s e _ R.out).mono ?_; rintro r w' ⟨rfl, rfl⟩
          go_wp2_with fail
          refine (left_any rb s e true (by omega) _ R.out).mono ?_; rintro r w' ⟨rfl, rfl⟩
          go_wp2_with fail
          refine (string_not _ _ (ready_err rb s e He.out _ R.out)).mono ?_; rintro r w' ⟨rfl, rfl⟩
          go_wp2_with fail
          refine (err_any rb s e _ R.out).mono ?_; rintro r w' ⟨rfl, rfl⟩
          go_wp2_with fail
          refine (left_any rb s e true (by omega) _ R.out).mono ?_; rintro r w' ⟨rfl, rfl⟩
          go_wp2_with fail
          refine (left_any rb s e true (by omega) _ R.out).mono ?_; rintro r w' ⟨rfl, rfl⟩
          go_wp2_with fail
          refine (left_any rb s e true (by omega) _ R.out).mono ?_; rintro r w' ⟨rfl, rfl⟩
          have Aw2 := hid (A0.out.below (by rw [Hrb.out]; exact B.out))
          have hkd := Aw2.out.kind lb off k rfl hlt
          have hnm := Aw2.out.num lb off k rfl hlt
          go_wp2_with fail
          go_quiet ((first | fail))
          go_wp2_with fail
          go_roundw
          case rel => exact ⟨k + 1, s, e, by omega, by go_num, by omega, (rd_drewN R.out nq), (below_drewN B.out nq)⟩
          case measure => simp [intOf]; omega
      by_cases k2 : kd k = 2
      · have k0' : (kd k == 0) = false := by simpa using k0
        have k1' : (kd k == 1) = false := by simpa using k1
        have k2' : (kd k == 2) = true := by simpa using k2
        by_cases he : e = 0
        · subst he
          clear k0 k1 k2
          have hsz := cntOf_size s (nm k)
          have hcall := fun w h => count_ok rb s (nm k) (by omega) w h
          unfold Post at hcall
          have hcnt := cnt_bounds s (nm k)
          generalize cntOf s (nm k) = G at *
          obtain ⟨n, s', e'⟩ := G
          simp only at *
          have Hcall := hid hcall
          clear hcall
          by_cases he' : e' = 0
          · subst he'
            obtain ⟨q0, q1, q2⟩ := hcnt rfl
            clear hcnt
            have q3 : decide (n < 0) = false := by simp; omega
            have q4 : decide ((s'.size : Int) < n) = false := by simp; omega
            by_cases hN : 0 < nm k
            · have q5 := q2 hN
              have q6 : decide (0 < nm k) = true := by simp; omega
              have q7 : decide ((s'.size : Int) / nm k < n) = false := by simp; omega
              have q8 : 0 ≤ (s'.size : Int) / nm k := Int.ediv_nonneg (by omega) (by omega)
              have q9 : (s'.size : Int) / nm k ≤ 9223372036854775807 := Int.le_trans (Int.ediv_le_self _ (by omega)) (by omega)
              go_wp2_with fail
              refine (err_any rb s 0 _ R.out).mono ?_; rintro r w' ⟨rfl, rfl⟩
              go_wp2_with fail
              refine (left_any rb s 0 true (by omega) _ R.out).mono ?_; rintro r w' ⟨rfl, rfl⟩
              go_wp2_with fail
              refine (Hcall.out _ R.out).mono ?_; rintro r w6 ⟨rfl, r6, o6⟩
              have R6 := hid r6
              have B6 := hid (B.out.trans (o6.toBelow (Nat.le_refl _)))
              clear r6 o6 R B hkd hnm
              go_wp2_with fail
              refine (left_any rb s' 0 true (by omega) _ R6.out).mono ?_; rintro r w' ⟨rfl, rfl⟩
              go_wp2_with fail
              refine (left_any rb s' 0 true (by omega) _ R6.out).mono ?_; rintro r w' ⟨rfl, rfl⟩
              have Aw2 := hid (A0.out.below (by rw [Hrb.out]; exact B6.out))
              have hkd := Aw2.out.kind lb off k rfl hlt
              have hnm := Aw2.out.num lb off k rfl hlt
              go_wp2_with fail
              go_quiet ((first | (go_at_call 20; exact Calls.quiet_of_same ((err_any rb s' 0 _ (rd_drewN R6.out _).out).mono fun _ _ h => ⟨h.1, h.2.symm⟩)) | (go_at_call 17; exact Calls.quiet_of_same ((left_any rb s' 0 true (by omega) _ (rd_drewN R6.out _).out).mono fun _ _ h => ⟨h.1, h.2.symm⟩))))
              go_wp2_with fail
              go_roundw
              case rel => exact ⟨k + 1, s', 0, by omega, by go_num, by omega, (rd_drewN R6.out nq), (below_drewN B6.out nq)⟩
              case measure => simp [intOf]; omega
            · have q6 : decide (0 < nm k) = false := by simp; omega
              clear q2
              go_wp2_with fail
              refine (err_any rb s 0 _ R.out).mono ?_; rintro r w' ⟨rfl, rfl⟩
              go_wp2_with fail
              refine (left_any rb s 0 true (by omega) _ R.out).mono ?_; rintro r w' ⟨rfl, rfl⟩
              go_wp2_with fail
              refine (Hcall.out _ R.out).mono ?_; rintro r w6 ⟨rfl, r6, o6⟩
              have R6 := hid r6
              have B6 := hid (B.out.trans (o6.toBelow (Nat.le_refl _)))
              clear r6 o6 R B hkd hnm
              go_wp2_with fail
              refine (left_any rb s' 0 true (by omega) _ R6.out).mono ?_; rintro r w' ⟨rfl, rfl⟩
              go_wp2_with fail
              refine (left_any rb s' 0 true (by omega) _ R6.out).mono ?_; rintro r w' ⟨rfl, rfl⟩
              have Aw2 := hid (A0.out.below (by rw [Hrb.out]; exact B6.out))
              have hkd := Aw2.out.kind lb off k rfl hlt
              have hnm := Aw2.out.num lb off k rfl hlt
              go_wp2_with fail
              go_quiet ((first | (go_at_call 20; exact Calls.quiet_of_same ((err_any rb s' 0 _ (rd_drewN R6.out _).out).mono fun _ _ h => ⟨h.1, h.2.symm⟩)) | (go_at_call 17; exact Calls.quiet_of_same ((left_any rb s' 0 true (by omega) _ (rd_drewN R6.out _).out).mono fun _ _ h => ⟨h.1, h.2.symm⟩))))
              go_wp2_with fail
              go_roundw
              case rel => exact ⟨k + 1, s', 0, by omega, by go_num, by omega, (rd_drewN R6.out nq), (below_drewN B6.out nq)⟩
              case measure => simp [intOf]; omega
          · have he2 : (e' == 0) = false := by simpa using he'
            clear hcnt
            go_wp2_with fail
            refine (err_any rb s 0 _ R.out).mono ?_; rintro r w' ⟨rfl, rfl⟩
            go_wp2_with fail
            refine (left_any rb s 0 true (by omega) _ R.out).mono ?_; rintro r w' ⟨rfl, rfl⟩
            go_wp2_with fail
            refine (Hcall.out _ R.out).mono ?_; rintro r w6 ⟨rfl, r6, o6⟩
            have R6 := hid r6
            have B6 := hid (B.out.trans (o6.toBelow (Nat.le_refl _)))
            clear r6 o6 R B hkd hnm
            go_wp2_with fail
            refine (left_any rb s' e' true (by omega) _ R6.out).mono ?_; rintro r w' ⟨rfl, rfl⟩
            go_wp2_with fail
            refine (left_any rb s' e' true (by omega) _ R6.out).mono ?_; rintro r w' ⟨rfl, rfl⟩
            have Aw2 := hid (A0.out.below (by rw [Hrb.out]; exact B6.out))
            have hkd := Aw2.out.kind lb off k rfl hlt
            have hnm := Aw2.out.num lb off k rfl hlt
            go_wp2_with fail
            go_quiet ((first | (go_at_call 20; exact Calls.quiet_of_same ((err_any rb s' e' _ (rd_drewN R6.out _).out).mono fun _ _ h => ⟨h.1, h.2.symm⟩))))
            go_wp2_with fail
            go_roundw
            case rel => exact ⟨k + 1, s', e', by omega, by go_num, by omega, (rd_drewN R6.out nq), (below_drewN B6.out nq)⟩
            case measure => simp [intOf]; omega
        · have He := hid he
          have he1 : (e != 0) = true := by simpa using he
          have he2 : (e == 0) = false := by simpa using he
          clear he k0 k1 k2
          go_wp2_with fail
          refine (err_any rb s e _ R.out).mono ?_; rintro r w' ⟨rfl, rfl⟩
          go_wp2_with fail
          refine (left_any rb s e true (by omega) _ R.out).mono ?_; rintro r w' ⟨rfl, rfl⟩
          go_wp2_with fail
          refine (count_not _ (nm k) _ (ready_err rb s e He.out _ R.out)).mono ?_; rintro r w' ⟨rfl, rfl⟩
          go_wp2_with fail
          refine (err_any rb s e _ R.out).mono ?_; rintro r w' ⟨rfl, rfl⟩
          go_wp2_with fail
          refine (left_any rb s e true (by omega) _ R.out).mono ?_; rintro r w' ⟨rfl, rfl⟩
          go_wp2_with fail
          refine (left_any rb s e true (by omega) _ R.out).mono ?_; rintro r w' ⟨rfl, rfl⟩
          go_wp2_with fail
          refine (left_any rb s e true (by omega) _ R.out).mono ?_; rintro r w' ⟨rfl, rfl⟩
          have Aw2 := hid (A0.out.below (by rw [Hrb.out]; exact B.out))
          have hkd := Aw2.out.kind lb off k rfl hlt
          have hnm := Aw2.out.num lb off k rfl hlt
          go_wp2_with fail
          go_quiet ((first | (go_at_call 20; exact Calls.quiet_of_same ((err_any rb s e _ (rd_drewN R.out _).out).mono fun _ _ h => ⟨h.1, h.2.symm⟩))))
          go_wp2_with fail
          go_roundw
          case rel => exact ⟨k + 1, s, e, by omega, by go_num, by omega, (rd_drewN R.out nq), (below_drewN B.out nq)⟩
          case measure => simp [intOf]; omega
      have k0' : (kd k == 0) = false := by simpa using k0
      have k1' : (kd k == 1) = false := by simpa using k1
      have k2' : (kd k == 2) = false := by simpa using k2
      by_cases he : e = 0
      · subst he
        clear k0 k1 k2
        go_wp2_with fail
        refine (err_any rb s 0 _ R.out).mono ?_; rintro r w' ⟨rfl, rfl⟩
        go_wp2_with fail
        refine (left_any rb s 0 true (by omega) _ R.out).mono ?_; rintro r w' ⟨rfl, rfl⟩
        go_wp2_with fail
        refine (left_any rb s 0 true (by omega) _ R.out).mono ?_; rintro r w' ⟨rfl, rfl⟩
        go_wp2_with fail
        refine (left_any rb s 0 true (by omega) _ R.out).mono ?_; rintro r w' ⟨rfl, rfl⟩
        have Aw2 := hid (A0.out.below (by rw [Hrb.out]; exact B.out))
        have hkd := Aw2.out.kind lb off k rfl hlt
        have hnm := Aw2.out.num lb off k rfl hlt
        go_wp2_with fail
        go_quiet ((first | fail))
        go_wp2_with fail
        go_roundw
        case rel => exact ⟨k + 1, s, 0, by omega, by go_num, by omega, (rd_drewN R.out nq), (below_drewN B.out nq)⟩
        case measure => simp [intOf]; omega
      · have He := hid he
        have he1 : (e != 0) = true := by simpa using he
        have he2 : (e == 0) = false := by simpa using he
        clear he k0 k1 k2
        go_wp2_with fail
        refine (err_any rb s e _ R.out).mono ?_; rintro r w' ⟨rfl, rfl⟩
        go_wp2_with fail
        refine (left_any rb s e true (by omega) _ R.out).mono ?_; rintro r w' ⟨rfl, rfl⟩
        go_wp2_with fail
        refine (err_any rb s e _ R.out).mono ?_; rintro r w' ⟨rfl, rfl⟩
        go_wp2_with fail
        refine (left_any rb s e true (by omega) _ R.out).mono ?_; rintro r w' ⟨rfl, rfl⟩
        go_wp2_with fail
        refine (left_any rb s e true (by omega) _ R.out).mono ?_; rintro r w' ⟨rfl, rfl⟩
        go_wp2_with fail
        refine (left_any rb s e true (by omega) _ R.out).mono ?_; rintro r w' ⟨rfl, rfl⟩
        have Aw2 := hid (A0.out.below (by rw [Hrb.out]; exact B.out))
        have hkd := Aw2.out.kind lb off k rfl hlt
        have hnm := Aw2.out.num lb off k rfl hlt
        go_wp2_with fail
        go_quiet ((first | fail))
        go_wp2_with fail
        go_roundw
        case rel => exact ⟨k + 1, s, e, by omega, by go_num, by omega, (rd_drewN R.out nq), (below_drewN B.out nq)⟩
        case measure => simp [intOf]; omega
    · go_wp2_with fail
      refine (awake_any _).mono ?_; rintro e w' ⟨rfl, hb⟩
      go_wp2_with fail
      go_ret
      exact ⟨rfl, by rw [Hrb.out]; exact B.out.trans (hb.mono (Nat.le_of_lt R.out.lt))⟩

theorem readable : ∀ t ∈ #[9, 38].toList, Try.prog.readableRec t = true ∧ t < Try.prog.types.size := by
  intro t ht
  have r9 : Try.prog.readableRec 9 = true ∧ 9 < Try.prog.types.size := ⟨by kernel_rfl, of_decide_eq_true (by kernel_rfl)⟩
  have r38 : Try.prog.readableRec 38 = true ∧ 38 < Try.prog.types.size := ⟨by kernel_rfl, of_decide_eq_true (by kernel_rfl)⟩
  have hm : t = 9 ∨ t = 38 := by simpa using ht
  rcases hm with rfl | rfl <;> assumption

theorem walkD {H : Type} (enc : TypeId × Value → H) (W : World) (base : Nat) (args : Array Value) (ds : List (DataW H)) (p : List MemPlace)
    (hval : ∀ (j : Nat) t v, #[9, 38][j]? = some t → args[j]? = some v → Value.okWide Try.prog W .any base t v)
    (hA : DataW.TrodAll enc Try.prog W 0 (fun _ => true) true #[9, 38].toList args.toList ds p) :
    (Calls Try.prog 8 args W fun e w' => e = .returned (.bool true) ∧ Below W.heap.size W w') ∧
    ((Rows.wireStopsSpec.fn H (ds ++ [])).results = [.lit (.bool true)] ∧ (Rows.wireStopsSpec.fn H (ds ++ [])).args = ds ∧ (Rows.wireStopsSpec.fn H (ds ++ [])).vars = []) := by
  obtain ⟨v0, vs0, d0, ds0, p0, q0, hargs, rfl, rfl, h0, r0⟩ := trodAll_cons hA
  obtain ⟨v1, vs1, d1, ds1, p1, q1, rfl, rfl, rfl, h1, r1⟩ := trodAll_cons r0
  obtain ⟨rfl, rfl, rfl⟩ := trodAll_nil r1
  obtain rfl : args = #[v0, v1] := by cases args; simp_all
  obtain ⟨a0, rfl, rfl, rfl, w0⟩ := open_string Try.underlying9 (hval 0 9 v0 rfl rfl) h0
  obtain ⟨oa, ln, cp, kd, nm, rfl, wl, wa⟩ := open_acts (hval 1 38 v1 rfl rfl) h1
  exact ⟨walk a0 oa ln cp kd nm w0 wl W wa, rfl, rfl, rfl⟩

/-! ### The row -/
set_option maxRecDepth 100000 in
theorem lifted (os : Os) (started : os.Started) (H : Type) (enc : TypeId × Value → H) :
    ReturnsInHanded {} Try.checked os 8 .any (Rows.wireStopsSpec.pre6 enc Try.prog Try.f8 Rows.wireStopsRow.domain false) (Rows.wireStopsSpec.post enc Try.prog Try.f8 false true false false) := by
  refine returnsInHanded_of_change (C := Try.checked) own started (by kernel_rfl) Try.func8
    (ChangeSpec.witness6 (enc := enc) (C := Try.checked) false ⟨#[], #[.string ByteArray.empty, .slice none 0 0], []⟩ 8 (by kernel_rfl) (by kernel_rfl) (by kernel_rfl) (by kernel_rfl)) ?_
  intro W base args ds gs before hval0 hW _ _
  have hW' := hW
  obtain ⟨p, q, hA, hV, _, _, _⟩ := hW
  obtain ⟨rfl, rfl⟩ := trodVars_none hV
  rw [Try.params8] at hA hval0
  obtain ⟨hcall, hds⟩ := walkD enc W base args ds p hval0 hA
  exact hcall.mono fun e W' ⟨he, hb⟩ => ⟨_, he, law_post hW' rfl (by rw [Try.params8]; exact readable) rfl hds hb⟩

theorem over : Rows.wireStopsRow.holds Try.pinned (OpenSpec.ofChange Rows.wireStopsSpec) :=
  OpenClaim.holds_of_wide 8 Try.f8 rfl rfl rfl rfl rfl rfl rfl ⟨rfl, rfl, rfl, rfl, rfl⟩ rfl rfl rfl rfl rfl (by kernel_rfl) Try.func8 (by kernel_rfl)
    (of_decide_eq_true (by kernel_rfl)) (by unfold Func.isWrapper; first | (rw [if_pos (by decide +kernel)]; kernel_rfl) | (rw [if_neg (by decide +kernel)]; exact ⟨rfl, rfl⟩))
    (fun os started H enc _ => lifted os started H enc)

theorem proved : Rows.WireStopsSaid :=
  over
#print axioms proved
end Go.Proofs.Ytdhfpgkncglgoaa.wireStops
