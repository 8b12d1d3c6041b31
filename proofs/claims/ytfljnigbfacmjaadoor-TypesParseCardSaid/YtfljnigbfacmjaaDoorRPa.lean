/- The small functions of the reference's parser. -/
import Derived.Test.YtfljnigbfacmjaaDoorRFmt
import Derived.Test.YtfljnigbfacmjaaDoorObjI
namespace Go.Proofs.YtfljnigbfacmjaaDoor
open Go Go.RowKit Go.Proofs.YtfljnigbfacmjaaDoor.Steady
set_option linter.unusedVariables false

abbrev dg (k a : Int) : Value := .agg #[.int .i64 k, .int .i64 a, .string ⟨#[]⟩]
def Is0 (v : Value) (w : World) (e : Ending) (w' : World) : Prop := e = .returned v ∧ w = w'
theorem keep_o {w w' : World} {b : Nat} {o : Obj} (h : w.heap[b]? = some o) (hb : Below w.heap.size w w') : w'.heap[b]? = some o := (hb.block _ (Array.getElem?_eq_some_iff.1 h).1).trans h
set_option maxRecDepth 100000 in
set_option maxHeartbeats 4000000 in
theorem bad_any (k a : Int) (w : World) : Calls Tryd.prog 34 #[.int .i64 k, .int .i64 a] w (Ret (dg k a) w) := by
  have HB := hid (box3 w (.int .i64 k) (.int .i64 a) (.string ⟨#[]⟩) 33)
  go_enter Tryd.func34, Tryd.ntmps34
  go_wp2_with fail
  generalize w.alloc (.cells #[.int .i64 k, .int .i64 a, .string ⟨#[]⟩] 33) = wf at *
  obtain ⟨hb, p0, p1, p2, -⟩ := HB.out
  refine bodyPost_ret (v := dg k a) (by simp [results, Tryd.results34, go_sem, p0, p1, p2, dg]) rfl ?_
  exact ⟨rfl, hb⟩

/-! skip -/
def blankN (n : Nat) : Bool := decide (n = 32) || (decide (n = 9) || (decide (n = 10) || decide (n = 13)))
theorem blank_iff (c : UInt8) : blanks.contains c = blankN c.toNat := by
  have h : ∀ d : UInt8, (c == d) = decide (c.toNat = d.toNat) := fun d => by
    rw [Bool.eq_iff_iff]; simp [UInt8.toNat_inj]
  unfold blanks blankN
  simp only [List.contains_cons, List.contains_nil, h, Bool.or_false]
  rfl
theorem at_split {s : ByteArray} {n : Nat} (h : n < s.size) : ∃ c r, At s n (c :: r) ∧ byteN s n = c.toNat := by
  have h2 : n < (bl s).length := by rw [bl_len]; exact h
  have hA : At s n ((bl s)[n] :: (bl s).drop (n + 1)) := ⟨Nat.le_of_lt h, List.drop_eq_getElem_cons h2⟩
  exact ⟨_, _, hA, hA.byte⟩
theorem skip_step {s : ByteArray} {n : Nat} (h : n < s.size) (hb : blankN (byteN s n) = true) : skipN s n = skipN s (n + 1) := by
  obtain ⟨c, r, hA, hc⟩ := at_split h
  rw [hc, ← blank_iff] at hb
  unfold skipN
  rw [hA.rest, hA.cons.rest, List.dropWhile_cons, if_pos hb]
theorem skip_stop {s : ByteArray} {n : Nat} (h : n < s.size) (hb : blankN (byteN s n) = false) : skipN s n = n := by
  obtain ⟨c, r, hA, hc⟩ := at_split h
  rw [hc, ← blank_iff] at hb
  exact hA.skip0 hb
theorem skip_end {s : ByteArray} : skipN s s.size = s.size := by
  have hA : At s s.size [] := ⟨Nat.le_refl _, List.drop_of_length_le (by rw [bl_len]; exact Nat.le_refl _)⟩
  exact hA.skipE
set_option maxRecDepth 100000 in
set_option maxHeartbeats 4000000 in
theorem rskip_any (s : ByteArray) (p : Nat) (w : World) (hp : p ≤ s.size) (hs : s.size ≤ 140737488355328) : Calls Tryd.prog 36 #[.string s, .int .i64 p] w (Is0 (.int .i64 (skipN s p : Nat)) w) := by
  go_enter Tryd.func36, Tryd.ntmps36
  go_wp2_with fail
  go_loop [1] (fun i => ∃ n : Nat, p ≤ n ∧ n ≤ s.size ∧ i = .int .i64 n ∧ Hid (skipN s n = skipN s p)) (fun i => s.size - (intOf i).toNat)
  case atStart => exact ⟨p, Nat.le_refl _, hp, rfl, rfl⟩
  case round =>
    obtain ⟨n, hpn, hn, rfl, S⟩ := hrel
    have hn0 : (0 : Int) ≤ (n : Int) := by omega
    by_cases hlt : n < s.size
    · have hbn := byteN_get hlt
      have hn1 : (n : Int) < (s.size : Int) := by omega
      obtain ⟨c, hc⟩ : ∃ c, byteN s n = c := ⟨_, rfl⟩
      rw [hc] at hbn
      have HC := hid hc
      clear hc
      by_cases h32 : c = 32
      · have e32 : decide ((c : Int) = 32) = true := by first | exact decide_eq_true (by omega) | exact decide_eq_false (by omega)
        have b32 : ((c : Int) == 32) = true := by first | exact beq_iff_eq.2 (by omega) | exact beq_eq_false_iff_ne.2 (by omega)
        have HST := hid ((skip_step hlt (by rw [HC.out]; unfold blankN; simp [h32])).symm.trans S.out)
        clear h32
        go_wp2_with fail
        go_round
        case rel => exact ⟨n + 1, by omega, by omega, by go_num, HST⟩
        case measure => simp [intOf]; omega
      have e32 : decide ((c : Int) = 32) = false := by first | exact decide_eq_true (by omega) | exact decide_eq_false (by omega)
      have b32 : ((c : Int) == 32) = false := by first | exact beq_iff_eq.2 (by omega) | exact beq_eq_false_iff_ne.2 (by omega)
      by_cases h9 : c = 9
      · have e9 : decide ((c : Int) = 9) = true := by first | exact decide_eq_true (by omega) | exact decide_eq_false (by omega)
        have b9 : ((c : Int) == 9) = true := by first | exact beq_iff_eq.2 (by omega) | exact beq_eq_false_iff_ne.2 (by omega)
        have HST := hid ((skip_step hlt (by rw [HC.out]; unfold blankN; simp [h9])).symm.trans S.out)
        clear h9
        go_wp2_with fail
        go_round
        case rel => exact ⟨n + 1, by omega, by omega, by go_num, HST⟩
        case measure => simp [intOf]; omega
      have e9 : decide ((c : Int) = 9) = false := by first | exact decide_eq_true (by omega) | exact decide_eq_false (by omega)
      have b9 : ((c : Int) == 9) = false := by first | exact beq_iff_eq.2 (by omega) | exact beq_eq_false_iff_ne.2 (by omega)
      by_cases h10 : c = 10
      · have e10 : decide ((c : Int) = 10) = true := by first | exact decide_eq_true (by omega) | exact decide_eq_false (by omega)
        have b10 : ((c : Int) == 10) = true := by first | exact beq_iff_eq.2 (by omega) | exact beq_eq_false_iff_ne.2 (by omega)
        have HST := hid ((skip_step hlt (by rw [HC.out]; unfold blankN; simp [h10])).symm.trans S.out)
        clear h10
        go_wp2_with fail
        go_round
        case rel => exact ⟨n + 1, by omega, by omega, by go_num, HST⟩
        case measure => simp [intOf]; omega
      have e10 : decide ((c : Int) = 10) = false := by first | exact decide_eq_true (by omega) | exact decide_eq_false (by omega)
      have b10 : ((c : Int) == 10) = false := by first | exact beq_iff_eq.2 (by omega) | exact beq_eq_false_iff_ne.2 (by omega)
      by_cases h13 : c = 13
      · have e13 : decide ((c : Int) = 13) = true := by first | exact decide_eq_true (by omega) | exact decide_eq_false (by omega)
        have b13 : ((c : Int) == 13) = true := by first | exact beq_iff_eq.2 (by omega) | exact beq_eq_false_iff_ne.2 (by omega)
        have HST := hid ((skip_step hlt (by rw [HC.out]; unfold blankN; simp [h13])).symm.trans S.out)
        clear h13
        go_wp2_with fail
        go_round
        case rel => exact ⟨n + 1, by omega, by omega, by go_num, HST⟩
        case measure => simp [intOf]; omega
      have e13 : decide ((c : Int) = 13) = false := by first | exact decide_eq_true (by omega) | exact decide_eq_false (by omega)
      have b13 : ((c : Int) == 13) = false := by first | exact beq_iff_eq.2 (by omega) | exact beq_eq_false_iff_ne.2 (by omega)
      have HST := hid ((skip_stop hlt (by rw [HC.out]; unfold blankN; simp [h32, h9, h10, h13])).symm.trans S.out)
      clear h32 h9 h10 h13
      go_wp2_with fail
      go_ret
      exact ⟨by rw [← HST.out]; rfl, rfl⟩
    · have hns : n = s.size := by omega
      have HST := hid ((show s.size = skipN s n by rw [hns]; exact skip_end.symm).trans S.out)
      have HNS := hid hns
      clear hns
      go_wp2_with fail
      go_ret
      exact ⟨by rw [← HST.out, ← HNS.out]; rfl, rfl⟩

/-! letter, word -/
set_option maxRecDepth 100000 in
set_option maxHeartbeats 4000000 in
theorem rletter_any (n : Nat) (w : World) (hn : n < 256) : Calls Tryd.prog 79 #[.int .u8 n] w (Is (partN n) w) := by
  by_cases c95 : n = 95
  · have e1 : decide ((n : Int) = 95) = true := decide_eq_true (by omega)
    have e2 : ((n : Int) == 95) = true := beq_iff_eq.2 (by omega)
    have hp : partN n = true := by unfold partN letterN digitN; simp; omega
    have HP := hid hp
    clear hp
    go_enter Tryd.func79, Tryd.ntmps79
    go_wp2_with fail
    go_ret
    exact ⟨by rw [HP.out]; rfl, rfl⟩
  have e1 : decide ((n : Int) = 95) = false := decide_eq_false (by omega)
  have e2 : ((n : Int) == 95) = false := beq_eq_false_iff_ne.2 (by omega)
  by_cases h1 : 97 ≤ n
  · have f1 : decide ((n : Int) ≥ 97) = true := by first | exact decide_eq_true (by omega) | exact decide_eq_false (by omega)
    by_cases h2 : n ≤ 122
    · have f2 : decide ((n : Int) ≤ 122) = true := by first | exact decide_eq_true (by omega) | exact decide_eq_false (by omega)
      have hp : partN n = true := by unfold partN letterN digitN; simp; omega
      clear h1 h2 c95
      have HP := hid hp
      clear hp
      go_enter Tryd.func79, Tryd.ntmps79
      go_wp2_with fail
      go_ret
      exact ⟨by rw [HP.out]; rfl, rfl⟩
    · have f2 : decide ((n : Int) ≤ 122) = false := by first | exact decide_eq_true (by omega) | exact decide_eq_false (by omega)
      have f3 : decide ((n : Int) ≥ 65) = true := by first | exact decide_eq_true (by omega) | exact decide_eq_false (by omega)
      have f4 : decide ((n : Int) ≤ 90) = false := by first | exact decide_eq_true (by omega) | exact decide_eq_false (by omega)
      have f5 : decide ((n : Int) ≥ 48) = true := by first | exact decide_eq_true (by omega) | exact decide_eq_false (by omega)
      have f6 : decide ((n : Int) ≤ 57) = false := by first | exact decide_eq_true (by omega) | exact decide_eq_false (by omega)
      have hp : partN n = false := by unfold partN letterN digitN; simp; omega
      clear h1 h2 c95
      have HP := hid hp
      clear hp
      go_enter Tryd.func79, Tryd.ntmps79
      go_wp2_with fail
      go_ret
      exact ⟨by rw [HP.out]; rfl, rfl⟩
  have f1 : decide ((n : Int) ≥ 97) = false := by first | exact decide_eq_true (by omega) | exact decide_eq_false (by omega)
  by_cases h3 : 65 ≤ n
  · have f3 : decide ((n : Int) ≥ 65) = true := by first | exact decide_eq_true (by omega) | exact decide_eq_false (by omega)
    by_cases h4 : n ≤ 90
    · have f4 : decide ((n : Int) ≤ 90) = true := by first | exact decide_eq_true (by omega) | exact decide_eq_false (by omega)
      have hp : partN n = true := by unfold partN letterN digitN; simp; omega
      clear h1 h3 h4 c95
      have HP := hid hp
      clear hp
      go_enter Tryd.func79, Tryd.ntmps79
      go_wp2_with fail
      go_ret
      exact ⟨by rw [HP.out]; rfl, rfl⟩
    · have f4 : decide ((n : Int) ≤ 90) = false := by first | exact decide_eq_true (by omega) | exact decide_eq_false (by omega)
      have f5 : decide ((n : Int) ≥ 48) = true := by first | exact decide_eq_true (by omega) | exact decide_eq_false (by omega)
      have f6 : decide ((n : Int) ≤ 57) = false := by first | exact decide_eq_true (by omega) | exact decide_eq_false (by omega)
      have hp : partN n = false := by unfold partN letterN digitN; simp; omega
      clear h1 h3 h4 c95
      have HP := hid hp
      clear hp
      go_enter Tryd.func79, Tryd.ntmps79
      go_wp2_with fail
      go_ret
      exact ⟨by rw [HP.out]; rfl, rfl⟩
  have f3 : decide ((n : Int) ≥ 65) = false := by first | exact decide_eq_true (by omega) | exact decide_eq_false (by omega)
  by_cases h5 : 48 ≤ n
  · have f5 : decide ((n : Int) ≥ 48) = true := by first | exact decide_eq_true (by omega) | exact decide_eq_false (by omega)
    by_cases h6 : n ≤ 57
    · have f6 : decide ((n : Int) ≤ 57) = true := by first | exact decide_eq_true (by omega) | exact decide_eq_false (by omega)
      have hp : partN n = true := by unfold partN letterN digitN; simp; omega
      clear h1 h3 h5 h6 c95
      have HP := hid hp
      clear hp
      go_enter Tryd.func79, Tryd.ntmps79
      go_wp2_with fail
      go_ret
      exact ⟨by rw [HP.out]; rfl, rfl⟩
    · have f6 : decide ((n : Int) ≤ 57) = false := by first | exact decide_eq_true (by omega) | exact decide_eq_false (by omega)
      have hp : partN n = false := by unfold partN letterN digitN; simp; omega
      clear h1 h3 h5 h6 c95
      have HP := hid hp
      clear hp
      go_enter Tryd.func79, Tryd.ntmps79
      go_wp2_with fail
      go_ret
      exact ⟨by rw [HP.out]; rfl, rfl⟩
  have f5 : decide ((n : Int) ≥ 48) = false := by first | exact decide_eq_true (by omega) | exact decide_eq_false (by omega)
  have hp : partN n = false := by unfold partN letterN digitN; simp; omega
  clear h1 h3 h5 c95
  have HP := hid hp
  clear hp
  go_enter Tryd.func79, Tryd.ntmps79
  go_wp2_with fail
  go_ret
  exact ⟨by rw [HP.out]; rfl, rfl⟩
set_option maxRecDepth 100000 in
set_option maxHeartbeats 4000000 in
theorem rword2_any (s : ByteArray) (p : Nat) (w : World) (hp : p ≤ s.size) (hs : s.size ≤ 140737488355328) : Calls Tryd.prog 58 #[.string s, .int .i64 p] w (Is0 (.string (s.extract p (wordE s p))) w) := by
  have hp0 : (0 : Int) ≤ (p : Int) := by omega
  go_enter Tryd.func58, Tryd.ntmps58
  go_wp2_with fail
  go_loop [5] (fun i => ∃ n : Nat, p ≤ n ∧ n ≤ s.size ∧ i = .int .i64 n ∧ Hid (∀ j, p ≤ j → j < n → partN (byteN s j) = true)) (fun i => s.size - (intOf i).toNat)
  case atStart => exact ⟨p, Nat.le_refl _, hp, rfl, hid fun j h1 h2 => by omega⟩
  case round =>
    obtain ⟨n, hpn, hn, rfl, A⟩ := hrel
    have hn0 : (0 : Int) ≤ (n : Int) := by omega
    have hpn2 : (p : Int) ≤ (n : Int) := by omega
    have hn2 : (n : Int) ≤ (s.size : Int) := by omega
    by_cases hlt : n < s.size
    · have hbn := byteN_get hlt
      have HP := hid (rletter_any (byteN s n) w (byteN_lt s n))
      have hn1 : (n : Int) < (s.size : Int) := by omega
      cases hb : partN (byteN s n) with
      | true =>
        rw [hb] at HP
        have HB := hid hb
        clear hb
        go_wp2_with fail
        refine HP.out.mono ?_; rintro e w2 ⟨rfl, rfl⟩
        go_wp2_with fail
        go_round
        case rel =>
          refine ⟨n + 1, by omega, by omega, by go_num, hid fun j h1 h2 => ?_⟩
          by_cases e : j = n
          · subst e; exact HB.out
          · exact A.out j h1 (by omega)
        case measure => simp [intOf]; omega
      | false =>
        rw [hb] at HP
        have HW := hid (wordE_eq hpn hn A.out (.inr hb))
        clear hb
        go_wp2_with fail
        refine HP.out.mono ?_; rintro e w2 ⟨rfl, rfl⟩
        go_wp2_with fail
        go_ret
        exact ⟨by rw [HW.out]; rfl, rfl⟩
    · have hns : n = s.size := by omega
      have HW := hid (wordE_eq hpn hn A.out (.inl hns))
      clear hns
      go_wp2_with fail
      go_ret
      exact ⟨by rw [HW.out]; rfl, rfl⟩

/-! sign, kind, has -/
def SgPost (r : Except (Int × Nat) Nat) (w : World) (e : Ending) (w' : World) : Prop :=
  Below w.heap.size w w' ∧ ((∃ j : Nat, r = .ok j ∧ e = .returned (.tuple #[.int .i64 j, dg 0 0])) ∨ (∃ (k : Int) (a : Nat), r = .error (k, a) ∧ e = .returned (.tuple #[.int .i64 0, dg k a])))
set_option maxRecDepth 100000 in
set_option maxHeartbeats 4000000 in
theorem rsign_any (s : ByteArray) (p c : Nat) (w : World) (hp : p ≤ s.size) (hs : s.size ≤ 140737488355328) : Calls Tryd.prog 60 #[.string s, .int .i64 p, .int .u8 c] w (SgPost (signP s p c) w) := by
  generalize hA : w.alloc (.cells #[.int .i64 0, .int .i64 0, .string ⟨#[]⟩] 33) = wa
  have hzo : wa.heap[w.heap.size]? = some (.cells #[.int .i64 0, .int .i64 0, .string ⟨#[]⟩] 33) := by rw [← hA]; exact heap_alloc_at w _
  have hab : Below w.heap.size w wa := by rw [← hA]; exact (Below.refl _ _).alloc (Nat.le_refl _) _
  have HA := hid hA
  have HZ := hid hzo
  have HB := hid hab
  have HSK := hid (rskip_any s p wa hp hs)
  have hge := skipN_ge hp
  have HSG := hid (show signP s p c = if sgnB s p c = true then .ok (skipN s p + 1) else .error (sgnE s p, skipN s p) from rfl)
  have HSB := hid (show sgnB s p c = (decide (skipN s p < s.size) && decide (byteN s (skipN s p) = c)) from rfl)
  have HSE := hid (show sgnE s p = if skipN s p < s.size then 2 else 40 from rfl)
  obtain ⟨j, hj⟩ : ∃ j, skipN s p = j := ⟨_, rfl⟩
  rw [hj] at HSK hge HSG HSB HSE
  have hj0 : (0 : Int) ≤ (j : Int) := by omega
  clear hA hzo hab hj
  by_cases hlt : j < s.size
  · have hbn := byteN_get hlt
    have hj1 : (j : Int) < (s.size : Int) := by omega
    have f0 := (cells_in HZ.out 0).trans rfl
    have f1 := (cells_in HZ.out 1).trans rfl
    have f2 := (cells_in HZ.out 2).trans rfl
    have fz := frozen_in HZ.out
    by_cases hc : byteN s j = c
    · have d1 : ((byteN s j : Int) != (c : Int)) = false := by rw [hc]; simp
      have HR := hid (show signP s p c = .ok (j + 1) by rw [HSG.out, HSB.out, decide_eq_true hlt, decide_eq_true hc]; rfl)
      clear hc HSG HSB HSE
      go_enter Tryd.func60, Tryd.ntmps60
      go_wp2_with fail
      rw [HA.out]
      refine HSK.out.mono ?_; rintro e w2 ⟨rfl, rfl⟩
      go_wp2_with fail
      try simp only [Exit.inBlock, Exit.then]
      refine bodyPost_ret (v := .tuple #[.int .i64 ((j : Int) + 1), dg 0 0]) (by simp [results, Tryd.results60, go_sem, f0, f1, f2, dg]) rfl ?_
      exact ⟨store3_below HB.out (Nat.le_refl _) (Nat.le_refl _) _ _ _, .inl ⟨j + 1, HR.out, by go_num⟩⟩
    · have d1 : ((byteN s j : Int) != (c : Int)) = true := by rw [bne, beq_eq_false_iff_ne.2 (by omega)]; rfl
      have HR := hid (show signP s p c = .error (2, j) by rw [HSG.out, HSB.out, HSE.out, decide_eq_true hlt, decide_eq_false hc, if_pos hlt]; rfl)
      clear hc HSG HSB HSE f0 f1 f2 fz
      go_enter Tryd.func60, Tryd.ntmps60
      go_wp2_with fail
      rw [HA.out]
      refine HSK.out.mono ?_; rintro e w2 ⟨rfl, rfl⟩
      go_wp2_with fail
      refine (bad_any 2 j _).mono ?_; rintro e w2 ⟨rfl, hb⟩
      have hz2 := keep_o HZ.out hb
      replace HB := hid (HB.out.trans (hb.mono HB.out.size))
      have f0 := (cells_in hz2 0).trans rfl
      have f1 := (cells_in hz2 1).trans rfl
      have f2 := (cells_in hz2 2).trans rfl
      have fz := frozen_in hz2
      clear hb hz2
      go_wp2_with fail
      try simp only [Exit.inBlock, Exit.then]
      refine bodyPost_ret (v := .tuple #[.int .i64 0, dg 2 j]) (by simp [results, Tryd.results60, go_sem, f0, f1, f2, dg]) rfl ?_
      exact ⟨store3_below HB.out (Nat.le_refl _) (Nat.le_refl _) _ _ _, .inr ⟨2, j, HR.out, rfl⟩⟩
  · have HR := hid (show signP s p c = .error (40, j) by rw [HSG.out, HSB.out, HSE.out, decide_eq_false hlt, if_neg hlt]; rfl)
    have hjs : j = s.size := by omega
    have HJS := hid hjs
    clear HSG HSB HSE hjs
    go_enter Tryd.func60, Tryd.ntmps60
    go_wp2_with fail
    rw [HA.out]
    refine HSK.out.mono ?_; rintro e w2 ⟨rfl, rfl⟩
    go_wp2_with fail
    refine (bad_any 40 s.size _).mono ?_; rintro e w2 ⟨rfl, hb⟩
    have hz2 := keep_o HZ.out hb
    replace HB := hid (HB.out.trans (hb.mono HB.out.size))
    have f0 := (cells_in hz2 0).trans rfl
    have f1 := (cells_in hz2 1).trans rfl
    have f2 := (cells_in hz2 2).trans rfl
    have fz := frozen_in hz2
    clear hb hz2
    go_wp2_with fail
    try simp only [Exit.inBlock, Exit.then]
    refine bodyPost_ret (v := .tuple #[.int .i64 0, dg 40 s.size]) (by simp [results, Tryd.results60, go_sem, f0, f1, f2, dg]) rfl ?_
    exact ⟨store3_below HB.out (Nat.le_refl _) (Nat.le_refl _) _ _ _, .inr ⟨40, j, HR.out, by rw [HJS.out]⟩⟩
def kindI (x : ByteArray) : Int := match kindO x with
  | some k => k
  | none => -1
set_option maxRecDepth 100000 in
set_option maxHeartbeats 4000000 in
theorem rkind_any (x : ByteArray) (w : World) : Calls Tryd.prog 59 #[.string x] w (Ret (.int .i64 (kindI x)) w) := by
  go_enter Tryd.func59, Tryd.ntmps59
  go_wp2_with fail
  refine (words_any w w.heap.size rfl).mono ?_
  rintro e w2 ⟨rfl, hb, hwc⟩
  have HB := hid hb
  have HWC := hid hwc
  clear hb hwc
  go_wp2_with fail
  go_loop [4] (fun i => ∃ n : Nat, n ≤ 7 ∧ i = .int .i64 n ∧ Hid (∀ j : Nat, j < n → wordS j ≠ x)) (fun i => 7 - (intOf i).toNat)
  case atStart => exact ⟨0, by omega, rfl, hid fun j hj => by omega⟩
  case round =>
    obtain ⟨n, hn, rfl, A⟩ := hrel
    have hn0 : (0 : Int) ≤ (n : Int) := by omega
    by_cases hlt : n < 7
    · have hn1 : (n : Int) < 7 := by omega
      have wc := HWC.out n (by omega)
      by_cases he : wordS n = x
      · have hk := kindO_hit hlt A.out he
        have HK := hid (show kindI x = n by unfold kindI; rw [hk])
        have h1 : decide ((wordS n).toList = x.toList) = true := decide_eq_true (by rw [he])
        have h2 : ((wordS n).toList == x.toList) = true := beq_iff_eq.2 (by rw [he])
        clear he hk
        generalize wordS n = y at *
        go_wp2_with fail
        go_ret
        exact ⟨by rw [HK.out]; rfl, HB.out⟩
      · have h1 : decide ((wordS n).toList = x.toList) = false := decide_eq_false fun e => he (toList_inj e)
        have h2 : ((wordS n).toList == x.toList) = false := beq_eq_false_iff_ne.2 fun e => he (toList_inj e)
        have HE := hid he
        clear he
        generalize hy : wordS n = y at *
        have HY := hid hy
        clear hy
        go_wp2_with fail
        go_round
        case rel =>
          refine ⟨n + 1, by omega, by go_num, hid fun j hj => ?_⟩
          by_cases e : j = n
          · subst e; rw [HY.out]; exact HE.out
          · exact A.out j (by omega)
        case measure => simp [intOf]; omega
    · have d1 : ¬ (n : Int) < 7 := by omega
      have hk := kindO_miss fun j hj => A.out j (by omega)
      have HK := hid (show kindI x = -1 by unfold kindI; rw [hk])
      clear hk
      go_wp2_with fail
      go_ret
      exact ⟨by rw [HK.out]; rfl, HB.out⟩
set_option maxRecDepth 100000 in
set_option maxHeartbeats 4000000 in
theorem rhas_any (P : Nat → Prop) (w : World) (u : Value) (l : List ByteArray) (x : ByteArray) (hu : SV P w u l) : Calls Tryd.prog 80 #[u, .string x] w (Is0 (.bool (Lib.containsS l x)) w) := by
  obtain ⟨oa, ca, rfl⟩ := hu.len
  have hla := hu.le
  have HU := hid hu
  clear hu
  go_enter Tryd.func80, Tryd.ntmps80
  go_wp2_with fail
  go_loop [5] (fun i => ∃ k : Nat, k ≤ l.length ∧ i = .int .i64 k ∧ Hid (∀ j (hj : j < l.length), j < k → l[j] ≠ x)) (fun i => l.length - (intOf i).toNat)
  case atStart => exact ⟨0, Nat.zero_le _, rfl, hid fun j _ hj => absurd hj (Nat.not_lt_zero _)⟩
  case round =>
    obtain ⟨k, hk, rfl, A⟩ := hrel
    by_cases hlt : k < l.length
    · obtain ⟨g1, o1, c1, e1, a1⟩ := HU.out.at hlt
      cases e1
      have hk0 : (0 : Int) ≤ (k : Int) := by omega
      have hk1 : (k : Int) < (l.length : Int) := by omega
      by_cases he : l[k] = x
      · have HK := hid (show Lib.containsS l x = true from (Lib.containsS_iff l x).2 (he ▸ List.getElem_mem hlt))
        have h1 : decide ((l[k]).toList = x.toList) = true := decide_eq_true (by rw [he])
        have h2 : ((l[k]).toList == x.toList) = true := beq_iff_eq.2 (by rw [he])
        clear he A
        generalize l[k] = y at *
        go_wp2_with fail
        go_ret
        exact ⟨by rw [HK.out]; rfl, rfl⟩
      · have h1 : decide ((l[k]).toList = x.toList) = false := decide_eq_false fun e => he (toList_inj e)
        have h2 : ((l[k]).toList == x.toList) = false := beq_eq_false_iff_ne.2 fun e => he (toList_inj e)
        have HS : Hid (∀ j (hj : j < l.length), j < k + 1 → l[j] ≠ x) := hid fun j hj h => by
          by_cases e : j = k
          · subst e; exact he
          · exact A.out j hj (by omega)
        clear he A
        generalize l[k] = y at *
        go_wp2_with fail
        go_round
        case rel => exact ⟨k + 1, by omega, by go_num, HS⟩
        case measure => simp [intOf]; omega
    · have HK := hid (containsS_not (l := l) (x := x) fun y hy e => by
        obtain ⟨j, hj, rfl⟩ := List.getElem_of_mem hy
        exact A.out j hj (by omega) e)
      go_wp2_with fail
      go_ret
      exact ⟨by rw [HK.out]; rfl, rfl⟩
end Go.Proofs.YtfljnigbfacmjaaDoor
