/- Decode, Valid, text of the references: that they end, and what an answer needs. -/
import Derived.Test.YtibiiafcnaijeaaEqV
namespace Go.Proofs.Ytibiiafcnaijeaa
open Go Go.RowKit Go.Proofs.Ytibiiafcnaijeaa.Steady
set_option linter.unusedVariables false
set_option linter.unusedSimpArgs false

/-- A truth value; true only if p. -/
def IsB (p : Prop) (w : World) (e : Ending) (w' : World) : Prop := ∃ b, e = .returned (.bool b) ∧ (b = true → p) ∧ w = w'
set_option maxRecDepth 100000 in
set_option maxHeartbeats 4000000 in
theorem cont_any (s : ByteArray) (z : Int) (i : Nat) (hz : z = (i : Int)) (lo hi : Int) (w : World) (hs : s.size ≤ 140737488355328) : Calls Try.prog 78 #[.string s, .int .i64 z, .int .u8 lo, .int .u8 hi] w (IsB (i < s.size) w) := by
  subst hz
  by_cases hlt : i < s.size
  · have hbn := byteN_get hlt
    have h0 : (0 : Int) ≤ (i : Int) := by omega
    have h1 : (i : Int) < (s.size : Int) := by omega
    have HL := hid hlt
    generalize byteN s i = n at *
    cases g1 : decide ((n : Int) ≥ lo) with
    | false =>
      go_enter Try.func78, Try.ntmps78
      go_wp2_with fail
      go_ret
      exact ⟨_, rfl, fun _ => HL.out, rfl⟩
    | true =>
      cases g2 : decide ((n : Int) ≤ hi) with
      | false =>
        go_enter Try.func78, Try.ntmps78
        go_wp2_with fail
        go_ret
        exact ⟨_, rfl, fun _ => HL.out, rfl⟩
      | true =>
        go_enter Try.func78, Try.ntmps78
        go_wp2_with fail
        go_ret
        exact ⟨_, rfl, fun _ => HL.out, rfl⟩
  · have g1 : decide ((i : Int) < (s.size : Int)) = false := decide_eq_false (by omega)
    go_enter Try.func78, Try.ntmps78
    go_wp2_with fail
    go_ret
    exact ⟨false, rfl, nF, rfl⟩

def DecPost (w : World) (e : Ending) (w' : World) : Prop := ∃ c n : Int, e = .returned (.tuple #[.int .i64 c, .int .i64 n]) ∧ 0 ≤ n ∧ n ≤ 4 ∧ Below w.heap.size w w'
set_option maxRecDepth 100000 in
set_option maxHeartbeats 4000000 in
theorem decode_any (s : ByteArray) (i : Nat) (w : World) (hs : s.size ≤ 4096) (hi : i < s.size) : Calls Try.prog 68 #[.string s, .int .i64 i] w (DecPost w) := by
  have hbn := byteN_get hi
  have hlt := byteN_lt s i
  have h0 : (0 : Int) ≤ (i : Int) := by omega
  have h1 : (i : Int) < (s.size : Int) := by omega
  have H1 := hid (fun lo h => cont_any s ((i : Int) + 1) (i + 1) (by omega) lo h w (by omega))
  have H2 := hid (fun lo h => cont_any s ((i : Int) + 2) (i + 2) (by omega) lo h w (by omega))
  have H3 := hid (fun lo h => cont_any s ((i : Int) + 3) (i + 3) (by omega) lo h w (by omega))
  obtain ⟨b, hb0⟩ : ∃ b, byteN s i = b := ⟨_, rfl⟩
  rw [hb0] at hbn hlt
  clear hb0
  by_cases a1 : b < 128
  · have c1 : decide ((b : Int) < 128) = true := by first | exact decide_eq_true (by omega) | exact decide_eq_false (by omega)
    clear a1
    go_enter Try.func68, Try.ntmps68
    go_wp2_with fail
    try simp only [Exit.inBlock, Exit.then]
    refine bodyPost_ret (results_tmp2 rfl _ _ _) rfl ?_
    exact ⟨_, _, rfl, by decide, by decide, Below.refl _ _⟩
  have c1 : decide ((b : Int) < 128) = false := by first | exact decide_eq_true (by omega) | exact decide_eq_false (by omega)
  by_cases a2 : b < 194
  · have c2 : decide ((b : Int) ≥ 194) = false := by first | exact decide_eq_true (by omega) | exact decide_eq_false (by omega)
    have c4 : decide ((b : Int) = 224) = false := by first | exact decide_eq_true (by omega) | exact decide_eq_false (by omega)
    have c4b : ((b : Int) == 224) = false := by first | exact beq_iff_eq.2 (by omega) | exact beq_eq_false_iff_ne.2 (by omega)
    have c5 : decide ((b : Int) = 237) = false := by first | exact decide_eq_true (by omega) | exact decide_eq_false (by omega)
    have c5b : ((b : Int) == 237) = false := by first | exact beq_iff_eq.2 (by omega) | exact beq_eq_false_iff_ne.2 (by omega)
    have c6 : decide ((b : Int) ≥ 224) = false := by first | exact decide_eq_true (by omega) | exact decide_eq_false (by omega)
    have c8 : decide ((b : Int) = 240) = false := by first | exact decide_eq_true (by omega) | exact decide_eq_false (by omega)
    have c8b : ((b : Int) == 240) = false := by first | exact beq_iff_eq.2 (by omega) | exact beq_eq_false_iff_ne.2 (by omega)
    have c9 : decide ((b : Int) = 244) = false := by first | exact decide_eq_true (by omega) | exact decide_eq_false (by omega)
    have c9b : ((b : Int) == 244) = false := by first | exact beq_iff_eq.2 (by omega) | exact beq_eq_false_iff_ne.2 (by omega)
    have c10 : decide ((b : Int) ≥ 240) = false := by first | exact decide_eq_true (by omega) | exact decide_eq_false (by omega)
    clear a1 a2
    go_enter Try.func68, Try.ntmps68
    go_wp2_with fail
    try simp only [Exit.inBlock, Exit.then]
    refine bodyPost_ret (results_tmp2 rfl _ _ _) rfl ?_
    exact ⟨_, _, rfl, by decide, by decide, Below.refl _ _⟩
  have c2 : decide ((b : Int) ≥ 194) = true := by first | exact decide_eq_true (by omega) | exact decide_eq_false (by omega)
  by_cases a3 : b ≤ 223
  · have c3 : decide ((b : Int) ≤ 223) = true := by first | exact decide_eq_true (by omega) | exact decide_eq_false (by omega)
    have c4 : decide ((b : Int) = 224) = false := by first | exact decide_eq_true (by omega) | exact decide_eq_false (by omega)
    have c4b : ((b : Int) == 224) = false := by first | exact beq_iff_eq.2 (by omega) | exact beq_eq_false_iff_ne.2 (by omega)
    have c5 : decide ((b : Int) = 237) = false := by first | exact decide_eq_true (by omega) | exact decide_eq_false (by omega)
    have c5b : ((b : Int) == 237) = false := by first | exact beq_iff_eq.2 (by omega) | exact beq_eq_false_iff_ne.2 (by omega)
    have c6 : decide ((b : Int) ≥ 224) = false := by first | exact decide_eq_true (by omega) | exact decide_eq_false (by omega)
    have c8 : decide ((b : Int) = 240) = false := by first | exact decide_eq_true (by omega) | exact decide_eq_false (by omega)
    have c8b : ((b : Int) == 240) = false := by first | exact beq_iff_eq.2 (by omega) | exact beq_eq_false_iff_ne.2 (by omega)
    have c9 : decide ((b : Int) = 244) = false := by first | exact decide_eq_true (by omega) | exact decide_eq_false (by omega)
    have c9b : ((b : Int) == 244) = false := by first | exact beq_iff_eq.2 (by omega) | exact beq_eq_false_iff_ne.2 (by omega)
    have c10 : decide ((b : Int) ≥ 240) = false := by first | exact decide_eq_true (by omega) | exact decide_eq_false (by omega)
    clear a1 a2 a3
    go_enter Try.func68, Try.ntmps68
    go_wp2_with fail
    refine (H1.out _ _).mono ?_
    rintro e w' ⟨bb, rfl, hb, rfl⟩
    cases bb
    · go_wp2_with fail
      try simp only [Exit.inBlock, Exit.then]
      refine bodyPost_ret (results_tmp2 rfl _ _ _) rfl ?_
      exact ⟨_, _, rfl, by decide, by decide, Below.refl _ _⟩
    have k1 := hb rfl
    have m1 : (i : Int) + 1 < (s.size : Int) := by omega
    have n1 : (0 : Int) ≤ (i : Int) + 1 := by omega
    clear hb k1
    go_wp2_with fail
    try simp only [Exit.inBlock, Exit.then]
    refine bodyPost_ret (results_tmp2 rfl _ _ _) rfl ?_
    exact ⟨_, _, rfl, by decide, by decide, Below.refl _ _⟩
  have c3 : decide ((b : Int) ≤ 223) = false := by first | exact decide_eq_true (by omega) | exact decide_eq_false (by omega)
  by_cases a4 : b ≤ 239
  · have c6 : decide ((b : Int) ≥ 224) = true := by first | exact decide_eq_true (by omega) | exact decide_eq_false (by omega)
    have c7 : decide ((b : Int) ≤ 239) = true := by first | exact decide_eq_true (by omega) | exact decide_eq_false (by omega)
    have c8 : decide ((b : Int) = 240) = false := by first | exact decide_eq_true (by omega) | exact decide_eq_false (by omega)
    have c8b : ((b : Int) == 240) = false := by first | exact beq_iff_eq.2 (by omega) | exact beq_eq_false_iff_ne.2 (by omega)
    have c9 : decide ((b : Int) = 244) = false := by first | exact decide_eq_true (by omega) | exact decide_eq_false (by omega)
    have c9b : ((b : Int) == 244) = false := by first | exact beq_iff_eq.2 (by omega) | exact beq_eq_false_iff_ne.2 (by omega)
    have c10 : decide ((b : Int) ≥ 240) = false := by first | exact decide_eq_true (by omega) | exact decide_eq_false (by omega)
    by_cases a5 : b = 224
    · have c4 : decide ((b : Int) = 224) = true := by first | exact decide_eq_true (by omega) | exact decide_eq_false (by omega)
      have c4b : ((b : Int) == 224) = true := by first | exact beq_iff_eq.2 (by omega) | exact beq_eq_false_iff_ne.2 (by omega)
      have c5 : decide ((b : Int) = 237) = false := by first | exact decide_eq_true (by omega) | exact decide_eq_false (by omega)
      have c5b : ((b : Int) == 237) = false := by first | exact beq_iff_eq.2 (by omega) | exact beq_eq_false_iff_ne.2 (by omega)
      clear a1 a2 a3 a4 a5
      go_enter Try.func68, Try.ntmps68
      go_wp2_with fail
      refine (H1.out _ _).mono ?_
      rintro e w' ⟨bb, rfl, hb, rfl⟩
      cases bb
      · go_wp2_with fail
        try simp only [Exit.inBlock, Exit.then]
        refine bodyPost_ret (results_tmp2 rfl _ _ _) rfl ?_
        exact ⟨_, _, rfl, by decide, by decide, Below.refl _ _⟩
      have hb1 := hid (hb rfl)
      clear hb
      go_wp2_with fail
      refine (H2.out _ _).mono ?_
      rintro e w' ⟨bb, rfl, hb, rfl⟩
      cases bb
      · go_wp2_with fail
        try simp only [Exit.inBlock, Exit.then]
        refine bodyPost_ret (results_tmp2 rfl _ _ _) rfl ?_
        exact ⟨_, _, rfl, by decide, by decide, Below.refl _ _⟩
      have k1 := hb1.out
      have k2 := hb rfl
      have m0 : (0 : Int) ≤ (i : Int) := by omega
      have m1 : (i : Int) + 1 < (s.size : Int) := by omega
      have m2 : (i : Int) + 2 < (s.size : Int) := by omega
      have n1 : (0 : Int) ≤ (i : Int) + 1 := by omega
      have n2 : (0 : Int) ≤ (i : Int) + 2 := by omega
      have q1 : IntKind.i64.wrap ((i : Int) + 1) = (i : Int) + 1 := by rw [IntKind.wrap_i64]; omega
      have q2 : IntKind.i64.wrap ((i : Int) + 2) = (i : Int) + 2 := by rw [IntKind.wrap_i64]; omega
      clear hb1 hb k1 k2
      go_upto_region 14 with (fail)
      refine wp_region_steady (fun v => True) (by kernel_rfl) (by kernel_rfl) (trivial) ?_
      repeat (first
        | (refine wpSteady_skip (by rfl) ?_; try simp only [Act.put, List.setIfInBounds_toArray, List.set_cons_zero, List.set_cons_succ])
        | (refine wpSteady_calm (v := ?_) (by rfl) ?_ ?_; rotate_left; (focus (intro v hSv; (try dsimp only at hSv); go_simp; (try with_reducible rfl); done)); try simp only [Act.put, List.setIfInBounds_toArray, List.set_cons_zero, List.set_cons_succ]))
      refine wpSteady_nil ?_
      go_wp2_with fail
      try simp only [Exit.inBlock, Exit.then]
      refine bodyPost_ret (results_tmp2 rfl _ _ _) rfl ?_
      exact ⟨_, _, rfl, by decide, by decide, below_drew (Below.refl _ _)⟩
    have c4 : decide ((b : Int) = 224) = false := by first | exact decide_eq_true (by omega) | exact decide_eq_false (by omega)
    have c4b : ((b : Int) == 224) = false := by first | exact beq_iff_eq.2 (by omega) | exact beq_eq_false_iff_ne.2 (by omega)
    by_cases a6 : b = 237
    · have c5 : decide ((b : Int) = 237) = true := by first | exact decide_eq_true (by omega) | exact decide_eq_false (by omega)
      have c5b : ((b : Int) == 237) = true := by first | exact beq_iff_eq.2 (by omega) | exact beq_eq_false_iff_ne.2 (by omega)
      clear a1 a2 a3 a4 a5 a6
      go_enter Try.func68, Try.ntmps68
      go_wp2_with fail
      refine (H1.out _ _).mono ?_
      rintro e w' ⟨bb, rfl, hb, rfl⟩
      cases bb
      · go_wp2_with fail
        try simp only [Exit.inBlock, Exit.then]
        refine bodyPost_ret (results_tmp2 rfl _ _ _) rfl ?_
        exact ⟨_, _, rfl, by decide, by decide, Below.refl _ _⟩
      have hb1 := hid (hb rfl)
      clear hb
      go_wp2_with fail
      refine (H2.out _ _).mono ?_
      rintro e w' ⟨bb, rfl, hb, rfl⟩
      cases bb
      · go_wp2_with fail
        try simp only [Exit.inBlock, Exit.then]
        refine bodyPost_ret (results_tmp2 rfl _ _ _) rfl ?_
        exact ⟨_, _, rfl, by decide, by decide, Below.refl _ _⟩
      have k1 := hb1.out
      have k2 := hb rfl
      have m0 : (0 : Int) ≤ (i : Int) := by omega
      have m1 : (i : Int) + 1 < (s.size : Int) := by omega
      have m2 : (i : Int) + 2 < (s.size : Int) := by omega
      have n1 : (0 : Int) ≤ (i : Int) + 1 := by omega
      have n2 : (0 : Int) ≤ (i : Int) + 2 := by omega
      have q1 : IntKind.i64.wrap ((i : Int) + 1) = (i : Int) + 1 := by rw [IntKind.wrap_i64]; omega
      have q2 : IntKind.i64.wrap ((i : Int) + 2) = (i : Int) + 2 := by rw [IntKind.wrap_i64]; omega
      clear hb1 hb k1 k2
      go_upto_region 14 with (fail)
      refine wp_region_steady (fun v => True) (by kernel_rfl) (by kernel_rfl) (trivial) ?_
      repeat (first
        | (refine wpSteady_skip (by rfl) ?_; try simp only [Act.put, List.setIfInBounds_toArray, List.set_cons_zero, List.set_cons_succ])
        | (refine wpSteady_calm (v := ?_) (by rfl) ?_ ?_; rotate_left; (focus (intro v hSv; (try dsimp only at hSv); go_simp; (try with_reducible rfl); done)); try simp only [Act.put, List.setIfInBounds_toArray, List.set_cons_zero, List.set_cons_succ]))
      refine wpSteady_nil ?_
      go_wp2_with fail
      try simp only [Exit.inBlock, Exit.then]
      refine bodyPost_ret (results_tmp2 rfl _ _ _) rfl ?_
      exact ⟨_, _, rfl, by decide, by decide, below_drew (Below.refl _ _)⟩
    have c5 : decide ((b : Int) = 237) = false := by first | exact decide_eq_true (by omega) | exact decide_eq_false (by omega)
    have c5b : ((b : Int) == 237) = false := by first | exact beq_iff_eq.2 (by omega) | exact beq_eq_false_iff_ne.2 (by omega)
    clear a1 a2 a3 a4 a5 a6
    go_enter Try.func68, Try.ntmps68
    go_wp2_with fail
    refine (H1.out _ _).mono ?_
    rintro e w' ⟨bb, rfl, hb, rfl⟩
    cases bb
    · go_wp2_with fail
      try simp only [Exit.inBlock, Exit.then]
      refine bodyPost_ret (results_tmp2 rfl _ _ _) rfl ?_
      exact ⟨_, _, rfl, by decide, by decide, Below.refl _ _⟩
    have hb1 := hid (hb rfl)
    clear hb
    go_wp2_with fail
    refine (H2.out _ _).mono ?_
    rintro e w' ⟨bb, rfl, hb, rfl⟩
    cases bb
    · go_wp2_with fail
      try simp only [Exit.inBlock, Exit.then]
      refine bodyPost_ret (results_tmp2 rfl _ _ _) rfl ?_
      exact ⟨_, _, rfl, by decide, by decide, Below.refl _ _⟩
    have k1 := hb1.out
    have k2 := hb rfl
    have m0 : (0 : Int) ≤ (i : Int) := by omega
    have m1 : (i : Int) + 1 < (s.size : Int) := by omega
    have m2 : (i : Int) + 2 < (s.size : Int) := by omega
    have n1 : (0 : Int) ≤ (i : Int) + 1 := by omega
    have n2 : (0 : Int) ≤ (i : Int) + 2 := by omega
    have q1 : IntKind.i64.wrap ((i : Int) + 1) = (i : Int) + 1 := by rw [IntKind.wrap_i64]; omega
    have q2 : IntKind.i64.wrap ((i : Int) + 2) = (i : Int) + 2 := by rw [IntKind.wrap_i64]; omega
    clear hb1 hb k1 k2
    go_upto_region 14 with (fail)
    refine wp_region_steady (fun v => True) (by kernel_rfl) (by kernel_rfl) (trivial) ?_
    repeat (first
      | (refine wpSteady_skip (by rfl) ?_; try simp only [Act.put, List.setIfInBounds_toArray, List.set_cons_zero, List.set_cons_succ])
      | (refine wpSteady_calm (v := ?_) (by rfl) ?_ ?_; rotate_left; (focus (intro v hSv; (try dsimp only at hSv); go_simp; (try with_reducible rfl); done)); try simp only [Act.put, List.setIfInBounds_toArray, List.set_cons_zero, List.set_cons_succ]))
    refine wpSteady_nil ?_
    go_wp2_with fail
    try simp only [Exit.inBlock, Exit.then]
    refine bodyPost_ret (results_tmp2 rfl _ _ _) rfl ?_
    exact ⟨_, _, rfl, by decide, by decide, below_drew (Below.refl _ _)⟩
  have c4 : decide ((b : Int) = 224) = false := by first | exact decide_eq_true (by omega) | exact decide_eq_false (by omega)
  have c4b : ((b : Int) == 224) = false := by first | exact beq_iff_eq.2 (by omega) | exact beq_eq_false_iff_ne.2 (by omega)
  have c5 : decide ((b : Int) = 237) = false := by first | exact decide_eq_true (by omega) | exact decide_eq_false (by omega)
  have c5b : ((b : Int) == 237) = false := by first | exact beq_iff_eq.2 (by omega) | exact beq_eq_false_iff_ne.2 (by omega)
  have c6 : decide ((b : Int) ≥ 224) = true := by first | exact decide_eq_true (by omega) | exact decide_eq_false (by omega)
  have c7 : decide ((b : Int) ≤ 239) = false := by first | exact decide_eq_true (by omega) | exact decide_eq_false (by omega)
  have c10 : decide ((b : Int) ≥ 240) = true := by first | exact decide_eq_true (by omega) | exact decide_eq_false (by omega)
  by_cases a5 : b ≤ 244
  · have c11 : decide ((b : Int) ≤ 244) = true := by first | exact decide_eq_true (by omega) | exact decide_eq_false (by omega)
    by_cases a6 : b = 240
    · have c8 : decide ((b : Int) = 240) = true := by first | exact decide_eq_true (by omega) | exact decide_eq_false (by omega)
      have c8b : ((b : Int) == 240) = true := by first | exact beq_iff_eq.2 (by omega) | exact beq_eq_false_iff_ne.2 (by omega)
      have c9 : decide ((b : Int) = 244) = false := by first | exact decide_eq_true (by omega) | exact decide_eq_false (by omega)
      have c9b : ((b : Int) == 244) = false := by first | exact beq_iff_eq.2 (by omega) | exact beq_eq_false_iff_ne.2 (by omega)
      clear a1 a2 a3 a4 a5 a6
      go_enter Try.func68, Try.ntmps68
      go_wp2_with fail
      refine (H1.out _ _).mono ?_
      rintro e w' ⟨bb, rfl, hb, rfl⟩
      cases bb
      · go_wp2_with fail
        try simp only [Exit.inBlock, Exit.then]
        refine bodyPost_ret (results_tmp2 rfl _ _ _) rfl ?_
        exact ⟨_, _, rfl, by decide, by decide, Below.refl _ _⟩
      have hb1 := hid (hb rfl)
      clear hb
      go_wp2_with fail
      refine (H2.out _ _).mono ?_
      rintro e w' ⟨bb, rfl, hb, rfl⟩
      cases bb
      · go_wp2_with fail
        try simp only [Exit.inBlock, Exit.then]
        refine bodyPost_ret (results_tmp2 rfl _ _ _) rfl ?_
        exact ⟨_, _, rfl, by decide, by decide, Below.refl _ _⟩
      have hb2 := hid (hb rfl)
      clear hb
      go_wp2_with fail
      refine (H3.out _ _).mono ?_
      rintro e w' ⟨bb, rfl, hb, rfl⟩
      cases bb
      · go_wp2_with fail
        try simp only [Exit.inBlock, Exit.then]
        refine bodyPost_ret (results_tmp2 rfl _ _ _) rfl ?_
        exact ⟨_, _, rfl, by decide, by decide, Below.refl _ _⟩
      have k1 := hb1.out
      have k2 := hb2.out
      have k3 := hb rfl
      have m0 : (0 : Int) ≤ (i : Int) := by omega
      have m1 : (i : Int) + 1 < (s.size : Int) := by omega
      have m2 : (i : Int) + 2 < (s.size : Int) := by omega
      have m3 : (i : Int) + 3 < (s.size : Int) := by omega
      have n1 : (0 : Int) ≤ (i : Int) + 1 := by omega
      have n2 : (0 : Int) ≤ (i : Int) + 2 := by omega
      have n3 : (0 : Int) ≤ (i : Int) + 3 := by omega
      have q1 : IntKind.i64.wrap ((i : Int) + 1) = (i : Int) + 1 := by rw [IntKind.wrap_i64]; omega
      have q2 : IntKind.i64.wrap ((i : Int) + 2) = (i : Int) + 2 := by rw [IntKind.wrap_i64]; omega
      have q3 : IntKind.i64.wrap ((i : Int) + 3) = (i : Int) + 3 := by rw [IntKind.wrap_i64]; omega
      clear hb1 hb2 hb k1 k2 k3
      go_upto_region 21 with (fail)
      refine wp_region_steady (fun v => True) (by kernel_rfl) (by kernel_rfl) (trivial) ?_
      repeat (first
        | (refine wpSteady_skip (by rfl) ?_; try simp only [Act.put, List.setIfInBounds_toArray, List.set_cons_zero, List.set_cons_succ])
        | (refine wpSteady_calm (v := ?_) (by rfl) ?_ ?_; rotate_left; (focus (intro v hSv; (try dsimp only at hSv); go_simp; (try with_reducible rfl); done)); try simp only [Act.put, List.setIfInBounds_toArray, List.set_cons_zero, List.set_cons_succ]))
      refine wpSteady_nil ?_
      go_wp2_with fail
      try simp only [Exit.inBlock, Exit.then]
      refine bodyPost_ret (results_tmp2 rfl _ _ _) rfl ?_
      exact ⟨_, _, rfl, by decide, by decide, below_drew (Below.refl _ _)⟩
    have c8 : decide ((b : Int) = 240) = false := by first | exact decide_eq_true (by omega) | exact decide_eq_false (by omega)
    have c8b : ((b : Int) == 240) = false := by first | exact beq_iff_eq.2 (by omega) | exact beq_eq_false_iff_ne.2 (by omega)
    by_cases a7 : b = 244
    · have c9 : decide ((b : Int) = 244) = true := by first | exact decide_eq_true (by omega) | exact decide_eq_false (by omega)
      have c9b : ((b : Int) == 244) = true := by first | exact beq_iff_eq.2 (by omega) | exact beq_eq_false_iff_ne.2 (by omega)
      clear a1 a2 a3 a4 a5 a6 a7
      go_enter Try.func68, Try.ntmps68
      go_wp2_with fail
      refine (H1.out _ _).mono ?_
      rintro e w' ⟨bb, rfl, hb, rfl⟩
      cases bb
      · go_wp2_with fail
        try simp only [Exit.inBlock, Exit.then]
        refine bodyPost_ret (results_tmp2 rfl _ _ _) rfl ?_
        exact ⟨_, _, rfl, by decide, by decide, Below.refl _ _⟩
      have hb1 := hid (hb rfl)
      clear hb
      go_wp2_with fail
      refine (H2.out _ _).mono ?_
      rintro e w' ⟨bb, rfl, hb, rfl⟩
      cases bb
      · go_wp2_with fail
        try simp only [Exit.inBlock, Exit.then]
        refine bodyPost_ret (results_tmp2 rfl _ _ _) rfl ?_
        exact ⟨_, _, rfl, by decide, by decide, Below.refl _ _⟩
      have hb2 := hid (hb rfl)
      clear hb
      go_wp2_with fail
      refine (H3.out _ _).mono ?_
      rintro e w' ⟨bb, rfl, hb, rfl⟩
      cases bb
      · go_wp2_with fail
        try simp only [Exit.inBlock, Exit.then]
        refine bodyPost_ret (results_tmp2 rfl _ _ _) rfl ?_
        exact ⟨_, _, rfl, by decide, by decide, Below.refl _ _⟩
      have k1 := hb1.out
      have k2 := hb2.out
      have k3 := hb rfl
      have m0 : (0 : Int) ≤ (i : Int) := by omega
      have m1 : (i : Int) + 1 < (s.size : Int) := by omega
      have m2 : (i : Int) + 2 < (s.size : Int) := by omega
      have m3 : (i : Int) + 3 < (s.size : Int) := by omega
      have n1 : (0 : Int) ≤ (i : Int) + 1 := by omega
      have n2 : (0 : Int) ≤ (i : Int) + 2 := by omega
      have n3 : (0 : Int) ≤ (i : Int) + 3 := by omega
      have q1 : IntKind.i64.wrap ((i : Int) + 1) = (i : Int) + 1 := by rw [IntKind.wrap_i64]; omega
      have q2 : IntKind.i64.wrap ((i : Int) + 2) = (i : Int) + 2 := by rw [IntKind.wrap_i64]; omega
      have q3 : IntKind.i64.wrap ((i : Int) + 3) = (i : Int) + 3 := by rw [IntKind.wrap_i64]; omega
      clear hb1 hb2 hb k1 k2 k3
      go_upto_region 21 with (fail)
      refine wp_region_steady (fun v => True) (by kernel_rfl) (by kernel_rfl) (trivial) ?_
      repeat (first
        | (refine wpSteady_skip (by rfl) ?_; try simp only [Act.put, List.setIfInBounds_toArray, List.set_cons_zero, List.set_cons_succ])
        | (refine wpSteady_calm (v := ?_) (by rfl) ?_ ?_; rotate_left; (focus (intro v hSv; (try dsimp only at hSv); go_simp; (try with_reducible rfl); done)); try simp only [Act.put, List.setIfInBounds_toArray, List.set_cons_zero, List.set_cons_succ]))
      refine wpSteady_nil ?_
      go_wp2_with fail
      try simp only [Exit.inBlock, Exit.then]
      refine bodyPost_ret (results_tmp2 rfl _ _ _) rfl ?_
      exact ⟨_, _, rfl, by decide, by decide, below_drew (Below.refl _ _)⟩
    have c9 : decide ((b : Int) = 244) = false := by first | exact decide_eq_true (by omega) | exact decide_eq_false (by omega)
    have c9b : ((b : Int) == 244) = false := by first | exact beq_iff_eq.2 (by omega) | exact beq_eq_false_iff_ne.2 (by omega)
    clear a1 a2 a3 a4 a5 a6 a7
    go_enter Try.func68, Try.ntmps68
    go_wp2_with fail
    refine (H1.out _ _).mono ?_
    rintro e w' ⟨bb, rfl, hb, rfl⟩
    cases bb
    · go_wp2_with fail
      try simp only [Exit.inBlock, Exit.then]
      refine bodyPost_ret (results_tmp2 rfl _ _ _) rfl ?_
      exact ⟨_, _, rfl, by decide, by decide, Below.refl _ _⟩
    have hb1 := hid (hb rfl)
    clear hb
    go_wp2_with fail
    refine (H2.out _ _).mono ?_
    rintro e w' ⟨bb, rfl, hb, rfl⟩
    cases bb
    · go_wp2_with fail
      try simp only [Exit.inBlock, Exit.then]
      refine bodyPost_ret (results_tmp2 rfl _ _ _) rfl ?_
      exact ⟨_, _, rfl, by decide, by decide, Below.refl _ _⟩
    have hb2 := hid (hb rfl)
    clear hb
    go_wp2_with fail
    refine (H3.out _ _).mono ?_
    rintro e w' ⟨bb, rfl, hb, rfl⟩
    cases bb
    · go_wp2_with fail
      try simp only [Exit.inBlock, Exit.then]
      refine bodyPost_ret (results_tmp2 rfl _ _ _) rfl ?_
      exact ⟨_, _, rfl, by decide, by decide, Below.refl _ _⟩
    have k1 := hb1.out
    have k2 := hb2.out
    have k3 := hb rfl
    have m0 : (0 : Int) ≤ (i : Int) := by omega
    have m1 : (i : Int) + 1 < (s.size : Int) := by omega
    have m2 : (i : Int) + 2 < (s.size : Int) := by omega
    have m3 : (i : Int) + 3 < (s.size : Int) := by omega
    have n1 : (0 : Int) ≤ (i : Int) + 1 := by omega
    have n2 : (0 : Int) ≤ (i : Int) + 2 := by omega
    have n3 : (0 : Int) ≤ (i : Int) + 3 := by omega
    have q1 : IntKind.i64.wrap ((i : Int) + 1) = (i : Int) + 1 := by rw [IntKind.wrap_i64]; omega
    have q2 : IntKind.i64.wrap ((i : Int) + 2) = (i : Int) + 2 := by rw [IntKind.wrap_i64]; omega
    have q3 : IntKind.i64.wrap ((i : Int) + 3) = (i : Int) + 3 := by rw [IntKind.wrap_i64]; omega
    clear hb1 hb2 hb k1 k2 k3
    go_upto_region 21 with (fail)
    refine wp_region_steady (fun v => True) (by kernel_rfl) (by kernel_rfl) (trivial) ?_
    repeat (first
      | (refine wpSteady_skip (by rfl) ?_; try simp only [Act.put, List.setIfInBounds_toArray, List.set_cons_zero, List.set_cons_succ])
      | (refine wpSteady_calm (v := ?_) (by rfl) ?_ ?_; rotate_left; (focus (intro v hSv; (try dsimp only at hSv); go_simp; (try with_reducible rfl); done)); try simp only [Act.put, List.setIfInBounds_toArray, List.set_cons_zero, List.set_cons_succ]))
    refine wpSteady_nil ?_
    go_wp2_with fail
    try simp only [Exit.inBlock, Exit.then]
    refine bodyPost_ret (results_tmp2 rfl _ _ _) rfl ?_
    exact ⟨_, _, rfl, by decide, by decide, below_drew (Below.refl _ _)⟩
  · have c11 : decide ((b : Int) ≤ 244) = false := by first | exact decide_eq_true (by omega) | exact decide_eq_false (by omega)
    have c8 : decide ((b : Int) = 240) = false := by first | exact decide_eq_true (by omega) | exact decide_eq_false (by omega)
    have c8b : ((b : Int) == 240) = false := by first | exact beq_iff_eq.2 (by omega) | exact beq_eq_false_iff_ne.2 (by omega)
    have c9 : decide ((b : Int) = 244) = false := by first | exact decide_eq_true (by omega) | exact decide_eq_false (by omega)
    have c9b : ((b : Int) == 244) = false := by first | exact beq_iff_eq.2 (by omega) | exact beq_eq_false_iff_ne.2 (by omega)
    clear a1 a2 a3 a4 a5
    go_enter Try.func68, Try.ntmps68
    go_wp2_with fail
    try simp only [Exit.inBlock, Exit.then]
    refine bodyPost_ret (results_tmp2 rfl _ _ _) rfl ?_
    exact ⟨_, _, rfl, by decide, by decide, Below.refl _ _⟩
/-- Some truth value. -/
def SomeB (w : World) (e : Ending) (w' : World) : Prop := ∃ b, e = .returned (.bool b) ∧ Below w.heap.size w w'
set_option maxRecDepth 100000 in
set_option maxHeartbeats 4000000 in
theorem lvalid_any (s : ByteArray) (w : World) (hs : s.size ≤ 140737488355328) : Calls Try.prog 60 #[.string s] w (SomeB w) := by
  by_cases hbig : 4096 < s.size
  · have f1 : decide ((s.size : Int) > 4096) = true := decide_eq_true (by omega)
    go_enter Try.func60, Try.ntmps60
    go_wp2_with fail
    go_ret
    exact ⟨_, rfl, Below.refl _ _⟩
  have f1 : decide ((s.size : Int) > 4096) = false := decide_eq_false (by omega)
  go_enter Try.func60, Try.ntmps60
  go_wp2_with fail
  go_loopw [3] (fun i wr => ∃ j : Nat, j ≤ 5000 ∧ i = .int .i64 j ∧ Hid (Below w.heap.size w wr)) (fun i _ => s.size - (intOf i).toNat)
  case atStart => exact ⟨0, Nat.zero_le _, rfl, hid (Below.refl _ _)⟩
  case round =>
    obtain ⟨j, hj, rfl, B⟩ := hrel
    by_cases hlt : j < s.size
    · have HD := hid (decode_any s j wr (by omega) hlt)
      have hj1 : (j : Int) < (s.size : Int) := by omega
      go_wp2_with fail
      refine HD.out.mono ?_
      rintro e w2 ⟨c, n, rfl, hn0, hn4, hb2⟩
      have HB2 := hid (B.out.trans (hb2.mono B.out.size))
      clear hb2 HD
      by_cases hz : n = 0
      · have d1 : decide (n = 0) = true := decide_eq_true hz
        have d2 : (n == 0) = true := beq_iff_eq.2 hz
        clear hz
        go_wp2_with fail
        go_ret
        exact ⟨_, rfl, HB2.out⟩
      · have d1 : decide (n = 0) = false := decide_eq_false hz
        have d2 : (n == 0) = false := beq_eq_false_iff_ne.2 hz
        obtain ⟨m, rfl⟩ : ∃ m : Nat, n = (m : Int) := ⟨n.toNat, by omega⟩
        have hm1 : 1 ≤ m := by omega
        have hm4 : m ≤ 4 := by omega
        clear hz
        go_wp2_with fail
        go_roundw
        case rel => exact ⟨j + m, by omega, by go_num, HB2⟩
        case measure => simp [intOf]; omega
    · have hj1 : decide ((j : Int) < (s.size : Int)) = false := decide_eq_false (by omega)
      go_wp2_with fail
      go_ret
      exact ⟨_, rfl, B.out⟩
/-- Some number. -/
def SomeI (w : World) (e : Ending) (w' : World) : Prop := ∃ r : Int, e = .returned (.int .i64 r) ∧ Below w.heap.size w w'
set_option maxRecDepth 100000 in
set_option maxHeartbeats 4000000 in
theorem text_any (s : ByteArray) (w : World) (hs : s.size ≤ 140737488355328) : Calls Try.prog 46 #[.string s] w (SomeI w) := by
  by_cases hbig : 4096 < s.size
  · have f1 : decide ((s.size : Int) > 4096) = true := decide_eq_true (by omega)
    go_enter Try.func46, Try.ntmps46
    go_wp2_with fail
    go_ret
    exact ⟨_, rfl, Below.refl _ _⟩
  have f1 : decide ((s.size : Int) > 4096) = false := decide_eq_false (by omega)
  have HV := hid (lvalid_any s w hs)
  go_enter Try.func46, Try.ntmps46
  go_wp2_with fail
  refine HV.out.mono ?_
  rintro e w2 ⟨b, rfl, hb⟩
  have HB := hid hb
  clear hb
  cases b
  · go_wp2_with fail
    go_ret
    exact ⟨_, rfl, HB.out⟩
  · go_wp2_with fail
    go_ret
    exact ⟨_, rfl, HB.out⟩
/-- Valid of numbers. -/
theorem nvalid_any (n : Int) (w : World) : Calls Try.prog 45 #[.int .i64 n] w (SomeB w) := by
  by_cases h1 : n ≥ -9007199254740992
  · have f1 : decide (n ≥ -9007199254740992) = true := decide_eq_true h1
    cases f2 : decide (n ≤ 9007199254740992) with
    | true =>
      go_enter Try.func45, Try.ntmps45
      go_wp2_with fail
      go_ret
      exact ⟨_, rfl, Below.refl _ _⟩
    | false =>
      go_enter Try.func45, Try.ntmps45
      go_wp2_with fail
      go_ret
      exact ⟨_, rfl, Below.refl _ _⟩
  · have f1 : decide (n ≥ -9007199254740992) = false := decide_eq_false h1
    go_enter Try.func45, Try.ntmps45
    go_wp2_with fail
    go_ret
    exact ⟨_, rfl, Below.refl _ _⟩
end Go.Proofs.Ytibiiafcnaijeaa
