/- check, Check of the reference of values; value of the laws. -/
import Derived.Test.YtibiiafcnaijeaaVNode
import Derived.Test.YtibiiafcnaijeaaVSm
namespace Go.Proofs.Ytibiiafcnaijeaa
open Go Go.RowKit Go.Proofs.Ytibiiafcnaijeaa.Steady
set_option linter.unusedVariables false
set_option linter.unusedSimpArgs false

theorem szL_drop {l : List Vl} {j : Nat} (h : j < l.length) : szL (l.drop j) = szV l[j] + szL (l.drop (j + 1)) := by
  rw [List.drop_eq_getElem_cons h, szL]
def ChkPost (v : Vl) (b : Int) (w : World) (e : Ending) (w' : World) : Prop := ∃ r m : Int, e = .returned (.tuple #[.int .i64 r, .int .i64 m]) ∧ (r = 0 → VOk v) ∧ b ≤ m ∧ m ≤ b + szV v ∧ Below w.heap.size w w'
def ChkOk (v : Vl) : Prop := ∀ (P : Nat → Prop) (w : World) (x : Value) (lv b : Int), VV P w x v → szV v ≤ 1000000000000 → 0 ≤ lv → lv ≤ 33 → 0 ≤ b → b ≤ 4000000000000 → Calls Try.prog 17 #[x, .int .i64 lv, .int .i64 b] w (ChkPost v b w)
set_option maxRecDepth 100000 in
set_option maxHeartbeats 4000000 in
theorem vcheck_any (v : Vl) : ChkOk v := by
  induction v using Vl.ind with
  | h k n s is ks ih =>
    intro P w x lv b hx hsz hl0 hl1 hb0 hb1
    obtain ⟨vi, vk, rfl, hI, hK, hss⟩ := hx.out
    obtain ⟨oi, ci, rfl⟩ := hI.len
    obtain ⟨ok, ck, rfl⟩ := hK.len
    have hli := hI.le
    have hlk := hK.le
    have hsq : szV (.mk k n s is ks) = 1 + szL is := by rw [szV]
    rw [hsq] at hsz
    have HSQ := hid hsq
    obtain ⟨hB, c0, c1, c2, c3, c4⟩ := box5 w (.int .i64 k) (.int .i64 n) (.string s) (.slice oi is.length ci) (.slice ok ks.length ck) 26
    have HI := hid (hI.bel hB)
    have HB := hid hB
    have HND := hid (node_any P k n s oi ok is.length ci ck ks _ hli hss (hK.bel hB))
    have IH := hid ih
    generalize hW : w.alloc (.cells #[.int .i64 k, .int .i64 n, .string s, .slice oi is.length ci, .slice ok ks.length ck] 26) = W at *
    have HW := hid hW
    have C3 := hid c3
    clear hB hW hK hI hx ih hsq
    by_cases hdeep : 32 < lv
    · have f1 : decide (lv > 32) = true := decide_eq_true hdeep
      have HSQ2 := HSQ
      go_enter Try.func17, Try.ntmps17
      go_wp2_with fail
      rw [HW.out]
      try simp only [Exit.inBlock, Exit.then]
      refine bodyPost_ret (results_tmp2 rfl _ _ _) rfl ?_
      exact ⟨4, b, rfl, fun h => by omega, by omega, by rw [HSQ.out]; omega, HB.out⟩
    have f1 : decide (lv > 32) = false := decide_eq_false hdeep
    by_cases hbig : 4096 ≤ b
    · have f2 : decide (b ≥ 4096) = true := decide_eq_true hbig
      go_enter Try.func17, Try.ntmps17
      go_wp2_with fail
      rw [HW.out]
      try simp only [Exit.inBlock, Exit.then]
      refine bodyPost_ret (results_tmp2 rfl _ _ _) rfl ?_
      exact ⟨14, b, rfl, fun h => by omega, by omega, by rw [HSQ.out]; omega, HB.out⟩
    have f2 : decide (b ≥ 4096) = false := decide_eq_false hbig
    have hb4 : b ≤ 4095 := by omega
    clear hdeep hbig
    have hlv : lv ≤ 32 := by have := of_decide_eq_false f1; omega
    go_enter Try.func17, Try.ntmps17
    go_wp2_with fail
    rw [HW.out]
    refine HND.out.mono ?_
    rintro e w2 ⟨r, rfl, hok, hb2⟩
    have HB2 := hid (HB.out.trans (hb2.mono HB.out.size))
    have HI2 := hid (HI.out.bel hb2)
    have C3 := hid (bcell hb2 C3.out)
    have HOK := hid hok
    clear hb2 hok HND HB HI c0 c1 c2 c3 c4 HW
    by_cases hr : r = 0
    case neg =>
      have d1 : decide (r = 0) = false := decide_eq_false hr
      have d2 : (r == 0) = false := beq_eq_false_iff_ne.2 hr
      have d3 : (r != 0) = true := by rw [bne, d2]; rfl
      have HR := hid hr
      clear hr
      go_wp2_with fail
      try simp only [Exit.inBlock, Exit.then]
      refine bodyPost_ret (results_tmp2 rfl _ _ _) rfl ?_
      exact ⟨r, b, rfl, fun h => absurd h HR.out, by omega, by rw [HSQ.out]; omega, HB2.out⟩
    have HN := hid (HOK.out hr)
    have d1 : decide (r = 0) = true := decide_eq_true hr
    have d2 : (r == 0) = true := beq_iff_eq.2 hr
    have d3 : (r != 0) = false := by rw [bne, d2]; rfl
    clear hr HOK
    go_wp2_with fail
    clear d1 d2 d3
    go_loopw [9, 10] (fun m i wr => ∃ (j : Nat) (mm : Int), j ≤ is.length ∧ i = .int .i64 j ∧ m = .int .i64 mm ∧ b + 1 ≤ mm ∧ mm + szL (is.drop j) ≤ b + 1 + szL is ∧ Hid (Below w2.heap.size w2 wr) ∧ Hid (∀ i (h : i < is.length), i < j → VOk is[i])) (fun _ i _ => is.length - (intOf i).toNat)
    case atStart => exact ⟨0, b + 1, Nat.zero_le _, rfl, by go_num, by omega, by simp, hid (Below.refl _ _), hid fun i h hi => absurd hi (by omega)⟩
    case round =>
      obtain ⟨j, mm, hj, rfl, rfl, hm1, hm2, B, A⟩ := hrel
      have c3 := bcell B.out C3.out
      by_cases hlt : j < is.length
      · obtain ⟨g, o, c, k1, n1, s1, oi1, mi1, ci1, ok1, mk1, ck1, e1, a1, a2, a3, a4, a5, hT, -⟩ := (HI2.out.bel B.out).at hlt
        cases e1
        rw [szL_drop hlt] at hm2
        have HCALL := hid (IH.out is[j] (List.getElem_mem hlt) P wr _ (lv + 1) mm hT (by have := szV_mem (List.getElem_mem hlt); omega) (by omega) (by omega) (by omega) (by omega))
        have hj0 : (0 : Int) ≤ (j : Int) := by omega
        have hj1 : (j : Int) < (is.length : Int) := by omega
        generalize hz1 : szV is[j] = z1 at *
        generalize hz2 : szL (is.drop (j + 1)) = z2 at *
        have HZ2 := hid hz2
        have HZ1 := hid hz1
        clear hz1 hz2 hT
        go_wp2_with fail
        refine HCALL.out.mono ?_
        rintro e w4 ⟨r4, m4, rfl, hok4, hm3, hm4, hb4⟩
        rw [HZ1.out] at hm4
        have HB4 := hid (B.out.trans (hb4.mono B.out.size))
        have HOK4 := hid hok4
        clear hb4 hok4 HCALL B a1 a2 a3 a4 a5 c3
        by_cases hr : r4 = 0
        case neg =>
          have d1 : decide (r4 = 0) = false := decide_eq_false hr
          have d2 : (r4 == 0) = false := beq_eq_false_iff_ne.2 hr
          have d3 : (r4 != 0) = true := by rw [bne, d2]; rfl
          have HR := hid hr
          clear hr
          go_wp2_with fail
          try simp only [Exit.inBlock, Exit.then]
          refine bodyPost_ret (results_tmp2 rfl _ _ _) rfl ?_
          exact ⟨r4, m4, rfl, fun h => absurd h HR.out, by omega, by rw [HSQ.out]; omega, HB2.out.trans (HB4.out.mono HB2.out.size)⟩
        have HN4 := hid (HOK4.out hr)
        have d1 : decide (r4 = 0) = true := decide_eq_true hr
        have d2 : (r4 == 0) = true := beq_iff_eq.2 hr
        have d3 : (r4 != 0) = false := by rw [bne, d2]; rfl
        clear hr HOK4
        have A2 : Hid (∀ i (h : i < is.length), i < j + 1 → VOk is[i]) := hid fun i h hi => by
          by_cases e : i = j
          · subst e; exact HN4.out
          · exact A.out i h (by omega)
        clear A HN4
        go_wp2_with fail
        go_roundw
        case rel => exact ⟨j + 1, m4, by omega, by go_num, rfl, by omega, by rw [HZ2.out]; omega, HB4, A2⟩
        case measure => simp [intOf]; omega
      · have hok : VOk (.mk k n s is ks) := .mk k n s is ks HN.out.1.1 (fun h => HN.out.1.2.2.1 h) (fun h => List.length_eq_zero_iff.1 (HN.out.1.2.2.2.1 h)) (fun h4 h5 => List.length_eq_zero_iff.1 (HN.out.1.2.1 h4 h5)) (fun h => HN.out.1.2.2.2.2 h) HN.out.2 fun e he => by
          obtain ⟨i, hi, rfl⟩ := List.getElem_of_mem he
          exact A.out i hi (by omega)
        have HOK := hid hok
        clear hok A
        go_wp2_with fail
        try simp only [Exit.inBlock, Exit.then]
        refine bodyPost_ret (results_tmp2 rfl _ _ _) rfl ?_
        exact ⟨0, mm, rfl, fun _ => HOK.out, by omega, by rw [HSQ.out]; omega, HB2.out.trans (B.out.mono HB2.out.size)⟩
def VPost (v : Vl) (w : World) (e : Ending) (w' : World) : Prop := ∃ r : Int, e = .returned (.int .i64 r) ∧ (r = 0 → VOk v) ∧ Below w.heap.size w w'
set_option maxRecDepth 100000 in
set_option maxHeartbeats 4000000 in
theorem ovcheck_any (P : Nat → Prop) (w : World) (x : Value) (v : Vl) (hx : VV P w x v) (hsz : szV v ≤ 1000000000000) : Calls Try.prog 5 #[x] w (VPost v w) := by
  obtain ⟨k, n, s, is, ks⟩ := v
  obtain ⟨vi, vk, rfl, hI, hK, hss⟩ := hx.out
  obtain ⟨oi, ci, rfl⟩ := hI.len
  obtain ⟨ok, ck, rfl⟩ := hK.len
  obtain ⟨hB, c0, c1, c2, c3, c4⟩ := box5 w (.int .i64 k) (.int .i64 n) (.string s) (.slice oi is.length ci) (.slice ok ks.length ck) 26
  have HB := hid hB
  have HC := hid (vcheck_any _ P _ _ 1 0 (hx.bel hB) hsz (by decide) (by decide) (by decide) (by decide))
  generalize hW : w.alloc (.cells #[.int .i64 k, .int .i64 n, .string s, .slice oi is.length ci, .slice ok ks.length ck] 26) = W at *
  have HW := hid hW
  clear hB hW hK hI hx hss hsz
  go_enter Try.func5, Try.ntmps5
  go_wp2_with fail
  rw [HW.out]
  refine HC.out.mono ?_
  rintro e w2 ⟨r, m, rfl, hok, -, -, hb2⟩
  have HB2 := hid (HB.out.trans (hb2.mono HB.out.size))
  have HOK := hid hok
  clear hb2 hok
  go_wp2_with fail
  go_ret
  exact ⟨r, rfl, HOK.out, HB2.out⟩
end Go.Proofs.Ytibiiafcnaijeaa
