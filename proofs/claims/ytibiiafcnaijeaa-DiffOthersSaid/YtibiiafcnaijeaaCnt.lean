/- Counts of the program and of the reference. -/
import Derived.Test.YtibiiafcnaijeaaRec
import Derived.Test.YtibiiafcnaijeaaChgd
namespace Go.Proofs.Ytibiiafcnaijeaa
open Go Go.RowKit Go.Proofs.Ytibiiafcnaijeaa.Steady
set_option linter.unusedVariables false
set_option linter.unusedSimpArgs false

/-- v reads as changes with these actions. -/
def NV (P : Nat → Prop) (w : World) (v : Value) (acs : List Int) : Prop := acs.length ≤ 140737488355328 ∧ ((acs = [] ∧ ∃ oa c, v = .slice oa 0 c) ∨ ∃ g o c, P g ∧ v = .slice (some ⟨g, o, none⟩) acs.length c ∧
  ∀ (i : Nat) (a : Int), acs[i]? = some a → ∃ xs : List Value, xs.length = 22 ∧ xs.all (·.oneCell') = true ∧ xs[3]? = some (.int .i64 a) ∧ w.rangeAt g (o + i * 22) xs)
theorem NV.keep {P Q : Nat → Prop} {w w' : World} {v : Value} {acs : List Int} (h : NV P w v acs) (k : KeepsP P w w') (hq : ∀ g, P g → Q g) : NV Q w' v acs :=
  ⟨h.1, h.2.imp id fun ⟨g, o, c, hp, e, hc⟩ => ⟨g, o, c, hq g hp, e, fun i a ha => by
    obtain ⟨xs, h1, h2, h3, h4⟩ := hc i a ha
    exact ⟨xs, h1, h2, h3, fun j u hu => k _ _ _ hp (h4 j u hu)⟩⟩⟩
theorem NV.bel {P : Nat → Prop} {w w' : World} {v : Value} {acs : List Int} (h : NV P w v acs) (hb : Below w.heap.size w w') : NV P w' v acs := h.keep (KeepsP.below hb) fun _ h => h
theorem NV.len {P : Nat → Prop} {w : World} {v : Value} {acs : List Int} (h : NV P w v acs) : ∃ oa c, v = .slice oa acs.length c := by
  rcases h.2 with ⟨rfl, oa, c, rfl⟩ | ⟨g, o, c, _, rfl, _⟩
  · exact ⟨oa, c, rfl⟩
  · exact ⟨_, c, rfl⟩
theorem NV.at {P : Nat → Prop} {w : World} {v : Value} {acs : List Int} (h : NV P w v acs) {j : Nat} (hj : j < acs.length) : ∃ g o c xs, v = .slice (some ⟨g, o, none⟩) acs.length c ∧ xs.length = 22 ∧ xs.all (·.oneCell') = true ∧ xs[3]? = some (.int .i64 acs[j]) ∧ w.rangeAt g (o + j * 22) xs := by
  rcases h.2 with ⟨rfl, _⟩ | ⟨g, o, c, hp, rfl, hc⟩
  · cases hj
  · obtain ⟨xs, h⟩ := hc j _ (List.getElem?_eq_getElem hj)
    exact ⟨g, o, c, xs, rfl, h⟩
def cntA (acs : List Int) (a : Int) : Nat := (acs.filter fun b => decide (b = a)).length
theorem cntA_take (acs : List Int) (a : Int) {j : Nat} (h : j < acs.length) : cntA (acs.take (j + 1)) a = cntA (acs.take j) a + if acs[j] = a then 1 else 0 := by
  unfold cntA
  rw [filter_take (fun b => decide (b = a)) acs h]
  by_cases e : acs[j] = a
  · rw [if_pos (decide_eq_true e), if_pos e]; simp
  · rw [if_neg (by simp [e]), if_neg e]; simp
theorem cntA_le (acs : List Int) (a : Int) (j : Nat) : cntA (acs.take j) a ≤ j := Nat.le_trans (List.length_filter_le _ _) (List.length_take_le j acs)
def CntPost (acs : List Int) (w : World) (e : Ending) (w' : World) : Prop := e = .returned (.tuple #[.int .i64 (cntA acs 1 : Nat), .int .i64 (cntA acs 2 : Nat), .int .i64 (cntA acs 3 : Nat), .int .i64 (cntA acs 4 : Nat)]) ∧ Below w.heap.size w w'
set_option maxRecDepth 100000 in
set_option maxHeartbeats 4000000 in
theorem rcount_any (acs : List Int) (a : Int) (P : Nat → Prop) (w : World) (u : Value) (hu : NV P w u acs) : Calls Try.prog 30 #[u, .int .i64 a] w (Ret (.int .i64 (cntA acs a : Nat)) w) := by
  obtain ⟨oa, c, rfl⟩ := hu.len
  have hla := hu.1
  have HU := hid hu
  clear hu
  go_enter Try.func30, Try.ntmps30
  go_wp2_with fail
  go_loopw [5, 6] (fun nv iv wr => ∃ (j m : Nat), j ≤ acs.length ∧ m ≤ j ∧ iv = .int .i64 j ∧ nv = .int .i64 m ∧ w = wr ∧ Hid (m = cntA (acs.take j) a)) (fun _ iv _ => acs.length - (intOf iv).toNat)
  case atStart => exact ⟨0, 0, Nat.zero_le _, Nat.zero_le _, rfl, rfl, rfl, hid rfl⟩
  case round =>
    obtain ⟨j, m, hj, hm, rfl, rfl, rfl, HM⟩ := hrel
    by_cases hlt : j < acs.length
    · obtain ⟨g, o, c2, xs, e1, hl, h1, h3, hr⟩ := HU.out.at hlt
      cases e1
      have hj0 : (0 : Int) ≤ (j : Int) := by omega
      have hj1 : (j : Int) < (acs.length : Int) := by omega
      have b3 := hr 3 _ h3
      have HT := hid (cntA_take acs a hlt)
      obtain ⟨y, hy⟩ : ∃ y, acs[j] = y := ⟨_, rfl⟩
      rw [hy] at b3 HT
      clear hl h1 h3 hr hy
      by_cases ha : y = a
      · subst ha
        have HE := hid (show m + 1 = cntA (acs.take (j + 1)) y by rw [HT.out, if_pos rfl, ← HM.out])
        clear HT
        go_wp2_with fail
        go_roundw
        case rel => exact ⟨j + 1, m + 1, by omega, by omega, by go_num, by go_num, trivial, HE⟩
        case measure => simp [intOf]; omega
      · have f1 : decide (y = a) = false := decide_eq_false ha
        have f2 : (y == a) = false := beq_eq_false_iff_ne.2 ha
        have f3 : (y != a) = true := by rw [bne, f2]; rfl
        have HE := hid (show m = cntA (acs.take (j + 1)) a by rw [HT.out, if_neg ha, ← HM.out]; rfl)
        clear HT ha
        go_wp2_with fail
        go_roundw
        case rel => exact ⟨j + 1, m, by omega, by omega, by go_num, rfl, trivial, HE⟩
        case measure => simp [intOf]; omega
    · have HE := hid (show m = cntA acs a by rw [HM.out, List.take_of_length_le (by omega)])
      clear HM
      go_wp2_with fail
      go_ret
      exact ⟨by rw [← HE.out]; rfl, Below.refl _ _⟩
theorem results_tmp4 {fn : Func} {t u v x : Tmp} (h : fn.results = #[.tmp t, .tmp u, .tmp v, .tmp x]) (tmps : Array Value) (Pr : Program) (w : World) :
    (results fn tmps).run Pr w = .ok (.tuple #[tmps.getD t undef, tmps.getD u undef, tmps.getD v undef, tmps.getD x undef]) w := by
  simp [results, h]
set_option maxRecDepth 100000 in
set_option maxHeartbeats 4000000 in
theorem rcounts_any (acs : List Int) (P : Nat → Prop) (w : World) (u : Value) (hu : NV P w u acs) : Calls Try.prog 11 #[u] w (CntPost acs w) := by
  obtain ⟨oa, c, rfl⟩ := hu.len
  have HU := hid hu
  clear hu
  go_enter Try.func11, Try.ntmps11
  go_wp2_with fail
  refine (rcount_any acs 1 P w _ HU.out).mono ?_; rintro e w1 ⟨rfl, hb⟩
  have HB1 := hid hb
  clear hb
  go_wp2_with fail
  refine (rcount_any acs 2 P w1 _ (HU.out.bel HB1.out)).mono ?_; rintro e w2 ⟨rfl, hb⟩
  have HB2 := hid (HB1.out.trans (hb.mono HB1.out.size))
  clear hb
  go_wp2_with fail
  refine (rcount_any acs 3 P w2 _ (HU.out.bel HB2.out)).mono ?_; rintro e w3 ⟨rfl, hb⟩
  have HB3 := hid (HB2.out.trans (hb.mono HB2.out.size))
  clear hb
  go_wp2_with fail
  refine (rcount_any acs 4 P w3 _ (HU.out.bel HB3.out)).mono ?_; rintro e w4 ⟨rfl, hb⟩
  have HB4 := hid (HB3.out.trans (hb.mono HB3.out.size))
  clear hb
  go_wp2_with fail
  try simp only [Exit.inBlock, Exit.then]
  refine bodyPost_ret (results_tmp4 rfl _ _ _) rfl ?_
  exact ⟨rfl, HB4.out⟩
set_option maxRecDepth 100000 in
set_option maxHeartbeats 4000000 in
theorem counts_any (acs : List Int) (P : Nat → Prop) (w : World) (u : Value) (hu : NV P w u acs) : Calls Try.prog 10 #[u] w (CntPost acs w) := by
  obtain ⟨oa, c, rfl⟩ := hu.len
  have hla := hu.1
  have HU := hid hu
  clear hu
  go_enter Try.func10, Try.ntmps10
  go_wp2_with fail
  go_loopw [2, 3, 4, 5, 10] (fun n1 n2 n3 n4 iv wr => ∃ (j m1 m2 m3 m4 : Nat), j ≤ acs.length ∧ (m1 ≤ j ∧ m2 ≤ j ∧ m3 ≤ j ∧ m4 ≤ j) ∧ iv = .int .i64 j ∧ n1 = .int .i64 m1 ∧ n2 = .int .i64 m2 ∧ n3 = .int .i64 m3 ∧ n4 = .int .i64 m4 ∧ Hid (Below w.heap.size w wr) ∧ Hid (m1 = cntA (acs.take j) 1 ∧ m2 = cntA (acs.take j) 2 ∧ m3 = cntA (acs.take j) 3 ∧ m4 = cntA (acs.take j) 4)) (fun _ _ _ _ iv _ => acs.length - (intOf iv).toNat)
  case atStart => exact ⟨0, 0, 0, 0, 0, Nat.zero_le _, ⟨Nat.zero_le _, Nat.zero_le _, Nat.zero_le _, Nat.zero_le _⟩, rfl, rfl, rfl, rfl, rfl, hid (Below.refl _ _), hid ⟨rfl, rfl, rfl, rfl⟩⟩
  case round =>
    obtain ⟨j, m1, m2, m3, m4, hj, ⟨hm1, hm2, hm3, hm4⟩, rfl, rfl, rfl, rfl, rfl, B, HM⟩ := hrel
    by_cases hlt : j < acs.length
    · obtain ⟨g, o, c2, xs, e1, hl, h1, h3, hr⟩ := (HU.out.bel B.out).at hlt
      cases e1
      have hj0 : (0 : Int) ≤ (j : Int) := by omega
      have hj1 : (j : Int) < (acs.length : Int) := by omega
      have HL := hid hl
      have H1 := hid h1
      have HR := hid hr
      have H3 := hid h3
      obtain ⟨y, hy⟩ : ∃ y, acs[j] = y := ⟨_, rfl⟩
      rw [hy] at H3
      have HY := hid hy
      clear hl h1 hr h3 hy
      go_upto_region 4 with (first | (refine wpList_load_mid rfl 42 (.tmp 12) rfl g (o + j * 22) rfl xs _ HR.out Try.underlying42 rfl (by rw [HL.out]; kernel_rfl) ?_) | (refine wpList_store_obj rfl 42 _ _ rfl wr.heap.size 0 xs rfl rfl _ _ (heap_alloc_at wr zero22) (by rw [HL.out]; simp) (by rw [HL.out]; kernel_rfl) H1.out ?_; intro w4 hz4 hc4))
      have hal : Below wr.heap.size wr (wr.alloc zero22) := (Below.refl _ _).alloc (Nat.le_refl _) _
      have HB4 := hid (show Below w.heap.size w w4 from (B.out.trans (hal.mono B.out.size)).trans (chg_bel hc4 (fun k hk => by rw [hk]; exact B.out.size) (Nat.le_trans B.out.size hal.size)))
      have z3 : w4.cell? ⟨wr.heap.size, 3, none⟩ = some (.int .i64 y) := by
        rw [cells_in hz4, List.getElem?_toArray, List.take_zero, List.nil_append, List.getElem?_append_left (by rw [HL.out]; decide)]
        exact H3.out
      clear hz4 hc4 hal HL H1 HR H3
      by_cases y1 : y = 1
      · subst y1
        have HE := hid (And.intro (show (m1 + 1) = cntA (acs.take (j + 1)) 1 by rw [cntA_take acs 1 hlt, HY.out, ← HM.out.1]; rfl) (And.intro (show m2 = cntA (acs.take (j + 1)) 2 by rw [cntA_take acs 2 hlt, HY.out, ← HM.out.2.1]; rfl) (And.intro (show m3 = cntA (acs.take (j + 1)) 3 by rw [cntA_take acs 3 hlt, HY.out, ← HM.out.2.2.1]; rfl) (show m4 = cntA (acs.take (j + 1)) 4 by rw [cntA_take acs 4 hlt, HY.out, ← HM.out.2.2.2]; rfl))))
        clear HM HY
        go_wp2_with fail
        go_roundw
        case rel => exact ⟨j + 1, (m1 + 1), m2, m3, m4, by omega, ⟨by omega, by omega, by omega, by omega⟩, by go_num, by go_num, by go_num, by go_num, by go_num, HB4, HE⟩
        case measure => simp [intOf]; omega
      · have N1 := hid y1
        have fa : decide (y = 1) = false := decide_eq_false y1
        have fb : (y == 1) = false := beq_eq_false_iff_ne.2 y1
        clear y1
        by_cases y2 : y = 2
        · subst y2
          have HE := hid (And.intro (show m1 = cntA (acs.take (j + 1)) 1 by rw [cntA_take acs 1 hlt, HY.out, ← HM.out.1]; rfl) (And.intro (show (m2 + 1) = cntA (acs.take (j + 1)) 2 by rw [cntA_take acs 2 hlt, HY.out, ← HM.out.2.1]; rfl) (And.intro (show m3 = cntA (acs.take (j + 1)) 3 by rw [cntA_take acs 3 hlt, HY.out, ← HM.out.2.2.1]; rfl) (show m4 = cntA (acs.take (j + 1)) 4 by rw [cntA_take acs 4 hlt, HY.out, ← HM.out.2.2.2]; rfl))))
          clear HM HY
          go_wp2_with fail
          go_roundw
          case rel => exact ⟨j + 1, m1, (m2 + 1), m3, m4, by omega, ⟨by omega, by omega, by omega, by omega⟩, by go_num, by go_num, by go_num, by go_num, by go_num, HB4, HE⟩
          case measure => simp [intOf]; omega
        · have N2 := hid y2
          have ga : decide (y = 2) = false := decide_eq_false y2
          have gb : (y == 2) = false := beq_eq_false_iff_ne.2 y2
          clear y2
          by_cases y3 : y = 3
          · subst y3
            have HE := hid (And.intro (show m1 = cntA (acs.take (j + 1)) 1 by rw [cntA_take acs 1 hlt, HY.out, ← HM.out.1]; rfl) (And.intro (show m2 = cntA (acs.take (j + 1)) 2 by rw [cntA_take acs 2 hlt, HY.out, ← HM.out.2.1]; rfl) (And.intro (show (m3 + 1) = cntA (acs.take (j + 1)) 3 by rw [cntA_take acs 3 hlt, HY.out, ← HM.out.2.2.1]; rfl) (show m4 = cntA (acs.take (j + 1)) 4 by rw [cntA_take acs 4 hlt, HY.out, ← HM.out.2.2.2]; rfl))))
            clear HM HY
            go_wp2_with fail
            go_roundw
            case rel => exact ⟨j + 1, m1, m2, (m3 + 1), m4, by omega, ⟨by omega, by omega, by omega, by omega⟩, by go_num, by go_num, by go_num, by go_num, by go_num, HB4, HE⟩
            case measure => simp [intOf]; omega
          · have N3 := hid y3
            have ha : decide (y = 3) = false := decide_eq_false y3
            have hb : (y == 3) = false := beq_eq_false_iff_ne.2 y3
            clear y3
            by_cases y4 : y = 4
            · subst y4
              have HE := hid (And.intro (show m1 = cntA (acs.take (j + 1)) 1 by rw [cntA_take acs 1 hlt, HY.out, ← HM.out.1]; rfl) (And.intro (show m2 = cntA (acs.take (j + 1)) 2 by rw [cntA_take acs 2 hlt, HY.out, ← HM.out.2.1]; rfl) (And.intro (show m3 = cntA (acs.take (j + 1)) 3 by rw [cntA_take acs 3 hlt, HY.out, ← HM.out.2.2.1]; rfl) (show (m4 + 1) = cntA (acs.take (j + 1)) 4 by rw [cntA_take acs 4 hlt, HY.out, ← HM.out.2.2.2]; rfl))))
              clear HM HY
              go_wp2_with fail
              go_roundw
              case rel => exact ⟨j + 1, m1, m2, m3, (m4 + 1), by omega, ⟨by omega, by omega, by omega, by omega⟩, by go_num, by go_num, by go_num, by go_num, by go_num, HB4, HE⟩
              case measure => simp [intOf]; omega
            · have N4 := hid y4
              have ia : decide (y = 4) = false := decide_eq_false y4
              have ib : (y == 4) = false := beq_eq_false_iff_ne.2 y4
              clear y4
              have HE := hid (And.intro (show m1 = cntA (acs.take (j + 1)) 1 by rw [cntA_take acs 1 hlt, HY.out, ← HM.out.1]; simp [N1.out, N2.out, N3.out, N4.out]) (And.intro (show m2 = cntA (acs.take (j + 1)) 2 by rw [cntA_take acs 2 hlt, HY.out, ← HM.out.2.1]; simp [N1.out, N2.out, N3.out, N4.out]) (And.intro (show m3 = cntA (acs.take (j + 1)) 3 by rw [cntA_take acs 3 hlt, HY.out, ← HM.out.2.2.1]; simp [N1.out, N2.out, N3.out, N4.out]) (show m4 = cntA (acs.take (j + 1)) 4 by rw [cntA_take acs 4 hlt, HY.out, ← HM.out.2.2.2]; simp [N1.out, N2.out, N3.out, N4.out]))))
              clear HM HY
              go_wp2_with fail
              go_roundw
              case rel => exact ⟨j + 1, m1, m2, m3, m4, by omega, ⟨by omega, by omega, by omega, by omega⟩, by go_num, by go_num, by go_num, by go_num, by go_num, HB4, HE⟩
              case measure => simp [intOf]; omega
    · have HE := hid (show m1 = cntA acs 1 ∧ m2 = cntA acs 2 ∧ m3 = cntA acs 3 ∧ m4 = cntA acs 4 by have h := HM.out; rwa [List.take_of_length_le (by omega)] at h)
      clear HM
      go_wp2_with fail
      try simp only [Exit.inBlock, Exit.then]
      refine bodyPost_ret (results_tmp4 rfl _ _ _) rfl ?_
      exact ⟨by rw [← HE.out.1, ← HE.out.2.1, ← HE.out.2.2.1, ← HE.out.2.2.2]; rfl, B.out⟩
end Go.Proofs.Ytibiiafcnaijeaa
