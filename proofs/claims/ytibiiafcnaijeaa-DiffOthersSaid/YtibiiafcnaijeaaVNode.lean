/- node, check, Check of the reference of values. -/
import Derived.Test.YtibiiafcnaijeaaVShp
namespace Go.Proofs.Ytibiiafcnaijeaa
open Go Go.RowKit Go.Proofs.Ytibiiafcnaijeaa.Steady
set_option linter.unusedVariables false
set_option linter.unusedSimpArgs false

theorem asc_adj : ∀ (l : List ByteArray), (∀ i (h : i + 1 < l.length), ltS (l[i]'(by omega)) l[i + 1] = true) → Asc l
  | [], _ => List.Pairwise.nil
  | [a], _ => List.Pairwise.cons (fun x hx => absurd hx List.not_mem_nil) List.Pairwise.nil
  | a :: b :: r, h => by
    have h0 : ltS a b = true := h 0 (by simp)
    have ih : Asc (b :: r) := asc_adj (b :: r) fun i hi => h (i + 1) (by simpa using hi)
    refine List.Pairwise.cons (fun x hx => ?_) ih
    rcases List.mem_cons.1 hx with rfl | hx
    · exact h0
    · exact ltS_trans h0 ((List.pairwise_cons.1 ih).1 x hx)
def NodePost (k n : Int) (s : ByteArray) (nI : Nat) (ks : List ByteArray) (w : World) (e : Ending) (w' : World) : Prop := ∃ r : Int, e = .returned (.int .i64 r) ∧ (r = 0 → ShP k n s nI ks.length ∧ Asc ks) ∧ Below w.heap.size w w'
set_option maxRecDepth 100000 in
set_option maxHeartbeats 4000000 in
theorem node_any (P : Nat → Prop) (k n : Int) (s : ByteArray) (oi ok : Option Addr) (nI ci ck : Nat) (ks : List ByteArray) (w : World) (hI : nI ≤ 140737488355328) (hs : s.size ≤ 140737488355328) (hK : SV P w (.slice ok ks.length ck) ks) :
    Calls Try.prog 33 #[.agg #[.int .i64 k, .int .i64 n, .string s, .slice oi nI ci, .slice ok ks.length ck]] w (NodePost k n s nI ks w) := by
  have hlk := hK.le
  obtain ⟨hB, c0, c1, c2, c3, c4⟩ := box5 w (.int .i64 k) (.int .i64 n) (.string s) (.slice oi nI ci) (.slice ok ks.length ck) 26
  have HN := hid (hK.bel hB)
  have HB := hid hB
  generalize hW : w.alloc (.cells #[.int .i64 k, .int .i64 n, .string s, .slice oi nI ci, .slice ok ks.length ck] 26) = W at *
  have HW := hid hW
  have HSH := hid (vshaped_any k n s oi ok nI ci ks.length ck W hI hlk)
  have C0 := hid c0
  have C1 := hid c1
  have C2 := hid c2
  have C4 := hid c4
  clear hB hW hK
  go_enter Try.func33, Try.ntmps33
  go_wp2_with fail
  rw [HW.out]
  refine HSH.out.mono ?_
  rintro e w2 ⟨b, rfl, hsh, hb2⟩
  have HB2 := hid (HB.out.trans (hb2.mono HB.out.size))
  have HN2 := hid (HN.out.bel hb2)
  have c0 := bcell hb2 C0.out
  have c1 := bcell hb2 C1.out
  have c2 := bcell hb2 C2.out
  have c4 := bcell hb2 C4.out
  clear hb2 HSH HN C0 C1 C2 C4 HW HB c3
  cases b with
  | false =>
    go_wp2_with fail
    go_ret
    exact ⟨1, rfl, fun h => by omega, HB2.out⟩
  | true =>
    have HS := hid (hsh rfl)
    clear hsh
    have C0 := hid c0
    have C2 := hid c2
    have C4 := hid c4
    have HNV := hid (nvalid_any n w2)
    have HT := hid (text_any s w2 hs)
    go_upto_region 3 with (fail)
    go_cut [17] (fun b wx => ∃ c : Bool, b = .bool c ∧ Hid (Below w2.heap.size w2 wx))
    case first =>
      by_cases k2 : k = 2
      · have d2 : decide (k = 2) = true := decide_eq_true k2
        have d2b : (k == 2) = true := beq_iff_eq.2 k2
        clear k2
        go_wp2_with fail
        refine HNV.out.mono ?_
        rintro e w3 ⟨b, rfl, hb3⟩
        have HB3 := hid hb3
        clear hb3
        go_wp2_with fail
        go_meet
        exact ⟨_, rfl, HB3⟩
      · have d2 : decide (k = 2) = false := decide_eq_false k2
        have d2b : (k == 2) = false := beq_eq_false_iff_ne.2 k2
        clear k2
        go_wp2_with fail
        go_meet
        exact ⟨false, rfl, hid (Below.refl _ _)⟩
    case rest =>
      obtain ⟨b, rfl, HB3⟩ := hcut
      clear c0 c1 c2 c4
      have c0 := bcell HB3.out C0.out
      have c2 := bcell HB3.out C2.out
      have c4 := bcell HB3.out C4.out
      cases b with
      | true =>
        go_wp2_with fail
        go_ret
        exact ⟨5, rfl, fun h => by omega, HB2.out.trans (HB3.out.mono HB2.out.size)⟩
      | false =>
        have HT := hid (text_any s wc hs)
        go_wp2_with fail
        refine HT.out.mono ?_
        rintro e w4 ⟨r4, rfl, hb4⟩
        have HB4 := hid (HB3.out.trans (hb4.mono HB3.out.size))
        clear hb4 c0 c2 c4
        by_cases hr : r4 = 0
        case neg =>
          have d1 : decide (r4 = 0) = false := decide_eq_false hr
          have d2 : (r4 == 0) = false := beq_eq_false_iff_ne.2 hr
          have d3 : (r4 != 0) = true := by rw [bne, d2]; rfl
          have HR := hid hr
          clear hr
          go_wp2_with fail
          go_ret
          exact ⟨_, rfl, fun h => absurd h HR.out, HB2.out.trans (HB4.out.mono HB2.out.size)⟩
        have d1 : decide (r4 = 0) = true := decide_eq_true hr
        have d2 : (r4 == 0) = true := beq_iff_eq.2 hr
        have d3 : (r4 != 0) = false := by rw [bne, d2]; rfl
        clear hr
        go_wp2_with fail
        clear d1 d2 d3 HT HNV HB3
        go_loopw [4] (fun i wr => ∃ j : Nat, j ≤ ks.length ∧ i = .int .i64 j ∧ Hid (Below w2.heap.size w2 wr) ∧ Hid (∀ i (h : i + 1 < ks.length), i + 1 < j → ltS (ks[i]'(by omega)) ks[i + 1] = true)) (fun i _ => ks.length - (intOf i).toNat)
        case atStart => exact ⟨0, Nat.zero_le _, rfl, HB4, hid fun i h hi => absurd hi (by omega)⟩
        case round =>
          obtain ⟨j, hj, rfl, B, A⟩ := hrel
          have c0' := bcell B.out C0.out
          have c4' := bcell B.out C4.out
          have HN3 := hid (HN2.out.bel B.out)
          by_cases hlt : j < ks.length
          · obtain ⟨g, o, c, e1, a1⟩ := HN3.out.at hlt
            cases e1
            have hj0 : (0 : Int) ≤ (j : Int) := by omega
            have hj1 : (j : Int) < (ks.length : Int) := by omega
            have HTX := hid (text_any ks[j] wr (HN2.out.2 _ (List.getElem_mem hlt)))
            go_wp2_with fail
            clear a1
            refine HTX.out.mono ?_
            rintro e w5 ⟨r5, rfl, hb5⟩
            have HB5 := hid (B.out.trans (hb5.mono B.out.size))
            have c0 := bcell HB5.out C0.out
            have c4 := bcell HB5.out C4.out
            have HN5 := hid (HN3.out.bel hb5)
            clear hb5 HTX HN3 B c0' c4'
            by_cases hr : r5 = 0
            case neg =>
              have d1 : decide (r5 = 0) = false := decide_eq_false hr
              have d2 : (r5 == 0) = false := beq_eq_false_iff_ne.2 hr
              have d3 : (r5 != 0) = true := by rw [bne, d2]; rfl
              have HR := hid hr
              clear hr
              go_wp2_with fail
              go_ret
              exact ⟨_, rfl, fun h => absurd h HR.out, HB2.out.trans (HB5.out.mono HB2.out.size)⟩
            have d1 : decide (r5 = 0) = true := decide_eq_true hr
            have d2 : (r5 == 0) = true := beq_iff_eq.2 hr
            have d3 : (r5 != 0) = false := by rw [bne, d2]; rfl
            clear hr
            by_cases h0 : j = 0
            · have f2 : decide ((j : Int) > 0) = false := decide_eq_false (by omega)
              have f3 : decide (0 < j) = false := decide_eq_false (by omega)
              have H0 := hid h0
              clear h0
              go_wp2_with fail
              refine wp_region_steady (fun v => v.cell? ⟨w.heap.size, 4, none⟩ = some (.slice (some ⟨g, o, none⟩) ks.length ck)) (by kernel_rfl) (by kernel_rfl) (c4) ?_
              repeat (first
                | (refine wpSteady_skip (by rfl) ?_; try simp only [Act.put, List.setIfInBounds_toArray, List.set_cons_zero, List.set_cons_succ])
                | (refine wpSteady_calm (v := ?_) (by rfl) ?_ ?_; rotate_left; (focus (intro v hSv; (try dsimp only at hSv); go_simp; (try with_reducible rfl); done)); try simp only [Act.put, List.setIfInBounds_toArray, List.set_cons_zero, List.set_cons_succ]))
              refine wpSteady_nil ?_
              go_wp2_with fail
              go_roundw
              case rel => exact ⟨j + 1, by omega, by go_num, hid (below_drew HB5.out), hid fun i h hi => by have := H0.out; omega⟩
              case measure => simp [intOf]; omega
            · have f2 : decide ((j : Int) > 0) = true := decide_eq_true (by omega)
              have f3 : decide (0 < j) = true := decide_eq_true (by omega)
              obtain ⟨m, hjm⟩ : ∃ m, j = m + 1 := ⟨j - 1, by omega⟩
              have hlt' : m < ks.length := by omega
              obtain ⟨g1, o1, c1, e1, a1⟩ := HN5.out.at hlt
              cases e1
              obtain ⟨g2, o2, c2, e2, a2⟩ := HN5.out.at hlt'
              cases e2
              have hm0 : (0 : Int) ≤ (m : Int) := by omega
              have hm1 : (m : Int) < (ks.length : Int) := by omega
              have hke : (j : Int) - 1 = (m : Int) := by omega
              have hkw : IntKind.i64.wrap (m : Int) = (m : Int) := by rw [IntKind.wrap_i64]; omega
              clear h0
              have HJM := hid hjm
              cases hlt2 : ltS ks[m] ks[j] with
              | true =>
                have l1 : Op.bytesLess ks[m].toList ks[j].toList = true := hlt2
                have A2 : Hid (∀ i (h : i + 1 < ks.length), i + 1 < j + 1 → ltS (ks[i]'(by omega)) ks[i + 1] = true) := hid fun i h hi => by
                  by_cases e : i = m
                  · subst e; subst hjm; exact hlt2
                  · exact A.out i h (by omega)
                clear hlt2 A hjm
                generalize ks[m] = p at *
                generalize ks[j] = q at *
                go_wp2_with fail
                refine wp_region_steady (fun v => v.cell? ⟨w.heap.size, 4, none⟩ = some (.slice (some ⟨g, o, none⟩) ks.length ck) ∧ v.cell? ⟨g, o + j, none⟩ = some (.string q) ∧ v.cell? ⟨g, o + m, none⟩ = some (.string p)) (by kernel_rfl) (by kernel_rfl) (⟨c4, a1, a2⟩) ?_
                repeat (first
                  | (refine wpSteady_skip (by rfl) ?_; try simp only [Act.put, List.setIfInBounds_toArray, List.set_cons_zero, List.set_cons_succ])
                  | (refine wpSteady_calm (v := ?_) (by rfl) ?_ ?_; rotate_left; (focus (intro v hSv; (try dsimp only at hSv); go_simp; (try with_reducible rfl); done)); try simp only [Act.put, List.setIfInBounds_toArray, List.set_cons_zero, List.set_cons_succ]))
                refine wpSteady_nil ?_
                clear hke hkw
                go_wp2_with fail
                go_roundw
                case rel => exact ⟨j + 1, by omega, by go_num, hid (below_drew HB5.out), A2⟩
                case measure => simp [intOf]; omega
              | false =>
                have l1 : Op.bytesLess ks[m].toList ks[j].toList = false := hlt2
                clear hlt2 hjm
                generalize ks[m] = p at *
                generalize ks[j] = q at *
                go_wp2_with fail
                refine wp_region_steady (fun v => v.cell? ⟨w.heap.size, 4, none⟩ = some (.slice (some ⟨g, o, none⟩) ks.length ck) ∧ v.cell? ⟨g, o + j, none⟩ = some (.string q) ∧ v.cell? ⟨g, o + m, none⟩ = some (.string p)) (by kernel_rfl) (by kernel_rfl) (⟨c4, a1, a2⟩) ?_
                repeat (first
                  | (refine wpSteady_skip (by rfl) ?_; try simp only [Act.put, List.setIfInBounds_toArray, List.set_cons_zero, List.set_cons_succ])
                  | (refine wpSteady_calm (v := ?_) (by rfl) ?_ ?_; rotate_left; (focus (intro v hSv; (try dsimp only at hSv); go_simp; (try with_reducible rfl); done)); try simp only [Act.put, List.setIfInBounds_toArray, List.set_cons_zero, List.set_cons_succ]))
                refine wpSteady_nil ?_
                clear hke hkw
                go_wp2_with fail
                go_ret
                exact ⟨1, rfl, fun h => by omega, HB2.out.trans ((below_drew HB5.out).mono HB2.out.size)⟩
          · have hA : Asc ks := asc_adj ks fun i h => A.out i h (by omega)
            have HA := hid hA
            clear hA
            go_wp2_with fail
            go_ret
            exact ⟨0, rfl, fun _ => ⟨HS.out, HA.out⟩, HB2.out.trans (B.out.mono HB2.out.size)⟩
end Go.Proofs.Ytibiiafcnaijeaa
