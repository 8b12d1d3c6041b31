/- Format. -/
import Derived.Test.YtfljnigbfacmjaaGreatDoorWord
import Derived.Test.YtfljnigbfacmjaaGreatDoorApp
namespace Go.Proofs.YtfljnigbfacmjaaGreatDoor
open Go Go.RowKit Go.Proofs.YtfljnigbfacmjaaGreatDoor.Steady
set_option linter.unusedVariables false

theorem size_app (a b : ByteArray) : (a ++ b).size = a.size + b.size := by simp [ByteArray.size_append]
/-- strings.Join at a row of the call's own. -/
theorem join_any (w : World) (v : Value) (l : List ByteArray) (h : w.ownsRow 0 9 1 v l.length (strs l)) (hl : l.length ≤ 140737488355328) (hj : (joinS l).size ≤ 140737488355328) :
    Calls Tryz.prog 47 #[v, .string ⟨#[44, 32]⟩] w (Ret (.string (joinS l)) w) := by
  rcases h.2 with ⟨rfl, h0⟩ | ⟨g, cap, cur, rfl, _, hh, hnc, _, _, ht⟩
  · obtain rfl : l = [] := List.eq_nil_of_length_eq_zero h0
    exact (Tryz.strings_Join_none none 0 ⟨#[44, 32]⟩ w).mono fun e w' ⟨h1, h2⟩ => ⟨h1, by subst h2; exact Below.refl _ _⟩
  · exact Tryz.strings_Join g 0 cap l ⟨#[44, 32]⟩ w (fun j x hx => by rw [Nat.zero_add]; exact cells_at hh ht (by rw [List.getElem?_map, hx]; rfl)) (Array.getElem?_eq_some_iff.1 hh).1 hl hnc (by rw [size_eq] at hj; simpa [joinS] using hj)
def FmtOk (t : Ty) : Prop := ∀ (P : Nat → Prop) (w : World) (v : Value), TV P w v t → sizeT t ≤ 1000000 → (fmtT t).size ≤ 140737488355328 → Calls Tryz.prog 26 #[v] w (Ret (.string (fmtT t)) w)


set_option maxRecDepth 100000 in
set_option maxHeartbeats 4000000 in
theorem fmt_any (t : Ty) : FmtOk t := by
  induction t using Ty.ind with
  | h k es ns ih =>
    intro P w v hv hsz hmax
    rw [sizeT_eq] at hsz
    have hlen0 := sizeL_len es
    obtain ⟨ve, vn, rfl, hE, hN⟩ := hv.out
    obtain ⟨oe, ce, rfl⟩ := hE.len
    obtain ⟨on, cn, rfl⟩ := hN.len
    have hle := hE.le
    have hln := hN.le
    obtain ⟨hB, c0, c1, c2, hz⟩ := box3 w (.int .i64 k) (.slice oe es.length ce) (.slice on ns.length cn) 30
    have HE := hid (hE.bel hB)
    have HN := hid (hN.bel hB)
    generalize hW : w.alloc (.cells #[.int .i64 k, .slice oe es.length ce, .slice on ns.length cn] 30) = W at *
    have HW := hid hW
    have HB := hid hB
    have HC0 := hid c0
    have HC1 := hid c1
    have HC2 := hid c2
    have HI := hid ih
    clear ih hE hN hv hB c0 c1 c2 hW
    by_cases h4 : k = 4
    · subst h4
      by_cases h1 : es.length = 1
      · have hlt : 0 < es.length := by omega
        have hfh : fmtH es = fmtT es[0] := by
          cases es with
          | nil => cases hlt
          | cons e r => rw [fmtH]; rfl
        have hq : fmtT (.mk 4 es ns) = wordS 4 ++ ⟨#[40]⟩ ++ fmtT es[0] ++ ⟨#[41]⟩ := by rw [fmtT_eq, if_pos (by omega), if_pos h1, hfh]
        rw [hq] at hmax
        rw [size_app, size_app, size_app] at hmax
        obtain ⟨g, o, c, k', oy, my, cy, oz, mz, cz, e1, a1, a2, a3, hT⟩ := HE.out.at2 hlt
        cases e1
        have hcall := fun w2 (hb : Below W.heap.size W w2) => HI.out es[0] (List.getElem_mem hlt) P w2 _ (hT.bel hb) (by have := sizeT_mem (List.getElem_mem hlt); omega) (by omega)
        have HCall := hid hcall
        simp only [Nat.zero_mul, Nat.add_zero] at a1 a2 a3
        rw [h1] at HW HC1
        rw [h1]
        have hs1 : (⟨#[40]⟩ : ByteArray).size = 1 := rfl
        have hs2 : (⟨#[41]⟩ : ByteArray).size = 1 := rfl
        have hb1 : (wordS 4).size + 1 ≤ 9223372036854775807 := by omega
        have hb2 : (wordS 4).size + 1 + (fmtT es[0]).size ≤ 9223372036854775807 := by omega
        have hb3 : (wordS 4).size + 1 + (fmtT es[0]).size + 1 ≤ 9223372036854775807 := by omega
        have HQ := hid hq
        have HW2 := hid (word_any 4)
        clear hq hcall hT hs1 hs2 hmax hfh h1
        generalize wordS 4 = wk at *
        generalize fmtT es[0] = fe at *
        go_enter Tryz.func26, Tryz.ntmps26
        go_wp2_with fail
        rw [HW.out]
        refine wp_region_steady (fun v => v.cell? ⟨w.heap.size, 0, none⟩ = some (.int .i64 4) ∧ v.cell? ⟨w.heap.size, 1, none⟩ = some (.slice (some ⟨g, o, none⟩) 1 ce) ∧ v.cell? ⟨g, o, none⟩ = some (.int .i64 k') ∧ v.cell? ⟨g, o + 1, none⟩ = some (.slice oy my cy) ∧ v.cell? ⟨g, o + 2, none⟩ = some (.slice oz mz cz)) (by kernel_rfl) (by kernel_rfl) (⟨HC0.out, HC1.out, a1, a2, a3⟩) ?_
        repeat (first
          | (refine wpSteady_skip (by rfl) ?_; try simp only [Act.put, List.setIfInBounds_toArray, List.set_cons_zero, List.set_cons_succ])
          | (refine wpSteady_calm (v := ?_) (by rfl) ?_ ?_; rotate_left; (focus (intro v hSv; (try dsimp only at hSv); go_simp; (try with_reducible rfl); done)); try simp only [Act.put, List.setIfInBounds_toArray, List.set_cons_zero, List.set_cons_succ]))
        refine wpSteady_loud rfl (by rfl) (fun K hK => ?_)
        go_simp
        refine (HW2.out _).mono ?_; rintro e2 w2 ⟨rfl, rfl⟩
        refine hK.out _ _ (⟨HC0.out, HC1.out, a1, a2, a3⟩) ?_
        clear hK K
        try simp only [Act.put, List.setIfInBounds_toArray, List.set_cons_zero, List.set_cons_succ]
        repeat (first
          | (refine wpSteady_skip (by rfl) ?_; try simp only [Act.put, List.setIfInBounds_toArray, List.set_cons_zero, List.set_cons_succ])
          | (refine wpSteady_calm (v := ?_) (by rfl) ?_ ?_; rotate_left; (focus (intro v hSv; (try dsimp only at hSv); go_simp; (try rw [if_neg (by omega)]); (try with_reducible rfl); done)); try simp only [Act.put, List.setIfInBounds_toArray, List.set_cons_zero, List.set_cons_succ]))
        refine wpSteady_loud rfl (by rfl) (fun K hK => ?_)
        go_simp
        refine (HCall.out _ (below_drew (Below.refl _ _))).mono ?_; rintro e2 w2 ⟨rfl, hb2⟩
        have HB2 := hid (HB.out.trans ((show Below W.heap.size W w2 from ⟨hb2.os, hb2.tape, hb2.output, hb2.size, hb2.block⟩).mono HB.out.size))
        have r0 := bcell (W := W.drew) hb2 HC0.out
        have r1 := bcell (W := W.drew) hb2 HC1.out
        have r2 := bcell (W := W.drew) hb2 a1
        have r3 := bcell (W := W.drew) hb2 a2
        have r4 := bcell (W := W.drew) hb2 a3
        clear hb2
        refine hK.out _ _ (⟨r0, r1, r2, r3, r4⟩) ?_
        clear hK K
        try simp only [Act.put, List.setIfInBounds_toArray, List.set_cons_zero, List.set_cons_succ]
        repeat (first
          | (refine wpSteady_skip (by rfl) ?_; try simp only [Act.put, List.setIfInBounds_toArray, List.set_cons_zero, List.set_cons_succ])
          | (refine wpSteady_calm (v := ?_) (by rfl) ?_ ?_; rotate_left; (focus (intro v hSv; (try dsimp only at hSv); go_simp; (try rw [if_neg (by omega)]); (try with_reducible rfl); done)); try simp only [Act.put, List.setIfInBounds_toArray, List.set_cons_zero, List.set_cons_succ]))
        refine wpSteady_nil ?_
        go_wp2_with fail
        go_ret
        exact ⟨by rw [HQ.out]; rfl, HB2.out⟩
      · have hq : fmtT (.mk 4 es ns) = wordS 4 := by rw [fmtT_eq, if_pos (by omega), if_neg h1]
        have HQ := hid hq
        have f1 : decide ((es.length : Int) = 1) = false := decide_eq_false (by omega)
        have f2 : ((es.length : Int) == 1) = false := beq_eq_false_iff_ne.2 (by omega)
        have c0 := HC0.out
        clear hq h1 hmax
        go_enter Tryz.func26, Tryz.ntmps26
        go_wp2_with fail
        rw [HW.out]
        refine (word_any 4 W).mono ?_; rintro e2 w2 ⟨rfl, rfl⟩
        go_wp2_with fail
        go_ret
        exact ⟨by rw [HQ.out]; rfl, HB.out⟩
    by_cases h5 : k = 5
    · subst h5
      by_cases h1 : es.length = 1
      · have hlt : 0 < es.length := by omega
        have hfh : fmtH es = fmtT es[0] := by
          cases es with
          | nil => cases hlt
          | cons e r => rw [fmtH]; rfl
        have hq : fmtT (.mk 5 es ns) = wordS 5 ++ ⟨#[40]⟩ ++ fmtT es[0] ++ ⟨#[41]⟩ := by rw [fmtT_eq, if_pos (by omega), if_pos h1, hfh]
        rw [hq] at hmax
        rw [size_app, size_app, size_app] at hmax
        obtain ⟨g, o, c, k', oy, my, cy, oz, mz, cz, e1, a1, a2, a3, hT⟩ := HE.out.at2 hlt
        cases e1
        have hcall := fun w2 (hb : Below W.heap.size W w2) => HI.out es[0] (List.getElem_mem hlt) P w2 _ (hT.bel hb) (by have := sizeT_mem (List.getElem_mem hlt); omega) (by omega)
        have HCall := hid hcall
        simp only [Nat.zero_mul, Nat.add_zero] at a1 a2 a3
        rw [h1] at HW HC1
        rw [h1]
        have hs1 : (⟨#[40]⟩ : ByteArray).size = 1 := rfl
        have hs2 : (⟨#[41]⟩ : ByteArray).size = 1 := rfl
        have hb1 : (wordS 5).size + 1 ≤ 9223372036854775807 := by omega
        have hb2 : (wordS 5).size + 1 + (fmtT es[0]).size ≤ 9223372036854775807 := by omega
        have hb3 : (wordS 5).size + 1 + (fmtT es[0]).size + 1 ≤ 9223372036854775807 := by omega
        have HQ := hid hq
        have HW2 := hid (word_any 5)
        clear hq hcall hT hs1 hs2 hmax hfh h1
        generalize wordS 5 = wk at *
        generalize fmtT es[0] = fe at *
        go_enter Tryz.func26, Tryz.ntmps26
        go_wp2_with fail
        rw [HW.out]
        refine wp_region_steady (fun v => v.cell? ⟨w.heap.size, 0, none⟩ = some (.int .i64 5) ∧ v.cell? ⟨w.heap.size, 1, none⟩ = some (.slice (some ⟨g, o, none⟩) 1 ce) ∧ v.cell? ⟨g, o, none⟩ = some (.int .i64 k') ∧ v.cell? ⟨g, o + 1, none⟩ = some (.slice oy my cy) ∧ v.cell? ⟨g, o + 2, none⟩ = some (.slice oz mz cz)) (by kernel_rfl) (by kernel_rfl) (⟨HC0.out, HC1.out, a1, a2, a3⟩) ?_
        repeat (first
          | (refine wpSteady_skip (by rfl) ?_; try simp only [Act.put, List.setIfInBounds_toArray, List.set_cons_zero, List.set_cons_succ])
          | (refine wpSteady_calm (v := ?_) (by rfl) ?_ ?_; rotate_left; (focus (intro v hSv; (try dsimp only at hSv); go_simp; (try with_reducible rfl); done)); try simp only [Act.put, List.setIfInBounds_toArray, List.set_cons_zero, List.set_cons_succ]))
        refine wpSteady_loud rfl (by rfl) (fun K hK => ?_)
        go_simp
        refine (HW2.out _).mono ?_; rintro e2 w2 ⟨rfl, rfl⟩
        refine hK.out _ _ (⟨HC0.out, HC1.out, a1, a2, a3⟩) ?_
        clear hK K
        try simp only [Act.put, List.setIfInBounds_toArray, List.set_cons_zero, List.set_cons_succ]
        repeat (first
          | (refine wpSteady_skip (by rfl) ?_; try simp only [Act.put, List.setIfInBounds_toArray, List.set_cons_zero, List.set_cons_succ])
          | (refine wpSteady_calm (v := ?_) (by rfl) ?_ ?_; rotate_left; (focus (intro v hSv; (try dsimp only at hSv); go_simp; (try rw [if_neg (by omega)]); (try with_reducible rfl); done)); try simp only [Act.put, List.setIfInBounds_toArray, List.set_cons_zero, List.set_cons_succ]))
        refine wpSteady_loud rfl (by rfl) (fun K hK => ?_)
        go_simp
        refine (HCall.out _ (below_drew (Below.refl _ _))).mono ?_; rintro e2 w2 ⟨rfl, hb2⟩
        have HB2 := hid (HB.out.trans ((show Below W.heap.size W w2 from ⟨hb2.os, hb2.tape, hb2.output, hb2.size, hb2.block⟩).mono HB.out.size))
        have r0 := bcell (W := W.drew) hb2 HC0.out
        have r1 := bcell (W := W.drew) hb2 HC1.out
        have r2 := bcell (W := W.drew) hb2 a1
        have r3 := bcell (W := W.drew) hb2 a2
        have r4 := bcell (W := W.drew) hb2 a3
        clear hb2
        refine hK.out _ _ (⟨r0, r1, r2, r3, r4⟩) ?_
        clear hK K
        try simp only [Act.put, List.setIfInBounds_toArray, List.set_cons_zero, List.set_cons_succ]
        repeat (first
          | (refine wpSteady_skip (by rfl) ?_; try simp only [Act.put, List.setIfInBounds_toArray, List.set_cons_zero, List.set_cons_succ])
          | (refine wpSteady_calm (v := ?_) (by rfl) ?_ ?_; rotate_left; (focus (intro v hSv; (try dsimp only at hSv); go_simp; (try rw [if_neg (by omega)]); (try with_reducible rfl); done)); try simp only [Act.put, List.setIfInBounds_toArray, List.set_cons_zero, List.set_cons_succ]))
        refine wpSteady_nil ?_
        go_wp2_with fail
        go_ret
        exact ⟨by rw [HQ.out]; rfl, HB2.out⟩
      · have hq : fmtT (.mk 5 es ns) = wordS 5 := by rw [fmtT_eq, if_pos (by omega), if_neg h1]
        have HQ := hid hq
        have f1 : decide ((es.length : Int) = 1) = false := decide_eq_false (by omega)
        have f2 : ((es.length : Int) == 1) = false := beq_eq_false_iff_ne.2 (by omega)
        have c0 := HC0.out
        clear hq h1 hmax
        go_enter Tryz.func26, Tryz.ntmps26
        go_wp2_with fail
        rw [HW.out]
        refine (word_any 5 W).mono ?_; rintro e2 w2 ⟨rfl, rfl⟩
        go_wp2_with fail
        go_ret
        exact ⟨by rw [HQ.out]; rfl, HB.out⟩
    have d4 : decide (k = 4) = false := decide_eq_false h4
    have e4 : (k == 4) = false := beq_eq_false_iff_ne.2 h4
    have d5 : decide (k = 5) = false := decide_eq_false h5
    have e5 : (k == 5) = false := beq_eq_false_iff_ne.2 h5
    by_cases h6 : k = 6
    case neg =>
      have d6 : decide (k = 6) = false := decide_eq_false h6
      have e6 : (k == 6) = false := beq_eq_false_iff_ne.2 h6
      have hq : fmtT (.mk k es ns) = wordS k := by rw [fmtT_eq, if_neg (by omega), if_neg h6]
      have HQ := hid hq
      have c0 := HC0.out
      clear hq h4 h5 h6 hmax
      go_enter Tryz.func26, Tryz.ntmps26
      go_wp2_with fail
      rw [HW.out]
      refine (word_any k W).mono ?_; rintro e2 w2 ⟨rfl, rfl⟩
      go_wp2_with fail
      go_ret
      exact ⟨by rw [HQ.out]; rfl, HB.out⟩
    subst h6
    have hq : fmtT (.mk 6 es ns) = ⟨#[111, 98, 106, 101, 99, 116, 40, 123]⟩ ++ joinS (fmtL es ns) ++ ⟨#[125, 41]⟩ := by rw [fmtT_eq]; rfl
    rw [hq, size_app, size_app] at hmax
    have hs1 : (⟨#[111, 98, 106, 101, 99, 116, 40, 123]⟩ : ByteArray).size = 8 := rfl
    have hs2 : (⟨#[125, 41]⟩ : ByteArray).size = 2 := rfl
    rw [hs1, hs2] at hmax
    have HQ := hid hq
    have hfl := fmtL_len es ns
    have hj1 : 8 + (joinS (fmtL es ns)).size ≤ 9223372036854775807 := by omega
    have hj2 : 8 + (joinS (fmtL es ns)).size + 2 ≤ 9223372036854775807 := by omega
    have hjs : (joinS (fmtL es ns)).size ≤ 140737488355328 := by omega
    have hmm : ∀ j (h1 : j < es.length) (h2 : j < ns.length), ns[j].size + 3 + (fmtT es[j]).size ≤ (joinS (fmtL es ns)).size := fun j h1 h2 => by
      have := joinS_mem (List.mem_of_getElem? (fmtL_get es ns j h1 h2))
      rw [size_app, size_app] at this
      exact this
    have HM := hid hmm
    obtain ⟨fl, hfl2⟩ : ∃ fl, fmtL es ns = fl := ⟨_, rfl⟩
    have hget : ∀ j (h1 : j < es.length) (h2 : j < ns.length), fl[j]? = some (ns[j] ++ ⟨#[32, 61, 32]⟩ ++ fmtT es[j]) := fun j h1 h2 => by rw [← hfl2]; exact fmtL_get es ns j h1 h2
    have HG := hid hget
    rw [hfl2] at HQ hfl hj1 hj2 hjs HM
    clear hq hs1 hs2 hmax hmm hfl2 hget
    have HFL := hid hfl
    clear hfl
    have c0 := HC0.out
    have c2 := HC2.out
    go_enter Tryz.func26, Tryz.ntmps26
    go_wp2_with fail
    rw [HW.out]
    clear c0 c2
    go_loopw [3, 31] (fun o i wr => ∃ j : Nat, j ≤ ns.length ∧ i = .int .i64 j ∧ Hid (Below W.heap.size W wr) ∧ Hid (Made W.heap.size wr 9 1 o (fl.take j).length (strs (fl.take j)))) (fun _ i _ => ns.length - (intOf i).toNat)
    case atStart => exact ⟨0, Nat.zero_le _, rfl, hid (Below.refl _ _), hid (Made.nil _ _ _ _)⟩
    case round =>
      obtain ⟨j, hj, rfl, B, M⟩ := hrel
      have c1 := bcell B.out HC1.out
      have c2 := bcell B.out HC2.out
      obtain ⟨ou, nu, cu, rfl⟩ := owns_slice M.out.1
      by_cases hlt : j < ns.length
      · obtain ⟨g, o, c, e1, a1⟩ := (HN.out.bel B.out).at hlt
        cases e1
        have hj0 : (0 : Int) ≤ (j : Int) := by omega
        have hj1' : (j : Int) < (ns.length : Int) := by omega
        by_cases hle2 : j < es.length
        · obtain ⟨g2, o2, c2', k2, oy2, my2, cy2, oz2, mz2, cz2, e2, b1, b2, b3, hT2⟩ := (HE.out.bel B.out).at2 hle2
          cases e2
          have hi2 : (j : Int) < (es.length : Int) := by omega
          have hd1 : decide (j < es.length) = true := decide_eq_true hle2
          have hm := HM.out j hle2 hlt
          have hg := HG.out j hle2 hlt
          have htk : fl.take (j + 1) = fl.take j ++ [ns[j] ++ ⟨#[32, 61, 32]⟩ ++ fmtT es[j]] := by
            obtain ⟨h1, h2⟩ := List.getElem?_eq_some_iff.1 hg
            rw [List.take_succ_eq_append_getElem h1, h2]
          have hcall := HI.out es[j] (List.getElem_mem hle2) P wr _ hT2 (by have := sizeT_mem (List.getElem_mem hle2); omega) (by omega)
          have HCall := hid hcall
          have HTK := hid htk
          have htl : (fl.take j).length ≤ j := List.length_take_le _ _
          clear hcall htk hg hT2
          generalize ns[j] = s at *
          generalize fmtT es[j] = fe at *
          have hb1 : s.size + 3 ≤ 9223372036854775807 := by omega
          have hb2 : s.size + 3 + fe.size ≤ 9223372036854775807 := by omega
          go_wp2_with fail
          refine HCall.out.mono ?_; rintro e2 w2 ⟨rfl, hb2'⟩
          have M2 := hid (M.out.later hb2')
          have B2 := hid (B.out.trans (hb2'.mono B.out.size))
          have hz2 : W.heap.size ≤ w2.heap.size := B2.out.size
          clear hb2' M B c1 c2 a1 b1 b2 b3
          go_wp2_with (at_builtin; refine app_tag (by rfl) (.tmp 41) (.tmp 51) 24 (by rfl) 9 (.string ⟨#[]⟩) 1 16 Tryz.underlying24 info9 rfl (by decide) (by decide) _ _ _ M2.out.1 (by rfl) [.string (s ++ (⟨#[32, 61, 32]⟩ : ByteArray) ++ fe)] w2.heap.size (by rfl) (by rfl) (by rfl) (by simp [Value.oneCell']) (by omega) ?_; intro v3 w3 hown3 hc3 hp3 hne3)
          have M3 := M2.out.grow hz2 hown3 hp3
          have B3 := M2.out.below (Nat.le_refl _) B2.out hc3
          clear hown3 hc3 hp3 hne3
          go_roundw
          case rel =>
            refine ⟨j + 1, by omega, by go_num, hid B3, hid ?_⟩
            rw [HTK.out, List.length_append, strs, List.map_append]
            exact M3
          case measure => simp [intOf]; omega
        · have hd1 : decide (j < es.length) = false := decide_eq_false hle2
          have htk : fl.take (j + 1) = fl.take j := by
            have := HFL.out
            rw [List.take_of_length_le (by omega), List.take_of_length_le (by omega)]
          have HTK := hid htk
          clear htk
          go_wp2_with fail
          go_roundw
          case rel =>
            refine ⟨j + 1, by omega, by go_num, B, ?_⟩
            rw [HTK.out]
            exact M
          case measure => simp [intOf]; omega
      · have hfin : fl.take j = fl := List.take_of_length_le (by have := HFL.out; omega)
        rw [hfin] at M
        clear hfin
        have hlen := HFL.out
        have hln2 : fl.length ≤ 140737488355328 := by omega
        have hcall := join_any wr _ fl M.out.1 hln2 hjs
        have HCall := hid hcall
        clear hcall hlen
        generalize joinS fl = js at *
        go_wp2_with fail
        refine HCall.out.mono ?_; rintro e2 w2 ⟨rfl, hb2'⟩
        have B2 := hid (B.out.trans (hb2'.mono B.out.size))
        clear hb2'
        go_wp2_with fail
        go_ret
        exact ⟨by rw [HQ.out]; rfl, HB.out.trans (B2.out.mono HB.out.size)⟩
end Go.Proofs.YtfljnigbfacmjaaGreatDoor
