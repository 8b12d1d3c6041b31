/- Includes of the reference. -/
import Derived.Test.YtfljnigbfacmjaaDoorIncl
namespace Go.Proofs.YtfljnigbfacmjaaDoor
open Go Go.RowKit Go.Proofs.YtfljnigbfacmjaaDoor.Steady
set_option linter.unusedVariables false
mutual
def mapsT : Ty → Bool
  | .mk k es _ => (decide (k ≠ 5) || decide (es.length = 1)) && mapsL es
def mapsL : List Ty → Bool
  | [] => true
  | e :: l => mapsT e && mapsL l
end
theorem mapsL_mem : ∀ {l : List Ty} {e : Ty}, mapsL l = true → e ∈ l → mapsT e = true
  | x :: l, e, h, hm => by
    rw [mapsL, Bool.and_eq_true] at h
    rcases List.mem_cons.1 hm with rfl | hm
    · exact h.1
    · exact mapsL_mem h.2 hm
theorem all_drop {f : Ty → Bool} {l : List Ty} {k : Nat} (h : k < l.length) : (l.drop k).all f = (f l[k] && (l.drop (k + 1)).all f) := by
  rw [List.drop_eq_getElem_cons h, List.all_cons]
def RInclOk (a : Ty) : Prop := mapsT a = true → ∀ (b : Ty) (P Q : Nat → Prop) (w : World) (x y : Value), TV P w x a → TV Q w y b → Calls Tryd.prog 20 #[x, y] w (Ret (.bool (inclT a b)) w)

set_option maxRecDepth 100000 in
set_option maxHeartbeats 4000000 in
theorem rincl_any (a : Ty) : RInclOk a := by
  induction a using Ty.ind with
  | h k es ns ih0 =>
    intro hmp b P Q w x y hx hy
    obtain ⟨k', es', ns'⟩ := b
    rw [mapsT, Bool.and_eq_true] at hmp
    have ih : ∀ e ∈ es, ∀ (b : Ty) (P Q : Nat → Prop) (w : World) (x y : Value), TV P w x e → TV Q w y b → Calls Tryd.prog 20 #[x, y] w (Ret (.bool (inclT e b)) w) := fun e he => ih0 e he (mapsL_mem hmp.2 he)
    have hm5 : k = 5 → es.length = 1 := fun h => by have := hmp.1; rw [h] at this; simpa using this
    have HM5 := hid hm5
    clear ih0 hmp hm5
    obtain ⟨ve, vn, rfl, hE, hN⟩ := hx.out
    obtain ⟨ve', vn', rfl, hE', hN'⟩ := hy.out
    obtain ⟨oe, ce, rfl⟩ := hE.len
    obtain ⟨on, cn, rfl⟩ := hN.len
    obtain ⟨oe', ce', rfl⟩ := hE'.len
    obtain ⟨on', cn', rfl⟩ := hN'.len
    have hle := hE.le
    have hln := hN.le
    have hle' := hE'.le
    have hln' := hN'.le
    obtain ⟨hB1, a0, a1, a2, hz1⟩ := box3 w (.int .i64 k) (.slice oe es.length ce) (.slice on ns.length cn) 26
    obtain ⟨hB2, b0, b1, b2, hz2⟩ := box3 (w.alloc (.cells #[.int .i64 k, .slice oe es.length ce, .slice on ns.length cn] 26)) (.int .i64 k') (.slice oe' es'.length ce') (.slice on' ns'.length cn') 26
    have p0 := bcell hB2 a0
    have p1 := bcell hB2 a1
    have p2 := bcell hB2 a2
    rw [show (w.alloc (.cells #[.int .i64 k, .slice oe es.length ce, .slice on ns.length cn] 26)).heap.size = w.heap.size + 1 by simp] at b0 b1 b2
    have hBB := hB1.trans (hB2.mono hB1.size)
    have hE2 := (hE.bel hB1).bel hB2
    have hN2 := (hN.bel hB1).bel hB2
    have hE2' := (hE'.bel hB1).bel hB2
    have hN2' := (hN'.bel hB1).bel hB2
    generalize hW : (w.alloc (.cells #[.int .i64 k, .slice oe es.length ce, .slice on ns.length cn] 26)).alloc (.cells #[.int .i64 k', .slice oe' es'.length ce', .slice on' ns'.length cn'] 26) = W at *
    have HW := hid hW
    have HB := hid hBB
    have HE := hid hE2
    have HN := hid hN2
    have HE' := hid hE2'
    have HN' := hid hN2'
    have P0 := hid p0
    have P1 := hid p1
    have P2 := hid p2
    have Q0 := hid b0
    have Q1 := hid b1
    have Q2 := hid b2
    clear hE hN hE' hN' hB1 hB2 a0 a1 a2 b0 b1 b2 p0 p1 p2 hBB hE2 hN2 hE2' hN2' hW hx hy hz1 hz2
    have HI := hid ih
    clear ih
    by_cases h0 : k = 0
    · subst h0
      have hp := inclT_0 es ns (.mk k' es' ns')
      have HP := hid hp
      clear hp
      go_enter Tryd.func20, Tryd.ntmps20
      go_wp2_with fail
      go_ret
      exact ⟨by rw [HP.out]; rfl, by rw [HW.out]; exact HB.out⟩
    by_cases h5 : k = 5
    · by_cases h6 : k' = 6
      · subst h5 h6
        match es, HM5.out rfl with
        | [x0], _ =>
        have hp := inclT_m x0 ns es' ns'
        have HP := hid hp
        simp only [List.length_singleton] at HW P1 HE
        clear hp h0
        go_enter Tryd.func20, Tryd.ntmps20
        go_wp2_with fail
        rw [HW.out]
        go_loopw [5] (fun i wr => ∃ j : Nat, j ≤ es'.length ∧ i = .int .i64 j ∧ Hid (Below W.heap.size W wr) ∧ Hid ((es'.drop j).all (inclT x0) = es'.all (inclT x0))) (fun i _ => es'.length - (intOf i).toNat)
        case atStart => exact ⟨0, Nat.zero_le _, rfl, hid (Below.refl _ _), hid rfl⟩
        case round =>
          obtain ⟨j, hj, rfl, B, A⟩ := hrel
          have p1 := bcell B.out P1.out
          have q1 := bcell B.out Q1.out
          by_cases hlt : j < es'.length
          · obtain ⟨g1, o1, c1, k1, oy1, my1, cy1, oz1, mz1, cz1, e1, a1, a2, a3, hT1⟩ := (HE.out.bel B.out).at2 (k := 0) (by simp)
            obtain ⟨g2, o2, c2, k2, oy2, my2, cy2, oz2, mz2, cz2, e2, b1, b2, b3, hT2⟩ := (HE'.out.bel B.out).at2 hlt
            cases e1
            cases e2
            simp only [Nat.zero_mul, Nat.add_zero, List.getElem_cons_zero] at a1 a2 a3 hT1
            have hj0 : (0 : Int) ≤ (j : Int) := by omega
            have hj1 : (j : Int) < (es'.length : Int) := by omega
            have hstep := all_drop (f := inclT x0) hlt
            rw [A.out] at hstep
            have hcall := HI.out x0 (List.mem_singleton_self _) es'[j] P Q wr.drew _ _ (hT1.bel (below_drew (Below.refl _ _))) (hT2.bel (below_drew (Below.refl _ _)))
            have HCall := hid hcall
            clear hcall hT1 hT2 A
            cases hfe : inclT x0 es'[j] with
            | false =>
              rw [hfe, Bool.false_and] at hstep
              rw [hfe] at HCall
              have HS := hid hstep
              clear hfe hstep
              go_wp2_with fail
              refine wp_region_steady (fun v => v.cell? ⟨w.heap.size, 1, none⟩ = some (.slice (some ⟨g1, o1, none⟩) 1 ce) ∧ v.cell? ⟨w.heap.size + 1, 1, none⟩ = some (.slice (some ⟨g2, o2, none⟩) es'.length ce') ∧ v.cell? ⟨g1, o1, none⟩ = some (.int .i64 k1) ∧ v.cell? ⟨g1, o1 + 1, none⟩ = some (.slice oy1 my1 cy1) ∧ v.cell? ⟨g1, o1 + 2, none⟩ = some (.slice oz1 mz1 cz1) ∧ v.cell? ⟨g2, o2 + j * 3, none⟩ = some (.int .i64 k2) ∧ v.cell? ⟨g2, o2 + j * 3 + 1, none⟩ = some (.slice oy2 my2 cy2) ∧ v.cell? ⟨g2, o2 + j * 3 + 2, none⟩ = some (.slice oz2 mz2 cz2)) (by kernel_rfl) (by kernel_rfl) (⟨p1, q1, a1, a2, a3, b1, b2, b3⟩) ?_
              repeat (first
                | (refine wpSteady_skip (by rfl) ?_; try simp only [Act.put, List.setIfInBounds_toArray, List.set_cons_zero, List.set_cons_succ])
                | (refine wpSteady_calm (v := ?_) (by rfl) ?_ ?_; rotate_left; (focus (intro v hSv; (try dsimp only at hSv); go_simp; (try with_reducible rfl); done)); try simp only [Act.put, List.setIfInBounds_toArray, List.set_cons_zero, List.set_cons_succ]))
              refine wpSteady_loud rfl (by rfl) (fun K hK => ?_)
              go_simp
              refine HCall.out.mono ?_; rintro e w4 ⟨rfl, hb4⟩
              have HB4 := hid ((below_drew B.out).trans (hb4.mono (below_drew B.out).size))
              have r1 := bcell (W := wr.drew) hb4 p1
              have r2 := bcell (W := wr.drew) hb4 q1
              have r3 := bcell (W := wr.drew) hb4 a1
              have r4 := bcell (W := wr.drew) hb4 a2
              have r5 := bcell (W := wr.drew) hb4 a3
              have r6 := bcell (W := wr.drew) hb4 b1
              have r7 := bcell (W := wr.drew) hb4 b2
              have r8 := bcell (W := wr.drew) hb4 b3
              clear hb4
              refine hK.out _ _ (⟨r1, r2, r3, r4, r5, r6, r7, r8⟩) ?_
              clear hK K
              try simp only [Act.put, List.setIfInBounds_toArray, List.set_cons_zero, List.set_cons_succ]
              repeat (first
                | (refine wpSteady_skip (by rfl) ?_; try simp only [Act.put, List.setIfInBounds_toArray, List.set_cons_zero, List.set_cons_succ])
                | (refine wpSteady_calm (v := ?_) (by rfl) ?_ ?_; rotate_left; (focus (intro v hSv; (try dsimp only at hSv); go_simp; (try with_reducible rfl); done)); try simp only [Act.put, List.setIfInBounds_toArray, List.set_cons_zero, List.set_cons_succ]))
              refine wpSteady_nil ?_
              go_wp2_with fail
              go_ret
              exact ⟨by rw [HP.out, HS.out]; rfl, HB.out.trans (HB4.out.mono HB.out.size)⟩
            | true =>
              rw [hfe, Bool.true_and] at hstep
              rw [hfe] at HCall
              have HS := hid hstep
              clear hfe hstep
              go_wp2_with fail
              refine wp_region_steady (fun v => v.cell? ⟨w.heap.size, 1, none⟩ = some (.slice (some ⟨g1, o1, none⟩) 1 ce) ∧ v.cell? ⟨w.heap.size + 1, 1, none⟩ = some (.slice (some ⟨g2, o2, none⟩) es'.length ce') ∧ v.cell? ⟨g1, o1, none⟩ = some (.int .i64 k1) ∧ v.cell? ⟨g1, o1 + 1, none⟩ = some (.slice oy1 my1 cy1) ∧ v.cell? ⟨g1, o1 + 2, none⟩ = some (.slice oz1 mz1 cz1) ∧ v.cell? ⟨g2, o2 + j * 3, none⟩ = some (.int .i64 k2) ∧ v.cell? ⟨g2, o2 + j * 3 + 1, none⟩ = some (.slice oy2 my2 cy2) ∧ v.cell? ⟨g2, o2 + j * 3 + 2, none⟩ = some (.slice oz2 mz2 cz2)) (by kernel_rfl) (by kernel_rfl) (⟨p1, q1, a1, a2, a3, b1, b2, b3⟩) ?_
              repeat (first
                | (refine wpSteady_skip (by rfl) ?_; try simp only [Act.put, List.setIfInBounds_toArray, List.set_cons_zero, List.set_cons_succ])
                | (refine wpSteady_calm (v := ?_) (by rfl) ?_ ?_; rotate_left; (focus (intro v hSv; (try dsimp only at hSv); go_simp; (try with_reducible rfl); done)); try simp only [Act.put, List.setIfInBounds_toArray, List.set_cons_zero, List.set_cons_succ]))
              refine wpSteady_loud rfl (by rfl) (fun K hK => ?_)
              go_simp
              refine HCall.out.mono ?_; rintro e w4 ⟨rfl, hb4⟩
              have HB4 := hid ((below_drew B.out).trans (hb4.mono (below_drew B.out).size))
              have r1 := bcell (W := wr.drew) hb4 p1
              have r2 := bcell (W := wr.drew) hb4 q1
              have r3 := bcell (W := wr.drew) hb4 a1
              have r4 := bcell (W := wr.drew) hb4 a2
              have r5 := bcell (W := wr.drew) hb4 a3
              have r6 := bcell (W := wr.drew) hb4 b1
              have r7 := bcell (W := wr.drew) hb4 b2
              have r8 := bcell (W := wr.drew) hb4 b3
              clear hb4
              refine hK.out _ _ (⟨r1, r2, r3, r4, r5, r6, r7, r8⟩) ?_
              clear hK K
              try simp only [Act.put, List.setIfInBounds_toArray, List.set_cons_zero, List.set_cons_succ]
              repeat (first
                | (refine wpSteady_skip (by rfl) ?_; try simp only [Act.put, List.setIfInBounds_toArray, List.set_cons_zero, List.set_cons_succ])
                | (refine wpSteady_calm (v := ?_) (by rfl) ?_ ?_; rotate_left; (focus (intro v hSv; (try dsimp only at hSv); go_simp; (try with_reducible rfl); done)); try simp only [Act.put, List.setIfInBounds_toArray, List.set_cons_zero, List.set_cons_succ]))
              refine wpSteady_nil ?_
              go_wp2_with fail
              go_roundw
              case rel => exact ⟨j + 1, by omega, by go_num, HB4, hid HS.out.symm⟩
              case measure => simp [intOf]; omega
          · have hfin : inclT (.mk 5 [x0] ns) (.mk 6 es' ns') = true := by
              rw [HP.out, ← A.out, List.drop_eq_nil_of_le (by omega)]; rfl
            have HFin := hid hfin
            clear hfin
            go_wp2_with fail
            go_ret
            exact ⟨by rw [HFin.out]; rfl, HB.out.trans (B.out.mono HB.out.size)⟩
      · have hno : ¬(k = 5 ∧ k' = 6) := fun h => h6 h.2
        have d6 : decide (k' = 6) = false := decide_eq_false h6
        have e6 : (k' == 6) = false := beq_eq_false_iff_ne.2 h6
        have d5 : decide (k = 5) = true := decide_eq_true h5
        have e5 : (k == 5) = true := beq_iff_eq.2 h5
        clear h5 h6
        have d0 : decide (k = 0) = false := decide_eq_false h0
        have e0 : (k == 0) = false := beq_eq_false_iff_ne.2 h0
        have hq := inclT_o h0 hno es ns es' ns'
        have HQ := hid hq
        clear hq
        by_cases hk : k = k'
        case neg =>
          have hp : inclT (.mk k es ns) (.mk k' es' ns') = false := by rw [HQ.out, decide_eq_false hk]; rfl
          have HP := hid hp
          have f1 : decide (k = k') = false := decide_eq_false hk
          have f2 : (k == k') = false := beq_eq_false_iff_ne.2 hk
          have f3 : (k != k') = true := by rw [bne, f2]; rfl
          clear hp hk
          go_enter Tryd.func20, Tryd.ntmps20
          go_wp2_with fail
          go_ret
          exact ⟨by rw [HP.out]; rfl, by rw [HW.out]; exact HB.out⟩
        subst hk
        by_cases hne : es.length = es'.length
        case neg =>
          have hp : inclT (.mk k es ns) (.mk k es' ns') = false := by rw [HQ.out, eqF_len hne]; simp
          have HP := hid hp
          have hb1 : decide ((es.length : Int) = (es'.length : Int)) = false := decide_eq_false (by omega)
          have hb3 : ((es.length : Int) == (es'.length : Int)) = false := beq_eq_false_iff_ne.2 (by omega)
          have hb2 : ((es.length : Int) != (es'.length : Int)) = true := by rw [bne, hb3]; rfl
          clear hp hne
          go_enter Tryd.func20, Tryd.ntmps20
          go_wp2_with fail
          go_ret
          exact ⟨by rw [HP.out]; rfl, by rw [HW.out]; exact HB.out⟩
        have HL := hid hne
        have HS := hid (same_any P Q W _ _ ns ns' HN.out HN'.out)
        have HLE : Hid (LV Q W (.slice oe' es.length ce') es') := by rw [hne]; exact HE'
        rw [← hne] at HW Q1
        clear hne HE'
        cases hd : decide (ns = ns') with
        | false =>
          have hp : inclT (.mk k es ns) (.mk k es' ns') = false := by rw [HQ.out, hd]; simp
          have HP := hid hp
          rw [hd] at HS
          clear hp hd
          rw [← HL.out]
          go_enter Tryd.func20, Tryd.ntmps20
          go_wp2_with fail
          rw [HW.out]
          refine HS.out.mono ?_; rintro e w2 ⟨rfl, hb2⟩
          have HB2 := hid (HB.out.trans (hb2.mono HB.out.size))
          clear hb2
          go_wp2_with fail
          go_ret
          exact ⟨by rw [HP.out]; rfl, HB2.out⟩
        | true =>
          have hp : inclT (.mk k es ns) (.mk k es' ns') = eqF inclT es es' := by rw [HQ.out, hd]; simp
          have HP := hid hp
          rw [hd] at HS
          clear hp hd
          rw [← HL.out]
          go_enter Tryd.func20, Tryd.ntmps20
          go_wp2_with fail
          rw [HW.out]
          refine HS.out.mono ?_; rintro e w2 ⟨rfl, hb2⟩
          have HB2 := hid (HB.out.trans (hb2.mono HB.out.size))
          have HEa := hid (HE.out.bel hb2)
          have HEb := hid (HLE.out.bel hb2)
          have P1' := hid (bcell hb2 P1.out)
          have Q1' := hid (bcell hb2 Q1.out)
          clear hb2
          go_wp2_with fail
          go_loopw [6] (fun i wr => ∃ j : Nat, j ≤ es.length ∧ i = .int .i64 j ∧ Hid (Below w2.heap.size w2 wr) ∧ Hid (eqF inclT (es.drop j) (es'.drop j) = eqF inclT es es')) (fun i _ => es.length - (intOf i).toNat)
          case atStart => exact ⟨0, Nat.zero_le _, rfl, hid (Below.refl _ _), hid rfl⟩
          case round =>
            obtain ⟨j, hj, rfl, B, A⟩ := hrel
            have p1 := bcell B.out P1'.out
            have q1 := bcell B.out Q1'.out
            by_cases hlt : j < es.length
            · have hltb : j < es'.length := by rw [← HL.out]; exact hlt
              obtain ⟨g1, o1, c1, k1, oy1, my1, cy1, oz1, mz1, cz1, e1, a1, a2, a3, hT1⟩ := (HEa.out.bel B.out).at2 hlt
              obtain ⟨g2, o2, c2, k2, oy2, my2, cy2, oz2, mz2, cz2, e2, b1, b2, b3, hT2⟩ := (HEb.out.bel B.out).at2 hltb
              cases e1
              rw [← HL.out] at e2
              cases e2
              have hj0 : (0 : Int) ≤ (j : Int) := by omega
              have hj1 : (j : Int) < (es.length : Int) := by omega
              have hstep := eqF_drop (f := inclT) hlt hltb
              rw [A.out] at hstep
              have hcall := HI.out es[j] (List.getElem_mem hlt) es'[j] P Q wr.drew _ _ (hT1.bel (below_drew (Below.refl _ _))) (hT2.bel (below_drew (Below.refl _ _)))
              have HCall := hid hcall
              clear hcall hT1 hT2 A
              cases hfe : inclT es[j] es'[j] with
              | false =>
                rw [hfe, Bool.false_and] at hstep
                rw [hfe] at HCall
                have HS := hid hstep
                clear hfe hstep
                go_wp2_with fail
                refine wp_region_steady (fun v => v.cell? ⟨w.heap.size, 1, none⟩ = some (.slice (some ⟨g1, o1, none⟩) es.length ce) ∧ v.cell? ⟨w.heap.size + 1, 1, none⟩ = some (.slice (some ⟨g2, o2, none⟩) es.length ce') ∧ v.cell? ⟨g1, o1 + j * 3, none⟩ = some (.int .i64 k1) ∧ v.cell? ⟨g1, o1 + j * 3 + 1, none⟩ = some (.slice oy1 my1 cy1) ∧ v.cell? ⟨g1, o1 + j * 3 + 2, none⟩ = some (.slice oz1 mz1 cz1) ∧ v.cell? ⟨g2, o2 + j * 3, none⟩ = some (.int .i64 k2) ∧ v.cell? ⟨g2, o2 + j * 3 + 1, none⟩ = some (.slice oy2 my2 cy2) ∧ v.cell? ⟨g2, o2 + j * 3 + 2, none⟩ = some (.slice oz2 mz2 cz2)) (by kernel_rfl) (by kernel_rfl) (⟨p1, q1, a1, a2, a3, b1, b2, b3⟩) ?_
                repeat (first
                  | (refine wpSteady_skip (by rfl) ?_; try simp only [Act.put, List.setIfInBounds_toArray, List.set_cons_zero, List.set_cons_succ])
                  | (refine wpSteady_calm (v := ?_) (by rfl) ?_ ?_; rotate_left; (focus (intro v hSv; (try dsimp only at hSv); go_simp; (try with_reducible rfl); done)); try simp only [Act.put, List.setIfInBounds_toArray, List.set_cons_zero, List.set_cons_succ]))
                refine wpSteady_loud rfl (by rfl) (fun K hK => ?_)
                go_simp
                refine HCall.out.mono ?_; rintro e w4 ⟨rfl, hb4⟩
                have HB4 := hid ((below_drew B.out).trans (hb4.mono (below_drew B.out).size))
                have r1 := bcell (W := wr.drew) hb4 p1
                have r2 := bcell (W := wr.drew) hb4 q1
                have r3 := bcell (W := wr.drew) hb4 a1
                have r4 := bcell (W := wr.drew) hb4 a2
                have r5 := bcell (W := wr.drew) hb4 a3
                have r6 := bcell (W := wr.drew) hb4 b1
                have r7 := bcell (W := wr.drew) hb4 b2
                have r8 := bcell (W := wr.drew) hb4 b3
                clear hb4
                refine hK.out _ _ (⟨r1, r2, r3, r4, r5, r6, r7, r8⟩) ?_
                clear hK K
                try simp only [Act.put, List.setIfInBounds_toArray, List.set_cons_zero, List.set_cons_succ]
                repeat (first
                  | (refine wpSteady_skip (by rfl) ?_; try simp only [Act.put, List.setIfInBounds_toArray, List.set_cons_zero, List.set_cons_succ])
                  | (refine wpSteady_calm (v := ?_) (by rfl) ?_ ?_; rotate_left; (focus (intro v hSv; (try dsimp only at hSv); go_simp; (try with_reducible rfl); done)); try simp only [Act.put, List.setIfInBounds_toArray, List.set_cons_zero, List.set_cons_succ]))
                refine wpSteady_nil ?_
                go_wp2_with fail
                go_ret
                exact ⟨by rw [HP.out, HS.out]; rfl, HB2.out.trans (HB4.out.mono HB2.out.size)⟩
              | true =>
                rw [hfe, Bool.true_and] at hstep
                rw [hfe] at HCall
                have HS := hid hstep
                clear hfe hstep
                go_wp2_with fail
                refine wp_region_steady (fun v => v.cell? ⟨w.heap.size, 1, none⟩ = some (.slice (some ⟨g1, o1, none⟩) es.length ce) ∧ v.cell? ⟨w.heap.size + 1, 1, none⟩ = some (.slice (some ⟨g2, o2, none⟩) es.length ce') ∧ v.cell? ⟨g1, o1 + j * 3, none⟩ = some (.int .i64 k1) ∧ v.cell? ⟨g1, o1 + j * 3 + 1, none⟩ = some (.slice oy1 my1 cy1) ∧ v.cell? ⟨g1, o1 + j * 3 + 2, none⟩ = some (.slice oz1 mz1 cz1) ∧ v.cell? ⟨g2, o2 + j * 3, none⟩ = some (.int .i64 k2) ∧ v.cell? ⟨g2, o2 + j * 3 + 1, none⟩ = some (.slice oy2 my2 cy2) ∧ v.cell? ⟨g2, o2 + j * 3 + 2, none⟩ = some (.slice oz2 mz2 cz2)) (by kernel_rfl) (by kernel_rfl) (⟨p1, q1, a1, a2, a3, b1, b2, b3⟩) ?_
                repeat (first
                  | (refine wpSteady_skip (by rfl) ?_; try simp only [Act.put, List.setIfInBounds_toArray, List.set_cons_zero, List.set_cons_succ])
                  | (refine wpSteady_calm (v := ?_) (by rfl) ?_ ?_; rotate_left; (focus (intro v hSv; (try dsimp only at hSv); go_simp; (try with_reducible rfl); done)); try simp only [Act.put, List.setIfInBounds_toArray, List.set_cons_zero, List.set_cons_succ]))
                refine wpSteady_loud rfl (by rfl) (fun K hK => ?_)
                go_simp
                refine HCall.out.mono ?_; rintro e w4 ⟨rfl, hb4⟩
                have HB4 := hid ((below_drew B.out).trans (hb4.mono (below_drew B.out).size))
                have r1 := bcell (W := wr.drew) hb4 p1
                have r2 := bcell (W := wr.drew) hb4 q1
                have r3 := bcell (W := wr.drew) hb4 a1
                have r4 := bcell (W := wr.drew) hb4 a2
                have r5 := bcell (W := wr.drew) hb4 a3
                have r6 := bcell (W := wr.drew) hb4 b1
                have r7 := bcell (W := wr.drew) hb4 b2
                have r8 := bcell (W := wr.drew) hb4 b3
                clear hb4
                refine hK.out _ _ (⟨r1, r2, r3, r4, r5, r6, r7, r8⟩) ?_
                clear hK K
                try simp only [Act.put, List.setIfInBounds_toArray, List.set_cons_zero, List.set_cons_succ]
                repeat (first
                  | (refine wpSteady_skip (by rfl) ?_; try simp only [Act.put, List.setIfInBounds_toArray, List.set_cons_zero, List.set_cons_succ])
                  | (refine wpSteady_calm (v := ?_) (by rfl) ?_ ?_; rotate_left; (focus (intro v hSv; (try dsimp only at hSv); go_simp; (try with_reducible rfl); done)); try simp only [Act.put, List.setIfInBounds_toArray, List.set_cons_zero, List.set_cons_succ]))
                refine wpSteady_nil ?_
                go_wp2_with fail
                go_roundw
                case rel => exact ⟨j + 1, by omega, by go_num, HB4, hid HS.out.symm⟩
                case measure => simp [intOf]; omega
            · have hfin : inclT (.mk k es ns) (.mk k es' ns') = true := by
                rw [HP.out, ← A.out, List.drop_eq_nil_of_le (by omega), List.drop_eq_nil_of_le (by have := HL.out; omega), eqF]
              have HFin := hid hfin
              clear hfin
              go_wp2_with fail
              go_ret
              exact ⟨by rw [HFin.out]; rfl, HB2.out.trans (B.out.mono HB2.out.size)⟩
    · have hno : ¬(k = 5 ∧ k' = 6) := fun h => h5 h.1
      have d5 : decide (k = 5) = false := decide_eq_false h5
      have e5 : (k == 5) = false := beq_eq_false_iff_ne.2 h5
      have d0 : decide (k = 0) = false := decide_eq_false h0
      have e0 : (k == 0) = false := beq_eq_false_iff_ne.2 h0
      have hq := inclT_o h0 hno es ns es' ns'
      have HQ := hid hq
      clear hq
      by_cases hk : k = k'
      case neg =>
        have hp : inclT (.mk k es ns) (.mk k' es' ns') = false := by rw [HQ.out, decide_eq_false hk]; rfl
        have HP := hid hp
        have f1 : decide (k = k') = false := decide_eq_false hk
        have f2 : (k == k') = false := beq_eq_false_iff_ne.2 hk
        have f3 : (k != k') = true := by rw [bne, f2]; rfl
        clear hp hk
        go_enter Tryd.func20, Tryd.ntmps20
        go_wp2_with fail
        go_ret
        exact ⟨by rw [HP.out]; rfl, by rw [HW.out]; exact HB.out⟩
      subst hk
      by_cases hne : es.length = es'.length
      case neg =>
        have hp : inclT (.mk k es ns) (.mk k es' ns') = false := by rw [HQ.out, eqF_len hne]; simp
        have HP := hid hp
        have hb1 : decide ((es.length : Int) = (es'.length : Int)) = false := decide_eq_false (by omega)
        have hb3 : ((es.length : Int) == (es'.length : Int)) = false := beq_eq_false_iff_ne.2 (by omega)
        have hb2 : ((es.length : Int) != (es'.length : Int)) = true := by rw [bne, hb3]; rfl
        clear hp hne
        go_enter Tryd.func20, Tryd.ntmps20
        go_wp2_with fail
        go_ret
        exact ⟨by rw [HP.out]; rfl, by rw [HW.out]; exact HB.out⟩
      have HL := hid hne
      have HS := hid (same_any P Q W _ _ ns ns' HN.out HN'.out)
      have HLE : Hid (LV Q W (.slice oe' es.length ce') es') := by rw [hne]; exact HE'
      rw [← hne] at HW Q1
      clear hne HE'
      cases hd : decide (ns = ns') with
      | false =>
        have hp : inclT (.mk k es ns) (.mk k es' ns') = false := by rw [HQ.out, hd]; simp
        have HP := hid hp
        rw [hd] at HS
        clear hp hd
        rw [← HL.out]
        go_enter Tryd.func20, Tryd.ntmps20
        go_wp2_with fail
        rw [HW.out]
        refine HS.out.mono ?_; rintro e w2 ⟨rfl, hb2⟩
        have HB2 := hid (HB.out.trans (hb2.mono HB.out.size))
        clear hb2
        go_wp2_with fail
        go_ret
        exact ⟨by rw [HP.out]; rfl, HB2.out⟩
      | true =>
        have hp : inclT (.mk k es ns) (.mk k es' ns') = eqF inclT es es' := by rw [HQ.out, hd]; simp
        have HP := hid hp
        rw [hd] at HS
        clear hp hd
        rw [← HL.out]
        go_enter Tryd.func20, Tryd.ntmps20
        go_wp2_with fail
        rw [HW.out]
        refine HS.out.mono ?_; rintro e w2 ⟨rfl, hb2⟩
        have HB2 := hid (HB.out.trans (hb2.mono HB.out.size))
        have HEa := hid (HE.out.bel hb2)
        have HEb := hid (HLE.out.bel hb2)
        have P1' := hid (bcell hb2 P1.out)
        have Q1' := hid (bcell hb2 Q1.out)
        clear hb2
        go_wp2_with fail
        go_loopw [6] (fun i wr => ∃ j : Nat, j ≤ es.length ∧ i = .int .i64 j ∧ Hid (Below w2.heap.size w2 wr) ∧ Hid (eqF inclT (es.drop j) (es'.drop j) = eqF inclT es es')) (fun i _ => es.length - (intOf i).toNat)
        case atStart => exact ⟨0, Nat.zero_le _, rfl, hid (Below.refl _ _), hid rfl⟩
        case round =>
          obtain ⟨j, hj, rfl, B, A⟩ := hrel
          have p1 := bcell B.out P1'.out
          have q1 := bcell B.out Q1'.out
          by_cases hlt : j < es.length
          · have hltb : j < es'.length := by rw [← HL.out]; exact hlt
            obtain ⟨g1, o1, c1, k1, oy1, my1, cy1, oz1, mz1, cz1, e1, a1, a2, a3, hT1⟩ := (HEa.out.bel B.out).at2 hlt
            obtain ⟨g2, o2, c2, k2, oy2, my2, cy2, oz2, mz2, cz2, e2, b1, b2, b3, hT2⟩ := (HEb.out.bel B.out).at2 hltb
            cases e1
            rw [← HL.out] at e2
            cases e2
            have hj0 : (0 : Int) ≤ (j : Int) := by omega
            have hj1 : (j : Int) < (es.length : Int) := by omega
            have hstep := eqF_drop (f := inclT) hlt hltb
            rw [A.out] at hstep
            have hcall := HI.out es[j] (List.getElem_mem hlt) es'[j] P Q wr.drew _ _ (hT1.bel (below_drew (Below.refl _ _))) (hT2.bel (below_drew (Below.refl _ _)))
            have HCall := hid hcall
            clear hcall hT1 hT2 A
            cases hfe : inclT es[j] es'[j] with
            | false =>
              rw [hfe, Bool.false_and] at hstep
              rw [hfe] at HCall
              have HS := hid hstep
              clear hfe hstep
              go_wp2_with fail
              refine wp_region_steady (fun v => v.cell? ⟨w.heap.size, 1, none⟩ = some (.slice (some ⟨g1, o1, none⟩) es.length ce) ∧ v.cell? ⟨w.heap.size + 1, 1, none⟩ = some (.slice (some ⟨g2, o2, none⟩) es.length ce') ∧ v.cell? ⟨g1, o1 + j * 3, none⟩ = some (.int .i64 k1) ∧ v.cell? ⟨g1, o1 + j * 3 + 1, none⟩ = some (.slice oy1 my1 cy1) ∧ v.cell? ⟨g1, o1 + j * 3 + 2, none⟩ = some (.slice oz1 mz1 cz1) ∧ v.cell? ⟨g2, o2 + j * 3, none⟩ = some (.int .i64 k2) ∧ v.cell? ⟨g2, o2 + j * 3 + 1, none⟩ = some (.slice oy2 my2 cy2) ∧ v.cell? ⟨g2, o2 + j * 3 + 2, none⟩ = some (.slice oz2 mz2 cz2)) (by kernel_rfl) (by kernel_rfl) (⟨p1, q1, a1, a2, a3, b1, b2, b3⟩) ?_
              repeat (first
                | (refine wpSteady_skip (by rfl) ?_; try simp only [Act.put, List.setIfInBounds_toArray, List.set_cons_zero, List.set_cons_succ])
                | (refine wpSteady_calm (v := ?_) (by rfl) ?_ ?_; rotate_left; (focus (intro v hSv; (try dsimp only at hSv); go_simp; (try with_reducible rfl); done)); try simp only [Act.put, List.setIfInBounds_toArray, List.set_cons_zero, List.set_cons_succ]))
              refine wpSteady_loud rfl (by rfl) (fun K hK => ?_)
              go_simp
              refine HCall.out.mono ?_; rintro e w4 ⟨rfl, hb4⟩
              have HB4 := hid ((below_drew B.out).trans (hb4.mono (below_drew B.out).size))
              have r1 := bcell (W := wr.drew) hb4 p1
              have r2 := bcell (W := wr.drew) hb4 q1
              have r3 := bcell (W := wr.drew) hb4 a1
              have r4 := bcell (W := wr.drew) hb4 a2
              have r5 := bcell (W := wr.drew) hb4 a3
              have r6 := bcell (W := wr.drew) hb4 b1
              have r7 := bcell (W := wr.drew) hb4 b2
              have r8 := bcell (W := wr.drew) hb4 b3
              clear hb4
              refine hK.out _ _ (⟨r1, r2, r3, r4, r5, r6, r7, r8⟩) ?_
              clear hK K
              try simp only [Act.put, List.setIfInBounds_toArray, List.set_cons_zero, List.set_cons_succ]
              repeat (first
                | (refine wpSteady_skip (by rfl) ?_; try simp only [Act.put, List.setIfInBounds_toArray, List.set_cons_zero, List.set_cons_succ])
                | (refine wpSteady_calm (v := ?_) (by rfl) ?_ ?_; rotate_left; (focus (intro v hSv; (try dsimp only at hSv); go_simp; (try with_reducible rfl); done)); try simp only [Act.put, List.setIfInBounds_toArray, List.set_cons_zero, List.set_cons_succ]))
              refine wpSteady_nil ?_
              go_wp2_with fail
              go_ret
              exact ⟨by rw [HP.out, HS.out]; rfl, HB2.out.trans (HB4.out.mono HB2.out.size)⟩
            | true =>
              rw [hfe, Bool.true_and] at hstep
              rw [hfe] at HCall
              have HS := hid hstep
              clear hfe hstep
              go_wp2_with fail
              refine wp_region_steady (fun v => v.cell? ⟨w.heap.size, 1, none⟩ = some (.slice (some ⟨g1, o1, none⟩) es.length ce) ∧ v.cell? ⟨w.heap.size + 1, 1, none⟩ = some (.slice (some ⟨g2, o2, none⟩) es.length ce') ∧ v.cell? ⟨g1, o1 + j * 3, none⟩ = some (.int .i64 k1) ∧ v.cell? ⟨g1, o1 + j * 3 + 1, none⟩ = some (.slice oy1 my1 cy1) ∧ v.cell? ⟨g1, o1 + j * 3 + 2, none⟩ = some (.slice oz1 mz1 cz1) ∧ v.cell? ⟨g2, o2 + j * 3, none⟩ = some (.int .i64 k2) ∧ v.cell? ⟨g2, o2 + j * 3 + 1, none⟩ = some (.slice oy2 my2 cy2) ∧ v.cell? ⟨g2, o2 + j * 3 + 2, none⟩ = some (.slice oz2 mz2 cz2)) (by kernel_rfl) (by kernel_rfl) (⟨p1, q1, a1, a2, a3, b1, b2, b3⟩) ?_
              repeat (first
                | (refine wpSteady_skip (by rfl) ?_; try simp only [Act.put, List.setIfInBounds_toArray, List.set_cons_zero, List.set_cons_succ])
                | (refine wpSteady_calm (v := ?_) (by rfl) ?_ ?_; rotate_left; (focus (intro v hSv; (try dsimp only at hSv); go_simp; (try with_reducible rfl); done)); try simp only [Act.put, List.setIfInBounds_toArray, List.set_cons_zero, List.set_cons_succ]))
              refine wpSteady_loud rfl (by rfl) (fun K hK => ?_)
              go_simp
              refine HCall.out.mono ?_; rintro e w4 ⟨rfl, hb4⟩
              have HB4 := hid ((below_drew B.out).trans (hb4.mono (below_drew B.out).size))
              have r1 := bcell (W := wr.drew) hb4 p1
              have r2 := bcell (W := wr.drew) hb4 q1
              have r3 := bcell (W := wr.drew) hb4 a1
              have r4 := bcell (W := wr.drew) hb4 a2
              have r5 := bcell (W := wr.drew) hb4 a3
              have r6 := bcell (W := wr.drew) hb4 b1
              have r7 := bcell (W := wr.drew) hb4 b2
              have r8 := bcell (W := wr.drew) hb4 b3
              clear hb4
              refine hK.out _ _ (⟨r1, r2, r3, r4, r5, r6, r7, r8⟩) ?_
              clear hK K
              try simp only [Act.put, List.setIfInBounds_toArray, List.set_cons_zero, List.set_cons_succ]
              repeat (first
                | (refine wpSteady_skip (by rfl) ?_; try simp only [Act.put, List.setIfInBounds_toArray, List.set_cons_zero, List.set_cons_succ])
                | (refine wpSteady_calm (v := ?_) (by rfl) ?_ ?_; rotate_left; (focus (intro v hSv; (try dsimp only at hSv); go_simp; (try with_reducible rfl); done)); try simp only [Act.put, List.setIfInBounds_toArray, List.set_cons_zero, List.set_cons_succ]))
              refine wpSteady_nil ?_
              go_wp2_with fail
              go_roundw
              case rel => exact ⟨j + 1, by omega, by go_num, HB4, hid HS.out.symm⟩
              case measure => simp [intOf]; omega
          · have hfin : inclT (.mk k es ns) (.mk k es' ns') = true := by
              rw [HP.out, ← A.out, List.drop_eq_nil_of_le (by omega), List.drop_eq_nil_of_le (by have := HL.out; omega), eqF]
            have HFin := hid hfin
            clear hfin
            go_wp2_with fail
            go_ret
            exact ⟨by rw [HFin.out]; rfl, HB2.out.trans (B.out.mono HB2.out.size)⟩
end Go.Proofs.YtfljnigbfacmjaaDoor
