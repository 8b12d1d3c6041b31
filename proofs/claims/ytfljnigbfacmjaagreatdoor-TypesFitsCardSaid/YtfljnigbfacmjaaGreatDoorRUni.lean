/- Unify of the reference. -/
import Derived.Test.YtfljnigbfacmjaaGreatDoorUni
import Derived.Test.YtfljnigbfacmjaaGreatDoorSteady
namespace Go.Proofs.YtfljnigbfacmjaaGreatDoor
open Go Go.RowKit Go.Proofs.YtfljnigbfacmjaaGreatDoor.Steady
set_option linter.unusedVariables false

def UniRet (N : Nat) (t : Ty) (w : World) (e : Ending) (w' : World) : Prop := ∃ v, e = .returned v ∧ TV (fun g => g < N ∨ w.heap.size ≤ g) w' v t ∧ Below w.heap.size w w'
def RUniOk (a : Ty) : Prop := ∀ (b : Ty) (N : Nat) (Q : Nat → Prop) (w : World) (x y : Value), TV (fun g => g < N) w x a → TV Q w y b → N ≤ w.heap.size → sizeT a ≤ 1000000 → namesT a ≤ 1000000 →
  Calls Tryz.prog 73 #[x, y] w (UniRet N (uniT a b) w)


set_option maxRecDepth 100000 in
set_option maxHeartbeats 4000000 in
theorem runi_any (a : Ty) : RUniOk a := by
  induction a using Ty.ind with
  | h k es ns ih =>
    intro b N Q w x y hx hy hN hsz hnm
    obtain ⟨k', es', ns'⟩ := b
    have P := (fun g : Nat => g < N)
    obtain ⟨ve, vn, rfl, hE, hN⟩ := hx.out
    obtain ⟨ve', vn', rfl, hE', hN'⟩ := hy.out
    obtain ⟨oe, ce, rfl⟩ := hE.len
    obtain ⟨on, cn, rfl⟩ := hN.len
    obtain ⟨oe', ce', rfl⟩ := hE'.len
    obtain ⟨on', cn', rfl⟩ := hN'.len
    have hle := hE.le
    have hln := hN.le
    have hle' := hE'.le
    have hln' := hN'.le
    obtain ⟨hB1, a0, a1, a2, hz1⟩ := box3 w (.int .i64 k) (.slice oe es.length ce) (.slice on ns.length cn) 30
    obtain ⟨hB2, b0, b1, b2, hz2⟩ := box3 (w.alloc (.cells #[.int .i64 k, .slice oe es.length ce, .slice on ns.length cn] 30)) (.int .i64 k') (.slice oe' es'.length ce') (.slice on' ns'.length cn') 30
    have p0 := bcell hB2 a0
    have p1 := bcell hB2 a1
    have p2 := bcell hB2 a2
    rw [show (w.alloc (.cells #[.int .i64 k, .slice oe es.length ce, .slice on ns.length cn] 30)).heap.size = w.heap.size + 1 by simp] at b0 b1 b2
    have hBB := hB1.trans (hB2.mono hB1.size)
    have hE2 := (hE.bel hB1).bel hB2
    have hN2 := (hN.bel hB1).bel hB2
    have hE2' := (hE'.bel hB1).bel hB2
    have hN2' := (hN'.bel hB1).bel hB2
    have hWs : ((w.alloc (.cells #[.int .i64 k, .slice oe es.length ce, .slice on ns.length cn] 30)).alloc (.cells #[.int .i64 k', .slice oe' es'.length ce', .slice on' ns'.length cn'] 30)).heap.size = w.heap.size + 2 := by simp
    generalize hW : (w.alloc (.cells #[.int .i64 k, .slice oe es.length ce, .slice on ns.length cn] 30)).alloc (.cells #[.int .i64 k', .slice oe' es'.length ce', .slice on' ns'.length cn'] 30) = W at *
    have HW := hid hW
    have HB := hid hBB
    have HE := hid hE2
    have HN := hid hN2
    have HE' := hid hE2'
    have HN' := hid hN2'
    have P0 := hid p0
    have P1 := hid p1
    have P2 := hid p2
    have Q0 := hid b0
    have Q1 := hid b1
    have Q2 := hid b2
    clear hE hN hE' hN' hB1 hB2 a0 a1 a2 b0 b1 b2 p0 p1 p2 hBB hE2 hN2 hE2' hN2' hW hx hy hz1 hz2
    obtain ⟨hB3, z0, z1, z2, hz3⟩ := box3 W (.int .i64 0) (.slice none 0 0) (.slice none 0 0) 30
    have zo := heap_alloc_at W (.cells #[.int .i64 0, .slice none 0 0, .slice none 0 0] 30)
    have p0 := bcell hB3 P0.out
    have p1 := bcell hB3 P1.out
    have p2 := bcell hB3 P2.out
    have q0 := bcell hB3 Q0.out
    have q1 := bcell hB3 Q1.out
    have q2 := bcell hB3 Q2.out
    have hE3 := HE.out.bel hB3
    have hN3 := HN.out.bel hB3
    have hE3' := HE'.out.bel hB3
    have hN3' := HN'.out.bel hB3
    have hBV := HB.out.trans (hB3.mono HB.out.size)
    rw [hWs] at zo
    have hVs : (W.alloc (.cells #[.int .i64 0, .slice none 0 0, .slice none 0 0] 30)).heap.size = w.heap.size + 3 := by simp [hWs]
    clear HE HN HE' HN' HB P0 P1 P2 Q0 Q1 Q2 hB3 z0 z1 z2 hz3
    generalize hV : W.alloc (.cells #[.int .i64 0, .slice none 0 0, .slice none 0 0] 30) = V at *
    have HV := hid hV
    have HZO := hid zo
    have HB := hid hBV
    have HE := hid hE3
    have HN := hid hN3
    have HE' := hid hE3'
    have HN' := hid hN3'
    have P0 := hid p0
    have P1 := hid p1
    have P2 := hid p2
    have Q0 := hid q0
    have Q1 := hid q1
    have Q2 := hid q2
    have HVS := hid hVs
    clear hE3 hN3 hE3' hN3' p0 p1 p2 q0 q1 q2 hBV hV zo hVs hWs
    have HI := hid ih
    clear ih
    by_cases hk : k = k'
    case neg =>
      have hp : uniT (.mk k es ns) (.mk k' es' ns') = .mk 0 [] [] := uniT_no fun h => hk h.1
      have HP := hid hp
      have f1 : decide (k = k') = false := decide_eq_false hk
      have f2 : (k == k') = false := beq_eq_false_iff_ne.2 hk
      have f3 : (k != k') = true := by rw [bne, f2]; rfl
      clear hp hk
      go_enter Tryz.func73, Tryz.ntmps73
      go_wp2_with fail
      rw [HW.out, HV.out]
      have zo : V.heap[w.heap.size + 1 + 1]? = _ := HZO.out
      have f0 := (cells_in zo 0).trans rfl
      have f1' := (cells_in zo 1).trans rfl
      have f2' := (cells_in zo 2).trans rfl
      try simp only [Exit.inBlock, Exit.then]
      refine bodyPost_ret (v := .agg #[.int .i64 0, .slice none 0 0, .slice none 0 0]) (by simp [results, Tryz.results73, go_sem, f0, f1', f2']) rfl ?_
      rw [HP.out]
      exact ⟨_, rfl, TV.any0 _ _, HB.out⟩
    subst hk
    by_cases hne : es.length = es'.length
    case neg =>
      have hp : uniT (.mk k es ns) (.mk k es' ns') = .mk 0 [] [] := uniT_no fun h => hne h.2.2
      have HP := hid hp
      have hb1 : decide ((es.length : Int) = (es'.length : Int)) = false := decide_eq_false (by omega)
      have hb3 : ((es.length : Int) == (es'.length : Int)) = false := beq_eq_false_iff_ne.2 (by omega)
      have hb2 : ((es.length : Int) != (es'.length : Int)) = true := by rw [bne, hb3]; rfl
      clear hp hne
      go_enter Tryz.func73, Tryz.ntmps73
      go_wp2_with fail
      rw [HW.out, HV.out]
      have zo : V.heap[w.heap.size + 1 + 1]? = _ := HZO.out
      have f0 := (cells_in zo 0).trans rfl
      have f1' := (cells_in zo 1).trans rfl
      have f2' := (cells_in zo 2).trans rfl
      try simp only [Exit.inBlock, Exit.then]
      refine bodyPost_ret (v := .agg #[.int .i64 0, .slice none 0 0, .slice none 0 0]) (by simp [results, Tryz.results73, go_sem, f0, f1', f2']) rfl ?_
      rw [HP.out]
      exact ⟨_, rfl, TV.any0 _ _, HB.out⟩
    have HL := hid hne
    have HS := hid (same_any _ Q V _ _ ns ns' HN.out HN'.out)
    rw [← hne] at Q1 HW
    have HLE : Hid (LV Q V (.slice oe' es.length ce') es') := by rw [hne]; exact HE'
    clear hne HE'
    by_cases hd : ns = ns'
    case neg =>
      have hp : uniT (.mk k es ns) (.mk k es' ns') = .mk 0 [] [] := uniT_no fun h => hd h.2.1
      have HP := hid hp
      rw [decide_eq_false hd] at HS
      clear hp hd
      rw [← HL.out]
      go_enter Tryz.func73, Tryz.ntmps73
      go_wp2_with fail
      rw [HW.out, HV.out]
      refine HS.out.mono ?_; rintro e w2 ⟨rfl, hb2⟩
      have zo : w2.heap[w.heap.size + 1 + 1]? = _ := (hb2.block _ (by have := HVS.out; omega)).trans HZO.out
      have HB2 := hid (HB.out.trans (hb2.mono HB.out.size))
      clear hb2
      have f0 := (cells_in zo 0).trans rfl
      have f1' := (cells_in zo 1).trans rfl
      have f2' := (cells_in zo 2).trans rfl
      have fz := frozen_in zo
      go_wp2_with fail
      have f0 := (cells_in zo 0).trans rfl
      have f1' := (cells_in zo 1).trans rfl
      have f2' := (cells_in zo 2).trans rfl
      try simp only [Exit.inBlock, Exit.then]
      refine bodyPost_ret (v := .agg #[.int .i64 0, .slice none 0 0, .slice none 0 0]) (by simp [results, Tryz.results73, go_sem, f0, f1', f2']) rfl ?_
      rw [HP.out]
      exact ⟨_, rfl, TV.any0 _ _, store3_below HB2.out (by omega) (Nat.le_refl _) _ _ _⟩
    have hp : uniT (.mk k es ns) (.mk k es' ns') = .mk k (uniL es es') ns := uniT_yes ⟨rfl, hd, HL.out⟩
    have HP := hid hp
    rw [decide_eq_true hd] at HS
    clear hp hd
    rw [← HL.out]
    go_enter Tryz.func73, Tryz.ntmps73
    go_wp2_with fail
    rw [HW.out, HV.out]
    refine HS.out.mono ?_; rintro e w2 ⟨rfl, hb2⟩
    have zo : w2.heap[w.heap.size + 1 + 1]? = _ := (hb2.block _ (by have := HVS.out; omega)).trans HZO.out
    have HB2 := hid (HB.out.trans (hb2.mono HB.out.size))
    have HEa := hid (HE.out.bel hb2)
    have HEb := hid (HLE.out.bel hb2)
    have HNa := hid (HN.out.bel hb2)
    have P0' := hid (bcell hb2 P0.out)
    have P1' := hid (bcell hb2 P1.out)
    have P2' := hid (bcell hb2 P2.out)
    have Q1' := hid (bcell hb2 Q1.out)
    have HS2 : Hid (w.heap.size + 3 ≤ w2.heap.size) := hid (by have := HVS.out; have := hb2.size; omega)
    have HZO2 := hid zo
    clear hb2 zo
    have p0 := P0'.out
    have p2 := P2'.out
    go_wp2_with fail
    rw [sizeT_eq] at hsz
    rw [namesT] at hnm
    clear p0 p2
    go_loopw [6] (fun i wr => ∃ j : Nat, j ≤ es.length ∧ i = .int .i64 j ∧ ∃ v, Hid (UI (fun g => (g < N ∨ w.heap.size ≤ g) ∧ g ≠ w.heap.size + 2) w2.heap.size w2 k (.slice on ns.length cn) ns wr v ((uniL es es').take j))) (fun i _ => es.length - (intOf i).toNat)
    case atStart => exact ⟨0, Nat.zero_le _, rfl, _, hid (UI.start HNa.out fun g hg => ⟨.inl hg, by omega⟩)⟩
    case round =>
      obtain ⟨j, hj, rfl, v, U⟩ := hrel
      obtain ⟨ov, mv, cv, rfl⟩ := U.out.own.slice
      have p1 := bcell U.out.bel P1'.out
      have q1 := bcell U.out.bel Q1'.out
      have x0 := (cells_in U.out.obj 0).trans rfl
      have x1 := (cells_in U.out.obj 1).trans rfl
      have x2 := (cells_in U.out.obj 2).trans rfl
      by_cases hlt : j < es.length
      · have hltb : j < es'.length := by rw [← HL.out]; exact hlt
        obtain ⟨g1, o1, c1, k1, oy1, my1, cy1, oz1, mz1, cz1, e1, a1', a2', a3', hT1⟩ := HEa.out.at2 hlt
        obtain ⟨g2, o2, c2, k2, oy2, my2, cy2, oz2, mz2, cz2, e2, b1', b2', b3', hT2⟩ := HEb.out.at2 hltb
        cases e1
        rw [← HL.out] at e2
        cases e2
        have lt1 : g1 < w2.heap.size := World.block_lt_of_cell? w2 _ a1'
        have lt2 : g2 < w2.heap.size := World.block_lt_of_cell? w2 _ b1'
        have a1 := bcell U.out.bel a1'
        have a2 := bcell U.out.bel a2'
        have a3 := bcell U.out.bel a3'
        have b1 := bcell U.out.bel b1'
        have b2 := bcell U.out.bel b2'
        have b3 := bcell U.out.bel b3'
        have hj0 : (0 : Int) ≤ (j : Int) := by omega
        have hj1 : (j : Int) < (es.length : Int) := by omega
        have hjn : j ≤ 1000000 := by have := sizeL_len es; omega
        have hws : w.heap.size + 3 ≤ w2.heap.size := HS2.out
        have hdr : Below w2.heap.size w2 wr.drew := below_drew U.out.bel
        have hcall := HI.out es[j] (List.getElem_mem hlt) es'[j] N Q wr.drew _ _ (hT1.bel hdr) (hT2.bel hdr) (by have := hdr.size; omega) (by have := sizeT_mem (List.getElem_mem hlt); omega) (by have := namesL_mem (List.getElem_mem hlt); omega)
        have htk := uniL_step hlt hltb
        have HTK := hid htk
        have HCall := hid hcall
        have htl : ((uniL es es').take j).length ≤ j := List.length_take_le _ _
        clear hcall htk hT1 hT2 a1' a2' a3' b1' b2' b3' hdr
        generalize uniT es[j] es'[j] = t4 at *
        generalize (uniL es es').take j = ts at *
        go_wp2_with fail
        refine wp_region_steady_tail 16 (fun v => v.cell? ⟨w.heap.size, 1, none⟩ = some (.slice (some ⟨g1, o1, none⟩) es.length ce) ∧ v.cell? ⟨w.heap.size + 1, 1, none⟩ = some (.slice (some ⟨g2, o2, none⟩) es.length ce') ∧ v.cell? ⟨w2.heap.size, 1, none⟩ = some (.slice ov mv cv) ∧ v.cell? ⟨g1, o1 + j * 3, none⟩ = some (.int .i64 k1) ∧ v.cell? ⟨g1, o1 + j * 3 + 1, none⟩ = some (.slice oy1 my1 cy1) ∧ v.cell? ⟨g1, o1 + j * 3 + 2, none⟩ = some (.slice oz1 mz1 cz1) ∧ v.cell? ⟨g2, o2 + j * 3, none⟩ = some (.int .i64 k2) ∧ v.cell? ⟨g2, o2 + j * 3 + 1, none⟩ = some (.slice oy2 my2 cy2) ∧ v.cell? ⟨g2, o2 + j * 3 + 2, none⟩ = some (.slice oz2 mz2 cz2)) (by kernel_rfl) (by kernel_rfl) (⟨p1, q1, x1, a1, a2, a3, b1, b2, b3⟩) ?_
        simp only [List.take_succ_cons, List.take_zero, List.drop_succ_cons, List.drop_zero]
        repeat (first
          | (refine wpSteady_skip (by rfl) ?_; try simp only [Act.put, List.setIfInBounds_toArray, List.set_cons_zero, List.set_cons_succ])
          | (refine wpSteady_calm (v := ?_) (by rfl) ?_ ?_; rotate_left; (focus (intro v hSv; (try dsimp only at hSv); go_simp; (try with_reducible rfl); done)); try simp only [Act.put, List.setIfInBounds_toArray, List.set_cons_zero, List.set_cons_succ]))
        refine wpSteady_loud rfl (by rfl) (fun K hK => ?_)
        go_simp
        refine HCall.out.mono ?_; rintro e w4 ⟨u, rfl, hu, hb4⟩
        obtain ⟨k4, es4, ns4⟩ := t4
        obtain ⟨ve4, vn4, rfl, hE4, hN4⟩ := hu.out
        obtain ⟨oe4, ce4, rfl⟩ := hE4.len
        obtain ⟨on4, cn4, rfl⟩ := hN4.len
        have HU4 := hid hu
        have U4 := hid (U.out.call (show Below wr.heap.size wr w4 from ⟨hb4.os, hb4.tape, hb4.output, hb4.size, hb4.block⟩))
        have HW4 : Hid (wr.heap.size ≤ w4.heap.size) := hid hb4.size
        have r1 := bcell (W := wr.drew) hb4 p1
        have r2 := bcell (W := wr.drew) hb4 q1
        have r3 := bcell (W := wr.drew) hb4 x1
        have r4 := bcell (W := wr.drew) hb4 a1
        have r5 := bcell (W := wr.drew) hb4 a2
        have r6 := bcell (W := wr.drew) hb4 a3
        have r7 := bcell (W := wr.drew) hb4 b1
        have r8 := bcell (W := wr.drew) hb4 b2
        have r9 := bcell (W := wr.drew) hb4 b3
        clear hb4 hE4 hN4 hu p1 q1 x0 x1 x2 a1 a2 a3 b1 b2 b3
        refine hK.out _ _ (⟨r1, r2, r3, r4, r5, r6, r7, r8, r9⟩) ?_
        clear hK K
        try simp only [Act.put, List.setIfInBounds_toArray, List.set_cons_zero, List.set_cons_succ]
        repeat (first
          | (refine wpSteady_skip (by rfl) ?_; try simp only [Act.put, List.setIfInBounds_toArray, List.set_cons_zero, List.set_cons_succ])
          | (refine wpSteady_calm (v := ?_) (by rfl) ?_ ?_; rotate_left; (focus (intro v hSv; (try dsimp only at hSv); go_simp; (try rw [if_neg (by omega)]); (try with_reducible rfl); done)); try simp only [Act.put, List.setIfInBounds_toArray, List.set_cons_zero, List.set_cons_succ]))
        refine wpSteady_loud rfl (by rfl) (fun K hK => ?_)
        go_simp
        have hal : Below w4.heap.size w4 (w4.alloc (.cells #[.int .i64 k4, .slice oe4 es4.length ce4, .slice on4 ns4.length cn4] 30)) := (Below.refl _ _).alloc (Nat.le_refl _) _
        refine hK.out _ _ (⟨bcell hal r1, bcell hal r2, bcell hal r3, bcell hal r4, bcell hal r5, bcell hal r6, bcell hal r7, bcell hal r8, bcell hal r9⟩) ?_
        clear hK K
        try simp only [Act.put, List.setIfInBounds_toArray, List.set_cons_zero, List.set_cons_succ]
        clear hal
        refine wpSteady_loud rfl (by rfl) (fun K hK => ?_)
        obtain ⟨rs, hm, hl2, he4⟩ := U4.out.own
        have hno : ∀ g, g ≤ w2.heap.size → ¬ (Value.slice ov mv cv).ownBlock = some g := fun g hg e => by have := hm.2 g e; omega
        refine app_tag_wp (.tmp 43) (.tmp 55) 28 (by rfl) 30 (.agg #[.int .i64 0, .slice none 0 0, .slice none 0 0]) 3 56 Tryz.underlying28 info26 (by rfl) (by decide) (by decide) _ _ _ hm.1 (by rfl) [.int .i64 k4, .slice oe4 es4.length ce4, .slice on4 ns4.length cn4] w4.heap.size (by rfl) (by rfl) (by rfl) (by simp [Value.oneCell']) (by omega) ?_
        intro v5 w5 hown5 hc5 hp5 hne5
        obtain ⟨o5, n5, c5, rfl⟩ := owns_slice hown5
        have hX5 : w5.heap[w2.heap.size]? = _ := (hc5.block _ U4.out.lt (hno _ (Nat.le_refl _))).trans U4.out.obj
        refine hK.out _ _ ⟨chg_cell hc5 (hno _ (by omega)) r1, chg_cell hc5 (hno _ (by omega)) r2, chg_cell hc5 (hno _ (by omega)) r3, chg_cell hc5 (hno _ (by omega)) r4, chg_cell hc5 (hno _ (by omega)) r5, chg_cell hc5 (hno _ (by omega)) r6, chg_cell hc5 (hno _ (by omega)) r7, chg_cell hc5 (hno _ (by omega)) r8, chg_cell hc5 (hno _ (by omega)) r9⟩ ?_
        clear hK K
        try simp only [Act.put, List.setIfInBounds_toArray, List.set_cons_zero, List.set_cons_succ]
        have U5 := hid (U4.out.grown hm hl2 he4 hown5 HU4.out (fun g hg => by
          have hg' : g < N ∨ wr.heap.size ≤ g := hg
          have hlt' := U.out.lt
          exact ⟨⟨by omega, by omega⟩, by omega, fun e => by have := U.out.own.block e; omega⟩) hc5 hp5)
        have h1 := (cells_in hX5 1).trans rfl
        have hf := frozen_in hX5
        clear hown5 hc5 hp5 hne5 hX5 he4 hm hl2 hno r1 r2 r3 r4 r5 r6 r7 r8 r9
        repeat (first
          | (refine wpSteady_skip (by rfl) ?_; try simp only [Act.put, List.setIfInBounds_toArray, List.set_cons_zero, List.set_cons_succ])
          | (refine wpSteady_calm (v := ?_) (by rfl) ?_ ?_; rotate_left; (focus (intro v hSv; (try dsimp only at hSv); go_simp; (try rw [if_neg (by omega)]); (try with_reducible rfl); done)); try simp only [Act.put, List.setIfInBounds_toArray, List.set_cons_zero, List.set_cons_succ]))
        refine wpSteady_nil ?_
        go_wp2_with fail
        go_roundw
        case rel =>
          have e5 := HTK.out
          exact ⟨j + 1, by omega, by go_num, .slice o5 n5 c5, by rw [e5]; exact U5⟩
        case measure => simp [intOf]; omega
      · have hts : (uniL es es').take j = uniL es es' := List.take_of_length_le (by rw [uniL_len]; omega)
        rw [hts] at U
        have zo : wr.heap[w.heap.size + 1 + 1]? = _ := (U.out.bel.block _ (by have := HS2.out; omega)).trans HZO2.out
        have f0 := (cells_in zo 0).trans rfl
        have f1' := (cells_in zo 1).trans rfl
        have f2' := (cells_in zo 2).trans rfl
        have fz := frozen_in zo
        clear hts
        go_wp2_with fail
        try simp only [Exit.inBlock, Exit.then]
        refine bodyPost_ret (v := .agg #[.int .i64 k, .slice ov mv cv, .slice on ns.length cn]) (by simp [results, Tryz.results73, go_sem, f0, f1', f2']) rfl ?_
        rw [HP.out]
        refine ⟨_, rfl, store3_tv (U.out.read (fun g hg => ⟨.inr (by have := HS2.out; omega), by have := HS2.out; omega⟩) (by rw [uniL_len]; omega)) (fun h => h.2 rfl) (fun g hg => hg.1) _ _ _, store3_below (HB2.out.trans (U.out.bel.mono HB2.out.size)) (by omega) (Nat.le_refl _) _ _ _⟩
end Go.Proofs.YtfljnigbfacmjaaGreatDoor
