/- Unify (where the first type lies anywhere), identifiers, common, of and Of of the reference. -/
import Derived.Test.YtfljnigbfacmjaaGreatDoorRFit
import Derived.Deep.DeepCutAuto
import Derived.Deep.CutBlock
import Derived.Deep.RegionHeld3
namespace Go.Proofs.YtfljnigbfacmjaaGreatDoor
open Go Go.RowKit Go.Proofs.YtfljnigbfacmjaaGreatDoor.Steady
set_option linter.unusedVariables false

def URetP (P : Nat → Prop) (t : Ty) (w : World) (e : Ending) (w' : World) : Prop := ∃ v, e = .returned v ∧ TV (fun g => P g ∨ w.heap.size ≤ g) w' v t ∧ Below w.heap.size w w'
def RUniPOk (a : Ty) : Prop := ∀ (b : Ty) (P Q : Nat → Prop) (w : World) (x y : Value), TV P w x a → TV Q w y b → (∀ g, P g → g < w.heap.size) → sizeT a ≤ 1000000 → namesT a ≤ 1000000 →
  Calls Tryz.prog 73 #[x, y] w (URetP P (uniT a b) w)


set_option maxRecDepth 100000 in
set_option maxHeartbeats 4000000 in
theorem runiP_any (a : Ty) : RUniPOk a := by
  induction a using Ty.ind with
  | h k es ns ih =>
    intro b P Q w x y hx hy hN0 hsz hnm
    obtain ⟨k', es', ns'⟩ := b
    obtain ⟨ve, vn, rfl, hE, hN⟩ := hx.out
    obtain ⟨ve', vn', rfl, hE', hN'⟩ := hy.out
    obtain ⟨oe, ce, rfl⟩ := hE.len
    obtain ⟨on, cn, rfl⟩ := hN.len
    obtain ⟨oe', ce', rfl⟩ := hE'.len
    obtain ⟨on', cn', rfl⟩ := hN'.len
    have hle := hE.le
    have hln := hN.le
    have hle' := hE'.le
    have hln' := hN'.le
    obtain ⟨hB1, a0, a1, a2, hz1⟩ := box3 w (.int .i64 k) (.slice oe es.length ce) (.slice on ns.length cn) 30
    obtain ⟨hB2, b0, b1, b2, hz2⟩ := box3 (w.alloc (.cells #[.int .i64 k, .slice oe es.length ce, .slice on ns.length cn] 30)) (.int .i64 k') (.slice oe' es'.length ce') (.slice on' ns'.length cn') 30
    have p0 := bcell hB2 a0
    have p1 := bcell hB2 a1
    have p2 := bcell hB2 a2
    rw [show (w.alloc (.cells #[.int .i64 k, .slice oe es.length ce, .slice on ns.length cn] 30)).heap.size = w.heap.size + 1 by simp] at b0 b1 b2
    have hBB := hB1.trans (hB2.mono hB1.size)
    have hE2 := (hE.bel hB1).bel hB2
    have hN2 := (hN.bel hB1).bel hB2
    have hE2' := (hE'.bel hB1).bel hB2
    have hN2' := (hN'.bel hB1).bel hB2
    have hWs : ((w.alloc (.cells #[.int .i64 k, .slice oe es.length ce, .slice on ns.length cn] 30)).alloc (.cells #[.int .i64 k', .slice oe' es'.length ce', .slice on' ns'.length cn'] 30)).heap.size = w.heap.size + 2 := by simp
    generalize hW : (w.alloc (.cells #[.int .i64 k, .slice oe es.length ce, .slice on ns.length cn] 30)).alloc (.cells #[.int .i64 k', .slice oe' es'.length ce', .slice on' ns'.length cn'] 30) = W at *
    have HW := hid hW
    have HB := hid hBB
    have HE := hid hE2
    have HN := hid hN2
    have HE' := hid hE2'
    have HN' := hid hN2'
    have P0 := hid p0
    have P1 := hid p1
    have P2 := hid p2
    have Q0 := hid b0
    have Q1 := hid b1
    have Q2 := hid b2
    clear hE hN hE' hN' hB1 hB2 a0 a1 a2 b0 b1 b2 p0 p1 p2 hBB hE2 hN2 hE2' hN2' hW hx hy hz1 hz2
    obtain ⟨hB3, z0, z1, z2, hz3⟩ := box3 W (.int .i64 0) (.slice none 0 0) (.slice none 0 0) 30
    have zo := heap_alloc_at W (.cells #[.int .i64 0, .slice none 0 0, .slice none 0 0] 30)
    have p0 := bcell hB3 P0.out
    have p1 := bcell hB3 P1.out
    have p2 := bcell hB3 P2.out
    have q0 := bcell hB3 Q0.out
    have q1 := bcell hB3 Q1.out
    have q2 := bcell hB3 Q2.out
    have hE3 := HE.out.bel hB3
    have hN3 := HN.out.bel hB3
    have hE3' := HE'.out.bel hB3
    have hN3' := HN'.out.bel hB3
    have hBV := HB.out.trans (hB3.mono HB.out.size)
    rw [hWs] at zo
    have hVs : (W.alloc (.cells #[.int .i64 0, .slice none 0 0, .slice none 0 0] 30)).heap.size = w.heap.size + 3 := by simp [hWs]
    clear HE HN HE' HN' HB P0 P1 P2 Q0 Q1 Q2 hB3 z0 z1 z2 hz3
    generalize hV : W.alloc (.cells #[.int .i64 0, .slice none 0 0, .slice none 0 0] 30) = V at *
    have HV := hid hV
    have HZO := hid zo
    have HB := hid hBV
    have HE := hid hE3
    have HN := hid hN3
    have HE' := hid hE3'
    have HN' := hid hN3'
    have P0 := hid p0
    have P1 := hid p1
    have P2 := hid p2
    have Q0 := hid q0
    have Q1 := hid q1
    have Q2 := hid q2
    have HVS := hid hVs
    clear hE3 hN3 hE3' hN3' p0 p1 p2 q0 q1 q2 hBV hV zo hVs hWs
    have HI := hid ih
    clear ih
    by_cases hk : k = k'
    case neg =>
      have hp : uniT (.mk k es ns) (.mk k' es' ns') = .mk 0 [] [] := uniT_no fun h => hk h.1
      have HP := hid hp
      have f1 : decide (k = k') = false := decide_eq_false hk
      have f2 : (k == k') = false := beq_eq_false_iff_ne.2 hk
      have f3 : (k != k') = true := by rw [bne, f2]; rfl
      clear hp hk
      go_enter Tryz.func73, Tryz.ntmps73
      go_wp2_with fail
      rw [HW.out, HV.out]
      have zo : V.heap[w.heap.size + 1 + 1]? = _ := HZO.out
      have f0 := (cells_in zo 0).trans rfl
      have f1' := (cells_in zo 1).trans rfl
      have f2' := (cells_in zo 2).trans rfl
      try simp only [Exit.inBlock, Exit.then]
      refine bodyPost_ret (v := .agg #[.int .i64 0, .slice none 0 0, .slice none 0 0]) (by simp [results, Tryz.results73, go_sem, f0, f1', f2']) rfl ?_
      rw [HP.out]
      exact ⟨_, rfl, TV.any0 _ _, HB.out⟩
    subst hk
    by_cases hne : es.length = es'.length
    case neg =>
      have hp : uniT (.mk k es ns) (.mk k es' ns') = .mk 0 [] [] := uniT_no fun h => hne h.2.2
      have HP := hid hp
      have hb1 : decide ((es.length : Int) = (es'.length : Int)) = false := decide_eq_false (by omega)
      have hb3 : ((es.length : Int) == (es'.length : Int)) = false := beq_eq_false_iff_ne.2 (by omega)
      have hb2 : ((es.length : Int) != (es'.length : Int)) = true := by rw [bne, hb3]; rfl
      clear hp hne
      go_enter Tryz.func73, Tryz.ntmps73
      go_wp2_with fail
      rw [HW.out, HV.out]
      have zo : V.heap[w.heap.size + 1 + 1]? = _ := HZO.out
      have f0 := (cells_in zo 0).trans rfl
      have f1' := (cells_in zo 1).trans rfl
      have f2' := (cells_in zo 2).trans rfl
      try simp only [Exit.inBlock, Exit.then]
      refine bodyPost_ret (v := .agg #[.int .i64 0, .slice none 0 0, .slice none 0 0]) (by simp [results, Tryz.results73, go_sem, f0, f1', f2']) rfl ?_
      rw [HP.out]
      exact ⟨_, rfl, TV.any0 _ _, HB.out⟩
    have HL := hid hne
    have HS := hid (same_any _ Q V _ _ ns ns' HN.out HN'.out)
    rw [← hne] at Q1 HW
    have HLE : Hid (LV Q V (.slice oe' es.length ce') es') := by rw [hne]; exact HE'
    clear hne HE'
    by_cases hd : ns = ns'
    case neg =>
      have hp : uniT (.mk k es ns) (.mk k es' ns') = .mk 0 [] [] := uniT_no fun h => hd h.2.1
      have HP := hid hp
      rw [decide_eq_false hd] at HS
      clear hp hd
      rw [← HL.out]
      go_enter Tryz.func73, Tryz.ntmps73
      go_wp2_with fail
      rw [HW.out, HV.out]
      refine HS.out.mono ?_; rintro e w2 ⟨rfl, hb2⟩
      have zo : w2.heap[w.heap.size + 1 + 1]? = _ := (hb2.block _ (by have := HVS.out; omega)).trans HZO.out
      have HB2 := hid (HB.out.trans (hb2.mono HB.out.size))
      clear hb2
      have f0 := (cells_in zo 0).trans rfl
      have f1' := (cells_in zo 1).trans rfl
      have f2' := (cells_in zo 2).trans rfl
      have fz := frozen_in zo
      go_wp2_with fail
      have f0 := (cells_in zo 0).trans rfl
      have f1' := (cells_in zo 1).trans rfl
      have f2' := (cells_in zo 2).trans rfl
      try simp only [Exit.inBlock, Exit.then]
      refine bodyPost_ret (v := .agg #[.int .i64 0, .slice none 0 0, .slice none 0 0]) (by simp [results, Tryz.results73, go_sem, f0, f1', f2']) rfl ?_
      rw [HP.out]
      exact ⟨_, rfl, TV.any0 _ _, store3_below HB2.out (by omega) (Nat.le_refl _) _ _ _⟩
    have hp : uniT (.mk k es ns) (.mk k es' ns') = .mk k (uniL es es') ns := uniT_yes ⟨rfl, hd, HL.out⟩
    have HP := hid hp
    rw [decide_eq_true hd] at HS
    clear hp hd
    rw [← HL.out]
    go_enter Tryz.func73, Tryz.ntmps73
    go_wp2_with fail
    rw [HW.out, HV.out]
    refine HS.out.mono ?_; rintro e w2 ⟨rfl, hb2⟩
    have zo : w2.heap[w.heap.size + 1 + 1]? = _ := (hb2.block _ (by have := HVS.out; omega)).trans HZO.out
    have HB2 := hid (HB.out.trans (hb2.mono HB.out.size))
    have HEa := hid (HE.out.bel hb2)
    have HEb := hid (HLE.out.bel hb2)
    have HNa := hid (HN.out.bel hb2)
    have P0' := hid (bcell hb2 P0.out)
    have P1' := hid (bcell hb2 P1.out)
    have P2' := hid (bcell hb2 P2.out)
    have Q1' := hid (bcell hb2 Q1.out)
    have HS2 : Hid (w.heap.size + 3 ≤ w2.heap.size) := hid (by have := HVS.out; have := hb2.size; omega)
    have HZO2 := hid zo
    clear hb2 zo
    have p0 := P0'.out
    have p2 := P2'.out
    go_wp2_with fail
    rw [sizeT_eq] at hsz
    rw [namesT] at hnm
    clear p0 p2
    go_loopw [6] (fun i wr => ∃ j : Nat, j ≤ es.length ∧ i = .int .i64 j ∧ ∃ v, Hid (UI (fun g => (P g ∨ w.heap.size ≤ g) ∧ g ≠ w.heap.size + 2) w2.heap.size w2 k (.slice on ns.length cn) ns wr v ((uniL es es').take j))) (fun i _ => es.length - (intOf i).toNat)
    case atStart => exact ⟨0, Nat.zero_le _, rfl, _, hid (UI.start HNa.out fun g hg => ⟨.inl hg, by have := hN0 g hg; omega⟩)⟩
    case round =>
      obtain ⟨j, hj, rfl, v, U⟩ := hrel
      obtain ⟨ov, mv, cv, rfl⟩ := U.out.own.slice
      have p1 := bcell U.out.bel P1'.out
      have q1 := bcell U.out.bel Q1'.out
      have x0 := (cells_in U.out.obj 0).trans rfl
      have x1 := (cells_in U.out.obj 1).trans rfl
      have x2 := (cells_in U.out.obj 2).trans rfl
      by_cases hlt : j < es.length
      · have hltb : j < es'.length := by rw [← HL.out]; exact hlt
        obtain ⟨g1, o1, c1, k1, oy1, my1, cy1, oz1, mz1, cz1, e1, a1', a2', a3', hT1⟩ := HEa.out.at2 hlt
        obtain ⟨g2, o2, c2, k2, oy2, my2, cy2, oz2, mz2, cz2, e2, b1', b2', b3', hT2⟩ := HEb.out.at2 hltb
        cases e1
        rw [← HL.out] at e2
        cases e2
        have lt1 : g1 < w2.heap.size := World.block_lt_of_cell? w2 _ a1'
        have lt2 : g2 < w2.heap.size := World.block_lt_of_cell? w2 _ b1'
        have a1 := bcell U.out.bel a1'
        have a2 := bcell U.out.bel a2'
        have a3 := bcell U.out.bel a3'
        have b1 := bcell U.out.bel b1'
        have b2 := bcell U.out.bel b2'
        have b3 := bcell U.out.bel b3'
        have hj0 : (0 : Int) ≤ (j : Int) := by omega
        have hj1 : (j : Int) < (es.length : Int) := by omega
        have hjn : j ≤ 1000000 := by have := sizeL_len es; omega
        have hws : w.heap.size + 3 ≤ w2.heap.size := HS2.out
        have hdr : Below w2.heap.size w2 wr.drew := below_drew U.out.bel
        have hcall := HI.out es[j] (List.getElem_mem hlt) es'[j] P Q wr.drew _ _ (hT1.bel hdr) (hT2.bel hdr) (fun g hg => by have := hN0 g hg; have := hdr.size; omega) (by have := sizeT_mem (List.getElem_mem hlt); omega) (by have := namesL_mem (List.getElem_mem hlt); omega)
        have htk := uniL_step hlt hltb
        have HTK := hid htk
        have HCall := hid hcall
        have htl : ((uniL es es').take j).length ≤ j := List.length_take_le _ _
        clear hcall htk hT1 hT2 a1' a2' a3' b1' b2' b3' hdr
        generalize uniT es[j] es'[j] = t4 at *
        generalize (uniL es es').take j = ts at *
        go_wp2_with fail
        refine wp_region_steady_tail 16 (fun v => v.cell? ⟨w.heap.size, 1, none⟩ = some (.slice (some ⟨g1, o1, none⟩) es.length ce) ∧ v.cell? ⟨w.heap.size + 1, 1, none⟩ = some (.slice (some ⟨g2, o2, none⟩) es.length ce') ∧ v.cell? ⟨w2.heap.size, 1, none⟩ = some (.slice ov mv cv) ∧ v.cell? ⟨g1, o1 + j * 3, none⟩ = some (.int .i64 k1) ∧ v.cell? ⟨g1, o1 + j * 3 + 1, none⟩ = some (.slice oy1 my1 cy1) ∧ v.cell? ⟨g1, o1 + j * 3 + 2, none⟩ = some (.slice oz1 mz1 cz1) ∧ v.cell? ⟨g2, o2 + j * 3, none⟩ = some (.int .i64 k2) ∧ v.cell? ⟨g2, o2 + j * 3 + 1, none⟩ = some (.slice oy2 my2 cy2) ∧ v.cell? ⟨g2, o2 + j * 3 + 2, none⟩ = some (.slice oz2 mz2 cz2)) (by kernel_rfl) (by kernel_rfl) (⟨p1, q1, x1, a1, a2, a3, b1, b2, b3⟩) ?_
        simp only [List.take_succ_cons, List.take_zero, List.drop_succ_cons, List.drop_zero]
        repeat (first
          | (refine wpSteady_skip (by rfl) ?_; try simp only [Act.put, List.setIfInBounds_toArray, List.set_cons_zero, List.set_cons_succ])
          | (refine wpSteady_calm (v := ?_) (by rfl) ?_ ?_; rotate_left; (focus (intro v hSv; (try dsimp only at hSv); go_simp; (try with_reducible rfl); done)); try simp only [Act.put, List.setIfInBounds_toArray, List.set_cons_zero, List.set_cons_succ]))
        refine wpSteady_loud rfl (by rfl) (fun K hK => ?_)
        go_simp
        refine HCall.out.mono ?_; rintro e w4 ⟨u, rfl, hu, hb4⟩
        obtain ⟨k4, es4, ns4⟩ := t4
        obtain ⟨ve4, vn4, rfl, hE4, hN4⟩ := hu.out
        obtain ⟨oe4, ce4, rfl⟩ := hE4.len
        obtain ⟨on4, cn4, rfl⟩ := hN4.len
        have HU4 := hid hu
        have U4 := hid (U.out.call (show Below wr.heap.size wr w4 from ⟨hb4.os, hb4.tape, hb4.output, hb4.size, hb4.block⟩))
        have HW4 : Hid (wr.heap.size ≤ w4.heap.size) := hid hb4.size
        have r1 := bcell (W := wr.drew) hb4 p1
        have r2 := bcell (W := wr.drew) hb4 q1
        have r3 := bcell (W := wr.drew) hb4 x1
        have r4 := bcell (W := wr.drew) hb4 a1
        have r5 := bcell (W := wr.drew) hb4 a2
        have r6 := bcell (W := wr.drew) hb4 a3
        have r7 := bcell (W := wr.drew) hb4 b1
        have r8 := bcell (W := wr.drew) hb4 b2
        have r9 := bcell (W := wr.drew) hb4 b3
        clear hb4 hE4 hN4 hu p1 q1 x0 x1 x2 a1 a2 a3 b1 b2 b3
        refine hK.out _ _ (⟨r1, r2, r3, r4, r5, r6, r7, r8, r9⟩) ?_
        clear hK K
        try simp only [Act.put, List.setIfInBounds_toArray, List.set_cons_zero, List.set_cons_succ]
        repeat (first
          | (refine wpSteady_skip (by rfl) ?_; try simp only [Act.put, List.setIfInBounds_toArray, List.set_cons_zero, List.set_cons_succ])
          | (refine wpSteady_calm (v := ?_) (by rfl) ?_ ?_; rotate_left; (focus (intro v hSv; (try dsimp only at hSv); go_simp; (try rw [if_neg (by omega)]); (try with_reducible rfl); done)); try simp only [Act.put, List.setIfInBounds_toArray, List.set_cons_zero, List.set_cons_succ]))
        refine wpSteady_loud rfl (by rfl) (fun K hK => ?_)
        go_simp
        have hal : Below w4.heap.size w4 (w4.alloc (.cells #[.int .i64 k4, .slice oe4 es4.length ce4, .slice on4 ns4.length cn4] 30)) := (Below.refl _ _).alloc (Nat.le_refl _) _
        refine hK.out _ _ (⟨bcell hal r1, bcell hal r2, bcell hal r3, bcell hal r4, bcell hal r5, bcell hal r6, bcell hal r7, bcell hal r8, bcell hal r9⟩) ?_
        clear hK K
        try simp only [Act.put, List.setIfInBounds_toArray, List.set_cons_zero, List.set_cons_succ]
        clear hal
        refine wpSteady_loud rfl (by rfl) (fun K hK => ?_)
        obtain ⟨rs, hm, hl2, he4⟩ := U4.out.own
        have hno : ∀ g, g ≤ w2.heap.size → ¬ (Value.slice ov mv cv).ownBlock = some g := fun g hg e => by have := hm.2 g e; omega
        refine app_tag_wp (.tmp 43) (.tmp 55) 28 (by rfl) 30 (.agg #[.int .i64 0, .slice none 0 0, .slice none 0 0]) 3 56 Tryz.underlying28 info26 (by rfl) (by decide) (by decide) _ _ _ hm.1 (by rfl) [.int .i64 k4, .slice oe4 es4.length ce4, .slice on4 ns4.length cn4] w4.heap.size (by rfl) (by rfl) (by rfl) (by simp [Value.oneCell']) (by omega) ?_
        intro v5 w5 hown5 hc5 hp5 hne5
        obtain ⟨o5, n5, c5, rfl⟩ := owns_slice hown5
        have hX5 : w5.heap[w2.heap.size]? = _ := (hc5.block _ U4.out.lt (hno _ (Nat.le_refl _))).trans U4.out.obj
        refine hK.out _ _ ⟨chg_cell hc5 (hno _ (by omega)) r1, chg_cell hc5 (hno _ (by omega)) r2, chg_cell hc5 (hno _ (by omega)) r3, chg_cell hc5 (hno _ (by omega)) r4, chg_cell hc5 (hno _ (by omega)) r5, chg_cell hc5 (hno _ (by omega)) r6, chg_cell hc5 (hno _ (by omega)) r7, chg_cell hc5 (hno _ (by omega)) r8, chg_cell hc5 (hno _ (by omega)) r9⟩ ?_
        clear hK K
        try simp only [Act.put, List.setIfInBounds_toArray, List.set_cons_zero, List.set_cons_succ]
        have U5 := hid (U4.out.grown hm hl2 he4 hown5 HU4.out (fun g hg => by
          have hg' : P g ∨ wr.heap.size ≤ g := hg
          have hg2 : g < w.heap.size ∨ wr.heap.size ≤ g := hg'.imp (hN0 g) id
          have hlt' := U.out.lt
          exact ⟨⟨hg'.imp id fun h => by omega, by omega⟩, by omega, fun e => by have := U.out.own.block e; omega⟩) hc5 hp5)
        have h1 := (cells_in hX5 1).trans rfl
        have hf := frozen_in hX5
        clear hown5 hc5 hp5 hne5 hX5 he4 hm hl2 hno r1 r2 r3 r4 r5 r6 r7 r8 r9
        repeat (first
          | (refine wpSteady_skip (by rfl) ?_; try simp only [Act.put, List.setIfInBounds_toArray, List.set_cons_zero, List.set_cons_succ])
          | (refine wpSteady_calm (v := ?_) (by rfl) ?_ ?_; rotate_left; (focus (intro v hSv; (try dsimp only at hSv); go_simp; (try rw [if_neg (by omega)]); (try with_reducible rfl); done)); try simp only [Act.put, List.setIfInBounds_toArray, List.set_cons_zero, List.set_cons_succ]))
        refine wpSteady_nil ?_
        go_wp2_with fail
        go_roundw
        case rel =>
          have e5 := HTK.out
          exact ⟨j + 1, by omega, by go_num, .slice o5 n5 c5, by rw [e5]; exact U5⟩
        case measure => simp [intOf]; omega
      · have hts : (uniL es es').take j = uniL es es' := List.take_of_length_le (by rw [uniL_len]; omega)
        rw [hts] at U
        have zo : wr.heap[w.heap.size + 1 + 1]? = _ := (U.out.bel.block _ (by have := HS2.out; omega)).trans HZO2.out
        have f0 := (cells_in zo 0).trans rfl
        have f1' := (cells_in zo 1).trans rfl
        have f2' := (cells_in zo 2).trans rfl
        have fz := frozen_in zo
        clear hts
        go_wp2_with fail
        try simp only [Exit.inBlock, Exit.then]
        refine bodyPost_ret (v := .agg #[.int .i64 k, .slice ov mv cv, .slice on ns.length cn]) (by simp [results, Tryz.results73, go_sem, f0, f1', f2']) rfl ?_
        rw [HP.out]
        refine ⟨_, rfl, store3_tv (U.out.read (fun g hg => ⟨.inr (by have := HS2.out; omega), by have := HS2.out; omega⟩) (by rw [uniL_len]; omega)) (fun h => h.2 rfl) (fun g hg => hg.1) _ _ _, store3_below (HB2.out.trans (U.out.bel.mono HB2.out.size)) (by omega) (Nat.le_refl _) _ _ _⟩

theorem anyK_drop {l : List ByteArray} {k : Nat} (h : k < l.length) : (l.drop k).any badK = (badK l[k] || (l.drop (k + 1)).any badK) := by
  rw [List.drop_eq_getElem_cons h, List.any_cons]
set_option maxRecDepth 100000 in
set_option maxHeartbeats 4000000 in
theorem rids_any (P : Nat → Prop) (w : World) (u : Value) (l : List ByteArray) (hu : SV P w u l) :
    Calls Tryz.prog 56 #[u] w (Is (!l.any badK) w) := by
  obtain ⟨oa, ca, rfl⟩ := hu.len
  have hla := hu.le
  have HU := hid hu
  clear hu
  go_enter Tryz.func56, Tryz.ntmps56
  go_wp2_with fail
  go_loop [3] (fun i => ∃ k : Nat, k ≤ l.length ∧ i = .int .i64 k ∧ Hid ((l.drop k).any badK = l.any badK)) (fun i => l.length - (intOf i).toNat)
  case atStart => exact ⟨0, Nat.zero_le _, rfl, hid rfl⟩
  case round =>
    obtain ⟨k, hk, rfl, A⟩ := hrel
    by_cases hlt : k < l.length
    · obtain ⟨g1, o1, c1, e1, a1⟩ := HU.out.at hlt
      cases e1
      have hk0 : (0 : Int) ≤ (k : Int) := by omega
      have hk1 : (k : Int) < (l.length : Int) := by omega
      have HCall := hid (rident_any l[k] w (HU.out.2 _ (List.getElem_mem hlt)))
      have hstep := anyK_drop hlt
      rw [A.out, show badK l[k] = !identB l[k] from rfl] at hstep
      clear A
      cases hfe : identB l[k] with
      | true =>
        rw [hfe] at HCall hstep
        have HS := hid hstep
        clear hfe hstep
        go_wp2_with fail
        refine HCall.out.mono ?_; rintro e w4 ⟨rfl, rfl⟩
        go_wp2_with fail
        go_round
        case rel => exact ⟨k + 1, by omega, by go_num, hid (by rw [HS.out]; rfl)⟩
        case measure => simp [intOf]; omega
      | false =>
        rw [hfe] at HCall hstep
        have HS := hid hstep
        clear hfe hstep
        go_wp2_with fail
        refine HCall.out.mono ?_; rintro e w4 ⟨rfl, rfl⟩
        go_wp2_with fail
        go_ret
        exact ⟨by rw [HS.out]; rfl, rfl⟩
    · have HS := hid (show l.any badK = false by rw [← A.out, List.drop_eq_nil_of_le (by omega)]; rfl)
      go_wp2_with fail
      go_ret
      exact ⟨by rw [HS.out]; rfl, rfl⟩

def ROfOk (v : Vl) : Prop := ∀ (P : Nat → Prop) (w : World) (x : Value) (lv : Int), VV P w x v → (∀ g, P g → g < w.heap.size) → szV v ≤ 400000 → kyV v ≤ 1000000 → 0 ≤ lv → lv ≤ 1000 → Calls Tryz.prog 32 #[x, .int .i64 lv] w (URetP P (ofT v lv) w)
structure RC (P : Nat → Prop) (w wr : World) (kx : Int) (vx nx : Value) (t : Ty) : Prop where
  bel : Below w.heap.size w wr
  z : wr.heap[w.heap.size]? = some (.cells #[.int .i64 0, .slice none 0 0, .slice none 0 0] 30)
  obj : wr.heap[w.heap.size + 1]? = some (.cells #[.int .i64 kx, vx, nx] 30)
  tv : TV (fun g => P g ∨ w.heap.size + 1 + 1 ≤ g) wr (.agg #[.int .i64 kx, vx, nx]) t
section
variable {P : Nat → Prop} {w wr w' : World} {kx k' : Int} {vx nx v' n' : Value} {t t' : Ty}
theorem RC.lt (h : RC P w wr kx vx nx t) : w.heap.size + 1 < wr.heap.size := (Array.getElem?_eq_some_iff.1 h.obj).1
theorem RC.later (h : RC P w wr kx vx nx t) (hb : Below wr.heap.size wr w') : RC P w w' kx vx nx t := by
  have hl := h.lt
  exact ⟨h.bel.trans (hb.mono h.bel.size), (hb.block _ (by omega)).trans h.z, (hb.block _ hl).trans h.obj, h.tv.bel hb⟩
theorem RC.set (h : RC P w wr kx vx nx t) (hP : ∀ g, P g → g < w.heap.size) (hu : TV (fun g => P g ∨ w.heap.size + 1 + 1 ≤ g) wr (.agg #[.int .i64 k', v', n']) t') : RC P w (((wr.setCell ⟨w.heap.size + 1, 0, none⟩ (.int .i64 k')).setCell ⟨w.heap.size + 1, 1, none⟩ v').setCell ⟨w.heap.size + 1, 2, none⟩ n') k' v' n' t' := by
  have hl := h.lt
  have hc := chg_store3 wr (w.heap.size + 1) (.int .i64 k') v' n'
  exact ⟨store3_below h.bel (by omega) (Nat.le_refl _) _ _ _, (hc.block _ (by omega) (by omega)).trans h.z, obj_set (po := 2) (obj_set (po := 1) (obj_set (po := 0) h.obj (.int .i64 k')) v') n',
    store3_tv hu (fun h => h.elim (fun h => by have := hP _ h; omega) fun h => by omega) (fun g hg => hg) _ _ _⟩
theorem RC.out {x y z : Value} (h : RC P w wr kx vx nx t) (hP : ∀ g, P g → g < w.heap.size) : TV (fun g => P g ∨ w.heap.size ≤ g) (((wr.setCell ⟨w.heap.size, 0, none⟩ x).setCell ⟨w.heap.size, 1, none⟩ y).setCell ⟨w.heap.size, 2, none⟩ z) (.agg #[.int .i64 kx, vx, nx]) t ∧
    Below w.heap.size w (((wr.setCell ⟨w.heap.size, 0, none⟩ x).setCell ⟨w.heap.size, 1, none⟩ y).setCell ⟨w.heap.size, 2, none⟩ z) :=
  ⟨store3_tv h.tv (fun h => h.elim (fun h => by have := hP _ h; omega) fun h => by omega) (fun g hg => hg.imp id fun h => by omega) _ _ _, store3_below h.bel (Nat.le_refl _) (Nat.le_refl _) _ _ _⟩
end
set_option maxRecDepth 100000 in
set_option maxHeartbeats 4000000 in
theorem rcom_any (is : List Vl) (ih : ∀ v ∈ is, ROfOk v) (P : Nat → Prop) (w : World) (x : Value) (lv : Int) (hx : WV P w x is) (hP : ∀ g, P g → g < w.heap.size) (hsz : szL is ≤ 400000) (hky : kyL is ≤ 1000000) (h0 : 0 ≤ lv) (h1 : lv ≤ 1000) :
    Calls Tryz.prog 55 #[x, .int .i64 lv] w (URetP P (comT is lv none) w) := by
  obtain ⟨ox, cx, rfl⟩ := hx.len
  have hle := hx.le
  have hlen := szL_len is
  have HX := hid hx
  have IH := hid ih
  have HPL := hid hP
  generalize hA : w.alloc (.cells #[.int .i64 0, .slice none 0 0, .slice none 0 0] 30) = wa
  have hzo : wa.heap[w.heap.size]? = some (.cells #[.int .i64 0, .slice none 0 0, .slice none 0 0] 30) := by rw [← hA]; exact heap_alloc_at w _
  have has : wa.heap.size = w.heap.size + 1 := by rw [← hA]; simp
  have hab : Below w.heap.size w wa := by rw [← hA]; exact (Below.refl _ _).alloc (Nat.le_refl _) _
  have hT := heap_alloc_at wa (.cells #[.int .i64 0, .slice none 0 0, .slice none 0 0] 30)
  have hbb : Below wa.heap.size wa (wa.alloc (.cells #[.int .i64 0, .slice none 0 0, .slice none 0 0] 30)) := (Below.refl _ _).alloc (Nat.le_refl _) _
  rw [has] at hT
  generalize hB : wa.alloc (.cells #[.int .i64 0, .slice none 0 0, .slice none 0 0] 30) = wb at hT hbb
  have HC := hid (show RC P w wb 0 (.slice none 0 0) (.slice none 0 0) (.mk 0 [] []) from ⟨hab.trans (hbb.mono hab.size), (hbb.block _ (by omega)).trans hzo, hT, TV.any0 _ _⟩)
  have HA := hid hA
  have HB := hid hB
  clear hx ih hA hB hT hbb hab hzo has hP
  go_enter Tryz.func55, Tryz.ntmps55
  go_wp2_with fail
  rw [HA.out, HB.out]
  go_loopw [6, 7] (fun fb i wr => ∃ (j : Nat) (o : Option Ty) (kx : Int) (vx nx : Value), j ≤ is.length ∧ i = .int .i64 j ∧ fb = .bool o.isNone ∧ Hid (RC P w wr kx vx nx (o.getD (.mk 0 [] []))) ∧ Hid (comT is lv none = comT (is.drop j) lv o) ∧ Hid (sizeT (o.getD (.mk 0 [] [])) ≤ 1000000 ∧ namesT (o.getD (.mk 0 [] [])) ≤ 1000000)) (fun _ i _ => is.length - (intOf i).toNat)
  case atStart => exact ⟨0, none, _, _, _, Nat.zero_le _, rfl, rfl, HC, rfl, hid ⟨by show sizeT (.mk 0 [] []) ≤ _; rw [sizeT_eq, sizeL]; omega, by show namesT (.mk 0 [] []) ≤ _; rw [namesT, namesL]; simp⟩⟩
  case round =>
    obtain ⟨j, o, kx, vx, nx, hj, rfl, rfl, HCI, HE, HSZ⟩ := hrel
    obtain ⟨_, oy, my, cy, oz, mz, cz, -, rfl, rfl⟩ := HCI.out.tv.agg3
    by_cases hlt : j < is.length
    · obtain ⟨g, off, c, k1, n1, s1, oi, mi, ci, ok, mk, ck, e1, a1, a2, a3, a4, a5, hV, hkd⟩ := (HX.out.bel (HCI.out.bel)).at hlt
      cases e1
      have hj0 : (0 : Int) ≤ (j : Int) := by omega
      have hj1 : (j : Int) < (is.length : Int) := by omega
      have HV := hid hV
      have HKD := hid hkd
      clear hV hkd
      by_cases hk0 : k1 = 0
      · have hn : nilV is[j] = true := by unfold nilV; rw [HKD.out, hk0]; rfl
        have e0 : decide (k1 = 0) = true := decide_eq_true hk0
        have b0 : (k1 == 0) = true := beq_iff_eq.2 hk0
        have HE2 := hid (HE.out.trans (by rw [drop_step hlt, comT_skip hn]))
        clear hn
        go_wp2_with fail
        go_roundw
        case rel => exact ⟨j + 1, o, _, _, _, by omega, by go_num, rfl, HCI, HE2, HSZ⟩
        case measure => simp [intOf]; omega
      have e0 : decide (k1 = 0) = false := decide_eq_false hk0
      have b0 : (k1 == 0) = false := beq_eq_false_iff_ne.2 hk0
      by_cases hk6 : k1 = 6
      · have hn : nilV is[j] = true := by unfold nilV; rw [HKD.out, hk6]; rfl
        have e6 : decide (k1 = 6) = true := decide_eq_true hk6
        have b6 : (k1 == 6) = true := beq_iff_eq.2 hk6
        have HE2 := hid (HE.out.trans (by rw [drop_step hlt, comT_skip hn]))
        clear hn
        go_wp2_with fail
        go_roundw
        case rel => exact ⟨j + 1, o, _, _, _, by omega, by go_num, rfl, HCI, HE2, HSZ⟩
        case measure => simp [intOf]; omega
      have e6 : decide (k1 = 6) = false := decide_eq_false hk6
      have b6 : (k1 == 6) = false := beq_eq_false_iff_ne.2 hk6
      have hn : nilV is[j] = false := by unfold nilV; rw [HKD.out, e0, e6]; rfl
      have HN := hid hn
      have HOF := hid (IH.out is[j] (List.getElem_mem hlt) P wr _ lv HV.out (fun g hg => by have := HPL.out g hg; have := HCI.out.lt; omega) (by have := szV_mem (List.getElem_mem hlt); omega) (by have := kyV_mem (List.getElem_mem hlt); omega) h0 h1)
      have HSZ6 := hid (ofT_size is[j] lv)
      have HSV := hid (And.intro (szV_mem (List.getElem_mem hlt)) (kyV_mem (List.getElem_mem hlt)))
      clear hk0 hk6 hn
      go_wp2_with fail
      clear a1 a2 a3 a4 a5
      refine HOF.out.mono ?_
      rintro e w6 ⟨u, rfl, hu, hb6⟩
      obtain ⟨t6, ht6⟩ : ∃ t6, ofT is[j] lv = t6 := ⟨_, rfl⟩
      rw [ht6] at hu HSZ6
      have HT6 := hid ht6
      obtain ⟨k4, es4, ns4⟩ := t6
      obtain ⟨ve4, vn4, rfl, hE4, hN4⟩ := hu.out
      obtain ⟨oe4, ce4, rfl⟩ := hE4.len
      obtain ⟨on4, cn4, rfl⟩ := hN4.len
      have HU := hid hu
      have HCI6 := hid (HCI.out.later hb6)
      clear hu hE4 hN4 hb6 ht6 HOF
      go_upto_region 8 with (fail)
      have hG5 : Below w6.heap.size w6 (w6.alloc (.cells #[.int .i64 k4, .slice oe4 es4.length ce4, .slice on4 ns4.length cn4] 30)) := (Below.refl _ _).alloc (Nat.le_refl _) _
      have hXO := heap_alloc_at w6 (.cells #[.int .i64 k4, .slice oe4 es4.length ce4, .slice on4 ns4.length cn4] 30)
      generalize w6.alloc (.cells #[.int .i64 k4, .slice oe4 es4.length ce4, .slice on4 ns4.length cn4] 30) = w7 at *
      have HCI7 := hid (HCI6.out.later hG5)
      have HU7 := hid (HU.out.bel hG5)
      have x0 := (cells_in hXO 0).trans rfl
      have x1 := (cells_in hXO 1).trans rfl
      have x2 := (cells_in hXO 2).trans rfl
      have c0 := (cells_in HCI7.out.obj 0).trans rfl
      have c1 := (cells_in HCI7.out.obj 1).trans rfl
      have c2 := (cells_in HCI7.out.obj 2).trans rfl
      have cf := frozen_in HCI7.out.obj
      have L5 := hid HCI.out.lt
      clear hG5 hXO HU HCI6
      cases o with
      | none =>
        have HE2 := hid (HE.out.trans (by rw [drop_step hlt, comT_first HN.out, HT6.out]))
        have HC2 := hid (HCI7.out.set HPL.out (HU7.out.mono (Q := fun g => P g ∨ w.heap.size + 1 + 1 ≤ g) (fun g hg => hg.imp id fun h => by have := L5.out; omega)))
        go_wp2_with fail
        go_roundw
        case rel => exact ⟨j + 1, some (.mk k4 es4 ns4), _, _, _, by omega, by go_num, rfl, HC2, HE2, hid ⟨by have := HSZ6.out.1; have := HSV.out.1; show sizeT (.mk k4 es4 ns4) ≤ _; omega, by have := HSZ6.out.2; have := HSV.out.2; show namesT (.mk k4 es4 ns4) ≤ _; omega⟩⟩
        case measure => simp [intOf]; omega
      | some t =>
        have HUN := hid (runiP_any _ (.mk k4 es4 ns4) _ _ w7 _ _ HCI7.out.tv.ex HU7.out (fun g hg => hg.2) HSZ.out.1 HSZ.out.2)
        go_wp2_with fail
        refine HUN.out.mono ?_
        rintro e w8 ⟨u8, rfl, hu8, hb8⟩
        have hun : uniT ((some t).getD (.mk 0 [] [])) (.mk k4 es4 ns4) = uniT t (.mk k4 es4 ns4) := rfl
        rw [hun] at hu8
        have HS8 := hid (uniT_size t (.mk k4 es4 ns4))
        obtain ⟨t8, ht8⟩ : ∃ t8, uniT t (.mk k4 es4 ns4) = t8 := ⟨_, rfl⟩
        rw [ht8] at hu8 HS8
        have HT8 := hid ht8
        obtain ⟨k8, es8, ns8⟩ := t8
        obtain ⟨ve8, vn8, rfl, hE8, hN8⟩ := hu8.out
        obtain ⟨oe8, ce8, rfl⟩ := hE8.len
        obtain ⟨on8, cn8, rfl⟩ := hN8.len
        have HC8 := hid (HCI7.out.later hb8)
        have L7 := hid HCI7.out.lt
        have HU8 := hid (hu8.mono (Q := fun g => P g ∨ w.heap.size + 1 + 1 ≤ g) (fun g hg => hg.elim (fun h => h.1) fun h => .inr (by have := L7.out; omega)))
        clear hu8 hb8 hE8 hN8 ht8 hun x0 x1 x2 c0 c1 c2 cf HUN
        have c0 := (cells_in HC8.out.obj 0).trans rfl
        have c1 := (cells_in HC8.out.obj 1).trans rfl
        have c2 := (cells_in HC8.out.obj 2).trans rfl
        have cf := frozen_in HC8.out.obj
        have HE2 := hid (HE.out.trans (by rw [drop_step hlt, comT_next HN.out, HT6.out, HT8.out]))
        have HC2 := hid (HC8.out.set HPL.out HU8.out)
        have HSZ9 := hid (show sizeT ((some (Ty.mk k8 es8 ns8)).getD (.mk 0 [] [])) ≤ 1000000 ∧ namesT ((some (Ty.mk k8 es8 ns8)).getD (.mk 0 [] [])) ≤ 1000000 from ⟨Nat.le_trans HS8.out.1 HSZ.out.1, Nat.le_trans HS8.out.2 HSZ.out.2⟩)
        go_wp2_with fail
        go_roundw
        case rel => exact ⟨j + 1, some (.mk k8 es8 ns8), _, _, _, by omega, by go_num, rfl, HC2, HE2, HSZ9⟩
        case measure => simp [intOf]; omega
    · have HE2 := hid (HE.out.trans (by rw [List.drop_of_length_le (by omega), comT_nil]))
      have c0 := (cells_in HCI.out.obj 0).trans rfl
      have c1 := (cells_in HCI.out.obj 1).trans rfl
      have c2 := (cells_in HCI.out.obj 2).trans rfl
      have f0 := (cells_in HCI.out.z 0).trans rfl
      have f1 := (cells_in HCI.out.z 1).trans rfl
      have f2 := (cells_in HCI.out.z 2).trans rfl
      have fz := frozen_in HCI.out.z
      go_wp2_with fail
      try simp only [Exit.inBlock, Exit.then]
      refine bodyPost_ret (v := .agg #[.int .i64 kx, .slice oy my cy, .slice oz mz cz]) (by simp [results, Tryz.results55, go_sem, f0, f1, f2]) rfl ?_
      have OUT := hid (HCI.out.out HPL.out (x := .int .i64 kx) (y := .slice oy my cy) (z := .slice oz mz cz))
      rw [HE2.out]
      exact ⟨_, rfl, OUT.out.1, OUT.out.2⟩

/-- A type made over one block. -/
theorem one_tv {P : Nat → Prop} {w : World} {b : Nat} {x y z : Value} {t : Ty} {k : Int} (h : w.heap[b]? = some (.cells #[x, y, z] 30)) (h1 : TV P w (.agg #[x, y, z]) t) (hb : P b) :
    TV P w (.agg #[.int .i64 k, .slice (some ⟨b, 0, none⟩) 1 1, .slice none 0 0]) (.mk k [t] []) := by
  refine TV.mk' (SV.nil _ _) ⟨[(x, y, z)], ⟨by simp, .inr ⟨b, 0, 1, hb, rfl, fun i r hr => ?_⟩⟩, rfl, fun i r e hr he => ?_⟩
  · match i, hr with
    | 0, hr => cases hr; exact ⟨(cells_in h 0).trans rfl, (cells_in h 1).trans rfl, (cells_in h 2).trans rfl⟩
  · match i, hr, he with
    | 0, hr, he => cases hr; cases he; exact h1
set_option maxRecDepth 100000 in
set_option maxHeartbeats 4000000 in
theorem rof_any (v : Vl) : VOk v → ROfOk v := by
  induction v using Vl.ind with
  | h k n s is ks ih =>
    intro hv P w x lv hx hP hsz hky hl0 hl1
    obtain ⟨hkk, hv5, hvn, hvi, hva, hve⟩ := hv.out
    obtain ⟨vi, vk, rfl, hI, hK, hss⟩ := hx.out
    obtain ⟨oi, ci, rfl⟩ := hI.len
    obtain ⟨ok, ck, rfl⟩ := hK.len
    have hli := hI.le
    have hlk := hK.le
    rw [szV] at hsz
    rw [kyV] at hky
    have hlen := szL_len is
    have IH := hid (fun e he => ih e he (hve e he))
    have HPL := hid hP
    generalize hA : w.alloc (.cells #[.int .i64 k, .int .i64 n, .string s, .slice oi is.length ci, .slice ok ks.length ck] 26) = wa
    have hao : wa.heap[w.heap.size]? = some (.cells #[.int .i64 k, .int .i64 n, .string s, .slice oi is.length ci, .slice ok ks.length ck] 26) := by rw [← hA]; exact heap_alloc_at w _
    have has : wa.heap.size = w.heap.size + 1 := by rw [← hA]; simp
    have hab : Below w.heap.size w wa := by rw [← hA]; exact (Below.refl _ _).alloc (Nat.le_refl _) _
    have hT := heap_alloc_at wa (.cells #[.int .i64 0, .slice none 0 0, .slice none 0 0] 30)
    have hbb : Below wa.heap.size wa (wa.alloc (.cells #[.int .i64 0, .slice none 0 0, .slice none 0 0] 30)) := (Below.refl _ _).alloc (Nat.le_refl _) _
    have hbs : (wa.alloc (.cells #[.int .i64 0, .slice none 0 0, .slice none 0 0] 30)).heap.size = w.heap.size + 2 := by simp [has]
    rw [has] at hT
    generalize hB : wa.alloc (.cells #[.int .i64 0, .slice none 0 0, .slice none 0 0] 30) = wb at hT hbb hbs
    have hall : Below w.heap.size w wb := hab.trans (hbb.mono hab.size)
    have HA0 := hid hA
    have HB0 := hid hB
    have HB := hid hall
    have HS := hid (show w.heap.size + 2 ≤ wb.heap.size by omega)
    have HZ := hid hT
    have HA := hid ((hbb.block _ (by omega)).trans hao)
    have HI := hid (hI.bel hall)
    have HK := hid (hK.bel hall)
    clear hx hI hK ih hA hB hT hbb hbs hall hao has hab hv hv5 hvn hvi hva hve hP
    go_enter Tryz.func32, Tryz.ntmps32
    go_upto_region 1 with (fail)
    rw [HA0.out, HB0.out]
    have k0 := (cells_in HA.out 0).trans rfl
    have f0 := (cells_in HZ.out 0).trans rfl
    have f1 := (cells_in HZ.out 1).trans rfl
    have f2 := (cells_in HZ.out 2).trans rfl
    have fz := frozen_in HZ.out
    by_cases hk1 : k = 1
    · subst hk1
      have HE := hid (ofT_1 (k := 1) (by omega) n s is ks lv)
      go_wp2_with fail
      try simp only [Exit.inBlock, Exit.then]
      refine bodyPost_ret (v := .agg #[.int .i64 1, .slice none 0 0, .slice none 0 0]) (by simp [results, Tryz.results32, go_sem, f0, f1, f2]) rfl ?_
      rw [HE.out]
      exact ⟨_, rfl, store3_tv (Q := fun g => P g ∨ w.heap.size ≤ g) (P := fun g => P g ∨ w.heap.size + 1 + 1 ≤ g) (TV.mk' (SV.nil _ _) (LV.nil _ _)) (fun h => h.elim (fun h => by have := HPL.out _ h; omega) fun h => by omega) (fun g hg => hg.imp id fun h => by omega) _ _ _, store3_below HB.out (by omega) (Nat.le_refl _) _ _ _⟩
    by_cases hk2 : k = 2
    · subst hk2
      have HE := hid (ofT_1 (k := 2) (by omega) n s is ks lv)
      go_wp2_with fail
      try simp only [Exit.inBlock, Exit.then]
      refine bodyPost_ret (v := .agg #[.int .i64 2, .slice none 0 0, .slice none 0 0]) (by simp [results, Tryz.results32, go_sem, f0, f1, f2]) rfl ?_
      rw [HE.out]
      exact ⟨_, rfl, store3_tv (Q := fun g => P g ∨ w.heap.size ≤ g) (P := fun g => P g ∨ w.heap.size + 1 + 1 ≤ g) (TV.mk' (SV.nil _ _) (LV.nil _ _)) (fun h => h.elim (fun h => by have := HPL.out _ h; omega) fun h => by omega) (fun g hg => hg.imp id fun h => by omega) _ _ _, store3_below HB.out (by omega) (Nat.le_refl _) _ _ _⟩
    by_cases hk3 : k = 3
    · subst hk3
      have HE := hid (ofT_1 (k := 3) (by omega) n s is ks lv)
      go_wp2_with fail
      try simp only [Exit.inBlock, Exit.then]
      refine bodyPost_ret (v := .agg #[.int .i64 3, .slice none 0 0, .slice none 0 0]) (by simp [results, Tryz.results32, go_sem, f0, f1, f2]) rfl ?_
      rw [HE.out]
      exact ⟨_, rfl, store3_tv (Q := fun g => P g ∨ w.heap.size ≤ g) (P := fun g => P g ∨ w.heap.size + 1 + 1 ≤ g) (TV.mk' (SV.nil _ _) (LV.nil _ _)) (fun h => h.elim (fun h => by have := HPL.out _ h; omega) fun h => by omega) (fun g hg => hg.imp id fun h => by omega) _ _ _, store3_below HB.out (by omega) (Nat.le_refl _) _ _ _⟩
    have e1 : decide (k = 1) = false := by first | exact decide_eq_true (by omega) | exact decide_eq_false (by omega)
    have b1 : (k == 1) = false := by first | exact beq_iff_eq.2 (by omega) | exact beq_eq_false_iff_ne.2 (by omega)
    have n1 : (k != 1) = !false := by rw [bne, b1]
    have e2 : decide (k = 2) = false := by first | exact decide_eq_true (by omega) | exact decide_eq_false (by omega)
    have b2 : (k == 2) = false := by first | exact beq_iff_eq.2 (by omega) | exact beq_eq_false_iff_ne.2 (by omega)
    have n2 : (k != 2) = !false := by rw [bne, b2]
    have e3 : decide (k = 3) = false := by first | exact decide_eq_true (by omega) | exact decide_eq_false (by omega)
    have b3 : (k == 3) = false := by first | exact beq_iff_eq.2 (by omega) | exact beq_eq_false_iff_ne.2 (by omega)
    have n3 : (k != 3) = !false := by rw [bne, b3]
    by_cases hk0 : k = 0
    · have e0 : decide (k = 0) = true := by first | exact decide_eq_true (by omega) | exact decide_eq_false (by omega)
      have b0 : (k == 0) = true := by first | exact beq_iff_eq.2 (by omega) | exact beq_eq_false_iff_ne.2 (by omega)
      have n0 : (k != 0) = !true := by rw [bne, b0]
      have HE := hid (ofT_0 (k := k) (lv := lv) (by omega) (.inl (by omega)) n s is ks)
      clear hk0 hk1 hk2 hk3
      go_wp2_with fail
      try simp only [Exit.inBlock, Exit.then]
      refine bodyPost_ret (v := .agg #[.int .i64 0, .slice none 0 0, .slice none 0 0]) (by simp [results, Tryz.results32, go_sem, f0, f1, f2]) rfl ?_
      rw [HE.out]
      exact ⟨_, rfl, store3_tv (Q := fun g => P g ∨ w.heap.size ≤ g) (P := fun g => P g ∨ w.heap.size + 1 + 1 ≤ g) (TV.any0 _ _) (fun h => h.elim (fun h => by have := HPL.out _ h; omega) fun h => by omega) (fun g hg => hg.imp id fun h => by omega) _ _ _, store3_below HB.out (by omega) (Nat.le_refl _) _ _ _⟩
    have e0 : decide (k = 0) = false := by first | exact decide_eq_true (by omega) | exact decide_eq_false (by omega)
    have b0 : (k == 0) = false := by first | exact beq_iff_eq.2 (by omega) | exact beq_eq_false_iff_ne.2 (by omega)
    have n0 : (k != 0) = !false := by rw [bne, b0]
    by_cases hk6 : k = 6
    · have e6 : decide (k = 6) = true := by first | exact decide_eq_true (by omega) | exact decide_eq_false (by omega)
      have b6 : (k == 6) = true := by first | exact beq_iff_eq.2 (by omega) | exact beq_eq_false_iff_ne.2 (by omega)
      have n6 : (k != 6) = !true := by rw [bne, b6]
      have HE := hid (ofT_0 (k := k) (lv := lv) (by omega) (.inl (by omega)) n s is ks)
      clear hk0 hk1 hk2 hk3 hk6
      go_wp2_with fail
      try simp only [Exit.inBlock, Exit.then]
      refine bodyPost_ret (v := .agg #[.int .i64 0, .slice none 0 0, .slice none 0 0]) (by simp [results, Tryz.results32, go_sem, f0, f1, f2]) rfl ?_
      rw [HE.out]
      exact ⟨_, rfl, store3_tv (Q := fun g => P g ∨ w.heap.size ≤ g) (P := fun g => P g ∨ w.heap.size + 1 + 1 ≤ g) (TV.any0 _ _) (fun h => h.elim (fun h => by have := HPL.out _ h; omega) fun h => by omega) (fun g hg => hg.imp id fun h => by omega) _ _ _, store3_below HB.out (by omega) (Nat.le_refl _) _ _ _⟩
    have e6 : decide (k = 6) = false := by first | exact decide_eq_true (by omega) | exact decide_eq_false (by omega)
    have b6 : (k == 6) = false := by first | exact beq_iff_eq.2 (by omega) | exact beq_eq_false_iff_ne.2 (by omega)
    have n6 : (k != 6) = !false := by rw [bne, b6]
    by_cases h32 : 32 ≤ lv
    · have g32 : decide (lv ≥ 32) = true := decide_eq_true h32
      have HE := hid (ofT_0 (k := k) (lv := lv) (by omega) (.inr h32) n s is ks)
      clear hk0 hk1 hk2 hk3 hk6
      go_wp2_with fail
      try simp only [Exit.inBlock, Exit.then]
      refine bodyPost_ret (v := .agg #[.int .i64 0, .slice none 0 0, .slice none 0 0]) (by simp [results, Tryz.results32, go_sem, f0, f1, f2]) rfl ?_
      rw [HE.out]
      exact ⟨_, rfl, store3_tv (Q := fun g => P g ∨ w.heap.size ≤ g) (P := fun g => P g ∨ w.heap.size + 1 + 1 ≤ g) (TV.any0 _ _) (fun h => h.elim (fun h => by have := HPL.out _ h; omega) fun h => by omega) (fun g hg => hg.imp id fun h => by omega) _ _ _, store3_below HB.out (by omega) (Nat.le_refl _) _ _ _⟩
    have g32 : decide (lv ≥ 32) = false := decide_eq_false h32
    have hl31 : lv ≤ 31 := by omega
    by_cases hk4 : k = 4
    · subst hk4
      have HE := hid (ofT_4 h32 n s is ks)
      clear hk0 hk1 hk2 hk3 hk6 h32
      have k3 := (cells_in HA.out 3).trans rfl
      have HCOM := hid (rcom_any is IH.out P wb _ (lv + 1) HI.out (fun g hg => by have := HPL.out g hg; have := HS.out; omega) (by omega) (by omega) (by omega) (by omega))
      go_wp2_with fail
      refine HCOM.out.mono ?_
      rintro e w3 ⟨u, rfl, hu, hb3⟩
      obtain ⟨t3, ht3⟩ : ∃ t3, comT is (lv + 1) none = t3 := ⟨_, rfl⟩
      rw [ht3] at hu
      have HT3 := hid ht3
      rw [HT3.out] at HE
      clear ht3 k0 k3 f0 f1 f2 fz
      obtain ⟨ku, eu, nu⟩ := t3
      obtain ⟨veu, vnu, rfl, hEu, hNu⟩ := hu.out
      obtain ⟨oeu, ceu, rfl⟩ := hEu.len
      obtain ⟨onu, cnu, rfl⟩ := hNu.len
      have hb4 : Below w3.heap.size w3 (w3.alloc (.cells #[.int .i64 ku, .slice oeu eu.length ceu, .slice onu nu.length cnu] 30)) := (Below.refl _ _).alloc (Nat.le_refl _) _
      have ho4 := heap_alloc_at w3 (.cells #[.int .i64 ku, .slice oeu eu.length ceu, .slice onu nu.length cnu] 30)
      have hz4 := (hb4.block _ (Array.getElem?_eq_some_iff.1 ((hb3.block _ (by have := HS.out; omega)).trans HZ.out)).1).trans ((hb3.block _ (by have := HS.out; omega)).trans HZ.out)
      have HS3 := hid (show w.heap.size + 2 ≤ w3.heap.size by have := hb3.size; have := HS.out; omega)
      have HONE := hid (one_tv (k := 4) ho4 (((hu.mono (Q := fun g => P g ∨ w.heap.size + 1 + 1 ≤ g) fun g hg => hg.imp id fun h => by have := HS.out; omega)).bel hb4) (.inr (by have := HS3.out; omega)))
      have B4 := hid ((HB.out.trans (hb3.mono HB.out.size)).trans (hb4.mono (HB.out.trans (hb3.mono HB.out.size)).size))
      have f0 := (cells_in hz4 0).trans rfl
      have f1 := (cells_in hz4 1).trans rfl
      have f2 := (cells_in hz4 2).trans rfl
      have fz := frozen_in hz4
      clear hu hEu hNu hb3 hb4 ho4 hz4 HCOM
      go_wp2_with fail
      try simp only [Exit.inBlock, Exit.then]
      refine bodyPost_ret (v := .agg #[.int .i64 4, .slice (some ⟨w3.heap.size, 0, none⟩) 1 1, .slice none 0 0]) (by simp [results, Tryz.results32, go_sem, f0, f1, f2]) rfl ?_
      rw [HE.out]
      exact ⟨_, rfl, store3_tv (Q := fun g => P g ∨ w.heap.size ≤ g) (P := fun g => P g ∨ w.heap.size + 1 + 1 ≤ g) HONE.out (fun h => h.elim (fun h => by have := HPL.out _ h; omega) fun h => by omega) (fun g hg => hg.imp id fun h => by omega) _ _ _, store3_below B4.out (by omega) (Nat.le_refl _) _ _ _⟩
    have hk5 : k = 5 := by omega
    subst hk5
    clear hk0 hk1 hk2 hk3 hk4 hk6
    have k4 := (cells_in HA.out 4).trans rfl
    have HKE := hid (rids_any P wb _ ks HK.out)
    cases hbad : ks.any badK with
    | true =>
      have HE := hid (ofT_5 h32 n s is hbad)
      rw [hbad] at HKE
      clear hbad h32
      go_wp2_with fail
      refine HKE.out.mono ?_
      rintro e w2 ⟨rfl, rfl⟩
      clear k4
      have k3 := (cells_in HA.out 3).trans rfl
      have HCOM := hid (rcom_any is IH.out P wb _ (lv + 1) HI.out (fun g hg => by have := HPL.out g hg; have := HS.out; omega) (by omega) (by omega) (by omega) (by omega))
      go_wp2_with fail
      refine HCOM.out.mono ?_
      rintro e w3 ⟨u, rfl, hu, hb3⟩
      obtain ⟨t3, ht3⟩ : ∃ t3, comT is (lv + 1) none = t3 := ⟨_, rfl⟩
      rw [ht3] at hu
      have HT3 := hid ht3
      rw [HT3.out] at HE
      clear ht3 k0 k3 f0 f1 f2 fz
      obtain ⟨ku, eu, nu⟩ := t3
      obtain ⟨veu, vnu, rfl, hEu, hNu⟩ := hu.out
      obtain ⟨oeu, ceu, rfl⟩ := hEu.len
      obtain ⟨onu, cnu, rfl⟩ := hNu.len
      have hb4 : Below w3.heap.size w3 (w3.alloc (.cells #[.int .i64 ku, .slice oeu eu.length ceu, .slice onu nu.length cnu] 30)) := (Below.refl _ _).alloc (Nat.le_refl _) _
      have ho4 := heap_alloc_at w3 (.cells #[.int .i64 ku, .slice oeu eu.length ceu, .slice onu nu.length cnu] 30)
      have hz4 := (hb4.block _ (Array.getElem?_eq_some_iff.1 ((hb3.block _ (by have := HS.out; omega)).trans HZ.out)).1).trans ((hb3.block _ (by have := HS.out; omega)).trans HZ.out)
      have HS3 := hid (show w.heap.size + 2 ≤ w3.heap.size by have := hb3.size; have := HS.out; omega)
      have HONE := hid (one_tv (k := 5) ho4 (((hu.mono (Q := fun g => P g ∨ w.heap.size + 1 + 1 ≤ g) fun g hg => hg.imp id fun h => by have := HS.out; omega)).bel hb4) (.inr (by have := HS3.out; omega)))
      have B4 := hid ((HB.out.trans (hb3.mono HB.out.size)).trans (hb4.mono (HB.out.trans (hb3.mono HB.out.size)).size))
      have f0 := (cells_in hz4 0).trans rfl
      have f1 := (cells_in hz4 1).trans rfl
      have f2 := (cells_in hz4 2).trans rfl
      have fz := frozen_in hz4
      clear hu hEu hNu hb3 hb4 ho4 hz4 HCOM
      go_wp2_with fail
      try simp only [Exit.inBlock, Exit.then]
      refine bodyPost_ret (v := .agg #[.int .i64 5, .slice (some ⟨w3.heap.size, 0, none⟩) 1 1, .slice none 0 0]) (by simp [results, Tryz.results32, go_sem, f0, f1, f2]) rfl ?_
      rw [HE.out]
      exact ⟨_, rfl, store3_tv (Q := fun g => P g ∨ w.heap.size ≤ g) (P := fun g => P g ∨ w.heap.size + 1 + 1 ≤ g) HONE.out (fun h => h.elim (fun h => by have := HPL.out _ h; omega) fun h => by omega) (fun g hg => hg.imp id fun h => by omega) _ _ _, store3_below B4.out (by omega) (Nat.le_refl _) _ _ _⟩
    | false =>
      have HE := hid (ofT_6 h32 n s is hbad)
      rw [hbad] at HKE
      clear hbad h32
      go_wp2_with fail
      refine HKE.out.mono ?_
      rintro e w2 ⟨rfl, rfl⟩
      have UST := hid (UI.start (k := 6) (R := fun g => P g ∨ w.heap.size + 1 + 1 ≤ g) HK.out (fun g hg => .inl hg))
      go_upto_region 15 with (fail)
      generalize wb.alloc (.cells #[.int .i64 6, .slice none 0 0, .slice ok ks.length ck] 30) = w4 at *
      have A3 := hid ((cells_in HA.out 3).trans rfl)
      clear k0 k4 f0 f1 f2 fz
      go_wp2_with fail
      go_loopw [6] (fun i wr => ∃ (j : Nat) (v : Value), j ≤ is.length ∧ i = .int .i64 j ∧ Hid (UI (fun g => P g ∨ w.heap.size + 1 + 1 ≤ g) wb.heap.size wb 6 (.slice ok ks.length ck) ks wr v ((ofL is (lv + 1)).take j))) (fun i _ => is.length - (intOf i).toNat)
      case atStart => exact ⟨0, _, Nat.zero_le _, rfl, UST⟩
      case round =>
        clear UST
        obtain ⟨j, v, hj, rfl, U⟩ := hrel
        obtain ⟨ov, mv, cv, rfl⟩ := U.out.own.slice
        have k3 : wr.cell? ⟨w.heap.size, 3, none⟩ = some (.slice oi is.length ci) := bcell U.out.bel A3.out
        by_cases hlt : j < is.length
        · obtain ⟨g, off, c, k1, n1, s1, oi1, mi1, ci1, ok1, mk1, ck1, e1, a1', a2', a3', a4', a5', hV, -⟩ := HI.out.at hlt
          cases e1
          have lt1 : g < wb.heap.size := World.block_lt_of_cell? wb _ a1'
          have a1 := bcell U.out.bel a1'
          have a2 := bcell U.out.bel a2'
          have a3 := bcell U.out.bel a3'
          have a4 := bcell U.out.bel a4'
          have a5 := bcell U.out.bel a5'
          have hj0 : (0 : Int) ≤ (j : Int) := by omega
          have hj1 : (j : Int) < (is.length : Int) := by omega
          have hjn : j ≤ 1000000 := by omega
          have HWX : Hid (w.heap.size + 2 ≤ wb.heap.size ∧ wb.heap.size < wr.heap.size) := hid ⟨HS.out, U.out.lt⟩
          have hdr : Below wb.heap.size wb wr.drew := below_drew U.out.bel
          have HCall := hid (IH.out is[j] (List.getElem_mem hlt) P wr.drew _ (lv + 1) (hV.bel hdr) (fun g hg => by have := HPL.out g hg; have := HS.out; have := hdr.size; omega) (by have := szV_mem (List.getElem_mem hlt); omega) (by have := kyV_mem (List.getElem_mem hlt); omega) (by omega) (by omega))
          have x1 := (cells_in U.out.obj 1).trans rfl
          have HTK : Hid ((ofL is (lv + 1)).take (j + 1) = (ofL is (lv + 1)).take j ++ [ofT is[j] (lv + 1)]) := hid (by
            have hl : j < (ofL is (lv + 1)).length := by rw [ofL_map]; simpa using hlt
            rw [List.take_succ_eq_append_getElem hl]
            congr 2
            simp [ofL_map])
          have htl : ((ofL is (lv + 1)).take j).length ≤ j := List.length_take_le _ _
          have HOW := hid (fun g (hg : (Value.slice ov mv cv).ownBlock = some g) => U.out.own.block hg)
          clear a1' a2' a3' a4' a5' hV hdr
          generalize ofT is[j] (lv + 1) = t4 at *
          generalize (ofL is (lv + 1)).take j = ts at *
          have hwr : IntKind.i64.wrap (lv + 1) = lv + 1 := by rw [IntKind.wrap_i64]; omega
          go_wp2_with fail
          refine wp_region_steady_tail 13 (fun v => v.cell? ⟨wb.heap.size, 1, none⟩ = some (.slice ov mv cv) ∧ v.cell? ⟨w.heap.size, 3, none⟩ = some (.slice (some ⟨g, off, none⟩) is.length ci) ∧ v.cell? ⟨g, off + j * 5, none⟩ = some (.int .i64 k1) ∧ v.cell? ⟨g, off + j * 5 + 1, none⟩ = some (.int .i64 n1) ∧ v.cell? ⟨g, off + j * 5 + 2, none⟩ = some (.string s1) ∧ v.cell? ⟨g, off + j * 5 + 3, none⟩ = some (.slice oi1 mi1 ci1) ∧ v.cell? ⟨g, off + j * 5 + 4, none⟩ = some (.slice ok1 mk1 ck1)) (by kernel_rfl) (by kernel_rfl) (⟨x1, k3, a1, a2, a3, a4, a5⟩) ?_
          simp only [List.take_succ_cons, List.take_zero, List.drop_succ_cons, List.drop_zero]
          repeat (first
            | (refine wpSteady_skip (by rfl) ?_; try simp only [Act.put, List.setIfInBounds_toArray, List.set_cons_zero, List.set_cons_succ])
            | (refine wpSteady_calm (v := ?_) (by rfl) ?_ ?_; rotate_left; (focus (intro v hSv; (try dsimp only at hSv); go_simp; (try with_reducible rfl); done)); try simp only [Act.put, List.setIfInBounds_toArray, List.set_cons_zero, List.set_cons_succ]))
          refine wpSteady_loud rfl (by rfl) (fun K hK => ?_)
          go_simp
          refine HCall.out.mono ?_; rintro e w6 ⟨u, rfl, hu, hb6⟩
          obtain ⟨k4, es4, ns4⟩ := t4
          obtain ⟨ve4, vn4, rfl, hE4, hN4⟩ := hu.out
          obtain ⟨oe4, ce4, rfl⟩ := hE4.len
          obtain ⟨on4, cn4, rfl⟩ := hN4.len
          have HU6 := hid hu
          have U6 := hid (U.out.call (show Below wr.heap.size wr w6 from ⟨hb6.os, hb6.tape, hb6.output, hb6.size, hb6.block⟩))
          have HW6 : Hid (wr.heap.size ≤ w6.heap.size) := hid hb6.size
          have r1 := bcell (W := wr.drew) hb6 x1
          have r2 := bcell (W := wr.drew) hb6 k3
          have r3 := bcell (W := wr.drew) hb6 a1
          have r4 := bcell (W := wr.drew) hb6 a2
          have r5 := bcell (W := wr.drew) hb6 a3
          have r6 := bcell (W := wr.drew) hb6 a4
          have r7 := bcell (W := wr.drew) hb6 a5
          clear hb6 hE4 hN4 hu x1 k3 a1 a2 a3 a4 a5
          refine hK.out _ _ (⟨r1, r2, r3, r4, r5, r6, r7⟩) ?_
          clear hK K
          try simp only [Act.put, List.setIfInBounds_toArray, List.set_cons_zero, List.set_cons_succ]
          repeat (first
            | (refine wpSteady_skip (by rfl) ?_; try simp only [Act.put, List.setIfInBounds_toArray, List.set_cons_zero, List.set_cons_succ])
            | (refine wpSteady_calm (v := ?_) (by rfl) ?_ ?_; rotate_left; (focus (intro v hSv; (try dsimp only at hSv); go_simp; (try rw [if_neg (by omega)]); (try with_reducible rfl); done)); try simp only [Act.put, List.setIfInBounds_toArray, List.set_cons_zero, List.set_cons_succ]))
          refine wpSteady_loud rfl (by rfl) (fun K hK => ?_)
          go_simp
          have hal : Below w6.heap.size w6 (w6.alloc (.cells #[.int .i64 k4, .slice oe4 es4.length ce4, .slice on4 ns4.length cn4] 30)) := (Below.refl _ _).alloc (Nat.le_refl _) _
          refine hK.out _ _ (⟨bcell hal r1, bcell hal r2, bcell hal r3, bcell hal r4, bcell hal r5, bcell hal r6, bcell hal r7⟩) ?_
          clear hK K
          try simp only [Act.put, List.setIfInBounds_toArray, List.set_cons_zero, List.set_cons_succ]
          clear hal
          refine wpSteady_loud rfl (by rfl) (fun K hK => ?_)
          obtain ⟨rs, hm, hl2, he4⟩ := U6.out.own
          have hno : ∀ g, g ≤ wb.heap.size → ¬ (Value.slice ov mv cv).ownBlock = some g := fun g hg e => by have := hm.2 g e; omega
          refine app_tag_wp (.tmp 63) (.tmp 72) 28 (by rfl) 30 (.agg #[.int .i64 0, .slice none 0 0, .slice none 0 0]) 3 56 Tryz.underlying28 info26 (by rfl) (by decide) (by decide) _ _ _ hm.1 (by rfl) [.int .i64 k4, .slice oe4 es4.length ce4, .slice on4 ns4.length cn4] w6.heap.size (by rfl) (by rfl) (by rfl) (by simp [Value.oneCell']) (by omega) ?_
          intro v5 w7 hown5 hc5 hp5 hne5
          obtain ⟨o5, n5, c5, rfl⟩ := owns_slice hown5
          have hX5 : w7.heap[wb.heap.size]? = _ := (hc5.block _ U6.out.lt (hno _ (Nat.le_refl _))).trans U6.out.obj
          have hw1 : w.heap.size ≤ wb.heap.size := by have := HS.out; omega
          refine hK.out _ _ ⟨chg_cell hc5 (hno _ (Nat.le_refl _)) r1, chg_cell hc5 (hno _ hw1) r2, chg_cell hc5 (hno _ (Nat.le_of_lt lt1)) r3, chg_cell hc5 (hno _ (Nat.le_of_lt lt1)) r4, chg_cell hc5 (hno _ (Nat.le_of_lt lt1)) r5, chg_cell hc5 (hno _ (Nat.le_of_lt lt1)) r6, chg_cell hc5 (hno _ (Nat.le_of_lt lt1)) r7⟩ ?_
          clear hK K
          try simp only [Act.put, List.setIfInBounds_toArray, List.set_cons_zero, List.set_cons_succ]
          have U7 := hid (U6.out.grown hm hl2 he4 hown5 HU6.out (fun g hg => by
            have hg' : P g ∨ wr.heap.size ≤ g := hg
            have hg2 : g < w.heap.size ∨ wr.heap.size ≤ g := hg'.imp (HPL.out g) id
            have h1 := HWX.out
            exact ⟨hg'.imp id fun h => by omega, by omega, fun e => by have := HOW.out g e; omega⟩) hc5 hp5)
          have h1 := (cells_in hX5 1).trans rfl
          have hf := frozen_in hX5
          clear hown5 hc5 hp5 hne5 hX5 he4 hm hl2 hno r1 r2 r3 r4 r5 r6 r7
          repeat (first
            | (refine wpSteady_skip (by rfl) ?_; try simp only [Act.put, List.setIfInBounds_toArray, List.set_cons_zero, List.set_cons_succ])
            | (refine wpSteady_calm (v := ?_) (by rfl) ?_ ?_; rotate_left; (focus (intro v hSv; (try dsimp only at hSv); go_simp; (try rw [if_neg (by omega)]); (try with_reducible rfl); done)); try simp only [Act.put, List.setIfInBounds_toArray, List.set_cons_zero, List.set_cons_succ]))
          refine wpSteady_nil ?_
          go_wp2_with fail
          go_roundw
          case rel =>
            have e5 := HTK.out
            exact ⟨j + 1, .slice o5 n5 c5, by omega, by go_num, by rw [e5]; exact U7⟩
          case measure => simp [intOf]; omega
        · have hts : (ofL is (lv + 1)).take j = ofL is (lv + 1) := List.take_of_length_le (by rw [ofL_map]; simp; omega)
          rw [hts] at U
          have zo : wr.heap[w.heap.size + 1]? = _ := (U.out.bel.block _ (by have := HS.out; omega)).trans HZ.out
          have x0 := (cells_in U.out.obj 0).trans rfl
          have x1 := (cells_in U.out.obj 1).trans rfl
          have x2 := (cells_in U.out.obj 2).trans rfl
          have f0 := (cells_in zo 0).trans rfl
          have f1 := (cells_in zo 1).trans rfl
          have f2 := (cells_in zo 2).trans rfl
          have fz := frozen_in zo
          have HUV := hid (U.out.read (fun g hg => .inr (by have := HS.out; omega)) (by rw [ofL_map]; simp; omega))
          have HBV := hid (HB.out.trans (U.out.bel.mono HB.out.size))
          clear hts
          go_wp2_with fail
          try simp only [Exit.inBlock, Exit.then]
          refine bodyPost_ret (v := .agg #[.int .i64 6, .slice ov mv cv, .slice ok ks.length ck]) (by simp [results, Tryz.results32, go_sem, f0, f1, f2]) rfl ?_
          rw [HE.out]
          exact ⟨_, rfl, store3_tv (Q := fun g => P g ∨ w.heap.size ≤ g) (P := fun g => P g ∨ w.heap.size + 1 + 1 ≤ g) HUV.out (fun h => h.elim (fun h => by have := HPL.out _ h; omega) fun h => by omega) (fun g hg => hg.imp id fun h => by omega) _ _ _, store3_below HBV.out (by omega) (Nat.le_refl _) _ _ _⟩
set_option maxRecDepth 100000 in
set_option maxHeartbeats 4000000 in
theorem rofV_any (v : Vl) (P : Nat → Prop) (w : World) (x : Value) (hv : VOk v) (hx : VV P w x v) (hP : ∀ g, P g → g < w.heap.size) (hsz : szV v ≤ 400000) (hky : kyV v ≤ 1000000) : Calls Tryz.prog 13 #[x] w (URetP P (ofT v 1) w) := by
  have HPL := hid hP
  obtain ⟨k, n, s, is, ks⟩ := v
  obtain ⟨vi, vk, rfl, hI, hK, hss⟩ := hx.out
  obtain ⟨oi, ci, rfl⟩ := hI.len
  obtain ⟨ok, ck, rfl⟩ := hK.len
  generalize hA : w.alloc (.cells #[.int .i64 k, .int .i64 n, .string s, .slice oi is.length ci, .slice ok ks.length ck] 26) = wa
  have hao : wa.heap[w.heap.size]? = some (.cells #[.int .i64 k, .int .i64 n, .string s, .slice oi is.length ci, .slice ok ks.length ck] 26) := by rw [← hA]; exact heap_alloc_at w _
  have has : wa.heap.size = w.heap.size + 1 := by rw [← hA]; simp
  have hab : Below w.heap.size w wa := by rw [← hA]; exact (Below.refl _ _).alloc (Nat.le_refl _) _
  have hT := heap_alloc_at wa (.cells #[.int .i64 0, .slice none 0 0, .slice none 0 0] 30)
  have hbb : Below wa.heap.size wa (wa.alloc (.cells #[.int .i64 0, .slice none 0 0, .slice none 0 0] 30)) := (Below.refl _ _).alloc (Nat.le_refl _) _
  have hbs : (wa.alloc (.cells #[.int .i64 0, .slice none 0 0, .slice none 0 0] 30)).heap.size = w.heap.size + 2 := by simp [has]
  rw [has] at hT
  generalize hB : wa.alloc (.cells #[.int .i64 0, .slice none 0 0, .slice none 0 0] 30) = wb at hT hbb hbs
  have hall : Below w.heap.size w wb := hab.trans (hbb.mono hab.size)
  have hA2 := (hbb.block _ (by omega)).trans hao
  have HA0 := hid hA
  have HB0 := hid hB
  have HB := hid hall
  have HS := hid (show w.heap.size + 2 ≤ wb.heap.size by omega)
  have HZ := hid hT
  have HOF := hid (rof_any _ hv P wb _ 1 (hx.bel hall) (fun g hg => by have := hP g hg; omega) hsz hky (by decide) (by decide))
  have k0 := (cells_in hA2 0).trans rfl
  have k1 := (cells_in hA2 1).trans rfl
  have k2 := (cells_in hA2 2).trans rfl
  have k3 := (cells_in hA2 3).trans rfl
  have k4 := (cells_in hA2 4).trans rfl
  clear hx hI hK hA hB hT hbb hbs hall hao has hab hA2 hP hv
  go_enter Tryz.func13, Tryz.ntmps13
  go_upto_region 1 with (fail)
  rw [HA0.out, HB0.out]
  go_wp2_with fail
  refine HOF.out.mono ?_
  rintro e w3 ⟨u, rfl, hu, hb3⟩
  obtain ⟨t3, ht3⟩ : ∃ t3, ofT (.mk k n s is ks) 1 = t3 := ⟨_, rfl⟩
  rw [ht3] at hu
  have HE := hid ht3
  obtain ⟨k4', es4, ns4⟩ := t3
  obtain ⟨ve4, vn4, rfl, hE4, hN4⟩ := hu.out
  obtain ⟨oe4, ce4, rfl⟩ := hE4.len
  obtain ⟨on4, cn4, rfl⟩ := hN4.len
  have zo := (hb3.block _ (by have := HS.out; omega)).trans HZ.out
  have f0 := (cells_in zo 0).trans rfl
  have f1 := (cells_in zo 1).trans rfl
  have f2 := (cells_in zo 2).trans rfl
  have fz := frozen_in zo
  have HU := hid (hu.mono (Q := fun g => P g ∨ w.heap.size + 1 + 1 ≤ g) (fun g hg => hg.imp id fun h => by have := HS.out; omega))
  have HBF := hid (HB.out.trans (hb3.mono HB.out.size))
  clear hu hb3 hE4 hN4 ht3 zo k0 k1 k2 k3 k4
  go_wp2_with fail
  try simp only [Exit.inBlock, Exit.then]
  refine bodyPost_ret (v := .agg #[.int .i64 k4', .slice oe4 es4.length ce4, .slice on4 ns4.length cn4]) (by simp [results, Tryz.results13, go_sem, f0, f1, f2]) rfl ?_
  rw [HE.out]
  exact ⟨_, rfl, store3_tv (Q := fun g => P g ∨ w.heap.size ≤ g) (P := fun g => P g ∨ w.heap.size + 1 + 1 ≤ g) HU.out (fun h => h.elim (fun h => by have := HPL.out _ h; omega) fun h => by omega) (fun g hg => hg.imp id fun h => by omega) _ _ _, store3_below HBF.out (by omega) (Nat.le_refl _) _ _ _⟩
end Go.Proofs.YtfljnigbfacmjaaGreatDoor
