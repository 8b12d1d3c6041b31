/- check, Check: the program's and the reference's. -/
import Derived.Test.YtfljnigbfacmjaaGreatDoorParts
import Derived.Test.YtfljnigbfacmjaaGreatDoorIdent
import Derived.Test.YtfljnigbfacmjaaGreatDoorEq
import Derived.IntWalk
namespace Go.Proofs.YtfljnigbfacmjaaGreatDoor
open Go Go.RowKit Go.Proofs.YtfljnigbfacmjaaGreatDoor.Steady
set_option linter.unusedVariables false

def prevO (ns : List ByteArray) (k : Nat) : Option ByteArray := if k = 0 then none else ns[k - 1]?
theorem namesE_step {ns : List ByteArray} {k : Nat} (h : k < ns.length) : namesE (prevO ns k) (ns.drop k) = if identB ns[k] = false then 7 else if badP (prevO ns k) ns[k] = true then 1 else namesE (prevO ns (k + 1)) (ns.drop (k + 1)) := by
  rw [List.drop_eq_getElem_cons h, namesE_cons]
  have : prevO ns (k + 1) = some ns[k] := by unfold prevO; rw [if_neg (by omega), Nat.add_sub_cancel, List.getElem?_eq_getElem h]
  rw [this]
theorem checkL_drop {es : List Ty} {k : Nat} (h : k < es.length) (lv : Int) : checkL (es.drop k) lv = if checkT es[k] lv ≠ 0 then checkT es[k] lv else checkL (es.drop (k + 1)) lv := by
  rw [List.drop_eq_getElem_cons h, checkL]

def CheckOk (t : Ty) : Prop := ∀ (P : Nat → Prop) (w : World) (v : Value) (lv : Int), TV P w v t → 0 ≤ lv → lv ≤ 33 → Calls Tryz.prog 33 #[v, .int .i64 lv] w (Ret (.int .i64 (checkT t lv)) w)

set_option maxRecDepth 100000 in
set_option maxHeartbeats 4000000 in
theorem check_any (t : Ty) : CheckOk t := by
  induction t using Ty.ind with
  | h k es ns ih =>
    intro P w v lv hv hl1 hl2
    obtain ⟨ve, vn, rfl, hE, hN⟩ := hv.out
    obtain ⟨oe, ce, rfl⟩ := hE.len
    obtain ⟨on, cn, rfl⟩ := hN.len
    have hle := hE.le
    have hln := hN.le
    obtain ⟨hB, c0, c1, c2, hz⟩ := box3 w (.int .i64 k) (.slice oe es.length ce) (.slice on ns.length cn) 30
    have HPA := hid (parts_any (w.alloc (.cells #[.int .i64 k, .slice oe es.length ce, .slice on ns.length cn] 30)) k oe on es.length ce ns.length cn hle hln)
    have HE := hid (hE.bel hB)
    have HN := hid (hN.bel hB)
    generalize hW : w.alloc (.cells #[.int .i64 k, .slice oe es.length ce, .slice on ns.length cn] 30) = W at *
    have HW := hid hW
    have HB := hid hB
    have HC1 := hid c1
    have HC2 := hid c2
    have HI := hid ih
    have hq := checkT_eq k es ns lv
    have HQ := hid hq
    clear ih hE hN hv hB c0 c1 c2 hW hq
    by_cases hdeep : 32 < lv
    · have hp : checkT (.mk k es ns) lv = 4 := by rw [HQ.out, if_pos hdeep]
      have HP := hid hp
      have f1 : decide (lv > 32) = true := decide_eq_true hdeep
      clear hp
      go_enter Tryz.func33, Tryz.ntmps33
      go_wp2_with fail
      rw [HW.out]
      go_ret
      exact ⟨by rw [HP.out]; rfl, HB.out⟩
    have f1 : decide (lv > 32) = false := decide_eq_false hdeep
    go_enter Tryz.func33, Tryz.ntmps33
    go_wp2_with fail
    rw [HW.out]
    refine HPA.out.mono ?_; rintro e w2 ⟨rfl, hb2⟩
    have HB2 := hid (HB.out.trans (hb2.mono HB.out.size))
    have HE2 := hid (HE.out.bel hb2)
    have HN2 := hid (HN.out.bel hb2)
    have hc1 := bcell hb2 HC1.out
    have hc2 := bcell hb2 HC2.out
    clear hb2 HE HN HPA HB HW HC1 HC2
    cases hpb : partsB k es.length ns.length with
    | false =>
      have hp : checkT (.mk k es ns) lv = 1 := by rw [HQ.out, if_neg (by omega), if_pos hpb]
      have HP := hid hp
      clear hp hpb
      go_wp2_with fail
      go_ret
      exact ⟨by rw [HP.out]; rfl, HB2.out⟩
    | true =>
      have hp : checkT (.mk k es ns) lv = if namesE none ns ≠ 0 then namesE none ns else checkL es (lv + 1) := by rw [HQ.out, if_neg (by omega), if_neg (by rw [hpb]; simp)]
      have HP := hid hp
      clear hp hpb HQ
      go_wp2_with fail
      go_loop [18] (fun i => ∃ j : Nat, j ≤ ns.length ∧ i = .int .i64 j ∧ Hid (namesE (prevO ns j) (ns.drop j) = namesE none ns)) (fun i => ns.length - (intOf i).toNat)
      case atStart => exact ⟨0, Nat.zero_le _, rfl, hid rfl⟩
      case round =>
        obtain ⟨j, hj, rfl, A⟩ := hrel
        by_cases hlt : j < ns.length
        · obtain ⟨g, o, c, e1, a1⟩ := HN2.out.at hlt
          cases e1
          have hj0 : (0 : Int) ≤ (j : Int) := by omega
          have hj1 : (j : Int) < (ns.length : Int) := by omega
          have hstep := namesE_step hlt
          rw [A.out] at hstep
          have HID := hid (ident_any ns[j] w2 (HN2.out.2 _ (List.getElem_mem hlt)))
          have HS := hid hstep
          have hprev : 0 < j → ∃ p, prevO ns j = some p ∧ w2.cell? ⟨g, o + (j - 1), none⟩ = some (.string p) := fun h => by
            have hlt' : j - 1 < ns.length := by omega
            obtain ⟨g', o', c', e2, a2⟩ := HN2.out.at hlt'
            cases e2
            exact ⟨_, by unfold prevO; rw [if_neg (by omega), List.getElem?_eq_getElem hlt'], a2⟩
          have HPR := hid hprev
          clear hstep hprev A
          generalize ns[j] = s at *
          cases hid1 : identB s with
          | false =>
            have hp : namesE none ns = 7 := by rw [HS.out, if_pos hid1]
            have hp2 : checkT (.mk k es ns) lv = 7 := by rw [HP.out, hp]; rfl
            have HP2 := hid hp2
            rw [hid1] at HID
            clear hp hp2 hid1
            go_wp2_with fail
            refine HID.out.mono ?_; rintro e w' ⟨rfl, rfl⟩
            go_wp2_with fail
            go_ret
            exact ⟨by rw [HP2.out]; rfl, HB2.out⟩
          | true =>
            rw [hid1] at HID
            have hs2 := HS.out
            rw [if_neg (by rw [hid1]; simp)] at hs2
            have HS2 := hid hs2
            clear hid1 hs2 HS
            by_cases h0 : j = 0
            · have f2 : decide ((j : Int) > 0) = false := decide_eq_false (by omega)
              have f3 : decide (0 < j) = false := decide_eq_false (by omega)
              have hs3 := HS2.out
              have e0 : prevO ns j = none := by unfold prevO; rw [if_pos h0]
              rw [e0, show badP none s = false from rfl, if_neg (by simp)] at hs3
              have HS3 := hid hs3
              clear h0 hs3 e0
              go_wp2_with fail
              refine HID.out.mono ?_; rintro e w' ⟨rfl, rfl⟩
              go_wp2_with fail
              go_round
              case rel => exact ⟨j + 1, by omega, by go_num, hid HS3.out.symm⟩
              case measure => simp [intOf]; omega
            · have f2 : decide ((j : Int) > 0) = true := decide_eq_true (by omega)
              have f3 : decide (0 < j) = true := decide_eq_true (by omega)
              obtain ⟨p, hp1, hp2⟩ := HPR.out (by omega)
              have hj2 : (0 : Int) ≤ (j : Int) - 1 := by omega
              have hj3 : (j : Int) - 1 < (ns.length : Int) := by omega
              have hj4 : ((j : Int) - 1).toNat = j - 1 := by omega
              have hs3 := HS2.out
              rw [hp1] at hs3
              cases hlt2 : ltS p s with
              | true =>
                obtain ⟨l1, l2⟩ := ltS_facts hlt2
                rw [show badP (some p) s = !ltS p s from rfl, hlt2, if_neg (by simp)] at hs3
                have HS3 := hid hs3
                clear h0 hs3 hlt2 hp1 HPR
                go_wp2_with fail
                refine HID.out.mono ?_; rintro e w' ⟨rfl, rfl⟩
                go_wp2_with fail
                go_round
                case rel => exact ⟨j + 1, by omega, by go_num, hid HS3.out.symm⟩
                case measure => simp [intOf]; omega
              | false =>
                have l1 := ltS_not hlt2
                rw [show badP (some p) s = !ltS p s from rfl, hlt2, if_pos (by simp)] at hs3
                have hp3 : checkT (.mk k es ns) lv = 1 := by rw [HP.out, hs3]; rfl
                have HP3 := hid hp3
                clear h0 hs3 hlt2 hp1 HPR hp3
                go_wp2_with fail
                refine HID.out.mono ?_; rintro e w' ⟨rfl, rfl⟩
                go_wp2_with fail
                go_ret
                exact ⟨by rw [HP3.out]; rfl, HB2.out⟩
        · have hje : j = ns.length := by omega
          have hn0 : namesE none ns = 0 := by rw [← A.out, hje, List.drop_length]; cases prevO ns ns.length <;> rfl
          have hp2 : checkT (.mk k es ns) lv = checkL es (lv + 1) := by rw [HP.out, hn0]; rfl
          have HP2 := hid hp2
          clear hn0 hp2 hje
          go_wp2_with fail
          go_loopw [42] (fun i wr => ∃ j : Nat, j ≤ es.length ∧ i = .int .i64 j ∧ Hid (Below w2.heap.size w2 wr) ∧ Hid (checkL (es.drop j) (lv + 1) = checkL es (lv + 1))) (fun i _ => es.length - (intOf i).toNat)
          case atStart => exact ⟨0, Nat.zero_le _, rfl, hid (Below.refl _ _), hid rfl⟩
          case round =>
            obtain ⟨i, hi, rfl, B, A2⟩ := hrel
            by_cases hlt2 : i < es.length
            · obtain ⟨g, o, c, k', oy, my, cy, oz, mz, cz, e1, a1, a2, a3, hT⟩ := (HE2.out.bel B.out).at2 hlt2
              cases e1
              have hi0 : (0 : Int) ≤ (i : Int) := by omega
              have hi1 : (i : Int) < (es.length : Int) := by omega
              have hstep := checkL_drop hlt2 (lv + 1)
              rw [A2.out] at hstep
              obtain ⟨hBB, _⟩ := box3 wr (.int .i64 k') (.slice oy my cy) (.slice oz mz cz) 30
              have hcall := HI.out es[i] (List.getElem_mem hlt2) P _ _ (lv + 1) (hT.bel hBB) (by omega) (by omega)
              have HCall := hid hcall
              have HBB := hid (B.out.trans (hBB.mono B.out.size))
              clear hcall hBB hT A2
              generalize checkT es[i] (lv + 1) = r at *
              by_cases hr : r = 0
              · have hs3 := hstep
                rw [if_neg (by simp [hr])] at hs3
                have HS3 := hid hs3
                have fr : decide (r = 0) = true := decide_eq_true hr
                have fr2 : (r == 0) = true := beq_iff_eq.2 hr
                have fr3 : (r != 0) = false := by rw [bne, fr2]; rfl
                clear hr hs3 hstep
                go_wp2_with fail
                refine HCall.out.mono ?_; rintro e w4 ⟨rfl, hb4⟩
                have HB4 := hid (HBB.out.trans (hb4.mono HBB.out.size))
                clear hb4
                go_wp2_with fail
                go_roundw
                case rel => exact ⟨i + 1, by omega, by go_num, HB4, hid HS3.out.symm⟩
                case measure => simp [intOf]; omega
              · have hp3 : checkT (.mk k es ns) lv = r := by rw [HP2.out, hstep, if_pos hr]
                have HP3 := hid hp3
                have fr : decide (r = 0) = false := decide_eq_false hr
                have fr2 : (r == 0) = false := beq_eq_false_iff_ne.2 hr
                have fr3 : (r != 0) = true := by rw [bne, fr2]; rfl
                clear hr hp3 hstep
                go_wp2_with fail
                refine HCall.out.mono ?_; rintro e w4 ⟨rfl, hb4⟩
                have HB4 := hid (HBB.out.trans (hb4.mono HBB.out.size))
                clear hb4
                go_wp2_with fail
                go_ret
                exact ⟨by rw [HP3.out]; rfl, HB2.out.trans (HB4.out.mono HB2.out.size)⟩
            · have hie : i = es.length := by omega
              have hp3 : checkT (.mk k es ns) lv = 0 := by rw [HP2.out, ← A2.out, hie, List.drop_length, checkL]
              have HP3 := hid hp3
              clear hp3
              go_wp2_with fail
              go_ret
              exact ⟨by rw [HP3.out]; rfl, HB2.out.trans (B.out.mono HB2.out.size)⟩

def RCheckOk (t : Ty) : Prop := ∀ (P : Nat → Prop) (w : World) (v : Value) (lv : Int), TV P w v t → 0 ≤ lv → lv ≤ 33 → Calls Tryz.prog 43 #[v, .int .i64 lv] w (Ret (.int .i64 (checkT t lv)) w)

set_option maxRecDepth 100000 in
set_option maxHeartbeats 4000000 in
theorem rcheck_any (t : Ty) : RCheckOk t := by
  induction t using Ty.ind with
  | h k es ns ih =>
    intro P w v lv hv hl1 hl2
    obtain ⟨ve, vn, rfl, hE, hN⟩ := hv.out
    obtain ⟨oe, ce, rfl⟩ := hE.len
    obtain ⟨on, cn, rfl⟩ := hN.len
    have hle := hE.le
    have hln := hN.le
    obtain ⟨hB, c0, c1, c2, hz⟩ := box3 w (.int .i64 k) (.slice oe es.length ce) (.slice on ns.length cn) 30
    have HPA := hid (shaped_any (w.alloc (.cells #[.int .i64 k, .slice oe es.length ce, .slice on ns.length cn] 30)) k oe on es.length ce ns.length cn hle hln)
    have HE := hid (hE.bel hB)
    have HN := hid (hN.bel hB)
    generalize hW : w.alloc (.cells #[.int .i64 k, .slice oe es.length ce, .slice on ns.length cn] 30) = W at *
    have HW := hid hW
    have HB := hid hB
    have HC1 := hid c1
    have HC2 := hid c2
    have HI := hid ih
    have hq := checkT_eq k es ns lv
    have HQ := hid hq
    clear ih hE hN hv hB c0 c1 c2 hW hq
    by_cases hdeep : 32 < lv
    · have hp : checkT (.mk k es ns) lv = 4 := by rw [HQ.out, if_pos hdeep]
      have HP := hid hp
      have f1 : decide (lv > 32) = true := decide_eq_true hdeep
      clear hp
      go_enter Tryz.func43, Tryz.ntmps43
      go_wp2_with fail
      rw [HW.out]
      go_ret
      exact ⟨by rw [HP.out]; rfl, HB.out⟩
    have f1 : decide (lv > 32) = false := decide_eq_false hdeep
    go_enter Tryz.func43, Tryz.ntmps43
    go_wp2_with fail
    rw [HW.out]
    refine HPA.out.mono ?_; rintro e w2 ⟨rfl, hb2⟩
    have HB2 := hid (HB.out.trans (hb2.mono HB.out.size))
    have HE2 := hid (HE.out.bel hb2)
    have HN2 := hid (HN.out.bel hb2)
    have hc1 := bcell hb2 HC1.out
    have hc2 := bcell hb2 HC2.out
    clear hb2 HE HN HPA HB HW HC1 HC2
    cases hpb : partsB k es.length ns.length with
    | false =>
      have hp : checkT (.mk k es ns) lv = 1 := by rw [HQ.out, if_neg (by omega), if_pos hpb]
      have HP := hid hp
      clear hp hpb
      go_wp2_with fail
      go_ret
      exact ⟨by rw [HP.out]; rfl, HB2.out⟩
    | true =>
      have hp : checkT (.mk k es ns) lv = if namesE none ns ≠ 0 then namesE none ns else checkL es (lv + 1) := by rw [HQ.out, if_neg (by omega), if_neg (by rw [hpb]; simp)]
      have HP := hid hp
      clear hp hpb HQ
      go_wp2_with fail
      have HC1 := hid hc1
      have HC2 := hid hc2
      clear hc1 hc2
      go_loopw [5] (fun i wr => ∃ j : Nat, j ≤ ns.length ∧ i = .int .i64 j ∧ Hid (Below w2.heap.size w2 wr) ∧ Hid (namesE (prevO ns j) (ns.drop j) = namesE none ns)) (fun i _ => ns.length - (intOf i).toNat)
      case atStart => exact ⟨0, Nat.zero_le _, rfl, hid (Below.refl _ _), hid rfl⟩
      case round =>
        obtain ⟨j, hj, rfl, B1, A⟩ := hrel
        have hc1 := bcell B1.out HC1.out
        have hc2 := bcell B1.out HC2.out
        have HN3 := hid (HN2.out.bel B1.out)
        by_cases hlt : j < ns.length
        · obtain ⟨g, o, c, e1, a1⟩ := HN3.out.at hlt
          cases e1
          have hj0 : (0 : Int) ≤ (j : Int) := by omega
          have hj1 : (j : Int) < (ns.length : Int) := by omega
          have hstep := namesE_step hlt
          rw [A.out] at hstep
          have HID := hid (rident_any ns[j] wr (HN2.out.2 _ (List.getElem_mem hlt)))
          have HS := hid hstep
          have hprev : 0 < j → ∃ p, prevO ns j = some p ∧ wr.cell? ⟨g, o + (j - 1), none⟩ = some (.string p) := fun h => by
            have hlt' : j - 1 < ns.length := by omega
            obtain ⟨g', o', c', e2, a2⟩ := HN3.out.at hlt'
            cases e2
            exact ⟨_, by unfold prevO; rw [if_neg (by omega), List.getElem?_eq_getElem hlt'], a2⟩
          have HPR := hid hprev
          clear hstep hprev A
          generalize ns[j] = s at *
          cases hid1 : identB s with
          | false =>
            have hp : namesE none ns = 7 := by rw [HS.out, if_pos hid1]
            have hp2 : checkT (.mk k es ns) lv = 7 := by rw [HP.out, hp]; rfl
            have HP2 := hid hp2
            rw [hid1] at HID
            clear hp hp2 hid1
            go_wp2_with fail
            refine HID.out.mono ?_; rintro e w' ⟨rfl, rfl⟩
            go_wp2_with fail
            go_ret
            exact ⟨by rw [HP2.out]; rfl, HB2.out.trans (B1.out.mono HB2.out.size)⟩
          | true =>
            rw [hid1] at HID
            have hs2 := HS.out
            rw [if_neg (by rw [hid1]; simp)] at hs2
            have HS2 := hid hs2
            clear hid1 hs2 HS
            by_cases h0 : j = 0
            · have f2 : decide ((j : Int) > 0) = false := decide_eq_false (by omega)
              have f3 : decide (0 < j) = false := decide_eq_false (by omega)
              have hs3 := HS2.out
              have e0 : prevO ns j = none := by unfold prevO; rw [if_pos h0]
              rw [e0, show badP none s = false from rfl, if_neg (by simp)] at hs3
              have HS3 := hid hs3
              clear h0 hs3 e0
              go_wp2_with fail
              refine HID.out.mono ?_; rintro e w' ⟨rfl, rfl⟩
              go_wp2_with fail
              refine wp_region_steady (fun v => v.cell? ⟨w.heap.size, 2, none⟩ = some (.slice (some ⟨g, o, none⟩) ns.length cn)) (by kernel_rfl) (by kernel_rfl) (hc2) ?_
              repeat (first
                | (refine wpSteady_skip (by rfl) ?_; try simp only [Act.put, List.setIfInBounds_toArray, List.set_cons_zero, List.set_cons_succ])
                | (refine wpSteady_calm (v := ?_) (by rfl) ?_ ?_; rotate_left; (focus (intro v hSv; (try dsimp only at hSv); go_simp; (try with_reducible rfl); done)); try simp only [Act.put, List.setIfInBounds_toArray, List.set_cons_zero, List.set_cons_succ]))
              refine wpSteady_nil ?_
              go_wp2_with fail
              go_roundw
              case rel => exact ⟨j + 1, by omega, by go_num, hid (below_drew B1.out), hid HS3.out.symm⟩
              case measure => simp [intOf]; omega
            · have f2 : decide ((j : Int) > 0) = true := decide_eq_true (by omega)
              have f3 : decide (0 < j) = true := decide_eq_true (by omega)
              obtain ⟨p, hp1, hp2⟩ := HPR.out (by omega)
              obtain ⟨m, hjm⟩ : ∃ m, j - 1 = m := ⟨_, rfl⟩
              rw [hjm] at hp2
              have hm0 : (0 : Int) ≤ (m : Int) := by omega
              have hm1 : (m : Int) < (ns.length : Int) := by omega
              have hke : (j : Int) - 1 = (m : Int) := by omega
              have hkw : IntKind.i64.wrap (m : Int) = (m : Int) := by rw [IntKind.wrap_i64]; omega
              clear hjm
              have hs3 := HS2.out
              rw [hp1] at hs3
              cases hlt2 : ltS p s with
              | true =>
                have l1 : Op.bytesLess p.toList s.toList = true := hlt2
                rw [show badP (some p) s = !ltS p s from rfl, hlt2, if_neg (by simp)] at hs3
                have HS3 := hid hs3
                clear h0 hs3 hlt2 hp1 HPR
                go_wp2_with fail
                refine HID.out.mono ?_; rintro e w' ⟨rfl, rfl⟩
                go_wp2_with fail
                refine wp_region_steady (fun v => v.cell? ⟨w.heap.size, 2, none⟩ = some (.slice (some ⟨g, o, none⟩) ns.length cn) ∧ v.cell? ⟨g, o + j, none⟩ = some (.string s) ∧ v.cell? ⟨g, o + m, none⟩ = some (.string p)) (by kernel_rfl) (by kernel_rfl) (⟨hc2, a1, hp2⟩) ?_
                repeat (first
                  | (refine wpSteady_skip (by rfl) ?_; try simp only [Act.put, List.setIfInBounds_toArray, List.set_cons_zero, List.set_cons_succ])
                  | (refine wpSteady_calm (v := ?_) (by rfl) ?_ ?_; rotate_left; (focus (intro v hSv; (try dsimp only at hSv); go_simp; (try with_reducible rfl); done)); try simp only [Act.put, List.setIfInBounds_toArray, List.set_cons_zero, List.set_cons_succ]))
                refine wpSteady_nil ?_
                clear hke hkw
                go_wp2_with fail
                go_roundw
                case rel => exact ⟨j + 1, by omega, by go_num, hid (below_drew B1.out), hid HS3.out.symm⟩
                case measure => simp [intOf]; omega
              | false =>
                have l1 : Op.bytesLess p.toList s.toList = false := hlt2
                rw [show badP (some p) s = !ltS p s from rfl, hlt2, if_pos (by simp)] at hs3
                have hp3 : checkT (.mk k es ns) lv = 1 := by rw [HP.out, hs3]; rfl
                have HP3 := hid hp3
                clear h0 hs3 hlt2 hp1 HPR hp3
                go_wp2_with fail
                refine HID.out.mono ?_; rintro e w' ⟨rfl, rfl⟩
                go_wp2_with fail
                refine wp_region_steady (fun v => v.cell? ⟨w.heap.size, 2, none⟩ = some (.slice (some ⟨g, o, none⟩) ns.length cn) ∧ v.cell? ⟨g, o + j, none⟩ = some (.string s) ∧ v.cell? ⟨g, o + m, none⟩ = some (.string p)) (by kernel_rfl) (by kernel_rfl) (⟨hc2, a1, hp2⟩) ?_
                repeat (first
                  | (refine wpSteady_skip (by rfl) ?_; try simp only [Act.put, List.setIfInBounds_toArray, List.set_cons_zero, List.set_cons_succ])
                  | (refine wpSteady_calm (v := ?_) (by rfl) ?_ ?_; rotate_left; (focus (intro v hSv; (try dsimp only at hSv); go_simp; (try with_reducible rfl); done)); try simp only [Act.put, List.setIfInBounds_toArray, List.set_cons_zero, List.set_cons_succ]))
                refine wpSteady_nil ?_
                clear hke hkw
                go_wp2_with fail
                go_ret
                exact ⟨by rw [HP3.out]; rfl, HB2.out.trans ((below_drew B1.out).mono HB2.out.size)⟩
        · have hje : j = ns.length := by omega
          have hn0 : namesE none ns = 0 := by rw [← A.out, hje, List.drop_length]; cases prevO ns ns.length <;> rfl
          have hp2 : checkT (.mk k es ns) lv = checkL es (lv + 1) := by rw [HP.out, hn0]; rfl
          have HP2 := hid hp2
          clear hn0 hp2 hje
          go_wp2_with fail
          go_loopw [6] (fun i wr => ∃ j : Nat, j ≤ es.length ∧ i = .int .i64 j ∧ Hid (Below w2.heap.size w2 wr) ∧ Hid (checkL (es.drop j) (lv + 1) = checkL es (lv + 1))) (fun i _ => es.length - (intOf i).toNat)
          case atStart => exact ⟨0, Nat.zero_le _, rfl, B1, hid rfl⟩
          case round =>
            obtain ⟨i, hi, rfl, B, A2⟩ := hrel
            have hc1 := bcell B.out HC1.out
            have hc2 := bcell B.out HC2.out
            by_cases hlt2 : i < es.length
            · obtain ⟨g, o, c, k', oy, my, cy, oz, mz, cz, e1, a1, a2, a3, hT⟩ := (HE2.out.bel B.out).at2 hlt2
              cases e1
              have hi0 : (0 : Int) ≤ (i : Int) := by omega
              have hi1 : (i : Int) < (es.length : Int) := by omega
              have hstep := checkL_drop hlt2 (lv + 1)
              rw [A2.out] at hstep
              have hcall := HI.out es[i] (List.getElem_mem hlt2) P _ _ (lv + 1) hT (by omega) (by omega)
              have HCall := hid hcall
              have HBB := B
              clear hcall hT A2
              generalize checkT es[i] (lv + 1) = r at *
              by_cases hr : r = 0
              · have hs3 := hstep
                rw [if_neg (by simp [hr])] at hs3
                have HS3 := hid hs3
                have fr : decide (r = 0) = true := decide_eq_true hr
                have fr2 : (r == 0) = true := beq_iff_eq.2 hr
                have fr3 : (r != 0) = false := by rw [bne, fr2]; rfl
                clear hr hs3 hstep
                go_wp2_with fail
                refine HCall.out.mono ?_; rintro e w4 ⟨rfl, hb4⟩
                have HB4 := hid (HBB.out.trans (hb4.mono HBB.out.size))
                clear hb4
                go_wp2_with fail
                go_roundw
                case rel => exact ⟨i + 1, by omega, by go_num, HB4, hid HS3.out.symm⟩
                case measure => simp [intOf]; omega
              · have hp3 : checkT (.mk k es ns) lv = r := by rw [HP2.out, hstep, if_pos hr]
                have HP3 := hid hp3
                have fr : decide (r = 0) = false := decide_eq_false hr
                have fr2 : (r == 0) = false := beq_eq_false_iff_ne.2 hr
                have fr3 : (r != 0) = true := by rw [bne, fr2]; rfl
                clear hr hp3 hstep
                go_wp2_with fail
                refine HCall.out.mono ?_; rintro e w4 ⟨rfl, hb4⟩
                have HB4 := hid (HBB.out.trans (hb4.mono HBB.out.size))
                clear hb4
                go_wp2_with fail
                go_ret
                exact ⟨by rw [HP3.out]; rfl, HB2.out.trans (HB4.out.mono HB2.out.size)⟩
            · have hie : i = es.length := by omega
              have hp3 : checkT (.mk k es ns) lv = 0 := by rw [HP2.out, ← A2.out, hie, List.drop_length, checkL]
              have HP3 := hid hp3
              clear hp3
              go_wp2_with fail
              go_ret
              exact ⟨by rw [HP3.out]; rfl, HB2.out.trans (B.out.mono HB2.out.size)⟩
end Go.Proofs.YtfljnigbfacmjaaGreatDoor
