/- The reference's left, names, Small. -/
import Derived.Test.YtfljnigbfacmjaaGreatDoorView
namespace Go.Proofs.YtfljnigbfacmjaaGreatDoor
open Go Go.RowKit
set_option linter.unusedVariables false

/-- A value and nothing old changed. -/
def Ret (v : Value) (w : World) (e : Ending) (w' : World) : Prop := e = .returned v ∧ Below w.heap.size w w'
theorem ret_int {k : IntKind} {a b : Int} (h : a = b) : Ending.returned (.int k a) = .returned (.int k b) := by rw [h]

theorem leftL_drop {es : List Ty} {k : Nat} (h : k < es.length) (n lv : Int) : leftL (es.drop k) n lv = if n < 0 then n else leftL (es.drop (k + 1)) (leftT es[k] n lv) lv := by
  rw [List.drop_eq_getElem_cons h, leftL]

def LeftOk (t : Ty) : Prop := ∀ (P : Nat → Prop) (w : World) (v : Value) (n lv : Int), TV P w v t → -1 ≤ n → n ≤ 1000 → 0 ≤ lv → lv ≤ 40 → Calls Tryz.prog 41 #[v, .int .i64 n, .int .i64 lv] w (Ret (.int .i64 (leftT t n lv)) w)

set_option maxRecDepth 100000 in
set_option maxHeartbeats 1000000 in
theorem left_any (t : Ty) : LeftOk t := by
  induction t using Ty.ind with
  | h k es ns ih =>
    intro P w v n lv hv hn1 hn2 hl1 hl2
    obtain ⟨ve, vn, rfl, hE, hN⟩ := hv.out
    obtain ⟨oe, ce, rfl⟩ := hE.len
    obtain ⟨on, cn, rfl⟩ := hN.len
    obtain ⟨hB, c0, c1, c2, hz⟩ := box3 w (.int .i64 k) (.slice oe es.length ce) (.slice on ns.length cn) 30
    have HB := hid hB
    have HC := hid c1
    have HE := hid (hE.bel hB)
    have HI := hid ih
    have hle := hE.le
    have hln := hN.le
    clear ih hE hN hv hB c0 c1 c2
    by_cases hlow : n < 1 ∨ lv < 1
    · have he : leftT (.mk k es ns) n lv = -1 := by rw [leftT, if_pos hlow]
      have HQ := hid he
      clear he
      by_cases h1 : n < 1
      · clear hlow
        go_enter Tryz.func41, Tryz.ntmps41
        go_wp2_with fail
        go_ret
        exact ⟨by rw [HQ.out]; rfl, HB.out⟩
      · have h2 : lv < 1 := by omega
        clear hlow
        go_enter Tryz.func41, Tryz.ntmps41
        go_wp2_with fail
        go_ret
        exact ⟨by rw [HQ.out]; rfl, HB.out⟩
    · have he : leftT (.mk k es ns) n lv = leftL es (n - 1) (lv - 1) := by rw [leftT, if_neg hlow]
      have HQ := hid he
      have h1 : ¬ n < 1 := by omega
      have h2 : ¬ lv < 1 := by omega
      clear he hlow
      go_enter Tryz.func41, Tryz.ntmps41
      go_wp2_with fail
      generalize w.alloc (.cells #[.int .i64 k, .slice oe es.length ce, .slice on ns.length cn] 30) = W at *
      go_loopw [7, 8] (fun m i wr => ∃ (k : Nat) (n' : Int), k ≤ es.length ∧ i = .int .i64 k ∧ m = .int .i64 n' ∧ -1 ≤ n' ∧ n' ≤ 1000 ∧ Hid (Below W.heap.size W wr) ∧ Hid (leftL (es.drop k) n' (lv - 1) = leftL es (n - 1) (lv - 1))) (fun _ i _ => es.length - (intOf i).toNat)
      case atStart => exact ⟨0, n - 1, Nat.zero_le _, rfl, by go_num, by omega, by omega, hid (Below.refl _ _), hid rfl⟩
      case round =>
        obtain ⟨j, n', hj, rfl, rfl, hm1, hm2, B, E⟩ := hrel
        have hc := bcell B.out HC.out
        by_cases hneg : n' < 0
        · have hfin : leftL (es.drop j) n' (lv - 1) = n' := leftL_neg _ _ hneg
          have HFin := hid hfin
          clear hfin
          have hd : decide (n' ≥ 0) = false := decide_eq_false (by omega)
          go_wp2_with fail
          all_goals
            go_ret
            exact ⟨ret_int (by rw [HQ.out, ← E.out, HFin.out]), HB.out.trans (B.out.mono HB.out.size)⟩
        · by_cases hlt : j < es.length
          · obtain ⟨g, o, c, x, y, z, e1, a1, a2, a3, hT⟩ := (HE.out.bel B.out).at hlt
            cases e1
            have hstep := leftL_drop hlt n' (lv - 1)
            rw [if_neg hneg] at hstep
            have hlo := left_le es[j] n' (lv - 1)
            have hsz := sizeT_pos es[j]
            have hcall := HI.out es[j] (List.getElem_mem hlt) P wr _ n' (lv - 1) hT hm1 hm2 (by omega) (by omega)
            have HCall := hid hcall
            have HStep := hid hstep
            have hr1 : -1 ≤ leftT es[j] n' (lv - 1) ∧ leftT es[j] n' (lv - 1) ≤ 1000 := by omega
            generalize hr : leftT es[j] n' (lv - 1) = r at *
            have hj0 : (0 : Int) ≤ (j : Int) := by omega
            have hj1 : (j : Int) < (es.length : Int) := by omega
            clear hcall hstep hT hr hlo hsz
            go_wp2_with fail
            refine HCall.out.mono ?_; rintro e w2 ⟨rfl, hb2⟩
            have HB2 := hid (B.out.trans (hb2.mono B.out.size))
            clear hb2
            go_wp2_with fail
            go_roundw
            case rel => exact ⟨j + 1, r, by omega, by go_num, rfl, hr1.1, hr1.2, HB2, hid (by rw [← HStep.out, E.out])⟩
            case measure => simp [intOf]; omega
          · have hje : j = es.length := by omega
            have hfin : leftL (es.drop j) n' (lv - 1) = n' := by rw [hje, List.drop_length, leftL]
            have HFin := hid hfin
            clear hfin
            go_wp2_with fail
            go_ret
            exact ⟨ret_int (by rw [HQ.out, ← E.out, HFin.out]), HB.out.trans (B.out.mono HB.out.size)⟩

theorem namesL_drop {es : List Ty} {k : Nat} (h : k < es.length) : namesL (es.drop k) = namesT es[k] + namesL (es.drop (k + 1)) := by
  rw [List.drop_eq_getElem_cons h, namesL]

def NamesOk (t : Ty) : Prop := ∀ (P : Nat → Prop) (w : World) (v : Value), TV P w v t → namesT t ≤ 1000000000000000000 → Calls Tryz.prog 42 #[v] w (Ret (.int .i64 (namesT t : Nat)) w)

set_option maxRecDepth 100000 in
set_option maxHeartbeats 1000000 in
theorem names_any (t : Ty) : NamesOk t := by
  induction t using Ty.ind with
  | h k es ns ih =>
    intro P w v hv hmax
    obtain ⟨ve, vn, rfl, hE, hN⟩ := hv.out
    obtain ⟨oe, ce, rfl⟩ := hE.len
    obtain ⟨on, cn, rfl⟩ := hN.len
    obtain ⟨hB, c0, c1, c2, hz⟩ := box3 w (.int .i64 k) (.slice oe es.length ce) (.slice on ns.length cn) 30
    have HB := hid hB
    have HC := hid c1
    have HE := hid (hE.bel hB)
    have HI := hid ih
    have hle := hE.le
    have hln := hN.le
    have hq : namesT (.mk k es ns) = ns.length + namesL es := by rw [namesT]
    rw [hq] at hmax
    have HQ := hid hq
    clear ih hE hN hv hB c0 c1 c2 hq
    go_enter Tryz.func42, Tryz.ntmps42
    go_wp2_with fail
    generalize w.alloc (.cells #[.int .i64 k, .slice oe es.length ce, .slice on ns.length cn] 30) = W at *
    go_loopw [3, 4] (fun m i wr => ∃ (k m' : Nat), k ≤ es.length ∧ i = .int .i64 k ∧ m = .int .i64 m' ∧ Hid (Below W.heap.size W wr) ∧ m' + namesL (es.drop k) ≤ 1000000000000000000 ∧ Hid (m' + namesL (es.drop k) = ns.length + namesL es)) (fun _ i _ => es.length - (intOf i).toNat)
    case atStart => exact ⟨0, ns.length, Nat.zero_le _, rfl, rfl, hid (Below.refl _ _), hmax, hid rfl⟩
    case round =>
      obtain ⟨j, m', hj, rfl, rfl, B, hb, E⟩ := hrel
      have hc := bcell B.out HC.out
      by_cases hlt : j < es.length
      · obtain ⟨g, o, c, x, y, z, e1, a1, a2, a3, hT⟩ := (HE.out.bel B.out).at hlt
        cases e1
        have hstep := namesL_drop hlt
        rw [hstep] at hb
        have hcall := HI.out es[j] (List.getElem_mem hlt) P wr _ hT (by omega)
        have HCall := hid hcall
        have HStep := hid hstep
        generalize hr : namesT es[j] = r at *
        generalize hr2 : namesL (es.drop (j + 1)) = r2 at *
        have HR2 := hid hr2
        have hj0 : (0 : Int) ≤ (j : Int) := by omega
        have hj1 : (j : Int) < (es.length : Int) := by omega
        have hm1 : m' + r ≤ 1000000000000000000 := by omega
        clear hcall hstep hT hr hr2 hmax
        go_wp2_with fail
        refine HCall.out.mono ?_; rintro e w2 ⟨rfl, hb2⟩
        have HB2 := hid (B.out.trans (hb2.mono B.out.size))
        clear hb2
        go_wp2_with fail
        go_roundw
        case rel => exact ⟨j + 1, m' + r, by omega, by go_num, by go_num, HB2, by rw [HR2.out]; omega, hid (by rw [← E.out, HStep.out, HR2.out]; omega)⟩
        case measure => simp [intOf]; omega
      · have hje : j = es.length := by omega
        have hfin : m' = namesT (.mk k es ns) := by
          have := E.out
          rw [hje, List.drop_length, namesL] at this
          rw [HQ.out]; omega
        have HFin := hid hfin
        clear hfin
        go_wp2_with fail
        go_ret
        exact ⟨ret_int (by rw [← HFin.out]), HB.out.trans (B.out.mono HB.out.size)⟩

def smallB (t : Ty) (n : Int) : Bool := decide (0 ≤ leftT t n 40) && decide ((namesT t : Int) ≤ 2 * n)
set_option maxRecDepth 100000 in
set_option maxHeartbeats 1000000 in
theorem small_any (P : Nat → Prop) (w : World) (v : Value) (t : Ty) (hv : TV P w v t) (n : Int) (hn1 : 0 ≤ n) (hn2 : n ≤ 1000) :
    Calls Tryz.prog 20 #[v, .int .i64 n] w (Ret (.bool (smallB t n)) w) := by
  have hnm := hv.names_le
  have hlo := left_le t n 40
  obtain ⟨k, es, ns⟩ := t
  obtain ⟨ve, vn, rfl, hE, hN⟩ := hv.out
  obtain ⟨hB, c0, c1, c2, hz⟩ := box3 w (.int .i64 k) ve vn 30
  have hv2 := hv.bel hB
  have h1 := left_any (.mk k es ns) P _ _ n 40 hv2 (by omega) hn2 (by omega) (by omega)
  obtain ⟨oe, ce, rfl⟩ := hE.len
  obtain ⟨on, cn, rfl⟩ := hN.len
  have HB := hid hB
  have H1 := hid h1
  have HV2 := hid hv2
  generalize hW : w.alloc (.cells #[.int .i64 k, .slice oe es.length ce, .slice on ns.length cn] 30) = W at *
  have HW := hid hW
  have HC0 := hid c0
  have HC1 := hid c1
  have HC2 := hid c2
  have HNM := hid hnm
  obtain ⟨r, hr⟩ : ∃ r, leftT (.mk k es ns) n 40 = r := ⟨_, rfl⟩
  obtain ⟨m, hm⟩ : ∃ m, namesT (.mk k es ns) = m := ⟨_, rfl⟩
  have hs : smallB (.mk k es ns) n = (decide (0 ≤ r) && decide ((m : Int) ≤ 2 * n)) := by unfold smallB; rw [hr, hm]
  rw [hr] at H1 hlo
  have HS := hid hs
  have HM := hid hm
  have hmb : 0 ≤ r → m ≤ 1000 * 140737488355328 := fun h => by
    have h3 : (sizeT (.mk k es ns) : Int) ≤ 1000 := by omega
    have h4 : sizeT (.mk k es ns) ≤ 1000 := by omega
    have := HNM.out
    rw [hm] at this
    exact Nat.le_trans this (Nat.mul_le_mul_right _ h4)
  have HMB := hid hmb
  clear hE hN hv hB h1 hv2 hW c0 c1 c2 hnm hr hm hs hmb hlo
  go_enter Tryz.func20, Tryz.ntmps20
  go_wp2_with fail
  rw [HW.out]
  refine H1.out.mono ?_; rintro e w2 ⟨rfl, hb2⟩
  have HB2 := hid hb2
  have q0 := bcell hb2 HC0.out
  have q1 := bcell hb2 HC1.out
  have q2 := bcell hb2 HC2.out
  clear hb2
  by_cases hneg : 0 ≤ r
  · have hb := HMB.out hneg
    have hcall := names_any (.mk k es ns) P w2 _ (HV2.out.bel HB2.out) (by rw [HM.out]; omega)
    rw [HM.out] at hcall
    have HCall := hid hcall
    have hd : decide (0 ≤ r) = true := decide_eq_true hneg
    clear hcall
    go_wp2_with fail
    refine HCall.out.mono ?_; rintro e w3 ⟨rfl, hb3⟩
    have HB3 := hid (HB.out.trans ((HB2.out.trans (hb3.mono HB2.out.size)).mono HB.out.size))
    clear hb3
    go_wp2_with fail
    go_ret
    refine ⟨?_, HB3.out⟩
    rw [HS.out, hd, Bool.true_and]
    rfl
  · have hd : decide (0 ≤ r) = false := decide_eq_false hneg
    have hd2 : decide (r ≥ 0) = false := hd
    go_wp2_with fail
    go_ret
    exact ⟨by rw [HS.out, hd]; rfl, HB.out.trans (HB2.out.mono HB.out.size)⟩
end Go.Proofs.YtfljnigbfacmjaaGreatDoor
