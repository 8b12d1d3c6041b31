/- The reference's left, keys, Small of values; what they say of the size. -/
import Derived.Test.YtibiiafcnaijeaaEqV
namespace Go.Proofs.Ytibiiafcnaijeaa
open Go Go.RowKit
set_option linter.unusedVariables false
set_option linter.unusedSimpArgs false

theorem ret_int {k : IntKind} {a b : Int} (h : a = b) : Ending.returned (.int k a) = .returned (.int k b) := by rw [h]
mutual
def leftV : Vl → Int → Int → Int
  | .mk _ _ _ es _, n, lv => if n < 1 ∨ lv < 1 then -1 else leftVL es (n - 1) (lv - 1)
def leftVL : List Vl → Int → Int → Int
  | [], n, _ => n
  | e :: es, n, lv => if n < 0 then n else leftVL es (leftV e n lv) lv
end
theorem leftVL_neg (es : List Vl) {n : Int} (lv : Int) (h : n < 0) : leftVL es n lv = n := by
  cases es with
  | nil => unfold leftVL; rfl
  | cons e es => unfold leftVL; rw [if_pos h]
theorem leftV_le (t : Vl) : ∀ (n lv : Int), leftV t n lv = -1 ∨ (0 ≤ leftV t n lv ∧ leftV t n lv = n - szV t) := by
  induction t using Vl.ind with
  | h k nn s es ks ih =>
    have key : ∀ (l : List Vl), (∀ e ∈ l, e ∈ es) → ∀ (n lv : Int), 0 ≤ n → leftVL l n lv = -1 ∨ (0 ≤ leftVL l n lv ∧ leftVL l n lv = n - szL l) := by
      intro l
      induction l with
      | nil => intro _ n lv h; right; unfold leftVL szL; omega
      | cons e l ih2 =>
        intro hl n lv hn
        unfold leftVL szL
        rw [if_neg (by omega)]
        rcases ih e (hl e (List.mem_cons_self ..)) n lv with h1 | ⟨h1, h2⟩
        · rw [h1, leftVL_neg _ _ (by omega)]; exact .inl rfl
        · rcases ih2 (fun x hx => hl x (List.mem_cons_of_mem _ hx)) (leftV e n lv) lv h1 with h3 | ⟨h3, h4⟩
          · exact .inl h3
          · refine .inr ⟨h3, ?_⟩; rw [h4, h2]; push_cast; omega
    intro n lv
    unfold leftV szV
    by_cases h : n < 1 ∨ lv < 1
    · rw [if_pos h]; exact .inl rfl
    · rw [if_neg h]
      rcases key es (fun _ h => h) (n - 1) (lv - 1) (by omega) with h1 | ⟨h1, h2⟩
      · exact .inl h1
      · refine .inr ⟨h1, ?_⟩; rw [h2]; push_cast; omega
theorem VV.keys_le {P : Nat → Prop} {w : World} {v : Value} {t : Vl} (h : VV P w v t) : kyV t ≤ szV t * 140737488355328 := by
  induction h with
  | mk k n s is ks vi vk rs hs hk hr hl he ih =>
    have hn := hk.le
    have key : ∀ (l : List Vl) (q : List V5), q.length = l.length → (∀ (i : Nat) r e, q[i]? = some r → l[i]? = some e → kyV e ≤ szV e * 140737488355328) → kyL l ≤ szL l * 140737488355328 := by
      intro l
      induction l with
      | nil => intro _ _ _; simp [kyL]
      | cons e l ih2 =>
        intro q hq h
        match q, hq with
        | r :: q, hq =>
          have h1 := h 0 r e rfl rfl
          have h2 := ih2 q (by simpa using hq) fun i r' e' hr' he' => h (i + 1) r' e' (by simpa using hr') (by simpa using he')
          rw [kyL, szL]; omega
    have := key is rs hl ih
    rw [kyV, szV]; omega
theorem leftVL_drop {es : List Vl} {k : Nat} (h : k < es.length) (n lv : Int) : leftVL (es.drop k) n lv = if n < 0 then n else leftVL (es.drop (k + 1)) (leftV es[k] n lv) lv := by
  rw [List.drop_eq_getElem_cons h, leftVL]

def LeftVOk (t : Vl) : Prop := ∀ (P : Nat → Prop) (w : World) (v : Value) (n lv : Int), VV P w v t → -1 ≤ n → n ≤ 1000 → 0 ≤ lv → lv ≤ 40 → Calls Try.prog 15 #[v, .int .i64 n, .int .i64 lv] w (Ret (.int .i64 (leftV t n lv)) w)

set_option maxRecDepth 100000 in
set_option maxHeartbeats 1000000 in
theorem leftV_any (t : Vl) : LeftVOk t := by
  induction t using Vl.ind with
  | h k nn s es ns ih =>
    intro P w v n lv hv hn1 hn2 hl1 hl2
    obtain ⟨ve, vn, rfl, hE, hN, hss⟩ := hv.out
    obtain ⟨oe, ce, rfl⟩ := hE.len
    obtain ⟨on, cn, rfl⟩ := hN.len
    obtain ⟨hB, c0, c3, c4, c1, c2⟩ := box5 w (.int .i64 k) (.int .i64 nn) (.string s) (.slice oe es.length ce) (.slice on ns.length cn) 26
    have HB := hid hB
    have HC := hid c1
    have HE := hid (hE.bel hB)
    have HI := hid ih
    have hle := hE.le
    have hln := hN.le
    clear ih hE hN hv hB c0 c1 c2 c3 c4 hss
    by_cases hlow : n < 1 ∨ lv < 1
    · have he : leftV (.mk k nn s es ns) n lv = -1 := by rw [leftV, if_pos hlow]
      have HQ := hid he
      clear he
      by_cases h1 : n < 1
      · clear hlow
        go_enter Try.func15, Try.ntmps15
        go_wp2_with fail
        go_ret
        exact ⟨by rw [HQ.out]; rfl, HB.out⟩
      · have h2 : lv < 1 := by omega
        clear hlow
        go_enter Try.func15, Try.ntmps15
        go_wp2_with fail
        go_ret
        exact ⟨by rw [HQ.out]; rfl, HB.out⟩
    · have he : leftV (.mk k nn s es ns) n lv = leftVL es (n - 1) (lv - 1) := by rw [leftV, if_neg hlow]
      have HQ := hid he
      have h1 : ¬ n < 1 := by omega
      have h2 : ¬ lv < 1 := by omega
      clear he hlow
      go_enter Try.func15, Try.ntmps15
      go_wp2_with fail
      generalize w.alloc (.cells #[.int .i64 k, .int .i64 nn, .string s, .slice oe es.length ce, .slice on ns.length cn] 26) = W at *
      go_loopw [7, 8] (fun m i wr => ∃ (k : Nat) (n' : Int), k ≤ es.length ∧ i = .int .i64 k ∧ m = .int .i64 n' ∧ -1 ≤ n' ∧ n' ≤ 1000 ∧ Hid (Below W.heap.size W wr) ∧ Hid (leftVL (es.drop k) n' (lv - 1) = leftVL es (n - 1) (lv - 1))) (fun _ i _ => es.length - (intOf i).toNat)
      case atStart => exact ⟨0, n - 1, Nat.zero_le _, rfl, by go_num, by omega, by omega, hid (Below.refl _ _), hid rfl⟩
      case round =>
        obtain ⟨j, n', hj, rfl, rfl, hm1, hm2, B, E⟩ := hrel
        have hc := bcell B.out HC.out
        by_cases hneg : n' < 0
        · have hfin : leftVL (es.drop j) n' (lv - 1) = n' := leftVL_neg _ _ hneg
          have HFin := hid hfin
          clear hfin
          have hd : decide (n' ≥ 0) = false := decide_eq_false (by omega)
          go_wp2_with fail
          all_goals
            go_ret
            exact ⟨ret_int (by rw [HQ.out, ← E.out, HFin.out]), HB.out.trans (B.out.mono HB.out.size)⟩
        · by_cases hlt : j < es.length
          · obtain ⟨g, o, c, k1, n1, s1, oi1, mi1, ci1, ok1, mk1, ck1, e1, a1, a2, a3, a4, a5, hT, -⟩ := (HE.out.bel B.out).at hlt
            cases e1
            have hstep := leftVL_drop hlt n' (lv - 1)
            rw [if_neg hneg] at hstep
            have hlo := leftV_le es[j] n' (lv - 1)
            have hsz := szV_pos es[j]
            have hcall := HI.out es[j] (List.getElem_mem hlt) P wr _ n' (lv - 1) hT hm1 hm2 (by omega) (by omega)
            have HCall := hid hcall
            have HStep := hid hstep
            have hr1 : -1 ≤ leftV es[j] n' (lv - 1) ∧ leftV es[j] n' (lv - 1) ≤ 1000 := by omega
            generalize hr : leftV es[j] n' (lv - 1) = r at *
            have hj0 : (0 : Int) ≤ (j : Int) := by omega
            have hj1 : (j : Int) < (es.length : Int) := by omega
            clear hcall hstep hT hr hlo hsz
            go_wp2_with fail
            refine HCall.out.mono ?_; rintro e w2 ⟨rfl, hb2⟩
            have HB2 := hid (B.out.trans (hb2.mono B.out.size))
            clear hb2
            go_wp2_with fail
            go_roundw
            case rel => exact ⟨j + 1, r, by omega, by go_num, rfl, hr1.1, hr1.2, HB2, hid (by rw [← HStep.out, E.out])⟩
            case measure => simp [intOf]; omega
          · have hje : j = es.length := by omega
            have hfin : leftVL (es.drop j) n' (lv - 1) = n' := by rw [hje, List.drop_length, leftVL]
            have HFin := hid hfin
            clear hfin
            go_wp2_with fail
            go_ret
            exact ⟨ret_int (by rw [HQ.out, ← E.out, HFin.out]), HB.out.trans (B.out.mono HB.out.size)⟩

theorem kyL_drop {es : List Vl} {k : Nat} (h : k < es.length) : kyL (es.drop k) = kyV es[k] + kyL (es.drop (k + 1)) := by
  rw [List.drop_eq_getElem_cons h, kyL]

def KeysVOk (t : Vl) : Prop := ∀ (P : Nat → Prop) (w : World) (v : Value), VV P w v t → kyV t ≤ 1000000000000000000 → Calls Try.prog 16 #[v] w (Ret (.int .i64 (kyV t : Nat)) w)

set_option maxRecDepth 100000 in
set_option maxHeartbeats 1000000 in
theorem keysV_any (t : Vl) : KeysVOk t := by
  induction t using Vl.ind with
  | h k nn s es ns ih =>
    intro P w v hv hmax
    obtain ⟨ve, vn, rfl, hE, hN, hss⟩ := hv.out
    obtain ⟨oe, ce, rfl⟩ := hE.len
    obtain ⟨on, cn, rfl⟩ := hN.len
    obtain ⟨hB, c0, c3, c4, c1, c2⟩ := box5 w (.int .i64 k) (.int .i64 nn) (.string s) (.slice oe es.length ce) (.slice on ns.length cn) 26
    have HB := hid hB
    have HC := hid c1
    have HE := hid (hE.bel hB)
    have HI := hid ih
    have hle := hE.le
    have hln := hN.le
    have hq : kyV (.mk k nn s es ns) = ns.length + kyL es := by rw [kyV]
    rw [hq] at hmax
    have HQ := hid hq
    clear ih hE hN hv hB c0 c1 c2 c3 c4 hss hq
    go_enter Try.func16, Try.ntmps16
    go_wp2_with fail
    generalize w.alloc (.cells #[.int .i64 k, .int .i64 nn, .string s, .slice oe es.length ce, .slice on ns.length cn] 26) = W at *
    go_loopw [3, 4] (fun m i wr => ∃ (k m' : Nat), k ≤ es.length ∧ i = .int .i64 k ∧ m = .int .i64 m' ∧ Hid (Below W.heap.size W wr) ∧ m' + kyL (es.drop k) ≤ 1000000000000000000 ∧ Hid (m' + kyL (es.drop k) = ns.length + kyL es)) (fun _ i _ => es.length - (intOf i).toNat)
    case atStart => exact ⟨0, ns.length, Nat.zero_le _, rfl, rfl, hid (Below.refl _ _), hmax, hid rfl⟩
    case round =>
      obtain ⟨j, m', hj, rfl, rfl, B, hb, E⟩ := hrel
      have hc := bcell B.out HC.out
      by_cases hlt : j < es.length
      · obtain ⟨g, o, c, k1, n1, s1, oi1, mi1, ci1, ok1, mk1, ck1, e1, a1, a2, a3, a4, a5, hT, -⟩ := (HE.out.bel B.out).at hlt
        cases e1
        have hstep := kyL_drop hlt
        rw [hstep] at hb
        have hcall := HI.out es[j] (List.getElem_mem hlt) P wr _ hT (by omega)
        have HCall := hid hcall
        have HStep := hid hstep
        generalize hr : kyV es[j] = r at *
        generalize hr2 : kyL (es.drop (j + 1)) = r2 at *
        have HR2 := hid hr2
        have hj0 : (0 : Int) ≤ (j : Int) := by omega
        have hj1 : (j : Int) < (es.length : Int) := by omega
        have hm1 : m' + r ≤ 1000000000000000000 := by omega
        clear hcall hstep hT hr hr2 hmax
        go_wp2_with fail
        refine HCall.out.mono ?_; rintro e w2 ⟨rfl, hb2⟩
        have HB2 := hid (B.out.trans (hb2.mono B.out.size))
        clear hb2
        go_wp2_with fail
        go_roundw
        case rel => exact ⟨j + 1, m' + r, by omega, by go_num, by go_num, HB2, by rw [HR2.out]; omega, hid (by rw [← E.out, HStep.out, HR2.out]; omega)⟩
        case measure => simp [intOf]; omega
      · have hje : j = es.length := by omega
        have hfin : m' = kyV (.mk k nn s es ns) := by
          have := E.out
          rw [hje, List.drop_length, kyL] at this
          rw [HQ.out]; omega
        have HFin := hid hfin
        clear hfin
        go_wp2_with fail
        go_ret
        exact ⟨ret_int (by rw [← HFin.out]), HB.out.trans (B.out.mono HB.out.size)⟩

def smallVB (t : Vl) (n : Int) : Bool := decide (0 ≤ leftV t n 40) && decide ((kyV t : Int) ≤ 2 * n)
set_option maxRecDepth 100000 in
set_option maxHeartbeats 1000000 in
theorem smallV_any (P : Nat → Prop) (w : World) (v : Value) (t : Vl) (hv : VV P w v t) (n : Int) (hn1 : 0 ≤ n) (hn2 : n ≤ 1000) :
    Calls Try.prog 4 #[v, .int .i64 n] w (Ret (.bool (smallVB t n)) w) := by
  have hnm := hv.keys_le
  have hlo := leftV_le t n 40
  obtain ⟨k, nn, s, es, ns⟩ := t
  obtain ⟨ve, vn, rfl, hE, hN, hss⟩ := hv.out
  obtain ⟨hB, c0, c3, c4, c1, c2⟩ := box5 w (.int .i64 k) (.int .i64 nn) (.string s) ve vn 26
  have hv2 := hv.bel hB
  have h1 := leftV_any (.mk k nn s es ns) P _ _ n 40 hv2 (by omega) hn2 (by omega) (by omega)
  obtain ⟨oe, ce, rfl⟩ := hE.len
  obtain ⟨on, cn, rfl⟩ := hN.len
  have HB := hid hB
  have H1 := hid h1
  have HV2 := hid hv2
  generalize hW : w.alloc (.cells #[.int .i64 k, .int .i64 nn, .string s, .slice oe es.length ce, .slice on ns.length cn] 26) = W at *
  have HW := hid hW
  have HC0 := hid c0
  have HC1 := hid c1
  have HC2 := hid c2
  have HC3 := hid c3
  have HC4 := hid c4
  have HNM := hid hnm
  obtain ⟨r, hr⟩ : ∃ r, leftV (.mk k nn s es ns) n 40 = r := ⟨_, rfl⟩
  obtain ⟨m, hm⟩ : ∃ m, kyV (.mk k nn s es ns) = m := ⟨_, rfl⟩
  have hs : smallVB (.mk k nn s es ns) n = (decide (0 ≤ r) && decide ((m : Int) ≤ 2 * n)) := by unfold smallVB; rw [hr, hm]
  rw [hr] at H1 hlo
  have HS := hid hs
  have HM := hid hm
  have hmb : 0 ≤ r → m ≤ 1000 * 140737488355328 := fun h => by
    have h3 : (szV (.mk k nn s es ns) : Int) ≤ 1000 := by omega
    have h4 : szV (.mk k nn s es ns) ≤ 1000 := by omega
    have := HNM.out
    rw [hm] at this
    exact Nat.le_trans this (Nat.mul_le_mul_right _ h4)
  have HMB := hid hmb
  clear hE hN hv hB h1 hv2 hW c0 c1 c2 c3 c4 hss hnm hr hm hs hmb hlo
  go_enter Try.func4, Try.ntmps4
  go_wp2_with fail
  rw [HW.out]
  refine H1.out.mono ?_; rintro e w2 ⟨rfl, hb2⟩
  have HB2 := hid hb2
  have q0 := bcell hb2 HC0.out
  have q1 := bcell hb2 HC1.out
  have q2 := bcell hb2 HC2.out
  have q3 := bcell hb2 HC3.out
  have q4 := bcell hb2 HC4.out
  clear hb2
  by_cases hneg : 0 ≤ r
  · have hb := HMB.out hneg
    have hcall := keysV_any (.mk k nn s es ns) P w2 _ (HV2.out.bel HB2.out) (by rw [HM.out]; omega)
    rw [HM.out] at hcall
    have HCall := hid hcall
    have hd : decide (0 ≤ r) = true := decide_eq_true hneg
    clear hcall
    go_wp2_with fail
    refine HCall.out.mono ?_; rintro e w3 ⟨rfl, hb3⟩
    have HB3 := hid (HB.out.trans ((HB2.out.trans (hb3.mono HB2.out.size)).mono HB.out.size))
    clear hb3
    go_wp2_with fail
    go_ret
    refine ⟨?_, HB3.out⟩
    rw [HS.out, hd, Bool.true_and]
    rfl
  · have hd : decide (0 ≤ r) = false := decide_eq_false hneg
    have hd2 : decide (r ≥ 0) = false := hd
    go_wp2_with fail
    go_ret
    exact ⟨by rw [HS.out, hd]; rfl, HB.out.trans (HB2.out.mono HB.out.size)⟩
theorem smallV_facts {v : Vl} {n : Nat} (h : smallVB v n = true) : szV v ≤ n ∧ kyV v ≤ 2 * n := by
  unfold smallVB at h
  rw [Bool.and_eq_true, decide_eq_true_eq, decide_eq_true_eq] at h
  have := leftV_le v n 40
  omega
end Go.Proofs.Ytibiiafcnaijeaa
