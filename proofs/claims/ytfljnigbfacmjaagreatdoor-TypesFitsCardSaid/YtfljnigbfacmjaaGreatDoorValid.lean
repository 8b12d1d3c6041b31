/- The outer Checks, and the law's premise. -/
import Derived.Test.YtfljnigbfacmjaaGreatDoorCheck
import Derived.Test.YtfljnigbfacmjaaGreatDoorRIncl
namespace Go.Proofs.YtfljnigbfacmjaaGreatDoor
open Go Go.RowKit
set_option linter.unusedVariables false

set_option maxRecDepth 100000 in
set_option maxHeartbeats 4000000 in
theorem ocheck_any (P : Nat → Prop) (w : World) (v : Value) (t : Ty) (hv : TV P w v t) : Calls Tryz.prog 14 #[v] w (Ret (.int .i64 (checkT t 1)) w) := by
  obtain ⟨k, es, ns⟩ := t
  obtain ⟨ve, vn, rfl, hE, hN⟩ := hv.out
  obtain ⟨oe, ce, rfl⟩ := hE.len
  obtain ⟨on, cn, rfl⟩ := hN.len
  obtain ⟨hB, c0, c1, c2, hz⟩ := box3 w (.int .i64 k) (.slice oe es.length ce) (.slice on ns.length cn) 30
  have HCall := hid (check_any (.mk k es ns) P _ _ 1 (hv.bel hB) (by decide) (by decide))
  have HB := hid hB
  generalize checkT (.mk k es ns) 1 = r at *
  generalize hW : w.alloc (.cells #[.int .i64 k, .slice oe es.length ce, .slice on ns.length cn] 30) = W at *
  have HW := hid hW
  clear hv hE hN hB hW c0 c1 c2 hz
  go_enter Tryz.func14, Tryz.ntmps14
  go_wp2_with fail
  rw [HW.out]
  refine HCall.out.mono ?_; rintro e w2 ⟨rfl, hb⟩
  have HB2 := hid (HB.out.trans (hb.mono HB.out.size))
  clear hb
  go_wp2_with fail
  go_ret
  exact ⟨rfl, HB2.out⟩
set_option maxRecDepth 100000 in
set_option maxHeartbeats 4000000 in
theorem orcheck_any (P : Nat → Prop) (w : World) (v : Value) (t : Ty) (hv : TV P w v t) : Calls Tryz.prog 21 #[v] w (Ret (.int .i64 (checkT t 1)) w) := by
  obtain ⟨k, es, ns⟩ := t
  obtain ⟨ve, vn, rfl, hE, hN⟩ := hv.out
  obtain ⟨oe, ce, rfl⟩ := hE.len
  obtain ⟨on, cn, rfl⟩ := hN.len
  obtain ⟨hB, c0, c1, c2, hz⟩ := box3 w (.int .i64 k) (.slice oe es.length ce) (.slice on ns.length cn) 30
  have HCall := hid (rcheck_any (.mk k es ns) P _ _ 1 (hv.bel hB) (by decide) (by decide))
  have HB := hid hB
  generalize checkT (.mk k es ns) 1 = r at *
  generalize hW : w.alloc (.cells #[.int .i64 k, .slice oe es.length ce, .slice on ns.length cn] 30) = W at *
  have HW := hid hW
  clear hv hE hN hB hW c0 c1 c2 hz
  go_enter Tryz.func21, Tryz.ntmps21
  go_wp2_with fail
  rw [HW.out]
  refine HCall.out.mono ?_; rintro e w2 ⟨rfl, hb⟩
  have HB2 := hid (HB.out.trans (hb.mono HB.out.size))
  clear hb
  go_wp2_with fail
  go_ret
  exact ⟨rfl, HB2.out⟩

/-- Valid, with few parts. -/
def validB (t : Ty) : Bool := smallB t 200 && decide (checkT t 1 = 0)
theorem all_yes {f : Ty → Bool} {l : List Ty} (h : ∀ j (hj : j < l.length), f l[j] = true) : l.all f = true := by
  rw [List.all_eq_true]
  intro x hx
  obtain ⟨j, hj, rfl⟩ := List.getElem_of_mem hx
  exact h j hj
theorem all_no {f : Ty → Bool} {l : List Ty} {j : Nat} (hj : j < l.length) (h : f l[j] = false) : l.all f = false := by
  rw [← Bool.not_eq_true, List.all_eq_true]
  intro hh
  have := hh _ (List.getElem_mem hj)
  rw [h] at this; cases this
set_option maxRecDepth 100000 in
set_option maxHeartbeats 4000000 in
theorem valid_any (P : Nat → Prop) (w : World) (u : Value) (es : List Ty) (hu : LV P w u es) : Calls Tryz.prog 7 #[u] w (Ret (.bool (es.all validB)) w) := by
  obtain ⟨oa, ca, rfl⟩ := hu.len
  have hla := hu.le
  have HU := hid hu
  clear hu
  go_enter Tryz.func7, Tryz.ntmps7
  go_wp2_with fail
  go_loopw [3] (fun i wr => ∃ k : Nat, k ≤ es.length ∧ i = .int .i64 k ∧ Hid (Below w.heap.size w wr) ∧ Hid (∀ j (hj : j < es.length), j < k → validB es[j] = true)) (fun i _ => es.length - (intOf i).toNat)
  case atStart => exact ⟨0, Nat.zero_le _, rfl, hid (Below.refl _ _), hid fun j _ hj => absurd hj (Nat.not_lt_zero _)⟩
  case round =>
    obtain ⟨k, hk, rfl, B, A⟩ := hrel
    by_cases hlt : k < es.length
    · obtain ⟨g1, o1, c1, k1, oy1, my1, cy1, oz1, mz1, cz1, e1, a1, a2, a3, hT1⟩ := (HU.out.bel B.out).at2 hlt
      cases e1
      have hk0 : (0 : Int) ≤ (k : Int) := by omega
      have hk1 : (k : Int) < (es.length : Int) := by omega
      have HS1 := hid (small_any P wr _ es[k] hT1 200 (by decide) (by decide))
      have HT := hid hT1
      clear hT1
      cases hs : smallB es[k] 200 with
      | false =>
        have HN := hid (all_no (f := validB) hlt (by unfold validB; rw [hs]; rfl))
        rw [hs] at HS1
        clear hs A
        go_wp2_with fail
        refine HS1.out.mono ?_; rintro e w4 ⟨rfl, hb4⟩
        have HB4 := hid (B.out.trans (hb4.mono B.out.size))
        clear hb4
        go_wp2_with fail
        go_ret
        exact ⟨by rw [HN.out]; rfl, HB4.out⟩
      | true =>
        rw [hs] at HS1
        by_cases hc : checkT es[k] 1 = 0
        · have HV : Hid (∀ j (hj : j < es.length), j < k + 1 → validB es[j] = true) := hid fun j hj h => by
            by_cases e : j = k
            · subst e; unfold validB; rw [hs, hc]; rfl
            · exact A.out j hj (by omega)
          have HC := hid hc
          clear hs A hc
          go_wp2_with fail
          refine HS1.out.mono ?_; rintro e w4 ⟨rfl, hb4⟩
          have b1 := bcell hb4 a1
          have b2 := bcell hb4 a2
          have b3 := bcell hb4 a3
          have HCall := hid (orcheck_any P w4 _ es[k] (HT.out.bel hb4))
          rw [HC.out] at HCall
          have HB4 := hid (B.out.trans (hb4.mono B.out.size))
          clear hb4
          go_wp2_with fail
          refine HCall.out.mono ?_; rintro e w5 ⟨rfl, hb5⟩
          have HB5 := hid (HB4.out.trans (hb5.mono HB4.out.size))
          clear hb5
          go_wp2_with fail
          go_roundw
          case rel => exact ⟨k + 1, by omega, by go_num, HB5, HV⟩
          case measure => simp [intOf]; omega
        · have HN := hid (all_no (f := validB) hlt (by unfold validB; rw [hs, decide_eq_false hc]; rfl))
          have d1 : decide (checkT es[k] 1 = 0) = false := decide_eq_false hc
          have d2 : (checkT es[k] 1 == 0) = false := beq_eq_false_iff_ne.2 hc
          have d3 : (checkT es[k] 1 != 0) = true := by rw [bne, d2]; rfl
          have HCall0 := fun w4 (hb : Below wr.heap.size wr w4) => orcheck_any P w4 _ es[k] (HT.out.bel hb)
          have HCall1 := hid HCall0
          clear hs A hc HCall0
          generalize checkT es[k] 1 = r at *
          go_wp2_with fail
          refine HS1.out.mono ?_; rintro e w4 ⟨rfl, hb4⟩
          have b1 := bcell hb4 a1
          have b2 := bcell hb4 a2
          have b3 := bcell hb4 a3
          have HCall := hid (HCall1.out w4 hb4)
          have HB4 := hid (B.out.trans (hb4.mono B.out.size))
          clear hb4
          go_wp2_with fail
          refine HCall.out.mono ?_; rintro e w5 ⟨rfl, hb5⟩
          have HB5 := hid (HB4.out.trans (hb5.mono HB4.out.size))
          clear hb5
          go_wp2_with fail
          go_ret
          exact ⟨by rw [HN.out]; rfl, HB5.out⟩
    · have hfin := all_yes fun j hj => A.out j hj (by omega)
      have HFin := hid hfin
      clear hfin
      go_wp2_with fail
      go_ret
      exact ⟨by rw [HFin.out]; rfl, B.out⟩
/-- What a valid type's parts are. -/
theorem check_parts {k : Int} {es : List Ty} {ns : List ByteArray} {lv : Int} (h : checkT (.mk k es ns) lv = 0) : lv ≤ 32 ∧ partsB k es.length ns.length = true ∧ namesE none ns = 0 ∧ checkL es (lv + 1) = 0 := by
  rw [checkT_eq] at h
  by_cases h1 : 32 < lv
  · rw [if_pos h1] at h; cases h
  rw [if_neg h1] at h
  by_cases h2 : partsB k es.length ns.length = false
  · rw [if_pos h2] at h; cases h
  rw [if_neg h2] at h
  by_cases h3 : namesE none ns ≠ 0
  · rw [if_pos h3] at h; exact absurd h h3
  rw [if_neg h3] at h
  exact ⟨by omega, by simpa using h2, by simpa using h3, h⟩
theorem checkL_mem : ∀ {es : List Ty} {e : Ty} {lv : Int}, checkL es lv = 0 → e ∈ es → checkT e lv = 0
  | x :: l, e, lv, h, hm => by
    rw [checkL] at h
    by_cases h1 : checkT x lv ≠ 0
    · rw [if_pos h1] at h; exact absurd h h1
    · rw [if_neg h1] at h
      rcases List.mem_cons.1 hm with rfl | hm
      · simpa using h1
      · exact checkL_mem h hm
theorem mapsL_of : ∀ {l : List Ty}, (∀ e ∈ l, mapsT e = true) → mapsL l = true
  | [], _ => by rw [mapsL]
  | x :: l, h => by rw [mapsL, h x (List.mem_cons_self ..), mapsL_of fun e he => h e (List.mem_cons_of_mem _ he)]; rfl
/-- Of a valid type each map has one element. -/
theorem maps_of_check (t : Ty) : ∀ lv : Int, checkT t lv = 0 → mapsT t = true := by
  induction t using Ty.ind with
  | h k es ns ih =>
    intro lv h
    obtain ⟨_, hp, _, hl⟩ := check_parts h
    rw [mapsT, mapsL_of fun e he => ih e he _ (checkL_mem hl he), Bool.and_true]
    by_cases h5 : k = 5
    · subst h5
      unfold partsB at hp
      rw [if_pos (by omega), Bool.and_eq_true] at hp
      rw [hp.1, Bool.or_true]
    · rw [decide_eq_true h5]; rfl
/-- What the premise of the laws gives. -/
theorem valid_facts {t : Ty} (h : validB t = true) : sizeT t ≤ 201 ∧ (namesT t : Int) ≤ 400 ∧ checkT t 1 = 0 ∧ mapsT t = true := by
  unfold validB smallB at h
  simp only [Bool.and_eq_true, decide_eq_true_eq] at h
  obtain ⟨⟨h1, h2⟩, h3⟩ := h
  refine ⟨?_, by simpa using h2, h3, maps_of_check t 1 h3⟩
  rcases left_le t 200 40 with e | ⟨h0, e⟩
  · omega
  · omega
end Go.Proofs.YtfljnigbfacmjaaGreatDoor
