/- The reference's has, In. -/
import Derived.Test.YtoaellmjgejgfaaRefNew
import Derived.Test.YtoaellmjgejgfaaDeps
namespace Go.Proofs.Ytoaellmjgejgfaa
open Go Go.RowKit Go.Shelf
set_option linter.unusedVariables false

theorem has_no {l : List Int} {n : Int} (h : ∀ j, j < l.length → l.getD j 0 ≠ n) : l.contains n = false := by
  cases hc : l.contains n with
  | false => rfl
  | true =>
    obtain ⟨j, hj, e⟩ := List.getElem_of_mem (List.contains_iff_mem.1 hc)
    have := h j hj
    rw [List.getD_eq_getElem?_getD, List.getElem?_eq_getElem hj] at this
    exact absurd e this

set_option maxRecDepth 100000 in
set_option maxHeartbeats 1000000 in
theorem rhas_any (w : World) (v : Value) (l : List Int) (n : Int) (hv : View w v l) (hl : l.length ≤ 100000) :
    Calls Try.prog 48 #[v, .int .i64 n] w fun e w' => e = .returned (.bool (l.contains n)) ∧ w = w' := by
  obtain ⟨oa, ca, rfl⟩ := hv.len
  have HV := hid hv
  obtain ⟨bb, hbb⟩ : ∃ bb, l.contains n = bb := ⟨_, rfl⟩
  rw [hbb]
  have HBB := hid hbb
  clear hv hbb
  go_enter Try.func48, Try.ntmps48
  go_wp2_with fail
  go_loop [5] (fun i => ∃ k : Nat, k ≤ l.length ∧ i = .int .i64 k ∧ Hid (∀ j, j < k → l.getD j 0 ≠ n)) (fun i => l.length - (intOf i).toNat)
  case atStart => exact ⟨0, Nat.zero_le _, rfl, hid fun j hj => absurd hj (Nat.not_lt_zero _)⟩
  case round =>
    obtain ⟨k, hk, rfl, A⟩ := hrel
    by_cases hlt : k < l.length
    · obtain ⟨g1, o1, c1, e1, hc1⟩ := HV.out.at hlt
      cases e1
      have hk0 : (0 : Int) ≤ (k : Int) := by omega
      have hk1 : (k : Int) < (l.length : Int) := by omega
      have hm := getD_mem hlt
      generalize hx : l.getD k 0 = x at *
      have HX := hid hx
      have HM := hid hm
      clear hx hm
      by_cases hxn : x = n
      · subst hxn
        go_wp2_with fail
        go_ret
        exact ⟨by rw [← HBB.out, List.contains_iff_mem.2 HM.out]; rfl, rfl⟩
      · have hb1 : decide (x = n) = false := decide_eq_false hxn
        have hb3 : (x == n) = false := beq_eq_false_iff_ne.2 hxn
        have HN := hid hxn
        clear hxn
        go_wp2_with fail
        go_round
        case rel =>
          refine ⟨k + 1, by omega, by go_num, hid fun j hj => ?_⟩
          by_cases e : j = k
          · subst e; rw [HX.out]; exact HN.out
          · exact A.out j (by omega)
        case measure => simp [intOf]; omega
    · go_wp2_with fail
      go_ret
      exact ⟨by rw [← HBB.out, has_no fun j hj => A.out j (by omega)]; rfl, rfl⟩

/-- The steps in a state. -/
def inL (st : List Int) (want : Int) (k : Nat) : List Int := ((List.range k).filter fun i : Nat => decide (st.getD i 0 = want)).map Int.ofNat
theorem inL_succ (st : List Int) (want : Int) (k : Nat) : inL st want (k + 1) = inL st want k ++ if decide (st.getD k 0 = want) then [(k : Int)] else [] := by
  unfold inL
  rw [List.range_succ, List.filter_append, List.map_append]
  congr 1
  by_cases h : decide (st.getD k 0 = want) = true
  · rw [if_pos h]; simp only [List.filter_cons, h, if_true, List.filter_nil]; rfl
  · rw [if_neg h]; simp only [List.filter_cons, h, List.filter_nil]; rfl
theorem inL_length (st : List Int) (want : Int) (k : Nat) : (inL st want k).length ≤ k := by
  unfold inL
  rw [List.length_map]
  exact Nat.le_trans (List.length_filter_le _ _) (by simp)

/-- A list in a new row. -/
def NewRow (l : List Int) (w : World) (e : Ending) (w' : World) : Prop :=
  ∃ v', e = .returned v' ∧ Row w' v' l ∧ (∀ g, v'.ownBlock = some g → w.heap.size ≤ g) ∧ Below w.heap.size w w'

set_option maxRecDepth 100000 in
set_option maxHeartbeats 4000000 in
theorem in_any (w : World) (vn vs : Value) (limit : Int) (ns : List (List Int)) (st : List Int) (want : Int) (hn : NView w vn ns) (hv : View w vs st) (hl : st.length ≤ 100000) :
    Calls Try.prog 30 #[.agg #[vn, .int .i64 limit, vs], .int .i64 want] w (NewRow (inL st want st.length) w) := by
  obtain ⟨on, cn, rfl⟩ := hn.len
  obtain ⟨ov, cv, rfl⟩ := hv.len
  have c2 := cells_in (heap_alloc_at w (.cells #[.slice on ns.length cn, .int .i64 limit, .slice ov st.length cv] 33)) 2
  have B1 := hid ((Below.refl w.heap.size w).alloc (Nat.le_refl _) (.cells #[.slice on ns.length cn, .int .i64 limit, .slice ov st.length cv] 33))
  have HV := hid (hv.keep (Keeps.below B1.out))
  have C2 := hid c2
  have hz : w.heap.size < (w.alloc (.cells #[.slice on ns.length cn, .int .i64 limit, .slice ov st.length cv] 33)).heap.size := by simp
  clear hn hv c2
  go_enter Try.func30, Try.ntmps30
  go_wp2_with fail
  generalize w.alloc (.cells #[.slice on ns.length cn, .int .i64 limit, .slice ov st.length cv] 33) = w1 at *
  go_loopw [5, 6] (fun o i wr => ∃ k : Nat, k ≤ st.length ∧ i = .int .i64 k ∧ Hid (Made w1.heap.size wr 3 1 o (inL st want k).length (ints (inL st want k))) ∧ Hid (Below w1.heap.size w1 wr)) (fun _ i _ => st.length - (intOf i).toNat)
  case atStart => exact ⟨0, Nat.zero_le _, rfl, hid ⟨World.ownsRow_nil _ _ _ _, fun g hg => by cases hg⟩, hid (Below.refl _ _)⟩
  case round =>
    obtain ⟨k, hk, rfl, M, B⟩ := hrel
    have hc2 : wr.cell? ⟨w.heap.size, 2, none⟩ = some (.slice ov st.length cv) := Keeps.below B.out _ _ _ (C2.out.trans rfl)
    by_cases hlt : k < st.length
    · obtain ⟨g1, o1, c1, e1, hc1⟩ := (HV.out.keep (Keeps.below B.out)).at hlt
      cases e1
      have hk0 : (0 : Int) ≤ (k : Int) := by omega
      have hk1 : (k : Int) < (st.length : Int) := by omega
      have hz3 : w1.heap.size ≤ wr.heap.size := B.out.size
      have hol := inL_length st want k
      have hsc := inL_succ st want k
      generalize st.getD k 0 = x at *
      by_cases hxw : x = want
      · rw [decide_eq_true hxw] at hsc
        have HSC := hid hsc
        have hb1 : decide (x = want) = true := decide_eq_true hxw
        have hb3 : (x == want) = true := beq_iff_eq.2 hxw
        clear hxw hsc
        go_wp2_with (at_builtin; refine app_tag rfl (.tmp 21) (.tmp 23) 31 rfl 3 (.int .i64 0) 1 8 Try.underlying31 info3 rfl (by decide) (by decide) _ _ _ M.out.1 rfl [.int .i64 k] wr.heap.size rfl rfl rfl (by simp [Value.oneCell']) (by omega) ?_; intro v3 w3 hown3 hc3 hp3 hne3)
        have M3 := M.out.grow hz3 hown3 hp3
        have B3 := M.out.below (Nat.le_refl _) B.out hc3
        clear hown3 hc3 hp3 hne3 hc1 hc2
        go_roundw
        case rel =>
          refine ⟨k + 1, by omega, by go_num, hid ?_, hid B3⟩
          rw [HSC.out]
          simp only [if_true]
          have e1 : ints (inL st want k ++ [(k : Int)]) = ints (inL st want k) ++ [.int .i64 k] := by simp [ints]
          rw [e1, List.length_append]
          exact M3
        case measure => simp [intOf]; omega
      · rw [decide_eq_false hxw] at hsc
        have HSC := hid hsc
        have hb1 : decide (x = want) = false := decide_eq_false hxw
        have hb3 : (x == want) = false := beq_eq_false_iff_ne.2 hxw
        clear hxw hsc
        go_wp2_with fail
        go_roundw
        case rel =>
          refine ⟨k + 1, by omega, by go_num, hid ?_, B⟩
          rw [HSC.out, if_neg (by simp), List.append_nil]
          exact M.out
        case measure => simp [intOf]; omega
    · have hke : k = st.length := by omega
      subst hke
      go_wp2_with fail
      go_ret
      refine ⟨_, rfl, Row.of_owns M.out.1 rfl, fun g hg => ?_, B1.out.trans (B.out.mono B1.out.size)⟩
      have := M.out.2 g hg
      omega
end Go.Proofs.Ytoaellmjgejgfaa
