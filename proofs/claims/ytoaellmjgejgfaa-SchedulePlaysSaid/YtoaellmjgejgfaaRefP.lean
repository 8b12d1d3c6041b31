/- The reference's Ready, Begin, end, Finish, Done, Cancel, Fail. -/
import Derived.Test.YtoaellmjgejgfaaPlay
import Derived.Test.YtoaellmjgejgfaaRefW
import Derived.Test.YtoaellmjgejgfaaDeps
namespace Go.Proofs.Ytoaellmjgejgfaa
open Go Go.RowKit Go.Shelf Go.Proofs.Ytoaellmjgejgfaa.Steady
set_option linter.unusedVariables false

/-- The needs and the states fit. -/
structure Fit (ns : List (List Int)) (st : List Int) : Prop where
  len : st.length = ns.length
  le : st.length ≤ 50000
  valid : Valid ns
theorem Fit.set {ns : List (List Int)} {st : List Int} (h : Fit ns st) (n : Nat) (v : Int) : Fit ns (st.set n v) := ⟨by rw [List.length_set]; exact h.len, by rw [List.length_set]; exact h.le, h.valid⟩

/-- A Scheduler and a code. -/
def RPost (vn vs : Value) (limit c : Int) (st' : List Int) (w : World) (e : Ending) (w' : World) : Prop :=
  ∃ vs', e = .returned (.tuple #[.agg #[vn, .int .i64 limit, vs'], .int .i64 c]) ∧ Row w' vs' st' ∧ (vs' = vs ∨ ∀ g, vs'.ownBlock = some g → w.heap.size ≤ g) ∧ Below w.heap.size w w'

theorem row_below {w w' : World} {v : Value} {l : List Int} (h : Row w v l) (hb : Below w.heap.size w w') : Row w' v l :=
  h.of_same fun g hg => hb.block g (h.lt hg)

/-- Two new blocks. -/
theorem two_new (w : World) (a b c x y z : Value) :
    ((w.alloc (.cells #[a, b, c] 33)).alloc (.cells #[x, y, z] 33)).heap[w.heap.size]? = some (.cells #[a, b, c] 33) ∧
    ((w.alloc (.cells #[a, b, c] 33)).alloc (.cells #[x, y, z] 33)).heap[w.heap.size + 1]? = some (.cells #[x, y, z] 33) ∧
    Below w.heap.size w ((w.alloc (.cells #[a, b, c] 33)).alloc (.cells #[x, y, z] 33)) ∧
    ((w.alloc (.cells #[a, b, c] 33)).alloc (.cells #[x, y, z] 33)).heap.size = w.heap.size + 2 := by
  refine ⟨(heap_alloc_old _ _ (by simp)).trans (heap_alloc_at w _), ?_, ((Below.refl w.heap.size w).alloc (Nat.le_refl _) _).alloc (by simp) _, by simp⟩
  have := heap_alloc_at (w.alloc (.cells #[a, b, c] 33)) (.cells #[x, y, z] 33)
  rwa [show (w.alloc (.cells #[a, b, c] 33)).heap.size = w.heap.size + 1 by simp] at this

set_option maxRecDepth 100000 in
set_option maxHeartbeats 4000000 in
theorem rready_any (w : World) (vn vs : Value) (limit : Int) (ns : List (List Int)) (st : List Int) (hn : NView w vn ns) (hv : View w vs st) (hf : Fit ns st) :
    Calls Try.prog 29 #[.agg #[vn, .int .i64 limit, vs]] w (NewRow (rdR ns limit st) w) := by
  obtain ⟨on, cn, rfl⟩ := hn.len
  obtain ⟨ov, cv, rfl⟩ := hv.len
  obtain ⟨W, hW⟩ : ∃ W, w.alloc (.cells #[.slice on ns.length cn, .int .i64 limit, .slice ov st.length cv] 33) = W := ⟨_, rfl⟩
  have hA := heap_alloc_at w (.cells #[.slice on ns.length cn, .int .i64 limit, .slice ov st.length cv] 33)
  have hB := (Below.refl w.heap.size w).alloc (Nat.le_refl _) (.cells #[.slice on ns.length cn, .int .i64 limit, .slice ov st.length cv] 33)
  rw [hW] at hA hB
  have HW := hid hW
  have HA := hid hA
  have HB := hid hB
  have HN := hid (hn.keep (Keeps.below hB))
  have HV := hid (hv.keep (Keeps.below hB))
  have HF := hid hf
  have hle := hf.le
  have hle2 : ns.length ≤ 50000 := by have := hf.len; omega
  clear hn hv hW hA hB hf
  go_enter Try.func29, Try.ntmps29
  go_wp2_with fail
  rw [HW.out]
  obtain ⟨p0, p1, p2⟩ : W.cell? ⟨w.heap.size, 0, none⟩ = some (.slice on ns.length cn) ∧ W.cell? ⟨w.heap.size, 1, none⟩ = some (.int .i64 limit) ∧ W.cell? ⟨w.heap.size, 2, none⟩ = some (.slice ov st.length cv) := by
    refine ⟨?_, ?_, ?_⟩ <;> (rw [cells_in HA.out]; rfl)
  refine wp_region_steady (fun v => v.cell? ⟨w.heap.size, 0, none⟩ = some (.slice on ns.length cn) ∧ v.cell? ⟨w.heap.size, 1, none⟩ = some (.int .i64 limit) ∧ v.cell? ⟨w.heap.size, 2, none⟩ = some (.slice ov st.length cv)) (by kernel_rfl) (by kernel_rfl) (⟨p0, p1, p2⟩) ?_
  repeat (first
    | (refine wpSteady_skip (by rfl) ?_; try simp only [Act.put, List.setIfInBounds_toArray, List.set_cons_zero, List.set_cons_succ])
    | (refine wpSteady_calm (v := ?_) (by rfl) ?_ ?_; rotate_left; (focus (intro v hSv; (try dsimp only at hSv); go_simp; (try with_reducible rfl); done)); try simp only [Act.put, List.setIfInBounds_toArray, List.set_cons_zero, List.set_cons_succ]))
  refine wpSteady_loud rfl (by rfl) (fun K hK => ?_)
  go_simp
  refine (in_any W.drew _ _ limit ns st 1 (HN.out.keep fun g o u h => h) (HV.out.keep fun g o u h => h) (by omega)).mono ?_
  rintro e w2 ⟨v2, rfl, hr2, _, hb2⟩
  obtain ⟨o2, c2, rfl⟩ := row_len hr2
  have hz : w.heap.size < W.heap.size := (Array.getElem?_eq_some_iff.1 HA.out).1
  have hA2 := (hb2.block w.heap.size hz).trans HA.out
  have HA2 := hid hA2
  have HBW2 : Hid (Below W.heap.size W w2) := hid ⟨hb2.os, hb2.tape, hb2.output, hb2.size, hb2.block⟩
  have HB2 := hid (HB.out.trans ((show Below W.heap.size W w2 from ⟨hb2.os, hb2.tape, hb2.output, hb2.size, hb2.block⟩).mono HB.out.size))
  obtain ⟨q0, q1, q2⟩ : w2.cell? ⟨w.heap.size, 0, none⟩ = some (.slice on ns.length cn) ∧ w2.cell? ⟨w.heap.size, 1, none⟩ = some (.int .i64 limit) ∧ w2.cell? ⟨w.heap.size, 2, none⟩ = some (.slice ov st.length cv) := by
    refine ⟨?_, ?_, ?_⟩ <;> (rw [cells_in hA2]; rfl)
  have hzz : w.heap.size < w2.heap.size := Nat.lt_of_lt_of_le hz hb2.size
  clear hr2 hb2 hA2 p0 p1 p2
  refine hK.out _ _ (⟨q0, q1, q2⟩) ?_
  clear hK K
  try simp only [Act.put, List.setIfInBounds_toArray, List.set_cons_zero, List.set_cons_succ]
  repeat (first
    | (refine wpSteady_skip (by rfl) ?_; try simp only [Act.put, List.setIfInBounds_toArray, List.set_cons_zero, List.set_cons_succ])
    | (refine wpSteady_calm (v := ?_) (by rfl) ?_ ?_; rotate_left; (focus (intro v hSv; (try dsimp only at hSv); go_simp; (try with_reducible rfl); done)); try simp only [Act.put, List.setIfInBounds_toArray, List.set_cons_zero, List.set_cons_succ]))
  refine wpSteady_nil ?_
  have hlL := inL_length st 1 st.length
  obtain ⟨m, hm⟩ : ∃ m, (inL st 1 st.length).length = m := ⟨_, rfl⟩
  have HM := hid hm
  rw [hm] at hlL
  rw [hm]
  clear hm HB HA
  by_cases hlim : limit ≤ (m : Int)
  · have hres : rdR ns limit st = [] := by unfold rdR; rw [HM.out, if_pos hlim]
    have HR := hid hres
    have hd1 : decide ((m : Int) ≥ limit) = true := decide_eq_true hlim
    clear hres
    go_wp2_with fail
    go_ret
    exact ⟨_, rfl, .inl ⟨rfl, HR.out⟩, fun g hg => (by cases hg), HB2.out⟩
  have hres : rdR ns limit st = frL ns st st.length := by unfold rdR; rw [HM.out, if_neg hlim]
  have HR := hid hres
  have HLim := hid hlim
  have hd1 : decide ((m : Int) ≥ limit) = false := decide_eq_false hlim
  clear hres hlim q0 q1 q2
  go_wp2_with fail
  clear hd1
  go_loopw [3, 4] (fun o i wr => ∃ k : Nat, k ≤ st.length ∧ i = .int .i64 k ∧ Hid (Made w2.heap.size wr 3 1 o (frL ns st k).length (ints (frL ns st k))) ∧ Hid (Below w2.heap.size w2 wr)) (fun _ i _ => st.length - (intOf i).toNat)
  case atStart => exact ⟨0, Nat.zero_le _, rfl, hid ⟨World.ownsRow_nil _ _ _ _, fun g hg => by cases hg⟩, hid (Below.refl _ _)⟩
  case round =>
    obtain ⟨k, hk, rfl, M, B⟩ := hrel
    obtain ⟨ou, nu, cu, rfl⟩ := owns_slice M.out.1
    have hAr := (B.out.block w.heap.size hzz).trans HA2.out
    have HBw := hid (HB2.out.trans (B.out.mono HB2.out.size))
    have HBr := hid (HBW2.out.trans (B.out.mono HBW2.out.size))
    obtain ⟨p0, p1, p2⟩ : wr.cell? ⟨w.heap.size, 0, none⟩ = some (.slice on ns.length cn) ∧ wr.cell? ⟨w.heap.size, 1, none⟩ = some (.int .i64 limit) ∧ wr.cell? ⟨w.heap.size, 2, none⟩ = some (.slice ov st.length cv) := by
      refine ⟨?_, ?_, ?_⟩ <;> (rw [cells_in hAr]; rfl)
    clear hAr
    by_cases hlt : k < st.length
    · obtain ⟨g1, o1, c1, e1, hc1⟩ := (HV.out.keep (Keeps.below (show Below W.heap.size W wr from HBr.out))).at hlt
      cases e1
      have hkn : k < ns.length := by have := HF.out.len; omega
      obtain ⟨g3, o3, c3, u, e3, hc3, hvu⟩ := (HN.out.keep (Keeps.below (show Below W.heap.size W wr from HBr.out))).at hkn
      cases e3
      have hk0 : (0 : Int) ≤ (k : Int) := by omega
      have hk1 : (k : Int) < (st.length : Int) := by omega
      have hk2 : (k : Int) < (ns.length : Int) := by omega
      have hol := frL_length ns st k
      have hsc := frL_succ ns st k
      have hlk := valid_len HF.out.valid hkn
      obtain ⟨u1, u2, rfl⟩ := hvu.len
      have hall := fun v => all_any2 v (.slice (some ⟨g1, o1, none⟩) st.length cv) (.slice u1 (nd ns k).length u2) st (nd ns k) 2
      have HALL := hid hall
      have hva := (HV.out.keep (Keeps.below (show Below W.heap.size W wr from HBr.out)))
      have hrg : ∀ x ∈ nd ns k, 0 ≤ x ∧ x < st.length := fun x hx => by
        have := (HF.out.valid k hkn).2 x hx
        have := HF.out.len
        omega
      have HVA := hid hva
      have HVU := hid hvu
      have HRG := hid hrg
      clear hall hva hvu hrg
      obtain ⟨l, hle⟩ : ∃ l, nd ns k = l := ⟨_, rfl⟩
      rw [hle] at hsc hlk hc3 HALL HVU HRG
      clear hle
      generalize hx : st.getD k 0 = x at *
      have hz3 : w2.heap.size ≤ wr.heap.size := B.out.size
      by_cases hx0 : x = 0
      · have hsd : decide (x = 0) = true := decide_eq_true hx0
        rw [hsd, Bool.true_and] at hsc
        subst hx0
        clear hx hsd
        have HSC := hid hsc
        clear hsc
        go_wp2_with fail
        refine wp_region_steady (fun v => v.cell? ⟨w.heap.size, 0, none⟩ = some (.slice (some ⟨g3, o3, none⟩) ns.length cn) ∧ v.cell? ⟨w.heap.size, 2, none⟩ = some (.slice (some ⟨g1, o1, none⟩) st.length cv) ∧ v.cell? ⟨g1, o1 + k, none⟩ = some (.int .i64 0) ∧ v.cell? ⟨g3, o3 + k, none⟩ = some (.slice u1 l.length u2)) (by kernel_rfl) (by kernel_rfl) (⟨p0, p2, hc1, hc3⟩) ?_
        repeat (first
          | (refine wpSteady_skip (by rfl) ?_; try simp only [Act.put, List.setIfInBounds_toArray, List.set_cons_zero, List.set_cons_succ])
          | (refine wpSteady_calm (v := ?_) (by rfl) ?_ ?_; rotate_left; (focus (intro v hSv; (try dsimp only at hSv); go_simp; (try with_reducible rfl); done)); try simp only [Act.put, List.setIfInBounds_toArray, List.set_cons_zero, List.set_cons_succ]))
        refine wpSteady_loud rfl (by rfl) (fun K hK => ?_)
        go_simp
        refine (HALL.out wr.drew (HVA.out.keep fun g o u h => h) (HVU.out.keep fun g o u h => h) (by omega) (by omega) HRG.out).mono ?_
        rintro e w' ⟨rfl, rfl⟩
        refine hK.out _ _ (⟨p0, p2, hc1, hc3⟩) ?_
        clear hK K
        try simp only [Act.put, List.setIfInBounds_toArray, List.set_cons_zero, List.set_cons_succ]
        repeat (first
          | (refine wpSteady_skip (by rfl) ?_; try simp only [Act.put, List.setIfInBounds_toArray, List.set_cons_zero, List.set_cons_succ])
          | (refine wpSteady_calm (v := ?_) (by rfl) ?_ ?_; rotate_left; (focus (intro v hSv; (try dsimp only at hSv); go_simp; (try with_reducible rfl); done)); try simp only [Act.put, List.setIfInBounds_toArray, List.set_cons_zero, List.set_cons_succ]))
        refine wpSteady_nil ?_
        have MQ : Made w2.heap.size wr.drew 3 1 _ _ _ := M.out
        have HMQ := hid MQ
        have BQ : Hid (Below w2.heap.size w2 wr.drew) := hid (below_drewN B.out 1)
        have hz4 : w2.heap.size ≤ wr.drew.heap.size := hz3
        clear p0 p1 p2 hc1 hc3 MQ
        cases hb : allB st l 2 with
        | true =>
          rw [hb] at HSC
          clear hb
          go_wp2_with (at_builtin; refine app_tag rfl (.tmp 34) (.tmp 36) 31 rfl 3 (.int .i64 0) 1 8 Try.underlying31 info3 rfl (by decide) (by decide) _ _ _ HMQ.out.1 rfl [.int .i64 k] wr.heap.size rfl rfl rfl (by simp [Value.oneCell']) (by omega) ?_; intro v3 w3 hown3 hc3 hp3 hne3)
          have M3 := HMQ.out.grow hz4 hown3 hp3
          have B3 := HMQ.out.below (Nat.le_refl _) BQ.out hc3
          clear hown3 hc3 hp3 hne3
          go_roundw
          case rel =>
            refine ⟨k + 1, by omega, by go_num, hid ?_, hid B3⟩
            rw [HSC.out]
            simp only [if_true]
            have e1 : ints (frL ns st k ++ [(k : Int)]) = ints (frL ns st k) ++ [.int .i64 k] := by simp [ints]
            rw [e1, List.length_append]
            exact M3
          case measure => simp [intOf]; omega
        | false =>
          rw [hb] at HSC
          clear hb
          go_wp2_with fail
          go_roundw
          case rel =>
            refine ⟨k + 1, by omega, by go_num, hid ?_, BQ⟩
            rw [HSC.out, if_neg (by simp), List.append_nil]
            exact HMQ.out
          case measure => simp [intOf]; omega
      · have hsd : decide (x = 0) = false := decide_eq_false hx0
        rw [hsd, Bool.false_and] at hsc
        have hd1 : decide (x = 0) = false := hsd
        have hd2 : (x == 0) = false := beq_eq_false_iff_ne.2 hx0
        have HSC := hid hsc
        clear hsc hx hx0 hsd
        go_wp2_with fail
        refine wp_region_steady (fun v => v.cell? ⟨w.heap.size, 0, none⟩ = some (.slice (some ⟨g3, o3, none⟩) ns.length cn) ∧ v.cell? ⟨w.heap.size, 2, none⟩ = some (.slice (some ⟨g1, o1, none⟩) st.length cv) ∧ v.cell? ⟨g1, o1 + k, none⟩ = some (.int .i64 x) ∧ v.cell? ⟨g3, o3 + k, none⟩ = some (.slice u1 l.length u2)) (by kernel_rfl) (by kernel_rfl) (⟨p0, p2, hc1, hc3⟩) ?_
        repeat (first
          | (refine wpSteady_skip (by rfl) ?_; try simp only [Act.put, List.setIfInBounds_toArray, List.set_cons_zero, List.set_cons_succ])
          | (refine wpSteady_calm (v := ?_) (by rfl) ?_ ?_; rotate_left; (focus (intro v hSv; (try dsimp only at hSv); go_simp; (try with_reducible rfl); done)); try simp only [Act.put, List.setIfInBounds_toArray, List.set_cons_zero, List.set_cons_succ]))
        refine wpSteady_nil ?_
        have MQ : Made w2.heap.size wr.drew 3 1 _ _ _ := M.out
        have HMQ := hid MQ
        have BQ : Hid (Below w2.heap.size w2 wr.drew) := hid (below_drewN B.out 1)
        clear p0 p1 p2 hc1 hc3 MQ
        go_wp2_with fail
        go_roundw
        case rel =>
          refine ⟨k + 1, by omega, by go_num, hid ?_, BQ⟩
          rw [HSC.out, if_neg (by simp), List.append_nil]
          exact HMQ.out
        case measure => simp [intOf]; omega
    · have hke : k = st.length := by omega
      subst hke
      go_wp2_with fail
      go_ret
      refine ⟨_, rfl, ?_, fun g hg => ?_, HBw.out⟩
      · rw [HR.out]; exact Row.of_owns M.out.1 rfl
      · have h1 := M.out.2 g hg
        omega
end Go.Proofs.Ytoaellmjgejgfaa
