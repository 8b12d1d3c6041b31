/- The reference's Begin, end, Finish. -/
import Derived.Test.YtoaellmjgejgfaaRefP
namespace Go.Proofs.Ytoaellmjgejgfaa
open Go Go.RowKit Go.Shelf Go.Proofs.Ytoaellmjgejgfaa.Steady
set_option linter.unusedVariables false

theorem row_ne {w : World} {v : Value} {l : List Int} {r : Nat} (h : Row w v l) (hr : w.heap.size ≤ r) : ∀ g, v.ownBlock = some g → ¬ g = r := fun g hg e => by
  have := h.lt hg
  omega

theorem rsame {w : World} {vn vs : Value} {limit c : Int} {st : List Int} (hv : Row w vs st) : RPost vn vs limit c st w (.returned (.tuple #[.agg #[vn, .int .i64 limit, vs], .int .i64 c])) ((w.alloc (.cells #[vn, .int .i64 limit, vs] 33)).alloc (.cells #[vn, .int .i64 limit, vs] 33)) :=
  have hb := ((Below.refl w.heap.size w).alloc (Nat.le_refl _) (.cells #[vn, .int .i64 limit, vs] 33)).alloc (by simp) (.cells #[vn, .int .i64 limit, vs] 33)
  ⟨_, rfl, row_below hv hb, .inl rfl, hb⟩

set_option maxRecDepth 100000 in
set_option maxHeartbeats 4000000 in
theorem rbegin_low (w : World) (vn vs : Value) (limit : Int) (ns : List (List Int)) (st : List Int) (x : Int) (hn : NView w vn ns) (hv : Row w vs st) (hx : x < 0) :
    Calls Try.prog 24 #[.agg #[vn, .int .i64 limit, vs], .int .i64 x] w (RPost vn vs limit 9 st w) := by
  obtain ⟨on, cn, rfl⟩ := hn.len
  obtain ⟨ov, cv, rfl⟩ := row_len hv
  have HV := hid hv
  clear hn hv
  
  go_enter Try.func24, Try.ntmps24
  go_wp2_with fail
  exact bodyPost_ret (v := .tuple #[.agg #[.slice on ns.length cn, .int .i64 limit, .slice ov st.length cv], .int .i64 9]) (by simp [results, Try.results24, go_sem]) rfl (rsame HV.out)

set_option maxRecDepth 100000 in
set_option maxHeartbeats 4000000 in
theorem rbegin_high (w : World) (vn vs : Value) (limit : Int) (ns : List (List Int)) (st : List Int) (x : Int) (hn : NView w vn ns) (hv : Row w vs st) (hx : (st.length : Int) ≤ x) :
    Calls Try.prog 24 #[.agg #[vn, .int .i64 limit, vs], .int .i64 x] w (RPost vn vs limit 9 st w) := by
  obtain ⟨on, cn, rfl⟩ := hn.len
  obtain ⟨ov, cv, rfl⟩ := row_len hv
  have HV := hid hv
  clear hn hv
  have h0 : 0 ≤ x := by omega
  go_enter Try.func24, Try.ntmps24
  go_wp2_with fail
  exact bodyPost_ret (v := .tuple #[.agg #[.slice on ns.length cn, .int .i64 limit, .slice ov st.length cv], .int .i64 9]) (by simp [results, Try.results24, go_sem]) rfl (rsame HV.out)

set_option maxRecDepth 100000 in
set_option maxHeartbeats 4000000 in
theorem rend_low (w : World) (vn vs : Value) (limit : Int) (ns : List (List Int)) (st : List Int) (x c : Int) (hn : NView w vn ns) (hv : Row w vs st) (hx : x < 0) :
    Calls Try.prog 50 #[.agg #[vn, .int .i64 limit, vs], .int .i64 x, .int .i64 c] w (RPost vn vs limit 9 st w) := by
  obtain ⟨on, cn, rfl⟩ := hn.len
  obtain ⟨ov, cv, rfl⟩ := row_len hv
  have HV := hid hv
  clear hn hv
  
  go_enter Try.func50, Try.ntmps50
  go_wp2_with fail
  exact bodyPost_ret (v := .tuple #[.agg #[.slice on ns.length cn, .int .i64 limit, .slice ov st.length cv], .int .i64 9]) (by simp [results, Try.results50, go_sem]) rfl (rsame HV.out)

set_option maxRecDepth 100000 in
set_option maxHeartbeats 4000000 in
theorem rend_high (w : World) (vn vs : Value) (limit : Int) (ns : List (List Int)) (st : List Int) (x c : Int) (hn : NView w vn ns) (hv : Row w vs st) (hx : (st.length : Int) ≤ x) :
    Calls Try.prog 50 #[.agg #[vn, .int .i64 limit, vs], .int .i64 x, .int .i64 c] w (RPost vn vs limit 9 st w) := by
  obtain ⟨on, cn, rfl⟩ := hn.len
  obtain ⟨ov, cv, rfl⟩ := row_len hv
  have HV := hid hv
  clear hn hv
  have h0 : 0 ≤ x := by omega
  go_enter Try.func50, Try.ntmps50
  go_wp2_with fail
  exact bodyPost_ret (v := .tuple #[.agg #[.slice on ns.length cn, .int .i64 limit, .slice ov st.length cv], .int .i64 9]) (by simp [results, Try.results50, go_sem]) rfl (rsame HV.out)

set_option maxRecDepth 100000 in
set_option maxHeartbeats 4000000 in
theorem rend_state (w : World) (vn vs : Value) (limit : Int) (ns : List (List Int)) (st : List Int) (x c : Int) (hx0 : 0 ≤ x) (hx1 : x < (st.length : Int)) (hs : st.getD x.toNat 0 ≠ 1) (hn : NView w vn ns) (hv : Row w vs st) (hf : Fit ns st) :
    Calls Try.prog 50 #[.agg #[vn, .int .i64 limit, vs], .int .i64 x, .int .i64 c] w (RPost vn vs limit 38 st w) := by
  obtain ⟨on, cn, rfl⟩ := hn.len
  obtain ⟨ov, cv, rfl⟩ := row_len hv
  obtain ⟨n, rfl⟩ : ∃ n : Nat, x = n := ⟨x.toNat, by omega⟩
  have hnl : n < st.length := by omega
  have hs2 : st.getD n 0 ≠ 1 := hs
  obtain ⟨g1, o1, c1, e1, hc1⟩ := (hv.view.keep (Keeps.below (((Below.refl w.heap.size w).alloc (Nat.le_refl _) (.cells #[.slice on ns.length cn, .int .i64 limit, .slice ov st.length cv] 33)).alloc (by simp) (.cells #[.slice none 0 0, .int .i64 0, .slice none 0 0] 33)))).at hnl
  cases e1
  generalize st.getD n 0 = y at *
  have hd1 : decide (y = 1) = false := decide_eq_false hs2
  have hd2 : (y == 1) = false := beq_eq_false_iff_ne.2 hs2
  have hd3 : (y != 1) = true := by rw [bne, hd2]; rfl
  have HV := hid hv
  clear hn hv hf hs hs2
  go_enter Try.func50, Try.ntmps50
  go_wp2_with fail
  exact bodyPost_ret (v := .tuple #[.agg #[.slice on ns.length cn, .int .i64 limit, .slice (some ⟨g1, o1, none⟩) st.length cv], .int .i64 38]) (by simp [results, Try.results50, go_sem]) rfl (rsame HV.out)

set_option maxRecDepth 100000 in
set_option maxHeartbeats 4000000 in
theorem rend_ok (w : World) (vn vs : Value) (limit : Int) (ns : List (List Int)) (st : List Int) (x c : Int) (hx0 : 0 ≤ x) (hx1 : x < (st.length : Int)) (hs : st.getD x.toNat 0 = 1) (hn : NView w vn ns) (hv : Row w vs st) (hf : Fit ns st) :
    Calls Try.prog 50 #[.agg #[vn, .int .i64 limit, vs], .int .i64 x, .int .i64 c] w (RPost vn vs limit 0 (st.set x.toNat c) w) := by
  obtain ⟨on, cn, rfl⟩ := hn.len
  obtain ⟨ov, cv, rfl⟩ := row_len hv
  obtain ⟨n, rfl⟩ : ∃ n : Nat, x = n := ⟨x.toNat, by omega⟩
  have hnl : n < st.length := by omega
  have hs2 : st.getD n 0 = 1 := hs
  rw [Int.toNat_natCast]
  obtain ⟨hA, hZ, hB, hS⟩ := two_new w (.slice on ns.length cn) (.int .i64 limit) (.slice ov st.length cv) (.slice none 0 0) (.int .i64 0) (.slice none 0 0)
  obtain ⟨W, hW⟩ : ∃ W, (w.alloc (.cells #[.slice on ns.length cn, .int .i64 limit, .slice ov st.length cv] 33)).alloc (.cells #[.slice none 0 0, .int .i64 0, .slice none 0 0] 33) = W := ⟨_, rfl⟩
  rw [hW] at hA hZ hB hS
  have HW := hid hW
  have HA := hid hA
  have HZ := hid hZ
  have HB := hid hB
  have HS := hid hS
  have hz : w.heap.size + 1 < W.heap.size := by omega
  have HN := hid (hn.keep (Keeps.below hB))
  have HV0 := hid hv
  have HV := hid (row_below hv hB)
  have HF := hid hf
  have hle := hf.le
  have hle2 : ns.length ≤ 50000 := by have := hf.len; omega
  obtain ⟨p0, p1, p2⟩ : W.cell? ⟨w.heap.size, 0, none⟩ = some (.slice on ns.length cn) ∧ W.cell? ⟨w.heap.size, 1, none⟩ = some (.int .i64 limit) ∧ W.cell? ⟨w.heap.size, 2, none⟩ = some (.slice ov st.length cv) := by
    refine ⟨?_, ?_, ?_⟩ <;> (rw [cells_in HA.out]; rfl)
  obtain ⟨z0, z1, z2⟩ : W.cell? ⟨w.heap.size + 1, 0, none⟩ = some (.slice none 0 0) ∧ W.cell? ⟨w.heap.size + 1, 1, none⟩ = some (.int .i64 0) ∧ W.cell? ⟨w.heap.size + 1, 2, none⟩ = some (.slice none 0 0) := by
    refine ⟨?_, ?_, ?_⟩ <;> (rw [cells_in HZ.out]; rfl)
  have zf := fun o => frozen_in HZ.out o
  clear hn hW hA hZ hB hS hv hf
  obtain ⟨g1, o1, c1, e1, hc1⟩ := HV.out.view.at hnl
  cases e1
  rw [hs2] at hc1
  have hn0 : (0 : Int) ≤ (n : Int) := by omega
  have hn1 : (n : Int) < (st.length : Int) := by omega
  have hdn : decide ((n : Int) < 0) = false := decide_eq_false (by omega)
  have hdl : decide (st.length ≤ n) = false := decide_eq_false (by omega)
  have hcx : ((w.alloc (.cells #[.slice on ns.length cn, .int .i64 limit, .slice (some ⟨g1, o1, none⟩) st.length cv] 33)).alloc (.cells #[.slice none 0 0, .int .i64 0, .slice none 0 0] 33)).cell? ⟨g1, o1 + n, none⟩ = some (.int .i64 1) := by rw [HW.out]; exact hc1
  clear hs hs2
  go_enter Try.func50, Try.ntmps50
  go_wp2_with fail
  rw [HW.out]
  clear hcx
  refine (with_any W (.slice on ns.length cn) (.slice (some ⟨g1, o1, none⟩) st.length cv) limit ns st n c HN.out HV.out.view (by omega) hnl).mono ?_
  rintro e w2 ⟨vs', rfl, hr2, hg2, hb2⟩
  obtain ⟨o2, c2, rfl⟩ := row_len hr2
  rw [List.length_set] at hr2 hg2
  rw [List.length_set]
  have HR2 := hid hr2
  have HG2 := hid hg2
  have HB2 := hid hb2
  have HZ2 := hid ((hb2.block (w.heap.size + 1) hz).trans HZ.out)
  have HBW := hid (HB.out.trans (hb2.mono HB.out.size))
  clear hr2 hg2 hb2 p0 p1 p2 z0 z1 z2 zf hc1
  obtain ⟨z0, z1, z2⟩ : w2.cell? ⟨w.heap.size + 1, 0, none⟩ = some (.slice none 0 0) ∧ w2.cell? ⟨w.heap.size + 1, 1, none⟩ = some (.int .i64 0) ∧ w2.cell? ⟨w.heap.size + 1, 2, none⟩ = some (.slice none 0 0) := by
    refine ⟨?_, ?_, ?_⟩ <;> (rw [cells_in HZ2.out]; rfl)
  have zf := fun o => frozen_in HZ2.out o
  go_wp2_with fail
  have h3 := three_set (w := w2) HZ2.out (.slice on ns.length cn) (.int .i64 limit) (.slice o2 st.length c2)
  have b3 := three_below (w := w2) HBW.out (r := w.heap.size + 1) (by omega) (.slice on ns.length cn) (.int .i64 limit) (.slice o2 st.length c2)
  have k3 := three_chg (w2) (w.heap.size + 1) (.slice on ns.length cn) (.int .i64 limit) (.slice o2 st.length c2)
  have r3 := Row.chg (HR2.out) k3 (fun g hg e => by have := HG2.out g hg; omega)
  generalize (((w2).setCell ⟨w.heap.size + 1, 0, none⟩ (.slice on ns.length cn)).setCell ⟨w.heap.size + 1, 1, none⟩ (.int .i64 limit)).setCell ⟨w.heap.size + 1, 2, none⟩ (.slice o2 st.length c2) = W3 at *
  have d0 := cells_in h3 0
  have d1 := cells_in h3 1
  have d2 := cells_in h3 2
  simp at d0 d1 d2
  have hp : RPost (.slice on ns.length cn) (.slice (some ⟨g1, o1, none⟩) st.length cv) limit 0 (st.set n c) w (.returned (.tuple #[.agg #[.slice on ns.length cn, .int .i64 limit, .slice o2 st.length c2], .int .i64 0])) W3 := ⟨_, rfl, r3, .inr fun g hg => by have := HG2.out g hg; omega, b3⟩
  have HP := hid hp
  clear hp h3 b3 k3 r3
  refine bodyPost_ret (v := .tuple #[.agg #[.slice on ns.length cn, .int .i64 limit, .slice o2 st.length c2], .int .i64 0]) (by simp [results, Try.results50, go_sem, d0, d1, d2]) rfl ?_
  exact HP.out

theorem rdR_length (ns : List (List Int)) (limit : Int) (st : List Int) : (rdR ns limit st).length ≤ st.length := by
  unfold rdR; split
  · exact Nat.zero_le _
  · exact frL_length _ _ _

set_option maxRecDepth 100000 in
set_option maxHeartbeats 4000000 in
theorem rbegin_state (w : World) (vn vs : Value) (limit : Int) (ns : List (List Int)) (st : List Int) (x : Int) (hx0 : 0 ≤ x) (hx1 : x < (st.length : Int)) (hs : (rdR ns limit st).contains x = false) (hn : NView w vn ns) (hv : Row w vs st) (hf : Fit ns st) :
    Calls Try.prog 24 #[.agg #[vn, .int .i64 limit, vs], .int .i64 x] w (RPost vn vs limit 38 st w) := by
  obtain ⟨on, cn, rfl⟩ := hn.len
  obtain ⟨ov, cv, rfl⟩ := row_len hv
  obtain ⟨n, rfl⟩ : ∃ n : Nat, x = n := ⟨x.toNat, by omega⟩
  have hnl : n < st.length := by omega
  obtain ⟨hA, hZ, hB, hS⟩ := two_new w (.slice on ns.length cn) (.int .i64 limit) (.slice ov st.length cv) (.slice none 0 0) (.int .i64 0) (.slice none 0 0)
  obtain ⟨W, hW⟩ : ∃ W, (w.alloc (.cells #[.slice on ns.length cn, .int .i64 limit, .slice ov st.length cv] 33)).alloc (.cells #[.slice none 0 0, .int .i64 0, .slice none 0 0] 33) = W := ⟨_, rfl⟩
  rw [hW] at hA hZ hB hS
  have HW := hid hW
  have HA := hid hA
  have HZ := hid hZ
  have HB := hid hB
  have HS := hid hS
  have hz : w.heap.size + 1 < W.heap.size := by omega
  have HN := hid (hn.keep (Keeps.below hB))
  have HV0 := hid hv
  have HV := hid (row_below hv hB)
  have HF := hid hf
  have hle := hf.le
  have hle2 : ns.length ≤ 50000 := by have := hf.len; omega
  obtain ⟨p0, p1, p2⟩ : W.cell? ⟨w.heap.size, 0, none⟩ = some (.slice on ns.length cn) ∧ W.cell? ⟨w.heap.size, 1, none⟩ = some (.int .i64 limit) ∧ W.cell? ⟨w.heap.size, 2, none⟩ = some (.slice ov st.length cv) := by
    refine ⟨?_, ?_, ?_⟩ <;> (rw [cells_in HA.out]; rfl)
  obtain ⟨z0, z1, z2⟩ : W.cell? ⟨w.heap.size + 1, 0, none⟩ = some (.slice none 0 0) ∧ W.cell? ⟨w.heap.size + 1, 1, none⟩ = some (.int .i64 0) ∧ W.cell? ⟨w.heap.size + 1, 2, none⟩ = some (.slice none 0 0) := by
    refine ⟨?_, ?_, ?_⟩ <;> (rw [cells_in HZ.out]; rfl)
  have zf := fun o => frozen_in HZ.out o
  clear hn hW hA hZ hB hS hv hf
  have hn0 : (0 : Int) ≤ (n : Int) := by omega
  have hn1 : (n : Int) < (st.length : Int) := by omega
  have hdn : decide ((n : Int) < 0) = false := decide_eq_false (by omega)
  have hdl : decide (st.length ≤ n) = false := decide_eq_false (by omega)
  have HSS := hid hs
  have hrl := rdR_length ns limit st
  clear hs
  go_enter Try.func24, Try.ntmps24
  go_wp2_with fail
  rw [HW.out]
  refine (rready_any W (.slice on ns.length cn) (.slice ov st.length cv) limit ns st HN.out HV.out.view HF.out).mono ?_
  rintro e w2 ⟨v2, rfl, hr2, hg2, hb2⟩
  obtain ⟨o2, c2, rfl⟩ := row_len hr2
  have HR2 := hid hr2
  have HB2 := hid hb2
  have HA2 := hid ((hb2.block w.heap.size (by omega)).trans HA.out)
  have HZ2 := hid ((hb2.block (w.heap.size + 1) hz).trans HZ.out)
  have HBW := hid (HB.out.trans (hb2.mono HB.out.size))
  have HV2 := hid (row_below HV.out hb2)
  have HN2 := hid (HN.out.keep (Keeps.below hb2))
  clear hr2 hg2 hb2 p0 p1 p2 z0 z1 z2 zf
  obtain ⟨p0, p1, p2⟩ : w2.cell? ⟨w.heap.size, 0, none⟩ = some (.slice on ns.length cn) ∧ w2.cell? ⟨w.heap.size, 1, none⟩ = some (.int .i64 limit) ∧ w2.cell? ⟨w.heap.size, 2, none⟩ = some (.slice ov st.length cv) := by
    refine ⟨?_, ?_, ?_⟩ <;> (rw [cells_in HA2.out]; rfl)
  obtain ⟨z0, z1, z2⟩ : w2.cell? ⟨w.heap.size + 1, 0, none⟩ = some (.slice none 0 0) ∧ w2.cell? ⟨w.heap.size + 1, 1, none⟩ = some (.int .i64 0) ∧ w2.cell? ⟨w.heap.size + 1, 2, none⟩ = some (.slice none 0 0) := by
    refine ⟨?_, ?_, ?_⟩ <;> (rw [cells_in HZ2.out]; rfl)
  have zf := fun o => frozen_in HZ2.out o
  have hz2 : w.heap.size + 1 < w2.heap.size := (Array.getElem?_eq_some_iff.1 HZ2.out).1
  generalize hL : (rdR ns limit st).length = ll at *
  have HLL := hid hL
  clear hL
  go_wp2_with fail
  have hhas := rhas_any w2 (.slice o2 ll c2) (rdR ns limit st) n HR2.out.view (by rw [HLL.out]; omega)
  rw [HSS.out] at hhas
  refine hhas.mono ?_
  rintro e w' ⟨rfl, rfl⟩
  clear hhas
  go_wp2_with fail
  have h3 := three_set (w := w2) HZ2.out (.slice on ns.length cn) (.int .i64 limit) (.slice ov st.length cv)
  have b3 := three_below (w := w2) HBW.out (r := w.heap.size + 1) (by omega) (.slice on ns.length cn) (.int .i64 limit) (.slice ov st.length cv)
  have k3 := three_chg (w2) (w.heap.size + 1) (.slice on ns.length cn) (.int .i64 limit) (.slice ov st.length cv)
  have r3 := Row.chg (HV2.out) k3 (row_ne HV0.out (by omega))
  generalize (((w2).setCell ⟨w.heap.size + 1, 0, none⟩ (.slice on ns.length cn)).setCell ⟨w.heap.size + 1, 1, none⟩ (.int .i64 limit)).setCell ⟨w.heap.size + 1, 2, none⟩ (.slice ov st.length cv) = W3 at *
  have d0 := cells_in h3 0
  have d1 := cells_in h3 1
  have d2 := cells_in h3 2
  simp at d0 d1 d2
  have hp : RPost (.slice on ns.length cn) (.slice ov st.length cv) limit 38 st w (.returned (.tuple #[.agg #[.slice on ns.length cn, .int .i64 limit, .slice ov st.length cv], .int .i64 38])) W3 := ⟨_, rfl, r3, .inl rfl, b3⟩
  have HP := hid hp
  clear hp h3 b3 k3 r3
  refine bodyPost_ret (v := .tuple #[.agg #[.slice on ns.length cn, .int .i64 limit, .slice ov st.length cv], .int .i64 38]) (by simp [results, Try.results24, go_sem, d0, d1, d2]) rfl ?_
  exact HP.out

set_option maxRecDepth 100000 in
set_option maxHeartbeats 4000000 in
theorem rbegin_ok (w : World) (vn vs : Value) (limit : Int) (ns : List (List Int)) (st : List Int) (x : Int) (hx0 : 0 ≤ x) (hx1 : x < (st.length : Int)) (hs : (rdR ns limit st).contains x = true) (hn : NView w vn ns) (hv : Row w vs st) (hf : Fit ns st) :
    Calls Try.prog 24 #[.agg #[vn, .int .i64 limit, vs], .int .i64 x] w (RPost vn vs limit 0 (st.set x.toNat 1) w) := by
  obtain ⟨on, cn, rfl⟩ := hn.len
  obtain ⟨ov, cv, rfl⟩ := row_len hv
  obtain ⟨n, rfl⟩ : ∃ n : Nat, x = n := ⟨x.toNat, by omega⟩
  have hnl : n < st.length := by omega
  rw [Int.toNat_natCast]
  obtain ⟨hA, hZ, hB, hS⟩ := two_new w (.slice on ns.length cn) (.int .i64 limit) (.slice ov st.length cv) (.slice none 0 0) (.int .i64 0) (.slice none 0 0)
  obtain ⟨W, hW⟩ : ∃ W, (w.alloc (.cells #[.slice on ns.length cn, .int .i64 limit, .slice ov st.length cv] 33)).alloc (.cells #[.slice none 0 0, .int .i64 0, .slice none 0 0] 33) = W := ⟨_, rfl⟩
  rw [hW] at hA hZ hB hS
  have HW := hid hW
  have HA := hid hA
  have HZ := hid hZ
  have HB := hid hB
  have HS := hid hS
  have hz : w.heap.size + 1 < W.heap.size := by omega
  have HN := hid (hn.keep (Keeps.below hB))
  have HV0 := hid hv
  have HV := hid (row_below hv hB)
  have HF := hid hf
  have hle := hf.le
  have hle2 : ns.length ≤ 50000 := by have := hf.len; omega
  obtain ⟨p0, p1, p2⟩ : W.cell? ⟨w.heap.size, 0, none⟩ = some (.slice on ns.length cn) ∧ W.cell? ⟨w.heap.size, 1, none⟩ = some (.int .i64 limit) ∧ W.cell? ⟨w.heap.size, 2, none⟩ = some (.slice ov st.length cv) := by
    refine ⟨?_, ?_, ?_⟩ <;> (rw [cells_in HA.out]; rfl)
  obtain ⟨z0, z1, z2⟩ : W.cell? ⟨w.heap.size + 1, 0, none⟩ = some (.slice none 0 0) ∧ W.cell? ⟨w.heap.size + 1, 1, none⟩ = some (.int .i64 0) ∧ W.cell? ⟨w.heap.size + 1, 2, none⟩ = some (.slice none 0 0) := by
    refine ⟨?_, ?_, ?_⟩ <;> (rw [cells_in HZ.out]; rfl)
  have zf := fun o => frozen_in HZ.out o
  clear hn hW hA hZ hB hS hv hf
  have hn0 : (0 : Int) ≤ (n : Int) := by omega
  have hn1 : (n : Int) < (st.length : Int) := by omega
  have hdn : decide ((n : Int) < 0) = false := decide_eq_false (by omega)
  have hdl : decide (st.length ≤ n) = false := decide_eq_false (by omega)
  have HSS := hid hs
  have hrl := rdR_length ns limit st
  clear hs
  go_enter Try.func24, Try.ntmps24
  go_wp2_with fail
  rw [HW.out]
  refine (rready_any W (.slice on ns.length cn) (.slice ov st.length cv) limit ns st HN.out HV.out.view HF.out).mono ?_
  rintro e w2 ⟨v2, rfl, hr2, hg2, hb2⟩
  obtain ⟨o2, c2, rfl⟩ := row_len hr2
  have HR2 := hid hr2
  have HB2 := hid hb2
  have HA2 := hid ((hb2.block w.heap.size (by omega)).trans HA.out)
  have HZ2 := hid ((hb2.block (w.heap.size + 1) hz).trans HZ.out)
  have HBW := hid (HB.out.trans (hb2.mono HB.out.size))
  have HV2 := hid (row_below HV.out hb2)
  have HN2 := hid (HN.out.keep (Keeps.below hb2))
  clear hr2 hg2 hb2 p0 p1 p2 z0 z1 z2 zf
  obtain ⟨p0, p1, p2⟩ : w2.cell? ⟨w.heap.size, 0, none⟩ = some (.slice on ns.length cn) ∧ w2.cell? ⟨w.heap.size, 1, none⟩ = some (.int .i64 limit) ∧ w2.cell? ⟨w.heap.size, 2, none⟩ = some (.slice ov st.length cv) := by
    refine ⟨?_, ?_, ?_⟩ <;> (rw [cells_in HA2.out]; rfl)
  obtain ⟨z0, z1, z2⟩ : w2.cell? ⟨w.heap.size + 1, 0, none⟩ = some (.slice none 0 0) ∧ w2.cell? ⟨w.heap.size + 1, 1, none⟩ = some (.int .i64 0) ∧ w2.cell? ⟨w.heap.size + 1, 2, none⟩ = some (.slice none 0 0) := by
    refine ⟨?_, ?_, ?_⟩ <;> (rw [cells_in HZ2.out]; rfl)
  have zf := fun o => frozen_in HZ2.out o
  have hz2 : w.heap.size + 1 < w2.heap.size := (Array.getElem?_eq_some_iff.1 HZ2.out).1
  generalize hL : (rdR ns limit st).length = ll at *
  have HLL := hid hL
  clear hL
  go_wp2_with fail
  have hhas := rhas_any w2 (.slice o2 ll c2) (rdR ns limit st) n HR2.out.view (by rw [HLL.out]; omega)
  rw [HSS.out] at hhas
  refine hhas.mono ?_
  rintro e w' ⟨rfl, rfl⟩
  clear hhas
  go_wp2_with fail
  refine (with_any w2 (.slice on ns.length cn) (.slice ov st.length cv) limit ns st n 1 HN2.out HV2.out.view (by omega) hnl).mono ?_
  rintro e w3 ⟨vs', rfl, hr3, hg3, hb3⟩
  obtain ⟨o3, c3, rfl⟩ := row_len hr3
  rw [List.length_set] at hr3 hg3
  rw [List.length_set]
  have HR3 := hid hr3
  have HG3 := hid hg3
  have HZ3 := hid ((hb3.block (w.heap.size + 1) hz2).trans HZ2.out)
  have HBX := hid (HBW.out.trans (hb3.mono HBW.out.size))
  clear hr3 hg3 hb3 p0 p1 p2 z0 z1 z2 zf
  obtain ⟨z0, z1, z2⟩ : w3.cell? ⟨w.heap.size + 1, 0, none⟩ = some (.slice none 0 0) ∧ w3.cell? ⟨w.heap.size + 1, 1, none⟩ = some (.int .i64 0) ∧ w3.cell? ⟨w.heap.size + 1, 2, none⟩ = some (.slice none 0 0) := by
    refine ⟨?_, ?_, ?_⟩ <;> (rw [cells_in HZ3.out]; rfl)
  have zf := fun o => frozen_in HZ3.out o
  go_wp2_with fail
  have h3 := three_set (w := w3) HZ3.out (.slice on ns.length cn) (.int .i64 limit) (.slice o3 st.length c3)
  have b3 := three_below (w := w3) HBX.out (r := w.heap.size + 1) (by omega) (.slice on ns.length cn) (.int .i64 limit) (.slice o3 st.length c3)
  have k3 := three_chg (w3) (w.heap.size + 1) (.slice on ns.length cn) (.int .i64 limit) (.slice o3 st.length c3)
  have r3 := Row.chg (HR3.out) k3 (fun g hg e => by have := HG3.out g hg; omega)
  generalize (((w3).setCell ⟨w.heap.size + 1, 0, none⟩ (.slice on ns.length cn)).setCell ⟨w.heap.size + 1, 1, none⟩ (.int .i64 limit)).setCell ⟨w.heap.size + 1, 2, none⟩ (.slice o3 st.length c3) = W3 at *
  have d0 := cells_in h3 0
  have d1 := cells_in h3 1
  have d2 := cells_in h3 2
  simp at d0 d1 d2
  have hp : RPost (.slice on ns.length cn) (.slice ov st.length cv) limit 0 (st.set n 1) w (.returned (.tuple #[.agg #[.slice on ns.length cn, .int .i64 limit, .slice o3 st.length c3], .int .i64 0])) W3 := ⟨_, rfl, r3, .inr fun g hg => by have := HG3.out g hg; have := HBW.out.size; omega, b3⟩
  have HP := hid hp
  clear hp h3 b3 k3 r3
  refine bodyPost_ret (v := .tuple #[.agg #[.slice on ns.length cn, .int .i64 limit, .slice o3 st.length c3], .int .i64 0]) (by simp [results, Try.results24, go_sem, d0, d1, d2]) rfl ?_
  exact HP.out

theorem rbegin_any (w : World) (vn vs : Value) (limit : Int) (ns : List (List Int)) (st : List Int) (x : Int) (hn : NView w vn ns) (hv : Row w vs st) (hf : Fit ns st) :
    Calls Try.prog 24 #[.agg #[vn, .int .i64 limit, vs], .int .i64 x] w (RPost vn vs limit (begR ns limit st x).1 (begR ns limit st x).2 w) := by
  unfold begR
  by_cases hx : 0 ≤ x ∧ x < st.length
  · rw [if_pos hx]
    cases hc : (rdR ns limit st).contains x with
    | true => exact rbegin_ok w vn vs limit ns st x hx.1 hx.2 hc hn hv hf
    | false => exact rbegin_state w vn vs limit ns st x hx.1 hx.2 hc hn hv hf
  · rw [if_neg hx]
    by_cases h0 : x < 0
    · exact rbegin_low w vn vs limit ns st x hn hv h0
    · exact rbegin_high w vn vs limit ns st x hn hv (by omega)
theorem rend_any (w : World) (vn vs : Value) (limit : Int) (ns : List (List Int)) (st : List Int) (x c : Int) (hn : NView w vn ns) (hv : Row w vs st) (hf : Fit ns st) :
    Calls Try.prog 50 #[.agg #[vn, .int .i64 limit, vs], .int .i64 x, .int .i64 c] w (RPost vn vs limit (endR st x c).1 (endR st x c).2 w) := by
  unfold endR
  by_cases hx : 0 ≤ x ∧ x < st.length
  · rw [if_pos hx]
    by_cases hc : st.getD x.toNat 0 = 1
    · rw [if_pos hc]; exact rend_ok w vn vs limit ns st x c hx.1 hx.2 hc hn hv hf
    · rw [if_neg hc]; exact rend_state w vn vs limit ns st x c hx.1 hx.2 hc hn hv hf
  · rw [if_neg hx]
    by_cases h0 : x < 0
    · exact rend_low w vn vs limit ns st x c hn hv h0
    · exact rend_high w vn vs limit ns st x c hn hv (by omega)
end Go.Proofs.Ytoaellmjgejgfaa
