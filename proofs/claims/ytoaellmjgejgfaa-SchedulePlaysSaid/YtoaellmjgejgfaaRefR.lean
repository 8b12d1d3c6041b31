/- The reference's Finish, Done, Cancel. -/
import Derived.Test.YtoaellmjgejgfaaRefQ
namespace Go.Proofs.Ytoaellmjgejgfaa
open Go Go.RowKit Go.Shelf Go.Proofs.Ytoaellmjgejgfaa.Steady
set_option linter.unusedVariables false

theorem end_len (st : List Int) (x c : Int) : (endR st x c).2.length = st.length := by
  unfold endR
  split
  · split
    · exact List.length_set
    · rfl
  · rfl

set_option maxRecDepth 100000 in
set_option maxHeartbeats 4000000 in
theorem rfinish_any (w : World) (vn vs : Value) (limit : Int) (ns : List (List Int)) (st : List Int) (x : Int) (hn : NView w vn ns) (hv : Row w vs st) (hf : Fit ns st) :
    Calls Try.prog 25 #[.agg #[vn, .int .i64 limit, vs], .int .i64 x] w (RPost vn vs limit (endR st x 2).1 (endR st x 2).2 w) := by
  obtain ⟨on, cn, rfl⟩ := hn.len
  obtain ⟨ov, cv, rfl⟩ := row_len hv
  obtain ⟨hA, hZ, hB, hS⟩ := two_new w (.slice on ns.length cn) (.int .i64 limit) (.slice ov st.length cv) (.slice none 0 0) (.int .i64 0) (.slice none 0 0)
  obtain ⟨W, hW⟩ : ∃ W, (w.alloc (.cells #[.slice on ns.length cn, .int .i64 limit, .slice ov st.length cv] 33)).alloc (.cells #[.slice none 0 0, .int .i64 0, .slice none 0 0] 33) = W := ⟨_, rfl⟩
  rw [hW] at hA hZ hB hS
  have HW := hid hW
  have HA := hid hA
  have HZ := hid hZ
  have HB := hid hB
  have HS := hid hS
  have hz : w.heap.size + 1 < W.heap.size := by omega
  have HN := hid (hn.keep (Keeps.below hB))
  have HV0 := hid hv
  have HV := hid (row_below hv hB)
  have HF := hid hf
  have hle := hf.le
  have hle2 : ns.length ≤ 50000 := by have := hf.len; omega
  obtain ⟨p0, p1, p2⟩ : W.cell? ⟨w.heap.size, 0, none⟩ = some (.slice on ns.length cn) ∧ W.cell? ⟨w.heap.size, 1, none⟩ = some (.int .i64 limit) ∧ W.cell? ⟨w.heap.size, 2, none⟩ = some (.slice ov st.length cv) := by
    refine ⟨?_, ?_, ?_⟩ <;> (rw [cells_in HA.out]; rfl)
  obtain ⟨z0, z1, z2⟩ : W.cell? ⟨w.heap.size + 1, 0, none⟩ = some (.slice none 0 0) ∧ W.cell? ⟨w.heap.size + 1, 1, none⟩ = some (.int .i64 0) ∧ W.cell? ⟨w.heap.size + 1, 2, none⟩ = some (.slice none 0 0) := by
    refine ⟨?_, ?_, ?_⟩ <;> (rw [cells_in HZ.out]; rfl)
  have zf := fun o => frozen_in HZ.out o
  clear hn hW hA hZ hB hS hv hf
  have hel := end_len st x 2
  obtain ⟨cd, hcd⟩ : ∃ cd, (endR st x 2).1 = cd := ⟨_, rfl⟩
  obtain ⟨st', hst⟩ : ∃ st', (endR st x 2).2 = st' := ⟨_, rfl⟩
  have hc := rend_any W (.slice on ns.length cn) (.slice ov st.length cv) limit ns st x 2 HN.out HV.out HF.out
  rw [hst] at hel
  rw [hcd, hst] at hc
  rw [hcd, hst]
  have HC := hid hc
  have HEL := hid hel
  clear hcd hst hc hel
  go_enter Try.func25, Try.ntmps25
  go_wp2_with fail
  rw [HW.out]
  refine HC.out.mono ?_
  rintro e w2 ⟨vs', rfl, hr2, ho2, hb2⟩
  obtain ⟨o2, c2, rfl⟩ := row_len hr2
  have hw : ∀ g, (Value.slice o2 st'.length c2).ownBlock = some g → ¬ g = w.heap.size + 1 := fun g hg e => by
    rcases ho2 with h | h
    · rw [h] at hg; have := HV0.out.lt hg; omega
    · have := h g hg; have := HS.out; omega
  have hfr : (Value.slice o2 st'.length c2 = .slice ov st.length cv) ∨ ∀ g, (Value.slice o2 st'.length c2).ownBlock = some g → w.heap.size ≤ g := ho2.imp id fun h g hg => by have := h g hg; omega
  have HR2 := hid hr2
  have HWW := hid hw
  have HFR := hid hfr
  have HZ2 := hid ((hb2.block (w.heap.size + 1) hz).trans HZ.out)
  have HBW := hid (HB.out.trans (hb2.mono HB.out.size))
  clear hr2 ho2 hb2 hw hfr p0 p1 p2 z0 z1 z2 zf
  obtain ⟨z0, z1, z2⟩ : w2.cell? ⟨w.heap.size + 1, 0, none⟩ = some (.slice none 0 0) ∧ w2.cell? ⟨w.heap.size + 1, 1, none⟩ = some (.int .i64 0) ∧ w2.cell? ⟨w.heap.size + 1, 2, none⟩ = some (.slice none 0 0) := by
    refine ⟨?_, ?_, ?_⟩ <;> (rw [cells_in HZ2.out]; rfl)
  have zf := fun o => frozen_in HZ2.out o
  go_wp2_with fail
  have h3 := three_set (w := w2) HZ2.out (.slice on ns.length cn) (.int .i64 limit) (.slice o2 st'.length c2)
  have b3 := three_below (w := w2) HBW.out (r := w.heap.size + 1) (by omega) (.slice on ns.length cn) (.int .i64 limit) (.slice o2 st'.length c2)
  have k3 := three_chg (w2) (w.heap.size + 1) (.slice on ns.length cn) (.int .i64 limit) (.slice o2 st'.length c2)
  have r3 := Row.chg (HR2.out) k3 (HWW.out)
  generalize (((w2).setCell ⟨w.heap.size + 1, 0, none⟩ (.slice on ns.length cn)).setCell ⟨w.heap.size + 1, 1, none⟩ (.int .i64 limit)).setCell ⟨w.heap.size + 1, 2, none⟩ (.slice o2 st'.length c2) = W3 at *
  have d0 := cells_in h3 0
  have d1 := cells_in h3 1
  have d2 := cells_in h3 2
  simp at d0 d1 d2
  have hp : RPost (.slice on ns.length cn) (.slice ov st.length cv) limit cd st' w (.returned (.tuple #[.agg #[.slice on ns.length cn, .int .i64 limit, .slice o2 st'.length c2], .int .i64 cd])) W3 := ⟨_, rfl, r3, HFR.out, b3⟩
  have HP := hid hp
  clear hp h3 b3 k3 r3
  refine bodyPost_ret (v := .tuple #[.agg #[.slice on ns.length cn, .int .i64 limit, .slice o2 st'.length c2], .int .i64 cd]) (by simp [results, Try.results25, go_sem, d0, d1, d2]) rfl ?_
  exact HP.out

set_option maxRecDepth 100000 in
set_option maxHeartbeats 4000000 in
theorem rdone_any (w : World) (vn vs : Value) (limit : Int) (ns : List (List Int)) (st : List Int) (hn : NView w vn ns) (hv : Row w vs st) (hf : Fit ns st) :
    Calls Try.prog 31 #[.agg #[vn, .int .i64 limit, vs]] w fun e w' => e = .returned (.bool (decide ((inL st 0 st.length).length + (inL st 1 st.length).length = 0))) ∧ Below w.heap.size w w' := by
  obtain ⟨on, cn, rfl⟩ := hn.len
  obtain ⟨ov, cv, rfl⟩ := row_len hv
  obtain ⟨W, hW⟩ : ∃ W, w.alloc (.cells #[.slice on ns.length cn, .int .i64 limit, .slice ov st.length cv] 33) = W := ⟨_, rfl⟩
  have hA := heap_alloc_at w (.cells #[.slice on ns.length cn, .int .i64 limit, .slice ov st.length cv] 33)
  have hB := (Below.refl w.heap.size w).alloc (Nat.le_refl _) (.cells #[.slice on ns.length cn, .int .i64 limit, .slice ov st.length cv] 33)
  rw [hW] at hA hB
  have HW := hid hW
  have HA := hid hA
  have HB := hid hB
  have HN := hid (hn.keep (Keeps.below hB))
  have HV := hid (row_below hv hB)
  have HF := hid hf
  have hz : w.heap.size < W.heap.size := (Array.getElem?_eq_some_iff.1 hA).1
  have hle := hf.le
  have hle2 : ns.length ≤ 50000 := by have := hf.len; omega
  clear hn hv hW hA hB hf
  go_enter Try.func31, Try.ntmps31
  go_wp2_with fail
  rw [HW.out]
  obtain ⟨p0, p1, p2⟩ : W.cell? ⟨w.heap.size, 0, none⟩ = some (.slice on ns.length cn) ∧ W.cell? ⟨w.heap.size, 1, none⟩ = some (.int .i64 limit) ∧ W.cell? ⟨w.heap.size, 2, none⟩ = some (.slice ov st.length cv) := by
    refine ⟨?_, ?_, ?_⟩ <;> (rw [cells_in HA.out]; rfl)
  refine wp_region_steady (fun v => v.cell? ⟨w.heap.size, 0, none⟩ = some (.slice on ns.length cn) ∧ v.cell? ⟨w.heap.size, 1, none⟩ = some (.int .i64 limit) ∧ v.cell? ⟨w.heap.size, 2, none⟩ = some (.slice ov st.length cv)) (by kernel_rfl) (by kernel_rfl) (⟨p0, p1, p2⟩) ?_
  repeat (first
    | (refine wpSteady_skip (by rfl) ?_; try simp only [Act.put, List.setIfInBounds_toArray, List.set_cons_zero, List.set_cons_succ])
    | (refine wpSteady_calm (v := ?_) (by rfl) ?_ ?_; rotate_left; (focus (intro v hSv; (try dsimp only at hSv); go_simp; (try with_reducible rfl); done)); try simp only [Act.put, List.setIfInBounds_toArray, List.set_cons_zero, List.set_cons_succ]))
  refine wpSteady_loud rfl (by rfl) (fun K hK => ?_)
  go_simp
  refine (in_any W.drew _ _ limit ns st 0 (HN.out.keep fun g o u h => h) (HV.out.view.keep fun g o u h => h) (by omega)).mono ?_
  rintro e w2 ⟨v2, rfl, hr2, _, hb2⟩
  obtain ⟨o2, c2, rfl⟩ := row_len hr2
  have HBW2 : Hid (Below W.heap.size W w2) := hid ⟨hb2.os, hb2.tape, hb2.output, hb2.size, hb2.block⟩
  have HA2 := hid ((hb2.block w.heap.size hz).trans HA.out)
  obtain ⟨q0, q1, q2⟩ : w2.cell? ⟨w.heap.size, 0, none⟩ = some (.slice on ns.length cn) ∧ w2.cell? ⟨w.heap.size, 1, none⟩ = some (.int .i64 limit) ∧ w2.cell? ⟨w.heap.size, 2, none⟩ = some (.slice ov st.length cv) := by
    refine ⟨?_, ?_, ?_⟩ <;> (rw [cells_in HA2.out]; rfl)
  have hz2 : w.heap.size < w2.heap.size := Nat.lt_of_lt_of_le hz hb2.size
  have hl0 := inL_length st 0 st.length
  clear hr2 hb2 p0 p1 p2
  refine hK.out _ _ (⟨q0, q1, q2⟩) ?_
  clear hK K
  try simp only [Act.put, List.setIfInBounds_toArray, List.set_cons_zero, List.set_cons_succ]
  repeat (first
    | (refine wpSteady_skip (by rfl) ?_; try simp only [Act.put, List.setIfInBounds_toArray, List.set_cons_zero, List.set_cons_succ])
    | (refine wpSteady_calm (v := ?_) (by rfl) ?_ ?_; rotate_left; (focus (intro v hSv; (try dsimp only at hSv); go_simp; (try with_reducible rfl); done)); try simp only [Act.put, List.setIfInBounds_toArray, List.set_cons_zero, List.set_cons_succ]))
  refine wpSteady_loud rfl (by rfl) (fun K hK => ?_)
  go_simp
  refine (in_any w2 _ _ limit ns st 1 (HN.out.keep (Keeps.below HBW2.out)) (HV.out.view.keep (Keeps.below HBW2.out)) (by omega)).mono ?_
  rintro e w3 ⟨v3, rfl, hr3, _, hb3⟩
  obtain ⟨o3, c3, rfl⟩ := row_len hr3
  have HA3 := hid ((hb3.block w.heap.size hz2).trans HA2.out)
  have HBW3 := hid (HB.out.trans ((HBW2.out.trans (hb3.mono HBW2.out.size)).mono HB.out.size))
  obtain ⟨r0, r1, r2⟩ : w3.cell? ⟨w.heap.size, 0, none⟩ = some (.slice on ns.length cn) ∧ w3.cell? ⟨w.heap.size, 1, none⟩ = some (.int .i64 limit) ∧ w3.cell? ⟨w.heap.size, 2, none⟩ = some (.slice ov st.length cv) := by
    refine ⟨?_, ?_, ?_⟩ <;> (rw [cells_in HA3.out]; rfl)
  have hl1 := inL_length st 1 st.length
  clear hr3 hb3 q0 q1 q2
  refine hK.out _ _ (⟨r0, r1, r2⟩) ?_
  clear hK K
  try simp only [Act.put, List.setIfInBounds_toArray, List.set_cons_zero, List.set_cons_succ]
  generalize hla : (inL st 0 st.length).length = a at *
  generalize hlb : (inL st 1 st.length).length = b at *
  have HLA := hid hla
  have HLB := hid hlb
  clear hla hlb
  have hs0 : IntKind.i64.wrap ((a : Int) + (b : Int)) = ((a + b : Nat) : Int) := by rw [IntWalk.i64_in _ (by omega)]; omega
  repeat (first
    | (refine wpSteady_skip (by rfl) ?_; try simp only [Act.put, List.setIfInBounds_toArray, List.set_cons_zero, List.set_cons_succ])
    | (refine wpSteady_calm (v := ?_) (by rfl) ?_ ?_; rotate_left; (focus (intro v hSv; (try dsimp only at hSv); go_simp; (try with_reducible rfl); done)); try simp only [Act.put, List.setIfInBounds_toArray, List.set_cons_zero, List.set_cons_succ]))
  refine wpSteady_nil ?_
  go_wp2_with fail
  go_ret
  refine ⟨?_, HBW3.out⟩
  show Ending.returned (.bool ((a : Int) + (b : Int) == 0)) = _
  have e : ((a : Int) + (b : Int) == 0) = decide (a + b = 0) := by rw [Bool.eq_iff_iff]; simp; omega
  rw [e, HLA.out, HLB.out]

/-- Two results: a Scheduler and a list. -/
def CPost (vn vs : Value) (limit : Int) (st' l : List Int) (w : World) (e : Ending) (w' : World) : Prop :=
  ∃ vs' vl, e = .returned (.tuple #[.agg #[vn, .int .i64 limit, vs'], vl]) ∧ Row w' vs' st' ∧ (vs' = vs ∨ ∀ g, vs'.ownBlock = some g → w.heap.size ≤ g) ∧ Row w' vl l ∧ (∀ g, vl.ownBlock = some g → w.heap.size ≤ g) ∧ Below w.heap.size w w'

/-- What Cancel's loop keeps. -/
structure CRel (w : World) (vn vs vl : Value) (limit : Int) (l st' : List Int) (wr : World) (vs' : Value) : Prop where
  below : Below w.heap.size w wr
  box : wr.heap[w.heap.size]? = some (.cells #[vn, .int .i64 limit, vs'] 33)
  res : wr.heap[w.heap.size + 1]? = some (.cells #[.slice none 0 0, .int .i64 0, .slice none 0 0] 33)
  row : Row wr vs' st'
  own : vs' = vs ∨ ∀ g, vs'.ownBlock = some g → w.heap.size + 2 ≤ g
  lrow : Row wr vl l
  lown : ∀ g, vl.ownBlock = some g → w.heap.size + 2 ≤ g

theorem CRel.next {w : World} {vn vs vl : Value} {limit : Int} {l st' st2 : List Int} {wr w3 : World} {vs' vs2 : Value} (h : CRel w vn vs vl limit l st' wr vs') (hr : Row w3 vs2 st2) (hg : ∀ g, vs2.ownBlock = some g → wr.heap.size ≤ g) (hb : Below wr.heap.size wr w3) :
    CRel w vn vs vl limit l st2 (((w3.setCell ⟨w.heap.size, 0, none⟩ vn).setCell ⟨w.heap.size, 1, none⟩ (.int .i64 limit)).setCell ⟨w.heap.size, 2, none⟩ vs2) vs2 := by
  have h0 : w.heap.size < wr.heap.size := (Array.getElem?_eq_some_iff.1 h.box).1
  have h1 : w.heap.size + 1 < wr.heap.size := (Array.getElem?_eq_some_iff.1 h.res).1
  have b3 := (hb.block _ h0).trans h.box
  have z3 := (hb.block _ h1).trans h.res
  have k3 := three_chg w3 w.heap.size vn (.int .i64 limit) vs2
  have hbw : Below w.heap.size w w3 := h.below.trans (hb.mono h.below.size)
  refine ⟨three_below hbw (Nat.le_refl _) _ _ _, three_set b3 _ _ _, (k3.block _ (Array.getElem?_eq_some_iff.1 z3).1 (by omega)).trans z3, Row.chg hr k3 fun g hg' e => ?_, .inr fun g hg' => ?_, Row.chg (row_below h.lrow hb) k3 fun g hg' e => ?_, h.lown⟩
  · have := hg g hg'; omega
  · have := hg g hg'; omega
  · have := h.lown g hg'; omega

set_option maxRecDepth 100000 in
set_option maxHeartbeats 4000000 in
theorem rcancel_any (w : World) (vn vs : Value) (limit : Int) (ns : List (List Int)) (st : List Int) (hn : NView w vn ns) (hv : Row w vs st) (hf : Fit ns st) :
    Calls Try.prog 27 #[.agg #[vn, .int .i64 limit, vs]] w (CPost vn vs limit ((inL st 0 st.length).foldl canS st) (inL st 0 st.length) w) := by
  obtain ⟨on, cn, rfl⟩ := hn.len
  obtain ⟨ov, cv, rfl⟩ := row_len hv
  obtain ⟨hA, hZ, hB, hS⟩ := two_new w (.slice on ns.length cn) (.int .i64 limit) (.slice ov st.length cv) (.slice none 0 0) (.int .i64 0) (.slice none 0 0)
  obtain ⟨W, hW⟩ : ∃ W, (w.alloc (.cells #[.slice on ns.length cn, .int .i64 limit, .slice ov st.length cv] 33)).alloc (.cells #[.slice none 0 0, .int .i64 0, .slice none 0 0] 33) = W := ⟨_, rfl⟩
  rw [hW] at hA hZ hB hS
  have HW := hid hW
  have HA := hid hA
  have HZ := hid hZ
  have HB := hid hB
  have HS := hid hS
  have hz : w.heap.size + 1 < W.heap.size := by omega
  have HN0 := hid hn
  have HN := hid (hn.keep (Keeps.below hB))
  have HV0 := hid hv
  have HV := hid (row_below hv hB)
  have HF := hid hf
  have hle := hf.le
  have hle2 : ns.length ≤ 50000 := by have := hf.len; omega
  obtain ⟨p0, p1, p2⟩ : W.cell? ⟨w.heap.size, 0, none⟩ = some (.slice on ns.length cn) ∧ W.cell? ⟨w.heap.size, 1, none⟩ = some (.int .i64 limit) ∧ W.cell? ⟨w.heap.size, 2, none⟩ = some (.slice ov st.length cv) := by
    refine ⟨?_, ?_, ?_⟩ <;> (rw [cells_in HA.out]; rfl)
  obtain ⟨z0, z1, z2⟩ : W.cell? ⟨w.heap.size + 1, 0, none⟩ = some (.slice none 0 0) ∧ W.cell? ⟨w.heap.size + 1, 1, none⟩ = some (.int .i64 0) ∧ W.cell? ⟨w.heap.size + 1, 2, none⟩ = some (.slice none 0 0) := by
    refine ⟨?_, ?_, ?_⟩ <;> (rw [cells_in HZ.out]; rfl)
  have zf := fun o => frozen_in HZ.out o
  clear hn hW hA hZ hB hS hv hf
  clear z0 z1 z2 zf
  go_enter Try.func27, Try.ntmps27
  go_wp2_with fail
  rw [HW.out]
  refine (in_any W (.slice on ns.length cn) (.slice ov st.length cv) limit ns st 0 HN.out HV.out.view (by omega)).mono ?_
  rintro e w2 ⟨v2, rfl, hr2, hg2, hb2⟩
  obtain ⟨o2, c2, rfl⟩ := row_len hr2
  have hrel0 : CRel w (.slice on ns.length cn) (.slice ov st.length cv) (.slice o2 (inL st 0 st.length).length c2) limit (inL st 0 st.length) st w2 (.slice ov st.length cv) :=
    ⟨HB.out.trans (hb2.mono HB.out.size), (hb2.block _ (by omega)).trans HA.out, (hb2.block _ hz).trans HZ.out, row_below HV.out hb2, .inl rfl, hr2, fun g hg => by have := hg2 g hg; have := HS.out; omega⟩
  have HR0 := hid hrel0
  have hlr : ∀ y ∈ inL st 0 st.length, 0 ≤ y ∧ y < st.length := fun y hy => by have := mem_inL.1 hy; exact ⟨this.1, this.2.1⟩
  have HLR := hid hlr
  have hll := inL_length st 0 st.length
  obtain ⟨l, hl⟩ : ∃ l, inL st 0 st.length = l := ⟨_, rfl⟩
  rw [hl] at HR0 HLR hll
  rw [hl]
  have HLQ := hid hl
  clear hrel0 hr2 hg2 hb2 p0 p1 p2 hlr hl
  go_wp2_with fail
  go_loopw [5] (fun i wr => ∃ (k : Nat) (vs' : Value), k ≤ l.length ∧ i = .int .i64 k ∧ Hid (CRel w (.slice on ns.length cn) (.slice ov st.length cv) (.slice o2 l.length c2) limit l ((l.take k).foldl canS st) wr vs')) (fun i _ => l.length - (intOf i).toNat)
  case atStart => exact ⟨0, _, Nat.zero_le _, rfl, HR0⟩
  case round =>
    obtain ⟨k, vs', hk, rfl, R⟩ := hrel
    clear HR0
    have hcl := canS_len (l.take k) st
    have hkk := canS_snoc st l k
    obtain ⟨stk, hstk⟩ : ∃ stk, (l.take k).foldl canS st = stk := ⟨_, rfl⟩
    rw [hstk] at hcl hkk R
    have HSTK := hid hstk
    clear hstk
    obtain ⟨ok, ck, rfl⟩ := row_len R.out.row
    rw [hcl] at R
    obtain ⟨p0, p1, p2⟩ : wr.cell? ⟨w.heap.size, 0, none⟩ = some (.slice on ns.length cn) ∧ wr.cell? ⟨w.heap.size, 1, none⟩ = some (.int .i64 limit) ∧ wr.cell? ⟨w.heap.size, 2, none⟩ = some (.slice ok st.length ck) := by
      refine ⟨?_, ?_, ?_⟩ <;> (rw [cells_in R.out.box]; rfl)
    by_cases hlt : k < l.length
    · obtain ⟨g1, o1, c1, e1, hc1⟩ := R.out.lrow.view.at hlt
      cases e1
      have hyr := HLR.out _ (getD_mem hlt)
      obtain ⟨n, hny⟩ : ∃ n : Nat, l.getD k 0 = n := ⟨(l.getD k 0).toNat, by omega⟩
      have hkk2 := hkk hlt
      rw [hny] at hyr hc1 hkk2
      have hk0 : (0 : Int) ≤ (k : Int) := by omega
      have hk1 : (k : Int) < (l.length : Int) := by omega
      have hnl : n < stk.length := by omega
      have HKK := hid hkk2
      have HCL := hid hcl
      have bf := fun o => frozen_in R.out.box o
      clear hkk2 hkk hny hyr hcl
      go_wp2_with fail
      refine wp_region_steady_tail 6 (fun v => v.cell? ⟨w.heap.size, 0, none⟩ = some (.slice on ns.length cn) ∧ v.cell? ⟨w.heap.size, 1, none⟩ = some (.int .i64 limit) ∧ v.cell? ⟨w.heap.size, 2, none⟩ = some (.slice ok st.length ck) ∧ v.cell? ⟨g1, o1 + k, none⟩ = some (.int .i64 n)) (by kernel_rfl) (by kernel_rfl) (⟨p0, p1, p2, hc1⟩) ?_
      simp only [List.take_succ_cons, List.take_zero, List.drop_succ_cons, List.drop_zero]
      repeat (first
        | (refine wpSteady_skip (by rfl) ?_; try simp only [Act.put, List.setIfInBounds_toArray, List.set_cons_zero, List.set_cons_succ])
        | (refine wpSteady_calm (v := ?_) (by rfl) ?_ ?_; rotate_left; (focus (intro v hSv; (try dsimp only at hSv); go_simp; (try with_reducible rfl); done)); try simp only [Act.put, List.setIfInBounds_toArray, List.set_cons_zero, List.set_cons_succ]))
      refine wpSteady_loud rfl (by rfl) (fun K hK => ?_)
      go_simp
      have RQ : CRel w (.slice on ns.length cn) (.slice ov st.length cv) (.slice (some ⟨g1, o1, none⟩) l.length c2) limit l stk wr.drew (.slice ok st.length ck) :=
        ⟨below_drewN R.out.below 1, R.out.box, R.out.res, R.out.row, R.out.own, R.out.lrow, R.out.lown⟩
      have HRQ := hid RQ
      clear RQ R
      have hc1d : wr.drew.cell? ⟨g1, o1 + k, none⟩ = some (.int .i64 n) := hc1
      generalize wr.drew = wd at *
      refine (with_any wd (.slice on ns.length cn) (.slice ok st.length ck) limit ns stk n 4 (HN0.out.keep (Keeps.below HRQ.out.below)) HRQ.out.row.view (by have := HCL.out; omega) hnl).mono ?_
      rintro e w3 ⟨vs2, rfl, hr3, hg3, hb3⟩
      obtain ⟨o3, c3, rfl⟩ := row_len hr3
      rw [List.length_set, HCL.out] at hr3 hg3
      rw [List.length_set, HCL.out]
      have hz0 : w.heap.size < wd.heap.size := (Array.getElem?_eq_some_iff.1 HRQ.out.box).1
      have hbx := (hb3.block _ hz0).trans HRQ.out.box
      have hcl3 : w3.cell? ⟨g1, o1 + k, none⟩ = some (.int .i64 n) := Keeps.below hb3 _ _ _ hc1d
      obtain ⟨q0, q1, q2⟩ : w3.cell? ⟨w.heap.size, 0, none⟩ = some (.slice on ns.length cn) ∧ w3.cell? ⟨w.heap.size, 1, none⟩ = some (.int .i64 limit) ∧ w3.cell? ⟨w.heap.size, 2, none⟩ = some (.slice ok st.length ck) := by
        refine ⟨?_, ?_, ?_⟩ <;> (rw [cells_in hbx]; rfl)
      have qf := fun o => frozen_in hbx o
      have hnx := HRQ.out.next hr3 hg3 hb3
      have HNX := hid hnx
      clear hnx hr3 hg3 hb3 hbx p0 p1 p2 hc1 hc1d
      refine hK.out _ _ (⟨q0, q1, q2, hcl3⟩) ?_
      clear hK K
      try simp only [Act.put, List.setIfInBounds_toArray, List.set_cons_zero, List.set_cons_succ]
      repeat (first
        | (refine wpSteady_skip (by rfl) ?_; try simp only [Act.put, List.setIfInBounds_toArray, List.set_cons_zero, List.set_cons_succ])
        | (refine wpSteady_calm (v := ?_) (by rfl) ?_ ?_; rotate_left; (focus (intro v hSv; (try dsimp only at hSv); go_simp; (try with_reducible rfl); done)); try simp only [Act.put, List.setIfInBounds_toArray, List.set_cons_zero, List.set_cons_succ]))
      refine wpSteady_nil ?_
      go_wp2_with fail
      generalize ((w3.setCell ⟨w.heap.size, 0, none⟩ (.slice on ns.length cn)).setCell ⟨w.heap.size, 1, none⟩ (.int .i64 limit)).setCell ⟨w.heap.size, 2, none⟩ (.slice o3 st.length c3) = W3 at *
      clear q0 q1 q2 qf hcl3
      go_roundw
      case rel =>
        refine ⟨k + 1, .slice o3 st.length c3, by omega, by go_num, ?_⟩
        rw [HKK.out]
        unfold canS
        rw [Int.toNat_natCast]
        exact HNX
      case measure => simp [intOf]; omega
    · have hke : k = l.length := by omega
      subst hke
      rw [List.take_length] at HSTK
      have z0 := R.out.res
      obtain ⟨z0, z1, z2⟩ : wr.cell? ⟨w.heap.size + 1, 0, none⟩ = some (.slice none 0 0) ∧ wr.cell? ⟨w.heap.size + 1, 1, none⟩ = some (.int .i64 0) ∧ wr.cell? ⟨w.heap.size + 1, 2, none⟩ = some (.slice none 0 0) := by
        refine ⟨?_, ?_, ?_⟩ <;> (rw [cells_in R.out.res]; rfl)
      have zf := fun o => frozen_in R.out.res o
      clear hkk
      go_wp2_with fail
      have h3 := three_set R.out.res (.slice on ns.length cn) (.int .i64 limit) (.slice ok st.length ck)
      have b3 := three_below R.out.below (r := w.heap.size + 1) (by omega) (.slice on ns.length cn) (.int .i64 limit) (.slice ok st.length ck)
      have k3 := three_chg wr (w.heap.size + 1) (.slice on ns.length cn) (.int .i64 limit) (.slice ok st.length ck)
      have r3 := Row.chg R.out.row k3 (fun g hg e => by
        rcases R.out.own with h | h
        · rw [h] at hg; exact row_ne HV0.out (by omega) g hg e
        · have := h g hg; omega)
      have l3 := Row.chg R.out.lrow k3 (fun g hg e => by have := R.out.lown g hg; omega)
      generalize ((wr.setCell ⟨w.heap.size + 1, 0, none⟩ (.slice on ns.length cn)).setCell ⟨w.heap.size + 1, 1, none⟩ (.int .i64 limit)).setCell ⟨w.heap.size + 1, 2, none⟩ (.slice ok st.length ck) = W3 at *
      have d0 := cells_in h3 0
      have d1 := cells_in h3 1
      have d2 := cells_in h3 2
      simp at d0 d1 d2
      rw [← HSTK.out] at r3
      have hp : CPost (.slice on ns.length cn) (.slice ov st.length cv) limit (l.foldl canS st) l w (.returned (.tuple #[.agg #[.slice on ns.length cn, .int .i64 limit, .slice ok st.length ck], .slice o2 l.length c2])) W3 :=
        ⟨_, _, rfl, r3, R.out.own.imp id fun h g hg => by have := h g hg; omega, l3, fun g hg => by have := R.out.lown g hg; omega, b3⟩
      have HP := hid hp
      clear hp h3 b3 k3 r3 l3
      refine bodyPost_ret (v := .tuple #[.agg #[.slice on ns.length cn, .int .i64 limit, .slice ok st.length ck], .slice o2 l.length c2]) (by simp [results, Try.results27, go_sem, d0, d1, d2]) rfl ?_
      rw [HLQ.out]
      exact HP.out
end Go.Proofs.Ytoaellmjgejgfaa
