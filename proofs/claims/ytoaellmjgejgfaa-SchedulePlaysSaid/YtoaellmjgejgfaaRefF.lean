/- The reference's Fail. -/
import Derived.Test.YtoaellmjgejgfaaRefR
import Derived.Deep.Cut
namespace Go.Proofs.Ytoaellmjgejgfaa
open Go Go.RowKit Go.Shelf Go.Proofs.Ytoaellmjgejgfaa.Steady
set_option linter.unusedVariables false

/-- What Fail comes to. -/
structure FSpec (ns : List (List Int)) (st : List Int) (x c : Int) (st' out : List Int) : Prop where
  code : c = (endR st x 3).1
  bad : c ≠ 0 → st' = st ∧ out = []
  ok : c = 0 → ∃ l, Sorted l ∧ (∀ y, y ∈ l ↔ 0 ≤ y ∧ y < ns.length ∧ Dep ns x y) ∧ st' = (failR (st.set x.toNat 3) l).1 ∧ out = (failR (st.set x.toNat 3) l).2

def FPost (vn vs : Value) (limit : Int) (ns : List (List Int)) (st : List Int) (x : Int) (w : World) (e : Ending) (w' : World) : Prop :=
  ∃ c st' out vs' vl, e = .returned (.tuple #[.agg #[vn, .int .i64 limit, vs'], vl, .int .i64 c]) ∧ FSpec ns st x c st' out ∧ Row w' vs' st' ∧ (vs' = vs ∨ ∀ g, vs'.ownBlock = some g → w.heap.size ≤ g) ∧ Row w' vl out ∧ (∀ g, vl.ownBlock = some g → w.heap.size ≤ g) ∧ Below w.heap.size w w'

/-- What Fail's loop keeps. -/
structure FRel (w : World) (vn vs vl : Value) (limit : Int) (nb : Nat) (l st' out : List Int) (wr : World) (vs' vo : Value) : Prop where
  below : Below w.heap.size w wr
  res : wr.heap[w.heap.size + 1]? = some (.cells #[.slice none 0 0, .int .i64 0, .slice none 0 0] 33)
  nbg : w.heap.size + 2 ≤ nb
  box : wr.heap[nb]? = some (.cells #[vn, .int .i64 limit, vs'] 33)
  row : Row wr vs' st'
  own : vs' = vs ∨ ∀ g, vs'.ownBlock = some g → w.heap.size + 2 ≤ g ∧ g ≠ nb
  lrow : Row wr vl l
  lown : ∀ g, vl.ownBlock = some g → w.heap.size + 2 ≤ g ∧ g ≠ nb
  made : Made (nb + 1) wr 3 1 vo out.length (ints out)
  apart : ∀ g, vo.ownBlock = some g → vs'.ownBlock ≠ some g ∧ vl.ownBlock ≠ some g

theorem FRel.drew {w : World} {vn vs vl : Value} {limit : Int} {nb : Nat} {l st' out : List Int} {wr : World} {vs' vo : Value} (h : FRel w vn vs vl limit nb l st' out wr vs' vo) : FRel w vn vs vl limit nb l st' out wr.drew vs' vo :=
  ⟨below_drewN h.below 1, h.res, h.nbg, h.box, h.row, h.own, h.lrow, h.lown, h.made, h.apart⟩

theorem FRel.next {w : World} {vn vs vl : Value} {limit : Int} {nb : Nat} {l st' out st2 : List Int} {wr w3 : World} {vs' vo vs2 : Value} (h : FRel w vn vs vl limit nb l st' out wr vs' vo) (hr : Row w3 vs2 st2) (hg : ∀ g, vs2.ownBlock = some g → wr.heap.size ≤ g) (hb : Below wr.heap.size wr w3) :
    FRel w vn vs vl limit nb l st2 out (((w3.setCell ⟨nb, 0, none⟩ vn).setCell ⟨nb, 1, none⟩ (.int .i64 limit)).setCell ⟨nb, 2, none⟩ vs2) vs2 vo := by
  have h0 : nb < wr.heap.size := (Array.getElem?_eq_some_iff.1 h.box).1
  have h1 : w.heap.size + 1 < wr.heap.size := (Array.getElem?_eq_some_iff.1 h.res).1
  have b3 := (hb.block _ h0).trans h.box
  have z3 := (hb.block _ h1).trans h.res
  have k3 := three_chg w3 nb vn (.int .i64 limit) vs2
  have hbw : Below w.heap.size w w3 := h.below.trans (hb.mono h.below.size)
  have hnb := h.nbg
  refine ⟨three_below hbw (by omega) _ _ _, (k3.block _ (Array.getElem?_eq_some_iff.1 z3).1 (by omega)).trans z3, h.nbg, three_set b3 _ _ _, Row.chg hr k3 fun g hg' e => ?_, .inr fun g hg' => ?_, Row.chg (row_below h.lrow hb) k3 fun g hg' e => (h.lown g hg').2 e, h.lown,
    made_keep (P := fun k => k = nb) ⟨owns_keep (P := fun _ => False) h.made.1 (Chg.below hb) (fun _ _ h => h), h.made.2⟩ k3 (fun k hk => by omega), fun g hg' => ⟨fun e => ?_, (h.apart g hg').2⟩⟩
  · have := hg g hg'; omega
  · have := hg g hg'; omega
  · have h2 := hg g e
    have h3 : g < wr.heap.size := by
      rcases h.made.1.2 with ⟨e, _⟩ | ⟨g', cap, cur, e, _, hh, _⟩
      · subst e; cases hg'
      · subst e; cases hg'; exact (Array.getElem?_eq_some_iff.1 hh).1
    omega

theorem FRel.app {w : World} {vn vs vl : Value} {limit : Int} {nb : Nat} {l st' out : List Int} {wr w3 : World} {vs' vo v3 : Value} {x : Int} (h : FRel w vn vs vl limit nb l st' out wr vs' vo)
    (hown : w3.ownsRow 0 3 1 v3 (out.length + 1) (ints out ++ [.int .i64 x])) (hc : Chg (fun k => vo.ownBlock = some k) wr w3) (hp : v3.ownBlock = vo.ownBlock ∨ ∃ g, v3.ownBlock = some g ∧ wr.heap.size ≤ g) :
    FRel w vn vs vl limit nb l st' (out ++ [x]) w3 vs' v3 := by
  have h0 : nb < wr.heap.size := (Array.getElem?_eq_some_iff.1 h.box).1
  have h1 : w.heap.size + 1 < wr.heap.size := (Array.getElem?_eq_some_iff.1 h.res).1
  have hnb := h.nbg
  have ho : ∀ g, vo.ownBlock = some g → nb + 1 ≤ g := h.made.2
  refine ⟨⟨hc.os.trans h.below.os, hc.tape.trans h.below.tape, hc.output.trans h.below.output, Nat.le_trans h.below.size hc.size, fun k hk => ?_⟩, ?_, h.nbg, ?_, Row.chg h.row hc fun g hg e => (h.apart g e).1 hg, h.own, Row.chg h.lrow hc fun g hg e => (h.apart g e).2 hg, h.lown, ?_, fun g hg => ?_⟩
  · have := h.below.size
    exact (hc.block k (by omega) (fun e => by have := ho k e; omega)).trans (h.below.block k hk)
  · exact (hc.block _ h1 (fun e => by have := ho _ e; omega)).trans h.res
  · exact (hc.block _ h0 (fun e => by have := ho _ e; omega)).trans h.box
  · have e1 : ints (out ++ [x]) = ints out ++ [.int .i64 x] := by simp [ints]
    rw [e1, List.length_append]
    exact h.made.grow (by omega) hown hp
  · rcases hp with e | ⟨g', e, hg'⟩
    · rw [e] at hg; exact h.apart g hg
    · rw [e] at hg
      cases hg
      exact ⟨fun e => by have := h.row.lt e; omega, fun e => by have := h.lrow.lt e; omega⟩

set_option maxRecDepth 100000 in
set_option maxHeartbeats 4000000 in
theorem rfail_any (w : World) (vn vs : Value) (limit : Int) (ns : List (List Int)) (st : List Int) (x : Int) (hn : NView w vn ns) (hv : Row w vs st) (hf : Fit ns st) :
    Calls Try.prog 26 #[.agg #[vn, .int .i64 limit, vs], .int .i64 x] w (FPost vn vs limit ns st x w) := by
  obtain ⟨on, cn, rfl⟩ := hn.len
  obtain ⟨ov, cv, rfl⟩ := row_len hv
  obtain ⟨hA, hZ, hB, hS⟩ := two_new w (.slice on ns.length cn) (.int .i64 limit) (.slice ov st.length cv) (.slice none 0 0) (.int .i64 0) (.slice none 0 0)
  obtain ⟨W, hW⟩ : ∃ W, (w.alloc (.cells #[.slice on ns.length cn, .int .i64 limit, .slice ov st.length cv] 33)).alloc (.cells #[.slice none 0 0, .int .i64 0, .slice none 0 0] 33) = W := ⟨_, rfl⟩
  rw [hW] at hA hZ hB hS
  have HW := hid hW
  have HA := hid hA
  have HZ := hid hZ
  have HB := hid hB
  have HS := hid hS
  have hz : w.heap.size + 1 < W.heap.size := by omega
  have HN0 := hid hn
  have HN := hid (hn.keep (Keeps.below hB))
  have HV0 := hid hv
  have HV := hid (row_below hv hB)
  have HF := hid hf
  have hle := hf.le
  have hle2 : ns.length ≤ 50000 := by have := hf.len; omega
  obtain ⟨p0, p1, p2⟩ : W.cell? ⟨w.heap.size, 0, none⟩ = some (.slice on ns.length cn) ∧ W.cell? ⟨w.heap.size, 1, none⟩ = some (.int .i64 limit) ∧ W.cell? ⟨w.heap.size, 2, none⟩ = some (.slice ov st.length cv) := by
    refine ⟨?_, ?_, ?_⟩ <;> (rw [cells_in HA.out]; rfl)
  obtain ⟨z0, z1, z2⟩ : W.cell? ⟨w.heap.size + 1, 0, none⟩ = some (.slice none 0 0) ∧ W.cell? ⟨w.heap.size + 1, 1, none⟩ = some (.int .i64 0) ∧ W.cell? ⟨w.heap.size + 1, 2, none⟩ = some (.slice none 0 0) := by
    refine ⟨?_, ?_, ?_⟩ <;> (rw [cells_in HZ.out]; rfl)
  have zf := fun o => frozen_in HZ.out o
  clear hn hW hA hZ hB hS hv hf
  have hel := end_len st x 3
  obtain ⟨cd, hcd⟩ : ∃ cd, (endR st x 3).1 = cd := ⟨_, rfl⟩
  obtain ⟨st1, hst⟩ : ∃ st', (endR st x 3).2 = st' := ⟨_, rfl⟩
  have hc := rend_any W (.slice on ns.length cn) (.slice ov st.length cv) limit ns st x 3 HN.out HV.out HF.out
  rw [hst] at hel
  rw [hcd, hst] at hc
  have HC := hid hc
  have HEL := hid hel
  have HCD := hid hcd
  have HST := hid hst
  clear hcd hst hc hel
  go_enter Try.func26, Try.ntmps26
  go_wp2_with fail
  rw [HW.out]
  refine HC.out.mono ?_
  rintro e w2 ⟨vs', rfl, hr2, ho2, hb2⟩
  obtain ⟨o2, c2, rfl⟩ := row_len hr2
  rw [HEL.out] at hr2 ho2
  rw [HEL.out]
  have hA2 := (hb2.block w.heap.size (by omega)).trans HA.out
  have hZ2 := (hb2.block (w.heap.size + 1) hz).trans HZ.out
  have HBW := hid (HB.out.trans (hb2.mono HB.out.size))
  have hz2 : w.heap.size + 2 ≤ w2.heap.size := by have := hb2.size; have := HS.out; omega
  have HR2 := hid hr2
  have HO2 := hid ho2
  obtain ⟨W2, hW2⟩ : ∃ W2, w2.alloc (.cells #[.slice on ns.length cn, .int .i64 limit, .slice o2 st.length c2] 33) = W2 := ⟨_, rfl⟩
  have hbx := heap_alloc_at w2 (.cells #[.slice on ns.length cn, .int .i64 limit, .slice o2 st.length c2] 33)
  have hb3 := (Below.refl w2.heap.size w2).alloc (Nat.le_refl _) (.cells #[.slice on ns.length cn, .int .i64 limit, .slice o2 st.length c2] 33)
  rw [hW2] at hbx hb3
  have HW2 := hid hW2
  have HBX := hid hbx
  have HB3 := hid hb3
  have HA3 := hid ((hb3.block w.heap.size (by omega)).trans hA2)
  have HZ3 := hid ((hb3.block (w.heap.size + 1) (by omega)).trans hZ2)
  have HBW3 := hid (HBW.out.trans (hb3.mono HBW.out.size))
  have HV3 := hid (row_below (row_below HV.out hb2) hb3)
  obtain ⟨nb, hnb⟩ : ∃ nb, w2.heap.size = nb := ⟨_, rfl⟩
  rw [hnb] at HBX
  have hnbl : nb < W2.heap.size := (Array.getElem?_eq_some_iff.1 HBX.out).1
  have hnb2 : w.heap.size + 2 ≤ nb := by omega
  have HNB := hid hnb
  clear hr2 ho2 hb2 hA2 hZ2 hW2 hbx hb3 p0 p1 p2 z0 z1 z2 zf hnb
  obtain ⟨p0, p1, p2⟩ : (w2.alloc (.cells #[.slice on ns.length cn, .int .i64 limit, .slice o2 st.length c2] 33)).cell? ⟨w.heap.size, 0, none⟩ = some (.slice on ns.length cn) ∧ (w2.alloc (.cells #[.slice on ns.length cn, .int .i64 limit, .slice o2 st.length c2] 33)).cell? ⟨w.heap.size, 1, none⟩ = some (.int .i64 limit) ∧ (w2.alloc (.cells #[.slice on ns.length cn, .int .i64 limit, .slice o2 st.length c2] 33)).cell? ⟨w.heap.size, 2, none⟩ = some (.slice ov st.length cv) := by
    rw [HW2.out]; refine ⟨?_, ?_, ?_⟩ <;> (rw [cells_in HA3.out]; rfl)
  obtain ⟨z0, z1, z2⟩ : (w2.alloc (.cells #[.slice on ns.length cn, .int .i64 limit, .slice o2 st.length c2] 33)).cell? ⟨w.heap.size + 1, 0, none⟩ = some (.slice none 0 0) ∧ (w2.alloc (.cells #[.slice on ns.length cn, .int .i64 limit, .slice o2 st.length c2] 33)).cell? ⟨w.heap.size + 1, 1, none⟩ = some (.int .i64 0) ∧ (w2.alloc (.cells #[.slice on ns.length cn, .int .i64 limit, .slice o2 st.length c2] 33)).cell? ⟨w.heap.size + 1, 2, none⟩ = some (.slice none 0 0) := by
    rw [HW2.out]; refine ⟨?_, ?_, ?_⟩ <;> (rw [cells_in HZ3.out]; rfl)
  have zf : ∀ o, (w2.alloc (.cells #[.slice on ns.length cn, .int .i64 limit, .slice o2 st.length c2] 33)).frozen? ⟨w.heap.size + 1, o, none⟩ = false := fun o => by rw [HW2.out]; exact frozen_in HZ3.out o
  by_cases hc0 : cd = 0
  case neg =>
    have hd1 : decide (cd = 0) = false := decide_eq_false hc0
    have hd2 : (cd == 0) = false := beq_eq_false_iff_ne.2 hc0
    have hd3 : (cd != 0) = true := by rw [bne, hd2]; rfl
    have HC0 := hid hc0
    clear hc0
    go_wp2_with fail
    rw [HW2.out]
    have h3 := three_set HZ3.out (.slice on ns.length cn) (.int .i64 limit) (.slice ov st.length cv)
    have b3 := three_below HBW3.out (r := w.heap.size + 1) (by omega) (.slice on ns.length cn) (.int .i64 limit) (.slice ov st.length cv)
    have k3 := three_chg W2 (w.heap.size + 1) (.slice on ns.length cn) (.int .i64 limit) (.slice ov st.length cv)
    have r3 := Row.chg HV3.out k3 (row_ne HV0.out (by omega))
    clear p0 p1 p2 z0 z1 z2 zf
    generalize ((W2.setCell ⟨w.heap.size + 1, 0, none⟩ (.slice on ns.length cn)).setCell ⟨w.heap.size + 1, 1, none⟩ (.int .i64 limit)).setCell ⟨w.heap.size + 1, 2, none⟩ (.slice ov st.length cv) = W3 at *
    have d0 := cells_in h3 0
    have d1 := cells_in h3 1
    have d2 := cells_in h3 2
    simp at d0 d1 d2
    have hp : FPost (.slice on ns.length cn) (.slice ov st.length cv) limit ns st x w (.returned (.tuple #[.agg #[.slice on ns.length cn, .int .i64 limit, .slice ov st.length cv], .slice none 0 0, .int .i64 cd])) W3 :=
      ⟨cd, st, [], _, _, rfl, ⟨HCD.out.symm, fun _ => ⟨rfl, rfl⟩, fun e => absurd e HC0.out⟩, r3, .inl rfl, .inl ⟨rfl, rfl⟩, fun g hg => (by cases hg), b3⟩
    have HP := hid hp
    clear hp h3 b3 k3 r3
    refine bodyPost_ret (v := .tuple #[.agg #[.slice on ns.length cn, .int .i64 limit, .slice ov st.length cv], .slice none 0 0, .int .i64 cd]) (by simp [results, Try.results26, go_sem, d0, d1, d2]) rfl ?_
    exact HP.out
  subst hc0
  obtain ⟨x0, x1, xs1, e1⟩ := end_good HCD.out
  rw [HST.out] at e1
  subst e1
  clear zf z0 z1 z2
  go_wp2_with fail
  rw [HW2.out]
  rw [HNB.out]
  clear p0 p1 p2
  refine (deps_any W2 (.slice on ns.length cn) ns x (HN0.out.keep (Keeps.below HBW3.out)) HF.out.valid (by omega)).mono ?_
  rintro e w3 ⟨v3, l, rfl, hr3, hso, hmo, hb3, hg3⟩
  obtain ⟨o3, c3, rfl⟩ := row_len hr3
  obtain ⟨st1, hst1⟩ : ∃ st1, st.set x.toNat 3 = st1 := ⟨_, rfl⟩
  have hl1 : st1.length = st.length := by rw [← hst1, List.length_set]
  have hR2 := HR2.out
  rw [hst1] at hR2
  have hlen : l.length ≤ ns.length := sorted_len l 0 ns.length hso fun y hy => by have := (hmo y).1 hy; omega
  have hrel0 : FRel w (.slice on ns.length cn) (.slice ov st.length cv) (.slice o3 l.length c3) limit nb l st1 [] w3 (.slice o2 st.length c2) (.slice none 0 0) := by
    refine ⟨HBW3.out.trans (hb3.mono HBW3.out.size), (hb3.block _ (by omega)).trans HZ3.out, hnb2, (hb3.block _ hnbl).trans HBX.out, row_below (row_below hR2 HB3.out) hb3, ?_, hr3, fun g hg => ?_, ⟨World.ownsRow_nil _ _ _ _, fun g hg => by cases hg⟩, fun g hg => (by cases hg)⟩
    · rcases HO2.out with h | h
      · exact .inl h
      · refine .inr fun g hg => ⟨by have := h g hg; have := HS.out; omega, fun e => ?_⟩
        have := hR2.lt hg
        have := HNB.out
        omega
    · have := hg3 g hg
      exact ⟨by omega, by omega⟩
  have HR0 := hid hrel0
  have HSO := hid hso
  have HMO := hid hmo
  have HST1 := hid hst1
  have HL1 := hid hl1
  clear hrel0 hr3 hso hmo hb3 hg3 hR2 hst1 hl1 HR2 HO2 HBX HNB HB3 HA3 HZ3 HBW3 HV3 HW2 HBW HC HST HEL hnbl hz2 xs1
  go_wp2_with fail
  go_loopw [9, 11] (fun o i wr => ∃ (k : Nat) (vs' : Value), k ≤ l.length ∧ i = .int .i64 k ∧ Hid (FRel w (.slice on ns.length cn) (.slice ov st.length cv) (.slice o3 l.length c3) limit nb l (failR st1 (l.take k)).1 (failR st1 (l.take k)).2 wr vs' o)) (fun _ i _ => l.length - (intOf i).toNat)
  case atStart => exact ⟨0, _, Nat.zero_le _, rfl, HR0⟩
  case round =>
    obtain ⟨k, vs', hk, rfl, R⟩ := hrel
    clear HR0
    have hcl : (failR st1 (l.take k)).1.length = st1.length := failR_len _ _
    have hol : (failR st1 (l.take k)).2.length ≤ 0 + (l.take k).length := failR_out_len _ _
    rw [List.length_take] at hol
    have hkk := failR_snoc st1 l k
    obtain ⟨stk, outk, hsk⟩ : ∃ a b, failR st1 (l.take k) = (a, b) := ⟨_, _, rfl⟩
    rw [hsk] at hcl hol hkk R
    have HSK := hid hsk
    clear hsk
    rw [HL1.out] at hcl
    have hcl' : stk.length = st.length := hcl
    have hol' : outk.length ≤ l.length := by have : outk.length ≤ 0 + min k l.length := hol; omega
    obtain ⟨ok, ck, rfl⟩ := row_len R.out.row
    rw [show (stk, outk).1.length = st.length from hcl] at R
    obtain ⟨p0, p1, p2⟩ : wr.cell? ⟨nb, 0, none⟩ = some (.slice on ns.length cn) ∧ wr.cell? ⟨nb, 1, none⟩ = some (.int .i64 limit) ∧ wr.cell? ⟨nb, 2, none⟩ = some (.slice ok st.length ck) := by
      refine ⟨?_, ?_, ?_⟩ <;> (rw [cells_in R.out.box]; rfl)
    by_cases hlt : k < l.length
    · obtain ⟨g1, o1, c1, e1, hc1⟩ := R.out.lrow.view.at hlt
      cases e1
      have hyr := (HMO.out _).1 (getD_mem hlt)
      obtain ⟨n, hny⟩ : ∃ n : Nat, l.getD k 0 = n := ⟨(l.getD k 0).toNat, by omega⟩
      have hkk2 := hkk hlt
      rw [hny] at hyr hc1 hkk2
      have hk0 : (0 : Int) ≤ (k : Int) := by omega
      have hk1 : (k : Int) < (l.length : Int) := by omega
      have hnl : n < stk.length := by have := HF.out.len; omega
      obtain ⟨g2, q2, c2, e2, hc2⟩ := R.out.row.view.at hnl
      rw [show stk.length = st.length from hcl'] at e2
      cases e2
      have hn0 : (0 : Int) ≤ (n : Int) := by omega
      have hn1 : (n : Int) < (st.length : Int) := by omega
      have HKK := hid hkk2
      have HNY := hid hny
      have HCL := hid hcl'
      clear hkk2 hkk hny hyr hcl hol hcl'
      generalize hx : stk.getD n 0 = y at *
      have HX := hid hx
      clear hx
      by_cases hy0 : y = 0
      · subst hy0
        go_wp2_with fail
        refine wp_region_steady (fun v => v.cell? ⟨nb, 0, none⟩ = some (.slice on ns.length cn) ∧ v.cell? ⟨nb, 1, none⟩ = some (.int .i64 limit) ∧ v.cell? ⟨nb, 2, none⟩ = some (.slice (some ⟨g2, q2, none⟩) st.length ck) ∧ v.cell? ⟨g1, o1 + k, none⟩ = some (.int .i64 n) ∧ v.cell? ⟨g2, q2 + n, none⟩ = some (.int .i64 0)) (by kernel_rfl) (by kernel_rfl) (⟨p0, p1, p2, hc1, hc2⟩) ?_
        repeat (first
          | (refine wpSteady_skip (by rfl) ?_; try simp only [Act.put, List.setIfInBounds_toArray, List.set_cons_zero, List.set_cons_succ])
          | (refine wpSteady_calm (v := ?_) (by rfl) ?_ ?_; rotate_left; (focus (intro v hSv; (try dsimp only at hSv); go_simp; (try with_reducible rfl); done)); try simp only [Act.put, List.setIfInBounds_toArray, List.set_cons_zero, List.set_cons_succ]))
        refine wpSteady_nil ?_
        have RQ := hid R.out.drew
        have p0' : wr.drew.cell? _ = _ := p0
        have p1' : wr.drew.cell? _ = _ := p1
        have p2' : wr.drew.cell? _ = _ := p2
        have hc1' : wr.drew.cell? _ = _ := hc1
        clear R p0 p1 p2 hc1 hc2
        generalize wr.drew = wd at *
        have bf := fun o => frozen_in RQ.out.box o
        go_wp2_with fail
        refine wp_region_steady_tail 6 (fun v => v.cell? ⟨nb, 0, none⟩ = some (.slice on ns.length cn) ∧ v.cell? ⟨nb, 1, none⟩ = some (.int .i64 limit) ∧ v.cell? ⟨nb, 2, none⟩ = some (.slice (some ⟨g2, q2, none⟩) st.length ck) ∧ v.cell? ⟨g1, o1 + k, none⟩ = some (.int .i64 n)) (by kernel_rfl) (by kernel_rfl) (⟨p0', p1', p2', hc1'⟩) ?_
        simp only [List.take_succ_cons, List.take_zero, List.drop_succ_cons, List.drop_zero]
        repeat (first
          | (refine wpSteady_skip (by rfl) ?_; try simp only [Act.put, List.setIfInBounds_toArray, List.set_cons_zero, List.set_cons_succ])
          | (refine wpSteady_calm (v := ?_) (by rfl) ?_ ?_; rotate_left; (focus (intro v hSv; (try dsimp only at hSv); go_simp; (try with_reducible rfl); done)); try simp only [Act.put, List.setIfInBounds_toArray, List.set_cons_zero, List.set_cons_succ]))
        refine wpSteady_loud rfl (by rfl) (fun K hK => ?_)
        go_simp
        have RD := hid RQ.out.drew
        have hc1d : wd.drew.cell? _ = _ := hc1'
        clear RQ
        generalize wd.drew = we at *
        refine (with_any we (.slice on ns.length cn) (.slice (some ⟨g2, q2, none⟩) st.length ck) limit ns stk n 4 (HN0.out.keep (Keeps.below RD.out.below)) RD.out.row.view (by have := HCL.out; omega) hnl).mono ?_
        rintro e w4 ⟨vs2, rfl, hr4, hg4, hb4⟩
        obtain ⟨o4, c4, rfl⟩ := row_len hr4
        rw [List.length_set, HCL.out] at hr4 hg4
        rw [List.length_set, HCL.out]
        have hz0 : nb < we.heap.size := (Array.getElem?_eq_some_iff.1 RD.out.box).1
        have hbx := (hb4.block _ hz0).trans RD.out.box
        have hcl4 : w4.cell? ⟨g1, o1 + k, none⟩ = some (.int .i64 n) := Keeps.below hb4 _ _ _ hc1d
        obtain ⟨r0, r1, r2⟩ : w4.cell? ⟨nb, 0, none⟩ = some (.slice on ns.length cn) ∧ w4.cell? ⟨nb, 1, none⟩ = some (.int .i64 limit) ∧ w4.cell? ⟨nb, 2, none⟩ = some (.slice (some ⟨g2, q2, none⟩) st.length ck) := by
          refine ⟨?_, ?_, ?_⟩ <;> (rw [cells_in hbx]; rfl)
        have qf := fun o => frozen_in hbx o
        have hnx := RD.out.next hr4 hg4 hb4
        have HNX := hid hnx
        obtain ⟨g5, o5, c5, e5, hc5⟩ := HNX.out.lrow.view.at hlt
        cases e5
        rw [HNY.out] at hc5
        clear hnx hr4 hg4 hb4 hbx p0' p1' p2' hc1' hc1d bf
        refine hK.out _ _ (⟨r0, r1, r2, hcl4⟩) ?_
        clear hK K
        try simp only [Act.put, List.setIfInBounds_toArray, List.set_cons_zero, List.set_cons_succ]
        repeat (first
          | (refine wpSteady_skip (by rfl) ?_; try simp only [Act.put, List.setIfInBounds_toArray, List.set_cons_zero, List.set_cons_succ])
          | (refine wpSteady_calm (v := ?_) (by rfl) ?_ ?_; rotate_left; (focus (intro v hSv; (try dsimp only at hSv); go_simp; (try with_reducible rfl); done)); try simp only [Act.put, List.setIfInBounds_toArray, List.set_cons_zero, List.set_cons_succ]))
        refine wpSteady_nil ?_
        go_upto_region 11 with (fail)
        generalize ((w4.setCell ⟨nb, 0, none⟩ (.slice on ns.length cn)).setCell ⟨nb, 1, none⟩ (.int .i64 limit)).setCell ⟨nb, 2, none⟩ (.slice o4 st.length c4) = W5 at *
        clear r0 r1 r2 qf hcl4 RD hz0
        obtain ⟨ou, nu, cu, rfl⟩ := owns_slice HNX.out.made.1
        go_wp2_with (at_builtin; refine app_tag rfl (.tmp 47) (.tmp 52) 31 rfl 3 (.int .i64 0) 1 8 Try.underlying31 info3 rfl (by decide) (by decide) _ _ _ HNX.out.made.1 rfl [.int .i64 n] W5.heap.size rfl rfl rfl (by simp [Value.oneCell']) (by omega) ?_; intro v3 w5 hown3 hc3 hp3 hne3)
        have hfs : failR st1 (l.take (k + 1)) = (stk.set n 4, outk ++ [(n : Int)]) := by
          rw [HKK.out]
          unfold fS
          rw [Int.toNat_natCast, if_pos HX.out]
        have HFS := hid hfs
        have H5 := hid (HNX.out.app hown3 hc3 hp3)
        clear hown3 hc3 hp3 hne3 hfs
        go_roundw
        case rel =>
          refine ⟨k + 1, .slice o4 st.length c4, by omega, by go_num, ?_⟩
          rw [HFS.out]
          exact H5
        case measure => simp [intOf]; omega
      · have hd1 : decide (y = 0) = false := decide_eq_false hy0
        have hd2 : (y == 0) = false := beq_eq_false_iff_ne.2 hy0
        have hfs : failR st1 (l.take (k + 1)) = (stk, outk) := by
          rw [HKK.out]
          unfold fS
          rw [Int.toNat_natCast, if_neg (by rw [HX.out]; exact hy0)]
        have HFS := hid hfs
        clear hfs hy0
        go_wp2_with fail
        refine wp_region_steady (fun v => v.cell? ⟨nb, 0, none⟩ = some (.slice on ns.length cn) ∧ v.cell? ⟨nb, 1, none⟩ = some (.int .i64 limit) ∧ v.cell? ⟨nb, 2, none⟩ = some (.slice (some ⟨g2, q2, none⟩) st.length ck) ∧ v.cell? ⟨g1, o1 + k, none⟩ = some (.int .i64 n) ∧ v.cell? ⟨g2, q2 + n, none⟩ = some (.int .i64 y)) (by kernel_rfl) (by kernel_rfl) (⟨p0, p1, p2, hc1, hc2⟩) ?_
        repeat (first
          | (refine wpSteady_skip (by rfl) ?_; try simp only [Act.put, List.setIfInBounds_toArray, List.set_cons_zero, List.set_cons_succ])
          | (refine wpSteady_calm (v := ?_) (by rfl) ?_ ?_; rotate_left; (focus (intro v hSv; (try dsimp only at hSv); go_simp; (try with_reducible rfl); done)); try simp only [Act.put, List.setIfInBounds_toArray, List.set_cons_zero, List.set_cons_succ]))
        refine wpSteady_nil ?_
        have RQ := hid R.out.drew
        clear R p0 p1 p2 hc1 hc2
        go_wp2_with fail
        go_roundw
        case rel =>
          refine ⟨k + 1, .slice (some ⟨g2, q2, none⟩) st.length ck, by omega, by go_num, ?_⟩
          rw [HFS.out]
          exact RQ
        case measure => simp [intOf]; omega
    · have hke : k = l.length := by omega
      subst hke
      rw [List.take_length] at HSK
      obtain ⟨z0, z1, z2⟩ : wr.cell? ⟨w.heap.size + 1, 0, none⟩ = some (.slice none 0 0) ∧ wr.cell? ⟨w.heap.size + 1, 1, none⟩ = some (.int .i64 0) ∧ wr.cell? ⟨w.heap.size + 1, 2, none⟩ = some (.slice none 0 0) := by
        refine ⟨?_, ?_, ?_⟩ <;> (rw [cells_in R.out.res]; rfl)
      have zf := fun o => frozen_in R.out.res o
      obtain ⟨ou, nu, cu, rfl⟩ := owns_slice R.out.made.1
      clear hkk hcl hol hcl'
      go_wp2_with fail
      have h3 := three_set R.out.res (.slice on ns.length cn) (.int .i64 limit) (.slice ok st.length ck)
      have b3 := three_below R.out.below (r := w.heap.size + 1) (by omega) (.slice on ns.length cn) (.int .i64 limit) (.slice ok st.length ck)
      have k3 := three_chg wr (w.heap.size + 1) (.slice on ns.length cn) (.int .i64 limit) (.slice ok st.length ck)
      have r3 := Row.chg R.out.row k3 (fun g hg e => by
        rcases R.out.own with h | h
        · rw [h] at hg; exact row_ne HV0.out (by omega) g hg e
        · have := (h g hg).1; omega)
      have o3' := Row.chg (Row.of_owns R.out.made.1 rfl) k3 (fun g hg e => by have := R.out.made.2 g hg; omega)
      generalize ((wr.setCell ⟨w.heap.size + 1, 0, none⟩ (.slice on ns.length cn)).setCell ⟨w.heap.size + 1, 1, none⟩ (.int .i64 limit)).setCell ⟨w.heap.size + 1, 2, none⟩ (.slice ok st.length ck) = W3 at *
      have d0 := cells_in h3 0
      have d1 := cells_in h3 1
      have d2 := cells_in h3 2
      simp at d0 d1 d2
      have hp : FPost (.slice on ns.length cn) (.slice ov st.length cv) limit ns st x w (.returned (.tuple #[.agg #[.slice on ns.length cn, .int .i64 limit, .slice ok st.length ck], .slice ou nu cu, .int .i64 0])) W3 :=
        ⟨0, stk, outk, _, _, rfl, ⟨HCD.out.symm, fun e => absurd rfl e, fun _ => ⟨l, HSO.out, HMO.out, by rw [HST1.out, HSK.out], by rw [HST1.out, HSK.out]⟩⟩, r3, R.out.own.imp id fun h g hg => by have := (h g hg).1; omega, o3', fun g hg => by have := R.out.made.2 g hg; omega, b3⟩
      have HP := hid hp
      clear hp h3 b3 k3 r3 o3'
      refine bodyPost_ret (v := .tuple #[.agg #[.slice on ns.length cn, .int .i64 limit, .slice ok st.length ck], .slice ou nu cu, .int .i64 0]) (by simp [results, Try.results26, go_sem, d0, d1, d2]) rfl ?_
      exact HP.out
end Go.Proofs.Ytoaellmjgejgfaa
