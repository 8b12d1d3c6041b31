/- copied and copies of value. -/
import Derived.Test.YtibiiafcnaijeaaCopy
import Derived.Test.YtibiiafcnaijeaaInsS
namespace Go.Proofs.Ytibiiafcnaijeaa
open Go Go.RowKit Go.Proofs.Ytibiiafcnaijeaa.Steady
set_option linter.unusedVariables false
set_option linter.unusedSimpArgs false

theorem make_vals (w : World) (n : Nat) (hn : n ≤ 1000000) : ∃ W, (Instr.makeSlice 23 (.int .i64 0) (.int .i64 (n : Int))).run Try.prog w = .ok (.slice (some ⟨w.heap.size, 0, none⟩) 0 n) W ∧
    OwnW w.heap.size w.heap.size (fun g => w.heap.size < g) W (.slice (some ⟨w.heap.size, 0, none⟩) 0 n) [] ∧ Below w.heap.size w W ∧ W.heap.size = w.heap.size + 1 := by
  obtain ⟨i, hi, hz, hs, hb⟩ := info_parts infoV
  obtain ⟨W, h1, h2, h3⟩ := run_make_own (P := Try.prog) w w.heap.size 23 26 i _ 5 Try.underlying23 hi hz hs .i64 .i64 n (by rw [hb]; omega) (by unfold maxLen; omega) (Nat.le_refl _)
  have hr := run_make (P := Try.prog) w 23 26 i _ Try.underlying23 hi hz .i64 .i64 0 n (Int.le_refl _) (by omega) (by rw [hb]; omega) (by omega)
  simp only [Int.toNat_zero, Int.toNat_natCast] at hr
  rw [hr] at h1
  cases h1
  refine ⟨_, hr, ⟨[], ⟨⟨h2.1, h2.2.imp id fun ⟨g, cap, cur, e, p1, p2⟩ => ⟨g, cap, cur, e, Nat.zero_le _, p2⟩⟩, fun g hg => by cases hg; exact Nat.le_refl _⟩, rfl, fun i r t hr => by simp at hr⟩, (Below.refl _ _).alloc (Nat.le_refl _) _, by simp⟩
def VCopyOk (v : Vl) : Prop := ∀ (P : Nat → Prop) (w : World) (x : Value), VV P w x v → szV v ≤ 1000000 → kyV v ≤ 1000000 → Calls Try.prog 41 #[x] w (FreshV v w)
/-- New values in a new list. -/
def FreshW (is : List Vl) (w : World) (e : Ending) (w' : World) : Prop := ∃ u, e = .returned u ∧ OwnW w.heap.size w.heap.size (fun g => w.heap.size < g) w' u is ∧ Below w.heap.size w w'
set_option maxRecDepth 100000 in
set_option maxHeartbeats 4000000 in
theorem copies_any (is : List Vl) (ih : ∀ v ∈ is, VCopyOk v) (P : Nat → Prop) (w : World) (x : Value) (hx : WV P w x is) (hsz : szL is ≤ 1000000) (hky : kyL is ≤ 1000000) :
    Calls Try.prog 55 #[x] w (FreshW is w) := by
  obtain ⟨ox, cx, rfl⟩ := hx.len
  have hle := hx.le
  have hlen := szL_len is
  have HX := hid hx
  have IH := hid ih
  clear hx ih
  by_cases h0 : is.length = 0
  · have d1 : decide ((is.length : Int) = 0) = true := decide_eq_true (by omega)
    have d2 : ((is.length : Int) == 0) = true := beq_iff_eq.2 (by omega)
    obtain rfl := List.eq_nil_of_length_eq_zero h0
    clear h0
    go_enter Try.func55, Try.ntmps55
    go_wp2_with fail
    go_ret
    exact ⟨_, rfl, OwnW.nil _ _ _ _, Below.refl _ _⟩
  have d1 : decide ((is.length : Int) = 0) = false := decide_eq_false (by omega)
  have d2 : ((is.length : Int) == 0) = false := beq_eq_false_iff_ne.2 (by omega)
  clear h0
  obtain ⟨w1, hm1, ho1, hb1, hs1⟩ := make_vals w is.length (by omega)
  have HO1 := hid ho1
  have HB1 := hid hb1
  have HS1 := hid hs1
  clear ho1 hb1 hs1
  go_enter Try.func55, Try.ntmps55
  go_upto_region 4 with (fail)
  go_wp2_with fail
  go_loopw [3, 14] (fun v i wr => ∃ j : Nat, j ≤ is.length ∧ i = .int .i64 j ∧ Hid (Below w.heap.size w wr) ∧ Hid (w.heap.size < wr.heap.size) ∧ Hid (OwnW w.heap.size w.heap.size (fun g => w.heap.size < g) wr v (is.take j))) (fun _ i _ => is.length - (intOf i).toNat)
  case atStart => exact ⟨0, Nat.zero_le _, rfl, HB1, hid (by have := HS1.out; omega), HO1⟩
  case round =>
    clear hm1 HO1 HB1 HS1
    obtain ⟨j, hj, rfl, HB, HL, HO⟩ := hrel
    obtain ⟨ov, mv, cv, rfl⟩ := HO.out.slice
    by_cases hlt : j < is.length
    · obtain ⟨g, off, c, k1, n1, s1, oi1, mi1, ci1, ok1, mk1, ck1, e1, a1, a2, a3, a4, a5, hV, -⟩ := (HX.out.bel HB.out).at hlt
      cases e1
      have hj0 : (0 : Int) ≤ (j : Int) := by omega
      have hj1 : (j : Int) < (is.length : Int) := by omega
      have hjn : j ≤ 1000000 := by omega
      have HV := hid hV
      clear hV
      go_upto_region 7 with (fail)
      have hb5 : Below wr.heap.size wr (wr.alloc (.cells #[.int .i64 k1, .int .i64 n1, .string s1, .slice oi1 mi1 ci1, .slice ok1 mk1 ck1] 26)) := (Below.refl _ _).alloc (Nat.le_refl _) _
      have hxo := heap_alloc_at wr (.cells #[.int .i64 k1, .int .i64 n1, .string s1, .slice oi1 mi1 ci1, .slice ok1 mk1 ck1] 26)
      generalize wr.alloc (.cells #[.int .i64 k1, .int .i64 n1, .string s1, .slice oi1 mi1 ci1, .slice ok1 mk1 ck1] 26) = w5 at *
      have HCall := hid (IH.out is[j] (List.getElem_mem hlt) _ w5 _ (HV.out.bel hb5) (by have := szV_mem (List.getElem_mem hlt); omega) (by have := kyV_mem (List.getElem_mem hlt); omega))
      have HB5 := hid (HB.out.trans (hb5.mono HB.out.size))
      have HO5 := hid (HO.out.later hb5)
      have HL5 := hid (show w.heap.size < w5.heap.size by have := hb5.size; have := HL.out; omega)
      have HTK : Hid (is.take (j + 1) = is.take j ++ [is[j]]) := hid (List.take_succ_eq_append_getElem hlt)
      have htl : (is.take j).length ≤ j := List.length_take_le _ _
      have z0 := (cells_in hxo 0).trans rfl
      have z1 := (cells_in hxo 1).trans rfl
      have z2 := (cells_in hxo 2).trans rfl
      have z3 := (cells_in hxo 3).trans rfl
      have z4 := (cells_in hxo 4).trans rfl
      clear a1 a2 a3 a4 a5 hb5 hxo HV HO HL HB
      generalize is[j] = t4 at *
      generalize is.take j = ts at *
      go_wp2_with fail
      clear z0 z1 z2 z3 z4
      refine HCall.out.mono ?_; rintro e w6 ⟨u, rfl, hu, hb6⟩
      obtain ⟨k6, n6, s6, oi6, mi6, ci6, ok6, mk6, ck6, rfl⟩ := hu.agg5
      have HU6 := hid hu
      have HB6 := hid (HB5.out.trans (hb6.mono HB5.out.size))
      have HL6 := hid (show w5.heap.size ≤ w6.heap.size from hb6.size)
      have HO6 := hid (HO5.out.later hb6)
      have HOB := hid (fun g (e : (Value.slice ov mv cv).ownBlock = some g) => HO5.out.block e)
      clear hu hb6 HCall HO5
      obtain ⟨rs, hm, hl2, he4⟩ := HO6.out
      go_upto_region 8 with (at_builtin; refine app_tag (by rfl) (.tmp 18) (.tmp 21) 23 (by rfl) 26 (.agg #[.int .i64 0, .int .i64 0, .string ⟨#[]⟩, .slice none 0 0, .slice none 0 0]) 5 80 Try.underlying23 infoV rfl (by decide) (by decide) _ _ _ hm.1 (by rfl) [.int .i64 k6, .int .i64 n6, .string s6, .slice oi6 mi6 ci6, .slice ok6 mk6 ck6] w6.heap.size (by rfl) (by rfl) (by rfl) (by simp [Value.oneCell']) (by omega) ?_; intro v7 w7 hown7 hc7 hp7 hne7; obtain ⟨o7, n7, c7, rfl⟩ := owns_slice hown7)
      have HO7 := hid (OwnW.push (r0 := (.int .i64 k6, .int .i64 n6, .string s6, .slice oi6 mi6 ci6, .slice ok6 mk6 ck6)) (show w.heap.size ≤ w6.heap.size by have := HL5.out; have := HL6.out; omega) ⟨rs, hm, hl2, he4, hown7⟩ HU6.out (fun k (hk : w5.heap.size ≤ k) => ⟨by have := HL5.out; omega, by have := HL5.out; omega, fun e => by have := (HOB.out k e).2; omega⟩) hc7 hp7)
      have HB7 := hid (hm.below (by have := HL5.out; have := HL6.out; omega) HB6.out hc7)
      have HL7 := hid (show w.heap.size < w7.heap.size by have := hc7.size; have := HL5.out; have := HL6.out; omega)
      clear hown7 hc7 hp7 hne7 hm hl2 he4 rs
      go_wp2_with fail
      go_roundw
      case rel =>
        exact ⟨j + 1, by omega, by go_num, HB7, HL7, by rw [HTK.out]; exact HO7⟩
      case measure => simp [intOf]; omega
    · have hts : is.take j = is := List.take_of_length_le (by omega)
      rw [hts] at HO
      clear hts
      go_wp2_with fail
      go_ret
      exact ⟨_, rfl, HO.out, HB.out⟩
theorem OwnW.chg {B box z : Nat} {R : Nat → Prop} {w w' : World} {v : Value} {ts : List Vl} (h : OwnW B box R w v ts) (hc : Chg (fun k => k = z) w w') (hz : z < B) (hr : ∀ g, R g → g ≠ z) : OwnW B box R w' v ts := by
  obtain ⟨rs, h1, h2, h3⟩ := h
  exact ⟨rs, made_keep h1 hc fun k hk => by omega, h2, fun i r t hr' ht => (h3 i r t hr' ht).keep (KeepsP.chg hc fun g hg e => hr g hg.1 e) fun g hg => ⟨hg.1, Nat.lt_of_lt_of_le hg.2.1 hc.size, hg.2.2⟩⟩
/-- A clone of names, in a row of the call's own. -/
theorem clone_row (P : Nat → Prop) (w : World) (v : Value) (l : List ByteArray) (h : SV P w v l) (hl : l.length ≤ 1000000) :
    Calls Try.prog 32 #[v] w fun e w' => ∃ v', e = .returned v' ∧ Row w' v' l ∧ (∀ g, v'.ownBlock = some g → w.heap.size ≤ g) ∧ SV (fun g => w.heap.size ≤ g) w' v' l ∧ Below w.heap.size w w' := by
  have hout : ∀ (w' : World) (v' : Value), w'.ownsRow w.heap.size 9 1 v' l.length (strs l) → SV (fun g => w.heap.size ≤ g) w' v' l := fun w' v' ho => by
    refine ⟨⟨by simp; omega, ?_⟩, h.2⟩
    rcases ho.2 with ⟨rfl, h0⟩ | ⟨g, cap, cur, rfl, p1, p2, p3, p4, p5, p6⟩
    · exact .inl ⟨by rw [List.eq_nil_of_length_eq_zero h0]; rfl, _, _, rfl⟩
    · exact .inr ⟨g, 0, cap, p1, by simp, fun i u hu => by rw [Nat.zero_add]; exact cells_at p2 p6 hu⟩
  have hrow : ∀ (w' : World) (v' : Value), w'.ownsRow w.heap.size 9 1 v' l.length (strs l) → Row w' v' l ∧ ∀ g, v'.ownBlock = some g → w.heap.size ≤ g := fun w' v' ho => by
    rcases ho.2 with ⟨rfl, h0⟩ | ⟨g, cap, cur, rfl, p1, p2, p3, p4, p5, p6⟩
    · exact ⟨.inl ⟨rfl, List.eq_nil_of_length_eq_zero h0⟩, fun g hg => by cases hg⟩
    · have hcl : cur.toList.length = cap := by simpa using p5
      refine ⟨.inr ⟨g, cur.toList.drop l.length, ?_, ?_, ?_⟩, fun g' hg => by cases hg; exact p1⟩
      · rw [List.length_drop, hcl, show l.length + (cap - l.length) = cap by omega]
      · have : strs l ++ cur.toList.drop l.length = cur.toList := by
          have h6 : cur.toList.take l.length = strs l := by simpa using p6
          rw [← h6, List.take_append_drop]
        rw [this]; exact p2
      · rw [List.length_drop, hcl]; unfold maxLen at p4; omega
  rcases h.1.2 with ⟨h0, oa, c, rfl⟩ | ⟨g, o, c, hp, rfl, hc⟩
  · obtain rfl : l = [] := by simpa using h0
    cases oa with
    | none => exact (Try.slices_Clone_string_nil 0 c w).mono fun e w' ⟨h1, h2⟩ => ⟨_, h1, .inl ⟨rfl, rfl⟩, (fun g hg => by cases hg), ⟨⟨by simp, .inl ⟨rfl, _, _, rfl⟩⟩, fun s h => by cases h⟩, by rw [h2]; exact Below.refl _ _⟩
    | some a => exact (Try.slices_Clone_string_zero a c w).mono fun e w' ⟨v', h1, h2, h3, h4⟩ => ⟨v', h1, (hrow w' v' h2).1, (hrow w' v' h2).2, hout w' v' h2, h4⟩
  · rw [List.length_map]
    refine (Try.slices_Clone_string g o l.length c l w (Nat.le_refl _) (by omega) fun j hj => ?_).mono fun e w' ⟨v', h1, h2, h3, h4⟩ => by
      rw [List.take_length] at h2
      exact ⟨v', h1, (hrow w' v' h2).1, (hrow w' v' h2).2, hout w' v' h2, h4⟩
    refine hc j _ ?_
    rw [List.getElem?_map, List.getElem?_eq_getElem hj]
    simp [List.getD, hj]
/-- A copy whose rows are the call's own. -/
def FreshO (k n : Int) (s : ByteArray) (is : List Vl) (ks : List ByteArray) (w : World) (e : Ending) (w' : World) : Prop := ∃ vi vk M, e = .returned (.agg #[.int .i64 k, .int .i64 n, .string s, vi, vk]) ∧ Below w.heap.size w w' ∧ w.heap.size + 2 ≤ M ∧ s.size ≤ 140737488355328 ∧
  Row w' vk ks ∧ (∀ g, vk.ownBlock = some g → w.heap.size + 2 ≤ g ∧ g < M) ∧ SV (fun g => w.heap.size + 2 ≤ g) w' vk ks ∧ OwnW M M (fun g => M < g) w' vi is
theorem FreshO.v {k n : Int} {s : ByteArray} {is : List Vl} {ks : List ByteArray} {w w' : World} {e : Ending} (hl : is.length ≤ 140737488355328) (h : FreshO k n s is ks w e w') : FreshV (.mk k n s is ks) w e w' := by
  obtain ⟨vi, vk, M, rfl, hb, hM, hs, hr, hk, hsv, ho⟩ := h
  exact ⟨_, rfl, VV.mk' hs (hsv.keep (KeepsP.refl _ _) fun g hg => by omega) (ho.x.read (fun i g _ (hg : M < g) => by omega) (fun g hg => by omega) hl), hb⟩
def VCopyO (v : Vl) : Prop := match v with
  | .mk k n s is ks => ∀ (P : Nat → Prop) (w : World) (x : Value), VV P w x (.mk k n s is ks) → szV (.mk k n s is ks) ≤ 1000000 → kyV (.mk k n s is ks) ≤ 1000000 → Calls Try.prog 41 #[x] w (FreshO k n s is ks w)
theorem VCopyO.w {v : Vl} (h : VCopyO v) : VCopyOk v := by
  obtain ⟨k, n, s, is, ks⟩ := v
  intro P w x hx hsz hky
  have hl : is.length ≤ 140737488355328 := by
    rw [szV] at hsz
    have := szL_len is
    omega
  exact (h P w x hx hsz hky).mono fun e w' h => h.v hl
set_option maxRecDepth 100000 in
set_option maxHeartbeats 4000000 in
theorem vcopyO_any (v : Vl) : VCopyO v := by
  induction v using Vl.ind with
  | h k n s is ks ih =>
    intro P w x hx hsz hky
    obtain ⟨vi, vk, rfl, hI, hK, hss⟩ := hx.out
    obtain ⟨oi, ci, rfl⟩ := hI.len
    obtain ⟨ok, ck, rfl⟩ := hK.len
    rw [szV] at hsz
    rw [kyV] at hky
    have HI := hid hI
    have HK := hid hK
    have IH := hid (fun v hv => (ih v hv).w)
    generalize hA : w.alloc (.cells #[.int .i64 k, .int .i64 n, .string s, .slice oi is.length ci, .slice ok ks.length ck] 26) = wa
    have hao : wa.heap[w.heap.size]? = some (.cells #[.int .i64 k, .int .i64 n, .string s, .slice oi is.length ci, .slice ok ks.length ck] 26) := by rw [← hA]; exact heap_alloc_at w _
    have has : wa.heap.size = w.heap.size + 1 := by rw [← hA]; simp
    have hab : Below w.heap.size w wa := by rw [← hA]; exact (Below.refl _ _).alloc (Nat.le_refl _) _
    have hT := heap_alloc_at wa zero5
    have hbb : Below wa.heap.size wa (wa.alloc zero5) := (Below.refl _ _).alloc (Nat.le_refl _) _
    have hbs : (wa.alloc zero5).heap.size = w.heap.size + 2 := by simp [has]
    rw [has] at hT
    generalize hB : wa.alloc zero5 = wb at hT hbb hbs
    have hall : Below w.heap.size w wb := hab.trans (hbb.mono hab.size)
    have HA0 := hid hA
    have HB0 := hid hB
    have HB := hid hall
    have HS := hid hbs
    have HZ := hid hT
    have HA := hid ((hbb.block _ (by omega)).trans hao)
    clear hx hI hK ih hA hB hT hbb hbs hall hao has hab
    have a3 := (cells_in HA.out 3).trans rfl
    have a4 := (cells_in HA.out 4).trans rfl
    have HCK := hid (clone_row P wb _ ks (HK.out.bel HB.out) (by omega))
    go_enter Try.func41, Try.ntmps41
    go_upto_region 1 with (fail)
    rw [HA0.out, HB0.out]
    go_wp2_with fail
    refine HCK.out.mono ?_
    rintro e w2 ⟨vk2, rfl, hrow2, hown2, hk2, hb2⟩
    obtain ⟨ok2, ck2, rfl⟩ := hk2.len
    have HA2 := hid (keep_obj HA.out hb2)
    have HZ2 := hid (keep_obj HZ.out hb2)
    have HB2 := hid (HB.out.trans (hb2.mono HB.out.size))
    have HS2 := hid (show w.heap.size + 2 ≤ w2.heap.size by have := hb2.size; have := HS.out; omega)
    have HR2 := hid hrow2
    have HOB := hid (fun g e => And.intro (show w.heap.size + 2 ≤ g by have := hown2 g e; have := HS.out; omega) (hrow2.lt e))
    have HK2 := hid (hk2.keep (Q := fun g => w.heap.size + 1 + 1 ≤ g) (KeepsP.refl _ _) (fun g hg => by have := HS.out; omega))
    clear a3 a4 hk2 hb2 hrow2 hown2
    have b3 := (cells_in HA2.out 3).trans rfl
    have b4 := (cells_in HA2.out 4).trans rfl
    have bf := frozen_in HA2.out
    go_upto_region 2 with (fail)
    have HC3 := hid (Chg.setCell (B := fun k => k = w.heap.size) w2 w.heap.size 4 (.slice ok2 ks.length ck2) rfl)
    have HA3 : Hid ((w2.setCell ⟨w.heap.size, 4, none⟩ (.slice ok2 ks.length ck2)).heap[w.heap.size]? = some (.cells #[.int .i64 k, .int .i64 n, .string s, .slice oi is.length ci, .slice ok2 ks.length ck2] 26)) := hid (obj_set (po := 4) HA2.out _)
    generalize w2.setCell ⟨w.heap.size, 4, none⟩ (.slice ok2 ks.length ck2) = w3 at *
    have HZ3 := hid ((HC3.out.block _ (by have := HS2.out; omega) (by omega)).trans HZ2.out)
    have HB3 := hid (HB2.out.trans (chg_bel HC3.out (fun k hk => by rw [hk]; exact Nat.le_refl _) (by have := HS2.out; omega)))
    have HS3 := hid (show w2.heap.size ≤ w3.heap.size from HC3.out.size)
    have HK3 := hid (HK2.out.keep (KeepsP.chg HC3.out fun g hg e => by omega) fun g h => h)
    have HR3 := hid (HR2.out.chg HC3.out fun g e h => by have := (HOB.out g e).1; omega)
    have HCV := hid (copies_any is IH.out P w3 _ (HI.out.bel HB3.out) (by omega) (by omega))
    clear b3 b4 bf HC3 HA2 HZ2 HK2 HR2
    have b3 := (cells_in HA3.out 3).trans rfl
    go_wp2_with fail
    clear b3
    refine HCV.out.mono ?_
    rintro e w4 ⟨vi, rfl, hw, hb4⟩
    obtain ⟨oa, ca, rfl⟩ : ∃ oa ca, vi = .slice oa is.length ca := by
      rcases hw.x.slice with ⟨rfl, h0⟩ | ⟨g, c, rfl, _⟩
      · exact ⟨none, 0, by rw [h0]; rfl⟩
      · exact ⟨_, c, rfl⟩
    have HA4 := hid (keep_obj HA3.out hb4)
    have b3 := (cells_in HA4.out 3).trans rfl
    have bf := frozen_in HA4.out
    have HC5 := hid (Chg.setCell (B := fun k => k = w.heap.size) w4 w.heap.size 3 (.slice oa is.length ca) rfl)
    have HA5 : Hid ((w4.setCell ⟨w.heap.size, 3, none⟩ (.slice oa is.length ca)).heap[w.heap.size]? = some (.cells #[.int .i64 k, .int .i64 n, .string s, .slice oa is.length ca, .slice ok2 ks.length ck2] 26)) := hid (obj_set (po := 3) HA4.out _)
    have HZ4 := hid (keep_obj HZ3.out hb4)
    have HB4 := hid (HB3.out.trans (hb4.mono HB3.out.size))
    have HS4 := hid (show w.heap.size + 2 ≤ w4.heap.size by have := hb4.size; have := HS3.out; have := HS2.out; omega)
    have HR4 := hid (HR3.out.of_same fun g e => hb4.block g (by have := (HOB.out g e).2; have := HS3.out; omega))
    have HWV := hid hw
    have HM := hid (show w.heap.size + 2 ≤ w3.heap.size by have := HS3.out; have := HS2.out; omega)
    have HOB4 := hid (fun g e => And.intro (HOB.out g e).1 (show g < w3.heap.size by have := (HOB.out g e).2; have := HS3.out; omega))
    have HK4 := hid (HK3.out.bel hb4)
    clear hw hb4 HA3 HZ3 HK3 HCV HR3 HOB
    go_upto_region 3 with (fail)
    generalize w4.setCell ⟨w.heap.size, 3, none⟩ (.slice oa is.length ca) = w5 at *
    have HK5 := hid (HK4.out.keep (KeepsP.chg HC5.out fun g hg e => by omega) fun g h => h)
    have HR5 := hid (HR4.out.chg HC5.out fun g e h => by have := (HOB4.out g e).1; omega)
    have HW5 := hid (HWV.out.chg HC5.out (by have := HM.out; omega) (fun g (hg : w3.heap.size < g) => by have := HM.out; omega))
    have HZ5 := hid ((HC5.out.block _ (by have := HS4.out; omega) (by omega)).trans HZ4.out)
    have HB5 := hid (HB4.out.trans (chg_bel HC5.out (fun k hk => by rw [hk]; exact Nat.le_refl _) (by have := HS4.out; omega)))
    clear b3 bf HA4 HC5 HZ4 HWV HK4 HR4
    have x0 := (cells_in HA5.out 0).trans rfl
    have x1 := (cells_in HA5.out 1).trans rfl
    have x2 := (cells_in HA5.out 2).trans rfl
    have x3 := (cells_in HA5.out 3).trans rfl
    have x4 := (cells_in HA5.out 4).trans rfl
    have f0 := (cells_in HZ5.out 0).trans rfl
    have f1 := (cells_in HZ5.out 1).trans rfl
    have f2 := (cells_in HZ5.out 2).trans rfl
    have f3 := (cells_in HZ5.out 3).trans rfl
    have f4 := (cells_in HZ5.out 4).trans rfl
    have fz := frozen_in HZ5.out
    go_wp2_with fail
    try simp only [Exit.inBlock, Exit.then]
    refine bodyPost_ret (v := .agg #[.int .i64 k, .int .i64 n, .string s, .slice oa is.length ca, .slice ok2 ks.length ck2]) (by simp [results, Try.results41, go_sem, f0, f1, f2, f3, f4]) rfl ?_
    have hc := chg_store5 w5 (w.heap.size + 1) (.int .i64 k) (.int .i64 n) (.string s) (.slice oa is.length ca) (.slice ok2 ks.length ck2)
    have hMM := HM.out
    exact ⟨_, _, w3.heap.size, rfl, store5_below HB5.out (by omega) (Nat.le_refl _) _ _ _ _ _, hMM, hss, HR5.out.chg hc (fun g e h => by have := (HOB4.out g e).1; omega), HOB4.out, HK5.out.keep (KeepsP.chg hc fun g hg e => by omega) (fun g h => h), HW5.out.chg hc (by omega) (fun g (hg : w3.heap.size < g) => by omega)⟩
theorem vcopy_any (v : Vl) : VCopyOk v := (vcopyO_any v).w
end Go.Proofs.Ytibiiafcnaijeaa
