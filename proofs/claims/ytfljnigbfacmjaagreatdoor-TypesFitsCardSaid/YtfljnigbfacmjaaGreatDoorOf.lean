/- of, Of: the type of a value. -/
import Derived.Test.YtfljnigbfacmjaaGreatDoorCom
import Derived.Test.YtfljnigbfacmjaaGreatDoorOne
import Derived.Deep.RegionHeld3
namespace Go.Proofs.YtfljnigbfacmjaaGreatDoor
open Go Go.RowKit Go.Proofs.YtfljnigbfacmjaaGreatDoor.Steady
set_option linter.unusedVariables false

set_option maxRecDepth 100000 in
set_option maxHeartbeats 4000000 in
theorem of_any (v : Vl) : OfOk v := by
  induction v using Vl.ind with
  | h k n s is ks ih =>
    intro P w x lv hx hsz hky hl0 hl1
    obtain ⟨vi, vk, rfl, hI, hK, hss⟩ := hx.out
    obtain ⟨oi, ci, rfl⟩ := hI.len
    obtain ⟨ok, ck, rfl⟩ := hK.len
    have hli := hI.le
    have hlk := hK.le
    rw [szV] at hsz
    rw [kyV] at hky
    have hlen := szL_len is
    have IH := hid ih
    have HX := hid hx
    generalize hA : w.alloc (.cells #[.int .i64 k, .int .i64 n, .string s, .slice oi is.length ci, .slice ok ks.length ck] 26) = wa
    have hao : wa.heap[w.heap.size]? = some (.cells #[.int .i64 k, .int .i64 n, .string s, .slice oi is.length ci, .slice ok ks.length ck] 26) := by rw [← hA]; exact heap_alloc_at w _
    have has : wa.heap.size = w.heap.size + 1 := by rw [← hA]; simp
    have hab : Below w.heap.size w wa := by rw [← hA]; exact (Below.refl _ _).alloc (Nat.le_refl _) _
    have hT := heap_alloc_at wa (.cells #[.int .i64 0, .slice none 0 0, .slice none 0 0] 30)
    have hbb : Below wa.heap.size wa (wa.alloc (.cells #[.int .i64 0, .slice none 0 0, .slice none 0 0] 30)) := (Below.refl _ _).alloc (Nat.le_refl _) _
    have hbs : (wa.alloc (.cells #[.int .i64 0, .slice none 0 0, .slice none 0 0] 30)).heap.size = w.heap.size + 2 := by simp [has]
    rw [has] at hT
    generalize hB : wa.alloc (.cells #[.int .i64 0, .slice none 0 0, .slice none 0 0] 30) = wb at hT hbb hbs
    have hall : Below w.heap.size w wb := hab.trans (hbb.mono hab.size)
    have HA0 := hid hA
    have HB0 := hid hB
    have HB := hid hall
    have HS := hid (show w.heap.size + 2 ≤ wb.heap.size by omega)
    have HZ := hid hT
    have HA := hid ((hbb.block _ (by omega)).trans hao)
    have HI := hid (hI.bel hall)
    have HK := hid (hK.bel hall)
    clear hx hI hK ih hA hB hT hbb hbs hall hao has hab HX
    go_enter Tryz.func31, Tryz.ntmps31
    go_upto_region 1 with (fail)
    rw [HA0.out, HB0.out]
    have k0 := (cells_in HA.out 0).trans rfl
    have f0 := (cells_in HZ.out 0).trans rfl
    have f1 := (cells_in HZ.out 1).trans rfl
    have f2 := (cells_in HZ.out 2).trans rfl
    have fz := frozen_in HZ.out
    by_cases hk1 : k = 1
    · subst hk1
      have HE := hid (ofT_1 (k := 1) (by omega) n s is ks lv)
      go_wp2_with fail
      try simp only [Exit.inBlock, Exit.then]
      refine bodyPost_ret (v := .agg #[.int .i64 1, .slice none 0 0, .slice none 0 0]) (by simp [results, Tryz.results31, go_sem, f0, f1, f2]) rfl ?_
      rw [HE.out]
      exact ⟨_, rfl, store3_tv (Q := fun g => w.heap.size ≤ g) (P := fun g => w.heap.size + 1 + 1 ≤ g) (TV.mk' (SV.nil _ _) (LV.nil _ _)) (by omega) (fun g hg => by omega) _ _ _, store3_below HB.out (by omega) (Nat.le_refl _) _ _ _⟩
    by_cases hk2 : k = 2
    · subst hk2
      have HE := hid (ofT_1 (k := 2) (by omega) n s is ks lv)
      go_wp2_with fail
      try simp only [Exit.inBlock, Exit.then]
      refine bodyPost_ret (v := .agg #[.int .i64 2, .slice none 0 0, .slice none 0 0]) (by simp [results, Tryz.results31, go_sem, f0, f1, f2]) rfl ?_
      rw [HE.out]
      exact ⟨_, rfl, store3_tv (Q := fun g => w.heap.size ≤ g) (P := fun g => w.heap.size + 1 + 1 ≤ g) (TV.mk' (SV.nil _ _) (LV.nil _ _)) (by omega) (fun g hg => by omega) _ _ _, store3_below HB.out (by omega) (Nat.le_refl _) _ _ _⟩
    by_cases hk3 : k = 3
    · subst hk3
      have HE := hid (ofT_1 (k := 3) (by omega) n s is ks lv)
      go_wp2_with fail
      try simp only [Exit.inBlock, Exit.then]
      refine bodyPost_ret (v := .agg #[.int .i64 3, .slice none 0 0, .slice none 0 0]) (by simp [results, Tryz.results31, go_sem, f0, f1, f2]) rfl ?_
      rw [HE.out]
      exact ⟨_, rfl, store3_tv (Q := fun g => w.heap.size ≤ g) (P := fun g => w.heap.size + 1 + 1 ≤ g) (TV.mk' (SV.nil _ _) (LV.nil _ _)) (by omega) (fun g hg => by omega) _ _ _, store3_below HB.out (by omega) (Nat.le_refl _) _ _ _⟩
    have e1 : decide (k = 1) = false := by first | exact decide_eq_true (by omega) | exact decide_eq_false (by omega)
    have b1 : (k == 1) = false := by first | exact beq_iff_eq.2 (by omega) | exact beq_eq_false_iff_ne.2 (by omega)
    have n1 : (k != 1) = !false := by rw [bne, b1]
    have e2 : decide (k = 2) = false := by first | exact decide_eq_true (by omega) | exact decide_eq_false (by omega)
    have b2 : (k == 2) = false := by first | exact beq_iff_eq.2 (by omega) | exact beq_eq_false_iff_ne.2 (by omega)
    have n2 : (k != 2) = !false := by rw [bne, b2]
    have e3 : decide (k = 3) = false := by first | exact decide_eq_true (by omega) | exact decide_eq_false (by omega)
    have b3 : (k == 3) = false := by first | exact beq_iff_eq.2 (by omega) | exact beq_eq_false_iff_ne.2 (by omega)
    have n3 : (k != 3) = !false := by rw [bne, b3]
    by_cases h32 : 32 ≤ lv
    · have g32 : decide (lv ≥ 32) = true := decide_eq_true h32
      have HE := hid (ofT_0 (k := k) (lv := lv) (by omega) (.inr h32) n s is ks)
      by_cases hk4 : k = 4
      · have HK4 := hid hk4
        subst hk4
        go_wp2_with fail
        try simp only [Exit.inBlock, Exit.then]
        refine bodyPost_ret (v := .agg #[.int .i64 0, .slice none 0 0, .slice none 0 0]) (by simp [results, Tryz.results31, go_sem, f0, f1, f2]) rfl ?_
        rw [HE.out]
        exact ⟨_, rfl, store3_tv (Q := fun g => w.heap.size ≤ g) (P := fun g => w.heap.size + 1 + 1 ≤ g) (TV.any0 _ _) (by omega) (fun g hg => by omega) _ _ _, store3_below HB.out (by omega) (Nat.le_refl _) _ _ _⟩
      by_cases hk5 : k = 5
      · subst hk5
        go_wp2_with fail
        try simp only [Exit.inBlock, Exit.then]
        refine bodyPost_ret (v := .agg #[.int .i64 0, .slice none 0 0, .slice none 0 0]) (by simp [results, Tryz.results31, go_sem, f0, f1, f2]) rfl ?_
        rw [HE.out]
        exact ⟨_, rfl, store3_tv (Q := fun g => w.heap.size ≤ g) (P := fun g => w.heap.size + 1 + 1 ≤ g) (TV.any0 _ _) (by omega) (fun g hg => by omega) _ _ _, store3_below HB.out (by omega) (Nat.le_refl _) _ _ _⟩
      have e4 : decide (k = 4) = false := by first | exact decide_eq_true (by omega) | exact decide_eq_false (by omega)
      have b4 : (k == 4) = false := by first | exact beq_iff_eq.2 (by omega) | exact beq_eq_false_iff_ne.2 (by omega)
      have n4 : (k != 4) = !false := by rw [bne, b4]
      have e5 : decide (k = 5) = false := by first | exact decide_eq_true (by omega) | exact decide_eq_false (by omega)
      have b5 : (k == 5) = false := by first | exact beq_iff_eq.2 (by omega) | exact beq_eq_false_iff_ne.2 (by omega)
      have n5 : (k != 5) = !false := by rw [bne, b5]
      clear hk1 hk2 hk3 hk4 hk5
      go_wp2_with fail
      try simp only [Exit.inBlock, Exit.then]
      refine bodyPost_ret (v := .agg #[.int .i64 0, .slice none 0 0, .slice none 0 0]) (by simp [results, Tryz.results31, go_sem, f0, f1, f2]) rfl ?_
      rw [HE.out]
      exact ⟨_, rfl, store3_tv (Q := fun g => w.heap.size ≤ g) (P := fun g => w.heap.size + 1 + 1 ≤ g) (TV.any0 _ _) (by omega) (fun g hg => by omega) _ _ _, store3_below HB.out (by omega) (Nat.le_refl _) _ _ _⟩
    have g32 : decide (lv ≥ 32) = false := decide_eq_false h32
    have hl31 : lv ≤ 31 := by omega
    by_cases hk4 : k = 4
    · subst hk4
      have HE := hid (ofT_4 h32 n s is ks)
      clear hk1 hk2 hk3 h32
      have k3 := (cells_in HA.out 3).trans rfl
      have HCOM := hid (com_any is IH.out P wb _ (lv + 1) HI.out (by omega) (by omega) (by omega) (by omega))
      go_wp2_with fail
      refine HCOM.out.mono ?_
      rintro e w3 ⟨u, rfl, hu, hb3⟩
      obtain ⟨t3, ht3⟩ : ∃ t3, comT is (lv + 1) none = t3 := ⟨_, rfl⟩
      rw [ht3] at hu
      have HT3 := hid ht3
      clear ht3 k0 k3
      have HONE := hid (one_any _ w3 u t3 4 hu)
      have Z3 := hid ((hb3.block _ (by have := HS.out; omega)).trans HZ.out)
      have B3 := hid (HB.out.trans (hb3.mono HB.out.size))
      have S3 := hid hb3.size
      clear hb3 hu
      go_wp2_with fail
      refine HONE.out.mono ?_
      rintro e w7 ⟨u7, rfl, hu7, hb7⟩
      obtain ⟨ve7, vn7, rfl, hE7, hN7⟩ := hu7.out
      obtain ⟨oe7, ce7, rfl⟩ : ∃ oa c, ve7 = .slice oa 1 c := hE7.len
      obtain ⟨on7, cn7, rfl⟩ : ∃ oa c, vn7 = .slice oa 0 c := hN7.len
      have hz7 := (hb7.block _ (Array.getElem?_eq_some_iff.1 Z3.out).1).trans Z3.out
      have HU7 := hid (hu7.mono (Q := fun g => w.heap.size + 1 + 1 ≤ g) (fun g hg => by have := HS.out; have := S3.out; omega))
      have B7 := hid (B3.out.trans (hb7.mono B3.out.size))
      have f0 := (cells_in hz7 0).trans rfl
      have f1 := (cells_in hz7 1).trans rfl
      have f2 := (cells_in hz7 2).trans rfl
      have fz := frozen_in hz7
      clear hu7 hb7 hE7 hN7 HONE hz7
      rw [HT3.out] at HE
      go_wp2_with fail
      try simp only [Exit.inBlock, Exit.then]
      refine bodyPost_ret (v := .agg #[.int .i64 4, .slice oe7 1 ce7, .slice on7 0 cn7]) (by simp [results, Tryz.results31, go_sem, f0, f1, f2]) rfl ?_
      rw [HE.out]
      exact ⟨_, rfl, store3_tv (Q := fun g => w.heap.size ≤ g) (P := fun g => w.heap.size + 1 + 1 ≤ g) HU7.out (by omega) (fun g hg => by omega) _ _ _, store3_below B7.out (by omega) (Nat.le_refl _) _ _ _⟩
    by_cases hk5 : k = 5
    · subst hk5
      clear hk1 hk2 hk3 hk4
      have k4 := (cells_in HA.out 4).trans rfl
      have HKE := hid (containsK_any P wb _ ks HK.out)
      cases hbad : ks.any badK with
      | true =>
        have HE := hid (ofT_5 h32 n s is hbad)
        rw [hbad] at HKE
        clear hbad h32
        go_wp2_with fail
        refine HKE.out.mono ?_
        rintro e w2 ⟨rfl, hb2⟩
        clear k0 k4 f0 f1 f2 fz
        have HA2 := hid ((hb2.block _ (by have := HS.out; omega)).trans HA.out)
        have HZ2 := hid ((hb2.block _ (by have := HS.out; omega)).trans HZ.out)
        have HB2 := hid (HB.out.trans (hb2.mono HB.out.size))
        have HI2 := hid (HI.out.bel hb2)
        have HS2 := hid (show w.heap.size + 2 ≤ w2.heap.size by have := hb2.size; have := HS.out; omega)
        clear hb2 HA HZ HB HI HS
        have f0 := (cells_in HZ2.out 0).trans rfl
        have k0 := (cells_in HA2.out 0).trans rfl
        have k3 := (cells_in HA2.out 3).trans rfl
        have HCOM := hid (com_any is IH.out P w2 _ (lv + 1) HI2.out (by omega) (by omega) (by omega) (by omega))
        go_wp2_with fail
        refine HCOM.out.mono ?_
        rintro e w3 ⟨u, rfl, hu, hb3⟩
        obtain ⟨t3, ht3⟩ : ∃ t3, comT is (lv + 1) none = t3 := ⟨_, rfl⟩
        rw [ht3] at hu
        have HT3 := hid ht3
        clear ht3 k0 k3
        have HONE := hid (one_any _ w3 u t3 5 hu)
        have Z3 := hid ((hb3.block _ (by have := HS2.out; omega)).trans HZ2.out)
        have B3 := hid (HB2.out.trans (hb3.mono HB2.out.size))
        have S3 := hid hb3.size
        clear hb3 hu
        go_wp2_with fail
        refine HONE.out.mono ?_
        rintro e w7 ⟨u7, rfl, hu7, hb7⟩
        obtain ⟨ve7, vn7, rfl, hE7, hN7⟩ := hu7.out
        obtain ⟨oe7, ce7, rfl⟩ : ∃ oa c, ve7 = .slice oa 1 c := hE7.len
        obtain ⟨on7, cn7, rfl⟩ : ∃ oa c, vn7 = .slice oa 0 c := hN7.len
        have hz7 := (hb7.block _ (Array.getElem?_eq_some_iff.1 Z3.out).1).trans Z3.out
        have HU7 := hid (hu7.mono (Q := fun g => w.heap.size + 1 + 1 ≤ g) (fun g hg => by have := HS2.out; have := S3.out; omega))
        have B7 := hid (B3.out.trans (hb7.mono B3.out.size))
        have f0 := (cells_in hz7 0).trans rfl
        have f1 := (cells_in hz7 1).trans rfl
        have f2 := (cells_in hz7 2).trans rfl
        have fz := frozen_in hz7
        clear hu7 hb7 hE7 hN7 HONE hz7
        rw [HT3.out] at HE
        go_wp2_with fail
        try simp only [Exit.inBlock, Exit.then]
        refine bodyPost_ret (v := .agg #[.int .i64 5, .slice oe7 1 ce7, .slice on7 0 cn7]) (by simp [results, Tryz.results31, go_sem, f0, f1, f2]) rfl ?_
        rw [HE.out]
        exact ⟨_, rfl, store3_tv (Q := fun g => w.heap.size ≤ g) (P := fun g => w.heap.size + 1 + 1 ≤ g) HU7.out (by omega) (fun g hg => by omega) _ _ _, store3_below B7.out (by omega) (Nat.le_refl _) _ _ _⟩
      | false =>
        have HE := hid (ofT_6 h32 n s is hbad)
        rw [hbad] at HKE
        clear hbad h32
        go_wp2_with fail
        refine HKE.out.mono ?_
        rintro e w2 ⟨rfl, hb2⟩
        clear k0 k4 f0 f1 f2 fz
        have HA2 := hid ((hb2.block _ (by have := HS.out; omega)).trans HA.out)
        have HZ2 := hid ((hb2.block _ (by have := HS.out; omega)).trans HZ.out)
        have HB2 := hid (HB.out.trans (hb2.mono HB.out.size))
        have HI2 := hid (HI.out.bel hb2)
        have HS2 := hid (show w.heap.size + 2 ≤ w2.heap.size by have := hb2.size; have := HS.out; omega)
        have HCL := hid (clone_any P w2 _ ks (HK.out.bel hb2) (by omega))
        clear hb2 HA HZ HB HI HS
        have k4 := (cells_in HA2.out 4).trans rfl
        go_wp2_with fail
        refine HCL.out.mono ?_
        rintro e w3 ⟨vn3, rfl, hsv, hb3⟩
        obtain ⟨on3, cn3, rfl⟩ := hsv.len
        clear k4
        have HA3 := hid ((hb3.block _ (by have := HS2.out; omega)).trans HA2.out)
        have HZ3 := hid ((hb3.block _ (by have := HS2.out; omega)).trans HZ2.out)
        have HB3 := hid (HB2.out.trans (hb3.mono HB2.out.size))
        have HI3 := hid (HI2.out.bel hb3)
        have HS3 := hid (show w.heap.size + 2 ≤ w3.heap.size by have := hb3.size; have := HS2.out; omega)
        have UST := hid (UI.start (k := 6) (R := fun g => w.heap.size + 1 + 1 ≤ g) hsv (fun g (hg : w2.heap.size ≤ g) => by have := HS2.out; omega))
        clear hsv hb3 HA2 HZ2 HB2 HI2
        go_upto_region 15 with (fail)
        have hbx : Below w3.heap.size w3 (w3.alloc (.cells #[.int .i64 6, .slice none 0 0, .slice on3 ks.length cn3] 30)) := (Below.refl _ _).alloc (Nat.le_refl _) _
        generalize w3.alloc (.cells #[.int .i64 6, .slice none 0 0, .slice on3 ks.length cn3] 30) = w4 at *
        have hA4 := (hbx.block _ (by have := HS3.out; omega)).trans HA3.out
        have k3 := (cells_in hA4 3).trans rfl
        clear hA4 hbx HA3
        go_wp2_with fail
        go_loopw [57] (fun i wr => ∃ (j : Nat) (v : Value), j ≤ is.length ∧ i = .int .i64 j ∧ Hid (UI (fun g => w.heap.size + 1 + 1 ≤ g) w3.heap.size w3 6 (.slice on3 ks.length cn3) ks wr v ((ofL is (lv + 1)).take j))) (fun i _ => is.length - (intOf i).toNat)
        case atStart => exact ⟨0, _, Nat.zero_le _, rfl, UST⟩
        case round =>
          clear k3 UST
          obtain ⟨j, v, hj, rfl, U⟩ := hrel
          obtain ⟨ov, mv, cv, rfl⟩ := U.out.own.slice
          by_cases hlt : j < is.length
          · obtain ⟨g, off, c, k1, n1, s1, oi1, mi1, ci1, ok1, mk1, ck1, e1, a1, a2, a3, a4, a5, hV, -⟩ := (HI3.out.bel U.out.bel).at hlt
            cases e1
            have hj0 : (0 : Int) ≤ (j : Int) := by omega
            have hj1 : (j : Int) < (is.length : Int) := by omega
            have hjn : j ≤ 1000000 := by omega
            have HV := hid hV
            clear hV
            go_upto_region 18 with (fail)
            have hb5 : Below wr.heap.size wr (wr.alloc (.cells #[.int .i64 k1, .int .i64 n1, .string s1, .slice oi1 mi1 ci1, .slice ok1 mk1 ck1] 26)) := (Below.refl _ _).alloc (Nat.le_refl _) _
            have hxo := heap_alloc_at wr (.cells #[.int .i64 k1, .int .i64 n1, .string s1, .slice oi1 mi1 ci1, .slice ok1 mk1 ck1] 26)
            generalize wr.alloc (.cells #[.int .i64 k1, .int .i64 n1, .string s1, .slice oi1 mi1 ci1, .slice ok1 mk1 ck1] 26) = w5 at *
            have U5 := hid (U.out.call hb5)
            have HCall := hid (IH.out is[j] (List.getElem_mem hlt) P w5.drew _ (lv + 1) ((HV.out.bel hb5).bel (below_drew (Below.refl _ _))) (by have := szV_mem (List.getElem_mem hlt); omega) (by have := kyV_mem (List.getElem_mem hlt); omega) (by omega) (by omega))
            have z0 := (cells_in hxo 0).trans rfl
            have z1 := (cells_in hxo 1).trans rfl
            have z2 := (cells_in hxo 2).trans rfl
            have z3 := (cells_in hxo 3).trans rfl
            have z4 := (cells_in hxo 4).trans rfl
            have x1 := (cells_in U5.out.obj 1).trans rfl
            have HTK : Hid ((ofL is (lv + 1)).take (j + 1) = (ofL is (lv + 1)).take j ++ [ofT is[j] (lv + 1)]) := hid (by
              have hl : j < (ofL is (lv + 1)).length := by rw [ofL_map]; simpa using hlt
              rw [List.take_succ_eq_append_getElem hl]
              congr 2
              simp [ofL_map])
            have htl : ((ofL is (lv + 1)).take j).length ≤ j := List.length_take_le _ _
            have HOW := hid (fun g (hg : (Value.slice ov mv cv).ownBlock = some g) => (U.out.own.block hg).2)
            have W5 := hid (And.intro U.out.lt hb5.size)
            clear a1 a2 a3 a4 a5 hb5 hxo HV U
            generalize ofT is[j] (lv + 1) = t4 at *
            generalize (ofL is (lv + 1)).take j = ts at *
            have hwr : IntKind.i64.wrap (lv + 1) = lv + 1 := by rw [IntKind.wrap_i64]; omega
            refine wp_region_steady_tail 9 (fun v => v.cell? ⟨w3.heap.size, 1, none⟩ = some (.slice ov mv cv) ∧ v.cell? ⟨wr.heap.size, 0, none⟩ = some (.int .i64 k1) ∧ v.cell? ⟨wr.heap.size, 1, none⟩ = some (.int .i64 n1) ∧ v.cell? ⟨wr.heap.size, 2, none⟩ = some (.string s1) ∧ v.cell? ⟨wr.heap.size, 3, none⟩ = some (.slice oi1 mi1 ci1) ∧ v.cell? ⟨wr.heap.size, 4, none⟩ = some (.slice ok1 mk1 ck1)) (by kernel_rfl) (by kernel_rfl) (⟨x1, z0, z1, z2, z3, z4⟩) ?_
            simp only [List.take_succ_cons, List.take_zero, List.drop_succ_cons, List.drop_zero]
            repeat (first
              | (refine wpSteady_skip (by rfl) ?_; try simp only [Act.put, List.setIfInBounds_toArray, List.set_cons_zero, List.set_cons_succ])
              | (refine wpSteady_calm (v := ?_) (by rfl) ?_ ?_; rotate_left; (focus (intro v hSv; (try dsimp only at hSv); go_simp; (try with_reducible rfl); done)); try simp only [Act.put, List.setIfInBounds_toArray, List.set_cons_zero, List.set_cons_succ]))
            refine wpSteady_loud rfl (by rfl) (fun K hK => ?_)
            go_simp
            refine HCall.out.mono ?_; rintro e w6 ⟨u, rfl, hu, hb6⟩
            obtain ⟨k4, es4, ns4⟩ := t4
            obtain ⟨ve4, vn4, rfl, hE4, hN4⟩ := hu.out
            obtain ⟨oe4, ce4, rfl⟩ := hE4.len
            obtain ⟨on4, cn4, rfl⟩ := hN4.len
            have HU6 := hid hu
            have U6 := hid (U5.out.call (show Below w5.heap.size w5 w6 from ⟨hb6.os, hb6.tape, hb6.output, hb6.size, hb6.block⟩))
            have HW6 : Hid (w5.heap.size ≤ w6.heap.size) := hid hb6.size
            have r1 := bcell (W := w5.drew) hb6 x1
            have r2 := bcell (W := w5.drew) hb6 z0
            have r3 := bcell (W := w5.drew) hb6 z1
            have r4 := bcell (W := w5.drew) hb6 z2
            have r5 := bcell (W := w5.drew) hb6 z3
            have r6 := bcell (W := w5.drew) hb6 z4
            clear hb6 hE4 hN4 hu x1 z0 z1 z2 z3 z4
            refine hK.out _ _ (⟨r1, r2, r3, r4, r5, r6⟩) ?_
            clear hK K
            try simp only [Act.put, List.setIfInBounds_toArray, List.set_cons_zero, List.set_cons_succ]
            repeat (first
              | (refine wpSteady_skip (by rfl) ?_; try simp only [Act.put, List.setIfInBounds_toArray, List.set_cons_zero, List.set_cons_succ])
              | (refine wpSteady_calm (v := ?_) (by rfl) ?_ ?_; rotate_left; (focus (intro v hSv; (try dsimp only at hSv); go_simp; (try rw [if_neg (by omega)]); (try with_reducible rfl); done)); try simp only [Act.put, List.setIfInBounds_toArray, List.set_cons_zero, List.set_cons_succ]))
            refine wpSteady_loud rfl (by rfl) (fun K hK => ?_)
            go_simp
            have hal : Below w6.heap.size w6 (w6.alloc (.cells #[.int .i64 k4, .slice oe4 es4.length ce4, .slice on4 ns4.length cn4] 30)) := (Below.refl _ _).alloc (Nat.le_refl _) _
            refine hK.out _ _ (⟨bcell hal r1, bcell hal r2, bcell hal r3, bcell hal r4, bcell hal r5, bcell hal r6⟩) ?_
            clear hK K
            try simp only [Act.put, List.setIfInBounds_toArray, List.set_cons_zero, List.set_cons_succ]
            clear hal
            refine wpSteady_loud rfl (by rfl) (fun K hK => ?_)
            obtain ⟨rs, hm, hl2, he4⟩ := U6.out.own
            have hno : ¬ (Value.slice ov mv cv).ownBlock = some w3.heap.size := fun e => by have := hm.2 _ e; omega
            have hno2 : ¬ (Value.slice ov mv cv).ownBlock = some wr.heap.size := fun e => by have := HOW.out _ e; omega
            refine app_tag_wp (.tmp 62) (.tmp 67) 28 (by rfl) 30 (.agg #[.int .i64 0, .slice none 0 0, .slice none 0 0]) 3 56 Tryz.underlying28 info26 (by rfl) (by decide) (by decide) _ _ _ hm.1 (by rfl) [.int .i64 k4, .slice oe4 es4.length ce4, .slice on4 ns4.length cn4] w6.heap.size (by rfl) (by rfl) (by rfl) (by simp [Value.oneCell']) (by omega) ?_
            intro v5 w7 hown5 hc5 hp5 hne5
            obtain ⟨o5, n5, c5, rfl⟩ := owns_slice hown5
            have hX5 : w7.heap[w3.heap.size]? = _ := (hc5.block _ U6.out.lt hno).trans U6.out.obj
            refine hK.out _ _ ⟨chg_cell hc5 hno r1, chg_cell hc5 hno2 r2, chg_cell hc5 hno2 r3, chg_cell hc5 hno2 r4, chg_cell hc5 hno2 r5, chg_cell hc5 hno2 r6⟩ ?_
            clear hK K
            try simp only [Act.put, List.setIfInBounds_toArray, List.set_cons_zero, List.set_cons_succ]
            have U7 := hid (U6.out.grown hm hl2 he4 hown5 HU6.out (fun g hg => by
              have hg' : w5.heap.size ≤ g := hg
              have h1 := W5.out
              have h2 := HS3.out
              exact ⟨by omega, by omega, fun e => by have := HOW.out g e; omega⟩) hc5 hp5)
            have h1 := (cells_in hX5 1).trans rfl
            have hf := frozen_in hX5
            clear hown5 hc5 hp5 hne5 hX5 he4 hm hl2 hno hno2 r1 r2 r3 r4 r5 r6
            repeat (first
              | (refine wpSteady_skip (by rfl) ?_; try simp only [Act.put, List.setIfInBounds_toArray, List.set_cons_zero, List.set_cons_succ])
              | (refine wpSteady_calm (v := ?_) (by rfl) ?_ ?_; rotate_left; (focus (intro v hSv; (try dsimp only at hSv); go_simp; (try rw [if_neg (by omega)]); (try with_reducible rfl); done)); try simp only [Act.put, List.setIfInBounds_toArray, List.set_cons_zero, List.set_cons_succ]))
            refine wpSteady_nil ?_
            go_wp2_with fail
            go_roundw
            case rel =>
              have e5 := HTK.out
              exact ⟨j + 1, .slice o5 n5 c5, by omega, by go_num, by rw [e5]; exact U7⟩
            case measure => simp [intOf]; omega
          · have hts : (ofL is (lv + 1)).take j = ofL is (lv + 1) := List.take_of_length_le (by rw [ofL_map]; simp; omega)
            rw [hts] at U
            have zo : wr.heap[w.heap.size + 1]? = _ := (U.out.bel.block _ (by have := HS3.out; omega)).trans HZ3.out
            have x0 := (cells_in U.out.obj 0).trans rfl
            have x1 := (cells_in U.out.obj 1).trans rfl
            have x2 := (cells_in U.out.obj 2).trans rfl
            have f0 := (cells_in zo 0).trans rfl
            have f1 := (cells_in zo 1).trans rfl
            have f2 := (cells_in zo 2).trans rfl
            have fz := frozen_in zo
            have HUV := hid (U.out.read (fun g hg => by have := HS3.out; omega) (by rw [ofL_map]; simp; omega))
            have HBV := hid (HB3.out.trans (U.out.bel.mono HB3.out.size))
            clear hts
            go_wp2_with fail
            try simp only [Exit.inBlock, Exit.then]
            refine bodyPost_ret (v := .agg #[.int .i64 6, .slice ov mv cv, .slice on3 ks.length cn3]) (by simp [results, Tryz.results31, go_sem, f0, f1, f2]) rfl ?_
            rw [HE.out]
            exact ⟨_, rfl, store3_tv (Q := fun g => w.heap.size ≤ g) (P := fun g => w.heap.size + 1 + 1 ≤ g) HUV.out (by omega) (fun g hg => by omega) _ _ _, store3_below HBV.out (by omega) (Nat.le_refl _) _ _ _⟩
    have HE := hid (ofT_0 (k := k) (lv := lv) (by omega) (.inl ⟨hk4, hk5⟩) n s is ks)
    have e4 : decide (k = 4) = false := by first | exact decide_eq_true (by omega) | exact decide_eq_false (by omega)
    have b4 : (k == 4) = false := by first | exact beq_iff_eq.2 (by omega) | exact beq_eq_false_iff_ne.2 (by omega)
    have n4 : (k != 4) = !false := by rw [bne, b4]
    have e5 : decide (k = 5) = false := by first | exact decide_eq_true (by omega) | exact decide_eq_false (by omega)
    have b5 : (k == 5) = false := by first | exact beq_iff_eq.2 (by omega) | exact beq_eq_false_iff_ne.2 (by omega)
    have n5 : (k != 5) = !false := by rw [bne, b5]
    clear hk1 hk2 hk3 hk4 hk5
    go_wp2_with fail
    try simp only [Exit.inBlock, Exit.then]
    refine bodyPost_ret (v := .agg #[.int .i64 0, .slice none 0 0, .slice none 0 0]) (by simp [results, Tryz.results31, go_sem, f0, f1, f2]) rfl ?_
    rw [HE.out]
    exact ⟨_, rfl, store3_tv (Q := fun g => w.heap.size ≤ g) (P := fun g => w.heap.size + 1 + 1 ≤ g) (TV.any0 _ _) (by omega) (fun g hg => by omega) _ _ _, store3_below HB.out (by omega) (Nat.le_refl _) _ _ _⟩
set_option maxRecDepth 100000 in
set_option maxHeartbeats 4000000 in
theorem ofV_any (v : Vl) (P : Nat → Prop) (w : World) (x : Value) (hx : VV P w x v) (hsz : szV v ≤ 400000) (hky : kyV v ≤ 1000000) : Calls Tryz.prog 12 #[x] w (Fresh (ofT v 1) w) := by
  obtain ⟨k, n, s, is, ks⟩ := v
  obtain ⟨vi, vk, rfl, hI, hK, hss⟩ := hx.out
  obtain ⟨oi, ci, rfl⟩ := hI.len
  obtain ⟨ok, ck, rfl⟩ := hK.len
  generalize hA : w.alloc (.cells #[.int .i64 k, .int .i64 n, .string s, .slice oi is.length ci, .slice ok ks.length ck] 26) = wa
  have hao : wa.heap[w.heap.size]? = some (.cells #[.int .i64 k, .int .i64 n, .string s, .slice oi is.length ci, .slice ok ks.length ck] 26) := by rw [← hA]; exact heap_alloc_at w _
  have has : wa.heap.size = w.heap.size + 1 := by rw [← hA]; simp
  have hab : Below w.heap.size w wa := by rw [← hA]; exact (Below.refl _ _).alloc (Nat.le_refl _) _
  have hT := heap_alloc_at wa (.cells #[.int .i64 0, .slice none 0 0, .slice none 0 0] 30)
  have hbb : Below wa.heap.size wa (wa.alloc (.cells #[.int .i64 0, .slice none 0 0, .slice none 0 0] 30)) := (Below.refl _ _).alloc (Nat.le_refl _) _
  have hbs : (wa.alloc (.cells #[.int .i64 0, .slice none 0 0, .slice none 0 0] 30)).heap.size = w.heap.size + 2 := by simp [has]
  rw [has] at hT
  generalize hB : wa.alloc (.cells #[.int .i64 0, .slice none 0 0, .slice none 0 0] 30) = wb at hT hbb hbs
  have hall : Below w.heap.size w wb := hab.trans (hbb.mono hab.size)
  have hA2 := (hbb.block _ (by omega)).trans hao
  have HA0 := hid hA
  have HB0 := hid hB
  have HB := hid hall
  have HS := hid (show w.heap.size + 2 ≤ wb.heap.size by omega)
  have HZ := hid hT
  have HOF := hid (of_any _ P wb _ 1 (hx.bel hall) hsz hky (by decide) (by decide))
  have k0 := (cells_in hA2 0).trans rfl
  have k1 := (cells_in hA2 1).trans rfl
  have k2 := (cells_in hA2 2).trans rfl
  have k3 := (cells_in hA2 3).trans rfl
  have k4 := (cells_in hA2 4).trans rfl
  clear hx hI hK hA hB hT hbb hbs hall hao has hab hA2
  go_enter Tryz.func12, Tryz.ntmps12
  go_upto_region 1 with (fail)
  rw [HA0.out, HB0.out]
  go_wp2_with fail
  refine HOF.out.mono ?_
  rintro e w3 ⟨u, rfl, hu, hb3⟩
  obtain ⟨t3, ht3⟩ : ∃ t3, ofT (.mk k n s is ks) 1 = t3 := ⟨_, rfl⟩
  rw [ht3] at hu
  have HE := hid ht3
  obtain ⟨k4', es4, ns4⟩ := t3
  obtain ⟨ve4, vn4, rfl, hE4, hN4⟩ := hu.out
  obtain ⟨oe4, ce4, rfl⟩ := hE4.len
  obtain ⟨on4, cn4, rfl⟩ := hN4.len
  have zo := (hb3.block _ (by have := HS.out; omega)).trans HZ.out
  have f0 := (cells_in zo 0).trans rfl
  have f1 := (cells_in zo 1).trans rfl
  have f2 := (cells_in zo 2).trans rfl
  have fz := frozen_in zo
  have HU := hid (hu.mono (Q := fun g => w.heap.size + 1 + 1 ≤ g) (fun g hg => by have := HS.out; omega))
  have HBF := hid (HB.out.trans (hb3.mono HB.out.size))
  clear hu hb3 hE4 hN4 ht3 zo k0 k1 k2 k3 k4
  go_wp2_with fail
  try simp only [Exit.inBlock, Exit.then]
  refine bodyPost_ret (v := .agg #[.int .i64 k4', .slice oe4 es4.length ce4, .slice on4 ns4.length cn4]) (by simp [results, Tryz.results12, go_sem, f0, f1, f2]) rfl ?_
  rw [HE.out]
  exact ⟨_, rfl, store3_tv (Q := fun g => w.heap.size ≤ g) (P := fun g => w.heap.size + 1 + 1 ≤ g) HU.out (by omega) (fun g hg => by omega) _ _ _, store3_below HBF.out (by omega) (Nat.le_refl _) _ _ _⟩
end Go.Proofs.YtfljnigbfacmjaaGreatDoor
