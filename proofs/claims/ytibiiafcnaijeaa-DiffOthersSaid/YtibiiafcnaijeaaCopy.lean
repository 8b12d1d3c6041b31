/- copied of diff: a copy of a value. -/
import Derived.Test.YtibiiafcnaijeaaCl
import Derived.Test.YtibiiafcnaijeaaSteady
import Derived.Deep.DeepCutAuto
import Derived.Deep.CutBlock
namespace Go.Proofs.Ytibiiafcnaijeaa
open Go Go.RowKit Go.Proofs.Ytibiiafcnaijeaa.Steady
set_option linter.unusedVariables false
set_option linter.unusedSimpArgs false

theorem keep_obj {w w' : World} {b : Nat} {o : Obj} (h : w.heap[b]? = some o) (hb : Below w.heap.size w w') : w'.heap[b]? = some o := (hb.block _ (Array.getElem?_eq_some_iff.1 h).1).trans h
abbrev zero5 : Obj := .cells #[.int .i64 0, .int .i64 0, .string ⟨#[]⟩, .slice none 0 0, .slice none 0 0] 26
theorem VV.agg5 {P : Nat → Prop} {w : World} {u : Value} {t : Vl} (h : VV P w u t) : ∃ k n s oi mi ci ok mk ck, u = .agg #[.int .i64 k, .int .i64 n, .string s, .slice oi mi ci, .slice ok mk ck] := by
  obtain ⟨k, n, s, is, ks⟩ := t
  obtain ⟨vi, vk, rfl, hI, hK, _⟩ := h.out
  obtain ⟨oi, ci, rfl⟩ := hI.len
  obtain ⟨ok, ck, rfl⟩ := hK.len
  exact ⟨k, n, s, _, _, _, _, _, _, rfl⟩
/-- While a value is copied: its own box, the result's box, the rows made so far. -/
structure DC (P : Nat → Prop) (w wr : World) (k n : Int) (s : ByteArray) (vi vk : Value) (is : List Vl) (ks : List ByteArray) (j : Nat) : Prop where
  bel : Below w.heap.size w wr
  obj : wr.heap[w.heap.size]? = some (.cells #[.int .i64 k, .int .i64 n, .string s, vi, vk] 26)
  z : wr.heap[w.heap.size + 1]? = some zero5
  own : OwnX (w.heap.size + 1 + 1) w.heap.size (fun i g => if i < j then w.heap.size + 1 + 1 ≤ g else P g) wr vi is
  nm : SV (fun g => w.heap.size + 1 + 1 ≤ g ∧ vi.ownBlock ≠ some g) wr vk ks
section
variable {P : Nat → Prop} {w wr w' : World} {k n : Int} {s : ByteArray} {vi vk : Value} {is : List Vl} {ks : List ByteArray} {j : Nat}
theorem DC.lt (h : DC P w wr k n s vi vk is ks j) : w.heap.size + 1 < wr.heap.size := (Array.getElem?_eq_some_iff.1 h.z).1
theorem DC.later (h : DC P w wr k n s vi vk is ks j) (hb : Below wr.heap.size wr w') : DC P w w' k n s vi vk is ks j := by
  have hl := h.lt
  exact ⟨h.bel.trans (hb.mono h.bel.size), (hb.block _ (by omega)).trans h.obj, (hb.block _ hl).trans h.z, h.own.later hb, h.nm.keep (KeepsP.below hb) fun _ h => h⟩
/-- The next element is turned into a copy of itself. -/
theorem DC.step {g c : Nat} {r : V5} (hP : ∀ g, P g → g < w.heap.size) (h : DC P w wr k n s (.slice (some ⟨g, 0, none⟩) is.length c) vk is ks j) (hg : w.heap.size + 1 + 1 ≤ g) (hj : j < is.length) (hr : VV (fun k => w.heap.size + 1 + 1 ≤ k ∧ k ≠ g) wr (pent r) is[j]) :
    DC P w (wr.setCells g (j * 5) [r.1, r.2.1, r.2.2.1, r.2.2.2.1, r.2.2.2.2]) k n s (.slice (some ⟨g, 0, none⟩) is.length c) vk is ks (j + 1) := by
  have hl := h.lt
  obtain ⟨h1, hc⟩ := h.own.set hj hr (fun k hk => ⟨by have := hk.1; omega, hk.2⟩)
  have hset : is.set j is[j] = is := List.set_getElem_self hj
  rw [hset] at h1
  refine ⟨h.bel.trans (chg_bel hc (fun k hk => by rw [hk]; omega) h.bel.size), (hc.block _ (by omega) (by omega)).trans h.obj, (hc.block _ hl (by omega)).trans h.z, h1.mono (fun i k hi hk => ?_), h.nm.keep (KeepsP.chg hc fun k hk e => hk.2 (by rw [e]; rfl)) fun _ h => h⟩
  by_cases e : i = j
  · subst e
    rw [if_pos rfl] at hk
    rw [if_pos (by omega)]
    exact hk.1
  · rw [if_neg e] at hk
    by_cases hlt : i < j
    · rw [if_pos hlt] at hk
      rw [if_pos (by omega)]
      exact hk
    · rw [if_neg hlt] at hk
      rw [if_neg (by omega)]
      exact hk
theorem DC.out {x y z u v : Value} (h : DC P w wr k n s vi vk is ks j) (hj : is.length ≤ j) (hs : s.size ≤ 140737488355328) (hl : is.length ≤ 140737488355328) :
    VV (fun g => w.heap.size ≤ g) (((((wr.setCell ⟨w.heap.size + 1, 0, none⟩ x).setCell ⟨w.heap.size + 1, 1, none⟩ y).setCell ⟨w.heap.size + 1, 2, none⟩ z).setCell ⟨w.heap.size + 1, 3, none⟩ u).setCell ⟨w.heap.size + 1, 4, none⟩ v) (.agg #[.int .i64 k, .int .i64 n, .string s, vi, vk]) (.mk k n s is ks) ∧
    Below w.heap.size w (((((wr.setCell ⟨w.heap.size + 1, 0, none⟩ x).setCell ⟨w.heap.size + 1, 1, none⟩ y).setCell ⟨w.heap.size + 1, 2, none⟩ z).setCell ⟨w.heap.size + 1, 3, none⟩ u).setCell ⟨w.heap.size + 1, 4, none⟩ v) := by
  refine ⟨store5_vv (P := fun g => w.heap.size + 1 + 1 ≤ g) (VV.mk' hs (h.nm.keep (KeepsP.refl _ _) fun g hg => hg.1) (h.own.read (fun i g hi hg => ?_) (fun g hg => hg) hl)) (by omega) (fun g hg => by omega) _ _ _ _ _, store5_below h.bel (by omega) (Nat.le_refl _) _ _ _ _ _⟩
  rw [if_pos (by omega)] at hg
  exact hg
end
def CopyOk (v : Vl) : Prop := ∀ (P : Nat → Prop) (w : World) (x : Value), VV P w x v → szV v ≤ 1000000 → kyV v ≤ 1000000 → Calls Try.prog 25 #[x] w (FreshV v w)
set_option maxRecDepth 100000 in
set_option maxHeartbeats 4000000 in
theorem copy_any (v : Vl) : CopyOk v := by
  induction v using Vl.ind with
  | h k n s is ks ih =>
    intro P w x hx hsz hky
    obtain ⟨vi, vk, rfl, hI, hK, hss⟩ := hx.out
    obtain ⟨oi, ci, rfl⟩ := hI.len
    obtain ⟨ok, ck, rfl⟩ := hK.len
    have hli := hI.le
    have hlk := hK.le
    rw [szV] at hsz
    rw [kyV] at hky
    have hlen := szL_len is
    have IH := hid ih
    have HIX := hid (show WV (fun g => P g ∧ g < w.heap.size) w (.slice oi is.length ci) is from by
      obtain ⟨vi', vk', e, hI', _⟩ := hx.ex.out
      cases e
      exact hI')
    have HK := hid hK
    generalize hA : w.alloc (.cells #[.int .i64 k, .int .i64 n, .string s, .slice oi is.length ci, .slice ok ks.length ck] 26) = wa
    have hao : wa.heap[w.heap.size]? = some (.cells #[.int .i64 k, .int .i64 n, .string s, .slice oi is.length ci, .slice ok ks.length ck] 26) := by rw [← hA]; exact heap_alloc_at w _
    have has : wa.heap.size = w.heap.size + 1 := by rw [← hA]; simp
    have hab : Below w.heap.size w wa := by rw [← hA]; exact (Below.refl _ _).alloc (Nat.le_refl _) _
    have hT := heap_alloc_at wa zero5
    have hbb : Below wa.heap.size wa (wa.alloc zero5) := (Below.refl _ _).alloc (Nat.le_refl _) _
    have hbs : (wa.alloc zero5).heap.size = w.heap.size + 2 := by simp [has]
    rw [has] at hT
    generalize hB : wa.alloc zero5 = wb at hT hbb hbs
    have hall : Below w.heap.size w wb := hab.trans (hbb.mono hab.size)
    have HA0 := hid hA
    have HB0 := hid hB
    have HB := hid hall
    have HS := hid hbs
    have HZ := hid hT
    have HA := hid ((hbb.block _ (by omega)).trans hao)
    clear hx hI hK ih hA hB hT hbb hbs hall hao has hab
    have a3 := (cells_in HA.out 3).trans rfl
    have a4 := (cells_in HA.out 4).trans rfl
    have HCK := hid (clone_any P wb _ ks (HK.out.bel HB.out) (by omega))
    go_enter Try.func25, Try.ntmps25
    go_upto_region 1 with (fail)
    rw [HA0.out, HB0.out]
    go_wp2_with fail
    refine HCK.out.mono ?_
    rintro e w2 ⟨vk2, rfl, hk2, hb2⟩
    obtain ⟨ok2, ck2, rfl⟩ := hk2.len
    have HA2 := hid (keep_obj HA.out hb2)
    have HZ2 := hid (keep_obj HZ.out hb2)
    have HB2 := hid (HB.out.trans (hb2.mono HB.out.size))
    have HS2 := hid (show w.heap.size + 2 ≤ w2.heap.size by have := hb2.size; have := HS.out; omega)
    have HK2 := hid (hk2.ex.keep (Q := fun g => w.heap.size + 1 + 1 ≤ g ∧ g < w2.heap.size) (KeepsP.refl _ _) (fun g hg => ⟨by have := HS.out; omega, hg.2⟩))
    clear a3 a4 hk2 hb2
    have b3 := (cells_in HA2.out 3).trans rfl
    have b4 := (cells_in HA2.out 4).trans rfl
    have bf := frozen_in HA2.out
    go_upto_region 2 with (fail)
    have HC3 := hid (Chg.setCell (B := fun k => k = w.heap.size) w2 w.heap.size 4 (.slice ok2 ks.length ck2) rfl)
    have HA3 : Hid ((w2.setCell ⟨w.heap.size, 4, none⟩ (.slice ok2 ks.length ck2)).heap[w.heap.size]? = some (.cells #[.int .i64 k, .int .i64 n, .string s, .slice oi is.length ci, .slice ok2 ks.length ck2] 26)) := hid (obj_set (po := 4) HA2.out _)
    generalize w2.setCell ⟨w.heap.size, 4, none⟩ (.slice ok2 ks.length ck2) = w3 at *
    have HZ3 := hid ((HC3.out.block _ (by have := HS2.out; omega) (by omega)).trans HZ2.out)
    have HB3 := hid (HB2.out.trans (chg_bel HC3.out (fun k hk => by rw [hk]; exact Nat.le_refl _) (by have := HS2.out; omega)))
    have HS3 := hid (show w2.heap.size ≤ w3.heap.size from HC3.out.size)
    have HK3 := hid (HK2.out.keep (KeepsP.chg HC3.out fun g hg e => by have := hg.1; omega) fun g h => h)
    have HCV := hid (cloneV_any _ w.heap.size w3 _ is (HIX.out.bel HB3.out) (by omega) (fun g hg e => by have := hg.2; omega))
    clear b3 b4 bf HC3 HA2 HZ2 HK2
    have b3 := (cells_in HA3.out 3).trans rfl
    go_wp2_with fail
    clear b3
    refine HCV.out.mono ?_
    rintro e w4 ⟨vi, rfl, hw, hb4⟩
    obtain ⟨oa, ca, rfl⟩ : ∃ oa ca, vi = .slice oa is.length ca := by
      rcases hw.x.slice with ⟨rfl, h0⟩ | ⟨g, c, rfl, _⟩
      · exact ⟨none, 0, by rw [h0]; rfl⟩
      · exact ⟨_, c, rfl⟩
    have HA4 := hid (keep_obj HA3.out hb4)
    have b3 := (cells_in HA4.out 3).trans rfl
    have bf := frozen_in HA4.out
    have HD : Hid (DC (fun g => P g ∧ g < w.heap.size) w (w4.setCell ⟨w.heap.size, 3, none⟩ (.slice oa is.length ca)) k n s (.slice oa is.length ca) (.slice ok2 ks.length ck2) is ks 0) := hid (by
      have hsz := HS2.out
      have hsz3 := HS3.out
      have hc := Chg.setCell (B := fun k => k = w.heap.size) w4 w.heap.size 3 (.slice oa is.length ca) rfl
      refine ⟨(HB3.out.trans (hb4.mono HB3.out.size)).trans (chg_bel hc (fun k hk => by rw [hk]; exact Nat.le_refl _) (by have := hb4.size; omega)), obj_set (po := 3) HA4.out _, (hc.block _ (by have := hb4.size; omega) (by omega)).trans (keep_obj HZ3.out hb4), ?_, ?_⟩
      · exact ((hw.x.base (by omega)).store (by omega) _).mono fun i g hi hg => by rw [if_neg (by omega)]; exact hg
      · refine (HK3.out.bel hb4).keep (KeepsP.chg hc fun g hg e => by have := hg.1; omega) fun g hg => ⟨hg.1, fun e => ?_⟩
        have h1 := hg.2
        rcases hw.x.slice with ⟨e0, h0⟩ | ⟨g', c', e', h1', h2'⟩
        · rw [e0] at e; cases e
        · rw [e'] at e
          have e2 : g' = g := by cases e; rfl
          have h3 : w3.heap.size ≤ g' := h1'
          have h4 : g < w2.heap.size := h1
          omega)
    clear hw hb4 HA3 HZ3 HK3 HCV
    go_upto_region 4 with (fail)
    generalize w4.setCell ⟨w.heap.size, 3, none⟩ (.slice oa is.length ca) = w5 at *
    clear b3 bf HA4
    go_wp2_with fail
    go_loopw [15] (fun i wr => ∃ j : Nat, j ≤ is.length ∧ i = .int .i64 j ∧ Hid (DC (fun g => P g ∧ g < w.heap.size) w wr k n s (.slice oa is.length ca) (.slice ok2 ks.length ck2) is ks j)) (fun i _ => is.length - (intOf i).toNat)
    case atStart => exact ⟨0, Nat.zero_le _, rfl, HD⟩
    case round =>
      clear HD
      obtain ⟨j, hj, rfl, HD⟩ := hrel
      by_cases hlt : j < is.length
      · obtain ⟨g, c, e, hg1, hg2, cur, hcur⟩ := HD.out.own.slice.resolve_left (fun h => by rw [h.2] at hlt; cases hlt)
        cases e
        obtain ⟨k1, n1, s1, oi1, mi1, ci1, ok1, mk1, ck1, a1, a2, a3, a4, a5, hV⟩ := HD.out.own.at hlt
        have x3 := (cells_in HD.out.obj 3).trans rfl
        have hj0 : (0 : Int) ≤ (j : Int) := by omega
        have hj1 : (j : Int) < (is.length : Int) := by omega
        have HCall := hid (IH.out is[j] (List.getElem_mem hlt) _ wr.drew _ (hV.bel (below_drew (Below.refl _ _))) (by have := szV_mem (List.getElem_mem hlt); omega) (by have := kyV_mem (List.getElem_mem hlt); omega))
        have HCU := hid hcur
        have HG := hid (And.intro hg1 hg2)
        clear hV hcur hg1 hg2
        go_wp2_with fail
        refine wp_region_steady_tail 10 (fun v => v.cell? ⟨w.heap.size, 3, none⟩ = some (.slice (some ⟨g, 0, none⟩) is.length ca) ∧ v.cell? ⟨g, j * 5, none⟩ = some (.int .i64 k1) ∧ v.cell? ⟨g, j * 5 + 1, none⟩ = some (.int .i64 n1) ∧ v.cell? ⟨g, j * 5 + 2, none⟩ = some (.string s1) ∧ v.cell? ⟨g, j * 5 + 3, none⟩ = some (.slice oi1 mi1 ci1) ∧ v.cell? ⟨g, j * 5 + 4, none⟩ = some (.slice ok1 mk1 ck1)) (by kernel_rfl) (by kernel_rfl) (⟨x3, a1, a2, a3, a4, a5⟩) ?_
        simp only [List.take_succ_cons, List.take_zero, List.drop_succ_cons, List.drop_zero]
        repeat (first
          | (refine wpSteady_skip (by rfl) ?_; try simp only [Act.put, List.setIfInBounds_toArray, List.set_cons_zero, List.set_cons_succ])
          | (refine wpSteady_calm (v := ?_) (by rfl) ?_ ?_; rotate_left; (focus (intro v hSv; (try dsimp only at hSv); go_simp; (try with_reducible rfl); done)); try simp only [Act.put, List.setIfInBounds_toArray, List.set_cons_zero, List.set_cons_succ]))
        refine wpSteady_loud rfl (by rfl) (fun K hK => ?_)
        go_simp
        refine HCall.out.mono ?_; rintro e w6 ⟨u, rfl, hu, hb6⟩
        have D6 := hid (HD.out.later (show Below wr.heap.size wr w6 from ⟨hb6.os, hb6.tape, hb6.output, hb6.size, hb6.block⟩))
        have hcu6 : w6.heap[g]? = _ := (hb6.block g HG.out.2).trans HCU.out
        have HU6 := hid (hu.mono (Q := fun k => w.heap.size + 1 + 1 ≤ k ∧ k ≠ g) (fun k (hk : wr.heap.size ≤ k) => ⟨by have := HD.out.lt; omega, by have := HG.out.2; omega⟩))
        have hf := frozen_in hcu6
        have r1 := bcell (W := wr.drew) hb6 x3
        have r2 := bcell (W := wr.drew) hb6 a1
        have r3 := bcell (W := wr.drew) hb6 a2
        have r4 := bcell (W := wr.drew) hb6 a3
        have r5 := bcell (W := wr.drew) hb6 a4
        have r6 := bcell (W := wr.drew) hb6 a5
        obtain ⟨k6, n6, s6, oi6, mi6, ci6, ok6, mk6, ck6, rfl⟩ := hu.agg5
        clear hu hb6 hcu6 HCU x3 a1 a2 a3 a4 a5
        refine hK.out _ _ (⟨r1, r2, r3, r4, r5, r6⟩) ?_
        clear hK K
        try simp only [Act.put, List.setIfInBounds_toArray, List.set_cons_zero, List.set_cons_succ]
        repeat (first
          | (refine wpSteady_skip (by rfl) ?_; try simp only [Act.put, List.setIfInBounds_toArray, List.set_cons_zero, List.set_cons_succ])
          | (refine wpSteady_calm (v := ?_) (by rfl) ?_ ?_; rotate_left; (focus (intro v hSv; (try dsimp only at hSv); go_simp; (try rw [if_neg (by omega)]); (try with_reducible rfl); done)); try simp only [Act.put, List.setIfInBounds_toArray, List.set_cons_zero, List.set_cons_succ]))
        refine wpSteady_nil ?_
        go_wp2_with fail
        go_roundw
        case rel =>
          have hstep := DC.step (fun g hg => hg.2) D6.out HG.out.1 hlt (r := (.int .i64 k6, .int .i64 n6, .string s6, .slice oi6 mi6 ci6, .slice ok6 mk6 ck6)) HU6.out
          exact ⟨j + 1, by omega, by go_num, hid hstep⟩
        case measure => simp [intOf]; omega
      · have x0 := (cells_in HD.out.obj 0).trans rfl
        have x1 := (cells_in HD.out.obj 1).trans rfl
        have x2 := (cells_in HD.out.obj 2).trans rfl
        have x3 := (cells_in HD.out.obj 3).trans rfl
        have x4 := (cells_in HD.out.obj 4).trans rfl
        have f0 := (cells_in HD.out.z 0).trans rfl
        have f1 := (cells_in HD.out.z 1).trans rfl
        have f2 := (cells_in HD.out.z 2).trans rfl
        have f3 := (cells_in HD.out.z 3).trans rfl
        have f4 := (cells_in HD.out.z 4).trans rfl
        have fz := frozen_in HD.out.z
        go_wp2_with fail
        try simp only [Exit.inBlock, Exit.then]
        refine bodyPost_ret (v := .agg #[.int .i64 k, .int .i64 n, .string s, .slice oa is.length ca, .slice ok2 ks.length ck2]) (by simp [results, Try.results25, go_sem, f0, f1, f2, f3, f4]) rfl ?_
        have OUT := hid (HD.out.out (x := .int .i64 k) (y := .int .i64 n) (z := .string s) (u := .slice oa is.length ca) (v := .slice ok2 ks.length ck2) (by omega) hss hli)
        exact ⟨_, rfl, OUT.out.1, OUT.out.2⟩
end Go.Proofs.Ytibiiafcnaijeaa
