/- The reference's parser: a type. -/
import Derived.Test.YtfljnigbfacmjaaDoorRPst
import Derived.Test.YtfljnigbfacmjaaDoorRdT
namespace Go.Proofs.YtfljnigbfacmjaaDoor
open Go Go.RowKit Go.Proofs.YtfljnigbfacmjaaDoor.Steady
set_option linter.unusedVariables false

structure BI (w wr : World) : Prop where
  bel : Below w.heap.size w wr
  z6 : wr.heap[w.heap.size]? = some (.cells #[.int .i64 0, .slice none 0 0, .slice none 0 0] 26)
  z8 : wr.heap[w.heap.size + 1]? = some (.cells #[.int .i64 0, .int .i64 0, .string ⟨#[]⟩] 33)
section
variable {w wr w' : World} {T D : Nat} {k dk da k' dk' da' : Int} {ve vn ve' vn' u : Value} {t t' : Ty}
theorem BI.lt (h : BI w wr) : w.heap.size + 1 < wr.heap.size := (Array.getElem?_eq_some_iff.1 h.z8).1
theorem BI.later (h : BI w wr) (hb : Below wr.heap.size wr w') : BI w w' := by
  have hl := h.lt
  exact ⟨h.bel.trans (hb.mono h.bel.size), (hb.block _ (by omega)).trans h.z6, (hb.block _ (by omega)).trans h.z8⟩
theorem BI.store {x y z : Value} (h : BI w wr) (hD : w.heap.size + 2 ≤ D) : BI w (((wr.setCell ⟨D, 0, none⟩ x).setCell ⟨D, 1, none⟩ y).setCell ⟨D, 2, none⟩ z) := by
  have hl := h.lt
  have hc := chg_store3 wr D x y z
  exact ⟨store3_below h.bel (by omega) (Nat.le_refl _) _ _ _, (hc.block _ (by omega) (by omega)).trans h.z6, (hc.block _ (by omega) (by omega)).trans h.z8⟩
theorem BI.out {x y z a b c : Value} (h : BI w wr) (hu : TV (fun g => w.heap.size + 2 ≤ g) wr u t) :
    TV (fun g => w.heap.size ≤ g) ((((((wr.setCell ⟨w.heap.size, 0, none⟩ x).setCell ⟨w.heap.size, 1, none⟩ y).setCell ⟨w.heap.size, 2, none⟩ z).setCell ⟨w.heap.size + 1, 0, none⟩ a).setCell ⟨w.heap.size + 1, 1, none⟩ b).setCell ⟨w.heap.size + 1, 2, none⟩ c) u t ∧
    Below w.heap.size w ((((((wr.setCell ⟨w.heap.size, 0, none⟩ x).setCell ⟨w.heap.size, 1, none⟩ y).setCell ⟨w.heap.size, 2, none⟩ z).setCell ⟨w.heap.size + 1, 0, none⟩ a).setCell ⟨w.heap.size + 1, 1, none⟩ b).setCell ⟨w.heap.size + 1, 2, none⟩ c) :=
  ⟨store3_tv (Q := fun g => w.heap.size ≤ g) (store3_tv (Q := fun g => w.heap.size + 2 ≤ g) hu (by omega) (fun g hg => hg) x y z) (by omega) (fun g hg => by omega) a b c, store3_below (store3_below h.bel (Nat.le_refl _) (Nat.le_refl _) x y z) (by omega) (Nat.le_refl _) a b c⟩
/-- The type in block T, the error in block D. -/
structure SI (T D : Nat) (w wr : World) (k : Int) (ve vn : Value) (t : Ty) (dk da : Int) : Prop where
  base : BI w wr
  hT : w.heap.size + 2 ≤ T
  hD : T < D
  obj : wr.heap[T]? = some (.cells #[.int .i64 k, ve, vn] 26)
  dia : wr.heap[D]? = some (.cells #[.int .i64 dk, .int .i64 da, .string ⟨#[]⟩] 33)
  tv : TV (fun g => w.heap.size + 2 ≤ g ∧ g ≠ T ∧ g ≠ D) wr (.agg #[.int .i64 k, ve, vn]) t
theorem SI.lt (h : SI T D w wr k ve vn t dk da) : D < wr.heap.size := (Array.getElem?_eq_some_iff.1 h.dia).1
theorem SI.later (h : SI T D w wr k ve vn t dk da) (hb : Below wr.heap.size wr w') : SI T D w w' k ve vn t dk da := by
  have hl := h.lt
  have hD := h.hD
  exact ⟨h.base.later hb, h.hT, h.hD, (hb.block _ (by omega)).trans h.obj, (hb.block _ hl).trans h.dia, h.tv.bel hb⟩
theorem SI.setT (h : SI T D w wr k ve vn t dk da) (hu : TV (fun g => w.heap.size + 2 ≤ g ∧ g ≠ T ∧ g ≠ D) wr (.agg #[.int .i64 k', ve', vn']) t') :
    SI T D w (((wr.setCell ⟨T, 0, none⟩ (.int .i64 k')).setCell ⟨T, 1, none⟩ ve').setCell ⟨T, 2, none⟩ vn') k' ve' vn' t' dk da := by
  have hl := h.lt
  have hD := h.hD
  have hc := chg_store3 wr T (.int .i64 k') ve' vn'
  exact ⟨h.base.store h.hT, h.hT, h.hD, obj_set (obj_set (obj_set h.obj _) _) _, (hc.block _ hl (by omega)).trans h.dia, store3_tv hu (fun h => h.2.1 rfl) (fun g hg => hg) _ _ _⟩
theorem SI.setE {E : Nat} {x y z : Value} (h : SI T D w wr k ve vn t dk da) (hE : D < E) (ht : TV (fun g => w.heap.size + 2 ≤ g ∧ g ≠ T ∧ g ≠ D) (((wr.setCell ⟨E, 0, none⟩ x).setCell ⟨E, 1, none⟩ y).setCell ⟨E, 2, none⟩ z) (.agg #[.int .i64 k, ve, vn]) t) :
    SI T D w (((wr.setCell ⟨E, 0, none⟩ x).setCell ⟨E, 1, none⟩ y).setCell ⟨E, 2, none⟩ z) k ve vn t dk da := by
  have hl := h.lt
  have hD := h.hD
  have hT := h.hT
  have hc := chg_store3 wr E x y z
  exact ⟨h.base.store (by omega), h.hT, h.hD, (hc.block _ (by omega) (by omega)).trans h.obj, (hc.block _ hl (by omega)).trans h.dia, ht⟩
theorem SI.app {S : Nat → Prop} {x y z v' : Value} {t1 : Ty} (h : SI T D w wr k (.slice none 0 0) (.slice none 0 0) t dk da) (hr : w'.ownsRow 0 26 3 v' (0 + 1) ([] ++ [x, y, z]))
    (ht : TV S wr (.agg #[x, y, z]) t1) (hs : ∀ g, S g → w.heap.size + 2 ≤ g ∧ g ≠ T ∧ g ≠ D) (hc : Chg (fun k => (Value.slice none 0 0).ownBlock = some k) wr w')
    (hp : v'.ownBlock = (Value.slice none 0 0).ownBlock ∨ ∃ g, v'.ownBlock = some g ∧ wr.heap.size ≤ g) : SI T D w (w'.setCell ⟨T, 1, none⟩ v') k v' (.slice none 0 0) (.mk k [t1] []) dk da := by
  have hl := h.lt
  have hT := h.hT
  have hD := h.hD
  have hb : Below wr.heap.size wr w' := ⟨hc.os, hc.tape, hc.output, hc.size, fun i hi => hc.block i hi (fun e => by cases e)⟩
  have hown := OwnL.push (B := wr.heap.size) (box := T) (R := fun g => w.heap.size + 2 ≤ g ∧ g ≠ T ∧ g ≠ D) (ts := []) (v := .slice none 0 0) (Nat.le_refl _) ⟨[], Made.nil _ _ _ _, rfl, (fun i r t hr ht => by simp at hr), hr⟩ ht (fun g hg => ⟨hs g hg, (hs g hg).2.1, fun e => by cases e⟩) hc hp
  have hc2 : Chg (fun k => k = T) w' (w'.setCell ⟨T, 1, none⟩ v') := Chg.setCell w' T 1 v' rfl
  have hbase := h.base.later hb
  have hbl := hbase.lt
  have hb2 : Below w.heap.size w (w'.setCell ⟨T, 1, none⟩ v') := hbase.bel.trans (chg_below hc2 (fun k hk => by omega) hbase.bel.size)
  refine ⟨⟨hb2, (hc2.block _ (by omega) (by omega)).trans hbase.z6, (hc2.block _ (by omega) (by omega)).trans hbase.z8⟩, hT, hD, obj_set ((hb.block _ (by omega)).trans h.obj) v', (hc2.block _ (Nat.lt_of_lt_of_le hl hb.size) (by omega)).trans ((hb.block _ hl).trans h.dia), ?_⟩
  refine TV.mk' (SV.nil _ _) (((hown.store (by omega) v').mono (R' := fun g => w.heap.size + 2 ≤ g ∧ g ≠ T ∧ g ≠ D) fun g _ hg => hg).read (fun g hg => by omega) (by simp))
theorem SI.setD (h : SI T D w wr k ve vn t dk da) : SI T D w (((wr.setCell ⟨D, 0, none⟩ (.int .i64 dk')).setCell ⟨D, 1, none⟩ (.int .i64 da')).setCell ⟨D, 2, none⟩ (.string ⟨#[]⟩)) k ve vn t dk' da' := by
  have hl := h.lt
  have hD := h.hD
  have hT := h.hT
  have hc := chg_store3 wr D (.int .i64 dk') (.int .i64 da') (.string ⟨#[]⟩)
  exact ⟨h.base.store (by omega), h.hT, h.hD, (hc.block _ (by omega) (by omega)).trans h.obj, obj_set (obj_set (obj_set h.dia _) _) _, store3_tv h.tv (fun h => h.2.2 rfl) (fun g hg => hg) _ _ _⟩
end
theorem robj_err {s : ByteArray} {f p : Nat} {e : Int × Nat} (HOK : RdOk s (readP s f) (33 - f)) (hf : f + 1 ≤ 32) (h : robjP s (readP s f) p = .error e) (hp : p ≤ s.size) : ErrOk s e := by
  unfold robjP at h
  cases h5 : signP s p 123 with
  | error e' => rw [h5] at h; cases h; exact sign_err h5 hp
  | ok q =>
    rw [h5] at h
    exact (obj_ok s (readP s f) (32 - f) (by rw [show (32 - (f : Int) + 1) = 33 - f by omega]; exact HOK) (by omega) q (sign_ok h5 hp).2).2 _ h
theorem robj_okp {s : ByteArray} {f p p4 : Nat} {t : Ty} (HOK : RdOk s (readP s f) (33 - f)) (hf : f + 1 ≤ 32) (h : robjP s (readP s f) p = .ok (t, p4)) (hp : p ≤ s.size) : p4 ≤ s.size := by
  unfold robjP at h
  cases h5 : signP s p 123 with
  | error e' => rw [h5] at h; cases h
  | ok q =>
    rw [h5] at h
    exact ((obj_ok s (readP s f) (32 - f) (by rw [show (32 - (f : Int) + 1) = 33 - f by omega]; exact HOK) (by omega) q (sign_ok h5 hp).2).1 _ _ h).2.2.1
section
variable {s : ByteArray} {f p j p2 p4 p5 : Nat} {e : Int × Nat} {t : Ty}
theorem ro_e (h : readyP s p = .ok j) (h2 : kindO (s.extract j (wordE s j)) = some 6) (h3 : signP s (wordE s j) 40 = .ok p2) (h4 : robjP s (readP s f) p2 = .error e) : readP s (f + 1) p = .error e := by
  unfold robjP at h4
  cases h5 : signP s p2 123 with
  | error e' => rw [h5] at h4; cases h4; exact ro_2 h h2 h3 h5
  | ok q => rw [h5] at h4; exact ro_3 h h2 h3 h5 h4
theorem ro_f (h : readyP s p = .ok j) (h2 : kindO (s.extract j (wordE s j)) = some 6) (h3 : signP s (wordE s j) 40 = .ok p2) (h4 : robjP s (readP s f) p2 = .ok (t, p4)) (h6 : signP s p4 41 = .error e) : readP s (f + 1) p = .error e := by
  unfold robjP at h4
  cases h5 : signP s p2 123 with
  | error e' => rw [h5] at h4; cases h4
  | ok q => rw [h5] at h4; exact ro_4 h h2 h3 h5 h4 h6
theorem ro_g (h : readyP s p = .ok j) (h2 : kindO (s.extract j (wordE s j)) = some 6) (h3 : signP s (wordE s j) 40 = .ok p2) (h4 : robjP s (readP s f) p2 = .ok (t, p4)) (h6 : signP s p4 41 = .ok p5) : readP s (f + 1) p = .ok (t, p5) := by
  unfold robjP at h4
  cases h5 : signP s p2 123 with
  | error e' => rw [h5] at h4; cases h4
  | ok q => rw [h5] at h4; exact ro_5 h h2 h3 h5 h4 h6
end
set_option maxRecDepth 100000 in
set_option maxHeartbeats 20000000 in
theorem rread_step (s : ByteArray) (f : Nat) (hs : s.size ≤ 65536) (hf : f ≤ 32) (HRD : ∀ g, g < f → RReadAt s g) (HRO : ∀ g, g < f → RObjAt s g) : RReadAt s f := by
  intro w p hp
  generalize hA : w.alloc (.cells #[.int .i64 0, .slice none 0 0, .slice none 0 0] 26) = wa
  have hao : wa.heap[w.heap.size]? = some (.cells #[.int .i64 0, .slice none 0 0, .slice none 0 0] 26) := by rw [← hA]; exact heap_alloc_at w _
  have has : wa.heap.size = w.heap.size + 1 := by rw [← hA]; simp
  have ha : Below w.heap.size w wa := by rw [← hA]; exact (Below.refl _ _).alloc (Nat.le_refl _) _
  generalize hB : wa.alloc (.cells #[.int .i64 0, .int .i64 0, .string ⟨#[]⟩] 33) = wb
  have hbo : wb.heap[w.heap.size + 1]? = some (.cells #[.int .i64 0, .int .i64 0, .string ⟨#[]⟩] 33) := by rw [← hB, ← has]; exact heap_alloc_at wa _
  have hb : Below wa.heap.size wa wb := by rw [← hB]; exact (Below.refl _ _).alloc (Nat.le_refl _) _
  have HI := hid (show BI w wb from ⟨ha.trans (hb.mono ha.size), (hb.block _ (by omega)).trans hao, hbo⟩)
  have HA := hid hA
  have HB := hid hB
  obtain ⟨L, hL⟩ : ∃ L : Int, (33 - (f : Int)) = L := ⟨_, rfl⟩
  rw [hL]
  have hL1 : 1 ≤ L := by omega
  have hL2 : L ≤ 33 := by omega
  have HL := hid hL
  have HR := hid HRD
  have HO := hid HRO
  clear hA hB hao has ha hbo hb hL HRD HRO
  have HSK := hid (rskip_any s p wb hp (by omega))
  obtain ⟨j, hj⟩ : ∃ j, skipN s p = j := ⟨_, rfl⟩
  have hge := skipN_ge hp
  rw [hj] at HSK hge
  have HJ := hid hj
  have hj0 : (0 : Int) ≤ (j : Int) := by omega
  clear hj
  go_enter Tryd.func35, Tryd.ntmps35
  go_wp2_with fail
  rw [HA.out, HB.out]
  refine HSK.out.mono ?_
  rintro e w2' ⟨rfl, rfl⟩
  clear HA HB HSK
  by_cases hlt : j < s.size
  case neg =>
    have hjs : j = s.size := by omega
    have HE := hid (rp_1 (f := f) (show readyP s p = .error (40, s.size) by unfold readyP; rw [HJ.out, if_neg hlt, hjs]))
    have c1 : decide ((j : Int) ≥ (s.size : Int)) = true := decide_eq_true (by omega)
    clear hjs
    go_wp2_with fail
    refine (bad_any 40 s.size _).mono ?_
    rintro e wb ⟨rfl, hb⟩
    have HIB := HI.out.later hb
    clear hb
    have f0 := (cells_in HIB.z6 0).trans rfl
    have f1 := (cells_in HIB.z6 1).trans rfl
    have f2 := (cells_in HIB.z6 2).trans rfl
    have ff := frozen_in HIB.z6
    have g0 := (cells_in HIB.z8 0).trans rfl
    have g1 := (cells_in HIB.z8 1).trans rfl
    have g2 := (cells_in HIB.z8 2).trans rfl
    have gf := frozen_in HIB.z8
    go_wp2_with fail
    try simp only [Exit.inBlock, Exit.then]
    refine bodyPost_ret (v := .tuple #[.agg #[.int .i64 0, .slice none 0 0, .slice none 0 0], .int .i64 0, dg 40 s.size]) (by simp [results, Tryd.results35, go_sem, f0, f1, f2, g0, g1, g2, dg]) rfl ?_
    have OUT := hid (HIB.out (u := .agg #[.int .i64 0, .slice none 0 0, .slice none 0 0]) (x := .int .i64 0) (y := .slice none 0 0) (z := .slice none 0 0) (a := .int .i64 40) (b := .int .i64 s.size) (c := .string ⟨#[]⟩) (TV.any0 _ _))
    exact ⟨OUT.out.2, _, _, OUT.out.1, .inr ⟨40, s.size, HE.out, rfl⟩⟩
  have HR1 := hid (show readyP s p = .ok j by unfold readyP; rw [HJ.out, if_pos hlt])
  have c1 : decide ((j : Int) ≥ (s.size : Int)) = false := decide_eq_false (by omega)
  have HWD := hid (rword2_any s j wb (by omega) (by omega))
  obtain ⟨we1, we2⟩ := wordE_le (s := s) (p := j) (by omega)
  have hxs : (s.extract j (wordE s j)).size = wordE s j - j := by rw [ByteArray.size_extract]; omega
  go_wp2_with fail
  refine HWD.out.mono ?_
  rintro e w2' ⟨rfl, rfl⟩
  clear HWD
  obtain ⟨x, hx⟩ : ∃ x, s.extract j (wordE s j) = x := ⟨_, rfl⟩
  rw [hx] at hxs ⊢
  have HX := hid hx
  clear hx
  obtain ⟨we, hwe⟩ : ∃ we, wordE s j = we := ⟨_, rfl⟩
  rw [hwe] at hxs we1 we2
  have HWE := hid hwe
  clear hwe
  have HK := hid (rkind_any x wb)
  go_wp2_with fail
  refine HK.out.mono ?_
  rintro e w3 ⟨rfl, hb3⟩
  replace HI := hid (HI.out.later hb3)
  clear HK hb3
  cases hk : kindO x with
  | none =>
    have HE := hid (rp_2 (f := f) HR1.out (by rw [HX.out]; exact hk))
    rw [show kindI x = -1 by unfold kindI; rw [hk]]
    clear hk
    go_wp2_with fail
    refine (bad_any 2 j _).mono ?_
    rintro e wb ⟨rfl, hb⟩
    have HIB := HI.out.later hb
    clear hb
    have f0 := (cells_in HIB.z6 0).trans rfl
    have f1 := (cells_in HIB.z6 1).trans rfl
    have f2 := (cells_in HIB.z6 2).trans rfl
    have ff := frozen_in HIB.z6
    have g0 := (cells_in HIB.z8 0).trans rfl
    have g1 := (cells_in HIB.z8 1).trans rfl
    have g2 := (cells_in HIB.z8 2).trans rfl
    have gf := frozen_in HIB.z8
    go_wp2_with fail
    try simp only [Exit.inBlock, Exit.then]
    refine bodyPost_ret (v := .tuple #[.agg #[.int .i64 0, .slice none 0 0, .slice none 0 0], .int .i64 0, dg 2 j]) (by simp [results, Tryd.results35, go_sem, f0, f1, f2, g0, g1, g2, dg]) rfl ?_
    have OUT := hid (HIB.out (u := .agg #[.int .i64 0, .slice none 0 0, .slice none 0 0]) (x := .int .i64 0) (y := .slice none 0 0) (z := .slice none 0 0) (a := .int .i64 2) (b := .int .i64 j) (c := .string ⟨#[]⟩) (TV.any0 _ _))
    exact ⟨OUT.out.2, _, _, OUT.out.1, .inr ⟨2, j, HE.out, rfl⟩⟩
  | some kk =>
    obtain ⟨kk6, -⟩ := kindO_some hk
    have HKK := hid (show kindO (s.extract j (wordE s j)) = some kk by rw [HX.out]; exact hk)
    rw [show kindI x = kk by unfold kindI; rw [hk]]
    clear hk
    have c2 : decide ((kk : Int) < 0) = false := decide_eq_false (by omega)
    by_cases hf0 : f = 0
    · subst hf0
      have HE := hid (rp_3 HR1.out HKK.out)
      have hl := HL.out
      have c3 : decide (L > 32) = true := decide_eq_true (by omega)
      clear hl
      go_wp2_with fail
      refine (bad_any 4 j _).mono ?_
      rintro e wb ⟨rfl, hb⟩
      have HIB := HI.out.later hb
      clear hb
      have f0 := (cells_in HIB.z6 0).trans rfl
      have f1 := (cells_in HIB.z6 1).trans rfl
      have f2 := (cells_in HIB.z6 2).trans rfl
      have ff := frozen_in HIB.z6
      have g0 := (cells_in HIB.z8 0).trans rfl
      have g1 := (cells_in HIB.z8 1).trans rfl
      have g2 := (cells_in HIB.z8 2).trans rfl
      have gf := frozen_in HIB.z8
      go_wp2_with fail
      try simp only [Exit.inBlock, Exit.then]
      refine bodyPost_ret (v := .tuple #[.agg #[.int .i64 0, .slice none 0 0, .slice none 0 0], .int .i64 0, dg 4 j]) (by simp [results, Tryd.results35, go_sem, f0, f1, f2, g0, g1, g2, dg]) rfl ?_
      have OUT := hid (HIB.out (u := .agg #[.int .i64 0, .slice none 0 0, .slice none 0 0]) (x := .int .i64 0) (y := .slice none 0 0) (z := .slice none 0 0) (a := .int .i64 4) (b := .int .i64 j) (c := .string ⟨#[]⟩) (TV.any0 _ _))
      exact ⟨OUT.out.2, _, _, OUT.out.1, .inr ⟨4, j, HE.out, rfl⟩⟩
    obtain ⟨f, rfl⟩ : ∃ f', f = f' + 1 := ⟨f - 1, by omega⟩
    have HRR := hid (HR.out f (Nat.lt_succ_self _))
    have HRO := hid (HO.out f (Nat.lt_succ_self _))
    have HOK := hid (readP_ok s f (33 - f) (by omega))
    have hl := HL.out
    have hl3 : L ≤ 32 := by omega
    have HL4 := hid (show L + 1 = 33 - (f : Int) by omega)
    have HL5 := hid (show L = 32 - (f : Int) by omega)
    have c3 : decide (L > 32) = false := decide_eq_false (by omega)
    have HAD := hid (show (j : Int) + (x.size : Int) = (we : Int) by omega)
    have hb1 : (j : Int) + (x.size : Int) ≤ 9223372036854775807 := by omega
    clear hl hf0 hxs
    go_upto_region 11 with (fail)
    have hG : Below w3.heap.size w3 (w3.alloc (.cells #[.int .i64 kk, .slice none 0 0, .slice none 0 0] 26)) := (Below.refl _ _).alloc (Nat.le_refl _) _
    have TO := heap_alloc_at w3 (.cells #[.int .i64 kk, .slice none 0 0, .slice none 0 0] 26)
    generalize w3.alloc (.cells #[.int .i64 kk, .slice none 0 0, .slice none 0 0] 26) = w4 at *
    have hT := HI.out.lt
    have HI4 := hid (HI.out.later hG)
    have t0 := (cells_in TO 0).trans rfl
    have t1 := (cells_in TO 1).trans rfl
    have t2 := (cells_in TO 2).trans rfl
    clear hG HI
    by_cases hk4 : kk < 4
    · have HE := hid (rp_4 (f := f) HR1.out HKK.out hk4)
      rw [HWE.out] at HE
      have c4 : decide ((kk : Int) < 4) = true := decide_eq_true (by omega)
      have HIB := HI4.out
      have f0 := (cells_in HIB.z6 0).trans rfl
      have f1 := (cells_in HIB.z6 1).trans rfl
      have f2 := (cells_in HIB.z6 2).trans rfl
      have ff := frozen_in HIB.z6
      have g0 := (cells_in HIB.z8 0).trans rfl
      have g1 := (cells_in HIB.z8 1).trans rfl
      have g2 := (cells_in HIB.z8 2).trans rfl
      have gf := frozen_in HIB.z8
      go_wp2_with fail
      rw [HAD.out]
      go_wp2_with fail
      try simp only [Exit.inBlock, Exit.then]
      refine bodyPost_ret (v := .tuple #[.agg #[.int .i64 kk, .slice none 0 0, .slice none 0 0], .int .i64 we, dg 0 0]) (by simp [results, Tryd.results35, go_sem, f0, f1, f2, g0, g1, g2, dg]) rfl ?_
      have OUT := hid (HIB.out (u := .agg #[.int .i64 kk, .slice none 0 0, .slice none 0 0]) (x := .int .i64 kk) (y := .slice none 0 0) (z := .slice none 0 0) (a := .int .i64 0) (b := .int .i64 0) (c := .string ⟨#[]⟩) (TV.mk' (k := kk) (SV.nil _ _) (LV.nil _ _)))
      exact ⟨OUT.out.2, _, _, OUT.out.1, .inl ⟨we, HE.out, rfl⟩⟩
    have c4 : decide ((kk : Int) < 4) = false := decide_eq_false (by omega)
    have HSG := hid (rsign_any s we 40 w4 we2 (by omega))
    go_wp2_with fail
    rw [HAD.out]
    refine HSG.out.mono ?_
    rintro e w5 ⟨hb5, hpost⟩
    have HI5 := hid (HI4.out.later hb5)
    have TO5 := (hb5.block _ (Array.getElem?_eq_some_iff.1 TO).1).trans TO
    have HTL := hid (Nat.lt_of_lt_of_le (Array.getElem?_eq_some_iff.1 TO).1 hb5.size)
    clear hb5 HI4 TO t0 t1 t2 HSG
    rcases hpost with ⟨p2, a1, rfl⟩ | ⟨ek, at', a1, rfl⟩
    rotate_left
    · have HE := hid (show readP s (f + 1) p = .error (ek, at') by
        by_cases h45 : kk = 4 ∨ kk = 5
        · exact rl_1 HR1.out HKK.out h45 (by rw [HWE.out]; exact a1)
        · obtain rfl : kk = 6 := by omega
          exact ro_1 HR1.out HKK.out (by rw [HWE.out]; exact a1))
      have hk := (sign_err a1 we2).1
      clear a1
      try simp only [dg]
      go_upto_region 15 with (fail)
      have hG : Below w5.heap.size w5 (w5.alloc (.cells #[.int .i64 ek, .int .i64 at', .string ⟨#[]⟩] 33)) := (Below.refl _ _).alloc (Nat.le_refl _) _
      have hXO := heap_alloc_at w5 (.cells #[.int .i64 ek, .int .i64 at', .string ⟨#[]⟩] 33)
      generalize w5.alloc (.cells #[.int .i64 ek, .int .i64 at', .string ⟨#[]⟩] 33) = w6 at *
      have SI6 := hid (show SI w3.heap.size w5.heap.size w w6 kk (.slice none 0 0) (.slice none 0 0) (.mk kk [] []) ek at' from
        ⟨HI5.out.later hG, by omega, HTL.out, (hG.block _ HTL.out).trans TO5, hXO, TV.mk' (SV.nil _ _) (LV.nil _ _)⟩)
      clear hG hXO HI5 TO5
      have v0 := (cells_in SI6.out.dia 0).trans rfl
      have hk0 : ek ≠ 0 := by omega
      have d1 : decide (ek = 0) = false := decide_eq_false hk0
      have d2 : (ek == 0) = false := beq_eq_false_iff_ne.2 hk0
      have d3 : (ek != 0) = true := by rw [bne, d2]; rfl
      clear hk0 hk
      go_wp2_with fail
      have v1 := (cells_in SI6.out.dia 1).trans rfl
      have v2 := (cells_in SI6.out.dia 2).trans rfl
      refine wp_region_steady (fun v => v.cell? ⟨w5.heap.size, 0, none⟩ = some (.int .i64 ek) ∧ v.cell? ⟨w5.heap.size, 1, none⟩ = some (.int .i64 at') ∧ v.cell? ⟨w5.heap.size, 2, none⟩ = some (.string ⟨#[]⟩)) (by kernel_rfl) (by kernel_rfl) (⟨v0, v1, v2⟩) ?_
      repeat (first
        | (refine wpSteady_skip (by rfl) ?_; try simp only [Act.put, List.setIfInBounds_toArray, List.set_cons_zero, List.set_cons_succ])
        | (refine wpSteady_calm (v := ?_) (by rfl) ?_ ?_; rotate_left; (focus (intro v hSv; (try dsimp only at hSv); go_simp; (try with_reducible rfl); done)); try simp only [Act.put, List.setIfInBounds_toArray, List.set_cons_zero, List.set_cons_succ]))
      have SB := SI6.out.later (below_drew (Below.refl _ _))
      clear v0 v1 v2
      generalize w6.drew = wb at *
      have HIB := SB.base
      have v0 := (cells_in SB.dia 0).trans rfl
      have v1 := (cells_in SB.dia 1).trans rfl
      have v2 := (cells_in SB.dia 2).trans rfl
      have hTT := SB.hT
      have hDD := SB.hD
      have f0 := (cells_in HIB.z6 0).trans rfl
      have f1 := (cells_in HIB.z6 1).trans rfl
      have f2 := (cells_in HIB.z6 2).trans rfl
      have ff := frozen_in HIB.z6
      have g0 := (cells_in HIB.z8 0).trans rfl
      have g1 := (cells_in HIB.z8 1).trans rfl
      have g2 := (cells_in HIB.z8 2).trans rfl
      have gf := frozen_in HIB.z8
      refine wpSteady_loud rfl (by rfl) (fun K hK => ?_)
      go_simp
      have hc3 := chg_store3 wb w.heap.size (.int .i64 0) (.slice none 0 0) (.slice none 0 0)
      refine hK.out _ _ (⟨chg_cell hc3 (by omega) v0, chg_cell hc3 (by omega) v1, chg_cell hc3 (by omega) v2⟩) ?_
      clear hK K
      try simp only [Act.put, List.setIfInBounds_toArray, List.set_cons_zero, List.set_cons_succ]
      repeat (first
        | (refine wpSteady_skip (by rfl) ?_; try simp only [Act.put, List.setIfInBounds_toArray, List.set_cons_zero, List.set_cons_succ])
        | (refine wpSteady_calm (v := ?_) (by rfl) ?_ ?_; rotate_left; (focus (intro v hSv; (try dsimp only at hSv); go_simp; (try with_reducible rfl); done)); try simp only [Act.put, List.setIfInBounds_toArray, List.set_cons_zero, List.set_cons_succ]))
      refine wpSteady_loud rfl (by rfl) (fun K hK => ?_)
      go_simp
      have hc5 := chg_store3 (((wb.setCell ⟨w.heap.size, 0, none⟩ (.int .i64 0)).setCell ⟨w.heap.size, 1, none⟩ (.slice none 0 0)).setCell ⟨w.heap.size, 2, none⟩ (.slice none 0 0)) (w.heap.size + 1) (.int .i64 ek) (.int .i64 at') (.string ⟨#[]⟩)
      refine hK.out _ _ (⟨chg_cell hc5 (by omega) (chg_cell hc3 (by omega) v0), chg_cell hc5 (by omega) (chg_cell hc3 (by omega) v1), chg_cell hc5 (by omega) (chg_cell hc3 (by omega) v2)⟩) ?_
      clear hK K
      try simp only [Act.put, List.setIfInBounds_toArray, List.set_cons_zero, List.set_cons_succ]
      refine wpSteady_nil ?_
      clear v0 v1 v2 hc3 hc5
      go_wp2_with fail
      try simp only [Exit.inBlock, Exit.then]
      refine bodyPost_ret (v := .tuple #[.agg #[.int .i64 0, .slice none 0 0, .slice none 0 0], .int .i64 0, dg ek at']) (by simp [results, Tryd.results35, go_sem, f0, f1, f2, g0, g1, g2, dg]) rfl ?_
      have OUT := hid (HIB.out (u := .agg #[.int .i64 0, .slice none 0 0, .slice none 0 0]) (x := .int .i64 0) (y := .slice none 0 0) (z := .slice none 0 0) (a := .int .i64 ek) (b := .int .i64 at') (c := .string ⟨#[]⟩) (TV.any0 _ _))
      exact ⟨OUT.out.2, _, _, OUT.out.1, .inr ⟨_, _, HE.out, rfl⟩⟩
    obtain ⟨p2a, p2b⟩ := sign_ok a1 we2
    have A2 := hid (show signP s (wordE s j) 40 = .ok p2 by rw [HWE.out]; exact a1)
    clear a1
    try simp only [dg]
    go_upto_region 15 with (fail)
    have hG : Below w5.heap.size w5 (w5.alloc (.cells #[.int .i64 0, .int .i64 0, .string ⟨#[]⟩] 33)) := (Below.refl _ _).alloc (Nat.le_refl _) _
    have hXO := heap_alloc_at w5 (.cells #[.int .i64 0, .int .i64 0, .string ⟨#[]⟩] 33)
    generalize w5.alloc (.cells #[.int .i64 0, .int .i64 0, .string ⟨#[]⟩] 33) = w6 at *
    have SI6 := hid (show SI w3.heap.size w5.heap.size w w6 kk (.slice none 0 0) (.slice none 0 0) (.mk kk [] []) 0 0 from
      ⟨HI5.out.later hG, by omega, HTL.out, (hG.block _ HTL.out).trans TO5, hXO, TV.mk' (SV.nil _ _) (LV.nil _ _)⟩)
    clear hG hXO HI5 TO5
    have v0 := (cells_in SI6.out.dia 0).trans rfl
    have t0 := (cells_in SI6.out.obj 0).trans rfl
    by_cases hk6 : kk = 6
    · subst hk6
      have HOBJ := hid (HRO.out w6 p2 p2b)
      clear c4 hk4
      go_wp2_with fail
      rw [HL5.out]
      refine HOBJ.out.mono ?_
      rintro e w7 ⟨hb7, u, t, hu, hpost⟩
      obtain ⟨k4, es4, ns4⟩ := t
      obtain ⟨ve4, vn4, rfl, hE4, hN4⟩ := hu.out
      obtain ⟨oe4, ce4, rfl⟩ := hE4.len
      obtain ⟨on4, cn4, rfl⟩ := hN4.len
      have SI7 := hid (SI6.out.later hb7)
      have HU := hid (hu.mono (Q := fun g => w.heap.size + 2 ≤ g ∧ g ≠ w3.heap.size ∧ g ≠ w5.heap.size) fun g hg => by have := SI6.out.lt; have := SI6.out.hT; have := SI6.out.hD; omega)
      clear hu hE4 hN4 hb7 v0 t0 HOBJ
      rcases hpost with ⟨p4, a1, rfl⟩ | ⟨ek, at', a1, rfl⟩
      rotate_left
      · have HE := hid (ro_e HR1.out HKK.out A2.out a1)
        have hk := (robj_err HOK.out hf a1 p2b).1
        clear a1
        have t0 := (cells_in SI7.out.obj 0).trans rfl
        have t1 := (cells_in SI7.out.obj 1).trans rfl
        have t2 := (cells_in SI7.out.obj 2).trans rfl
        have tf := frozen_in SI7.out.obj
        have y0 := (cells_in SI7.out.dia 0).trans rfl
        have y1 := (cells_in SI7.out.dia 1).trans rfl
        have y2 := (cells_in SI7.out.dia 2).trans rfl
        have yf := frozen_in SI7.out.dia
        have hne1 : ¬ w5.heap.size = w3.heap.size := by have := SI7.out.hD; omega
        have hne2 : ¬ w3.heap.size = w5.heap.size := by have := SI7.out.hD; omega
        have SI9 := hid ((SI7.out.setT (k' := k4) HU.out).setD (dk' := ek) (da' := at'))
        clear SI7 HU
        try simp only [dg]
        go_upto_region 22 with (fail)
        generalize ((((((w7.setCell ⟨w3.heap.size, 0, none⟩ (.int .i64 k4)).setCell ⟨w3.heap.size, 1, none⟩ (.slice oe4 es4.length ce4)).setCell ⟨w3.heap.size, 2, none⟩ (.slice on4 ns4.length cn4)).setCell ⟨w5.heap.size, 0, none⟩ (.int .i64 ek)).setCell ⟨w5.heap.size, 1, none⟩ (.int .i64 at')).setCell ⟨w5.heap.size, 2, none⟩ (.string ⟨#[]⟩)) = w8 at *
        clear t0 t1 t2 tf y0 y1 y2 yf
        have v0 := (cells_in SI9.out.dia 0).trans rfl
        have hk0 : ek ≠ 0 := by omega
        have d1 : decide (ek = 0) = false := decide_eq_false hk0
        have d2 : (ek == 0) = false := beq_eq_false_iff_ne.2 hk0
        have d3 : (ek != 0) = true := by rw [bne, d2]; rfl
        clear hk0 hk
        go_wp2_with fail
        have v1 := (cells_in SI9.out.dia 1).trans rfl
        have v2 := (cells_in SI9.out.dia 2).trans rfl
        refine wp_region_steady (fun v => v.cell? ⟨w5.heap.size, 0, none⟩ = some (.int .i64 ek) ∧ v.cell? ⟨w5.heap.size, 1, none⟩ = some (.int .i64 at') ∧ v.cell? ⟨w5.heap.size, 2, none⟩ = some (.string ⟨#[]⟩)) (by kernel_rfl) (by kernel_rfl) (⟨v0, v1, v2⟩) ?_
        repeat (first
          | (refine wpSteady_skip (by rfl) ?_; try simp only [Act.put, List.setIfInBounds_toArray, List.set_cons_zero, List.set_cons_succ])
          | (refine wpSteady_calm (v := ?_) (by rfl) ?_ ?_; rotate_left; (focus (intro v hSv; (try dsimp only at hSv); go_simp; (try with_reducible rfl); done)); try simp only [Act.put, List.setIfInBounds_toArray, List.set_cons_zero, List.set_cons_succ]))
        have SB := SI9.out.later (below_drew (Below.refl _ _))
        clear v0 v1 v2
        generalize w8.drew = wb at *
        have HIB := SB.base
        have v0 := (cells_in SB.dia 0).trans rfl
        have v1 := (cells_in SB.dia 1).trans rfl
        have v2 := (cells_in SB.dia 2).trans rfl
        have hTT := SB.hT
        have hDD := SB.hD
        have f0 := (cells_in HIB.z6 0).trans rfl
        have f1 := (cells_in HIB.z6 1).trans rfl
        have f2 := (cells_in HIB.z6 2).trans rfl
        have ff := frozen_in HIB.z6
        have g0 := (cells_in HIB.z8 0).trans rfl
        have g1 := (cells_in HIB.z8 1).trans rfl
        have g2 := (cells_in HIB.z8 2).trans rfl
        have gf := frozen_in HIB.z8
        refine wpSteady_loud rfl (by rfl) (fun K hK => ?_)
        go_simp
        have hc3 := chg_store3 wb w.heap.size (.int .i64 0) (.slice none 0 0) (.slice none 0 0)
        refine hK.out _ _ (⟨chg_cell hc3 (by omega) v0, chg_cell hc3 (by omega) v1, chg_cell hc3 (by omega) v2⟩) ?_
        clear hK K
        try simp only [Act.put, List.setIfInBounds_toArray, List.set_cons_zero, List.set_cons_succ]
        repeat (first
          | (refine wpSteady_skip (by rfl) ?_; try simp only [Act.put, List.setIfInBounds_toArray, List.set_cons_zero, List.set_cons_succ])
          | (refine wpSteady_calm (v := ?_) (by rfl) ?_ ?_; rotate_left; (focus (intro v hSv; (try dsimp only at hSv); go_simp; (try with_reducible rfl); done)); try simp only [Act.put, List.setIfInBounds_toArray, List.set_cons_zero, List.set_cons_succ]))
        refine wpSteady_loud rfl (by rfl) (fun K hK => ?_)
        go_simp
        have hc5 := chg_store3 (((wb.setCell ⟨w.heap.size, 0, none⟩ (.int .i64 0)).setCell ⟨w.heap.size, 1, none⟩ (.slice none 0 0)).setCell ⟨w.heap.size, 2, none⟩ (.slice none 0 0)) (w.heap.size + 1) (.int .i64 ek) (.int .i64 at') (.string ⟨#[]⟩)
        refine hK.out _ _ (⟨chg_cell hc5 (by omega) (chg_cell hc3 (by omega) v0), chg_cell hc5 (by omega) (chg_cell hc3 (by omega) v1), chg_cell hc5 (by omega) (chg_cell hc3 (by omega) v2)⟩) ?_
        clear hK K
        try simp only [Act.put, List.setIfInBounds_toArray, List.set_cons_zero, List.set_cons_succ]
        refine wpSteady_nil ?_
        clear v0 v1 v2 hc3 hc5
        go_wp2_with fail
        try simp only [Exit.inBlock, Exit.then]
        refine bodyPost_ret (v := .tuple #[.agg #[.int .i64 0, .slice none 0 0, .slice none 0 0], .int .i64 0, dg ek at']) (by simp [results, Tryd.results35, go_sem, f0, f1, f2, g0, g1, g2, dg]) rfl ?_
        have OUT := hid (HIB.out (u := .agg #[.int .i64 0, .slice none 0 0, .slice none 0 0]) (x := .int .i64 0) (y := .slice none 0 0) (z := .slice none 0 0) (a := .int .i64 ek) (b := .int .i64 at') (c := .string ⟨#[]⟩) (TV.any0 _ _))
        exact ⟨OUT.out.2, _, _, OUT.out.1, .inr ⟨_, _, HE.out, rfl⟩⟩
      have p4b := robj_okp HOK.out hf a1 p2b
      have A4 := hid a1
      clear a1
      have t0 := (cells_in SI7.out.obj 0).trans rfl
      have t1 := (cells_in SI7.out.obj 1).trans rfl
      have t2 := (cells_in SI7.out.obj 2).trans rfl
      have tf := frozen_in SI7.out.obj
      have y0 := (cells_in SI7.out.dia 0).trans rfl
      have y1 := (cells_in SI7.out.dia 1).trans rfl
      have y2 := (cells_in SI7.out.dia 2).trans rfl
      have yf := frozen_in SI7.out.dia
      have hne1 : ¬ w5.heap.size = w3.heap.size := by have := SI7.out.hD; omega
      have hne2 : ¬ w3.heap.size = w5.heap.size := by have := SI7.out.hD; omega
      have SI9 := hid ((SI7.out.setT (k' := k4) HU.out).setD (dk' := 0) (da' := 0))
      clear SI7 HU
      try simp only [dg]
      go_upto_region 22 with (fail)
      generalize ((((((w7.setCell ⟨w3.heap.size, 0, none⟩ (.int .i64 k4)).setCell ⟨w3.heap.size, 1, none⟩ (.slice oe4 es4.length ce4)).setCell ⟨w3.heap.size, 2, none⟩ (.slice on4 ns4.length cn4)).setCell ⟨w5.heap.size, 0, none⟩ (.int .i64 0)).setCell ⟨w5.heap.size, 1, none⟩ (.int .i64 0)).setCell ⟨w5.heap.size, 2, none⟩ (.string ⟨#[]⟩)) = w8 at *
      clear t0 t1 t2 tf y0 y1 y2 yf
      have v0 := (cells_in SI9.out.dia 0).trans rfl
      have HSG3 := hid (rsign_any s p4 41 w8 p4b (by omega))
      go_wp2_with fail
      refine HSG3.out.mono ?_
      rintro e w9 ⟨hb9, (⟨p5, a1, rfl⟩ | ⟨ek, at', a1, rfl⟩)⟩
      · have HE := hid (ro_g HR1.out HKK.out A2.out A4.out a1)
        clear a1 v0 HSG3
        have SI10 := hid (SI9.out.later hb9)
        have y0 := (cells_in SI10.out.dia 0).trans rfl
        have y1 := (cells_in SI10.out.dia 1).trans rfl
        have y2 := (cells_in SI10.out.dia 2).trans rfl
        have yf := frozen_in SI10.out.dia
        have SI11 := hid (SI10.out.setD (dk' := 0) (da' := 0))
        clear SI10 hb9
        try simp only [dg]
        go_upto_region 25 with (fail)
        generalize (((w9.setCell ⟨w5.heap.size, 0, none⟩ (.int .i64 0)).setCell ⟨w5.heap.size, 1, none⟩ (.int .i64 0)).setCell ⟨w5.heap.size, 2, none⟩ (.string ⟨#[]⟩)) = w10 at *
        clear y0 y1 y2 yf
        have v0 := (cells_in SI11.out.dia 0).trans rfl
        have HIB := SI11.out.base
        have t0 := (cells_in SI11.out.obj 0).trans rfl
        have t1 := (cells_in SI11.out.obj 1).trans rfl
        have t2 := (cells_in SI11.out.obj 2).trans rfl
        have f0 := (cells_in HIB.z6 0).trans rfl
        have f1 := (cells_in HIB.z6 1).trans rfl
        have f2 := (cells_in HIB.z6 2).trans rfl
        have ff := frozen_in HIB.z6
        have g0 := (cells_in HIB.z8 0).trans rfl
        have g1 := (cells_in HIB.z8 1).trans rfl
        have g2 := (cells_in HIB.z8 2).trans rfl
        have gf := frozen_in HIB.z8
        go_wp2_with fail
        try simp only [Exit.inBlock, Exit.then]
        refine bodyPost_ret (v := .tuple #[.agg #[.int .i64 k4, .slice oe4 es4.length ce4, .slice on4 ns4.length cn4], .int .i64 p5, dg 0 0]) (by simp [results, Tryd.results35, go_sem, f0, f1, f2, g0, g1, g2, dg]) rfl ?_
        have OUT := hid (HIB.out (u := .agg #[.int .i64 k4, .slice oe4 es4.length ce4, .slice on4 ns4.length cn4]) (x := .int .i64 k4) (y := .slice oe4 es4.length ce4) (z := .slice on4 ns4.length cn4) (a := .int .i64 0) (b := .int .i64 0) (c := .string ⟨#[]⟩) (SI11.out.tv.mono fun g hg => hg.1))
        exact ⟨OUT.out.2, _, _, OUT.out.1, .inl ⟨p5, HE.out, rfl⟩⟩
      · have HE := hid (ro_f HR1.out HKK.out A2.out A4.out a1)
        have hk := (sign_err a1 p4b).1
        clear a1 v0 HSG3
        have SI10 := hid (SI9.out.later hb9)
        have y0 := (cells_in SI10.out.dia 0).trans rfl
        have y1 := (cells_in SI10.out.dia 1).trans rfl
        have y2 := (cells_in SI10.out.dia 2).trans rfl
        have yf := frozen_in SI10.out.dia
        have SI11 := hid (SI10.out.setD (dk' := ek) (da' := at'))
        clear SI10 hb9
        try simp only [dg]
        go_upto_region 25 with (fail)
        generalize (((w9.setCell ⟨w5.heap.size, 0, none⟩ (.int .i64 ek)).setCell ⟨w5.heap.size, 1, none⟩ (.int .i64 at')).setCell ⟨w5.heap.size, 2, none⟩ (.string ⟨#[]⟩)) = w10 at *
        clear y0 y1 y2 yf
        have v0 := (cells_in SI11.out.dia 0).trans rfl
        have hk0 : ek ≠ 0 := by omega
        have d1 : decide (ek = 0) = false := decide_eq_false hk0
        have d2 : (ek == 0) = false := beq_eq_false_iff_ne.2 hk0
        have d3 : (ek != 0) = true := by rw [bne, d2]; rfl
        clear hk0 hk
        go_wp2_with fail
        have v1 := (cells_in SI11.out.dia 1).trans rfl
        have v2 := (cells_in SI11.out.dia 2).trans rfl
        refine wp_region_steady (fun v => v.cell? ⟨w5.heap.size, 0, none⟩ = some (.int .i64 ek) ∧ v.cell? ⟨w5.heap.size, 1, none⟩ = some (.int .i64 at') ∧ v.cell? ⟨w5.heap.size, 2, none⟩ = some (.string ⟨#[]⟩)) (by kernel_rfl) (by kernel_rfl) (⟨v0, v1, v2⟩) ?_
        repeat (first
          | (refine wpSteady_skip (by rfl) ?_; try simp only [Act.put, List.setIfInBounds_toArray, List.set_cons_zero, List.set_cons_succ])
          | (refine wpSteady_calm (v := ?_) (by rfl) ?_ ?_; rotate_left; (focus (intro v hSv; (try dsimp only at hSv); go_simp; (try with_reducible rfl); done)); try simp only [Act.put, List.setIfInBounds_toArray, List.set_cons_zero, List.set_cons_succ]))
        have SB := SI11.out.later (below_drew (Below.refl _ _))
        clear v0 v1 v2
        generalize w10.drew = wb at *
        have HIB := SB.base
        have v0 := (cells_in SB.dia 0).trans rfl
        have v1 := (cells_in SB.dia 1).trans rfl
        have v2 := (cells_in SB.dia 2).trans rfl
        have hTT := SB.hT
        have hDD := SB.hD
        have f0 := (cells_in HIB.z6 0).trans rfl
        have f1 := (cells_in HIB.z6 1).trans rfl
        have f2 := (cells_in HIB.z6 2).trans rfl
        have ff := frozen_in HIB.z6
        have g0 := (cells_in HIB.z8 0).trans rfl
        have g1 := (cells_in HIB.z8 1).trans rfl
        have g2 := (cells_in HIB.z8 2).trans rfl
        have gf := frozen_in HIB.z8
        refine wpSteady_loud rfl (by rfl) (fun K hK => ?_)
        go_simp
        have hc3 := chg_store3 wb w.heap.size (.int .i64 0) (.slice none 0 0) (.slice none 0 0)
        refine hK.out _ _ (⟨chg_cell hc3 (by omega) v0, chg_cell hc3 (by omega) v1, chg_cell hc3 (by omega) v2⟩) ?_
        clear hK K
        try simp only [Act.put, List.setIfInBounds_toArray, List.set_cons_zero, List.set_cons_succ]
        repeat (first
          | (refine wpSteady_skip (by rfl) ?_; try simp only [Act.put, List.setIfInBounds_toArray, List.set_cons_zero, List.set_cons_succ])
          | (refine wpSteady_calm (v := ?_) (by rfl) ?_ ?_; rotate_left; (focus (intro v hSv; (try dsimp only at hSv); go_simp; (try with_reducible rfl); done)); try simp only [Act.put, List.setIfInBounds_toArray, List.set_cons_zero, List.set_cons_succ]))
        refine wpSteady_loud rfl (by rfl) (fun K hK => ?_)
        go_simp
        have hc5 := chg_store3 (((wb.setCell ⟨w.heap.size, 0, none⟩ (.int .i64 0)).setCell ⟨w.heap.size, 1, none⟩ (.slice none 0 0)).setCell ⟨w.heap.size, 2, none⟩ (.slice none 0 0)) (w.heap.size + 1) (.int .i64 ek) (.int .i64 at') (.string ⟨#[]⟩)
        refine hK.out _ _ (⟨chg_cell hc5 (by omega) (chg_cell hc3 (by omega) v0), chg_cell hc5 (by omega) (chg_cell hc3 (by omega) v1), chg_cell hc5 (by omega) (chg_cell hc3 (by omega) v2)⟩) ?_
        clear hK K
        try simp only [Act.put, List.setIfInBounds_toArray, List.set_cons_zero, List.set_cons_succ]
        refine wpSteady_nil ?_
        clear v0 v1 v2 hc3 hc5
        go_wp2_with fail
        try simp only [Exit.inBlock, Exit.then]
        refine bodyPost_ret (v := .tuple #[.agg #[.int .i64 0, .slice none 0 0, .slice none 0 0], .int .i64 0, dg ek at']) (by simp [results, Tryd.results35, go_sem, f0, f1, f2, g0, g1, g2, dg]) rfl ?_
        have OUT := hid (HIB.out (u := .agg #[.int .i64 0, .slice none 0 0, .slice none 0 0]) (x := .int .i64 0) (y := .slice none 0 0) (z := .slice none 0 0) (a := .int .i64 ek) (b := .int .i64 at') (c := .string ⟨#[]⟩) (TV.any0 _ _))
        exact ⟨OUT.out.2, _, _, OUT.out.1, .inr ⟨_, _, HE.out, rfl⟩⟩
    have H45 := hid (show kk = 4 ∨ kk = 5 by omega)
    have c5 : decide ((kk : Int) = 6) = false := decide_eq_false (by omega)
    have c6 : ((kk : Int) == 6) = false := beq_eq_false_iff_ne.2 (by omega)
    go_upto_region 20 with (fail)
    have hG : Below w6.heap.size w6 (w6.alloc (.cells #[.int .i64 0, .slice none 0 0, .slice none 0 0] 26)) := (Below.refl _ _).alloc (Nat.le_refl _) _
    have EO := heap_alloc_at w6 (.cells #[.int .i64 0, .slice none 0 0, .slice none 0 0] 26)
    generalize w6.alloc (.cells #[.int .i64 0, .slice none 0 0, .slice none 0 0] 26) = w7 at *
    have SI7 := hid (SI6.out.later hG)
    have hDE := SI6.out.lt
    have hEl := (Array.getElem?_eq_some_iff.1 EO).1
    clear hG SI6 c4 hk4 hk6 t0 v0
    have HRD := hid (HRR.out w7 p2 p2b)
    go_wp2_with fail
    rw [HL4.out]
    refine HRD.out.mono ?_
    rintro e w11 ⟨hb7, u, t, hu, hpost⟩
    obtain ⟨k4, es4, ns4⟩ := t
    obtain ⟨ve4, vn4, rfl, hE4, hN4⟩ := hu.out
    obtain ⟨oe4, ce4, rfl⟩ := hE4.len
    obtain ⟨on4, cn4, rfl⟩ := hN4.len
    have SI8 := hid (SI7.out.later hb7)
    have EO8 := (hb7.block _ hEl).trans EO
    have HU := hid hu
    have HW7 := hid hEl
    have HW11 := hid hb7.size
    clear hu hE4 hN4 hb7 HRD EO SI7
    rcases hpost with ⟨p4, a1, rfl⟩ | ⟨ek, at', a1, rfl⟩
    rotate_left
    · have HE := hid (rl_2 HR1.out HKK.out H45.out A2.out a1)
      have hk := ((HOK.out p2 p2b).2 _ a1).1
      clear a1
      have t0 := (cells_in SI8.out.dia 0).trans rfl
      have t1 := (cells_in SI8.out.dia 1).trans rfl
      have t2 := (cells_in SI8.out.dia 2).trans rfl
      have tf := frozen_in SI8.out.dia
      have y0 := (cells_in EO8 0).trans rfl
      have y1 := (cells_in EO8 1).trans rfl
      have y2 := (cells_in EO8 2).trans rfl
      have yf := frozen_in EO8
      have hne1 : ¬ w5.heap.size = w6.heap.size := by omega
      have hne2 : ¬ w6.heap.size = w5.heap.size := by omega
      have SIE := hid ((SI8.out.setE (E := w6.heap.size) (x := .int .i64 k4) (y := .slice oe4 es4.length ce4) (z := .slice on4 ns4.length cn4) hDE (TV.mk' (SV.nil _ _) (LV.nil _ _))).setD (dk' := ek) (da' := at'))
      have hcD := chg_store3 (((w11.setCell ⟨w6.heap.size, 0, none⟩ (.int .i64 k4)).setCell ⟨w6.heap.size, 1, none⟩ (.slice oe4 es4.length ce4)).setCell ⟨w6.heap.size, 2, none⟩ (.slice on4 ns4.length cn4)) w5.heap.size (.int .i64 ek) (.int .i64 at') (.string ⟨#[]⟩)
      have hcE := chg_store3 w11 w6.heap.size (.int .i64 k4) (.slice oe4 es4.length ce4) (.slice on4 ns4.length cn4)
      have EO9 := (hcD.block w6.heap.size (by have := HW7.out; have := HW11.out; have := hcE.size; omega) hne2).trans (obj_set (obj_set (obj_set EO8 (.int .i64 k4)) (.slice oe4 es4.length ce4)) (.slice on4 ns4.length cn4))
      have HU9 := hid (store3_tv (b := w5.heap.size) (Q := fun g => w7.heap.size ≤ g) (store3_tv (b := w6.heap.size) (Q := fun g => w7.heap.size ≤ g) HU.out (by have := HW7.out; omega) (fun g hg => hg) (.int .i64 k4) (.slice oe4 es4.length ce4) (.slice on4 ns4.length cn4)) (by have := HW7.out; omega) (fun g hg => hg) (.int .i64 ek) (.int .i64 at') (.string ⟨#[]⟩))
      clear hcD hcE SI8 EO8 HU
      try simp only [dg]
      go_upto_region 21 with (fail)
      generalize ((((((w11.setCell ⟨w6.heap.size, 0, none⟩ (.int .i64 k4)).setCell ⟨w6.heap.size, 1, none⟩ (.slice oe4 es4.length ce4)).setCell ⟨w6.heap.size, 2, none⟩ (.slice on4 ns4.length cn4)).setCell ⟨w5.heap.size, 0, none⟩ (.int .i64 ek)).setCell ⟨w5.heap.size, 1, none⟩ (.int .i64 at')).setCell ⟨w5.heap.size, 2, none⟩ (.string ⟨#[]⟩)) = w12 at *
      clear t0 t1 t2 tf y0 y1 y2 yf
      have y0 := (cells_in EO9 0).trans rfl
      have y1 := (cells_in EO9 1).trans rfl
      have y2 := (cells_in EO9 2).trans rfl
      have o1 := (cells_in SIE.out.obj 1).trans rfl
      go_upto_region 22 with (at_builtin; refine app_tag (by rfl) (.tmp 85) (.tmp 87) 23 (by rfl) 26 (.agg #[.int .i64 0, .slice none 0 0, .slice none 0 0]) 3 56 Tryd.underlying23 info26 (by rfl) (by decide) (by decide) _ _ _ (Made.nil w12.heap.size w12 26 3).1 (by rfl) [.int .i64 k4, .slice oe4 es4.length ce4, .slice on4 ns4.length cn4] w12.heap.size (by rfl) (by rfl) (by rfl) (by simp [Value.oneCell']) (by omega) ?_; intro v9 w13 hown hc hp hne; obtain ⟨o9, n9, c9, rfl⟩ := owns_slice hown; have hT9 := (hc.block _ (Nat.lt_trans SIE.out.hD SIE.out.lt) (fun e => by cases e)).trans SIE.out.obj; have q1 := (cells_in hT9 1).trans rfl; have qf := frozen_in hT9)
      have SI9 := hid (SIE.out.app hown HU9.out (fun g hg => by have := HW7.out; have := SIE.out.hT; have := SIE.out.hD; omega) hc hp)
      clear hown hc hp hne hT9 q1 qf y0 y1 y2 o1 SIE HU9 EO9
      generalize w13.setCell ⟨w3.heap.size, 1, none⟩ (.slice o9 n9 c9) = w8 at *
      have v0 := (cells_in SI9.out.dia 0).trans rfl
      have hk0 : ek ≠ 0 := by omega
      have d1 : decide (ek = 0) = false := decide_eq_false hk0
      have d2 : (ek == 0) = false := beq_eq_false_iff_ne.2 hk0
      have d3 : (ek != 0) = true := by rw [bne, d2]; rfl
      clear hk0 hk
      go_wp2_with fail
      have v1 := (cells_in SI9.out.dia 1).trans rfl
      have v2 := (cells_in SI9.out.dia 2).trans rfl
      refine wp_region_steady (fun v => v.cell? ⟨w5.heap.size, 0, none⟩ = some (.int .i64 ek) ∧ v.cell? ⟨w5.heap.size, 1, none⟩ = some (.int .i64 at') ∧ v.cell? ⟨w5.heap.size, 2, none⟩ = some (.string ⟨#[]⟩)) (by kernel_rfl) (by kernel_rfl) (⟨v0, v1, v2⟩) ?_
      repeat (first
        | (refine wpSteady_skip (by rfl) ?_; try simp only [Act.put, List.setIfInBounds_toArray, List.set_cons_zero, List.set_cons_succ])
        | (refine wpSteady_calm (v := ?_) (by rfl) ?_ ?_; rotate_left; (focus (intro v hSv; (try dsimp only at hSv); go_simp; (try with_reducible rfl); done)); try simp only [Act.put, List.setIfInBounds_toArray, List.set_cons_zero, List.set_cons_succ]))
      have SB := SI9.out.later (below_drew (Below.refl _ _))
      clear v0 v1 v2
      generalize w8.drew = wb at *
      have HIB := SB.base
      have v0 := (cells_in SB.dia 0).trans rfl
      have v1 := (cells_in SB.dia 1).trans rfl
      have v2 := (cells_in SB.dia 2).trans rfl
      have hTT := SB.hT
      have hDD := SB.hD
      have f0 := (cells_in HIB.z6 0).trans rfl
      have f1 := (cells_in HIB.z6 1).trans rfl
      have f2 := (cells_in HIB.z6 2).trans rfl
      have ff := frozen_in HIB.z6
      have g0 := (cells_in HIB.z8 0).trans rfl
      have g1 := (cells_in HIB.z8 1).trans rfl
      have g2 := (cells_in HIB.z8 2).trans rfl
      have gf := frozen_in HIB.z8
      refine wpSteady_loud rfl (by rfl) (fun K hK => ?_)
      go_simp
      have hc3 := chg_store3 wb w.heap.size (.int .i64 0) (.slice none 0 0) (.slice none 0 0)
      refine hK.out _ _ (⟨chg_cell hc3 (by omega) v0, chg_cell hc3 (by omega) v1, chg_cell hc3 (by omega) v2⟩) ?_
      clear hK K
      try simp only [Act.put, List.setIfInBounds_toArray, List.set_cons_zero, List.set_cons_succ]
      repeat (first
        | (refine wpSteady_skip (by rfl) ?_; try simp only [Act.put, List.setIfInBounds_toArray, List.set_cons_zero, List.set_cons_succ])
        | (refine wpSteady_calm (v := ?_) (by rfl) ?_ ?_; rotate_left; (focus (intro v hSv; (try dsimp only at hSv); go_simp; (try with_reducible rfl); done)); try simp only [Act.put, List.setIfInBounds_toArray, List.set_cons_zero, List.set_cons_succ]))
      refine wpSteady_loud rfl (by rfl) (fun K hK => ?_)
      go_simp
      have hc5 := chg_store3 (((wb.setCell ⟨w.heap.size, 0, none⟩ (.int .i64 0)).setCell ⟨w.heap.size, 1, none⟩ (.slice none 0 0)).setCell ⟨w.heap.size, 2, none⟩ (.slice none 0 0)) (w.heap.size + 1) (.int .i64 ek) (.int .i64 at') (.string ⟨#[]⟩)
      refine hK.out _ _ (⟨chg_cell hc5 (by omega) (chg_cell hc3 (by omega) v0), chg_cell hc5 (by omega) (chg_cell hc3 (by omega) v1), chg_cell hc5 (by omega) (chg_cell hc3 (by omega) v2)⟩) ?_
      clear hK K
      try simp only [Act.put, List.setIfInBounds_toArray, List.set_cons_zero, List.set_cons_succ]
      refine wpSteady_nil ?_
      clear v0 v1 v2 hc3 hc5
      go_wp2_with fail
      try simp only [Exit.inBlock, Exit.then]
      refine bodyPost_ret (v := .tuple #[.agg #[.int .i64 0, .slice none 0 0, .slice none 0 0], .int .i64 0, dg ek at']) (by simp [results, Tryd.results35, go_sem, f0, f1, f2, g0, g1, g2, dg]) rfl ?_
      have OUT := hid (HIB.out (u := .agg #[.int .i64 0, .slice none 0 0, .slice none 0 0]) (x := .int .i64 0) (y := .slice none 0 0) (z := .slice none 0 0) (a := .int .i64 ek) (b := .int .i64 at') (c := .string ⟨#[]⟩) (TV.any0 _ _))
      exact ⟨OUT.out.2, _, _, OUT.out.1, .inr ⟨_, _, HE.out, rfl⟩⟩
    have p4b := ((HOK.out p2 p2b).1 _ _ a1).2.2.1
    have A4 := hid a1
    clear a1
    have t0 := (cells_in SI8.out.dia 0).trans rfl
    have t1 := (cells_in SI8.out.dia 1).trans rfl
    have t2 := (cells_in SI8.out.dia 2).trans rfl
    have tf := frozen_in SI8.out.dia
    have y0 := (cells_in EO8 0).trans rfl
    have y1 := (cells_in EO8 1).trans rfl
    have y2 := (cells_in EO8 2).trans rfl
    have yf := frozen_in EO8
    have hne1 : ¬ w5.heap.size = w6.heap.size := by omega
    have hne2 : ¬ w6.heap.size = w5.heap.size := by omega
    have SIE := hid ((SI8.out.setE (E := w6.heap.size) (x := .int .i64 k4) (y := .slice oe4 es4.length ce4) (z := .slice on4 ns4.length cn4) hDE (TV.mk' (SV.nil _ _) (LV.nil _ _))).setD (dk' := 0) (da' := 0))
    have hcD := chg_store3 (((w11.setCell ⟨w6.heap.size, 0, none⟩ (.int .i64 k4)).setCell ⟨w6.heap.size, 1, none⟩ (.slice oe4 es4.length ce4)).setCell ⟨w6.heap.size, 2, none⟩ (.slice on4 ns4.length cn4)) w5.heap.size (.int .i64 0) (.int .i64 0) (.string ⟨#[]⟩)
    have hcE := chg_store3 w11 w6.heap.size (.int .i64 k4) (.slice oe4 es4.length ce4) (.slice on4 ns4.length cn4)
    have EO9 := (hcD.block w6.heap.size (by have := HW7.out; have := HW11.out; have := hcE.size; omega) hne2).trans (obj_set (obj_set (obj_set EO8 (.int .i64 k4)) (.slice oe4 es4.length ce4)) (.slice on4 ns4.length cn4))
    have HU9 := hid (store3_tv (b := w5.heap.size) (Q := fun g => w7.heap.size ≤ g) (store3_tv (b := w6.heap.size) (Q := fun g => w7.heap.size ≤ g) HU.out (by have := HW7.out; omega) (fun g hg => hg) (.int .i64 k4) (.slice oe4 es4.length ce4) (.slice on4 ns4.length cn4)) (by have := HW7.out; omega) (fun g hg => hg) (.int .i64 0) (.int .i64 0) (.string ⟨#[]⟩))
    clear hcD hcE SI8 EO8 HU
    try simp only [dg]
    go_upto_region 21 with (fail)
    generalize ((((((w11.setCell ⟨w6.heap.size, 0, none⟩ (.int .i64 k4)).setCell ⟨w6.heap.size, 1, none⟩ (.slice oe4 es4.length ce4)).setCell ⟨w6.heap.size, 2, none⟩ (.slice on4 ns4.length cn4)).setCell ⟨w5.heap.size, 0, none⟩ (.int .i64 0)).setCell ⟨w5.heap.size, 1, none⟩ (.int .i64 0)).setCell ⟨w5.heap.size, 2, none⟩ (.string ⟨#[]⟩)) = w12 at *
    clear t0 t1 t2 tf y0 y1 y2 yf
    have y0 := (cells_in EO9 0).trans rfl
    have y1 := (cells_in EO9 1).trans rfl
    have y2 := (cells_in EO9 2).trans rfl
    have o1 := (cells_in SIE.out.obj 1).trans rfl
    go_upto_region 22 with (at_builtin; refine app_tag (by rfl) (.tmp 85) (.tmp 87) 23 (by rfl) 26 (.agg #[.int .i64 0, .slice none 0 0, .slice none 0 0]) 3 56 Tryd.underlying23 info26 (by rfl) (by decide) (by decide) _ _ _ (Made.nil w12.heap.size w12 26 3).1 (by rfl) [.int .i64 k4, .slice oe4 es4.length ce4, .slice on4 ns4.length cn4] w12.heap.size (by rfl) (by rfl) (by rfl) (by simp [Value.oneCell']) (by omega) ?_; intro v9 w13 hown hc hp hne; obtain ⟨o9, n9, c9, rfl⟩ := owns_slice hown; have hT9 := (hc.block _ (Nat.lt_trans SIE.out.hD SIE.out.lt) (fun e => by cases e)).trans SIE.out.obj; have q1 := (cells_in hT9 1).trans rfl; have qf := frozen_in hT9)
    have SI9 := hid (SIE.out.app hown HU9.out (fun g hg => by have := HW7.out; have := SIE.out.hT; have := SIE.out.hD; omega) hc hp)
    clear hown hc hp hne hT9 q1 qf y0 y1 y2 o1 SIE HU9 EO9
    generalize w13.setCell ⟨w3.heap.size, 1, none⟩ (.slice o9 n9 c9) = w8 at *
    have v0 := (cells_in SI9.out.dia 0).trans rfl
    have HSG3 := hid (rsign_any s p4 41 w8 p4b (by omega))
    go_wp2_with fail
    refine HSG3.out.mono ?_
    rintro e w9 ⟨hb9, (⟨p5, a1, rfl⟩ | ⟨ek, at', a1, rfl⟩)⟩
    · have HE := hid (rl_4 HR1.out HKK.out H45.out A2.out A4.out a1)
      clear a1 v0 HSG3
      have SI10 := hid (SI9.out.later hb9)
      have y0 := (cells_in SI10.out.dia 0).trans rfl
      have y1 := (cells_in SI10.out.dia 1).trans rfl
      have y2 := (cells_in SI10.out.dia 2).trans rfl
      have yf := frozen_in SI10.out.dia
      have SI11 := hid (SI10.out.setD (dk' := 0) (da' := 0))
      clear SI10 hb9
      try simp only [dg]
      go_upto_region 25 with (fail)
      generalize (((w9.setCell ⟨w5.heap.size, 0, none⟩ (.int .i64 0)).setCell ⟨w5.heap.size, 1, none⟩ (.int .i64 0)).setCell ⟨w5.heap.size, 2, none⟩ (.string ⟨#[]⟩)) = w10 at *
      clear y0 y1 y2 yf
      have v0 := (cells_in SI11.out.dia 0).trans rfl
      have HIB := SI11.out.base
      have t0 := (cells_in SI11.out.obj 0).trans rfl
      have t1 := (cells_in SI11.out.obj 1).trans rfl
      have t2 := (cells_in SI11.out.obj 2).trans rfl
      have f0 := (cells_in HIB.z6 0).trans rfl
      have f1 := (cells_in HIB.z6 1).trans rfl
      have f2 := (cells_in HIB.z6 2).trans rfl
      have ff := frozen_in HIB.z6
      have g0 := (cells_in HIB.z8 0).trans rfl
      have g1 := (cells_in HIB.z8 1).trans rfl
      have g2 := (cells_in HIB.z8 2).trans rfl
      have gf := frozen_in HIB.z8
      go_wp2_with fail
      try simp only [Exit.inBlock, Exit.then]
      refine bodyPost_ret (v := .tuple #[.agg #[.int .i64 kk, .slice o9 n9 c9, .slice none 0 0], .int .i64 p5, dg 0 0]) (by simp [results, Tryd.results35, go_sem, f0, f1, f2, g0, g1, g2, dg]) rfl ?_
      have OUT := hid (HIB.out (u := .agg #[.int .i64 kk, .slice o9 n9 c9, .slice none 0 0]) (x := .int .i64 kk) (y := .slice o9 n9 c9) (z := .slice none 0 0) (a := .int .i64 0) (b := .int .i64 0) (c := .string ⟨#[]⟩) (SI11.out.tv.mono fun g hg => hg.1))
      exact ⟨OUT.out.2, _, _, OUT.out.1, .inl ⟨p5, HE.out, rfl⟩⟩
    · have HE := hid (rl_3 HR1.out HKK.out H45.out A2.out A4.out a1)
      have hk := (sign_err a1 p4b).1
      clear a1 v0 HSG3
      have SI10 := hid (SI9.out.later hb9)
      have y0 := (cells_in SI10.out.dia 0).trans rfl
      have y1 := (cells_in SI10.out.dia 1).trans rfl
      have y2 := (cells_in SI10.out.dia 2).trans rfl
      have yf := frozen_in SI10.out.dia
      have SI11 := hid (SI10.out.setD (dk' := ek) (da' := at'))
      clear SI10 hb9
      try simp only [dg]
      go_upto_region 25 with (fail)
      generalize (((w9.setCell ⟨w5.heap.size, 0, none⟩ (.int .i64 ek)).setCell ⟨w5.heap.size, 1, none⟩ (.int .i64 at')).setCell ⟨w5.heap.size, 2, none⟩ (.string ⟨#[]⟩)) = w10 at *
      clear y0 y1 y2 yf
      have v0 := (cells_in SI11.out.dia 0).trans rfl
      have hk0 : ek ≠ 0 := by omega
      have d1 : decide (ek = 0) = false := decide_eq_false hk0
      have d2 : (ek == 0) = false := beq_eq_false_iff_ne.2 hk0
      have d3 : (ek != 0) = true := by rw [bne, d2]; rfl
      clear hk0 hk
      go_wp2_with fail
      have v1 := (cells_in SI11.out.dia 1).trans rfl
      have v2 := (cells_in SI11.out.dia 2).trans rfl
      refine wp_region_steady (fun v => v.cell? ⟨w5.heap.size, 0, none⟩ = some (.int .i64 ek) ∧ v.cell? ⟨w5.heap.size, 1, none⟩ = some (.int .i64 at') ∧ v.cell? ⟨w5.heap.size, 2, none⟩ = some (.string ⟨#[]⟩)) (by kernel_rfl) (by kernel_rfl) (⟨v0, v1, v2⟩) ?_
      repeat (first
        | (refine wpSteady_skip (by rfl) ?_; try simp only [Act.put, List.setIfInBounds_toArray, List.set_cons_zero, List.set_cons_succ])
        | (refine wpSteady_calm (v := ?_) (by rfl) ?_ ?_; rotate_left; (focus (intro v hSv; (try dsimp only at hSv); go_simp; (try with_reducible rfl); done)); try simp only [Act.put, List.setIfInBounds_toArray, List.set_cons_zero, List.set_cons_succ]))
      have SB := SI11.out.later (below_drew (Below.refl _ _))
      clear v0 v1 v2
      generalize w10.drew = wb at *
      have HIB := SB.base
      have v0 := (cells_in SB.dia 0).trans rfl
      have v1 := (cells_in SB.dia 1).trans rfl
      have v2 := (cells_in SB.dia 2).trans rfl
      have hTT := SB.hT
      have hDD := SB.hD
      have f0 := (cells_in HIB.z6 0).trans rfl
      have f1 := (cells_in HIB.z6 1).trans rfl
      have f2 := (cells_in HIB.z6 2).trans rfl
      have ff := frozen_in HIB.z6
      have g0 := (cells_in HIB.z8 0).trans rfl
      have g1 := (cells_in HIB.z8 1).trans rfl
      have g2 := (cells_in HIB.z8 2).trans rfl
      have gf := frozen_in HIB.z8
      refine wpSteady_loud rfl (by rfl) (fun K hK => ?_)
      go_simp
      have hc3 := chg_store3 wb w.heap.size (.int .i64 0) (.slice none 0 0) (.slice none 0 0)
      refine hK.out _ _ (⟨chg_cell hc3 (by omega) v0, chg_cell hc3 (by omega) v1, chg_cell hc3 (by omega) v2⟩) ?_
      clear hK K
      try simp only [Act.put, List.setIfInBounds_toArray, List.set_cons_zero, List.set_cons_succ]
      repeat (first
        | (refine wpSteady_skip (by rfl) ?_; try simp only [Act.put, List.setIfInBounds_toArray, List.set_cons_zero, List.set_cons_succ])
        | (refine wpSteady_calm (v := ?_) (by rfl) ?_ ?_; rotate_left; (focus (intro v hSv; (try dsimp only at hSv); go_simp; (try with_reducible rfl); done)); try simp only [Act.put, List.setIfInBounds_toArray, List.set_cons_zero, List.set_cons_succ]))
      refine wpSteady_loud rfl (by rfl) (fun K hK => ?_)
      go_simp
      have hc5 := chg_store3 (((wb.setCell ⟨w.heap.size, 0, none⟩ (.int .i64 0)).setCell ⟨w.heap.size, 1, none⟩ (.slice none 0 0)).setCell ⟨w.heap.size, 2, none⟩ (.slice none 0 0)) (w.heap.size + 1) (.int .i64 ek) (.int .i64 at') (.string ⟨#[]⟩)
      refine hK.out _ _ (⟨chg_cell hc5 (by omega) (chg_cell hc3 (by omega) v0), chg_cell hc5 (by omega) (chg_cell hc3 (by omega) v1), chg_cell hc5 (by omega) (chg_cell hc3 (by omega) v2)⟩) ?_
      clear hK K
      try simp only [Act.put, List.setIfInBounds_toArray, List.set_cons_zero, List.set_cons_succ]
      refine wpSteady_nil ?_
      clear v0 v1 v2 hc3 hc5
      go_wp2_with fail
      try simp only [Exit.inBlock, Exit.then]
      refine bodyPost_ret (v := .tuple #[.agg #[.int .i64 0, .slice none 0 0, .slice none 0 0], .int .i64 0, dg ek at']) (by simp [results, Tryd.results35, go_sem, f0, f1, f2, g0, g1, g2, dg]) rfl ?_
      have OUT := hid (HIB.out (u := .agg #[.int .i64 0, .slice none 0 0, .slice none 0 0]) (x := .int .i64 0) (y := .slice none 0 0) (z := .slice none 0 0) (a := .int .i64 ek) (b := .int .i64 at') (c := .string ⟨#[]⟩) (TV.any0 _ _))
      exact ⟨OUT.out.2, _, _, OUT.out.1, .inr ⟨_, _, HE.out, rfl⟩⟩
end Go.Proofs.YtfljnigbfacmjaaDoor
