/- The reference's parser: the attributes of an object type. -/
import Derived.Test.YtfljnigbfacmjaaDoorRPst
import Derived.Deep.LoopGhost
namespace Go.Proofs.YtfljnigbfacmjaaDoor
open Go Go.RowKit Go.Proofs.YtfljnigbfacmjaaDoor.Steady
set_option linter.unusedVariables false

structure RI (w wr : World) (ve vn : Value) (es : List Ty) (ns : List ByteArray) : Prop where
  bel : Below w.heap.size w wr
  z6 : wr.heap[w.heap.size]? = some (.cells #[.int .i64 0, .slice none 0 0, .slice none 0 0] 26)
  z8 : wr.heap[w.heap.size + 1]? = some (.cells #[.int .i64 0, .int .i64 0, .string ⟨#[]⟩] 33)
  obj : wr.heap[w.heap.size + 1 + 1]? = some (.cells #[.int .i64 6, ve, vn] 26)
  tv : TV (fun g => w.heap.size + 3 ≤ g) wr (.agg #[.int .i64 6, ve, vn]) (.mk 6 es ns)
section
variable {w wr w' : World} {ve vn ve' vn' : Value} {es es' : List Ty} {ns ns' : List ByteArray}
theorem RI.lt (h : RI w wr ve vn es ns) : w.heap.size + 2 < wr.heap.size := (Array.getElem?_eq_some_iff.1 h.obj).1
theorem RI.later (h : RI w wr ve vn es ns) (hb : Below wr.heap.size wr w') : RI w w' ve vn es ns := by
  have hl := h.lt
  exact ⟨h.bel.trans (hb.mono h.bel.size), (hb.block _ (by omega)).trans h.z6, (hb.block _ (by omega)).trans h.z8, (hb.block _ hl).trans h.obj, h.tv.bel hb⟩
theorem RI.put (h : RI w wr ve vn es ns) (hb : Below wr.heap.size wr w') (hu : TV (fun g => w.heap.size + 3 ≤ g ∨ wr.heap.size ≤ g) w' (.agg #[.int .i64 6, ve', vn']) (.mk 6 es' ns')) :
    RI w (((w'.setCell ⟨w.heap.size + 1 + 1, 0, none⟩ (.int .i64 6)).setCell ⟨w.heap.size + 1 + 1, 1, none⟩ ve').setCell ⟨w.heap.size + 1 + 1, 2, none⟩ vn') ve' vn' es' ns' := by
  have hl := h.lt
  have h2 := h.later hb
  have hl2 := h2.lt
  have hc := chg_store3 w' (w.heap.size + 1 + 1) (.int .i64 6) ve' vn'
  exact ⟨store3_below h2.bel (by omega) (Nat.le_refl _) _ _ _, (hc.block _ (by omega) (by omega)).trans h2.z6, (hc.block _ (by omega) (by omega)).trans h2.z8, obj_set (obj_set (obj_set h2.obj _) _) _,
    store3_tv hu (by omega) (fun g hg => by omega) _ _ _⟩
theorem RI.store {D : Nat} {x y z : Value} (h : RI w wr ve vn es ns) (ht : TV (fun g => w.heap.size + 3 ≤ g ∧ g ≠ D) wr (.agg #[.int .i64 6, ve, vn]) (.mk 6 es ns)) (hD : w.heap.size + 3 ≤ D) :
    RI w (((wr.setCell ⟨D, 0, none⟩ x).setCell ⟨D, 1, none⟩ y).setCell ⟨D, 2, none⟩ z) ve vn es ns := by
  have hl := h.lt
  have hc := chg_store3 wr D x y z
  exact ⟨store3_below h.bel (by omega) (Nat.le_refl _) _ _ _, (hc.block _ (by omega) (by omega)).trans h.z6, (hc.block _ (by omega) (by omega)).trans h.z8, (hc.block _ (by omega) (by omega)).trans h.obj,
    store3_tv ht (fun h => h.2 rfl) (fun g hg => hg.1) _ _ _⟩
theorem RI.out {u : Value} {t : Ty} {x y z a b c : Value} (h : RI w wr ve vn es ns) (hu : TV (fun g => w.heap.size + 3 ≤ g) wr u t) :
    TV (fun g => w.heap.size ≤ g) ((((((wr.setCell ⟨w.heap.size, 0, none⟩ x).setCell ⟨w.heap.size, 1, none⟩ y).setCell ⟨w.heap.size, 2, none⟩ z).setCell ⟨w.heap.size + 1, 0, none⟩ a).setCell ⟨w.heap.size + 1, 1, none⟩ b).setCell ⟨w.heap.size + 1, 2, none⟩ c) u t ∧
    Below w.heap.size w ((((((wr.setCell ⟨w.heap.size, 0, none⟩ x).setCell ⟨w.heap.size, 1, none⟩ y).setCell ⟨w.heap.size, 2, none⟩ z).setCell ⟨w.heap.size + 1, 0, none⟩ a).setCell ⟨w.heap.size + 1, 1, none⟩ b).setCell ⟨w.heap.size + 1, 2, none⟩ c) :=
  ⟨store3_tv (Q := fun g => w.heap.size ≤ g) (store3_tv (Q := fun g => w.heap.size + 3 ≤ g) hu (by omega) (fun g hg => hg) x y z) (by omega) (fun g hg => by omega) a b c, store3_below (store3_below h.bel (Nat.le_refl _) (Nat.le_refl _) x y z) (by omega) (Nat.le_refl _) a b c⟩
end
set_option maxRecDepth 100000 in
set_option maxHeartbeats 4000000 in
theorem robj_any (s : ByteArray) (f : Nat) (hs : s.size ≤ 65536) (hf : f ≤ 32) (HRD : RReadAt s f) : RObjAt s f := by
  intro w p hp
  have HR := hid HRD
  have HOK := hid (readP_ok s f (33 - f) (by omega))
  clear HRD
  generalize hA : w.alloc (.cells #[.int .i64 0, .slice none 0 0, .slice none 0 0] 26) = wa
  have hao : wa.heap[w.heap.size]? = some (.cells #[.int .i64 0, .slice none 0 0, .slice none 0 0] 26) := by rw [← hA]; exact heap_alloc_at w _
  have has : wa.heap.size = w.heap.size + 1 := by rw [← hA]; simp
  have ha : Below w.heap.size w wa := by rw [← hA]; exact (Below.refl _ _).alloc (Nat.le_refl _) _
  generalize hB : wa.alloc (.cells #[.int .i64 0, .int .i64 0, .string ⟨#[]⟩] 33) = wb
  have hbo : wb.heap[w.heap.size + 1]? = some (.cells #[.int .i64 0, .int .i64 0, .string ⟨#[]⟩] 33) := by rw [← hB, ← has]; exact heap_alloc_at wa _
  have hbs : wb.heap.size = w.heap.size + 1 + 1 := by rw [← hB]; simp [has]
  have hb : Below wa.heap.size wa wb := by rw [← hB]; exact (Below.refl _ _).alloc (Nat.le_refl _) _
  generalize hC : wb.alloc (.cells #[.int .i64 6, .slice none 0 0, .slice none 0 0] 26) = wc
  have hco : wc.heap[w.heap.size + 1 + 1]? = some (.cells #[.int .i64 6, .slice none 0 0, .slice none 0 0] 26) := by rw [← hC, ← hbs]; exact heap_alloc_at wb _
  have hc : Below wb.heap.size wb wc := by rw [← hC]; exact (Below.refl _ _).alloc (Nat.le_refl _) _
  have HI := hid (show RI w wc (.slice none 0 0) (.slice none 0 0) [] [] from
    ⟨ha.trans ((hb.mono ha.size).trans (hc.mono (by omega))), (hc.block _ (by omega)).trans ((hb.block _ (by omega)).trans hao), (hc.block _ (by omega)).trans hbo, hco, TV.mk' (SV.nil _ _) (LV.nil _ _)⟩)
  have HA := hid hA
  have HB := hid hB
  have HC := hid hC
  clear hA hB hC hao has ha hbo hbs hb hco hc
  obtain ⟨oe, me, ce, on, mn, cn, HI⟩ : ∃ oe me ce on mn cn, Hid (RI w wc (.slice oe me ce) (.slice on mn cn) [] []) := ⟨_, _, _, _, _, _, HI⟩
  have HSG := hid (rsign_any s p 123 wc hp (by omega))
  go_enter Tryd.func61, Tryd.ntmps61
  go_wp2_with fail
  rw [HA.out, HB.out, HC.out]
  refine HSG.out.mono ?_
  rintro e w2 ⟨hb2, (⟨q, h1, rfl⟩ | ⟨ek, at', h1, rfl⟩)⟩
  rotate_left
  · have HE := hid (robj_1 (rd := readP s f) h1)
    have hk := (sign_err h1 hp).1
    have HI2 := hid (HI.out.later hb2)
    have HP := hid hp
    clear h1 hb2 HI HA HB HC HSG HR HOK hp
    try simp only [dg]
    go_upto_region 3 with (fail)
    have hG : Below w2.heap.size w2 (w2.alloc (.cells #[.int .i64 ek, .int .i64 at', .string ⟨#[]⟩] 33)) := (Below.refl _ _).alloc (Nat.le_refl _) _
    have hXO := heap_alloc_at w2 (.cells #[.int .i64 ek, .int .i64 at', .string ⟨#[]⟩] 33)
    generalize w2.alloc (.cells #[.int .i64 ek, .int .i64 at', .string ⟨#[]⟩] 33) = w3 at *
    have HI3 := hid (HI2.out.later hG)
    have XO := hXO
    have v0 := (cells_in XO 0).trans rfl
    have hD := RI.lt HI2.out
    clear hXO hG
    have hk0 : ek ≠ 0 := by omega
    have d1 : decide (ek = 0) = false := decide_eq_false hk0
    have d2 : (ek == 0) = false := beq_eq_false_iff_ne.2 hk0
    have d3 : (ek != 0) = true := by rw [bne, d2]; rfl
    clear hk0 hk
    go_wp2_with fail
    have x0 := (cells_in HI3.out.obj 0).trans rfl
    have x1 := (cells_in HI3.out.obj 1).trans rfl
    have x2 := (cells_in HI3.out.obj 2).trans rfl
    have v0 := (cells_in XO 0).trans rfl
    have v1 := (cells_in XO 1).trans rfl
    have v2 := (cells_in XO 2).trans rfl
    refine wp_region_steady (fun v => v.cell? ⟨w.heap.size + 1 + 1, 0, none⟩ = some (.int .i64 6) ∧ v.cell? ⟨w.heap.size + 1 + 1, 1, none⟩ = some (.slice oe me ce) ∧ v.cell? ⟨w.heap.size + 1 + 1, 2, none⟩ = some (.slice on mn cn) ∧ v.cell? ⟨w2.heap.size, 0, none⟩ = some (.int .i64 ek) ∧ v.cell? ⟨w2.heap.size, 1, none⟩ = some (.int .i64 at') ∧ v.cell? ⟨w2.heap.size, 2, none⟩ = some (.string ⟨#[]⟩)) (by kernel_rfl) (by kernel_rfl) (⟨x0, x1, x2, v0, v1, v2⟩) ?_
    repeat (first
      | (refine wpSteady_skip (by rfl) ?_; try simp only [Act.put, List.setIfInBounds_toArray, List.set_cons_zero, List.set_cons_succ])
      | (refine wpSteady_calm (v := ?_) (by rfl) ?_ ?_; rotate_left; (focus (intro v hSv; (try dsimp only at hSv); go_simp; (try with_reducible rfl); done)); try simp only [Act.put, List.setIfInBounds_toArray, List.set_cons_zero, List.set_cons_succ]))
    have RB := hid (HI3.out.later (below_drew (Below.refl _ _)))
    have XB : w3.drew.heap[w2.heap.size]? = _ := XO
    clear x0 x1 x2 v0 v1 v2
    generalize w3.drew = wb at *
    have x0 := (cells_in RB.out.obj 0).trans rfl
    have x1 := (cells_in RB.out.obj 1).trans rfl
    have x2 := (cells_in RB.out.obj 2).trans rfl
    have f0 := (cells_in RB.out.z6 0).trans rfl
    have f1 := (cells_in RB.out.z6 1).trans rfl
    have f2 := (cells_in RB.out.z6 2).trans rfl
    have ff := frozen_in RB.out.z6
    have g0 := (cells_in RB.out.z8 0).trans rfl
    have g1 := (cells_in RB.out.z8 1).trans rfl
    have g2 := (cells_in RB.out.z8 2).trans rfl
    have gf := frozen_in RB.out.z8
    have v0 := (cells_in XB 0).trans rfl
    have v1 := (cells_in XB 1).trans rfl
    have v2 := (cells_in XB 2).trans rfl
    have hle := RI.lt HI3.out
    refine wpSteady_loud rfl (by rfl) (fun K hK => ?_)
    go_simp
    have hc3 := chg_store3 wb w.heap.size (.int .i64 6) (.slice oe me ce) (.slice on mn cn)
    refine hK.out _ _ (⟨chg_cell hc3 (by omega) x0, chg_cell hc3 (by omega) x1, chg_cell hc3 (by omega) x2, chg_cell hc3 (by omega) v0, chg_cell hc3 (by omega) v1, chg_cell hc3 (by omega) v2⟩) ?_
    clear hK K
    try simp only [Act.put, List.setIfInBounds_toArray, List.set_cons_zero, List.set_cons_succ]
    repeat (first
      | (refine wpSteady_skip (by rfl) ?_; try simp only [Act.put, List.setIfInBounds_toArray, List.set_cons_zero, List.set_cons_succ])
      | (refine wpSteady_calm (v := ?_) (by rfl) ?_ ?_; rotate_left; (focus (intro v hSv; (try dsimp only at hSv); go_simp; (try with_reducible rfl); done)); try simp only [Act.put, List.setIfInBounds_toArray, List.set_cons_zero, List.set_cons_succ]))
    refine wpSteady_loud rfl (by rfl) (fun K hK => ?_)
    go_simp
    have hc5 := chg_store3 (((wb.setCell ⟨w.heap.size, 0, none⟩ (.int .i64 6)).setCell ⟨w.heap.size, 1, none⟩ (.slice oe me ce)).setCell ⟨w.heap.size, 2, none⟩ (.slice on mn cn)) (w.heap.size + 1) (.int .i64 ek) (.int .i64 at') (.string ⟨#[]⟩)
    refine hK.out _ _ (⟨chg_cell hc5 (by omega) (chg_cell hc3 (by omega) x0), chg_cell hc5 (by omega) (chg_cell hc3 (by omega) x1), chg_cell hc5 (by omega) (chg_cell hc3 (by omega) x2), chg_cell hc5 (by omega) (chg_cell hc3 (by omega) v0), chg_cell hc5 (by omega) (chg_cell hc3 (by omega) v1), chg_cell hc5 (by omega) (chg_cell hc3 (by omega) v2)⟩) ?_
    clear hK K
    try simp only [Act.put, List.setIfInBounds_toArray, List.set_cons_zero, List.set_cons_succ]
    refine wpSteady_nil ?_
    clear x0 x1 x2 v0 v1 v2 hc3 hc5
    go_wp2_with fail
    try simp only [Exit.inBlock, Exit.then]
    refine bodyPost_ret (v := .tuple #[.agg #[.int .i64 6, .slice oe me ce, .slice on mn cn], .int .i64 0, dg ek at']) (by simp [results, Tryd.results61, go_sem, f0, f1, f2, g0, g1, g2, dg]) rfl ?_
    have OUT := hid (RB.out.out (x := .int .i64 6) (y := .slice oe me ce) (z := .slice on mn cn) (a := .int .i64 ek) (b := .int .i64 at') (c := .string ⟨#[]⟩) RB.out.tv)
    exact ⟨OUT.out.2, _, _, OUT.out.1, .inr ⟨_, _, HE.out, rfl⟩⟩
  have q2 := (sign_ok h1 hp).2
  have HE1 := hid (robj_2 (rd := readP s f) h1)
  have HI2 := hid (HI.out.later hb2)
  clear h1 hb2 HI HA HB HC HSG
  try simp only [dg]
  go_upto_region 3 with (fail)
  have hG : Below w2.heap.size w2 (w2.alloc (.cells #[.int .i64 0, .int .i64 0, .string ⟨#[]⟩] 33)) := (Below.refl _ _).alloc (Nat.le_refl _) _
  have hXO := heap_alloc_at w2 (.cells #[.int .i64 0, .int .i64 0, .string ⟨#[]⟩] 33)
  generalize w2.alloc (.cells #[.int .i64 0, .int .i64 0, .string ⟨#[]⟩] 33) = w3 at *
  have HI3 := hid (HI2.out.later hG)
  have XO := hXO
  have v0 := (cells_in XO 0).trans rfl
  have hD := RI.lt HI2.out
  clear hXO hG
  clear XO HI2
  have HSK := hid (rskip_any s q w3 q2 (by omega))
  obtain ⟨j, hj⟩ : ∃ j, skipN s q = j := ⟨_, rfl⟩
  have hjl := (skipN_ge q2).2
  rw [hj] at HSK hjl
  have HJ := hid hj
  have hj0 : (0 : Int) ≤ (j : Int) := by omega
  clear hj
  go_wp2_with fail
  refine HSK.out.mono ?_
  rintro e w2' ⟨rfl, rfl⟩
  go_upto_region 6 with (fail)
  go_cut [42] (fun b wx => w3 = wx ∧ b = .bool (decide (j < s.size ∧ byteN s j = 125)))
  case first =>
    by_cases hlt : j < s.size
    · have hj1 : (j : Int) < (s.size : Int) := by omega
      have hbn := byteN_get hlt
      by_cases hb : byteN s j = 125
      · have d1 : decide ((byteN s j : Int) = 125) = true := decide_eq_true (by omega)
        have d2 : ((byteN s j : Int) == 125) = true := beq_iff_eq.2 (by omega)
        have HR9 := hid (show decide (j < s.size ∧ byteN s j = 125) = true from decide_eq_true ⟨hlt, hb⟩)
        clear hb
        go_wp2_with fail
        go_meet
        exact ⟨rfl, by rw [HR9.out]⟩
      · have d1 : decide ((byteN s j : Int) = 125) = false := decide_eq_false (by omega)
        have d2 : ((byteN s j : Int) == 125) = false := beq_eq_false_iff_ne.2 (by omega)
        have HR9 := hid (show decide (j < s.size ∧ byteN s j = 125) = false from decide_eq_false fun h => hb h.2)
        clear hb
        go_wp2_with fail
        go_meet
        exact ⟨rfl, by rw [HR9.out]⟩
    · have HR9 := hid (show decide (j < s.size ∧ byteN s j = 125) = false from decide_eq_false fun h => hlt h.1)
      go_wp2_with fail
      go_meet
      exact ⟨rfl, by rw [HR9.out]⟩
  case rest =>
    obtain ⟨rfl, rfl⟩ := hcut
    by_cases hbb : j < s.size ∧ byteN s j = 125
    · rw [decide_eq_true hbb]
      have HE := hid (HE1.out.trans (objP_2 (rd := readP s f) (by unfold readyP; rw [HJ.out, if_pos hbb.1]) hbb.2))
      have hj1 : (j : Int) < (s.size : Int) := by have := hbb.1; omega
      clear hbb
      have x0 := (cells_in HI3.out.obj 0).trans rfl
      have x1 := (cells_in HI3.out.obj 1).trans rfl
      have x2 := (cells_in HI3.out.obj 2).trans rfl
      have f0 := (cells_in HI3.out.z6 0).trans rfl
      have f1 := (cells_in HI3.out.z6 1).trans rfl
      have f2 := (cells_in HI3.out.z6 2).trans rfl
      have ff := frozen_in HI3.out.z6
      have g0 := (cells_in HI3.out.z8 0).trans rfl
      have g1 := (cells_in HI3.out.z8 1).trans rfl
      have g2 := (cells_in HI3.out.z8 2).trans rfl
      have gf := frozen_in HI3.out.z8
      have hadd : ((j + 1 : Nat) : Int) = (j : Int) + 1 := by omega
      go_wp2_with fail
      try simp only [Exit.inBlock, Exit.then]
      refine bodyPost_ret (v := .tuple #[.agg #[.int .i64 6, .slice oe me ce, .slice on mn cn], .int .i64 ((j : Int) + 1), dg 0 0]) (by simp [results, Tryd.results61, go_sem, f0, f1, f2, g0, g1, g2, dg]) rfl ?_
      have OUT := hid (HI3.out.out (x := .int .i64 6) (y := .slice oe me ce) (z := .slice on mn cn) (a := .int .i64 0) (b := .int .i64 0) (c := .string ⟨#[]⟩) HI3.out.tv)
      exact ⟨OUT.out.2, _, _, OUT.out.1, .inl ⟨j + 1, HE.out, by rw [hadd]⟩⟩
    · rw [decide_eq_false hbb]
      have HE : Hid (robjP s (readP s f) p = loopP s (readP s f) (s.size + 1) j [] []) := hid (by
        by_cases hlt : j < s.size
        · exact HE1.out.trans (objP_3 (rd := readP s f) (by unfold readyP; rw [HJ.out, if_pos hlt]) fun h => hbb ⟨hlt, h⟩)
        · have := HE1.out.trans (obj_end (rd := readP s f) q2 (by rw [HJ.out]; exact hlt))
          rw [HJ.out] at this
          exact this)
      clear hbb
      go_wp2_with fail
      go_loopg [1, 11] (s.size + 1) (fun g a i wr => ∃ (pp n : Nat) (oe : Option Addr) (me ce : Nat) (on : Option Addr) (mn cn : Nat) (es : List Ty) (ns : List ByteArray), a = .int .i64 pp ∧ i = .int .i64 n ∧ pp ≤ s.size ∧ s.size - pp < g ∧ n ≤ pp ∧ es.length ≤ pp ∧ ns.length ≤ pp ∧ Hid (es.length = ns.length) ∧ Hid (Asc ns) ∧ Hid (RI w wr (.slice oe me ce) (.slice on mn cn) es ns) ∧ Hid (robjP s (readP s f) p = loopP s (readP s f) g pp es ns))
      case atStart => exact ⟨j, 0, _, _, _, _, _, _, [], [], rfl, rfl, by omega, by omega, Nat.zero_le _, Nat.zero_le _, Nat.zero_le _, hid rfl, hid List.Pairwise.nil, HI3, HE⟩
      case round =>
        clear hj0 HJ HE HI3 HE1 v0 hD
        clear q2 HSK hjl
        obtain ⟨pp, n, oe, me, ce, on, mn, cn, es, ns, rfl, rfl, h1, h2, h3, h4, h5, HLN, HASC, HI, HRES⟩ := hrel
        obtain ⟨g0, rfl⟩ : ∃ g0, gk = g0 + 1 := ⟨gk - 1, by omega⟩
        have hn1 : (n : Int) ≤ (s.size : Int) := by omega
        have hn0 : (0 : Int) ≤ (n : Int) := by omega
        have HSK := hid (rskip_any s pp wr h1 (by omega))
        obtain ⟨j, hj⟩ : ∃ j, skipN s pp = j := ⟨_, rfl⟩
        have hge := skipN_ge h1
        rw [hj] at HSK hge
        have HJ := hid hj
        have hj0 : (0 : Int) ≤ (j : Int) := by omega
        clear hj
        go_wp2_with fail
        refine HSK.out.mono ?_
        rintro e w2' ⟨rfl, rfl⟩
        by_cases hlt : j < s.size
        case neg =>
          have hjs : j = s.size := by omega
          have HE := hid (HRES.out.trans (loopP_1 (name_end (by rw [HJ.out, hjs]; exact Nat.le_refl _))))
          rw [HJ.out, hjs] at HE
          have g1 : decide ((j : Int) ≥ (s.size : Int)) = true := decide_eq_true (by omega)
          clear hjs
          go_wp2_with fail
          have x0 := (cells_in HI.out.obj 0).trans rfl
          have x1 := (cells_in HI.out.obj 1).trans rfl
          have x2 := (cells_in HI.out.obj 2).trans rfl
          refine wp_region_steady (fun v => v.cell? ⟨w.heap.size + 1 + 1, 0, none⟩ = some (.int .i64 6) ∧ v.cell? ⟨w.heap.size + 1 + 1, 1, none⟩ = some (.slice oe me ce) ∧ v.cell? ⟨w.heap.size + 1 + 1, 2, none⟩ = some (.slice on mn cn)) (by kernel_rfl) (by kernel_rfl) (⟨x0, x1, x2⟩) ?_
          repeat (first
            | (refine wpSteady_skip (by rfl) ?_; try simp only [Act.put, List.setIfInBounds_toArray, List.set_cons_zero, List.set_cons_succ])
            | (refine wpSteady_calm (v := ?_) (by rfl) ?_ ?_; rotate_left; (focus (intro v hSv; (try dsimp only at hSv); go_simp; (try with_reducible rfl); done)); try simp only [Act.put, List.setIfInBounds_toArray, List.set_cons_zero, List.set_cons_succ]))
          refine wpSteady_loud rfl (by rfl) (fun K hK => ?_)
          go_simp
          refine (bad_any 40 s.size _).mono ?_
          rintro e wb ⟨rfl, hb⟩
          have RB := hid ((HI.out.later (below_drew (Below.refl _ _))).later hb)
          refine hK.out _ _ (⟨bcell (W := wr.drew) hb x0, bcell (W := wr.drew) hb x1, bcell (W := wr.drew) hb x2⟩) ?_
          clear hK K
          try simp only [Act.put, List.setIfInBounds_toArray, List.set_cons_zero, List.set_cons_succ]
          clear x0 x1 x2 hb
          have x0 := (cells_in RB.out.obj 0).trans rfl
          have x1 := (cells_in RB.out.obj 1).trans rfl
          have x2 := (cells_in RB.out.obj 2).trans rfl
          have f0 := (cells_in RB.out.z6 0).trans rfl
          have f1 := (cells_in RB.out.z6 1).trans rfl
          have f2 := (cells_in RB.out.z6 2).trans rfl
          have ff := frozen_in RB.out.z6
          have g0 := (cells_in RB.out.z8 0).trans rfl
          have g1 := (cells_in RB.out.z8 1).trans rfl
          have g2 := (cells_in RB.out.z8 2).trans rfl
          have gf := frozen_in RB.out.z8
          repeat (first
            | (refine wpSteady_skip (by rfl) ?_; try simp only [Act.put, List.setIfInBounds_toArray, List.set_cons_zero, List.set_cons_succ])
            | (refine wpSteady_calm (v := ?_) (by rfl) ?_ ?_; rotate_left; (focus (intro v hSv; (try dsimp only at hSv); go_simp; (try with_reducible rfl); done)); try simp only [Act.put, List.setIfInBounds_toArray, List.set_cons_zero, List.set_cons_succ]))
          refine wpSteady_loud rfl (by rfl) (fun K hK => ?_)
          go_simp
          have hc3 := chg_store3 wb w.heap.size (.int .i64 6) (.slice oe me ce) (.slice on mn cn)
          refine hK.out _ _ (⟨chg_cell hc3 (by omega) x0, chg_cell hc3 (by omega) x1, chg_cell hc3 (by omega) x2⟩) ?_
          clear hK K
          try simp only [Act.put, List.setIfInBounds_toArray, List.set_cons_zero, List.set_cons_succ]
          repeat (first
            | (refine wpSteady_skip (by rfl) ?_; try simp only [Act.put, List.setIfInBounds_toArray, List.set_cons_zero, List.set_cons_succ])
            | (refine wpSteady_calm (v := ?_) (by rfl) ?_ ?_; rotate_left; (focus (intro v hSv; (try dsimp only at hSv); go_simp; (try with_reducible rfl); done)); try simp only [Act.put, List.setIfInBounds_toArray, List.set_cons_zero, List.set_cons_succ]))
          refine wpSteady_loud rfl (by rfl) (fun K hK => ?_)
          go_simp
          have hc5 := chg_store3 (((wb.setCell ⟨w.heap.size, 0, none⟩ (.int .i64 6)).setCell ⟨w.heap.size, 1, none⟩ (.slice oe me ce)).setCell ⟨w.heap.size, 2, none⟩ (.slice on mn cn)) (w.heap.size + 1) (.int .i64 40) (.int .i64 s.size) (.string ⟨#[]⟩)
          refine hK.out _ _ (⟨chg_cell hc5 (by omega) (chg_cell hc3 (by omega) x0), chg_cell hc5 (by omega) (chg_cell hc3 (by omega) x1), chg_cell hc5 (by omega) (chg_cell hc3 (by omega) x2)⟩) ?_
          clear hK K
          try simp only [Act.put, List.setIfInBounds_toArray, List.set_cons_zero, List.set_cons_succ]
          refine wpSteady_nil ?_
          clear x0 x1 x2 hc3 hc5
          go_wp2_with fail
          try simp only [Exit.inBlock, Exit.then]
          refine bodyPost_ret (v := .tuple #[.agg #[.int .i64 6, .slice oe me ce, .slice on mn cn], .int .i64 0, dg 40 s.size]) (by simp [results, Tryd.results61, go_sem, f0, f1, f2, g0, g1, g2, dg]) rfl ?_
          have OUT := hid (RB.out.out (x := .int .i64 6) (y := .slice oe me ce) (z := .slice on mn cn) (a := .int .i64 40) (b := .int .i64 s.size) (c := .string ⟨#[]⟩) RB.out.tv)
          exact ⟨OUT.out.2, _, _, OUT.out.1, .inr ⟨40, s.size, HE.out, rfl⟩⟩
        have g1 : decide ((j : Int) ≥ (s.size : Int)) = false := decide_eq_false (by omega)
        have hkdef : nameK s pp ns = if (nameX s pp).size = 0 ∨ digitN (byteN (nameX s pp) 0) = true then 2 else if 64 < (nameX s pp).size then 7 else if Lib.containsS ns (nameX s pp) = true then 8 else 0 := by
          conv => lhs; unfold nameK
          rw [if_neg (by rw [HJ.out]; omega)]
        have hsz := nameX_size h1
        rw [HJ.out] at hsz
        have HWD := hid (rword2_any s j wr (by omega) (by omega))
        have hxx : nameX s pp = s.extract j (wordE s j) := by unfold nameX; rw [HJ.out]
        rw [← hxx] at HWD
        obtain ⟨x, hx⟩ : ∃ x, nameX s pp = x := ⟨_, rfl⟩
        rw [hx] at HWD hsz hkdef
        have HX := hid hx
        have HKD := hid hkdef
        clear hxx hx hkdef
        obtain ⟨we, hwe2⟩ : ∃ we, wordE s j = we := ⟨_, rfl⟩
        have hwe := wordE_le (s := s) (p := j) (by omega)
        rw [hwe2] at hsz hwe
        have HWE := hid hwe2
        clear hwe2
        go_wp2_with fail
        refine HWD.out.mono ?_
        rintro e w2' ⟨rfl, rfl⟩
        obtain ⟨nb, hnb⟩ : ∃ nb, byteN x 0 = nb := ⟨_, rfl⟩
        have hb0 := byteN_lt x 0
        rw [hnb] at HKD hb0
        have HNB := hid hnb
        clear hnb
        go_upto_region 15 with (fail)
        go_cut [78] (fun b wx => wr = wx ∧ b = .bool (decide (x.size = 0 ∨ digitN nb = true)))
        case first =>
          have hem : x.toList.isEmpty = decide (x.size = 0) := by
            rw [Lib.toList_data, size_eq]
            cases x.data.toList <;> simp
          by_cases hz : x.size = 0
          · have e1 : x.toList.isEmpty = true := by rw [hem]; exact decide_eq_true hz
            have HR9 := hid (show decide (x.size = 0 ∨ digitN nb = true) = true from decide_eq_true (.inl hz))
            clear hem
            go_wp2_with fail
            go_meet
            exact ⟨rfl, by rw [HR9.out]⟩
          have e1 : x.toList.isEmpty = false := by rw [hem]; exact decide_eq_false hz
          clear hem
          have hpos : 0 < x.size := by omega
          have hbn := byteN_get hpos
          rw [HNB.out] at hbn
          have hdg : ∀ b, digitN nb = b → b = decide (48 ≤ nb ∧ nb ≤ 57) := fun b hb => by rw [← hb]; unfold digitN; simp
          by_cases e48 : 48 ≤ nb
          · have c1 : decide ((nb : Int) ≥ 48) = true := decide_eq_true (by omega)
            by_cases e57 : nb ≤ 57
            · have c2 : decide ((nb : Int) ≤ 57) = true := decide_eq_true (by omega)
              have HR9 := hid (show decide (x.size = 0 ∨ digitN nb = true) = true from decide_eq_true (.inr (by rw [hdg _ rfl]; exact decide_eq_true ⟨e48, e57⟩)))
              clear hdg
              go_wp2_with fail
              go_meet
              exact ⟨rfl, by rw [HR9.out]⟩
            · have c2 : decide ((nb : Int) ≤ 57) = false := decide_eq_false (by omega)
              have HR9 := hid (show decide (x.size = 0 ∨ digitN nb = true) = false from decide_eq_false (fun h => h.elim hz fun h => by have := hdg _ h; have := of_decide_eq_true this.symm; omega))
              clear hdg
              go_wp2_with fail
              go_meet
              exact ⟨rfl, by rw [HR9.out]⟩
          · have c1 : decide ((nb : Int) ≥ 48) = false := decide_eq_false (by omega)
            have HR9 := hid (show decide (x.size = 0 ∨ digitN nb = true) = false from decide_eq_false (fun h => h.elim hz fun h => by have := hdg _ h; have := of_decide_eq_true this.symm; omega))
            clear hdg
            go_wp2_with fail
            go_meet
            exact ⟨rfl, by rw [HR9.out]⟩
        case rest =>
          obtain ⟨rfl, rfl⟩ := hcut
          by_cases hbad : x.size = 0 ∨ digitN nb = true
          · rw [decide_eq_true hbad]
            have hkk : nameK s pp ns = 2 := by rw [HKD.out, if_pos hbad]
            clear hbad
            have HE := hid (HRES.out.trans (loopP_1 (name_bad hkk (by decide))))
            rw [HJ.out] at HE
            clear hkk
            go_wp2_with fail
            have x0 := (cells_in HI.out.obj 0).trans rfl
            have x1 := (cells_in HI.out.obj 1).trans rfl
            have x2 := (cells_in HI.out.obj 2).trans rfl
            refine wp_region_steady (fun v => v.cell? ⟨w.heap.size + 1 + 1, 0, none⟩ = some (.int .i64 6) ∧ v.cell? ⟨w.heap.size + 1 + 1, 1, none⟩ = some (.slice oe me ce) ∧ v.cell? ⟨w.heap.size + 1 + 1, 2, none⟩ = some (.slice on mn cn)) (by kernel_rfl) (by kernel_rfl) (⟨x0, x1, x2⟩) ?_
            repeat (first
              | (refine wpSteady_skip (by rfl) ?_; try simp only [Act.put, List.setIfInBounds_toArray, List.set_cons_zero, List.set_cons_succ])
              | (refine wpSteady_calm (v := ?_) (by rfl) ?_ ?_; rotate_left; (focus (intro v hSv; (try dsimp only at hSv); go_simp; (try with_reducible rfl); done)); try simp only [Act.put, List.setIfInBounds_toArray, List.set_cons_zero, List.set_cons_succ]))
            refine wpSteady_loud rfl (by rfl) (fun K hK => ?_)
            go_simp
            refine (bad_any 2 j _).mono ?_
            rintro e wb ⟨rfl, hb⟩
            have RB := hid ((HI.out.later (below_drew (Below.refl _ _))).later hb)
            refine hK.out _ _ (⟨bcell (W := wr.drew) hb x0, bcell (W := wr.drew) hb x1, bcell (W := wr.drew) hb x2⟩) ?_
            clear hK K
            try simp only [Act.put, List.setIfInBounds_toArray, List.set_cons_zero, List.set_cons_succ]
            clear x0 x1 x2 hb
            have x0 := (cells_in RB.out.obj 0).trans rfl
            have x1 := (cells_in RB.out.obj 1).trans rfl
            have x2 := (cells_in RB.out.obj 2).trans rfl
            have f0 := (cells_in RB.out.z6 0).trans rfl
            have f1 := (cells_in RB.out.z6 1).trans rfl
            have f2 := (cells_in RB.out.z6 2).trans rfl
            have ff := frozen_in RB.out.z6
            have g0 := (cells_in RB.out.z8 0).trans rfl
            have g1 := (cells_in RB.out.z8 1).trans rfl
            have g2 := (cells_in RB.out.z8 2).trans rfl
            have gf := frozen_in RB.out.z8
            repeat (first
              | (refine wpSteady_skip (by rfl) ?_; try simp only [Act.put, List.setIfInBounds_toArray, List.set_cons_zero, List.set_cons_succ])
              | (refine wpSteady_calm (v := ?_) (by rfl) ?_ ?_; rotate_left; (focus (intro v hSv; (try dsimp only at hSv); go_simp; (try with_reducible rfl); done)); try simp only [Act.put, List.setIfInBounds_toArray, List.set_cons_zero, List.set_cons_succ]))
            refine wpSteady_loud rfl (by rfl) (fun K hK => ?_)
            go_simp
            have hc3 := chg_store3 wb w.heap.size (.int .i64 6) (.slice oe me ce) (.slice on mn cn)
            refine hK.out _ _ (⟨chg_cell hc3 (by omega) x0, chg_cell hc3 (by omega) x1, chg_cell hc3 (by omega) x2⟩) ?_
            clear hK K
            try simp only [Act.put, List.setIfInBounds_toArray, List.set_cons_zero, List.set_cons_succ]
            repeat (first
              | (refine wpSteady_skip (by rfl) ?_; try simp only [Act.put, List.setIfInBounds_toArray, List.set_cons_zero, List.set_cons_succ])
              | (refine wpSteady_calm (v := ?_) (by rfl) ?_ ?_; rotate_left; (focus (intro v hSv; (try dsimp only at hSv); go_simp; (try with_reducible rfl); done)); try simp only [Act.put, List.setIfInBounds_toArray, List.set_cons_zero, List.set_cons_succ]))
            refine wpSteady_loud rfl (by rfl) (fun K hK => ?_)
            go_simp
            have hc5 := chg_store3 (((wb.setCell ⟨w.heap.size, 0, none⟩ (.int .i64 6)).setCell ⟨w.heap.size, 1, none⟩ (.slice oe me ce)).setCell ⟨w.heap.size, 2, none⟩ (.slice on mn cn)) (w.heap.size + 1) (.int .i64 2) (.int .i64 j) (.string ⟨#[]⟩)
            refine hK.out _ _ (⟨chg_cell hc5 (by omega) (chg_cell hc3 (by omega) x0), chg_cell hc5 (by omega) (chg_cell hc3 (by omega) x1), chg_cell hc5 (by omega) (chg_cell hc3 (by omega) x2)⟩) ?_
            clear hK K
            try simp only [Act.put, List.setIfInBounds_toArray, List.set_cons_zero, List.set_cons_succ]
            refine wpSteady_nil ?_
            clear x0 x1 x2 hc3 hc5
            go_wp2_with fail
            try simp only [Exit.inBlock, Exit.then]
            refine bodyPost_ret (v := .tuple #[.agg #[.int .i64 6, .slice oe me ce, .slice on mn cn], .int .i64 0, dg 2 j]) (by simp [results, Tryd.results61, go_sem, f0, f1, f2, g0, g1, g2, dg]) rfl ?_
            have OUT := hid (RB.out.out (x := .int .i64 6) (y := .slice oe me ce) (z := .slice on mn cn) (a := .int .i64 2) (b := .int .i64 j) (c := .string ⟨#[]⟩) RB.out.tv)
            exact ⟨OUT.out.2, _, _, OUT.out.1, .inr ⟨2, j, HE.out, rfl⟩⟩
          rw [decide_eq_false hbad]
          have HKD2 := hid (show nameK s pp ns = if 64 < x.size then 7 else if Lib.containsS ns x = true then 8 else 0 by rw [HKD.out, if_neg hbad])
          clear hbad HKD
          by_cases h64 : 64 < x.size
          · have g3 : decide ((x.size : Int) > 64) = true := decide_eq_true (by omega)
            have hkk : nameK s pp ns = 7 := by rw [HKD2.out, if_pos h64]
            have HE := hid (HRES.out.trans (loopP_1 (name_bad hkk (by decide))))
            rw [HJ.out] at HE
            clear hkk
            go_wp2_with fail
            have x0 := (cells_in HI.out.obj 0).trans rfl
            have x1 := (cells_in HI.out.obj 1).trans rfl
            have x2 := (cells_in HI.out.obj 2).trans rfl
            refine wp_region_steady (fun v => v.cell? ⟨w.heap.size + 1 + 1, 0, none⟩ = some (.int .i64 6) ∧ v.cell? ⟨w.heap.size + 1 + 1, 1, none⟩ = some (.slice oe me ce) ∧ v.cell? ⟨w.heap.size + 1 + 1, 2, none⟩ = some (.slice on mn cn)) (by kernel_rfl) (by kernel_rfl) (⟨x0, x1, x2⟩) ?_
            repeat (first
              | (refine wpSteady_skip (by rfl) ?_; try simp only [Act.put, List.setIfInBounds_toArray, List.set_cons_zero, List.set_cons_succ])
              | (refine wpSteady_calm (v := ?_) (by rfl) ?_ ?_; rotate_left; (focus (intro v hSv; (try dsimp only at hSv); go_simp; (try with_reducible rfl); done)); try simp only [Act.put, List.setIfInBounds_toArray, List.set_cons_zero, List.set_cons_succ]))
            refine wpSteady_loud rfl (by rfl) (fun K hK => ?_)
            go_simp
            refine (bad_any 7 j _).mono ?_
            rintro e wb ⟨rfl, hb⟩
            have RB := hid ((HI.out.later (below_drew (Below.refl _ _))).later hb)
            refine hK.out _ _ (⟨bcell (W := wr.drew) hb x0, bcell (W := wr.drew) hb x1, bcell (W := wr.drew) hb x2⟩) ?_
            clear hK K
            try simp only [Act.put, List.setIfInBounds_toArray, List.set_cons_zero, List.set_cons_succ]
            clear x0 x1 x2 hb
            have x0 := (cells_in RB.out.obj 0).trans rfl
            have x1 := (cells_in RB.out.obj 1).trans rfl
            have x2 := (cells_in RB.out.obj 2).trans rfl
            have f0 := (cells_in RB.out.z6 0).trans rfl
            have f1 := (cells_in RB.out.z6 1).trans rfl
            have f2 := (cells_in RB.out.z6 2).trans rfl
            have ff := frozen_in RB.out.z6
            have g0 := (cells_in RB.out.z8 0).trans rfl
            have g1 := (cells_in RB.out.z8 1).trans rfl
            have g2 := (cells_in RB.out.z8 2).trans rfl
            have gf := frozen_in RB.out.z8
            repeat (first
              | (refine wpSteady_skip (by rfl) ?_; try simp only [Act.put, List.setIfInBounds_toArray, List.set_cons_zero, List.set_cons_succ])
              | (refine wpSteady_calm (v := ?_) (by rfl) ?_ ?_; rotate_left; (focus (intro v hSv; (try dsimp only at hSv); go_simp; (try with_reducible rfl); done)); try simp only [Act.put, List.setIfInBounds_toArray, List.set_cons_zero, List.set_cons_succ]))
            refine wpSteady_loud rfl (by rfl) (fun K hK => ?_)
            go_simp
            have hc3 := chg_store3 wb w.heap.size (.int .i64 6) (.slice oe me ce) (.slice on mn cn)
            refine hK.out _ _ (⟨chg_cell hc3 (by omega) x0, chg_cell hc3 (by omega) x1, chg_cell hc3 (by omega) x2⟩) ?_
            clear hK K
            try simp only [Act.put, List.setIfInBounds_toArray, List.set_cons_zero, List.set_cons_succ]
            repeat (first
              | (refine wpSteady_skip (by rfl) ?_; try simp only [Act.put, List.setIfInBounds_toArray, List.set_cons_zero, List.set_cons_succ])
              | (refine wpSteady_calm (v := ?_) (by rfl) ?_ ?_; rotate_left; (focus (intro v hSv; (try dsimp only at hSv); go_simp; (try with_reducible rfl); done)); try simp only [Act.put, List.setIfInBounds_toArray, List.set_cons_zero, List.set_cons_succ]))
            refine wpSteady_loud rfl (by rfl) (fun K hK => ?_)
            go_simp
            have hc5 := chg_store3 (((wb.setCell ⟨w.heap.size, 0, none⟩ (.int .i64 6)).setCell ⟨w.heap.size, 1, none⟩ (.slice oe me ce)).setCell ⟨w.heap.size, 2, none⟩ (.slice on mn cn)) (w.heap.size + 1) (.int .i64 7) (.int .i64 j) (.string ⟨#[]⟩)
            refine hK.out _ _ (⟨chg_cell hc5 (by omega) (chg_cell hc3 (by omega) x0), chg_cell hc5 (by omega) (chg_cell hc3 (by omega) x1), chg_cell hc5 (by omega) (chg_cell hc3 (by omega) x2)⟩) ?_
            clear hK K
            try simp only [Act.put, List.setIfInBounds_toArray, List.set_cons_zero, List.set_cons_succ]
            refine wpSteady_nil ?_
            clear x0 x1 x2 hc3 hc5
            go_wp2_with fail
            try simp only [Exit.inBlock, Exit.then]
            refine bodyPost_ret (v := .tuple #[.agg #[.int .i64 6, .slice oe me ce, .slice on mn cn], .int .i64 0, dg 7 j]) (by simp [results, Tryd.results61, go_sem, f0, f1, f2, g0, g1, g2, dg]) rfl ?_
            have OUT := hid (RB.out.out (x := .int .i64 6) (y := .slice oe me ce) (z := .slice on mn cn) (a := .int .i64 7) (b := .int .i64 j) (c := .string ⟨#[]⟩) RB.out.tv)
            exact ⟨OUT.out.2, _, _, OUT.out.1, .inr ⟨7, j, HE.out, rfl⟩⟩
          have g3 : decide ((x.size : Int) > 64) = false := decide_eq_false (by omega)
          obtain ⟨_, _, heq, hLV, hSV⟩ := HI.out.tv.out
          cases heq
          have HHAS := hid (rhas_any _ wr _ ns x hSV)
          clear hLV hSV
          cases hcs : Lib.containsS ns x with
          | true =>
            have hkk : nameK s pp ns = 8 := by rw [HKD2.out, if_neg h64, if_pos hcs]
            rw [hcs] at HHAS
            clear hcs
            have x0 := (cells_in HI.out.obj 0).trans rfl
            have x1 := (cells_in HI.out.obj 1).trans rfl
            have x2 := (cells_in HI.out.obj 2).trans rfl
            go_wp2_with fail
            clear x0 x1 x2
            refine HHAS.out.mono ?_
            rintro e w2' ⟨rfl, rfl⟩
            have HE := hid (HRES.out.trans (loopP_1 (name_bad hkk (by decide))))
            rw [HJ.out] at HE
            clear hkk
            go_wp2_with fail
            have x0 := (cells_in HI.out.obj 0).trans rfl
            have x1 := (cells_in HI.out.obj 1).trans rfl
            have x2 := (cells_in HI.out.obj 2).trans rfl
            refine wp_region_steady (fun v => v.cell? ⟨w.heap.size + 1 + 1, 0, none⟩ = some (.int .i64 6) ∧ v.cell? ⟨w.heap.size + 1 + 1, 1, none⟩ = some (.slice oe me ce) ∧ v.cell? ⟨w.heap.size + 1 + 1, 2, none⟩ = some (.slice on mn cn)) (by kernel_rfl) (by kernel_rfl) (⟨x0, x1, x2⟩) ?_
            repeat (first
              | (refine wpSteady_skip (by rfl) ?_; try simp only [Act.put, List.setIfInBounds_toArray, List.set_cons_zero, List.set_cons_succ])
              | (refine wpSteady_calm (v := ?_) (by rfl) ?_ ?_; rotate_left; (focus (intro v hSv; (try dsimp only at hSv); go_simp; (try with_reducible rfl); done)); try simp only [Act.put, List.setIfInBounds_toArray, List.set_cons_zero, List.set_cons_succ]))
            refine wpSteady_loud rfl (by rfl) (fun K hK => ?_)
            go_simp
            refine (bad_any 8 j _).mono ?_
            rintro e wb ⟨rfl, hb⟩
            have RB := hid ((HI.out.later (below_drew (Below.refl _ _))).later hb)
            refine hK.out _ _ (⟨bcell (W := wr.drew) hb x0, bcell (W := wr.drew) hb x1, bcell (W := wr.drew) hb x2⟩) ?_
            clear hK K
            try simp only [Act.put, List.setIfInBounds_toArray, List.set_cons_zero, List.set_cons_succ]
            clear x0 x1 x2 hb
            have x0 := (cells_in RB.out.obj 0).trans rfl
            have x1 := (cells_in RB.out.obj 1).trans rfl
            have x2 := (cells_in RB.out.obj 2).trans rfl
            have f0 := (cells_in RB.out.z6 0).trans rfl
            have f1 := (cells_in RB.out.z6 1).trans rfl
            have f2 := (cells_in RB.out.z6 2).trans rfl
            have ff := frozen_in RB.out.z6
            have g0 := (cells_in RB.out.z8 0).trans rfl
            have g1 := (cells_in RB.out.z8 1).trans rfl
            have g2 := (cells_in RB.out.z8 2).trans rfl
            have gf := frozen_in RB.out.z8
            repeat (first
              | (refine wpSteady_skip (by rfl) ?_; try simp only [Act.put, List.setIfInBounds_toArray, List.set_cons_zero, List.set_cons_succ])
              | (refine wpSteady_calm (v := ?_) (by rfl) ?_ ?_; rotate_left; (focus (intro v hSv; (try dsimp only at hSv); go_simp; (try with_reducible rfl); done)); try simp only [Act.put, List.setIfInBounds_toArray, List.set_cons_zero, List.set_cons_succ]))
            refine wpSteady_loud rfl (by rfl) (fun K hK => ?_)
            go_simp
            have hc3 := chg_store3 wb w.heap.size (.int .i64 6) (.slice oe me ce) (.slice on mn cn)
            refine hK.out _ _ (⟨chg_cell hc3 (by omega) x0, chg_cell hc3 (by omega) x1, chg_cell hc3 (by omega) x2⟩) ?_
            clear hK K
            try simp only [Act.put, List.setIfInBounds_toArray, List.set_cons_zero, List.set_cons_succ]
            repeat (first
              | (refine wpSteady_skip (by rfl) ?_; try simp only [Act.put, List.setIfInBounds_toArray, List.set_cons_zero, List.set_cons_succ])
              | (refine wpSteady_calm (v := ?_) (by rfl) ?_ ?_; rotate_left; (focus (intro v hSv; (try dsimp only at hSv); go_simp; (try with_reducible rfl); done)); try simp only [Act.put, List.setIfInBounds_toArray, List.set_cons_zero, List.set_cons_succ]))
            refine wpSteady_loud rfl (by rfl) (fun K hK => ?_)
            go_simp
            have hc5 := chg_store3 (((wb.setCell ⟨w.heap.size, 0, none⟩ (.int .i64 6)).setCell ⟨w.heap.size, 1, none⟩ (.slice oe me ce)).setCell ⟨w.heap.size, 2, none⟩ (.slice on mn cn)) (w.heap.size + 1) (.int .i64 8) (.int .i64 j) (.string ⟨#[]⟩)
            refine hK.out _ _ (⟨chg_cell hc5 (by omega) (chg_cell hc3 (by omega) x0), chg_cell hc5 (by omega) (chg_cell hc3 (by omega) x1), chg_cell hc5 (by omega) (chg_cell hc3 (by omega) x2)⟩) ?_
            clear hK K
            try simp only [Act.put, List.setIfInBounds_toArray, List.set_cons_zero, List.set_cons_succ]
            refine wpSteady_nil ?_
            clear x0 x1 x2 hc3 hc5
            go_wp2_with fail
            try simp only [Exit.inBlock, Exit.then]
            refine bodyPost_ret (v := .tuple #[.agg #[.int .i64 6, .slice oe me ce, .slice on mn cn], .int .i64 0, dg 8 j]) (by simp [results, Tryd.results61, go_sem, f0, f1, f2, g0, g1, g2, dg]) rfl ?_
            have OUT := hid (RB.out.out (x := .int .i64 6) (y := .slice oe me ce) (z := .slice on mn cn) (a := .int .i64 8) (b := .int .i64 j) (c := .string ⟨#[]⟩) RB.out.tv)
            exact ⟨OUT.out.2, _, _, OUT.out.1, .inr ⟨8, j, HE.out, rfl⟩⟩
          | false =>
            have hkk : nameK s pp ns = 0 := by rw [HKD2.out, if_neg h64, if_neg (by rw [hcs]; decide)]
            have A1 := hid (name_good hkk)
            rw [HX.out, HJ.out, HWE.out] at A1
            have HNIN := hid (containsS_out hcs)
            rw [hcs] at HHAS
            have HAD := hid (show (j : Int) + (x.size : Int) = (we : Int) by omega)
            have hb1 : (j : Int) + (x.size : Int) ≤ 9223372036854775807 := by omega
            have HSG := hid (rsign_any s we 61 wr hwe.2 (by omega))
            have hxs : x.size ≤ 64 := by omega
            clear hkk hcs HKD2
            have x0 := (cells_in HI.out.obj 0).trans rfl
            have x1 := (cells_in HI.out.obj 1).trans rfl
            have x2 := (cells_in HI.out.obj 2).trans rfl
            go_wp2_with fail
            clear x0 x1 x2
            refine HHAS.out.mono ?_
            rintro e w2' ⟨rfl, rfl⟩
            go_wp2_with fail
            rw [HAD.out]
            refine HSG.out.mono ?_
            rintro e w5 ⟨hb2, (⟨p2, a1, rfl⟩ | ⟨ek, at', a1, rfl⟩)⟩
            rotate_left
            · have HE := hid (HRES.out.trans (loopP_2 A1.out a1))
              have hk := (sign_err a1 hwe.2).1
              have HI2 := hid (HI.out.later hb2)
              clear a1 hb2 HI HSG HHAS HRES HNIN
              try simp only [dg]
              go_upto_region 22 with (fail)
              have hG : Below w5.heap.size w5 (w5.alloc (.cells #[.int .i64 ek, .int .i64 at', .string ⟨#[]⟩] 33)) := (Below.refl _ _).alloc (Nat.le_refl _) _
              have hXO := heap_alloc_at w5 (.cells #[.int .i64 ek, .int .i64 at', .string ⟨#[]⟩] 33)
              generalize w5.alloc (.cells #[.int .i64 ek, .int .i64 at', .string ⟨#[]⟩] 33) = w3 at *
              have HI3 := hid (HI2.out.later hG)
              have XO := hXO
              have v0 := (cells_in XO 0).trans rfl
              have hD := RI.lt HI2.out
              clear hXO hG
              have hk0 : ek ≠ 0 := by omega
              have d1 : decide (ek = 0) = false := decide_eq_false hk0
              have d2 : (ek == 0) = false := beq_eq_false_iff_ne.2 hk0
              have d3 : (ek != 0) = true := by rw [bne, d2]; rfl
              clear hk0 hk
              go_wp2_with fail
              have x0 := (cells_in HI3.out.obj 0).trans rfl
              have x1 := (cells_in HI3.out.obj 1).trans rfl
              have x2 := (cells_in HI3.out.obj 2).trans rfl
              have v0 := (cells_in XO 0).trans rfl
              have v1 := (cells_in XO 1).trans rfl
              have v2 := (cells_in XO 2).trans rfl
              refine wp_region_steady (fun v => v.cell? ⟨w.heap.size + 1 + 1, 0, none⟩ = some (.int .i64 6) ∧ v.cell? ⟨w.heap.size + 1 + 1, 1, none⟩ = some (.slice oe me ce) ∧ v.cell? ⟨w.heap.size + 1 + 1, 2, none⟩ = some (.slice on mn cn) ∧ v.cell? ⟨w5.heap.size, 0, none⟩ = some (.int .i64 ek) ∧ v.cell? ⟨w5.heap.size, 1, none⟩ = some (.int .i64 at') ∧ v.cell? ⟨w5.heap.size, 2, none⟩ = some (.string ⟨#[]⟩)) (by kernel_rfl) (by kernel_rfl) (⟨x0, x1, x2, v0, v1, v2⟩) ?_
              repeat (first
                | (refine wpSteady_skip (by rfl) ?_; try simp only [Act.put, List.setIfInBounds_toArray, List.set_cons_zero, List.set_cons_succ])
                | (refine wpSteady_calm (v := ?_) (by rfl) ?_ ?_; rotate_left; (focus (intro v hSv; (try dsimp only at hSv); go_simp; (try with_reducible rfl); done)); try simp only [Act.put, List.setIfInBounds_toArray, List.set_cons_zero, List.set_cons_succ]))
              have RB := hid (HI3.out.later (below_drew (Below.refl _ _)))
              have XB : w3.drew.heap[w5.heap.size]? = _ := XO
              clear x0 x1 x2 v0 v1 v2
              generalize w3.drew = wb at *
              have x0 := (cells_in RB.out.obj 0).trans rfl
              have x1 := (cells_in RB.out.obj 1).trans rfl
              have x2 := (cells_in RB.out.obj 2).trans rfl
              have f0 := (cells_in RB.out.z6 0).trans rfl
              have f1 := (cells_in RB.out.z6 1).trans rfl
              have f2 := (cells_in RB.out.z6 2).trans rfl
              have ff := frozen_in RB.out.z6
              have g0 := (cells_in RB.out.z8 0).trans rfl
              have g1 := (cells_in RB.out.z8 1).trans rfl
              have g2 := (cells_in RB.out.z8 2).trans rfl
              have gf := frozen_in RB.out.z8
              have v0 := (cells_in XB 0).trans rfl
              have v1 := (cells_in XB 1).trans rfl
              have v2 := (cells_in XB 2).trans rfl
              have hle := RI.lt HI3.out
              refine wpSteady_loud rfl (by rfl) (fun K hK => ?_)
              go_simp
              have hc3 := chg_store3 wb w.heap.size (.int .i64 6) (.slice oe me ce) (.slice on mn cn)
              refine hK.out _ _ (⟨chg_cell hc3 (by omega) x0, chg_cell hc3 (by omega) x1, chg_cell hc3 (by omega) x2, chg_cell hc3 (by omega) v0, chg_cell hc3 (by omega) v1, chg_cell hc3 (by omega) v2⟩) ?_
              clear hK K
              try simp only [Act.put, List.setIfInBounds_toArray, List.set_cons_zero, List.set_cons_succ]
              repeat (first
                | (refine wpSteady_skip (by rfl) ?_; try simp only [Act.put, List.setIfInBounds_toArray, List.set_cons_zero, List.set_cons_succ])
                | (refine wpSteady_calm (v := ?_) (by rfl) ?_ ?_; rotate_left; (focus (intro v hSv; (try dsimp only at hSv); go_simp; (try with_reducible rfl); done)); try simp only [Act.put, List.setIfInBounds_toArray, List.set_cons_zero, List.set_cons_succ]))
              refine wpSteady_loud rfl (by rfl) (fun K hK => ?_)
              go_simp
              have hc5 := chg_store3 (((wb.setCell ⟨w.heap.size, 0, none⟩ (.int .i64 6)).setCell ⟨w.heap.size, 1, none⟩ (.slice oe me ce)).setCell ⟨w.heap.size, 2, none⟩ (.slice on mn cn)) (w.heap.size + 1) (.int .i64 ek) (.int .i64 at') (.string ⟨#[]⟩)
              refine hK.out _ _ (⟨chg_cell hc5 (by omega) (chg_cell hc3 (by omega) x0), chg_cell hc5 (by omega) (chg_cell hc3 (by omega) x1), chg_cell hc5 (by omega) (chg_cell hc3 (by omega) x2), chg_cell hc5 (by omega) (chg_cell hc3 (by omega) v0), chg_cell hc5 (by omega) (chg_cell hc3 (by omega) v1), chg_cell hc5 (by omega) (chg_cell hc3 (by omega) v2)⟩) ?_
              clear hK K
              try simp only [Act.put, List.setIfInBounds_toArray, List.set_cons_zero, List.set_cons_succ]
              refine wpSteady_nil ?_
              clear x0 x1 x2 v0 v1 v2 hc3 hc5
              go_wp2_with fail
              try simp only [Exit.inBlock, Exit.then]
              refine bodyPost_ret (v := .tuple #[.agg #[.int .i64 6, .slice oe me ce, .slice on mn cn], .int .i64 0, dg ek at']) (by simp [results, Tryd.results61, go_sem, f0, f1, f2, g0, g1, g2, dg]) rfl ?_
              have OUT := hid (RB.out.out (x := .int .i64 6) (y := .slice oe me ce) (z := .slice on mn cn) (a := .int .i64 ek) (b := .int .i64 at') (c := .string ⟨#[]⟩) RB.out.tv)
              exact ⟨OUT.out.2, _, _, OUT.out.1, .inr ⟨_, _, HE.out, rfl⟩⟩
            obtain ⟨p2a, p2b⟩ := sign_ok a1 hwe.2
            have A2 := hid a1
            have HI2 := hid (HI.out.later hb2)
            clear a1 HSG HHAS
            have HT := hid (show TV (fun g => w.heap.size + 3 ≤ g ∧ g ≠ w5.heap.size) w5 (.agg #[.int .i64 6, .slice oe me ce, .slice on mn cn]) (.mk 6 es ns) from (HI.out.tv.ex.bel hb2).mono fun g hg => ⟨hg.1, by have := hb2.size; omega⟩)
            clear hb2 HI
            try simp only [dg]
            go_upto_region 22 with (fail)
            have hG : Below w5.heap.size w5 (w5.alloc (.cells #[.int .i64 0, .int .i64 0, .string ⟨#[]⟩] 33)) := (Below.refl _ _).alloc (Nat.le_refl _) _
            have XO := heap_alloc_at w5 (.cells #[.int .i64 0, .int .i64 0, .string ⟨#[]⟩] 33)
            generalize w5.alloc (.cells #[.int .i64 0, .int .i64 0, .string ⟨#[]⟩] 33) = w3 at *
            have HI3 := hid (HI2.out.later hG)
            have HT2 := hid (HT.out.bel hG)
            have v0 := (cells_in XO 0).trans rfl
            have hD := RI.lt HI2.out
            clear hG HT HI2
            have HN3 := hid (HR.out w3 p2 p2b)
            have HLV := hid (show (32 : Int) - (f : Int) + 1 = 33 - f by omega)
            go_wp2_with fail
            rw [HLV.out]
            refine HN3.out.mono ?_
            rintro e w4 ⟨hb4, u, t, hu, hpost⟩
            obtain ⟨k4, es4, ns4⟩ := t
            obtain ⟨ve4, vn4, rfl, hE4, hN4⟩ := hu.out
            obtain ⟨oe4, ce4, rfl⟩ := hE4.len
            obtain ⟨on4, cn4, rfl⟩ := hN4.len
            clear hE4 hN4
            have hU3 := hid (hu.mono (Q := fun g => w.heap.size + 3 ≤ g ∧ g ≠ w5.heap.size) (fun g hg => by have := RI.lt HI3.out; have := (Array.getElem?_eq_some_iff.1 XO).1; omega))
            have HI4 := hid (HI3.out.later hb4)
            have XO4 := hid ((hb4.block _ (Array.getElem?_eq_some_iff.1 XO).1).trans XO)
            have hD4 := RI.lt HI4.out
            have HT3 := hid HT2.out
            clear hu HN3 v0
            rcases hpost with ⟨p3, a1, rfl⟩ | ⟨ek, at', a1, rfl⟩
            rotate_left
            · have HE := hid (HRES.out.trans (loopP_3 A1.out A2.out a1))
              have hk := ((HOK.out p2 p2b).2 _ a1).1
              clear a1 HRES HNIN hb4 XO HI3 HT2 HT3 hU3 XO4
              try simp only [dg]
              go_upto_region 25 with (fail)
              have hG1 : Below w4.heap.size w4 (w4.alloc (.cells #[.int .i64 k4, .slice oe4 es4.length ce4, .slice on4 ns4.length cn4] 26)) := (Below.refl _ _).alloc (Nat.le_refl _) _
              have hs1 : (w4.alloc (.cells #[.int .i64 k4, .slice oe4 es4.length ce4, .slice on4 ns4.length cn4] 26)).heap.size = w4.heap.size + 1 := by simp
              have ho1 := heap_alloc_at w4 (.cells #[.int .i64 k4, .slice oe4 es4.length ce4, .slice on4 ns4.length cn4] 26)
              have hG2 : Below (w4.alloc (.cells #[.int .i64 k4, .slice oe4 es4.length ce4, .slice on4 ns4.length cn4] 26)).heap.size _ ((w4.alloc (.cells #[.int .i64 k4, .slice oe4 es4.length ce4, .slice on4 ns4.length cn4] 26)).alloc (.cells #[.int .i64 ek, .int .i64 at', .string ⟨#[]⟩] 33)) := (Below.refl _ _).alloc (Nat.le_refl _) _
              have ho2 := heap_alloc_at (w4.alloc (.cells #[.int .i64 k4, .slice oe4 es4.length ce4, .slice on4 ns4.length cn4] 26)) (.cells #[.int .i64 ek, .int .i64 at', .string ⟨#[]⟩] 33)
              have ho3 := (hG2.block w4.heap.size (by rw [hs1]; omega)).trans ho1
              rw [hs1] at ho2
              have hG := hG1.trans (hG2.mono hG1.size)
              clear hG1 hs1 ho1 hG2
              generalize (w4.alloc (.cells #[.int .i64 k4, .slice oe4 es4.length ce4, .slice on4 ns4.length cn4] 26)).alloc (.cells #[.int .i64 ek, .int .i64 at', .string ⟨#[]⟩] 33) = w6 at *
              have HI6 := hid (HI4.out.later hG)
              clear ho3
              have v0 := (cells_in ho2 0).trans rfl
              have hk0 : ek ≠ 0 := by omega
              have d1 : decide (ek = 0) = false := decide_eq_false hk0
              have d2 : (ek == 0) = false := beq_eq_false_iff_ne.2 hk0
              have d3 : (ek != 0) = true := by rw [bne, d2]; rfl
              clear hk0 hk
              go_wp2_with fail
              have x0 := (cells_in HI6.out.obj 0).trans rfl
              have x1 := (cells_in HI6.out.obj 1).trans rfl
              have x2 := (cells_in HI6.out.obj 2).trans rfl
              have v0 := (cells_in ho2 0).trans rfl
              have v1 := (cells_in ho2 1).trans rfl
              have v2 := (cells_in ho2 2).trans rfl
              refine wp_region_steady (fun v => v.cell? ⟨w.heap.size + 1 + 1, 0, none⟩ = some (.int .i64 6) ∧ v.cell? ⟨w.heap.size + 1 + 1, 1, none⟩ = some (.slice oe me ce) ∧ v.cell? ⟨w.heap.size + 1 + 1, 2, none⟩ = some (.slice on mn cn) ∧ v.cell? ⟨(w4.heap.size + 1), 0, none⟩ = some (.int .i64 ek) ∧ v.cell? ⟨(w4.heap.size + 1), 1, none⟩ = some (.int .i64 at') ∧ v.cell? ⟨(w4.heap.size + 1), 2, none⟩ = some (.string ⟨#[]⟩)) (by kernel_rfl) (by kernel_rfl) (⟨x0, x1, x2, v0, v1, v2⟩) ?_
              repeat (first
                | (refine wpSteady_skip (by rfl) ?_; try simp only [Act.put, List.setIfInBounds_toArray, List.set_cons_zero, List.set_cons_succ])
                | (refine wpSteady_calm (v := ?_) (by rfl) ?_ ?_; rotate_left; (focus (intro v hSv; (try dsimp only at hSv); go_simp; (try with_reducible rfl); done)); try simp only [Act.put, List.setIfInBounds_toArray, List.set_cons_zero, List.set_cons_succ]))
              have RB := hid (HI6.out.later (below_drew (Below.refl _ _)))
              have XB : w6.drew.heap[(w4.heap.size + 1)]? = _ := ho2
              clear x0 x1 x2 v0 v1 v2
              generalize w6.drew = wb at *
              have x0 := (cells_in RB.out.obj 0).trans rfl
              have x1 := (cells_in RB.out.obj 1).trans rfl
              have x2 := (cells_in RB.out.obj 2).trans rfl
              have f0 := (cells_in RB.out.z6 0).trans rfl
              have f1 := (cells_in RB.out.z6 1).trans rfl
              have f2 := (cells_in RB.out.z6 2).trans rfl
              have ff := frozen_in RB.out.z6
              have g0 := (cells_in RB.out.z8 0).trans rfl
              have g1 := (cells_in RB.out.z8 1).trans rfl
              have g2 := (cells_in RB.out.z8 2).trans rfl
              have gf := frozen_in RB.out.z8
              have v0 := (cells_in XB 0).trans rfl
              have v1 := (cells_in XB 1).trans rfl
              have v2 := (cells_in XB 2).trans rfl
              have hle := RI.lt HI6.out
              refine wpSteady_loud rfl (by rfl) (fun K hK => ?_)
              go_simp
              have hc3 := chg_store3 wb w.heap.size (.int .i64 6) (.slice oe me ce) (.slice on mn cn)
              refine hK.out _ _ (⟨chg_cell hc3 (by omega) x0, chg_cell hc3 (by omega) x1, chg_cell hc3 (by omega) x2, chg_cell hc3 (by omega) v0, chg_cell hc3 (by omega) v1, chg_cell hc3 (by omega) v2⟩) ?_
              clear hK K
              try simp only [Act.put, List.setIfInBounds_toArray, List.set_cons_zero, List.set_cons_succ]
              repeat (first
                | (refine wpSteady_skip (by rfl) ?_; try simp only [Act.put, List.setIfInBounds_toArray, List.set_cons_zero, List.set_cons_succ])
                | (refine wpSteady_calm (v := ?_) (by rfl) ?_ ?_; rotate_left; (focus (intro v hSv; (try dsimp only at hSv); go_simp; (try with_reducible rfl); done)); try simp only [Act.put, List.setIfInBounds_toArray, List.set_cons_zero, List.set_cons_succ]))
              refine wpSteady_loud rfl (by rfl) (fun K hK => ?_)
              go_simp
              have hc5 := chg_store3 (((wb.setCell ⟨w.heap.size, 0, none⟩ (.int .i64 6)).setCell ⟨w.heap.size, 1, none⟩ (.slice oe me ce)).setCell ⟨w.heap.size, 2, none⟩ (.slice on mn cn)) (w.heap.size + 1) (.int .i64 ek) (.int .i64 at') (.string ⟨#[]⟩)
              refine hK.out _ _ (⟨chg_cell hc5 (by omega) (chg_cell hc3 (by omega) x0), chg_cell hc5 (by omega) (chg_cell hc3 (by omega) x1), chg_cell hc5 (by omega) (chg_cell hc3 (by omega) x2), chg_cell hc5 (by omega) (chg_cell hc3 (by omega) v0), chg_cell hc5 (by omega) (chg_cell hc3 (by omega) v1), chg_cell hc5 (by omega) (chg_cell hc3 (by omega) v2)⟩) ?_
              clear hK K
              try simp only [Act.put, List.setIfInBounds_toArray, List.set_cons_zero, List.set_cons_succ]
              refine wpSteady_nil ?_
              clear x0 x1 x2 v0 v1 v2 hc3 hc5
              go_wp2_with fail
              try simp only [Exit.inBlock, Exit.then]
              refine bodyPost_ret (v := .tuple #[.agg #[.int .i64 6, .slice oe me ce, .slice on mn cn], .int .i64 0, dg ek at']) (by simp [results, Tryd.results61, go_sem, f0, f1, f2, g0, g1, g2, dg]) rfl ?_
              have OUT := hid (RB.out.out (x := .int .i64 6) (y := .slice oe me ce) (z := .slice on mn cn) (a := .int .i64 ek) (b := .int .i64 at') (c := .string ⟨#[]⟩) RB.out.tv)
              exact ⟨OUT.out.2, _, _, OUT.out.1, .inr ⟨_, _, HE.out, rfl⟩⟩
            obtain ⟨-, c4, c5, -⟩ := (HOK.out p2 p2b).1 _ _ a1
            have A3 := hid a1
            have HT4 := hid (HT3.out.bel hb4)
            have W34 := hid hb4.size
            have W3 := hid (Array.getElem?_eq_some_iff.1 XO).1
            clear a1 hb4 XO HI3 HT2 HT3
            try simp only [dg]
            go_upto_region 25 with (fail)
            have hG1 : Below w4.heap.size w4 (w4.alloc (.cells #[.int .i64 k4, .slice oe4 es4.length ce4, .slice on4 ns4.length cn4] 26)) := (Below.refl _ _).alloc (Nat.le_refl _) _
            have hs1 : (w4.alloc (.cells #[.int .i64 k4, .slice oe4 es4.length ce4, .slice on4 ns4.length cn4] 26)).heap.size = w4.heap.size + 1 := by simp
            have ho1 := heap_alloc_at w4 (.cells #[.int .i64 k4, .slice oe4 es4.length ce4, .slice on4 ns4.length cn4] 26)
            have hG2 : Below (w4.alloc (.cells #[.int .i64 k4, .slice oe4 es4.length ce4, .slice on4 ns4.length cn4] 26)).heap.size _ ((w4.alloc (.cells #[.int .i64 k4, .slice oe4 es4.length ce4, .slice on4 ns4.length cn4] 26)).alloc (.cells #[.int .i64 0, .int .i64 0, .string ⟨#[]⟩] 33)) := (Below.refl _ _).alloc (Nat.le_refl _) _
            have ho2 := heap_alloc_at (w4.alloc (.cells #[.int .i64 k4, .slice oe4 es4.length ce4, .slice on4 ns4.length cn4] 26)) (.cells #[.int .i64 0, .int .i64 0, .string ⟨#[]⟩] 33)
            have ho3 := (hG2.block w4.heap.size (by rw [hs1]; omega)).trans ho1
            rw [hs1] at ho2
            have hG := hG1.trans (hG2.mono hG1.size)
            clear hG1 hs1 ho1 hG2
            generalize (w4.alloc (.cells #[.int .i64 k4, .slice oe4 es4.length ce4, .slice on4 ns4.length cn4] 26)).alloc (.cells #[.int .i64 0, .int .i64 0, .string ⟨#[]⟩] 33) = w6 at *
            have HI6 := hid (HI4.out.later hG)
            have XO6 := hid ((hG.block _ (by have := W34.out; have := W3.out; omega)).trans XO4.out)
            have HT6 := hid (HT4.out.bel hG)
            have HU6 := hid (hU3.out.bel hG)
            have W46 := hid hG.size
            have HPUT := hid (put_any (fun g => w.heap.size + 3 ≤ g ∧ g ≠ w5.heap.size) w6 _ _ es ns x (.mk k4 es4 ns4) 6 HT6.out HU6.out HLN.out (by omega) HNIN.out (by omega))
            have v0 := (cells_in ho2 0).trans rfl
            have z0 := (cells_in ho3 0).trans rfl
            have z1 := (cells_in ho3 1).trans rfl
            have z2 := (cells_in ho3 2).trans rfl
            clear ho2 ho3 hG HT4 hU3 XO4 HT6 HU6
            have x0 := (cells_in HI6.out.obj 0).trans rfl
            have x1 := (cells_in HI6.out.obj 1).trans rfl
            have x2 := (cells_in HI6.out.obj 2).trans rfl
            go_wp2_with fail
            clear x0 x1 x2 z0 z1 z2 v0
            refine HPUT.out.mono ?_
            rintro e w7 ⟨r, rfl, hr, hb7⟩
            obtain ⟨ver, vnr, rfl, hEr, hNr⟩ := hr.out
            obtain ⟨oer, cer, rfl⟩ := hEr.len
            obtain ⟨onr, cnr, rfl⟩ := hNr.len
            have HI7 := hid (HI6.out.later hb7)
            have HI8 := hid (HI6.out.put hb7 (hr.mono fun g hg => hg.elim (fun h => .inl h.1) .inr))
            have hneD : ¬ w5.heap.size = w.heap.size + 1 + 1 := by omega
            have hc8 := chg_store3 w7 (w.heap.size + 1 + 1) (.int .i64 6) (.slice oer (es.insertIdx (posT ns x) (.mk k4 es4 ns4)).length cer) (.slice onr (ns.insertIdx (posT ns x) x).length cnr)
            have hD6 : w5.heap.size < w6.heap.size := by have := W3.out; have := W34.out; have := W46.out; omega
            have XO8 := hid ((hc8.block w5.heap.size (Nat.lt_of_lt_of_le hD6 hb7.size) hneD).trans ((hb7.block _ hD6).trans XO6.out))
            have HT8 := hid (store3_tv (b := w.heap.size + 1 + 1) (Q := fun g => w.heap.size + 3 ≤ g ∧ g ≠ w5.heap.size) hr (by omega) (fun g hg => by omega) (.int .i64 6) (.slice oer (es.insertIdx (posT ns x) (.mk k4 es4 ns4)).length cer) (.slice onr (ns.insertIdx (posT ns x) x).length cnr))
            have HL8 := hid (Nat.lt_of_lt_of_le hD6 (Nat.le_trans hb7.size hc8.size))
            have HPN := hid (posN_asc x HASC.out)
            have HAS := hid (asc_ins ns x HASC.out HNIN.out)
            have HLE := hid (show (es.insertIdx (posT ns x) (.mk k4 es4 ns4)).length = (ns.insertIdx (posT ns x) x).length ∧ (ns.insertIdx (posT ns x) x).length = ns.length + 1 from by
              have := posT_le ns x
              have := HLN.out
              rw [List.length_insertIdx_of_le_length (by omega), List.length_insertIdx_of_le_length (by omega)]; omega)
            have x0 := (cells_in HI7.out.obj 0).trans rfl
            have x1 := (cells_in HI7.out.obj 1).trans rfl
            have x2 := (cells_in HI7.out.obj 2).trans rfl
            have xf := frozen_in HI7.out.obj
            clear hr hEr hNr hb7 hc8 HPUT HI6 XO6 hD6 HNIN HASC
            generalize hesr : es.insertIdx (posT ns x) (.mk k4 es4 ns4) = esr at *
            have HESR := hid hesr
            clear hesr
            generalize hnsr : ns.insertIdx (posT ns x) x = nsr at *
            have HNSR := hid hnsr
            clear hnsr
            have HSK2 := hid (rskip_any s p3 (((w7.setCell ⟨w.heap.size + 1 + 1, 0, none⟩ (.int .i64 6)).setCell ⟨w.heap.size + 1 + 1, 1, none⟩ (.slice oer esr.length cer)).setCell ⟨w.heap.size + 1 + 1, 2, none⟩ (.slice onr nsr.length cnr)) c5 (by omega))
            go_upto_region 28 with (fail)
            generalize (((w7.setCell ⟨w.heap.size + 1 + 1, 0, none⟩ (.int .i64 6)).setCell ⟨w.heap.size + 1 + 1, 1, none⟩ (.slice oer esr.length cer)).setCell ⟨w.heap.size + 1 + 1, 2, none⟩ (.slice onr nsr.length cnr)) = w8 at *
            clear x0 x1 x2 xf HI7
            obtain ⟨j4, hj4⟩ : ∃ j4, skipN s p3 = j4 := ⟨_, rfl⟩
            have hge4 := skipN_ge c5
            rw [hj4] at HSK2 hge4
            have HJ4 := hid hj4
            clear hj4
            have hj4a : (0 : Int) ≤ (j4 : Int) := by omega
            have HPI := hid (show ns.insertIdx (posN ns x) x = nsr by rw [HPN.out]; exact HNSR.out)
            go_wp2_with fail
            refine HSK2.out.mono ?_
            rintro e w2' ⟨rfl, rfl⟩
            by_cases hlt4 : j4 < s.size
            · have hj4b : (j4 : Int) < (s.size : Int) := by omega
              have hbn4 := byteN_get hlt4
              have A4 := hid (show readyP s p3 = .ok j4 by unfold readyP; rw [HJ4.out, if_pos hlt4])
              by_cases hb4 : byteN s j4 = 125
              · have d1 : decide ((byteN s j4 : Int) = 125) = true := decide_eq_true (by omega)
                have d2 : ((byteN s j4 : Int) == 125) = true := beq_iff_eq.2 (by omega)
                have HE := hid (HRES.out.trans (loopP_5 A1.out A2.out A3.out A4.out hb4))
                rw [HPI.out, HPN.out, HESR.out] at HE
                clear hb4
                have x0 := (cells_in HI8.out.obj 0).trans rfl
                have x1 := (cells_in HI8.out.obj 1).trans rfl
                have x2 := (cells_in HI8.out.obj 2).trans rfl
                have f0 := (cells_in HI8.out.z6 0).trans rfl
                have f1 := (cells_in HI8.out.z6 1).trans rfl
                have f2 := (cells_in HI8.out.z6 2).trans rfl
                have ff := frozen_in HI8.out.z6
                have g0 := (cells_in HI8.out.z8 0).trans rfl
                have g1 := (cells_in HI8.out.z8 1).trans rfl
                have g2 := (cells_in HI8.out.z8 2).trans rfl
                have gf := frozen_in HI8.out.z8
                have hadd : ((j4 + 1 : Nat) : Int) = (j4 : Int) + 1 := by omega
                go_wp2_with fail
                try simp only [Exit.inBlock, Exit.then]
                refine bodyPost_ret (v := .tuple #[.agg #[.int .i64 6, .slice oer esr.length cer, .slice onr nsr.length cnr], .int .i64 ((j4 : Int) + 1), dg 0 0]) (by simp [results, Tryd.results61, go_sem, f0, f1, f2, g0, g1, g2, dg]) rfl ?_
                have OUT := hid (HI8.out.out (x := .int .i64 6) (y := .slice oer esr.length cer) (z := .slice onr nsr.length cnr) (a := .int .i64 0) (b := .int .i64 0) (c := .string ⟨#[]⟩) HI8.out.tv)
                exact ⟨OUT.out.2, _, _, OUT.out.1, .inl ⟨j4 + 1, HE.out, by rw [hadd]⟩⟩
              · have d1 : decide ((byteN s j4 : Int) = 125) = false := decide_eq_false (by omega)
                have d2 : ((byteN s j4 : Int) == 125) = false := beq_eq_false_iff_ne.2 (by omega)
                have HB4 := hid hb4
                clear hb4
                have HSG2 := hid (rsign_any s j4 44 w8 hge4.2 (by omega))
                go_wp2_with fail
                refine HSG2.out.mono ?_
                rintro e w9 ⟨hb9, (⟨p5, a1, rfl⟩ | ⟨ek, at', a1, rfl⟩)⟩
                · have HE := hid (HRES.out.trans (loopP_7 A1.out A2.out A3.out A4.out HB4.out a1))
                  rw [HPI.out, HPN.out, HESR.out] at HE
                  obtain ⟨e1, e2⟩ := sign_ok a1 hge4.2
                  clear a1
                  have HI9 := hid (HI8.out.later hb9)
                  have HT9 := hid (HT8.out.bel hb9)
                  have XO9 := (hb9.block _ HL8.out).trans XO8.out
                  have y0 := (cells_in XO9 0).trans rfl
                  have y1 := (cells_in XO9 1).trans rfl
                  have y2 := (cells_in XO9 2).trans rfl
                  have yf := frozen_in XO9
                  have HI10 := hid (HI9.out.store (x := .int .i64 0) (y := .int .i64 0) (z := .string ⟨#[]⟩) HT9.out (show w.heap.size + 3 ≤ w5.heap.size by omega))
                  have XO10 : (((w9.setCell ⟨w5.heap.size, 0, none⟩ (.int .i64 0)).setCell ⟨w5.heap.size, 1, none⟩ (.int .i64 0)).setCell ⟨w5.heap.size, 2, none⟩ (.string ⟨#[]⟩)).heap[w5.heap.size]? = some (.cells #[.int .i64 0, .int .i64 0, .string ⟨#[]⟩] 33) := obj_set (obj_set (obj_set XO9 _) _) _
                  clear HI8 HT8 HI9 HT9 XO9 HSG2 hb9
                  try simp only [dg]
                  go_upto_region 32 with (fail)
                  generalize (((w9.setCell ⟨w5.heap.size, 0, none⟩ (.int .i64 0)).setCell ⟨w5.heap.size, 1, none⟩ (.int .i64 0)).setCell ⟨w5.heap.size, 2, none⟩ (.string ⟨#[]⟩)) = w10 at *
                  clear y0 y1 y2 yf
                  have v0 := (cells_in XO10 0).trans rfl
                  go_wp2_with fail
                  go_roundg g0
                  case measure => omega
                  case rel => exact ⟨p5, n + 1, _, _, _, _, _, _, _, _, rfl, by go_num, by omega, by omega, by omega, by have := HLE.out; omega, by have := HLE.out; omega, hid HLE.out.1, HAS, HI10, HE⟩
                · have HE := hid (HRES.out.trans (loopP_6 A1.out A2.out A3.out A4.out HB4.out a1))
                  have hk := (sign_err a1 hge4.2).1
                  clear a1
                  have HI9 := hid (HI8.out.later hb9)
                  have HT9 := hid (HT8.out.bel hb9)
                  have XO9 := (hb9.block _ HL8.out).trans XO8.out
                  have y0 := (cells_in XO9 0).trans rfl
                  have y1 := (cells_in XO9 1).trans rfl
                  have y2 := (cells_in XO9 2).trans rfl
                  have yf := frozen_in XO9
                  have HI10 := hid (HI9.out.store (x := .int .i64 ek) (y := .int .i64 at') (z := .string ⟨#[]⟩) HT9.out (show w.heap.size + 3 ≤ w5.heap.size by omega))
                  have XO10 : (((w9.setCell ⟨w5.heap.size, 0, none⟩ (.int .i64 ek)).setCell ⟨w5.heap.size, 1, none⟩ (.int .i64 at')).setCell ⟨w5.heap.size, 2, none⟩ (.string ⟨#[]⟩)).heap[w5.heap.size]? = some (.cells #[.int .i64 ek, .int .i64 at', .string ⟨#[]⟩] 33) := obj_set (obj_set (obj_set XO9 _) _) _
                  clear HI8 HT8 HI9 HT9 XO9 HSG2 hb9
                  try simp only [dg]
                  go_upto_region 32 with (fail)
                  generalize (((w9.setCell ⟨w5.heap.size, 0, none⟩ (.int .i64 ek)).setCell ⟨w5.heap.size, 1, none⟩ (.int .i64 at')).setCell ⟨w5.heap.size, 2, none⟩ (.string ⟨#[]⟩)) = w10 at *
                  clear y0 y1 y2 yf
                  have v0 := (cells_in XO10 0).trans rfl
                  have hk0 : ek ≠ 0 := by omega
                  have d1 : decide (ek = 0) = false := decide_eq_false hk0
                  have d2 : (ek == 0) = false := beq_eq_false_iff_ne.2 hk0
                  have d3 : (ek != 0) = true := by rw [bne, d2]; rfl
                  clear hk0 hk
                  go_wp2_with fail
                  have x0 := (cells_in HI10.out.obj 0).trans rfl
                  have x1 := (cells_in HI10.out.obj 1).trans rfl
                  have x2 := (cells_in HI10.out.obj 2).trans rfl
                  have v0 := (cells_in XO10 0).trans rfl
                  have v1 := (cells_in XO10 1).trans rfl
                  have v2 := (cells_in XO10 2).trans rfl
                  refine wp_region_steady (fun v => v.cell? ⟨w.heap.size + 1 + 1, 0, none⟩ = some (.int .i64 6) ∧ v.cell? ⟨w.heap.size + 1 + 1, 1, none⟩ = some (.slice oer esr.length cer) ∧ v.cell? ⟨w.heap.size + 1 + 1, 2, none⟩ = some (.slice onr nsr.length cnr) ∧ v.cell? ⟨w5.heap.size, 0, none⟩ = some (.int .i64 ek) ∧ v.cell? ⟨w5.heap.size, 1, none⟩ = some (.int .i64 at') ∧ v.cell? ⟨w5.heap.size, 2, none⟩ = some (.string ⟨#[]⟩)) (by kernel_rfl) (by kernel_rfl) (⟨x0, x1, x2, v0, v1, v2⟩) ?_
                  repeat (first
                    | (refine wpSteady_skip (by rfl) ?_; try simp only [Act.put, List.setIfInBounds_toArray, List.set_cons_zero, List.set_cons_succ])
                    | (refine wpSteady_calm (v := ?_) (by rfl) ?_ ?_; rotate_left; (focus (intro v hSv; (try dsimp only at hSv); go_simp; (try with_reducible rfl); done)); try simp only [Act.put, List.setIfInBounds_toArray, List.set_cons_zero, List.set_cons_succ]))
                  have RB := hid (HI10.out.later (below_drew (Below.refl _ _)))
                  have XB : w10.drew.heap[w5.heap.size]? = _ := XO10
                  clear x0 x1 x2 v0 v1 v2
                  generalize w10.drew = wb at *
                  have x0 := (cells_in RB.out.obj 0).trans rfl
                  have x1 := (cells_in RB.out.obj 1).trans rfl
                  have x2 := (cells_in RB.out.obj 2).trans rfl
                  have f0 := (cells_in RB.out.z6 0).trans rfl
                  have f1 := (cells_in RB.out.z6 1).trans rfl
                  have f2 := (cells_in RB.out.z6 2).trans rfl
                  have ff := frozen_in RB.out.z6
                  have g0 := (cells_in RB.out.z8 0).trans rfl
                  have g1 := (cells_in RB.out.z8 1).trans rfl
                  have g2 := (cells_in RB.out.z8 2).trans rfl
                  have gf := frozen_in RB.out.z8
                  have v0 := (cells_in XB 0).trans rfl
                  have v1 := (cells_in XB 1).trans rfl
                  have v2 := (cells_in XB 2).trans rfl
                  have hle := RI.lt HI10.out
                  refine wpSteady_loud rfl (by rfl) (fun K hK => ?_)
                  go_simp
                  have hc3 := chg_store3 wb w.heap.size (.int .i64 6) (.slice oer esr.length cer) (.slice onr nsr.length cnr)
                  refine hK.out _ _ (⟨chg_cell hc3 (by omega) x0, chg_cell hc3 (by omega) x1, chg_cell hc3 (by omega) x2, chg_cell hc3 (by omega) v0, chg_cell hc3 (by omega) v1, chg_cell hc3 (by omega) v2⟩) ?_
                  clear hK K
                  try simp only [Act.put, List.setIfInBounds_toArray, List.set_cons_zero, List.set_cons_succ]
                  repeat (first
                    | (refine wpSteady_skip (by rfl) ?_; try simp only [Act.put, List.setIfInBounds_toArray, List.set_cons_zero, List.set_cons_succ])
                    | (refine wpSteady_calm (v := ?_) (by rfl) ?_ ?_; rotate_left; (focus (intro v hSv; (try dsimp only at hSv); go_simp; (try with_reducible rfl); done)); try simp only [Act.put, List.setIfInBounds_toArray, List.set_cons_zero, List.set_cons_succ]))
                  refine wpSteady_loud rfl (by rfl) (fun K hK => ?_)
                  go_simp
                  have hc5 := chg_store3 (((wb.setCell ⟨w.heap.size, 0, none⟩ (.int .i64 6)).setCell ⟨w.heap.size, 1, none⟩ (.slice oer esr.length cer)).setCell ⟨w.heap.size, 2, none⟩ (.slice onr nsr.length cnr)) (w.heap.size + 1) (.int .i64 ek) (.int .i64 at') (.string ⟨#[]⟩)
                  refine hK.out _ _ (⟨chg_cell hc5 (by omega) (chg_cell hc3 (by omega) x0), chg_cell hc5 (by omega) (chg_cell hc3 (by omega) x1), chg_cell hc5 (by omega) (chg_cell hc3 (by omega) x2), chg_cell hc5 (by omega) (chg_cell hc3 (by omega) v0), chg_cell hc5 (by omega) (chg_cell hc3 (by omega) v1), chg_cell hc5 (by omega) (chg_cell hc3 (by omega) v2)⟩) ?_
                  clear hK K
                  try simp only [Act.put, List.setIfInBounds_toArray, List.set_cons_zero, List.set_cons_succ]
                  refine wpSteady_nil ?_
                  clear x0 x1 x2 v0 v1 v2 hc3 hc5
                  go_wp2_with fail
                  try simp only [Exit.inBlock, Exit.then]
                  refine bodyPost_ret (v := .tuple #[.agg #[.int .i64 6, .slice oer esr.length cer, .slice onr nsr.length cnr], .int .i64 0, dg ek at']) (by simp [results, Tryd.results61, go_sem, f0, f1, f2, g0, g1, g2, dg]) rfl ?_
                  have OUT := hid (RB.out.out (x := .int .i64 6) (y := .slice oer esr.length cer) (z := .slice onr nsr.length cnr) (a := .int .i64 ek) (b := .int .i64 at') (c := .string ⟨#[]⟩) RB.out.tv)
                  exact ⟨OUT.out.2, _, _, OUT.out.1, .inr ⟨_, _, HE.out, rfl⟩⟩
            · have hjs : j4 = s.size := by omega
              have HE := hid (HRES.out.trans (loopP_4 A1.out A2.out A3.out (show readyP s p3 = .error (40, s.size) by unfold readyP; rw [HJ4.out, if_neg hlt4, hjs])))
              have HJS := hid hjs
              have c44 : decide ((j4 : Int) < (s.size : Int)) = false := decide_eq_false (by omega)
              clear hjs
              have HSG2 := hid (rsign_any s j4 44 w8 hge4.2 (by omega))
              go_wp2_with fail
              refine HSG2.out.mono ?_
              rintro e w9 ⟨hb9, (⟨p5, a1, rfl⟩ | ⟨ek, at', a1, rfl⟩)⟩
              · exact absurd a1 (by rw [HJS.out, sign_end]; exact fun h => by cases h)
              · have a2 : signP s j4 44 = .error (40, s.size) := by rw [HJS.out]; exact sign_end s 44
                rw [a2] at a1
                cases a1
                have HI9 := hid (HI8.out.later hb9)
                have HT9 := hid (HT8.out.bel hb9)
                have XO9 := (hb9.block _ HL8.out).trans XO8.out
                have y0 := (cells_in XO9 0).trans rfl
                have y1 := (cells_in XO9 1).trans rfl
                have y2 := (cells_in XO9 2).trans rfl
                have yf := frozen_in XO9
                have HI10 := hid (HI9.out.store (x := .int .i64 40) (y := .int .i64 s.size) (z := .string ⟨#[]⟩) HT9.out (show w.heap.size + 3 ≤ w5.heap.size by omega))
                have XO10 : (((w9.setCell ⟨w5.heap.size, 0, none⟩ (.int .i64 40)).setCell ⟨w5.heap.size, 1, none⟩ (.int .i64 s.size)).setCell ⟨w5.heap.size, 2, none⟩ (.string ⟨#[]⟩)).heap[w5.heap.size]? = some (.cells #[.int .i64 40, .int .i64 s.size, .string ⟨#[]⟩] 33) := obj_set (obj_set (obj_set XO9 _) _) _
                clear HI8 HT8 HI9 HT9 XO9 HSG2 hb9
                try simp only [dg]
                go_upto_region 32 with (fail)
                generalize (((w9.setCell ⟨w5.heap.size, 0, none⟩ (.int .i64 40)).setCell ⟨w5.heap.size, 1, none⟩ (.int .i64 s.size)).setCell ⟨w5.heap.size, 2, none⟩ (.string ⟨#[]⟩)) = w10 at *
                clear y0 y1 y2 yf
                have v0 := (cells_in XO10 0).trans rfl
                go_wp2_with fail
                have x0 := (cells_in HI10.out.obj 0).trans rfl
                have x1 := (cells_in HI10.out.obj 1).trans rfl
                have x2 := (cells_in HI10.out.obj 2).trans rfl
                have v0 := (cells_in XO10 0).trans rfl
                have v1 := (cells_in XO10 1).trans rfl
                have v2 := (cells_in XO10 2).trans rfl
                refine wp_region_steady (fun v => v.cell? ⟨w.heap.size + 1 + 1, 0, none⟩ = some (.int .i64 6) ∧ v.cell? ⟨w.heap.size + 1 + 1, 1, none⟩ = some (.slice oer esr.length cer) ∧ v.cell? ⟨w.heap.size + 1 + 1, 2, none⟩ = some (.slice onr nsr.length cnr) ∧ v.cell? ⟨w5.heap.size, 0, none⟩ = some (.int .i64 40) ∧ v.cell? ⟨w5.heap.size, 1, none⟩ = some (.int .i64 s.size) ∧ v.cell? ⟨w5.heap.size, 2, none⟩ = some (.string ⟨#[]⟩)) (by kernel_rfl) (by kernel_rfl) (⟨x0, x1, x2, v0, v1, v2⟩) ?_
                repeat (first
                  | (refine wpSteady_skip (by rfl) ?_; try simp only [Act.put, List.setIfInBounds_toArray, List.set_cons_zero, List.set_cons_succ])
                  | (refine wpSteady_calm (v := ?_) (by rfl) ?_ ?_; rotate_left; (focus (intro v hSv; (try dsimp only at hSv); go_simp; (try with_reducible rfl); done)); try simp only [Act.put, List.setIfInBounds_toArray, List.set_cons_zero, List.set_cons_succ]))
                have RB := hid (HI10.out.later (below_drew (Below.refl _ _)))
                have XB : w10.drew.heap[w5.heap.size]? = _ := XO10
                clear x0 x1 x2 v0 v1 v2
                generalize w10.drew = wb at *
                have x0 := (cells_in RB.out.obj 0).trans rfl
                have x1 := (cells_in RB.out.obj 1).trans rfl
                have x2 := (cells_in RB.out.obj 2).trans rfl
                have f0 := (cells_in RB.out.z6 0).trans rfl
                have f1 := (cells_in RB.out.z6 1).trans rfl
                have f2 := (cells_in RB.out.z6 2).trans rfl
                have ff := frozen_in RB.out.z6
                have g0 := (cells_in RB.out.z8 0).trans rfl
                have g1 := (cells_in RB.out.z8 1).trans rfl
                have g2 := (cells_in RB.out.z8 2).trans rfl
                have gf := frozen_in RB.out.z8
                have v0 := (cells_in XB 0).trans rfl
                have v1 := (cells_in XB 1).trans rfl
                have v2 := (cells_in XB 2).trans rfl
                have hle := RI.lt HI10.out
                refine wpSteady_loud rfl (by rfl) (fun K hK => ?_)
                go_simp
                have hc3 := chg_store3 wb w.heap.size (.int .i64 6) (.slice oer esr.length cer) (.slice onr nsr.length cnr)
                refine hK.out _ _ (⟨chg_cell hc3 (by omega) x0, chg_cell hc3 (by omega) x1, chg_cell hc3 (by omega) x2, chg_cell hc3 (by omega) v0, chg_cell hc3 (by omega) v1, chg_cell hc3 (by omega) v2⟩) ?_
                clear hK K
                try simp only [Act.put, List.setIfInBounds_toArray, List.set_cons_zero, List.set_cons_succ]
                repeat (first
                  | (refine wpSteady_skip (by rfl) ?_; try simp only [Act.put, List.setIfInBounds_toArray, List.set_cons_zero, List.set_cons_succ])
                  | (refine wpSteady_calm (v := ?_) (by rfl) ?_ ?_; rotate_left; (focus (intro v hSv; (try dsimp only at hSv); go_simp; (try with_reducible rfl); done)); try simp only [Act.put, List.setIfInBounds_toArray, List.set_cons_zero, List.set_cons_succ]))
                refine wpSteady_loud rfl (by rfl) (fun K hK => ?_)
                go_simp
                have hc5 := chg_store3 (((wb.setCell ⟨w.heap.size, 0, none⟩ (.int .i64 6)).setCell ⟨w.heap.size, 1, none⟩ (.slice oer esr.length cer)).setCell ⟨w.heap.size, 2, none⟩ (.slice onr nsr.length cnr)) (w.heap.size + 1) (.int .i64 40) (.int .i64 s.size) (.string ⟨#[]⟩)
                refine hK.out _ _ (⟨chg_cell hc5 (by omega) (chg_cell hc3 (by omega) x0), chg_cell hc5 (by omega) (chg_cell hc3 (by omega) x1), chg_cell hc5 (by omega) (chg_cell hc3 (by omega) x2), chg_cell hc5 (by omega) (chg_cell hc3 (by omega) v0), chg_cell hc5 (by omega) (chg_cell hc3 (by omega) v1), chg_cell hc5 (by omega) (chg_cell hc3 (by omega) v2)⟩) ?_
                clear hK K
                try simp only [Act.put, List.setIfInBounds_toArray, List.set_cons_zero, List.set_cons_succ]
                refine wpSteady_nil ?_
                clear x0 x1 x2 v0 v1 v2 hc3 hc5
                go_wp2_with fail
                try simp only [Exit.inBlock, Exit.then]
                refine bodyPost_ret (v := .tuple #[.agg #[.int .i64 6, .slice oer esr.length cer, .slice onr nsr.length cnr], .int .i64 0, dg 40 s.size]) (by simp [results, Tryd.results61, go_sem, f0, f1, f2, g0, g1, g2, dg]) rfl ?_
                have OUT := hid (RB.out.out (x := .int .i64 6) (y := .slice oer esr.length cer) (z := .slice onr nsr.length cnr) (a := .int .i64 40) (b := .int .i64 s.size) (c := .string ⟨#[]⟩) RB.out.tv)
                exact ⟨OUT.out.2, _, _, OUT.out.1, .inr ⟨_, _, HE.out, rfl⟩⟩
end Go.Proofs.YtfljnigbfacmjaaDoor
