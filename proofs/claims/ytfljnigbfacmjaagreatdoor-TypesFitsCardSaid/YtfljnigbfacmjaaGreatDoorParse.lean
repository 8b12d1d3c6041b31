/- Parse of the program. -/
import Derived.Test.YtfljnigbfacmjaaGreatDoorRdT
namespace Go.Proofs.YtfljnigbfacmjaaGreatDoor
open Go Go.RowKit Go.Proofs.YtfljnigbfacmjaaGreatDoor.Steady
set_option linter.unusedVariables false

/-- What Parse answers: the type, the error's kind, its place. -/
def parseV (s : ByteArray) : Ty × Int × Nat := if 65536 < s.size then (.mk 0 [] [], 3, 0) else match parseP s with
  | .ok t => (t, 0, 0)
  | .error e => (.mk 0 [] [], e.1, e.2)
theorem parseV_1 {s : ByteArray} (h : 65536 < s.size) : parseV s = (.mk 0 [] [], 3, 0) := by unfold parseV; rw [if_pos h]
theorem parseV_2 {s : ByteArray} {e : Int × Nat} (h : ¬ 65536 < s.size) (h2 : readP s 32 0 = .error e) : parseV s = (.mk 0 [] [], e.1, e.2) := by
  have : parseP s = .error e := by unfold parseP; simp only [h2]
  unfold parseV; rw [if_neg h]; simp only [this]
theorem parseV_3 {s : ByteArray} {t : Ty} {p j : Nat} (h : ¬ 65536 < s.size) (h2 : readP s 32 0 = .ok (t, p)) (h3 : readyP s p = .ok j) : parseV s = (.mk 0 [] [], 2, j) := by
  unfold readyP at h3
  split at h3
  · rename_i hlt
    cases h3
    have : parseP s = .error (2, skipN s p) := by unfold parseP; simp only [h2]; rw [if_pos hlt]
    unfold parseV; rw [if_neg h]; simp only [this]
  · cases h3
theorem parseV_4 {s : ByteArray} {t : Ty} {p : Nat} {e : Int × Nat} (h : ¬ 65536 < s.size) (h2 : readP s 32 0 = .ok (t, p)) (h3 : readyP s p = .error e) : parseV s = (t, 0, 0) := by
  unfold readyP at h3
  split at h3
  · cases h3
  · rename_i hlt
    have : parseP s = .ok t := by unfold parseP; simp only [h2]; rw [if_neg hlt]
    unfold parseV; rw [if_neg h]; simp only [this]
def ParsePost (r : Ty × Int × Nat) (w : World) (e : Ending) (w' : World) : Prop :=
  ∃ u, e = .returned (.tuple #[u, .agg #[.int .i64 r.2.1, .int .i64 r.2.2, .string ⟨#[]⟩]]) ∧ TV (fun g => w.heap.size ≤ g) w' u r.1 ∧ Below w.heap.size w w'
/-- While a text is read: the results' cells and the reader. -/
structure PI (w wr : World) (s : ByteArray) (p k q : Int) (nm : ByteArray) : Prop where
  bel : Below w.heap.size w wr
  z2 : wr.heap[w.heap.size]? = some (.cells #[.int .i64 0, .slice none 0 0, .slice none 0 0] 30)
  z3 : wr.heap[w.heap.size + 1]? = some (.cells #[.int .i64 0, .int .i64 0, .string ⟨#[]⟩] 47)
  rd : RD wr (w.heap.size + 1 + 1) s p k q nm
section
variable {w wr w' : World} {s nm nm' : ByteArray} {p p' k k' q q' : Int}
theorem PI.only (h : PI w wr s p k q nm) (hc : OnlyX (w.heap.size + 1 + 1) wr w') (hr : RD w' (w.heap.size + 1 + 1) s p' k' q' nm') : PI w w' s p' k' q' nm' := by
  have hl := h.rd.lt
  exact ⟨h.bel.trans (chg_below hc (fun k hk => by omega) h.bel.size), (hc.block _ (by omega) (by omega)).trans h.z2, (hc.block _ (by omega) (by omega)).trans h.z3, hr⟩
theorem PI.out {u : Value} {t : Ty} {x y z a b c : Value} (h : PI w wr s p k q nm) (hu : TV (fun g => w.heap.size + 1 + 1 ≤ g) wr u t) :
    TV (fun g => w.heap.size ≤ g) ((((((wr.setCell ⟨w.heap.size, 0, none⟩ x).setCell ⟨w.heap.size, 1, none⟩ y).setCell ⟨w.heap.size, 2, none⟩ z).setCell ⟨w.heap.size + 1, 0, none⟩ a).setCell ⟨w.heap.size + 1, 1, none⟩ b).setCell ⟨w.heap.size + 1, 2, none⟩ c) u t ∧
    Below w.heap.size w ((((((wr.setCell ⟨w.heap.size, 0, none⟩ x).setCell ⟨w.heap.size, 1, none⟩ y).setCell ⟨w.heap.size, 2, none⟩ z).setCell ⟨w.heap.size + 1, 0, none⟩ a).setCell ⟨w.heap.size + 1, 1, none⟩ b).setCell ⟨w.heap.size + 1, 2, none⟩ c) :=
  ⟨store3_tv (Q := fun g => w.heap.size ≤ g) (store3_tv (Q := fun g => w.heap.size + 1 + 1 ≤ g) hu (by omega) (fun g hg => hg) x y z) (by omega) (fun g hg => by omega) a b c, store3_below (store3_below h.bel (Nat.le_refl _) (Nat.le_refl _) x y z) (by omega) (Nat.le_refl _) a b c⟩
theorem PI.later (h : PI w wr s p k q nm) (hb : Below wr.heap.size wr w') : PI w w' s p k q nm := h.only (Chg.below hb) (h.rd.bel hb)
end
set_option maxRecDepth 100000 in
set_option maxHeartbeats 4000000 in
theorem parse_any (s : ByteArray) (w : World) : Calls Tryz.prog 22 #[.string s] w (ParsePost (parseV s) w) := by
  generalize hA : w.alloc (.cells #[.int .i64 0, .slice none 0 0, .slice none 0 0] 30) = wa
  have hz2 : wa.heap[w.heap.size]? = some (.cells #[.int .i64 0, .slice none 0 0, .slice none 0 0] 30) := by rw [← hA]; exact heap_alloc_at w _
  have has : wa.heap.size = w.heap.size + 1 := by rw [← hA]; simp
  have hab : Below w.heap.size w wa := by rw [← hA]; exact (Below.refl _ _).alloc (Nat.le_refl _) _
  generalize hB : wa.alloc (.cells #[.int .i64 0, .int .i64 0, .string ⟨#[]⟩] 47) = wb
  have hz3 : wb.heap[w.heap.size + 1]? = some (.cells #[.int .i64 0, .int .i64 0, .string ⟨#[]⟩] 47) := by rw [← hB, ← has]; exact heap_alloc_at wa _
  have hbs : wb.heap.size = w.heap.size + 2 := by rw [← hB]; simp [has]
  have hbb : Below wa.heap.size wa wb := by rw [← hB]; exact (Below.refl _ _).alloc (Nat.le_refl _) _
  have hz2' := (hbb.block w.heap.size (by omega)).trans hz2
  have hall : Below w.heap.size w wb := hab.trans (hbb.mono hab.size)
  have HA := hid hA
  have HB := hid hB
  have Z2 := hid hz2'
  have Z3 := hid hz3
  have HALL := hid hall
  have HS := hid hbs
  clear hA hB hz2 hz2' hz3 hab hbb hall hbs has
  by_cases hlt : 65536 < s.size
  · have HE := hid (parseV_1 hlt)
    have g1 : decide ((s.size : Int) > 65536) = true := decide_eq_true (by omega)
    clear hlt
    go_enter Tryz.func22, Tryz.ntmps22
    go_wp2_with fail
    rw [HA.out]
    have hz2 : wa.heap[w.heap.size]? = some (.cells #[.int .i64 0, .slice none 0 0, .slice none 0 0] 30) := by rw [← HA.out]; exact heap_alloc_at w _
    have hal : Below wa.heap.size wa (wa.alloc (.cells #[.int .i64 3, .int .i64 0, .string ⟨#[]⟩] 47)) := (Below.refl _ _).alloc (Nat.le_refl _) _
    have hwa : wa.heap.size = w.heap.size + 1 := by rw [← HA.out]; simp
    have hz3 := heap_alloc_at wa (.cells #[.int .i64 3, .int .i64 0, .string ⟨#[]⟩] 47)
    rw [hwa] at hz3
    have hz2' := (hal.block w.heap.size (by omega)).trans hz2
    have hab : Below w.heap.size w wa := by rw [← HA.out]; exact (Below.refl _ _).alloc (Nat.le_refl _) _
    have hfin := hab.trans (hal.mono hab.size)
    generalize wa.alloc (.cells #[.int .i64 3, .int .i64 0, .string ⟨#[]⟩] 47) = wf at *
    have p0 := (cells_in hz2' 0).trans rfl
    have p1 := (cells_in hz2' 1).trans rfl
    have p2 := (cells_in hz2' 2).trans rfl
    have q0 := (cells_in hz3 0).trans rfl
    have q1 := (cells_in hz3 1).trans rfl
    have q2 := (cells_in hz3 2).trans rfl
    try simp only [Exit.inBlock, Exit.then]
    refine bodyPost_ret (v := .tuple #[.agg #[.int .i64 0, .slice none 0 0, .slice none 0 0], .agg #[.int .i64 3, .int .i64 0, .string ⟨#[]⟩]]) (by simp [results, Tryz.results22, go_sem, p0, p1, p2, q0, q1, q2]) rfl ?_
    rw [HE.out]
    exact ⟨_, rfl, TV.any0 _ _, hfin⟩
  · have HLT := hid hlt
    have g1 : decide ((s.size : Int) > 65536) = false := decide_eq_false (by omega)
    have hs : s.size ≤ 65536 := by omega
    have HS2 := hid hs
    clear hlt
    go_enter Tryz.func22, Tryz.ntmps22
    go_wp2_with fail
    rw [HA.out, HB.out]
    have hbx : Below wb.heap.size wb (wb.alloc (.cells #[.string s, .int .i64 0, .int .i64 0, .int .i64 0, .string ⟨#[]⟩] 71)) := (Below.refl _ _).alloc (Nat.le_refl _) _
    have hxx := heap_alloc_at wb (.cells #[.string s, .int .i64 0, .int .i64 0, .int .i64 0, .string ⟨#[]⟩] 71)
    rw [HS.out] at hxx
    generalize wb.alloc (.cells #[.string s, .int .i64 0, .int .i64 0, .int .i64 0, .string ⟨#[]⟩] 71) = wc at *
    have HP := hid (show PI w wc s (0 : Nat) 0 0 ⟨#[]⟩ from ⟨HALL.out.trans (hbx.mono HALL.out.size), (hbx.block _ (by have := HS.out; omega)).trans Z2.out, (hbx.block _ (by have := HS.out; omega)).trans Z3.out, hxx⟩)
    have HRD := hid (read_any s hs 32 (Nat.le_refl _) wc (w.heap.size + 1 + 1) 0 0 0 ⟨#[]⟩ (Nat.zero_le _) HP.out.rd)
    rw [show (33 : Int) - ((32 : Nat) : Int) = 1 by decide] at HRD
    clear hbx hxx
    have WC := hid HP.out.rd.lt
    refine HRD.out.mono ?_
    rintro e w2 ⟨y2, u, t, hu, hpost⟩
    obtain ⟨k4, es4, ns4⟩ := t
    obtain ⟨ve4, vn4, rfl, hE4, hN4⟩ := hu.out
    obtain ⟨oe4, ce4, rfl⟩ := hE4.len
    obtain ⟨on4, cn4, rfl⟩ := hN4.len
    have HU := hid (hu.mono (Q := fun g => w.heap.size + 1 + 1 + 1 ≤ g) (fun g hg => by have := WC.out; omega))
    clear hu hE4 hN4
    rcases hpost with ⟨p4, a1, rfl, r2⟩ | ⟨ek, at', a1, rfl, p', r2⟩
    rotate_left
    · have HE := hid (parseV_2 HLT.out a1)
      have HP2 := hid (HP.out.only y2 r2)
      clear a1 y2 r2 HRD HP
      go_upto_region 6 with (fail)
      have hG5 : Below w2.heap.size w2 (w2.alloc (.cells #[.int .i64 k4, .slice oe4 es4.length ce4, .slice on4 ns4.length cn4] 30)) := (Below.refl _ _).alloc (Nat.le_refl _) _
      have hXO := heap_alloc_at w2 (.cells #[.int .i64 k4, .slice oe4 es4.length ce4, .slice on4 ns4.length cn4] 30)
      generalize w2.alloc (.cells #[.int .i64 k4, .slice oe4 es4.length ce4, .slice on4 ns4.length cn4] 30) = w3 at *
      have HP3 := hid (HP2.out.later hG5)
      have HU3 := hid (HU.out.bel hG5)
      have XO := hid hXO
      clear hXO hG5 HU
      have c2 := HP3.out.rd.c2
      have c3 := HP3.out.rd.c3
      have c4 := HP3.out.rd.c4
      refine wp_region_steady (fun v => v.cell? ⟨w.heap.size + 1 + 1, 2, none⟩ = some (.int .i64 ek) ∧ v.cell? ⟨w.heap.size + 1 + 1, 3, none⟩ = some (.int .i64 at') ∧ v.cell? ⟨w.heap.size + 1 + 1, 4, none⟩ = some (.string ⟨#[]⟩)) (by kernel_rfl) (by kernel_rfl) (⟨c2, c3, c4⟩) ?_
      repeat (first
        | (refine wpSteady_skip (by rfl) ?_; try simp only [Act.put, List.setIfInBounds_toArray, List.set_cons_zero, List.set_cons_succ])
        | (refine wpSteady_calm (v := ?_) (by rfl) ?_ ?_; rotate_left; (focus (intro v hSv; (try dsimp only at hSv); go_simp; (try with_reducible rfl); done)); try simp only [Act.put, List.setIfInBounds_toArray, List.set_cons_zero, List.set_cons_succ]))
      have HP4 := hid (HP3.out.later (below_drew (Below.refl _ _)))
      generalize w3.drew = w4 at *
      clear c2 c3 c4 HP3
      have c2 := HP4.out.rd.c2
      have c3 := HP4.out.rd.c3
      have c4 := HP4.out.rd.c4
      have hz2' := HP4.out.z2
      have hz3 := HP4.out.z3
      have p0 := (cells_in hz2' 0).trans rfl
      have p1 := (cells_in hz2' 1).trans rfl
      have p2 := (cells_in hz2' 2).trans rfl
      have pf := frozen_in hz2'
      have q0 := (cells_in hz3 0).trans rfl
      have q1 := (cells_in hz3 1).trans rfl
      have q2 := (cells_in hz3 2).trans rfl
      have qf := frozen_in hz3
      clear hz2' hz3
      refine wpSteady_loud rfl (by rfl) (fun K hK => ?_)
      go_simp
      have hc3 := chg_store3 w4 w.heap.size (.int .i64 0) (.slice none 0 0) (.slice none 0 0)
      refine hK.out _ _ (⟨chg_cell hc3 (by omega) c2, chg_cell hc3 (by omega) c3, chg_cell hc3 (by omega) c4⟩) ?_
      clear hK K
      try simp only [Act.put, List.setIfInBounds_toArray, List.set_cons_zero, List.set_cons_succ]
      repeat (first
        | (refine wpSteady_skip (by rfl) ?_; try simp only [Act.put, List.setIfInBounds_toArray, List.set_cons_zero, List.set_cons_succ])
        | (refine wpSteady_calm (v := ?_) (by rfl) ?_ ?_; rotate_left; (focus (intro v hSv; (try dsimp only at hSv); go_simp; (try with_reducible rfl); done)); try simp only [Act.put, List.setIfInBounds_toArray, List.set_cons_zero, List.set_cons_succ]))
      refine wpSteady_loud rfl (by rfl) (fun K hK => ?_)
      go_simp
      have hc5 := chg_store3 (((w4.setCell ⟨w.heap.size, 0, none⟩ (.int .i64 0)).setCell ⟨w.heap.size, 1, none⟩ (.slice none 0 0)).setCell ⟨w.heap.size, 2, none⟩ (.slice none 0 0)) (w.heap.size + 1) (.int .i64 ek) (.int .i64 at') (.string ⟨#[]⟩)
      refine hK.out _ _ (⟨chg_cell hc5 (by omega) (chg_cell hc3 (by omega) c2), chg_cell hc5 (by omega) (chg_cell hc3 (by omega) c3), chg_cell hc5 (by omega) (chg_cell hc3 (by omega) c4)⟩) ?_
      clear hK K
      try simp only [Act.put, List.setIfInBounds_toArray, List.set_cons_zero, List.set_cons_succ]
      refine wpSteady_nil ?_
      clear c2 c3 c4 hc3 hc5
      go_wp2_with fail
      try simp only [Exit.inBlock, Exit.then]
      refine bodyPost_ret (v := .tuple #[.agg #[.int .i64 0, .slice none 0 0, .slice none 0 0], .agg #[.int .i64 ek, .int .i64 at', .string ⟨#[]⟩]]) (by simp [results, Tryz.results22, go_sem, p0, p1, p2, q0, q1, q2]) rfl ?_
      have OUT := hid (HP4.out.out (x := .int .i64 0) (y := .slice none 0 0) (z := .slice none 0 0) (a := .int .i64 ek) (b := .int .i64 at') (c := .string ⟨#[]⟩) (TV.any0 _ _))
      rw [HE.out]
      exact ⟨_, rfl, OUT.out.1, OUT.out.2⟩
    have WP := hid ((readP_ok s 32 1 (by decide)) 0 (Nat.zero_le _) |>.1 _ _ a1).2.2.1
    have A1 := hid a1
    have HP2 := hid (HP.out.only y2 r2)
    clear a1 y2 r2 HRD HP
    go_upto_region 7 with (fail)
    have hG5 : Below w2.heap.size w2 (w2.alloc (.cells #[.int .i64 k4, .slice oe4 es4.length ce4, .slice on4 ns4.length cn4] 30)) := (Below.refl _ _).alloc (Nat.le_refl _) _
    have hXO := heap_alloc_at w2 (.cells #[.int .i64 k4, .slice oe4 es4.length ce4, .slice on4 ns4.length cn4] 30)
    generalize w2.alloc (.cells #[.int .i64 k4, .slice oe4 es4.length ce4, .slice on4 ns4.length cn4] 30) = w3 at *
    have HP3 := hid (HP2.out.later hG5)
    have HU3 := hid (HU.out.bel hG5)
    have XO := hid hXO
    clear hXO hG5 HU
    have HRY := hid (ready_p w3 (w.heap.size + 1 + 1) s ⟨#[]⟩ p4 0 0 WP.out (by have := HS2.out; omega) HP3.out.rd)
    go_wp2_with fail
    refine HRY.out.mono ?_
    rintro e w5 ⟨y2, (⟨p5, a1, rfl, r2⟩ | ⟨ek, at', a1, rfl, p', r2⟩)⟩
    · have HE := hid (parseV_3 HLT.out A1.out a1)
      have HP5 := hid (HP3.out.only y2 r2)
      clear a1 y2 r2 HRY HP3
      have c1 := HP5.out.rd.c1
      go_wp2_with fail
      refine wp_region_steady (fun v => v.cell? ⟨w.heap.size + 1 + 1, 1, none⟩ = some (.int .i64 p5)) (by kernel_rfl) (by kernel_rfl) (c1) ?_
      repeat (first
        | (refine wpSteady_skip (by rfl) ?_; try simp only [Act.put, List.setIfInBounds_toArray, List.set_cons_zero, List.set_cons_succ])
        | (refine wpSteady_calm (v := ?_) (by rfl) ?_ ?_; rotate_left; (focus (intro v hSv; (try dsimp only at hSv); go_simp; (try with_reducible rfl); done)); try simp only [Act.put, List.setIfInBounds_toArray, List.set_cons_zero, List.set_cons_succ]))
      have HP4 := hid (HP5.out.later (below_drew (Below.refl _ _)))
      generalize w5.drew = w4 at *
      clear c1 HP5
      have c1 := HP4.out.rd.c1
      have hz2' := HP4.out.z2
      have hz3 := HP4.out.z3
      have p0 := (cells_in hz2' 0).trans rfl
      have p1 := (cells_in hz2' 1).trans rfl
      have p2 := (cells_in hz2' 2).trans rfl
      have pf := frozen_in hz2'
      have q0 := (cells_in hz3 0).trans rfl
      have q1 := (cells_in hz3 1).trans rfl
      have q2 := (cells_in hz3 2).trans rfl
      have qf := frozen_in hz3
      clear hz2' hz3
      refine wpSteady_loud rfl (by rfl) (fun K hK => ?_)
      go_simp
      have hc3 := chg_store3 w4 w.heap.size (.int .i64 0) (.slice none 0 0) (.slice none 0 0)
      refine hK.out _ _ (chg_cell hc3 (by omega) c1) ?_
      clear hK K
      try simp only [Act.put, List.setIfInBounds_toArray, List.set_cons_zero, List.set_cons_succ]
      repeat (first
        | (refine wpSteady_skip (by rfl) ?_; try simp only [Act.put, List.setIfInBounds_toArray, List.set_cons_zero, List.set_cons_succ])
        | (refine wpSteady_calm (v := ?_) (by rfl) ?_ ?_; rotate_left; (focus (intro v hSv; (try dsimp only at hSv); go_simp; (try with_reducible rfl); done)); try simp only [Act.put, List.setIfInBounds_toArray, List.set_cons_zero, List.set_cons_succ]))
      refine wpSteady_loud rfl (by rfl) (fun K hK => ?_)
      go_simp
      have hc5 := chg_store3 (((w4.setCell ⟨w.heap.size, 0, none⟩ (.int .i64 0)).setCell ⟨w.heap.size, 1, none⟩ (.slice none 0 0)).setCell ⟨w.heap.size, 2, none⟩ (.slice none 0 0)) (w.heap.size + 1) (.int .i64 2) (.int .i64 p5) (.string ⟨#[]⟩)
      refine hK.out _ _ (chg_cell hc5 (by omega) (chg_cell hc3 (by omega) c1)) ?_
      clear hK K
      try simp only [Act.put, List.setIfInBounds_toArray, List.set_cons_zero, List.set_cons_succ]
      refine wpSteady_nil ?_
      clear c1 hc3 hc5
      go_wp2_with fail
      try simp only [Exit.inBlock, Exit.then]
      refine bodyPost_ret (v := .tuple #[.agg #[.int .i64 0, .slice none 0 0, .slice none 0 0], .agg #[.int .i64 2, .int .i64 p5, .string ⟨#[]⟩]]) (by simp [results, Tryz.results22, go_sem, p0, p1, p2, q0, q1, q2]) rfl ?_
      have OUT := hid (HP4.out.out (x := .int .i64 0) (y := .slice none 0 0) (z := .slice none 0 0) (a := .int .i64 2) (b := .int .i64 p5) (c := .string ⟨#[]⟩) (TV.any0 _ _))
      rw [HE.out]
      exact ⟨_, rfl, OUT.out.1, OUT.out.2⟩
    · have HE := hid (parseV_4 HLT.out A1.out a1)
      have HP4 := hid (HP3.out.only y2 r2)
      have hne : ¬ w2.heap.size = w.heap.size + 1 + 1 := by have := HP2.out.rd.lt; omega
      have XO5 := (y2.block w2.heap.size (Array.getElem?_eq_some_iff.1 XO.out).1 hne).trans XO.out
      have HU5 := hid (HU3.out.keep (KeepsP.chg y2 (fun g (hg : w.heap.size + 1 + 1 + 1 ≤ g) => by omega)) (Q := fun g => w.heap.size + 1 + 1 ≤ g) fun g hg => by omega)
      clear a1 y2 r2 HRY HP3 hne
      have z0 := (cells_in XO5 0).trans rfl
      have z1 := (cells_in XO5 1).trans rfl
      have z2 := (cells_in XO5 2).trans rfl
      clear XO5
      have hz2' := HP4.out.z2
      have hz3 := HP4.out.z3
      have p0 := (cells_in hz2' 0).trans rfl
      have p1 := (cells_in hz2' 1).trans rfl
      have p2 := (cells_in hz2' 2).trans rfl
      have pf := frozen_in hz2'
      have q0 := (cells_in hz3 0).trans rfl
      have q1 := (cells_in hz3 1).trans rfl
      have q2 := (cells_in hz3 2).trans rfl
      have qf := frozen_in hz3
      clear hz2' hz3
      go_wp2_with fail
      try simp only [Exit.inBlock, Exit.then]
      refine bodyPost_ret (v := .tuple #[.agg #[.int .i64 k4, .slice oe4 es4.length ce4, .slice on4 ns4.length cn4], .agg #[.int .i64 0, .int .i64 0, .string ⟨#[]⟩]]) (by simp [results, Tryz.results22, go_sem, p0, p1, p2, q0, q1, q2]) rfl ?_
      have OUT := hid (HP4.out.out (x := .int .i64 k4) (y := .slice oe4 es4.length ce4) (z := .slice on4 ns4.length cn4) (a := .int .i64 0) (b := .int .i64 0) (c := .string ⟨#[]⟩) HU5.out)
      rw [HE.out]
      exact ⟨_, rfl, OUT.out.1, OUT.out.2⟩
end Go.Proofs.YtfljnigbfacmjaaGreatDoor
