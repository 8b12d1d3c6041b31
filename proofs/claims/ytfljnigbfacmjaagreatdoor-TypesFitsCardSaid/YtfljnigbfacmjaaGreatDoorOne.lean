/- A type with one element. -/
import Derived.Test.YtfljnigbfacmjaaGreatDoorUni
namespace Go.Proofs.YtfljnigbfacmjaaGreatDoor
open Go Go.RowKit
set_option linter.unusedVariables false
set_option maxRecDepth 100000 in
set_option maxHeartbeats 4000000 in
theorem one_any (P : Nat → Prop) (w : World) (v : Value) (t : Ty) (k : Int) (hv : TV P w v t) :
    Calls Tryz.prog 50 #[.int .i64 k, v] w fun e w' => ∃ u, e = .returned u ∧ TV (fun g => P g ∨ w.heap.size ≤ g) w' u (.mk k [t] []) ∧ Below w.heap.size w w' := by
  obtain ⟨k1, es, ns⟩ := t
  obtain ⟨ve, vn, rfl, hE, hN⟩ := hv.out
  obtain ⟨oe, ce, rfl⟩ := hE.len
  obtain ⟨on, cn, rfl⟩ := hN.len
  have HV := hid hv
  clear hv hE hN
  go_enter Tryz.func50, Tryz.ntmps50
  go_wp2_with fail
  generalize hA : w.alloc (.cells #[.int .i64 k1, .slice oe es.length ce, .slice on ns.length cn] 30) = wa
  have ha : Below w.heap.size w wa := by rw [← hA]; exact (Below.refl _ _).alloc (Nat.le_refl _) _
  have has : wa.heap.size = w.heap.size + 1 := by rw [← hA]; simp
  generalize hB : wa.alloc (.cells #[.int .i64 k, .slice (some ⟨w.heap.size + 1 + 1, 0, none⟩) 1 1, .slice none 0 0] 30) = wb
  have hb : Below wa.heap.size wa wb := by rw [← hB]; exact (Below.refl _ _).alloc (Nat.le_refl _) _
  have hbs : wb.heap.size = w.heap.size + 1 + 1 := by rw [← hB]; simp [has]
  have hbo : wb.heap[w.heap.size + 1]? = some (.cells #[.int .i64 k, .slice (some ⟨w.heap.size + 1 + 1, 0, none⟩) 1 1, .slice none 0 0] 30) := by rw [← hB, ← has]; exact heap_alloc_at wa _
  generalize hC : wb.alloc (.cells #[.int .i64 k1, .slice oe es.length ce, .slice on ns.length cn] 30) = wc
  have hc : Below wb.heap.size wb wc := by rw [← hC]; exact (Below.refl _ _).alloc (Nat.le_refl _) _
  have hco : wc.heap[w.heap.size + 1 + 1]? = some (.cells #[.int .i64 k1, .slice oe es.length ce, .slice on ns.length cn] 30) := by rw [← hC, ← hbs]; exact heap_alloc_at wb _
  have hbo2 := (hc.block (w.heap.size + 1) (by omega)).trans hbo
  have hall : Below w.heap.size w wc := ha.trans ((hb.mono ha.size).trans (hc.mono (Nat.le_trans ha.size hb.size)))
  have f0 := (cells_in hbo2 0).trans rfl
  have f1 := (cells_in hbo2 1).trans rfl
  have f2 := (cells_in hbo2 2).trans rfl
  try simp only [Exit.inBlock, Exit.then]
  refine bodyPost_ret (v := .agg #[.int .i64 k, .slice (some ⟨w.heap.size + 1 + 1, 0, none⟩) 1 1, .slice none 0 0]) (by simp [results, Tryz.results50, go_sem, f0, f1, f2]) rfl ?_
  refine ⟨_, rfl, TV.mk' (SV.nil _ _) ?_, hall⟩
  refine ⟨[(.int .i64 k1, .slice oe es.length ce, .slice on ns.length cn)], ⟨by simp, .inr ⟨w.heap.size + 1 + 1, 0, 1, .inr (by omega), rfl, fun i r hr => ?_⟩⟩, rfl, fun i r e hr he => ?_⟩
  · match i, hr with
    | 0, hr => cases hr; exact ⟨(cells_in hco 0).trans rfl, (cells_in hco 1).trans rfl, (cells_in hco 2).trans rfl⟩
  · match i, hr, he with
    | 0, hr, he => cases hr; cases he; exact (HV.out.bel hall).mono fun g hg => .inl hg
end Go.Proofs.YtfljnigbfacmjaaGreatDoor
