/- differ of schema. -/
import Derived.Test.YtibiiafcnaijeaaType
import Derived.Test.YtibiiafcnaijeaaKnown
namespace Go.Proofs.Ytibiiafcnaijeaa
open Go Go.RowKit Go.Proofs.Ytibiiafcnaijeaa.Steady
set_option linter.unusedVariables false
set_option linter.unusedSimpArgs false

set_option maxRecDepth 100000 in
set_option maxHeartbeats 4000000 in
theorem differ_any (a b : Vl) (P Q : Nat → Prop) (w : World) (x y : Value) (hx : VV P w x a) (hy : VV Q w y b) : Calls Try.prog 51 #[x, y] w (Ret (.bool (differV a b)) w) := by
  have HD := hid (show differV a b = (!eqV a b || (!knownV a || !knownV b)) from rfl)
  have HX0 := hid hx
  have HY0 := hid hy
  obtain ⟨k, n, s, oi, mi, ci, ok, mk, ck, rfl⟩ := hx.agg5
  obtain ⟨k', n', s', oi', mi', ci', ok', mk', ck', rfl⟩ := hy.agg5
  generalize hA : w.alloc (.cells #[.int .i64 k, .int .i64 n, .string s, .slice oi mi ci, .slice ok mk ck] 26) = wa
  have hao : wa.heap[w.heap.size]? = some (.cells #[.int .i64 k, .int .i64 n, .string s, .slice oi mi ci, .slice ok mk ck] 26) := by rw [← hA]; exact heap_alloc_at w _
  have has : wa.heap.size = w.heap.size + 1 := by rw [← hA]; simp
  have hab : Below w.heap.size w wa := by rw [← hA]; exact (Below.refl _ _).alloc (Nat.le_refl _) _
  generalize hB : wa.alloc (.cells #[.int .i64 k', .int .i64 n', .string s', .slice oi' mi' ci', .slice ok' mk' ck'] 26) = wb
  have hbo : wb.heap[w.heap.size + 1]? = some (.cells #[.int .i64 k', .int .i64 n', .string s', .slice oi' mi' ci', .slice ok' mk' ck'] 26) := by rw [← hB, ← has]; exact heap_alloc_at wa _
  have hbb : Below wa.heap.size wa wb := by rw [← hB]; exact (Below.refl _ _).alloc (Nat.le_refl _) _
  have hall := hab.trans (hbb.mono hab.size)
  have HA0 := hid hA
  have HB0 := hid hB
  have HB := hid hall
  have HXA := hid (keep_obj hao hbb)
  have HXB := hid hbo
  clear hx hy hA hB hao has hab hbo hbb hall
  have HEQ := hid (equal_any a b P Q wb _ _ (HX0.out.bel HB.out) (HY0.out.bel HB.out))
  have a0 := (cells_in HXA.out 0).trans rfl
  have a1 := (cells_in HXA.out 1).trans rfl
  have a2 := (cells_in HXA.out 2).trans rfl
  have a3 := (cells_in HXA.out 3).trans rfl
  have a4 := (cells_in HXA.out 4).trans rfl
  have b0 := (cells_in HXB.out 0).trans rfl
  have b1 := (cells_in HXB.out 1).trans rfl
  have b2 := (cells_in HXB.out 2).trans rfl
  have b3 := (cells_in HXB.out 3).trans rfl
  have b4 := (cells_in HXB.out 4).trans rfl
  cases he : eqV a b with
  | false =>
    rw [he] at HEQ HD
    clear he
    go_enter Try.func51, Try.ntmps51
    go_upto_region 1 with (fail)
    rw [HA0.out, HB0.out]
    go_wp2_with fail
    refine HEQ.out.mono ?_; rintro e w2 ⟨rfl, hb⟩
    have HB2 := hid (HB.out.trans (hb.mono HB.out.size))
    clear hb
    go_wp2_with fail
    go_ret
    exact ⟨by rw [HD.out]; rfl, HB2.out⟩
  | true =>
    rw [he] at HEQ HD
    clear he
    go_enter Try.func51, Try.ntmps51
    go_upto_region 1 with (fail)
    rw [HA0.out, HB0.out]
    go_wp2_with fail
    clear a0 a1 a2 a3 a4 b0 b1 b2 b3 b4
    refine HEQ.out.mono ?_; rintro e w2 ⟨rfl, hb⟩
    have HB2 := hid (HB.out.trans (hb.mono HB.out.size))
    have HXA2 := hid (keep_obj HXA.out hb)
    have HXB2 := hid (keep_obj HXB.out hb)
    have HKA := hid (known_any a P w2 _ (HX0.out.bel HB2.out))
    clear hb
    have a0 := (cells_in HXA2.out 0).trans rfl
    have a1 := (cells_in HXA2.out 1).trans rfl
    have a2 := (cells_in HXA2.out 2).trans rfl
    have a3 := (cells_in HXA2.out 3).trans rfl
    have a4 := (cells_in HXA2.out 4).trans rfl
    cases hk : knownV a with
    | false =>
      rw [hk] at HKA HD
      clear hk
      go_wp2_with fail
      refine HKA.out.mono ?_; rintro e w3 ⟨rfl, hb⟩
      have HB3 := hid (HB2.out.trans (hb.mono HB2.out.size))
      clear hb
      go_wp2_with fail
      go_ret
      exact ⟨by rw [HD.out]; rfl, HB3.out⟩
    | true =>
      rw [hk] at HKA HD
      clear hk
      go_wp2_with fail
      clear a0 a1 a2 a3 a4
      refine HKA.out.mono ?_; rintro e w3 ⟨rfl, hb⟩
      have HB3 := hid (HB2.out.trans (hb.mono HB2.out.size))
      have HXB3 := hid (keep_obj HXB2.out hb)
      have HKB := hid (known_any b Q w3 _ (HY0.out.bel HB3.out))
      clear hb
      have b0 := (cells_in HXB3.out 0).trans rfl
      have b1 := (cells_in HXB3.out 1).trans rfl
      have b2 := (cells_in HXB3.out 2).trans rfl
      have b3 := (cells_in HXB3.out 3).trans rfl
      have b4 := (cells_in HXB3.out 4).trans rfl
      go_wp2_with fail
      refine HKB.out.mono ?_; rintro e w4 ⟨rfl, hb⟩
      have HB4 := hid (HB3.out.trans (hb.mono HB3.out.size))
      clear hb
      go_wp2_with fail
      go_ret
      exact ⟨by rw [HD.out]; rfl, HB4.out⟩
end Go.Proofs.Ytibiiafcnaijeaa
