/- none, ready. -/
import Derived.Test.YtoaellmjgejgfaaSch
import Derived.Test.YtoaellmjgejgfaaFn
import Derived.BigQuiet

namespace Go.Proofs.Ytoaellmjgejgfaa
open Go Go.RowKit Go.Shelf
set_option linter.unusedVariables false

theorem Sch.drewN {own : Nat → Nat} {w : World} {b : Nat} {s : St} (h : Sch own w b s) (q : Nat) : Sch own (w.drewN q) b s :=
  h.keep (Chg.drewN (fun _ => False) w q) (fun _ _ hb => hb.elim) (SameOwn.refl _ _)

theorem needs_at {own : Nat → Nat} {tag : Nat} {w : World} {v : Value} {ns : List (List Int)} (h : NeedsT own tag w v ns) {n : Nat} {l : List Int} (hn : ns[n]? = some l) :
    ∃ g c u, v = .slice (some ⟨g, 0, none⟩) ns.length c ∧ w.cell? ⟨g, n, none⟩ = some u ∧ RowT own tag w u l := by
  obtain ⟨vs, hl, hr, hv⟩ := h
  have hlt : n < ns.length := (List.getElem?_eq_some_iff.1 hn).1
  rcases hv with ⟨_, rfl⟩ | ⟨g, pad, rfl, hh, hg⟩
  · simp at hl; omega
  · have hu : vs[n]? = some vs[n] := List.getElem?_eq_getElem (by omega)
    refine ⟨g, _, vs[n], by rw [hl], ?_, hr n _ l hu hn⟩
    rw [cells_in hh]
    simp only [List.getElem?_toArray]
    rw [List.getElem?_append_left (by omega)]
    exact hu
theorem needs_len {own : Nat → Nat} {tag : Nat} {w : World} {v : Value} {ns : List (List Int)} (h : NeedsT own tag w v ns) : ∃ oa c, v = .slice oa ns.length c := by
  obtain ⟨vs, hl, hr, hv⟩ := h
  rcases hv with ⟨rfl, rfl⟩ | ⟨g, pad, rfl, hh, hg⟩
  · exact ⟨none, 0, by rw [← hl]; rfl⟩
  · exact ⟨_, _, by rw [hl]⟩

/-- The Scheduler's cells. -/
theorem Sch.cells {own : Nat → Nat} {w : World} {b : Nat} {s : St} (h : Sch own w b s) : ∃ vn vo vwt vrn vdn vfl vsk,
    NeedsT own 2 w vn s.needs ∧ RowT own 2 w vo s.order ∧ RowT own 3 w vwt s.wt ∧ RowT own 4 w vrn s.rn ∧ RowT own 5 w vdn s.dn ∧ RowT own 6 w vfl s.fl ∧ RowT own 7 w vsk s.sk ∧
    w.cell? ⟨b, 0, none⟩ = some vn ∧ w.cell? ⟨b, 1, none⟩ = some vo ∧ w.cell? ⟨b, 2, none⟩ = some (.int .i64 s.limit) ∧ w.cell? ⟨b, 3, none⟩ = some vwt ∧ w.cell? ⟨b, 4, none⟩ = some vrn ∧ w.cell? ⟨b, 5, none⟩ = some vdn ∧ w.cell? ⟨b, 6, none⟩ = some vfl ∧ w.cell? ⟨b, 7, none⟩ = some vsk := by
  obtain ⟨hb, vn, vo, vwt, vrn, vdn, vfl, vsk, hh, hn, hor, h1, h2, h3, h4, h5⟩ := h
  unfold objOf at hh
  refine ⟨vn, vo, vwt, vrn, vdn, vfl, vsk, hn, hor, h1, h2, h3, h4, h5, ?_, ?_, ?_, ?_, ?_, ?_, ?_, ?_⟩ <;> (rw [cells_in hh]; rfl)

set_option maxRecDepth 100000 in
set_option maxHeartbeats 1000000 in
theorem none_nil (w : World) : Calls Try.prog 38 #[.pointer none] w fun e w' => e = .returned (.bool true) ∧ w = w' := by
  go_enter Try.func38, Try.ntmps38
  go_wp2
  go_ret
  exact ⟨rfl, rfl⟩

set_option maxRecDepth 100000 in
set_option maxHeartbeats 1000000 in
theorem none_any (b : Nat) (n : Int) (w : World) (hc : w.cell? ⟨b, 2, none⟩ = some (.int .i64 n)) : Calls Try.prog 38 #[.pointer (some ⟨b, 0, none⟩)] w fun e w' => e = .returned (.bool (decide (n = 0))) ∧ w = w' := by
  go_enter Try.func38, Try.ntmps38
  go_wp2
  go_ret
  exact ⟨rfl, rfl⟩

set_option maxRecDepth 100000 in
set_option maxHeartbeats 1000000 in
theorem cl54 {own : Nat → Nat} {w : World} {b : Nat} {s : St} (h : Sch own w b s) (hg : Good s) (fb : Nat) (hc : w.cell? ⟨fb, 0, none⟩ = some (.pointer (some ⟨b, 0, none⟩))) (x : Int) :
    Calls Try.prog 54 #[.int .i64 x, .pointer (some ⟨fb, 0, none⟩)] w fun e w' => e = .returned (.bool (!s.dn.contains x)) ∧ ∃ q, w' = w.drewN q := by
  have Hb := hid (h.has_dn hg x)
  generalize s.dn.contains x = bb at *
  clear h hg
  go_enter Try.func54, Try.ntmps54
  go_wp2_with fail
  refine Hb.out.mono ?_; rintro e w' ⟨rfl, q, rfl⟩
  go_wp2_with fail
  go_ret
  exact ⟨rfl, q, rfl⟩

/-- May step n begin? -/
def readyB (s : St) (n : Nat) (l : List Int) : Bool := s.wt.contains (n : Int) && (decide ((s.rn.length : Int) < s.limit) && !l.any fun x => !s.dn.contains x)

set_option maxRecDepth 100000 in
set_option maxHeartbeats 4000000 in
theorem ready_any {own : Nat → Nat} {w : World} {b : Nat} {s : St} (h : Sch own w b s) (hg : Good s) (n : Nat) (l : List Int) (hn : s.needs[n]? = some l) :
    Calls Try.prog 39 #[.pointer (some ⟨b, 0, none⟩), .int .i64 n] w (MPost own w b s (fun r _ _ => r = .bool (readyB s n l))) := by
  have hlt : n < s.needs.length := (List.getElem?_eq_some_iff.1 hn).1
  have hll : l.length ≤ 100000 := Nat.le_trans (hg.li l (List.mem_of_getElem? hn)) (by decide)
  have hnl := hg.ln
  have hrl := hg.srn
  have c0 : Chg (fun k => own k ≠ 0 ∧ own k ≤ 7) w (w.alloc (.cells #[.pointer (some ⟨b, 0, none⟩)] 25)) := Chg.alloc _ _ _
  have hS : Sch (own2 own w 8) (w.alloc (.cells #[.pointer (some ⟨b, 0, none⟩)] 25)) b s := h.keep (Chg.alloc (fun _ => False) _ _) (fun _ _ hb => hb.elim) (own2_same _ _ _)
  have hbx : (w.alloc (.cells #[.pointer (some ⟨b, 0, none⟩)] 25)).cell? ⟨w.heap.size, 0, none⟩ = some (.pointer (some ⟨b, 0, none⟩)) := by rw [cells_in (heap_alloc_at w _)]; rfl
  have hsz : w.heap.size < (w.alloc (.cells #[.pointer (some ⟨b, 0, none⟩)] 25)).heap.size := by simp
  obtain ⟨vn, vo, vwt, vrn, vdn, vfl, vsk, hN, hO, h3, h4, h5, h6, h7, e0, e1, e2, e3, e4, e5, e6, e7⟩ := hS.cells
  obtain ⟨oarn, crn, rfl⟩ := row_len h4.1
  obtain ⟨gn, cn, u, rfl, hu, hrow⟩ := needs_at hN hn
  have hn0 : (0 : Int) ≤ (n : Int) := by omega
  have hn1 : (n : Int) < (s.needs.length : Int) := by omega
  clear hN hO h3 h4 h5 h6 h7 e1 e3 e5 e6 e7
  have C0 := hid c0
  have Hn := hid hn
  have Hrow := hid hrow
  have Hwt := hid fun q => (hS.drewN q).has_wt hg n
  have Hcl := hid fun q x => cl54 (hS.drewN q) hg w.heap.size hbx x
  have HS := hid hS
  have HG := hid hg
  have hgoal : ∀ q r, r = Value.bool (readyB s n l) → MPost own w b s (fun r _ _ => r = .bool (readyB s n l)) (.returned r) ((w.alloc (.cells #[.pointer (some ⟨b, 0, none⟩)] 25)).drewN q) := fun q r hr =>
    ⟨r, own2 own w 8, rfl, own2_same _ _ _, hS.drewN q, c0.trans (Chg.drewN _ _ q), hr⟩
  have Hgoal := hid hgoal
  clear h hg c0 hS hn hrow hgoal
  go_enter Try.func39, Try.ntmps39
  go_wp2_with fail
  generalize w.alloc (.cells #[.pointer (some ⟨b, 0, none⟩)] 25) = w1 at *
  generalize w.heap.size = bx at *
  cases hbw : s.wt.contains (n : Int) with
  | false =>
    have hf : readyB s n l = false := by unfold readyB; rw [hbw]; rfl
    rw [hbw] at Hwt
    have Hf := hid hf
    clear hbw hf
    go_quiet ((first | (go_at_call 42; exact Calls.quiet_of (Hwt.out _))))
    go_wp2_with fail
    go_ret
    exact Hgoal.out _ _ (by rw [Hf.out]; rfl)
  | true =>
    rw [hbw] at Hwt
    by_cases hlim : (s.rn.length : Int) < s.limit
    · have hf : readyB s n l = !l.any fun x => !s.dn.contains x := by unfold readyB; rw [hbw, decide_eq_true hlim]; rfl
      have hlim' : ¬ (s.limit ≤ (s.rn.length : Int)) := by omega
      have Hf := hid hf
      clear hbw hf
      go_quiet ((first | (go_at_call 42; exact Calls.quiet_of (Hwt.out _))))
      go_wp2_with fail
      refine (contains_d (fun W => ∃ q, W = w1.drewN q) bx u l hll (fun x => !s.dn.contains x) ?_ ?_ _ ⟨nq, rfl⟩).mono ?_
      · rintro W ⟨q, rfl⟩
        exact Hrow.out.1.chg (Chg.drewN (fun _ => False) _ _) (fun _ _ h => h)
      · rintro W x _ ⟨q, rfl⟩
        exact (Hcl.out q x).mono fun e w' ⟨h1, q', h2⟩ => ⟨h1, q + q', by rw [h2, World.drewN_drewN]⟩
      · rintro e w' ⟨rfl, q, rfl⟩
        generalize (l.any fun x => !s.dn.contains x) = bb at *
        go_wp2_with fail
        go_ret
        exact Hgoal.out _ _ (by rw [Hf.out]; rfl)
    · have hf : readyB s n l = false := by unfold readyB; rw [hbw, decide_eq_false hlim]; rfl
      have hlim' : s.limit ≤ (s.rn.length : Int) := by omega
      have Hf := hid hf
      clear hbw hf
      go_quiet ((first | (go_at_call 42; exact Calls.quiet_of (Hwt.out _))))
      go_wp2_with fail
      go_ret
      exact Hgoal.out _ _ (by rw [Hf.out]; rfl)

end Go.Proofs.Ytoaellmjgejgfaa
