/- stop, Finish, Running, Count, Done. -/
import Derived.Test.YtoaellmjgejgfaaBegin
namespace Go.Proofs.Ytoaellmjgejgfaa
open Go Go.RowKit Go.Shelf
set_option linter.unusedVariables false

def stopS (s : St) (x : Int) : Int × St :=
  if inR s x then (if s.rn.contains x then (0, { s with rn := del x s.rn }) else (38, s)) else (9, s)
def finishS (s : St) (x : Int) : Int × St :=
  if (stopS s x).1 = 0 then (0, { (stopS s x).2 with dn := ins x (stopS s x).2.dn }) else stopS s x

theorem good_stop {s : St} (h : Good s) (x : Int) : Good (stopS s x).2 := by
  unfold stopS
  split
  · split
    · exact h.drop_rn x
    · exact h
  · exact h
theorem stop_in {s : St} {x : Int} (h : (stopS s x).1 = 0) : 0 ≤ x ∧ x < s.needs.length := by
  unfold stopS at h
  split at h
  · rename_i hx
    unfold inR at hx
    simpa using hx
  · cases h
theorem stop_needs (s : St) (x : Int) : (stopS s x).2.needs = s.needs := by
  unfold stopS; split
  · split <;> rfl
  · rfl
theorem stop_same {s : St} {x : Int} (h : (stopS s x).1 ≠ 0) : (stopS s x).2 = s := by
  unfold stopS at *; split
  · split
    · rename_i h1 h2; rw [if_pos h1, if_pos h2] at h; exact absurd rfl h
    · rfl
  · rfl
theorem good_finish {s : St} (h : Good s) (x : Int) : Good (finishS s x).2 := by
  unfold finishS
  split
  · rename_i he
    have hi := stop_in he
    exact (good_stop h x).put_dn hi.1 (by rw [stop_needs]; exact hi.2)
  · exact good_stop h x

set_option maxRecDepth 100000 in
set_option maxHeartbeats 4000000 in
theorem stop_any {own : Nat → Nat} {w : World} {b : Nat} {s : St} (h : Sch own w b s) (hg : Good s) (hlim : s.limit ≠ 0) (x : Int) :
    Calls Try.prog 41 #[.pointer (some ⟨b, 0, none⟩), .int .i64 x] w (MPost own w b (stopS s x).2 (fun r _ _ => r = .int .i64 (stopS s x).1)) := by
  obtain ⟨vn, vo, vwt, vrn, vdn, vfl, vsk, hN, hO, h3, h4, h5, h6, h7, e0, e1, e2, e3, e4, e5, e6, e7⟩ := h.cells
  obtain ⟨oan, cn, rfl⟩ := needs_len hN
  have hl0 : decide (s.limit = 0) = false := decide_eq_false hlim
  have hnone := none_any b s.limit w e2
  rw [hl0] at hnone
  have Hnone := hid hnone
  clear hN hO h3 h4 h5 h6 h7 e1 e2 e3 e4 e5 e6 e7 hnone hl0
  by_cases hx0 : x < 0
  · have hb : stopS s x = (9, s) := by unfold stopS inR; rw [decide_eq_false (by omega)]; rfl
    rw [hb]
    have H := hid h
    clear h hg hb
    go_enter Try.func41, Try.ntmps41
    go_wp2_with fail
    refine Hnone.out.mono ?_; rintro e w' ⟨rfl, rfl⟩
    go_wp2_with fail
    go_ret
    exact ⟨_, own, rfl, SameOwn.refl _ _, H.out, Chg.refl _ _, rfl⟩
  · by_cases hx1 : (s.needs.length : Int) ≤ x
    · have hb : stopS s x = (9, s) := by unfold stopS inR; rw [decide_eq_false (p := x < s.needs.length) (by omega), Bool.and_false]; rfl
      rw [hb]
      have H := hid h
      clear h hg hb
      go_enter Try.func41, Try.ntmps41
      go_wp2_with fail
      refine Hnone.out.mono ?_; rintro e w' ⟨rfl, rfl⟩
      go_wp2_with fail
      go_ret
      exact ⟨_, own, rfl, SameOwn.refl _ _, H.out, Chg.refl _ _, rfl⟩
    · have hx2 : x < (s.needs.length : Int) := by omega
      have hb : stopS s x = if s.rn.contains x then (0, { s with rn := del x s.rn }) else (38, s) := by
        unfold stopS inR; rw [decide_eq_true (by omega), decide_eq_true hx2]; rfl
      have hhas := h.has_rn hg x
      rw [hb]
      cases hr : s.rn.contains x with
      | false =>
        rw [hr] at hhas
        have Hhas := hid hhas
        have H := hid h
        clear h hg hb hr hhas
        go_enter Try.func41, Try.ntmps41
        go_wp2_with fail
        refine Hnone.out.mono ?_; rintro e w' ⟨rfl, rfl⟩
        go_wp2_with fail
        refine Hhas.out.mono ?_; rintro e w' ⟨rfl, q, rfl⟩
        go_wp2_with fail
        go_ret
        exact ⟨_, own, rfl, SameOwn.refl _ _, H.out.drewN q, Chg.drewN _ _ _, rfl⟩
      | true =>
        rw [hr] at hhas
        have Hhas := hid hhas
        have H := hid h
        have HG := hid hg
        clear h hg hb hr hhas
        go_enter Try.func41, Try.ntmps41
        go_wp2_with fail
        refine Hnone.out.mono ?_; rintro e w' ⟨rfl, rfl⟩
        go_wp2_with fail
        refine Hhas.out.mono ?_; rintro e w' ⟨rfl, q, rfl⟩
        go_wp2_with fail
        refine ((H.out.drewN q).drop_rn HG.out x).mono ?_; rintro e w1 hp2
        have HP2 := hid (hp2.after (SameOwn.refl w own) (Chg.drewN (fun k => own k ≠ 0 ∧ own k ≤ 7) w q) (fun _ _ _ h => h))
        clear hp2
        obtain ⟨r, own1, rfl, h1, h2, h3, rfl⟩ := HP2.out
        have HP := hid (⟨h1, h2, h3⟩ : SameOwn w own own1 ∧ Sch own1 w1 b _ ∧ Chg (fun k => own k ≠ 0 ∧ own k ≤ 7) w w1)
        clear HP2 h1 h2 h3
        go_wp2_with fail
        go_ret
        exact ⟨_, own1, rfl, HP.out.1, HP.out.2.1, HP.out.2.2, rfl⟩

set_option maxRecDepth 100000 in
set_option maxHeartbeats 4000000 in
theorem finish_any {own : Nat → Nat} {w : World} {b : Nat} {s : St} (h : Sch own w b s) (hg : Good s) (hlim : s.limit ≠ 0) (x : Int) :
    Calls Try.prog 16 #[.pointer (some ⟨b, 0, none⟩), .int .i64 x] w (MPost own w b (finishS s x).2 (fun r _ _ => r = .int .i64 (finishS s x).1)) := by
  have hst := stop_any h hg hlim x
  unfold finishS
  have HG := hid (good_stop hg x)
  by_cases he : (stopS s x).1 = 0
  · rw [if_pos he]
    rw [he] at hst
    have Hst := hid hst
    generalize (stopS s x).2 = s1 at *
    clear h hg hst he
    go_enter Try.func16, Try.ntmps16
    go_wp2_with fail
    refine Hst.out.mono ?_; rintro e w1 ⟨r, own1, rfl, h1, h2, h3, rfl⟩
    have HP := hid (⟨h1, h2, h3⟩ : SameOwn w own own1 ∧ Sch own1 w1 b _ ∧ Chg (fun k => own k ≠ 0 ∧ own k ≤ 7) w w1)
    clear h1 h2 h3
    go_wp2_with fail
    refine (HP.out.2.1.put_dn HG.out x).mono ?_; rintro e w2 hp2
    have HP2 := hid (hp2.after HP.out.1 HP.out.2.2 (fun _ _ _ h => h))
    clear hp2 HP
    obtain ⟨r, own2, rfl, h1, h2, h3, rfl⟩ := HP2.out
    have HP := hid (⟨h1, h2, h3⟩ : SameOwn w own own2 ∧ Sch own2 w2 b _ ∧ Chg (fun k => own k ≠ 0 ∧ own k ≤ 7) w w2)
    clear HP2 h1 h2 h3
    go_wp2_with fail
    go_ret
    exact ⟨_, own2, rfl, HP.out.1, HP.out.2.1, HP.out.2.2, rfl⟩
  · rw [if_neg he]
    have Hst := hid hst
    generalize (stopS s x).2 = s1 at *
    generalize (stopS s x).1 = c at *
    clear h hg hst
    go_enter Try.func16, Try.ntmps16
    go_wp2_with fail
    refine Hst.out.mono ?_; rintro e w1 ⟨r, own1, rfl, h1, h2, h3, rfl⟩
    have HP := hid (⟨h1, h2, h3⟩ : SameOwn w own own1 ∧ Sch own1 w1 b _ ∧ Chg (fun k => own k ≠ 0 ∧ own k ≤ 7) w w1)
    clear h1 h2 h3
    go_wp2_with fail
    go_ret
    exact ⟨_, own1, rfl, HP.out.1, HP.out.2.1, HP.out.2.2, rfl⟩

/-- A method that hands back a list, in a new row that is the caller's. -/
def LPost (own : Nat → Nat) (w : World) (b : Nat) (s' : St) (l : List Int) (e : Ending) (w' : World) : Prop :=
  MPost own w b s' (fun r o u => RowT o 0 u r l ∧ ∀ g, r.ownBlock = some g → w.heap.size ≤ g) e w'

theorem LPost.of_all {own : Nat → Nat} {w : World} {b : Nat} {s : St} {l : List Int} {e : Ending} {w' : World} (h : Sch own w b s) (hp : AllPost l w e w') : LPost own w b s l e w' := by
  obtain ⟨v', rfl, h1, h2, h3⟩ := hp
  exact ⟨v', own2 own w 0, rfl, own2_same _ _ _, h.keep (Chg.below (B := fun _ => False) h3) (fun _ _ hb => hb.elim) (own2_same _ _ _), Chg.below h3, ⟨h1, fun g hg => own2_new (h2 g hg)⟩, h2⟩

theorem Sch.all_wt {own : Nat → Nat} {w : World} {b : Nat} {s : St} (h : Sch own w b s) (hg : Good s) :
    Calls Try.prog 45 #[.pointer (some ⟨b, 3, none⟩)] w (LPost own w b s s.wt) := by
  have h' := h
  obtain ⟨hb, vn, vo, vwt, vrn, vdn, vfl, vsk, hh, hn, hor, hwt, hrn, hdn, hfl, hsk⟩ := h
  exact (all_any b 3 _ 63 vwt s.wt w hh rfl hwt.1 (Nat.le_trans hg.lwt (by decide))).mono fun e w' hp => LPost.of_all h' hp

theorem Sch.all_rn {own : Nat → Nat} {w : World} {b : Nat} {s : St} (h : Sch own w b s) (hg : Good s) :
    Calls Try.prog 45 #[.pointer (some ⟨b, 4, none⟩)] w (LPost own w b s s.rn) := by
  have h' := h
  obtain ⟨hb, vn, vo, vwt, vrn, vdn, vfl, vsk, hh, hn, hor, hwt, hrn, hdn, hfl, hsk⟩ := h
  exact (all_any b 4 _ 63 vrn s.rn w hh rfl hrn.1 (Nat.le_trans hg.lrn (by decide))).mono fun e w' hp => LPost.of_all h' hp

set_option maxRecDepth 100000 in
set_option maxHeartbeats 4000000 in
theorem running_any {own : Nat → Nat} {w : World} {b : Nat} {s : St} (h : Sch own w b s) (hg : Good s) (hlim : s.limit ≠ 0) :
    Calls Try.prog 19 #[.pointer (some ⟨b, 0, none⟩)] w (LPost own w b s s.rn) := by
  obtain ⟨vn, vo, vwt, vrn, vdn, vfl, vsk, hN, hO, h3, h4, h5, h6, h7, e0, e1, e2, e3, e4, e5, e6, e7⟩ := h.cells
  have hl0 : decide (s.limit = 0) = false := decide_eq_false hlim
  have hnone := none_any b s.limit w e2
  rw [hl0] at hnone
  have Hnone := hid hnone
  clear hN hO h3 h4 h5 h6 h7 e0 e1 e2 e3 e4 e5 e6 e7 hnone hl0
  have Hall := hid (h.all_rn hg)
  clear h hg
  go_enter Try.func19, Try.ntmps19
  go_wp2_with fail
  refine Hnone.out.mono ?_; rintro e w' ⟨rfl, rfl⟩
  go_wp2_with fail
  refine Hall.out.mono ?_; rintro e w' hp
  obtain ⟨r, own', rfl, hrest⟩ := hp
  have HP := hid hrest
  clear hrest
  go_wp2_with fail
  go_ret
  exact ⟨r, own', rfl, HP.out⟩

set_option maxRecDepth 100000 in
set_option maxHeartbeats 4000000 in
theorem count_any {own : Nat → Nat} {w : World} {b : Nat} {s : St} (h : Sch own w b s) (hg : Good s) (hlim : s.limit ≠ 0) :
    Calls Try.prog 18 #[.pointer (some ⟨b, 0, none⟩)] w fun e w' => e = .returned (.tuple #[.int .i64 s.dn.length, .int .i64 s.fl.length, .int .i64 s.sk.length]) ∧ ∃ q, w' = w.drewN q := by
  obtain ⟨vn, vo, vwt, vrn, vdn, vfl, vsk, hN, hO, h3, h4, h5, h6, h7, e0, e1, e2, e3, e4, e5, e6, e7⟩ := h.cells
  have hl0 : decide (s.limit = 0) = false := decide_eq_false hlim
  have hnone := none_any b s.limit w e2
  rw [hl0] at hnone
  have Hnone := hid hnone
  obtain ⟨o5, c5, rfl⟩ := row_len h5.1
  obtain ⟨o6, c6, rfl⟩ := row_len h6.1
  obtain ⟨o7, c7, rfl⟩ := row_len h7.1
  clear hN hO h3 h4 h5 h6 h7 e0 e1 e2 e3 e4 hnone hl0 h hg
  go_enter Try.func18, Try.ntmps18
  go_wp2_with fail
  refine Hnone.out.mono ?_; rintro e w' ⟨rfl, rfl⟩
  go_wp2_with fail
  go_quiet (fail)
  go_wp2_with fail
  refine bodyPost_ret (v := .tuple #[.int .i64 s.dn.length, .int .i64 s.fl.length, .int .i64 s.sk.length]) (by simp [results, Try.results18, go_sem]) rfl ?_
  exact ⟨rfl, _, rfl⟩

set_option maxRecDepth 100000 in
set_option maxHeartbeats 4000000 in
theorem done_any {own : Nat → Nat} {w : World} {b : Nat} {s : St} (h : Sch own w b s) (hg : Good s) (hlim : s.limit ≠ 0) :
    Calls Try.prog 20 #[.pointer (some ⟨b, 0, none⟩)] w fun e w' => e = .returned (.bool (decide (s.wt.length + s.rn.length = 0))) ∧ ∃ q, w' = w.drewN q := by
  obtain ⟨vn, vo, vwt, vrn, vdn, vfl, vsk, hN, hO, h3, h4, h5, h6, h7, e0, e1, e2, e3, e4, e5, e6, e7⟩ := h.cells
  have hl0 : decide (s.limit = 0) = false := decide_eq_false hlim
  have hnone := fun q => none_any b s.limit (w.drewN q) e2
  rw [hl0] at hnone
  have Hnone := hid hnone
  obtain ⟨o5, c5, rfl⟩ := row_len h3.1
  obtain ⟨o6, c6, rfl⟩ := row_len h4.1
  have b1 := hg.lwt
  have b2 := hg.lrn
  have hs : ∀ i : Int, decide ((s.wt.length : Int) + (s.rn.length : Int) = 0) = decide (s.wt.length + s.rn.length = 0) := fun _ => by
    rw [decide_eq_decide]; omega
  have Hs := hid (hs 0)
  clear hN hO h3 h4 h5 h6 h7 e0 e1 e2 e5 e6 e7 hnone hl0 h hg hs
  go_enter Try.func20, Try.ntmps20
  go_wp2_with fail
  go_quiet ((first | (go_at_call 38; exact Calls.quiet_of_same ((Hnone.out _).mono fun _ _ h => ⟨h.1, h.2.symm⟩))))
  go_wp2_with fail
  go_ret
  refine ⟨?_, _, rfl⟩
  rw [← Hs.out]
  rfl

end Go.Proofs.Ytoaellmjgejgfaa
