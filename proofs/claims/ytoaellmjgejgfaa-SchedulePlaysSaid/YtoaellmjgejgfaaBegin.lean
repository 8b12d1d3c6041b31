/- Begin, stop, Finish. -/
import Derived.Test.YtoaellmjgejgfaaReady
namespace Go.Proofs.Ytoaellmjgejgfaa
open Go Go.RowKit Go.Shelf
set_option linter.unusedVariables false

theorem MPost.after {own : Nat → Nat} {w : World} {b : Nat} {s' : St} {R R' : Value → (Nat → Nat) → World → Prop} {own1 : Nat → Nat} {w1 : World} {e : Ending} {w' : World}
    (h : MPost own1 w1 b s' R e w') (ho : SameOwn w own own1) (hc : Chg (fun k => own k ≠ 0 ∧ own k ≤ 7) w w1) (hR : ∀ r o u, R r o u → R' r o u) : MPost own w b s' R' e w' := by
  obtain ⟨r, own', he, h1, h2, h3, h4⟩ := h
  refine ⟨r, own', he, ho.trans h1 hc.size, h2, ⟨h3.os.trans hc.os, h3.tape.trans hc.tape, h3.output.trans hc.output, Nat.le_trans hc.size h3.size, fun k hk hn => ?_⟩, hR _ _ _ h4⟩
  exact (h3.block k (Nat.lt_of_lt_of_le hk hc.size) (by rw [ho k hk]; exact hn)).trans (hc.block k hk hn)

def inR (s : St) (x : Int) : Bool := decide (0 ≤ x) && decide (x < s.needs.length)

/-- What Begin does. -/
def beginS (s : St) (x : Int) : Int × St :=
  if inR s x then (if readyB s x.toNat (s.needs.getD x.toNat []) then (0, { s with wt := del x s.wt, rn := ins x s.rn }) else (38, s)) else (9, s)

theorem good_begin {s : St} (h : Good s) (x : Int) : Good (beginS s x).2 := by
  unfold beginS
  split
  · rename_i hx
    unfold inR at hx
    simp only [Bool.and_eq_true, decide_eq_true_eq] at hx
    split
    · exact (h.drop_wt x).put_rn hx.1 hx.2
    · exact h
  · exact h

set_option maxRecDepth 100000 in
set_option maxHeartbeats 4000000 in
theorem begin_any {own : Nat → Nat} {w : World} {b : Nat} {s : St} (h : Sch own w b s) (hg : Good s) (hlim : s.limit ≠ 0) (x : Int) :
    Calls Try.prog 15 #[.pointer (some ⟨b, 0, none⟩), .int .i64 x] w (MPost own w b (beginS s x).2 (fun r _ _ => r = .int .i64 (beginS s x).1)) := by
  obtain ⟨vn, vo, vwt, vrn, vdn, vfl, vsk, hN, hO, h3, h4, h5, h6, h7, e0, e1, e2, e3, e4, e5, e6, e7⟩ := h.cells
  obtain ⟨oan, cn, rfl⟩ := needs_len hN
  have hl0 : decide (s.limit = 0) = false := decide_eq_false hlim
  have hnone := none_any b s.limit w e2
  rw [hl0] at hnone
  have Hnone := hid hnone
  clear hN hO h3 h4 h5 h6 h7 e1 e2 e3 e4 e5 e6 e7 hnone hl0
  by_cases hx0 : x < 0
  · have hb : beginS s x = (9, s) := by unfold beginS inR; rw [decide_eq_false (by omega)]; rfl
    rw [hb]
    have H := hid h
    clear h hg hb
    go_enter Try.func15, Try.ntmps15
    go_wp2_with fail
    refine Hnone.out.mono ?_; rintro e w' ⟨rfl, rfl⟩
    go_wp2_with fail
    go_ret
    exact ⟨_, own, rfl, SameOwn.refl _ _, H.out, Chg.refl _ _, rfl⟩
  · by_cases hx1 : (s.needs.length : Int) ≤ x
    · have hb : beginS s x = (9, s) := by unfold beginS inR; rw [decide_eq_false (p := x < s.needs.length) (by omega), Bool.and_false]; rfl
      rw [hb]
      have H := hid h
      clear h hg hb
      go_enter Try.func15, Try.ntmps15
      go_wp2_with fail
      refine Hnone.out.mono ?_; rintro e w' ⟨rfl, rfl⟩
      go_wp2_with fail
      go_ret
      exact ⟨_, own, rfl, SameOwn.refl _ _, H.out, Chg.refl _ _, rfl⟩
    · obtain ⟨n, rfl⟩ : ∃ n : Nat, x = n := ⟨x.toNat, by omega⟩
      have hn : s.needs[n]? = some (s.needs.getD n []) := by
        rw [List.getD_eq_getElem?_getD, List.getElem?_eq_getElem (by omega)]; rfl
      have hx2 : (n : Int) < (s.needs.length : Int) := by omega
      have hb : beginS s n = if readyB s n (s.needs.getD n []) then (0, { s with wt := del n s.wt, rn := ins n s.rn }) else (38, s) := by
        unfold beginS inR; rw [decide_eq_true (by omega), decide_eq_true hx2]; rfl
      have hrd := ready_any h hg n _ hn
      rw [hb]
      cases hr : readyB s n (s.needs.getD n []) with
      | false =>
        rw [hr] at hrd
        have Hrd := hid hrd
        have H := hid h
        clear h hg hb hr hrd hn
        go_enter Try.func15, Try.ntmps15
        go_wp2_with fail
        refine Hnone.out.mono ?_; rintro e w' ⟨rfl, rfl⟩
        go_wp2_with fail
        refine Hrd.out.mono ?_; rintro e w' ⟨r, own', rfl, h1, h2, h3, rfl⟩
        have HP := hid (⟨h1, h2, h3⟩ : SameOwn w own own' ∧ Sch own' w' b s ∧ Chg (fun k => own k ≠ 0 ∧ own k ≤ 7) w w')
        clear h1 h2 h3
        go_wp2_with fail
        go_ret
        exact ⟨_, own', rfl, HP.out.1, HP.out.2.1, HP.out.2.2, rfl⟩
      | true =>
        rw [hr] at hrd
        have Hrd := hid hrd
        have HG := hid hg
        clear h hg hb hr hrd hn
        go_enter Try.func15, Try.ntmps15
        go_wp2_with fail
        refine Hnone.out.mono ?_; rintro e w' ⟨rfl, rfl⟩
        go_wp2_with fail
        refine Hrd.out.mono ?_; rintro e w1 ⟨r, own1, rfl, h1, h2, h3, rfl⟩
        have HP := hid (⟨h1, h2, h3⟩ : SameOwn w own own1 ∧ Sch own1 w1 b s ∧ Chg (fun k => own k ≠ 0 ∧ own k ≤ 7) w w1)
        clear h1 h2 h3
        go_wp2_with fail
        refine (HP.out.2.1.drop_wt HG.out n).mono ?_; rintro e w2 hp2
        have HP2 := hid (hp2.after HP.out.1 HP.out.2.2 (fun _ _ _ h => h))
        clear hp2 HP
        obtain ⟨r, own2, rfl, h1, h2, h3, rfl⟩ := HP2.out
        have HP := hid (⟨h1, h2, h3⟩ : SameOwn w own own2 ∧ Sch own2 w2 b _ ∧ Chg (fun k => own k ≠ 0 ∧ own k ≤ 7) w w2)
        clear HP2 h1 h2 h3
        go_wp2_with fail
        refine (HP.out.2.1.put_rn (HG.out.drop_wt n) n).mono ?_; rintro e w3 hp3
        have HP2 := hid (hp3.after HP.out.1 HP.out.2.2 (fun _ _ _ h => h))
        clear hp3 HP
        obtain ⟨r, own3, rfl, h1, h2, h3, rfl⟩ := HP2.out
        have HP := hid (⟨h1, h2, h3⟩ : SameOwn w own own3 ∧ Sch own3 w3 b _ ∧ Chg (fun k => own k ≠ 0 ∧ own k ≤ 7) w w3)
        clear HP2 h1 h2 h3
        go_wp2_with fail
        go_ret
        exact ⟨_, own3, rfl, HP.out.1, HP.out.2.1, HP.out.2.2, rfl⟩

end Go.Proofs.Ytoaellmjgejgfaa
