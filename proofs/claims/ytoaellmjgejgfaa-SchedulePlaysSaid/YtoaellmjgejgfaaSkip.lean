/- skip, Cancel. -/
import Derived.Test.YtoaellmjgejgfaaStop
namespace Go.Proofs.Ytoaellmjgejgfaa
open Go Go.RowKit Go.Shelf
set_option linter.unusedVariables false

def skipOne (s : St) (x : Int) : St := { s with wt := del x s.wt, sk := ins x s.sk }
def skipS (s : St) (l : List Int) : St := l.foldl skipOne s

theorem skip_needs (l : List Int) : ∀ s : St, (skipS s l).needs = s.needs := by
  induction l with
  | nil => intro s; rfl
  | cons x l ih => intro s; exact (ih _).trans rfl
theorem good_skip (l : List Int) : ∀ {s : St}, Good s → (∀ x ∈ l, 0 ≤ x ∧ x < s.needs.length) → Good (skipS s l) := by
  induction l with
  | nil => intro s h _; exact h
  | cons x l ih =>
    intro s h hx
    obtain ⟨h0, h1⟩ := hx x (List.mem_cons_self ..)
    exact ih (s := skipOne s x) ((h.drop_wt x).put_sk h0 h1) (fun y hy => hx y (List.mem_cons_of_mem _ hy))
theorem skip_snoc (s : St) (l : List Int) (k : Nat) (hk : k < l.length) : skipS s (l.take (k + 1)) = skipOne (skipS s (l.take k)) (l.getD k 0) := by
  unfold skipS
  rw [List.take_succ_eq_append_getElem hk, List.foldl_append, List.getD_eq_getElem?_getD, List.getElem?_eq_getElem hk]
  rfl

def OwnTo (own : Nat → Nat) (w : World) (b : Nat) (s' : St) (w' : World) : Prop := ∃ own', SameOwn w own own' ∧ Sch own' w' b s' ∧ Chg (fun k => own k ≠ 0 ∧ own k ≤ 7) w w'

set_option maxRecDepth 100000 in
set_option maxHeartbeats 4000000 in
theorem skip_any {own : Nat → Nat} {w : World} {b : Nat} {s : St} (h : Sch own w b s) (hg : Good s) (v : Value) (l : List Int) (hv : RowT own 0 w v l) (hl : ∀ x ∈ l, 0 ≤ x ∧ x < s.needs.length) (hll : l.length ≤ 100000) :
    Calls Try.prog 44 #[.pointer (some ⟨b, 0, none⟩), v] w (MPost own w b (skipS s l) (fun r _ _ => r = .tuple #[])) := by
  obtain ⟨oa, c, rfl⟩ := row_len hv.1
  have H := hid h
  have HV := hid hv
  have HL := hid hl
  have HG := hid hg
  clear h hv hl hg
  go_enter Try.func44, Try.ntmps44
  go_wp2_with fail
  go_loopw [5, 8] (fun _ i wr => ∃ k : Nat, k ≤ l.length ∧ i = .int .i64 k ∧ Hid (OwnTo own w b (skipS s (l.take k)) wr)) (fun _ i _ => l.length - (intOf i).toNat)
  case atStart => exact ⟨0, Nat.zero_le _, rfl, hid ⟨own, SameOwn.refl _ _, H.out, Chg.refl _ _⟩⟩
  case round =>
    obtain ⟨k, hk, rfl, J⟩ := hrel
    obtain ⟨own1, j1, j2, j3⟩ := J.out
    clear J
    by_cases hlt : k < l.length
    · have hrow := HV.out.keep j3 (fun g _ h => h.1) j1
      obtain ⟨g, c', hv, hcell⟩ := row_at hrow.1 hlt
      cases hv
      have hk0 : (0 : Int) ≤ (k : Int) := by omega
      have hk1 : (k : Int) < (l.length : Int) := by omega
      have hgk : Good (skipS s (l.take k)) := good_skip _ HG.out fun x hx => HL.out x (List.mem_of_mem_take hx)
      have hsn := skip_snoc s l k hlt
      generalize hS : skipS s (l.take k) = sk at *
      generalize hx : l.getD k 0 = x at *
      have Hsn := hid hsn
      have HP := hid (⟨j1, j2, j3⟩ : SameOwn w own own1 ∧ Sch own1 wr b sk ∧ Chg (fun k => own k ≠ 0 ∧ own k ≤ 7) w wr)
      have HGk := hid hgk
      clear hsn hS hx hgk j1 j2 j3 hrow
      go_wp2_with fail
      refine (HP.out.2.1.drop_wt HGk.out x).mono ?_; rintro e w2 hp2
      have HP2 := hid (hp2.after HP.out.1 HP.out.2.2 (fun _ _ _ h => h))
      clear hp2 HP
      obtain ⟨r, own2, rfl, h1, h2, h3, rfl⟩ := HP2.out
      have HP := hid (⟨h1, h2, h3⟩ : SameOwn w own own2 ∧ Sch own2 w2 b _ ∧ Chg (fun k => own k ≠ 0 ∧ own k ≤ 7) w w2)
      clear HP2 h1 h2 h3
      go_wp2_with fail
      refine (HP.out.2.1.put_sk (HGk.out.drop_wt x) x).mono ?_; rintro e w3 hp2
      have HP2 := hid (hp2.after HP.out.1 HP.out.2.2 (fun _ _ _ h => h))
      clear hp2 HP
      obtain ⟨r, own3, rfl, h1, h2, h3, rfl⟩ := HP2.out
      have HP := hid (⟨h1, h2, h3⟩ : SameOwn w own own3 ∧ Sch own3 w3 b _ ∧ Chg (fun k => own k ≠ 0 ∧ own k ≤ 7) w w3)
      clear HP2 h1 h2 h3
      go_wp2_with fail
      go_roundw
      case rel => exact ⟨k + 1, by omega, by go_num, hid ⟨own3, by rw [Hsn.out]; exact HP.out⟩⟩
      case measure => simp [intOf]; omega
    · have hke : k = l.length := by omega
      have ht : skipS s (l.take k) = skipS s l := by rw [hke, List.take_length]
      rw [ht] at j2
      have HP := hid (⟨j1, j2, j3⟩ : SameOwn w own own1 ∧ Sch own1 wr b _ ∧ Chg (fun k => own k ≠ 0 ∧ own k ≤ 7) w wr)
      clear j1 j2 j3 ht
      go_wp2_with fail
      refine bodyPost_ret (v := .tuple #[]) (by simp [results, Try.results44]) rfl ?_
      exact ⟨_, own1, rfl, HP.out.1, HP.out.2.1, HP.out.2.2, rfl⟩

set_option maxRecDepth 100000 in
set_option maxHeartbeats 4000000 in
theorem cancel_any {own : Nat → Nat} {w : World} {b : Nat} {s : St} (h : Sch own w b s) (hg : Good s) (hlim : s.limit ≠ 0) :
    Calls Try.prog 28 #[.pointer (some ⟨b, 0, none⟩)] w (LPost own w b (skipS s s.wt) s.wt) := by
  obtain ⟨vn, vo, vwt, vrn, vdn, vfl, vsk, hN, hO, h3, h4, h5, h6, h7, e0, e1, e2, e3, e4, e5, e6, e7⟩ := h.cells
  have hl0 : decide (s.limit = 0) = false := decide_eq_false hlim
  have hnone := none_any b s.limit w e2
  rw [hl0] at hnone
  have Hnone := hid hnone
  clear hN hO h3 h4 h5 h6 h7 e0 e1 e2 e3 e4 e5 e6 e7 hnone hl0
  have Hall := hid (h.all_wt hg)
  have HG := hid hg
  clear h hg
  go_enter Try.func28, Try.ntmps28
  go_wp2_with fail
  refine Hnone.out.mono ?_; rintro e w' ⟨rfl, rfl⟩
  go_wp2_with fail
  refine Hall.out.mono ?_; rintro e w1 hp
  obtain ⟨r, own1, rfl, h1, h2, h3, h4, h5⟩ := hp
  have HP := hid (⟨h1, h2, h3⟩ : SameOwn w own own1 ∧ Sch own1 w1 b _ ∧ Chg (fun k => own k ≠ 0 ∧ own k ≤ 7) w w1)
  have HR := hid h4
  have HF := hid h5
  obtain ⟨oa, c, rfl⟩ := row_len h4.1
  clear h1 h2 h3 h4 h5
  go_wp2_with fail
  refine (skip_any HP.out.2.1 HG.out _ s.wt HR.out HG.out.rwt (Nat.le_trans HG.out.lwt (by decide))).mono ?_; rintro e w2 hp2
  obtain ⟨r, own2, rfl, h1, h2, h3, rfl⟩ := hp2
  have hR2 := hid (HR.out.keep h3 (fun g _ h => h.1) h1)
  have hC2 : Chg (fun k => own k ≠ 0 ∧ own k ≤ 7) w w2 := ⟨h3.os.trans HP.out.2.2.os, h3.tape.trans HP.out.2.2.tape, h3.output.trans HP.out.2.2.output, Nat.le_trans HP.out.2.2.size h3.size, fun k hk hn =>
    (h3.block k (Nat.lt_of_lt_of_le hk HP.out.2.2.size) (by rw [HP.out.1 k hk]; exact hn)).trans (HP.out.2.2.block k hk hn)⟩
  have HP2 := hid (⟨HP.out.1.trans h1 HP.out.2.2.size, h2, hC2⟩ : SameOwn w own own2 ∧ Sch own2 w2 b _ ∧ Chg (fun k => own k ≠ 0 ∧ own k ≤ 7) w w2)
  clear h1 h2 h3 hC2 HR HP
  go_wp2_with fail
  go_ret
  exact ⟨_, own2, rfl, HP2.out.1, HP2.out.2.1, HP2.out.2.2, hR2.out, HF.out⟩

end Go.Proofs.Ytoaellmjgejgfaa
