/- The methods over a Scheduler of the law's; Same. -/
import Derived.Test.YtoaellmjgejgfaaRdy
import Derived.Test.YtoaellmjgejgfaaView
import Derived.Test.YtoaellmjgejgfaaSteady
namespace Go.Proofs.Ytoaellmjgejgfaa
open Go Go.RowKit Go.Shelf Go.Proofs.Ytoaellmjgejgfaa.Steady
set_option linter.unusedVariables false

/-- A Scheduler that the law has made. -/
structure Live (B : Nat) (w0 : World) (own : Nat → Nat) (w : World) (b : Nat) (s : St) : Prop where
  sch : Sch own w b s
  good : Good s
  lim : s.limit ≠ 0
  low : ∀ k, k < B → own k = 0
  size : B ≤ w0.heap.size
  below : Below B w0 w

def OPost (B : Nat) (w0 : World) (own : Nat → Nat) (w : World) (b : Nat) (s' : St) (R : Value → (Nat → Nat) → World → Prop) (e : Ending) (w' : World) : Prop :=
  ∃ r own', e = .returned r ∧ Live B w0 own' w' b s' ∧ SameOwn w own own' ∧ Chg (fun k => own k ≠ 0 ∧ own k ≤ 7) w w' ∧ R r own' w'

section
variable {B : Nat} {w0 : World} {own : Nat → Nat} {w : World} {b : Nat} {s : St}

theorem Live.le (h : Live B w0 own w b s) : B ≤ w.heap.size := Nat.le_trans h.size h.below.size

theorem Live.step {own' : Nat → Nat} {w' : World} {s' : St} (h : Live B w0 own w b s) (ho : SameOwn w own own') (hs : Sch own' w' b s') (hc : Chg (fun k => own k ≠ 0 ∧ own k ≤ 7) w w') (hg : Good s') (hl : s'.limit = s.limit) : Live B w0 own' w' b s' := by
  have hle := h.le
  refine ⟨hs, hg, by rw [hl]; exact h.lim, fun k hk => (ho k (by omega)).trans (h.low k hk), h.size, ?_⟩
  refine ⟨hc.os.trans h.below.os, hc.tape.trans h.below.tape, hc.output.trans h.below.output, Nat.le_trans h.below.size hc.size, fun k hk => ?_⟩
  exact (hc.block k (by omega) (fun e => e.1 (h.low k hk))).trans (h.below.block k hk)

theorem Live.mpost {s' : St} {R : Value → (Nat → Nat) → World → Prop} {e : Ending} {w' : World} (h : Live B w0 own w b s) (hg : Good s') (hl : s'.limit = s.limit) (hp : MPost own w b s' R e w') : OPost B w0 own w b s' R e w' := by
  obtain ⟨r, own', rfl, h1, h2, h3, h4⟩ := hp
  exact ⟨r, own', rfl, h.step h1 h2 h3 hg hl, h1, h3, h4⟩

/-- Something else has been made; nothing old has changed. -/
theorem Live.grow {w' : World} (h : Live B w0 own w b s) (hb : Below w.heap.size w w') (tag : Nat) : Live B w0 (own2 own w tag) w' b s :=
  h.step (own2_same own w tag) (h.sch.keep (B := fun _ => False) (Chg.below hb) (fun _ _ h => h.elim) (own2_same own w tag)) (Chg.below hb) h.good rfl
theorem Live.drewN (h : Live B w0 own w b s) (q : Nat) : Live B w0 own (w.drewN q) b s :=
  h.step (SameOwn.refl _ _) (h.sch.drewN q) (Chg.drewN _ _ _) h.good rfl
end

theorem begin_lim (s : St) (x : Int) : (beginS s x).2.limit = s.limit := by unfold beginS; (repeat split) <;> rfl
theorem begin_needs (s : St) (x : Int) : (beginS s x).2.needs = s.needs := by unfold beginS; (repeat split) <;> rfl
theorem stop_lim (s : St) (x : Int) : (stopS s x).2.limit = s.limit := by unfold stopS; (repeat split) <;> rfl
theorem stop_order (s : St) (x : Int) : (stopS s x).2.order = s.order := by unfold stopS; (repeat split) <;> rfl
theorem finish_lim (s : St) (x : Int) : (finishS s x).2.limit = s.limit := by unfold finishS; split <;> exact stop_lim s x
theorem finish_needs (s : St) (x : Int) : (finishS s x).2.needs = s.needs := by unfold finishS; split <;> exact stop_needs s x
theorem skip_lim (l : List Int) : ∀ s : St, (skipS s l).limit = s.limit := by
  induction l with
  | nil => intro s; rfl
  | cons x l ih => intro s; exact (ih _).trans rfl
theorem skip_order (l : List Int) : ∀ s : St, (skipS s l).order = s.order := by
  induction l with
  | nil => intro s; rfl
  | cons x l ih => intro s; exact (ih _).trans rfl
theorem fail_lim (s : St) (x : Int) : (failS s x).2.1.limit = s.limit := by
  unfold failS; split
  · exact (skip_lim _ _).trans (stop_lim s x)
  · exact stop_lim s x
theorem fail_needs (s : St) (x : Int) : (failS s x).2.1.needs = s.needs := by
  unfold failS; split
  · exact (skip_needs _ _).trans (stop_needs s x)
  · exact stop_needs s x

theorem failL_sorted (s : St) (x : Int) : Sorted (lostS { (stopS s x).2 with fl := ins x (stopS s x).2.fl } x s.order) :=
  lost_good _ _ _ (List.pairwise_singleton _ _)
theorem failL_range {s : St} (hg : Good s) {x : Int} (hx : 0 ≤ x ∧ x < s.needs.length) : ∀ y ∈ failL s x, 0 ≤ y ∧ y < s.needs.length := by
  intro y hy
  have hm := (mem_del (failL_sorted s x)).1 hy
  refine lost_range { (stopS s x).2 with fl := ins x (stopS s x).2.fl } s.needs.length s.order [x] (fun z hz => ?_) hg.ro y hm.1
  simp at hz; subst hz; exact hx

theorem good_fail {s : St} (hg : Good s) (x : Int) : Good (failS s x).2.1 := by
  unfold failS
  split
  · rename_i he
    have hx := stop_in he
    have hgs := (good_stop hg x).put_fl (x := x) hx.1 (by rw [stop_needs]; exact hx.2)
    refine good_skip (failL s x) hgs (fun y hy => ?_)
    have := failL_range hg hx y hy
    rw [show ({ (stopS s x).2 with fl := ins x (stopS s x).2.fl } : St).needs = s.needs from stop_needs s x]
    exact this
  · exact good_stop hg x

section
variable {B : Nat} {w0 : World} {own : Nat → Nat} {w : World} {b : Nat} {s : St}

theorem Live.begin_ (h : Live B w0 own w b s) (x : Int) : Calls Try.prog 15 #[.pointer (some ⟨b, 0, none⟩), .int .i64 x] w (OPost B w0 own w b (beginS s x).2 (fun r _ _ => r = .int .i64 (beginS s x).1)) :=
  (begin_any h.sch h.good h.lim x).mono fun e w' hp => h.mpost (good_begin h.good x) (begin_lim s x) hp
theorem Live.finish (h : Live B w0 own w b s) (x : Int) : Calls Try.prog 16 #[.pointer (some ⟨b, 0, none⟩), .int .i64 x] w (OPost B w0 own w b (finishS s x).2 (fun r _ _ => r = .int .i64 (finishS s x).1)) :=
  (finish_any h.sch h.good h.lim x).mono fun e w' hp => h.mpost (good_finish h.good x) (finish_lim s x) hp
theorem Live.fail (h : Live B w0 own w b s) (x : Int) : Calls Try.prog 17 #[.pointer (some ⟨b, 0, none⟩), .int .i64 x] w (OPost B w0 own w b (failS s x).2.1 (fun r o u => ∃ v, r = .tuple #[v, .int .i64 (failS s x).1] ∧ RowT o 0 u v (failS s x).2.2)) :=
  (fail_any h.sch h.good h.lim x).mono fun e w' hp => by
    obtain ⟨r, own', rfl, h1, h2, h3, v, h4, h5, h6⟩ := hp
    exact ⟨r, own', rfl, h.step h1 h2 h3 (good_fail h.good x) (fail_lim s x), h1, h3, v, h4, h5⟩
theorem Live.cancel (h : Live B w0 own w b s) : Calls Try.prog 28 #[.pointer (some ⟨b, 0, none⟩)] w (OPost B w0 own w b (skipS s s.wt) (fun r o u => RowT o 0 u r s.wt)) :=
  (cancel_any h.sch h.good h.lim).mono fun e w' hp => by
    obtain ⟨r, own', rfl, h1, h2, h3, h4, h5⟩ := hp
    exact ⟨r, own', rfl, h.step h1 h2 h3 (good_skip _ h.good h.good.rwt) (skip_lim _ _), h1, h3, h4⟩
theorem Live.running (h : Live B w0 own w b s) : Calls Try.prog 19 #[.pointer (some ⟨b, 0, none⟩)] w (OPost B w0 own w b s (fun r o u => RowT o 0 u r s.rn)) :=
  (running_any h.sch h.good h.lim).mono fun e w' hp => by
    obtain ⟨r, own', rfl, h1, h2, h3, h4, h5⟩ := hp
    exact ⟨r, own', rfl, h.step h1 h2 h3 h.good rfl, h1, h3, h4⟩
theorem Live.ready (h : Live B w0 own w b s) : Calls Try.prog 21 #[.pointer (some ⟨b, 0, none⟩)] w (OPost B w0 own w b s (fun r o u => RowT o 0 u r (readyL s))) :=
  (rdy_any h.sch h.good h.lim).mono fun e w' hp => by
    obtain ⟨r, own', rfl, h1, h2, h3, h4, h5⟩ := hp
    exact ⟨r, own', rfl, h.step h1 h2 h3 h.good rfl, h1, h3, h4⟩
theorem Live.count (h : Live B w0 own w b s) : Calls Try.prog 18 #[.pointer (some ⟨b, 0, none⟩)] w (OPost B w0 own w b s (fun r _ _ => r = .tuple #[.int .i64 s.dn.length, .int .i64 s.fl.length, .int .i64 s.sk.length])) :=
  (count_any h.sch h.good h.lim).mono fun e w' hp => by
    obtain ⟨rfl, q, rfl⟩ := hp
    exact ⟨_, own, rfl, h.drewN q, SameOwn.refl _ _, Chg.drewN _ _ _, rfl⟩
theorem Live.done (h : Live B w0 own w b s) : Calls Try.prog 20 #[.pointer (some ⟨b, 0, none⟩)] w (OPost B w0 own w b s (fun r _ _ => r = .bool (decide (s.wt.length + s.rn.length = 0)))) :=
  (done_any h.sch h.good h.lim).mono fun e w' hp => by
    obtain ⟨rfl, q, rfl⟩ := hp
    exact ⟨_, own, rfl, h.drewN q, SameOwn.refl _ _, Chg.drewN _ _ _, rfl⟩
end

/-! Same -/
theorem same_no {a b : List Int} {k : Nat} (hk : k < a.length) (h : a.getD k 0 ≠ b.getD k 0) : decide (a = b) = false := by
  refine decide_eq_false fun e => h (by rw [e])
theorem same_yes {a b : List Int} (hl : a.length = b.length) (h : ∀ j, j < a.length → a.getD j 0 = b.getD j 0) : decide (a = b) = true := by
  refine decide_eq_true (List.ext_getElem hl fun i h1 h2 => ?_)
  have := h i h1
  rw [List.getD_eq_getElem?_getD, List.getD_eq_getElem?_getD, List.getElem?_eq_getElem h1, List.getElem?_eq_getElem h2] at this
  exact this

set_option maxRecDepth 100000 in
set_option maxHeartbeats 1000000 in
theorem same_any (w : World) (u v : Value) (a b : List Int) (hu : View w u a) (hv : View w v b) (ha : a.length ≤ 100000) (hb : b.length ≤ 100000) :
    Calls Try.prog 23 #[u, v] w fun e w' => e = .returned (.bool (decide (a = b))) ∧ ∃ q, w' = w.drewN q := by
  obtain ⟨oa, ca, rfl⟩ := hu.len
  obtain ⟨ob, cb, rfl⟩ := hv.len
  by_cases hne : a.length = b.length
  case neg =>
    have hd : decide (a = b) = false := decide_eq_false fun e => hne (by rw [e])
    have hb1 : decide ((a.length : Int) = (b.length : Int)) = false := decide_eq_false (by omega)
    have hb2 : ((a.length : Int) != (b.length : Int)) = true := by rw [bne, beq_eq_false_iff_ne.2 (by omega)]; rfl
    have hb3 : ((a.length : Int) == (b.length : Int)) = false := beq_eq_false_iff_ne.2 (by omega)
    have HD := hid hd
    clear hd hne hu hv
    go_enter Try.func23, Try.ntmps23
    go_wp2_with fail
    go_ret
    exact ⟨by rw [HD.out]; rfl, 0, rfl⟩
  have HU := hid hu
  have HV := hid hv
  have HL := hid hne
  have hyes := same_yes hne
  have HY := hid hyes
  rw [← hne] at HV
  clear hu hv hyes
  rw [← hne]
  clear hne
  go_enter Try.func23, Try.ntmps23
  go_wp2_with fail
  go_loopw [5] (fun i wr => ∃ k q : Nat, wr = w.drewN q ∧ k ≤ a.length ∧ i = .int .i64 k ∧ Hid (∀ j, j < k → a.getD j 0 = b.getD j 0)) (fun i _ => a.length - (intOf i).toNat)
  case atStart => exact ⟨0, 0, rfl, Nat.zero_le _, rfl, hid fun j hj => absurd hj (Nat.not_lt_zero _)⟩
  case round =>
    obtain ⟨k, q, rfl, hk, rfl, A⟩ := hrel
    by_cases hlt : k < a.length
    · have hltb : k < b.length := by rw [← HL.out]; exact hlt
      obtain ⟨g1, o1, c1, e1, hc1⟩ := HU.out.at hlt
      have HV' := HV.out
      rw [HL.out] at HV'
      obtain ⟨g2, o2, c2, e2, hc2⟩ := HV'.at hltb
      cases e1
      rw [← HL.out] at e2
      cases e2
      have hk0 : (0 : Int) ≤ (k : Int) := by omega
      have hk1 : (k : Int) < (a.length : Int) := by omega
      have hno := same_no (b := b) hlt
      generalize hx : a.getD k 0 = x at *
      generalize hy : b.getD k 0 = y at *
      have Hno := hid hno
      have HX := hid hx
      have HY2 := hid hy
      clear hno hx hy HV'
      by_cases hxy : x = y
      · subst hxy
        go_wp2_with fail
        refine wp_region_steady (fun v => v.cell? ⟨g1, o1 + k, none⟩ = some (.int .i64 x) ∧ v.cell? ⟨g2, o2 + k, none⟩ = some (.int .i64 x)) (by kernel_rfl) (by kernel_rfl) (⟨hc1, hc2⟩) ?_
        repeat (first
          | (refine wpSteady_skip (by rfl) ?_; try simp only [Act.put, List.setIfInBounds_toArray, List.set_cons_zero, List.set_cons_succ])
          | (refine wpSteady_calm (v := ?_) (by rfl) ?_ ?_; rotate_left; (focus (intro v hSv; (try dsimp only at hSv); go_simp; (try with_reducible rfl); done)); try simp only [Act.put, List.setIfInBounds_toArray, List.set_cons_zero, List.set_cons_succ]))
        refine wpSteady_nil ?_
        go_wp2_with fail
        go_roundw
        case rel =>
          refine ⟨k + 1, q + 1, rfl, by omega, by go_num, hid fun j hj => ?_⟩
          by_cases e : j = k
          · subst e; rw [HX.out, HY2.out]
          · exact A.out j (by omega)
        case measure => simp [intOf]; omega
      · have hb1 : decide (x = y) = false := decide_eq_false hxy
        have hb2 : (x != y) = true := by rw [bne, beq_eq_false_iff_ne.2 hxy]; rfl
        have hb3 : (x == y) = false := beq_eq_false_iff_ne.2 hxy
        have HXY := hid (Hno.out hxy)
        clear hxy
        go_wp2_with fail
        refine wp_region_steady (fun v => v.cell? ⟨g1, o1 + k, none⟩ = some (.int .i64 x) ∧ v.cell? ⟨g2, o2 + k, none⟩ = some (.int .i64 y)) (by kernel_rfl) (by kernel_rfl) (⟨hc1, hc2⟩) ?_
        repeat (first
          | (refine wpSteady_skip (by rfl) ?_; try simp only [Act.put, List.setIfInBounds_toArray, List.set_cons_zero, List.set_cons_succ])
          | (refine wpSteady_calm (v := ?_) (by rfl) ?_ ?_; rotate_left; (focus (intro v hSv; (try dsimp only at hSv); go_simp; (try with_reducible rfl); done)); try simp only [Act.put, List.setIfInBounds_toArray, List.set_cons_zero, List.set_cons_succ]))
        refine wpSteady_nil ?_
        go_wp2_with fail
        go_ret
        exact ⟨by rw [HXY.out]; rfl, q + 1, rfl⟩
    · have hke : k = a.length := by omega
      have hY := HY.out fun j hj => A.out j (by omega)
      have HY3 := hid hY
      clear hY
      go_wp2_with fail
      go_ret
      exact ⟨by rw [HY3.out]; rfl, q, rfl⟩
end Go.Proofs.Ytoaellmjgejgfaa
