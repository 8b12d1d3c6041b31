/- Two values that are fetched into two new boxes, in any order. -/
import Derived.Test.YtibiiafcnaijeaaPr
import Derived.Test.YtibiiafcnaijeaaAny
namespace Go.Proofs.Ytibiiafcnaijeaa
open Go Go.RowKit Go.Proofs.Ytibiiafcnaijeaa.Steady
set_option linter.unusedVariables false
set_option linter.unusedSimpArgs false

theorem bel_chg {n X : Nat} {w w2 wr : World} (h : Below n w w2) (hc : Chg (fun k => k = X) w2 wr) (hn : n ≤ w.heap.size) (hx : n ≤ X) : Below n w wr :=
  h.trans (chg_bel hc (fun k e => by rw [e]; exact hx) (Nat.le_trans hn h.size))
abbrev five0 : Obj := .cells #[.int .i64 5, .int .i64 0, .string ⟨#[]⟩, .slice none 0 0, .slice none 0 0] 26
theorem bjoin {w wr W : World} (h : Below w.heap.size w wr) (k : Below wr.heap.size wr W) : Below w.heap.size w W := h.trans (k.mono h.size)
theorem bstep {n : Nat} {w W W' : World} (h : Below n w W) (hb : Below W.heap.size W W') (hn : n ≤ w.heap.size) : Below n w W' := h.trans (hb.mono (Nat.le_trans hn h.size))
theorem bal {n : Nat} {w W : World} (h : Below n w W) (hn : n ≤ w.heap.size) (o : Obj) : Below n w (W.alloc o) := h.trans ((Below.refl _ _).alloc (Nat.le_trans hn h.size) o)
theorem bset {n b : Nat} {w W : World} {x : Value} {o : Nat} (h : Below n w W) (hn : n ≤ w.heap.size) (hb : n ≤ b) : Below n w (W.setCell ⟨b, o, none⟩ x) :=
  h.trans (chg_bel (Chg.setCell (B := fun k => k = b) W b o x rfl) (fun k e => by rw [e]; exact hb) (Nat.le_trans hn h.size))
/-- Two calls and two new boxes, in whatever order. -/
inductive St (wr : World) (v1 v2 : Vl) : Option V5 → Option V5 → Option Nat → Option Nat → World → Prop where
  | start : St wr v1 v2 none none none none wr.drew
  | call1 {o2 : Option V5} {B1 B2 : Option Nat} {W W' : World} {r : V5} (h : St wr v1 v2 none o2 B1 B2 W) (hb : Below W.heap.size W W') (hv : VV (fun g => W.heap.size ≤ g) W' (pent r) v1) : St wr v1 v2 (some r) o2 B1 B2 W'
  | call2 {o1 : Option V5} {B1 B2 : Option Nat} {W W' : World} {r : V5} (h : St wr v1 v2 o1 none B1 B2 W) (hb : Below W.heap.size W W') (hv : VV (fun g => W.heap.size ≤ g) W' (pent r) v2) : St wr v1 v2 o1 (some r) B1 B2 W'
  | al1 {o1 o2 : Option V5} {B2 : Option Nat} {W : World} {n : Nat} (h : St wr v1 v2 o1 o2 none B2 W) (hn : n = W.heap.size) : St wr v1 v2 o1 o2 (some n) B2 (W.alloc zero5)
  | al2 {o1 o2 : Option V5} {B1 : Option Nat} {W : World} {n : Nat} (h : St wr v1 v2 o1 o2 B1 none W) (hn : n = W.heap.size) : St wr v1 v2 o1 o2 B1 (some n) (W.alloc zero5)
structure SI (wr : World) (v1 v2 : Vl) (o1 o2 : Option V5) (B1 B2 : Option Nat) (W : World) : Prop where
  bel : Below wr.heap.size wr W
  p : ∀ r, o1 = some r → VV (fun g => wr.heap.size ≤ g ∧ B1 ≠ some g ∧ B2 ≠ some g) W (pent r) v1
  q : ∀ r, o2 = some r → VV (fun g => wr.heap.size ≤ g ∧ B1 ≠ some g ∧ B2 ≠ some g) W (pent r) v2
  b1 : ∀ n, B1 = some n → wr.heap.size ≤ n ∧ W.heap[n]? = some zero5
  b2 : ∀ n, B2 = some n → wr.heap.size ≤ n ∧ W.heap[n]? = some zero5
  ne : ∀ n, B1 = some n → B2 ≠ some n
theorem St.inv {wr : World} {v1 v2 : Vl} {o1 o2 : Option V5} {B1 B2 : Option Nat} {W : World} (h : St wr v1 v2 o1 o2 B1 B2 W) : SI wr v1 v2 o1 o2 B1 B2 W := by
  induction h with
  | start => exact ⟨below_drew (Below.refl _ _), (fun r e => by cases e), (fun r e => by cases e), (fun r e => by cases e), (fun r e => by cases e), (fun r e => by cases e)⟩
  | @call1 o2 B1 B2 W W' r h hb hv ih =>
    refine ⟨ih.bel.trans (hb.mono ih.bel.size), fun r e => ?_, fun r e => (ih.q r e).bel hb, fun n e => ⟨(ih.b1 n e).1, keep_obj (ih.b1 n e).2 hb⟩, fun n e => ⟨(ih.b2 n e).1, keep_obj (ih.b2 n e).2 hb⟩, ih.ne⟩
    cases e
    exact hv.mono fun g (hg : W.heap.size ≤ g) => ⟨Nat.le_trans ih.bel.size hg, (fun e => by have := (Array.getElem?_eq_some_iff.1 (ih.b1 g e).2).1; omega), (fun e => by have := (Array.getElem?_eq_some_iff.1 (ih.b2 g e).2).1; omega)⟩
  | @call2 o1 B1 B2 W W' r h hb hv ih =>
    refine ⟨ih.bel.trans (hb.mono ih.bel.size), fun r e => (ih.p r e).bel hb, fun r e => ?_, fun n e => ⟨(ih.b1 n e).1, keep_obj (ih.b1 n e).2 hb⟩, fun n e => ⟨(ih.b2 n e).1, keep_obj (ih.b2 n e).2 hb⟩, ih.ne⟩
    cases e
    exact hv.mono fun g (hg : W.heap.size ≤ g) => ⟨Nat.le_trans ih.bel.size hg, (fun e => by have := (Array.getElem?_eq_some_iff.1 (ih.b1 g e).2).1; omega), (fun e => by have := (Array.getElem?_eq_some_iff.1 (ih.b2 g e).2).1; omega)⟩
  | @al1 o1 o2 B2 W n h hn ih =>
    subst hn
    have hb : Below W.heap.size W (W.alloc zero5) := (Below.refl _ _).alloc (Nat.le_refl _) _
    refine ⟨ih.bel.trans (hb.mono ih.bel.size), fun r e => ((ih.p r e).ex.bel hb).mono fun g hg => ⟨hg.1.1, (fun e => by cases e; omega), hg.1.2.2⟩, fun r e => ((ih.q r e).ex.bel hb).mono fun g hg => ⟨hg.1.1, (fun e => by cases e; omega), hg.1.2.2⟩, fun n e => ?_, fun n e => ⟨(ih.b2 n e).1, keep_obj (ih.b2 n e).2 hb⟩, fun n e e2 => ?_⟩
    · cases e; exact ⟨ih.bel.size, heap_alloc_at _ _⟩
    · cases e; have := (Array.getElem?_eq_some_iff.1 (ih.b2 _ e2).2).1; omega
  | @al2 o1 o2 B1 W n h hn ih =>
    subst hn
    have hb : Below W.heap.size W (W.alloc zero5) := (Below.refl _ _).alloc (Nat.le_refl _) _
    refine ⟨ih.bel.trans (hb.mono ih.bel.size), fun r e => ((ih.p r e).ex.bel hb).mono fun g hg => ⟨hg.1.1, hg.1.2.1, (fun e => by cases e; omega)⟩, fun r e => ((ih.q r e).ex.bel hb).mono fun g hg => ⟨hg.1.1, hg.1.2.1, (fun e => by cases e; omega)⟩, fun n e => ⟨(ih.b1 n e).1, keep_obj (ih.b1 n e).2 hb⟩, fun n e => ?_, fun n e e2 => ?_⟩
    · cases e; exact ⟨ih.bel.size, heap_alloc_at _ _⟩
    · cases e2; have := (Array.getElem?_eq_some_iff.1 (ih.b1 _ e).2).1; omega
abbrev cells5 (r : V5) : Obj := .cells #[r.1, r.2.1, r.2.2.1, r.2.2.2.1, r.2.2.2.2] 26
abbrev put5 (w : World) (b : Nat) (r : V5) : World := ((((w.setCell ⟨b, 0, none⟩ r.1).setCell ⟨b, 1, none⟩ r.2.1).setCell ⟨b, 2, none⟩ r.2.2.1).setCell ⟨b, 3, none⟩ r.2.2.2.1).setCell ⟨b, 4, none⟩ r.2.2.2.2
/-- Two values in boxes of their own. -/
structure TW (wr wx : World) (m n : Nat) (r1 r2 : V5) (v1 v2 : Vl) : Prop where
  bel : Below wr.heap.size wr wx
  hm : wr.heap.size ≤ m
  hn : wr.heap.size ≤ n
  ne : m ≠ n
  om : wx.heap[m]? = some (cells5 r1)
  on : wx.heap[n]? = some (cells5 r2)
  p : VV (fun g => wr.heap.size ≤ g ∧ g ≠ m ∧ g ≠ n) wx (pent r1) v1
  q : VV (fun g => wr.heap.size ≤ g ∧ g ≠ m ∧ g ≠ n) wx (pent r2) v2
theorem put5_obj {w : World} {b : Nat} {arr : Array Value} (h : w.heap[b]? = some (.cells arr 26)) (hs : arr.size = 5) (r : V5) : (put5 w b r).heap[b]? = some (cells5 r) := by
  obtain ⟨a0, a1, a2, a3, a4, rfl⟩ : ∃ a0 a1 a2 a3 a4, arr = #[a0, a1, a2, a3, a4] := by
    rcases arr with ⟨l⟩
    match l, hs with
    | [a0, a1, a2, a3, a4], _ => exact ⟨a0, a1, a2, a3, a4, rfl⟩
  exact obj_set (po := 4) (obj_set (po := 3) (obj_set (po := 2) (obj_set (po := 1) (obj_set (po := 0) h _) _) _) _) _
theorem St.tw {wr : World} {v1 v2 : Vl} {r1 r2 : V5} {m n : Nat} {W : World} (h : St wr v1 v2 (some r1) (some r2) (some m) (some n) W) : TW wr (put5 (put5 W m r1) n r2) m n r1 r2 v1 v2 := by
  have i := h.inv
  have hm := i.b1 m rfl
  have hn := i.b2 n rfl
  have hne : m ≠ n := fun e => i.ne m rfl (by rw [e])
  have lm := (Array.getElem?_eq_some_iff.1 hm.2).1
  have ln := (Array.getElem?_eq_some_iff.1 hn.2).1
  have c1 := chg_store5 W m r1.1 r1.2.1 r1.2.2.1 r1.2.2.2.1 r1.2.2.2.2
  have c2 := chg_store5 (put5 W m r1) n r2.1 r2.2.1 r2.2.2.1 r2.2.2.2.1 r2.2.2.2.2
  have s1 : W.heap.size ≤ (put5 W m r1).heap.size := c1.size
  have k : KeepsP (fun g => wr.heap.size ≤ g ∧ (some m : Option Nat) ≠ some g ∧ (some n : Option Nat) ≠ some g) W (put5 (put5 W m r1) n r2) :=
    (KeepsP.chg c1 fun g hg e => hg.2.1 (by rw [e])).trans (KeepsP.chg c2 fun g hg e => hg.2.2 (by rw [e]))
  refine ⟨(i.bel.trans (chg_bel c1 (fun g e => by rw [e]; exact hm.1) i.bel.size)).trans (chg_bel c2 (fun g e => by rw [e]; exact hn.1) (Nat.le_trans i.bel.size s1)), hm.1, hn.1, hne, ?_, ?_, ?_, ?_⟩
  · exact (c2.block m (by omega) hne).trans (put5_obj hm.2 rfl r1)
  · exact put5_obj ((c1.block n ln (fun e => hne e.symm)).trans hn.2) rfl r2
  · exact (i.p r1 rfl).keep k fun g hg => ⟨hg.1, (fun e => hg.2.1 (by rw [e])), (fun e => hg.2.2 (by rw [e]))⟩
  · exact (i.q r2 rfl).keep k fun g hg => ⟨hg.1, (fun e => hg.2.1 (by rw [e])), (fun e => hg.2.2 (by rw [e]))⟩
/-- What holds while the two values are fetched: what is done (D), what the region's slots hold (V). -/
structure RJ (wr : World) (v1 v2 : Vl) (pP pQ sx : Value) (D : Nat → Bool) (V : Nat → Value) (W : World) : Prop where
  r0 : D 0 = true → V 28 = pP
  r1 : D 1 = true → V 29 = sx
  r3 : D 3 = true → V 31 = pQ
  r4 : D 4 = true → V 32 = sx
  all : D 8 = true → D 0 = true ∧ D 1 = true ∧ D 2 = true ∧ D 3 = true ∧ D 4 = true ∧ D 5 = true ∧ D 6 = true ∧ D 7 = true
  last : D 9 = true → D 8 = true
  five : D 5 = true → D 3 = true ∧ D 4 = true
  ex : ∃ o1 o2 B1 B2 W0, (D 2 = false → o1 = none) ∧ (D 2 = true → ∃ r, o1 = some r ∧ V 30 = pent r) ∧ (D 5 = false → o2 = none) ∧ (D 5 = true → ∃ r, o2 = some r ∧ V 33 = pent r) ∧ (D 6 = false → B1 = none) ∧ (D 6 = true → ∃ n, B1 = some n ∧ V 12 = .pointer (some ⟨n, 0, none⟩)) ∧
    (D 7 = false → B2 = none) ∧ (D 7 = true → ∃ n, B2 = some n ∧ V 13 = .pointer (some ⟨n, 0, none⟩)) ∧ St wr v1 v2 o1 o2 B1 B2 W0 ∧ (D 8 = false → W = W0) ∧ (D 8 = true → ∃ r m, o1 = some r ∧ B1 = some m ∧ (D 9 = false → W = put5 W0 m r) ∧ (D 9 = true → ∃ r2 n, o2 = some r2 ∧ B2 = some n ∧ W = put5 (put5 W0 m r) n r2))
section
variable {wr : World} {v1 v2 : Vl} {pP pQ sx : Value} {D : Nat → Bool} {V : Nat → Value} {W W' : World}
theorem RJ.eight (h : RJ wr v1 v2 pP pQ sx D V W) {k : Nat} (hk : k < 8) (hd : D k = false) : D 8 = false := by
  cases h8 : D 8 with
  | false => rfl
  | true =>
    exfalso
    obtain ⟨a0, a1, a2, a3, a4, a5, a6, a7⟩ := h.all h8
    match k, hk with
    | 0, _ => rw [a0] at hd; cases hd
    | 1, _ => rw [a1] at hd; cases hd
    | 2, _ => rw [a2] at hd; cases hd
    | 3, _ => rw [a3] at hd; cases hd
    | 4, _ => rw [a4] at hd; cases hd
    | 5, _ => rw [a5] at hd; cases hd
    | 6, _ => rw [a6] at hd; cases hd
    | 7, _ => rw [a7] at hd; cases hd
theorem RJ.nine (h : RJ wr v1 v2 pP pQ sx D V W) (h8 : D 8 = false) : D 9 = false := by
  cases h9 : D 9 with
  | false => rfl
  | true => rw [h.last h9] at h8; cases h8
theorem RJ.inv (h : RJ wr v1 v2 pP pQ sx D V W) (h8 : D 8 = false) : Below wr.heap.size wr W := by
  obtain ⟨o1, o2, B1, B2, W0, -, -, -, -, -, -, -, -, hst, hw, -⟩ := h.ex
  rw [hw h8]; exact hst.inv.bel
theorem RJ.s0 (h : RJ wr v1 v2 pP pQ sx D V W) (hd : D 0 = false) : RJ wr v1 v2 pP pQ sx (fun k => k == 0 || D k) (upd V 28 pP) W := by
  have h8 := h.eight (by decide) hd
  have h9 := h.nine h8
  obtain ⟨o1, o2, B1, B2, W0, e1, e2, e3, e4, e5, e6, e7, e8, hst, hw, hw2⟩ := h.ex
  exact ⟨fun _ => upd_self _ _ _, h.r1, h.r3, h.r4, (fun (h : D 8 = true) => by rw [h8] at h; cases h), (fun (h : D 9 = true) => by rw [h9] at h; cases h), h.five, o1, o2, B1, B2, W0, e1, e2, e3, e4, e5, e6, e7, e8, hst, hw, hw2⟩
theorem RJ.s1 (h : RJ wr v1 v2 pP pQ sx D V W) (hd : D 1 = false) : RJ wr v1 v2 pP pQ sx (fun k => k == 1 || D k) (upd V 29 sx) W := by
  have h8 := h.eight (by decide) hd
  have h9 := h.nine h8
  obtain ⟨o1, o2, B1, B2, W0, e1, e2, e3, e4, e5, e6, e7, e8, hst, hw, hw2⟩ := h.ex
  exact ⟨h.r0, fun _ => upd_self _ _ _, h.r3, h.r4, (fun (h : D 8 = true) => by rw [h8] at h; cases h), (fun (h : D 9 = true) => by rw [h9] at h; cases h), h.five, o1, o2, B1, B2, W0, e1, e2, e3, e4, e5, e6, e7, e8, hst, hw, hw2⟩
theorem RJ.s3 (h : RJ wr v1 v2 pP pQ sx D V W) (hd : D 3 = false) : RJ wr v1 v2 pP pQ sx (fun k => k == 3 || D k) (upd V 31 pQ) W := by
  have h8 := h.eight (by decide) hd
  have h9 := h.nine h8
  obtain ⟨o1, o2, B1, B2, W0, e1, e2, e3, e4, e5, e6, e7, e8, hst, hw, hw2⟩ := h.ex
  exact ⟨h.r0, h.r1, fun _ => upd_self _ _ _, h.r4, (fun (h : D 8 = true) => by rw [h8] at h; cases h), (fun (h : D 9 = true) => by rw [h9] at h; cases h), (fun h5 => ⟨rfl, (h.five h5).2⟩), o1, o2, B1, B2, W0, e1, e2, e3, e4, e5, e6, e7, e8, hst, hw, hw2⟩
theorem RJ.s4 (h : RJ wr v1 v2 pP pQ sx D V W) (hd : D 4 = false) : RJ wr v1 v2 pP pQ sx (fun k => k == 4 || D k) (upd V 32 sx) W := by
  have h8 := h.eight (by decide) hd
  have h9 := h.nine h8
  obtain ⟨o1, o2, B1, B2, W0, e1, e2, e3, e4, e5, e6, e7, e8, hst, hw, hw2⟩ := h.ex
  exact ⟨h.r0, h.r1, h.r3, fun _ => upd_self _ _ _, (fun (h : D 8 = true) => by rw [h8] at h; cases h), (fun (h : D 9 = true) => by rw [h9] at h; cases h), (fun h5 => ⟨(h.five h5).1, rfl⟩), o1, o2, B1, B2, W0, e1, e2, e3, e4, e5, e6, e7, e8, hst, hw, hw2⟩
theorem RJ.s2 {r : V5} (h : RJ wr v1 v2 pP pQ sx D V W) (hd : D 2 = false) (hb : Below W.heap.size W W') (hv : VV (fun g => W.heap.size ≤ g) W' (pent r) v1) : RJ wr v1 v2 pP pQ sx (fun k => k == 2 || D k) (upd V 30 (pent r)) W' := by
  have h8 := h.eight (by decide) hd
  have h9 := h.nine h8
  obtain ⟨o1, o2, B1, B2, W0, e1, e2, e3, e4, e5, e6, e7, e8, hst, hw, hw2⟩ := h.ex
  obtain rfl := hw h8
  obtain rfl := e1 hd
  exact ⟨h.r0, h.r1, h.r3, h.r4, (fun (h : D 8 = true) => by rw [h8] at h; cases h), (fun (h : D 9 = true) => by rw [h9] at h; cases h), h.five, some r, o2, B1, B2, W', (fun (h : (2 == 2 || D 2) = false) => by simp at h), (fun _ => ⟨r, rfl, upd_self _ _ _⟩), e3, e4, e5, e6, e7, e8, hst.call1 hb hv, (fun _ => rfl), (fun (h : D 8 = true) => by rw [h8] at h; cases h)⟩
theorem RJ.s5 {r : V5} (h : RJ wr v1 v2 pP pQ sx D V W) (h3 : D 3 = true) (h4 : D 4 = true) (hd : D 5 = false) (hb : Below W.heap.size W W') (hv : VV (fun g => W.heap.size ≤ g) W' (pent r) v2) : RJ wr v1 v2 pP pQ sx (fun k => k == 5 || D k) (upd V 33 (pent r)) W' := by
  have h8 := h.eight (by decide) hd
  have h9 := h.nine h8
  obtain ⟨o1, o2, B1, B2, W0, e1, e2, e3, e4, e5, e6, e7, e8, hst, hw, hw2⟩ := h.ex
  obtain rfl := hw h8
  obtain rfl := e3 hd
  exact ⟨h.r0, h.r1, h.r3, h.r4, (fun (h : D 8 = true) => by rw [h8] at h; cases h), (fun (h : D 9 = true) => by rw [h9] at h; cases h), (fun _ => ⟨h3, h4⟩), o1, some r, B1, B2, W', e1, e2, (fun (h : (5 == 5 || D 5) = false) => by simp at h), (fun _ => ⟨r, rfl, upd_self _ _ _⟩), e5, e6, e7, e8, hst.call2 hb hv, (fun _ => rfl), (fun (h : D 8 = true) => by rw [h8] at h; cases h)⟩
theorem RJ.s6 (h : RJ wr v1 v2 pP pQ sx D V W) (hd : D 6 = false) : RJ wr v1 v2 pP pQ sx (fun k => k == 6 || D k) (upd V 12 (.pointer (some ⟨W.heap.size, 0, none⟩))) (W.alloc zero5) := by
  have h8 := h.eight (by decide) hd
  have h9 := h.nine h8
  obtain ⟨o1, o2, B1, B2, W0, e1, e2, e3, e4, e5, e6, e7, e8, hst, hw, hw2⟩ := h.ex
  obtain rfl := hw h8
  obtain rfl := e5 hd
  exact ⟨h.r0, h.r1, h.r3, h.r4, (fun (h : D 8 = true) => by rw [h8] at h; cases h), (fun (h : D 9 = true) => by rw [h9] at h; cases h), h.five, o1, o2, some W.heap.size, B2, W.alloc zero5, e1, e2, e3, e4, (fun (h : (6 == 6 || D 6) = false) => by simp at h), (fun _ => ⟨_, rfl, upd_self _ _ _⟩), e7, e8, hst.al1 rfl, (fun _ => rfl), (fun (h : D 8 = true) => by rw [h8] at h; cases h)⟩
theorem RJ.s7 (h : RJ wr v1 v2 pP pQ sx D V W) (hd : D 7 = false) : RJ wr v1 v2 pP pQ sx (fun k => k == 7 || D k) (upd V 13 (.pointer (some ⟨W.heap.size, 0, none⟩))) (W.alloc zero5) := by
  have h8 := h.eight (by decide) hd
  have h9 := h.nine h8
  obtain ⟨o1, o2, B1, B2, W0, e1, e2, e3, e4, e5, e6, e7, e8, hst, hw, hw2⟩ := h.ex
  obtain rfl := hw h8
  obtain rfl := e7 hd
  exact ⟨h.r0, h.r1, h.r3, h.r4, (fun (h : D 8 = true) => by rw [h8] at h; cases h), (fun (h : D 9 = true) => by rw [h9] at h; cases h), h.five, o1, o2, B1, some W.heap.size, W.alloc zero5, e1, e2, e3, e4, e5, e6, (fun (h : (7 == 7 || D 7) = false) => by simp at h), (fun _ => ⟨_, rfl, upd_self _ _ _⟩), hst.al2 rfl, (fun _ => rfl), (fun (h : D 8 = true) => by rw [h8] at h; cases h)⟩
theorem VV.kd {P : Nat → Prop} {w : World} {k : Int} {b c d e : Value} {t : Vl} (h : VV P w (.agg #[.int .i64 k, b, c, d, e]) t) : kdV t = k := by
  obtain ⟨k', n, s, is, ks⟩ := t
  obtain ⟨vi, vk, e, -⟩ := h.out
  simp only [Value.agg.injEq, Array.mk.injEq, List.cons.injEq, Value.int.injEq, and_true] at e
  exact e.1.2.symm
/-- The five cells of a value. -/
theorem VV.r5 {P : Nat → Prop} {w : World} {r : V5} {t : Vl} (h : VV P w (pent r) t) : ∃ k n s oi mi ci ok mk ck, r = (.int .i64 k, .int .i64 n, .string s, .slice oi mi ci, .slice ok mk ck) := by
  obtain ⟨k, n, s, oi, mi, ci, ok, mk, ck, e⟩ := h.agg5
  obtain ⟨a, b, c, d, f⟩ := r
  simp only [pent, Value.agg.injEq, Array.mk.injEq, List.cons.injEq, and_true] at e
  obtain ⟨rfl, rfl, rfl, rfl, rfl⟩ := e
  exact ⟨k, n, s, oi, mi, ci, ok, mk, ck, rfl⟩
theorem RJ.got8 (h : RJ wr v1 v2 pP pQ sx D V W) (h2 : D 2 = true) (h6 : D 6 = true) (hd : D 8 = false) : ∃ r m, (∃ k n s oi mi ci ok mk ck, r = (.int .i64 k, .int .i64 n, .string s, .slice oi mi ci, .slice ok mk ck)) ∧ V 30 = pent r ∧ V 12 = .pointer (some ⟨m, 0, none⟩) ∧ W.heap[m]? = some zero5 ∧
    (D 0 = true → D 1 = true → D 5 = true → D 7 = true → RJ wr v1 v2 pP pQ sx (fun k => k == 8 || D k) V (put5 W m r)) := by
  have h9 := h.nine hd
  obtain ⟨o1, o2, B1, B2, W0, e1, e2, e3, e4, e5, e6, e7, e8, hst, hw, hw2⟩ := h.ex
  obtain rfl := hw hd
  obtain ⟨r, rfl, er⟩ := e2 h2
  obtain ⟨m, rfl, em⟩ := e6 h6
  refine ⟨r, m, (hst.inv.p r rfl).r5, er, em, (hst.inv.b1 m rfl).2, fun h0 h1 h5 h7 => ?_⟩
  obtain ⟨h3, h4⟩ := h.five h5
  exact ⟨h.r0, h.r1, h.r3, h.r4, (fun _ => ⟨h0, h1, h2, h3, h4, h5, h6, h7⟩), (fun _ => rfl), h.five, some r, o2, some m, B2, W, e1, (fun _ => ⟨r, rfl, er⟩), e3, e4, e5, (fun _ => ⟨m, rfl, em⟩), e7, e8, hst, (fun (h : (8 == 8 || D 8) = false) => by simp at h), fun _ => ⟨r, m, rfl, rfl, fun _ => rfl, (fun (h : D 9 = true) => by rw [h9] at h; cases h)⟩⟩
theorem RJ.got9 (h : RJ wr v1 v2 pP pQ sx D V W) (h8 : D 8 = true) (hd : D 9 = false) : ∃ r n, (∃ k n s oi mi ci ok mk ck, r = (.int .i64 k, .int .i64 n, .string s, .slice oi mi ci, .slice ok mk ck)) ∧ V 33 = pent r ∧ V 13 = .pointer (some ⟨n, 0, none⟩) ∧ (∃ arr : Array Value, W.heap[n]? = some (.cells arr 26) ∧ arr = #[.int .i64 0, .int .i64 0, .string ⟨#[]⟩, .slice none 0 0, .slice none 0 0]) ∧
    RJ wr v1 v2 pP pQ sx (fun k => k == 9 || D k) V (put5 W n r) := by
  obtain ⟨h0, h1, h2, h3, h4, h5, h6, h7⟩ := h.all h8
  obtain ⟨o1, o2, B1, B2, W0, e1, e2, e3, e4, e5, e6, e7, e8, hst, hw, hw2⟩ := h.ex
  obtain ⟨r1, m, rfl, rfl, hw3, hw4⟩ := hw2 h8
  obtain ⟨r, rfl, er⟩ := e4 h5
  obtain ⟨n, rfl, en⟩ := e8 h7
  obtain rfl := hw3 hd
  have hi := hst.inv
  have hn := hi.b2 n rfl
  have c1 := chg_store5 W0 m r1.1 r1.2.1 r1.2.2.1 r1.2.2.2.1 r1.2.2.2.2
  refine ⟨r, n, (hst.inv.q r rfl).r5, er, en, ⟨_, (c1.block n (Array.getElem?_eq_some_iff.1 hn.2).1 (fun e => hi.ne m rfl (by rw [e]))).trans hn.2, rfl⟩, ?_⟩
  exact ⟨h.r0, h.r1, h.r3, h.r4, h.all, (fun _ => h8), h.five, some r1, some r, some m, some n, W0, e1, e2, e3, (fun _ => ⟨r, rfl, er⟩), e5, e6, e7, (fun _ => ⟨n, rfl, en⟩), hst, (fun (h : D 8 = false) => by rw [h8] at h; cases h), fun _ => ⟨r1, m, rfl, rfl, (fun (h : (9 == 9 || D 9) = false) => by simp at h), fun _ => ⟨r, n, rfl, rfl, rfl⟩⟩⟩
theorem RJ.fin (h : RJ wr v1 v2 pP pQ sx D V W) (h9 : D 9 = true) : ∃ m n r1 r2, V 12 = .pointer (some ⟨m, 0, none⟩) ∧ V 13 = .pointer (some ⟨n, 0, none⟩) ∧ TW wr W m n r1 r2 v1 v2 := by
  have h8 := h.last h9
  obtain ⟨h0, h1, h2, h3, h4, h5, h6, h7⟩ := h.all h8
  obtain ⟨o1, o2, B1, B2, W0, e1, e2, e3, e4, e5, e6, e7, e8, hst, hw, hw2⟩ := h.ex
  obtain ⟨r1, m, rfl, rfl, hw3, hw4⟩ := hw2 h8
  obtain ⟨r2, n, rfl, rfl, rfl⟩ := hw4 h9
  obtain ⟨m', e, em⟩ := e6 h6
  cases e
  obtain ⟨n', e, en⟩ := e8 h7
  cases e
  exact ⟨m, n, r1, r2, em, en, hst.tw⟩
theorem RJ.start (wr : World) (v1 v2 : Vl) (pP pQ sx : Value) (V : Nat → Value) : RJ wr v1 v2 pP pQ sx (fun _ => false) V wr.drew :=
  ⟨(fun h => by cases h), (fun h => by cases h), (fun h => by cases h), (fun h => by cases h), (fun h => by cases h), (fun h => by cases h), (fun h => by cases h), none, none, none, none, wr.drew, (fun _ => rfl), (fun h => by cases h), (fun _ => rfl), (fun h => by cases h), (fun _ => rfl), (fun h => by cases h), (fun _ => rfl), (fun h => by cases h), St.start, (fun _ => rfl), (fun h => by cases h)⟩
end
end Go.Proofs.Ytibiiafcnaijeaa
