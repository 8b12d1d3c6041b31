/- What SchedulePlays' loop keeps. -/
import Derived.Test.YtoaellmjgejgfaaRefU
import Derived.Test.YtoaellmjgejgfaaInter
namespace Go.Proofs.Ytoaellmjgejgfaa
open Go Go.RowKit Go.Shelf
set_option linter.unusedVariables false

theorem chg_cell {P : Nat → Prop} {w w' : World} {g o : Nat} {u : Value} (hc : Chg P w w') (hn : ¬ P g) (h : w.cell? ⟨g, o, none⟩ = some u) : w'.cell? ⟨g, o, none⟩ = some u := by
  have hb := World.block_lt_of_cell? w _ h
  have := hc.block g hb hn
  unfold World.cell? at h ⊢
  simp only at h ⊢
  rw [this]
  exact h
theorem CView.chg {P : Nat → Prop} {w w' : World} {v : Value} {vs : List Value} (h : CView w v vs) (hc : Chg P w w') (hn : ∀ g, v.ownBlock = some g → ¬ P g) : CView w' v vs :=
  h.imp id fun ⟨g, o, c, e, hcs⟩ => ⟨g, o, c, e, fun i u hu => chg_cell hc (hn g (by rw [e]; rfl)) (hcs i u hu)⟩
theorem CView.lt {w : World} {v : Value} {vs : List Value} (h : CView w v vs) (h0 : vs ≠ []) {g : Nat} (hg : v.ownBlock = some g) : g < w.heap.size := by
  rcases h with ⟨e, _⟩ | ⟨g', o, c, rfl, hc⟩
  · exact absurd e h0
  · cases hg
    cases vs with
    | nil => exact absurd rfl h0
    | cons u r => exact World.block_lt_of_cell? w _ (hc 0 u rfl)

structure PI (w w1 : World) (b X : Nat) (ns : List (List Int)) (us : List Value) (limit : Int) (vn vs : Value) (own : Nat → Nat) (s : St) (wr : World) : Prop where
  live : Live w1.heap.size w1 own wr b s
  inv : Inv s
  needs : s.needs = ns
  lim : s.limit = limit
  box : wr.heap[X]? = some (.cells #[vn, .int .i64 limit, vs] 33)
  ownX : own X = 11
  leX : w1.heap.size ≤ X
  cv : us = [] ∨ CView wr vn us ∧ ∀ g, vn.ownBlock = some g → own g = 0
  vnl : ∃ oa c, vn = .slice oa us.length c
  row : RowT own 0 wr vs (rst s)
  ul : us.length = ns.length
  uv : ∀ (i : Nat) u l, us[i]? = some u → ns[i]? = some l → View w u l
  hb1 : Below w.heap.size w w1

section
variable {w w1 : World} {b X : Nat} {ns : List (List Int)} {us : List Value} {limit : Int} {vn vs : Value} {own : Nat → Nat} {s : St} {wr : World}
theorem PI.low (h : PI w w1 b X ns us limit vn vs own s wr) : Below w.heap.size w wr := h.hb1.trans (h.live.below.mono h.hb1.size)
theorem PI.ltX (h : PI w w1 b X ns us limit vn vs own s wr) : X < wr.heap.size := (Array.getElem?_eq_some_iff.1 h.box).1
theorem PI.nview (h : PI w w1 b X ns us limit vn vs own s wr) : NView wr vn ns := by
  refine ⟨us, ?_, h.ul, fun i u l hu hl => (h.uv i u l hu hl).keep (Keeps.below h.low)⟩
  rcases h.cv with e | h1
  · obtain ⟨oa, c, e2⟩ := h.vnl
    exact .inl ⟨e, oa, c, by rw [e2, e]; rfl⟩
  · exact h1.1
theorem PI.fit (h : PI w w1 b X ns us limit vn vs own s wr) : Fit ns (rst s) :=
  ⟨by rw [rst_length, h.needs], by rw [rst_length]; exact h.inv.good.ln, by have := h.inv.valid; rwa [h.needs] at this⟩
theorem PI.cells (h : PI w w1 b X ns us limit vn vs own s wr) : wr.cell? ⟨X, 0, none⟩ = some vn ∧ wr.cell? ⟨X, 1, none⟩ = some (.int .i64 limit) ∧ wr.cell? ⟨X, 2, none⟩ = some vs := by
  refine ⟨?_, ?_, ?_⟩ <;> (rw [cells_in h.box]; rfl)

theorem PI.step {own' : Nat → Nat} {w' : World} {P : Nat → Prop} {s' : St} (h : PI w w1 b X ns us limit vn vs own s wr) (hl : Live w1.heap.size w1 own' w' b s') (ho : SameOwn wr own own') (hc : Chg P wr w') (hP : ∀ k, k < wr.heap.size → P k → own k ≠ 0 ∧ own k ≠ 11)
    (hi : Inv s') (hn : s'.needs = s.needs) (hm : s'.limit = s.limit) (he : rst s' = rst s) : PI w w1 b X ns us limit vn vs own' s' w' := by
  refine ⟨hl, hi, hn.trans h.needs, hm.trans h.lim, (hc.block X h.ltX (fun e => (hP X h.ltX e).2 h.ownX)).trans h.box, (ho X h.ltX).trans h.ownX, h.leX, ?_, h.vnl, ?_, h.ul, h.uv, h.hb1⟩
  · rcases h.cv with e | ⟨h1, h2⟩
    · exact .inl e
    · by_cases e : us = []
      · exact .inl e
      · exact .inr ⟨h1.chg hc fun g hg hp => (hP g (h1.lt e hg) hp).1 (h2 g hg), fun g hg => (ho g (h1.lt e hg)).trans (h2 g hg)⟩
  · rw [he]
    exact h.row.keep hc (fun k hk hp => (hP k hk hp).1) ho
theorem PI.same {own' : Nat → Nat} {w' : World} (h : PI w w1 b X ns us limit vn vs own s wr) (hl : Live w1.heap.size w1 own' w' b s) (ho : SameOwn wr own own') (hc : Chg (fun k => own k ≠ 0 ∧ own k ≤ 7) wr w') : PI w w1 b X ns us limit vn vs own' s w' :=
  h.step hl ho hc (fun _ _ e => ⟨e.1, fun e2 => by have := e.2; omega⟩) h.inv rfl rfl rfl
theorem PI.grow {w' : World} (h : PI w w1 b X ns us limit vn vs own s wr) (hb : Below wr.heap.size wr w') : PI w w1 b X ns us limit vn vs (own2 own wr 0) s w' :=
  h.step (P := fun _ => False) (h.live.grow hb 0) (own2_same own wr 0) (Chg.below hb) (fun _ _ e => e.elim) h.inv rfl rfl rfl
theorem PI.drewN (h : PI w w1 b X ns us limit vn vs own s wr) (q : Nat) : PI w w1 b X ns us limit vn vs own s (wr.drewN q) :=
  h.step (h.live.drewN q) (SameOwn.refl _ _) (Chg.drewN (fun _ => False) _ _) (fun _ _ e => e.elim) h.inv rfl rfl rfl

/-- The reference's Scheduler in hand while the program's has not yet been asked. -/
structure PN (own : Nat → Nat) (wr : World) (vs' : Value) (st' : List Int) : Prop where
  row : RowT own 0 wr vs' st'
theorem PN.keep {own' : Nat → Nat} {w' : World} {vs' : Value} {st' : List Int} {P : Nat → Prop} (h : PN own wr vs' st') (ho : SameOwn wr own own') (hc : Chg P wr w') (hP : ∀ k, k < wr.heap.size → P k → own k ≠ 0) : PN own' w' vs' st' := ⟨h.row.keep hc hP ho⟩

/-- The reference has made its step. -/
theorem PI.ref {w' : World} {vs' : Value} {st' : List Int} (h : PI w w1 b X ns us limit vn vs own s wr) (hb : Below wr.heap.size wr w') (hr : Row w' vs' st') (hf : vs' = vs ∨ ∀ g, vs'.ownBlock = some g → wr.heap.size ≤ g) :
    PI w w1 b X ns us limit vn vs (own2 own wr 0) s w' ∧ PN (own2 own wr 0) w' vs' st' := by
  refine ⟨h.grow hb, ⟨hr, fun g hg => ?_⟩⟩
  rcases hf with e | e
  · subst e
    exact (own2_same own wr 0 g (h.row.1.lt hg)).trans (h.row.2 g hg)
  · exact own2_new (e g hg)

/-- Both have made their step; the new states are stored. -/
theorem PI.put {own' : Nat → Nat} {w' : World} {s' : St} {vs' : Value} (h : PI w w1 b X ns us limit vn vs own s wr) (hN : PN own wr vs' (rst s')) (hl : Live w1.heap.size w1 own' w' b s') (ho : SameOwn wr own own') (hc : Chg (fun k => own k ≠ 0 ∧ own k ≤ 7) wr w')
    (hi : Inv s') (hn : s'.needs = s.needs) (hm : s'.limit = s.limit) :
    PI w w1 b X ns us limit vn vs' own' s' (((w'.setCell ⟨X, 0, none⟩ vn).setCell ⟨X, 1, none⟩ (.int .i64 limit)).setCell ⟨X, 2, none⟩ vs') := by
  have hbx := (hc.block X h.ltX (fun e => by have := e.2; have := h.ownX; omega)).trans h.box
  have hox := (ho X h.ltX).trans h.ownX
  have k3 := three_chg w' X vn (.int .i64 limit) vs'
  have hN' := hN.keep ho hc (fun _ _ e => e.1)
  have hcv : us = [] ∨ CView w' vn us ∧ ∀ g, vn.ownBlock = some g → own' g = 0 := by
    rcases h.cv with e | ⟨h1, h2⟩
    · exact .inl e
    · by_cases e : us = []
      · exact .inl e
      · exact .inr ⟨h1.chg hc fun g hg hp => hp.1 (h2 g hg), fun g hg => (ho g (h1.lt e hg)).trans (h2 g hg)⟩
  have hrow : Row w' vs' (rst s') := hN'.row.1
  refine ⟨⟨hl.sch.keep k3 (fun k _ e => .inr (by rw [e, hox]; omega)) (SameOwn.refl _ _), hl.good, hl.lim, hl.low, hl.size, three_below hl.below h.leX _ _ _⟩, hi, hn.trans h.needs, hm.trans h.lim, three_set hbx _ _ _, hox, h.leX, ?_, h.vnl, ⟨Row.chg hrow k3 fun g hg e => ?_, hN'.row.2⟩, h.ul, h.uv, h.hb1⟩
  · rcases hcv with e | ⟨h1, h2⟩
    · exact .inl e
    · exact .inr ⟨h1.chg k3 fun g hg e2 => by have := h2 g hg; rw [e2, hox] at this; omega, h2⟩
  · have := hN'.row.2 g hg
    rw [e, hox] at this
    omega
end

theorem pi_new {w w1 w2 w3 w4 : World} {b : Nat} {own : Nat → Nat} {ns : List (List Int)} {order : List Int} {limit : Int} {us : List Value} {vn vs : Value} (hb1 : Below w.heap.size w w1) (hl : Live w1.heap.size w1 own w2 b (stNew ns order limit)) (hi : Inv (stNew ns order limit))
    (hb3 : Below w2.heap.size w2 w3) (hb4 : Below w3.heap.size w3 w4) (hcv : CView w4 vn us) (hg1 : ∀ g, vn.ownBlock = some g → w3.heap.size ≤ g) (hr : Row w4 vs (List.replicate ns.length 0)) (hg2 : ∀ g, vs.ownBlock = some g → w3.heap.size ≤ g)
    (ul : us.length = ns.length) (uv : ∀ (i : Nat) u l, us[i]? = some u → ns[i]? = some l → View w u l) :
    PI w w1 b w4.heap.size ns us limit vn vs (own2 (own2 (own2 own w2 0) w3 0) w4 11) (stNew ns order limit) (w4.alloc (.cells #[vn, .int .i64 limit, vs] 33)) := by
  have hba := (Below.refl w4.heap.size w4).alloc (Nat.le_refl _) (.cells #[vn, .int .i64 limit, vs] 33)
  have hl4 := ((hl.grow hb3 0).grow hb4 0).grow hba 11
  refine ⟨hl4, hi, rfl, rfl, heap_alloc_at w4 _, own2_new (Nat.le_refl _), ?_, ?_, hcv.len, ⟨?_, fun g hg => ?_⟩, ul, uv, hb1⟩
  · exact ((hl.grow hb3 0).grow hb4 0).below.size
  · by_cases e : us = []
    · exact .inl e
    · exact .inr ⟨hcv.keep (Keeps.below hba), fun g hg => (own2_same _ w4 11 g (hcv.lt e hg)).trans (own2_new (hg1 g hg))⟩
  · rw [rst_new]
    exact row_below hr hba
  · exact (own2_same _ w4 11 g (hr.lt hg)).trans (own2_new (hg2 g hg))

/-- The block of the reference's next Scheduler. -/
structure NX (own : Nat → Nat) (wr : World) (Y : Nat) (vn : Value) (limit : Int) (vs' : Value) : Prop where
  box : wr.heap[Y]? = some (.cells #[vn, .int .i64 limit, vs'] 33)
  tag : own Y = 12
theorem NX.keep {own own' : Nat → Nat} {wr w' : World} {Y : Nat} {vn vs' : Value} {limit : Int} (h : NX own wr Y vn limit vs') (ho : SameOwn wr own own') (hc : Chg (fun k => own k ≠ 0 ∧ own k ≤ 7) wr w') : NX own' w' Y vn limit vs' := by
  have hY : Y < wr.heap.size := (Array.getElem?_eq_some_iff.1 h.box).1
  exact ⟨(hc.block Y hY (fun e => by have := e.2; have := h.tag; omega)).trans h.box, (ho Y hY).trans h.tag⟩
theorem NX.cells {own : Nat → Nat} {wr : World} {Y : Nat} {vn vs' : Value} {limit : Int} (h : NX own wr Y vn limit vs') : wr.cell? ⟨Y, 0, none⟩ = some vn ∧ wr.cell? ⟨Y, 1, none⟩ = some (.int .i64 limit) ∧ wr.cell? ⟨Y, 2, none⟩ = some vs' := by
  refine ⟨?_, ?_, ?_⟩ <;> (rw [cells_in h.box]; rfl)

/-- All that holds when the reference's step is made and stored in a block of its own. -/
def Next (w w1 : World) (b X : Nat) (ns : List (List Int)) (us : List Value) (limit : Int) (vn vs : Value) (s : St) (st' : List Int) (Y : Nat) (vs' : Value) (own : Nat → Nat) (wr : World) : Prop :=
  PI w w1 b X ns us limit vn vs own s wr ∧ PN own wr vs' st' ∧ NX own wr Y vn limit vs'

section
variable {w w1 : World} {b X : Nat} {ns : List (List Int)} {us : List Value} {limit : Int} {vn vs : Value} {own : Nat → Nat} {s : St} {wr : World}
/-- The call first, then the block. -/
theorem PI.next1 {w' : World} {vs' : Value} {st' : List Int} (h : PI w w1 b X ns us limit vn vs own s wr) (hb : Below wr.heap.size wr w') (hr : Row w' vs' st') (hf : vs' = vs ∨ ∀ g, vs'.ownBlock = some g → wr.heap.size ≤ g) :
    Next w w1 b X ns us limit vn vs s st' w'.heap.size vs' (own2 (own2 own wr 0) w' 12) (w'.alloc (.cells #[vn, .int .i64 limit, vs'] 33)) := by
  obtain ⟨h1, h2⟩ := h.ref hb hr hf
  have hba := (Below.refl w'.heap.size w').alloc (Nat.le_refl _) (.cells #[vn, .int .i64 limit, vs'] 33)
  refine ⟨h1.step (P := fun _ => False) (h1.live.grow hba 12) (own2_same _ w' 12) (Chg.below hba) (fun _ _ e => e.elim) h1.inv rfl rfl rfl, h2.keep (own2_same _ w' 12) (Chg.below (B := fun _ => False) hba) (fun _ _ e => e.elim), ⟨heap_alloc_at w' _, own2_new (Nat.le_refl _)⟩⟩
/-- The block first, then the call. -/
theorem PI.next2 {w' : World} {vs' : Value} {st' : List Int} (h : PI w w1 b X ns us limit vn vs own s wr) (a c d : Value)
    (hb : Below (wr.heap.size + 1) (wr.alloc (.cells #[a, c, d] 33)) w') (hr : Row w' vs' st') (hf : vs' = vs ∨ ∀ g, vs'.ownBlock = some g → wr.heap.size + 1 ≤ g) :
    Next w w1 b X ns us limit vn vs s st' wr.heap.size vs' (own2 (own2 own wr 12) (wr.alloc (.cells #[a, c, d] 33)) 0) (((w'.setCell ⟨wr.heap.size, 0, none⟩ vn).setCell ⟨wr.heap.size, 1, none⟩ (.int .i64 limit)).setCell ⟨wr.heap.size, 2, none⟩ vs') := by
  have hba := (Below.refl wr.heap.size wr).alloc (Nat.le_refl _) (.cells #[a, c, d] 33)
  have h0 : PI w w1 b X ns us limit vn vs (own2 own wr 12) s (wr.alloc (.cells #[a, c, d] 33)) :=
    h.step (P := fun _ => False) (h.live.grow hba 12) (own2_same _ wr 12) (Chg.below hba) (fun _ _ e => e.elim) h.inv rfl rfl rfl
  have hsz : (wr.alloc (.cells #[a, c, d] 33)).heap.size = wr.heap.size + 1 := by simp
  obtain ⟨h1, h2⟩ := h0.ref (by rw [hsz]; exact hb) hr (by rw [hsz]; exact hf)
  have hY := (hb.block wr.heap.size (by omega)).trans (heap_alloc_at wr (.cells #[a, c, d] 33))
  have htag : own2 (own2 own wr 12) (wr.alloc (.cells #[a, c, d] 33)) 0 wr.heap.size = 12 := (own2_same _ _ 0 wr.heap.size (by rw [hsz]; omega)).trans (own2_new (Nat.le_refl _))
  have k3 := three_chg w' wr.heap.size vn (.int .i64 limit) vs'
  have hle : w1.heap.size ≤ wr.heap.size := h.live.below.size
  have hl3 : Live w1.heap.size w1 (own2 (own2 own wr 12) (wr.alloc (.cells #[a, c, d] 33)) 0) (((w'.setCell ⟨wr.heap.size, 0, none⟩ vn).setCell ⟨wr.heap.size, 1, none⟩ (.int .i64 limit)).setCell ⟨wr.heap.size, 2, none⟩ vs') b s :=
    ⟨h1.live.sch.keep k3 (fun k _ e => .inr (by rw [e, htag]; omega)) (SameOwn.refl _ _), h1.live.good, h1.live.lim, h1.live.low, h1.live.size, three_below h1.live.below hle _ _ _⟩
  refine ⟨h1.step hl3 (SameOwn.refl _ _) k3 (fun k _ e => by rw [e, htag]; exact ⟨by omega, by omega⟩) h1.inv rfl rfl rfl, h2.keep (SameOwn.refl _ _) k3 (fun k _ e => by rw [e, htag]; omega), ⟨three_set hY _ _ _, htag⟩⟩
end

theorem fspec_eq {s : St} (h : Inv s) {x c : Int} {st' out : List Int} (hf : FSpec s.needs (rst s) x c st' out) : c = (failS s x).1 ∧ st' = rst (failS s x).2.1 ∧ out = (failS s x).2.2 := by
  have hc := hf.code
  rw [h.end_code] at hc
  by_cases he : (stopS s x).1 = 0
  · have h1 := (fail_spec he).1
    rw [he] at hc
    obtain ⟨l, l1, l2, l3, l4⟩ := hf.ok hc
    have h2 := h.fail_eq he l1 l2
    rw [h2] at l3 l4
    exact ⟨hc.trans (by rw [h1]), l3, l4⟩
  · obtain ⟨b1, b2⟩ := hf.bad (by rw [hc]; exact he)
    have e : failS s x = ((stopS s x).1, (stopS s x).2, []) := by unfold failS; rw [if_neg he]
    rw [e]
    exact ⟨hc, by rw [b1, stop_same he], b2⟩

/-- Fail's results, by what the program does. -/
def FPost2 (vn vs : Value) (limit c : Int) (st' out : List Int) (w : World) (e : Ending) (w' : World) : Prop :=
  ∃ vs' vl, e = .returned (.tuple #[.agg #[vn, .int .i64 limit, vs'], vl, .int .i64 c]) ∧ Row w' vs' st' ∧ (vs' = vs ∨ ∀ g, vs'.ownBlock = some g → w.heap.size ≤ g) ∧ Row w' vl out ∧ (∀ g, vl.ownBlock = some g → w.heap.size ≤ g) ∧ Below w.heap.size w w'
theorem fpost2 {vn vs : Value} {limit : Int} {s : St} {x : Int} {w w' : World} {e : Ending} (h : Inv s) (hp : FPost vn vs limit s.needs (rst s) x w e w') : FPost2 vn vs limit (failS s x).1 (rst (failS s x).2.1) (failS s x).2.2 w e w' := by
  obtain ⟨c, st', out, vs', vl, rfl, hf, h1, h2, h3, h4, h5⟩ := hp
  obtain ⟨rfl, rfl, rfl⟩ := fspec_eq h hf
  exact ⟨vs', vl, rfl, h1, h2, h3, h4, h5⟩

theorem row1 {own : Nat → Nat} {wr w' : World} {vl : Value} {out : List Int} (a b c : Value) (hr : Row w' vl out) (hg : ∀ g, vl.ownBlock = some g → wr.heap.size ≤ g) : RowT (own2 (own2 own wr 0) w' 12) 0 (w'.alloc (.cells #[a, b, c] 33)) vl out :=
  ⟨row_below hr ((Below.refl w'.heap.size w').alloc (Nat.le_refl _) _), fun g h => (own2_same _ w' 12 g (hr.lt h)).trans (own2_new (hg g h))⟩
theorem row2 {own : Nat → Nat} {wr w' : World} {vl : Value} {out : List Int} (a c d x y z : Value) (hr : Row w' vl out) (hg : ∀ g, vl.ownBlock = some g → wr.heap.size + 1 ≤ g) :
    RowT (own2 (own2 own wr 12) (wr.alloc (.cells #[a, c, d] 33)) 0) 0 (((w'.setCell ⟨wr.heap.size, 0, none⟩ x).setCell ⟨wr.heap.size, 1, none⟩ y).setCell ⟨wr.heap.size, 2, none⟩ z) vl out := by
  have hsz : (wr.alloc (.cells #[a, c, d] 33)).heap.size = wr.heap.size + 1 := by simp
  refine ⟨Row.chg hr (three_chg w' wr.heap.size x y z) fun g h e => ?_, fun g h => own2_new ?_⟩
  · have := hg g h; omega
  · have := hg g h; omega
theorem same_yes2 (w : World) (u v : Value) (a : List Int) (hu : View w u a) (hv : View w v a) (ha : a.length ≤ 100000) :
    Calls Try.prog 23 #[u, v] w fun e w' => e = .returned (.bool true) ∧ ∃ q, w' = w.drewN q :=
  (same_any w u v a a hu hv ha ha).mono fun e w' ⟨h1, h2⟩ => ⟨h1.trans (by rw [decide_eq_true rfl]), h2⟩
end Go.Proofs.Ytoaellmjgejgfaa
