/- Interleavings: the law's own list of states; calls that came in. -/
import Derived.Test.YtoaellmjgejgfaaComp
namespace Go.Proofs.Ytoaellmjgejgfaa
open Go.ChangeShapes Go.WideShapes Go.ChangeAt Go.RowKit Go.Deep
set_option linter.unusedVariables false

def stAt (s : St) (y : Int) : Int := if s.rn.contains y then 1 else if s.dn.contains y then 2 else if s.fl.contains y then 3 else 0
def stL (s : St) (N : Nat) : List Int := (List.range N).map fun n : Nat => stAt s (n : Int)
theorem stL_length (s : St) (N : Nat) : (stL s N).length = N := by simp [stL]
theorem stL_getD {s : St} {N n : Nat} (h : n < N) : (stL s N).getD n 0 = stAt s n := range_getD N n _ h
theorem stL_set {s s' : St} {N n : Nat} {v : Int} (h1 : stAt s' n = v) (h2 : ∀ y : Int, y ≠ n → stAt s' y = stAt s y) : (stL s N).set n v = stL s' N := by
  unfold stL
  rw [range_set]
  apply List.map_congr_left
  intro m _
  by_cases h : m = n
  · subst h; rw [if_pos rfl, h1]
  · rw [if_neg h, h2 _ (by omega)]
theorem stL_same {s s' : St} {N : Nat} (h : ∀ y : Int, stAt s' y = stAt s y) : stL s' N = stL s N := by
  unfold stL
  apply List.map_congr_left
  intro m _
  exact h _

theorem c_false {l : List Int} {y : Int} (h : y ∉ l) : l.contains y = false := by
  cases hc : l.contains y with
  | false => rfl
  | true => exact absurd (List.contains_iff_mem.1 hc) h
theorem c_true {l : List Int} {y : Int} (h : y ∈ l) : l.contains y = true := List.contains_iff_mem.2 h

theorem Inv.at_rn {s : St} (h : Inv s) {y : Int} (hy : y ∈ s.rn) : stAt s y = 1 := by
  unfold stAt
  rw [c_true hy]; rfl

section
variable {s : St} (h : Inv s)
include h
theorem Inv.at_wt {y : Int} (hy : y ∈ s.wt) : stAt s y = 0 := by
  obtain ⟨a, b, c, d⟩ := h.wt_only hy
  unfold stAt
  rw [c_false a, c_false b, c_false c]; rfl
theorem Inv.dn_only {y : Int} (hy : y ∈ s.dn) : y ∉ s.wt ∧ y ∉ s.rn ∧ y ∉ s.fl ∧ y ∉ s.sk := by
  have hr := h.good.rdn y hy
  rcases h.where_ hr.1 hr.2 with w | w | w | w | w
  · exact absurd hy w.2.2.1
  · exact absurd hy w.2.2.1
  · exact ⟨w.1, w.2.1, w.2.2.2⟩
  · exact absurd hy w.2.2.1
  · exact absurd hy w.2.2.1
theorem Inv.at_dn {y : Int} (hy : y ∈ s.dn) : stAt s y = 2 := by
  unfold stAt
  rw [c_false (h.dn_only hy).2.1, c_true hy]; rfl

theorem Inv.begin_st {x : Int} (he : (beginS s x).1 = 0) (N : Nat) : 0 ≤ x ∧ x < s.needs.length ∧ stAt s x = 0 ∧ (∀ y ∈ nd s.needs x.toNat, stAt s y = 2) ∧ (stL s N).set x.toNat 1 = stL (beginS s x).2 N ∧
    (beginS s x).2.rn.length = s.rn.length + 1 ∧ (beginS s x).2.dn = s.dn ∧ (beginS s x).2.fl = s.fl := by
  obtain ⟨h0, h1, hr, e⟩ := begin_spec he
  obtain ⟨r1, r2, r3⟩ := ready_spec hr
  have hx : ((x.toNat : Nat) : Int) = x := by omega
  rw [hx] at r1
  rw [e]
  refine ⟨h0, h1, h.at_wt r1, fun y hy => h.at_dn (r3 y hy), stL_set ?_ fun y hy => ?_, length_ins (h.wt_only r1).1, rfl, rfl⟩
  · rw [hx]
    unfold stAt
    rw [show (ins x s.rn).contains x = true by rw [has_ins]; simp]; rfl
  · rw [hx] at hy
    unfold stAt
    rw [show (ins x s.rn).contains y = s.rn.contains y by rw [has_ins, decide_eq_false hy, Bool.false_or]]
theorem Inv.finish_st {x : Int} (he : (finishS s x).1 = 0) (N : Nat) : 0 ≤ x ∧ x < s.needs.length ∧ stAt s x = 1 ∧ (stL s N).set x.toNat 2 = stL (finishS s x).2 N ∧
    (finishS s x).2.rn.length + 1 = s.rn.length ∧ (finishS s x).2.dn.length = s.dn.length + 1 ∧ (finishS s x).2.fl = s.fl := by
  have hst : (stopS s x).1 = 0 := by
    unfold finishS at he
    split at he
    · assumption
    · exact he
  obtain ⟨h0, h1, hr, _⟩ := stop_spec hst
  have hx : ((x.toNat : Nat) : Int) = x := by omega
  rw [finish_of_running h hr]
  have ho := h.rn_only hr
  refine ⟨h0, h1, h.at_rn hr, stL_set ?_ fun y hy => ?_, length_del h.good.srn hr, length_ins ho.2.1, rfl⟩
  · rw [hx]
    unfold stAt
    rw [show (del x s.rn).contains x = false by rw [has_del h.good.srn]; simp, show (ins x s.dn).contains x = true by rw [has_ins]; simp]; rfl
  · rw [hx] at hy
    unfold stAt
    rw [show (ins x s.dn).contains y = s.dn.contains y by rw [has_ins, decide_eq_false hy, Bool.false_or], show (del x s.rn).contains y = s.rn.contains y by rw [has_del h.good.srn, decide_eq_true hy, Bool.and_true]]
theorem Inv.fail_st {x : Int} (he : (failS s x).1 = 0) (N : Nat) : 0 ≤ x ∧ x < s.needs.length ∧ stAt s x = 1 ∧ (stL s N).set x.toNat 3 = stL (failS s x).2.1 N ∧
    (failS s x).2.1.rn.length + 1 = s.rn.length ∧ (failS s x).2.1.dn = s.dn ∧ (failS s x).2.1.fl.length = s.fl.length + 1 := by
  have hst : (stopS s x).1 = 0 := by
    unfold failS at he
    split at he
    · assumption
    · exact he
  obtain ⟨h0, h1, hr, _⟩ := stop_spec hst
  have hx : ((x.toNat : Nat) : Int) = x := by omega
  obtain ⟨e, _⟩ := fail_spec hst
  rw [e]
  have ho := h.rn_only hr
  obtain ⟨e1, e2, e3, _, _⟩ := skip_mem (failL s x) { s with rn := del x s.rn, fl := ins x s.fl } h.good.swt
  refine ⟨h0, h1, h.at_rn hr, stL_set ?_ fun y hy => ?_, by rw [e1]; exact length_del h.good.srn hr, e2, by rw [e3]; exact length_ins ho.2.2.1⟩
  · rw [hx]
    unfold stAt
    rw [e1, e2, e3]
    rw [show (del x s.rn).contains x = false by rw [has_del h.good.srn]; simp, c_false ho.2.1, show (ins x s.fl).contains x = true by rw [has_ins]; simp]; rfl
  · rw [hx] at hy
    unfold stAt
    rw [e1, e2, e3]
    rw [show (ins x s.fl).contains y = s.fl.contains y by rw [has_ins, decide_eq_false hy, Bool.false_or], show (del x s.rn).contains y = s.rn.contains y by rw [has_del h.good.srn, decide_eq_true hy, Bool.and_true]]
end
theorem fail_same {s : St} {x : Int} (h : (failS s x).1 ≠ 0) : (failS s x).2.1 = s := by
  unfold failS at h ⊢
  split
  · rename_i h1; rw [if_pos h1] at h; exact absurd rfl h
  · rename_i h1; exact stop_same h1
theorem finish_same {s : St} {x : Int} (h : (finishS s x).1 ≠ 0) : (finishS s x).2 = s := by
  unfold finishS at h ⊢
  split
  · rename_i h1; rw [if_pos h1] at h; exact absurd rfl h
  · rename_i h1; exact stop_same h1

/-- What the law's loop keeps. -/
structure LI (B : Nat) (w0 : World) (own : Nat → Nat) (w : World) (b : Nat) (s : St) (L : Nat) (ns : List (List Int)) (limit : Int) : Prop where
  live : Live B w0 own w b s
  inv : Inv s
  needs : s.needs = ns
  limit : s.limit = limit
  cell : w.heap[L]? = some (.cells (ints (stL s ns.length)).toArray 3)
  ownL : own L = 0
  leL : B ≤ L

section
variable {B : Nat} {w0 : World} {own : Nat → Nat} {w : World} {b : Nat} {s : St} {L : Nat} {ns : List (List Int)} {limit : Int}
theorem LI.ltL (h : LI B w0 own w b s L ns limit) : L < w.heap.size := (Array.getElem?_eq_some_iff.1 h.cell).1
/-- After a method. -/
theorem LI.step {own' : Nat → Nat} {w' : World} {s' : St} (h : LI B w0 own w b s L ns limit) (hl : Live B w0 own' w' b s') (ho : SameOwn w own own') (hc : Chg (fun k => own k ≠ 0 ∧ own k ≤ 7) w w') (hi : Inv s') (hn : s'.needs = s.needs) (hm : s'.limit = s.limit) :
    Live B w0 own' w' b s' ∧ Inv s' ∧ s'.needs = ns ∧ s'.limit = limit ∧ w'.heap[L]? = some (.cells (ints (stL s ns.length)).toArray 3) ∧ own' L = 0 ∧ B ≤ L :=
  ⟨hl, hi, hn.trans h.needs, hm.trans h.limit, (hc.block L h.ltL (fun e => e.1 h.ownL)).trans h.cell, (ho L h.ltL).trans h.ownL, h.leL⟩
theorem LI.same {own' : Nat → Nat} {w' : World} (h : LI B w0 own w b s L ns limit) (hl : Live B w0 own' w' b s) (ho : SameOwn w own own') (hc : Chg (fun k => own k ≠ 0 ∧ own k ≤ 7) w w') : LI B w0 own' w' b s L ns limit := by
  obtain ⟨a1, a2, a3, a4, a5, a6, a7⟩ := h.step hl ho hc h.inv rfl rfl
  exact ⟨a1, a2, a3, a4, a5, a6, a7⟩
/-- A store to a block of the law's. -/
theorem Live.poke (h : Live B w0 own w b s) {L o : Nat} (hL : own L = 0) (hB : B ≤ L) (v : Value) : Live B w0 own (w.setCell ⟨L, o, none⟩ v) b s := by
  have hc : Chg (fun k => k = L) w (w.setCell ⟨L, o, none⟩ v) := Chg.setCell _ _ _ _ rfl
  refine ⟨h.sch.keep hc (fun k _ e => .inl (by rw [e]; exact hL)) (SameOwn.refl _ _), h.good, h.lim, h.low, h.size, h.below.setCell (show B ≤ L from hB) v⟩
theorem poke_cell {w : World} {L n : Nat} {st st' : List Int} {v : Int} (h : w.heap[L]? = some (.cells (ints st).toArray 3)) (e : st.set n v = st') : (w.setCell ⟨L, n, none⟩ (.int .i64 v)).heap[L]? = some (.cells (ints st').toArray 3) := by
  rw [obj_set h, List.setIfInBounds_toArray, ← e]
  simp [ints, List.map_set]
theorem row_at_cell {w : World} {L n N : Nat} {st : List Int} (h : w.heap[L]? = some (.cells (ints st).toArray 3)) (hl : st.length = N) (hn : n < N) : w.cell? ⟨L, n, none⟩ = some (.int .i64 (st.getD n 0)) := by
  rw [cells_in h, List.getElem?_toArray, List.getElem?_map, List.getElem?_eq_getElem (by omega), List.getD_eq_getElem?_getD, List.getElem?_eq_getElem (by omega)]; rfl
end

/-- Calls that came in. -/
def Acts (w : World) (oa : Option Addr) (len : Nat) (kd nm : Nat → Int) : Prop := ∀ i, i < len → ∃ g o, oa = some ⟨g, o, none⟩ ∧ w.cell? ⟨g, o + i * 2, none⟩ = some (.int .i64 (kd i)) ∧ w.cell? ⟨g, o + i * 2 + 1, none⟩ = some (.int .i64 (nm i))

theorem c40 : Try.prog.cellsOf 40 = 2 := by kernel_rfl
theorem open_acts {H : Type} {enc : TypeId × Value → H} {W : World} {v : Value} {d : DataW H} {p : List MemPlace} {base : Nat}
    (hv : Value.okWide Try.prog W .any base 38 v) (h : DataW.Trod enc Try.prog W 0 (fun _ => true) true 38 v d p) :
    ∃ (oa : Option Addr) (len cap : Nat) (kd nm : Nat → Int), v = .slice oa len cap ∧ len ≤ 9223372036854775807 ∧ Acts W oa len kd nm := by
  obtain ⟨a0, len0, cap0, rfl⟩ := okWide_slice Try.underlying38 hv
  obtain ⟨fuel, hf⟩ := h
  rcases open_slice Try.underlying38 hf with ⟨hcs, hx⟩ | ⟨a, len, cap, m, n, D, Pl, hcs, hb, hl, hm, hmm, hx, hel⟩
  · have : Value.slice a0 len0 cap0 = .slice none 0 0 := by simpa [Value.cells] using hcs
    exact ⟨none, 0, 0, fun _ => 0, fun _ => 0, this, by omega, fun i hi => absurd hi (Nat.not_lt_zero _)⟩
  · have hv' : Value.slice a0 len0 cap0 = .slice (some a) len cap := by simpa [Value.cells] using hcs
    have hm' : cap ≤ 9223372036854775807 := by simpa [maxLen] using hm
    have key : ∀ i, i < len → ∃ x y : Int, W.cell? (a.add (i * 2)) = some (.int .i64 x) ∧ W.cell? ((a.add (i * 2)).add 1) = some (.int .i64 y) := by
      intro i hi
      obtain ⟨cs, h1, h2⟩ := hel i (by rw [hmm]; simp; omega)
      rw [c40] at h1
      obtain ⟨_, hlen, hc⟩ := World.cells?_some h1
      match cs, hlen with
      | [u0, u1], _ =>
        obtain ⟨y0, y1, m, _, _, t0, t1⟩ := trod_struct2 Try.underlying40 h2
        simp only [c3, List.drop_zero, List.take_succ_cons, List.take_zero, List.drop_succ_cons] at t0 t1
        obtain ⟨x, e0, _, _⟩ := DataW.trod_int Try.underlying3 t0
        obtain ⟨y, e1, _, _⟩ := DataW.trod_int Try.underlying3 t1
        simp at e0 e1
        subst e0 e1
        refine ⟨x, y, ?_, ?_⟩
        · have := hc 0 (by omega)
          simpa [Addr.add] using this
        · exact hc 1 (by omega)
    obtain ⟨kd, hkd⟩ := choose_lt (α := Int) (p := fun i x => ∃ y : Int, W.cell? (a.add (i * 2)) = some (.int .i64 x) ∧ W.cell? ((a.add (i * 2)).add 1) = some (.int .i64 y)) key
    obtain ⟨nm, hnm⟩ := choose_lt (α := Int) hkd
    refine ⟨some a, len, cap, kd, nm, hv', by omega, fun i hi => ?_⟩
    have h0 := (hnm 0 (by omega)).1
    rw [Nat.zero_mul] at h0
    obtain ⟨g, o, rfl⟩ := addr_flat h0
    have h1 := hnm i hi
    rw [add_off, add_off] at h1
    exact ⟨g, o, rfl, h1.1, h1.2⟩
end Go.Proofs.Ytoaellmjgejgfaa
