/- Rows of values that a call makes for itself. -/
import Derived.Test.YtibiiafcnaijeaaVv
import Derived.Test.YtibiiafcnaijeaaInsS
namespace Go.Proofs.Ytibiiafcnaijeaa
open Go Go.RowKit
set_option linter.unusedVariables false
set_option linter.unusedSimpArgs false

theorem QV.ex {P : Nat → Prop} {w : World} {v : Value} {rs : List V5} (h : QV P w v rs) : QV (fun g => P g ∧ g < w.heap.size) w v rs := by
  refine ⟨h.1, ?_⟩
  rcases h.2 with h0 | ⟨g, o, c, hp, e, hc⟩
  · exact .inl h0
  · cases rs with
    | nil => exact .inl ⟨rfl, _, _, e⟩
    | cons x r => exact .inr ⟨g, o, c, ⟨hp, World.block_lt_of_cell? w _ (hc 0 x rfl).1⟩, e, hc⟩
/-- The blocks of a value that lies in memory are blocks of the memory. -/
theorem VV.ex {P : Nat → Prop} {w : World} {v : Value} {t : Vl} (h : VV P w v t) : VV (fun g => P g ∧ g < w.heap.size) w v t := by
  induction h with
  | mk k n s is ks vi vk rs hs hk hr hl he ih => exact .mk k n s is ks vi vk rs hs hk.ex (QV.ex hr) hl ih
theorem VV.mono {P Q : Nat → Prop} {w : World} {v : Value} {t : Vl} (h : VV P w v t) (hq : ∀ g, P g → Q g) : VV Q w v t := h.keep (KeepsP.refl P w) hq
theorem WV.mono {P Q : Nat → Prop} {w : World} {v : Value} {t : List Vl} (h : WV P w v t) (hq : ∀ g, P g → Q g) : WV Q w v t := h.keep (KeepsP.refl P w) hq

def flat5 : List V5 → List Value
  | [] => []
  | r :: l => r.1 :: r.2.1 :: r.2.2.1 :: r.2.2.2.1 :: r.2.2.2.2 :: flat5 l
theorem flat5_len : ∀ l, (flat5 l).length = l.length * 5
  | [] => rfl
  | r :: l => by rw [flat5, List.length_cons, List.length_cons, List.length_cons, List.length_cons, List.length_cons, flat5_len l, List.length_cons]; omega
theorem flat5_app : ∀ a b, flat5 (a ++ b) = flat5 a ++ flat5 b
  | [], _ => rfl
  | r :: l, b => by rw [List.cons_append, flat5, flat5, flat5_app l b]; rfl
theorem flat5_get : ∀ (l : List V5) (i : Nat) (r : V5), l[i]? = some r → (flat5 l)[i * 5]? = some r.1 ∧ (flat5 l)[i * 5 + 1]? = some r.2.1 ∧ (flat5 l)[i * 5 + 2]? = some r.2.2.1 ∧ (flat5 l)[i * 5 + 3]? = some r.2.2.2.1 ∧ (flat5 l)[i * 5 + 4]? = some r.2.2.2.2
  | [], i, r, h => by simp at h
  | x :: l, 0, r, h => by simp at h; subst h; exact ⟨rfl, rfl, rfl, rfl, rfl⟩
  | x :: l, i + 1, r, h => by
    obtain ⟨h1, h2, h3, h4, h5⟩ := flat5_get l i r (by simpa using h)
    rw [flat5, show (i + 1) * 5 = i * 5 + 1 + 1 + 1 + 1 + 1 by omega]
    exact ⟨by simpa using h1, by simpa [Nat.add_assoc] using h2, by simpa [Nat.add_assoc] using h3, by simpa [Nat.add_assoc] using h4, by simpa [Nat.add_assoc] using h5⟩

/-- v is the call's own row, from block B on; it reads as ts; what ts needs besides lies in R's blocks, not in the box and not in the row itself. -/
def OwnW (B box : Nat) (R : Nat → Prop) (w : World) (v : Value) (ts : List Vl) : Prop :=
  ∃ rs : List V5, Made B w 26 5 v ts.length (flat5 rs) ∧ rs.length = ts.length ∧
    ∀ (i : Nat) r t, rs[i]? = some r → ts[i]? = some t → VV (fun g => R g ∧ g < w.heap.size ∧ g ≠ box ∧ v.ownBlock ≠ some g) w (pent r) t
theorem OwnW.nil (B box : Nat) (R : Nat → Prop) (w : World) : OwnW B box R w (.slice none 0 0) [] := ⟨[], Made.nil _ _ _ _, rfl, fun i r t h => by simp at h⟩
theorem OwnW.later {B box : Nat} {R : Nat → Prop} {w w' : World} {v : Value} {ts : List Vl} (h : OwnW B box R w v ts) (hb : Below w.heap.size w w') : OwnW B box R w' v ts := by
  obtain ⟨rs, h1, h2, h3⟩ := h
  exact ⟨rs, h1.later hb, h2, fun i r t hr ht => (h3 i r t hr ht).keep (KeepsP.below hb) fun g hg => ⟨hg.1, Nat.lt_of_lt_of_le hg.2.1 hb.size, hg.2.2⟩⟩
theorem OwnW.push {B box : Nat} {R S : Nat → Prop} {w w' : World} {v v' : Value} {ts : List Vl} {t : Vl} {r0 : V5} (hB : B ≤ w.heap.size)
    (h : ∃ rs : List V5, Made B w 26 5 v ts.length (flat5 rs) ∧ rs.length = ts.length ∧
      (∀ (i : Nat) r t, rs[i]? = some r → ts[i]? = some t → VV (fun g => R g ∧ g < w.heap.size ∧ g ≠ box ∧ v.ownBlock ≠ some g) w (pent r) t) ∧ w'.ownsRow 0 26 5 v' (ts.length + 1) (flat5 rs ++ [r0.1, r0.2.1, r0.2.2.1, r0.2.2.2.1, r0.2.2.2.2]))
    (ht : VV S w (pent r0) t) (hs : ∀ g, S g → R g ∧ g ≠ box ∧ v.ownBlock ≠ some g)
    (hc : Chg (fun k => v.ownBlock = some k) w w') (hp : v'.ownBlock = v.ownBlock ∨ ∃ g, v'.ownBlock = some g ∧ w.heap.size ≤ g) : OwnW B box R w' v' (ts ++ [t]) := by
  obtain ⟨rs, h1, h2, h3, hown⟩ := h
  have hq : ∀ g, (R g ∧ g < w.heap.size ∧ g ≠ box ∧ v.ownBlock ≠ some g) → R g ∧ g < w'.heap.size ∧ g ≠ box ∧ v'.ownBlock ≠ some g := fun g ⟨a1, a2, a3, a4⟩ =>
    ⟨a1, Nat.lt_of_lt_of_le a2 hc.size, a3, by
      rcases hp with e | ⟨g', e, hg'⟩
      · rw [e]; exact a4
      · rw [e]; intro e2; cases e2; omega⟩
  have hk : KeepsP (fun g => R g ∧ g < w.heap.size ∧ g ≠ box ∧ v.ownBlock ≠ some g) w w' := KeepsP.chg hc fun g hg => hg.2.2.2
  refine ⟨rs ++ [r0], ?_, by simp [h2], fun i r t' hr ht' => ?_⟩
  · rw [flat5_app, List.length_append]
    exact h1.grow hB hown hp
  · by_cases hi : i < rs.length
    · rw [List.getElem?_append_left hi] at hr
      rw [List.getElem?_append_left (by omega)] at ht'
      exact (h3 i r t' hr ht').keep hk hq
    · have hlt := (List.getElem?_eq_some_iff.1 hr).1
      obtain rfl : i = rs.length := by simp at hlt; omega
      rw [List.getElem?_append_right (Nat.le_refl _)] at hr
      rw [List.getElem?_append_right (by omega)] at ht'
      rw [h2] at ht'
      simp at hr ht'
      subst hr ht'
      exact (ht.ex.mono fun g hg => ⟨(hs g hg.1).1, hg.2, (hs g hg.1).2⟩).keep hk hq
theorem OwnW.store {B box o : Nat} {R : Nat → Prop} {w : World} {v : Value} {ts : List Vl} (h : OwnW B box R w v ts) (hB : box < B) (x : Value) : OwnW B box R (w.setCell ⟨box, o, none⟩ x) v ts := by
  obtain ⟨rs, h1, h2, h3⟩ := h
  have hc : Chg (fun k => k = box) w (w.setCell ⟨box, o, none⟩ x) := Chg.setCell w box o x rfl
  exact ⟨rs, made_keep h1 hc fun k hk => by omega, h2, fun i r t hr ht => (h3 i r t hr ht).keep (KeepsP.chg hc fun g hg => hg.2.2.1) fun g hg => ⟨hg.1, Nat.lt_of_lt_of_le hg.2.1 hc.size, hg.2.2⟩⟩
theorem OwnW.read {B box : Nat} {R : Nat → Prop} {w : World} {v : Value} {ts : List Vl} (h : OwnW B box R w v ts) (hR : ∀ g, B ≤ g → R g) (hl : ts.length ≤ 140737488355328) : WV R w v ts := by
  obtain ⟨rs, h1, h2, h3⟩ := h
  refine ⟨rs, ⟨by omega, ?_⟩, h2, fun i r t hr ht => (h3 i r t hr ht).mono fun g hg => hg.1⟩
  rcases h1.1.2 with ⟨rfl, h0⟩ | ⟨g, cap, cur, rfl, p1, p2, p3, p4, p5, p6⟩
  · exact .inl ⟨List.eq_nil_of_length_eq_zero (by omega), _, _, rfl⟩
  · refine .inr ⟨g, 0, cap, hR g (h1.2 g rfl), by rw [h2], fun i r hr => ?_⟩
    obtain ⟨a1, a2, a3, a4, a5⟩ := flat5_get rs i r hr
    rw [Nat.zero_add]
    exact ⟨cells_at p2 p6 a1, cells_at p2 p6 a2, cells_at p2 p6 a3, cells_at p2 p6 a4, cells_at p2 p6 a5⟩
theorem OwnW.slice {B box : Nat} {R : Nat → Prop} {w : World} {v : Value} {ts : List Vl} (h : OwnW B box R w v ts) : ∃ oa m c, v = .slice oa m c := by
  obtain ⟨rs, h1, _⟩ := h
  exact owns_slice h1.1
theorem flat5_take : ∀ (rs : List V5) (i : Nat), (flat5 rs).take (i * 5) = flat5 (rs.take i)
  | _, 0 => by simp [flat5]
  | [], i + 1 => by simp [flat5]
  | r :: rs, i + 1 => by
    rw [show (i + 1) * 5 = i * 5 + 1 + 1 + 1 + 1 + 1 by omega, flat5, List.take_succ_cons, List.take_succ_cons, List.take_succ_cons, List.take_succ_cons, List.take_succ_cons, flat5_take rs i, List.take_succ_cons, flat5]
theorem flat5_drop : ∀ (rs : List V5) (i : Nat), (flat5 rs).drop (i * 5) = flat5 (rs.drop i)
  | _, 0 => by simp
  | [], i + 1 => by simp [flat5]
  | r :: rs, i + 1 => by
    rw [show (i + 1) * 5 = i * 5 + 1 + 1 + 1 + 1 + 1 by omega, flat5, List.drop_succ_cons, List.drop_succ_cons, List.drop_succ_cons, List.drop_succ_cons, List.drop_succ_cons, flat5_drop rs i, List.drop_succ_cons]
theorem set_eq {α : Type} : ∀ (l : List α) (i : Nat) (x : α), i < l.length → l.set i x = l.take i ++ x :: l.drop (i + 1)
  | [], _, _, h => by cases h
  | a :: l, 0, x, _ => by simp
  | a :: l, i + 1, x, h => by rw [List.set_cons_succ, set_eq l i x (by simpa using h)]; rfl
theorem flat5_set (rs : List V5) (i : Nat) (r : V5) (h : i < rs.length) : flat5 (rs.set i r) = (flat5 rs).take (i * 5) ++ [r.1, r.2.1, r.2.2.1, r.2.2.2.1, r.2.2.2.2] ++ (flat5 rs).drop ((i + 1) * 5) := by
  rw [set_eq rs i r h, flat5_app, flat5_take, flat5_drop, flat5]; simp
theorem set_row {α : Type} (cur new : List α) (n j : Nat) (hn : new.length = 5) (hl : n * 5 ≤ cur.length) (hj : j < n) :
    (cur.take (j * 5) ++ new ++ cur.drop (j * 5 + new.length)).take (n * 5) = (cur.take (n * 5)).take (j * 5) ++ new ++ (cur.take (n * 5)).drop ((j + 1) * 5) := by
  have hA : (cur.take (j * 5) ++ new).length = (j + 1) * 5 := by rw [List.length_append, List.length_take, Nat.min_eq_left (by omega), hn]; omega
  rw [List.take_take, Nat.min_eq_left (by omega), List.take_append, hA, List.take_of_length_le (by rw [hA]; omega), hn, List.drop_take]
  rw [show j * 5 + 5 = (j + 1) * 5 by omega]
set_option maxHeartbeats 1000000 in
theorem OwnW.set {B box g n c j : Nat} {R S : Nat → Prop} {w : World} {ts : List Vl} {t : Vl} {r : V5} (h : OwnW B box R w (.slice (some ⟨g, 0, none⟩) n c) ts) (hj : j < ts.length) (ht : VV S w (pent r) t) (hs : ∀ k, S k → R k ∧ k ≠ box ∧ k ≠ g) :
    OwnW B box R (w.setCells g (j * 5) [r.1, r.2.1, r.2.2.1, r.2.2.2.1, r.2.2.2.2]) (.slice (some ⟨g, 0, none⟩) n c) (ts.set j t) ∧ Chg (fun k => k = g) w (w.setCells g (j * 5) [r.1, r.2.1, r.2.2.1, r.2.2.2.1, r.2.2.2.2]) := by
  obtain ⟨rs, h1, h2, h3⟩ := h
  have hc : Chg (fun k => k = g) w (w.setCells g (j * 5) [r.1, r.2.1, r.2.2.1, r.2.2.2.1, r.2.2.2.2]) := Chg.setCells _ _ _ _ rfl
  refine ⟨⟨rs.set j r, ⟨⟨?_, ?_⟩, h1.2⟩, by simp [h2], fun i q x hq he => ?_⟩, hc⟩
  · rw [flat5_len]; simp [h2]
  · rcases h1.1.2 with ⟨e, _⟩ | ⟨g', cap, cur, e, p1, p2, p3, p4, p5, p6⟩
    · cases e
    · cases e
      have hl : cur.toList.length = c * 5 := by simpa using p5
      have hH := heap_setCells [r.1, r.2.1, r.2.2.1, r.2.2.2.1, r.2.2.2.2] (j * 5) cur.toList 26 (0, 0) w p2 (by rw [hl]; simp; omega)
      refine .inr ⟨g, c, _, by simp, p1, hH, by simpa using p3, p4, ?_, ?_⟩
      · simp [hl]; omega
      · have hrl := flat5_len rs
        rw [flat5_set rs j r (by omega), ← p6, List.length_set]
        have hc5 : c * 5 = cur.toList.length := hl.symm
        exact set_row cur.toList [r.1, r.2.1, r.2.2.1, r.2.2.2.1, r.2.2.2.2] ts.length j rfl (by omega) hj
  · have hk : KeepsP (fun k => R k ∧ k < w.heap.size ∧ k ≠ box ∧ (Value.slice (some ⟨g, 0, none⟩) n c).ownBlock ≠ some k) w (w.setCells g (j * 5) [r.1, r.2.1, r.2.2.1, r.2.2.2.1, r.2.2.2.2]) := KeepsP.chg hc fun k hk e => hk.2.2.2 (by rw [e]; rfl)
    have hsz := hc.size
    by_cases e : i = j
    · subst e
      rw [List.getElem?_set_self (by omega)] at hq
      rw [List.getElem?_set_self (by omega)] at he
      cases hq
      cases he
      exact (ht.ex.mono fun k hk => (⟨(hs k hk.1).1, hk.2, (hs k hk.1).2.1, fun e => (hs k hk.1).2.2 (by cases e; rfl)⟩ : R k ∧ k < w.heap.size ∧ k ≠ box ∧ (Value.slice (some ⟨g, 0, none⟩) n c).ownBlock ≠ some k)).keep hk fun k hk => ⟨hk.1, by omega, hk.2.2⟩
    · rw [List.getElem?_set_ne (fun h => e h.symm)] at hq he
      exact (h3 i q x hq he).keep hk fun k hk => ⟨hk.1, by omega, hk.2.2⟩
theorem OwnW.block {B box : Nat} {R : Nat → Prop} {w : World} {v : Value} {ts : List Vl} (h : OwnW B box R w v ts) {g : Nat} (hg : v.ownBlock = some g) : B ≤ g ∧ g < w.heap.size := by
  obtain ⟨rs, h1, _⟩ := h
  refine ⟨h1.2 g hg, ?_⟩
  rcases h1.1.2 with ⟨rfl, h0⟩ | ⟨g, cap, cur, rfl, p1, p2, _⟩
  · cases hg
  · cases hg; exact (Array.getElem?_eq_some_iff.1 p2).1
/-- A row of the call's own, where each element has a place of its own. -/
def OwnX (B box : Nat) (R : Nat → Nat → Prop) (w : World) (v : Value) (ts : List Vl) : Prop :=
  ∃ rs : List V5, Made B w 26 5 v ts.length (flat5 rs) ∧ rs.length = ts.length ∧
    ∀ (i : Nat) r t, rs[i]? = some r → ts[i]? = some t → VV (fun g => R i g ∧ g < w.heap.size ∧ g ≠ box ∧ v.ownBlock ≠ some g) w (pent r) t
theorem OwnW.x {B box : Nat} {R : Nat → Prop} {w : World} {v : Value} {ts : List Vl} (h : OwnW B box R w v ts) : OwnX B box (fun _ => R) w v ts := h
theorem OwnX.mono {B box : Nat} {R Q : Nat → Nat → Prop} {w : World} {v : Value} {ts : List Vl} (h : OwnX B box R w v ts) (hq : ∀ i g, i < ts.length → R i g → Q i g) : OwnX B box Q w v ts := by
  obtain ⟨rs, h1, h2, h3⟩ := h
  exact ⟨rs, h1, h2, fun i r t hr ht => (h3 i r t hr ht).mono fun g hg => ⟨hq i g (List.getElem?_eq_some_iff.1 ht).1 hg.1, hg.2⟩⟩
theorem OwnX.base {B C box : Nat} {R : Nat → Nat → Prop} {w : World} {v : Value} {ts : List Vl} (h : OwnX B box R w v ts) (hC : C ≤ B) : OwnX C box R w v ts := by
  obtain ⟨rs, h1, h2, h3⟩ := h
  exact ⟨rs, ⟨h1.1, fun g hg => Nat.le_trans hC (h1.2 g hg)⟩, h2, h3⟩
theorem OwnX.later {B box : Nat} {R : Nat → Nat → Prop} {w w' : World} {v : Value} {ts : List Vl} (h : OwnX B box R w v ts) (hb : Below w.heap.size w w') : OwnX B box R w' v ts := by
  obtain ⟨rs, h1, h2, h3⟩ := h
  exact ⟨rs, h1.later hb, h2, fun i r t hr ht => (h3 i r t hr ht).keep (KeepsP.below hb) fun g hg => ⟨hg.1, Nat.lt_of_lt_of_le hg.2.1 hb.size, hg.2.2⟩⟩
theorem OwnX.store {B box o : Nat} {R : Nat → Nat → Prop} {w : World} {v : Value} {ts : List Vl} (h : OwnX B box R w v ts) (hB : box < B) (x : Value) : OwnX B box R (w.setCell ⟨box, o, none⟩ x) v ts := by
  obtain ⟨rs, h1, h2, h3⟩ := h
  have hc : Chg (fun k => k = box) w (w.setCell ⟨box, o, none⟩ x) := Chg.setCell w box o x rfl
  exact ⟨rs, made_keep h1 hc fun k hk => by omega, h2, fun i r t hr ht => (h3 i r t hr ht).keep (KeepsP.chg hc fun g hg => hg.2.2.1) fun g hg => ⟨hg.1, Nat.lt_of_lt_of_le hg.2.1 hc.size, hg.2.2⟩⟩
theorem OwnX.slice {B box : Nat} {R : Nat → Nat → Prop} {w : World} {v : Value} {ts : List Vl} (h : OwnX B box R w v ts) : (v = .slice none 0 0 ∧ ts = []) ∨ ∃ g c, v = .slice (some ⟨g, 0, none⟩) ts.length c ∧ B ≤ g ∧ g < w.heap.size ∧ ∃ cur, w.heap[g]? = some (.cells cur 26) := by
  obtain ⟨rs, h1, h2, h3⟩ := h
  rcases h1.1.2 with ⟨e, h0⟩ | ⟨g, cap, cur, e, p1, p2, p3⟩
  · exact .inl ⟨e, List.eq_nil_of_length_eq_zero h0⟩
  · exact .inr ⟨g, cap, e, h1.2 g (by rw [e]; rfl), (Array.getElem?_eq_some_iff.1 p2).1, cur, p2⟩
theorem OwnX.read {B box : Nat} {R : Nat → Nat → Prop} {Q : Nat → Prop} {w : World} {v : Value} {ts : List Vl} (h : OwnX B box R w v ts) (hR : ∀ i g, i < ts.length → R i g → Q g) (hB : ∀ g, B ≤ g → Q g) (hl : ts.length ≤ 140737488355328) : WV Q w v ts := by
  obtain ⟨rs, h1, h2, h3⟩ := h
  refine ⟨rs, ⟨by omega, ?_⟩, h2, fun i r t hr ht => (h3 i r t hr ht).mono fun g hg => hR i g (List.getElem?_eq_some_iff.1 ht).1 hg.1⟩
  rcases h1.1.2 with ⟨rfl, h0⟩ | ⟨g, cap, cur, rfl, p1, p2, p3, p4, p5, p6⟩
  · exact .inl ⟨List.eq_nil_of_length_eq_zero (by omega), _, _, rfl⟩
  · refine .inr ⟨g, 0, cap, hB g (h1.2 g rfl), by rw [h2], fun i r hr => ?_⟩
    obtain ⟨a1, a2, a3, a4, a5⟩ := flat5_get rs i r hr
    rw [Nat.zero_add]
    exact ⟨cells_at p2 p6 a1, cells_at p2 p6 a2, cells_at p2 p6 a3, cells_at p2 p6 a4, cells_at p2 p6 a5⟩
/-- The element at a place. -/
theorem OwnX.at {B box g n c j : Nat} {R : Nat → Nat → Prop} {w : World} {ts : List Vl} (h : OwnX B box R w (.slice (some ⟨g, 0, none⟩) n c) ts) (hj : j < ts.length) :
    ∃ k' n' s' oi mi ci ok mk ck, w.cell? ⟨g, j * 5, none⟩ = some (.int .i64 k') ∧ w.cell? ⟨g, j * 5 + 1, none⟩ = some (.int .i64 n') ∧ w.cell? ⟨g, j * 5 + 2, none⟩ = some (.string s') ∧ w.cell? ⟨g, j * 5 + 3, none⟩ = some (.slice oi mi ci) ∧ w.cell? ⟨g, j * 5 + 4, none⟩ = some (.slice ok mk ck) ∧
      VV (fun k => R j k ∧ k < w.heap.size ∧ k ≠ box ∧ k ≠ g) w (.agg #[.int .i64 k', .int .i64 n', .string s', .slice oi mi ci, .slice ok mk ck]) ts[j] := by
  obtain ⟨rs, h1, h2, h3⟩ := h
  rcases h1.1.2 with ⟨e, _⟩ | ⟨g', cap, cur, e, p1, p2, p3, p4, p5, p6⟩
  · cases e
  · cases e
    have hr : rs[j]? = some rs[j] := List.getElem?_eq_getElem (by omega)
    obtain ⟨a1, a2, a3, a4, a5⟩ := flat5_get rs j _ hr
    have b1 := cells_at p2 p6 a1
    have b2 := cells_at p2 p6 a2
    have b3 := cells_at p2 p6 a3
    have b4 := cells_at p2 p6 a4
    have b5 := cells_at p2 p6 a5
    have hV := h3 j _ _ hr (List.getElem?_eq_getElem hj)
    obtain ⟨k', n', s', oi, mi, ci, ok, mk, ck, e1, e2, e3, e4, e5, hk⟩ := hV.five
    rw [e1] at b1; rw [e2] at b2; rw [e3] at b3; rw [e4] at b4; rw [e5] at b5
    have hp : pent rs[j] = .agg #[.int .i64 k', .int .i64 n', .string s', .slice oi mi ci, .slice ok mk ck] := by
      unfold pent; rw [e1, e2, e3, e4, e5]
    rw [hp] at hV
    exact ⟨k', n', s', oi, mi, ci, ok, mk, ck, b1, b2, b3, b4, b5, hV.mono fun k hk => ⟨hk.1, hk.2.1, hk.2.2.1, fun e => hk.2.2.2 (by rw [e]; rfl)⟩⟩
set_option maxHeartbeats 1000000 in
/-- An element of the row is turned. -/
theorem OwnX.set {B box g n c j : Nat} {R : Nat → Nat → Prop} {S : Nat → Prop} {w : World} {ts : List Vl} {t : Vl} {r : V5} (h : OwnX B box R w (.slice (some ⟨g, 0, none⟩) n c) ts) (hj : j < ts.length) (ht : VV S w (pent r) t) (hs : ∀ k, S k → k ≠ box ∧ k ≠ g) :
    OwnX B box (fun i k => if i = j then S k else R i k) (w.setCells g (j * 5) [r.1, r.2.1, r.2.2.1, r.2.2.2.1, r.2.2.2.2]) (.slice (some ⟨g, 0, none⟩) n c) (ts.set j t) ∧ Chg (fun k => k = g) w (w.setCells g (j * 5) [r.1, r.2.1, r.2.2.1, r.2.2.2.1, r.2.2.2.2]) := by
  obtain ⟨rs, h1, h2, h3⟩ := h
  have hc : Chg (fun k => k = g) w (w.setCells g (j * 5) [r.1, r.2.1, r.2.2.1, r.2.2.2.1, r.2.2.2.2]) := Chg.setCells _ _ _ _ rfl
  refine ⟨⟨rs.set j r, ⟨⟨?_, ?_⟩, h1.2⟩, by simp [h2], fun i q x hq he => ?_⟩, hc⟩
  · rw [flat5_len]; simp [h2]
  · rcases h1.1.2 with ⟨e, _⟩ | ⟨g', cap, cur, e, p1, p2, p3, p4, p5, p6⟩
    · cases e
    · cases e
      have hl : cur.toList.length = c * 5 := by simpa using p5
      have hH := heap_setCells [r.1, r.2.1, r.2.2.1, r.2.2.2.1, r.2.2.2.2] (j * 5) cur.toList 26 (0, 0) w p2 (by rw [hl]; simp; omega)
      refine .inr ⟨g, c, _, by simp, p1, hH, by simpa using p3, p4, ?_, ?_⟩
      · simp [hl]; omega
      · have hrl := flat5_len rs
        rw [flat5_set rs j r (by omega), ← p6, List.length_set]
        have hc5 : c * 5 = cur.toList.length := hl.symm
        exact set_row cur.toList [r.1, r.2.1, r.2.2.1, r.2.2.2.1, r.2.2.2.2] ts.length j rfl (by omega) hj
  · have hsz := hc.size
    by_cases e : i = j
    · subst e
      rw [List.getElem?_set_self (by omega)] at hq
      rw [List.getElem?_set_self (by omega)] at he
      cases hq
      cases he
      refine (ht.ex.keep (KeepsP.chg hc fun k hk e => (hs k hk.1).2 e) fun k hk => ⟨by show (if i = i then S k else R i k); rw [if_pos rfl]; exact hk.1, by omega, (hs k hk.1).1, fun e => (hs k hk.1).2 (by cases e; rfl)⟩)
    · rw [List.getElem?_set_ne (fun h => e h.symm)] at hq he
      exact (h3 i q x hq he).keep (KeepsP.chg hc fun k hk e => hk.2.2.2 (by rw [e]; rfl)) fun k hk => ⟨by show (if i = j then S k else R i k); rw [if_neg e]; exact hk.1, by omega, hk.2.2⟩
/-- Five cells of a block of the call's own. -/
theorem chg_store5 (w : World) (b : Nat) (x y z u v : Value) : Chg (fun k => k = b) w (((((w.setCell ⟨b, 0, none⟩ x).setCell ⟨b, 1, none⟩ y).setCell ⟨b, 2, none⟩ z).setCell ⟨b, 3, none⟩ u).setCell ⟨b, 4, none⟩ v) :=
  ((((Chg.setCell (B := fun k => k = b) w b 0 x rfl).trans (Chg.setCell _ b 1 y rfl)).trans (Chg.setCell _ b 2 z rfl)).trans (Chg.setCell _ b 3 u rfl)).trans (Chg.setCell _ b 4 v rfl)
theorem chg_bel {B : Nat → Prop} {n : Nat} {w w' : World} (h : Chg B w w') (hb : ∀ k, B k → n ≤ k) (hn : n ≤ w.heap.size) : Below n w w' :=
  ⟨h.os, h.tape, h.output, h.size, fun k hk => h.block k (by omega) fun e => by have := hb k e; omega⟩
theorem store5_below {n b : Nat} {w w2 : World} (h : Below n w w2) (hb : n ≤ b) (hn : n ≤ w.heap.size) (x y z u v : Value) : Below n w (((((w2.setCell ⟨b, 0, none⟩ x).setCell ⟨b, 1, none⟩ y).setCell ⟨b, 2, none⟩ z).setCell ⟨b, 3, none⟩ u).setCell ⟨b, 4, none⟩ v) :=
  h.trans (chg_bel (chg_store5 w2 b x y z u v) (fun k hk => by rw [hk]; exact hb) (Nat.le_trans hn h.size))
theorem store5_vv {P Q : Nat → Prop} {b : Nat} {w : World} {q : Value} {t : Vl} (h : VV P w q t) (hb : ¬ P b) (hq : ∀ g, P g → Q g) (x y z u v : Value) : VV Q (((((w.setCell ⟨b, 0, none⟩ x).setCell ⟨b, 1, none⟩ y).setCell ⟨b, 2, none⟩ z).setCell ⟨b, 3, none⟩ u).setCell ⟨b, 4, none⟩ v) q t :=
  h.keep (KeepsP.chg (chg_store5 w b x y z u v) fun g hg e => hb (e ▸ hg)) hq
/-- A new value that reads as t. -/
def FreshV (t : Vl) (w : World) (e : Ending) (w' : World) : Prop := ∃ u, e = .returned u ∧ VV (fun g => w.heap.size ≤ g) w' u t ∧ Below w.heap.size w w'
end Go.Proofs.Ytibiiafcnaijeaa
