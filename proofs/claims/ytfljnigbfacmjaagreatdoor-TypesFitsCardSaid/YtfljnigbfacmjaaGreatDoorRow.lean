/- Rows of types that a call makes for itself. -/
import Derived.Test.YtfljnigbfacmjaaGreatDoorView
import Derived.Test.YtfljnigbfacmjaaGreatDoorApp
namespace Go.Proofs.YtfljnigbfacmjaaGreatDoor
open Go Go.RowKit
set_option linter.unusedVariables false
set_option linter.unusedSimpArgs false

theorem CV.ex {P : Nat → Prop} {w : World} {v : Value} {vs : List Value} (h : CV P w v vs) : CV (fun g => P g ∧ g < w.heap.size) w v vs := by
  refine ⟨h.1, ?_⟩
  rcases h.2 with h0 | ⟨g, o, c, hp, e, hc⟩
  · exact .inl h0
  · cases vs with
    | nil => exact .inl ⟨rfl, _, _, e⟩
    | cons x r => exact .inr ⟨g, o, c, ⟨hp, World.block_lt_of_cell? w _ (hc 0 x rfl)⟩, e, hc⟩
theorem SV.ex {P : Nat → Prop} {w : World} {v : Value} {l : List ByteArray} (h : SV P w v l) : SV (fun g => P g ∧ g < w.heap.size) w v l := ⟨h.1.ex, h.2⟩
theorem RV.ex {P : Nat → Prop} {w : World} {v : Value} {rs : List (Value × Value × Value)} (h : RV P w v rs) : RV (fun g => P g ∧ g < w.heap.size) w v rs := by
  refine ⟨h.1, ?_⟩
  rcases h.2 with h0 | ⟨g, o, c, hp, e, hc⟩
  · exact .inl h0
  · cases rs with
    | nil => exact .inl ⟨rfl, _, _, e⟩
    | cons x r => exact .inr ⟨g, o, c, ⟨hp, World.block_lt_of_cell? w _ (hc 0 x rfl).1⟩, e, hc⟩
/-- The blocks of a type that lies in memory are blocks of the memory. -/
theorem TV.ex {P : Nat → Prop} {w : World} {v : Value} {t : Ty} (h : TV P w v t) : TV (fun g => P g ∧ g < w.heap.size) w v t := by
  induction h with
  | mk k es ns ve vn rs hn hr hl he ih => exact .mk k es ns ve vn rs hn.ex hr.ex hl ih
theorem TV.mono {P Q : Nat → Prop} {w : World} {v : Value} {t : Ty} (h : TV P w v t) (hq : ∀ g, P g → Q g) : TV Q w v t := h.keep (KeepsP.refl P w) hq
theorem KeepsP.chg {P B : Nat → Prop} {w w' : World} (h : Chg B w w') (hn : ∀ g, P g → ¬ B g) : KeepsP P w w' := fun g o u hp hu => chg_cell h (hn g hp) hu

def flat : List (Value × Value × Value) → List Value
  | [] => []
  | r :: l => r.1 :: r.2.1 :: r.2.2 :: flat l
theorem flat_len : ∀ l, (flat l).length = l.length * 3
  | [] => rfl
  | r :: l => by rw [flat, List.length_cons, List.length_cons, List.length_cons, flat_len l, List.length_cons]; omega
theorem flat_app : ∀ a b, flat (a ++ b) = flat a ++ flat b
  | [], _ => rfl
  | r :: l, b => by rw [List.cons_append, flat, flat, flat_app l b]; rfl
theorem flat_get : ∀ (l : List (Value × Value × Value)) (i : Nat) (r : Value × Value × Value), l[i]? = some r → (flat l)[i * 3]? = some r.1 ∧ (flat l)[i * 3 + 1]? = some r.2.1 ∧ (flat l)[i * 3 + 2]? = some r.2.2
  | [], i, r, h => by simp at h
  | x :: l, 0, r, h => by simp at h; subst h; exact ⟨rfl, rfl, rfl⟩
  | x :: l, i + 1, r, h => by
    obtain ⟨h1, h2, h3⟩ := flat_get l i r (by simpa using h)
    rw [flat, show (i + 1) * 3 = i * 3 + 1 + 1 + 1 by omega]
    exact ⟨by simpa using h1, by simpa [Nat.add_assoc] using h2, by simpa [Nat.add_assoc] using h3⟩

/-- v is the call's own row, from block B on; it reads as ts; what ts needs besides lies in R's blocks, not in the box and not in the row itself. -/
def OwnL (B box : Nat) (R : Nat → Prop) (w : World) (v : Value) (ts : List Ty) : Prop :=
  ∃ rs : List (Value × Value × Value), Made B w 30 3 v ts.length (flat rs) ∧ rs.length = ts.length ∧
    ∀ (i : Nat) r t, rs[i]? = some r → ts[i]? = some t → TV (fun g => R g ∧ g < w.heap.size ∧ g ≠ box ∧ v.ownBlock ≠ some g) w (tri r) t
theorem OwnL.nil (B box : Nat) (R : Nat → Prop) (w : World) : OwnL B box R w (.slice none 0 0) [] := ⟨[], Made.nil _ _ _ _, rfl, fun i r t h => by simp at h⟩
theorem OwnL.later {B box : Nat} {R : Nat → Prop} {w w' : World} {v : Value} {ts : List Ty} (h : OwnL B box R w v ts) (hb : Below w.heap.size w w') : OwnL B box R w' v ts := by
  obtain ⟨rs, h1, h2, h3⟩ := h
  exact ⟨rs, h1.later hb, h2, fun i r t hr ht => (h3 i r t hr ht).keep (KeepsP.below hb) fun g hg => ⟨hg.1, Nat.lt_of_lt_of_le hg.2.1 hb.size, hg.2.2⟩⟩
theorem OwnL.push {B box : Nat} {R S : Nat → Prop} {w w' : World} {v v' : Value} {ts : List Ty} {t : Ty} {x y z : Value} (hB : B ≤ w.heap.size)
    (h : ∃ rs : List (Value × Value × Value), Made B w 30 3 v ts.length (flat rs) ∧ rs.length = ts.length ∧
      (∀ (i : Nat) r t, rs[i]? = some r → ts[i]? = some t → TV (fun g => R g ∧ g < w.heap.size ∧ g ≠ box ∧ v.ownBlock ≠ some g) w (tri r) t) ∧ w'.ownsRow 0 30 3 v' (ts.length + 1) (flat rs ++ [x, y, z]))
    (ht : TV S w (.agg #[x, y, z]) t) (hs : ∀ g, S g → R g ∧ g ≠ box ∧ v.ownBlock ≠ some g)
    (hc : Chg (fun k => v.ownBlock = some k) w w') (hp : v'.ownBlock = v.ownBlock ∨ ∃ g, v'.ownBlock = some g ∧ w.heap.size ≤ g) : OwnL B box R w' v' (ts ++ [t]) := by
  obtain ⟨rs, h1, h2, h3, hown⟩ := h
  have hq : ∀ g, (R g ∧ g < w.heap.size ∧ g ≠ box ∧ v.ownBlock ≠ some g) → R g ∧ g < w'.heap.size ∧ g ≠ box ∧ v'.ownBlock ≠ some g := fun g ⟨a1, a2, a3, a4⟩ =>
    ⟨a1, Nat.lt_of_lt_of_le a2 hc.size, a3, by
      rcases hp with e | ⟨g', e, hg'⟩
      · rw [e]; exact a4
      · rw [e]; intro e2; cases e2; omega⟩
  have hk : KeepsP (fun g => R g ∧ g < w.heap.size ∧ g ≠ box ∧ v.ownBlock ≠ some g) w w' := KeepsP.chg hc fun g hg => hg.2.2.2
  refine ⟨rs ++ [(x, y, z)], ?_, by simp [h2], fun i r t' hr ht' => ?_⟩
  · rw [flat_app, List.length_append]
    exact h1.grow hB hown hp
  · by_cases hi : i < rs.length
    · rw [List.getElem?_append_left hi] at hr
      rw [List.getElem?_append_left (by omega)] at ht'
      exact (h3 i r t' hr ht').keep hk hq
    · have hlt := (List.getElem?_eq_some_iff.1 hr).1
      obtain rfl : i = rs.length := by simp at hlt; omega
      rw [List.getElem?_append_right (Nat.le_refl _)] at hr
      rw [List.getElem?_append_right (by omega)] at ht'
      rw [h2] at ht'
      simp at hr ht'
      subst hr ht'
      exact (ht.ex.mono fun g hg => ⟨(hs g hg.1).1, hg.2, (hs g hg.1).2⟩).keep hk hq
theorem OwnL.store {B box o : Nat} {R : Nat → Prop} {w : World} {v : Value} {ts : List Ty} (h : OwnL B box R w v ts) (hB : box < B) (x : Value) : OwnL B box R (w.setCell ⟨box, o, none⟩ x) v ts := by
  obtain ⟨rs, h1, h2, h3⟩ := h
  have hc : Chg (fun k => k = box) w (w.setCell ⟨box, o, none⟩ x) := Chg.setCell w box o x rfl
  exact ⟨rs, made_keep h1 hc fun k hk => by omega, h2, fun i r t hr ht => (h3 i r t hr ht).keep (KeepsP.chg hc fun g hg => hg.2.2.1) fun g hg => ⟨hg.1, Nat.lt_of_lt_of_le hg.2.1 hc.size, hg.2.2⟩⟩
theorem OwnL.read {B box : Nat} {R : Nat → Prop} {w : World} {v : Value} {ts : List Ty} (h : OwnL B box R w v ts) (hR : ∀ g, B ≤ g → R g) (hl : ts.length ≤ 140737488355328) : LV R w v ts := by
  obtain ⟨rs, h1, h2, h3⟩ := h
  refine ⟨rs, ⟨by omega, ?_⟩, h2, fun i r t hr ht => (h3 i r t hr ht).mono fun g hg => hg.1⟩
  rcases h1.1.2 with ⟨rfl, h0⟩ | ⟨g, cap, cur, rfl, p1, p2, p3, p4, p5, p6⟩
  · exact .inl ⟨List.eq_nil_of_length_eq_zero (by omega), _, _, rfl⟩
  · refine .inr ⟨g, 0, cap, hR g (h1.2 g rfl), by rw [h2], fun i r hr => ?_⟩
    obtain ⟨a1, a2, a3⟩ := flat_get rs i r hr
    rw [Nat.zero_add]
    exact ⟨cells_at p2 p6 a1, cells_at p2 p6 a2, cells_at p2 p6 a3⟩
theorem OwnL.slice {B box : Nat} {R : Nat → Prop} {w : World} {v : Value} {ts : List Ty} (h : OwnL B box R w v ts) : ∃ oa m c, v = .slice oa m c := by
  obtain ⟨rs, h1, _⟩ := h
  exact owns_slice h1.1
end Go.Proofs.YtfljnigbfacmjaaGreatDoor
