/- Own rows of ints, and the contracts of the sets of package schedule. -/
import Derived.Test.YtoaellmjgejgfaaShelf
import Derived.Below
import Derived.WalkKit
namespace Go.Proofs.Ytoaellmjgejgfaa
open Go Go.RowKit Go.Shelf Go.Lib
set_option linter.unusedVariables false
theorem hid {p : Prop} (h : p) : Hid p := h

abbrev ints (l : List Int) : List Value := l.map (Value.int .i64)

/-- The slice value v holds l in a row of its own. -/
def Row (w : World) (v : Value) (l : List Int) : Prop :=
  (v = .slice none 0 0 ∧ l = []) ∨
  ∃ g pad, v = .slice (some ⟨g, 0, none⟩) l.length (l.length + pad.length) ∧ w.heap[g]? = some (.cells (ints l ++ pad).toArray 3) ∧ l.length + pad.length ≤ 9223372036854775807

/-- All but B is as it was; what is new lies past the end. -/
structure Chg (B : Nat → Prop) (w w' : World) : Prop where
  os : w'.os = w.os
  tape : w'.tape = w.tape
  output : w'.output = w.output
  size : w.heap.size ≤ w'.heap.size
  block : ∀ k, k < w.heap.size → ¬ B k → w'.heap[k]? = w.heap[k]?

theorem Chg.refl (B : Nat → Prop) (w : World) : Chg B w w := ⟨rfl, rfl, rfl, Nat.le_refl _, fun _ _ _ => rfl⟩
theorem Chg.trans {B : Nat → Prop} {u v w : World} (h : Chg B u v) (k : Chg B v w) : Chg B u w :=
  ⟨k.os.trans h.os, k.tape.trans h.tape, k.output.trans h.output, Nat.le_trans h.size k.size, fun i hi hb => (k.block i (Nat.lt_of_lt_of_le hi h.size) hb).trans (h.block i hi hb)⟩
theorem Chg.mono {B B' : Nat → Prop} {u v : World} (h : Chg B u v) (hb : ∀ k, k < u.heap.size → B k → B' k) : Chg B' u v :=
  ⟨h.os, h.tape, h.output, h.size, fun i hi hn => h.block i hi fun hB => hn (hb i hi hB)⟩
theorem Chg.drewN (B : Nat → Prop) (w : World) (q : Nat) : Chg B w (w.drewN q) := ⟨rfl, rfl, rfl, Nat.le_refl _, fun _ _ _ => rfl⟩
theorem Chg.drew (B : Nat → Prop) (w : World) : Chg B w w.drew := ⟨rfl, rfl, rfl, Nat.le_refl _, fun _ _ _ => rfl⟩
theorem Chg.below {B : Nat → Prop} {w w' : World} (h : Below w.heap.size w w') : Chg B w w' := ⟨h.os, h.tape, h.output, h.size, fun k hk _ => h.block k hk⟩
theorem Chg.alloc (B : Nat → Prop) (w : World) (o : Obj) : Chg B w (w.alloc o) := Chg.below ((Below.refl _ w).alloc (Nat.le_refl _) o)
theorem Chg.setCells {B : Nat → Prop} (w : World) (b o : Nat) (vs : List Value) (hb : B b) : Chg B w (w.setCells b o vs) := by
  induction vs generalizing w o with
  | nil => exact Chg.refl _ _
  | cons v r ih =>
    refine Chg.trans ?_ (ih _ _)
    exact ⟨rfl, rfl, rfl, by simp [World.setCell], fun k hk hn => Below.heap_setCell _ _ _ _ (fun e => hn (e ▸ hb))⟩

theorem Chg.past {B : Nat → Prop} {w v : World} (h : Chg B w v) (b o : Nat) (vs : List Value) (hb : w.heap.size ≤ b) : Chg B w (v.setCells b o vs) := by
  have hc : Chg (fun k => k = b) v (v.setCells b o vs) := Chg.setCells _ _ _ _ rfl
  exact ⟨hc.os.trans h.os, hc.tape.trans h.tape, hc.output.trans h.output, Nat.le_trans h.size hc.size, fun k hk hn => (hc.block k (Nat.lt_of_lt_of_le hk h.size) (by omega)).trans (h.block k hk hn)⟩

theorem Row.lt {w : World} {v : Value} {l : List Int} (h : Row w v l) {g : Nat} (hg : v.ownBlock = some g) : g < w.heap.size := by
  rcases h with ⟨rfl, _⟩ | ⟨g', pad, rfl, hh, _⟩
  · cases hg
  · cases hg
    exact (Array.getElem?_eq_some_iff.1 hh).1
theorem Row.of_same {w w' : World} {v : Value} {l : List Int} (h : Row w v l) (hk : ∀ g, v.ownBlock = some g → w'.heap[g]? = w.heap[g]?) : Row w' v l := by
  rcases h with h | ⟨g', pad, rfl, hh, hc⟩
  · exact .inl h
  · exact .inr ⟨g', pad, rfl, by rw [hk g' rfl]; exact hh, hc⟩
theorem Row.chg {B : Nat → Prop} {w w' : World} {v : Value} {l : List Int} (h : Row w v l) (hc : Chg B w w') (hn : ∀ g, v.ownBlock = some g → ¬ B g) : Row w' v l :=
  h.of_same fun g hg => hc.block g (h.lt hg) (hn g hg)

theorem row_cells {w : World} {g : Nat} {l : List Int} {pad : List Value} (h : w.heap[g]? = some (.cells (ints l ++ pad).toArray 3)) (j : Nat) (hj : j < l.length) :
    w.cell? ⟨g, 0 + j, none⟩ = some (.int .i64 (l.getD j 0)) := by
  simp [World.cell?, h, hj, List.getD, List.getElem?_append_left]

def Sorted (l : List Int) : Prop := l.Pairwise (· < ·)

/-- slices.BinarySearch. -/
theorem bs_any (v : Value) (l : List Int) (hs : Sorted l) (hl : l.length ≤ 100000) (x : Int) (w : World) (hr : Row w v l) :
    Calls Try.prog 52 #[v, .int .i64 x] w fun e w' => e = .returned (.tuple #[.int .i64 (l.countP (· < x) : Nat), .bool (l.contains x)]) ∧ ∃ q, w' = w.drewN q := by
  rcases hr with ⟨rfl, rfl⟩ | ⟨g, pad, rfl, hh, hc⟩
  · exact (Try.slices_BinarySearch_int_empty none 0 x w).mono fun e w' ⟨h1, h2⟩ => ⟨h1, 0, h2⟩
  · have := Try.slices_BinarySearch_int g 0 l.length (l.length + pad.length) l x w (Nat.le_refl _) (by omega) (row_cells hh) (by rw [List.take_length]; exact hs.imp fun h => Int.le_of_lt h)
    rw [List.take_length] at this
    exact this

/-- An item put into a set. -/
def ins (x : Int) (l : List Int) : List Int := if l.contains x then l else l.take (l.countP (· < x)) ++ x :: l.drop (l.countP (· < x))
/-- An item taken out. -/
def del (x : Int) (l : List Int) : List Int := if l.contains x then l.take (l.countP (· < x)) ++ l.drop (l.countP (· < x) + 1) else l


theorem cells_in {w : World} {b : Nat} {cs : Array Value} {t : Nat} {fz : Nat × Nat} (h : w.heap[b]? = some (.cells cs t fz)) (o : Nat) : w.cell? ⟨b, o, none⟩ = cs[o]? := by
  simp [World.cell?, h]
theorem frozen_in {w : World} {b : Nat} {cs : Array Value} {t : Nat} (h : w.heap[b]? = some (.cells cs t (0, 0))) (o : Nat) : w.frozen? ⟨b, o, none⟩ = false := by
  simp [World.frozen?, h]

theorem set_take_drop {α : Type} (cs : List α) (o : Nat) (v : α) (r : List α) (h : o + r.length + 1 ≤ cs.length) :
    (cs.set o v).take (o + 1) ++ r ++ (cs.set o v).drop (o + 1 + r.length) = cs.take o ++ (v :: r) ++ cs.drop (o + (r.length + 1)) := by
  have h1 : (cs.set o v).take (o + 1) = cs.take o ++ [v] := by
    rw [List.take_succ_eq_append_getElem (by simp; omega)]
    congr 1
    · rw [List.take_set, List.set_eq_of_length_le (by rw [List.length_take]; omega)]
    · simp
  rw [h1, List.drop_set_of_lt (by omega), show o + (r.length + 1) = o + 1 + r.length by omega]
  simp

theorem heap_setCells {b : Nat} : ∀ (vs : List Value) (o : Nat) (cs : List Value) (t : Nat) (fz : Nat × Nat) (w : World), w.heap[b]? = some (.cells cs.toArray t fz) → o + vs.length ≤ cs.length →
    (w.setCells b o vs).heap[b]? = some (.cells (cs.take o ++ vs ++ cs.drop (o + vs.length)).toArray t fz)
  | [], o, cs, t, fz, w, h, hl => by rw [World.setCells]; simpa using h
  | v :: r, o, cs, t, fz, w, h, hl => by
    simp only [List.length_cons] at hl
    have h1 : (w.setCell ⟨b, o, none⟩ v).heap[b]? = some (.cells (cs.set o v).toArray t fz) := by
      simp [World.setCell, Array.getElem?_modify, h]
    have := heap_setCells r (o + 1) (cs.set o v) t fz _ h1 (by simp; omega)
    rw [World.setCells, this, set_take_drop cs o v r (by omega)]
    rfl

theorem shape_in {w : World} {b : Nat} {cs : Array Value} {t : Nat} (h : w.heap[b]? = some (.cells cs t (0, 0))) : w.shape? b = some (t, cs.size) := by
  simp [World.shape?, h]

def InsPost (v : Value) (l : List Int) (i : Nat) (x : Int) (w : World) (e : Ending) (w' : World) : Prop :=
  ∃ v', e = .returned v' ∧ Row w' v' (l.take i ++ x :: l.drop i) ∧ (v'.ownBlock = v.ownBlock ∨ ∃ g, v'.ownBlock = some g ∧ w.heap.size ≤ g) ∧ Chg (fun k => v.ownBlock = some k) w w'

theorem ints_get (l : List Int) (j : Nat) (v : Value) (h : (ints l)[j]? = some v) : l[j]?.map (Value.int .i64) = some v := by
  simpa [ints] using h

theorem row_get {w : World} {g : Nat} {l : List Int} {pad : List Value} (h : w.heap[g]? = some (.cells (ints l ++ pad).toArray 3)) (j : Nat) (v : Value) (hj : (ints l)[j]? = some v) :
    w.cell? ⟨g, 0 + j, none⟩ = some v := by
  have hlt : j < (ints l).length := (List.getElem?_eq_some_iff.1 hj).1
  rw [cells_in h]
  simp only [Nat.zero_add, List.getElem?_toArray]
  rw [List.getElem?_append_left hlt]
  exact hj

theorem one_ints (l : List Int) : ∀ v ∈ ints l, v.oneCell' = true := by
  intro v hv
  obtain ⟨x, _, rfl⟩ := List.mem_map.1 hv
  rfl

theorem row_mk {w : World} {g cap : Nat} {l : List Int} {cs : Array Value} (h : w.heap[g]? = some (.cells cs 3)) (hs : cs.size = cap) (hc : cap ≤ 9223372036854775807)
    (hl : l.length ≤ cap) (hp : cs.toList.take l.length = ints l) : Row w (.slice (some ⟨g, 0, none⟩) l.length cap) l := by
  have h0 : cs.toList.length = cap := by simp [hs]
  have hlen : l.length + (cs.toList.drop l.length).length = cap := by rw [List.length_drop, h0]; omega
  refine .inr ⟨g, cs.toList.drop l.length, by rw [hlen], ?_, by omega⟩
  rw [← hp, List.take_append_drop]
  exact h

theorem heap_alloc_at (w : World) (o : Obj) : (w.alloc o).heap[w.heap.size]? = some o := by
  show (w.heap.push o)[w.heap.size]? = _
  simp

theorem shift_list {α : Type} (A pad : List α) (i : Nat) (x : α) (hi : i < A.length) (B : List α)
    (hB : B = (A ++ pad).take (i + 1) ++ A.drop i ++ (A ++ pad).drop (i + 1 + (A.drop i).length)) :
    B.take i ++ [x] ++ B.drop (i + 1) = A.take i ++ x :: A.drop i ++ pad.drop 1 := by
  have e1 : (A ++ pad).take (i + 1) = A.take (i + 1) := List.take_append_of_le_length (by omega)
  have e2 : (A ++ pad).drop (i + 1 + (A.drop i).length) = pad.drop 1 := by
    rw [List.length_drop, show i + 1 + (A.length - i) = A.length + 1 by omega, List.drop_append, List.drop_of_length_le (by omega), show A.length + 1 - A.length = 1 by omega]
    rfl
  have hl : (A.take (i + 1)).length = i + 1 := by rw [List.length_take]; omega
  rw [e1, e2, List.append_assoc] at hB
  subst hB
  rw [List.take_append_of_le_length (by omega), List.take_take, show min i (i + 1) = i by omega, List.drop_left' hl]
  simp

/-- slices.Insert of one element that lies in a block of its own. -/
theorem ins_any (v : Value) (l : List Int) (i : Nat) (hi : i ≤ l.length) (hl : l.length ≤ 100000) (x : Int) (vb : Nat) (w : World) (hr : Row w v l)
    (hvb : w.heap[vb]? = some (.cells #[.int .i64 x] 3)) (hne : v.ownBlock ≠ some vb) :
    Calls Try.prog 53 #[v, .int .i64 i, .slice (some ⟨vb, 0, none⟩) 1 1] w (InsPost v l i x w) := by
  have hvs : ∀ j u, [Value.int .i64 x][j]? = some u → w.cell? ⟨vb, 0 + j, none⟩ = some u := fun j u hj => by
    rw [cells_in hvb]; simpa using hj
  have h1v : ∀ u ∈ [Value.int .i64 x], u.oneCell' = true := by simp [Value.oneCell']
  have t3 : Try.laysNm221_ren.t 3 = 3 := rfl
  have hz : ∀ n, (Builtin.zeroCells (Value.int .i64 0).cells n).size = n := fun n => by rw [size_zeroCells]; simp [Value.cells]
  rcases hr with ⟨rfl, rfl⟩ | ⟨g, pad, rfl, hh, hcap⟩
  · have h0 : i = 0 := by simpa using hi
    subst h0
    have hge := grownCap_ge w 1 0 3
    have hle := grownCap_le_maxLen w 1 0 3 (by decide)
    refine (Any2.slices_Insert_int_end_grow Try.laysNm221 none 0 0 vb 0 1 1 [] [.int .i64 x] w (by omega) (by omega) (by omega) (by omega) rfl rfl (fun _ => rfl) (by simp) hvs h1v).mono ?_
    rintro e w' ⟨rfl, rfl⟩
    rw [t3, Nat.zero_add]
    refine ⟨_, rfl, ?_, .inr ⟨_, rfl, Nat.le_refl _⟩, (Chg.drew _ _).trans (Chg.alloc _ _ _)⟩
    refine row_mk (l := [x]) (heap_alloc_at w.drew _) ?_ hle hge ?_
    · rw [Array.size_append, hz]; simp; omega
    · simp [ints]
  · have hgl : g < w.heap.size := (Array.getElem?_eq_some_iff.1 hh).1
    have hil : (ints l).length = l.length := by simp
    by_cases hroom : 1 ≤ pad.length
    · by_cases hend : i = l.length
      · subst hend
        refine (Any2.slices_Insert_int_end_room Try.laysNm221 g 0 l.length (l.length + pad.length) vb 0 1 1 [.int .i64 x] w (by omega) (by omega) (by omega) rfl ?_ ?_ hvs h1v).mono ?_
        · intro j hj
          rw [cells_in hh]
          simp only [List.getElem?_toArray, Option.isSome_iff_exists]
          exact ⟨_, List.getElem?_eq_getElem (by simp; omega)⟩
        · intro j hj
          exact frozen_in hh _
        · rintro e w' ⟨rfl, rfl⟩
          refine ⟨_, rfl, ?_, .inl rfl, Chg.setCells _ _ _ _ rfl⟩
          have hH := heap_setCells [.int .i64 x] (0 + l.length) (ints l ++ pad) 3 (0, 0) w hh (by simp; omega)
          rw [show (l.take l.length ++ x :: l.drop l.length) = l ++ [x] by simp]
          have := row_mk (l := l ++ [x]) (cap := l.length + pad.length) hH (by simp; omega) (by omega) (by simp; omega) (by simp [ints, List.take_append]; exact List.take_of_length_le (by simp))
          simpa using this
      · have hilt : i < l.length := by omega
        have hshape := shape_in hh
        refine (Any2.slices_Insert_int_shift Try.laysNm221 g 0 l.length (l.length + pad.length) i vb 0 1 1 (ints l) [.int .i64 x] w hilt (by omega) (by omega) (by omega) (fun e => hne (by rw [e]; rfl)) hil rfl
          (fun j u hj => row_get hh j u hj) ?_ (fun j _ => frozen_in hh _) hvs (one_ints l) h1v _ _ _ _ (shape_in hvb) hshape (by rw [List.size_toArray, List.length_append, hil]; omega) (frozen_in hvb _) (frozen_in hvb _)).mono ?_
        · intro j hj
          rw [cells_in hh]
          simp only [List.getElem?_toArray, Option.isSome_iff_exists]
          exact ⟨_, List.getElem?_eq_getElem (by simp; omega)⟩
        · rintro e w' ⟨rfl, rfl⟩
          refine ⟨_, rfl, ?_, .inl rfl, ?_⟩
          rotate_left
          · exact ((Chg.drew (fun k => some g = some k) w).trans (Chg.setCells _ g _ _ rfl)).trans (Chg.setCells _ g _ _ rfl)
          have hH := heap_setCells ((ints l).drop i) (0 + (i + 1)) (ints l ++ pad) 3 (0, 0) w.drew hh (by simp; omega)
          have hH2 := heap_setCells [.int .i64 x] (0 + i) _ 3 (0, 0) _ hH (by simp; omega)
          simp only [Nat.zero_add, List.length_singleton] at hH2
          rw [shift_list (ints l) pad i (.int .i64 x) (by omega) _ rfl] at hH2
          have hlen : (l.take i ++ x :: l.drop i).length = l.length + 1 := by simp; omega
          have := row_mk (l := l.take i ++ x :: l.drop i) (cap := l.length + pad.length) (by simpa only [Nat.zero_add] using hH2) (by simp; omega) (by omega) (by rw [hlen]; omega)
            (by
              have e : (ints l).take i ++ Value.int .i64 x :: (ints l).drop i = ints (l.take i ++ x :: l.drop i) := by simp [ints, List.map_take, List.map_drop]
              rw [e]
              exact List.take_left' (by simp [ints]))
          rw [hlen] at this
          simpa only [Nat.zero_add] using this
    · have hp : pad = [] := List.eq_nil_of_length_eq_zero (by omega)
      subst hp
      simp only [List.length_nil, Nat.add_zero] at hcap hne ⊢
      have hcs : ∀ j u, (ints l)[j]? = some u → w.cell? ⟨g, 0 + j, none⟩ = some u := fun j u hj => row_get hh j u hj
      have hge := grownCap_ge w (l.length + 1) l.length 3
      have hle := grownCap_le_maxLen w (l.length + 1) l.length 3 (by unfold maxLen; omega)
      by_cases hend : i = l.length
      · subst hend
        refine (Any2.slices_Insert_int_end_grow Try.laysNm221 (some ⟨g, 0, none⟩) l.length l.length vb 0 1 1 (ints l) [.int .i64 x] w (by omega) (by omega) (by omega) (by omega) hil rfl (fun h => by cases h)
          (fun a ha j u hj => by cases ha; have := hcs j u hj; rw [Nat.zero_add] at this; rw [show (⟨g, 0, none⟩ : Addr).add j = ⟨g, j, none⟩ by unfold Addr.add; split <;> simp_all]; exact this) hvs h1v).mono ?_
        rintro e w' ⟨rfl, rfl⟩
        rw [t3]
        refine ⟨_, rfl, ?_, .inr ⟨_, rfl, Nat.le_refl _⟩, (Chg.drew _ _).trans (Chg.alloc _ _ _)⟩
        rw [show (l.take l.length ++ x :: l.drop l.length) = l ++ [x] by simp]
        have := row_mk (l := l ++ [x]) (heap_alloc_at w.drew _) (cap := grownCap w (l.length + 1) l.length 3) (cs := (ints l ++ [Value.int .i64 x]).toArray ++ Builtin.zeroCells (Value.int .i64 0).cells (grownCap w (l.length + 1) l.length 3 - (l.length + 1)))
          (by rw [Array.size_append, hz]; simp; omega) hle (by simpa using hge) (by rw [Array.toList_append]; rw [show (ints l ++ [Value.int .i64 x]) = ints (l ++ [x]) by simp [ints]]; exact List.take_left' (by simp [ints]))
        simpa using this
      · have hilt : i < l.length := by omega
        refine (Any2.slices_Insert_int_grow Try.laysNm221 g 0 l.length l.length i vb 0 1 1 (ints l) [.int .i64 x] w hilt (by omega) (by omega) (by omega) (by omega) hil rfl hcs hvs (one_ints l) h1v).mono ?_
        rintro e w' ⟨rfl, rfl⟩
        rw [t3]
        generalize grownCap w (l.length + 1) l.length 3 = C at *
        have hno : ∀ k, k < w.heap.size → ¬ (k = w.heap.size) := fun k hk => Nat.ne_of_lt hk
        refine ⟨_, rfl, ?_, .inr ⟨_, rfl, Nat.le_refl _⟩, ?_⟩
        · have hA := heap_alloc_at w (.cells ((List.take i (ints l)).toArray ++ Builtin.zeroCells (Value.int .i64 0).cells (l.length + 1 - i) ++ Builtin.zeroCells (Value.int .i64 0).cells (C - (l.length + 1))) 3)
          have hz' : ∀ n, (Builtin.zeroCells (Value.int .i64 0).cells n).toList.length = n := fun n => by rw [Array.length_toList]; exact hz n
          have hti : (List.take i (ints l)).length = i := by rw [List.length_take, hil]; omega
          obtain ⟨X, hX, hXl, hXt⟩ : ∃ X : List Value, (List.take i (ints l)).toArray ++ Builtin.zeroCells (Value.int .i64 0).cells (l.length + 1 - i) ++ Builtin.zeroCells (Value.int .i64 0).cells (C - (l.length + 1)) = X.toArray ∧ X.length = C ∧ X.take i = List.take i (ints l) := by
            refine ⟨List.take i (ints l) ++ ((Builtin.zeroCells (Value.int .i64 0).cells (l.length + 1 - i)).toList ++ (Builtin.zeroCells (Value.int .i64 0).cells (C - (l.length + 1))).toList), by simp, ?_, List.take_left' hti⟩
            rw [List.length_append, List.length_append, hti, hz', hz']
            omega
          rw [hX] at hA ⊢
          have hD : ((ints l).drop i).length = l.length - i := by rw [List.length_drop, hil]
          have hH := heap_setCells [.int .i64 x] (0 + i) X 3 (0, 0) (w.alloc (.cells X.toArray 3)).drew hA (by simp; omega)
          have hYl : (X.take (0 + i) ++ [Value.int .i64 x] ++ X.drop (0 + i + [Value.int .i64 x].length)).length = C := by simp; omega
          have hH2 := heap_setCells ((ints l).drop i) (0 + (i + 1)) _ 3 (0, 0) ((w.alloc (.cells X.toArray 3)).drew.setCells w.heap.size (0 + i) [.int .i64 x]).drew hH (by rw [hYl, hD]; omega)
          simp only [Nat.zero_add, List.length_singleton] at hH2
          have hlen : (l.take i ++ x :: l.drop i).length = l.length + 1 := by simp; omega
          have e1 : (X.take i ++ [Value.int .i64 x] ++ X.drop (i + 1)).take (i + 1) = (ints l).take i ++ [Value.int .i64 x] := by
            rw [hXt]; exact List.take_left' (by rw [List.length_append, hti]; rfl)
          have := row_mk (l := l.take i ++ x :: l.drop i) (cap := C) (by simpa only [Nat.zero_add] using hH2) (by simp; omega) hle (by rw [hlen]; omega)
            (by
              rw [e1, show (ints l).take i ++ [Value.int .i64 x] ++ (ints l).drop i = ints (l.take i ++ x :: l.drop i) by simp [ints, List.map_take, List.map_drop]]
              exact List.take_left' (by simp [ints]))
          rw [hlen] at this
          simpa only [Nat.zero_add] using this
        · exact ((((Chg.alloc _ w _).trans (Chg.drew _ _)).past _ _ _ (Nat.le_refl _)).trans (Chg.drew _ _)).past _ _ _ (Nat.le_refl _)

def DelPost (v : Value) (l : List Int) (i : Nat) (w : World) (e : Ending) (w' : World) : Prop :=
  ∃ v', e = .returned v' ∧ Row w' v' (l.take i ++ l.drop (i + 1)) ∧ v'.ownBlock = v.ownBlock ∧ Chg (fun k => v.ownBlock = some k) w w'

/-- slices.Delete of one element. -/
theorem del_any (v : Value) (l : List Int) (i : Nat) (hi : i < l.length) (w : World) (hr : Row w v l) :
    Calls Try.prog 55 #[v, .int .i64 i, .int .i64 ((i : Int) + 1)] w (DelPost v l i w) := by
  rw [show (i : Int) + 1 = ((i + 1 : Nat) : Int) by omega]
  rcases hr with ⟨rfl, rfl⟩ | ⟨g, pad, rfl, hh, hcap⟩
  · cases hi
  · refine (Try.slices_Delete_int_cells g 0 l.length (l.length + pad.length) i (i + 1) l w (Nat.le_refl _) (by omega) hcap (by omega) (by omega) (row_cells hh) (fun j _ => frozen_in hh _)).mono ?_
    rintro e w' ⟨rfl, q, rfl⟩
    rw [List.take_length]
    refine ⟨_, rfl, ?_, rfl, (Chg.drewN (fun k => some g = some k) w q).trans (Chg.setCells _ g _ _ rfl)⟩
    have hlen : (l.take i ++ l.drop (i + 1)).length = l.length - (i + 1 - i) := by simp; omega
    have hH := heap_setCells (ints (l.take i ++ l.drop (i + 1) ++ List.replicate (i + 1 - i) 0)) 0 (ints l ++ pad) 3 (0, 0) (w.drewN q) hh (by simp; omega)
    have := row_mk (l := l.take i ++ l.drop (i + 1)) (cap := l.length + pad.length) hH (by simp; omega) hcap (by rw [hlen]; omega)
      (by
        rw [List.take_zero, List.nil_append, ints, List.map_append, List.append_assoc]
        exact List.take_left' (by simp))
    rw [hlen] at this
    exact this

theorem row_of_owns {w : World} {base : Nat} {v : Value} {l : List Int} (h : w.ownsRow base 3 1 v l.length (ints l)) : Row w v l ∧ ∀ g, v.ownBlock = some g → base ≤ g := by
  obtain ⟨_, h | ⟨g, cap, cur, rfl, hb, hh, hn, hc, hs, ht⟩⟩ := h
  · obtain ⟨rfl, h0⟩ := h
    exact ⟨.inl ⟨rfl, List.eq_nil_of_length_eq_zero h0⟩, fun g hg => by cases hg⟩
  · refine ⟨row_mk hh (by omega) hc hn (by rw [Nat.mul_one] at ht; exact ht), fun g' hg => by cases hg; exact hb⟩

def AllPost (l : List Int) (w : World) (e : Ending) (w' : World) : Prop :=
  ∃ v', e = .returned v' ∧ Row w' v' l ∧ (∀ g, v'.ownBlock = some g → w.heap.size ≤ g) ∧ Below w.heap.size w w'

/-- slices.Clone. -/
theorem clone_any (v : Value) (l : List Int) (hl : l.length ≤ 100000) (w : World) (hr : Row w v l) : Calls Try.prog 33 #[v] w (AllPost l w) := by
  rcases hr with ⟨rfl, rfl⟩ | ⟨g, pad, rfl, hh, hcap⟩
  · refine (Try.slices_Clone_int_nil 0 0 w).mono ?_
    rintro e w' ⟨rfl, rfl⟩
    exact ⟨_, rfl, .inl ⟨rfl, rfl⟩, fun g hg => (by cases hg), Below.refl _ _⟩
  · refine (Try.slices_Clone_int g 0 l.length (l.length + pad.length) l w (Nat.le_refl _) (by omega) (row_cells hh)).mono ?_
    rintro e w' ⟨v', rfl, ho, _, hb⟩
    rw [List.take_length] at ho
    obtain ⟨h1, h2⟩ := row_of_owns ho
    exact ⟨v', rfl, h1, h2, hb⟩
end Go.Proofs.Ytoaellmjgejgfaa
