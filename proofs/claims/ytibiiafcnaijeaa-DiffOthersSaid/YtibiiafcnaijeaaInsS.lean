/- slices.Insert at a row of names of the call's own. -/
import Derived.Test.YtibiiafcnaijeaaRow
import Derived.Test.YtibiiafcnaijeaaShelf
namespace Go.Proofs.Ytibiiafcnaijeaa
open Go Go.RowKit Go.Shelf Go.Lib
set_option linter.unusedVariables false
set_option linter.unusedSimpArgs false
/-- The slice value v holds l in a row of its own. -/
def Row (w : World) (v : Value) (l : List ByteArray) : Prop :=
  (v = .slice none 0 0 ∧ l = []) ∨
  ∃ g pad, v = .slice (some ⟨g, 0, none⟩) l.length (l.length + pad.length) ∧ w.heap[g]? = some (.cells (strs l ++ pad).toArray 9) ∧ l.length + pad.length ≤ 9223372036854775807

theorem Chg.past {B : Nat → Prop} {w v : World} (h : Chg B w v) (b o : Nat) (vs : List Value) (hb : w.heap.size ≤ b) : Chg B w (v.setCells b o vs) := by
  have hc : Chg (fun k => k = b) v (v.setCells b o vs) := Chg.setCells _ _ _ _ rfl
  exact ⟨hc.os.trans h.os, hc.tape.trans h.tape, hc.output.trans h.output, Nat.le_trans h.size hc.size, fun k hk hn => (hc.block k (Nat.lt_of_lt_of_le hk h.size) (by omega)).trans (h.block k hk hn)⟩

theorem Row.lt {w : World} {v : Value} {l : List ByteArray} (h : Row w v l) {g : Nat} (hg : v.ownBlock = some g) : g < w.heap.size := by
  rcases h with ⟨rfl, _⟩ | ⟨g', pad, rfl, hh, _⟩
  · cases hg
  · cases hg
    exact (Array.getElem?_eq_some_iff.1 hh).1
theorem Row.of_same {w w' : World} {v : Value} {l : List ByteArray} (h : Row w v l) (hk : ∀ g, v.ownBlock = some g → w'.heap[g]? = w.heap[g]?) : Row w' v l := by
  rcases h with h | ⟨g', pad, rfl, hh, hc⟩
  · exact .inl h
  · exact .inr ⟨g', pad, rfl, by rw [hk g' rfl]; exact hh, hc⟩
theorem Row.chg {B : Nat → Prop} {w w' : World} {v : Value} {l : List ByteArray} (h : Row w v l) (hc : Chg B w w') (hn : ∀ g, v.ownBlock = some g → ¬ B g) : Row w' v l :=
  h.of_same fun g hg => hc.block g (h.lt hg) (hn g hg)

theorem set_take_drop {α : Type} (cs : List α) (o : Nat) (v : α) (r : List α) (h : o + r.length + 1 ≤ cs.length) :
    (cs.set o v).take (o + 1) ++ r ++ (cs.set o v).drop (o + 1 + r.length) = cs.take o ++ (v :: r) ++ cs.drop (o + (r.length + 1)) := by
  have h1 : (cs.set o v).take (o + 1) = cs.take o ++ [v] := by
    rw [List.take_succ_eq_append_getElem (by simp; omega)]
    congr 1
    · rw [List.take_set, List.set_eq_of_length_le (by rw [List.length_take]; omega)]
    · simp
  rw [h1, List.drop_set_of_lt (by omega), show o + (r.length + 1) = o + 1 + r.length by omega]
  simp

theorem heap_setCells {b : Nat} : ∀ (vs : List Value) (o : Nat) (cs : List Value) (t : Nat) (fz : Nat × Nat) (w : World), w.heap[b]? = some (.cells cs.toArray t fz) → o + vs.length ≤ cs.length →
    (w.setCells b o vs).heap[b]? = some (.cells (cs.take o ++ vs ++ cs.drop (o + vs.length)).toArray t fz)
  | [], o, cs, t, fz, w, h, hl => by rw [World.setCells]; simpa using h
  | v :: r, o, cs, t, fz, w, h, hl => by
    simp only [List.length_cons] at hl
    have h1 : (w.setCell ⟨b, o, none⟩ v).heap[b]? = some (.cells (cs.set o v).toArray t fz) := by
      simp [World.setCell, Array.getElem?_modify, h]
    have := heap_setCells r (o + 1) (cs.set o v) t fz _ h1 (by simp; omega)
    rw [World.setCells, this, set_take_drop cs o v r (by omega)]
    rfl

theorem shape_in {w : World} {b : Nat} {cs : Array Value} {t : Nat} (h : w.heap[b]? = some (.cells cs t (0, 0))) : w.shape? b = some (t, cs.size) := by
  simp [World.shape?, h]

def InsPost (v : Value) (l : List ByteArray) (i : Nat) (x : ByteArray) (w : World) (e : Ending) (w' : World) : Prop :=
  ∃ v', e = .returned v' ∧ Row w' v' (l.take i ++ x :: l.drop i) ∧ (v'.ownBlock = v.ownBlock ∨ ∃ g, v'.ownBlock = some g ∧ w.heap.size ≤ g) ∧ Chg (fun k => v.ownBlock = some k) w w'

theorem strs_get (l : List ByteArray) (j : Nat) (v : Value) (h : (strs l)[j]? = some v) : l[j]?.map (Value.string) = some v := by
  simpa [strs] using h

theorem row_get {w : World} {g : Nat} {l : List ByteArray} {pad : List Value} (h : w.heap[g]? = some (.cells (strs l ++ pad).toArray 9)) (j : Nat) (v : Value) (hj : (strs l)[j]? = some v) :
    w.cell? ⟨g, 0 + j, none⟩ = some v := by
  have hlt : j < (strs l).length := (List.getElem?_eq_some_iff.1 hj).1
  rw [cells_in h]
  simp only [Nat.zero_add, List.getElem?_toArray]
  rw [List.getElem?_append_left hlt]
  exact hj

theorem one_strs (l : List ByteArray) : ∀ v ∈ strs l, v.oneCell' = true := by
  intro v hv
  obtain ⟨x, _, rfl⟩ := List.mem_map.1 hv
  rfl

theorem row_mk {w : World} {g cap : Nat} {l : List ByteArray} {cs : Array Value} (h : w.heap[g]? = some (.cells cs 9)) (hs : cs.size = cap) (hc : cap ≤ 9223372036854775807)
    (hl : l.length ≤ cap) (hp : cs.toList.take l.length = strs l) : Row w (.slice (some ⟨g, 0, none⟩) l.length cap) l := by
  have h0 : cs.toList.length = cap := by simp [hs]
  have hlen : l.length + (cs.toList.drop l.length).length = cap := by rw [List.length_drop, h0]; omega
  refine .inr ⟨g, cs.toList.drop l.length, by rw [hlen], ?_, by omega⟩
  rw [← hp, List.take_append_drop]
  exact h

theorem shift_list {α : Type} (A pad : List α) (i : Nat) (x : α) (hi : i < A.length) (B : List α)
    (hB : B = (A ++ pad).take (i + 1) ++ A.drop i ++ (A ++ pad).drop (i + 1 + (A.drop i).length)) :
    B.take i ++ [x] ++ B.drop (i + 1) = A.take i ++ x :: A.drop i ++ pad.drop 1 := by
  have e1 : (A ++ pad).take (i + 1) = A.take (i + 1) := List.take_append_of_le_length (by omega)
  have e2 : (A ++ pad).drop (i + 1 + (A.drop i).length) = pad.drop 1 := by
    rw [List.length_drop, show i + 1 + (A.length - i) = A.length + 1 by omega, List.drop_append, List.drop_of_length_le (by omega), show A.length + 1 - A.length = 1 by omega]
    rfl
  have hl : (A.take (i + 1)).length = i + 1 := by rw [List.length_take]; omega
  rw [e1, e2, List.append_assoc] at hB
  subst hB
  rw [List.take_append_of_le_length (by omega), List.take_take, show min i (i + 1) = i by omega, List.drop_left' hl]
  simp

/-- slices.Insert of one element that lies in a block of its own. -/
theorem ins_any (v : Value) (l : List ByteArray) (i : Nat) (hi : i ≤ l.length) (hl : l.length ≤ 100000) (x : ByteArray) (vb : Nat) (w : World) (hr : Row w v l)
    (hvb : w.heap[vb]? = some (.cells #[.string x] 9)) (hne : v.ownBlock ≠ some vb) :
    Calls Try.prog 42 #[v, .int .i64 i, .slice (some ⟨vb, 0, none⟩) 1 1] w (InsPost v l i x w) := by
  have hvs : ∀ j u, [Value.string x][j]? = some u → w.cell? ⟨vb, 0 + j, none⟩ = some u := fun j u hj => by
    rw [cells_in hvb]; simpa using hj
  have h1v : ∀ u ∈ [Value.string x], u.oneCell' = true := by simp [Value.oneCell']
  have t3 : Try.laysNm222_ren.t 9 = 9 := rfl
  have hz : ∀ n, (Builtin.zeroCells (Value.string ⟨#[]⟩).cells n).size = n := fun n => by rw [size_zeroCells]; simp [Value.cells]
  rcases hr with ⟨rfl, rfl⟩ | ⟨g, pad, rfl, hh, hcap⟩
  · have h0 : i = 0 := by simpa using hi
    subst h0
    have hge := grownCap_ge w 1 0 9
    have hle := grownCap_le_maxLen w 1 0 9 (by decide)
    refine (Any2.slices_Insert_string_end_grow Try.laysNm222 none 0 0 vb 0 1 1 [] [.string x] w (by omega) (by omega) (by omega) (by omega) rfl rfl (fun _ => rfl) (by simp) hvs h1v).mono ?_
    rintro e w' ⟨rfl, rfl⟩
    rw [t3, Nat.zero_add]
    refine ⟨_, rfl, ?_, .inr ⟨_, rfl, Nat.le_refl _⟩, (Chg.drew _ _).trans (Chg.alloc _ _ _)⟩
    refine row_mk (l := [x]) (heap_alloc_at w.drew _) ?_ hle hge ?_
    · rw [Array.size_append, hz]; simp; omega
    · simp [strs]
  · have hgl : g < w.heap.size := (Array.getElem?_eq_some_iff.1 hh).1
    have hil : (strs l).length = l.length := by simp
    by_cases hroom : 1 ≤ pad.length
    · by_cases hend : i = l.length
      · subst hend
        refine (Any2.slices_Insert_string_end_room Try.laysNm222 g 0 l.length (l.length + pad.length) vb 0 1 1 [.string x] w (by omega) (by omega) (by omega) rfl ?_ ?_ hvs h1v).mono ?_
        · intro j hj
          rw [cells_in hh]
          simp only [List.getElem?_toArray, Option.isSome_iff_exists]
          exact ⟨_, List.getElem?_eq_getElem (by simp; omega)⟩
        · intro j hj
          exact frozen_in hh _
        · rintro e w' ⟨rfl, rfl⟩
          refine ⟨_, rfl, ?_, .inl rfl, Chg.setCells _ _ _ _ rfl⟩
          have hH := heap_setCells [.string x] (0 + l.length) (strs l ++ pad) 9 (0, 0) w hh (by simp; omega)
          rw [show (l.take l.length ++ x :: l.drop l.length) = l ++ [x] by simp]
          have := row_mk (l := l ++ [x]) (cap := l.length + pad.length) hH (by simp; omega) (by omega) (by simp; omega) (by simp [strs, List.take_append]; exact List.take_of_length_le (by simp))
          simpa using this
      · have hilt : i < l.length := by omega
        have hshape := shape_in hh
        refine (Any2.slices_Insert_string_shift Try.laysNm222 g 0 l.length (l.length + pad.length) i vb 0 1 1 (strs l) [.string x] w hilt (by omega) (by omega) (by omega) (fun e => hne (by rw [e]; rfl)) hil rfl
          (fun j u hj => row_get hh j u hj) ?_ (fun j _ => frozen_in hh _) hvs (one_strs l) h1v _ _ _ _ (shape_in hvb) hshape (by rw [List.size_toArray, List.length_append, hil]; omega) (frozen_in hvb _) (frozen_in hvb _)).mono ?_
        · intro j hj
          rw [cells_in hh]
          simp only [List.getElem?_toArray, Option.isSome_iff_exists]
          exact ⟨_, List.getElem?_eq_getElem (by simp; omega)⟩
        · rintro e w' ⟨rfl, rfl⟩
          refine ⟨_, rfl, ?_, .inl rfl, ?_⟩
          rotate_left
          · exact ((Chg.drew (fun k => some g = some k) w).trans (Chg.setCells _ g _ _ rfl)).trans (Chg.setCells _ g _ _ rfl)
          have hH := heap_setCells ((strs l).drop i) (0 + (i + 1)) (strs l ++ pad) 9 (0, 0) w.drew hh (by simp; omega)
          have hH2 := heap_setCells [.string x] (0 + i) _ 9 (0, 0) _ hH (by simp; omega)
          simp only [Nat.zero_add, List.length_singleton] at hH2
          rw [shift_list (strs l) pad i (.string x) (by omega) _ rfl] at hH2
          have hlen : (l.take i ++ x :: l.drop i).length = l.length + 1 := by simp; omega
          have := row_mk (l := l.take i ++ x :: l.drop i) (cap := l.length + pad.length) (by simpa only [Nat.zero_add] using hH2) (by simp; omega) (by omega) (by rw [hlen]; omega)
            (by
              have e : (strs l).take i ++ Value.string x :: (strs l).drop i = strs (l.take i ++ x :: l.drop i) := by simp [strs, List.map_take, List.map_drop]
              rw [e]
              exact List.take_left' (by simp [strs]))
          rw [hlen] at this
          simpa only [Nat.zero_add] using this
    · have hp : pad = [] := List.eq_nil_of_length_eq_zero (by omega)
      subst hp
      simp only [List.length_nil, Nat.add_zero] at hcap hne ⊢
      have hcs : ∀ j u, (strs l)[j]? = some u → w.cell? ⟨g, 0 + j, none⟩ = some u := fun j u hj => row_get hh j u hj
      have hge := grownCap_ge w (l.length + 1) l.length 9
      have hle := grownCap_le_maxLen w (l.length + 1) l.length 9 (by unfold maxLen; omega)
      by_cases hend : i = l.length
      · subst hend
        refine (Any2.slices_Insert_string_end_grow Try.laysNm222 (some ⟨g, 0, none⟩) l.length l.length vb 0 1 1 (strs l) [.string x] w (by omega) (by omega) (by omega) (by omega) hil rfl (fun h => by cases h)
          (fun a ha j u hj => by cases ha; have := hcs j u hj; rw [Nat.zero_add] at this; rw [show (⟨g, 0, none⟩ : Addr).add j = ⟨g, j, none⟩ by unfold Addr.add; split <;> simp_all]; exact this) hvs h1v).mono ?_
        rintro e w' ⟨rfl, rfl⟩
        rw [t3]
        refine ⟨_, rfl, ?_, .inr ⟨_, rfl, Nat.le_refl _⟩, (Chg.drew _ _).trans (Chg.alloc _ _ _)⟩
        rw [show (l.take l.length ++ x :: l.drop l.length) = l ++ [x] by simp]
        have := row_mk (l := l ++ [x]) (heap_alloc_at w.drew _) (cap := grownCap w (l.length + 1) l.length 9) (cs := (strs l ++ [Value.string x]).toArray ++ Builtin.zeroCells (Value.string ⟨#[]⟩).cells (grownCap w (l.length + 1) l.length 9 - (l.length + 1)))
          (by rw [Array.size_append, hz]; simp; omega) hle (by simpa using hge) (by rw [Array.toList_append]; rw [show (strs l ++ [Value.string x]) = strs (l ++ [x]) by simp [strs]]; exact List.take_left' (by simp [strs]))
        simpa using this
      · have hilt : i < l.length := by omega
        refine (Any2.slices_Insert_string_grow Try.laysNm222 g 0 l.length l.length i vb 0 1 1 (strs l) [.string x] w hilt (by omega) (by omega) (by omega) (by omega) hil rfl hcs hvs (one_strs l) h1v).mono ?_
        rintro e w' ⟨rfl, rfl⟩
        rw [t3]
        generalize grownCap w (l.length + 1) l.length 9 = C at *
        have hno : ∀ k, k < w.heap.size → ¬ (k = w.heap.size) := fun k hk => Nat.ne_of_lt hk
        refine ⟨_, rfl, ?_, .inr ⟨_, rfl, Nat.le_refl _⟩, ?_⟩
        · have hA := heap_alloc_at w (.cells ((List.take i (strs l)).toArray ++ Builtin.zeroCells (Value.string ⟨#[]⟩).cells (l.length + 1 - i) ++ Builtin.zeroCells (Value.string ⟨#[]⟩).cells (C - (l.length + 1))) 9)
          have hz' : ∀ n, (Builtin.zeroCells (Value.string ⟨#[]⟩).cells n).toList.length = n := fun n => by rw [Array.length_toList]; exact hz n
          have hti : (List.take i (strs l)).length = i := by rw [List.length_take, hil]; omega
          obtain ⟨X, hX, hXl, hXt⟩ : ∃ X : List Value, (List.take i (strs l)).toArray ++ Builtin.zeroCells (Value.string ⟨#[]⟩).cells (l.length + 1 - i) ++ Builtin.zeroCells (Value.string ⟨#[]⟩).cells (C - (l.length + 1)) = X.toArray ∧ X.length = C ∧ X.take i = List.take i (strs l) := by
            refine ⟨List.take i (strs l) ++ ((Builtin.zeroCells (Value.string ⟨#[]⟩).cells (l.length + 1 - i)).toList ++ (Builtin.zeroCells (Value.string ⟨#[]⟩).cells (C - (l.length + 1))).toList), by simp, ?_, List.take_left' hti⟩
            rw [List.length_append, List.length_append, hti, hz', hz']
            omega
          rw [hX] at hA ⊢
          have hD : ((strs l).drop i).length = l.length - i := by rw [List.length_drop, hil]
          have hH := heap_setCells [.string x] (0 + i) X 9 (0, 0) (w.alloc (.cells X.toArray 9)).drew hA (by simp; omega)
          have hYl : (X.take (0 + i) ++ [Value.string x] ++ X.drop (0 + i + [Value.string x].length)).length = C := by simp; omega
          have hH2 := heap_setCells ((strs l).drop i) (0 + (i + 1)) _ 9 (0, 0) ((w.alloc (.cells X.toArray 9)).drew.setCells w.heap.size (0 + i) [.string x]).drew hH (by rw [hYl, hD]; omega)
          simp only [Nat.zero_add, List.length_singleton] at hH2
          have hlen : (l.take i ++ x :: l.drop i).length = l.length + 1 := by simp; omega
          have e1 : (X.take i ++ [Value.string x] ++ X.drop (i + 1)).take (i + 1) = (strs l).take i ++ [Value.string x] := by
            rw [hXt]; exact List.take_left' (by rw [List.length_append, hti]; rfl)
          have := row_mk (l := l.take i ++ x :: l.drop i) (cap := C) (by simpa only [Nat.zero_add] using hH2) (by simp; omega) hle (by rw [hlen]; omega)
            (by
              rw [e1, show (strs l).take i ++ [Value.string x] ++ (strs l).drop i = strs (l.take i ++ x :: l.drop i) by simp [strs, List.map_take, List.map_drop]]
              exact List.take_left' (by simp [strs]))
          rw [hlen] at this
          simpa only [Nat.zero_add] using this
        · exact ((((Chg.alloc _ w _).trans (Chg.drew _ _)).past _ _ _ (Nat.le_refl _)).trans (Chg.drew _ _)).past _ _ _ (Nat.le_refl _)
end Go.Proofs.Ytibiiafcnaijeaa
