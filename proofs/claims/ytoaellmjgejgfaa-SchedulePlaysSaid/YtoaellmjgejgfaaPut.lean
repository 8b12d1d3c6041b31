/- The methods of schedule's sets, by pointer into an object. -/
import Derived.Test.YtoaellmjgejgfaaSet
import Derived.WalkSpells
import Derived.WalkLawsBesides
namespace Go.Proofs.Ytoaellmjgejgfaa
open Go Go.RowKit Go.Shelf Go.Lib
set_option linter.unusedVariables false

set_option maxRecDepth 100000 in
set_option maxHeartbeats 1000000 in
theorem has_any (pb po : Nat) (arr : Array Value) (t : Nat) (v : Value) (l : List Int) (x : Int) (w : World) (ho : w.heap[pb]? = some (.cells arr t)) (ha : arr[po]? = some v)
    (hr : Row w v l) (hs : Sorted l) (hl : l.length ≤ 100000) :
    Calls Try.prog 42 #[.pointer (some ⟨pb, po, none⟩), .int .i64 x] w fun e w' => e = .returned (.bool (l.contains x)) ∧ ∃ q, w' = w.drewN q := by
  have hc : w.cell? ⟨pb, po, none⟩ = some v := by rw [cells_in ho]; exact ha
  have hb := bs_any v l hs hl x w hr
  generalize l.contains x = bb at *
  generalize l.countP (· < x) = i at *
  have Hb := hid hb
  clear hr hs ho ha hb
  go_enter Try.func42, Try.ntmps42
  go_wp2_with fail
  refine Hb.out.mono ?_; rintro e w' ⟨rfl, q, rfl⟩
  go_wp2_with fail
  go_ret
  exact ⟨rfl, q, rfl⟩

/-- What a set's method may have done to the object that holds it. -/
def PutPost (pb po : Nat) (arr : Array Value) (t : Nat) (v : Value) (l' : List Int) (w : World) (e : Ending) (w' : World) : Prop :=
  e = .returned (.tuple #[]) ∧ ∃ v', w'.heap[pb]? = some (.cells (arr.setIfInBounds po v') t) ∧ Row w' v' l' ∧ (v'.ownBlock = v.ownBlock ∨ ∃ g, v'.ownBlock = some g ∧ w.heap.size ≤ g) ∧ Chg (fun k => k = pb ∨ v.ownBlock = some k) w w'

theorem arr_same {arr : Array Value} {po : Nat} {v : Value} (h : arr[po]? = some v) : arr.setIfInBounds po v = arr := by
  apply Array.ext_getElem?
  intro i
  rw [Array.getElem?_setIfInBounds]
  by_cases hi : po = i
  · subst hi
    rw [if_pos rfl, h, if_pos (Array.getElem?_eq_some_iff.1 h).1]
  · rw [if_neg hi]

theorem Row.slice {w : World} {v : Value} {l : List Int} (h : Row w v l) : ∃ oa n c, v = .slice oa n c := by
  rcases h with ⟨rfl, _⟩ | ⟨g', pad, rfl, _⟩
  · exact ⟨_, _, _, rfl⟩
  · exact ⟨_, _, _, rfl⟩

theorem obj_set {w : World} {pb po : Nat} {arr : Array Value} {t : Nat} (h : w.heap[pb]? = some (.cells arr t)) (v : Value) :
    (w.setCell ⟨pb, po, none⟩ v).heap[pb]? = some (.cells (arr.setIfInBounds po v) t) := by
  simp [World.setCell, Array.getElem?_modify, h]
theorem Chg.setCell {B : Nat → Prop} (w : World) (b o : Nat) (v : Value) (hb : B b) : Chg B w (w.setCell ⟨b, o, none⟩ v) :=
  ⟨rfl, rfl, rfl, by simp [World.setCell], fun k hk hn => Below.heap_setCell _ _ _ _ (fun e => hn (e ▸ hb))⟩

set_option maxRecDepth 100000 in
set_option maxHeartbeats 1000000 in
theorem put_any (pb po : Nat) (arr : Array Value) (t : Nat) (v : Value) (l : List Int) (x : Int) (w : World) (ho : w.heap[pb]? = some (.cells arr t)) (ha : arr[po]? = some v)
    (hr : Row w v l) (hs : Sorted l) (hl : l.length ≤ 100000) (hne : v.ownBlock ≠ some pb) :
    Calls Try.prog 34 #[.pointer (some ⟨pb, po, none⟩), .int .i64 x] w (PutPost pb po arr t v (ins x l) w) := by
  have hc : w.cell? ⟨pb, po, none⟩ = some v := by rw [cells_in ho]; exact ha
  have Hb := hid (bs_any v l hs hl x w hr)
  have hpl : pb < w.heap.size := (Array.getElem?_eq_some_iff.1 ho).1
  have Ho := hid ho
  have Ha := hid ha
  have Hr := hid hr
  have Hne := hid hne
  have hcnt : l.countP (· < x) ≤ l.length := List.countP_le_length
  clear hr hs ho ha hne
  cases hx : l.contains x with
  | true =>
    have hins : ins x l = l := by unfold ins; rw [hx]; rfl
    rw [hx] at Hb
    rw [hins]
    clear hx hins
    go_enter Try.func34, Try.ntmps34
    go_wp2_with fail
    refine Hb.out.mono ?_; rintro e w' ⟨rfl, q, rfl⟩
    go_wp2_with fail
    refine bodyPost_ret (v := .tuple #[]) (by simp [results, Try.results34]) rfl ?_
    exact ⟨rfl, v, by rw [arr_same Ha.out]; exact Ho.out, Hr.out.chg (Chg.drewN (fun _ => False) w q) (fun _ _ h => h), .inl rfl, Chg.drewN _ w q⟩
  | false =>
    have hins : ins x l = l.take (l.countP (· < x)) ++ x :: l.drop (l.countP (· < x)) := by unfold ins; rw [hx]; rfl
    rw [hx] at Hb
    rw [hins]
    clear hx hins
    generalize l.countP (· < x) = i at *
    go_enter Try.func34, Try.ntmps34
    go_wp2_with fail
    refine Hb.out.mono ?_; rintro e w' ⟨rfl, q, rfl⟩
    go_wp2_with fail
    have hvb : ((w.drewN q).alloc (.cells #[.int .i64 x] 3)).heap[w.heap.size]? = some (.cells #[.int .i64 x] 3) := heap_alloc_at (w.drewN q) _
    have c0 : Chg (fun _ => False) w ((w.drewN q).alloc (.cells #[.int .i64 x] 3)) := (Chg.drewN _ w q).trans (Chg.alloc _ _ _)
    have hpo : ((w.drewN q).alloc (.cells #[.int .i64 x] 3)).heap[pb]? = some (.cells arr t) := (c0.block pb hpl (fun h => h)).trans Ho.out
    have hr1 := Hr.out.chg c0 (fun _ _ h => h)
    have hsz : ((w.drewN q).alloc (.cells #[.int .i64 x] 3)).heap.size = w.heap.size + 1 := by simp
    have hnb : v.ownBlock ≠ some w.heap.size := fun h => Nat.lt_irrefl _ (Hr.out.lt h)
    generalize (w.drewN q).alloc (.cells #[.int .i64 x] 3) = w1 at *
    refine (ins_any v l i hcnt hl x w.heap.size w1 hr1 hvb hnb).mono ?_; rintro e w' ⟨v', rfl, hr2, hown, hchg⟩
    have hpo2 : w'.heap[pb]? = some (.cells arr t) := (hchg.block pb (by omega) Hne.out).trans hpo
    have hc2 : w'.cell? ⟨pb, po, none⟩ = some v := by rw [cells_in hpo2]; exact Ha.out
    have hf2 : w'.frozen? ⟨pb, po, none⟩ = false := frozen_in hpo2 _
    have Hpo2 := hid hpo2
    obtain ⟨oa, n', c', rfl⟩ := hr2.slice
    have Hr2 := hid hr2
    have Hown := hid hown
    have Hchg := hid hchg
    have C0 := hid c0
    clear hpo2 hr2 hown hchg c0 hr1 hvb hpo
    go_wp2_with fail
    refine bodyPost_ret (v := .tuple #[]) (by simp [results, Try.results34]) rfl ?_
    have hnew : Value.ownBlock (.slice oa n' c') ≠ some pb := by
      rcases Hown.out with h | ⟨g, h, hg⟩
      · rw [h]; exact Hne.out
      · rw [h]; intro e; cases e; omega
    refine ⟨rfl, _, obj_set Hpo2.out _, Hr2.out.chg (Chg.setCell (B := fun k => k = pb) w' pb po _ rfl) (fun g hg e => hnew (e ▸ hg)), ?_, ?_⟩
    · exact Hown.out.imp id fun ⟨g, h, hg⟩ => ⟨g, h, by omega⟩
    · exact ((C0.out.mono fun _ _ h => h.elim).trans (Hchg.out.mono fun _ _ h => .inr h)).trans (Chg.setCell _ _ _ _ (.inl rfl))


set_option maxRecDepth 100000 in
set_option maxHeartbeats 1000000 in
theorem drop_any (pb po : Nat) (arr : Array Value) (t : Nat) (v : Value) (l : List Int) (x : Int) (w : World) (ho : w.heap[pb]? = some (.cells arr t)) (ha : arr[po]? = some v)
    (hr : Row w v l) (hs : Sorted l) (hl : l.length ≤ 100000) (hne : v.ownBlock ≠ some pb) :
    Calls Try.prog 40 #[.pointer (some ⟨pb, po, none⟩), .int .i64 x] w (PutPost pb po arr t v (del x l) w) := by
  have hc : w.cell? ⟨pb, po, none⟩ = some v := by rw [cells_in ho]; exact ha
  have Hb := hid (bs_any v l hs hl x w hr)
  have hpl : pb < w.heap.size := (Array.getElem?_eq_some_iff.1 ho).1
  have Ho := hid ho
  have Ha := hid ha
  have Hr := hid hr
  have Hne := hid hne
  have hcnt : x ∈ l → l.countP (· < x) < l.length := fun hm => by
    have h1 := List.countP_eq_length_filter (p := fun y : Int => decide (y < x)) (l := l)
    have h2 : (l.filter fun y => decide (y < x)).length < l.length := by
      refine List.length_filter_lt_length_iff_exists.2 ⟨x, hm, by simp⟩
    omega
  clear hr hs ho ha hne
  cases hx : l.contains x with
  | false =>
    have hdel : del x l = l := by unfold del; rw [hx]; rfl
    rw [hx] at Hb
    rw [hdel]
    clear hx hdel
    go_enter Try.func40, Try.ntmps40
    go_wp2_with fail
    refine Hb.out.mono ?_; rintro e w' ⟨rfl, q, rfl⟩
    go_wp2_with fail
    refine bodyPost_ret (v := .tuple #[]) (by simp [results, Try.results40]) rfl ?_
    exact ⟨rfl, v, by rw [arr_same Ha.out]; exact Ho.out, Hr.out.chg (Chg.drewN (fun _ => False) w q) (fun _ _ h => h), .inl rfl, Chg.drewN _ w q⟩
  | true =>
    have hdel : del x l = l.take (l.countP (· < x)) ++ l.drop (l.countP (· < x) + 1) := by unfold del; rw [hx]; rfl
    have hlt := hcnt (List.contains_iff_mem.1 hx)
    rw [hx] at Hb
    rw [hdel]
    clear hx hdel hcnt
    generalize l.countP (· < x) = i at *
    go_enter Try.func40, Try.ntmps40
    go_wp2_with fail
    refine Hb.out.mono ?_; rintro e w' ⟨rfl, q, rfl⟩
    go_wp2_with fail
    have c0 : Chg (fun _ => False) w (w.drewN q) := Chg.drewN _ w q
    have hpo : (w.drewN q).heap[pb]? = some (.cells arr t) := Ho.out
    have hr1 := Hr.out.chg c0 (fun _ _ h => h)
    have hsz : (w.drewN q).heap.size = w.heap.size := rfl
    generalize w.drewN q = w1 at *
    refine (del_any v l i hlt w1 hr1).mono ?_; rintro e w' ⟨v', rfl, hr2, hown, hchg⟩
    have hpo2 : w'.heap[pb]? = some (.cells arr t) := (hchg.block pb (by omega) Hne.out).trans hpo
    have hc2 : w'.cell? ⟨pb, po, none⟩ = some v := by rw [cells_in hpo2]; exact Ha.out
    have hf2 : w'.frozen? ⟨pb, po, none⟩ = false := frozen_in hpo2 _
    have Hpo2 := hid hpo2
    obtain ⟨oa, n', c', rfl⟩ := hr2.slice
    have Hr2 := hid hr2
    have Hown := hid hown
    have Hchg := hid hchg
    have C0 := hid c0
    clear hpo2 hr2 hown hchg c0 hr1 hpo
    go_wp2_with fail
    refine bodyPost_ret (v := .tuple #[]) (by simp [results, Try.results40]) rfl ?_
    have hnew : Value.ownBlock (.slice oa n' c') ≠ some pb := by rw [Hown.out]; exact Hne.out
    refine ⟨rfl, _, obj_set Hpo2.out _, Hr2.out.chg (Chg.setCell (B := fun k => k = pb) w' pb po _ rfl) (fun g hg e => hnew (e ▸ hg)), .inl Hown.out, ?_⟩
    exact ((C0.out.mono fun _ _ h => h.elim).trans (Hchg.out.mono fun _ _ h => .inr h)).trans (Chg.setCell _ _ _ _ (.inl rfl))

set_option maxRecDepth 100000 in
set_option maxHeartbeats 1000000 in
theorem all_any (pb po : Nat) (arr : Array Value) (t : Nat) (v : Value) (l : List Int) (w : World) (ho : w.heap[pb]? = some (.cells arr t)) (ha : arr[po]? = some v)
    (hr : Row w v l) (hl : l.length ≤ 100000) :
    Calls Try.prog 45 #[.pointer (some ⟨pb, po, none⟩)] w (AllPost l w) := by
  have hc : w.cell? ⟨pb, po, none⟩ = some v := by rw [cells_in ho]; exact ha
  have Hr := hid hr
  clear hr ho ha
  go_enter Try.func45, Try.ntmps45
  go_wp2_with fail
  refine (clone_any v l hl w Hr.out).mono ?_; rintro e w' ⟨v', rfl, hp⟩
  have HP := hid hp
  clear hp
  go_wp2_with fail
  go_ret
  exact ⟨v', rfl, HP.out⟩
end Go.Proofs.Ytoaellmjgejgfaa
