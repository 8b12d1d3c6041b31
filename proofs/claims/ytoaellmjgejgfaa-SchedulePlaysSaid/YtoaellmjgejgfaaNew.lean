/- New. -/
import Derived.Test.YtoaellmjgejgfaaSort
import Derived.Test.YtoaellmjgejgfaaRight
import Derived.Test.YtoaellmjgejgfaaSteps
import Derived.Test.YtoaellmjgejgfaaRdy
namespace Go.Proofs.Ytoaellmjgejgfaa
open Go Go.RowKit Go.Shelf Go.Proofs.Ytoaellmjgejgfaa.Steady
set_option linter.unusedVariables false

theorem clone_view (v : Value) (l : List Int) (hl : l.length ≤ 100000) (w : World) (hr : View w v l) : Calls Try.prog 33 #[v] w (AllPost l w) := by
  rcases hr with ⟨h0, oa, c, rfl⟩ | ⟨g, o, c, rfl, hc⟩
  · have : l = [] := by simpa using h0
    subst this
    cases oa with
    | none =>
      refine (Try.slices_Clone_int_nil 0 c w).mono ?_
      rintro e w' ⟨rfl, rfl⟩
      exact ⟨_, rfl, .inl ⟨rfl, rfl⟩, fun g hg => (by cases hg), Below.refl _ _⟩
    | some a =>
      refine (Try.slices_Clone_int_zero a c w).mono ?_
      rintro e w' ⟨v', rfl, ho, _, hb⟩
      obtain ⟨h1, h2⟩ := row_of_owns (l := []) ho
      exact ⟨v', rfl, h1, h2, hb⟩
  · rw [List.length_map]
    refine (Try.slices_Clone_int g o l.length c l w (Nat.le_refl _) (by omega) (fun j hj => ?_)).mono ?_
    · refine hc j _ ?_
      rw [List.getElem?_map, List.getElem?_eq_getElem hj, List.getD_eq_getElem?_getD, List.getElem?_eq_getElem hj]; rfl
    · rintro e w' ⟨v', rfl, ho, _, hb⟩
      rw [List.take_length] at ho
      obtain ⟨h1, h2⟩ := row_of_owns ho
      exact ⟨v', rfl, h1, h2, hb⟩

/-- The object right after New's first steps. -/
def stN (ns : List (List Int)) (limit : Int) (k m : Nat) : St := ⟨ns.take k, [], limit, (List.range m).map Int.ofNat, [], [], [], []⟩
def stNew (ns : List (List Int)) (order : List Int) (limit : Int) : St := ⟨ns, order, limit, (List.range ns.length).map Int.ofNat, [], [], [], []⟩

theorem range_sorted (m : Nat) : Sorted ((List.range m).map Int.ofNat) := by
  refine List.Pairwise.map _ (fun a b (h : a < b) => ?_) List.pairwise_lt_range
  show (a : Int) < (b : Int)
  omega
theorem range_mem {m : Nat} {y : Int} : y ∈ (List.range m).map Int.ofNat ↔ 0 ≤ y ∧ y < m := by
  simp only [List.mem_map, List.mem_range]
  constructor
  · rintro ⟨n, h, rfl⟩
    show (0 : Int) ≤ (n : Int) ∧ (n : Int) < m
    omega
  · rintro ⟨h1, h2⟩
    exact ⟨y.toNat, by omega, by show ((y.toNat : Nat) : Int) = y; omega⟩
theorem good_stN (ns : List (List Int)) (limit : Int) (k m : Nat) (hm : m ≤ k) (hk : k ≤ ns.length) (hn : ns.length ≤ 2048) (hl : ∀ j, j < k → (nd ns j).length ≤ 50000) : Good (stN ns limit k m) := by
  have hlen : (stN ns limit k m).needs.length = k := by simp [stN]; omega
  refine ⟨by omega, by simp [stN], fun l hl' => ?_, fun y hy => (by cases hy), range_sorted m, fun y hy => ?_, List.Pairwise.nil, fun y hy => (by cases hy), List.Pairwise.nil, fun y hy => (by cases hy), List.Pairwise.nil, fun y hy => (by cases hy), List.Pairwise.nil, fun y hy => (by cases hy)⟩
  · obtain ⟨j, hj, rfl⟩ := List.getElem_of_mem hl'
    have hj' : j < k := by rw [hlen] at hj; exact hj
    have := hl j hj'
    rw [nd, List.getD_eq_getElem?_getD, List.getElem?_eq_getElem (by omega)] at this
    simpa [stN] using this
  · have := range_mem.1 hy
    rw [hlen]; omega
theorem ins_range (m : Nat) : ins (m : Int) ((List.range m).map Int.ofNat) = (List.range (m + 1)).map Int.ofNat := by
  refine sorted_ext (sorted_ins (range_sorted m)) (range_sorted (m + 1)) fun y => ?_
  rw [mem_ins, range_mem, range_mem]
  omega

theorem NeedsT.owns {own : Nat → Nat} {w : World} {v : Value} {ns : List (List Int)} (h : NeedsT own 2 w v ns) :
    ∃ vs : List Value, vs.length = ns.length ∧ (∀ (i : Nat) u l, vs[i]? = some u → ns[i]? = some l → RowT own 2 w u l) ∧ w.ownsRow 0 31 1 v vs.length vs ∧ (∀ g, v.ownBlock = some g → own g = 2) ∧ ∀ u ∈ vs, ∀ g, v.ownBlock = some g → u.ownBlock ≠ some g := by
  obtain ⟨vs, hl, hr, hv⟩ := h
  refine ⟨vs, hl, hr, ⟨by simp, ?_⟩, ?_, ?_⟩
  · rcases hv with ⟨rfl, rfl⟩ | ⟨g, pad, rfl, hh, hg, hx, hd⟩
    · exact .inl ⟨rfl, rfl⟩
    · exact .inr ⟨g, _, _, rfl, Nat.zero_le _, hh, by omega, by unfold maxLen; omega, by simp, by simp⟩
  · rcases hv with ⟨rfl, rfl⟩ | ⟨g, pad, rfl, hh, hg, hx, hd⟩
    · intro g hg; cases hg
    · intro g' hg'; cases hg'; exact hg
  · rcases hv with ⟨rfl, rfl⟩ | ⟨g, pad, rfl, hh, hg, hx, hd⟩
    · intro u hu; cases hu
    · intro u hu g' hg'; cases hg'; exact hd u hu

theorem NeedsT.of_owns {own : Nat → Nat} {w : World} {v : Value} {ns : List (List Int)} {vs : List Value} {n : Nat} (h : w.ownsRow 0 31 1 v n vs) (hg : ∀ g, v.ownBlock = some g → own g = 2) (hl : vs.length = ns.length)
    (hr : ∀ (i : Nat) u l, vs[i]? = some u → ns[i]? = some l → RowT own 2 w u l) (hd : ∀ u ∈ vs, ∀ g, v.ownBlock = some g → u.ownBlock ≠ some g) : NeedsT own 2 w v ns := by
  have hn : n = vs.length := by have := h.1; omega
  subst hn
  refine ⟨vs, hl, hr, ?_⟩
  rcases h.2 with ⟨rfl, h0⟩ | ⟨g, cap, cur, rfl, _, hh, hc, hm, hs, ht⟩
  · exact .inl ⟨rfl, List.eq_nil_of_length_eq_zero h0⟩
  · refine .inr ⟨g, cur.toList.drop vs.length, ?_, ?_, hg g rfl, ?_, fun u hu => hd u hu g rfl⟩
    · congr 1; simp; omega
    · rw [Nat.mul_one] at ht
      have e : vs ++ cur.toList.drop vs.length = cur.toList := by
        conv => rhs; rw [← List.take_append_drop vs.length cur.toList, ht]
      rw [e]; exact hh
    · unfold maxLen at hm; simp; omega

/-- New's object while the loop goes on. -/
structure NI (B : Nat) (own : Nat → Nat) (w : World) (b : Nat) (vn vwt : Value) (s : St) : Prop where
  hb : own b = 1
  low : ∀ k, k < B → own k = 0
  hh : w.heap[b]? = some (objOf s vn (.slice none 0 0) vwt (.slice none 0 0) (.slice none 0 0) (.slice none 0 0) (.slice none 0 0))
  hn : NeedsT own 2 w vn s.needs
  hw : RowT own 3 w vwt s.wt

/-- needs has grown by a clone. -/
theorem NI.add {B : Nat} {own : Nat → Nat} {w w1 w2 : World} {b : Nat} {s : St} {vn vwt v1 vn' : Value} {vs : List Value} {l : List Int} {n : Nat} (h : NI B own w b vn vwt s) (hB : B ≤ w.heap.size)
    (hvl : vs.length = s.needs.length) (hvr : ∀ (i : Nat) u l, vs[i]? = some u → s.needs[i]? = some l → RowT own 2 w u l) (hvg : ∀ g, vn.ownBlock = some g → own g = 2) (hvlt : ∀ g, vn.ownBlock = some g → g < w.heap.size) (hvd : ∀ u ∈ vs, ∀ g, vn.ownBlock = some g → u.ownBlock ≠ some g)
    (h1 : Below w.heap.size w w1) (hr1 : Row w1 v1 l) (hg1 : ∀ g, v1.ownBlock = some g → w.heap.size ≤ g)
    (hown : w2.ownsRow 0 31 1 vn' (n + 1) (vs ++ [v1])) (hc : Chg (fun k => vn.ownBlock = some k) w1 w2) (hp : vn'.ownBlock = vn.ownBlock ∨ ∃ g, vn'.ownBlock = some g ∧ w1.heap.size ≤ g) :
    NI B (own2 own w 2) (w2.setCell ⟨b, 0, none⟩ vn') b vn' vwt { s with needs := s.needs ++ [l] } ∧ w2.cell? ⟨b, 0, none⟩ = some vn ∧ w2.frozen? ⟨b, 0, none⟩ = false ∧ Below B w (w2.setCell ⟨b, 0, none⟩ vn') := by
  have ho := own2_same own w 2
  have hbl : b < w.heap.size := (Array.getElem?_eq_some_iff.1 h.hh).1
  have c1 : Chg (fun k => vn.ownBlock = some k) w w2 := by
    have a1 : Chg (fun k => vn.ownBlock = some k) w w1 := Chg.below h1
    exact a1.trans hc
  have hnb : ¬ vn.ownBlock = some b := fun e => by have := hvg b e; have := h.hb; omega
  have hh2 := h.hh
  rw [← c1.block b hbl hnb] at hh2
  have c2 : Chg (fun k => k = b ∨ vn.ownBlock = some k) w (w2.setCell ⟨b, 0, none⟩ vn') := (c1.mono fun k _ h => .inr h).trans (Chg.setCell _ _ _ _ (.inl rfl))
  have c3 : Chg (fun k => k = b) w2 (w2.setCell ⟨b, 0, none⟩ vn') := Chg.setCell _ _ _ _ rfl
  have hob : own2 own w 2 b = 1 := (ho b hbl).trans h.hb
  have hz1 := h1.size
  have hz2 := hc.size
  have hg' : ∀ g, vn'.ownBlock = some g → own2 own w 2 g = 2 := fun g hg => by
    rcases hp with e | ⟨g', e, hg'⟩
    · rw [e] at hg; exact (ho g (hvlt g hg)).trans (hvg g hg)
    · rw [e] at hg; cases hg; exact own2_new (by omega)
  have hlt : ∀ g, vn'.ownBlock = some g → g < w2.heap.size := fun g hg => (hown.lt g hg).2
  have keepR : ∀ {u l'}, RowT (own2 own w 2) 2 w2 u l' → RowT (own2 own w 2) 2 (w2.setCell ⟨b, 0, none⟩ vn') u l' := fun hr =>
    hr.keep c3 (fun k _ e h2 => by rw [e, hob] at h2; omega) (SameOwn.refl _ _)
  refine ⟨⟨hob, fun k hk => (ho k (by omega)).trans (h.low k hk), ?_, ?_, ?_⟩, ?_, ?_, ?_⟩
  · rw [obj_set hh2]; rfl
  · refine NeedsT.of_owns (n := n + 1) (vs := vs ++ [v1]) ?_ hg' (by simp [hvl]) ?_ ?_
    · refine ⟨hown.1, ?_⟩
      rcases hown.2 with h0 | ⟨g, cap, cur, e, p1, p2, p3⟩
      · exact .inl h0
      · refine .inr ⟨g, cap, cur, e, p1, ?_, p3⟩
        rw [c3.block g ((Array.getElem?_eq_some_iff.1 p2).1) (fun e2 => by have := hg' g (by rw [e]; rfl); rw [e2, hob] at this; omega)]
        exact p2
    · intro i u l' hu hl'
      by_cases hi : i < vs.length
      · rw [List.getElem?_append_left hi] at hu
        rw [List.getElem?_append_left (by omega)] at hl'
        have hr := hvr i u l' hu hl'
        refine ⟨(hr.1.chg c2 fun g hg hB => ?_), fun g hg => (ho g (hr.1.lt hg)).trans (hr.2 g hg)⟩
        rcases hB with e | e
        · have := hr.2 g hg; rw [e, h.hb] at this; omega
        · exact hvd u (List.mem_of_getElem? hu) g e hg
      · have hie : i = vs.length := by
          have := (List.getElem?_eq_some_iff.1 hu).1
          simp at this; omega
        subst hie
        rw [List.getElem?_append_right (Nat.le_refl _)] at hu
        rw [hvl, List.getElem?_append_right (Nat.le_refl _)] at hl'
        simp at hu hl'
        subst hu hl'
        refine ⟨?_, fun g hg => own2_new (hg1 g hg)⟩
        have hr2 : Row w2 v1 l := hr1.chg hc fun g hg hB => by have := hg1 g hg; have := hvlt g hB; omega
        exact hr2.chg c3 fun g hg e => by have := hg1 g hg; omega
    · intro u hu g hg
      rcases List.mem_append.1 hu with hu | hu
      · intro hug
        rcases hp with e | ⟨g', e, hg'⟩
        · exact hvd u hu g (e ▸ hg) hug
        · rw [e] at hg; cases hg
          obtain ⟨i, hi⟩ := List.getElem?_of_mem hu
          have hil : i < s.needs.length := by rw [← hvl]; exact (List.getElem?_eq_some_iff.1 hi).1
          have := (hvr i u _ hi (List.getElem?_eq_getElem hil)).1.lt hug
          omega
      · simp at hu
        subst hu
        intro hug
        rcases hp with e | ⟨g', e, hg'⟩
        · have := hvlt g (e ▸ hg); have := hg1 g hug; omega
        · rw [e] at hg; cases hg
          have := hr1.lt hug
          omega
  · exact (h.hw.keep c2 (fun k _ hB e => by
      rcases hB with rfl | hB
      · have := h.hb; omega
      · have := hvg k hB; omega) ho)
  · rw [cells_in hh2]; rfl
  · exact frozen_in hh2 _
  · refine ⟨c2.os, c2.tape, c2.output, c2.size, fun k hk => c2.block k (by omega) ?_⟩
    rintro (rfl | e)
    · have := h.low k hk; have := h.hb; omega
    · have := h.low k hk; have := hvg k e; omega

theorem NI.below {B : Nat} {own : Nat → Nat} {w w' : World} {b : Nat} {vn vwt : Value} {s : St} (h : NI B own w b vn vwt s) (hB : B ≤ w.heap.size) (hb : Below w.heap.size w w') (tag : Nat) : NI B (own2 own w tag) w' b vn vwt s := by
  have ho := own2_same own w tag
  have hbl : b < w.heap.size := (Array.getElem?_eq_some_iff.1 h.hh).1
  have hc : Chg (fun _ => False) w w' := Chg.below hb
  exact ⟨(ho b hbl).trans h.hb, fun k hk => (ho k (by omega)).trans (h.low k hk), (hb.block b hbl).trans h.hh, h.hn.keep hc (fun _ _ h => h.elim) ho, h.hw.keep hc (fun _ _ h => h.elim) ho⟩
theorem owns_keep {w w' : World} {e size n : Nat} {v : Value} {xs : List Value} {P : Nat → Prop} (h : w.ownsRow 0 e size v n xs) (hc : Chg P w w') (hn : ∀ g, v.ownBlock = some g → ¬ P g) : w'.ownsRow 0 e size v n xs := by
  refine ⟨h.1, ?_⟩
  rcases h.2 with h0 | ⟨g, cap, cur, rfl, p1, p2, p3⟩
  · exact .inl h0
  · exact .inr ⟨g, cap, cur, rfl, p1, by rw [hc.block g (Array.getElem?_eq_some_iff.1 p2).1 (hn g rfl)]; exact p2, p3⟩

theorem NI.sch {B : Nat} {own : Nat → Nat} {w w2 : World} {b : Nat} {vn vwt vo : Value} {s : St} {order : List Int} (h : NI B own w b vn vwt s) (hB : B ≤ w.heap.size) (hb : Below w.heap.size w w2) (hr : Row w2 vo order) (hg : ∀ g, vo.ownBlock = some g → w.heap.size ≤ g) (he : s.rn = [] ∧ s.dn = [] ∧ s.fl = [] ∧ s.sk = []) :
    Sch (own2 own w 2) (w2.setCell ⟨b, 1, none⟩ vo) b { s with order := order } ∧ (∀ k, k < B → own2 own w 2 k = 0) ∧ Below B w (w2.setCell ⟨b, 1, none⟩ vo) ∧ w2.cell? ⟨b, 1, none⟩ = some (.slice none 0 0) ∧ w2.frozen? ⟨b, 1, none⟩ = false := by
  have h2 := h.below hB hb 2
  have hbl : b < w.heap.size := (Array.getElem?_eq_some_iff.1 h.hh).1
  have c3 : Chg (fun k => k = b) w2 (w2.setCell ⟨b, 1, none⟩ vo) := Chg.setCell _ _ _ _ rfl
  have no : ∀ t, t ≠ 1 → ∀ k, k < w2.heap.size → k = b → own2 own w 2 k ≠ t := fun t ht k _ e e2 => by rw [e, h2.hb] at e2; omega
  obtain ⟨e1, e2, e3, e4⟩ := he
  have hnil : ∀ t, RowT (own2 own w 2) t (w2.setCell ⟨b, 1, none⟩ vo) (.slice none 0 0) [] := fun t => ⟨.inl ⟨rfl, rfl⟩, fun g hg => by cases hg⟩
  have hro : RowT (own2 own w 2) 2 w2 vo order := ⟨hr, fun g hg' => own2_new (hg g hg')⟩
  refine ⟨⟨h2.hb, vn, vo, vwt, .slice none 0 0, .slice none 0 0, .slice none 0 0, .slice none 0 0, ?_, h2.hn.keep c3 (no 2 (by omega)) (SameOwn.refl _ _), hro.keep c3 (no 2 (by omega)) (SameOwn.refl _ _), h2.hw.keep c3 (no 3 (by omega)) (SameOwn.refl _ _), ?_, ?_, ?_, ?_⟩, h2.low, ?_, ?_, ?_⟩
  · rw [obj_set h2.hh]; rfl
  · rw [show ({ s with order := order } : St).rn = [] from e1]; exact hnil 4
  · rw [show ({ s with order := order } : St).dn = [] from e2]; exact hnil 5
  · rw [show ({ s with order := order } : St).fl = [] from e3]; exact hnil 6
  · rw [show ({ s with order := order } : St).sk = [] from e4]; exact hnil 7
  · exact (hb.mono hB).setCell (show B ≤ b by apply Classical.byContradiction; intro hc; have := h.low b (by omega); have := h.hb; omega) _
  · rw [cells_in h2.hh]; rfl
  · exact frozen_in h2.hh _

theorem NI.put {B : Nat} {own : Nat → Nat} {w w' : World} {b : Nat} {s : St} {vn vwt : Value} {l' : List Int} {e : Ending} (h : NI B own w b vn vwt s) (hB : B ≤ w.heap.size)
    (hp : PutPost b 3 #[vn, .slice none 0 0, .int .i64 s.limit, vwt, .slice none 0 0, .slice none 0 0, .slice none 0 0, .slice none 0 0] 63 vwt l' w e w') :
    e = .returned (.tuple #[]) ∧ ∃ v', NI B (own2 own w 3) w' b vn v' { s with wt := l' } ∧ Below B w w' := by
  obtain ⟨rfl, v', hobj, hr, hown, hchg⟩ := hp
  have ho := own2_same own w 3
  have hbl : b < w.heap.size := (Array.getElem?_eq_some_iff.1 h.hh).1
  have no : ∀ t, t ≠ 1 → t ≠ 3 → ∀ k, k < w.heap.size → (k = b ∨ vwt.ownBlock = some k) → own k ≠ t := fun t h1 h2 k hk hB e => by
    rcases hB with rfl | hB
    · have := h.hb; omega
    · have := h.hw.2 k hB; omega
  refine ⟨rfl, v', ⟨(ho b hbl).trans h.hb, fun k hk => (ho k (by omega)).trans (h.low k hk), hobj, h.hn.keep hchg (no 2 (by omega) (by omega)) ho, ⟨hr, ?_⟩⟩, ?_⟩
  · intro g hg
    rcases hown with h' | ⟨g', h', hg'⟩
    · rw [h'] at hg
      exact (ho g (h.hw.1.lt hg)).trans (h.hw.2 g hg)
    · rw [h'] at hg
      cases hg
      exact own2_new hg'
  · refine ⟨hchg.os, hchg.tape, hchg.output, hchg.size, fun k hk => hchg.block k (by omega) ?_⟩
    rintro (rfl | e)
    · have := h.low k hk; have := h.hb; omega
    · have := h.low k hk; have := h.hw.2 k e; omega

open Classical in
/-- New's answer. -/
noncomputable def newCode (ns : List (List Int)) (limit : Int) : Int :=
  if 2048 < ns.length then 14 else if ¬ (1 ≤ limit ∧ limit ≤ 64) then 1 else if ¬ Valid ns then 1 else if Topo ns then 0 else 10

/-- What New leaves. -/
def NewPost (ns : List (List Int)) (limit : Int) (w : World) (e : Ending) (w' : World) : Prop :=
  (∃ c : Int, c ≠ 0 ∧ newCode ns limit = c ∧ e = .returned (.tuple #[.pointer none, .int .i64 c]) ∧ Below w.heap.size w w') ∨
  (∃ b own order, newCode ns limit = 0 ∧ e = .returned (.tuple #[.pointer (some ⟨b, 0, none⟩), .int .i64 0]) ∧ Below w.heap.size w w' ∧ Sch own w' b (stNew ns order limit) ∧ OrdSpec ns order ∧ order.length = ns.length ∧ Valid ns ∧ 1 ≤ limit ∧ limit ≤ 64 ∧
    (∀ k, k < w.heap.size → own k = 0) ∧ w.heap.size ≤ b)

theorem code_many {ns : List (List Int)} {limit : Int} (h : 2048 < ns.length) : newCode ns limit = 14 := by unfold newCode; rw [if_pos h]
theorem code_limit {ns : List (List Int)} {limit : Int} (h : ns.length ≤ 2048) (h2 : ¬ (1 ≤ limit ∧ limit ≤ 64)) : newCode ns limit = 1 := by unfold newCode; rw [if_neg (by omega), if_pos h2]
theorem code_invalid {ns : List (List Int)} {limit : Int} (h : ns.length ≤ 2048) (h2 : 1 ≤ limit ∧ limit ≤ 64) (hv : ¬ Valid ns) : newCode ns limit = 1 := by unfold newCode; rw [if_neg (by omega), if_neg (not_not_intro h2), if_pos hv]
theorem code_ok {ns : List (List Int)} {limit : Int} (h : ns.length ≤ 2048) (h2 : 1 ≤ limit ∧ limit ≤ 64) (hv : Valid ns) (ht : Topo ns) : newCode ns limit = 0 := by unfold newCode; rw [if_neg (by omega), if_neg (not_not_intro h2), if_neg (not_not_intro hv), if_pos ht]
theorem code_cycle {ns : List (List Int)} {limit : Int} (h : ns.length ≤ 2048) (h2 : 1 ≤ limit ∧ limit ≤ 64) (hv : Valid ns) (ht : ¬ Topo ns) : newCode ns limit = 10 := by unfold newCode; rw [if_neg (by omega), if_neg (not_not_intro h2), if_neg (not_not_intro hv), if_neg ht]
theorem valid_of {ns : List (List Int)} (h : ∀ j, j < ns.length → rightB (nd ns j) j ns.length = true) : Valid ns := fun n hn => rightB_spec.1 (h n hn)
theorem not_valid {ns : List (List Int)} {k : Nat} (hk : k < ns.length) (h : rightB (nd ns k) k ns.length = false) : ¬ Valid ns := fun hv => by
  have := rightB_spec.2 (hv k hk); rw [h] at this; cases this

set_option maxRecDepth 100000 in
set_option maxHeartbeats 400000 in
theorem new_many (oa : Option Addr) (len c : Nat) (h : 2048 < len) (hl : len ≤ 9223372036854775807) (limit : Int) (w : World) :
    Calls Try.prog 12 #[.slice oa len c, .int .i64 limit] w fun e w' => e = .returned (.tuple #[.pointer none, .int .i64 14]) ∧ w = w' := by
  go_enter Try.func12, Try.ntmps12
  go_wp2_with fail
  go_ret2
  exact ⟨rfl, rfl⟩

set_option maxRecDepth 100000 in
set_option maxHeartbeats 400000 in
theorem new_limit (oa : Option Addr) (len c : Nat) (h : len ≤ 2048) (limit : Int) (hl : ¬ (1 ≤ limit ∧ limit ≤ 64)) (w : World) :
    Calls Try.prog 12 #[.slice oa len c, .int .i64 limit] w fun e w' => e = .returned (.tuple #[.pointer none, .int .i64 1]) ∧ w = w' := by
  by_cases h1 : limit < 1
  · clear hl
    go_enter Try.func12, Try.ntmps12
    go_wp2_with fail
    go_ret2
    exact ⟨rfl, rfl⟩
  · have h2 : 64 < limit := by omega
    clear hl
    go_enter Try.func12, Try.ntmps12
    go_wp2_with fail
    go_ret2
    exact ⟨rfl, rfl⟩

set_option maxRecDepth 100000 in
set_option maxHeartbeats 8000000 in
theorem new_any (w : World) (v : Value) (ns : List (List Int)) (hS : SView w v ns) (limit : Int) (hl : ns.length ≤ 9223372036854775807) (hll : ∀ j, j < ns.length → (nd ns j).length ≤ 50000) :
    Calls Try.prog 12 #[v, .int .i64 limit] w (NewPost ns limit w) := by
  obtain ⟨oa, c, rfl⟩ := hS.len
  by_cases hbig : 2048 < ns.length
  · refine (new_many oa ns.length c hbig hl limit w).mono ?_
    rintro e w' ⟨rfl, rfl⟩
    exact .inl ⟨14, by decide, code_many hbig, rfl, Below.refl _ _⟩
  by_cases hlim : 1 ≤ limit ∧ limit ≤ 64
  case neg =>
    refine (new_limit oa ns.length c (by omega) limit hlim w).mono ?_
    rintro e w' ⟨rfl, rfl⟩
    exact .inl ⟨1, by decide, code_limit (by omega) hlim, rfl, Below.refl _ _⟩
  have HS := hid hS
  have HLL := hid hll
  have hl1 := hlim.1
  have hl2 := hlim.2
  have hnl : ns.length ≤ 2048 := by omega
  have n0 : NI w.heap.size (fun k => if k < w.heap.size then 0 else 1) (w.alloc (.cells #[.slice none 0 0, .slice none 0 0, .int .i64 limit, .slice none 0 0, .slice none 0 0, .slice none 0 0, .slice none 0 0, .slice none 0 0] 63)) w.heap.size (.slice none 0 0) (.slice none 0 0) (stN ns limit 0 0) :=
    ⟨by simp, fun k hk => by simp [hk], heap_alloc_at w _, ⟨[], by simp [stN], fun i u l hu => (by cases hu), .inl ⟨rfl, rfl⟩⟩, ⟨.inl ⟨rfl, rfl⟩, fun g hg => by cases hg⟩⟩
  have N0 := hid n0
  have B0 := hid ((Below.refl w.heap.size w).alloc (Nat.le_refl _) (.cells #[.slice none 0 0, .slice none 0 0, .int .i64 limit, .slice none 0 0, .slice none 0 0, .slice none 0 0, .slice none 0 0, .slice none 0 0] 63))
  clear hS hll hlim hbig n0 hl
  go_enter Try.func12, Try.ntmps12
  go_wp2_with fail
  obtain ⟨b, hb⟩ : ∃ b, b = w.heap.size := ⟨_, rfl⟩
  have Hb := hid hb
  have N1 : Hid (NI w.heap.size (fun k => if k < w.heap.size then 0 else 1) (w.alloc (.cells #[.slice none 0 0, .slice none 0 0, .int .i64 limit, .slice none 0 0, .slice none 0 0, .slice none 0 0, .slice none 0 0, .slice none 0 0] 63)) b (.slice none 0 0) (.slice none 0 0) (stN ns limit 0 0)) := by rw [hb]; exact N0
  rw [← hb]
  clear N0 hb
  generalize w.alloc (.cells #[.slice none 0 0, .slice none 0 0, .int .i64 limit, .slice none 0 0, .slice none 0 0, .slice none 0 0, .slice none 0 0, .slice none 0 0] 63) = w1 at *
  go_loopw [25] (fun i wr => ∃ (k : Nat) (own : Nat → Nat) (vn vwt : Value), k ≤ ns.length ∧ i = .int .i64 k ∧ Hid (NI w.heap.size own wr b vn vwt (stN ns limit k k)) ∧ Hid (Below w.heap.size w wr) ∧ Hid (∀ j, j < k → rightB (nd ns j) j ns.length = true)) (fun i _ => ns.length - (intOf i).toNat)
  case atStart => exact ⟨0, _, _, _, Nat.zero_le _, rfl, N1, B0, hid fun j hj => absurd hj (Nat.not_lt_zero _)⟩
  case round =>
    obtain ⟨k, own, vn, vwt, hk, rfl, N, B, A⟩ := hrel
    clear N1 B0
    by_cases hlt : k < ns.length
    · obtain ⟨g, o, c2, u, hv, hc0, hc1, hc2, hview⟩ := HS.out.at hlt
      cases hv
      have hk0 : (0 : Int) ≤ (k : Int) := by omega
      have hk1 : (k : Int) < (ns.length : Int) := by omega
      have d0 := Keeps.below B.out _ _ _ hc0
      have d1 := Keeps.below B.out _ _ _ hc1
      have d2 := Keeps.below B.out _ _ _ hc2
      have hvw := hview.keep (Keeps.below B.out)
      have hvl := HLL.out k hlt
      obtain ⟨ou, cu, rfl⟩ := hview.len
      have hva := hvw.keep (Keeps.below ((Below.refl wr.heap.size wr).alloc (Nat.le_refl _) (.cells #[.int .i64 0, .int .i64 0, .slice ou (nd ns k).length cu] 67)))
      have HR := hid (right_any _ _ (nd ns k) hva hvl k ns.length)
      have HVA := hid hva
      have Hnk : Hid (nd ns k = nd ns k) := hid rfl
      obtain ⟨l, hle⟩ : ∃ l, nd ns k = l := ⟨_, rfl⟩
      rw [hle] at d2 hvw hvl hva HR HVA
      have HLE := hid hle
      clear hc0 hc1 hc2 hview hvw hva Hnk hle
      cases hrb : rightB l k ns.length with
      | false =>
        rw [hrb] at HR
        have HRB := hid hrb
        clear hrb
        go_wp2_with fail
        refine HR.out.mono ?_; rintro e w' ⟨rfl, rfl⟩
        go_wp2_with fail
        go_ret2
        have hnv : ¬ Valid ns := not_valid hlt (by rw [HLE.out]; exact HRB.out)
        refine .inl ⟨1, by decide, code_invalid hnl ⟨hl1, hl2⟩ hnv, rfl, B.out.alloc B.out.size _⟩
      | true =>
        rw [hrb] at HR
        have HRB := hid hrb
        clear hrb
        go_wp2_with fail
        refine HR.out.mono ?_; rintro e w' ⟨rfl, rfl⟩
        go_wp2_with fail
        obtain ⟨wx, hwx⟩ : ∃ wx, wx = wr.alloc (.cells #[.int .i64 0, .int .i64 0, .slice ou l.length cu] 67) := ⟨_, rfl⟩
        have hbx : Below wr.heap.size wr wx := by rw [hwx]; exact (Below.refl _ _).alloc (Nat.le_refl _) _
        have hNx := (N.out.below B.out.size (hbx.drew) 8)
        have hxc : wx.cell? ⟨wr.heap.size, 2, none⟩ = some (.slice ou l.length cu) := by rw [hwx, cells_in (heap_alloc_at wr _)]; rfl
        have hxl : wr.heap.size < wx.heap.size := by rw [hwx]; simp
        have hbc : wx.cell? ⟨b, 0, none⟩ = some vn := by
          have := hNx.hh
          exact (cells_in (w := wx.drew) this 0).trans rfl
        rw [← hwx]
        rw [← hwx] at HVA
        have Bx := hid (B.out.trans (hbx.mono B.out.size))
        have hzx : w.heap.size ≤ wx.drew.heap.size := Nat.le_trans B.out.size (Nat.le_of_lt hxl)
        obtain ⟨vs, hvl1, hvr, hvo, hvg, hvd⟩ := hNx.hn.owns
        have hvlt : ∀ g, vn.ownBlock = some g → g < wx.drew.heap.size := fun g hg => (hvo.lt g hg).2
        have hvlen : vs.length ≤ 2048 := by rw [hvl1]; simp [stN]; omega
        have hbl : b < wx.drew.heap.size := (Array.getElem?_eq_some_iff.1 hNx.hh).1
        have NX := hid hNx
        have HVL := hid hvl1
        have HVR := hid hvr
        have HVO := hid hvo
        have HVG := hid hvg
        have HVD := hid hvd
        have HVLT := hid hvlt
        have HXC := hid hxc
        have HBC := hid hbc
        have HXO := hid (own2_new (own := own) (w := wr) (tag := 8) (k := wr.heap.size) (Nat.le_refl _))
        have Hdr : Hid (View wx.drew (.slice ou l.length cu) l) := HVA.out.keep (fun g o u h => h)
        clear hNx hvl1 hvr hvo hvg hvd hvlt hwx hbx HR d0 d1 d2 HVA hxc hbc N B
        generalize wr.heap.size = xb at *
        refine wp_region_steady_tail 12 (fun v => v.cell? ⟨b, 0, none⟩ = some vn ∧ v.cell? ⟨xb, 2, none⟩ = some (.slice ou l.length cu)) (by kernel_rfl) (by kernel_rfl) (⟨HBC.out, HXC.out⟩) ?_
        simp only [List.take_succ_cons, List.take_zero, List.drop_succ_cons, List.drop_zero]
        generalize hwd : wx.drew = wd at *
        have Hwd := hid hwd
        clear hwd
        repeat (first
          | (refine wpSteady_skip (by rfl) ?_; try simp only [Act.put, List.setIfInBounds_toArray, List.set_cons_zero, List.set_cons_succ])
          | (refine wpSteady_calm (v := ?_) (by rfl) ?_ ?_; rotate_left; (focus (intro v hSv; (try dsimp only at hSv); go_simp; (try with_reducible rfl); done)); try simp only [Act.put, List.setIfInBounds_toArray, List.set_cons_zero, List.set_cons_succ]))
        refine wpSteady_loud rfl (by rfl) (fun K hK => ?_)
        go_simp
        refine (clone_view _ l (Nat.le_trans hvl (by decide)) _ Hdr.out).mono ?_
        rintro e w2 hp
        obtain ⟨v1, rfl, hr1, hg1, hb1⟩ := hp
        obtain ⟨o1, c1, rfl⟩ := row_len hr1
        have hcb2 : w2.cell? ⟨b, 0, none⟩ = some vn := Keeps.below hb1 _ _ _ (by rw [← Hwd.out]; exact HBC.out)
        have hcx2 : w2.cell? ⟨xb, 2, none⟩ = some (.slice ou l.length cu) := Keeps.below hb1 _ _ _ (by rw [← Hwd.out]; exact HXC.out)
        have HCB2 := hid hcb2
        have HCX2 := hid hcx2
        have HR1 := hid hr1
        have HG1 := hid hg1
        have HB1 := hid hb1
        clear hcb2 hcx2 hr1 hg1 hb1
        refine hK.out _ _ ⟨HCB2.out, HCX2.out⟩ ?_
        clear hK K
        try simp only [Act.put, List.setIfInBounds_toArray, List.set_cons_zero, List.set_cons_succ]
        repeat (first
          | (refine wpSteady_skip (by rfl) ?_; try simp only [Act.put, List.setIfInBounds_toArray, List.set_cons_zero, List.set_cons_succ])
          | (refine wpSteady_calm (v := ?_) (by rfl) ?_ ?_; rotate_left; (focus (intro v hSv; (try dsimp only at hSv); go_simp; (try with_reducible rfl); done)); try simp only [Act.put, List.setIfInBounds_toArray, List.set_cons_zero, List.set_cons_succ]))
        refine wpSteady_loud rfl (by rfl) (fun K hK => ?_)
        go_simp
        refine hK.out _ _ ⟨Keeps.below ((Below.refl w2.heap.size w2).alloc (Nat.le_refl _) _) _ _ _ HCB2.out, Keeps.below ((Below.refl w2.heap.size w2).alloc (Nat.le_refl _) _) _ _ _ HCX2.out⟩ ?_
        clear hK K
        try simp only [Act.put, List.setIfInBounds_toArray, List.set_cons_zero, List.set_cons_succ]
        have HVO2 := hid (owns_keep (P := fun _ => False) HVO.out (Chg.below HB1.out) (fun _ _ h => h))
        refine wpSteady_loud rfl (by rfl) (fun K hK => ?_)
        refine app_tag_wp (.tmp 41) (.tmp 45) 22 rfl 31 (.slice none 0 0) 1 24 Try.underlying22 info31 rfl (by decide) (by decide) _ _ _ HVO2.out rfl [.slice o1 l.length c1] w2.heap.size rfl rfl rfl (by simp [Value.oneCell']) (by omega) ?_
        intro vn' w3 hown3 hc3 hp3 hne3
        obtain ⟨ov, nv, cv, rfl⟩ := owns_slice hown3
        obtain ⟨NA, ncb, nfb, nB⟩ := NX.out.add hzx HVL.out HVR.out HVG.out HVLT.out HVD.out HB1.out HR1.out HG1.out hown3 hc3 hp3
        have hcx3 : w3.cell? ⟨xb, 2, none⟩ = some (.slice ou l.length cu) := by
          have hx1 : xb < w2.heap.size := by
            have := HB1.out.size
            rw [← Hwd.out] at this
            exact Nat.lt_of_lt_of_le hxl this
          have hx2 : ¬ vn.ownBlock = some xb := fun e => by
            have := HVG.out xb e
            rw [HXO.out] at this; omega
          rw [World.cell?_of_block (hc3.block xb hx1 hx2)]
          exact HCX2.out
        have NA := hid NA
        have NCB := hid ncb
        have HCX3 := hid hcx3
        have NB := hid nB
        clear hown3 hc3 hp3 hne3 hcx3 ncb nB
        refine hK.out _ _ ⟨NCB.out, HCX3.out⟩ ?_
        clear hK K
        try simp only [Act.put, List.setIfInBounds_toArray, List.set_cons_zero, List.set_cons_succ]
        repeat (first
          | (refine wpSteady_skip (by rfl) ?_; try simp only [Act.put, List.setIfInBounds_toArray, List.set_cons_zero, List.set_cons_succ])
          | (refine wpSteady_calm (v := ?_) (by rfl) ?_ ?_; rotate_left; (focus (intro v hSv; (try dsimp only at hSv); go_simp; (try with_reducible rfl); done)); try simp only [Act.put, List.setIfInBounds_toArray, List.set_cons_zero, List.set_cons_succ]))
        refine wpSteady_nil ?_
        have ncb := NCB.out
        go_wp2_with fail
        clear ncb nfb
        have hz5 : w.heap.size ≤ (w3.setCell ⟨b, 0, none⟩ (.slice ov nv cv)).heap.size := Nat.le_trans hzx NB.out.size
        have hput := put_any b 3 _ 63 vwt _ k _ NA.out.hh rfl NA.out.hw.1 (range_sorted k) (by simp [stN]; omega) (fun e => by have := NA.out.hw.2 b e; have := NA.out.hb; omega)
        have HPut := hid hput
        clear hput
        refine HPut.out.mono ?_; rintro e w5 hp5
        obtain ⟨rfl, v5, n5, b5⟩ := NA.out.put hz5 hp5
        have e5 : ({ ({ stN ns limit k k with needs := (stN ns limit k k).needs ++ [l] } : St) with wt := ins (k : Int) ((List.range k).map Int.ofNat) } : St) = stN ns limit (k + 1) (k + 1) := by
          unfold stN
          rw [ins_range k, ← HLE.out]
          congr 1
          rw [List.take_succ_eq_append_getElem hlt, nd, List.getD_eq_getElem?_getD, List.getElem?_eq_getElem hlt]; rfl
        have N5 : Hid (NI w.heap.size _ w5 b (.slice ov nv cv) v5 (stN ns limit (k + 1) (k + 1))) := hid (e5 ▸ n5)
        have B5 : Hid (Below w.heap.size w w5) := hid ((Bx.out.drew.trans (by rw [← Hwd.out] at NB; exact NB.out)).trans b5)
        clear hp5 n5 b5 e5
        go_wp2_with fail
        go_roundw
        case rel =>
          refine ⟨k + 1, _, _, _, by omega, by go_num, N5, B5, hid fun j hj => ?_⟩
          by_cases e : j = k
          · subst e; rw [HLE.out]; exact HRB.out
          · exact A.out j (by omega)
        case measure => simp [intOf]; omega
    · have hke : k = ns.length := by omega
      subst hke
      have hv := valid_of A.out
      have hst : stN ns limit ns.length ns.length = stNew ns [] limit := by unfold stN stNew; rw [List.take_length]
      rw [hst] at N
      have hs := sorted_any wr vn ns N.out.hn.nview hv (by omega)
      have hvc : wr.cell? ⟨b, 0, none⟩ = some vn := by rw [cells_in N.out.hh]; rfl
      have HV := hid hv
      have Hs := hid hs
      clear hv hst hs A
      go_wp2_with fail
      refine Hs.out.mono ?_; rintro e w2 hp
      obtain ⟨vo, order, rfl, hr, hg, hb2, hspec⟩ := hp
      obtain ⟨oo, co, rfl⟩ := row_len hr
      obtain ⟨s1, s2, s3, s4, s5⟩ := N.out.sch B.out.size hb2 hr hg ⟨rfl, rfl, rfl, rfl⟩
      have S1 := hid s1
      have S2 := hid s2
      have S3 := hid s3
      have HSP := hid hspec
      have HB2 := hid hb2
      clear hr hg hb2 hspec s1 s2 s3
      by_cases ho : (order.length : Int) = ns.length
      · have hd : decide ((order.length : Int) = ns.length) = true := decide_eq_true ho
        have HO := hid ho
        clear ho
        go_wp2_with fail
        go_ret2
        exact .inr ⟨b, _, order, code_ok hnl ⟨hl1, hl2⟩ HV.out (HSP.out.topo_of (by have := HO.out; omega)), rfl, B.out.trans S3.out, S1.out, HSP.out, by have := HO.out; omega, HV.out, hl1, hl2, S2.out, by rw [Hb.out]; exact Nat.le_refl _⟩
      · have hd : decide ((order.length : Int) = ns.length) = false := decide_eq_false ho
        have HO := hid ho
        clear ho
        go_wp2_with fail
        go_ret2
        refine .inl ⟨10, by decide, code_cycle hnl ⟨hl1, hl2⟩ HV.out (fun ht => not_both ht (HSP.out.stuck_of HV.out (by have := HO.out; omega))), rfl, B.out.trans (HB2.out.mono B.out.size)⟩

end Go.Proofs.Ytoaellmjgejgfaa
