/- sorted. -/
import Derived.Test.YtoaellmjgejgfaaView
namespace Go.Proofs.Ytoaellmjgejgfaa
open Go Go.RowKit Go.Shelf
set_option linter.unusedVariables false

/-- What sorted has made: left, users, out. -/
structure SI (B N : Nat) (own : Nat → Nat) (w : World) (L U : Nat) (vo : Value) (left out : List Int) (us : Nat → List Int) : Prop where
  ownL : own L = 20
  ownU : own U = 21
  low : ∀ k, k < B → own k = 0
  hL : w.heap[L]? = some (.cells (ints left).toArray 3)
  lenL : left.length = N
  hU : ∃ vs : List Value, vs.length = N ∧ w.heap[U]? = some (.cells vs.toArray 31) ∧ ∀ (x : Nat) u, vs[x]? = some u → RowT own (30 + x) w u (us x)
  hO : RowT own 22 w vo out

section
variable {B N L U : Nat} {own : Nat → Nat} {w : World} {vo : Value} {left out : List Int} {us : Nat → List Int}

theorem SI.setL (h : SI B N own w L U vo left out us) (k : Nat) (x : Int) : SI B N own (w.setCell ⟨L, k, none⟩ (.int .i64 x)) L U vo (left.set k x) out us := by
  have hc : Chg (fun b => b = L) w (w.setCell ⟨L, k, none⟩ (.int .i64 x)) := Chg.setCell _ _ _ _ rfl
  have no : ∀ t, t ≠ 20 → ∀ b, b < w.heap.size → b = L → own b ≠ t := fun t ht b _ e h2 => by rw [e, h.ownL] at h2; omega
  obtain ⟨vs, h1, h2, h3⟩ := h.hU
  refine ⟨h.ownL, h.ownU, h.low, ?_, by simpa using h.lenL, ⟨vs, h1, ?_, fun y u hu => (h3 y u hu).keep hc (no _ (by omega)) (SameOwn.refl _ _)⟩, h.hO.keep hc (no _ (by omega)) (SameOwn.refl _ _)⟩
  · rw [obj_set h.hL]
    congr 2
    rw [List.setIfInBounds_toArray]; simp [ints, List.map_set]
  · have hlt : U < w.heap.size := (Array.getElem?_eq_some_iff.1 h2).1
    rw [hc.block U hlt (fun e => by have := h.ownL; rw [← e, h.ownU] at this; omega)]
    exact h2

theorem SI.below {w0 : World} (h : SI B N own w L U vo left out us) (hB : B ≤ w0.heap.size) (hb : Below B w0 w) (k : Nat) (u : Value) : Below B w0 (w.setCell ⟨L, k, none⟩ u) :=
  hb.setCell (show B ≤ L by apply Classical.byContradiction; intro hc; have := h.low L (by omega); have := h.ownL; omega) _

theorem SI.appO (h : SI B N own w L U vo left out us) {w' : World} {v' : Value} {x : Int} {n : Nat} (hB : B ≤ w.heap.size) (hown : w'.ownsRow 0 3 1 v' (n + 1) (ints out ++ [.int .i64 x])) (hc : Chg (fun k => vo.ownBlock = some k) w w')
    (hp : v'.ownBlock = vo.ownBlock ∨ ∃ g, v'.ownBlock = some g ∧ w.heap.size ≤ g) : SI B N (own2 own w 22) w' L U v' left (out ++ [x]) us := by
  have ho := own2_same own w 22
  have no : ∀ t, t ≠ 22 → ∀ b, b < w.heap.size → vo.ownBlock = some b → own b ≠ t := fun t ht b _ e h2 => by have := h.hO.2 b e; omega
  obtain ⟨vs, h1, h2, h3⟩ := h.hU
  have hL : L < w.heap.size := (Array.getElem?_eq_some_iff.1 h.hL).1
  have hU : U < w.heap.size := (Array.getElem?_eq_some_iff.1 h2).1
  refine ⟨(ho L hL).trans h.ownL, (ho U hU).trans h.ownU, fun k hk => (ho k (by omega)).trans (h.low k hk), ?_, h.lenL, ⟨vs, h1, ?_, fun y u hu => (h3 y u hu).keep hc (no _ (by omega)) ho⟩, ⟨Row.of_owns hown (by simp [ints]), ?_⟩⟩
  · rw [hc.block L hL (fun e => by have := h.hO.2 L e; have := h.ownL; omega)]; exact h.hL
  · rw [hc.block U hU (fun e => by have := h.hO.2 U e; have := h.ownU; omega)]; exact h2
  · intro g hg
    rcases hp with e | ⟨g', e, hg'⟩
    · rw [e] at hg
      exact (ho g (h.hO.1.lt hg)).trans (h.hO.2 g hg)
    · rw [e] at hg
      cases hg
      exact own2_new hg'

theorem SI.appO_below {w0 : World} (h : SI B N own w L U vo left out us) (hB : B ≤ w0.heap.size) (hb : Below B w0 w) {w' : World} (hc : Chg (fun k => vo.ownBlock = some k) w w') : Below B w0 w' := by
  refine ⟨hc.os.trans hb.os, hc.tape.trans hb.tape, hc.output.trans hb.output, Nat.le_trans hb.size hc.size, fun k hk => ?_⟩
  exact (hc.block k (by have := hb.size; omega) (fun e => by have := h.hO.2 k e; have := h.low k hk; omega)).trans (hb.block k hk)

theorem SI.user (h : SI B N own w L U vo left out us) {x : Nat} (hx : x < N) : ∃ u, w.cell? ⟨U, x, none⟩ = some u ∧ RowT own (30 + x) w u (us x) ∧ w.frozen? ⟨U, x, none⟩ = false := by
  obtain ⟨vs, h1, h2, h3⟩ := h.hU
  have hu : vs[x]? = some vs[x] := List.getElem?_eq_getElem (by omega)
  refine ⟨vs[x], ?_, h3 x _ hu, frozen_in h2 _⟩
  rw [cells_in h2]
  simp

/-- users[x] has grown. -/
theorem SI.appU (h : SI B N own w L U vo left out us) {x : Nat} (hx : x < N) {u v' : Value} {w' : World} {y : Int} {n : Nat} (hu : w.cell? ⟨U, x, none⟩ = some u) (hB : B ≤ w.heap.size)
    (hown : w'.ownsRow 0 3 1 v' (n + 1) (ints (us x) ++ [.int .i64 y])) (hc : Chg (fun k => u.ownBlock = some k) w w') (hp : v'.ownBlock = u.ownBlock ∨ ∃ g, v'.ownBlock = some g ∧ w.heap.size ≤ g) :
    SI B N (own2 own w (30 + x)) (w'.setCell ⟨U, x, none⟩ v') L U vo left out (fun z => if z = x then us x ++ [y] else us z) ∧
    w'.cell? ⟨U, x, none⟩ = some u ∧ w'.frozen? ⟨U, x, none⟩ = false := by
  have ho := own2_same own w (30 + x)
  obtain ⟨vs, h1, h2, h3⟩ := h.hU
  have hL : L < w.heap.size := (Array.getElem?_eq_some_iff.1 h.hL).1
  have hU : U < w.heap.size := (Array.getElem?_eq_some_iff.1 h2).1
  have hux : vs[x]? = some u := by
    rw [cells_in h2] at hu
    simpa using hu
  have hr := h3 x u hux
  have nL : ¬ u.ownBlock = some L := fun e => by have := hr.2 L e; have := h.ownL; omega
  have nU : ¬ u.ownBlock = some U := fun e => by have := hr.2 U e; have := h.ownU; omega
  have no : ∀ t, t ≠ 30 + x → ∀ b, b < w.heap.size → u.ownBlock = some b → own b ≠ t := fun t ht b _ e h2 => by have := hr.2 b e; omega
  have hU' : w'.heap[U]? = some (.cells vs.toArray 31) := by rw [hc.block U hU nU]; exact h2
  have c2 : Chg (fun b => b = U) w' (w'.setCell ⟨U, x, none⟩ v') := Chg.setCell _ _ _ _ rfl
  have ho' : (own2 own w (30 + x)) U = 21 := (ho U hU).trans h.ownU
  have no2 : ∀ t, t ≠ 21 → ∀ b, b < w'.heap.size → b = U → (own2 own w (30 + x)) b ≠ t := fun t ht b _ e h2 => by rw [e, ho'] at h2; omega
  refine ⟨⟨(ho L hL).trans h.ownL, ho', fun k hk => (ho k (by omega)).trans (h.low k hk), ?_, h.lenL, ⟨vs.set x v', by simpa using h1, ?_, fun z t ht => ?_⟩, ?_⟩, ?_, ?_⟩
  · have hne : L ≠ U := fun e => by have := h.ownL; rw [e, h.ownU] at this; omega
    rw [c2.block L (Nat.lt_of_lt_of_le hL hc.size) hne, hc.block L hL nL]; exact h.hL
  · rw [obj_set hU', List.setIfInBounds_toArray]
  · by_cases e : z = x
    · subst e
      have hzl : z < vs.length := (List.getElem?_eq_some_iff.1 hux).1
      rw [List.getElem?_set_self hzl] at ht
      cases ht
      simp only [if_true]
      have hR : RowT (own2 own w (30 + z)) (30 + z) w' v' (us z ++ [y]) := ⟨Row.of_owns hown (by simp [ints]), fun g hg => by
        rcases hp with e | ⟨g', e, hg'⟩
        · rw [e] at hg
          exact (ho g (hr.1.lt hg)).trans (hr.2 g hg)
        · rw [e] at hg
          cases hg
          exact own2_new hg'⟩
      exact hR.keep c2 (no2 _ (by omega)) (SameOwn.refl _ _)
    · rw [List.getElem?_set_ne (Ne.symm e)] at ht
      simp only [if_neg e]
      exact ((h3 z t ht).keep hc (no _ (by omega)) ho).keep c2 (no2 _ (by omega)) (SameOwn.refl _ _)
  · exact (h.hO.keep hc (no _ (by omega)) ho).keep c2 (no2 _ (by omega)) (SameOwn.refl _ _)
  · rw [cells_in hU']; simpa using hux
  · exact frozen_in hU' _

theorem SI.appU_below {w0 : World} (h : SI B N own w L U vo left out us) (hB : B ≤ w0.heap.size) (hb : Below B w0 w) {x : Nat} {u : Value} (hu : w.cell? ⟨U, x, none⟩ = some u) (hx : x < N) {w' : World} (hc : Chg (fun k => u.ownBlock = some k) w w') (v' : Value) :
    Below B w0 (w'.setCell ⟨U, x, none⟩ v') := by
  obtain ⟨u', hu', hr, _⟩ := h.user hx
  rw [hu] at hu'
  cases hu'
  have h1 : Below B w0 w' := by
    refine ⟨hc.os.trans hb.os, hc.tape.trans hb.tape, hc.output.trans hb.output, Nat.le_trans hb.size hc.size, fun k hk => ?_⟩
    exact (hc.block k (by have := hb.size; omega) (fun e => by have := hr.2 k e; have := h.low k hk; omega)).trans (hb.block k hk)
  exact h1.setCell (show B ≤ U by apply Classical.byContradiction; intro hc; have := h.low U (by omega); have := h.ownU; omega) _

theorem SI.left_at (h : SI B N own w L U vo left out us) {k : Nat} (hk : k < N) : w.cell? ⟨L, k, none⟩ = some (.int .i64 (left.getD k 0)) ∧ w.frozen? ⟨L, k, none⟩ = false := by
  refine ⟨?_, frozen_in h.hL _⟩
  rw [cells_in h.hL]
  have hl := h.lenL
  rw [List.getElem?_toArray, List.getElem?_map, List.getElem?_eq_getElem (by omega), List.getD_eq_getElem?_getD, List.getElem?_eq_getElem (by omega)]; rfl
theorem SI.ext (h : SI B N own w L U vo left out us) {left' : List Int} {us' : Nat → List Int} (h1 : left = left') (h2 : ∀ x, x < N → us x = us' x) : SI B N own w L U vo left' out us' := by
  subst h1
  obtain ⟨vs, a1, a2, a3⟩ := h.hU
  refine ⟨h.ownL, h.ownU, h.low, h.hL, h.lenL, ⟨vs, a1, a2, fun x u hu => ?_⟩, h.hO⟩
  have hx : x < N := by have := (List.getElem?_eq_some_iff.1 hu).1; omega
  rw [← h2 x hx]; exact a3 x u hu
end

def leftK (ns : List (List Int)) (k : Nat) : List Int := (List.range ns.length).map fun n => if n < k then ((nd ns n).length : Int) else 0
def leftL (ns : List (List Int)) (out : List Int) (i j : Nat) : List Int := (List.range ns.length).map (leftAt ns out i j)

theorem range_set (N n : Nat) (f : Nat → Int) (v : Int) : ((List.range N).map f).set n v = (List.range N).map (fun m => if m = n then v else f m) := by
  apply List.ext_getElem (by simp)
  intro i h1 h2
  rw [List.getElem_set]
  simp only [List.getElem_map, List.getElem_range]
  by_cases h : n = i
  · rw [if_pos h, if_pos h.symm]
  · rw [if_neg h, if_neg (Ne.symm h)]
theorem range_getD (N n : Nat) (f : Nat → Int) (h : n < N) : ((List.range N).map f).getD n 0 = f n := by
  rw [List.getD_eq_getElem?_getD, List.getElem?_map, List.getElem?_range h]; rfl
theorem leftK_zero (ns : List (List Int)) : List.replicate ns.length (0 : Int) = leftK ns 0 := by
  unfold leftK
  apply List.ext_getElem (by simp)
  intro i h1 h2
  simp
theorem leftK_succ (ns : List (List Int)) (k : Nat) : (leftK ns k).set k ((nd ns k).length : Int) = leftK ns (k + 1) := by
  unfold leftK
  rw [range_set]
  apply List.map_congr_left
  intro n _
  by_cases h : n = k
  · subst h; rw [if_pos rfl, if_pos (by omega)]
  · rw [if_neg h]
    by_cases h2 : n < k
    · rw [if_pos h2, if_pos (by omega)]
    · rw [if_neg h2, if_neg (by omega)]
theorem leftK_full (ns : List (List Int)) (out : List Int) : leftK ns ns.length = leftL ns out 0 0 := by
  unfold leftK leftL
  apply List.map_congr_left
  intro n hn
  rw [if_pos (List.mem_range.1 hn), leftAt_zero]
theorem leftL_succ (ns : List (List Int)) (out : List Int) {i j n : Nat} (hj : j < (usr ns ns.length (out.getD i 0).toNat).length) (hn : (usr ns ns.length (out.getD i 0).toNat).getD j 0 = n) :
    (leftL ns out i j).set n (leftAt ns out i j n - 1) = leftL ns out i (j + 1) := by
  unfold leftL
  rw [range_set]
  apply List.map_congr_left
  intro m _
  rw [leftAt_succ ns out hj m, hn]
  by_cases h : m = n
  · subst h; rw [if_pos rfl, if_pos rfl]
  · rw [if_neg h, if_neg (by omega)]
theorem leftL_grow (ns : List (List Int)) (out : List Int) (y : Int) {i : Nat} (hi : i < out.length) (j : Nat) : leftL ns (out ++ [y]) i j = leftL ns out i j := by
  unfold leftL
  apply List.map_congr_left
  intro m _
  exact leftAt_grow ns out y hi j m

theorem valid_len {ns : List (List Int)} (hv : Valid ns) {n : Nat} (hn : n < ns.length) : (nd ns n).length ≤ ns.length :=
  sorted_len (nd ns n) 0 ns.length (hv n hn).1 fun y hy => by have := (hv n hn).2 y hy; omega
theorem leftAt_le {ns : List (List Int)} (hv : Valid ns) {n : Nat} (hn : n < ns.length) (out : List Int) (i j : Nat) : leftAt ns out i j n ≤ ns.length := by
  have h1 := valid_len hv hn
  have h2 : (nd ns n).countP (fun x => !(out.take i).contains x) ≤ (nd ns n).length := List.countP_le_length
  unfold leftAt
  split <;> omega

def SortPost (ns : List (List Int)) (w : World) (e : Ending) (w' : World) : Prop :=
  ∃ vo order, e = .returned (.tuple #[vo, .bool (decide ((order.length : Int) = ns.length))]) ∧ Row w' vo order ∧ (∀ g, vo.ownBlock = some g → w.heap.size ≤ g) ∧ Below w.heap.size w w' ∧ OrdSpec ns order

theorem si_start (w : World) (ns : List (List Int)) :
    SI w.heap.size ns.length (fun k => if k < w.heap.size then 0 else if k = w.heap.size then 20 else 21) ((w.alloc (.cells (Array.replicate ns.length (.int .i64 0)) 3)).alloc (.cells (Array.replicate ns.length (.slice none 0 0)) 31)) w.heap.size (w.heap.size + 1) (.slice none 0 0) (leftK ns 0) (out0 ns 0) (usr ns 0) := by
  refine ⟨by simp, by simp, fun k hk => by simp [hk], ?_, by simp [leftK], ⟨List.replicate ns.length (.slice none 0 0), by simp, ?_, ?_⟩, ⟨.inl ⟨rfl, rfl⟩, fun g hg => by cases hg⟩⟩
  · rw [← leftK_zero, heap_alloc_old _ _ (by simp), heap_alloc_at w _]
    simp [ints]
  · have := heap_alloc_at (w.alloc (.cells (Array.replicate ns.length (.int .i64 0)) 3)) (.cells (Array.replicate ns.length (.slice none 0 0)) 31)
    simpa using this
  · intro x u hu
    rw [List.getElem?_replicate] at hu
    split at hu
    · cases hu
      exact ⟨.inl ⟨rfl, rfl⟩, fun g hg => by cases hg⟩
    · cases hu

set_option maxRecDepth 100000 in
set_option maxHeartbeats 8000000 in
theorem sorted_any (w : World) (v : Value) (ns : List (List Int)) (hN : NView w v ns) (hv : Valid ns) (hl : ns.length ≤ 50000) :
    Calls Try.prog 35 #[v] w (SortPost ns w) := by
  obtain ⟨oa, c, rfl⟩ := hN.len
  have hm1 := fun w => make_ints w ns.length (by omega)
  have hm2 := fun w => make_rows w ns.length (by omega)
  have HN := hid hN
  have HV := hid hv
  have S0 := hid (si_start w ns)
  have B0 := hid (((Below.refl w.heap.size w).alloc (Nat.le_refl _) (.cells (Array.replicate ns.length (.int .i64 0)) 3)).alloc (by simp) (.cells (Array.replicate ns.length (.slice none 0 0)) 31))
  clear hN hv
  go_enter Try.func35, Try.ntmps35
  go_wp2_with fail
  clear hm1 hm2
  obtain ⟨U, hU⟩ : ∃ U, U = w.heap.size + 1 := ⟨_, rfl⟩
  have HU := hid hU
  rw [← hU] at S0
  have eU : (w.alloc (.cells (Array.replicate ns.length (.int .i64 0)) 3)).heap.size = U := by rw [hU]; simp
  try rw [eU]
  try simp only [← hU]
  clear eU hU
  generalize (w.alloc (.cells (Array.replicate ns.length (.int .i64 0)) 3)).alloc (.cells (Array.replicate ns.length (.slice none 0 0)) 31) = w1 at *
  go_loopw [6, 22] (fun o n wr => ∃ (k : Nat) (own : Nat → Nat), k ≤ ns.length ∧ n = .int .i64 k ∧ Hid (SI w.heap.size ns.length own wr w.heap.size U o (leftK ns k) (out0 ns k) (usr ns k)) ∧ Hid (Below w.heap.size w wr)) (fun _ n _ => ns.length - (intOf n).toNat)
  case atStart => exact ⟨0, _, Nat.zero_le _, rfl, S0, B0⟩
  case round =>
    obtain ⟨k, own, hk, rfl, S, B⟩ := hrel
    clear S0 B0
    by_cases hlt : k < ns.length
    · obtain ⟨g, o', c', u, hv, hcell0, hview⟩ := HN.out.at hlt
      cases hv
      obtain ⟨ou, cu, rfl⟩ := hview.len
      have hcell := Keeps.below B.out _ _ _ hcell0
      clear hcell0
      have hvk := HV.out k hlt
      have hk0 : (0 : Int) ≤ (k : Int) := by omega
      have hk1 : (k : Int) < (ns.length : Int) := by omega
      have hlen : (nd ns k).length ≤ ns.length := by
        refine Nat.le_trans (sorted_len (nd ns k) 0 ns.length hvk.1 fun y hy => ?_) (Nat.le_refl _)
        have := hvk.2 y hy; omega
      have hol := out0_length ns k
      obtain ⟨hLc, hLf⟩ := S.out.left_at hlt
      have S1 := hid (S.out.setL k ((nd ns k).length : Int))
      have B1 := hid (S.out.below (Nat.le_refl _) B.out k (.int .i64 ((nd ns k).length : Int)))
      have hz1 : w.heap.size ≤ (wr.setCell ⟨w.heap.size, k, none⟩ (.int .i64 ((nd ns k).length : Int))).heap.size := B1.out.size
      have ho1 := out0_succ ns k
      rw [leftK_succ] at S1
      generalize (leftK ns k).getD k 0 = old at *
      generalize hl2 : nd ns k = l at *
      have HVk := hid hvk
      have HVw := hid hview
      have HL2 := hid hl2
      have HO1 := hid ho1
      clear hvk hview hl2 ho1 S B
      by_cases he : l.length = 0
      · have hb1 : ((l.length : Int) == 0) = true := beq_iff_eq.2 (by omega)
        have hb2 : decide ((l.length : Int) = 0) = true := decide_eq_true (by omega)
        have HE := hid (List.eq_nil_of_length_eq_zero he)
        clear he
        go_wp2_with (at_builtin; refine app_tag rfl (.tmp 35) (.tmp 37) 31 rfl 3 (.int .i64 0) 1 8 Try.underlying31 info3 rfl (by decide) (by decide) _ _ _ S1.out.hO.1.owns rfl [.int .i64 k] wr.heap.size rfl (by simp) rfl (by simp [Value.oneCell']) (by omega) ?_; intro v' w3 hown3 hc3 hp3 hne3)
        have S2' := hid (S1.out.appO hz1 hown3 hc3 hp3)
        have e2 : out0 ns k ++ [(k : Int)] = out0 ns (k + 1) := by rw [HO1.out, HE.out]; rfl
        rw [e2] at S2'
        have B2 := hid (S1.out.appO_below (Nat.le_refl _) B1.out hc3)
        have hcell3 := (Keeps.below B2.out)
        have HVw3 := hid (HE.out)
        obtain ⟨ow1, S2⟩ : ∃ ow1, Hid (SI w.heap.size ns.length ow1 w3 w.heap.size U v' (leftK ns (k + 1)) (out0 ns (k + 1)) (usr ns k)) := ⟨_, S2'⟩
        clear hown3 hc3 hp3 hne3 e2 S2' hcell hLc hLf hcell3
        have hvl : l = [] := HE.out
        go_loopw [41] (fun j wr => ∃ (jj : Nat) (own : Nat → Nat), jj ≤ l.length ∧ j = .int .i64 jj ∧ Hid (SI w.heap.size ns.length own wr w.heap.size U v' (leftK ns (k + 1)) (out0 ns (k + 1)) (usrJ ns k jj)) ∧ Hid (Below w.heap.size w wr)) (fun j _ => l.length - (intOf j).toNat)
        case atStart => exact ⟨0, _, Nat.zero_le _, rfl, hid (S2.out.ext rfl fun x _ => (usrJ_zero ns k x).symm), B2⟩
        case round =>
          obtain ⟨jj, ow, hj, rfl, S, B⟩ := hrel
          clear S2 B2
          by_cases hjl : jj < l.length
          · exact absurd hjl (by rw [hvl]; exact Nat.not_lt_zero _)
          · have hje : jj = l.length := by omega
            go_wp2_with fail
            go_roundw
            case rel =>
              refine ⟨k + 1, ow, by omega, by go_num, hid (S.out.ext rfl fun x _ => ?_), B⟩
              rw [hje, ← HL2.out]; exact usrJ_full ns k x
            case measure => simp [intOf]; omega
      · have hb1 : ((l.length : Int) == 0) = false := beq_eq_false_iff_ne.2 (by omega)
        have hb2 : decide ((l.length : Int) = 0) = false := decide_eq_false (by omega)
        clear he
        go_wp2_with fail
        have e2 : out0 ns k = out0 ns (k + 1) := by
          rw [HO1.out, if_neg (by intro hc; rw [List.isEmpty_iff] at hc; rw [hc] at hb1; cases hb1)]
          simp
        rw [e2] at S1
        obtain ⟨w2, hw2⟩ : ∃ w2, w2 = wr.setCell ⟨w.heap.size, k, none⟩ (.int .i64 (l.length : Int)) := ⟨_, rfl⟩
        obtain ⟨ow1, S2⟩ : ∃ ow1, Hid (SI w.heap.size ns.length ow1 w2 w.heap.size U u6 (leftK ns (k + 1)) (out0 ns (k + 1)) (usr ns k)) := ⟨_, by rw [hw2]; exact S1⟩
        have B2 : Hid (Below w.heap.size w w2) := by rw [hw2]; exact B1
        rw [← hw2]
        clear e2 hcell hLc hLf S1 B1 hz1 hw2
        go_loopw [41] (fun j wr => ∃ (jj : Nat) (own : Nat → Nat), jj ≤ l.length ∧ j = .int .i64 jj ∧ Hid (SI w.heap.size ns.length own wr w.heap.size U u6 (leftK ns (k + 1)) (out0 ns (k + 1)) (usrJ ns k jj)) ∧ Hid (Below w.heap.size w wr)) (fun j _ => l.length - (intOf j).toNat)
        case atStart => exact ⟨0, _, Nat.zero_le _, rfl, hid (S2.out.ext rfl fun x _ => (usrJ_zero ns k x).symm), B2⟩
        case round =>
          obtain ⟨jj, ow, hj, rfl, S, B⟩ := hrel
          clear S2 B2
          by_cases hjl : jj < l.length
          · obtain ⟨g2, o2, c2, hv2, hc2⟩ := (HVw.out.keep (Keeps.below B.out)).at hjl
            cases hv2
            have hxm := HVk.out.2 _ (getD_mem hjl)
            obtain ⟨xn, hxn⟩ : ∃ xn : Nat, l.getD jj 0 = xn := ⟨(l.getD jj 0).toNat, by omega⟩
            rw [hxn] at hc2 hxm
            have hxl : xn < ns.length := by omega
            have hx0 : (0 : Int) ≤ (xn : Int) := by omega
            have hx1 : (xn : Int) < (ns.length : Int) := by omega
            have hj0 : (0 : Int) ≤ (jj : Int) := by omega
            have hj1 : (jj : Int) < (l.length : Int) := by omega
            obtain ⟨uu, huc, hur, huf⟩ := S.out.user hxl
            obtain ⟨ou3, cu3, rfl⟩ := row_len hur.1
            have hul := usrJ_length ns k jj xn
            have hz3 : w.heap.size ≤ wr.heap.size := B.out.size
            have HUR := hid hur
            have HXN := hid hxn
            clear hur hxn hxm
            go_wp2_with (at_builtin; refine app_tag rfl (.tmp 50) (.tmp 52) 31 rfl 3 (.int .i64 0) 1 8 Try.underlying31 info3 rfl (by decide) (by decide) _ _ _ HUR.out.1.owns rfl [.int .i64 k] wr.heap.size rfl (by simp) rfl (by simp [Value.oneCell']) (by omega) ?_; intro v3 w3 hown3 hc3 hp3 hne3; obtain ⟨ov3, nv3, cv3, rfl⟩ := owns_slice hown3; obtain ⟨S3, hcU, hfU⟩ := S.out.appU hxl huc hz3 hown3 hc3 hp3; have B3 := hid (S.out.appU_below (Nat.le_refl _) B.out huc hxl hc3 (.slice ov3 nv3 cv3)); have S3 := hid S3; clear hown3 hc3 hp3 hne3)
            go_roundw
            case rel =>
              refine ⟨jj + 1, _, by omega, by go_num, hid (S3.out.ext rfl fun z _ => ?_), B3⟩
              have hlj : jj < (nd ns k).length := by rw [HL2.out]; exact hjl
              have hsk : Sorted (nd ns k) := by rw [HL2.out]; exact HVk.out.1
              rw [usrJ_succ ns k jj z hsk hlj, HL2.out, HXN.out]
              by_cases hzx : z = xn
              · subst hzx; rw [if_pos rfl, if_pos rfl]
              · rw [if_neg hzx, if_neg (by omega)]
            case measure => simp [intOf]; omega
          · have hje : jj = l.length := by omega
            go_wp2_with fail
            go_roundw
            case rel =>
              refine ⟨k + 1, ow, by omega, by go_num, hid (S.out.ext rfl fun x _ => ?_), B⟩
              rw [hje, ← HL2.out]; exact usrJ_full ns k x
            case measure => simp [intOf]; omega
    · have hke : k = ns.length := by omega
      subst hke
      have K0 := hid (k2_start ns)
      obtain ⟨ow0, S0⟩ : ∃ ow0, Hid (SI w.heap.size ns.length ow0 wr w.heap.size U u6 (leftL ns (out0 ns ns.length) 0 0) (out0 ns ns.length) (usr ns ns.length)) := ⟨own, by rw [← leftK_full]; exact S⟩
      have hol := out0_length ns ns.length
      have B0 := B
      clear S B hk hlt
      generalize out0 ns ns.length = ot0 at *
      go_wp2_with fail
      go_loopw [6, 11] (fun o i wr => ∃ (ii : Nat) (out : List Int) (own : Nat → Nat), Hid (K2 ns out ii 0) ∧ ii ≤ out.length ∧ out.length ≤ ns.length ∧ i = .int .i64 ii ∧ Hid (SI w.heap.size ns.length own wr w.heap.size U o (leftL ns out ii 0) out (usr ns ns.length)) ∧ Hid (Below w.heap.size w wr)) (fun _ i _ => ns.length - (intOf i).toNat)
      case atStart => exact ⟨0, _, _, K0, Nat.zero_le _, hol, rfl, S0, B0⟩
      case round =>
        obtain ⟨ii, out, own, K, hi, hol, rfl, S, B⟩ := hrel
        clear S0 B0 K0
        obtain ⟨oo, co, ho⟩ := row_len S.out.hO.1
        subst ho
        by_cases hlt : ii < out.length
        · obtain ⟨g2, c2, hv2, hcy⟩ := row_at S.out.hO.1 hlt
          cases hv2
          have hyr := K.out.rng _ (getD_mem hlt)
          obtain ⟨yn, hyn⟩ : ∃ yn : Nat, out.getD ii 0 = yn := ⟨(out.getD ii 0).toNat, by omega⟩
          rw [hyn] at hcy hyr
          have hyl : yn < ns.length := by omega
          obtain ⟨uu, huc, hur, huf⟩ := S.out.user hyl
          obtain ⟨ou3, cu3, rfl⟩ := row_len hur.1
          have hul := usr_length ns ns.length yn
          have hi0 : (0 : Int) ≤ (ii : Int) := by omega
          have hi1 : (ii : Int) < (out.length : Int) := by omega
          have hy0 : (0 : Int) ≤ (yn : Int) := by omega
          have hy1 : (yn : Int) < (ns.length : Int) := by omega
          generalize hus : usr ns ns.length yn = us at *
          have HUS := hid hus
          have HUR := hid hur
          have HYN := hid hyn
          clear hus hur hyn hyr huf
          go_wp2_with fail
          obtain ⟨wo, rfl⟩ : ∃ wo, wo = wr := ⟨_, rfl⟩
          go_loopw [6, 71] (fun o j wr => ∃ (jj : Nat) (out' : List Int) (own' : Nat → Nat), jj ≤ us.length ∧ j = .int .i64 jj ∧ out'.length ≤ ns.length ∧ Hid (K2 ns out' ii jj ∧ ii < out'.length ∧ out'.getD ii 0 = yn) ∧ Hid (SI w.heap.size ns.length own' wr w.heap.size U o (leftL ns out' ii jj) out' (usr ns ns.length)) ∧ Hid (RowT own' (30 + yn) wr (.slice ou3 us.length cu3) us) ∧ Hid (Below w.heap.size w wr)) (fun _ j _ => us.length - (intOf j).toNat)
          case atStart => exact ⟨0, out, own, Nat.zero_le _, rfl, hol, hid ⟨K.out, hlt, HYN.out⟩, S, HUR, B⟩
          case round =>
            obtain ⟨jj, out', own', hj, rfl, hol', K', S', R', B'⟩ := hrel
            clear S B HUR K hcy huc
            by_cases hjl : jj < us.length
            · obtain ⟨g3, c3, hv3, hcn⟩ := row_at R'.out.1 hjl
              cases hv3
              have hil := K'.out.2.1
              have hy : usr ns ns.length (out'.getD ii 0).toNat = us := by rw [K'.out.2.2, Int.toNat_natCast]; exact HUS.out
              obtain ⟨nn, hnn, hnl, hnm, hge⟩ := K'.out.1.user HV.out hil (by rw [hy]; exact hjl)
              rw [hy] at hnn
              rw [hnn] at hcn
              obtain ⟨hLc, hLf⟩ := S'.out.left_at hnl
              have hle := leftAt_le HV.out hnl out' ii jj
              rw [show (leftL ns out' ii jj).getD nn 0 = leftAt ns out' ii jj nn from range_getD _ _ _ hnl] at hLc
              have HST := hid (leftL_succ ns out' (i := ii) (j := jj) (n := nn) (by rw [hy]; exact hjl) (by rw [hy]; exact hnn))
              have KF := hid (K'.out.1.fall HV.out hil (by rw [hy]; exact hjl) nn (by rw [hy]; exact hnn))
              have KA := hid (K'.out.1.add HV.out hil (by rw [hy]; exact hjl) nn (by rw [hy]; exact hnn))
              have S2 := hid (S'.out.setL nn (leftAt ns out' ii jj nn - 1))
              have B2 := hid (S'.out.below (Nat.le_refl _) B'.out nn (.int .i64 (leftAt ns out' ii jj nn - 1)))
              rw [HST.out] at S2
              generalize leftAt ns out' ii jj nn = lv at *
              have hj0 : (0 : Int) ≤ (jj : Int) := by omega
              have hj1 : (jj : Int) < (us.length : Int) := by omega
              have hn0 : (0 : Int) ≤ (nn : Int) := by omega
              have hn1 : (nn : Int) < (ns.length : Int) := by omega
              have hlb : lv ≤ 50000 := by omega
              have hz2 : w.heap.size ≤ (wr.setCell ⟨w.heap.size, nn, none⟩ (.int .i64 (lv - 1))).heap.size := B2.out.size
              have c2 : Chg (fun b => b = w.heap.size) wr (wr.setCell ⟨w.heap.size, nn, none⟩ (.int .i64 (lv - 1))) := Chg.setCell _ _ _ _ rfl
              have R2 := hid (R'.out.keep c2 (fun b _ e h2 => by rw [e, S'.out.ownL] at h2; omega) (SameOwn.refl _ _))
              have HNM := hid hnm
              have HY := hid hy
              have HNN := hid hnn
              have KL := hid K'.out.2
              clear S' B' R' c2 hy hnn hnm HST K'
              by_cases hz : lv - 1 = 0
              · have hK := KA.out hz
                have KH := hid hK
                obtain rfl : lv = 1 := by omega
                clear KA KF hK hz
                have hd1 : decide ((0 : Int) = 0) = true := rfl
                go_wp2_with (at_builtin; refine app_tag rfl (.tmp 86) (.tmp 88) 31 rfl 3 (.int .i64 0) 1 8 Try.underlying31 info3 rfl (by decide) (by decide) _ _ _ S2.out.hO.1.owns rfl [.int .i64 nn] wr.heap.size rfl (by simp) rfl (by simp [Value.oneCell']) (by omega) ?_; intro v3 w3 hown3 hc3 hp3 hne3)
                have S3 := S2.out.appO hz2 hown3 hc3 hp3
                have B3 := S2.out.appO_below (Nat.le_refl _) B2.out hc3
                have R3 := R2.out.keep hc3 (fun b _ e h2 => by have := S2.out.hO.2 b e; omega) (own2_same _ _ 22)
                have hgr := leftL_grow ns out' (nn : Int) hil (jj + 1)
                clear hown3 hc3 hp3 hne3
                go_roundw
                case rel =>
                  refine ⟨jj + 1, out' ++ [(nn : Int)], _, by omega, by go_num, KH.out.length, hid ⟨KH.out, by simp; omega, ?_⟩, hid (S3.ext hgr.symm fun _ _ => rfl), hid R3, hid B3⟩
                  rw [← KL.out.2]
                  simp [List.getD_eq_getElem?_getD, List.getElem?_append_left hil]
                case measure => simp [intOf]; omega
              · have hK := KF.out hz
                have KH := hid hK
                have hb1 : ((lv - 1 : Int) == 0) = false := beq_eq_false_iff_ne.2 hz
                have hb2 : decide ((lv - 1 : Int) = 0) = false := decide_eq_false hz
                clear KA KF hK hz
                go_wp2_with fail
                go_roundw
                case rel =>
                  exact ⟨jj + 1, out', own', by omega, by go_num, hol', hid ⟨KH.out, KL.out⟩, S2, R2, B2⟩
                case measure => simp [intOf]; omega
            · have hje : jj = us.length := by omega
              subst hje
              have hil := K'.out.2.1
              go_wp2_with fail
              go_roundw
              case rel =>
                obtain ⟨k1, k2, k3⟩ := K'.out
                have hy : usr ns ns.length (out'.getD ii 0).toNat = us := by rw [k3, Int.toNat_natCast]; exact HUS.out
                refine ⟨ii + 1, out', own', hid (K2.next (by rw [hy]; exact k1) HV.out k2), by omega, hol', by go_num, hid (S'.out.ext ?_ fun _ _ => rfl), B'⟩
                unfold leftL
                apply List.map_congr_left
                intro n hn
                have := leftAt_full ns out' HV.out k1.nodup k1.rng k2 (List.mem_range.1 hn)
                rw [hy] at this
                exact this
              case measure => simp [intOf]; omega
        · have hie : ii = out.length := by omega
          go_wp2_with fail
          go_ret2
          refine ⟨_, out, rfl, S.out.hO.1, fun g hg => ?_, B.out, K.out.done (by omega) rfl⟩
          have h1 := S.out.hO.2 g hg
          apply Classical.byContradiction
          intro hc
          have := S.out.low g (by omega)
          omega

end Go.Proofs.Ytoaellmjgejgfaa
