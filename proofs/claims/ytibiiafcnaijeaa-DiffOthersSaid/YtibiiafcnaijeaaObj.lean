/- object of schema: a type that is built in a box. -/
import Derived.Test.YtibiiafcnaijeaaFind
import Derived.Test.YtibiiafcnaijeaaPutV
namespace Go.Proofs.Ytibiiafcnaijeaa
open Go Go.RowKit Go.Proofs.Ytibiiafcnaijeaa.Steady
set_option linter.unusedVariables false
set_option linter.unusedSimpArgs false

theorem OwnL.chg {B box : Nat} {R C : Nat → Prop} {w w' : World} {v : Value} {ts : List Ty} (h : OwnL B box R w v ts) (hc : Chg C w w') (h1 : ∀ g, v.ownBlock = some g → ¬ C g) (h2 : ∀ g, R g → g ≠ box → ¬ C g) : OwnL B box R w' v ts := by
  obtain ⟨rs, m, l, e⟩ := h
  exact ⟨rs, ⟨owns_keep m.1 hc h1, m.2⟩, l, fun i r t hr ht => (e i r t hr ht).keep (KeepsP.chg hc fun g hg => h2 g hg.1 hg.2.2.1) fun g hg => ⟨hg.1, Nat.lt_of_lt_of_le hg.2.1 hc.size, hg.2.2⟩⟩
theorem OwnL.mono {B box : Nat} {R R' : Nat → Prop} {w : World} {v : Value} {ts : List Ty} (h : OwnL B box R w v ts) (hr : ∀ g, g < w.heap.size → R g → R' g) : OwnL B box R' w v ts := by
  obtain ⟨rs, m, l, e⟩ := h
  exact ⟨rs, m, l, fun i r t h1 h2 => (e i r t h1 h2).mono fun g hg => ⟨hr g hg.2.1 hg.1, hg.2⟩⟩
theorem OwnL.block {B box : Nat} {R : Nat → Prop} {w : World} {v : Value} {ts : List Ty} (h : OwnL B box R w v ts) {g : Nat} (hg : v.ownBlock = some g) : B ≤ g ∧ g < w.heap.size := by
  obtain ⟨rs, h1, _⟩ := h
  refine ⟨h1.2 g hg, ?_⟩
  rcases h1.1.2 with ⟨rfl, h0⟩ | ⟨g, cap, cur, rfl, p1, p2, _⟩
  · cases hg
  · cases hg; exact (Array.getElem?_eq_some_iff.1 p2).1
theorem OwnL.re {B C box box' : Nat} {R Q : Nat → Prop} {w : World} {v : Value} {ts : List Ty} (h : OwnL B box R w v ts) (hC : C ≤ B) (hq : ∀ g, R g → g < w.heap.size → Q g ∧ g ≠ box') : OwnL C box' Q w v ts := by
  obtain ⟨rs, h1, h2, h3⟩ := h
  exact ⟨rs, ⟨h1.1, fun g hg => Nat.le_trans hC (h1.2 g hg)⟩, h2, fun i r t hr ht => (h3 i r t hr ht).mono fun g hg => ⟨(hq g hg.1 hg.2.1).1, hg.2.1, (hq g hg.1 hg.2.1).2, hg.2.2.2⟩⟩
theorem OwnL.base {B C box : Nat} {R : Nat → Prop} {w : World} {v : Value} {ts : List Ty} (h : OwnL B box R w v ts) (hC : C ≤ B) : OwnL C box R w v ts := by
  obtain ⟨rs, h1, h2, h3⟩ := h
  exact ⟨rs, ⟨h1.1, fun g hg => Nat.le_trans hC (h1.2 g hg)⟩, h2, h3⟩
theorem OwnL.slice2 {B box : Nat} {R : Nat → Prop} {w : World} {v : Value} {ts : List Ty} (h : OwnL B box R w v ts) : ∃ o c, v = .slice o ts.length c := by
  obtain ⟨rs, h1, h2, h3⟩ := h
  rcases h1.1.2 with ⟨rfl, h0⟩ | ⟨g, cap, cur, rfl, _⟩
  · exact ⟨none, 0, by rw [h0]⟩
  · exact ⟨_, _, rfl⟩
theorem Row.owns {w : World} {v : Value} {l : List ByteArray} (h : Row w v l) : w.ownsRow 0 9 1 v l.length (strs l) := by
  refine ⟨by simp, ?_⟩
  rcases h with ⟨rfl, rfl⟩ | ⟨g, pad, rfl, hh, hc⟩
  · exact .inl ⟨rfl, rfl⟩
  · refine .inr ⟨g, l.length + pad.length, _, rfl, Nat.zero_le _, hh, by omega, by unfold maxLen; omega, by simp, ?_⟩
    rw [Nat.mul_one]
    exact List.take_left' (by simp)
theorem owns_row {w : World} {v : Value} {l : List ByteArray} {n : Nat} (h : w.ownsRow 0 9 1 v n (strs l)) (hn : n = l.length) : Row w v l := by
  subst hn
  rcases h.2 with ⟨rfl, h0⟩ | ⟨g, cap, cur, rfl, p1, p2, p3, p4, p5, p6⟩
  · exact .inl ⟨rfl, List.eq_nil_of_length_eq_zero h0⟩
  · exact row_mk p2 (by rw [p5]; omega) (by unfold maxLen at p4; omega) p3 (by rw [Nat.mul_one] at p6; exact p6)
/-- A type under construction in box X, over rows of the call's own from B on. -/
structure TB (B X : Nat) (w1 wr : World) (k : Int) (ve vn : Value) (ts : List Ty) (ns : List ByteArray) : Prop where
  hB : B ≤ w1.heap.size
  bel : Below B w1 wr
  hX : B ≤ X
  obj : wr.heap[X]? = some (.cells #[.int .i64 k, ve, vn] 79)
  own : OwnL B X (fun g => B ≤ g ∧ vn.ownBlock ≠ some g) wr ve ts
  eown : ve.ownBlock ≠ some X
  row : Row wr vn ns
  rown : ∀ g, vn.ownBlock = some g → B ≤ g ∧ g ≠ X ∧ ve.ownBlock ≠ some g
  strs : ∀ s ∈ ns, s.size ≤ 140737488355328
section
variable {B X : Nat} {w1 wr w' : World} {k : Int} {ve vn ve' vn' : Value} {ts ts' : List Ty} {ns ns' : List ByteArray}
theorem TB.lt (h : TB B X w1 wr k ve vn ts ns) : X < wr.heap.size := (Array.getElem?_eq_some_iff.1 h.obj).1
theorem TB.later (h : TB B X w1 wr k ve vn ts ns) (hb : Below wr.heap.size wr w') : TB B X w1 w' k ve vn ts ns :=
  ⟨h.hB, h.bel.trans (hb.mono (Nat.le_trans h.hB h.bel.size)), h.hX, keep_obj h.obj hb, h.own.later hb, h.eown, h.row.of_same fun g hg => hb.block g (h.row.lt hg), h.rown, h.strs⟩
theorem TB.names (h : TB B X w1 wr k ve vn ts ns) (hr : Row w' vn' ns') (hs : ∀ s ∈ ns', s.size ≤ 140737488355328) (hp : vn'.ownBlock = vn.ownBlock ∨ ∃ g, vn'.ownBlock = some g ∧ wr.heap.size ≤ g) (hc : Chg (fun g => vn.ownBlock = some g) wr w') :
    TB B X w1 (w'.setCell ⟨X, 2, none⟩ vn') k ve vn' ts ns' := by
  have hl := h.lt
  have hX := h.hX
  have hsz := Nat.le_trans h.hB h.bel.size
  have c2 := Chg.setCell (B := fun g => g = X) w' X 2 vn' rfl
  have hnew : ∀ g, vn'.ownBlock = some g → vn.ownBlock = some g ∨ wr.heap.size ≤ g := fun g e => by
    rcases hp with h1 | ⟨g', h1, h2⟩
    · exact .inl (h1 ▸ e)
    · rw [h1] at e; cases e; exact .inr h2
  have ho := (hc.block X hl (fun e => (h.rown X e).2.1 rfl)).trans h.obj
  have i1 : OwnL B X (fun g => B ≤ g ∧ vn'.ownBlock ≠ some g) w' ve ts := ((h.own.mono (R' := fun g => (B ≤ g ∧ vn'.ownBlock ≠ some g) ∧ vn.ownBlock ≠ some g) fun g hlt hg => ⟨⟨hg.1, fun e => by
    rcases hnew g e with h1 | h1
    · exact hg.2 h1
    · omega⟩, hg.2⟩).chg hc (fun g e e2 => (h.rown g e2).2.2 e) (fun g hg _ e => hg.2 e)).mono fun g _ hg => hg.1
  refine ⟨h.hB, (h.bel.trans (chg_bel hc (fun g e => (h.rown g e).1) hsz)).trans (chg_bel c2 (fun g e => by rw [e]; exact hX) (Nat.le_trans hsz hc.size)), hX, obj_set (po := 2) ho _, i1.chg c2 (fun g e e2 => h.eown (e2 ▸ e)) (fun g _ hb e => hb e), h.eown, hr.chg c2 (fun g e e2 => ?_), fun g e => ?_, hs⟩
  · rcases hnew g e with h1 | h1
    · exact (h.rown g h1).2.1 e2
    · omega
  · rcases hnew g e with h1 | h1
    · exact h.rown g h1
    · exact ⟨by omega, by omega, fun e2 => by have := (h.own.block e2).2; omega⟩
theorem TB.elems (h : TB B X w1 wr k ve vn ts ns) (hr : OwnL B X (fun g => B ≤ g ∧ vn.ownBlock ≠ some g) w' ve' ts') (hp : ve'.ownBlock = ve.ownBlock ∨ ∃ g, ve'.ownBlock = some g ∧ wr.heap.size ≤ g) (hc : Chg (fun g => ve.ownBlock = some g) wr w') :
    TB B X w1 (w'.setCell ⟨X, 1, none⟩ ve') k ve' vn ts' ns := by
  have hl := h.lt
  have hX := h.hX
  have hsz := Nat.le_trans h.hB h.bel.size
  have c2 := Chg.setCell (B := fun g => g = X) w' X 1 ve' rfl
  have hnew : ∀ g, ve'.ownBlock = some g → ve.ownBlock = some g ∨ wr.heap.size ≤ g := fun g e => by
    rcases hp with h1 | ⟨g', h1, h2⟩
    · exact .inl (h1 ▸ e)
    · rw [h1] at e; cases e; exact .inr h2
  have hniX : ve'.ownBlock ≠ some X := fun e => by
    rcases hnew X e with h1 | h1
    · exact h.eown h1
    · omega
  have ho := (hc.block X hl (fun e => h.eown e)).trans h.obj
  refine ⟨h.hB, (h.bel.trans (chg_bel hc (fun g e => (h.own.block e).1) hsz)).trans (chg_bel c2 (fun g e => by rw [e]; exact hX) (Nat.le_trans hsz hc.size)), hX, obj_set (po := 1) ho _, hr.chg c2 (fun g e e2 => hniX (e2 ▸ e)) (fun g _ hb e => hb e), hniX,
    (h.row.chg hc fun g e e2 => (h.rown g e).2.2 e2).chg c2 (fun g e e2 => (h.rown g e).2.1 e2), fun g e => ⟨(h.rown g e).1, (h.rown g e).2.1, fun e2 => ?_⟩, h.strs⟩
  rcases hnew g e2 with h1 | h1
  · exact (h.rown g e).2.2 h1
  · have := h.row.lt e; omega
theorem TB.read (h : TB B X w1 wr k ve vn ts ns) (hl : ts.length ≤ 140737488355328) (hk : ns.length ≤ 140737488355328) : TV (fun g => B ≤ g ∧ g < wr.heap.size) wr (.agg #[.int .i64 k, ve, vn]) (.mk k ts ns) :=
  (TV.mk' (h.row.sv (Q := fun g => B ≤ g) (fun g e => (h.rown g e).1) hk h.strs) ((h.own.mono (R' := fun g => B ≤ g) fun g _ hg => hg.1).read (fun g hg => hg) hl)).ex
end
/-- A new type whose rows are the call's own. -/
def ObjPost (k : Int) (ts : List Ty) (ns : List ByteArray) (w : World) (e : Ending) (w' : World) : Prop := ∃ ve vn box, e = .returned (.agg #[.int .i64 k, ve, vn]) ∧ Below w.heap.size w w' ∧ OwnL w.heap.size box (fun g => w.heap.size ≤ g ∧ vn.ownBlock ≠ some g) w' ve ts ∧ Row w' vn ns ∧
  (∀ g, vn.ownBlock = some g → w.heap.size ≤ g ∧ ve.ownBlock ≠ some g) ∧ ∀ s ∈ ns, s.size ≤ 140737488355328
set_option maxRecDepth 100000 in
set_option maxHeartbeats 4000000 in
theorem object_any (l : List At) (P : Nat → Prop) (w : World) (v : Value) (hs : AV P w v l) (hl : l.length ≤ 1000) (hok : ∀ a ∈ l, sizeT a.ty ≤ 1000 ∧ namesT a.ty ≤ 1000) :
    Calls Try.prog 70 #[v] w (ObjPost 6 (l.map (·.ty)) (l.map (·.name)) w) := by
  obtain ⟨oa, ca, rfl⟩ := hs.len
  have HOK := hid hok
  have hT := heap_alloc_at w zero3
  have hab : Below w.heap.size w (w.alloc zero3) := (Below.refl _ _).alloc (Nat.le_refl _) _
  have has : (w.alloc zero3).heap.size = w.heap.size + 1 := by simp
  generalize hA : w.alloc zero3 = wa at hT hab has
  have hob := heap_alloc_at wa (.cells #[.int .i64 6, .slice none 0 0, .slice none 0 0] 79)
  have hbb : Below wa.heap.size wa (wa.alloc (.cells #[.int .i64 6, .slice none 0 0, .slice none 0 0] 79)) := (Below.refl _ _).alloc (Nat.le_refl _) _
  have hbs : (wa.alloc (.cells #[.int .i64 6, .slice none 0 0, .slice none 0 0] 79)).heap.size = w.heap.size + 2 := by simp [has]
  rw [has] at hob
  generalize hB : wa.alloc (.cells #[.int .i64 6, .slice none 0 0, .slice none 0 0] 79) = wb at hob hbb hbs
  have HA0 := hid hA
  have HB0 := hid hB
  have HB := hid (hab.trans (hbb.mono hab.size))
  have HS := hid hbs
  have HZ := hid (keep_obj hT hbb)
  have HAT := hid hs
  have HT : Hid (TB (w.heap.size + 1) (w.heap.size + 1) wb wb 6 (.slice none 0 0) (.slice none 0 0) [] []) := hid ⟨by omega, Below.refl _ _, Nat.le_refl _, hob, OwnL.nil _ _ _ _, (fun e => by cases e), .inl ⟨rfl, rfl⟩, (fun g e => by cases e), (fun s h => by cases h)⟩
  clear hs hok hT hab has hob hbb hbs hA hB
  go_enter Try.func70, Try.ntmps70
  go_upto_region 2 with (fail)
  rw [HA0.out, HB0.out]
  go_wp2_with fail
  go_loopw [9] (fun i wr => ∃ (j : Nat) (oe : Option Addr) (me ce : Nat) (on : Option Addr) (mn cn : Nat), j ≤ l.length ∧ i = .int .i64 j ∧ Hid (TB (w.heap.size + 1) (w.heap.size + 1) wb wr 6 (.slice oe me ce) (.slice on mn cn) ((l.map (·.ty)).take j) ((l.map (·.name)).take j))) (fun i _ => l.length - (intOf i).toNat)
  case atStart => exact ⟨0, _, _, _, _, _, _, Nat.zero_le _, rfl, HT⟩
  case round =>
    clear HT
    obtain ⟨j, oe, me, ce, on, mn, cn, hj, rfl, T⟩ := hrel
    have HB2 := hid (HB.out.trans (T.out.bel.mono (by omega)))
    by_cases hlt : j < l.length
    · obtain ⟨g, o, c, k, oe1, me1, ce1, on1, mn1, cn1, -, e1, a0, a1, a2, a3, a4, a5, a6, a7, hTV, hnm⟩ := HAT.out.at hlt
      cases e1
      replace a0 := bcell HB2.out a0
      replace a1 := bcell HB2.out a1
      replace a2 := bcell HB2.out a2
      replace a3 := bcell HB2.out a3
      replace a4 := bcell HB2.out a4
      replace a5 := bcell HB2.out a5
      replace a6 := bcell HB2.out a6
      replace a7 := bcell HB2.out a7
      have hj0 : (0 : Int) ≤ (j : Int) := by omega
      have hj1 : (j : Int) < (l.length : Int) := by omega
      have hob := HOK.out _ (List.getElem_mem hlt)
      have HTK := hid (show (l.map (·.ty)).take (j + 1) = (l.map (·.ty)).take j ++ [l[j].ty] ∧ (l.map (·.name)).take (j + 1) = (l.map (·.name)).take j ++ [l[j].name] by
        rw [List.take_add_one, List.take_add_one, List.getElem?_map, List.getElem?_map, List.getElem?_eq_getElem hlt]; exact ⟨rfl, rfl⟩)
      have HLN := hid (show ((l.map (·.ty)).take j).length ≤ 1000 ∧ ((l.map (·.name)).take j).length ≤ 1000 by
        constructor <;> (rw [List.length_take, List.length_map]; omega))
      have HTV := hid hTV
      generalize l[j] = at' at *
      obtain ⟨nm, ty, md, rp, sn, vl⟩ := at'
      simp only at a0 a4 a5 a6 a7 HTV HTK hnm hob
      generalize (l.map (·.ty)).take j = ts at *
      generalize (l.map (·.name)).take j = ns at *
      have HOB := hid hob
      have HNM := hid hnm
      clear hTV hob hnm
      go_upto_region 5 with (fail)
      have hal : Below wr.heap.size wr (wr.alloc (.cells #[.string nm, .int .i64 k, .slice oe1 me1 ce1, .slice on1 mn1 cn1, .int .i64 md, .bool rp, .bool sn, .bool vl] 82)) := (Below.refl _ _).alloc (Nat.le_refl _) _
      have hxo := heap_alloc_at wr (.cells #[.string nm, .int .i64 k, .slice oe1 me1 ce1, .slice on1 mn1 cn1, .int .i64 md, .bool rp, .bool sn, .bool vl] 82)
      generalize wr.alloc (.cells #[.string nm, .int .i64 k, .slice oe1 me1 ce1, .slice on1 mn1 cn1, .int .i64 md, .bool rp, .bool sn, .bool vl] 82) = wx at *
      have TX := hid (T.out.later hal)
      have HXO := hid hxo
      have HXL := hid (show w.heap.size + 1 < wr.heap.size by have := T.out.lt; omega)
      have HVN := hid (fun g (e : (Value.slice on mn cn).ownBlock = some g) => T.out.row.lt e)
      have HVE := hid (fun g (e : (Value.slice oe me ce).ownBlock = some g) => (T.out.own.block e).2)
      have HXS := hid (show wr.heap.size < wx.heap.size from (Array.getElem?_eq_some_iff.1 hxo).1)
      clear hal hxo a0 a1 a2 a3 a4 a5 a6 a7 T
      have o2 := (cells_in TX.out.obj 2).trans rfl
      have y0 := (cells_in HXO.out 0).trans rfl
      go_upto_region 6 with (at_builtin; refine app_tag (by rfl) (.tmp 14) (.tmp 17) 24 (by rfl) 9 (.string ⟨#[]⟩) 1 16 Try.underlying24 info9 rfl (by decide) (by decide) _ _ _ TX.out.row.owns (by rfl) [.string nm] wx.heap.size (by rfl) (by rfl) (by rfl) (by simp [Value.oneCell']) (by have := HLN.out; omega) ?_; intro v3 w3 hown3 hc3 hp3 hne3; obtain ⟨o3, n3, c3, rfl⟩ := owns_slice hown3; have hT3 : w3.heap[w.heap.size + 1]? = _ := (hc3.block _ TX.out.lt (fun e => (TX.out.rown _ e).2.1 rfl)).trans TX.out.obj; have t2 := (cells_in hT3 2).trans rfl; have tf := frozen_in hT3)
      have T4 := hid (TX.out.names (owns_row (l := ns ++ [nm]) (by rw [strs, List.map_append]; exact hown3) (by simp)) (fun s hs => by
        rcases List.mem_append.1 hs with h | h
        · exact TX.out.strs s h
        · rw [List.mem_singleton.1 h]; exact HNM.out) hp3 hc3)
      have HXO4 : Hid ((w3.setCell ⟨w.heap.size + 1, 2, none⟩ (.slice o3 n3 c3)).heap[wr.heap.size]? = some (.cells #[.string nm, .int .i64 k, .slice oe1 me1 ce1, .slice on1 mn1 cn1, .int .i64 md, .bool rp, .bool sn, .bool vl] 82)) := hid (by
        have hx := HXL.out
        have c2 := Chg.setCell (B := fun g => g = w.heap.size + 1) w3 (w.heap.size + 1) 2 (.slice o3 n3 c3) rfl
        exact (c2.block _ (by have := hc3.size; have := HXS.out; omega) (by omega)).trans ((hc3.block _ HXS.out (fun e => by have := HVN.out _ e; omega)).trans HXO.out))
      have HX4 : Hid (wr.heap.size < (w3.setCell ⟨w.heap.size + 1, 2, none⟩ (.slice o3 n3 c3)).heap.size) := hid (Array.getElem?_eq_some_iff.1 HXO4.out).1
      clear hown3 hc3 hp3 hne3 hT3 t2 tf o2 y0 TX HXO
      generalize w3.setCell ⟨w.heap.size + 1, 2, none⟩ (.slice o3 n3 c3) = w4 at *
      have HCall := hid (typed_any ty P w4.drew _ (HTV.out.bel (below_drew (HB.out.trans (T4.out.bel.mono (by omega))))) (by have := HOB.out; omega) (by have := HOB.out; omega))
      have o1 := (cells_in T4.out.obj 1).trans rfl
      have y1 := (cells_in HXO4.out 1).trans rfl
      have y2 := (cells_in HXO4.out 2).trans rfl
      have y3 := (cells_in HXO4.out 3).trans rfl
      go_wp2_with fail
      refine wp_region_steady_tail 8 (fun v => v.cell? ⟨w.heap.size + 1, 1, none⟩ = some (.slice oe me ce) ∧ v.cell? ⟨wr.heap.size, 1, none⟩ = some (.int .i64 k) ∧ v.cell? ⟨wr.heap.size, 2, none⟩ = some (.slice oe1 me1 ce1) ∧ v.cell? ⟨wr.heap.size, 3, none⟩ = some (.slice on1 mn1 cn1)) (by kernel_rfl) (by kernel_rfl) (⟨o1, y1, y2, y3⟩) ?_
      simp only [List.take_succ_cons, List.take_zero, List.drop_succ_cons, List.drop_zero]
      repeat (first
        | (refine wpSteady_skip (by rfl) ?_; try simp only [Act.put, List.setIfInBounds_toArray, List.set_cons_zero, List.set_cons_succ])
        | (refine wpSteady_calm (v := ?_) (by rfl) ?_ ?_; rotate_left; (focus (intro v hSv; (try dsimp only at hSv); go_simp; (try rw [if_neg (by omega)]); (try with_reducible rfl); done)); try simp only [Act.put, List.setIfInBounds_toArray, List.set_cons_zero, List.set_cons_succ]))
      refine wpSteady_loud rfl (by rfl) (fun K hK => ?_)
      go_simp
      refine HCall.out.mono ?_; rintro e w5 ⟨u, rfl, hu, hb5⟩
      obtain ⟨k5, oi5, mi5, ci5, ok5, mk5, ck5, rfl⟩ := hu.agg
      have T5 := hid (T4.out.later (show Below w4.heap.size w4 w5 from ⟨hb5.os, hb5.tape, hb5.output, hb5.size, hb5.block⟩))
      have HU5 : Hid (TV (fun g => w4.heap.size ≤ g) w5 (.agg #[.int .i64 k5, .slice oi5 mi5 ci5, .slice ok5 mk5 ck5]) ty) := hid hu
      have r1 := bcell (W := w4.drew) hb5 o1
      have r2 := bcell (W := w4.drew) hb5 y1
      have r3 := bcell (W := w4.drew) hb5 y2
      have r4 := bcell (W := w4.drew) hb5 y3
      have HW5 : Hid (w4.heap.size ≤ w5.heap.size) := hid hb5.size
      clear hu hb5 HCall o1 y1 y2 y3
      refine hK.out _ _ (⟨r1, r2, r3, r4⟩) ?_
      clear hK K
      try simp only [Act.put, List.setIfInBounds_toArray, List.set_cons_zero, List.set_cons_succ]
      refine wpSteady_loud rfl (by rfl) (fun K hK => ?_)
      go_simp
      have hal : Below w5.heap.size w5 (w5.alloc (.cells #[.int .i64 k5, .slice oi5 mi5 ci5, .slice ok5 mk5 ck5] 79)) := (Below.refl _ _).alloc (Nat.le_refl _) _
      refine hK.out _ _ (⟨bcell hal r1, bcell hal r2, bcell hal r3, bcell hal r4⟩) ?_
      clear hK K
      try simp only [Act.put, List.setIfInBounds_toArray, List.set_cons_zero, List.set_cons_succ]
      clear hal
      refine wpSteady_loud rfl (by rfl) (fun K hK => ?_)
      obtain ⟨rs, hm, hl2, he4⟩ := T5.out.own
      have hno : ∀ g, wr.heap.size ≤ g → ¬ (Value.slice oe me ce).ownBlock = some g := fun g hg e => by have := HVE.out g e; omega
      refine app_tag_wp (.tmp 21) (.tmp 25) 77 (by rfl) 79 (.agg #[.int .i64 0, .slice none 0 0, .slice none 0 0]) 3 56 Try.underlying77 info26 (by rfl) (by decide) (by decide) _ _ _ hm.1 (by rfl) [.int .i64 k5, .slice oi5 mi5 ci5, .slice ok5 mk5 ck5] w5.heap.size (by rfl) (by rfl) (by rfl) (by simp [Value.oneCell']) (by have := HLN.out; omega) ?_
      intro v7 w7 hown7 hc7 hp7 hne7
      obtain ⟨o7, n7, c7, rfl⟩ := owns_slice hown7
      have hX7 : w7.heap[w.heap.size + 1]? = _ := (hc7.block _ T5.out.lt (fun e => T5.out.eown e)).trans T5.out.obj
      refine hK.out _ _ ⟨chg_cell hc7 (fun e => T5.out.eown e) r1, chg_cell hc7 (hno _ (Nat.le_refl _)) r2, chg_cell hc7 (hno _ (Nat.le_refl _)) r3, chg_cell hc7 (hno _ (Nat.le_refl _)) r4⟩ ?_
      clear hK K
      try simp only [Act.put, List.setIfInBounds_toArray, List.set_cons_zero, List.set_cons_succ]
      have hpush : OwnL (w.heap.size + 1) (w.heap.size + 1) (fun g => w.heap.size + 1 ≤ g ∧ (Value.slice o3 n3 c3).ownBlock ≠ some g) w7 (.slice o7 n7 c7) (ts ++ [ty]) := OwnL.push (by have := T5.out.lt; omega) ⟨rs, hm, hl2, he4, hown7⟩ HU5.out (fun g (hg : w4.heap.size ≤ g) => by
        have h1 := T4.out.lt
        refine ⟨⟨by omega, fun e => ?_⟩, by omega, fun e => ?_⟩
        · have := T4.out.row.lt e; omega
        · have := (T4.out.own.block e).2; omega) hc7 hp7
      have T7 := hid (T5.out.elems hpush hp7 hc7)
      have h1 := (cells_in hX7 1).trans rfl
      have hf := frozen_in hX7
      clear hown7 hc7 hp7 hne7 hX7 hno r1 r2 r3 r4 T5 hm hl2 he4 hpush
      repeat (first
        | (refine wpSteady_skip (by rfl) ?_; try simp only [Act.put, List.setIfInBounds_toArray, List.set_cons_zero, List.set_cons_succ])
        | (refine wpSteady_calm (v := ?_) (by rfl) ?_ ?_; rotate_left; (focus (intro v hSv; (try dsimp only at hSv); go_simp; (try rw [if_neg (by omega)]); (try with_reducible rfl); done)); try simp only [Act.put, List.setIfInBounds_toArray, List.set_cons_zero, List.set_cons_succ]))
      refine wpSteady_nil ?_
      go_wp2_with fail
      clear h1 hf
      go_roundw
      case rel => exact ⟨j + 1, _, _, _, _, _, _, by omega, by go_num, by rw [HTK.out.1, HTK.out.2]; exact T7⟩
      case measure => simp [intOf]; omega
    · have HTE := hid (show (l.map (·.ty)).take j = l.map (·.ty) ∧ (l.map (·.name)).take j = l.map (·.name) from ⟨List.take_of_length_le (by simp; omega), List.take_of_length_le (by simp; omega)⟩)
      rw [HTE.out.1, HTE.out.2] at T
      have HZ2 := hid ((T.out.bel.block _ (by omega)).trans HZ.out)
      have o0 := (cells_in T.out.obj 0).trans rfl
      have o1 := (cells_in T.out.obj 1).trans rfl
      have o2 := (cells_in T.out.obj 2).trans rfl
      have f0 := (cells_in HZ2.out 0).trans rfl
      have f1 := (cells_in HZ2.out 1).trans rfl
      have f2 := (cells_in HZ2.out 2).trans rfl
      have fz := frozen_in HZ2.out
      go_wp2_with fail
      try simp only [Exit.inBlock, Exit.then]
      refine bodyPost_ret (v := .agg #[.int .i64 6, .slice oe me ce, .slice on mn cn]) (by simp [results, Try.results70, go_sem, f0, f1, f2]) rfl ?_
      have c3 := chg_store3 wr w.heap.size (.int .i64 6) (.slice oe me ce) (.slice on mn cn)
      refine ⟨_, _, w.heap.size + 1, rfl, store3_below HB2.out (Nat.le_refl _) (Nat.le_refl _) _ _ _, ?_, T.out.row.chg c3 fun g e e2 => by have := (T.out.rown g e).1; omega, fun g e => ⟨by have := (T.out.rown g e).1; omega, (T.out.rown g e).2.2⟩, T.out.strs⟩
      exact (T.out.own.chg c3 (fun g e e2 => by have := (T.out.own.block e).1; omega) (fun g hg _ e => by have := hg.1; omega)).base (Nat.le_succ _) |>.mono fun g _ hg => ⟨Nat.le_of_succ_le hg.1, hg.2⟩
end Go.Proofs.Ytibiiafcnaijeaa
