/- Find and kind of schema. -/
import Derived.Test.YtibiiafcnaijeaaTyped
import Derived.Test.YtibiiafcnaijeaaSv
import Derived.Test.YtibiiafcnaijeaaEqV
namespace Go.Proofs.Ytibiiafcnaijeaa
open Go Go.RowKit Go.Proofs.Ytibiiafcnaijeaa.Steady
set_option linter.unusedVariables false
set_option linter.unusedSimpArgs false

abbrev zero8 : Obj := .cells #[.string ⟨#[]⟩, .int .i64 0, .slice none 0 0, .slice none 0 0, .int .i64 0, .bool false, .bool false, .bool false] 82
abbrev zeroN : Obj := .cells #[.string ⟨#[]⟩, .int .i64 0, .int .i64 0, .slice none 0 0, .bool false] 101
def modeO (o : Option At) : Int := match o with
  | none => 0
  | some a => a.mode
def repO (o : Option At) : Bool := match o with
  | none => false
  | some a => a.rep
def sensO (o : Option At) : Bool := match o with
  | none => false
  | some a => a.sens
def volO (o : Option At) : Bool := match o with
  | none => false
  | some a => a.vol
def repK (o : Option Ne) : Bool := match o with
  | none => false
  | some a => a.rep
/-- The types of a schema are small. -/
def ScOk (s : Sc) : Prop := s.attrs.length ≤ 1000 ∧ s.nested.length ≤ 1000 ∧ (∀ a ∈ s.attrs, sizeT a.ty ≤ 1000 ∧ namesT a.ty ≤ 1000) ∧ ∀ n ∈ s.nested, n.attrs.length ≤ 1000 ∧ ∀ a ∈ n.attrs, sizeT a.ty ≤ 1000 ∧ namesT a.ty ≤ 1000
def FindPost (o : Option At) (w : World) (e : Ending) (w' : World) : Prop := ∃ nm k oe me ce on mn cn, e = .returned (.tuple #[.agg #[.string nm, .int .i64 k, .slice oe me ce, .slice on mn cn, .int .i64 (modeO o), .bool (repO o), .bool (sensO o), .bool (volO o)], .bool o.isSome]) ∧ Below w.heap.size w w'
def KindPost (o : Option Ne) (w : World) (e : Ending) (w' : World) : Prop := ∃ nm mn mx oa ma ca, e = .returned (.tuple #[.agg #[.string nm, .int .i64 mn, .int .i64 mx, .slice oa ma ca, .bool (repK o)], .bool o.isSome]) ∧ Below w.heap.size w w'
theorem fndA_hit {l : List At} {x : ByteArray} {j : Nat} (h : j < l.length) (hn : ∀ i (hi : i < l.length), i < j → l[i].name ≠ x) (hy : l[j].name = x) : fndA l x = some l[j] := by
  induction l generalizing j with
  | nil => cases h
  | cons a l ih =>
    rw [fndA, List.find?_cons]
    cases j with
    | zero =>
      have hy' : a.name = x := hy
      rw [decide_eq_true hy']; rfl
    | succ j =>
      have h0 : a.name ≠ x := hn 0 (by simp) (by omega)
      rw [decide_eq_false h0]
      exact ih (j := j) (by simpa using h) (fun i hi hij => hn (i + 1) (by simpa using hi) (by omega)) hy
theorem fndA_miss : ∀ {l : List At} {x : ByteArray}, (∀ i (hi : i < l.length), l[i].name ≠ x) → fndA l x = none
  | [], x, _ => rfl
  | a :: l, x, h => by
    have h0 : a.name ≠ x := h 0 (by simp)
    rw [fndA, List.find?_cons, decide_eq_false h0]
    exact fndA_miss fun i hi => h (i + 1) (by simpa using hi)
theorem fndK_hit {l : List Ne} {x : ByteArray} {j : Nat} (h : j < l.length) (hn : ∀ i (hi : i < l.length), i < j → l[i].name ≠ x) (hy : l[j].name = x) : fndK l x = some l[j] := by
  induction l generalizing j with
  | nil => cases h
  | cons a l ih =>
    rw [fndK, List.find?_cons]
    cases j with
    | zero =>
      have hy' : a.name = x := hy
      rw [decide_eq_true hy']; rfl
    | succ j =>
      have h0 : a.name ≠ x := hn 0 (by simp) (by omega)
      rw [decide_eq_false h0]
      exact ih (j := j) (by simpa using h) (fun i hi hij => hn (i + 1) (by simpa using hi) (by omega)) hy
theorem fndK_miss : ∀ {l : List Ne} {x : ByteArray}, (∀ i (hi : i < l.length), l[i].name ≠ x) → fndK l x = none
  | [], x, _ => rfl
  | a :: l, x, h => by
    have h0 : a.name ≠ x := h 0 (by simp)
    rw [fndK, List.find?_cons, decide_eq_false h0]
    exact fndK_miss fun i hi => h (i + 1) (by simpa using hi)
theorem chg_store8 (w : World) (b : Nat) (x0 x1 x2 x3 x4 x5 x6 x7 : Value) : Chg (fun k => k = b) w ((((((((w.setCell ⟨b, 0, none⟩ x0).setCell ⟨b, 1, none⟩ x1).setCell ⟨b, 2, none⟩ x2).setCell ⟨b, 3, none⟩ x3).setCell ⟨b, 4, none⟩ x4).setCell ⟨b, 5, none⟩ x5).setCell ⟨b, 6, none⟩ x6).setCell ⟨b, 7, none⟩ x7) := by
  refine Chg.trans (v := (((((((w.setCell ⟨b, 0, none⟩ x0).setCell ⟨b, 1, none⟩ x1).setCell ⟨b, 2, none⟩ x2).setCell ⟨b, 3, none⟩ x3).setCell ⟨b, 4, none⟩ x4).setCell ⟨b, 5, none⟩ x5).setCell ⟨b, 6, none⟩ x6)) ?_ (Chg.setCell (B := fun k => k = b) _ b 7 x7 rfl)
  refine Chg.trans (v := ((((((w.setCell ⟨b, 0, none⟩ x0).setCell ⟨b, 1, none⟩ x1).setCell ⟨b, 2, none⟩ x2).setCell ⟨b, 3, none⟩ x3).setCell ⟨b, 4, none⟩ x4).setCell ⟨b, 5, none⟩ x5)) ?_ (Chg.setCell (B := fun k => k = b) _ b 6 x6 rfl)
  refine Chg.trans (v := (((((w.setCell ⟨b, 0, none⟩ x0).setCell ⟨b, 1, none⟩ x1).setCell ⟨b, 2, none⟩ x2).setCell ⟨b, 3, none⟩ x3).setCell ⟨b, 4, none⟩ x4)) ?_ (Chg.setCell (B := fun k => k = b) _ b 5 x5 rfl)
  exact chg_store5 w b x0 x1 x2 x3 x4
theorem store8_below {n b : Nat} {w w2 : World} (h : Below n w w2) (hb : n ≤ b) (hn : n ≤ w.heap.size) (x0 x1 x2 x3 x4 x5 x6 x7 : Value) : Below n w ((((((((w2.setCell ⟨b, 0, none⟩ x0).setCell ⟨b, 1, none⟩ x1).setCell ⟨b, 2, none⟩ x2).setCell ⟨b, 3, none⟩ x3).setCell ⟨b, 4, none⟩ x4).setCell ⟨b, 5, none⟩ x5).setCell ⟨b, 6, none⟩ x6).setCell ⟨b, 7, none⟩ x7) :=
  h.trans (chg_bel (chg_store8 w2 b x0 x1 x2 x3 x4 x5 x6 x7) (fun k hk => by rw [hk]; exact hb) (Nat.le_trans hn h.size))
set_option maxRecDepth 100000 in
set_option maxHeartbeats 4000000 in
theorem find_any (s : Sc) (x : ByteArray) (P : Nat → Prop) (w : World) (va vn : Value) (hs : SCV P w va vn s) (hok : ScOk s) :
    Calls Try.prog 47 #[.agg #[va, vn], .string x] w (FindPost (fndA s.attrs x) w) := by
  have HOK := hid hok
  clear hok
  obtain ⟨oa, ca, rfl⟩ := hs.1.len
  obtain ⟨on, cn, rfl⟩ := hs.2.len
  have hla := hs.1.le
  have hlk := hs.2.le
  generalize hA : w.alloc (.cells #[.slice oa s.attrs.length ca, .slice on s.nested.length cn] 58) = wa
  have hao : wa.heap[w.heap.size]? = some (.cells #[.slice oa s.attrs.length ca, .slice on s.nested.length cn] 58) := by rw [← hA]; exact heap_alloc_at w _
  have has : wa.heap.size = w.heap.size + 1 := by rw [← hA]; simp
  have hab : Below w.heap.size w wa := by rw [← hA]; exact (Below.refl _ _).alloc (Nat.le_refl _) _
  have hT := heap_alloc_at wa zero8
  have hbb : Below wa.heap.size wa (wa.alloc zero8) := (Below.refl _ _).alloc (Nat.le_refl _) _
  have hbs : (wa.alloc zero8).heap.size = w.heap.size + 2 := by simp [has]
  rw [has] at hT
  generalize hB : wa.alloc zero8 = wb at hT hbb hbs
  have hall : Below w.heap.size w wb := hab.trans (hbb.mono hab.size)
  have HA0 := hid hA
  have HB0 := hid hB
  have HB := hid hall
  have HS := hid hbs
  have HZ := hid hT
  have HA := hid ((hbb.block _ (by omega)).trans hao)
  have HAT := hid (hs.1.bel hall)
  have HNE := hid (hs.2.bel hall)
  clear hs hA hB hT hbb hbs hall hao has hab
  have a0 := (cells_in HA.out 0).trans rfl
  have a1 := (cells_in HA.out 1).trans rfl
  go_enter Try.func47, Try.ntmps47
  go_upto_region 1 with (fail)
  rw [HA0.out, HB0.out]
  go_wp2_with fail
  clear a0 a1
  go_loopw [11] (fun i wr => ∃ j : Nat, j ≤ s.attrs.length ∧ i = .int .i64 j ∧ Hid (Below wb.heap.size wb wr) ∧ Hid (∀ i (hi : i < s.attrs.length), i < j → s.attrs[i].name ≠ x)) (fun i _ => s.attrs.length - (intOf i).toNat)
  case atStart => exact ⟨0, Nat.zero_le _, rfl, hid (Below.refl _ _), hid fun i _ hi => absurd hi (Nat.not_lt_zero _)⟩
  case round =>
    obtain ⟨j, hj, rfl, B, A⟩ := hrel
    have HZ2 := hid (keep_obj HZ.out B.out)
    have HS2 := hid (show w.heap.size + 2 ≤ wr.heap.size by have := B.out.size; have := HS.out; omega)
    have HB2 := hid (HB.out.trans (B.out.mono HB.out.size))
    by_cases hlt : j < s.attrs.length
    · obtain ⟨g, o, c, k, oe, me, ce, on2, mn, cn2, -, e1, a0, a1, a2, a3, a4, a5, a6, a7, hTV, -⟩ := (HAT.out.bel B.out).at hlt
      cases e1
      have hj0 : (0 : Int) ≤ (j : Int) := by omega
      have hj1 : (j : Int) < (s.attrs.length : Int) := by omega
      have hob := HOK.out.2.2.1 _ (List.getElem_mem hlt)
      have HTC := hid (typed_any s.attrs[j].ty P (wr.alloc (.cells #[.string s.attrs[j].name, .int .i64 k, .slice oe me ce, .slice on2 mn cn2, .int .i64 s.attrs[j].mode, .bool s.attrs[j].rep, .bool s.attrs[j].sens, .bool s.attrs[j].vol] 82)) _ (hTV.bel ((Below.refl _ _).alloc (Nat.le_refl _) _)) (by omega) (by omega))
      have HBA := hid (show Below wr.heap.size wr (wr.alloc (.cells #[.string s.attrs[j].name, .int .i64 k, .slice oe me ce, .slice on2 mn cn2, .int .i64 s.attrs[j].mode, .bool s.attrs[j].rep, .bool s.attrs[j].sens, .bool s.attrs[j].vol] 82)) from (Below.refl _ _).alloc (Nat.le_refl _) _)
      have HXO := hid (heap_alloc_at wr (.cells #[.string s.attrs[j].name, .int .i64 k, .slice oe me ce, .slice on2 mn cn2, .int .i64 s.attrs[j].mode, .bool s.attrs[j].rep, .bool s.attrs[j].sens, .bool s.attrs[j].vol] 82))
      have HHIT := hid (fun hy => fndA_hit hlt A.out (x := x) hy)
      have HMISS : Hid (s.attrs[j].name ≠ x → ∀ i (hi : i < s.attrs.length), i < j + 1 → s.attrs[i].name ≠ x) := hid fun hne i hi hij => by
        by_cases e : i = j
        · subst e; exact hne
        · exact A.out i hi (by omega)
      generalize s.attrs[j] = at' at *
      obtain ⟨nm, ty, md, rp, sn, vl⟩ := at'
      simp only at a0 a4 a5 a6 a7 HTC HBA HXO HHIT HMISS
      clear hTV hob A
      by_cases hx : nm = x
      · subst hx
        have HF := hid (HHIT.out rfl)
        clear HHIT HMISS
        go_upto_region 4 with (fail)
        have hW : ∃ W, wr.alloc (.cells #[.string nm, .int .i64 k, .slice oe me ce, .slice on2 mn cn2, .int .i64 md, .bool rp, .bool sn, .bool vl] 82) = W := ⟨_, rfl⟩
        obtain ⟨W, hW⟩ := hW
        rw [hW] at HTC HBA HXO
        rw [hW]
        clear hW a0 a1 a2 a3 a4 a5 a6 a7
        have y0 := (cells_in HXO.out 0).trans rfl
        have y1 := (cells_in HXO.out 1).trans rfl
        have y2 := (cells_in HXO.out 2).trans rfl
        have y3 := (cells_in HXO.out 3).trans rfl
        go_wp2_with fail
        clear y0 y1 y2 y3
        refine HTC.out.mono ?_
        rintro e w6 ⟨u, rfl, hu, hb6⟩
        obtain ⟨k6, oi6, mi6, ci6, ok6, mk6, ck6, rfl⟩ := hu.agg
        have HXO6 := hid (keep_obj HXO.out hb6)
        have HZ6 := hid (keep_obj (keep_obj HZ2.out HBA.out) hb6)
        have HB6 := hid (HB2.out.trans ((HBA.out.trans (hb6.mono HBA.out.size)).mono HB2.out.size))
        have HX6 := hid (show w.heap.size + 2 ≤ wr.heap.size ∧ wr.heap.size < w6.heap.size from ⟨HS2.out, by have := hb6.size; have := (Array.getElem?_eq_some_iff.1 HXO.out).1; omega⟩)
        clear hu hb6 HTC
        have y0 := (cells_in HXO6.out 0).trans rfl
        have y1 := (cells_in HXO6.out 1).trans rfl
        have y2 := (cells_in HXO6.out 2).trans rfl
        have y3 := (cells_in HXO6.out 3).trans rfl
        have y4 := (cells_in HXO6.out 4).trans rfl
        have y5 := (cells_in HXO6.out 5).trans rfl
        have y6 := (cells_in HXO6.out 6).trans rfl
        have y7 := (cells_in HXO6.out 7).trans rfl
        have yf := frozen_in HXO6.out
        go_upto_region 6 with (fail)
        clear y0 y1 y2 y3 y4 y5 y6 y7 yf
        have HC7 := hid (((Chg.setCell (B := fun k => k = wr.heap.size) w6 wr.heap.size 1 (.int .i64 k6) rfl).trans (Chg.setCell _ wr.heap.size 2 (.slice oi6 mi6 ci6) rfl)).trans (Chg.setCell _ wr.heap.size 3 (.slice ok6 mk6 ck6) rfl))
        have HXO7 := hid (obj_set (po := 3) (obj_set (po := 2) (obj_set (po := 1) HXO6.out (.int .i64 k6)) (.slice oi6 mi6 ci6)) (.slice ok6 mk6 ck6))
        generalize ((w6.setCell ⟨wr.heap.size, 1, none⟩ (.int .i64 k6)).setCell ⟨wr.heap.size, 2, none⟩ (.slice oi6 mi6 ci6)).setCell ⟨wr.heap.size, 3, none⟩ (.slice ok6 mk6 ck6) = w7 at *
        have HZ7 := hid ((HC7.out.block _ (by have := HX6.out; omega) (by have := HX6.out; omega)).trans HZ6.out)
        have HB7 := hid (HB6.out.trans (chg_bel HC7.out (fun k hk => by rw [hk]; have := HX6.out; omega) (by have := HX6.out; omega)))
        have y0 := (cells_in HXO7.out 0).trans rfl
        have y1 := (cells_in HXO7.out 1).trans rfl
        have y2 := (cells_in HXO7.out 2).trans rfl
        have y3 := (cells_in HXO7.out 3).trans rfl
        have y4 := (cells_in HXO7.out 4).trans rfl
        have y5 := (cells_in HXO7.out 5).trans rfl
        have y6 := (cells_in HXO7.out 6).trans rfl
        have y7 := (cells_in HXO7.out 7).trans rfl
        have f0 := (cells_in HZ7.out 0).trans rfl
        have f1 := (cells_in HZ7.out 1).trans rfl
        have f2 := (cells_in HZ7.out 2).trans rfl
        have f3 := (cells_in HZ7.out 3).trans rfl
        have f4 := (cells_in HZ7.out 4).trans rfl
        have f5 := (cells_in HZ7.out 5).trans rfl
        have f6 := (cells_in HZ7.out 6).trans rfl
        have f7 := (cells_in HZ7.out 7).trans rfl
        have fz := frozen_in HZ7.out
        go_wp2_with fail
        try simp only [Exit.inBlock, Exit.then]
        refine bodyPost_ret (v := .tuple #[.agg #[.string nm, .int .i64 k6, .slice oi6 mi6 ci6, .slice ok6 mk6 ck6, .int .i64 md, .bool rp, .bool sn, .bool vl], .bool true]) (by simp [results, Try.results47, go_sem, f0, f1, f2, f3, f4, f5, f6, f7]) rfl ?_
        rw [HF.out]
        exact ⟨_, _, _, _, _, _, _, _, rfl, store8_below HB7.out (by omega) (Nat.le_refl _) _ _ _ _ _ _ _ _⟩
      · obtain ⟨hb1, hb2⟩ := str_ne hx
        have HM := hid (HMISS.out hx)
        clear HHIT HMISS HTC hx
        go_upto_region 4 with (fail)
        have hW : ∃ W, wr.alloc (.cells #[.string nm, .int .i64 k, .slice oe me ce, .slice on2 mn cn2, .int .i64 md, .bool rp, .bool sn, .bool vl] 82) = W := ⟨_, rfl⟩
        obtain ⟨W, hW⟩ := hW
        rw [hW] at HBA HXO
        rw [hW]
        clear hW a0 a1 a2 a3 a4 a5 a6 a7
        have y0 := (cells_in HXO.out 0).trans rfl
        go_wp2_with fail
        go_roundw
        case rel => exact ⟨j + 1, by omega, by go_num, hid (B.out.trans (HBA.out.mono B.out.size)), HM⟩
        case measure => simp [intOf]; omega
    · have HF := hid (fndA_miss fun i hi => A.out i hi (by omega))
      have f0 := (cells_in HZ2.out 0).trans rfl
      have f1 := (cells_in HZ2.out 1).trans rfl
      have f2 := (cells_in HZ2.out 2).trans rfl
      have f3 := (cells_in HZ2.out 3).trans rfl
      have f4 := (cells_in HZ2.out 4).trans rfl
      have f5 := (cells_in HZ2.out 5).trans rfl
      have f6 := (cells_in HZ2.out 6).trans rfl
      have f7 := (cells_in HZ2.out 7).trans rfl
      have fz := frozen_in HZ2.out
      go_wp2_with fail
      try simp only [Exit.inBlock, Exit.then]
      refine bodyPost_ret (v := .tuple #[.agg #[.string ⟨#[]⟩, .int .i64 0, .slice none 0 0, .slice none 0 0, .int .i64 0, .bool false, .bool false, .bool false], .bool false]) (by simp [results, Try.results47, go_sem, f0, f1, f2, f3, f4, f5, f6, f7]) rfl ?_
      rw [HF.out]
      exact ⟨_, _, _, _, _, _, _, _, rfl, store8_below HB2.out (by omega) (Nat.le_refl _) _ _ _ _ _ _ _ _⟩
set_option maxRecDepth 100000 in
set_option maxHeartbeats 4000000 in
theorem kind_any (s : Sc) (x : ByteArray) (P : Nat → Prop) (w : World) (va vn : Value) (hs : SCV P w va vn s) :
    Calls Try.prog 52 #[.agg #[va, vn], .string x] w (KindPost (fndK s.nested x) w) := by
  obtain ⟨oa, ca, rfl⟩ := hs.1.len
  obtain ⟨on, cn, rfl⟩ := hs.2.len
  have hla := hs.1.le
  have hlk := hs.2.le
  generalize hA : w.alloc (.cells #[.slice oa s.attrs.length ca, .slice on s.nested.length cn] 58) = wa
  have hao : wa.heap[w.heap.size]? = some (.cells #[.slice oa s.attrs.length ca, .slice on s.nested.length cn] 58) := by rw [← hA]; exact heap_alloc_at w _
  have has : wa.heap.size = w.heap.size + 1 := by rw [← hA]; simp
  have hab : Below w.heap.size w wa := by rw [← hA]; exact (Below.refl _ _).alloc (Nat.le_refl _) _
  have hT := heap_alloc_at wa zeroN
  have hbb : Below wa.heap.size wa (wa.alloc zeroN) := (Below.refl _ _).alloc (Nat.le_refl _) _
  have hbs : (wa.alloc zeroN).heap.size = w.heap.size + 2 := by simp [has]
  rw [has] at hT
  generalize hB : wa.alloc zeroN = wb at hT hbb hbs
  have hall : Below w.heap.size w wb := hab.trans (hbb.mono hab.size)
  have HA0 := hid hA
  have HB0 := hid hB
  have HB := hid hall
  have HS := hid hbs
  have HZ := hid hT
  have HA := hid ((hbb.block _ (by omega)).trans hao)
  have HAT := hid (hs.1.bel hall)
  have HNE := hid (hs.2.bel hall)
  clear hs hA hB hT hbb hbs hall hao has hab
  have a0 := (cells_in HA.out 0).trans rfl
  have a1 := (cells_in HA.out 1).trans rfl
  go_enter Try.func52, Try.ntmps52
  go_upto_region 1 with (fail)
  rw [HA0.out, HB0.out]
  go_wp2_with fail
  clear a0 a1
  go_loopw [11] (fun i wr => ∃ j : Nat, j ≤ s.nested.length ∧ i = .int .i64 j ∧ Hid (Below wb.heap.size wb wr) ∧ Hid (∀ i (hi : i < s.nested.length), i < j → s.nested[i].name ≠ x)) (fun i _ => s.nested.length - (intOf i).toNat)
  case atStart => exact ⟨0, Nat.zero_le _, rfl, hid (Below.refl _ _), hid fun i _ hi => absurd hi (Nat.not_lt_zero _)⟩
  case round =>
    obtain ⟨j, hj, rfl, B, A⟩ := hrel
    have HZ2 := hid (keep_obj HZ.out B.out)
    have HS2 := hid (show w.heap.size + 2 ≤ wr.heap.size by have := B.out.size; have := HS.out; omega)
    have HB2 := hid (HB.out.trans (B.out.mono HB.out.size))
    by_cases hlt : j < s.nested.length
    · obtain ⟨g, o, c, oa2, ca2, -, e1, a0, a1, a2, a3, a4, -, -⟩ := (HNE.out.bel B.out).at hlt
      cases e1
      have hj0 : (0 : Int) ≤ (j : Int) := by omega
      have hj1 : (j : Int) < (s.nested.length : Int) := by omega
      have HBA := hid (show Below wr.heap.size wr (wr.alloc (.cells #[.string s.nested[j].name, .int .i64 s.nested[j].mn, .int .i64 s.nested[j].mx, .slice oa2 s.nested[j].attrs.length ca2, .bool s.nested[j].rep] 101)) from (Below.refl _ _).alloc (Nat.le_refl _) _)
      have HXO := hid (heap_alloc_at wr (.cells #[.string s.nested[j].name, .int .i64 s.nested[j].mn, .int .i64 s.nested[j].mx, .slice oa2 s.nested[j].attrs.length ca2, .bool s.nested[j].rep] 101))
      have HHIT := hid (fun hy => fndK_hit hlt A.out (x := x) hy)
      have HMISS : Hid (s.nested[j].name ≠ x → ∀ i (hi : i < s.nested.length), i < j + 1 → s.nested[i].name ≠ x) := hid fun hne i hi hij => by
        by_cases e : i = j
        · subst e; exact hne
        · exact A.out i hi (by omega)
      generalize s.nested[j] = at' at *
      obtain ⟨nm, mn, mx, ats, rp⟩ := at'
      simp only at a0 a1 a2 a3 a4 HBA HXO HHIT HMISS
      clear A
      generalize ats.length = ma at *
      by_cases hx : nm = x
      · subst hx
        have HF := hid (HHIT.out rfl)
        clear HHIT HMISS
        go_upto_region 4 with (fail)
        have hW : ∃ W, wr.alloc (.cells #[.string nm, .int .i64 mn, .int .i64 mx, .slice oa2 ma ca2, .bool rp] 101) = W := ⟨_, rfl⟩
        obtain ⟨W, hW⟩ := hW
        rw [hW] at HBA HXO
        rw [hW]
        clear hW a0 a1 a2 a3 a4
        have HZ6 := hid (keep_obj HZ2.out HBA.out)
        have HB6 := hid (HB2.out.trans (HBA.out.mono HB2.out.size))
        have y0 := (cells_in HXO.out 0).trans rfl
        have y1 := (cells_in HXO.out 1).trans rfl
        have y2 := (cells_in HXO.out 2).trans rfl
        have y3 := (cells_in HXO.out 3).trans rfl
        have y4 := (cells_in HXO.out 4).trans rfl
        have f0 := (cells_in HZ6.out 0).trans rfl
        have f1 := (cells_in HZ6.out 1).trans rfl
        have f2 := (cells_in HZ6.out 2).trans rfl
        have f3 := (cells_in HZ6.out 3).trans rfl
        have f4 := (cells_in HZ6.out 4).trans rfl
        have fz := frozen_in HZ6.out
        go_wp2_with fail
        try simp only [Exit.inBlock, Exit.then]
        refine bodyPost_ret (v := .tuple #[.agg #[.string nm, .int .i64 mn, .int .i64 mx, .slice oa2 ma ca2, .bool rp], .bool true]) (by simp [results, Try.results52, go_sem, f0, f1, f2, f3, f4]) rfl ?_
        rw [HF.out]
        exact ⟨_, _, _, _, _, _, rfl, store5_below HB6.out (by omega) (Nat.le_refl _) _ _ _ _ _⟩
      · obtain ⟨hb1, hb2⟩ := str_ne hx
        have HM := hid (HMISS.out hx)
        clear HHIT HMISS hx
        go_upto_region 4 with (fail)
        have hW : ∃ W, wr.alloc (.cells #[.string nm, .int .i64 mn, .int .i64 mx, .slice oa2 ma ca2, .bool rp] 101) = W := ⟨_, rfl⟩
        obtain ⟨W, hW⟩ := hW
        rw [hW] at HBA HXO
        rw [hW]
        clear hW a0 a1 a2 a3 a4
        have y0 := (cells_in HXO.out 0).trans rfl
        go_wp2_with fail
        go_roundw
        case rel => exact ⟨j + 1, by omega, by go_num, hid (B.out.trans (HBA.out.mono B.out.size)), HM⟩
        case measure => simp [intOf]; omega
    · have HF := hid (fndK_miss fun i hi => A.out i hi (by omega))
      have f0 := (cells_in HZ2.out 0).trans rfl
      have f1 := (cells_in HZ2.out 1).trans rfl
      have f2 := (cells_in HZ2.out 2).trans rfl
      have f3 := (cells_in HZ2.out 3).trans rfl
      have f4 := (cells_in HZ2.out 4).trans rfl
      have fz := frozen_in HZ2.out
      go_wp2_with fail
      try simp only [Exit.inBlock, Exit.then]
      refine bodyPost_ret (v := .tuple #[.agg #[.string ⟨#[]⟩, .int .i64 0, .int .i64 0, .slice none 0 0, .bool false], .bool false]) (by simp [results, Try.results52, go_sem, f0, f1, f2, f3, f4]) rfl ?_
      rw [HF.out]
      exact ⟨_, _, _, _, _, _, rfl, store5_below HB2.out (by omega) (Nat.le_refl _) _ _ _ _ _⟩
end Go.Proofs.Ytibiiafcnaijeaa
