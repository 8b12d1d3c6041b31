/- The attributes of an object type: the reader's object. -/
import Derived.Test.YtfljnigbfacmjaaGreatDoorObjI
import Derived.Deep.LoopGhost
import Derived.Deep.DeepCutAuto
import Derived.Deep.CutBlock
namespace Go.Proofs.YtfljnigbfacmjaaGreatDoor
open Go Go.RowKit Go.Proofs.YtfljnigbfacmjaaGreatDoor.Steady
set_option linter.unusedVariables false

def ReadOkAt (s : ByteArray) (f : Nat) : Prop := ∀ (w : World) (X p : Nat) (k q : Int) (nm : ByteArray), p ≤ s.size → RD w X s p k q nm →
  Calls Tryz.prog 44 #[.pointer (some ⟨X, 0, none⟩), .int .i64 (33 - f)] w (RdPost X s (readP s f p) k q nm w)
def ObjOkAt (s : ByteArray) (f : Nat) : Prop := ∀ (w : World) (X p : Nat) (k q : Int) (nm : ByteArray), p ≤ s.size → RD w X s p k q nm →
  Calls Tryz.prog 66 #[.pointer (some ⟨X, 0, none⟩), .int .i64 (32 - f)] w (RdPost X s (objP s (readP s f) p) k q nm w)
set_option maxRecDepth 100000 in
set_option maxHeartbeats 4000000 in
theorem obj_any (s : ByteArray) (f : Nat) (hs : s.size ≤ 65536) (hf : f ≤ 32) (HRD : ReadOkAt s f) : ObjOkAt s f := by
  intro w X p k q nm hp hrd
  have HR := hid HRD
  have HOK := hid (readP_ok s f (33 - f) (by omega))
  clear HRD
  have hXw := hrd.lt
  generalize hA : w.alloc (.cells #[.int .i64 0, .slice none 0 0, .slice none 0 0] 30) = wa
  have hzo : wa.heap[w.heap.size]? = some (.cells #[.int .i64 0, .slice none 0 0, .slice none 0 0] 30) := by rw [← hA]; exact heap_alloc_at w _
  have has : wa.heap.size = w.heap.size + 1 := by rw [← hA]; simp
  have hab : Below w.heap.size w wa := by rw [← hA]; exact (Below.refl _ _).alloc (Nat.le_refl _) _
  have hT := heap_alloc_at wa (.cells #[.int .i64 6, .slice none 0 0, .slice none 0 0] 30)
  have hbb : Below wa.heap.size wa (wa.alloc (.cells #[.int .i64 6, .slice none 0 0, .slice none 0 0] 30)) := (Below.refl _ _).alloc (Nat.le_refl _) _
  generalize hB : wa.alloc (.cells #[.int .i64 6, .slice none 0 0, .slice none 0 0] 30) = wb at hT hbb
  have hall : Below w.heap.size w wb := hab.trans (hbb.mono hab.size)
  have hoi : OI X (w.heap.size + 1) w wb s p k q nm (.slice none 0 0) (.slice none 0 0) [] [] :=
    ⟨hXw, rfl, Chg.below hall, (hbb.block _ (by omega)).trans hzo, by rw [← has]; exact hT, OwnL.nil _ _ _ _, .inl ⟨rfl, rfl⟩, (fun g hg => by cases hg), (fun g hg => by cases hg), List.forall_mem_nil _, hrd.bel hall⟩
  have HRDY := hid (ready_p wb X s nm p k q hp (by omega) hoi.rd)
  have HOI := hid hoi
  have HB := hid hB
  have HA := hid hA
  clear hoi hB hA hT hbb hall hab hzo hrd
  go_enter Tryz.func66, Tryz.ntmps66
  go_wp2_with fail
  rw [HA.out, HB.out]
  refine HRDY.out.mono ?_
  rintro e w2 ⟨x2', (⟨j, h1, rfl, hr2⟩ | ⟨ek, at', h1, rfl, p', hr2⟩)⟩
  rotate_left
  · have HE := hid (objP_1 (rd := readP s f) h1)
    have HOI2 := hid (HOI.out.only x2' hr2)
    clear h1 x2' hr2
    have x0 := (cells_in HOI2.out.obj 0).trans rfl
    have x1 := (cells_in HOI2.out.obj 1).trans rfl
    have x2 := (cells_in HOI2.out.obj 2).trans rfl
    have f0 := (cells_in HOI2.out.z 0).trans rfl
    have f1 := (cells_in HOI2.out.z 1).trans rfl
    have f2 := (cells_in HOI2.out.z 2).trans rfl
    have fz := frozen_in HOI2.out.z
    go_wp2_with fail
    try simp only [Exit.inBlock, Exit.then]
    refine bodyPost_ret (v := .tuple #[.agg #[.int .i64 6, .slice none 0 0, .slice none 0 0], .bool false]) (by simp [results, Tryz.results66, go_sem, f0, f1, f2]) rfl ?_
    have OUT := hid (HOI2.out.out (x := .int .i64 6) (y := .slice none 0 0) (z := .slice none 0 0) (HOI2.out.tv (by first | omega | simp) (by first | omega | simp)))
    exact ⟨OUT.out.1, _, _, OUT.out.2.1, .inr ⟨_, _, HE.out, rfl, _, OUT.out.2.2⟩⟩
  obtain ⟨m1, m2, -⟩ := ready_ok h1 hp
  have HR1 := hid h1
  have HOI2 := hid (HOI.out.only x2' hr2)
  have hlt := m2
  have hj0 : (0 : Int) ≤ (j : Int) := by omega
  have hj1 : (j : Int) < (s.size : Int) := by omega
  clear h1 x2' hr2 HRDY HOI HA HB
  have c0 := HOI2.out.rd.c0
  have c1 := HOI2.out.rd.c1
  go_wp2_with fail
  refine wp_region_steady (fun v => v.cell? ⟨X, 0, none⟩ = some (.string s) ∧ v.cell? ⟨X, 1, none⟩ = some (.int .i64 j)) (by kernel_rfl) (by kernel_rfl) (⟨c0, c1⟩) ?_
  repeat (first
    | (refine wpSteady_skip (by rfl) ?_; try simp only [Act.put, List.setIfInBounds_toArray, List.set_cons_zero, List.set_cons_succ])
    | (refine wpSteady_calm (v := ?_) (by rfl) ?_ ?_; rotate_left; (focus (intro v hSv; (try dsimp only at hSv); go_simp; (try rw [if_neg (by omega)]); (try with_reducible rfl); done)); try simp only [Act.put, List.setIfInBounds_toArray, List.set_cons_zero, List.set_cons_succ]))
  refine wpSteady_nil ?_
  have hbn := byteN_get hlt
  simp only [hbn]
  clear c0 c1
  have HOI3 := hid (HOI2.out.later (below_drew (Below.refl _ _)))
  generalize w2.drew = w3 at *
  clear HOI2
  by_cases hb : byteN s j = 125
  · have d1 : decide ((byteN s j : Int) = 125) = true := decide_eq_true (by omega)
    have d2 : ((byteN s j : Int) == 125) = true := beq_iff_eq.2 (by omega)
    have HE := hid (objP_2 (rd := readP s f) HR1.out hb)
    clear hb hbn
    have c1 := HOI3.out.rd.c1
    have fx := HOI3.out.rd.fr 1
    have hq1 : ¬ (X = w.heap.size + 1) := by omega
    have hq2 : ¬ (X = w.heap.size) := by omega
    have HOI4 := hid (HOI3.out.only (Chg.setCell _ X 1 _ rfl) (HOI3.out.rd.at ((j + 1 : Nat) : Int)))
    have hadd : ((j + 1 : Nat) : Int) = (j : Int) + 1 := by omega
    rw [hadd] at HOI4
    clear hadd
    have x0 := (cells_in HOI3.out.obj 0).trans rfl
    have x1 := (cells_in HOI3.out.obj 1).trans rfl
    have x2 := (cells_in HOI3.out.obj 2).trans rfl
    have f0 := (cells_in HOI3.out.z 0).trans rfl
    have f1 := (cells_in HOI3.out.z 1).trans rfl
    have f2 := (cells_in HOI3.out.z 2).trans rfl
    have fz := frozen_in HOI3.out.z
    go_wp2_with fail
    try simp only [Exit.inBlock, Exit.then]
    refine bodyPost_ret (v := .tuple #[.agg #[.int .i64 6, .slice none 0 0, .slice none 0 0], .bool true]) (by simp [results, Tryz.results66, go_sem, f0, f1, f2]) rfl ?_
    have OUT := hid (HOI4.out.out (x := .int .i64 6) (y := .slice none 0 0) (z := .slice none 0 0) (HOI4.out.tv (by first | omega | simp) (by first | omega | simp)))
    exact ⟨OUT.out.1, _, _, OUT.out.2.1, .inl ⟨_, HE.out, rfl, OUT.out.2.2⟩⟩
  · have d1 : decide ((byteN s j : Int) = 125) = false := decide_eq_false (by omega)
    have d2 : ((byteN s j : Int) == 125) = false := beq_eq_false_iff_ne.2 (by omega)
    have HE := hid (objP_3 (rd := readP s f) HR1.out hb)
    have hoi3 := HOI3.out
    clear hb hbn
    go_wp2_with fail
    simp only [d2]
    go_loopg [] (s.size + 1) (fun g wr => ∃ (pp : Nat) (ve vn : Value) (es : List Ty) (ns : List ByteArray), pp ≤ s.size ∧ s.size - pp < g ∧ es.length ≤ pp ∧ es.length = ns.length ∧ Hid (OI X (w.heap.size + 1) w wr s pp k q nm ve vn es ns) ∧ Hid (objP s (readP s f) p = loopP s (readP s f) g pp es ns))
    case atStart => exact ⟨j, _, _, [], [], by omega, by omega, Nat.zero_le _, rfl, HOI3, HE⟩
    case round =>
      clear d1 d2 hoi3 HE HOI3 hj0 hj1 hlt m1 m2 HR1
      obtain ⟨pp, ve, vn, es, ns, h1, h2, h3, h4, HO, HRES⟩ := hrel
      obtain ⟨g0, rfl⟩ : ∃ g0, gk = g0 + 1 := ⟨gk - 1, by omega⟩
      obtain ⟨oe, me, ce, rfl⟩ := HO.out.own.slice
      obtain ⟨on, mn, cn, rfl⟩ := HO.out.row.slice
      have x2 := (cells_in HO.out.obj 2).trans rfl
      have HN := hid (name_p (fun g => w.heap.size + 1 + 1 ≤ g) wr X s nm pp k q _ ns h1 (by omega) HO.out.rd (HO.out.sv (by omega)) (fun g hg => by omega))
      go_wp2_with fail
      clear x2
      refine HN.out.mono ?_
      rintro e w2 ⟨y2, (⟨x, p1, a1, rfl, r2⟩ | ⟨ek, at', a1, rfl, p', r2⟩)⟩
      rotate_left
      · have HE := hid (HRES.out.trans (loopP_1 a1))
        have HO2 := hid (HO.out.only y2 r2)
        clear a1 y2 r2
        have x0 := (cells_in HO2.out.obj 0).trans rfl
        have x1 := (cells_in HO2.out.obj 1).trans rfl
        have x2 := (cells_in HO2.out.obj 2).trans rfl
        have f0 := (cells_in HO2.out.z 0).trans rfl
        have f1 := (cells_in HO2.out.z 1).trans rfl
        have f2 := (cells_in HO2.out.z 2).trans rfl
        have fz := frozen_in HO2.out.z
        go_wp2_with fail
        try simp only [Exit.inBlock, Exit.then]
        refine bodyPost_ret (v := .tuple #[.agg #[.int .i64 6, .slice oe me ce, .slice on mn cn], .bool false]) (by simp [results, Tryz.results66, go_sem, f0, f1, f2]) rfl ?_
        have OUT := hid (HO2.out.out (x := .int .i64 6) (y := .slice oe me ce) (z := .slice on mn cn) (HO2.out.tv (by first | omega | simp) (by first | omega | simp)))
        exact ⟨OUT.out.1, _, _, OUT.out.2.1, .inr ⟨_, _, HE.out, rfl, _, OUT.out.2.2⟩⟩
      obtain ⟨b1, b2, b3, b4, b5⟩ := name_ok a1 h1
      have A1 := hid a1
      have B2 := hid b2
      have HO2 := hid (HO.out.only y2 r2)
      have HN2 := hid (sign_p w2 X s nm p1 61 k q b5 (by omega) (by omega) r2)
      clear a1 y2 r2 HO HN b2
      go_wp2_with fail
      refine HN2.out.mono ?_
      rintro e w3 ⟨y2, (⟨p2, a1, rfl, r2⟩ | ⟨ek, at', a1, rfl, p', r2⟩)⟩
      rotate_left
      · have HE := hid (HRES.out.trans (loopP_2 A1.out a1))
        have HO3 := hid (HO2.out.only y2 r2)
        clear a1 y2 r2
        have x0 := (cells_in HO3.out.obj 0).trans rfl
        have x1 := (cells_in HO3.out.obj 1).trans rfl
        have x2 := (cells_in HO3.out.obj 2).trans rfl
        have f0 := (cells_in HO3.out.z 0).trans rfl
        have f1 := (cells_in HO3.out.z 1).trans rfl
        have f2 := (cells_in HO3.out.z 2).trans rfl
        have fz := frozen_in HO3.out.z
        go_wp2_with fail
        try simp only [Exit.inBlock, Exit.then]
        refine bodyPost_ret (v := .tuple #[.agg #[.int .i64 6, .slice oe me ce, .slice on mn cn], .bool false]) (by simp [results, Tryz.results66, go_sem, f0, f1, f2]) rfl ?_
        have OUT := hid (HO3.out.out (x := .int .i64 6) (y := .slice oe me ce) (z := .slice on mn cn) (HO3.out.tv (by first | omega | simp) (by first | omega | simp)))
        exact ⟨OUT.out.1, _, _, OUT.out.2.1, .inr ⟨_, _, HE.out, rfl, _, OUT.out.2.2⟩⟩
      obtain ⟨c1, c2⟩ := sign_ok a1 b5
      have A2 := hid a1
      have HO3 := hid (HO2.out.only y2 r2)
      have HN3 := hid (HR.out w3 X p2 k q nm c2 r2)
      clear a1 y2 r2 HO2 HN2
      go_wp2_with fail
      have hlv : (32 : Int) - (f : Int) + 1 = 33 - f := by omega
      rw [hlv]
      clear hlv
      refine HN3.out.mono ?_
      rintro e w4 ⟨y2, u, t, hu, hpost⟩
      obtain ⟨k4, es4, ns4⟩ := t
      obtain ⟨ve4, vn4, rfl, hE4, hN4⟩ := hu.out
      obtain ⟨oe4, ce4, rfl⟩ := hE4.len
      obtain ⟨on4, cn4, rfl⟩ := hN4.len
      have HU := hid hu
      have W34 := hid y2.size
      clear hu hE4 hN4
      rcases hpost with ⟨p3, a1, rfl, r2⟩ | ⟨ek, at', a1, rfl, p', r2⟩
      rotate_left
      · have HE := hid (HRES.out.trans (loopP_3 A1.out A2.out a1))
        have HO4 := hid (HO3.out.only y2 r2)
        clear a1 y2 r2 HU HN3 HO3
        go_upto_region 11 with (fail)
        have hG5 : Below w4.heap.size w4 (w4.alloc (.cells #[.int .i64 k4, .slice oe4 es4.length ce4, .slice on4 ns4.length cn4] 30)) := (Below.refl _ _).alloc (Nat.le_refl _) _
        have hS5 : (w4.alloc (.cells #[.int .i64 k4, .slice oe4 es4.length ce4, .slice on4 ns4.length cn4] 30)).heap.size = w4.heap.size + 1 := by simp
        have hXO := heap_alloc_at w4 (.cells #[.int .i64 k4, .slice oe4 es4.length ce4, .slice on4 ns4.length cn4] 30)
        generalize w4.alloc (.cells #[.int .i64 k4, .slice oe4 es4.length ce4, .slice on4 ns4.length cn4] 30) = w5 at *
        have HO5 := hid (HO4.out.later hG5)
        have x0 := (cells_in HO5.out.obj 0).trans rfl
        have x1 := (cells_in HO5.out.obj 1).trans rfl
        have x2 := (cells_in HO5.out.obj 2).trans rfl
        have f0 := (cells_in HO5.out.z 0).trans rfl
        have f1 := (cells_in HO5.out.z 1).trans rfl
        have f2 := (cells_in HO5.out.z 2).trans rfl
        have fz := frozen_in HO5.out.z
        go_wp2_with fail
        try simp only [Exit.inBlock, Exit.then]
        refine bodyPost_ret (v := .tuple #[.agg #[.int .i64 6, .slice oe me ce, .slice on mn cn], .bool false]) (by simp [results, Tryz.results66, go_sem, f0, f1, f2]) rfl ?_
        have OUT := hid (HO5.out.out (x := .int .i64 6) (y := .slice oe me ce) (z := .slice on mn cn) (HO5.out.tv (by first | omega | simp) (by first | omega | simp)))
        exact ⟨OUT.out.1, _, _, OUT.out.2.1, .inr ⟨_, _, HE.out, rfl, _, OUT.out.2.2⟩⟩
      obtain ⟨-, c4, c5, -⟩ := (HOK.out p2 c2).1 _ _ a1
      have A3 := hid a1
      have HO4 := hid (HO3.out.only y2 r2)
      have HO3X := hid HO3.out.rd.lt
      have VN3 := hid (fun g (hg : (Value.slice on mn cn).ownBlock = some g) => HO3.out.row.lt hg)
      have VE3 := hid (fun g (hg : (Value.slice oe me ce).ownBlock = some g) => (HO3.out.own.block hg).2)
      have TL3 := hid HO3.out.tlt
      clear a1 y2 r2 HN3 HO3
      go_upto_region 11 with (fail)
      have hG5 : Below w4.heap.size w4 (w4.alloc (.cells #[.int .i64 k4, .slice oe4 es4.length ce4, .slice on4 ns4.length cn4] 30)) := (Below.refl _ _).alloc (Nat.le_refl _) _
      have hS5 : (w4.alloc (.cells #[.int .i64 k4, .slice oe4 es4.length ce4, .slice on4 ns4.length cn4] 30)).heap.size = w4.heap.size + 1 := by simp
      have hXO := heap_alloc_at w4 (.cells #[.int .i64 k4, .slice oe4 es4.length ce4, .slice on4 ns4.length cn4] 30)
      generalize w4.alloc (.cells #[.int .i64 k4, .slice oe4 es4.length ce4, .slice on4 ns4.length cn4] 30) = w5 at *
      have HO5 := hid (HO4.out.later hG5)
      have XO := hid hXO
      have HU5 := hid (HU.out.bel hG5)
      have W45 := hid hG5.size
      have S5 := hid hS5
      have HN5 := hid (ready_p w5 X s nm p3 k q c5 (by omega) HO5.out.rd)
      clear hXO hG5 hS5 HU
      go_wp2_with fail
      refine HN5.out.mono ?_
      rintro e w6 ⟨y2, (⟨p4, a1, rfl, r2⟩ | ⟨ek, at', a1, rfl, p', r2⟩)⟩
      rotate_left
      · have HE := hid (HRES.out.trans (loopP_4 A1.out A2.out A3.out a1))
        have HO6 := hid (HO5.out.only y2 r2)
        clear a1 y2 r2
        have x0 := (cells_in HO6.out.obj 0).trans rfl
        have x1 := (cells_in HO6.out.obj 1).trans rfl
        have x2 := (cells_in HO6.out.obj 2).trans rfl
        have f0 := (cells_in HO6.out.z 0).trans rfl
        have f1 := (cells_in HO6.out.z 1).trans rfl
        have f2 := (cells_in HO6.out.z 2).trans rfl
        have fz := frozen_in HO6.out.z
        go_wp2_with fail
        try simp only [Exit.inBlock, Exit.then]
        refine bodyPost_ret (v := .tuple #[.agg #[.int .i64 6, .slice oe me ce, .slice on mn cn], .bool false]) (by simp [results, Tryz.results66, go_sem, f0, f1, f2]) rfl ?_
        have OUT := hid (HO6.out.out (x := .int .i64 6) (y := .slice oe me ce) (z := .slice on mn cn) (HO6.out.tv (by first | omega | simp) (by first | omega | simp)))
        exact ⟨OUT.out.1, _, _, OUT.out.2.1, .inr ⟨_, _, HE.out, rfl, _, OUT.out.2.2⟩⟩
      obtain ⟨d1, d2, -⟩ := ready_ok a1 c5
      have A4 := hid a1
      have HO6 := hid (HO5.out.only y2 r2)
      have XO6 := hid ((y2.block w4.heap.size (by have := S5.out; omega) (by have := HO4.out.rd.lt; omega)).trans XO.out)
      have HU6 := hid (HU5.out.keep (KeepsP.chg y2 (fun g (hg : w3.heap.size ≤ g) => by have := HO3X.out; omega)) fun g hg => hg)
      have W56 := hid y2.size
      have XL6 := hid (Array.getElem?_eq_some_iff.1 XO6.out).1
      have HU6E := hid HU6.out.ex
      clear a1 y2 r2 HN5 HO5 XO HU5 HO4 HU6
      have x2 := (cells_in HO6.out.obj 2).trans rfl
      have HBS := hid (bsearch_any _ w6 _ ns x (HO6.out.sv (by omega)))
      have hpl := posN_le ns x
      obtain ⟨i, hi⟩ : ∃ i, posN ns x = i := ⟨_, rfl⟩
      rw [hi] at HBS hpl
      have HI := hid hi
      clear hi
      go_wp2_with fail
      clear x2
      refine HBS.out.mono ?_
      rintro e w7 ⟨⟨bb, rfl⟩, q2, hw7⟩
      have hb7 : Below w6.heap.size w6 w7 := by rw [hw7]; exact below_drewN (Below.refl _ _) _
      have HO7 := hid (HO6.out.later hb7)
      have XO7 := hid ((hb7.block _ XL6.out).trans XO6.out)
      have HU7 := hid (HU6E.out.bel hb7)
      have W67 := hid hb7.size
      clear hw7 hb7 HBS HO6 XO6 HU6E
      have x2 := (cells_in HO7.out.obj 2).trans rfl
      go_wp2_with fail
      clear x2
      have hb8 : Below w7.heap.size w7 (w7.alloc (.cells #[.string x] 9)) := (Below.refl _ _).alloc (Nat.le_refl _) _
      have hv8 := heap_alloc_at w7 (.cells #[.string x] 9)
      generalize w7.alloc (.cells #[.string x] 9) = w8 at *
      have HO8 := hid (HO7.out.later hb8)
      have HINS := hid (ins_any (.slice on mn cn) ns i hpl (by omega) x w7.heap.size w8 HO8.out.row hv8 (fun e => by have := HO7.out.row.lt e; omega))
      have XO8 := hid ((hb8.block _ (Nat.lt_of_lt_of_le XL6.out W67.out)).trans XO7.out)
      have HU8 := hid (HU7.out.bel hb8)
      have W78 := hid hb8.size
      clear hb8 hv8 HO7 XO7 HU7
      refine HINS.out.mono ?_
      rintro e w9 ⟨vn', rfl, hrow, hp2, hc⟩
      obtain ⟨on', mn', cn', rfl⟩ := hrow.slice
      have hsm : ∀ y ∈ ns.take i ++ x :: ns.drop i, y.size ≤ 140737488355328 := fun y hy => by
        rcases List.mem_append.1 hy with hy | hy
        · exact HO8.out.small y (List.mem_of_mem_take hy)
        rcases List.mem_cons.1 hy with rfl | hy
        · omega
        · exact HO8.out.small y (List.mem_of_mem_drop hy)
      have HO10 := hid (HO8.out.insN hrow hp2 hc hsm)
      rw [← insertIdx_eq ns i x hpl] at HO10
      have hc2 : Chg (fun k => k = w.heap.size + 1) w9 (w9.setCell ⟨w.heap.size + 1, 2, none⟩ (.slice on' mn' cn')) := Chg.setCell w9 (w.heap.size + 1) 2 _ rfl
      have l9 := Nat.lt_of_lt_of_le XL6.out (Nat.le_trans W67.out W78.out)
      have XO10 := hid ((hc2.block w4.heap.size (Nat.lt_of_lt_of_le l9 hc.size) (by have := TL3.out; have := W34.out; omega)).trans ((hc.block w4.heap.size l9 (fun e => by have := VN3.out _ e; have := W34.out; omega)).trans XO8.out))
      have HU10 := hid ((HU8.out.keep (KeepsP.chg hc (fun g (hg : w3.heap.size ≤ g ∧ g < w6.heap.size) e => by have := VN3.out _ e; omega)) fun g hg => hg).keep (KeepsP.chg hc2 (fun g (hg : w3.heap.size ≤ g ∧ g < w6.heap.size) e => by have := TL3.out; omega)) fun g hg => hg)
      have W810 := hid (Nat.le_trans hc.size hc2.size)
      have VN' := hid (fun g (hg : (Value.slice on' mn' cn').ownBlock = some g) => show g < w3.heap.size ∨ w8.heap.size ≤ g from hp2.elim (fun e => .inl (VN3.out g (e ▸ hg))) (fun ⟨g', e, h'⟩ => .inr (by rw [e] at hg; cases hg; exact h')))
      have hT9 := (hc.block (w.heap.size + 1) HO8.out.tlt (fun e => by have := HO8.out.rowT _ e; omega)).trans HO8.out.obj
      have t0 := (cells_in hT9 0).trans rfl
      have t1 := (cells_in hT9 1).trans rfl
      have t2 := (cells_in hT9 2).trans rfl
      have tf := frozen_in hT9
      have L9 := hid (Nat.lt_of_lt_of_le l9 (Nat.le_trans hc.size hc2.size))
      clear hrow hp2 hc hc2 hsm hT9 HO8 XO8 HU8 HINS l9
      go_upto_region 15 with (fail)
      generalize w9.setCell ⟨w.heap.size + 1, 2, none⟩ (.slice on' mn' cn') = w10 at *
      clear t0 t1 t2 tf
      have x1 := (cells_in HO10.out.obj 1).trans rfl
      have z0 := (cells_in XO10.out 0).trans rfl
      have z1 := (cells_in XO10.out 1).trans rfl
      have z2 := (cells_in XO10.out 2).trans rfl
      go_wp2_with fail
      clear x1 z0 z1 z2
      have hb11 : Below w10.heap.size w10 (w10.alloc (.cells #[.int .i64 k4, .slice oe4 es4.length ce4, .slice on4 ns4.length cn4] 30)) := (Below.refl _ _).alloc (Nat.le_refl _) _
      have hv11 := heap_alloc_at w10 (.cells #[.int .i64 k4, .slice oe4 es4.length ce4, .slice on4 ns4.length cn4] 30)
      generalize w10.alloc (.cells #[.int .i64 k4, .slice oe4 es4.length ce4, .slice on4 ns4.length cn4] 30) = w11 at *
      have HO11 := hid (HO10.out.later hb11)
      have HU11 := hid (HU10.out.bel hb11)
      have HINT := hid (insT_any (.slice oe me ce) es (.mk k4 es4 ns4) _ _ _ i w10.heap.size w11 HO11.out.own HO11.out.tlt (by omega) (by omega) hv11 (fun e => by have := (HO10.out.own.block e).2; omega) HU11.out (fun g hg => by
        have h1 := TL3.out
        refine ⟨⟨by omega, fun e => ?_⟩, by omega, fun e => ?_⟩
        · have := VN'.out g e; have := W67.out; have := W78.out; omega
        · have := VE3.out g e; omega))
      clear hb11 hv11 HO10 XO10 HU10 HU11
      refine HINT.out.mono ?_
      rintro e w12 ⟨ve', rfl, hown, hp2, hc⟩
      obtain ⟨oe', me', ce', rfl⟩ := hown.slice
      have HO13 := hid (HO11.out.insE hown hp2 hc)
      have hT9 := (hc.block (w.heap.size + 1) HO11.out.tlt (fun e => by have := (HO11.out.own.block e).1; omega)).trans HO11.out.obj
      have t0 := (cells_in hT9 0).trans rfl
      have t1 := (cells_in hT9 1).trans rfl
      have t2 := (cells_in hT9 2).trans rfl
      have tf := frozen_in hT9
      clear hown hp2 hc hT9 HO11 HINT
      go_upto_region 16 with (fail)
      generalize w12.setCell ⟨w.heap.size + 1, 1, none⟩ (.slice oe' me' ce') = w13 at *
      clear t0 t1 t2 tf
      have hl1 : (es.insertIdx i (.mk k4 es4 ns4)).length = es.length + 1 := List.length_insertIdx_of_le_length (by omega) _
      have hl2 : (ns.insertIdx i x).length = ns.length + 1 := List.length_insertIdx_of_le_length hpl _
      have hlt := d2
      have hj0 : (0 : Int) ≤ (p4 : Int) := by omega
      have hj1 : (p4 : Int) < (s.size : Int) := by omega
      have c0 := HO13.out.rd.c0
      have c1 := HO13.out.rd.c1
      go_wp2_with fail
      refine wp_region_steady (fun v => v.cell? ⟨X, 0, none⟩ = some (.string s) ∧ v.cell? ⟨X, 1, none⟩ = some (.int .i64 p4)) (by kernel_rfl) (by kernel_rfl) (⟨c0, c1⟩) ?_
      repeat (first
        | (refine wpSteady_skip (by rfl) ?_; try simp only [Act.put, List.setIfInBounds_toArray, List.set_cons_zero, List.set_cons_succ])
        | (refine wpSteady_calm (v := ?_) (by rfl) ?_ ?_; rotate_left; (focus (intro v hSv; (try dsimp only at hSv); go_simp; (try rw [if_neg (by omega)]); (try with_reducible rfl); done)); try simp only [Act.put, List.setIfInBounds_toArray, List.set_cons_zero, List.set_cons_succ]))
      refine wpSteady_nil ?_
      have hbn := byteN_get hlt
      simp only [hbn]
      clear c0 c1
      have HO14 := hid (HO13.out.later (below_drew (Below.refl _ _)))
      generalize w13.drew = w14 at *
      clear HO13
      by_cases hb : byteN s p4 = 125
      · have d1 : decide ((byteN s p4 : Int) = 125) = true := decide_eq_true (by omega)
        have d2 : ((byteN s p4 : Int) == 125) = true := beq_iff_eq.2 (by omega)
        have HE := hid (HRES.out.trans (loopP_5 A1.out A2.out A3.out A4.out hb))
        rw [HI.out] at HE
        clear hb hbn
        have c1 := HO14.out.rd.c1
        have fx := HO14.out.rd.fr 1
        have hq1 : ¬ (X = w.heap.size + 1) := by omega
        have hq2 : ¬ (X = w.heap.size) := by omega
        have HOI4 := hid (HO14.out.only (Chg.setCell _ X 1 _ rfl) (HO14.out.rd.at ((p4 + 1 : Nat) : Int)))
        have hadd : ((p4 + 1 : Nat) : Int) = (p4 : Int) + 1 := by omega
        rw [hadd] at HOI4
        clear hadd
        have x0 := (cells_in HO14.out.obj 0).trans rfl
        have x1 := (cells_in HO14.out.obj 1).trans rfl
        have x2 := (cells_in HO14.out.obj 2).trans rfl
        have f0 := (cells_in HO14.out.z 0).trans rfl
        have f1 := (cells_in HO14.out.z 1).trans rfl
        have f2 := (cells_in HO14.out.z 2).trans rfl
        have fz := frozen_in HO14.out.z
        go_wp2_with fail
        try simp only [Exit.inBlock, Exit.then]
        refine bodyPost_ret (v := .tuple #[.agg #[.int .i64 6, .slice oe' me' ce', .slice on' mn' cn'], .bool true]) (by simp [results, Tryz.results66, go_sem, f0, f1, f2]) rfl ?_
        have OUT := hid (HOI4.out.out (x := .int .i64 6) (y := .slice oe' me' ce') (z := .slice on' mn' cn') (HOI4.out.tv (by first | omega | simp) (by first | omega | simp)))
        exact ⟨OUT.out.1, _, _, OUT.out.2.1, .inl ⟨_, HE.out, rfl, OUT.out.2.2⟩⟩
      · have d1 : decide ((byteN s p4 : Int) = 125) = false := decide_eq_false (by omega)
        have d2 : ((byteN s p4 : Int) == 125) = false := beq_eq_false_iff_ne.2 (by omega)
        have HB := hid hb
        clear hb hbn
        have HNS := hid (sign_p w14 X s nm p4 44 k q (by omega) (by omega) (by omega) HO14.out.rd)
        go_wp2_with fail
        refine HNS.out.mono ?_
        rintro e w15 ⟨y2, (⟨p5, a1, rfl, r2⟩ | ⟨ek, at', a1, rfl, p', r2⟩)⟩
        rotate_left
        · have HE := hid (HRES.out.trans (loopP_6 A1.out A2.out A3.out A4.out HB.out a1))
          have HO15 := hid (HO14.out.only y2 r2)
          clear a1 y2 r2
          have x0 := (cells_in HO15.out.obj 0).trans rfl
          have x1 := (cells_in HO15.out.obj 1).trans rfl
          have x2 := (cells_in HO15.out.obj 2).trans rfl
          have f0 := (cells_in HO15.out.z 0).trans rfl
          have f1 := (cells_in HO15.out.z 1).trans rfl
          have f2 := (cells_in HO15.out.z 2).trans rfl
          have fz := frozen_in HO15.out.z
          go_wp2_with fail
          try simp only [Exit.inBlock, Exit.then]
          refine bodyPost_ret (v := .tuple #[.agg #[.int .i64 6, .slice oe' me' ce', .slice on' mn' cn'], .bool false]) (by simp [results, Tryz.results66, go_sem, f0, f1, f2]) rfl ?_
          have OUT := hid (HO15.out.out (x := .int .i64 6) (y := .slice oe' me' ce') (z := .slice on' mn' cn') (HO15.out.tv (by first | omega | simp) (by first | omega | simp)))
          exact ⟨OUT.out.1, _, _, OUT.out.2.1, .inr ⟨_, _, HE.out, rfl, _, OUT.out.2.2⟩⟩
        have HE := hid (HRES.out.trans (loopP_7 A1.out A2.out A3.out A4.out HB.out a1))
        rw [HI.out] at HE
        obtain ⟨e1, e2⟩ := sign_ok a1 (by omega)
        have HO15 := hid (HO14.out.only y2 r2)
        clear a1 y2 r2
        go_wp2_with fail
        go_roundg g0
        case measure => omega
        case rel => exact ⟨p5, _, _, _, _, e2, by omega, by omega, by omega, HO15, HE⟩
end Go.Proofs.YtfljnigbfacmjaaGreatDoor
