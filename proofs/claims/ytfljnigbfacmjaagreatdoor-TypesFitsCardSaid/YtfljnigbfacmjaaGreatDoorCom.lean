/- common: the type of the items of a list or map. -/
import Derived.Test.YtfljnigbfacmjaaGreatDoorKeys
import Derived.Deep.DeepCutAuto
import Derived.Deep.CutBlock
namespace Go.Proofs.YtfljnigbfacmjaaGreatDoor
open Go Go.RowKit Go.Proofs.YtfljnigbfacmjaaGreatDoor.Steady
set_option linter.unusedVariables false

def OfOk (v : Vl) : Prop := ∀ (P : Nat → Prop) (w : World) (x : Value) (lv : Int), VV P w x v → szV v ≤ 400000 → kyV v ≤ 1000000 → 0 ≤ lv → lv ≤ 1000 → Calls Tryz.prog 31 #[x, .int .i64 lv] w (Fresh (ofT v lv) w)
structure CI (w wr : World) (kx : Int) (vx nx : Value) (t : Ty) : Prop where
  bel : Below w.heap.size w wr
  z : wr.heap[w.heap.size]? = some (.cells #[.int .i64 0, .slice none 0 0, .slice none 0 0] 30)
  obj : wr.heap[w.heap.size + 1]? = some (.cells #[.int .i64 kx, vx, nx] 30)
  tv : TV (fun g => w.heap.size + 1 + 1 ≤ g) wr (.agg #[.int .i64 kx, vx, nx]) t
section
variable {w wr w' : World} {kx k' : Int} {vx nx v' n' : Value} {t t' : Ty}
theorem CI.lt (h : CI w wr kx vx nx t) : w.heap.size + 1 < wr.heap.size := (Array.getElem?_eq_some_iff.1 h.obj).1
theorem CI.later (h : CI w wr kx vx nx t) (hb : Below wr.heap.size wr w') : CI w w' kx vx nx t := by
  have hl := h.lt
  exact ⟨h.bel.trans (hb.mono h.bel.size), (hb.block _ (by omega)).trans h.z, (hb.block _ hl).trans h.obj, h.tv.bel hb⟩
theorem CI.set (h : CI w wr kx vx nx t) (hu : TV (fun g => w.heap.size + 1 + 1 ≤ g) wr (.agg #[.int .i64 k', v', n']) t') : CI w (((wr.setCell ⟨w.heap.size + 1, 0, none⟩ (.int .i64 k')).setCell ⟨w.heap.size + 1, 1, none⟩ v').setCell ⟨w.heap.size + 1, 2, none⟩ n') k' v' n' t' := by
  have hl := h.lt
  have hc := chg_store3 wr (w.heap.size + 1) (.int .i64 k') v' n'
  exact ⟨store3_below h.bel (by omega) (Nat.le_refl _) _ _ _, (hc.block _ (by omega) (by omega)).trans h.z, obj_set (po := 2) (obj_set (po := 1) (obj_set (po := 0) h.obj (.int .i64 k')) v') n', store3_tv hu (by omega) (fun g hg => hg) _ _ _⟩
/-- A block of the round's own takes three values. -/
theorem CI.side {b : Nat} {x y z : Value} (h : CI w wr kx vx nx t) (hb : w.heap.size + 1 < b) (hu : TV (fun g => w.heap.size + 1 + 1 ≤ g ∧ g ≠ b) wr (.agg #[.int .i64 kx, vx, nx]) t) : CI w (((wr.setCell ⟨b, 0, none⟩ x).setCell ⟨b, 1, none⟩ y).setCell ⟨b, 2, none⟩ z) kx vx nx t := by
  have hl := h.lt
  have hc := chg_store3 wr b x y z
  exact ⟨store3_below h.bel (by omega) (Nat.le_refl _) _ _ _, (hc.block _ (by omega) (by omega)).trans h.z, (hc.block _ hl (by omega)).trans h.obj, store3_tv hu (fun h => h.2 rfl) (fun g hg => hg.1) _ _ _⟩
theorem CI.out {x y z : Value} (h : CI w wr kx vx nx t) : TV (fun g => w.heap.size ≤ g) (((wr.setCell ⟨w.heap.size, 0, none⟩ x).setCell ⟨w.heap.size, 1, none⟩ y).setCell ⟨w.heap.size, 2, none⟩ z) (.agg #[.int .i64 kx, vx, nx]) t ∧
    Below w.heap.size w (((wr.setCell ⟨w.heap.size, 0, none⟩ x).setCell ⟨w.heap.size, 1, none⟩ y).setCell ⟨w.heap.size, 2, none⟩ z) :=
  ⟨store3_tv h.tv (by omega) (fun g hg => by omega) _ _ _, store3_below h.bel (Nat.le_refl _) (Nat.le_refl _) _ _ _⟩
end
theorem drop_step {l : List Vl} {j : Nat} (h : j < l.length) : l.drop j = l[j] :: l.drop (j + 1) := List.drop_eq_getElem_cons h
set_option maxRecDepth 100000 in
set_option maxHeartbeats 4000000 in
theorem com_any (is : List Vl) (ih : ∀ v ∈ is, OfOk v) (P : Nat → Prop) (w : World) (x : Value) (lv : Int) (hx : WV P w x is) (hsz : szL is ≤ 400000) (hky : kyL is ≤ 1000000) (h0 : 0 ≤ lv) (h1 : lv ≤ 1000) :
    Calls Tryz.prog 51 #[x, .int .i64 lv] w (Fresh (comT is lv none) w) := by
  obtain ⟨ox, cx, rfl⟩ := hx.len
  have hle := hx.le
  have hlen := szL_len is
  have HX := hid hx
  have IH := hid ih
  generalize hA : w.alloc (.cells #[.int .i64 0, .slice none 0 0, .slice none 0 0] 30) = wa
  have hzo : wa.heap[w.heap.size]? = some (.cells #[.int .i64 0, .slice none 0 0, .slice none 0 0] 30) := by rw [← hA]; exact heap_alloc_at w _
  have has : wa.heap.size = w.heap.size + 1 := by rw [← hA]; simp
  have hab : Below w.heap.size w wa := by rw [← hA]; exact (Below.refl _ _).alloc (Nat.le_refl _) _
  have hT := heap_alloc_at wa (.cells #[.int .i64 0, .slice none 0 0, .slice none 0 0] 30)
  have hbb : Below wa.heap.size wa (wa.alloc (.cells #[.int .i64 0, .slice none 0 0, .slice none 0 0] 30)) := (Below.refl _ _).alloc (Nat.le_refl _) _
  rw [has] at hT
  generalize hB : wa.alloc (.cells #[.int .i64 0, .slice none 0 0, .slice none 0 0] 30) = wb at hT hbb
  have HC := hid (show CI w wb 0 (.slice none 0 0) (.slice none 0 0) (.mk 0 [] []) from ⟨hab.trans (hbb.mono hab.size), (hbb.block _ (by omega)).trans hzo, hT, TV.any0 _ _⟩)
  have HA := hid hA
  have HB := hid hB
  clear hx ih hA hB hT hbb hab hzo has
  go_enter Tryz.func51, Tryz.ntmps51
  go_wp2_with fail
  rw [HA.out, HB.out]
  go_loopw [6, 12] (fun fb i wr => ∃ (j : Nat) (o : Option Ty) (kx : Int) (vx nx : Value), j ≤ is.length ∧ i = .int .i64 j ∧ fb = .bool o.isNone ∧ Hid (CI w wr kx vx nx (o.getD (.mk 0 [] []))) ∧ Hid (comT is lv none = comT (is.drop j) lv o) ∧ Hid (sizeT (o.getD (.mk 0 [] [])) ≤ 1000000 ∧ namesT (o.getD (.mk 0 [] [])) ≤ 1000000)) (fun _ i _ => is.length - (intOf i).toNat)
  case atStart => exact ⟨0, none, _, _, _, Nat.zero_le _, rfl, rfl, HC, rfl, hid ⟨by show sizeT (.mk 0 [] []) ≤ _; rw [sizeT_eq, sizeL]; omega, by show namesT (.mk 0 [] []) ≤ _; rw [namesT, namesL]; simp⟩⟩
  case round =>
    obtain ⟨j, o, kx, vx, nx, hj, rfl, rfl, HCI, HE, HSZ⟩ := hrel
    obtain ⟨_, oy, my, cy, oz, mz, cz, -, rfl, rfl⟩ := HCI.out.tv.agg3
    by_cases hlt : j < is.length
    · obtain ⟨g, off, c, k1, n1, s1, oi, mi, ci, ok, mk, ck, e1, a1, a2, a3, a4, a5, hV, hkd⟩ := (HX.out.bel (HCI.out.bel)).at hlt
      cases e1
      have hj0 : (0 : Int) ≤ (j : Int) := by omega
      have hj1 : (j : Int) < (is.length : Int) := by omega
      have HV := hid hV
      have HKD := hid hkd
      clear hV hkd
      go_upto_region 6 with (fail)
      have hb5 : Below wr.heap.size wr (wr.alloc (.cells #[.int .i64 k1, .int .i64 n1, .string s1, .slice oi mi ci, .slice ok mk ck] 26)) := (Below.refl _ _).alloc (Nat.le_refl _) _
      have hxo := heap_alloc_at wr (.cells #[.int .i64 k1, .int .i64 n1, .string s1, .slice oi mi ci, .slice ok mk ck] 26)
      generalize wr.alloc (.cells #[.int .i64 k1, .int .i64 n1, .string s1, .slice oi mi ci, .slice ok mk ck] 26) = w5 at *
      have HCI5 := hid (HCI.out.later hb5)
      have HV5 := hid (HV.out.bel hb5)
      have W5 := hid hb5.size
      have z0 := (cells_in hxo 0).trans rfl
      have z1 := (cells_in hxo 1).trans rfl
      have z2 := (cells_in hxo 2).trans rfl
      have z3 := (cells_in hxo 3).trans rfl
      have z4 := (cells_in hxo 4).trans rfl
      clear a1 a2 a3 a4 a5 hb5 hxo HV
      by_cases hk0 : k1 = 0
      · have hn : nilV is[j] = true := by unfold nilV; rw [HKD.out, hk0]; rfl
        have e0 : decide (k1 = 0) = true := decide_eq_true hk0
        have b0 : (k1 == 0) = true := beq_iff_eq.2 hk0
        have HE2 := hid (HE.out.trans (by rw [drop_step hlt, comT_skip hn]))
        clear hn
        go_wp2_with fail
        go_roundw
        case rel => exact ⟨j + 1, o, _, _, _, by omega, by go_num, rfl, HCI5, HE2, HSZ⟩
        case measure => simp [intOf]; omega
      have e0 : decide (k1 = 0) = false := decide_eq_false hk0
      have b0 : (k1 == 0) = false := beq_eq_false_iff_ne.2 hk0
      by_cases hk6 : k1 = 6
      · have hn : nilV is[j] = true := by unfold nilV; rw [HKD.out, hk6]; rfl
        have e6 : decide (k1 = 6) = true := decide_eq_true hk6
        have b6 : (k1 == 6) = true := beq_iff_eq.2 hk6
        have HE2 := hid (HE.out.trans (by rw [drop_step hlt, comT_skip hn]))
        clear hn
        go_wp2_with fail
        go_roundw
        case rel => exact ⟨j + 1, o, _, _, _, by omega, by go_num, rfl, HCI5, HE2, HSZ⟩
        case measure => simp [intOf]; omega
      have e6 : decide (k1 = 6) = false := decide_eq_false hk6
      have b6 : (k1 == 6) = false := beq_eq_false_iff_ne.2 hk6
      have hn : nilV is[j] = false := by unfold nilV; rw [HKD.out, e0, e6]; rfl
      have HN := hid hn
      have HOF := hid (IH.out is[j] (List.getElem_mem hlt) P w5 _ lv HV5.out (by have := szV_mem (List.getElem_mem hlt); omega) (by have := kyV_mem (List.getElem_mem hlt); omega) h0 h1)
      have HSZ6 := hid (ofT_size is[j] lv)
      have HSV := hid (And.intro (szV_mem (List.getElem_mem hlt)) (kyV_mem (List.getElem_mem hlt)))
      clear hk0 hk6 hn
      go_wp2_with fail
      clear z0 z1 z2 z3 z4
      refine HOF.out.mono ?_
      rintro e w6 ⟨u, rfl, hu, hb6⟩
      obtain ⟨t6, ht6⟩ : ∃ t6, ofT is[j] lv = t6 := ⟨_, rfl⟩
      rw [ht6] at hu HSZ6
      have HT6 := hid ht6
      obtain ⟨k4, es4, ns4⟩ := t6
      obtain ⟨ve4, vn4, rfl, hE4, hN4⟩ := hu.out
      obtain ⟨oe4, ce4, rfl⟩ := hE4.len
      obtain ⟨on4, cn4, rfl⟩ := hN4.len
      have HU := hid hu
      have HCI6 := hid (HCI5.out.later hb6)
      have HTX := hid ((HCI5.out.tv.ex).bel hb6)
      have W56 := hid hb6.size
      clear hu hE4 hN4 hb6 ht6 HOF
      go_upto_region 8 with (fail)
      have hG5 : Below w6.heap.size w6 (w6.alloc (.cells #[.int .i64 k4, .slice oe4 es4.length ce4, .slice on4 ns4.length cn4] 30)) := (Below.refl _ _).alloc (Nat.le_refl _) _
      have hXO := heap_alloc_at w6 (.cells #[.int .i64 k4, .slice oe4 es4.length ce4, .slice on4 ns4.length cn4] 30)
      generalize w6.alloc (.cells #[.int .i64 k4, .slice oe4 es4.length ce4, .slice on4 ns4.length cn4] 30) = w7 at *
      have HCI7 := hid (HCI6.out.later hG5)
      have HU7 := hid (HU.out.bel hG5)
      have HTX7 := hid (HTX.out.bel hG5)
      have x0 := (cells_in hXO 0).trans rfl
      have x1 := (cells_in hXO 1).trans rfl
      have x2 := (cells_in hXO 2).trans rfl
      have c0 := (cells_in HCI7.out.obj 0).trans rfl
      have c1 := (cells_in HCI7.out.obj 1).trans rfl
      have c2 := (cells_in HCI7.out.obj 2).trans rfl
      have cf := frozen_in HCI7.out.obj
      have hne : ¬ w6.heap.size = w.heap.size + 1 := by have := HCI6.out.lt; omega
      have XO7 := hid hXO
      have L5 := hid HCI5.out.lt
      clear hG5 hXO HU HCI6 HTX
      cases o with
      | none =>
        have HE2 := hid (HE.out.trans (by rw [drop_step hlt, comT_first HN.out, HT6.out]))
        have HC2 := hid (HCI7.out.set (HU7.out.mono (Q := fun g => w.heap.size + 1 + 1 ≤ g) (fun g hg => by have := L5.out; omega)))
        go_wp2_with fail
        go_roundw
        case rel => exact ⟨j + 1, some (.mk k4 es4 ns4), _, _, _, by omega, by go_num, rfl, HC2, HE2, hid ⟨by have := HSZ6.out.1; have := HSV.out.1; show sizeT (.mk k4 es4 ns4) ≤ _; omega, by have := HSZ6.out.2; have := HSV.out.2; show namesT (.mk k4 es4 ns4) ≤ _; omega⟩⟩
        case measure => simp [intOf]; omega
      | some t =>
        have HUN := hid (uni_fresh (w := w7) HCI7.out.tv HU7.out HSZ.out.1 HSZ.out.2)
        go_wp2_with fail
        refine HUN.out.mono ?_
        rintro e w8 ⟨u8, rfl, hu8, hb8⟩
        have hun : uniT ((some t).getD (.mk 0 [] [])) (.mk k4 es4 ns4) = uniT t (.mk k4 es4 ns4) := rfl
        rw [hun] at hu8
        have HS8 := hid (uniT_size t (.mk k4 es4 ns4))
        obtain ⟨t8, ht8⟩ : ∃ t8, uniT t (.mk k4 es4 ns4) = t8 := ⟨_, rfl⟩
        rw [ht8] at hu8 HS8
        have HT8 := hid ht8
        obtain ⟨k8, es8, ns8⟩ := t8
        obtain ⟨ve8, vn8, rfl, hE8, hN8⟩ := hu8.out
        obtain ⟨oe8, ce8, rfl⟩ := hE8.len
        obtain ⟨on8, cn8, rfl⟩ := hN8.len
        have XO8 := (hb8.block _ (Array.getElem?_eq_some_iff.1 XO7.out).1).trans XO7.out
        have HCI8 := hid (HCI7.out.later hb8)
        have HTX8 := hid (HTX7.out.bel hb8)
        have HU8 := hid hu8
        have L7 := hid (Array.getElem?_eq_some_iff.1 XO7.out).1
        have y0 := (cells_in XO8 0).trans rfl
        have y1 := (cells_in XO8 1).trans rfl
        have y2 := (cells_in XO8 2).trans rfl
        have yf := frozen_in XO8
        clear hu8 hb8 hE8 hN8 ht8 hun x0 x1 x2 c0 c1 c2 cf
        go_upto_region 10 with (fail)
        have HC9 := hid (HCI8.out.side (b := w6.heap.size) (x := .int .i64 k8) (y := .slice oe8 es8.length ce8) (z := .slice on8 ns8.length cn8) (by have := L5.out; have := W56.out; omega) (HTX8.out.mono fun g hg => ⟨hg.1, by have := W56.out; omega⟩))
        have XO9 := obj_set (po := 2) (obj_set (po := 1) (obj_set (po := 0) XO8 (.int .i64 k8)) (.slice oe8 es8.length ce8)) (.slice on8 ns8.length cn8)
        have HU9 := hid (store3_tv (b := w6.heap.size) (Q := fun g => w7.heap.size ≤ g) HU8.out (by have := L7.out; omega) (fun g hg => hg) (.int .i64 k8) (.slice oe8 es8.length ce8) (.slice on8 ns8.length cn8))
        generalize ((w8.setCell ⟨w6.heap.size, 0, none⟩ (.int .i64 k8)).setCell ⟨w6.heap.size, 1, none⟩ (.slice oe8 es8.length ce8)).setCell ⟨w6.heap.size, 2, none⟩ (.slice on8 ns8.length cn8) = w9 at *
        clear y0 y1 y2 yf XO8
        have x0 := (cells_in XO9 0).trans rfl
        have x1 := (cells_in XO9 1).trans rfl
        have x2 := (cells_in XO9 2).trans rfl
        have c0 := (cells_in HC9.out.obj 0).trans rfl
        have c1 := (cells_in HC9.out.obj 1).trans rfl
        have c2 := (cells_in HC9.out.obj 2).trans rfl
        have cf := frozen_in HC9.out.obj
        have HE2 := hid (HE.out.trans (by rw [drop_step hlt, comT_next HN.out, HT6.out, HT8.out]))
        have HC2 := hid (HC9.out.set (HU9.out.mono (Q := fun g => w.heap.size + 1 + 1 ≤ g) (fun g hg => by have := L5.out; have := L7.out; have := W56.out; omega)))
        have HSZ9 := hid (show sizeT ((some (Ty.mk k8 es8 ns8)).getD (.mk 0 [] [])) ≤ 1000000 ∧ namesT ((some (Ty.mk k8 es8 ns8)).getD (.mk 0 [] [])) ≤ 1000000 from ⟨Nat.le_trans HS8.out.1 HSZ.out.1, Nat.le_trans HS8.out.2 HSZ.out.2⟩)
        clear XO9
        go_wp2_with fail
        go_roundw
        case rel => exact ⟨j + 1, some (.mk k8 es8 ns8), _, _, _, by omega, by go_num, rfl, HC2, HE2, HSZ9⟩
        case measure => simp [intOf]; omega
    · have HE2 := hid (HE.out.trans (by rw [List.drop_of_length_le (by omega), comT_nil]))
      have c0 := (cells_in HCI.out.obj 0).trans rfl
      have c1 := (cells_in HCI.out.obj 1).trans rfl
      have c2 := (cells_in HCI.out.obj 2).trans rfl
      have f0 := (cells_in HCI.out.z 0).trans rfl
      have f1 := (cells_in HCI.out.z 1).trans rfl
      have f2 := (cells_in HCI.out.z 2).trans rfl
      have fz := frozen_in HCI.out.z
      go_wp2_with fail
      try simp only [Exit.inBlock, Exit.then]
      refine bodyPost_ret (v := .agg #[.int .i64 kx, .slice oy my cy, .slice oz mz cz]) (by simp [results, Tryz.results51, go_sem, f0, f1, f2]) rfl ?_
      have OUT := hid (HCI.out.out (x := .int .i64 kx) (y := .slice oy my cy) (z := .slice oz mz cz))
      rw [HE2.out]
      exact ⟨_, rfl, OUT.out.1, OUT.out.2⟩
end Go.Proofs.YtfljnigbfacmjaaGreatDoor
