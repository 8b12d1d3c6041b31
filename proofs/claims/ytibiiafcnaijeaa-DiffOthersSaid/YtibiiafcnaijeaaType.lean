/- Type and names of schema. -/
import Derived.Test.YtibiiafcnaijeaaObj
namespace Go.Proofs.Ytibiiafcnaijeaa
open Go Go.RowKit Go.Proofs.Ytibiiafcnaijeaa.Steady
set_option linter.unusedVariables false
set_option linter.unusedSimpArgs false

theorem addN_fst (p : List ByteArray × List Ty) (n : Ne) : (addN p n).1 = p.1.insertIdx (posN p.1 n.name) n.name := rfl
theorem addN_snd (p : List ByteArray × List Ty) (n : Ne) : (addN p n).2 = p.2.insertIdx (posN p.1 n.name) (.mk 4 [objT n.attrs] []) := rfl
def typJ (s : Sc) (j : Nat) : List ByteArray × List Ty := (s.nested.take j).foldl addN (s.attrs.map (·.name), s.attrs.map (·.ty))
theorem typJ_zero (s : Sc) : typJ s 0 = (s.attrs.map (·.name), s.attrs.map (·.ty)) := by simp [typJ]
theorem typJ_succ (s : Sc) {j : Nat} (h : j < s.nested.length) : typJ s (j + 1) = addN (typJ s j) s.nested[j] := by
  rw [typJ, List.take_add_one, List.getElem?_eq_getElem h, List.foldl_append]; rfl
theorem typJ_end (s : Sc) {j : Nat} (h : s.nested.length ≤ j) : typJ s j = typS s := by rw [typJ, List.take_of_length_le h]; rfl
theorem typJ_len (s : Sc) : ∀ j, j ≤ s.nested.length → (typJ s j).1.length = s.attrs.length + j ∧ (typJ s j).2.length = s.attrs.length + j
  | 0, _ => by rw [typJ_zero]; simp
  | j + 1, h => by
    obtain ⟨h1, h2⟩ := typJ_len s j (by omega)
    have := posN_le (typJ s j).1 s.nested[j].name
    rw [typJ_succ s (by omega), addN_fst, addN_snd, List.length_insertIdx_of_le_length (by omega), List.length_insertIdx_of_le_length (by omega)]
    omega
theorem lv_one {P : Nat → Prop} {w : World} {g : Nat} {x y z : Value} {t : Ty} (hp : P g) (h : w.heap[g]? = some (.cells #[x, y, z] 79)) (ht : TV P w (.agg #[x, y, z]) t) : LV P w (.slice (some ⟨g, 0, none⟩) 1 1) [t] := by
  refine ⟨[(x, y, z)], ⟨by simp, .inr ⟨g, 0, 1, hp, rfl, fun i r hr => ?_⟩⟩, rfl, fun i r e hr he => ?_⟩
  · have hi : i < 1 := (List.getElem?_eq_some_iff.1 hr).1
    obtain rfl : i = 0 := by omega
    cases hr
    exact ⟨(cells_in h 0).trans rfl, (cells_in h 1).trans rfl, (cells_in h 2).trans rfl⟩
  · have hi : i < 1 := (List.getElem?_eq_some_iff.1 hr).1
    obtain rfl : i = 0 := by omega
    cases hr
    cases he
    exact ht
set_option maxRecDepth 100000 in
set_option maxHeartbeats 4000000 in
theorem type_any (s : Sc) (P : Nat → Prop) (w : World) (va vn : Value) (hs : SCV P w va vn s) (hok : ScOk s) :
    Calls Try.prog 62 #[.agg #[va, vn]] w (ObjPost 6 (typS s).2 (typS s).1 w) := by
  obtain ⟨oa, ca, rfl⟩ := hs.1.len
  obtain ⟨on, cn, rfl⟩ := hs.2.len
  have hla := hs.1.le
  have hlk := hs.2.le
  have HOK := hid hok
  have HLE := hid (show s.attrs.length ≤ 1000 ∧ s.nested.length ≤ 1000 from ⟨hok.1, hok.2.1⟩)
  generalize hA : w.alloc (.cells #[.slice oa s.attrs.length ca, .slice on s.nested.length cn] 58) = wa
  have hao : wa.heap[w.heap.size]? = some (.cells #[.slice oa s.attrs.length ca, .slice on s.nested.length cn] 58) := by rw [← hA]; exact heap_alloc_at w _
  have has : wa.heap.size = w.heap.size + 1 := by rw [← hA]; simp
  have hab : Below w.heap.size w wa := by rw [← hA]; exact (Below.refl _ _).alloc (Nat.le_refl _) _
  have hT := heap_alloc_at wa zero3
  have hbb : Below wa.heap.size wa (wa.alloc zero3) := (Below.refl _ _).alloc (Nat.le_refl _) _
  have hbs : (wa.alloc zero3).heap.size = w.heap.size + 2 := by simp [has]
  rw [has] at hT
  generalize hB : wa.alloc zero3 = wb at hT hbb hbs
  have hall : Below w.heap.size w wb := hab.trans (hbb.mono hab.size)
  have HA0 := hid hA
  have HB0 := hid hB
  have HB := hid hall
  have HS := hid hbs
  have HZ := hid hT
  have HA := hid ((hbb.block _ (by omega)).trans hao)
  have HAT := hid hs.1
  have HNE := hid hs.2
  have HOC := hid (object_any s.attrs P wb _ (hs.1.bel hall) hok.1 hok.2.2.1)
  clear hs hok hA hB hT hbb hbs hall hao has hab
  have a0 := (cells_in HA.out 0).trans rfl
  go_enter Try.func62, Try.ntmps62
  go_upto_region 1 with (fail)
  rw [HA0.out, HB0.out]
  go_wp2_with fail
  clear a0
  refine HOC.out.mono ?_
  rintro e w2 ⟨ve, vn, box, rfl, hb2, hown, hrow, hsep, hstr⟩
  obtain ⟨oe, ce, e1⟩ := hown.slice2
  obtain ⟨on2, cn2, e2⟩ := hrow.slice
  rw [List.length_map] at e1 e2
  subst e1 e2
  go_upto_region 2 with (fail)
  generalize hW : w2.alloc (.cells #[.int .i64 6, .slice oe s.attrs.length ce, .slice on2 s.attrs.length cn2] 79) = w3
  have hal : Below w2.heap.size w2 w3 := by rw [← hW]; exact (Below.refl _ _).alloc (Nat.le_refl _) _
  have hob : w3.heap[w2.heap.size]? = some (.cells #[.int .i64 6, .slice oe s.attrs.length ce, .slice on2 s.attrs.length cn2] 79) := by rw [← hW]; exact heap_alloc_at w2 _
  have HT : Hid (TB (w.heap.size + 2) w2.heap.size wb w3 6 (.slice oe s.attrs.length ce) (.slice on2 s.attrs.length cn2) (s.attrs.map (·.ty)) (s.attrs.map (·.name))) := hid (by
    have h0 := HS.out
    have h1 := hb2.size
    refine ⟨by omega, by rw [← h0]; exact hb2.trans (hal.mono hb2.size), by omega, hob, ?_, fun e => ?_, hrow.of_same fun g hg => hal.block g (hrow.lt hg), fun g e => ⟨?_, fun e2 => ?_, (hsep g e).2⟩, hstr⟩
    · rw [← h0]
      exact (hown.re (Nat.le_refl _) fun g hg hlt => ⟨hg, by omega⟩).later hal
    · have := (hown.block e).2; omega
    · have := (hsep g e).1; omega
    · have := hrow.lt e; omega)
  have HX3 := hid (show w.heap.size + 2 ≤ w2.heap.size by have := HS.out; have := hb2.size; omega)
  clear hb2 hown hrow hsep hstr hW hal hob HOC
  have HA2 := hid ((HT.out.bel.block _ (by omega)).trans HA.out)
  have a1 := (cells_in HA2.out 1).trans rfl
  go_wp2_with fail
  clear a1
  go_loopw [14] (fun i wr => ∃ (j : Nat) (oe : Option Addr) (me ce : Nat) (on : Option Addr) (mn cn : Nat), j ≤ s.nested.length ∧ i = .int .i64 j ∧ Hid (TB (w.heap.size + 2) w2.heap.size wb wr 6 (.slice oe me ce) (.slice on mn cn) (typJ s j).2 (typJ s j).1)) (fun i _ => s.nested.length - (intOf i).toNat)
  case atStart => exact ⟨0, _, _, _, _, _, _, Nat.zero_le _, rfl, by rw [typJ_zero]; exact HT⟩
  case round =>
    clear HT HA2
    obtain ⟨j, oe, me, ce, on, mn, cn, hj, rfl, T⟩ := hrel
    have HB2 := hid (HB.out.trans (T.out.bel.mono (by omega)))
    by_cases hlt : j < s.nested.length
    · obtain ⟨g, o, c, oa1, ca1, -, e1, a0, a1, a2, a3, a4, hAV, hnm⟩ := HNE.out.at hlt
      cases e1
      replace a0 := bcell HB2.out a0
      replace a1 := bcell HB2.out a1
      replace a2 := bcell HB2.out a2
      replace a3 := bcell HB2.out a3
      replace a4 := bcell HB2.out a4
      have hj0 : (0 : Int) ≤ (j : Int) := by omega
      have hj1 : (j : Int) < (s.nested.length : Int) := by omega
      have HTK := hid (typJ_succ s hlt)
      have HLN := hid (typJ_len s j hj)
      have hob := HOK.out.2.2.2 _ (List.getElem_mem hlt)
      have HAV := hid hAV
      generalize s.nested[j] = at' at *
      obtain ⟨nm, nmn, nmx, ats, rp⟩ := at'
      simp only at a0 a1 a2 a3 a4 HAV HTK hnm hob
      rw [show typJ s (j + 1) = ((typJ s (j + 1)).1, (typJ s (j + 1)).2) from rfl, Prod.mk.injEq, addN_fst, addN_snd] at HTK
      generalize (typJ s j).2 = ts at *
      generalize (typJ s j).1 = ns at *
      have HOB := hid hob
      have HNM := hid hnm
      have HPL := hid (posN_le ns nm)
      clear hAV hob hnm
      go_upto_region 5 with (fail)
      have hal : Below wr.heap.size wr (wr.alloc (.cells #[.string nm, .int .i64 nmn, .int .i64 nmx, .slice oa1 ats.length ca1, .bool rp] 101)) := (Below.refl _ _).alloc (Nat.le_refl _) _
      have hxo := heap_alloc_at wr (.cells #[.string nm, .int .i64 nmn, .int .i64 nmx, .slice oa1 ats.length ca1, .bool rp] 101)
      generalize wr.alloc (.cells #[.string nm, .int .i64 nmn, .int .i64 nmx, .slice oa1 ats.length ca1, .bool rp] 101) = wx at *
      have TX := hid (T.out.later hal)
      have HXO := hid hxo
      have HXL := hid (show w2.heap.size < wr.heap.size from T.out.lt)
      have HVN := hid (fun g (e : (Value.slice on mn cn).ownBlock = some g) => T.out.row.lt e)
      have HVE := hid (fun g (e : (Value.slice oe me ce).ownBlock = some g) => (T.out.own.block e).2)
      have HXS := hid (show wr.heap.size < wx.heap.size from (Array.getElem?_eq_some_iff.1 hxo).1)
      clear hal hxo a0 a1 a2 a3 a4 T
      have o2 := (cells_in TX.out.obj 2).trans rfl
      have y0 := (cells_in HXO.out 0).trans rfl
      have HBS := hid (bsearch_any (fun _ => True) wx (.slice on mn cn) ns nm (TX.out.row.sv (fun _ _ => trivial) (by have := HLN.out; have := HLE.out; omega) TX.out.strs))
      obtain ⟨p, hp⟩ : ∃ p, posN ns nm = p := ⟨_, rfl⟩
      obtain ⟨fd, hfd⟩ : ∃ fd, fndN ns nm = fd := ⟨_, rfl⟩
      rw [hp, hfd] at HBS
      rw [hp] at HPL HTK
      clear hp hfd
      go_wp2_with fail
      clear o2 y0
      refine HBS.out.mono ?_
      rintro e w4 ⟨rfl, q, rfl⟩
      have hd : Below wx.heap.size wx (wx.drewN q) := below_drewN (Below.refl _ _) q
      have T4 := hid (TX.out.later hd)
      have HXO4 := hid (keep_obj HXO.out hd)
      have HX4 := hid (show wx.heap.size ≤ (wx.drewN q).heap.size from hd.size)
      clear hd HBS TX HXO
      generalize wx.drewN q = w4 at *
      have o2 := (cells_in T4.out.obj 2).trans rfl
      have y0 := (cells_in HXO4.out 0).trans rfl
      have hal : Below w4.heap.size w4 (w4.alloc (.cells #[.string nm] 9)) := (Below.refl _ _).alloc (Nat.le_refl _) _
      have HIN := hid (ins_any (.slice on mn cn) ns p HPL.out (by have := HLN.out; have := HLE.out; omega) nm w4.heap.size (w4.alloc (.cells #[.string nm] 9)) (T4.out.later hal).row (heap_alloc_at _ _) (fun e => by have := T4.out.row.lt e; omega))
      have T5 := hid (T4.out.later hal)
      have HXO5 := hid (keep_obj HXO4.out hal)
      have HX5 := hid (show wx.heap.size ≤ (w4.alloc (.cells #[.string nm] 9)).heap.size by have := hal.size; have := HX4.out; omega)
      clear hal
      go_upto_region 6 with (fail)
      go_wp2_with fail
      clear o2 y0 HXO4 T4
      generalize w4.alloc (.cells #[.string nm] 9) = w5 at *
      refine HIN.out.mono ?_
      rintro e w6' ⟨vn6, rfl, hr6, hp6, hc6⟩
      rw [← insertIdx_eq _ _ _ HPL.out] at hr6
      obtain ⟨on6, cn6, e6⟩ := hr6.slice
      rw [List.length_insertIdx_of_le_length HPL.out] at e6
      subst e6
      have hT6 : w6'.heap[w2.heap.size]? = _ := (hc6.block _ T5.out.lt (fun e => (T5.out.rown _ e).2.1 rfl)).trans T5.out.obj
      have t2 := (cells_in hT6 2).trans rfl
      have tf := frozen_in hT6
      have HXO6' := hid ((hc6.block _ (by have := HX5.out; have := HXS.out; omega) (fun e => by have := HVN.out _ e; omega)).trans HXO5.out)
      have T6 := hid (T5.out.names hr6 (fun s hs => by
        rw [insertIdx_eq _ _ _ HPL.out] at hs
        rcases List.mem_append.1 hs with h | h
        · exact T5.out.strs s (List.mem_of_mem_take h)
        · rcases List.mem_cons.1 h with h | h
          · rw [h]; exact HNM.out
          · exact T5.out.strs s (List.mem_of_mem_drop h)) hp6 hc6)
      have HX6 := hid (show wx.heap.size ≤ w6'.heap.size by have := hc6.size; have := HX5.out; omega)
      clear hr6 hp6 HIN T5 HXO5
      go_upto_region 7 with (fail)
      clear hT6 t2 tf hc6
      have HXO6 : Hid ((w6'.setCell ⟨w2.heap.size, 2, none⟩ (.slice on6 (ns.length + 1) cn6)).heap[wr.heap.size]? = _) := hid (((Chg.setCell (B := fun g => g = w2.heap.size) w6' w2.heap.size 2 (.slice on6 (ns.length + 1) cn6) rfl).block _ (by have := HX6.out; have := HXS.out; omega) (by have := HXL.out; omega)).trans HXO6'.out)
      have HX6' : Hid (wx.heap.size ≤ (w6'.setCell ⟨w2.heap.size, 2, none⟩ (.slice on6 (ns.length + 1) cn6)).heap.size) := hid (by have := (Chg.setCell (B := fun g => g = w2.heap.size) w6' w2.heap.size 2 (.slice on6 (ns.length + 1) cn6) rfl).size; have := HX6.out; omega)
      clear HX6 HXO6'
      generalize w6'.setCell ⟨w2.heap.size, 2, none⟩ (.slice on6 (ns.length + 1) cn6) = w6 at *
      have HCall := hid (object_any ats P w6.drew _ (HAV.out.bel (below_drew (HB.out.trans (T6.out.bel.mono (by omega))))) HOB.out.1 HOB.out.2)
      have o1 := (cells_in T6.out.obj 1).trans rfl
      have y3 := (cells_in HXO6.out 3).trans rfl
      go_wp2_with fail
      refine wp_region_steady_tail 11 (fun v => v.cell? ⟨w2.heap.size, 1, none⟩ = some (.slice oe me ce) ∧ v.cell? ⟨wr.heap.size, 3, none⟩ = some (.slice oa1 ats.length ca1)) (by kernel_rfl) (by kernel_rfl) (⟨o1, y3⟩) ?_
      simp only [List.take_succ_cons, List.take_zero, List.drop_succ_cons, List.drop_zero]
      repeat (first
        | (refine wpSteady_skip (by rfl) ?_; try simp only [Act.put, List.setIfInBounds_toArray, List.set_cons_zero, List.set_cons_succ])
        | (refine wpSteady_calm (v := ?_) (by rfl) ?_ ?_; rotate_left; (focus (intro v hSv; (try dsimp only at hSv); go_simp; (try rw [if_neg (by omega)]); (try with_reducible rfl); done)); try simp only [Act.put, List.setIfInBounds_toArray, List.set_cons_zero, List.set_cons_succ]))
      refine wpSteady_loud rfl (by rfl) (fun K hK => ?_)
      go_simp
      refine HCall.out.mono ?_; rintro e w7 ⟨ve7, vn7, box7, rfl, hb7, hown7, hrow7, hsep7, hstr7⟩
      have T7 := hid (T6.out.later (show Below w6.heap.size w6 w7 from ⟨hb7.os, hb7.tape, hb7.output, hb7.size, hb7.block⟩))
      have HU7 : Hid (TV (fun g => w6.heap.size ≤ g) w7 (.agg #[.int .i64 6, ve7, vn7]) (objT ats)) := hid (TV.mk' (hrow7.sv (fun g e => (hsep7 g e).1) (by have := HOB.out.1; simp; omega) hstr7) ((hown7.mono (R' := fun g => w6.heap.size ≤ g) fun g _ hg => hg.1).read (fun g hg => hg) (by have := HOB.out.1; simp; omega)))
      obtain ⟨oe7, ce7, rfl⟩ := hown7.slice2
      obtain ⟨on7, cn7, rfl⟩ := hrow7.slice
      have r1 := bcell (W := w6.drew) hb7 o1
      have r2 := bcell (W := w6.drew) hb7 y3
      have HW7 : Hid (w6.heap.size ≤ w7.heap.size) := hid hb7.size
      clear hb7 hown7 hrow7 hsep7 hstr7 HCall o1 y3
      refine hK.out _ _ (⟨r1, r2⟩) ?_
      clear hK K
      try simp only [Act.put, List.setIfInBounds_toArray, List.set_cons_zero, List.set_cons_succ]
      generalize (ats.map (·.ty)).length = m7 at *
      generalize (ats.map (·.name)).length = k7 at *
      repeat (first
        | (refine wpSteady_skip (by rfl) ?_; try simp only [Act.put, List.setIfInBounds_toArray, List.set_cons_zero, List.set_cons_succ])
        | (refine wpSteady_calm (v := ?_) (by rfl) ?_ ?_; rotate_left; (focus (intro v hSv; (try dsimp only at hSv); go_simp; (try rw [if_neg (by omega)]); (try with_reducible rfl); done)); try simp only [Act.put, List.setIfInBounds_toArray, List.set_cons_zero, List.set_cons_succ]))
      refine wpSteady_loud rfl (by rfl) (fun K hK => ?_)
      go_simp
      have hal : Below w7.heap.size w7 (w7.alloc (.cells #[.int .i64 6, .slice oe7 m7 ce7, .slice on7 k7 cn7] 79)) := (Below.refl _ _).alloc (Nat.le_refl _) _
      have ho8 := heap_alloc_at w7 (.cells #[.int .i64 6, .slice oe7 m7 ce7, .slice on7 k7 cn7] 79)
      have hs8 : (w7.alloc (.cells #[.int .i64 6, .slice oe7 m7 ce7, .slice on7 k7 cn7] 79)).heap.size = w7.heap.size + 1 := by simp
      generalize w7.alloc (.cells #[.int .i64 6, .slice oe7 m7 ce7, .slice on7 k7 cn7] 79) = w8 at *
      replace r1 := bcell hal r1
      replace r2 := bcell hal r2
      have T8 := hid (T7.out.later hal)
      have HV8 : Hid (TV (fun g => w6.heap.size ≤ g) w8 (.agg #[.int .i64 4, .slice (some ⟨w7.heap.size, 0, none⟩) 1 1, .slice none 0 0]) (.mk 4 [objT ats] [])) := hid (TV.mk' ⟨⟨by simp, .inl ⟨rfl, _, _, rfl⟩⟩, fun s h => by cases h⟩ (lv_one HW7.out ho8 (HU7.out.bel hal)))
      have HS8 := hid hs8
      clear hal ho8 hs8 T7 HU7
      refine hK.out _ _ (⟨r1, r2⟩) ?_
      clear hK K
      try simp only [Act.put, List.setIfInBounds_toArray, List.set_cons_zero, List.set_cons_succ]
      repeat (first
        | (refine wpSteady_skip (by rfl) ?_; try simp only [Act.put, List.setIfInBounds_toArray, List.set_cons_zero, List.set_cons_succ])
        | (refine wpSteady_calm (v := ?_) (by rfl) ?_ ?_; rotate_left; (focus (intro v hSv; (try dsimp only at hSv); go_simp; (try rw [if_neg (by omega)]); (try with_reducible rfl); done)); try simp only [Act.put, List.setIfInBounds_toArray, List.set_cons_zero, List.set_cons_succ]))
      refine wpSteady_loud rfl (by rfl) (fun K hK => ?_)
      go_simp
      have hal : Below w8.heap.size w8 (w8.alloc (.cells #[.int .i64 4, .slice (some ⟨w7.heap.size, 0, none⟩) 1 1, .slice none 0 0] 79)) := (Below.refl _ _).alloc (Nat.le_refl _) _
      have ho9 := heap_alloc_at w8 (.cells #[.int .i64 4, .slice (some ⟨w7.heap.size, 0, none⟩) 1 1, .slice none 0 0] 79)
      generalize w8.alloc (.cells #[.int .i64 4, .slice (some ⟨w7.heap.size, 0, none⟩) 1 1, .slice none 0 0] 79) = w9 at *
      replace r1 := bcell hal r1
      replace r2 := bcell hal r2
      have T9 := hid (T8.out.later hal)
      have HI9 := hid (insT_any (.slice oe me ce) ts (.mk 4 [objT ats] []) _ _ _ p w8.heap.size w9 T9.out.own (by have := T9.out.lt; have := HX3.out; omega) (by have := HLN.out; have := HPL.out; omega) (by have := HLN.out; have := HLE.out; omega) ho9 (fun e => by have := (T8.out.own.block e).2; omega) (HV8.out.bel hal) (fun g (hg : w6.heap.size ≤ g) => by
        have h1 := T6.out.lt
        have h2 := HX3.out
        refine ⟨⟨by omega, fun e => ?_⟩, by omega, fun e => ?_⟩
        · have := T6.out.row.lt e; omega
        · have := (T6.out.own.block e).2; omega))
      clear hal ho9 T8 HV8
      refine hK.out _ _ (⟨r1, r2⟩) ?_
      clear hK K
      try simp only [Act.put, List.setIfInBounds_toArray, List.set_cons_zero, List.set_cons_succ]
      repeat (first
        | (refine wpSteady_skip (by rfl) ?_; try simp only [Act.put, List.setIfInBounds_toArray, List.set_cons_zero, List.set_cons_succ])
        | (refine wpSteady_calm (v := ?_) (by rfl) ?_ ?_; rotate_left; (focus (intro v hSv; (try dsimp only at hSv); go_simp; (try rw [if_neg (by omega)]); (try with_reducible rfl); done)); try simp only [Act.put, List.setIfInBounds_toArray, List.set_cons_zero, List.set_cons_succ]))
      refine wpSteady_loud rfl (by rfl) (fun K hK => ?_)
      go_simp
      refine HI9.out.mono ?_; rintro e w10 ⟨ve10, rfl, hown10, hp10, hc10⟩
      obtain ⟨o10, n10, c10, rfl⟩ := hown10.slice
      have hno : ∀ g, wr.heap.size ≤ g → ¬ (Value.slice oe me ce).ownBlock = some g := fun g hg e => by have := HVE.out g e; omega
      have hX10 : w10.heap[w2.heap.size]? = _ := (hc10.block _ T9.out.lt (fun e => T9.out.eown e)).trans T9.out.obj
      refine hK.out _ _ (⟨chg_cell hc10 (fun e => T9.out.eown e) r1, chg_cell hc10 (hno _ (Nat.le_refl _)) r2⟩) ?_
      clear hK K
      try simp only [Act.put, List.setIfInBounds_toArray, List.set_cons_zero, List.set_cons_succ]
      have T10 := hid (T9.out.elems hown10 hp10 hc10)
      have h1 := (cells_in hX10 1).trans rfl
      have hf := frozen_in hX10
      clear hown10 hp10 hc10 hX10 hno r1 r2 T9 HI9
      repeat (first
        | (refine wpSteady_skip (by rfl) ?_; try simp only [Act.put, List.setIfInBounds_toArray, List.set_cons_zero, List.set_cons_succ])
        | (refine wpSteady_calm (v := ?_) (by rfl) ?_ ?_; rotate_left; (focus (intro v hSv; (try dsimp only at hSv); go_simp; (try rw [if_neg (by omega)]); (try with_reducible rfl); done)); try simp only [Act.put, List.setIfInBounds_toArray, List.set_cons_zero, List.set_cons_succ]))
      refine wpSteady_nil ?_
      go_wp2_with fail
      clear h1 hf
      go_roundw
      case rel => exact ⟨j + 1, _, _, _, _, _, _, by omega, by go_num, by rw [HTK.out.1, HTK.out.2]; exact T10⟩
      case measure => simp [intOf]; omega
    · have hte := typJ_end s (j := j) (by omega)
      rw [hte] at T
      have HZ2 := hid ((T.out.bel.block _ (by omega)).trans HZ.out)
      have o0 := (cells_in T.out.obj 0).trans rfl
      have o1 := (cells_in T.out.obj 1).trans rfl
      have o2 := (cells_in T.out.obj 2).trans rfl
      have f0 := (cells_in HZ2.out 0).trans rfl
      have f1 := (cells_in HZ2.out 1).trans rfl
      have f2 := (cells_in HZ2.out 2).trans rfl
      have fz := frozen_in HZ2.out
      clear hte
      go_wp2_with fail
      try simp only [Exit.inBlock, Exit.then]
      refine bodyPost_ret (v := .agg #[.int .i64 6, .slice oe me ce, .slice on mn cn]) (by simp [results, Try.results62, go_sem, f0, f1, f2]) rfl ?_
      have c3 := chg_store3 wr (w.heap.size + 1) (.int .i64 6) (.slice oe me ce) (.slice on mn cn)
      refine ⟨_, _, w2.heap.size, rfl, store3_below HB2.out (by omega) (Nat.le_refl _) _ _ _, ?_, T.out.row.chg c3 fun g e e2 => by have := (T.out.rown g e).1; omega, fun g e => ⟨by have := (T.out.rown g e).1; omega, (T.out.rown g e).2.2⟩, T.out.strs⟩
      exact (T.out.own.chg c3 (fun g e e2 => by have := (T.out.own.block e).1; omega) (fun g hg _ e => by have := hg.1; omega)).base (Nat.le_add_right _ 2) |>.mono fun g _ hg => ⟨by have := hg.1; omega, hg.2⟩
/-- A new list of strings. -/
def FreshS (l : List ByteArray) (w : World) (e : Ending) (w' : World) : Prop := ∃ u, e = .returned u ∧ SV (fun g => w.heap.size ≤ g) w' u l ∧ Below w.heap.size w w'
theorem names_len (s : Sc) : (namesS s).length = s.attrs.length + s.nested.length := by
  have h := (typJ_len s s.nested.length (Nat.le_refl _)).1
  rw [typJ_end s (Nat.le_refl _)] at h
  exact h
set_option maxRecDepth 100000 in
set_option maxHeartbeats 4000000 in
theorem names_any (s : Sc) (P : Nat → Prop) (w : World) (va vn : Value) (hs : SCV P w va vn s) (hok : ScOk s) :
    Calls Try.prog 48 #[.agg #[va, vn]] w (FreshS (namesS s) w) := by
  obtain ⟨oa, ca, rfl⟩ := hs.1.len
  obtain ⟨on, cn, rfl⟩ := hs.2.len
  have hla := hs.1.le
  have hlk := hs.2.le
  have HL := hid (show (namesS s).length ≤ 2000 by rw [names_len]; have := hok.1; have := hok.2.1; omega)
  have hab : Below w.heap.size w (w.alloc (.cells #[.slice oa s.attrs.length ca, .slice on s.nested.length cn] 58)) := (Below.refl _ _).alloc (Nat.le_refl _) _
  have hao := heap_alloc_at w (.cells #[.slice oa s.attrs.length ca, .slice on s.nested.length cn] 58)
  generalize hA : w.alloc (.cells #[.slice oa s.attrs.length ca, .slice on s.nested.length cn] 58) = wa at *
  have HA := hid hA
  have HB := hid hab
  have HT := hid (type_any s P wa _ _ ⟨hs.1.bel hab, hs.2.bel hab⟩ hok)
  have a0 := (cells_in hao 0).trans rfl
  have a1 := (cells_in hao 1).trans rfl
  clear hA hab hao hs hok
  go_enter Try.func48, Try.ntmps48
  go_upto_region 1 with (fail)
  rw [HA.out]
  go_wp2_with fail
  clear a0 a1
  refine HT.out.mono ?_
  rintro e w2 ⟨ve, vn, box, rfl, hb2, hown, hrow, hsep, hstr⟩
  have HN := hid (hrow.sv (Q := fun g => w.heap.size ≤ g) (fun g e => by have := (hsep g e).1; have := HB.out.size; omega) (by have := HL.out; rw [namesS] at this; omega) hstr)
  have HB2 := hid (HB.out.trans (hb2.mono HB.out.size))
  obtain ⟨oe, ce, rfl⟩ := hown.slice2
  obtain ⟨on2, cn2, rfl⟩ := hrow.slice
  clear hb2 hown hrow hsep hstr HT
  generalize (typS s).2.length = m2 at *
  obtain ⟨m1, hm1⟩ : ∃ m1, (typS s).1.length = m1 := ⟨_, rfl⟩
  rw [hm1] at HN ⊢
  have hfd : ∀ w : World, (Instr.field 79 (.agg #[.int .i64 6, .slice oe m2 ce, .slice on2 m1 cn2]) 2).run Try.prog w = .ok (.slice on2 m1 cn2) w := fun _ => by kernel_rfl
  clear hm1
  go_wp2_with fail
  go_ret
  exact ⟨_, rfl, HN.out, HB2.out⟩
end Go.Proofs.Ytibiiafcnaijeaa
