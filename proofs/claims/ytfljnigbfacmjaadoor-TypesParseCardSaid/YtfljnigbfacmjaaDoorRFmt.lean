/- Format of the reference. -/
import Derived.Test.YtfljnigbfacmjaaDoorFmt
import Derived.Test.YtfljnigbfacmjaaDoorBack
namespace Go.Proofs.YtfljnigbfacmjaaDoor
open Go Go.RowKit Go.Proofs.YtfljnigbfacmjaaDoor.Steady
set_option linter.unusedVariables false

theorem join_snoc (x : ByteArray) : ∀ l : List ByteArray, l ≠ [] → joinS (l ++ [x]) = joinS l ++ ⟨#[44, 32]⟩ ++ x
  | [], h => absurd rfl h
  | [a], _ => by
    apply ba_ext
    rw [bl_app, bl_app, joinS_one]
    show bl (joinS [a, x]) = _
    rw [joinS_cons, joinS_one, List.append_assoc]; rfl
  | a :: b :: l, _ => by
    have ih := join_snoc x (b :: l) (by simp)
    apply ba_ext
    rw [bl_app, bl_app, joinS_cons]
    show bl (joinS (a :: b :: (l ++ [x]))) = _
    rw [joinS_cons]
    have ih' := congrArg bl ih
    rw [bl_app, bl_app] at ih'
    rw [show b :: (l ++ [x]) = b :: l ++ [x] from rfl, ih']
    simp
theorem joinS_nil : joinS [] = ⟨#[]⟩ := rfl
theorem joinS_take_le : ∀ (l : List ByteArray) (j : Nat), (joinS (l.take j)).size ≤ (joinS l).size
  | l, 0 => by rw [List.take_zero, joinS_nil]; exact Nat.zero_le _
  | [], j + 1 => by simp
  | [a], j + 1 => by rw [List.take_of_length_le (by simp)]; exact Nat.le_refl _
  | a :: b :: l, 1 => by rw [List.take_succ_cons, List.take_zero, joinS_one, joinS_size]; omega
  | a :: b :: l, j + 2 => by
    have := joinS_take_le (b :: l) (j + 1)
    rw [List.take_succ_cons] at this
    rw [List.take_succ_cons, List.take_succ_cons, joinS_size, joinS_size]; omega
/-- What has been written ahead of the attribute j. -/
def accS (fl : List ByteArray) (j : Nat) : ByteArray := ⟨#[111, 98, 106, 101, 99, 116]⟩ ++ ⟨#[40, 123]⟩ ++ joinS (fl.take j)
theorem accS_size (fl : List ByteArray) (j : Nat) : (accS fl j).size ≤ 8 + (joinS fl).size := by
  have := joinS_take_le fl j
  unfold accS
  rw [size_app, size_app]
  have h1 : (⟨#[111, 98, 106, 101, 99, 116]⟩ : ByteArray).size = 6 := rfl
  have h2 : (⟨#[40, 123]⟩ : ByteArray).size = 2 := rfl
  omega
theorem ba_assoc (a b c : ByteArray) : a ++ b ++ c = a ++ (b ++ c) := ByteArray.append_assoc
theorem accS_0 {fl : List ByteArray} {n fe : ByteArray} (h : fl[0]? = some (n ++ ⟨#[32, 61, 32]⟩ ++ fe)) : accS fl 1 = accS fl 0 ++ n ++ ⟨#[32, 61, 32]⟩ ++ fe := by
  obtain ⟨h1, h2⟩ := List.getElem?_eq_some_iff.1 h
  have ht : fl.take 1 = [n ++ ⟨#[32, 61, 32]⟩ ++ fe] := by
    rw [List.take_succ_eq_append_getElem h1, List.take_zero, h2]; rfl
  unfold accS
  rw [ht, joinS_one, List.take_zero, joinS_nil]
  apply ba_ext
  simp only [bl_app]
  show _ = ((bl ⟨#[111, 98, 106, 101, 99, 116]⟩ ++ bl ⟨#[40, 123]⟩ ++ []) ++ bl n ++ bl ⟨#[32, 61, 32]⟩ ++ bl fe)
  simp
theorem accS_s {fl : List ByteArray} {n fe : ByteArray} {j : Nat} (hj : 0 < j) (h : fl[j]? = some (n ++ ⟨#[32, 61, 32]⟩ ++ fe)) : accS fl (j + 1) = accS fl j ++ ⟨#[44, 32]⟩ ++ n ++ ⟨#[32, 61, 32]⟩ ++ fe := by
  obtain ⟨h1, h2⟩ := List.getElem?_eq_some_iff.1 h
  have ht : fl.take (j + 1) = fl.take j ++ [n ++ ⟨#[32, 61, 32]⟩ ++ fe] := by
    rw [List.take_succ_eq_append_getElem h1, h2]
  unfold accS
  rw [ht, join_snoc _ _ (by intro e; have := congrArg List.length e; rw [List.length_take, List.length_nil, Nat.min_eq_left (by omega)] at this; omega)]
  apply ba_ext
  simp only [bl_app, List.append_assoc]

def RFmtOk (t : Ty) : Prop := ∀ (lv : Int) (P : Nat → Prop) (w : World) (v : Value), TV P w v t → checkT t lv = 0 → sizeT t ≤ 1000000 → (fmtT t).size ≤ 140737488355328 → Calls Tryd.prog 22 #[v] w (Ret (.string (fmtT t)) w)
def WordsPost (b : Nat) (w : World) (e : Ending) (w' : World) : Prop := e = .returned (.slice (some ⟨b, 0, none⟩) 7 7) ∧ Below w.heap.size w w' ∧ ∀ k : Nat, k ≤ 6 → w'.cell? ⟨b, k, none⟩ = some (.string (wordS k))
set_option maxRecDepth 100000 in
set_option maxHeartbeats 4000000 in
theorem words_any (w : World) (b : Nat) (hb : w.heap.size = b) : Calls Tryd.prog 45 #[] w (WordsPost b w) := by
  subst hb
  go_enter Tryd.func45, Tryd.ntmps45
  go_wp2_with fail
  go_ret
  have ho := heap_alloc_at w (.cells #[.string ⟨#[97, 110, 121]⟩, .string ⟨#[98, 111, 111, 108]⟩, .string ⟨#[110, 117, 109, 98, 101, 114]⟩, .string ⟨#[115, 116, 114, 105, 110, 103]⟩, .string ⟨#[108, 105, 115, 116]⟩, .string ⟨#[109, 97, 112]⟩, .string ⟨#[111, 98, 106, 101, 99, 116]⟩] 9)
  refine ⟨rfl, (Below.refl _ _).alloc (Nat.le_refl _) _, fun k hk => ?_⟩
  rw [cells_in ho]
  match k, hk with
  | 0, _ => rfl
  | 1, _ => rfl
  | 2, _ => rfl
  | 3, _ => rfl
  | 4, _ => rfl
  | 5, _ => rfl
  | 6, _ => rfl
theorem accS_start (fl : List ByteArray) : accS fl 0 = ⟨#[111, 98, 106, 101, 99, 116]⟩ ++ ⟨#[40, 123]⟩ := by
  unfold accS
  rw [List.take_zero, joinS_nil]
  apply ba_ext
  rw [bl_app]
  show _ ++ [] = _
  rw [List.append_nil]
theorem accS_end (fl : List ByteArray) (j : Nat) (h : fl.length ≤ j) : accS fl j ++ ⟨#[125, 41]⟩ = ⟨#[111, 98, 106, 101, 99, 116, 40, 123]⟩ ++ joinS fl ++ ⟨#[125, 41]⟩ := by
  unfold accS
  rw [List.take_of_length_le h]
  rfl
set_option maxRecDepth 100000 in
set_option maxHeartbeats 4000000 in
theorem rfmt_any (t : Ty) : RFmtOk t := by
  induction t using Ty.ind with
  | h k es ns ih =>
    intro lv P w v hv hck hsz hmax
    obtain ⟨hlv, hparts, hid1, hasc, hes⟩ := (checkT_zero k es ns lv).1 hck
    rw [sizeT_eq] at hsz
    have hlen0 := sizeL_len es
    obtain ⟨ve, vn, rfl, hE, hN⟩ := hv.out
    obtain ⟨oe, ce, rfl⟩ := hE.len
    obtain ⟨on, cn, rfl⟩ := hN.len
    obtain ⟨hB, c0, c1, c2, hz⟩ := box3 w (.int .i64 k) (.slice oe es.length ce) (.slice on ns.length cn) 26
    have HE := hid (hE.bel hB)
    have HN := hid (hN.bel hB)
    generalize hW : w.alloc (.cells #[.int .i64 k, .slice oe es.length ce, .slice on ns.length cn] 26) = W at *
    have HW := hid hW
    have HB := hid hB
    have HC0 := hid c0
    have HC1 := hid c1
    have HC2 := hid c2
    have HI := hid ih
    have HES := hid hes
    clear ih hE hN hv hB c0 c1 c2 hW hck hid1 hasc hes hz
    have hkr : 0 ≤ k ∧ k ≤ 6 := by
      rcases partsB_true hparts with ⟨h, _⟩ | ⟨h, _⟩ | ⟨h, _⟩ <;> omega
    obtain ⟨kk, rfl⟩ : ∃ kk : Nat, k = kk := ⟨k.toNat, by omega⟩
    have hk6 : kk ≤ 6 := by omega
    have hki0 : (0 : Int) ≤ (kk : Int) := by omega
    have hki1 : (kk : Int) < 7 := by omega
    rcases partsB_true hparts with ⟨hk, hp1, hp2⟩ | ⟨hk, hp1⟩ | ⟨hk, hp1, hp2⟩
    · have hkn : kk = 4 ∨ kk = 5 := by omega
      clear hk hparts hkr
      by_cases hk4 : kk = 4
      · have e4 : ((kk : Int) == 4) = true := beq_iff_eq.2 (by omega)
        have g4 : decide ((kk : Int) = 4) = true := decide_eq_true (by omega)
        have n4 : ((kk : Int) != 4) = false := by rw [bne, e4]; rfl
        have hlt : 0 < es.length := by omega
        have hfh : fmtH es = fmtT es[0] := by
          cases es with
          | nil => cases hlt
          | cons e r => rw [fmtH]; rfl
        have hq : fmtT (.mk (kk : Int) es ns) = wordS (kk : Int) ++ ⟨#[40]⟩ ++ fmtT es[0] ++ ⟨#[41]⟩ := by rw [fmtT_eq, if_pos (by omega), if_pos hp1, hfh]
        rw [hq] at hmax
        rw [size_app, size_app, size_app] at hmax
        have hs1 : (⟨#[40]⟩ : ByteArray).size = 1 := rfl
        have hs2 : (⟨#[41]⟩ : ByteArray).size = 1 := rfl
        have hb1 : (wordS (kk : Int)).size + 1 ≤ 9223372036854775807 := by omega
        have hb2 : (wordS (kk : Int)).size + 1 + (fmtT es[0]).size ≤ 9223372036854775807 := by omega
        have hb3 : (wordS (kk : Int)).size + 1 + (fmtT es[0]).size + 1 ≤ 9223372036854775807 := by omega
        have hfe : (fmtT es[0]).size ≤ 140737488355328 := by omega
        have hse : sizeT es[0] ≤ 1000000 := by have := sizeT_mem (List.getElem_mem hlt); omega
        have HQ := hid hq
        have hi1 : (0 : Int) < (es.length : Int) := by omega
        clear hq hfh hs1 hs2 hmax hp1 hp2 hkn
        try clear hk4
        try clear hk5
        go_enter Tryd.func22, Tryd.ntmps22
        go_wp2_with fail
        rw [HW.out]
        refine wp_region_steady_tail 3 (fun v => v.cell? ⟨w.heap.size, 0, none⟩ = some (.int .i64 (kk : Int))) (by kernel_rfl) (by kernel_rfl) (HC0.out) ?_
        simp only [List.take_succ_cons, List.take_zero, List.drop_succ_cons, List.drop_zero]
        repeat (first
          | (refine wpSteady_skip (by rfl) ?_; try simp only [Act.put, List.setIfInBounds_toArray, List.set_cons_zero, List.set_cons_succ])
          | (refine wpSteady_calm (v := ?_) (by rfl) ?_ ?_; rotate_left; (focus (intro v hSv; (try dsimp only at hSv); go_simp; (try with_reducible rfl); done)); try simp only [Act.put, List.setIfInBounds_toArray, List.set_cons_zero, List.set_cons_succ]))
        refine wpSteady_loud rfl (by rfl) (fun K hK => ?_)
        go_simp
        refine (words_any W.drew W.heap.size rfl).mono ?_
        rintro e w2 ⟨rfl, hb, hwc⟩
        have k0 := bcell (W := W.drew) hb HC0.out
        have k1 := bcell (W := W.drew) hb HC1.out
        have k2 := bcell (W := W.drew) hb HC2.out
        have HB2 := hid (HB.out.trans ((show Below W.heap.size W w2 from ⟨hb.os, hb.tape, hb.output, hb.size, hb.block⟩).mono HB.out.size))
        have HE2 := hid ((HE.out.bel (below_drew (Below.refl _ _))).bel hb)
        have HN2 := hid ((HN.out.bel (below_drew (Below.refl _ _))).bel hb)
        have wc := hwc kk (by omega)
        clear hb hwc
        refine hK.out _ _ (k0) ?_
        clear hK K
        try simp only [Act.put, List.setIfInBounds_toArray, List.set_cons_zero, List.set_cons_succ]
        repeat (first
          | (refine wpSteady_skip (by rfl) ?_; try simp only [Act.put, List.setIfInBounds_toArray, List.set_cons_zero, List.set_cons_succ])
          | (refine wpSteady_calm (v := ?_) (by rfl) ?_ ?_; rotate_left; (focus (intro v hSv; (try dsimp only at hSv); go_simp; (try with_reducible rfl); done)); try simp only [Act.put, List.setIfInBounds_toArray, List.set_cons_zero, List.set_cons_succ]))
        refine wpSteady_nil ?_
        obtain ⟨g, o, c, k', oy, my, cy, oz, mz, cz, e1, a1, a2, a3, hT⟩ := HE2.out.at2 hlt
        cases e1
        simp only [Nat.zero_mul, Nat.add_zero] at a1 a2 a3
        have HCall := hid (HI.out es[0] (List.getElem_mem hlt) (lv + 1) P w2 _ hT (HES.out _ (List.getElem_mem hlt)) hse hfe)
        clear hT hfe hse
        generalize wordS (kk : Int) = wk at *
        generalize fmtT es[0] = fe at *
        go_wp2_with fail
        refine HCall.out.mono ?_
        rintro e w3 ⟨rfl, hb⟩
        have HB3 := hid (HB2.out.trans (hb.mono HB2.out.size))
        clear hb
        go_wp2_with fail
        go_ret
        exact ⟨by rw [HQ.out]; rfl, HB3.out⟩
      · have hk5 : kk = 5 := by omega
        have e4 : ((kk : Int) == 4) = false := beq_eq_false_iff_ne.2 (by omega)
        have g4 : decide ((kk : Int) = 4) = false := decide_eq_false (by omega)
        have n4 : ((kk : Int) != 4) = true := by rw [bne, e4]; rfl
        have e5 : ((kk : Int) == 5) = true := beq_iff_eq.2 (by omega)
        have g5 : decide ((kk : Int) = 5) = true := decide_eq_true (by omega)
        have n5 : ((kk : Int) != 5) = false := by rw [bne, e5]; rfl
        clear hk4
        have hlt : 0 < es.length := by omega
        have hfh : fmtH es = fmtT es[0] := by
          cases es with
          | nil => cases hlt
          | cons e r => rw [fmtH]; rfl
        have hq : fmtT (.mk (kk : Int) es ns) = wordS (kk : Int) ++ ⟨#[40]⟩ ++ fmtT es[0] ++ ⟨#[41]⟩ := by rw [fmtT_eq, if_pos (by omega), if_pos hp1, hfh]
        rw [hq] at hmax
        rw [size_app, size_app, size_app] at hmax
        have hs1 : (⟨#[40]⟩ : ByteArray).size = 1 := rfl
        have hs2 : (⟨#[41]⟩ : ByteArray).size = 1 := rfl
        have hb1 : (wordS (kk : Int)).size + 1 ≤ 9223372036854775807 := by omega
        have hb2 : (wordS (kk : Int)).size + 1 + (fmtT es[0]).size ≤ 9223372036854775807 := by omega
        have hb3 : (wordS (kk : Int)).size + 1 + (fmtT es[0]).size + 1 ≤ 9223372036854775807 := by omega
        have hfe : (fmtT es[0]).size ≤ 140737488355328 := by omega
        have hse : sizeT es[0] ≤ 1000000 := by have := sizeT_mem (List.getElem_mem hlt); omega
        have HQ := hid hq
        have hi1 : (0 : Int) < (es.length : Int) := by omega
        clear hq hfh hs1 hs2 hmax hp1 hp2 hkn
        try clear hk4
        try clear hk5
        go_enter Tryd.func22, Tryd.ntmps22
        go_wp2_with fail
        rw [HW.out]
        refine wp_region_steady_tail 3 (fun v => v.cell? ⟨w.heap.size, 0, none⟩ = some (.int .i64 (kk : Int))) (by kernel_rfl) (by kernel_rfl) (HC0.out) ?_
        simp only [List.take_succ_cons, List.take_zero, List.drop_succ_cons, List.drop_zero]
        repeat (first
          | (refine wpSteady_skip (by rfl) ?_; try simp only [Act.put, List.setIfInBounds_toArray, List.set_cons_zero, List.set_cons_succ])
          | (refine wpSteady_calm (v := ?_) (by rfl) ?_ ?_; rotate_left; (focus (intro v hSv; (try dsimp only at hSv); go_simp; (try with_reducible rfl); done)); try simp only [Act.put, List.setIfInBounds_toArray, List.set_cons_zero, List.set_cons_succ]))
        refine wpSteady_loud rfl (by rfl) (fun K hK => ?_)
        go_simp
        refine (words_any W.drew W.heap.size rfl).mono ?_
        rintro e w2 ⟨rfl, hb, hwc⟩
        have k0 := bcell (W := W.drew) hb HC0.out
        have k1 := bcell (W := W.drew) hb HC1.out
        have k2 := bcell (W := W.drew) hb HC2.out
        have HB2 := hid (HB.out.trans ((show Below W.heap.size W w2 from ⟨hb.os, hb.tape, hb.output, hb.size, hb.block⟩).mono HB.out.size))
        have HE2 := hid ((HE.out.bel (below_drew (Below.refl _ _))).bel hb)
        have HN2 := hid ((HN.out.bel (below_drew (Below.refl _ _))).bel hb)
        have wc := hwc kk (by omega)
        clear hb hwc
        refine hK.out _ _ (k0) ?_
        clear hK K
        try simp only [Act.put, List.setIfInBounds_toArray, List.set_cons_zero, List.set_cons_succ]
        repeat (first
          | (refine wpSteady_skip (by rfl) ?_; try simp only [Act.put, List.setIfInBounds_toArray, List.set_cons_zero, List.set_cons_succ])
          | (refine wpSteady_calm (v := ?_) (by rfl) ?_ ?_; rotate_left; (focus (intro v hSv; (try dsimp only at hSv); go_simp; (try with_reducible rfl); done)); try simp only [Act.put, List.setIfInBounds_toArray, List.set_cons_zero, List.set_cons_succ]))
        refine wpSteady_nil ?_
        obtain ⟨g, o, c, k', oy, my, cy, oz, mz, cz, e1, a1, a2, a3, hT⟩ := HE2.out.at2 hlt
        cases e1
        simp only [Nat.zero_mul, Nat.add_zero] at a1 a2 a3
        have HCall := hid (HI.out es[0] (List.getElem_mem hlt) (lv + 1) P w2 _ hT (HES.out _ (List.getElem_mem hlt)) hse hfe)
        clear hT hfe hse
        generalize wordS (kk : Int) = wk at *
        generalize fmtT es[0] = fe at *
        go_wp2_with fail
        refine HCall.out.mono ?_
        rintro e w3 ⟨rfl, hb⟩
        have HB3 := hid (HB2.out.trans (hb.mono HB2.out.size))
        clear hb
        go_wp2_with fail
        go_ret
        exact ⟨by rw [HQ.out]; rfl, HB3.out⟩
    · have hk66 : kk = 6 := by omega
      clear hk hparts hkr
      have e4 : ((kk : Int) == 4) = false := beq_eq_false_iff_ne.2 (by omega)
      have g4 : decide ((kk : Int) = 4) = false := decide_eq_false (by omega)
      have n4 : ((kk : Int) != 4) = true := by rw [bne, e4]; rfl
      have e5 : ((kk : Int) == 5) = false := beq_eq_false_iff_ne.2 (by omega)
      have g5 : decide ((kk : Int) = 5) = false := decide_eq_false (by omega)
      have n5 : ((kk : Int) != 5) = true := by rw [bne, e5]; rfl
      have e6 : ((kk : Int) == 6) = true := beq_iff_eq.2 (by omega)
      have g6 : decide ((kk : Int) = 6) = true := decide_eq_true (by omega)
      have n6 : ((kk : Int) != 6) = false := by rw [bne, e6]; rfl
      have hq : fmtT (.mk (kk : Int) es ns) = ⟨#[111, 98, 106, 101, 99, 116, 40, 123]⟩ ++ joinS (fmtL es ns) ++ ⟨#[125, 41]⟩ := by rw [fmtT_eq, if_neg (by omega), if_pos (by omega)]
      rw [hq, size_app, size_app] at hmax
      have hs1 : (⟨#[111, 98, 106, 101, 99, 116, 40, 123]⟩ : ByteArray).size = 8 := rfl
      have hs2 : (⟨#[125, 41]⟩ : ByteArray).size = 2 := rfl
      rw [hs1, hs2] at hmax
      have hfl := fmtL_len es ns
      obtain ⟨fl, hfl2⟩ : ∃ fl, fmtL es ns = fl := ⟨_, rfl⟩
      have hget : ∀ j (h1 : j < es.length) (h2 : j < ns.length), fl[j]? = some (ns[j] ++ ⟨#[32, 61, 32]⟩ ++ fmtT es[j]) := fun j h1 h2 => by rw [← hfl2]; exact fmtL_get es ns j h1 h2
      rw [hfl2] at hq hfl hmax
      have HQ := hid hq
      have HG := hid hget
      have HFL := hid (show fl.length ≤ ns.length by omega)
      have HPL := hid hp1
      have hacc : ∀ j, (accS fl j).size + 2 ≤ 140737488355328 := fun j => by have := accS_size fl j; omega
      have HACC := hid hacc
      have hw6 : wordS (kk : Int) = ⟨#[111, 98, 106, 101, 99, 116]⟩ := by rw [hk66]; rfl
      have HW6 := hid hw6
      have hws6 : (wordS (kk : Int)).size + 2 ≤ 9223372036854775807 := by rw [hw6]; decide
      clear hq hs1 hs2 hget hfl hfl2 hp1 hacc hmax hw6 hk66
      go_enter Tryd.func22, Tryd.ntmps22
      go_wp2_with fail
      rw [HW.out]
      refine wp_region_steady_tail 3 (fun v => v.cell? ⟨w.heap.size, 0, none⟩ = some (.int .i64 (kk : Int))) (by kernel_rfl) (by kernel_rfl) (HC0.out) ?_
      simp only [List.take_succ_cons, List.take_zero, List.drop_succ_cons, List.drop_zero]
      repeat (first
        | (refine wpSteady_skip (by rfl) ?_; try simp only [Act.put, List.setIfInBounds_toArray, List.set_cons_zero, List.set_cons_succ])
        | (refine wpSteady_calm (v := ?_) (by rfl) ?_ ?_; rotate_left; (focus (intro v hSv; (try dsimp only at hSv); go_simp; (try with_reducible rfl); done)); try simp only [Act.put, List.setIfInBounds_toArray, List.set_cons_zero, List.set_cons_succ]))
      refine wpSteady_loud rfl (by rfl) (fun K hK => ?_)
      go_simp
      refine (words_any W.drew W.heap.size rfl).mono ?_
      rintro e w2 ⟨rfl, hb, hwc⟩
      have k0 := bcell (W := W.drew) hb HC0.out
      have k1 := bcell (W := W.drew) hb HC1.out
      have k2 := bcell (W := W.drew) hb HC2.out
      have HB2 := hid (HB.out.trans ((show Below W.heap.size W w2 from ⟨hb.os, hb.tape, hb.output, hb.size, hb.block⟩).mono HB.out.size))
      have HE2 := hid ((HE.out.bel (below_drew (Below.refl _ _))).bel hb)
      have HN2 := hid ((HN.out.bel (below_drew (Below.refl _ _))).bel hb)
      have wc := hwc kk (by omega)
      clear hb hwc
      refine hK.out _ _ (k0) ?_
      clear hK K
      try simp only [Act.put, List.setIfInBounds_toArray, List.set_cons_zero, List.set_cons_succ]
      repeat (first
        | (refine wpSteady_skip (by rfl) ?_; try simp only [Act.put, List.setIfInBounds_toArray, List.set_cons_zero, List.set_cons_succ])
        | (refine wpSteady_calm (v := ?_) (by rfl) ?_ ?_; rotate_left; (focus (intro v hSv; (try dsimp only at hSv); go_simp; (try with_reducible rfl); done)); try simp only [Act.put, List.setIfInBounds_toArray, List.set_cons_zero, List.set_cons_succ]))
      refine wpSteady_nil ?_
      generalize wordS (kk : Int) = wk at *
      go_wp2_with fail
      go_loopw [3, 4] (fun o i wr => ∃ j : Nat, j ≤ ns.length ∧ i = .int .i64 j ∧ o = .string (accS fl j) ∧ Hid (Below w2.heap.size w2 wr)) (fun _ i _ => ns.length - (intOf i).toNat)
      case atStart => exact ⟨0, Nat.zero_le _, rfl, by rw [accS_start, ← HW6.out], hid (Below.refl _ _)⟩
      case round =>
        obtain ⟨j, hj, rfl, rfl, B⟩ := hrel
        have c1 := bcell B.out k1
        have c2 := bcell B.out k2
        have ha0 := HACC.out j
        by_cases hlt : j < ns.length
        · have hle : j < es.length := by rw [HPL.out]; exact hlt
          obtain ⟨gn, o, c, e1, a1⟩ := (HN2.out.bel B.out).at hlt
          cases e1
          obtain ⟨g2, o2, c2', kx, oy2, my2, cy2, oz2, mz2, cz2, e2, b1, b2, b3, hT2⟩ := (HE2.out.bel B.out).at2 hle
          cases e2
          have hj0 : (0 : Int) ≤ (j : Int) := by omega
          have hj1' : (j : Int) < (ns.length : Int) := by omega
          have hi2 : (j : Int) < (es.length : Int) := by omega
          have hg := HG.out j hle hlt
          have hsz1 := accS_size fl (j + 1)
          have hse : sizeT es[j] ≤ 1000000 := by have := sizeT_mem (List.getElem_mem hle); omega
          have ha1 := HACC.out (j + 1)
          by_cases hj00 : j = 0
          · have d0 : decide (0 < j) = false := decide_eq_false (by omega)
            have d1 : ¬ 0 < j := by omega
            have hq1 : accS fl (j + 1) = accS fl j ++ ns[j] ++ ⟨#[32, 61, 32]⟩ ++ fmtT es[j] := by subst hj00; exact accS_0 hg
            have hs := congrArg ByteArray.size hq1
            rw [size_app, size_app, size_app] at hs
            have h3 : (⟨#[32, 61, 32]⟩ : ByteArray).size = 3 := rfl
            have HQ1 := hid hq1
            have HCall := hid (HI.out es[j] (List.getElem_mem hle) (lv + 1) P wr.drew _ (hT2.bel (below_drew (Below.refl _ _))) (HES.out _ (List.getElem_mem hle)) hse (by omega))
            have hb1 : (accS fl j).size + (ns[j]).size ≤ 9223372036854775807 := by omega
            have hb2 : (accS fl j).size + (ns[j]).size + 3 ≤ 9223372036854775807 := by omega
            have hb3 : (accS fl j).size + (ns[j]).size + 3 + (fmtT es[j]).size ≤ 9223372036854775807 := by omega
            clear hq1 hs h3 hg hT2 hsz1 ha0 ha1 hj00
            generalize accS fl j = acc at *
            generalize ns[j] = nj at *
            generalize fmtT es[j] = fe at *
            go_wp2_with fail
            refine wp_region_steady (fun v => v.cell? ⟨w.heap.size, 1, none⟩ = some (.slice (some ⟨g2, o2, none⟩) es.length ce) ∧ v.cell? ⟨w.heap.size, 2, none⟩ = some (.slice (some ⟨gn, o, none⟩) ns.length cn) ∧ v.cell? ⟨gn, o + j, none⟩ = some (.string nj) ∧ v.cell? ⟨g2, o2 + j * 3, none⟩ = some (.int .i64 kx) ∧ v.cell? ⟨g2, o2 + j * 3 + 1, none⟩ = some (.slice oy2 my2 cy2) ∧ v.cell? ⟨g2, o2 + j * 3 + 2, none⟩ = some (.slice oz2 mz2 cz2)) (by kernel_rfl) (by kernel_rfl) (⟨c1, c2, a1, b1, b2, b3⟩) ?_
            repeat (first
              | (refine wpSteady_skip (by rfl) ?_; try simp only [Act.put, List.setIfInBounds_toArray, List.set_cons_zero, List.set_cons_succ])
              | (refine wpSteady_calm (v := ?_) (by rfl) ?_ ?_; rotate_left; (focus (intro v hSv; (try dsimp only at hSv); go_simp; (try rw [if_neg (by omega)]); (try with_reducible rfl); done)); try simp only [Act.put, List.setIfInBounds_toArray, List.set_cons_zero, List.set_cons_succ]))
            refine wpSteady_loud rfl (by rfl) (fun K hK => ?_)
            go_simp
            refine HCall.out.mono ?_
            rintro e w4 ⟨rfl, hb⟩
            have B2 := hid (B.out.trans ((show Below wr.heap.size wr w4 from ⟨hb.os, hb.tape, hb.output, hb.size, hb.block⟩).mono B.out.size))
            have r1 := bcell (W := wr.drew) hb c1
            have r2 := bcell (W := wr.drew) hb c2
            have r3 := bcell (W := wr.drew) hb a1
            have r4 := bcell (W := wr.drew) hb b1
            have r5 := bcell (W := wr.drew) hb b2
            have r6 := bcell (W := wr.drew) hb b3
            clear hb c1 c2 a1 b1 b2 b3
            refine hK.out _ _ (⟨r1, r2, r3, r4, r5, r6⟩) ?_
            clear hK K
            try simp only [Act.put, List.setIfInBounds_toArray, List.set_cons_zero, List.set_cons_succ]
            repeat (first
              | (refine wpSteady_skip (by rfl) ?_; try simp only [Act.put, List.setIfInBounds_toArray, List.set_cons_zero, List.set_cons_succ])
              | (refine wpSteady_calm (v := ?_) (by rfl) ?_ ?_; rotate_left; (focus (intro v hSv; (try dsimp only at hSv); go_simp; (try rw [if_neg (by omega)]); (try with_reducible rfl); done)); try simp only [Act.put, List.setIfInBounds_toArray, List.set_cons_zero, List.set_cons_succ]))
            refine wpSteady_nil ?_
            go_wp2_with fail
            go_roundw
            case rel => exact ⟨j + 1, by omega, by go_num, by rw [HQ1.out], B2⟩
            case measure => simp [intOf]; omega
          · have d0 : decide (0 < j) = true := decide_eq_true (by omega)
            have d1 : 0 < j := by omega
            have hq1 : accS fl (j + 1) = accS fl j ++ ⟨#[44, 32]⟩ ++ ns[j] ++ ⟨#[32, 61, 32]⟩ ++ fmtT es[j] := accS_s (by omega) hg
            have hs := congrArg ByteArray.size hq1
            rw [size_app, size_app, size_app, size_app] at hs
            have h3 : (⟨#[32, 61, 32]⟩ : ByteArray).size = 3 := rfl
            have h2 : (⟨#[44, 32]⟩ : ByteArray).size = 2 := rfl
            have HQ1 := hid hq1
            have HCall := hid (HI.out es[j] (List.getElem_mem hle) (lv + 1) P wr.drew _ (hT2.bel (below_drew (Below.refl _ _))) (HES.out _ (List.getElem_mem hle)) hse (by omega))
            have hb0 : (accS fl j).size + 2 ≤ 9223372036854775807 := by omega
            have hb1 : (accS fl j).size + 2 + (ns[j]).size ≤ 9223372036854775807 := by omega
            have hb2 : (accS fl j).size + 2 + (ns[j]).size + 3 ≤ 9223372036854775807 := by omega
            have hb3 : (accS fl j).size + 2 + (ns[j]).size + 3 + (fmtT es[j]).size ≤ 9223372036854775807 := by omega
            clear hq1 hs h3 h2 hg hT2 hsz1 ha0 ha1 hj00
            generalize accS fl j = acc at *
            generalize ns[j] = nj at *
            generalize fmtT es[j] = fe at *
            go_wp2_with fail
            refine wp_region_steady (fun v => v.cell? ⟨w.heap.size, 1, none⟩ = some (.slice (some ⟨g2, o2, none⟩) es.length ce) ∧ v.cell? ⟨w.heap.size, 2, none⟩ = some (.slice (some ⟨gn, o, none⟩) ns.length cn) ∧ v.cell? ⟨gn, o + j, none⟩ = some (.string nj) ∧ v.cell? ⟨g2, o2 + j * 3, none⟩ = some (.int .i64 kx) ∧ v.cell? ⟨g2, o2 + j * 3 + 1, none⟩ = some (.slice oy2 my2 cy2) ∧ v.cell? ⟨g2, o2 + j * 3 + 2, none⟩ = some (.slice oz2 mz2 cz2)) (by kernel_rfl) (by kernel_rfl) (⟨c1, c2, a1, b1, b2, b3⟩) ?_
            repeat (first
              | (refine wpSteady_skip (by rfl) ?_; try simp only [Act.put, List.setIfInBounds_toArray, List.set_cons_zero, List.set_cons_succ])
              | (refine wpSteady_calm (v := ?_) (by rfl) ?_ ?_; rotate_left; (focus (intro v hSv; (try dsimp only at hSv); go_simp; (try rw [if_neg (by omega)]); (try with_reducible rfl); done)); try simp only [Act.put, List.setIfInBounds_toArray, List.set_cons_zero, List.set_cons_succ]))
            refine wpSteady_loud rfl (by rfl) (fun K hK => ?_)
            go_simp
            refine HCall.out.mono ?_
            rintro e w4 ⟨rfl, hb⟩
            have B2 := hid (B.out.trans ((show Below wr.heap.size wr w4 from ⟨hb.os, hb.tape, hb.output, hb.size, hb.block⟩).mono B.out.size))
            have r1 := bcell (W := wr.drew) hb c1
            have r2 := bcell (W := wr.drew) hb c2
            have r3 := bcell (W := wr.drew) hb a1
            have r4 := bcell (W := wr.drew) hb b1
            have r5 := bcell (W := wr.drew) hb b2
            have r6 := bcell (W := wr.drew) hb b3
            clear hb c1 c2 a1 b1 b2 b3
            refine hK.out _ _ (⟨r1, r2, r3, r4, r5, r6⟩) ?_
            clear hK K
            try simp only [Act.put, List.setIfInBounds_toArray, List.set_cons_zero, List.set_cons_succ]
            repeat (first
              | (refine wpSteady_skip (by rfl) ?_; try simp only [Act.put, List.setIfInBounds_toArray, List.set_cons_zero, List.set_cons_succ])
              | (refine wpSteady_calm (v := ?_) (by rfl) ?_ ?_; rotate_left; (focus (intro v hSv; (try dsimp only at hSv); go_simp; (try rw [if_neg (by omega)]); (try with_reducible rfl); done)); try simp only [Act.put, List.setIfInBounds_toArray, List.set_cons_zero, List.set_cons_succ]))
            refine wpSteady_nil ?_
            go_wp2_with fail
            go_roundw
            case rel => exact ⟨j + 1, by omega, by go_num, by rw [HQ1.out], B2⟩
            case measure => simp [intOf]; omega
        · have HEND := hid (accS_end fl j (by have := HFL.out; omega))
          have hb0 : (accS fl j).size + 2 ≤ 9223372036854775807 := by omega
          clear ha0
          generalize accS fl j = acc at *
          go_wp2_with fail
          go_ret
          exact ⟨by rw [HQ.out, ← HEND.out]; rfl, HB2.out.trans (B.out.mono HB2.out.size)⟩
    · have hq : fmtT (.mk kk es ns) = wordS kk := by rw [fmtT_eq, if_neg (fun h => by omega), if_neg (fun h => by omega)]
      have HQ := hid hq
      have e4 : ((kk : Int) == 4) = false := beq_eq_false_iff_ne.2 (by omega)
      have e5 : ((kk : Int) == 5) = false := beq_eq_false_iff_ne.2 (by omega)
      have e6 : ((kk : Int) == 6) = false := beq_eq_false_iff_ne.2 (by omega)
      have n6 : ((kk : Int) != 6) = true := by rw [bne, e6]; rfl
      have g4 : decide ((kk : Int) = 4) = false := decide_eq_false (by omega)
      have g5 : decide ((kk : Int) = 5) = false := decide_eq_false (by omega)
      have g6 : decide ((kk : Int) = 6) = false := decide_eq_false (by omega)
      clear hq hk hp1 hp2 hparts hkr hmax
      go_enter Tryd.func22, Tryd.ntmps22
      go_wp2_with fail
      rw [HW.out]
      refine wp_region_steady_tail 3 (fun v => v.cell? ⟨w.heap.size, 0, none⟩ = some (.int .i64 (kk : Int))) (by kernel_rfl) (by kernel_rfl) (HC0.out) ?_
      simp only [List.take_succ_cons, List.take_zero, List.drop_succ_cons, List.drop_zero]
      repeat (first
        | (refine wpSteady_skip (by rfl) ?_; try simp only [Act.put, List.setIfInBounds_toArray, List.set_cons_zero, List.set_cons_succ])
        | (refine wpSteady_calm (v := ?_) (by rfl) ?_ ?_; rotate_left; (focus (intro v hSv; (try dsimp only at hSv); go_simp; (try with_reducible rfl); done)); try simp only [Act.put, List.setIfInBounds_toArray, List.set_cons_zero, List.set_cons_succ]))
      refine wpSteady_loud rfl (by rfl) (fun K hK => ?_)
      go_simp
      refine (words_any W.drew W.heap.size rfl).mono ?_
      rintro e w2 ⟨rfl, hb, hwc⟩
      have k0 := bcell (W := W.drew) hb HC0.out
      have k1 := bcell (W := W.drew) hb HC1.out
      have k2 := bcell (W := W.drew) hb HC2.out
      have HB2 := hid (HB.out.trans ((show Below W.heap.size W w2 from ⟨hb.os, hb.tape, hb.output, hb.size, hb.block⟩).mono HB.out.size))
      have HE2 := hid ((HE.out.bel (below_drew (Below.refl _ _))).bel hb)
      have HN2 := hid ((HN.out.bel (below_drew (Below.refl _ _))).bel hb)
      have wc := hwc kk (by omega)
      clear hb hwc
      refine hK.out _ _ (k0) ?_
      clear hK K
      try simp only [Act.put, List.setIfInBounds_toArray, List.set_cons_zero, List.set_cons_succ]
      repeat (first
        | (refine wpSteady_skip (by rfl) ?_; try simp only [Act.put, List.setIfInBounds_toArray, List.set_cons_zero, List.set_cons_succ])
        | (refine wpSteady_calm (v := ?_) (by rfl) ?_ ?_; rotate_left; (focus (intro v hSv; (try dsimp only at hSv); go_simp; (try with_reducible rfl); done)); try simp only [Act.put, List.setIfInBounds_toArray, List.set_cons_zero, List.set_cons_succ]))
      refine wpSteady_nil ?_
      go_wp2_with fail
      go_ret
      exact ⟨by rw [HQ.out]; rfl, HB2.out⟩
end Go.Proofs.YtfljnigbfacmjaaDoor
