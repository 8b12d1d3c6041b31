/- Fits: the program's. -/
import Derived.Test.YtfljnigbfacmjaaGreatDoorIdxV
namespace Go.Proofs.YtfljnigbfacmjaaGreatDoor
open Go Go.RowKit Go.Proofs.YtfljnigbfacmjaaGreatDoor.Steady
set_option linter.unusedVariables false

def FitOk (v : Vl) : Prop := ∀ (t : Ty) (P Q : Nat → Prop) (w : World) (x y : Value), VV P w x v → TV Q w y t → Calls Tryz.prog 9 #[x, y] w (Ret (.bool (fitsT v t)) w)
set_option maxRecDepth 100000 in
set_option maxHeartbeats 4000000 in
theorem lamV_any (e : Ty) (r : List Ty) (v : Vl) (hv : FitOk v) (P Q : Nat → Prop) (w : World) (b : Nat) (u : Value) (oe : Option Addr) (ce : Nat)
    (hb : w.cell? ⟨b, 0, none⟩ = some (.slice oe (e :: r).length ce)) (he : LV Q w (.slice oe (e :: r).length ce) (e :: r)) (hx : VV P w u v) :
    Calls Tryz.prog 49 #[u, .pointer (some ⟨b, 0, none⟩)] w (Ret (.bool (!fitsT v e)) w) := by
  have HFit := hid hv
  have HXX := hid hx
  obtain ⟨k, n, s, is, ks⟩ := v
  obtain ⟨vi, vk, rfl, hI, hK, hss⟩ := hx.out
  obtain ⟨oi, ci, rfl⟩ := hI.len
  obtain ⟨ok, ck, rfl⟩ := hK.len
  obtain ⟨g1, o1, c1, k1, oy1, my1, cy1, oz1, mz1, cz1, e1, a1, a2, a3, hT1⟩ := he.at2 (k := 0) (by simp)
  cases e1
  simp only [Nat.zero_mul, Nat.add_zero, List.getElem_cons_zero] at a1 a2 a3 hT1
  obtain ⟨hB, c0, c1', c2, c3, c4⟩ := box5 w (.int .i64 k) (.int .i64 n) (.string s) (.slice oi is.length ci) (.slice ok ks.length ck) 26
  have HB := hid hB
  have b1 := bcell hB hb
  have d1 := bcell hB a1
  have d2 := bcell hB a2
  have d3 := bcell hB a3
  have HX := hid (HXX.out.bel hB)
  have HT := hid (hT1.bel hB)
  have hl0 : (0 : Int) < ((e :: r).length : Nat) := by simp only [List.length_cons]; omega
  have hl1 : 0 < (e :: r).length := Nat.succ_pos _
  generalize hW : w.alloc (.cells #[.int .i64 k, .int .i64 n, .string s, .slice oi is.length ci, .slice ok ks.length ck] 26) = W at *
  have HW := hid hW
  have HCall := hid (HFit.out e P Q W.drew _ _ (HX.out.bel (below_drew (Below.refl _ _))) (HT.out.bel (below_drew (Below.refl _ _))))
  generalize (e :: r).length = ne at *
  clear hB hT1 hx hI hK hv he hb a1 a2 a3 hW HFit HXX
  go_enter Tryz.func49, Tryz.ntmps49
  go_wp2_with fail
  rw [HW.out]
  refine wp_region_steady (fun v => v.cell? ⟨b, 0, none⟩ = some (.slice (some ⟨g1, o1, none⟩) ne ce) ∧ v.cell? ⟨g1, o1, none⟩ = some (.int .i64 k1) ∧ v.cell? ⟨g1, o1 + 1, none⟩ = some (.slice oy1 my1 cy1) ∧ v.cell? ⟨g1, o1 + 2, none⟩ = some (.slice oz1 mz1 cz1) ∧ v.cell? ⟨w.heap.size, 0, none⟩ = some (.int .i64 k) ∧ v.cell? ⟨w.heap.size, 1, none⟩ = some (.int .i64 n) ∧ v.cell? ⟨w.heap.size, 2, none⟩ = some (.string s) ∧ v.cell? ⟨w.heap.size, 3, none⟩ = some (.slice oi is.length ci) ∧ v.cell? ⟨w.heap.size, 4, none⟩ = some (.slice ok ks.length ck)) (by kernel_rfl) (by kernel_rfl) (⟨b1, d1, d2, d3, c0, c1', c2, c3, c4⟩) ?_
  repeat (first
    | (refine wpSteady_skip (by rfl) ?_; try simp only [Act.put, List.setIfInBounds_toArray, List.set_cons_zero, List.set_cons_succ])
    | (refine wpSteady_calm (v := ?_) (by rfl) ?_ ?_; rotate_left; (focus (intro v hSv; (try dsimp only at hSv); go_simp; (try with_reducible rfl); done)); try simp only [Act.put, List.setIfInBounds_toArray, List.set_cons_zero, List.set_cons_succ]))
  refine wpSteady_loud rfl (by rfl) (fun K hK => ?_)
  go_simp
  refine HCall.out.mono ?_; rintro e2 w2 ⟨rfl, hb2⟩
  have B0 := below_drew (Below.refl W.heap.size W)
  have HB2 := hid (HB.out.trans ((B0.trans (hb2.mono B0.size)).mono HB.out.size))
  clear B0
  have r1 := bcell (W := W.drew) hb2 b1
  have r2 := bcell (W := W.drew) hb2 d1
  have r3 := bcell (W := W.drew) hb2 d2
  have r4 := bcell (W := W.drew) hb2 d3
  have r5 := bcell (W := W.drew) hb2 c0
  have r6 := bcell (W := W.drew) hb2 c1'
  have r7 := bcell (W := W.drew) hb2 c2
  have r8 := bcell (W := W.drew) hb2 c3
  have r9 := bcell (W := W.drew) hb2 c4
  clear hb2
  refine hK.out _ _ (⟨r1, r2, r3, r4, r5, r6, r7, r8, r9⟩) ?_
  clear hK K
  try simp only [Act.put, List.setIfInBounds_toArray, List.set_cons_zero, List.set_cons_succ]
  repeat (first
    | (refine wpSteady_skip (by rfl) ?_; try simp only [Act.put, List.setIfInBounds_toArray, List.set_cons_zero, List.set_cons_succ])
    | (refine wpSteady_calm (v := ?_) (by rfl) ?_ ?_; rotate_left; (focus (intro v hSv; (try dsimp only at hSv); go_simp; (try with_reducible rfl); done)); try simp only [Act.put, List.setIfInBounds_toArray, List.set_cons_zero, List.set_cons_succ]))
  refine wpSteady_nil ?_
  go_wp2_with fail
  go_ret
  exact ⟨rfl, HB2.out⟩
def evT (is : List Vl) : List Ty → Bool
  | [] => false
  | e :: _ => is.all fun v => fitsT v e
set_option maxRecDepth 100000 in
set_option maxHeartbeats 4000000 in
theorem every_any (P Q : Nat → Prop) (w : World) (u : Value) (is : List Vl) (oe : Option Addr) (ce : Nat) (es : List Ty) (hu : WV P w u is) (he : LV Q w (.slice oe es.length ce) es) (hf : ∀ v ∈ is, FitOk v) :
    Calls Tryz.prog 27 #[u, .slice oe es.length ce] w (Ret (.bool (evT is es)) w) := by
  obtain ⟨ou, cu, rfl⟩ := hu.len
  have hB : Below w.heap.size w (w.alloc (.cells #[.slice oe es.length ce] 28)) := (Below.refl _ _).alloc (Nat.le_refl _) _
  have hc : (w.alloc (.cells #[.slice oe es.length ce] 28)).cell? ⟨w.heap.size, 0, none⟩ = some (.slice oe es.length ce) := (cells_in (heap_alloc_at w (.cells #[.slice oe es.length ce] 28)) 0).trans rfl
  have HB := hid hB
  have HU := hid (hu.bel hB)
  have HE := hid (he.bel hB)
  have HF := hid hf
  generalize hW : w.alloc (.cells #[.slice oe es.length ce] 28) = W at *
  have HW := hid hW
  clear hB hu he hf hW
  match es with
  | [] =>
    simp only [List.length_nil] at HW
    go_enter Tryz.func27, Tryz.ntmps27
    go_wp2_with fail
    rw [HW.out]
    go_ret
    exact ⟨rfl, HB.out⟩
  | e :: r =>
    have hcon := containsV_any (.pointer (some ⟨w.heap.size, 0, none⟩)) (fun v => !fitsT v e) P W _ is HU.out fun v hv w1 x hb1 hT1 =>
      lamV_any e r v (HF.out v hv) P Q w1 w.heap.size x oe ce (bcell hb1 hc) (HE.out.bel hb1) hT1
    have HCon := hid hcon
    have HEV := hid (show evT is (e :: r) = is.all fun v => fitsT v e from rfl)
    have hpos : decide (((e :: r).length : Int) > 0) = true := decide_eq_true (by simp only [List.length_cons]; omega)
    have hl1 : 0 < (e :: r).length := Nat.succ_pos _
    clear hcon
    generalize (e :: r).length = ne at *
    go_enter Tryz.func27, Tryz.ntmps27
    go_wp2_with fail
    rw [HW.out]
    refine HCon.out.mono ?_; rintro e2 w2 ⟨rfl, hb2⟩
    have HB2 := hid (HB.out.trans (hb2.mono HB.out.size))
    clear hb2
    go_wp2_with fail
    go_ret
    exact ⟨by rw [HEV.out, List.all_eq_not_any_not]; rfl, HB2.out⟩

theorem fitsT_ev {k kt : Int} (h : ¬ (k = 0 ∨ k = 6 ∨ kt = 0)) (h1 : kt = 4 ∨ kt = 5) (n : Int) (s : ByteArray) (is : List Vl) (ks : List ByteArray) (es : List Ty) (ns : List ByteArray) : fitsT (.mk k n s is ks) (.mk kt es ns) = (decide (k = kt) && evT is es) := by
  cases es with
  | nil => rw [fitsT_4n h h1]; simp [evT]
  | cons e r => rw [fitsT_4 h h1]; rfl
theorem fitsL_drop {l : List Vl} {es : List Ty} {j : Nat} (h : j < l.length) (h' : j < es.length) : fitsL (l.drop j) (es.drop j) = (fitsT l[j] es[j] && fitsL (l.drop (j + 1)) (es.drop (j + 1))) := by
  rw [List.drop_eq_getElem_cons h, List.drop_eq_getElem_cons h', fitsL]
theorem fitsL_len : ∀ {l : List Vl} {es : List Ty}, l.length ≠ es.length → fitsL l es = false
  | [], [], h => absurd rfl h
  | v :: l, e :: es, h => by rw [fitsL, fitsL_len (l := l) (es := es) (fun e => h (by simp [e])), Bool.and_false]
  | [], _ :: _, _ => by rw [fitsL]
  | _ :: _, [], _ => by rw [fitsL]
set_option maxRecDepth 100000 in
set_option maxHeartbeats 4000000 in
theorem fits_any (v : Vl) : FitOk v := by
  induction v using Vl.ind with
  | h k n s is ks ih =>
    intro t P Q w x y hx hy
    obtain ⟨kt, es, ns⟩ := t
    have IH := hid ih
    clear ih
    obtain ⟨vi, vk, rfl, hI, hK, hss⟩ := hx.out
    obtain ⟨oi, ci, rfl⟩ := hI.len
    obtain ⟨ok, ck, rfl⟩ := hK.len
    obtain ⟨ve, vn, rfl, hE, hN⟩ := hy.out
    obtain ⟨oe, ce, rfl⟩ := hE.len
    obtain ⟨on, cn, rfl⟩ := hN.len
    have hli := hI.le
    have hlk := hK.le
    have hle := hE.le
    have hln := hN.le
    obtain ⟨hB1, a0, a1, a2, a3, a4⟩ := box5 w (.int .i64 k) (.int .i64 n) (.string s) (.slice oi is.length ci) (.slice ok ks.length ck) 26
    obtain ⟨hB2, b0, b1, b2, hz2⟩ := box3 (w.alloc (.cells #[.int .i64 k, .int .i64 n, .string s, .slice oi is.length ci, .slice ok ks.length ck] 26)) (.int .i64 kt) (.slice oe es.length ce) (.slice on ns.length cn) 30
    rw [show (w.alloc (.cells #[.int .i64 k, .int .i64 n, .string s, .slice oi is.length ci, .slice ok ks.length ck] 26)).heap.size = w.heap.size + 1 by simp] at b0 b1 b2
    have hBB := hB1.trans (hB2.mono hB1.size)
    have HB := hid hBB
    have HI := hid ((hI.bel hB1).bel hB2)
    have HK := hid ((hK.bel hB1).bel hB2)
    have HE := hid ((hE.bel hB1).bel hB2)
    have HN := hid ((hN.bel hB1).bel hB2)
    have a0 := bcell hB2 a0
    have a3 := bcell hB2 a3
    have a4 := bcell hB2 a4
    generalize hW : (w.alloc (.cells #[.int .i64 k, .int .i64 n, .string s, .slice oi is.length ci, .slice ok ks.length ck] 26)).alloc (.cells #[.int .i64 kt, .slice oe es.length ce, .slice on ns.length cn] 30) = W at *
    have HW := hid hW
    clear hB1 hB2 hBB hW hx hy hI hK hE hN hss a1 a2 hz2
    by_cases hk0 : k = 0
    · have dk0 : decide (k = 0) = true := by exact decide_eq_true (by omega)
      have dk0b : (k == 0) = true := by exact beq_iff_eq.2 (by omega)
      have dk0n : (k != 0) = false := by rw [bne, dk0b]; rfl
      have HP := hid (fitsT_0 (k := k) (k' := kt) (.inl hk0) n s is ks es ns)
      clear hk0
      go_enter Tryz.func9, Tryz.ntmps9
      go_wp2_with fail
      go_ret
      exact ⟨by rw [HP.out]; rfl, by rw [HW.out]; exact HB.out⟩
    have dk0 : decide (k = 0) = false := by exact decide_eq_false (by omega)
    have dk0b : (k == 0) = false := by exact beq_eq_false_iff_ne.2 (by omega)
    have dk0n : (k != 0) = true := by rw [bne, dk0b]; rfl
    by_cases hk6 : k = 6
    · have dk6 : decide (k = 6) = true := by exact decide_eq_true (by omega)
      have dk6b : (k == 6) = true := by exact beq_iff_eq.2 (by omega)
      have dk6n : (k != 6) = false := by rw [bne, dk6b]; rfl
      have HP := hid (fitsT_0 (k := k) (k' := kt) (.inr (.inl hk6)) n s is ks es ns)
      clear hk0 hk6
      go_enter Tryz.func9, Tryz.ntmps9
      go_wp2_with fail
      go_ret
      exact ⟨by rw [HP.out]; rfl, by rw [HW.out]; exact HB.out⟩
    have dk6 : decide (k = 6) = false := by exact decide_eq_false (by omega)
    have dk6b : (k == 6) = false := by exact beq_eq_false_iff_ne.2 (by omega)
    have dk6n : (k != 6) = true := by rw [bne, dk6b]; rfl
    by_cases ht : kt = 0
    · have dt0 : decide (kt = 0) = true := by exact decide_eq_true (by omega)
      have dt0b : (kt == 0) = true := by exact beq_iff_eq.2 (by omega)
      have dt0n : (kt != 0) = false := by rw [bne, dt0b]; rfl
      have HP := hid (fitsT_0 (k := k) (k' := kt) (.inr (.inr ht)) n s is ks es ns)
      clear hk0 hk6 ht
      go_enter Tryz.func9, Tryz.ntmps9
      go_wp2_with fail
      go_ret
      exact ⟨by rw [HP.out]; rfl, by rw [HW.out]; exact HB.out⟩
    have dt0 : decide (kt = 0) = false := by exact decide_eq_false (by omega)
    have dt0b : (kt == 0) = false := by exact beq_eq_false_iff_ne.2 (by omega)
    have dt0n : (kt != 0) = true := by rw [bne, dt0b]; rfl
    have ht0 := ht
    clear ht
    by_cases ht : kt = 1
    · have dt1 : decide (kt = 1) = true := by exact decide_eq_true (by omega)
      have dt1b : (kt == 1) = true := by exact beq_iff_eq.2 (by omega)
      have dt1n : (kt != 1) = false := by rw [bne, dt1b]; rfl
      have HP := hid (fitsT_1 (k := k) (k' := kt) (by omega) (by omega) n s is ks es ns)
      subst ht
      by_cases hk : k = 1
      · have dk1 : decide (k = 1) = true := by exact decide_eq_true (by omega)
        have dk1b : (k == 1) = true := by exact beq_iff_eq.2 (by omega)
        have dk1n : (k != 1) = false := by rw [bne, dk1b]; rfl
        have HD := hid dk1
        clear hk
        go_enter Tryz.func9, Tryz.ntmps9
        go_wp2_with fail
        go_ret
        exact ⟨by rw [HP.out, HD.out]; rfl, by rw [HW.out]; exact HB.out⟩
      · have dk1 : decide (k = 1) = false := by exact decide_eq_false (by omega)
        have dk1b : (k == 1) = false := by exact beq_eq_false_iff_ne.2 (by omega)
        have dk1n : (k != 1) = true := by rw [bne, dk1b]; rfl
        have HD := hid dk1
        clear hk
        go_enter Tryz.func9, Tryz.ntmps9
        go_wp2_with fail
        go_ret
        exact ⟨by rw [HP.out, HD.out]; rfl, by rw [HW.out]; exact HB.out⟩
    have dt1 : decide (kt = 1) = false := by exact decide_eq_false (by omega)
    have dt1b : (kt == 1) = false := by exact beq_eq_false_iff_ne.2 (by omega)
    have dt1n : (kt != 1) = true := by rw [bne, dt1b]; rfl
    have ht1 := ht
    clear ht
    by_cases ht : kt = 2
    · have dt2 : decide (kt = 2) = true := by exact decide_eq_true (by omega)
      have dt2b : (kt == 2) = true := by exact beq_iff_eq.2 (by omega)
      have dt2n : (kt != 2) = false := by rw [bne, dt2b]; rfl
      have HP := hid (fitsT_1 (k := k) (k' := kt) (by omega) (by omega) n s is ks es ns)
      subst ht
      by_cases hk : k = 2
      · have dk2 : decide (k = 2) = true := by exact decide_eq_true (by omega)
        have dk2b : (k == 2) = true := by exact beq_iff_eq.2 (by omega)
        have dk2n : (k != 2) = false := by rw [bne, dk2b]; rfl
        have HD := hid dk2
        clear hk
        go_enter Tryz.func9, Tryz.ntmps9
        go_wp2_with fail
        go_ret
        exact ⟨by rw [HP.out, HD.out]; rfl, by rw [HW.out]; exact HB.out⟩
      · have dk2 : decide (k = 2) = false := by exact decide_eq_false (by omega)
        have dk2b : (k == 2) = false := by exact beq_eq_false_iff_ne.2 (by omega)
        have dk2n : (k != 2) = true := by rw [bne, dk2b]; rfl
        have HD := hid dk2
        clear hk
        go_enter Tryz.func9, Tryz.ntmps9
        go_wp2_with fail
        go_ret
        exact ⟨by rw [HP.out, HD.out]; rfl, by rw [HW.out]; exact HB.out⟩
    have dt2 : decide (kt = 2) = false := by exact decide_eq_false (by omega)
    have dt2b : (kt == 2) = false := by exact beq_eq_false_iff_ne.2 (by omega)
    have dt2n : (kt != 2) = true := by rw [bne, dt2b]; rfl
    have ht2 := ht
    clear ht
    by_cases ht : kt = 3
    · have dt3 : decide (kt = 3) = true := by exact decide_eq_true (by omega)
      have dt3b : (kt == 3) = true := by exact beq_iff_eq.2 (by omega)
      have dt3n : (kt != 3) = false := by rw [bne, dt3b]; rfl
      have HP := hid (fitsT_1 (k := k) (k' := kt) (by omega) (by omega) n s is ks es ns)
      subst ht
      by_cases hk : k = 3
      · have dk3 : decide (k = 3) = true := by exact decide_eq_true (by omega)
        have dk3b : (k == 3) = true := by exact beq_iff_eq.2 (by omega)
        have dk3n : (k != 3) = false := by rw [bne, dk3b]; rfl
        have HD := hid dk3
        clear hk
        go_enter Tryz.func9, Tryz.ntmps9
        go_wp2_with fail
        go_ret
        exact ⟨by rw [HP.out, HD.out]; rfl, by rw [HW.out]; exact HB.out⟩
      · have dk3 : decide (k = 3) = false := by exact decide_eq_false (by omega)
        have dk3b : (k == 3) = false := by exact beq_eq_false_iff_ne.2 (by omega)
        have dk3n : (k != 3) = true := by rw [bne, dk3b]; rfl
        have HD := hid dk3
        clear hk
        go_enter Tryz.func9, Tryz.ntmps9
        go_wp2_with fail
        go_ret
        exact ⟨by rw [HP.out, HD.out]; rfl, by rw [HW.out]; exact HB.out⟩
    have dt3 : decide (kt = 3) = false := by exact decide_eq_false (by omega)
    have dt3b : (kt == 3) = false := by exact beq_eq_false_iff_ne.2 (by omega)
    have dt3n : (kt != 3) = true := by rw [bne, dt3b]; rfl
    have ht3 := ht
    clear ht
    by_cases ht : kt = 4
    · have dt4 : decide (kt = 4) = true := by exact decide_eq_true (by omega)
      have dt4b : (kt == 4) = true := by exact beq_iff_eq.2 (by omega)
      have dt4n : (kt != 4) = false := by rw [bne, dt4b]; rfl
      have HP := hid (fitsT_ev (k := k) (kt := kt) (by omega) (by omega) n s is ks es ns)
      subst ht
      by_cases hk : k = 4
      · have dk4 : decide (k = 4) = true := by exact decide_eq_true (by omega)
        have dk4b : (k == 4) = true := by exact beq_iff_eq.2 (by omega)
        have dk4n : (k != 4) = false := by rw [bne, dk4b]; rfl
        have HD := hid dk4
        have HEV := hid (every_any P Q W _ is oe ce es HI.out HE.out IH.out)
        clear hk
        go_enter Tryz.func9, Tryz.ntmps9
        go_wp2_with fail
        rw [HW.out]
        refine HEV.out.mono ?_
        rintro e w2 ⟨rfl, hb2⟩
        have HB2 := hid (HB.out.trans (hb2.mono HB.out.size))
        clear hb2
        go_wp2_with fail
        go_ret
        exact ⟨by rw [HP.out, HD.out]; rfl, HB2.out⟩
      · have dk4 : decide (k = 4) = false := by exact decide_eq_false (by omega)
        have dk4b : (k == 4) = false := by exact beq_eq_false_iff_ne.2 (by omega)
        have dk4n : (k != 4) = true := by rw [bne, dk4b]; rfl
        have HD := hid dk4
        clear hk
        go_enter Tryz.func9, Tryz.ntmps9
        go_wp2_with fail
        go_ret
        exact ⟨by rw [HP.out, HD.out]; rfl, by rw [HW.out]; exact HB.out⟩
    have dt4 : decide (kt = 4) = false := by exact decide_eq_false (by omega)
    have dt4b : (kt == 4) = false := by exact beq_eq_false_iff_ne.2 (by omega)
    have dt4n : (kt != 4) = true := by rw [bne, dt4b]; rfl
    have ht4 := ht
    clear ht
    by_cases ht : kt = 5
    · have dt5 : decide (kt = 5) = true := by exact decide_eq_true (by omega)
      have dt5b : (kt == 5) = true := by exact beq_iff_eq.2 (by omega)
      have dt5n : (kt != 5) = false := by rw [bne, dt5b]; rfl
      have HP := hid (fitsT_ev (k := k) (kt := kt) (by omega) (by omega) n s is ks es ns)
      subst ht
      by_cases hk : k = 5
      · have dk5 : decide (k = 5) = true := by exact decide_eq_true (by omega)
        have dk5b : (k == 5) = true := by exact beq_iff_eq.2 (by omega)
        have dk5n : (k != 5) = false := by rw [bne, dk5b]; rfl
        have HD := hid dk5
        have HEV := hid (every_any P Q W _ is oe ce es HI.out HE.out IH.out)
        clear hk
        go_enter Tryz.func9, Tryz.ntmps9
        go_wp2_with fail
        rw [HW.out]
        refine HEV.out.mono ?_
        rintro e w2 ⟨rfl, hb2⟩
        have HB2 := hid (HB.out.trans (hb2.mono HB.out.size))
        clear hb2
        go_wp2_with fail
        go_ret
        exact ⟨by rw [HP.out, HD.out]; rfl, HB2.out⟩
      · have dk5 : decide (k = 5) = false := by exact decide_eq_false (by omega)
        have dk5b : (k == 5) = false := by exact beq_eq_false_iff_ne.2 (by omega)
        have dk5n : (k != 5) = true := by rw [bne, dk5b]; rfl
        have HD := hid dk5
        clear hk
        go_enter Tryz.func9, Tryz.ntmps9
        go_wp2_with fail
        go_ret
        exact ⟨by rw [HP.out, HD.out]; rfl, by rw [HW.out]; exact HB.out⟩
    have dt5 : decide (kt = 5) = false := by exact decide_eq_false (by omega)
    have dt5b : (kt == 5) = false := by exact beq_eq_false_iff_ne.2 (by omega)
    have dt5n : (kt != 5) = true := by rw [bne, dt5b]; rfl
    have HQ := hid (fitsT_6 (k := k) (k' := kt) (by omega) (by omega) (by omega) n s is ks es ns)
    by_cases hk : k = 5
    case neg =>
      have dk5 : decide (k = 5) = false := by exact decide_eq_false (by omega)
      have dk5b : (k == 5) = false := by exact beq_eq_false_iff_ne.2 (by omega)
      have dk5n : (k != 5) = true := by rw [bne, dk5b]; rfl
      have HP := hid (show fitsT (.mk k n s is ks) (.mk kt es ns) = false by rw [HQ.out, decide_eq_false hk]; rfl)
      clear hk0 hk6 ht0 ht1 ht2 ht3 ht4 ht hk
      go_enter Tryz.func9, Tryz.ntmps9
      go_wp2_with fail
      go_ret
      exact ⟨by rw [HP.out]; rfl, by rw [HW.out]; exact HB.out⟩
    have dk5 : decide (k = 5) = true := by exact decide_eq_true (by omega)
    have dk5b : (k == 5) = true := by exact beq_iff_eq.2 (by omega)
    have dk5n : (k != 5) = false := by rw [bne, dk5b]; rfl
    have HS := hid (slEq_any P Q W _ _ ks ns HK.out HN.out)
    have HQ2 := hid (show fitsT (.mk k n s is ks) (.mk kt es ns) = (decide (ks = ns) && fitsL is es) by rw [HQ.out, decide_eq_true hk]; rfl)
    clear hk0 hk6 ht0 ht1 ht2 ht3 ht4 ht hk
    cases hd : decide (ks = ns) with
    | false =>
      have HP := hid (show fitsT (.mk k n s is ks) (.mk kt es ns) = false by rw [HQ2.out, hd]; rfl)
      rw [hd] at HS
      clear hd
      go_enter Tryz.func9, Tryz.ntmps9
      go_wp2_with fail
      rw [HW.out]
      refine HS.out.mono ?_
      rintro e w2 ⟨rfl, hb2⟩
      have HB2 := hid (HB.out.trans (hb2.mono HB.out.size))
      clear hb2
      go_wp2_with fail
      go_ret
      exact ⟨by rw [HP.out]; rfl, HB2.out⟩
    | true =>
      have HP := hid (show fitsT (.mk k n s is ks) (.mk kt es ns) = fitsL is es by rw [HQ2.out, hd]; rfl)
      rw [hd] at HS
      clear hd HQ HQ2
      have A0 := hid a0
      have A3 := hid a3
      have B1 := hid b1
      go_enter Tryz.func9, Tryz.ntmps9
      go_wp2_with fail
      rw [HW.out]
      refine HS.out.mono ?_
      rintro e w2 ⟨rfl, hb2⟩
      have HB2 := hid (HB.out.trans (hb2.mono HB.out.size))
      have HI2 := hid (HI.out.bel hb2)
      have HE2 := hid (HE.out.bel hb2)
      have a0 := bcell hb2 A0.out
      have a3 := bcell hb2 A3.out
      have b1 := bcell hb2 B1.out
      have B1 := hid b1
      clear hb2 HI HE HK HN HB HS A0 A3 b0 b2 a4
      by_cases hne : is.length = es.length
      case neg =>
        have HF := hid (HP.out.trans (fitsL_len hne))
        have dl : decide ((is.length : Int) = (es.length : Int)) = false := by exact decide_eq_false (by omega)
        have dlb : ((is.length : Int) == (es.length : Int)) = false := by exact beq_eq_false_iff_ne.2 (by omega)
        have dln : ((is.length : Int) != (es.length : Int)) = true := by rw [bne, dlb]; rfl
        clear hne
        go_wp2_with fail
        go_ret
        exact ⟨by rw [HF.out]; rfl, HB2.out⟩
      have dl : decide ((is.length : Int) = (es.length : Int)) = true := by exact decide_eq_true (by omega)
      have dlb : ((is.length : Int) == (es.length : Int)) = true := by exact beq_iff_eq.2 (by omega)
      have dln : ((is.length : Int) != (es.length : Int)) = false := by rw [bne, dlb]; rfl
      have HL := hid hne
      clear hne
      go_wp2_with fail
      go_loopw [81] (fun i wr => ∃ j : Nat, j ≤ is.length ∧ i = .int .i64 j ∧ Hid (Below w2.heap.size w2 wr) ∧ Hid (fitsL (is.drop j) (es.drop j) = fitsL is es)) (fun i _ => is.length - (intOf i).toNat)
      case atStart => exact ⟨0, Nat.zero_le _, rfl, hid (Below.refl _ _), hid rfl⟩
      case round =>
        clear a0 a3 b1
        obtain ⟨j, hj, rfl, B, A⟩ := hrel
        by_cases hlt : j < is.length
        · have hltb : j < es.length := by rw [← HL.out]; exact hlt
          obtain ⟨g1, o1, c1, k1, n1, s1, oi1, mi1, ci1, ok1, mk1, ck1, e1, a1, a2, a3, a4, a5, hT1, -⟩ := (HI2.out.bel B.out).at hlt
          cases e1
          obtain ⟨g2, o2, c2, k2, oy2, my2, cy2, oz2, mz2, cz2, e2, y1, y2, y3, hT2⟩ := (HE2.out.bel B.out).at2 hltb
          have q1 := bcell B.out B1.out
          rw [← HL.out] at e2 q1
          cases e2
          have hj0 : (0 : Int) ≤ (j : Int) := by omega
          have hj1 : (j : Int) < (is.length : Int) := by omega
          have hjn : j ≤ 140737488355328 := by omega
          have hstep := fitsL_drop hlt hltb
          rw [A.out] at hstep
          have HT1 := hid hT1
          have HT2 := hid hT2
          have Q1 := hid q1
          have E1 := hid y1
          have E2 := hid y2
          have E3 := hid y3
          clear hT1 hT2 A q1 y1 y2 y3
          go_upto_region 21 with (fail)
          have hb5 : Below wr.heap.size wr (wr.alloc (.cells #[.int .i64 k1, .int .i64 n1, .string s1, .slice oi1 mi1 ci1, .slice ok1 mk1 ck1] 26)) := (Below.refl _ _).alloc (Nat.le_refl _) _
          have hxo := heap_alloc_at wr (.cells #[.int .i64 k1, .int .i64 n1, .string s1, .slice oi1 mi1 ci1, .slice ok1 mk1 ck1] 26)
          generalize wr.alloc (.cells #[.int .i64 k1, .int .i64 n1, .string s1, .slice oi1 mi1 ci1, .slice ok1 mk1 ck1] 26) = w5 at *
          have B5 := hid (B.out.trans (hb5.mono B.out.size))
          have HCall := hid (IH.out is[j] (List.getElem_mem hlt) es[j] P Q w5.drew _ _ ((HT1.out.bel hb5).bel (below_drew (Below.refl _ _))) ((HT2.out.bel hb5).bel (below_drew (Below.refl _ _))))
          have q1 := bcell hb5 Q1.out
          have y1 := bcell hb5 E1.out
          have y2 := bcell hb5 E2.out
          have y3 := bcell hb5 E3.out
          have z0 := (cells_in hxo 0).trans rfl
          have z1 := (cells_in hxo 1).trans rfl
          have z2 := (cells_in hxo 2).trans rfl
          have z3 := (cells_in hxo 3).trans rfl
          have z4 := (cells_in hxo 4).trans rfl
          clear hb5 hxo a1 a2 a3 a4 a5 HT1 HT2 Q1 E1 E2 E3 B
          cases hfe : fitsT is[j] es[j] with
          | false =>
            rw [hfe, Bool.false_and] at hstep
            rw [hfe] at HCall
            have HS := hid hstep
            clear hfe hstep
            refine wp_region_steady (fun v => v.cell? ⟨w.heap.size + 1, 1, none⟩ = some (.slice (some ⟨g2, o2, none⟩) is.length ce) ∧ v.cell? ⟨wr.heap.size, 0, none⟩ = some (.int .i64 k1) ∧ v.cell? ⟨wr.heap.size, 1, none⟩ = some (.int .i64 n1) ∧ v.cell? ⟨wr.heap.size, 2, none⟩ = some (.string s1) ∧ v.cell? ⟨wr.heap.size, 3, none⟩ = some (.slice oi1 mi1 ci1) ∧ v.cell? ⟨wr.heap.size, 4, none⟩ = some (.slice ok1 mk1 ck1) ∧ v.cell? ⟨g2, o2 + j * 3, none⟩ = some (.int .i64 k2) ∧ v.cell? ⟨g2, o2 + j * 3 + 1, none⟩ = some (.slice oy2 my2 cy2) ∧ v.cell? ⟨g2, o2 + j * 3 + 2, none⟩ = some (.slice oz2 mz2 cz2)) (by kernel_rfl) (by kernel_rfl) (⟨q1, z0, z1, z2, z3, z4, y1, y2, y3⟩) ?_
            repeat (first
              | (refine wpSteady_skip (by rfl) ?_; try simp only [Act.put, List.setIfInBounds_toArray, List.set_cons_zero, List.set_cons_succ])
              | (refine wpSteady_calm (v := ?_) (by rfl) ?_ ?_; rotate_left; (focus (intro v hSv; (try dsimp only at hSv); go_simp; (try with_reducible rfl); done)); try simp only [Act.put, List.setIfInBounds_toArray, List.set_cons_zero, List.set_cons_succ]))
            refine wpSteady_loud rfl (by rfl) (fun K hK => ?_)
            go_simp
            refine HCall.out.mono ?_; rintro e w4 ⟨rfl, hb4⟩
            have HB4 := hid ((below_drew B5.out).trans (hb4.mono (below_drew B5.out).size))
            have r1 := bcell (W := w5.drew) hb4 q1
            have r2 := bcell (W := w5.drew) hb4 z0
            have r3 := bcell (W := w5.drew) hb4 z1
            have r4 := bcell (W := w5.drew) hb4 z2
            have r5 := bcell (W := w5.drew) hb4 z3
            have r6 := bcell (W := w5.drew) hb4 z4
            have r7 := bcell (W := w5.drew) hb4 y1
            have r8 := bcell (W := w5.drew) hb4 y2
            have r9 := bcell (W := w5.drew) hb4 y3
            clear hb4
            refine hK.out _ _ (⟨r1, r2, r3, r4, r5, r6, r7, r8, r9⟩) ?_
            clear hK K
            try simp only [Act.put, List.setIfInBounds_toArray, List.set_cons_zero, List.set_cons_succ]
            repeat (first
              | (refine wpSteady_skip (by rfl) ?_; try simp only [Act.put, List.setIfInBounds_toArray, List.set_cons_zero, List.set_cons_succ])
              | (refine wpSteady_calm (v := ?_) (by rfl) ?_ ?_; rotate_left; (focus (intro v hSv; (try dsimp only at hSv); go_simp; (try with_reducible rfl); done)); try simp only [Act.put, List.setIfInBounds_toArray, List.set_cons_zero, List.set_cons_succ]))
            refine wpSteady_nil ?_
            go_wp2_with fail
            go_ret
            exact ⟨by rw [HP.out, HS.out]; rfl, HB2.out.trans (HB4.out.mono HB2.out.size)⟩
          | true =>
            rw [hfe, Bool.true_and] at hstep
            rw [hfe] at HCall
            have HS := hid hstep
            clear hfe hstep
            refine wp_region_steady (fun v => v.cell? ⟨w.heap.size + 1, 1, none⟩ = some (.slice (some ⟨g2, o2, none⟩) is.length ce) ∧ v.cell? ⟨wr.heap.size, 0, none⟩ = some (.int .i64 k1) ∧ v.cell? ⟨wr.heap.size, 1, none⟩ = some (.int .i64 n1) ∧ v.cell? ⟨wr.heap.size, 2, none⟩ = some (.string s1) ∧ v.cell? ⟨wr.heap.size, 3, none⟩ = some (.slice oi1 mi1 ci1) ∧ v.cell? ⟨wr.heap.size, 4, none⟩ = some (.slice ok1 mk1 ck1) ∧ v.cell? ⟨g2, o2 + j * 3, none⟩ = some (.int .i64 k2) ∧ v.cell? ⟨g2, o2 + j * 3 + 1, none⟩ = some (.slice oy2 my2 cy2) ∧ v.cell? ⟨g2, o2 + j * 3 + 2, none⟩ = some (.slice oz2 mz2 cz2)) (by kernel_rfl) (by kernel_rfl) (⟨q1, z0, z1, z2, z3, z4, y1, y2, y3⟩) ?_
            repeat (first
              | (refine wpSteady_skip (by rfl) ?_; try simp only [Act.put, List.setIfInBounds_toArray, List.set_cons_zero, List.set_cons_succ])
              | (refine wpSteady_calm (v := ?_) (by rfl) ?_ ?_; rotate_left; (focus (intro v hSv; (try dsimp only at hSv); go_simp; (try with_reducible rfl); done)); try simp only [Act.put, List.setIfInBounds_toArray, List.set_cons_zero, List.set_cons_succ]))
            refine wpSteady_loud rfl (by rfl) (fun K hK => ?_)
            go_simp
            refine HCall.out.mono ?_; rintro e w4 ⟨rfl, hb4⟩
            have HB4 := hid ((below_drew B5.out).trans (hb4.mono (below_drew B5.out).size))
            have r1 := bcell (W := w5.drew) hb4 q1
            have r2 := bcell (W := w5.drew) hb4 z0
            have r3 := bcell (W := w5.drew) hb4 z1
            have r4 := bcell (W := w5.drew) hb4 z2
            have r5 := bcell (W := w5.drew) hb4 z3
            have r6 := bcell (W := w5.drew) hb4 z4
            have r7 := bcell (W := w5.drew) hb4 y1
            have r8 := bcell (W := w5.drew) hb4 y2
            have r9 := bcell (W := w5.drew) hb4 y3
            clear hb4
            refine hK.out _ _ (⟨r1, r2, r3, r4, r5, r6, r7, r8, r9⟩) ?_
            clear hK K
            try simp only [Act.put, List.setIfInBounds_toArray, List.set_cons_zero, List.set_cons_succ]
            repeat (first
              | (refine wpSteady_skip (by rfl) ?_; try simp only [Act.put, List.setIfInBounds_toArray, List.set_cons_zero, List.set_cons_succ])
              | (refine wpSteady_calm (v := ?_) (by rfl) ?_ ?_; rotate_left; (focus (intro v hSv; (try dsimp only at hSv); go_simp; (try with_reducible rfl); done)); try simp only [Act.put, List.setIfInBounds_toArray, List.set_cons_zero, List.set_cons_succ]))
            refine wpSteady_nil ?_
            go_wp2_with fail
            go_roundw
            case rel => exact ⟨j + 1, by omega, by go_num, HB4, hid HS.out.symm⟩
            case measure => simp [intOf]; omega
        · have HFin := hid (show fitsT (.mk k n s is ks) (.mk kt es ns) = true by
            rw [HP.out, ← A.out, List.drop_eq_nil_of_le (by omega), List.drop_eq_nil_of_le (by have := HL.out; omega), fitsL])
          go_wp2_with fail
          go_ret
          exact ⟨by rw [HFin.out]; rfl, HB2.out.trans (B.out.mono HB2.out.size)⟩
end Go.Proofs.YtfljnigbfacmjaaGreatDoor
