/- Equality: lists of strings, lists of types, types. -/
import Derived.Test.YtfljnigbfacmjaaGreatDoorSmall
import Derived.Test.YtfljnigbfacmjaaGreatDoorSteady
import Derived.Test.YtfljnigbfacmjaaGreatDoorApp
import Derived.WalkLawsBesides
namespace Go.Proofs.YtfljnigbfacmjaaGreatDoor
open Go Go.RowKit Go.Proofs.YtfljnigbfacmjaaGreatDoor.Steady
set_option linter.unusedVariables false

theorem get_no {a b : List ByteArray} {k : Nat} (h1 : k < a.length) (h2 : k < b.length) (h : a[k] ≠ b[k]) : decide (a = b) = false := decide_eq_false fun e => h (by subst e; rfl)
theorem get_yes {a b : List ByteArray} (hl : a.length = b.length) (h : ∀ j (h1 : j < a.length) (h2 : j < b.length), a[j] = b[j]) : decide (a = b) = true := decide_eq_true (List.ext_getElem hl h)
theorem str_ne {a b : ByteArray} (h : a ≠ b) : (a.toList == b.toList) = false ∧ decide (a.toList = b.toList) = false := by
  have h2 : a.toList ≠ b.toList := fun e => h (toList_inj e)
  exact ⟨beq_eq_false_iff_ne.2 h2, decide_eq_false h2⟩
theorem str_ne2 {a b : ByteArray} (h : a ≠ b) : (a.toList != b.toList) = true := by rw [bne, (str_ne h).1]; rfl

set_option maxRecDepth 100000 in
set_option maxHeartbeats 4000000 in
theorem same_any (P Q : Nat → Prop) (w : World) (u v : Value) (a b : List ByteArray) (hu : SV P w u a) (hv : SV Q w v b) : Calls Tryz.prog 30 #[u, v] w (Ret (.bool (decide (a = b))) w) := by
  obtain ⟨oa, ca, rfl⟩ := hu.len
  obtain ⟨ob, cb, rfl⟩ := hv.len
  have hla := hu.le
  have hlb := hv.le
  by_cases hne : a.length = b.length
  case neg =>
    have hd : decide (a = b) = false := decide_eq_false fun e => hne (by rw [e])
    have hb1 : decide ((a.length : Int) = (b.length : Int)) = false := decide_eq_false (by omega)
    have hb2 : ((a.length : Int) != (b.length : Int)) = true := by rw [bne, beq_eq_false_iff_ne.2 (by omega)]; rfl
    have hb3 : ((a.length : Int) == (b.length : Int)) = false := beq_eq_false_iff_ne.2 (by omega)
    have HD := hid hd
    clear hd hne hu hv
    go_enter Tryz.func30, Tryz.ntmps30
    go_wp2_with fail
    go_ret
    exact ⟨by rw [HD.out]; rfl, Below.refl _ _⟩
  have HU := hid hu
  have HV := hid hv
  have HL := hid hne
  have HLB : Hid (SV Q w (.slice ob a.length cb) b) := by rw [hne]; exact hid hv
  rw [← hne]
  clear hu hv hne
  go_enter Tryz.func30, Tryz.ntmps30
  go_wp2_with fail
  go_loopw [5] (fun i wr => ∃ k : Nat, k ≤ a.length ∧ i = .int .i64 k ∧ Hid (Below w.heap.size w wr) ∧ Hid (∀ j (h1 : j < a.length) (h2 : j < b.length), j < k → a[j] = b[j])) (fun i _ => a.length - (intOf i).toNat)
  case atStart => exact ⟨0, Nat.zero_le _, rfl, hid (Below.refl _ _), hid fun j _ _ hj => absurd hj (Nat.not_lt_zero _)⟩
  case round =>
    obtain ⟨k, hk, rfl, B, A⟩ := hrel
    by_cases hlt : k < a.length
    · have hltb : k < b.length := by rw [← HL.out]; exact hlt
      obtain ⟨g1, o1, c1, e1, hc1⟩ := (HU.out.bel B.out).at hlt
      obtain ⟨g2, o2, c2, e2, hc2⟩ := (HLB.out.bel B.out).at hltb
      cases e1
      rw [← HL.out] at e2
      cases e2
      have hk0 : (0 : Int) ≤ (k : Int) := by omega
      have hk1 : (k : Int) < (a.length : Int) := by omega
      have hno := get_no hlt hltb
      obtain ⟨x, hx⟩ : ∃ x, a[k] = x := ⟨_, rfl⟩
      obtain ⟨y, hy⟩ : ∃ y, b[k] = y := ⟨_, rfl⟩
      rw [hx] at hc1 hno
      rw [hy] at hc2 hno
      have Hno := hid hno
      have HX := hid hx
      have HY2 := hid hy
      clear hno hx hy
      by_cases hxy : x = y
      · subst hxy
        go_wp2_with fail
        refine wp_region_steady (fun v => v.cell? ⟨g1, o1 + k, none⟩ = some (.string x) ∧ v.cell? ⟨g2, o2 + k, none⟩ = some (.string x)) (by kernel_rfl) (by kernel_rfl) (⟨hc1, hc2⟩) ?_
        repeat (first
          | (refine wpSteady_skip (by rfl) ?_; try simp only [Act.put, List.setIfInBounds_toArray, List.set_cons_zero, List.set_cons_succ])
          | (refine wpSteady_calm (v := ?_) (by rfl) ?_ ?_; rotate_left; (focus (intro v hSv; (try dsimp only at hSv); go_simp; (try with_reducible rfl); done)); try simp only [Act.put, List.setIfInBounds_toArray, List.set_cons_zero, List.set_cons_succ]))
        refine wpSteady_nil ?_
        go_wp2_with fail
        go_roundw
        case rel =>
          refine ⟨k + 1, by omega, by go_num, hid (below_drew B.out), hid fun j h1 h2 hj => ?_⟩
          by_cases e : j = k
          · subst e; rw [HX.out, HY2.out]
          · exact A.out j h1 h2 (by omega)
        case measure => simp [intOf]; omega
      · obtain ⟨hb1, hb2⟩ := str_ne hxy
        have hb3 := str_ne2 hxy
        have HXY := hid (Hno.out hxy)
        clear hxy
        go_wp2_with fail
        refine wp_region_steady (fun v => v.cell? ⟨g1, o1 + k, none⟩ = some (.string x) ∧ v.cell? ⟨g2, o2 + k, none⟩ = some (.string y)) (by kernel_rfl) (by kernel_rfl) (⟨hc1, hc2⟩) ?_
        repeat (first
          | (refine wpSteady_skip (by rfl) ?_; try simp only [Act.put, List.setIfInBounds_toArray, List.set_cons_zero, List.set_cons_succ])
          | (refine wpSteady_calm (v := ?_) (by rfl) ?_ ?_; rotate_left; (focus (intro v hSv; (try dsimp only at hSv); go_simp; (try with_reducible rfl); done)); try simp only [Act.put, List.setIfInBounds_toArray, List.set_cons_zero, List.set_cons_succ]))
        refine wpSteady_nil ?_
        go_wp2_with fail
        go_ret
        exact ⟨by rw [HXY.out]; rfl, below_drew B.out⟩
    · have hY := get_yes HL.out fun j h1 h2 => A.out j h1 h2 (by omega)
      have HY3 := hid hY
      clear hY
      go_wp2_with fail
      go_ret
      exact ⟨by rw [HY3.out]; rfl, B.out⟩
set_option maxRecDepth 100000 in
set_option maxHeartbeats 4000000 in
theorem slEq_any (P Q : Nat → Prop) (w : World) (u v : Value) (a b : List ByteArray) (hu : SV P w u a) (hv : SV Q w v b) : Calls Tryz.prog 28 #[u, v] w (Ret (.bool (decide (a = b))) w) := by
  obtain ⟨oa, ca, rfl⟩ := hu.len
  obtain ⟨ob, cb, rfl⟩ := hv.len
  have hla := hu.le
  have hlb := hv.le
  by_cases hne : a.length = b.length
  case neg =>
    have hd : decide (a = b) = false := decide_eq_false fun e => hne (by rw [e])
    have hb1 : decide ((a.length : Int) = (b.length : Int)) = false := decide_eq_false (by omega)
    have hb2 : ((a.length : Int) != (b.length : Int)) = true := by rw [bne, beq_eq_false_iff_ne.2 (by omega)]; rfl
    have hb3 : ((a.length : Int) == (b.length : Int)) = false := beq_eq_false_iff_ne.2 (by omega)
    have HD := hid hd
    clear hd hne hu hv
    go_enter Tryz.func28, Tryz.ntmps28
    go_wp2_with fail
    go_ret
    exact ⟨by rw [HD.out]; rfl, Below.refl _ _⟩
  have HU := hid hu
  have HV := hid hv
  have HL := hid hne
  have HLB : Hid (SV Q w (.slice ob a.length cb) b) := by rw [hne]; exact hid hv
  rw [← hne]
  clear hu hv hne
  go_enter Tryz.func28, Tryz.ntmps28
  go_wp2_with fail
  go_loopw [13] (fun i wr => ∃ k : Nat, k ≤ a.length ∧ i = .int .i64 k ∧ Hid (Below w.heap.size w wr) ∧ Hid (∀ j (h1 : j < a.length) (h2 : j < b.length), j < k → a[j] = b[j])) (fun i _ => a.length - (intOf i).toNat)
  case atStart => exact ⟨0, Nat.zero_le _, rfl, hid (Below.refl _ _), hid fun j _ _ hj => absurd hj (Nat.not_lt_zero _)⟩
  case round =>
    obtain ⟨k, hk, rfl, B, A⟩ := hrel
    by_cases hlt : k < a.length
    · have hltb : k < b.length := by rw [← HL.out]; exact hlt
      obtain ⟨g1, o1, c1, e1, hc1⟩ := (HU.out.bel B.out).at hlt
      obtain ⟨g2, o2, c2, e2, hc2⟩ := (HLB.out.bel B.out).at hltb
      cases e1
      rw [← HL.out] at e2
      cases e2
      have hk0 : (0 : Int) ≤ (k : Int) := by omega
      have hk1 : (k : Int) < (a.length : Int) := by omega
      have hno := get_no hlt hltb
      obtain ⟨x, hx⟩ : ∃ x, a[k] = x := ⟨_, rfl⟩
      obtain ⟨y, hy⟩ : ∃ y, b[k] = y := ⟨_, rfl⟩
      rw [hx] at hc1 hno
      rw [hy] at hc2 hno
      have Hno := hid hno
      have HX := hid hx
      have HY2 := hid hy
      clear hno hx hy
      by_cases hxy : x = y
      · subst hxy
        go_wp2_with fail
        refine wp_region_steady (fun v => v.cell? ⟨g1, o1 + k, none⟩ = some (.string x) ∧ v.cell? ⟨g2, o2 + k, none⟩ = some (.string x)) (by kernel_rfl) (by kernel_rfl) (⟨hc1, hc2⟩) ?_
        repeat (first
          | (refine wpSteady_skip (by rfl) ?_; try simp only [Act.put, List.setIfInBounds_toArray, List.set_cons_zero, List.set_cons_succ])
          | (refine wpSteady_calm (v := ?_) (by rfl) ?_ ?_; rotate_left; (focus (intro v hSv; (try dsimp only at hSv); go_simp; (try with_reducible rfl); done)); try simp only [Act.put, List.setIfInBounds_toArray, List.set_cons_zero, List.set_cons_succ]))
        refine wpSteady_nil ?_
        go_wp2_with fail
        go_roundw
        case rel =>
          refine ⟨k + 1, by omega, by go_num, hid (below_drew B.out), hid fun j h1 h2 hj => ?_⟩
          by_cases e : j = k
          · subst e; rw [HX.out, HY2.out]
          · exact A.out j h1 h2 (by omega)
        case measure => simp [intOf]; omega
      · obtain ⟨hb1, hb2⟩ := str_ne hxy
        have hb3 := str_ne2 hxy
        have HXY := hid (Hno.out hxy)
        clear hxy
        go_wp2_with fail
        refine wp_region_steady (fun v => v.cell? ⟨g1, o1 + k, none⟩ = some (.string x) ∧ v.cell? ⟨g2, o2 + k, none⟩ = some (.string y)) (by kernel_rfl) (by kernel_rfl) (⟨hc1, hc2⟩) ?_
        repeat (first
          | (refine wpSteady_skip (by rfl) ?_; try simp only [Act.put, List.setIfInBounds_toArray, List.set_cons_zero, List.set_cons_succ])
          | (refine wpSteady_calm (v := ?_) (by rfl) ?_ ?_; rotate_left; (focus (intro v hSv; (try dsimp only at hSv); go_simp; (try with_reducible rfl); done)); try simp only [Act.put, List.setIfInBounds_toArray, List.set_cons_zero, List.set_cons_succ]))
        refine wpSteady_nil ?_
        go_wp2_with fail
        go_ret
        exact ⟨by rw [HXY.out]; rfl, below_drew B.out⟩
    · have hY := get_yes HL.out fun j h1 h2 => A.out j h1 h2 (by omega)
      have HY3 := hid hY
      clear hY
      go_wp2_with fail
      go_ret
      exact ⟨by rw [HY3.out]; rfl, B.out⟩

set_option maxRecDepth 100000 in
set_option maxHeartbeats 4000000 in
theorem eqfuncE_any (f : Ty → Ty → Bool) (P Q : Nat → Prop) (w : World) (u v : Value) (es es' : List Ty) (hu : LV P w u es) (hv : LV Q w v es')
    (hf : ∀ e ∈ es, ∀ (e' : Ty) (w1 : World) (x y : Value), TV P w1 x e → TV Q w1 y e' → Calls Tryz.prog 16 #[x, y] w1 (Ret (.bool (f e e')) w1)) :
    Calls Tryz.prog 36 #[u, v, .func (.func 16) #[] #[]] w (Ret (.bool (eqF f es es')) w) := by
  obtain ⟨oa, ca, rfl⟩ := hu.len
  obtain ⟨ob, cb, rfl⟩ := hv.len
  have hla := hu.le
  have hlb := hv.le
  by_cases hne : es.length = es'.length
  case neg =>
    have hd := eqF_len (f := f) hne
    have hb1 : decide ((es.length : Int) = (es'.length : Int)) = false := decide_eq_false (by omega)
    have hb2 : ((es.length : Int) != (es'.length : Int)) = true := by rw [bne, beq_eq_false_iff_ne.2 (by omega)]; rfl
    have hb3 : ((es.length : Int) == (es'.length : Int)) = false := beq_eq_false_iff_ne.2 (by omega)
    have HD := hid hd
    clear hd hne hu hv hf
    go_enter Tryz.func36, Tryz.ntmps36
    go_wp2_with fail
    go_ret
    exact ⟨by rw [HD.out]; rfl, Below.refl _ _⟩
  have HU := hid hu
  have HF := hid hf
  have HL := hid hne
  have HLB : Hid (LV Q w (.slice ob es.length cb) es') := by rw [hne]; exact hid hv
  rw [← hne]
  clear hu hv hne hf
  go_enter Tryz.func36, Tryz.ntmps36
  go_wp2_with fail
  go_loopw [17] (fun i wr => ∃ k : Nat, k ≤ es.length ∧ i = .int .i64 k ∧ Hid (Below w.heap.size w wr) ∧ Hid (eqF f (es.drop k) (es'.drop k) = eqF f es es')) (fun i _ => es.length - (intOf i).toNat)
  case atStart => exact ⟨0, Nat.zero_le _, rfl, hid (Below.refl _ _), hid rfl⟩
  case round =>
    obtain ⟨k, hk, rfl, B, A⟩ := hrel
    by_cases hlt : k < es.length
    · have hltb : k < es'.length := by rw [← HL.out]; exact hlt
      obtain ⟨g1, o1, c1, k1, oy1, my1, cy1, oz1, mz1, cz1, e1, a1, a2, a3, hT1⟩ := (HU.out.bel B.out).at2 hlt
      obtain ⟨g2, o2, c2, k2, oy2, my2, cy2, oz2, mz2, cz2, e2, b1, b2, b3, hT2⟩ := (HLB.out.bel B.out).at2 hltb
      cases e1
      rw [← HL.out] at e2
      cases e2
      have hk0 : (0 : Int) ≤ (k : Int) := by omega
      have hk1 : (k : Int) < (es.length : Int) := by omega
      have hstep := eqF_drop (f := f) hlt hltb
      rw [A.out] at hstep
      obtain ⟨hB1, _⟩ := box3 wr (.int .i64 k1) (.slice oy1 my1 cy1) (.slice oz1 mz1 cz1) 30
      obtain ⟨hB2, _⟩ := box3 (wr.alloc (.cells #[.int .i64 k1, .slice oy1 my1 cy1, .slice oz1 mz1 cz1] 30)) (.int .i64 k2) (.slice oy2 my2 cy2) (.slice oz2 mz2 cz2) 30
      have d1 := bcell hB1 b1
      have d2 := bcell hB1 b2
      have d3 := bcell hB1 b3
      have hcall := HF.out es[k] (List.getElem_mem hlt) es'[k] _ _ _ ((hT1.bel hB1).bel hB2) ((hT2.bel hB1).bel hB2)
      have HCall := hid hcall
      have HBB := hid (B.out.trans ((hB1.trans (hB2.mono hB1.size)).mono B.out.size))
      clear hcall hB1 hB2 hT1 hT2 A b1 b2 b3
      cases hfe : f es[k] es'[k] with
      | false =>
        rw [hfe, Bool.false_and] at hstep
        rw [hfe] at HCall
        have HS := hid hstep
        clear hfe hstep
        go_wp2_with fail
        refine HCall.out.mono ?_; rintro e w4 ⟨rfl, hb4⟩
        have HB4 := hid (HBB.out.trans (hb4.mono HBB.out.size))
        clear hb4
        go_wp2_with fail
        go_ret
        exact ⟨by rw [HS.out]; rfl, HB4.out⟩
      | true =>
        rw [hfe, Bool.true_and] at hstep
        rw [hfe] at HCall
        have HS := hid hstep
        clear hfe hstep
        go_wp2_with fail
        refine HCall.out.mono ?_; rintro e w4 ⟨rfl, hb4⟩
        have HB4 := hid (HBB.out.trans (hb4.mono HBB.out.size))
        clear hb4
        go_wp2_with fail
        go_roundw
        case rel => exact ⟨k + 1, by omega, by go_num, HB4, hid HS.out.symm⟩
        case measure => simp [intOf]; omega
    · have hfin : eqF f es es' = true := by
        rw [← A.out, List.drop_eq_nil_of_le (by omega), List.drop_eq_nil_of_le (by have := HL.out; omega), eqF]
      have HFin := hid hfin
      clear hfin
      go_wp2_with fail
      go_ret
      exact ⟨by rw [HFin.out]; rfl, B.out⟩
set_option maxRecDepth 100000 in
set_option maxHeartbeats 4000000 in
theorem eqfuncI_any (f : Ty → Ty → Bool) (P Q : Nat → Prop) (w : World) (u v : Value) (es es' : List Ty) (hu : LV P w u es) (hv : LV Q w v es')
    (hf : ∀ e ∈ es, ∀ (e' : Ty) (w1 : World) (x y : Value), TV P w1 x e → TV Q w1 y e' → Calls Tryz.prog 15 #[x, y] w1 (Ret (.bool (f e e')) w1)) :
    Calls Tryz.prog 36 #[u, v, .func (.func 15) #[] #[]] w (Ret (.bool (eqF f es es')) w) := by
  obtain ⟨oa, ca, rfl⟩ := hu.len
  obtain ⟨ob, cb, rfl⟩ := hv.len
  have hla := hu.le
  have hlb := hv.le
  by_cases hne : es.length = es'.length
  case neg =>
    have hd := eqF_len (f := f) hne
    have hb1 : decide ((es.length : Int) = (es'.length : Int)) = false := decide_eq_false (by omega)
    have hb2 : ((es.length : Int) != (es'.length : Int)) = true := by rw [bne, beq_eq_false_iff_ne.2 (by omega)]; rfl
    have hb3 : ((es.length : Int) == (es'.length : Int)) = false := beq_eq_false_iff_ne.2 (by omega)
    have HD := hid hd
    clear hd hne hu hv hf
    go_enter Tryz.func36, Tryz.ntmps36
    go_wp2_with fail
    go_ret
    exact ⟨by rw [HD.out]; rfl, Below.refl _ _⟩
  have HU := hid hu
  have HF := hid hf
  have HL := hid hne
  have HLB : Hid (LV Q w (.slice ob es.length cb) es') := by rw [hne]; exact hid hv
  rw [← hne]
  clear hu hv hne hf
  go_enter Tryz.func36, Tryz.ntmps36
  go_wp2_with fail
  go_loopw [17] (fun i wr => ∃ k : Nat, k ≤ es.length ∧ i = .int .i64 k ∧ Hid (Below w.heap.size w wr) ∧ Hid (eqF f (es.drop k) (es'.drop k) = eqF f es es')) (fun i _ => es.length - (intOf i).toNat)
  case atStart => exact ⟨0, Nat.zero_le _, rfl, hid (Below.refl _ _), hid rfl⟩
  case round =>
    obtain ⟨k, hk, rfl, B, A⟩ := hrel
    by_cases hlt : k < es.length
    · have hltb : k < es'.length := by rw [← HL.out]; exact hlt
      obtain ⟨g1, o1, c1, k1, oy1, my1, cy1, oz1, mz1, cz1, e1, a1, a2, a3, hT1⟩ := (HU.out.bel B.out).at2 hlt
      obtain ⟨g2, o2, c2, k2, oy2, my2, cy2, oz2, mz2, cz2, e2, b1, b2, b3, hT2⟩ := (HLB.out.bel B.out).at2 hltb
      cases e1
      rw [← HL.out] at e2
      cases e2
      have hk0 : (0 : Int) ≤ (k : Int) := by omega
      have hk1 : (k : Int) < (es.length : Int) := by omega
      have hstep := eqF_drop (f := f) hlt hltb
      rw [A.out] at hstep
      obtain ⟨hB1, _⟩ := box3 wr (.int .i64 k1) (.slice oy1 my1 cy1) (.slice oz1 mz1 cz1) 30
      obtain ⟨hB2, _⟩ := box3 (wr.alloc (.cells #[.int .i64 k1, .slice oy1 my1 cy1, .slice oz1 mz1 cz1] 30)) (.int .i64 k2) (.slice oy2 my2 cy2) (.slice oz2 mz2 cz2) 30
      have d1 := bcell hB1 b1
      have d2 := bcell hB1 b2
      have d3 := bcell hB1 b3
      have hcall := HF.out es[k] (List.getElem_mem hlt) es'[k] _ _ _ ((hT1.bel hB1).bel hB2) ((hT2.bel hB1).bel hB2)
      have HCall := hid hcall
      have HBB := hid (B.out.trans ((hB1.trans (hB2.mono hB1.size)).mono B.out.size))
      clear hcall hB1 hB2 hT1 hT2 A b1 b2 b3
      cases hfe : f es[k] es'[k] with
      | false =>
        rw [hfe, Bool.false_and] at hstep
        rw [hfe] at HCall
        have HS := hid hstep
        clear hfe hstep
        go_wp2_with fail
        refine HCall.out.mono ?_; rintro e w4 ⟨rfl, hb4⟩
        have HB4 := hid (HBB.out.trans (hb4.mono HBB.out.size))
        clear hb4
        go_wp2_with fail
        go_ret
        exact ⟨by rw [HS.out]; rfl, HB4.out⟩
      | true =>
        rw [hfe, Bool.true_and] at hstep
        rw [hfe] at HCall
        have HS := hid hstep
        clear hfe hstep
        go_wp2_with fail
        refine HCall.out.mono ?_; rintro e w4 ⟨rfl, hb4⟩
        have HB4 := hid (HBB.out.trans (hb4.mono HBB.out.size))
        clear hb4
        go_wp2_with fail
        go_roundw
        case rel => exact ⟨k + 1, by omega, by go_num, HB4, hid HS.out.symm⟩
        case measure => simp [intOf]; omega
    · have hfin : eqF f es es' = true := by
        rw [← A.out, List.drop_eq_nil_of_le (by omega), List.drop_eq_nil_of_le (by have := HL.out; omega), eqF]
      have HFin := hid hfin
      clear hfin
      go_wp2_with fail
      go_ret
      exact ⟨by rw [HFin.out]; rfl, B.out⟩


def EqualOk (a : Ty) : Prop := ∀ (b : Ty) (P Q : Nat → Prop) (w : World) (x y : Value), TV P w x a → TV Q w y b → Calls Tryz.prog 16 #[x, y] w (Ret (.bool (eqT a b)) w)

set_option maxRecDepth 100000 in
set_option maxHeartbeats 4000000 in
theorem equal_any (a : Ty) : EqualOk a := by
  induction a using Ty.ind with
  | h k es ns ih =>
    intro b P Q w x y hx hy
    obtain ⟨k', es', ns'⟩ := b
    have hq := eqT_eq k es ns k' es' ns'
    rw [eqL_eqF] at hq
    obtain ⟨ve, vn, rfl, hE, hN⟩ := hx.out
    obtain ⟨ve', vn', rfl, hE', hN'⟩ := hy.out
    obtain ⟨oe, ce, rfl⟩ := hE.len
    obtain ⟨on, cn, rfl⟩ := hN.len
    obtain ⟨oe', ce', rfl⟩ := hE'.len
    obtain ⟨on', cn', rfl⟩ := hN'.len
    have hle := hE.le
    have hln := hN.le
    have hle' := hE'.le
    have hln' := hN'.le
    obtain ⟨hB1, a0, a1, a2, hz1⟩ := box3 w (.int .i64 k) (.slice oe es.length ce) (.slice on ns.length cn) 30
    obtain ⟨hB2, b0, b1, b2, hz2⟩ := box3 (w.alloc (.cells #[.int .i64 k, .slice oe es.length ce, .slice on ns.length cn] 30)) (.int .i64 k') (.slice oe' es'.length ce') (.slice on' ns'.length cn') 30
    have p0 := bcell hB2 a0
    have p1 := bcell hB2 a1
    have p2 := bcell hB2 a2
    rw [show (w.alloc (.cells #[.int .i64 k, .slice oe es.length ce, .slice on ns.length cn] 30)).heap.size = w.heap.size + 1 by simp] at b0 b1 b2
    have hBB := hB1.trans (hB2.mono hB1.size)
    have hE2 := (hE.bel hB1).bel hB2
    have hN2 := (hN.bel hB1).bel hB2
    have hE2' := (hE'.bel hB1).bel hB2
    have hN2' := (hN'.bel hB1).bel hB2
    generalize hW : (w.alloc (.cells #[.int .i64 k, .slice oe es.length ce, .slice on ns.length cn] 30)).alloc (.cells #[.int .i64 k', .slice oe' es'.length ce', .slice on' ns'.length cn'] 30) = W at *
    have HW := hid hW
    have HB := hid hBB
    have HE := hid hE2
    have HN := hid hN2
    have HE' := hid hE2'
    have HN' := hid hN2'
    have P0 := hid p0
    have P1 := hid p1
    have P2 := hid p2
    have Q0 := hid b0
    have Q1 := hid b1
    have Q2 := hid b2
    clear hE hN hE' hN' hB1 hB2 a0 a1 a2 b0 b1 b2 p0 p1 p2 hBB hE2 hN2 hE2' hN2' hW hx hy hz1 hz2
    have HI := hid ih
    have HQ := hid hq
    clear hq ih
    by_cases hk : k = k'
    case neg =>
      have hp : eqT (.mk k es ns) (.mk k' es' ns') = false := by rw [HQ.out, decide_eq_false hk]; rfl
      have HP := hid hp
      have f1 : decide (k = k') = false := decide_eq_false hk
      have f2 : (k == k') = false := beq_eq_false_iff_ne.2 hk
      clear hp hk
      go_enter Tryz.func16, Tryz.ntmps16
      go_wp2_with fail
      go_ret
      exact ⟨by rw [HP.out]; rfl, by rw [HW.out]; exact HB.out⟩
    subst hk
    have HS := hid (slEq_any P Q W _ _ ns ns' HN.out HN'.out)
    cases hd : decide (ns = ns') with
    | false =>
      have hp : eqT (.mk k es ns) (.mk k es' ns') = false := by rw [HQ.out, hd]; simp
      have HP := hid hp
      rw [hd] at HS
      clear hp hd
      go_enter Tryz.func16, Tryz.ntmps16
      go_wp2_with fail
      rw [HW.out]
      refine HS.out.mono ?_; rintro e w2 ⟨rfl, hb2⟩
      have HB2 := hid (HB.out.trans (hb2.mono HB.out.size))
      clear hb2
      go_wp2_with fail
      go_ret
      exact ⟨by rw [HP.out]; rfl, HB2.out⟩
    | true =>
      have hp : eqT (.mk k es ns) (.mk k es' ns') = eqF eqT es es' := by rw [HQ.out, hd]; simp
      have HP := hid hp
      rw [hd] at HS
      clear hp hd
      go_enter Tryz.func16, Tryz.ntmps16
      go_wp2_with fail
      rw [HW.out]
      refine HS.out.mono ?_; rintro e w2 ⟨rfl, hb2⟩
      have HB2 := hid (HB.out.trans (hb2.mono HB.out.size))
      have p0 := bcell hb2 P0.out
      have p1 := bcell hb2 P1.out
      have p2 := bcell hb2 P2.out
      have q0 := bcell hb2 Q0.out
      have q1 := bcell hb2 Q1.out
      have q2 := bcell hb2 Q2.out
      have HF := hid (eqfuncE_any eqT P Q w2 _ _ es es' (HE.out.bel hb2) (HE'.out.bel hb2) fun e he e' w1 x y h1 h2 => HI.out e he e' P Q w1 x y h1 h2)
      clear hb2
      go_wp2_with fail
      refine HF.out.mono ?_; rintro e w3 ⟨rfl, hb3⟩
      have HB3 := hid (HB2.out.trans (hb3.mono HB2.out.size))
      clear hb3
      go_wp2_with fail
      go_ret
      exact ⟨by rw [HP.out]; rfl, HB3.out⟩

def REqualOk (a : Ty) : Prop := ∀ (b : Ty) (P Q : Nat → Prop) (w : World) (x y : Value), TV P w x a → TV Q w y b → Calls Tryz.prog 11 #[x, y] w (Ret (.bool (eqT a b)) w)

set_option maxRecDepth 100000 in
set_option maxHeartbeats 4000000 in
theorem requal_any (a : Ty) : REqualOk a := by
  induction a using Ty.ind with
  | h k es ns ih =>
    intro b P Q w x y hx hy
    obtain ⟨k', es', ns'⟩ := b
    have hq := eqT_eq k es ns k' es' ns'
    rw [eqL_eqF] at hq
    obtain ⟨ve, vn, rfl, hE, hN⟩ := hx.out
    obtain ⟨ve', vn', rfl, hE', hN'⟩ := hy.out
    obtain ⟨oe, ce, rfl⟩ := hE.len
    obtain ⟨on, cn, rfl⟩ := hN.len
    obtain ⟨oe', ce', rfl⟩ := hE'.len
    obtain ⟨on', cn', rfl⟩ := hN'.len
    have hle := hE.le
    have hln := hN.le
    have hle' := hE'.le
    have hln' := hN'.le
    obtain ⟨hB1, a0, a1, a2, hz1⟩ := box3 w (.int .i64 k) (.slice oe es.length ce) (.slice on ns.length cn) 30
    obtain ⟨hB2, b0, b1, b2, hz2⟩ := box3 (w.alloc (.cells #[.int .i64 k, .slice oe es.length ce, .slice on ns.length cn] 30)) (.int .i64 k') (.slice oe' es'.length ce') (.slice on' ns'.length cn') 30
    have p0 := bcell hB2 a0
    have p1 := bcell hB2 a1
    have p2 := bcell hB2 a2
    rw [show (w.alloc (.cells #[.int .i64 k, .slice oe es.length ce, .slice on ns.length cn] 30)).heap.size = w.heap.size + 1 by simp] at b0 b1 b2
    have hBB := hB1.trans (hB2.mono hB1.size)
    have hE2 := (hE.bel hB1).bel hB2
    have hN2 := (hN.bel hB1).bel hB2
    have hE2' := (hE'.bel hB1).bel hB2
    have hN2' := (hN'.bel hB1).bel hB2
    generalize hW : (w.alloc (.cells #[.int .i64 k, .slice oe es.length ce, .slice on ns.length cn] 30)).alloc (.cells #[.int .i64 k', .slice oe' es'.length ce', .slice on' ns'.length cn'] 30) = W at *
    have HW := hid hW
    have HB := hid hBB
    have HE := hid hE2
    have HN := hid hN2
    have HE' := hid hE2'
    have HN' := hid hN2'
    have P0 := hid p0
    have P1 := hid p1
    have P2 := hid p2
    have Q0 := hid b0
    have Q1 := hid b1
    have Q2 := hid b2
    clear hE hN hE' hN' hB1 hB2 a0 a1 a2 b0 b1 b2 p0 p1 p2 hBB hE2 hN2 hE2' hN2' hW hx hy hz1 hz2
    have HI := hid ih
    have HQ := hid hq
    clear hq ih
    by_cases hk : k = k'
    case neg =>
      have hp : eqT (.mk k es ns) (.mk k' es' ns') = false := by rw [HQ.out, decide_eq_false hk]; rfl
      have HP := hid hp
      have f1 : decide (k = k') = false := decide_eq_false hk
      have f2 : (k == k') = false := beq_eq_false_iff_ne.2 hk
      have f3 : (k != k') = true := by rw [bne, f2]; rfl
      clear hp hk
      go_enter Tryz.func11, Tryz.ntmps11
      go_wp2_with fail
      go_ret
      exact ⟨by rw [HP.out]; rfl, by rw [HW.out]; exact HB.out⟩
    subst hk
    by_cases hne : es.length = es'.length
    case neg =>
      have hp : eqT (.mk k es ns) (.mk k es' ns') = false := by rw [HQ.out, eqF_len hne]; simp
      have HP := hid hp
      have hb1 : decide ((es.length : Int) = (es'.length : Int)) = false := decide_eq_false (by omega)
      have hb3 : ((es.length : Int) == (es'.length : Int)) = false := beq_eq_false_iff_ne.2 (by omega)
      have hb2 : ((es.length : Int) != (es'.length : Int)) = true := by rw [bne, hb3]; rfl
      clear hp hne
      go_enter Tryz.func11, Tryz.ntmps11
      go_wp2_with fail
      go_ret
      exact ⟨by rw [HP.out]; rfl, by rw [HW.out]; exact HB.out⟩
    have HL := hid hne
    have HS := hid (same_any P Q W _ _ ns ns' HN.out HN'.out)
    have HLE : Hid (LV Q W (.slice oe' es.length ce') es') := by rw [hne]; exact HE'
    rw [← hne] at HW Q1
    clear hne HE'
    cases hd : decide (ns = ns') with
    | false =>
      have hp : eqT (.mk k es ns) (.mk k es' ns') = false := by rw [HQ.out, hd]; simp
      have HP := hid hp
      rw [hd] at HS
      clear hp hd
      rw [← HL.out]
      go_enter Tryz.func11, Tryz.ntmps11
      go_wp2_with fail
      rw [HW.out]
      refine HS.out.mono ?_; rintro e w2 ⟨rfl, hb2⟩
      have HB2 := hid (HB.out.trans (hb2.mono HB.out.size))
      clear hb2
      go_wp2_with fail
      go_ret
      exact ⟨by rw [HP.out]; rfl, HB2.out⟩
    | true =>
      have hp : eqT (.mk k es ns) (.mk k es' ns') = eqF eqT es es' := by rw [HQ.out, hd]; simp
      have HP := hid hp
      rw [hd] at HS
      clear hp hd
      rw [← HL.out]
      go_enter Tryz.func11, Tryz.ntmps11
      go_wp2_with fail
      rw [HW.out]
      refine HS.out.mono ?_; rintro e w2 ⟨rfl, hb2⟩
      have HB2 := hid (HB.out.trans (hb2.mono HB.out.size))
      have HEa := hid (HE.out.bel hb2)
      have HEb := hid (HLE.out.bel hb2)
      have P1' := hid (bcell hb2 P1.out)
      have Q1' := hid (bcell hb2 Q1.out)
      clear hb2
      go_wp2_with fail
      go_loopw [5] (fun i wr => ∃ j : Nat, j ≤ es.length ∧ i = .int .i64 j ∧ Hid (Below w2.heap.size w2 wr) ∧ Hid (eqF eqT (es.drop j) (es'.drop j) = eqF eqT es es')) (fun i _ => es.length - (intOf i).toNat)
      case atStart => exact ⟨0, Nat.zero_le _, rfl, hid (Below.refl _ _), hid rfl⟩
      case round =>
        obtain ⟨j, hj, rfl, B, A⟩ := hrel
        have p1 := bcell B.out P1'.out
        have q1 := bcell B.out Q1'.out
        by_cases hlt : j < es.length
        · have hltb : j < es'.length := by rw [← HL.out]; exact hlt
          obtain ⟨g1, o1, c1, k1, oy1, my1, cy1, oz1, mz1, cz1, e1, a1, a2, a3, hT1⟩ := (HEa.out.bel B.out).at2 hlt
          obtain ⟨g2, o2, c2, k2, oy2, my2, cy2, oz2, mz2, cz2, e2, b1, b2, b3, hT2⟩ := (HEb.out.bel B.out).at2 hltb
          cases e1
          rw [← HL.out] at e2
          cases e2
          have hj0 : (0 : Int) ≤ (j : Int) := by omega
          have hj1 : (j : Int) < (es.length : Int) := by omega
          have hstep := eqF_drop (f := eqT) hlt hltb
          rw [A.out] at hstep
          have hcall := HI.out es[j] (List.getElem_mem hlt) es'[j] P Q wr.drew _ _ (hT1.bel (below_drew (Below.refl _ _))) (hT2.bel (below_drew (Below.refl _ _)))
          have HCall := hid hcall
          clear hcall hT1 hT2 A
          cases hfe : eqT es[j] es'[j] with
          | false =>
            rw [hfe, Bool.false_and] at hstep
            rw [hfe] at HCall
            have HS := hid hstep
            clear hfe hstep
            go_wp2_with fail
            refine wp_region_steady (fun v => v.cell? ⟨w.heap.size, 1, none⟩ = some (.slice (some ⟨g1, o1, none⟩) es.length ce) ∧ v.cell? ⟨w.heap.size + 1, 1, none⟩ = some (.slice (some ⟨g2, o2, none⟩) es.length ce') ∧ v.cell? ⟨g1, o1 + j * 3, none⟩ = some (.int .i64 k1) ∧ v.cell? ⟨g1, o1 + j * 3 + 1, none⟩ = some (.slice oy1 my1 cy1) ∧ v.cell? ⟨g1, o1 + j * 3 + 2, none⟩ = some (.slice oz1 mz1 cz1) ∧ v.cell? ⟨g2, o2 + j * 3, none⟩ = some (.int .i64 k2) ∧ v.cell? ⟨g2, o2 + j * 3 + 1, none⟩ = some (.slice oy2 my2 cy2) ∧ v.cell? ⟨g2, o2 + j * 3 + 2, none⟩ = some (.slice oz2 mz2 cz2)) (by kernel_rfl) (by kernel_rfl) (⟨p1, q1, a1, a2, a3, b1, b2, b3⟩) ?_
            repeat (first
              | (refine wpSteady_skip (by rfl) ?_; try simp only [Act.put, List.setIfInBounds_toArray, List.set_cons_zero, List.set_cons_succ])
              | (refine wpSteady_calm (v := ?_) (by rfl) ?_ ?_; rotate_left; (focus (intro v hSv; (try dsimp only at hSv); go_simp; (try with_reducible rfl); done)); try simp only [Act.put, List.setIfInBounds_toArray, List.set_cons_zero, List.set_cons_succ]))
            refine wpSteady_loud rfl (by rfl) (fun K hK => ?_)
            go_simp
            refine HCall.out.mono ?_; rintro e w4 ⟨rfl, hb4⟩
            have HB4 := hid ((below_drew B.out).trans (hb4.mono (below_drew B.out).size))
            have r1 := bcell (W := wr.drew) hb4 p1
            have r2 := bcell (W := wr.drew) hb4 q1
            have r3 := bcell (W := wr.drew) hb4 a1
            have r4 := bcell (W := wr.drew) hb4 a2
            have r5 := bcell (W := wr.drew) hb4 a3
            have r6 := bcell (W := wr.drew) hb4 b1
            have r7 := bcell (W := wr.drew) hb4 b2
            have r8 := bcell (W := wr.drew) hb4 b3
            clear hb4
            refine hK.out _ _ (⟨r1, r2, r3, r4, r5, r6, r7, r8⟩) ?_
            clear hK K
            try simp only [Act.put, List.setIfInBounds_toArray, List.set_cons_zero, List.set_cons_succ]
            repeat (first
              | (refine wpSteady_skip (by rfl) ?_; try simp only [Act.put, List.setIfInBounds_toArray, List.set_cons_zero, List.set_cons_succ])
              | (refine wpSteady_calm (v := ?_) (by rfl) ?_ ?_; rotate_left; (focus (intro v hSv; (try dsimp only at hSv); go_simp; (try with_reducible rfl); done)); try simp only [Act.put, List.setIfInBounds_toArray, List.set_cons_zero, List.set_cons_succ]))
            refine wpSteady_nil ?_
            go_wp2_with fail
            go_ret
            exact ⟨by rw [HP.out, HS.out]; rfl, HB2.out.trans (HB4.out.mono HB2.out.size)⟩
          | true =>
            rw [hfe, Bool.true_and] at hstep
            rw [hfe] at HCall
            have HS := hid hstep
            clear hfe hstep
            go_wp2_with fail
            refine wp_region_steady (fun v => v.cell? ⟨w.heap.size, 1, none⟩ = some (.slice (some ⟨g1, o1, none⟩) es.length ce) ∧ v.cell? ⟨w.heap.size + 1, 1, none⟩ = some (.slice (some ⟨g2, o2, none⟩) es.length ce') ∧ v.cell? ⟨g1, o1 + j * 3, none⟩ = some (.int .i64 k1) ∧ v.cell? ⟨g1, o1 + j * 3 + 1, none⟩ = some (.slice oy1 my1 cy1) ∧ v.cell? ⟨g1, o1 + j * 3 + 2, none⟩ = some (.slice oz1 mz1 cz1) ∧ v.cell? ⟨g2, o2 + j * 3, none⟩ = some (.int .i64 k2) ∧ v.cell? ⟨g2, o2 + j * 3 + 1, none⟩ = some (.slice oy2 my2 cy2) ∧ v.cell? ⟨g2, o2 + j * 3 + 2, none⟩ = some (.slice oz2 mz2 cz2)) (by kernel_rfl) (by kernel_rfl) (⟨p1, q1, a1, a2, a3, b1, b2, b3⟩) ?_
            repeat (first
              | (refine wpSteady_skip (by rfl) ?_; try simp only [Act.put, List.setIfInBounds_toArray, List.set_cons_zero, List.set_cons_succ])
              | (refine wpSteady_calm (v := ?_) (by rfl) ?_ ?_; rotate_left; (focus (intro v hSv; (try dsimp only at hSv); go_simp; (try with_reducible rfl); done)); try simp only [Act.put, List.setIfInBounds_toArray, List.set_cons_zero, List.set_cons_succ]))
            refine wpSteady_loud rfl (by rfl) (fun K hK => ?_)
            go_simp
            refine HCall.out.mono ?_; rintro e w4 ⟨rfl, hb4⟩
            have HB4 := hid ((below_drew B.out).trans (hb4.mono (below_drew B.out).size))
            have r1 := bcell (W := wr.drew) hb4 p1
            have r2 := bcell (W := wr.drew) hb4 q1
            have r3 := bcell (W := wr.drew) hb4 a1
            have r4 := bcell (W := wr.drew) hb4 a2
            have r5 := bcell (W := wr.drew) hb4 a3
            have r6 := bcell (W := wr.drew) hb4 b1
            have r7 := bcell (W := wr.drew) hb4 b2
            have r8 := bcell (W := wr.drew) hb4 b3
            clear hb4
            refine hK.out _ _ (⟨r1, r2, r3, r4, r5, r6, r7, r8⟩) ?_
            clear hK K
            try simp only [Act.put, List.setIfInBounds_toArray, List.set_cons_zero, List.set_cons_succ]
            repeat (first
              | (refine wpSteady_skip (by rfl) ?_; try simp only [Act.put, List.setIfInBounds_toArray, List.set_cons_zero, List.set_cons_succ])
              | (refine wpSteady_calm (v := ?_) (by rfl) ?_ ?_; rotate_left; (focus (intro v hSv; (try dsimp only at hSv); go_simp; (try with_reducible rfl); done)); try simp only [Act.put, List.setIfInBounds_toArray, List.set_cons_zero, List.set_cons_succ]))
            refine wpSteady_nil ?_
            go_wp2_with fail
            go_roundw
            case rel => exact ⟨j + 1, by omega, by go_num, HB4, hid HS.out.symm⟩
            case measure => simp [intOf]; omega
        · have hfin : eqT (.mk k es ns) (.mk k es' ns') = true := by
            rw [HP.out, ← A.out, List.drop_eq_nil_of_le (by omega), List.drop_eq_nil_of_le (by have := HL.out; omega), eqF]
          have HFin := hid hfin
          clear hfin
          go_wp2_with fail
          go_ret
          exact ⟨by rw [HFin.out]; rfl, HB2.out.trans (B.out.mono HB2.out.size)⟩
end Go.Proofs.YtfljnigbfacmjaaGreatDoor
