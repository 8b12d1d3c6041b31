/- The statement WireReads holds of the given program for every input. -/
import Derived.Test.YtdhfpgkncglgoaaOpen
namespace Go.Proofs.Ytdhfpgkncglgoaa.wireReads
open Go.ChangeShapes Go.WideShapes Go.ChangeAt Go.RowKit Go.BigFrame
open Go.ChangeMaps (open_string shut_string)
set_option linter.unusedVariables false
set_option maxRecDepth 100000 in
set_option maxHeartbeats 2000000 in
theorem walk (s0 : ByteArray) (oa : Option Addr) (len cap : Nat) (kd nm : Nat → Int) (w0 : s0.size ≤ maxLen) (hlen : len ≤ maxLen) (w : World) (hacts : Acts w oa len kd nm) :
    Calls Try.prog 7 #[.string s0, .slice oa len cap] w fun e w' => e = .returned (.bool true) ∧ Below w.heap.size w w' := by
  unfold maxLen at w0 hlen
  by_cases h1 : 400 < s0.size
  · go_enter Try.func7, Try.ntmps7
    go_wp2_with (go_at_call 10; refine (awake_any _).mono ?_; rintro e w' ⟨rfl, hb⟩)
    go_ret
    exact ⟨rfl, hb⟩
  by_cases h2 : 60 < len
  · go_enter Try.func7, Try.ntmps7
    go_wp2_with (go_at_call 10; refine (awake_any _).mono ?_; rintro e w' ⟨rfl, hb⟩)
    go_ret
    exact ⟨rfl, hb⟩
  go_enter Try.func7, Try.ntmps7
  go_wp2_with fail
  refine (new_any _ _).mono ?_; rintro e w' ⟨rfl, rfl⟩
  go_wp2_with fail
  refine (rnew_any _ _).mono ?_; rintro e w2 ⟨rfl, hb2⟩
  have x0 : XD (w2.alloc (.cells #[.string s0, .int .i64 0] 40)) w2.heap.size s0 0 := heap_alloc_new w2 _
  have r0 : RD (w2.alloc (.cells #[.string s0, .int .i64 0] 40)) w.heap.size s0 0 true :=
    RD.below (w := w.alloc (.cells #[.string s0, .int .i64 0, .bool true] 56)) (heap_alloc_new w _) (hb2.alloc hb2.size _) (by simp)
  have ne0 : w2.heap.size ≠ w.heap.size := by have := hb2.size; simp at this; omega
  have le0 : w.heap.size ≤ w2.heap.size := by have := hb2.size; simp at this; omega
  have b0 : Below w.heap.size w (w2.alloc (.cells #[.string s0, .int .i64 0] 40)) := (((Below.refl _ _).alloc (Nat.le_refl _) _).trans (hb2.mono (by simp))).alloc le0 _
  go_wp2_with fail
  clear hb2
  have X0 := hid x0
  have R0 := hid r0
  have B0 := hid b0
  clear x0 r0 b0
  generalize hrb : w.heap.size = rb at *
  generalize w2.heap.size = xb at *
  generalize w2.alloc (.cells #[.string s0, .int .i64 0] 40) = w3 at *
  have Hrb := hid hrb
  have A0 := hid hacts
  clear hrb hacts
  go_loopw [7] (fun i wr => ∃ (k : Nat) (s : ByteArray) (e : Int), k ≤ len ∧ i = .int .i64 k ∧ s.size ≤ 400 ∧ Hid (XD wr xb s e) ∧ Hid (RD wr rb s e true) ∧ Hid (Below rb w wr)) (fun i _ => len - (intOf i).toNat)
  case atStart => exact ⟨0, s0, 0, Nat.zero_le _, rfl, by omega, X0, R0, B0⟩
  case round =>
    obtain ⟨k, s, e, hk, rfl, hs, X, R, B⟩ := hrel
    clear X0 R0 B0
    by_cases hlt : k < len
    · obtain ⟨lb, off, rfl⟩ := A0.out.head (by omega)
      have Aw := hid (A0.out.below (by rw [Hrb.out]; exact B.out))
      have hlb : lb < rb := by have := A0.out.lt lb off rfl (by omega); rw [Hrb.out] at this; exact this
      have hkd := Aw.out.kind lb off k rfl hlt
      have hnm := Aw.out.num lb off k rfl hlt
      have hx0 := X.out.c0
      have hx1 := X.out.c1
      by_cases k0 : kd k = 0
      · have k0' : (kd k == 0) = true := by simpa using k0
        clear k0
        have hsz := stepN_size s e
        go_wp2_with fail
        refine (rnum_any s e _ (by omega)).mono ?_; rintro r w4 ⟨rfl, hb4⟩
        have hnum := fun w h => number_any rb s e (by omega) w h
        unfold Post at hnum
        generalize stepN s e = G at *
        obtain ⟨n, s', e'⟩ := G
        simp only at *
        have Hnum := hid hnum
        clear hnum hx0 hx1 hkd hnm
        have X4 := hid (X.out.below (hb4.alloc hb4.size (.cells #[.string s', .int .i64 e'] 40)) X.out.lt)
        have R4 := hid (R.out.below (hb4.alloc hb4.size (.cells #[.string s', .int .i64 e'] 40)) R.out.lt)
        have B4 := hid (B.out.trans ((hb4.alloc hb4.size (.cells #[.string s', .int .i64 e'] 40)).mono (Nat.le_of_lt R.out.lt)))
        have Y4 : Hid (XD (w4.alloc (.cells #[.string s', .int .i64 e'] 40)) w4.heap.size s' e') := hid (heap_alloc_new w4 _)
        have ny : w4.heap.size ≠ rb := by have := R.out.lt; have := hb4.size; omega
        clear X R B hb4
        go_wp2_with fail
        generalize w4.heap.size = yb at *
        generalize w4.alloc (.cells #[.string s', .int .i64 e'] 40) = w5 at *
        refine (Hnum.out _ R4.out).mono ?_; rintro r w6 ⟨rfl, r6, o6⟩
        have X6 := hid (X4.out.only o6 ne0)
        have Y6 := hid (Y4.out.only o6 ny)
        have R6 := hid r6
        have B6 := hid (B4.out.trans (o6.toBelow (Nat.le_refl _)))
        clear X4 Y4 R4 B4 r6 o6
        have hy0 := Y6.out.c0
        have hy1 := Y6.out.c1
        have hf0 := X6.out.f 0
        have hf1 := X6.out.f 1
        have hx0 := X6.out.c0
        have hx1 := X6.out.c1
        go_wp2_with fail
        have X7 := hid (X6.out.set s' e')
        have R7 := hid ((R6.out.only (Only.setCell xb 0 (.string s') w6) ne0.symm).only (Only.setCell xb 1 (.int .i64 e') _) ne0.symm)
        have B7 := hid ((B6.out.trans ((Only.setCell xb 0 (.string s') w6).toBelow le0)).trans ((Only.setCell xb 1 (.int .i64 e') _).toBelow le0))
        clear X6 Y6 R6 B6 hy0 hy1 hf0 hf1 hx0 hx1
        generalize (w6.setCell ⟨xb, 0, none⟩ (.string s')).setCell ⟨xb, 1, none⟩ (.int .i64 e') = w7 at *
        have hx0 := X7.out.c0
        have hx1 := X7.out.c1
        go_region_held3 (fun v => v.cell? ⟨xb, 0, none⟩ = some (.string s') ∧ v.cell? ⟨xb, 1, none⟩ = some (.int .i64 e')) (go_keep) (first | (go_at_call 17; refine (left_any rb s' e' true (by omega) _ ?_).mono ?_; exact R7.out; rintro r w' ⟨rfl, rfl⟩) | (go_at_call 26; refine (rleft_any s' e' _ (by omega)).mono ?_; rintro r w8 ⟨rfl, hb8⟩; have x8 := XD.below (w := World.drew _) X7.out hb8 X7.out.lt; have h80 := x8.c0; have h81 := x8.c1; have X8 := hid x8; have R8 := hid (RD.below (w := World.drew _) R7.out hb8 R7.out.lt); clear x8) | (go_at_call 20; refine (err_any rb s' e' _ ?_).mono ?_; exact R8.out; rintro r w' ⟨rfl, rfl⟩) | (go_at_call 27; refine (rerr_any s' e' _).mono ?_; rintro r w9 ⟨rfl, hb9⟩; have x9 := XD.below X8.out hb9 X8.out.lt; have h90 := x9.c0; have h91 := x9.c1; have X9 := hid x9; have R9 := hid (RD.below R8.out hb9 R8.out.lt); clear x9))
        have B9 := hid ((B7.out.drew.trans (hb8.mono (Nat.le_of_lt R7.out.lt))).trans (hb9.mono (Nat.le_of_lt R8.out.lt)))
        clear h80 h81 h90 h91 hx0 hx1
        go_wp2_with fail
        go_roundw
        case rel => exact ⟨k + 1, s', e', by omega, by go_num, by omega, X9, R9, B9⟩
        case measure => simp [intOf]; omega
      by_cases k1 : kd k = 1
      · have k0' : (kd k == 0) = false := by simpa using k0
        have k1' : (kd k == 1) = true := by simpa using k1
        clear k0 k1
        have hsz := stepS_size s e
        go_wp2_with fail
        refine (rstr_any s e _ (by omega)).mono ?_; rintro r w4 ⟨rfl, hb4⟩
        have hnum := fun w h => string_any rb s e (by omega) w h
        unfold Post at hnum
        generalize stepS s e = G at *
        obtain ⟨n, s', e'⟩ := G
        simp only at *
        have Hnum := hid hnum
        clear hnum hx0 hx1 hkd hnm
        have X4 := hid (X.out.below (hb4.alloc hb4.size (.cells #[.string s', .int .i64 e'] 40)) X.out.lt)
        have R4 := hid (R.out.below (hb4.alloc hb4.size (.cells #[.string s', .int .i64 e'] 40)) R.out.lt)
        have B4 := hid (B.out.trans ((hb4.alloc hb4.size (.cells #[.string s', .int .i64 e'] 40)).mono (Nat.le_of_lt R.out.lt)))
        have Y4 : Hid (XD (w4.alloc (.cells #[.string s', .int .i64 e'] 40)) w4.heap.size s' e') := hid (heap_alloc_new w4 _)
        have ny : w4.heap.size ≠ rb := by have := R.out.lt; have := hb4.size; omega
        clear X R B hb4
        go_wp2_with fail
        generalize w4.heap.size = yb at *
        generalize w4.alloc (.cells #[.string s', .int .i64 e'] 40) = w5 at *
        refine (Hnum.out _ R4.out).mono ?_; rintro r w6 ⟨rfl, r6, o6⟩
        have X6 := hid (X4.out.only o6 ne0)
        have Y6 := hid (Y4.out.only o6 ny)
        have R6 := hid r6
        have B6 := hid (B4.out.trans (o6.toBelow (Nat.le_refl _)))
        clear X4 Y4 R4 B4 r6 o6
        have hy0 := Y6.out.c0
        have hy1 := Y6.out.c1
        have hf0 := X6.out.f 0
        have hf1 := X6.out.f 1
        have hx0 := X6.out.c0
        have hx1 := X6.out.c1
        go_wp2_with fail
        have X7 := hid (X6.out.set s' e')
        have R7 := hid ((R6.out.only (Only.setCell xb 0 (.string s') w6) ne0.symm).only (Only.setCell xb 1 (.int .i64 e') _) ne0.symm)
        have B7 := hid ((B6.out.trans ((Only.setCell xb 0 (.string s') w6).toBelow le0)).trans ((Only.setCell xb 1 (.int .i64 e') _).toBelow le0))
        clear X6 Y6 R6 B6 hy0 hy1 hf0 hf1 hx0 hx1
        generalize (w6.setCell ⟨xb, 0, none⟩ (.string s')).setCell ⟨xb, 1, none⟩ (.int .i64 e') = w7 at *
        have hx0 := X7.out.c0
        have hx1 := X7.out.c1
        go_region_held3 (fun v => v.cell? ⟨xb, 0, none⟩ = some (.string s') ∧ v.cell? ⟨xb, 1, none⟩ = some (.int .i64 e')) (go_keep) (first | (go_at_call 17; refine (left_any rb s' e' true (by omega) _ ?_).mono ?_; exact R7.out; rintro r w' ⟨rfl, rfl⟩) | (go_at_call 26; refine (rleft_any s' e' _ (by omega)).mono ?_; rintro r w8 ⟨rfl, hb8⟩; have x8 := XD.below (w := World.drew _) X7.out hb8 X7.out.lt; have h80 := x8.c0; have h81 := x8.c1; have X8 := hid x8; have R8 := hid (RD.below (w := World.drew _) R7.out hb8 R7.out.lt); clear x8) | (go_at_call 20; refine (err_any rb s' e' _ ?_).mono ?_; exact R8.out; rintro r w' ⟨rfl, rfl⟩) | (go_at_call 27; refine (rerr_any s' e' _).mono ?_; rintro r w9 ⟨rfl, hb9⟩; have x9 := XD.below X8.out hb9 X8.out.lt; have h90 := x9.c0; have h91 := x9.c1; have X9 := hid x9; have R9 := hid (RD.below R8.out hb9 R8.out.lt); clear x9))
        have B9 := hid ((B7.out.drew.trans (hb8.mono (Nat.le_of_lt R7.out.lt))).trans (hb9.mono (Nat.le_of_lt R8.out.lt)))
        clear h80 h81 h90 h91 hx0 hx1
        go_wp2_with fail
        go_roundw
        case rel => exact ⟨k + 1, s', e', by omega, by go_num, by omega, X9, R9, B9⟩
        case measure => simp [intOf]; omega
      by_cases k2 : kd k = 2
      · have k0' : (kd k == 0) = false := by simpa using k0
        have k1' : (kd k == 1) = false := by simpa using k1
        have k2' : (kd k == 2) = true := by simpa using k2
        clear k0 k1 k2
        have hsz := stepC_size s e (nm k)
        have nx0 : xb ≠ wr.heap.size := by have := X.out.lt; omega
        have nl0 : lb ≠ wr.heap.size := by have := R.out.lt; omega
        have hlx : lb < wr.heap.size := by have := R.out.lt; omega
        have hk0 : (0 : Int) ≤ (k : Int) := by omega
        have hk1 : (k : Int) < (len : Int) := by omega
        have hnum := fun w h => count_any rb s e (nm k) (by omega) w h
        have href := fun w => rcnt_any s e (nm k) w (by omega)
        unfold Post at hnum
        generalize stepC s e (nm k) = G at *
        obtain ⟨n, s', e'⟩ := G
        simp only at *
        have Hnum := hid hnum
        have Href := hid href
        clear hnum href
        have Lx := hid X.out.lt
        have Lr := hid R.out.lt
        go_wp2_with fail
        have hA : Hid (XD (wr.alloc (.cells #[.string ⟨#[]⟩, .int .i64 0] 40)) xb s e ∧ RD (wr.alloc (.cells #[.string ⟨#[]⟩, .int .i64 0] 40)) rb s e true ∧ (wr.alloc (.cells #[.string ⟨#[]⟩, .int .i64 0] 40)).cell? ⟨lb, off + k * 2 + 1, none⟩ = some (.int .i64 (nm k)) ∧ XD (wr.alloc (.cells #[.string ⟨#[]⟩, .int .i64 0] 40)) wr.heap.size ⟨#[]⟩ 0 ∧ Below wr.heap.size wr (wr.alloc (.cells #[.string ⟨#[]⟩, .int .i64 0] 40))) := hid ⟨xd_alloc X.out _, rd_alloc R.out _, cell_alloc_lt hlx hnm, heap_alloc_new wr _, (Below.refl _ _).alloc (Nat.le_refl _) _⟩
        generalize hWA : wr.alloc (.cells #[.string ⟨#[]⟩, .int .i64 0] 40) = wA at hA
        have HWA := hid hWA
        clear hWA
        go_region_held3 (fun v => v.cell? ⟨xb, 0, none⟩ = some (.string s) ∧ v.cell? ⟨xb, 1, none⟩ = some (.int .i64 e) ∧ v.cell? ⟨lb, off + k * 2 + 1, none⟩ = some (.int .i64 (nm k))) (first | (go_keep; done) | exact ⟨(only_cell (only_set2 _ _ _ _) nx0).trans h40, (only_cell (only_set2 _ _ _ _) nx0).trans h41, (only_cell (only_set2 _ _ _ _) nl0).trans h4n⟩) (first | (go_at_call 24; (first | (refine (Href.out wr.drew).mono ?_; rintro r w4 ⟨rfl, hb4⟩; have x4 := XD.below (w := World.drew _) X.out hb4 X.out.lt; have h40 := x4.c0; have h41 := x4.c1; have h4n : w4.cell? ⟨lb, off + k * 2 + 1, none⟩ = some (.int .i64 (nm k)) := (hb4.cell (p := ⟨lb, _, none⟩) hlx).trans hnm; have nx : xb ≠ w4.heap.size := (by have := x4.lt; omega); have nl : lb ≠ w4.heap.size := (by have := hb4.size; simp at this; omega); clear x4) | (rw [HWA.out]; refine (Href.out wA.drew).mono ?_; rintro r w4 ⟨rfl, hb4⟩; have x4 := XD.below (w := World.drew _) hA.out.1 hb4 hA.out.1.lt; have h40 := x4.c0; have h41 := x4.c1; have h4n : w4.cell? ⟨lb, off + k * 2 + 1, none⟩ = some (.int .i64 (nm k)) := (hb4.cell (p := ⟨lb, _, none⟩) (by have := hA.out.2.2.2.1.lt; simp; omega)).trans hA.out.2.2.1; have y4 := XD.below (w := World.drew _) hA.out.2.2.2.1 hb4 hA.out.2.2.2.1.lt; have hn0 := y4.c0; have hn1 := y4.c1; have hf0 := y4.f 0; have hf1 := y4.f 1; clear x4 y4))))
        go_wp2_with fail
        · have X4 := hid (XD.below (w := World.drew _) X.out (hb4.alloc hb4.size (.cells #[.string s', .int .i64 e'] 40)) X.out.lt)
          have R4 := hid (RD.below (w := World.drew _) R.out (hb4.alloc hb4.size (.cells #[.string s', .int .i64 e'] 40)) R.out.lt)
          have B4 := hid (B.out.drew.trans ((hb4.alloc hb4.size (.cells #[.string s', .int .i64 e'] 40)).mono (Nat.le_of_lt R.out.lt)))
          have Y4 : Hid (XD (w4.alloc (.cells #[.string s', .int .i64 e'] 40)) w4.heap.size s' e') := hid (heap_alloc_new w4 _)
          have ny : w4.heap.size ≠ rb := by have := R.out.lt; have := hb4.size; simp at this; omega
          clear X R B hb4 hA HWA h40 h41 h4n hx0 hx1 hkd hnm
          generalize w4.heap.size = yb at *
          generalize w4.alloc (.cells #[.string s', .int .i64 e'] 40) = w5 at *
          refine (Hnum.out _ R4.out).mono ?_; rintro r w6 ⟨rfl, r6, o6⟩
          have X6 := hid (X4.out.only o6 ne0)
          have Y6 := hid (Y4.out.only o6 ny)
          have R6 := hid r6
          have B6 := hid (B4.out.trans (o6.toBelow (Nat.le_refl _)))
          clear X4 Y4 R4 B4 r6 o6
          have hy0 := Y6.out.c0
          have hy1 := Y6.out.c1
          have hf0 := X6.out.f 0
          have hf1 := X6.out.f 1
          have hx0 := X6.out.c0
          have hx1 := X6.out.c1
          go_wp2_with fail
          have X7 := hid (X6.out.set s' e')
          have R7 := hid ((R6.out.only (Only.setCell xb 0 (.string s') w6) ne0.symm).only (Only.setCell xb 1 (.int .i64 e') _) ne0.symm)
          have B7 := hid ((B6.out.trans ((Only.setCell xb 0 (.string s') w6).toBelow le0)).trans ((Only.setCell xb 1 (.int .i64 e') _).toBelow le0))
          clear X6 Y6 R6 B6 hy0 hy1 hf0 hf1 hx0 hx1
          generalize (w6.setCell ⟨xb, 0, none⟩ (.string s')).setCell ⟨xb, 1, none⟩ (.int .i64 e') = w7 at *
          have hx0 := X7.out.c0
          have hx1 := X7.out.c1
          go_region_held3 (fun v => v.cell? ⟨xb, 0, none⟩ = some (.string s') ∧ v.cell? ⟨xb, 1, none⟩ = some (.int .i64 e')) (go_keep) (first | (go_at_call 17; refine (left_any rb s' e' true (by omega) _ ?_).mono ?_; exact R7.out; rintro r w' ⟨rfl, rfl⟩) | (go_at_call 26; refine (rleft_any s' e' _ (by omega)).mono ?_; rintro r w8 ⟨rfl, hb8⟩; have x8 := XD.below (w := World.drew _) X7.out hb8 X7.out.lt; have h80 := x8.c0; have h81 := x8.c1; have X8 := hid x8; have R8 := hid (RD.below (w := World.drew _) R7.out hb8 R7.out.lt); clear x8) | (go_at_call 20; refine (err_any rb s' e' _ ?_).mono ?_; exact R8.out; rintro r w' ⟨rfl, rfl⟩) | (go_at_call 27; refine (rerr_any s' e' _).mono ?_; rintro r w9 ⟨rfl, hb9⟩; have x9 := XD.below X8.out hb9 X8.out.lt; have h90 := x9.c0; have h91 := x9.c1; have X9 := hid x9; have R9 := hid (RD.below R8.out hb9 R8.out.lt); clear x9))
          have B9 := hid ((B7.out.drew.trans (hb8.mono (Nat.le_of_lt R7.out.lt))).trans (hb9.mono (Nat.le_of_lt R8.out.lt)))
          clear h80 h81 h90 h91 hx0 hx1
          go_wp2_with fail
          go_roundw
          case rel => exact ⟨k + 1, s', e', by omega, by go_num, by omega, X9, R9, B9⟩
          case measure => simp [intOf]; omega
        · have x4 := XD.below (w := World.drew _) hA.out.1 hb4 hA.out.1.lt
          have r4 := RD.below (w := World.drew _) hA.out.2.1 hb4 hA.out.2.1.lt
          have y4 := XD.below (w := World.drew _) hA.out.2.2.2.1 hb4 hA.out.2.2.2.1.lt
          have nr0 : rb ≠ wr.heap.size := by have := R.out.lt; omega
          have X4 := hid (x4.only (only_set2 w4 wr.heap.size (.string s') (.int .i64 e')) nx0)
          have R4 := hid (r4.only (only_set2 w4 wr.heap.size (.string s') (.int .i64 e')) nr0)
          have Y4 := hid (y4.set s' e')
          have B4 := hid ((((B.out.trans (hA.out.2.2.2.2.mono (Nat.le_of_lt R.out.lt))).drew).trans (hb4.mono (Nat.le_of_lt hA.out.2.1.lt))).trans ((only_set2 w4 wr.heap.size (.string s') (.int .i64 e')).toBelow (Nat.le_of_lt R.out.lt)))
          have ny : wr.heap.size ≠ rb := by have := R.out.lt; omega
          clear X R B hb4 hA HWA h40 h41 h4n hx0 hx1 hkd hnm x4 r4 y4 hn0 hn1 hf0 hf1
          generalize wr.heap.size = yb at *
          generalize (w4.setCell ⟨yb, 0, none⟩ (.string s')).setCell ⟨yb, 1, none⟩ (.int .i64 e') = w5 at *
          refine (Hnum.out _ R4.out).mono ?_; rintro r w6 ⟨rfl, r6, o6⟩
          have X6 := hid (X4.out.only o6 ne0)
          have Y6 := hid (Y4.out.only o6 ny)
          have R6 := hid r6
          have B6 := hid (B4.out.trans (o6.toBelow (Nat.le_refl _)))
          clear X4 Y4 R4 B4 r6 o6
          have hy0 := Y6.out.c0
          have hy1 := Y6.out.c1
          have hf0 := X6.out.f 0
          have hf1 := X6.out.f 1
          have hx0 := X6.out.c0
          have hx1 := X6.out.c1
          go_wp2_with fail
          have X7 := hid (X6.out.set s' e')
          have R7 := hid ((R6.out.only (Only.setCell xb 0 (.string s') w6) ne0.symm).only (Only.setCell xb 1 (.int .i64 e') _) ne0.symm)
          have B7 := hid ((B6.out.trans ((Only.setCell xb 0 (.string s') w6).toBelow le0)).trans ((Only.setCell xb 1 (.int .i64 e') _).toBelow le0))
          clear X6 Y6 R6 B6 hy0 hy1 hf0 hf1 hx0 hx1
          generalize (w6.setCell ⟨xb, 0, none⟩ (.string s')).setCell ⟨xb, 1, none⟩ (.int .i64 e') = w7 at *
          have hx0 := X7.out.c0
          have hx1 := X7.out.c1
          go_region_held3 (fun v => v.cell? ⟨xb, 0, none⟩ = some (.string s') ∧ v.cell? ⟨xb, 1, none⟩ = some (.int .i64 e')) (go_keep) (first | (go_at_call 17; refine (left_any rb s' e' true (by omega) _ ?_).mono ?_; exact R7.out; rintro r w' ⟨rfl, rfl⟩) | (go_at_call 26; refine (rleft_any s' e' _ (by omega)).mono ?_; rintro r w8 ⟨rfl, hb8⟩; have x8 := XD.below (w := World.drew _) X7.out hb8 X7.out.lt; have h80 := x8.c0; have h81 := x8.c1; have X8 := hid x8; have R8 := hid (RD.below (w := World.drew _) R7.out hb8 R7.out.lt); clear x8) | (go_at_call 20; refine (err_any rb s' e' _ ?_).mono ?_; exact R8.out; rintro r w' ⟨rfl, rfl⟩) | (go_at_call 27; refine (rerr_any s' e' _).mono ?_; rintro r w9 ⟨rfl, hb9⟩; have x9 := XD.below X8.out hb9 X8.out.lt; have h90 := x9.c0; have h91 := x9.c1; have X9 := hid x9; have R9 := hid (RD.below R8.out hb9 R8.out.lt); clear x9))
          have B9 := hid ((B7.out.drew.trans (hb8.mono (Nat.le_of_lt R7.out.lt))).trans (hb9.mono (Nat.le_of_lt R8.out.lt)))
          clear h80 h81 h90 h91 hx0 hx1
          go_wp2_with fail
          go_roundw
          case rel => exact ⟨k + 1, s', e', by omega, by go_num, by omega, X9, R9, B9⟩
          case measure => simp [intOf]; omega
      have k0' : (kd k == 0) = false := by simpa using k0
      have k1' : (kd k == 1) = false := by simpa using k1
      have k2' : (kd k == 2) = false := by simpa using k2
      clear k0 k1 k2
      go_wp2_with fail
      clear hx0 hx1 hkd hnm
      have hx0 := X.out.c0
      have hx1 := X.out.c1
      go_region_held3 (fun v => v.cell? ⟨xb, 0, none⟩ = some (.string s) ∧ v.cell? ⟨xb, 1, none⟩ = some (.int .i64 e)) (go_keep) (first | (go_at_call 17; refine (left_any rb s e true (by omega) _ ?_).mono ?_; exact R.out; rintro r w' ⟨rfl, rfl⟩) | (go_at_call 26; refine (rleft_any s e _ (by omega)).mono ?_; rintro r w8 ⟨rfl, hb8⟩; have x8 := XD.below (w := World.drew _) X.out hb8 X.out.lt; have h80 := x8.c0; have h81 := x8.c1; have X8 := hid x8; have R8 := hid (RD.below (w := World.drew _) R.out hb8 R.out.lt); clear x8) | (go_at_call 20; refine (err_any rb s e _ ?_).mono ?_; exact R8.out; rintro r w' ⟨rfl, rfl⟩) | (go_at_call 27; refine (rerr_any s e _).mono ?_; rintro r w9 ⟨rfl, hb9⟩; have x9 := XD.below X8.out hb9 X8.out.lt; have h90 := x9.c0; have h91 := x9.c1; have X9 := hid x9; have R9 := hid (RD.below R8.out hb9 R8.out.lt); clear x9))
      have B9 := hid ((B.out.drew.trans (hb8.mono (Nat.le_of_lt R.out.lt))).trans (hb9.mono (Nat.le_of_lt R8.out.lt)))
      clear h80 h81 h90 h91 hx0 hx1
      go_wp2_with fail
      go_roundw
      case rel => exact ⟨k + 1, s, e, by omega, by go_num, by omega, X9, R9, B9⟩
      case measure => simp [intOf]; omega
    · go_wp2_with fail
      refine (awake_any _).mono ?_; rintro e w' ⟨rfl, hb⟩
      go_wp2_with fail
      go_ret
      exact ⟨rfl, by rw [Hrb.out]; exact B.out.trans (hb.mono (Nat.le_of_lt R.out.lt))⟩

theorem readable : ∀ t ∈ #[9, 38].toList, Try.prog.readableRec t = true ∧ t < Try.prog.types.size := by
  intro t ht
  have r9 : Try.prog.readableRec 9 = true ∧ 9 < Try.prog.types.size := ⟨by kernel_rfl, of_decide_eq_true (by kernel_rfl)⟩
  have r38 : Try.prog.readableRec 38 = true ∧ 38 < Try.prog.types.size := ⟨by kernel_rfl, of_decide_eq_true (by kernel_rfl)⟩
  have hm : t = 9 ∨ t = 38 := by simpa using ht
  rcases hm with rfl | rfl <;> assumption

theorem walkD {H : Type} (enc : TypeId × Value → H) (W : World) (base : Nat) (args : Array Value) (ds : List (DataW H)) (p : List MemPlace)
    (hval : ∀ (j : Nat) t v, #[9, 38][j]? = some t → args[j]? = some v → Value.okWide Try.prog W .any base t v)
    (hA : DataW.TrodAll enc Try.prog W 0 (fun _ => true) true #[9, 38].toList args.toList ds p) :
    (Calls Try.prog 7 args W fun e w' => e = .returned (.bool true) ∧ Below W.heap.size W w') ∧
    ((Rows.wireReadsSpec.fn H (ds ++ [])).results = [.lit (.bool true)] ∧ (Rows.wireReadsSpec.fn H (ds ++ [])).args = ds ∧ (Rows.wireReadsSpec.fn H (ds ++ [])).vars = []) := by
  obtain ⟨v0, vs0, d0, ds0, p0, q0, hargs, rfl, rfl, h0, r0⟩ := trodAll_cons hA
  obtain ⟨v1, vs1, d1, ds1, p1, q1, rfl, rfl, rfl, h1, r1⟩ := trodAll_cons r0
  obtain ⟨rfl, rfl, rfl⟩ := trodAll_nil r1
  obtain rfl : args = #[v0, v1] := by cases args; simp_all
  obtain ⟨a0, rfl, rfl, rfl, w0⟩ := open_string Try.underlying9 (hval 0 9 v0 rfl rfl) h0
  obtain ⟨oa, ln, cp, kd, nm, rfl, wl, wa⟩ := open_acts (hval 1 38 v1 rfl rfl) h1
  exact ⟨walk a0 oa ln cp kd nm w0 wl W wa, rfl, rfl, rfl⟩

/-! ### The row -/
set_option maxRecDepth 100000 in
theorem lifted (os : Os) (started : os.Started) (H : Type) (enc : TypeId × Value → H) :
    ReturnsInHanded {} Try.checked os 7 .any (Rows.wireReadsSpec.pre6 enc Try.prog Try.f7 Rows.wireReadsRow.domain false) (Rows.wireReadsSpec.post enc Try.prog Try.f7 false true false false) := by
  refine returnsInHanded_of_change (C := Try.checked) own started (by kernel_rfl) Try.func7
    (ChangeSpec.witness6 (enc := enc) (C := Try.checked) false ⟨#[], #[.string ByteArray.empty, .slice none 0 0], []⟩ 8 (by kernel_rfl) (by kernel_rfl) (by kernel_rfl) (by kernel_rfl)) ?_
  intro W base args ds gs before hval0 hW _ _
  have hW' := hW
  obtain ⟨p, q, hA, hV, _, _, _⟩ := hW
  obtain ⟨rfl, rfl⟩ := trodVars_none hV
  rw [Try.params7] at hA hval0
  obtain ⟨hcall, hds⟩ := walkD enc W base args ds p hval0 hA
  exact hcall.mono fun e W' ⟨he, hb⟩ => ⟨_, he, law_post hW' rfl (by rw [Try.params7]; exact readable) rfl hds hb⟩

theorem over : Rows.wireReadsRow.holds Try.pinned (OpenSpec.ofChange Rows.wireReadsSpec) :=
  OpenClaim.holds_of_wide 7 Try.f7 rfl rfl rfl rfl rfl rfl rfl ⟨rfl, rfl, rfl, rfl, rfl⟩ rfl rfl rfl rfl rfl (by kernel_rfl) Try.func7 (by kernel_rfl)
    (of_decide_eq_true (by kernel_rfl)) (by unfold Func.isWrapper; first | (rw [if_pos (by decide +kernel)]; kernel_rfl) | (rw [if_neg (by decide +kernel)]; exact ⟨rfl, rfl⟩))
    (fun os started H enc _ => lifted os started H enc)

theorem proved : Rows.WireReadsSaid :=
  over
#print axioms proved
end Go.Proofs.Ytdhfpgkncglgoaa.wireReads
