/- The statement WireUnique holds of the given program for every input. -/
import Derived.Test.YtdhfpgkncglgoaaPlain
import Derived.Test.YtdhfpgkncglgoaaFrame
namespace Go.Proofs.Ytdhfpgkncglgoaa.wireUnique
open Go.ChangeShapes Go.WideShapes Go.ChangeAt Go.RowKit Go.BigFrame
open Go.ChangeMaps (open_string shut_string)
set_option linter.unusedVariables false

set_option maxRecDepth 100000 in
set_option maxHeartbeats 1000000 in
theorem walk (s : ByteArray) (w0 : s.size ≤ maxLen) (w : World) :
    Calls Try.prog 5 #[.string s] w fun e w' => e = .returned (.bool true) ∧ Below w.heap.size w w' := by
  unfold maxLen at w0
  by_cases h1 : 400 < s.size
  · go_enter Try.func5, Try.ntmps5
    go_wp2_with (go_at_call 10; refine (awake_any _).mono ?_; rintro e w' ⟨rfl, hb⟩)
    go_ret
    exact ⟨rfl, hb⟩
  · have hn := fun w b h => number_ok b s (by omega) w h
    have hs := fun w b h => string_ok b s (by omega) w h
    unfold Post at hn hs
    have hnb := numOf_bad s
    have hns := numOf_spec s
    have hsb := strOf_bad s
    have hss := strOf_spec s
    have hnbd := groupOf_bd s.data.toList
    have hnbd' : -9223372036854775808 ≤ (numOf s).1 ∧ (numOf s).1 ≤ 9223372036854775807 := by
      unfold numOf; split
      · exact hnbd
      · simp
    have hea := fun w => app_any ⟨#[]⟩ (numOf s).1 w hnbd'.1 hnbd'.2 (by decide)
    have heb := fun w h => astr_any ⟨#[]⟩ (strOf s).1 w (by decide) h
    unfold AppPost at hea
    unfold AStrPost at heb
    have e0 : (⟨#[]⟩ : ByteArray).data.toList = [] := rfl
    have e0' : ∀ l : List UInt8, (⟨l.toArray⟩ : ByteArray) = bs l := fun _ => rfl
    simp only [List.nil_append, e0'] at hea heb
    clear hnbd e0 e0'
    generalize numOf s = N at *
    generalize strOf s = S at *
    obtain ⟨n, s1, e1⟩ := N
    obtain ⟨t, s2, e2⟩ := S
    simp only at *
    have Hn := hid hn
    have Hs := hid hs
    have Hss := hid hss
    have Hsb := hid hsb
    have Heb0 := hid heb
    clear hn hs hss hsb heb
    by_cases he1 : e1 = 0
    · subst he1
      obtain ⟨k, hk1, hk10, hks, rfl, henc⟩ := hns rfl
      have hsz1 : (s.extract k s.size).size = s.size - k := by simp
      have hla := fun w b h => left_any b (s.extract k s.size) 0 true (by rw [hsz1]; omega) w h
      rw [hsz1] at hla
      rw [henc] at hea
      have hq : (s.size : Int) - ((s.size - k : Nat) : Int) = (k : Int) := by omega
      have d1 : decide ((k : Int) < 1) = false := by simp; omega
      have d2 : decide ((10 : Int) < (k : Int)) = false := by simp; omega
      have d3 : (0 : Int) ≤ (k : Int) := by omega
      have d4 : (k : Int) ≤ (s.size : Int) := by omega
      have Hla := hid hla
      have Hea := hid hea
      clear hla hea hsz1 henc hns hnb
      by_cases he2 : e2 = 0
      · subst he2
        obtain ⟨j, hj1, hjs, rfl, htl, henc2⟩ := Hss.out rfl
        have hsz2 : (s.extract j s.size).size = s.size - j := by simp
        have hlb := fun w b h => left_any b (s.extract j s.size) 0 true (by rw [hsz2]; omega) w h
        rw [hsz2] at hlb
        have heb := fun w => Heb0.out w (by omega)
        rw [henc2] at heb
        have hq2 : (s.size : Int) - ((s.size - j : Nat) : Int) = (j : Int) := by omega
        have f1 : decide ((j : Int) < 1) = false := by simp; omega
        have f2 : decide ((s.size : Int) < (j : Int)) = false := by simp; omega
        have f2n : decide (s.size < j) = false := by simp; omega
        have f3 : (0 : Int) ≤ (j : Int) := by omega
        have f4 : (j : Int) ≤ (s.size : Int) := by omega
        have Hlb := hid hlb
        have Heb := hid heb
        clear hlb heb hsz2 henc2
        go_enter Try.func5, Try.ntmps5
        go_wp2_with fail
        refine (new_any _ _).mono ?_; rintro e w' ⟨rfl, hw1⟩
        have a1 : RD w' w.heap.size s 0 true := by rw [← hw1]; exact heap_alloc_new w _
        have B1 : Below w.heap.size w w' := by rw [← hw1]; exact (Below.refl _ _).alloc (Nat.le_refl _) _
        have z1 : w'.heap.size = w.heap.size + 1 := by rw [← hw1]; simp
        clear hw1
        have A1 := hid a1
        have Z1 := hid z1
        clear a1 z1
        go_wp2_with fail
        refine (new_any _ _).mono ?_; rintro e w2 ⟨rfl, hw2⟩
        have a2 : RD w2 w.heap.size s 0 true := by rw [← hw2]; exact A1.out.below ((Below.refl _ _).alloc (Nat.le_refl _) _) (by have := Z1.out; omega)
        have b2 : RD w2 w'.heap.size s 0 true := by rw [← hw2]; exact heap_alloc_new w' _
        have B2 : Below w.heap.size w w2 := by rw [← hw2]; exact B1.alloc B1.size _
        have ne : w.heap.size ≠ w'.heap.size := by have := Z1.out; omega
        have le : w.heap.size ≤ w'.heap.size := B1.size
        clear hw2 A1 Z1 B1
        generalize hba : w.heap.size = ba at *
        have Hba := hid hba
        clear hba
        generalize w'.heap.size = bb at *
        have A2 := hid a2
        have C2 := hid b2
        have Ne := hid ne
        clear a2 b2 ne
        go_wp2_with fail
        refine (Hn.out _ _ A2.out).mono ?_; rintro e w3 ⟨rfl, a3, o3⟩
        have b3 := C2.out.only o3 Ne.out.symm
        have B3 := B2.trans (o3.toBelow (Nat.le_refl _))
        have A3 := hid a3
        have C3 := hid b3
        clear a3 b3 o3 A2 C2 B2
        go_wp2_with fail
        refine (Hs.out _ _ C3.out).mono ?_; rintro e w4 ⟨rfl, b4, o4⟩
        have a4 := A3.out.only o4 Ne.out
        have B4 := B3.trans (o4.toBelow le)
        have A4 := hid a4
        have C4 := hid b4
        clear a4 b4 o4 A3 C3 B3
        go_wp2_with fail
        refine (err_any _ _ _ _ A4.out).mono ?_; rintro e w' ⟨rfl, rfl⟩
        go_wp2_with fail
        refine (Hla.out _ _ A4.out).mono ?_; rintro e w' ⟨rfl, rfl⟩
        go_wp2_with fail
        go_region_held3 (fun _ => True) (trivial) (first | (go_at_call 11; refine (Hea.out _).mono ?_; rintro e w5 ⟨rfl, hb5⟩))
        have B5 := B4.drew.trans (hb5.mono (Nat.le_of_lt A4.out.lt))
        have A5 := hid (RD.below (w := w4.drew) A4.out hb5 A4.out.lt)
        have C5 := hid (RD.below (w := w4.drew) C4.out hb5 C4.out.lt)
        go_wp2_with fail
        refine (err_any _ _ _ _ C5.out).mono ?_; rintro e w' ⟨rfl, rfl⟩
        go_wp2_with fail
        refine (Hlb.out _ _ C5.out).mono ?_; rintro e w' ⟨rfl, rfl⟩
        go_wp2_with fail
        go_region_held3 (fun _ => True) (trivial) (first | (go_at_call 13; refine (Heb.out _).mono ?_; rintro e w6 ⟨rfl, hb6⟩))
        have C6 := hid (RD.below (w := World.drew _) C5.out hb6 C5.out.lt)
        have B6 := B5.drew.trans (hb6.mono (Nat.le_trans le (Nat.le_of_lt C5.out.lt)))
        go_wp2_with fail
        refine (awake_any _).mono ?_; rintro e w7 ⟨rfl, hb7⟩
        have B7 := B6.trans (hb7.mono (Nat.le_trans le (Nat.le_of_lt C6.out.lt)))
        go_wp2_with fail
        go_ret
        exact ⟨rfl, by rw [Hba.out]; exact B7⟩
      · have hsb := Hsb.out he2
        simp only [Prod.mk.injEq] at hsb
        obtain ⟨rfl, hx2, _⟩ := hsb
        subst s2
        have hlb := fun w b h => left_any b s e2 true (by omega) w h
        have hne2 : (e2 == 0) = false := by simpa using he2
        have Hlb := hid hlb
        clear hlb he2
        go_enter Try.func5, Try.ntmps5
        go_wp2_with fail
        refine (new_any _ _).mono ?_; rintro e w' ⟨rfl, hw1⟩
        have a1 : RD w' w.heap.size s 0 true := by rw [← hw1]; exact heap_alloc_new w _
        have B1 : Below w.heap.size w w' := by rw [← hw1]; exact (Below.refl _ _).alloc (Nat.le_refl _) _
        have z1 : w'.heap.size = w.heap.size + 1 := by rw [← hw1]; simp
        clear hw1
        have A1 := hid a1
        have Z1 := hid z1
        clear a1 z1
        go_wp2_with fail
        refine (new_any _ _).mono ?_; rintro e w2 ⟨rfl, hw2⟩
        have a2 : RD w2 w.heap.size s 0 true := by rw [← hw2]; exact A1.out.below ((Below.refl _ _).alloc (Nat.le_refl _) _) (by have := Z1.out; omega)
        have b2 : RD w2 w'.heap.size s 0 true := by rw [← hw2]; exact heap_alloc_new w' _
        have B2 : Below w.heap.size w w2 := by rw [← hw2]; exact B1.alloc B1.size _
        have ne : w.heap.size ≠ w'.heap.size := by have := Z1.out; omega
        have le : w.heap.size ≤ w'.heap.size := B1.size
        clear hw2 A1 Z1 B1
        generalize hba : w.heap.size = ba at *
        have Hba := hid hba
        clear hba
        generalize w'.heap.size = bb at *
        have A2 := hid a2
        have C2 := hid b2
        have Ne := hid ne
        clear a2 b2 ne
        go_wp2_with fail
        refine (Hn.out _ _ A2.out).mono ?_; rintro e w3 ⟨rfl, a3, o3⟩
        have b3 := C2.out.only o3 Ne.out.symm
        have B3 := B2.trans (o3.toBelow (Nat.le_refl _))
        have A3 := hid a3
        have C3 := hid b3
        clear a3 b3 o3 A2 C2 B2
        go_wp2_with fail
        refine (Hs.out _ _ C3.out).mono ?_; rintro e w4 ⟨rfl, b4, o4⟩
        have a4 := A3.out.only o4 Ne.out
        have B4 := B3.trans (o4.toBelow le)
        have A4 := hid a4
        have C4 := hid b4
        clear a4 b4 o4 A3 C3 B3
        go_wp2_with fail
        refine (err_any _ _ _ _ A4.out).mono ?_; rintro e w' ⟨rfl, rfl⟩
        go_wp2_with fail
        refine (Hla.out _ _ A4.out).mono ?_; rintro e w' ⟨rfl, rfl⟩
        go_wp2_with fail
        go_region_held3 (fun _ => True) (trivial) (first | (go_at_call 11; refine (Hea.out _).mono ?_; rintro e w5 ⟨rfl, hb5⟩))
        have B5 := B4.drew.trans (hb5.mono (Nat.le_of_lt A4.out.lt))
        have A5 := hid (RD.below (w := w4.drew) A4.out hb5 A4.out.lt)
        have C5 := hid (RD.below (w := w4.drew) C4.out hb5 C4.out.lt)
        go_wp2_with fail
        refine (err_any _ _ _ _ C5.out).mono ?_; rintro e w' ⟨rfl, rfl⟩
        go_wp2_with fail
        refine (Hlb.out _ _ C5.out).mono ?_; rintro e w' ⟨rfl, rfl⟩
        go_wp2_with fail
        refine (awake_any _).mono ?_; rintro e w7 ⟨rfl, hb7⟩
        have B7 := B5.trans (hb7.mono (Nat.le_trans le (Nat.le_of_lt C5.out.lt)))
        go_wp2_with fail
        go_ret
        exact ⟨rfl, by rw [Hba.out]; exact B7⟩
    · have hnb := hnb he1
      simp only [Prod.mk.injEq] at hnb
      obtain ⟨rfl, hx1, _⟩ := hnb
      subst s1
      have hla := fun w b h => left_any b s e1 true (by omega) w h
      have hne1 : (e1 == 0) = false := by simpa using he1
      have Hla := hid hla
      clear hla hns he1
      by_cases he2 : e2 = 0
      · subst he2
        obtain ⟨j, hj1, hjs, rfl, htl, henc2⟩ := Hss.out rfl
        have hsz2 : (s.extract j s.size).size = s.size - j := by simp
        have hlb := fun w b h => left_any b (s.extract j s.size) 0 true (by rw [hsz2]; omega) w h
        rw [hsz2] at hlb
        have heb := fun w => Heb0.out w (by omega)
        rw [henc2] at heb
        have hq2 : (s.size : Int) - ((s.size - j : Nat) : Int) = (j : Int) := by omega
        have f1 : decide ((j : Int) < 1) = false := by simp; omega
        have f2 : decide ((s.size : Int) < (j : Int)) = false := by simp; omega
        have f2n : decide (s.size < j) = false := by simp; omega
        have f3 : (0 : Int) ≤ (j : Int) := by omega
        have f4 : (j : Int) ≤ (s.size : Int) := by omega
        have Hlb := hid hlb
        have Heb := hid heb
        clear hlb heb hsz2 henc2
        go_enter Try.func5, Try.ntmps5
        go_wp2_with fail
        refine (new_any _ _).mono ?_; rintro e w' ⟨rfl, hw1⟩
        have a1 : RD w' w.heap.size s 0 true := by rw [← hw1]; exact heap_alloc_new w _
        have B1 : Below w.heap.size w w' := by rw [← hw1]; exact (Below.refl _ _).alloc (Nat.le_refl _) _
        have z1 : w'.heap.size = w.heap.size + 1 := by rw [← hw1]; simp
        clear hw1
        have A1 := hid a1
        have Z1 := hid z1
        clear a1 z1
        go_wp2_with fail
        refine (new_any _ _).mono ?_; rintro e w2 ⟨rfl, hw2⟩
        have a2 : RD w2 w.heap.size s 0 true := by rw [← hw2]; exact A1.out.below ((Below.refl _ _).alloc (Nat.le_refl _) _) (by have := Z1.out; omega)
        have b2 : RD w2 w'.heap.size s 0 true := by rw [← hw2]; exact heap_alloc_new w' _
        have B2 : Below w.heap.size w w2 := by rw [← hw2]; exact B1.alloc B1.size _
        have ne : w.heap.size ≠ w'.heap.size := by have := Z1.out; omega
        have le : w.heap.size ≤ w'.heap.size := B1.size
        clear hw2 A1 Z1 B1
        generalize hba : w.heap.size = ba at *
        have Hba := hid hba
        clear hba
        generalize w'.heap.size = bb at *
        have A2 := hid a2
        have C2 := hid b2
        have Ne := hid ne
        clear a2 b2 ne
        go_wp2_with fail
        refine (Hn.out _ _ A2.out).mono ?_; rintro e w3 ⟨rfl, a3, o3⟩
        have b3 := C2.out.only o3 Ne.out.symm
        have B3 := B2.trans (o3.toBelow (Nat.le_refl _))
        have A3 := hid a3
        have C3 := hid b3
        clear a3 b3 o3 A2 C2 B2
        go_wp2_with fail
        refine (Hs.out _ _ C3.out).mono ?_; rintro e w4 ⟨rfl, b4, o4⟩
        have a4 := A3.out.only o4 Ne.out
        have B4 := B3.trans (o4.toBelow le)
        have A4 := hid a4
        have C4 := hid b4
        clear a4 b4 o4 A3 C3 B3
        go_wp2_with fail
        refine (err_any _ _ _ _ A4.out).mono ?_; rintro e w' ⟨rfl, rfl⟩
        go_wp2_with fail
        refine (Hla.out _ _ A4.out).mono ?_; rintro e w' ⟨rfl, rfl⟩
        have B5 := B4
        have C5 := C4
        go_wp2_with fail
        refine (err_any _ _ _ _ C5.out).mono ?_; rintro e w' ⟨rfl, rfl⟩
        go_wp2_with fail
        refine (Hlb.out _ _ C5.out).mono ?_; rintro e w' ⟨rfl, rfl⟩
        go_wp2_with fail
        go_region_held3 (fun _ => True) (trivial) (first | (go_at_call 13; refine (Heb.out _).mono ?_; rintro e w6 ⟨rfl, hb6⟩))
        have C6 := hid (RD.below (w := World.drew _) C5.out hb6 C5.out.lt)
        have B6 := B5.drew.trans (hb6.mono (Nat.le_trans le (Nat.le_of_lt C5.out.lt)))
        go_wp2_with fail
        refine (awake_any _).mono ?_; rintro e w7 ⟨rfl, hb7⟩
        have B7 := B6.trans (hb7.mono (Nat.le_trans le (Nat.le_of_lt C6.out.lt)))
        go_wp2_with fail
        go_ret
        exact ⟨rfl, by rw [Hba.out]; exact B7⟩
      · have hsb := Hsb.out he2
        simp only [Prod.mk.injEq] at hsb
        obtain ⟨rfl, hx2, _⟩ := hsb
        subst s2
        have hlb := fun w b h => left_any b s e2 true (by omega) w h
        have hne2 : (e2 == 0) = false := by simpa using he2
        have Hlb := hid hlb
        clear hlb he2
        go_enter Try.func5, Try.ntmps5
        go_wp2_with fail
        refine (new_any _ _).mono ?_; rintro e w' ⟨rfl, hw1⟩
        have a1 : RD w' w.heap.size s 0 true := by rw [← hw1]; exact heap_alloc_new w _
        have B1 : Below w.heap.size w w' := by rw [← hw1]; exact (Below.refl _ _).alloc (Nat.le_refl _) _
        have z1 : w'.heap.size = w.heap.size + 1 := by rw [← hw1]; simp
        clear hw1
        have A1 := hid a1
        have Z1 := hid z1
        clear a1 z1
        go_wp2_with fail
        refine (new_any _ _).mono ?_; rintro e w2 ⟨rfl, hw2⟩
        have a2 : RD w2 w.heap.size s 0 true := by rw [← hw2]; exact A1.out.below ((Below.refl _ _).alloc (Nat.le_refl _) _) (by have := Z1.out; omega)
        have b2 : RD w2 w'.heap.size s 0 true := by rw [← hw2]; exact heap_alloc_new w' _
        have B2 : Below w.heap.size w w2 := by rw [← hw2]; exact B1.alloc B1.size _
        have ne : w.heap.size ≠ w'.heap.size := by have := Z1.out; omega
        have le : w.heap.size ≤ w'.heap.size := B1.size
        clear hw2 A1 Z1 B1
        generalize hba : w.heap.size = ba at *
        have Hba := hid hba
        clear hba
        generalize w'.heap.size = bb at *
        have A2 := hid a2
        have C2 := hid b2
        have Ne := hid ne
        clear a2 b2 ne
        go_wp2_with fail
        refine (Hn.out _ _ A2.out).mono ?_; rintro e w3 ⟨rfl, a3, o3⟩
        have b3 := C2.out.only o3 Ne.out.symm
        have B3 := B2.trans (o3.toBelow (Nat.le_refl _))
        have A3 := hid a3
        have C3 := hid b3
        clear a3 b3 o3 A2 C2 B2
        go_wp2_with fail
        refine (Hs.out _ _ C3.out).mono ?_; rintro e w4 ⟨rfl, b4, o4⟩
        have a4 := A3.out.only o4 Ne.out
        have B4 := B3.trans (o4.toBelow le)
        have A4 := hid a4
        have C4 := hid b4
        clear a4 b4 o4 A3 C3 B3
        go_wp2_with fail
        refine (err_any _ _ _ _ A4.out).mono ?_; rintro e w' ⟨rfl, rfl⟩
        go_wp2_with fail
        refine (Hla.out _ _ A4.out).mono ?_; rintro e w' ⟨rfl, rfl⟩
        have B5 := B4
        have C5 := C4
        go_wp2_with fail
        refine (err_any _ _ _ _ C5.out).mono ?_; rintro e w' ⟨rfl, rfl⟩
        go_wp2_with fail
        refine (Hlb.out _ _ C5.out).mono ?_; rintro e w' ⟨rfl, rfl⟩
        go_wp2_with fail
        refine (awake_any _).mono ?_; rintro e w7 ⟨rfl, hb7⟩
        have B7 := B5.trans (hb7.mono (Nat.le_trans le (Nat.le_of_lt C5.out.lt)))
        go_wp2_with fail
        go_ret
        exact ⟨rfl, by rw [Hba.out]; exact B7⟩

theorem readable : ∀ t ∈ #[9].toList, Try.prog.readableRec t = true ∧ t < Try.prog.types.size := by
  intro t ht
  have r9 : Try.prog.readableRec 9 = true ∧ 9 < Try.prog.types.size := ⟨by kernel_rfl, of_decide_eq_true (by kernel_rfl)⟩
  have hm : t = 9 := by simpa using ht
  rcases hm with rfl <;> assumption

theorem walkD {H : Type} (enc : TypeId × Value → H) (W : World) (base : Nat) (args : Array Value) (ds : List (DataW H)) (p : List MemPlace)
    (hval : ∀ (j : Nat) t v, #[9][j]? = some t → args[j]? = some v → Value.okWide Try.prog W .any base t v)
    (hA : DataW.TrodAll enc Try.prog W 0 (fun _ => true) true #[9].toList args.toList ds p) :
    (Calls Try.prog 5 args W fun e w' => e = .returned (.bool true) ∧ Below W.heap.size W w') ∧
    ((Rows.wireUniqueSpec.fn H (ds ++ [])).results = [.lit (.bool true)] ∧ (Rows.wireUniqueSpec.fn H (ds ++ [])).args = ds ∧ (Rows.wireUniqueSpec.fn H (ds ++ [])).vars = []) := by
  obtain ⟨v0, vs0, d0, ds0, p0, q0, hargs, rfl, rfl, h0, r0⟩ := trodAll_cons hA
  obtain ⟨rfl, rfl, rfl⟩ := trodAll_nil r0
  obtain rfl : args = #[v0] := by cases args; simp_all
  obtain ⟨a0, rfl, rfl, rfl, w0⟩ := open_string Try.underlying9 (hval 0 9 v0 rfl rfl) h0
  exact ⟨walk a0 w0 W, rfl, rfl, rfl⟩

/-! ### The row -/
set_option maxRecDepth 100000 in
theorem lifted (os : Os) (started : os.Started) (H : Type) (enc : TypeId × Value → H) :
    ReturnsInHanded {} Try.checked os 5 .any (Rows.wireUniqueSpec.pre6 enc Try.prog Try.f5 Rows.wireUniqueRow.domain false) (Rows.wireUniqueSpec.post enc Try.prog Try.f5 false true false false) := by
  refine returnsInHanded_of_change (C := Try.checked) own started (by kernel_rfl) Try.func5
    (ChangeSpec.witness6 (enc := enc) (C := Try.checked) false ⟨#[], #[.string ByteArray.empty], []⟩ 8 (by kernel_rfl) (by kernel_rfl) (by kernel_rfl) (by kernel_rfl)) ?_
  intro W base args ds gs before hval0 hW _ _
  have hW' := hW
  obtain ⟨p, q, hA, hV, _, _, _⟩ := hW
  obtain ⟨rfl, rfl⟩ := trodVars_none hV
  rw [Try.params5] at hA hval0
  obtain ⟨hcall, hds⟩ := walkD enc W base args ds p hval0 hA
  exact hcall.mono fun e W' ⟨he, hb⟩ => ⟨_, he, law_post hW' rfl (by rw [Try.params5]; exact readable) rfl hds hb⟩

theorem over : Rows.wireUniqueRow.holds Try.pinned (OpenSpec.ofChange Rows.wireUniqueSpec) :=
  OpenClaim.holds_of_wide 5 Try.f5 rfl rfl rfl rfl rfl rfl rfl ⟨rfl, rfl, rfl, rfl, rfl⟩ rfl rfl rfl rfl rfl (by kernel_rfl) Try.func5 (by kernel_rfl)
    (of_decide_eq_true (by kernel_rfl)) (by unfold Func.isWrapper; first | (rw [if_pos (by decide +kernel)]; kernel_rfl) | (rw [if_neg (by decide +kernel)]; exact ⟨rfl, rfl⟩))
    (fun os started H enc _ => lifted os started H enc)

theorem proved : Rows.WireUniqueSaid :=
  over
#print axioms proved
end Go.Proofs.Ytdhfpgkncglgoaa.wireUnique
