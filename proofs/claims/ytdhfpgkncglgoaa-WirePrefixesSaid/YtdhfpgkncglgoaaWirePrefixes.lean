/- The statement WirePrefixes holds of the given program for every input. -/
import Derived.Test.YtdhfpgkncglgoaaPlain
import Derived.Test.YtdhfpgkncglgoaaFrame
namespace Go.Proofs.Ytdhfpgkncglgoaa.wirePrefixes
open Go.ChangeShapes Go.WideShapes Go.ChangeAt Go.RowKit Go.BigFrame
open Go.ChangeMaps (open_string shut_string)
set_option linter.unusedVariables false

theorem rd_new (s : ByteArray) (w : World) : RD (w.alloc (.cells #[.string s, .int .i64 0, .bool true] 56)) w.heap.size s 0 true := heap_alloc_new w _
/-- A new Reader of a prefix, a call that finds it truncated, and what the Reader says behind it. -/
theorem bel_new {w w' : World} {B : Nat} {s : ByteArray} (hB : B ≤ w.heap.size) (h : Only w.heap.size (w.alloc (.cells #[.string s, .int .i64 0, .bool true] 56)) w') : Below B w w' :=
  ((Below.refl B w).alloc hB _).trans (h.toBelow hB)
set_option maxRecDepth 100000 in
set_option maxHeartbeats 1000000 in
theorem walk (n : Int) (s : ByteArray) (cut : Int) (w0 : (Lit.int .i64 n).wf = true) (w1 : s.size ≤ maxLen) (w2 : (Lit.int .i64 cut).wf = true) (w : World) :
    Calls Try.prog 6 #[.int .i64 n, .string s, .int .i64 cut] w fun e w' => e = .returned (.bool true) ∧ Below w.heap.size w w' := by
  unfold maxLen at w1
  have hn : -9223372036854775808 ≤ n ∧ n ≤ 9223372036854775807 := by simpa [Lit.wf, IntKind.min, IntKind.max, IntKind.signed, IntKind.bits] using w0
  have hcut : -9223372036854775808 ≤ cut ∧ cut ≤ 9223372036854775807 := by simpa [Lit.wf, IntKind.min, IntKind.max, IntKind.signed, IntKind.bits] using w2
  clear w0 w2
  by_cases h1 : 300 < s.size
  · go_enter Try.func6, Try.ntmps6
    go_wp2_with (go_at_call 10; refine (awake_any _).mono ?_; rintro e w' ⟨rfl, hb⟩)
    go_ret
    exact ⟨rfl, hb⟩
  · have ha := fun w => app_any ⟨#[]⟩ n w hn.1 hn.2 (by decide)
    have hb := fun w => astr_any ⟨#[]⟩ s w (by decide) (by omega)
    unfold AppPost at ha
    unfold AStrPost at hb
    have e0 : (⟨#[]⟩ : ByteArray).data.toList = [] := rfl
    rw [e0] at ha hb
    simp only [List.nil_append] at ha hb
    have hnp := numOf_prefix n hn.1 hn.2
    have hsp := strOf_prefix s (by omega)
    have hla := enc_zig_len n hn.1 hn.2
    have hlb := enc_zig_len (s.size : Int) (by omega) (by omega)
    have hlB : (bs (enc (zig s.size) ++ s.data.toList)).size ≤ 1000 := by rw [bs_size]; simp; omega
    have hlA : (bs (enc (zig n))).size ≤ 1000 := by rw [bs_size]; omega
    have eB : (enc (zig s.size) ++ s.data.toList).length = (bs (enc (zig s.size) ++ s.data.toList)).size := rfl
    have eA : (enc (zig n)).length = (bs (enc (zig n))).size := rfl
    rw [eB] at hsp
    rw [eA] at hnp
    have eA' : (⟨(enc (zig n)).toArray⟩ : ByteArray) = bs (enc (zig n)) := rfl
    rw [eA'] at ha
    clear eA eB eA' e0 hla hlb
    generalize bs (enc (zig s.size) ++ s.data.toList) = B at *
    generalize bs (enc (zig n)) = A at *
    have Ha := hid ha
    have Hb := hid hb
    clear ha hb
    by_cases c1 : cut < 0
    · go_enter Try.func6, Try.ntmps6
      go_wp2_with fail
      refine (Ha.out _).mono ?_; rintro e w1 ⟨rfl, hb1⟩
      go_wp2_with fail
      refine (Hb.out _).mono ?_; rintro e w2 ⟨rfl, hb2⟩
      go_wp2_with fail
      refine (awake_any _).mono ?_; rintro e w3 ⟨rfl, hb3⟩
      go_wp2_with fail
      go_ret
      have s1 := hb1.size
      have s2 := hb2.size
      exact ⟨rfl, (hb1.trans (hb2.mono s1)).trans (hb3.mono (by omega))⟩
    · obtain ⟨c, rfl⟩ := Int.eq_ofNat_of_zero_le (show 0 ≤ cut by omega)
      clear c1 hcut
      by_cases c2 : B.size ≤ c
      · go_enter Try.func6, Try.ntmps6
        go_wp2_with fail
        refine (Ha.out _).mono ?_; rintro e w1 ⟨rfl, hb1⟩
        go_wp2_with fail
        refine (Hb.out _).mono ?_; rintro e w2 ⟨rfl, hb2⟩
        go_wp2_with fail
        refine (awake_any _).mono ?_; rintro e w3 ⟨rfl, hb3⟩
        go_wp2_with fail
        go_ret
        have s1 := hb1.size
        have s2 := hb2.size
        exact ⟨rfl, (hb1.trans (hb2.mono s1)).trans (hb3.mono (by omega))⟩
      · have hs2 := hsp c (by omega)
        have hex : (B.extract 0 c).size = c := by simp; omega
        have hx := fun w b h => string_ok b (B.extract 0 c) (by rw [hex]; omega) w h
        have hl := fun w b e h => left_any b (B.extract 0 c) e true (by rw [hex]; omega) w h
        unfold Post at hx
        rw [hs2] at hx
        rw [hex] at hl
        clear hs2 hex hsp
        have Hx := hid hx
        have Hl := hid hl
        clear hx hl
        by_cases c3 : A.size ≤ c
        · go_enter Try.func6, Try.ntmps6
          go_wp2_with fail
          refine (Ha.out _).mono ?_; rintro e w1 ⟨rfl, hb1⟩
          go_wp2_with fail
          refine (Hb.out _).mono ?_; rintro e w2 ⟨rfl, hb2⟩
          go_wp2_with fail
          refine (new_any _ _).mono ?_; rintro e w3 ⟨rfl, rfl⟩
          go_wp2_with fail
          refine (Hx.out _ _ (rd_new _ _)).mono ?_; rintro e w3 ⟨rfl, h3, ho3⟩
          have H3 := hid h3
          have hb3 := bel_new (Nat.le_refl _) ho3
          clear h3 ho3
          go_wp2_with fail
          refine (err_any _ _ _ _ H3.out).mono ?_; rintro e w' ⟨rfl, rfl⟩
          go_wp2_with fail
          refine (Hl.out _ _ _ H3.out).mono ?_; rintro e w' ⟨rfl, rfl⟩
          go_wp2_with fail
          refine (awake_any _).mono ?_; rintro e w4 ⟨rfl, hb4⟩
          go_wp2_with fail
          go_ret
          have s1 := hb1.size
          have s2 := hb2.size
          have s3 := hb3.size
          exact ⟨rfl, ((hb1.trans (hb2.mono s1)).trans (hb3.mono (by omega))).trans (hb4.mono (by omega))⟩
        · have hn2 := hnp c (by omega)
          have hex : (A.extract 0 c).size = c := by simp; omega
          have hy := fun w b h => number_ok b (A.extract 0 c) (by rw [hex]; omega) w h
          have hl := fun w b e h => left_any b (A.extract 0 c) e true (by rw [hex]; omega) w h
          unfold Post at hy
          rw [hn2] at hy
          rw [hex] at hl
          clear hn2 hex hnp
          have Hy := hid hy
          have Hm := hid hl
          clear hy hl
          go_enter Try.func6, Try.ntmps6
          go_wp2_with fail
          refine (Ha.out _).mono ?_; rintro e w1 ⟨rfl, hb1⟩
          go_wp2_with fail
          refine (Hb.out _).mono ?_; rintro e w2 ⟨rfl, hb2⟩
          go_wp2_with fail
          refine (new_any _ _).mono ?_; rintro e w3 ⟨rfl, rfl⟩
          go_wp2_with fail
          refine (Hx.out _ _ (rd_new _ _)).mono ?_; rintro e w3 ⟨rfl, h3, ho3⟩
          have H3 := hid h3
          have hb3 := bel_new (Nat.le_refl _) ho3
          clear h3 ho3
          go_wp2_with fail
          refine (err_any _ _ _ _ H3.out).mono ?_; rintro e w' ⟨rfl, rfl⟩
          go_wp2_with fail
          refine (Hl.out _ _ _ H3.out).mono ?_; rintro e w' ⟨rfl, rfl⟩
          go_wp2_with fail
          refine (new_any _ _).mono ?_; rintro e w4 ⟨rfl, rfl⟩
          go_wp2_with fail
          refine (Hy.out _ _ (rd_new _ _)).mono ?_; rintro e w4 ⟨rfl, h4, ho4⟩
          have H4 := hid h4
          have hb4 := bel_new (Nat.le_refl _) ho4
          clear h4 ho4
          go_wp2_with fail
          refine (err_any _ _ _ _ H4.out).mono ?_; rintro e w' ⟨rfl, rfl⟩
          go_wp2_with fail
          refine (Hm.out _ _ _ H4.out).mono ?_; rintro e w' ⟨rfl, rfl⟩
          go_wp2_with fail
          refine (awake_any _).mono ?_; rintro e w5 ⟨rfl, hb5⟩
          go_wp2_with fail
          go_ret
          have s1 := hb1.size
          have s2 := hb2.size
          have s3 := hb3.size
          have s4 := hb4.size
          exact ⟨rfl, (((hb1.trans (hb2.mono s1)).trans (hb3.mono (by omega))).trans (hb4.mono (by omega))).trans (hb5.mono (by omega))⟩

theorem readable : ∀ t ∈ #[3, 9, 3].toList, Try.prog.readableRec t = true ∧ t < Try.prog.types.size := by
  intro t ht
  have r3 : Try.prog.readableRec 3 = true ∧ 3 < Try.prog.types.size := ⟨by kernel_rfl, of_decide_eq_true (by kernel_rfl)⟩
  have r9 : Try.prog.readableRec 9 = true ∧ 9 < Try.prog.types.size := ⟨by kernel_rfl, of_decide_eq_true (by kernel_rfl)⟩
  have hm : t = 3 ∨ t = 9 ∨ t = 3 := by simpa using ht
  rcases hm with rfl | rfl | rfl <;> assumption

theorem walkD {H : Type} (enc : TypeId × Value → H) (W : World) (base : Nat) (args : Array Value) (ds : List (DataW H)) (p : List MemPlace)
    (hval : ∀ (j : Nat) t v, #[3, 9, 3][j]? = some t → args[j]? = some v → Value.okWide Try.prog W .any base t v)
    (hA : DataW.TrodAll enc Try.prog W 0 (fun _ => true) true #[3, 9, 3].toList args.toList ds p) :
    (Calls Try.prog 6 args W fun e w' => e = .returned (.bool true) ∧ Below W.heap.size W w') ∧
    ((Rows.wirePrefixesSpec.fn H (ds ++ [])).results = [.lit (.bool true)] ∧ (Rows.wirePrefixesSpec.fn H (ds ++ [])).args = ds ∧ (Rows.wirePrefixesSpec.fn H (ds ++ [])).vars = []) := by
  obtain ⟨v0, vs0, d0, ds0, p0, q0, hargs, rfl, rfl, h0, r0⟩ := trodAll_cons hA
  obtain ⟨v1, vs1, d1, ds1, p1, q1, rfl, rfl, rfl, h1, r1⟩ := trodAll_cons r0
  obtain ⟨v2, vs2, d2, ds2, p2, q2, rfl, rfl, rfl, h2, r2⟩ := trodAll_cons r1
  obtain ⟨rfl, rfl, rfl⟩ := trodAll_nil r2
  obtain rfl : args = #[v0, v1, v2] := by cases args; simp_all
  obtain ⟨a0, rfl, rfl, rfl, w0⟩ := open_int Try.underlying3 (hval 0 3 v0 rfl rfl) h0
  obtain ⟨a1, rfl, rfl, rfl, w1⟩ := open_string Try.underlying9 (hval 1 9 v1 rfl rfl) h1
  obtain ⟨a2, rfl, rfl, rfl, w2⟩ := open_int Try.underlying3 (hval 2 3 v2 rfl rfl) h2
  exact ⟨walk a0 a1 a2 w0 w1 w2 W, rfl, rfl, rfl⟩

/-! ### The row -/
set_option maxRecDepth 100000 in
theorem lifted (os : Os) (started : os.Started) (H : Type) (enc : TypeId × Value → H) :
    ReturnsInHanded {} Try.checked os 6 .any (Rows.wirePrefixesSpec.pre6 enc Try.prog Try.f6 Rows.wirePrefixesRow.domain false) (Rows.wirePrefixesSpec.post enc Try.prog Try.f6 false true false false) := by
  refine returnsInHanded_of_change (C := Try.checked) own started (by kernel_rfl) Try.func6
    (ChangeSpec.witness6 (enc := enc) (C := Try.checked) false ⟨#[], #[.int .i64 0, .string ByteArray.empty, .int .i64 0], []⟩ 8 (by kernel_rfl) (by kernel_rfl) (by kernel_rfl) (by kernel_rfl)) ?_
  intro W base args ds gs before hval0 hW _ _
  have hW' := hW
  obtain ⟨p, q, hA, hV, _, _, _⟩ := hW
  obtain ⟨rfl, rfl⟩ := trodVars_none hV
  rw [Try.params6] at hA hval0
  obtain ⟨hcall, hds⟩ := walkD enc W base args ds p hval0 hA
  exact hcall.mono fun e W' ⟨he, hb⟩ => ⟨_, he, law_post hW' rfl (by rw [Try.params6]; exact readable) rfl hds hb⟩

theorem over : Rows.wirePrefixesRow.holds Try.pinned (OpenSpec.ofChange Rows.wirePrefixesSpec) :=
  OpenClaim.holds_of_wide 6 Try.f6 rfl rfl rfl rfl rfl rfl rfl ⟨rfl, rfl, rfl, rfl, rfl⟩ rfl rfl rfl rfl rfl (by kernel_rfl) Try.func6 (by kernel_rfl)
    (of_decide_eq_true (by kernel_rfl)) (by unfold Func.isWrapper; first | (rw [if_pos (by decide +kernel)]; kernel_rfl) | (rw [if_neg (by decide +kernel)]; exact ⟨rfl, rfl⟩))
    (fun os started H enc _ => lifted os started H enc)

theorem proved : Rows.WirePrefixesSaid :=
  over
#print axioms proved
end Go.Proofs.Ytdhfpgkncglgoaa.wirePrefixes
