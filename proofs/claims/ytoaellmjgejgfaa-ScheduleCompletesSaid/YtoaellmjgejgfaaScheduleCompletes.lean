/- The statement ScheduleCompletes holds of the given program for every input. -/
import Derived.Test.YtoaellmjgejgfaaComp
namespace Go.Proofs.Ytoaellmjgejgfaa.scheduleCompletes
open Go.ChangeShapes Go.WideShapes Go.ChangeAt Go.RowKit Go.BigFrame
open Go.ChangeMaps (open_string shut_string)
set_option linter.unusedVariables false

theorem few_nd {ns : List (List Int)} (h : fewB ns = true) : ∀ j, j < ns.length → (nd ns j).length ≤ 50000 := fun j hj => by
  have := (few_spec h).2 (nd ns j) (by rw [nd, List.getD_eq_getElem?_getD, List.getElem?_eq_getElem hj]; exact List.getElem_mem hj)
  omega

/-- What the loop keeps. -/
def Rel (w w1 : World) (b N : Nat) (i : Nat) (wr : World) : Prop := ∃ own s, Live w1.heap.size w1 own wr b s ∧ CompI s N i

set_option maxRecDepth 100000 in
set_option maxHeartbeats 4000000 in
theorem walk (v : Value) (ns : List (List Int)) (n : Int) (oc : Option Addr) (lc cc : Nat) (f : Nat → Int) (w : World) (hN : NView w v ns) (hl : ns.length ≤ 9223372036854775807) (hll : ∀ l ∈ ns, l.length ≤ 9223372036854775807) (wn : (Lit.int .i64 n).wf = true)
    (hlc : lc ≤ 9223372036854775807) (hB : Bytes w oc lc f) :
    Calls Try.prog 6 #[v, .int .i64 n, .slice oc lc cc] w (BOOL w.heap.size w) := by
  clear wn
  have hfew := few_any w v ns hN hl hll
  obtain ⟨oa, ca, rfl⟩ := hN.len
  have HN := hid hN
  have HBY := hid hB
  cases hf : fewB ns with
  | false =>
    rw [hf] at hfew
    have Hfew := hid hfew
    clear hfew hN hll hf hB
    go_enter Try.func6, Try.ntmps6
    go_wp2_with fail
    refine Hfew.out.mono ?_; rintro e w' ⟨rfl, rfl⟩
    go_wp2_with fail
    refine (awake_any _).mono ?_; rintro e w5 ⟨rfl, hb⟩
    go_wp2_with fail
    go_ret
    exact ⟨rfl, hb⟩
  | true =>
    rw [hf] at hfew
    have hfs := few_spec hf
    have Hfew := hid hfew
    have HF := hid hf
    have hlen := hfs.1
    clear hfew hN hll hf hfs hB
    by_cases hlc2 : 200 < lc
    · go_enter Try.func6, Try.ntmps6
      go_wp2_with fail
      refine Hfew.out.mono ?_; rintro e w' ⟨rfl, rfl⟩
      go_wp2_with fail
      refine (awake_any _).mono ?_; rintro e w5 ⟨rfl, hb⟩
      go_wp2_with fail
      go_ret
      exact ⟨rfl, hb⟩
    go_enter Try.func6, Try.ntmps6
    go_wp2_with fail
    refine Hfew.out.mono ?_; rintro e w' ⟨rfl, rfl⟩
    go_wp2_with fail
    refine (steps_any w _ ns HN.out (by omega)).mono ?_; rintro e w1 ⟨v1, rfl, hs1, hb1⟩
    have HS1 := hid hs1
    have HB1 := hid hb1
    clear hs1 hb1
    go_wp2_with fail
    refine (new_any w1 v1 ns HS1.out n (by omega) (few_nd HF.out)).mono ?_; rintro e w2 hp
    rcases hp with ⟨c, hc, hcode, rfl, hb2⟩ | ⟨b, own, order, hcode, rfl, hb2, hsch, hos, hof, hval, hl1, hl2, hlow, hbs⟩
    · have HB2 := hid (HB1.out.trans (hb2.mono HB1.out.size))
      have hd1 : decide (c = 0) = false := decide_eq_false hc
      have hd2 : (c == 0) = false := beq_eq_false_iff_ne.2 hc
      have hd3 : (c != 0) = true := by rw [bne, hd2]; rfl
      clear hb2 hcode
      go_wp2_with fail
      refine (awake_any _).mono ?_; rintro e w5 ⟨rfl, hb⟩
      go_wp2_with fail
      go_ret
      exact ⟨rfl, HB2.out.trans (hb.mono HB2.out.size)⟩
    · have R0 : Hid (Rel w w1 b ns.length 0 w2) := hid ⟨own, _, live_new (by omega) (few_nd HF.out) hb2 hsch hos hl1 hlow, comp_new (inv_new (by omega) (few_nd HF.out) hval hos hof hl1)⟩
      clear hcode hb2 hsch hos hof hval hlow hbs
      go_wp2_with fail
      go_loopw [9] (fun i wr => ∃ k : Nat, k ≤ 2 * ns.length ∧ i = .int .i64 k ∧ Hid (Rel w w1 b ns.length k wr)) (fun i _ => 2 * ns.length - (intOf i).toNat)
      case atStart => exact ⟨0, Nat.zero_le _, rfl, R0⟩
      case round =>
        obtain ⟨k, hk, rfl, R⟩ := hrel
        clear R0
        obtain ⟨own1, s, L, C⟩ := R.out
        have HBw : Hid (Below w.heap.size w wr) := hid (HB1.out.trans (L.below.mono HB1.out.size))
        by_cases hlt : k < 2 * ns.length
        · have hpos := C.some hlt
          have hsm := C.small
          have L0 := hid L
          have C0 := hid C
          clear L C R
          by_cases hkc : k < lc
          · obtain ⟨p0, p1, gc, oo, rfl, hpc0⟩ := HBY.out k hkc
            have hpc := Keeps.below HBw.out _ _ _ hpc0
            generalize f k = P at *
            have hk0 : (0 : Int) ≤ (k : Int) := by omega
            have hk1 : (k : Int) < (lc : Int) := by omega
            clear hpc0
            go_wp2_with fail
            refine L0.out.ready.mono ?_; rintro e w3 ⟨r, own3, rfl, L3, ho3, hc3, hr3⟩
            obtain ⟨or3, cr3, rfl⟩ := row_len hr3.1
            have L3 := hid L3
            have HR3 := hid hr3
            clear ho3 hc3 hr3 L0
            go_wp2_with fail
            refine L3.out.running.mono ?_; rintro e w4 ⟨r4, own4, rfl, L4, ho4, hc4, hr4⟩
            obtain ⟨or4, cr4, rfl⟩ := row_len hr4.1
            have HR4 := hid hr4
            have HR5 := hid (HR3.out.keep hc4 (fun k _ h e => h.1 e) ho4)
            have L4 := hid L4
            clear ho4 hc4 hr4 L3 HR3
            obtain ⟨hs1, hs2⟩ := hsm
            obtain ⟨m, hm1, hm2⟩ : ∃ m : Nat, P % (((readyL s).length : Int) + (s.rn.length : Int)) = m ∧ m < (readyL s).length + s.rn.length := by
              have h1 := Int.emod_nonneg P (show ((readyL s).length : Int) + (s.rn.length : Int) ≠ 0 by omega)
              have h2 := Int.emod_lt_of_pos P (show 0 < ((readyL s).length : Int) + (s.rn.length : Int) by omega)
              exact ⟨(P % (((readyL s).length : Int) + (s.rn.length : Int))).toNat, by omega, by omega⟩
            have hm0 : (0 : Int) ≤ (m : Int) := by omega
            by_cases hml : m < (readyL s).length
            · obtain ⟨g5, c5, hv5, hc5⟩ := row_at HR5.out.1 hml
              cases hv5
              have hy := getD_mem hml
              have hbg := begin_of_ready C0.out.inv hy
              have C5 := hid (C0.out.begin_ hy)
              have hmi : (m : Int) < ((readyL s).length : Int) := by omega
              generalize (readyL s).getD m 0 = y at *
              have hcall := L4.out.begin_ y
              rw [hbg.1] at hcall
              have HCall := hid hcall
              clear hcall hbg hy
              generalize (readyL s).length = la at *
              generalize s.rn.length = lb at *
              have hab : decide ((la : Int) + (lb : Int) = 0) = false := decide_eq_false (by omega)
              have hab2 : ((la : Int) + (lb : Int) == 0) = false := beq_eq_false_iff_ne.2 (by omega)
              go_wp2_with fail
              refine HCall.out.mono ?_; rintro e w6 ⟨r, own6, rfl, L6, ho6, hc6, rfl⟩
              have L6 := hid L6
              clear ho6 hc6
              go_wp2_with fail
              go_roundw
              case rel => exact ⟨k + 1, by omega, by go_num, hid ⟨own6, _, L6.out, C5.out⟩⟩
              case measure => simp [intOf]; omega
            · obtain ⟨j, hj⟩ : ∃ j, m = (readyL s).length + j := ⟨m - (readyL s).length, by omega⟩
              have hjl : j < s.rn.length := by omega
              obtain ⟨g5, c5, hv5, hc5⟩ := row_at HR4.out.1 hjl
              cases hv5
              have hy := getD_mem hjl
              have hbg := finish_of_running C0.out.inv hy
              have C5 := hid (C0.out.finish hy)
              have hje : (m : Int) - ((readyL s).length : Int) = (j : Int) := by omega
              have hjw : IntKind.i64.wrap (j : Int) = (j : Int) := by rw [IntKind.wrap_i64]; omega
              have hj0 : (0 : Int) ≤ (j : Int) := by omega
              have hj1 : (j : Int) < (s.rn.length : Int) := by omega
              generalize s.rn.getD j 0 = y at *
              have hcall := L4.out.finish y
              rw [show (finishS s y).1 = 0 by rw [hbg]] at hcall
              have HCall := hid hcall
              have HJ := hid hj
              clear hcall hbg hy hj
              generalize (readyL s).length = la at *
              generalize s.rn.length = lb at *
              have hab : decide ((la : Int) + (lb : Int) = 0) = false := decide_eq_false (by omega)
              have hab2 : ((la : Int) + (lb : Int) == 0) = false := beq_eq_false_iff_ne.2 (by omega)
              have hml2 : decide (m < la) = false := decide_eq_false hml
              go_wp2_with fail
              refine HCall.out.mono ?_; rintro e w6 ⟨r, own6, rfl, L6, ho6, hc6, rfl⟩
              have L6 := hid L6
              clear ho6 hc6
              go_wp2_with fail
              go_roundw
              case rel => exact ⟨k + 1, by omega, by go_num, hid ⟨own6, _, L6.out, C5.out⟩⟩
              case measure => simp [intOf]; omega
          · go_wp2_with fail
            refine L0.out.ready.mono ?_; rintro e w3 ⟨r, own3, rfl, L3, ho3, hc3, hr3⟩
            obtain ⟨or3, cr3, rfl⟩ := row_len hr3.1
            have L3 := hid L3
            have HR3 := hid hr3
            clear ho3 hc3 hr3 L0
            go_wp2_with fail
            refine L3.out.running.mono ?_; rintro e w4 ⟨r4, own4, rfl, L4, ho4, hc4, hr4⟩
            obtain ⟨or4, cr4, rfl⟩ := row_len hr4.1
            have HR4 := hid hr4
            have HR5 := hid (HR3.out.keep hc4 (fun k _ h e => h.1 e) ho4)
            have L4 := hid L4
            clear ho4 hc4 hr4 L3 HR3
            obtain ⟨hs1, hs2⟩ := hsm
            by_cases hml : 0 < (readyL s).length
            · obtain ⟨g5, c5, hv5, hc5⟩ := row_at HR5.out.1 hml
              cases hv5
              have hy := getD_mem hml
              have hbg := begin_of_ready C0.out.inv hy
              have C5 := hid (C0.out.begin_ hy)
              generalize (readyL s).getD 0 0 = y at *
              have hcall := L4.out.begin_ y
              rw [hbg.1] at hcall
              have HCall := hid hcall
              clear hcall hbg hy
              generalize (readyL s).length = la at *
              generalize s.rn.length = lb at *
              have hab : decide ((la : Int) + (lb : Int) = 0) = false := decide_eq_false (by omega)
              have hab2 : ((la : Int) + (lb : Int) == 0) = false := beq_eq_false_iff_ne.2 (by omega)
              go_wp2_with fail
              refine HCall.out.mono ?_; rintro e w6 ⟨r, own6, rfl, L6, ho6, hc6, rfl⟩
              have L6 := hid L6
              clear ho6 hc6
              go_wp2_with fail
              go_roundw
              case rel => exact ⟨k + 1, by omega, by go_num, hid ⟨own6, _, L6.out, C5.out⟩⟩
              case measure => simp [intOf]; omega
            · have hjl : 0 < s.rn.length := by omega
              have hla : (readyL s).length = 0 := by omega
              obtain ⟨g5, c5, hv5, hc5⟩ := row_at HR4.out.1 hjl
              cases hv5
              have hy := getD_mem hjl
              have hbg := finish_of_running C0.out.inv hy
              have C5 := hid (C0.out.finish hy)
              generalize s.rn.getD 0 0 = y at *
              have hcall := L4.out.finish y
              rw [show (finishS s y).1 = 0 by rw [hbg]] at hcall
              have HCall := hid hcall
              clear hcall hbg hy
              rw [hla]
              clear hla
              generalize s.rn.length = lb at *
              have hab : decide ((lb : Int) = 0) = false := decide_eq_false (by omega)
              have hab2 : ((lb : Int) == 0) = false := beq_eq_false_iff_ne.2 (by omega)
              clear hml
              go_wp2_with fail
              refine HCall.out.mono ?_; rintro e w6 ⟨r, own6, rfl, L6, ho6, hc6, rfl⟩
              have L6 := hid L6
              clear ho6 hc6
              go_wp2_with fail
              go_roundw
              case rel => exact ⟨k + 1, by omega, by go_num, hid ⟨own6, _, L6.out, C5.out⟩⟩
              case measure => simp [intOf]; omega
        · have hke : k = 2 * ns.length := by omega
          rw [hke] at C
          have hfin := C.fin
          obtain ⟨hf1, hf2, hf3, hf4⟩ := hfin
          have hcnt := L.count
          rw [hf2, hf3, hf4] at hcnt
          have HCnt := hid hcnt
          have HF1 := hid hf1
          have L0 := hid L
          clear hcnt hf1 hf2 hf3 hf4 C R L
          go_wp2_with fail
          refine HCnt.out.mono ?_; rintro e w3 ⟨r, own3, rfl, L3, ho3, hc3, rfl⟩
          have hdn := L3.done
          rw [HF1.out] at hdn
          have HDn := hid hdn
          clear ho3 hc3 L3 hdn
          go_wp2_with fail
          refine HDn.out.mono ?_; rintro e w4 ⟨r, own4, rfl, L4, ho4, hc4, rfl⟩
          have HB4 := hid (HB1.out.trans (L4.below.mono HB1.out.size))
          clear ho4 hc4 L4
          have hdt : decide ((0 : Nat) = 0) = true := rfl
          go_wp2_with fail
          refine (awake_any _).mono ?_; rintro e w5 ⟨rfl, hb⟩
          go_wp2_with fail
          go_ret
          exact ⟨rfl, HB4.out.trans (hb.mono HB4.out.size)⟩

theorem readable : ∀ t ∈ #[22, 3, 48].toList, Try.prog.readableRec t = true ∧ t < Try.prog.types.size := by
  intro t ht
  have r3 : Try.prog.readableRec 3 = true ∧ 3 < Try.prog.types.size := ⟨by kernel_rfl, of_decide_eq_true (by kernel_rfl)⟩
  have r22 : Try.prog.readableRec 22 = true ∧ 22 < Try.prog.types.size := ⟨by kernel_rfl, of_decide_eq_true (by kernel_rfl)⟩
  have r48 : Try.prog.readableRec 48 = true ∧ 48 < Try.prog.types.size := ⟨by kernel_rfl, of_decide_eq_true (by kernel_rfl)⟩
  have hm : t = 22 ∨ t = 3 ∨ t = 48 := by simpa using ht
  rcases hm with rfl | rfl | rfl <;> assumption

theorem walkD {H : Type} (enc : TypeId × Value → H) (W : World) (base : Nat) (args : Array Value) (ds : List (DataW H)) (p : List MemPlace)
    (hval : ∀ (j : Nat) t v, #[22, 3, 48][j]? = some t → args[j]? = some v → Value.okWide Try.prog W .any base t v)
    (hA : DataW.TrodAll enc Try.prog W 0 (fun _ => true) true #[22, 3, 48].toList args.toList ds p) :
    (Calls Try.prog 6 args W (BOOL W.heap.size W)) ∧
    ((Rows.scheduleCompletesSpec.fn H (ds ++ [])).results = [.lit (.bool true)] ∧ (Rows.scheduleCompletesSpec.fn H (ds ++ [])).args = ds ∧ (Rows.scheduleCompletesSpec.fn H (ds ++ [])).vars = []) := by
  obtain ⟨v0, vs0, d0, ds0, p0, q0, hargs, rfl, rfl, h0, r0⟩ := trodAll_cons hA
  obtain ⟨v1, vs1, d1, ds1, p1, q1, rfl, rfl, rfl, h1, r1⟩ := trodAll_cons r0
  obtain ⟨v2, vs2, d2, ds2, p2, q2, rfl, rfl, rfl, h2, r2⟩ := trodAll_cons r1
  obtain ⟨rfl, rfl, rfl⟩ := trodAll_nil r2
  obtain rfl : args = #[v0, v1, v2] := by cases args; simp_all
  obtain ⟨ns0, hN0, hl0, hll0⟩ := open_rows (hval 0 22 v0 rfl rfl) h0
  obtain ⟨a1, rfl, rfl, rfl, w1⟩ := open_int Try.underlying3 (hval 1 3 v1 rfl rfl) h1
  obtain ⟨oc, lc, cc, fc, rfl, hlc, hbc⟩ := open_bytes (hval 2 48 v2 rfl rfl) h2
  exact ⟨walk v0 ns0 a1 oc lc cc fc W hN0 hl0 hll0 w1 hlc hbc, rfl, rfl, rfl⟩

/-! ### The row -/
set_option maxRecDepth 100000 in
theorem lifted (os : Os) (started : os.Started) (H : Type) (enc : TypeId × Value → H) :
    ReturnsInHanded {} Try.checked os 6 .any (Rows.scheduleCompletesSpec.pre6 enc Try.prog Try.f6 Rows.scheduleCompletesRow.domain false) (Rows.scheduleCompletesSpec.post enc Try.prog Try.f6 false true false false) := by
  refine returnsInHanded_of_change (C := Try.checked) own started (by kernel_rfl) Try.func6
    (ChangeSpec.witness6 (enc := enc) (C := Try.checked) false ⟨#[], #[.slice none 0 0, .int .i64 0, .slice none 0 0], []⟩ 8 (by kernel_rfl) (by kernel_rfl) (by kernel_rfl) (by kernel_rfl)) ?_
  intro W base args ds gs before hval0 hW _ _
  have hW' := hW
  obtain ⟨p, q, hA, hV, _, _, _⟩ := hW
  obtain ⟨rfl, rfl⟩ := trodVars_none hV
  rw [Try.params6] at hA hval0
  obtain ⟨hcall, hds⟩ := walkD enc W base args ds p hval0 hA
  exact hcall.mono fun e W' ⟨he, hb⟩ => ⟨_, he, law_post hW' rfl (by rw [Try.params6]; exact readable) rfl hds hb⟩

theorem over : Rows.scheduleCompletesRow.holds Try.pinned (OpenSpec.ofChange Rows.scheduleCompletesSpec) :=
  OpenClaim.holds_of_wide 6 Try.f6 rfl rfl rfl rfl rfl rfl rfl ⟨rfl, rfl, rfl, rfl, rfl⟩ rfl rfl rfl rfl rfl (by kernel_rfl) Try.func6 (by kernel_rfl)
    (of_decide_eq_true (by kernel_rfl)) (by unfold Func.isWrapper; first | (rw [if_pos (by decide +kernel)]; kernel_rfl) | (rw [if_neg (by decide +kernel)]; exact ⟨rfl, rfl⟩))
    (fun os started H enc _ => lifted os started H enc)

theorem proved : Rows.ScheduleCompletesSaid :=
  over
#print axioms proved
end Go.Proofs.Ytoaellmjgejgfaa.scheduleCompletes
