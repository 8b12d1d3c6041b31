/- The statement ScheduleFails holds of the given program for every input. -/
import Derived.Test.YtoaellmjgejgfaaFails
namespace Go.Proofs.Ytoaellmjgejgfaa.scheduleFails
open Go.ChangeShapes Go.WideShapes Go.ChangeAt Go.RowKit Go.BigFrame
open Go.ChangeMaps (open_string shut_string)
set_option linter.unusedVariables false

theorem few_nd {ns : List (List Int)} (h : fewB ns = true) : ∀ j, j < ns.length → (nd ns j).length ≤ 50000 := fun j hj => by
  have := (few_spec h).2 (nd ns j) (by rw [nd, List.getD_eq_getElem?_getD, List.getElem?_eq_getElem hj]; exact List.getElem_mem hj)
  omega

/-- What the loop keeps. -/
structure Rel (w1 : World) (b : Nat) (ns : List (List Int)) (n : Int) (on : List Int) (von : Value) (i : Nat) (own : Nat → Nat) (s : St) (wr : World) : Prop where
  live : Live w1.heap.size w1 own wr b s
  fi : FI s ns n on i
  row : RowT own 0 wr von on
theorem Rel.step {w1 : World} {b : Nat} {ns : List (List Int)} {n : Int} {on : List Int} {von : Value} {i j : Nat} {own own' : Nat → Nat} {s s' : St} {w w' : World} (h : Rel w1 b ns n on von i own s w) (hl : Live w1.heap.size w1 own' w' b s') (ho : SameOwn w own own') (hc : Chg (fun k => own k ≠ 0 ∧ own k ≤ 7) w w') (hf : FI s' ns n on j) : Rel w1 b ns n on von j own' s' w' :=
  ⟨hl, hf, h.row.keep hc (fun k _ h e => h.1 e) ho⟩

set_option maxRecDepth 100000 in
set_option maxHeartbeats 8000000 in
theorem walk (v : Value) (ns : List (List Int)) (n : Int) (w : World) (hN : NView w v ns) (hl : ns.length ≤ 9223372036854775807) (hll : ∀ l ∈ ns, l.length ≤ 9223372036854775807) (wn : (Lit.int .i64 n).wf = true) :
    Calls Try.prog 7 #[v, .int .i64 n] w (BOOL w.heap.size w) := by
  clear wn
  have hfew := few_any w v ns hN hl hll
  obtain ⟨oa, ca, rfl⟩ := hN.len
  have HN := hid hN
  cases hf : fewB ns with
  | false =>
    rw [hf] at hfew
    have Hfew := hid hfew
    clear hfew hN hll hf
    go_enter Try.func7, Try.ntmps7
    go_wp2_with fail
    refine Hfew.out.mono ?_; rintro e w' ⟨rfl, rfl⟩
    go_wp2_with fail
    refine (awake_any _).mono ?_; rintro e w5 ⟨rfl, hb⟩
    go_wp2_with fail
    go_ret
    exact ⟨rfl, hb⟩
  | true =>
    rw [hf] at hfew
    have hfs := few_spec hf
    have Hfew := hid hfew
    have HF := hid hf
    have hlen := hfs.1
    clear hfew hN hll hf hfs
    go_enter Try.func7, Try.ntmps7
    go_wp2_with fail
    refine Hfew.out.mono ?_; rintro e w' ⟨rfl, rfl⟩
    go_wp2_with fail
    refine (steps_any w _ ns HN.out (by omega)).mono ?_; rintro e w1 ⟨v1, rfl, hs1, hb1⟩
    have HS1 := hid hs1
    have HB1 := hid hb1
    clear hs1 hb1
    go_wp2_with fail
    refine (new_any w1 v1 ns HS1.out 64 (by omega) (few_nd HF.out)).mono ?_; rintro e w2 hp
    rcases hp with ⟨c, hc, hcode, rfl, hb2⟩ | ⟨b, own, order, hcode, rfl, hb2, hsch, hos, hof, hval, hl1, hl2, hlow, hbs⟩
    · have HB2 := hid (HB1.out.trans (hb2.mono HB1.out.size))
      have hd1 : decide (c = 0) = false := decide_eq_false hc
      have hd2 : (c == 0) = false := beq_eq_false_iff_ne.2 hc
      have hd3 : (c != 0) = true := by rw [bne, hd2]; rfl
      clear hb2 hcode
      go_wp2_with fail
      refine (awake_any _).mono ?_; rintro e w5 ⟨rfl, hb⟩
      go_wp2_with fail
      go_ret
      exact ⟨rfl, HB2.out.trans (hb.mono HB2.out.size)⟩
    · have hinv := inv_new (by omega) (few_nd HF.out) hval hos hof hl1
      have hlive : Live w1.heap.size w1 own w2 b (stNew ns order 64) := live_new (by omega) (few_nd HF.out) hb2 hsch hos hl1 hlow
      have L0 := hid hlive
      have HInv := hid hinv
      have HVal := hid hval
      have HB2 := hid (HB1.out.trans (hb2.mono HB1.out.size))
      clear hcode hb2 hsch hos hof hval hlow hbs hinv hlive hl1 hl2
      by_cases hn0 : n < 0
      · go_wp2_with fail
        refine (awake_any _).mono ?_; rintro e w5 ⟨rfl, hb⟩
        go_wp2_with fail
        go_ret
        exact ⟨rfl, HB2.out.trans (hb.mono HB2.out.size)⟩
      by_cases hn1 : (ns.length : Int) ≤ n
      · go_wp2_with fail
        refine (awake_any _).mono ?_; rintro e w5 ⟨rfl, hb⟩
        go_wp2_with fail
        go_ret
        exact ⟨rfl, HB2.out.trans (hb.mono HB2.out.size)⟩
      go_wp2_with fail
      refine (deps_any w2 _ ns n (HN.out.keep (Keeps.below HB2.out)) HVal.out (by omega)).mono ?_; rintro e w3 ⟨von, on, rfl, hr, hso, hmo, hb3, hg3⟩
      obtain ⟨oo, co, rfl⟩ := row_len hr
      have HD : Hid (IsDeps ns n on) := hid ⟨hso, hmo⟩
      have hlon : on.length ≤ ns.length := sorted_len on 0 ns.length hso fun y hy => by have := (hmo y).1 hy; omega
      have R0 : Hid (Rel w1 b ns n on (.slice oo on.length co) 0 (own2 own w2 0) (stNew ns order 64) w3) :=
        hid ⟨L0.out.grow hb3 0, fi_new HInv.out (by omega) (by omega), ⟨hr, fun g hg => own2_new (hg3 g hg)⟩⟩
      clear hr hso hmo hb3 hg3 L0 HInv
      have hn0' : (0 : Int) ≤ n := by omega
      go_wp2_with fail
      go_loopw [8] (fun i wr => ∃ (k : Nat) (own : Nat → Nat) (s : St), k ≤ 2 * ns.length ∧ i = .int .i64 k ∧ Hid (Rel w1 b ns n on (.slice oo on.length co) k own s wr)) (fun i _ => 2 * ns.length - (intOf i).toNat)
      case atStart => exact ⟨0, _, _, Nat.zero_le _, rfl, R0⟩
      case round =>
        obtain ⟨k, own1, s, hk, rfl, R⟩ := hrel
        clear R0
        by_cases hlt : k < 2 * ns.length
        · have hsm := R.out.fi.small
          obtain ⟨hs1, hs2⟩ := hsm
          go_wp2_with fail
          refine R.out.live.ready.mono ?_; rintro e w4 ⟨r, own4, rfl, L4, ho4, hc4, hr4⟩
          obtain ⟨or4, cr4, rfl⟩ := row_len hr4.1
          have R4 := hid (R.out.step L4 ho4 hc4 R.out.fi)
          have HR4 := hid hr4
          clear L4 ho4 hc4 hr4 R
          go_wp2_with fail
          refine R4.out.live.running.mono ?_; rintro e w5 ⟨r, own5, rfl, L5, ho5, hc5, hr5⟩
          obtain ⟨or5, cr5, rfl⟩ := row_len hr5.1
          have R5 := hid (R4.out.step L5 ho5 hc5 R4.out.fi)
          have HR5 := hid hr5
          have HR6 := hid (HR4.out.keep hc5 (fun k _ h e => h.1 e) ho5)
          clear L5 ho5 hc5 hr5 R4 HR4
          by_cases hrd : 0 < (readyL s).length
          · obtain ⟨g6, c6, hv6, hc6⟩ := row_at HR6.out.1 hrd
            cases hv6
            have hy := getD_mem hrd
            have hbg := begin_of_ready R5.out.fi.inv hy
            have F6 := hid (R5.out.fi.begin_ hy)
            generalize (readyL s).getD 0 0 = y at *
            have hcall := R5.out.live.begin_ y
            rw [hbg.1] at hcall
            have HCall := hid hcall
            clear hcall hbg hy
            generalize (readyL s).length = la at *
            go_wp2_with fail
            refine HCall.out.mono ?_; rintro e w7 ⟨r, own7, rfl, L7, ho7, hc7, rfl⟩
            have R7 := hid (R5.out.step L7 ho7 hc7 F6.out)
            clear L7 ho7 hc7 R5
            go_wp2_with fail
            go_roundw
            case rel => exact ⟨k + 1, own7, _, by omega, by go_num, R7⟩
            case measure => simp [intOf]; omega
          · have hra : readyL s = [] := List.eq_nil_of_length_eq_zero (by omega)
            have hla : (readyL s).length = 0 := by omega
            have HRA := hid hra
            rw [hla]
            clear hra hla
            by_cases hrn : 0 < s.rn.length
            · obtain ⟨g6, c6, hv6, hc6⟩ := row_at HR5.out.1 hrn
              cases hv6
              have hy := getD_mem hrn
              by_cases hyn : s.rn.getD 0 0 = n
              · rw [hyn] at hy hc6
                obtain ⟨f1, f2, f3⟩ := R5.out.fi.fail HD.out hy
                have hcall := R5.out.live.fail n
                rw [f1, f2] at hcall
                have HCall := hid hcall
                have F3 := hid f3
                clear hcall f1 f2 f3 hy hyn
                generalize s.rn.length = lb at *
                go_wp2_with fail
                refine HCall.out.mono ?_; rintro e w7 ⟨r, own7, rfl, L7, ho7, hc7, vf, rfl, hrf⟩
                obtain ⟨of, cf, rfl⟩ := row_len hrf.1
                have R7 := hid (R5.out.step L7 ho7 hc7 F3.out)
                have HRF := hid hrf
                clear L7 ho7 hc7 R5 hrf
                have hdd : decide (on = on) = true := decide_eq_true rfl
                go_wp2_with fail
                refine (same_any _ _ _ on on HRF.out.1.view R7.out.row.1.view (by omega) (by omega)).mono ?_; rintro e w8 ⟨rfl, q8, rfl⟩
                have R8 := hid (R7.out.step (R7.out.live.drewN q8) (SameOwn.refl _ _) (Chg.drewN _ _ _) R7.out.fi)
                clear R7 HRF
                go_wp2_with fail
                go_roundw
                case rel => exact ⟨k + 1, own7, _, by omega, by go_num, R8⟩
                case measure => simp [intOf]; omega
              · have hbg := finish_of_running R5.out.fi.inv hy
                have F6 := hid (R5.out.fi.finish hy hyn)
                generalize s.rn.getD 0 0 = y at *
                have hcall := R5.out.live.finish y
                rw [show (finishS s y).1 = 0 by rw [hbg]] at hcall
                have HCall := hid hcall
                have hd1 : decide (y = n) = false := decide_eq_false hyn
                have hd2 : (y == n) = false := beq_eq_false_iff_ne.2 hyn
                clear hcall hbg hy hyn
                generalize s.rn.length = lb at *
                go_wp2_with fail
                refine HCall.out.mono ?_; rintro e w7 ⟨r, own7, rfl, L7, ho7, hc7, rfl⟩
                have R7 := hid (R5.out.step L7 ho7 hc7 F6.out)
                clear L7 ho7 hc7 R5
                go_wp2_with fail
                go_roundw
                case rel => exact ⟨k + 1, own7, _, by omega, by go_num, R7⟩
                case measure => simp [intOf]; omega
            · have hrb : s.rn = [] := List.eq_nil_of_length_eq_zero (by omega)
              have hlb : s.rn.length = 0 := by omega
              have F6 := hid (R5.out.fi.idle hlt HRA.out hrb)
              have R7 := hid (R5.out.step R5.out.live (SameOwn.refl _ _) (Chg.refl _ _) F6.out)
              rw [hlb]
              clear hrb hlb R5 hrn hrd
              go_wp2_with fail
              go_roundw
              case rel => exact ⟨k + 1, own5, _, by omega, by go_num, R7⟩
              case measure => simp [intOf]; omega
        · have hke : k = 2 * ns.length := by omega
          have hfi := R.out.fi
          rw [hke] at hfi
          obtain ⟨hf1, hf2, hf3, hf4⟩ := hfi.fin
          have hcnt := R.out.live.count
          rw [hf3, hf4] at hcnt
          have HCnt := hid hcnt
          have HF1 := hid hf1
          have hf5 : s.dn.length ≤ 40 := by omega
          have hf6 : (s.dn.length : Int) = (ns.length : Int) - 1 - (on.length : Int) := by omega
          have hd1 : decide ((s.dn.length : Int) = (ns.length : Int) - 1 - (on.length : Int)) = true := decide_eq_true hf6
          have hd2 : ((s.dn.length : Int) == (ns.length : Int) - 1 - (on.length : Int)) = true := beq_iff_eq.2 hf6
          have hpos : 1 ≤ ns.length := by omega
          have HF6 := hid hf6
          clear hcnt hf1 hf3 hf4 hfi hf6
          go_wp2_with fail
          refine HCnt.out.mono ?_; rintro e w4 ⟨r, own4, rfl, L4, ho4, hc4, rfl⟩
          have hdn := L4.done
          rw [HF1.out] at hdn
          have HDn := hid hdn
          clear ho4 hc4 L4 hdn hf2
          go_wp2_with fail
          refine HDn.out.mono ?_; rintro e w5 ⟨r, own5, rfl, L5, ho5, hc5, rfl⟩
          have HB5 := hid (HB1.out.trans (L5.below.mono HB1.out.size))
          clear ho5 hc5 L5
          have hdt : decide ((0 : Nat) = 0) = true := rfl
          go_wp2_with fail
          refine (awake_any _).mono ?_; rintro e w6 ⟨rfl, hb⟩
          go_wp2_with fail
          go_ret
          exact ⟨rfl, HB5.out.trans (hb.mono HB5.out.size)⟩

theorem readable : ∀ t ∈ #[22, 3].toList, Try.prog.readableRec t = true ∧ t < Try.prog.types.size := by
  intro t ht
  have r3 : Try.prog.readableRec 3 = true ∧ 3 < Try.prog.types.size := ⟨by kernel_rfl, of_decide_eq_true (by kernel_rfl)⟩
  have r22 : Try.prog.readableRec 22 = true ∧ 22 < Try.prog.types.size := ⟨by kernel_rfl, of_decide_eq_true (by kernel_rfl)⟩
  have hm : t = 22 ∨ t = 3 := by simpa using ht
  rcases hm with rfl | rfl <;> assumption

theorem walkD {H : Type} (enc : TypeId × Value → H) (W : World) (base : Nat) (args : Array Value) (ds : List (DataW H)) (p : List MemPlace)
    (hval : ∀ (j : Nat) t v, #[22, 3][j]? = some t → args[j]? = some v → Value.okWide Try.prog W .any base t v)
    (hA : DataW.TrodAll enc Try.prog W 0 (fun _ => true) true #[22, 3].toList args.toList ds p) :
    (Calls Try.prog 7 args W (BOOL W.heap.size W)) ∧
    ((Rows.scheduleFailsSpec.fn H (ds ++ [])).results = [.lit (.bool true)] ∧ (Rows.scheduleFailsSpec.fn H (ds ++ [])).args = ds ∧ (Rows.scheduleFailsSpec.fn H (ds ++ [])).vars = []) := by
  obtain ⟨v0, vs0, d0, ds0, p0, q0, hargs, rfl, rfl, h0, r0⟩ := trodAll_cons hA
  obtain ⟨v1, vs1, d1, ds1, p1, q1, rfl, rfl, rfl, h1, r1⟩ := trodAll_cons r0
  obtain ⟨rfl, rfl, rfl⟩ := trodAll_nil r1
  obtain rfl : args = #[v0, v1] := by cases args; simp_all
  obtain ⟨ns0, hN0, hl0, hll0⟩ := open_rows (hval 0 22 v0 rfl rfl) h0
  obtain ⟨a1, rfl, rfl, rfl, w1⟩ := open_int Try.underlying3 (hval 1 3 v1 rfl rfl) h1
  exact ⟨walk v0 ns0 a1 W hN0 hl0 hll0 w1, rfl, rfl, rfl⟩

/-! ### The row -/
set_option maxRecDepth 100000 in
theorem lifted (os : Os) (started : os.Started) (H : Type) (enc : TypeId × Value → H) :
    ReturnsInHanded {} Try.checked os 7 .any (Rows.scheduleFailsSpec.pre6 enc Try.prog Try.f7 Rows.scheduleFailsRow.domain false) (Rows.scheduleFailsSpec.post enc Try.prog Try.f7 false true false false) := by
  refine returnsInHanded_of_change (C := Try.checked) own started (by kernel_rfl) Try.func7
    (ChangeSpec.witness6 (enc := enc) (C := Try.checked) false ⟨#[], #[.slice none 0 0, .int .i64 0], []⟩ 8 (by kernel_rfl) (by kernel_rfl) (by kernel_rfl) (by kernel_rfl)) ?_
  intro W base args ds gs before hval0 hW _ _
  have hW' := hW
  obtain ⟨p, q, hA, hV, _, _, _⟩ := hW
  obtain ⟨rfl, rfl⟩ := trodVars_none hV
  rw [Try.params7] at hA hval0
  obtain ⟨hcall, hds⟩ := walkD enc W base args ds p hval0 hA
  exact hcall.mono fun e W' ⟨he, hb⟩ => ⟨_, he, law_post hW' rfl (by rw [Try.params7]; exact readable) rfl hds hb⟩

theorem over : Rows.scheduleFailsRow.holds Try.pinned (OpenSpec.ofChange Rows.scheduleFailsSpec) :=
  OpenClaim.holds_of_wide 7 Try.f7 rfl rfl rfl rfl rfl rfl rfl ⟨rfl, rfl, rfl, rfl, rfl⟩ rfl rfl rfl rfl rfl (by kernel_rfl) Try.func7 (by kernel_rfl)
    (of_decide_eq_true (by kernel_rfl)) (by unfold Func.isWrapper; first | (rw [if_pos (by decide +kernel)]; kernel_rfl) | (rw [if_neg (by decide +kernel)]; exact ⟨rfl, rfl⟩))
    (fun os started H enc _ => lifted os started H enc)

theorem proved : Rows.ScheduleFailsSaid :=
  over
#print axioms proved
end Go.Proofs.Ytoaellmjgejgfaa.scheduleFails
