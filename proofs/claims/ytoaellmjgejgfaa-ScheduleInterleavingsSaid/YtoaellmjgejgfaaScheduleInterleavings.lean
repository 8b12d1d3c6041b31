/- The statement ScheduleInterleavings holds of the given program for every input. -/
import Derived.Test.YtoaellmjgejgfaaInter
namespace Go.Proofs.Ytoaellmjgejgfaa.scheduleInterleavings
open Go.ChangeShapes Go.WideShapes Go.ChangeAt Go.RowKit Go.BigFrame
open Go.ChangeMaps (open_string shut_string)
set_option linter.unusedVariables false

theorem few_nd {ns : List (List Int)} (h : fewB ns = true) : ∀ j, j < ns.length → (nd ns j).length ≤ 50000 := fun j hj => by
  have := (few_spec h).2 (nd ns j) (by rw [nd, List.getD_eq_getElem?_getD, List.getElem?_eq_getElem hj]; exact List.getElem_mem hj)
  omega

set_option maxRecDepth 100000 in
set_option maxHeartbeats 20000000 in
theorem walk (v : Value) (ns : List (List Int)) (n : Int) (oc : Option Addr) (lc cc : Nat) (kd nm : Nat → Int) (w : World) (hN : NView w v ns) (hl : ns.length ≤ 9223372036854775807) (hll : ∀ l ∈ ns, l.length ≤ 9223372036854775807) (wn : (Lit.int .i64 n).wf = true)
    (hlc : lc ≤ 9223372036854775807) (hB : Acts w oc lc kd nm) :
    Calls Try.prog 5 #[v, .int .i64 n, .slice oc lc cc] w (BOOL w.heap.size w) := by
  clear wn
  have hfew := few_any w v ns hN hl hll
  obtain ⟨oa, ca, rfl⟩ := hN.len
  have HN := hid hN
  have HBY := hid hB
  cases hf : fewB ns with
  | false =>
    rw [hf] at hfew
    have Hfew := hid hfew
    clear hfew hN hll hf hB
    go_enter Try.func5, Try.ntmps5
    go_wp2_with fail
    refine Hfew.out.mono ?_; rintro e w' ⟨rfl, rfl⟩
    go_wp2_with fail
    refine (awake_any _).mono ?_; rintro e w5 ⟨rfl, hb⟩
    go_wp2_with fail
    go_ret
    exact ⟨rfl, hb⟩
  | true =>
    rw [hf] at hfew
    have hfs := few_spec hf
    have Hfew := hid hfew
    have HF := hid hf
    have hlen := hfs.1
    clear hfew hN hll hf hfs hB
    by_cases hlc2 : 120 < lc
    · go_enter Try.func5, Try.ntmps5
      go_wp2_with fail
      refine Hfew.out.mono ?_; rintro e w' ⟨rfl, rfl⟩
      go_wp2_with fail
      refine (awake_any _).mono ?_; rintro e w5 ⟨rfl, hb⟩
      go_wp2_with fail
      go_ret
      exact ⟨rfl, hb⟩
    go_enter Try.func5, Try.ntmps5
    go_wp2_with fail
    refine Hfew.out.mono ?_; rintro e w' ⟨rfl, rfl⟩
    go_wp2_with fail
    refine (steps_any w _ ns HN.out (by omega)).mono ?_; rintro e w1 ⟨v1, rfl, hs1, hb1⟩
    have HS1 := hid hs1
    have HB1 := hid hb1
    clear hs1 hb1
    go_wp2_with fail
    refine (new_any w1 v1 ns HS1.out n (by omega) (few_nd HF.out)).mono ?_; rintro e w2 hp
    rcases hp with ⟨c, hc, hcode, rfl, hb2⟩ | ⟨b, own, order, hcode, rfl, hb2, hsch, hos, hof, hval, hl1, hl2, hlow, hbs⟩
    · have HB2 := hid (HB1.out.trans (hb2.mono HB1.out.size))
      have hd1 : decide (c = 0) = false := decide_eq_false hc
      have hd2 : (c == 0) = false := beq_eq_false_iff_ne.2 hc
      have hd3 : (c != 0) = true := by rw [bne, hd2]; rfl
      clear hb2 hcode
      go_wp2_with fail
      refine (awake_any _).mono ?_; rintro e w5 ⟨rfl, hb⟩
      go_wp2_with fail
      go_ret
      exact ⟨rfl, HB2.out.trans (hb.mono HB2.out.size)⟩
    · have hinv := inv_new (by omega) (few_nd HF.out) hval hos hof hl1
      have hlive : Live w1.heap.size w1 own w2 b (stNew ns order n) := live_new (by omega) (few_nd HF.out) hb2 hsch hos hl1 hlow
      have hm1 := make_ints w2 ns.length (by omega)
      have hst0 : stL (stNew ns order n) ns.length = List.replicate ns.length 0 := by
        unfold stL
        apply List.ext_getElem (by simp)
        intro i h1 h2
        simp [stAt, stNew]
      have hsr : (w2.alloc (.cells (Array.replicate ns.length (.int .i64 0)) 3)).heap[w2.heap.size]? = some (.cells (ints (stL (stNew ns order n) ns.length)).toArray 3) := by
        rw [heap_alloc_at w2 _, hst0]; simp [ints]
      have hI0 : LI w1.heap.size w1 (own2 own w2 0) (w2.alloc (.cells (Array.replicate ns.length (.int .i64 0)) 3)) b (stNew ns order n) w2.heap.size ns n :=
        ⟨hlive.grow ((Below.refl _ _).alloc (Nat.le_refl _) _) 0, hinv, rfl, rfl, hsr, own2_new (Nat.le_refl _), hb2.size⟩
      have I0 := hid hI0
      clear hcode hb2 hsch hos hof hval hlow hbs hinv hlive hst0 hsr hI0
      go_wp2_with fail
      clear hm1
      generalize w2.alloc (.cells (Array.replicate ns.length (.int .i64 0)) 3) = w3 at *
      generalize w2.heap.size = L at *
      go_loopw [10, 11, 12, 13] (fun a p q i wr => ∃ (k : Nat) (own : Nat → Nat) (s : St), k ≤ lc ∧ i = .int .i64 k ∧ a = .int .i64 s.rn.length ∧ p = .int .i64 s.dn.length ∧ q = .int .i64 s.fl.length ∧ Hid (LI w1.heap.size w1 own wr b s L ns n)) (fun _ _ _ i _ => lc - (intOf i).toNat)
      case atStart => exact ⟨0, _, _, Nat.zero_le _, rfl, rfl, rfl, rfl, I0⟩
      case round =>
        obtain ⟨k, own1, s, hk, rfl, rfl, rfl, rfl, HI⟩ := hrel
        clear I0
        have HBw : Hid (Below w.heap.size w wr) := hid (HB1.out.trans (HI.out.live.below.mono HB1.out.size))
        by_cases hlt : k < lc
        · obtain ⟨gc, oo, rfl, hkd0, hnm0⟩ := HBY.out k hlt
          have hkd := Keeps.below HBw.out _ _ _ hkd0
          have hnm := Keeps.below HBw.out _ _ _ hnm0
          have hk0 : (0 : Int) ≤ (k : Int) := by omega
          have hk1 : (k : Int) < (lc : Int) := by omega
          generalize kd k = K at *
          generalize nm k = x at *
          clear hkd0 hnm0
          by_cases hK0 : K = 0
          · subst hK0
            by_cases hz : (beginS s x).1 = 0
            · as_aux_lemma =>
                have hst := HI.out.inv.begin_st hz ns.length
                obtain ⟨hx0, hx1, hst, hnd, hset, hlr, hdn2, hfl2⟩ := hst
                have hcall := HI.out.live.begin_ x
                rw [hz] at hcall
                have hi2 := HI.out.inv.begin_ x
                have hn2 := begin_needs s x
                have hl2 := begin_lim s x
                have hs1 : s.needs = ns := HI.out.needs
                generalize (beginS s x).2 = s2 at *
                obtain ⟨xn, rfl⟩ : ∃ xn : Nat, x = xn := ⟨x.toNat, by omega⟩
                rw [Int.toNat_natCast] at hset hnd
                rw [hs1] at hx1 hnd
                have hxl : xn < ns.length := by omega
                have hx0' : (0 : Int) ≤ (xn : Int) := by omega
                have hx1' : (xn : Int) < (ns.length : Int) := by omega
                have HCall := hid hcall
                have E1 := hid (show ((s.rn.length : Int) + 1) = (s2.rn.length : Int) by (have := hlr; omega))
                have E2 := hid (show (s.dn.length : Int) = (s2.dn.length : Int) by (rw [hdn2]))
                have E3 := hid (show (s.fl.length : Int) = (s2.fl.length : Int) by (rw [hfl2]))
                have hge : True := trivial
                have hle1 : s.rn.length ≤ 40 ∧ s.dn.length ≤ 40 ∧ s.fl.length ≤ 40 := by have := HI.out.inv.sum; rw [hs1] at this; omega
                obtain ⟨hle1, hle2, hle3⟩ := hle1
                have HSET := hid hset
                have HI2 := hid hi2
                have HN2 := hid hn2
                have HL2 := hid hl2
                have HST := hid hst
                have HND := hid hnd
                clear hcall hlr hdn2 hfl2 hset hi2 hn2 hl2 hst hz hnd hs1
                go_wp2_with fail
                refine HCall.out.mono ?_; rintro e wm ⟨r, ownm, rfl, Lm, hom, hcm, rfl⟩
                obtain ⟨a1, a2, a3, a4, a5, a6, a7⟩ := HI.out.step Lm hom hcm HI2.out HN2.out HL2.out
                have hcx := row_at_cell a5 (stL_length s ns.length) hxl
                have hfx : wm.frozen? ⟨L, xn, none⟩ = false := frozen_in a5 _
                rw [stL_getD hxl, HST.out] at hcx
                have HA5 := hid a5
                have HLm := hid a1
                have HA6 := hid a6
                have HA7 := hid a7
                have HA3 := hid a3
                have HA4 := hid a4
                have HBm : Hid (Below w.heap.size w wm) := hid (HB1.out.trans (a1.below.mono HB1.out.size))
                clear a1 a2 a3 a4 a5 a6 a7 Lm hom hcm HCall HI
                obtain ⟨g8, o8, c8, u8, hv8, hc8, hview8⟩ := (HN.out.keep (Keeps.below HBm.out)).at hxl
                cases hv8
                obtain ⟨ou8, cu8, rfl⟩ := hview8.len
                have HV8 := hid hview8
                have hlk := few_nd HF.out xn hxl
                have hnr : Hid (∀ y ∈ nd ns xn, 0 ≤ y ∧ y < ns.length) := hid fun y hy => by
                  have := (HI2.out.valid xn (by rw [HA3.out]; exact hxl)).2 y (by rw [HA3.out]; exact hy)
                  rw [HA3.out] at this; omega
                generalize nd ns xn = l8 at *
                clear hview8
                go_wp2_with fail
                go_loop [15] (fun j => ∃ jj : Nat, jj ≤ l8.length ∧ j = .int .i64 jj) (fun j => l8.length - (intOf j).toNat)
                case atStart => exact ⟨0, Nat.zero_le _, rfl⟩
                case round =>
                  obtain ⟨jj, hjj, rfl⟩ := hrel
                  by_cases hjl : jj < l8.length
                  · obtain ⟨g9, o9, c9, hv9, hc9⟩ := HV8.out.at hjl
                    cases hv9
                    have hm9 := getD_mem hjl
                    have hr9 := hnr.out _ hm9
                    have hs9 := HND.out _ hm9
                    obtain ⟨yn, hyn⟩ : ∃ yn : Nat, l8.getD jj 0 = yn := ⟨(l8.getD jj 0).toNat, by omega⟩
                    rw [hyn] at hc9 hr9 hs9
                    have hyl : yn < ns.length := by omega
                    have hy0 : (0 : Int) ≤ (yn : Int) := by omega
                    have hy1 : (yn : Int) < (ns.length : Int) := by omega
                    have hj0 : (0 : Int) ≤ (jj : Int) := by omega
                    have hj1 : (jj : Int) < (l8.length : Int) := by omega
                    have hcy := row_at_cell HA5.out (stL_length s ns.length) hyl
                    rw [stL_getD hyl, hs9] at hcy
                    clear hyn hm9 hs9
                    go_wp2_with fail
                    go_round
                    case rel => exact ⟨jj + 1, by omega, by go_num⟩
                    case measure => simp [intOf]; omega
                  · have hje : jj = l8.length := by omega
                    go_wp2_with fail
                    have HI : Hid (LI w1.heap.size w1 ownm (wm.setCell ⟨L, xn, none⟩ (.int .i64 1)) b s2 L ns n) := hid ⟨HLm.out.poke HA6.out HA7.out _, HI2.out, HA3.out, HA4.out, poke_cell HA5.out HSET.out, HA6.out, HA7.out⟩
                    generalize wm.setCell ⟨L, xn, none⟩ (.int .i64 1) = ws at *
                    rw [E1.out, E2.out, E3.out]
                    clear E1 E2 E3 HLm HA3 HA4 HA5 HA6 HA7 HI2 HN2 HL2 HST HSET hcx hfx hle1 hle2 hle3 hge

                    have hsum := HI.out.inv.sum
                    have hrl := HI.out.inv.rlim
                    rw [HI.out.needs] at hsum
                    rw [HI.out.limit] at hrl
                    have hb1 : s2.dn.length ≤ 40 := by omega
                    have hb2 : s2.fl.length ≤ 40 := by omega
                    have hb3 : s2.sk.length ≤ 40 := by omega
                    have hb4 : s2.rn.length ≤ 40 := by omega
                    have hcnt := HI.out.live.count
                    have HCnt := hid hcnt
                    clear hcnt
                    go_wp2_with fail
                    refine HCnt.out.mono ?_; rintro e wc ⟨r, ownc, rfl, Lc, hoc, hcc, rfl⟩
                    have HIc := hid (HI.out.same Lc hoc hcc)
                    clear HI HCnt Lc hoc hcc
                    have hx1 : decide (n < (s2.rn.length : Int)) = false := decide_eq_false (by omega)
                    go_wp2_with fail
                    refine HIc.out.live.running.mono ?_; rintro e wq ⟨r, ownq, rfl, Lq, hoq, hcq, hrq⟩
                    obtain ⟨oq, cq, rfl⟩ := row_len hrq.1
                    have HIq := hid (HIc.out.same Lq hoq hcq)
                    clear HIc Lq hoq hcq hrq
                    have hx2 : decide ((ns.length : Int) < (s2.dn.length : Int) + (s2.fl.length : Int) + (s2.sk.length : Int) + (s2.rn.length : Int)) = false := decide_eq_false (by omega)
                    go_wp2_with fail
                    by_cases hdn : s2.wt.length + s2.rn.length = 0
                    · have hdone := HIq.out.live.done
                      rw [decide_eq_true hdn] at hdone
                      have HDone := hid hdone
                      have HDN := hid hdn
                      have hx3 : decide ((s2.dn.length : Int) + (s2.fl.length : Int) + (s2.sk.length : Int) = (ns.length : Int)) = true := decide_eq_true (by omega)
                      have hx4 : ((s2.dn.length : Int) + (s2.fl.length : Int) + (s2.sk.length : Int) != (ns.length : Int)) = false := by rw [bne, beq_iff_eq.2 (by omega)]; rfl
                      clear hdone hdn hsum hrl
                      refine HDone.out.mono ?_; rintro e wd ⟨r, ownd, rfl, Ld, hod, hcd, rfl⟩
                      have HId := hid (HIq.out.same Ld hod hcd)
                      have hdone := HId.out.live.done
                      rw [decide_eq_true HDN.out] at hdone
                      have HDone2 := hid hdone
                      clear HIq Ld hod hcd HDone hdone
                      go_wp2_with fail
                      refine HDone2.out.mono ?_; rintro e we ⟨r, owne, rfl, Le, hoe, hce, rfl⟩
                      have HIe := hid (HId.out.same Le hoe hce)
                      clear HId Le hoe hce HDone2
                      go_wp2_with fail
                      go_roundw
                      case rel => exact ⟨k + 1, _, s2, by omega, by go_num, rfl, rfl, rfl, HIe⟩
                      case measure => simp [intOf]; omega
                    · have hdone := HIq.out.live.done
                      rw [decide_eq_false hdn] at hdone
                      have HDone := hid hdone
                      have HDN := hid hdn
                      clear hdone hsum hrl
                      by_cases hr0 : s2.rn.length = 0
                      · have hx5 : decide ((s2.rn.length : Int) = 0) = true := decide_eq_true (by omega)
                        have hx6 : ((s2.rn.length : Int) == 0) = true := beq_iff_eq.2 (by omega)
                        have hpr := HIq.out.inv.progress (fun e => hdn (by rw [e, hr0]; rfl)) (List.eq_nil_of_length_eq_zero hr0)
                        have hpl : (readyL s2).length ≠ 0 := fun e => hpr (List.eq_nil_of_length_eq_zero e)
                        have hx7 : decide (((readyL s2).length : Int) = 0) = false := decide_eq_false (by omega)
                        have hx8 : (((readyL s2).length : Int) == 0) = false := beq_eq_false_iff_ne.2 (by omega)
                        clear hdn hr0 hpr hpl
                        refine HDone.out.mono ?_; rintro e wd ⟨r, ownd, rfl, Ld, hod, hcd, rfl⟩
                        have HId := hid (HIq.out.same Ld hod hcd)
                        clear HIq Ld hod hcd HDone
                        go_wp2_with fail
                        refine HId.out.live.ready.mono ?_; rintro e wg ⟨r, owng, rfl, Lg, hog, hcg, hrg⟩
                        obtain ⟨og, cg, rfl⟩ := row_len hrg.1
                        have HIg := hid (HId.out.same Lg hog hcg)
                        have hdone := HIg.out.live.done
                        rw [decide_eq_false HDN.out] at hdone
                        have HDone2 := hid hdone
                        clear HId Lg hog hcg hrg hdone
                        go_wp2_with fail
                        refine HDone2.out.mono ?_; rintro e we ⟨r, owne, rfl, Le, hoe, hce, rfl⟩
                        have HIe := hid (HIg.out.same Le hoe hce)
                        clear HIg Le hoe hce HDone2
                        go_wp2_with fail
                        go_roundw
                        case rel => exact ⟨k + 1, _, s2, by omega, by go_num, rfl, rfl, rfl, HIe⟩
                        case measure => simp [intOf]; omega
                      · have hx5 : decide ((s2.rn.length : Int) = 0) = false := decide_eq_false (by omega)
                        have hx6 : ((s2.rn.length : Int) == 0) = false := beq_eq_false_iff_ne.2 (by omega)
                        clear hdn hr0
                        refine HDone.out.mono ?_; rintro e wd ⟨r, ownd, rfl, Ld, hod, hcd, rfl⟩
                        have HId := hid (HIq.out.same Ld hod hcd)
                        have hdone := HId.out.live.done
                        rw [decide_eq_false HDN.out] at hdone
                        have HDone2 := hid hdone
                        clear HIq Ld hod hcd HDone hdone
                        go_wp2_with fail
                        refine HDone2.out.mono ?_; rintro e we ⟨r, owne, rfl, Le, hoe, hce, rfl⟩
                        have HIe := hid (HId.out.same Le hoe hce)
                        clear HId Le hoe hce HDone2
                        go_wp2_with fail
                        go_roundw
                        case rel => exact ⟨k + 1, _, s2, by omega, by go_num, rfl, rfl, rfl, HIe⟩
                        case measure => simp [intOf]; omega
            · as_aux_lemma =>
                have hcall := HI.out.live.begin_ x
                rw [begin_same hz] at hcall
                have HCall := hid hcall
                clear hcall
                generalize (beginS s x).1 = c at *
                have hc1 : decide (c = 0) = false := decide_eq_false hz
                have hc2 : (c == 0) = false := beq_eq_false_iff_ne.2 hz
                clear hz
                go_wp2_with fail
                refine HCall.out.mono ?_; rintro e wm ⟨r, ownm, rfl, Lm, hom, hcm, rfl⟩
                have HIm := hid (HI.out.same Lm hom hcm)
                clear HI HCall Lm hom hcm
                have HI := HIm
                clear HIm

                have hsum := HI.out.inv.sum
                have hrl := HI.out.inv.rlim
                rw [HI.out.needs] at hsum
                rw [HI.out.limit] at hrl
                have hb1 : s.dn.length ≤ 40 := by omega
                have hb2 : s.fl.length ≤ 40 := by omega
                have hb3 : s.sk.length ≤ 40 := by omega
                have hb4 : s.rn.length ≤ 40 := by omega
                have hcnt := HI.out.live.count
                have HCnt := hid hcnt
                clear hcnt
                go_wp2_with fail
                refine HCnt.out.mono ?_; rintro e wc ⟨r, ownc, rfl, Lc, hoc, hcc, rfl⟩
                have HIc := hid (HI.out.same Lc hoc hcc)
                clear HI HCnt Lc hoc hcc
                have hx1 : decide (n < (s.rn.length : Int)) = false := decide_eq_false (by omega)
                go_wp2_with fail
                refine HIc.out.live.running.mono ?_; rintro e wq ⟨r, ownq, rfl, Lq, hoq, hcq, hrq⟩
                obtain ⟨oq, cq, rfl⟩ := row_len hrq.1
                have HIq := hid (HIc.out.same Lq hoq hcq)
                clear HIc Lq hoq hcq hrq
                have hx2 : decide ((ns.length : Int) < (s.dn.length : Int) + (s.fl.length : Int) + (s.sk.length : Int) + (s.rn.length : Int)) = false := decide_eq_false (by omega)
                go_wp2_with fail
                by_cases hdn : s.wt.length + s.rn.length = 0
                · have hdone := HIq.out.live.done
                  rw [decide_eq_true hdn] at hdone
                  have HDone := hid hdone
                  have HDN := hid hdn
                  have hx3 : decide ((s.dn.length : Int) + (s.fl.length : Int) + (s.sk.length : Int) = (ns.length : Int)) = true := decide_eq_true (by omega)
                  have hx4 : ((s.dn.length : Int) + (s.fl.length : Int) + (s.sk.length : Int) != (ns.length : Int)) = false := by rw [bne, beq_iff_eq.2 (by omega)]; rfl
                  clear hdone hdn hsum hrl
                  refine HDone.out.mono ?_; rintro e wd ⟨r, ownd, rfl, Ld, hod, hcd, rfl⟩
                  have HId := hid (HIq.out.same Ld hod hcd)
                  have hdone := HId.out.live.done
                  rw [decide_eq_true HDN.out] at hdone
                  have HDone2 := hid hdone
                  clear HIq Ld hod hcd HDone hdone
                  go_wp2_with fail
                  refine HDone2.out.mono ?_; rintro e we ⟨r, owne, rfl, Le, hoe, hce, rfl⟩
                  have HIe := hid (HId.out.same Le hoe hce)
                  clear HId Le hoe hce HDone2
                  go_wp2_with fail
                  go_roundw
                  case rel => exact ⟨k + 1, _, s, by omega, by go_num, rfl, rfl, rfl, HIe⟩
                  case measure => simp [intOf]; omega
                · have hdone := HIq.out.live.done
                  rw [decide_eq_false hdn] at hdone
                  have HDone := hid hdone
                  have HDN := hid hdn
                  clear hdone hsum hrl
                  by_cases hr0 : s.rn.length = 0
                  · have hx5 : decide ((s.rn.length : Int) = 0) = true := decide_eq_true (by omega)
                    have hx6 : ((s.rn.length : Int) == 0) = true := beq_iff_eq.2 (by omega)
                    have hpr := HIq.out.inv.progress (fun e => hdn (by rw [e, hr0]; rfl)) (List.eq_nil_of_length_eq_zero hr0)
                    have hpl : (readyL s).length ≠ 0 := fun e => hpr (List.eq_nil_of_length_eq_zero e)
                    have hx7 : decide (((readyL s).length : Int) = 0) = false := decide_eq_false (by omega)
                    have hx8 : (((readyL s).length : Int) == 0) = false := beq_eq_false_iff_ne.2 (by omega)
                    clear hdn hr0 hpr hpl
                    refine HDone.out.mono ?_; rintro e wd ⟨r, ownd, rfl, Ld, hod, hcd, rfl⟩
                    have HId := hid (HIq.out.same Ld hod hcd)
                    clear HIq Ld hod hcd HDone
                    go_wp2_with fail
                    refine HId.out.live.ready.mono ?_; rintro e wg ⟨r, owng, rfl, Lg, hog, hcg, hrg⟩
                    obtain ⟨og, cg, rfl⟩ := row_len hrg.1
                    have HIg := hid (HId.out.same Lg hog hcg)
                    have hdone := HIg.out.live.done
                    rw [decide_eq_false HDN.out] at hdone
                    have HDone2 := hid hdone
                    clear HId Lg hog hcg hrg hdone
                    go_wp2_with fail
                    refine HDone2.out.mono ?_; rintro e we ⟨r, owne, rfl, Le, hoe, hce, rfl⟩
                    have HIe := hid (HIg.out.same Le hoe hce)
                    clear HIg Le hoe hce HDone2
                    go_wp2_with fail
                    go_roundw
                    case rel => exact ⟨k + 1, _, s, by omega, by go_num, rfl, rfl, rfl, HIe⟩
                    case measure => simp [intOf]; omega
                  · have hx5 : decide ((s.rn.length : Int) = 0) = false := decide_eq_false (by omega)
                    have hx6 : ((s.rn.length : Int) == 0) = false := beq_eq_false_iff_ne.2 (by omega)
                    clear hdn hr0
                    refine HDone.out.mono ?_; rintro e wd ⟨r, ownd, rfl, Ld, hod, hcd, rfl⟩
                    have HId := hid (HIq.out.same Ld hod hcd)
                    have hdone := HId.out.live.done
                    rw [decide_eq_false HDN.out] at hdone
                    have HDone2 := hid hdone
                    clear HIq Ld hod hcd HDone hdone
                    go_wp2_with fail
                    refine HDone2.out.mono ?_; rintro e we ⟨r, owne, rfl, Le, hoe, hce, rfl⟩
                    have HIe := hid (HId.out.same Le hoe hce)
                    clear HId Le hoe hce HDone2
                    go_wp2_with fail
                    go_roundw
                    case rel => exact ⟨k + 1, _, s, by omega, by go_num, rfl, rfl, rfl, HIe⟩
                    case measure => simp [intOf]; omega
          · by_cases hK1 : K = 1
            · subst hK1
              by_cases hz : (finishS s x).1 = 0
              · as_aux_lemma =>
                  have hst := HI.out.inv.finish_st hz ns.length
                  obtain ⟨hx0, hx1, hst, hset, hlr, hdn2, hfl2⟩ := hst
                  have hcall := HI.out.live.finish x
                  rw [hz] at hcall
                  have hi2 := HI.out.inv.finish x
                  have hn2 := finish_needs s x
                  have hl2 := finish_lim s x
                  have hs1 : s.needs = ns := HI.out.needs
                  generalize (finishS s x).2 = s2 at *
                  obtain ⟨xn, rfl⟩ : ∃ xn : Nat, x = xn := ⟨x.toNat, by omega⟩
                  rw [Int.toNat_natCast] at hset
                  rw [hs1] at hx1
                  have hxl : xn < ns.length := by omega
                  have hx0' : (0 : Int) ≤ (xn : Int) := by omega
                  have hx1' : (xn : Int) < (ns.length : Int) := by omega
                  have HCall := hid hcall
                  have E1 := hid (show ((s.rn.length : Int) - 1) = (s2.rn.length : Int) by (have := hlr; omega))
                  have E2 := hid (show ((s.dn.length : Int) + 1) = (s2.dn.length : Int) by (have := hdn2; omega))
                  have E3 := hid (show (s.fl.length : Int) = (s2.fl.length : Int) by (rw [hfl2]))
                  have hge : 1 ≤ s.rn.length := by omega
                  have hle1 : s.rn.length ≤ 40 ∧ s.dn.length ≤ 40 ∧ s.fl.length ≤ 40 := by have := HI.out.inv.sum; rw [hs1] at this; omega
                  obtain ⟨hle1, hle2, hle3⟩ := hle1
                  have HSET := hid hset
                  have HI2 := hid hi2
                  have HN2 := hid hn2
                  have HL2 := hid hl2
                  have HST := hid hst

                  clear hcall hlr hdn2 hfl2 hset hi2 hn2 hl2 hst hz  hs1
                  go_wp2_with fail
                  refine HCall.out.mono ?_; rintro e wm ⟨r, ownm, rfl, Lm, hom, hcm, rfl⟩
                  obtain ⟨a1, a2, a3, a4, a5, a6, a7⟩ := HI.out.step Lm hom hcm HI2.out HN2.out HL2.out
                  have hcx := row_at_cell a5 (stL_length s ns.length) hxl
                  have hfx : wm.frozen? ⟨L, xn, none⟩ = false := frozen_in a5 _
                  rw [stL_getD hxl, HST.out] at hcx
                  have HA5 := hid a5
                  have HLm := hid a1
                  have HA6 := hid a6
                  have HA7 := hid a7
                  have HA3 := hid a3
                  have HA4 := hid a4
                  have HBm : Hid (Below w.heap.size w wm) := hid (HB1.out.trans (a1.below.mono HB1.out.size))
                  clear a1 a2 a3 a4 a5 a6 a7 Lm hom hcm HCall HI
                  go_wp2_with fail
                  have HI : Hid (LI w1.heap.size w1 ownm (wm.setCell ⟨L, xn, none⟩ (.int .i64 2)) b s2 L ns n) := hid ⟨HLm.out.poke HA6.out HA7.out _, HI2.out, HA3.out, HA4.out, poke_cell HA5.out HSET.out, HA6.out, HA7.out⟩
                  generalize wm.setCell ⟨L, xn, none⟩ (.int .i64 2) = ws at *
                  rw [E1.out, E2.out, E3.out]
                  clear E1 E2 E3 HLm HA3 HA4 HA5 HA6 HA7 HI2 HN2 HL2 HST HSET hcx hfx hle1 hle2 hle3 hge

                  have hsum := HI.out.inv.sum
                  have hrl := HI.out.inv.rlim
                  rw [HI.out.needs] at hsum
                  rw [HI.out.limit] at hrl
                  have hb1 : s2.dn.length ≤ 40 := by omega
                  have hb2 : s2.fl.length ≤ 40 := by omega
                  have hb3 : s2.sk.length ≤ 40 := by omega
                  have hb4 : s2.rn.length ≤ 40 := by omega
                  have hcnt := HI.out.live.count
                  have HCnt := hid hcnt
                  clear hcnt
                  go_wp2_with fail
                  refine HCnt.out.mono ?_; rintro e wc ⟨r, ownc, rfl, Lc, hoc, hcc, rfl⟩
                  have HIc := hid (HI.out.same Lc hoc hcc)
                  clear HI HCnt Lc hoc hcc
                  have hx1 : decide (n < (s2.rn.length : Int)) = false := decide_eq_false (by omega)
                  go_wp2_with fail
                  refine HIc.out.live.running.mono ?_; rintro e wq ⟨r, ownq, rfl, Lq, hoq, hcq, hrq⟩
                  obtain ⟨oq, cq, rfl⟩ := row_len hrq.1
                  have HIq := hid (HIc.out.same Lq hoq hcq)
                  clear HIc Lq hoq hcq hrq
                  have hx2 : decide ((ns.length : Int) < (s2.dn.length : Int) + (s2.fl.length : Int) + (s2.sk.length : Int) + (s2.rn.length : Int)) = false := decide_eq_false (by omega)
                  go_wp2_with fail
                  by_cases hdn : s2.wt.length + s2.rn.length = 0
                  · have hdone := HIq.out.live.done
                    rw [decide_eq_true hdn] at hdone
                    have HDone := hid hdone
                    have HDN := hid hdn
                    have hx3 : decide ((s2.dn.length : Int) + (s2.fl.length : Int) + (s2.sk.length : Int) = (ns.length : Int)) = true := decide_eq_true (by omega)
                    have hx4 : ((s2.dn.length : Int) + (s2.fl.length : Int) + (s2.sk.length : Int) != (ns.length : Int)) = false := by rw [bne, beq_iff_eq.2 (by omega)]; rfl
                    clear hdone hdn hsum hrl
                    refine HDone.out.mono ?_; rintro e wd ⟨r, ownd, rfl, Ld, hod, hcd, rfl⟩
                    have HId := hid (HIq.out.same Ld hod hcd)
                    have hdone := HId.out.live.done
                    rw [decide_eq_true HDN.out] at hdone
                    have HDone2 := hid hdone
                    clear HIq Ld hod hcd HDone hdone
                    go_wp2_with fail
                    refine HDone2.out.mono ?_; rintro e we ⟨r, owne, rfl, Le, hoe, hce, rfl⟩
                    have HIe := hid (HId.out.same Le hoe hce)
                    clear HId Le hoe hce HDone2
                    go_wp2_with fail
                    go_roundw
                    case rel => exact ⟨k + 1, _, s2, by omega, by go_num, rfl, rfl, rfl, HIe⟩
                    case measure => simp [intOf]; omega
                  · have hdone := HIq.out.live.done
                    rw [decide_eq_false hdn] at hdone
                    have HDone := hid hdone
                    have HDN := hid hdn
                    clear hdone hsum hrl
                    by_cases hr0 : s2.rn.length = 0
                    · have hx5 : decide ((s2.rn.length : Int) = 0) = true := decide_eq_true (by omega)
                      have hx6 : ((s2.rn.length : Int) == 0) = true := beq_iff_eq.2 (by omega)
                      have hpr := HIq.out.inv.progress (fun e => hdn (by rw [e, hr0]; rfl)) (List.eq_nil_of_length_eq_zero hr0)
                      have hpl : (readyL s2).length ≠ 0 := fun e => hpr (List.eq_nil_of_length_eq_zero e)
                      have hx7 : decide (((readyL s2).length : Int) = 0) = false := decide_eq_false (by omega)
                      have hx8 : (((readyL s2).length : Int) == 0) = false := beq_eq_false_iff_ne.2 (by omega)
                      clear hdn hr0 hpr hpl
                      refine HDone.out.mono ?_; rintro e wd ⟨r, ownd, rfl, Ld, hod, hcd, rfl⟩
                      have HId := hid (HIq.out.same Ld hod hcd)
                      clear HIq Ld hod hcd HDone
                      go_wp2_with fail
                      refine HId.out.live.ready.mono ?_; rintro e wg ⟨r, owng, rfl, Lg, hog, hcg, hrg⟩
                      obtain ⟨og, cg, rfl⟩ := row_len hrg.1
                      have HIg := hid (HId.out.same Lg hog hcg)
                      have hdone := HIg.out.live.done
                      rw [decide_eq_false HDN.out] at hdone
                      have HDone2 := hid hdone
                      clear HId Lg hog hcg hrg hdone
                      go_wp2_with fail
                      refine HDone2.out.mono ?_; rintro e we ⟨r, owne, rfl, Le, hoe, hce, rfl⟩
                      have HIe := hid (HIg.out.same Le hoe hce)
                      clear HIg Le hoe hce HDone2
                      go_wp2_with fail
                      go_roundw
                      case rel => exact ⟨k + 1, _, s2, by omega, by go_num, rfl, rfl, rfl, HIe⟩
                      case measure => simp [intOf]; omega
                    · have hx5 : decide ((s2.rn.length : Int) = 0) = false := decide_eq_false (by omega)
                      have hx6 : ((s2.rn.length : Int) == 0) = false := beq_eq_false_iff_ne.2 (by omega)
                      clear hdn hr0
                      refine HDone.out.mono ?_; rintro e wd ⟨r, ownd, rfl, Ld, hod, hcd, rfl⟩
                      have HId := hid (HIq.out.same Ld hod hcd)
                      have hdone := HId.out.live.done
                      rw [decide_eq_false HDN.out] at hdone
                      have HDone2 := hid hdone
                      clear HIq Ld hod hcd HDone hdone
                      go_wp2_with fail
                      refine HDone2.out.mono ?_; rintro e we ⟨r, owne, rfl, Le, hoe, hce, rfl⟩
                      have HIe := hid (HId.out.same Le hoe hce)
                      clear HId Le hoe hce HDone2
                      go_wp2_with fail
                      go_roundw
                      case rel => exact ⟨k + 1, _, s2, by omega, by go_num, rfl, rfl, rfl, HIe⟩
                      case measure => simp [intOf]; omega
              · as_aux_lemma =>
                  have hcall := HI.out.live.finish x
                  rw [finish_same hz] at hcall
                  have HCall := hid hcall
                  clear hcall
                  generalize (finishS s x).1 = c at *
                  have hc1 : decide (c = 0) = false := decide_eq_false hz
                  have hc2 : (c == 0) = false := beq_eq_false_iff_ne.2 hz
                  clear hz
                  go_wp2_with fail
                  refine HCall.out.mono ?_; rintro e wm ⟨r, ownm, rfl, Lm, hom, hcm, rfl⟩
                  have HIm := hid (HI.out.same Lm hom hcm)
                  clear HI HCall Lm hom hcm
                  have HI := HIm
                  clear HIm

                  have hsum := HI.out.inv.sum
                  have hrl := HI.out.inv.rlim
                  rw [HI.out.needs] at hsum
                  rw [HI.out.limit] at hrl
                  have hb1 : s.dn.length ≤ 40 := by omega
                  have hb2 : s.fl.length ≤ 40 := by omega
                  have hb3 : s.sk.length ≤ 40 := by omega
                  have hb4 : s.rn.length ≤ 40 := by omega
                  have hcnt := HI.out.live.count
                  have HCnt := hid hcnt
                  clear hcnt
                  go_wp2_with fail
                  refine HCnt.out.mono ?_; rintro e wc ⟨r, ownc, rfl, Lc, hoc, hcc, rfl⟩
                  have HIc := hid (HI.out.same Lc hoc hcc)
                  clear HI HCnt Lc hoc hcc
                  have hx1 : decide (n < (s.rn.length : Int)) = false := decide_eq_false (by omega)
                  go_wp2_with fail
                  refine HIc.out.live.running.mono ?_; rintro e wq ⟨r, ownq, rfl, Lq, hoq, hcq, hrq⟩
                  obtain ⟨oq, cq, rfl⟩ := row_len hrq.1
                  have HIq := hid (HIc.out.same Lq hoq hcq)
                  clear HIc Lq hoq hcq hrq
                  have hx2 : decide ((ns.length : Int) < (s.dn.length : Int) + (s.fl.length : Int) + (s.sk.length : Int) + (s.rn.length : Int)) = false := decide_eq_false (by omega)
                  go_wp2_with fail
                  by_cases hdn : s.wt.length + s.rn.length = 0
                  · have hdone := HIq.out.live.done
                    rw [decide_eq_true hdn] at hdone
                    have HDone := hid hdone
                    have HDN := hid hdn
                    have hx3 : decide ((s.dn.length : Int) + (s.fl.length : Int) + (s.sk.length : Int) = (ns.length : Int)) = true := decide_eq_true (by omega)
                    have hx4 : ((s.dn.length : Int) + (s.fl.length : Int) + (s.sk.length : Int) != (ns.length : Int)) = false := by rw [bne, beq_iff_eq.2 (by omega)]; rfl
                    clear hdone hdn hsum hrl
                    refine HDone.out.mono ?_; rintro e wd ⟨r, ownd, rfl, Ld, hod, hcd, rfl⟩
                    have HId := hid (HIq.out.same Ld hod hcd)
                    have hdone := HId.out.live.done
                    rw [decide_eq_true HDN.out] at hdone
                    have HDone2 := hid hdone
                    clear HIq Ld hod hcd HDone hdone
                    go_wp2_with fail
                    refine HDone2.out.mono ?_; rintro e we ⟨r, owne, rfl, Le, hoe, hce, rfl⟩
                    have HIe := hid (HId.out.same Le hoe hce)
                    clear HId Le hoe hce HDone2
                    go_wp2_with fail
                    go_roundw
                    case rel => exact ⟨k + 1, _, s, by omega, by go_num, rfl, rfl, rfl, HIe⟩
                    case measure => simp [intOf]; omega
                  · have hdone := HIq.out.live.done
                    rw [decide_eq_false hdn] at hdone
                    have HDone := hid hdone
                    have HDN := hid hdn
                    clear hdone hsum hrl
                    by_cases hr0 : s.rn.length = 0
                    · have hx5 : decide ((s.rn.length : Int) = 0) = true := decide_eq_true (by omega)
                      have hx6 : ((s.rn.length : Int) == 0) = true := beq_iff_eq.2 (by omega)
                      have hpr := HIq.out.inv.progress (fun e => hdn (by rw [e, hr0]; rfl)) (List.eq_nil_of_length_eq_zero hr0)
                      have hpl : (readyL s).length ≠ 0 := fun e => hpr (List.eq_nil_of_length_eq_zero e)
                      have hx7 : decide (((readyL s).length : Int) = 0) = false := decide_eq_false (by omega)
                      have hx8 : (((readyL s).length : Int) == 0) = false := beq_eq_false_iff_ne.2 (by omega)
                      clear hdn hr0 hpr hpl
                      refine HDone.out.mono ?_; rintro e wd ⟨r, ownd, rfl, Ld, hod, hcd, rfl⟩
                      have HId := hid (HIq.out.same Ld hod hcd)
                      clear HIq Ld hod hcd HDone
                      go_wp2_with fail
                      refine HId.out.live.ready.mono ?_; rintro e wg ⟨r, owng, rfl, Lg, hog, hcg, hrg⟩
                      obtain ⟨og, cg, rfl⟩ := row_len hrg.1
                      have HIg := hid (HId.out.same Lg hog hcg)
                      have hdone := HIg.out.live.done
                      rw [decide_eq_false HDN.out] at hdone
                      have HDone2 := hid hdone
                      clear HId Lg hog hcg hrg hdone
                      go_wp2_with fail
                      refine HDone2.out.mono ?_; rintro e we ⟨r, owne, rfl, Le, hoe, hce, rfl⟩
                      have HIe := hid (HIg.out.same Le hoe hce)
                      clear HIg Le hoe hce HDone2
                      go_wp2_with fail
                      go_roundw
                      case rel => exact ⟨k + 1, _, s, by omega, by go_num, rfl, rfl, rfl, HIe⟩
                      case measure => simp [intOf]; omega
                    · have hx5 : decide ((s.rn.length : Int) = 0) = false := decide_eq_false (by omega)
                      have hx6 : ((s.rn.length : Int) == 0) = false := beq_eq_false_iff_ne.2 (by omega)
                      clear hdn hr0
                      refine HDone.out.mono ?_; rintro e wd ⟨r, ownd, rfl, Ld, hod, hcd, rfl⟩
                      have HId := hid (HIq.out.same Ld hod hcd)
                      have hdone := HId.out.live.done
                      rw [decide_eq_false HDN.out] at hdone
                      have HDone2 := hid hdone
                      clear HIq Ld hod hcd HDone hdone
                      go_wp2_with fail
                      refine HDone2.out.mono ?_; rintro e we ⟨r, owne, rfl, Le, hoe, hce, rfl⟩
                      have HIe := hid (HId.out.same Le hoe hce)
                      clear HId Le hoe hce HDone2
                      go_wp2_with fail
                      go_roundw
                      case rel => exact ⟨k + 1, _, s, by omega, by go_num, rfl, rfl, rfl, HIe⟩
                      case measure => simp [intOf]; omega
            · by_cases hK2 : K = 2
              · subst hK2
                by_cases hz : (failS s x).1 = 0
                · as_aux_lemma =>
                    have hst := HI.out.inv.fail_st hz ns.length
                    obtain ⟨hx0, hx1, hst, hset, hlr, hdn2, hfl2⟩ := hst
                    have hcall := HI.out.live.fail x
                    rw [hz] at hcall
                    have hi2 := HI.out.inv.fail x
                    have hn2 := fail_needs s x
                    have hl2 := fail_lim s x
                    have hs1 : s.needs = ns := HI.out.needs
                    generalize (failS s x).2.1 = s2 at *
                    obtain ⟨xn, rfl⟩ : ∃ xn : Nat, x = xn := ⟨x.toNat, by omega⟩
                    rw [Int.toNat_natCast] at hset
                    rw [hs1] at hx1
                    have hxl : xn < ns.length := by omega
                    have hx0' : (0 : Int) ≤ (xn : Int) := by omega
                    have hx1' : (xn : Int) < (ns.length : Int) := by omega
                    have HCall := hid hcall
                    have E1 := hid (show ((s.rn.length : Int) - 1) = (s2.rn.length : Int) by (have := hlr; omega))
                    have E2 := hid (show (s.dn.length : Int) = (s2.dn.length : Int) by (rw [hdn2]))
                    have E3 := hid (show ((s.fl.length : Int) + 1) = (s2.fl.length : Int) by (have := hfl2; omega))
                    have hge : 1 ≤ s.rn.length := by omega
                    have hle1 : s.rn.length ≤ 40 ∧ s.dn.length ≤ 40 ∧ s.fl.length ≤ 40 := by have := HI.out.inv.sum; rw [hs1] at this; omega
                    obtain ⟨hle1, hle2, hle3⟩ := hle1
                    have HSET := hid hset
                    have HI2 := hid hi2
                    have HN2 := hid hn2
                    have HL2 := hid hl2
                    have HST := hid hst

                    clear hcall hlr hdn2 hfl2 hset hi2 hn2 hl2 hst hz  hs1
                    go_wp2_with fail
                    refine HCall.out.mono ?_; rintro e wm ⟨r, ownm, rfl, Lm, hom, hcm, ⟨vf, rfl, hrf⟩⟩
                    obtain ⟨of, cf, rfl⟩ := row_len hrf.1
                    clear hrf
                    obtain ⟨a1, a2, a3, a4, a5, a6, a7⟩ := HI.out.step Lm hom hcm HI2.out HN2.out HL2.out
                    have hcx := row_at_cell a5 (stL_length s ns.length) hxl
                    have hfx : wm.frozen? ⟨L, xn, none⟩ = false := frozen_in a5 _
                    rw [stL_getD hxl, HST.out] at hcx
                    have HA5 := hid a5
                    have HLm := hid a1
                    have HA6 := hid a6
                    have HA7 := hid a7
                    have HA3 := hid a3
                    have HA4 := hid a4
                    have HBm : Hid (Below w.heap.size w wm) := hid (HB1.out.trans (a1.below.mono HB1.out.size))
                    clear a1 a2 a3 a4 a5 a6 a7 Lm hom hcm HCall HI
                    go_wp2_with fail
                    have HI : Hid (LI w1.heap.size w1 ownm (wm.setCell ⟨L, xn, none⟩ (.int .i64 3)) b s2 L ns n) := hid ⟨HLm.out.poke HA6.out HA7.out _, HI2.out, HA3.out, HA4.out, poke_cell HA5.out HSET.out, HA6.out, HA7.out⟩
                    generalize wm.setCell ⟨L, xn, none⟩ (.int .i64 3) = ws at *
                    rw [E1.out, E2.out, E3.out]
                    clear E1 E2 E3 HLm HA3 HA4 HA5 HA6 HA7 HI2 HN2 HL2 HST HSET hcx hfx hle1 hle2 hle3 hge

                    have hsum := HI.out.inv.sum
                    have hrl := HI.out.inv.rlim
                    rw [HI.out.needs] at hsum
                    rw [HI.out.limit] at hrl
                    have hb1 : s2.dn.length ≤ 40 := by omega
                    have hb2 : s2.fl.length ≤ 40 := by omega
                    have hb3 : s2.sk.length ≤ 40 := by omega
                    have hb4 : s2.rn.length ≤ 40 := by omega
                    have hcnt := HI.out.live.count
                    have HCnt := hid hcnt
                    clear hcnt
                    go_wp2_with fail
                    refine HCnt.out.mono ?_; rintro e wc ⟨r, ownc, rfl, Lc, hoc, hcc, rfl⟩
                    have HIc := hid (HI.out.same Lc hoc hcc)
                    clear HI HCnt Lc hoc hcc
                    have hx1 : decide (n < (s2.rn.length : Int)) = false := decide_eq_false (by omega)
                    go_wp2_with fail
                    refine HIc.out.live.running.mono ?_; rintro e wq ⟨r, ownq, rfl, Lq, hoq, hcq, hrq⟩
                    obtain ⟨oq, cq, rfl⟩ := row_len hrq.1
                    have HIq := hid (HIc.out.same Lq hoq hcq)
                    clear HIc Lq hoq hcq hrq
                    have hx2 : decide ((ns.length : Int) < (s2.dn.length : Int) + (s2.fl.length : Int) + (s2.sk.length : Int) + (s2.rn.length : Int)) = false := decide_eq_false (by omega)
                    go_wp2_with fail
                    by_cases hdn : s2.wt.length + s2.rn.length = 0
                    · have hdone := HIq.out.live.done
                      rw [decide_eq_true hdn] at hdone
                      have HDone := hid hdone
                      have HDN := hid hdn
                      have hx3 : decide ((s2.dn.length : Int) + (s2.fl.length : Int) + (s2.sk.length : Int) = (ns.length : Int)) = true := decide_eq_true (by omega)
                      have hx4 : ((s2.dn.length : Int) + (s2.fl.length : Int) + (s2.sk.length : Int) != (ns.length : Int)) = false := by rw [bne, beq_iff_eq.2 (by omega)]; rfl
                      clear hdone hdn hsum hrl
                      refine HDone.out.mono ?_; rintro e wd ⟨r, ownd, rfl, Ld, hod, hcd, rfl⟩
                      have HId := hid (HIq.out.same Ld hod hcd)
                      have hdone := HId.out.live.done
                      rw [decide_eq_true HDN.out] at hdone
                      have HDone2 := hid hdone
                      clear HIq Ld hod hcd HDone hdone
                      go_wp2_with fail
                      refine HDone2.out.mono ?_; rintro e we ⟨r, owne, rfl, Le, hoe, hce, rfl⟩
                      have HIe := hid (HId.out.same Le hoe hce)
                      clear HId Le hoe hce HDone2
                      go_wp2_with fail
                      go_roundw
                      case rel => exact ⟨k + 1, _, s2, by omega, by go_num, rfl, rfl, rfl, HIe⟩
                      case measure => simp [intOf]; omega
                    · have hdone := HIq.out.live.done
                      rw [decide_eq_false hdn] at hdone
                      have HDone := hid hdone
                      have HDN := hid hdn
                      clear hdone hsum hrl
                      by_cases hr0 : s2.rn.length = 0
                      · have hx5 : decide ((s2.rn.length : Int) = 0) = true := decide_eq_true (by omega)
                        have hx6 : ((s2.rn.length : Int) == 0) = true := beq_iff_eq.2 (by omega)
                        have hpr := HIq.out.inv.progress (fun e => hdn (by rw [e, hr0]; rfl)) (List.eq_nil_of_length_eq_zero hr0)
                        have hpl : (readyL s2).length ≠ 0 := fun e => hpr (List.eq_nil_of_length_eq_zero e)
                        have hx7 : decide (((readyL s2).length : Int) = 0) = false := decide_eq_false (by omega)
                        have hx8 : (((readyL s2).length : Int) == 0) = false := beq_eq_false_iff_ne.2 (by omega)
                        clear hdn hr0 hpr hpl
                        refine HDone.out.mono ?_; rintro e wd ⟨r, ownd, rfl, Ld, hod, hcd, rfl⟩
                        have HId := hid (HIq.out.same Ld hod hcd)
                        clear HIq Ld hod hcd HDone
                        go_wp2_with fail
                        refine HId.out.live.ready.mono ?_; rintro e wg ⟨r, owng, rfl, Lg, hog, hcg, hrg⟩
                        obtain ⟨og, cg, rfl⟩ := row_len hrg.1
                        have HIg := hid (HId.out.same Lg hog hcg)
                        have hdone := HIg.out.live.done
                        rw [decide_eq_false HDN.out] at hdone
                        have HDone2 := hid hdone
                        clear HId Lg hog hcg hrg hdone
                        go_wp2_with fail
                        refine HDone2.out.mono ?_; rintro e we ⟨r, owne, rfl, Le, hoe, hce, rfl⟩
                        have HIe := hid (HIg.out.same Le hoe hce)
                        clear HIg Le hoe hce HDone2
                        go_wp2_with fail
                        go_roundw
                        case rel => exact ⟨k + 1, _, s2, by omega, by go_num, rfl, rfl, rfl, HIe⟩
                        case measure => simp [intOf]; omega
                      · have hx5 : decide ((s2.rn.length : Int) = 0) = false := decide_eq_false (by omega)
                        have hx6 : ((s2.rn.length : Int) == 0) = false := beq_eq_false_iff_ne.2 (by omega)
                        clear hdn hr0
                        refine HDone.out.mono ?_; rintro e wd ⟨r, ownd, rfl, Ld, hod, hcd, rfl⟩
                        have HId := hid (HIq.out.same Ld hod hcd)
                        have hdone := HId.out.live.done
                        rw [decide_eq_false HDN.out] at hdone
                        have HDone2 := hid hdone
                        clear HIq Ld hod hcd HDone hdone
                        go_wp2_with fail
                        refine HDone2.out.mono ?_; rintro e we ⟨r, owne, rfl, Le, hoe, hce, rfl⟩
                        have HIe := hid (HId.out.same Le hoe hce)
                        clear HId Le hoe hce HDone2
                        go_wp2_with fail
                        go_roundw
                        case rel => exact ⟨k + 1, _, s2, by omega, by go_num, rfl, rfl, rfl, HIe⟩
                        case measure => simp [intOf]; omega
                · as_aux_lemma =>
                    have hcall := HI.out.live.fail x
                    rw [fail_same hz] at hcall
                    have HCall := hid hcall
                    clear hcall
                    generalize (failS s x).1 = c at *
                    have hc1 : decide (c = 0) = false := decide_eq_false hz
                    have hc2 : (c == 0) = false := beq_eq_false_iff_ne.2 hz
                    clear hz
                    go_wp2_with fail
                    refine HCall.out.mono ?_; rintro e wm ⟨r, ownm, rfl, Lm, hom, hcm, ⟨vf, rfl, hrf⟩⟩
                    obtain ⟨of, cf, rfl⟩ := row_len hrf.1
                    clear hrf
                    have HIm := hid (HI.out.same Lm hom hcm)
                    clear HI HCall Lm hom hcm
                    have HI := HIm
                    clear HIm

                    have hsum := HI.out.inv.sum
                    have hrl := HI.out.inv.rlim
                    rw [HI.out.needs] at hsum
                    rw [HI.out.limit] at hrl
                    have hb1 : s.dn.length ≤ 40 := by omega
                    have hb2 : s.fl.length ≤ 40 := by omega
                    have hb3 : s.sk.length ≤ 40 := by omega
                    have hb4 : s.rn.length ≤ 40 := by omega
                    have hcnt := HI.out.live.count
                    have HCnt := hid hcnt
                    clear hcnt
                    go_wp2_with fail
                    refine HCnt.out.mono ?_; rintro e wc ⟨r, ownc, rfl, Lc, hoc, hcc, rfl⟩
                    have HIc := hid (HI.out.same Lc hoc hcc)
                    clear HI HCnt Lc hoc hcc
                    have hx1 : decide (n < (s.rn.length : Int)) = false := decide_eq_false (by omega)
                    go_wp2_with fail
                    refine HIc.out.live.running.mono ?_; rintro e wq ⟨r, ownq, rfl, Lq, hoq, hcq, hrq⟩
                    obtain ⟨oq, cq, rfl⟩ := row_len hrq.1
                    have HIq := hid (HIc.out.same Lq hoq hcq)
                    clear HIc Lq hoq hcq hrq
                    have hx2 : decide ((ns.length : Int) < (s.dn.length : Int) + (s.fl.length : Int) + (s.sk.length : Int) + (s.rn.length : Int)) = false := decide_eq_false (by omega)
                    go_wp2_with fail
                    by_cases hdn : s.wt.length + s.rn.length = 0
                    · have hdone := HIq.out.live.done
                      rw [decide_eq_true hdn] at hdone
                      have HDone := hid hdone
                      have HDN := hid hdn
                      have hx3 : decide ((s.dn.length : Int) + (s.fl.length : Int) + (s.sk.length : Int) = (ns.length : Int)) = true := decide_eq_true (by omega)
                      have hx4 : ((s.dn.length : Int) + (s.fl.length : Int) + (s.sk.length : Int) != (ns.length : Int)) = false := by rw [bne, beq_iff_eq.2 (by omega)]; rfl
                      clear hdone hdn hsum hrl
                      refine HDone.out.mono ?_; rintro e wd ⟨r, ownd, rfl, Ld, hod, hcd, rfl⟩
                      have HId := hid (HIq.out.same Ld hod hcd)
                      have hdone := HId.out.live.done
                      rw [decide_eq_true HDN.out] at hdone
                      have HDone2 := hid hdone
                      clear HIq Ld hod hcd HDone hdone
                      go_wp2_with fail
                      refine HDone2.out.mono ?_; rintro e we ⟨r, owne, rfl, Le, hoe, hce, rfl⟩
                      have HIe := hid (HId.out.same Le hoe hce)
                      clear HId Le hoe hce HDone2
                      go_wp2_with fail
                      go_roundw
                      case rel => exact ⟨k + 1, _, s, by omega, by go_num, rfl, rfl, rfl, HIe⟩
                      case measure => simp [intOf]; omega
                    · have hdone := HIq.out.live.done
                      rw [decide_eq_false hdn] at hdone
                      have HDone := hid hdone
                      have HDN := hid hdn
                      clear hdone hsum hrl
                      by_cases hr0 : s.rn.length = 0
                      · have hx5 : decide ((s.rn.length : Int) = 0) = true := decide_eq_true (by omega)
                        have hx6 : ((s.rn.length : Int) == 0) = true := beq_iff_eq.2 (by omega)
                        have hpr := HIq.out.inv.progress (fun e => hdn (by rw [e, hr0]; rfl)) (List.eq_nil_of_length_eq_zero hr0)
                        have hpl : (readyL s).length ≠ 0 := fun e => hpr (List.eq_nil_of_length_eq_zero e)
                        have hx7 : decide (((readyL s).length : Int) = 0) = false := decide_eq_false (by omega)
                        have hx8 : (((readyL s).length : Int) == 0) = false := beq_eq_false_iff_ne.2 (by omega)
                        clear hdn hr0 hpr hpl
                        refine HDone.out.mono ?_; rintro e wd ⟨r, ownd, rfl, Ld, hod, hcd, rfl⟩
                        have HId := hid (HIq.out.same Ld hod hcd)
                        clear HIq Ld hod hcd HDone
                        go_wp2_with fail
                        refine HId.out.live.ready.mono ?_; rintro e wg ⟨r, owng, rfl, Lg, hog, hcg, hrg⟩
                        obtain ⟨og, cg, rfl⟩ := row_len hrg.1
                        have HIg := hid (HId.out.same Lg hog hcg)
                        have hdone := HIg.out.live.done
                        rw [decide_eq_false HDN.out] at hdone
                        have HDone2 := hid hdone
                        clear HId Lg hog hcg hrg hdone
                        go_wp2_with fail
                        refine HDone2.out.mono ?_; rintro e we ⟨r, owne, rfl, Le, hoe, hce, rfl⟩
                        have HIe := hid (HIg.out.same Le hoe hce)
                        clear HIg Le hoe hce HDone2
                        go_wp2_with fail
                        go_roundw
                        case rel => exact ⟨k + 1, _, s, by omega, by go_num, rfl, rfl, rfl, HIe⟩
                        case measure => simp [intOf]; omega
                      · have hx5 : decide ((s.rn.length : Int) = 0) = false := decide_eq_false (by omega)
                        have hx6 : ((s.rn.length : Int) == 0) = false := beq_eq_false_iff_ne.2 (by omega)
                        clear hdn hr0
                        refine HDone.out.mono ?_; rintro e wd ⟨r, ownd, rfl, Ld, hod, hcd, rfl⟩
                        have HId := hid (HIq.out.same Ld hod hcd)
                        have hdone := HId.out.live.done
                        rw [decide_eq_false HDN.out] at hdone
                        have HDone2 := hid hdone
                        clear HIq Ld hod hcd HDone hdone
                        go_wp2_with fail
                        refine HDone2.out.mono ?_; rintro e we ⟨r, owne, rfl, Le, hoe, hce, rfl⟩
                        have HIe := hid (HId.out.same Le hoe hce)
                        clear HId Le hoe hce HDone2
                        go_wp2_with fail
                        go_roundw
                        case rel => exact ⟨k + 1, _, s, by omega, by go_num, rfl, rfl, rfl, HIe⟩
                        case measure => simp [intOf]; omega
              · have d0 : decide (K = 0) = false := decide_eq_false hK0
                have d1 : decide (K = 1) = false := decide_eq_false hK1
                have d2 : decide (K = 2) = false := decide_eq_false hK2
                have e0 : (K == 0) = false := beq_eq_false_iff_ne.2 hK0
                have e1 : (K == 1) = false := beq_eq_false_iff_ne.2 hK1
                have e2 : (K == 2) = false := beq_eq_false_iff_ne.2 hK2
                clear hK0 hK1 hK2

                have hsum := HI.out.inv.sum
                have hrl := HI.out.inv.rlim
                rw [HI.out.needs] at hsum
                rw [HI.out.limit] at hrl
                have hb1 : s.dn.length ≤ 40 := by omega
                have hb2 : s.fl.length ≤ 40 := by omega
                have hb3 : s.sk.length ≤ 40 := by omega
                have hb4 : s.rn.length ≤ 40 := by omega
                have hcnt := HI.out.live.count
                have HCnt := hid hcnt
                clear hcnt
                go_wp2_with fail
                refine HCnt.out.mono ?_; rintro e wc ⟨r, ownc, rfl, Lc, hoc, hcc, rfl⟩
                have HIc := hid (HI.out.same Lc hoc hcc)
                clear HI HCnt Lc hoc hcc
                have hx1 : decide (n < (s.rn.length : Int)) = false := decide_eq_false (by omega)
                go_wp2_with fail
                refine HIc.out.live.running.mono ?_; rintro e wq ⟨r, ownq, rfl, Lq, hoq, hcq, hrq⟩
                obtain ⟨oq, cq, rfl⟩ := row_len hrq.1
                have HIq := hid (HIc.out.same Lq hoq hcq)
                clear HIc Lq hoq hcq hrq
                have hx2 : decide ((ns.length : Int) < (s.dn.length : Int) + (s.fl.length : Int) + (s.sk.length : Int) + (s.rn.length : Int)) = false := decide_eq_false (by omega)
                go_wp2_with fail
                by_cases hdn : s.wt.length + s.rn.length = 0
                · have hdone := HIq.out.live.done
                  rw [decide_eq_true hdn] at hdone
                  have HDone := hid hdone
                  have HDN := hid hdn
                  have hx3 : decide ((s.dn.length : Int) + (s.fl.length : Int) + (s.sk.length : Int) = (ns.length : Int)) = true := decide_eq_true (by omega)
                  have hx4 : ((s.dn.length : Int) + (s.fl.length : Int) + (s.sk.length : Int) != (ns.length : Int)) = false := by rw [bne, beq_iff_eq.2 (by omega)]; rfl
                  clear hdone hdn hsum hrl
                  refine HDone.out.mono ?_; rintro e wd ⟨r, ownd, rfl, Ld, hod, hcd, rfl⟩
                  have HId := hid (HIq.out.same Ld hod hcd)
                  have hdone := HId.out.live.done
                  rw [decide_eq_true HDN.out] at hdone
                  have HDone2 := hid hdone
                  clear HIq Ld hod hcd HDone hdone
                  go_wp2_with fail
                  refine HDone2.out.mono ?_; rintro e we ⟨r, owne, rfl, Le, hoe, hce, rfl⟩
                  have HIe := hid (HId.out.same Le hoe hce)
                  clear HId Le hoe hce HDone2
                  go_wp2_with fail
                  go_roundw
                  case rel => exact ⟨k + 1, _, s, by omega, by go_num, rfl, rfl, rfl, HIe⟩
                  case measure => simp [intOf]; omega
                · have hdone := HIq.out.live.done
                  rw [decide_eq_false hdn] at hdone
                  have HDone := hid hdone
                  have HDN := hid hdn
                  clear hdone hsum hrl
                  by_cases hr0 : s.rn.length = 0
                  · have hx5 : decide ((s.rn.length : Int) = 0) = true := decide_eq_true (by omega)
                    have hx6 : ((s.rn.length : Int) == 0) = true := beq_iff_eq.2 (by omega)
                    have hpr := HIq.out.inv.progress (fun e => hdn (by rw [e, hr0]; rfl)) (List.eq_nil_of_length_eq_zero hr0)
                    have hpl : (readyL s).length ≠ 0 := fun e => hpr (List.eq_nil_of_length_eq_zero e)
                    have hx7 : decide (((readyL s).length : Int) = 0) = false := decide_eq_false (by omega)
                    have hx8 : (((readyL s).length : Int) == 0) = false := beq_eq_false_iff_ne.2 (by omega)
                    clear hdn hr0 hpr hpl
                    refine HDone.out.mono ?_; rintro e wd ⟨r, ownd, rfl, Ld, hod, hcd, rfl⟩
                    have HId := hid (HIq.out.same Ld hod hcd)
                    clear HIq Ld hod hcd HDone
                    go_wp2_with fail
                    refine HId.out.live.ready.mono ?_; rintro e wg ⟨r, owng, rfl, Lg, hog, hcg, hrg⟩
                    obtain ⟨og, cg, rfl⟩ := row_len hrg.1
                    have HIg := hid (HId.out.same Lg hog hcg)
                    have hdone := HIg.out.live.done
                    rw [decide_eq_false HDN.out] at hdone
                    have HDone2 := hid hdone
                    clear HId Lg hog hcg hrg hdone
                    go_wp2_with fail
                    refine HDone2.out.mono ?_; rintro e we ⟨r, owne, rfl, Le, hoe, hce, rfl⟩
                    have HIe := hid (HIg.out.same Le hoe hce)
                    clear HIg Le hoe hce HDone2
                    go_wp2_with fail
                    go_roundw
                    case rel => exact ⟨k + 1, _, s, by omega, by go_num, rfl, rfl, rfl, HIe⟩
                    case measure => simp [intOf]; omega
                  · have hx5 : decide ((s.rn.length : Int) = 0) = false := decide_eq_false (by omega)
                    have hx6 : ((s.rn.length : Int) == 0) = false := beq_eq_false_iff_ne.2 (by omega)
                    clear hdn hr0
                    refine HDone.out.mono ?_; rintro e wd ⟨r, ownd, rfl, Ld, hod, hcd, rfl⟩
                    have HId := hid (HIq.out.same Ld hod hcd)
                    have hdone := HId.out.live.done
                    rw [decide_eq_false HDN.out] at hdone
                    have HDone2 := hid hdone
                    clear HIq Ld hod hcd HDone hdone
                    go_wp2_with fail
                    refine HDone2.out.mono ?_; rintro e we ⟨r, owne, rfl, Le, hoe, hce, rfl⟩
                    have HIe := hid (HId.out.same Le hoe hce)
                    clear HId Le hoe hce HDone2
                    go_wp2_with fail
                    go_roundw
                    case rel => exact ⟨k + 1, _, s, by omega, by go_num, rfl, rfl, rfl, HIe⟩
                    case measure => simp [intOf]; omega
        · have L0 := hid HI.out.live
          clear HI
          go_wp2_with fail
          refine (awake_any _).mono ?_; rintro e w5 ⟨rfl, hb⟩
          go_wp2_with fail
          go_ret
          exact ⟨rfl, HBw.out.trans (hb.mono HBw.out.size)⟩

theorem readable : ∀ t ∈ #[22, 3, 38].toList, Try.prog.readableRec t = true ∧ t < Try.prog.types.size := by
  intro t ht
  have r3 : Try.prog.readableRec 3 = true ∧ 3 < Try.prog.types.size := ⟨by kernel_rfl, of_decide_eq_true (by kernel_rfl)⟩
  have r22 : Try.prog.readableRec 22 = true ∧ 22 < Try.prog.types.size := ⟨by kernel_rfl, of_decide_eq_true (by kernel_rfl)⟩
  have r38 : Try.prog.readableRec 38 = true ∧ 38 < Try.prog.types.size := ⟨by kernel_rfl, of_decide_eq_true (by kernel_rfl)⟩
  have hm : t = 22 ∨ t = 3 ∨ t = 38 := by simpa using ht
  rcases hm with rfl | rfl | rfl <;> assumption

theorem walkD {H : Type} (enc : TypeId × Value → H) (W : World) (base : Nat) (args : Array Value) (ds : List (DataW H)) (p : List MemPlace)
    (hval : ∀ (j : Nat) t v, #[22, 3, 38][j]? = some t → args[j]? = some v → Value.okWide Try.prog W .any base t v)
    (hA : DataW.TrodAll enc Try.prog W 0 (fun _ => true) true #[22, 3, 38].toList args.toList ds p) :
    (Calls Try.prog 5 args W (BOOL W.heap.size W)) ∧
    ((Rows.scheduleInterleavingsSpec.fn H (ds ++ [])).results = [.lit (.bool true)] ∧ (Rows.scheduleInterleavingsSpec.fn H (ds ++ [])).args = ds ∧ (Rows.scheduleInterleavingsSpec.fn H (ds ++ [])).vars = []) := by
  obtain ⟨v0, vs0, d0, ds0, p0, q0, hargs, rfl, rfl, h0, r0⟩ := trodAll_cons hA
  obtain ⟨v1, vs1, d1, ds1, p1, q1, rfl, rfl, rfl, h1, r1⟩ := trodAll_cons r0
  obtain ⟨v2, vs2, d2, ds2, p2, q2, rfl, rfl, rfl, h2, r2⟩ := trodAll_cons r1
  obtain ⟨rfl, rfl, rfl⟩ := trodAll_nil r2
  obtain rfl : args = #[v0, v1, v2] := by cases args; simp_all
  obtain ⟨ns0, hN0, hl0, hll0⟩ := open_rows (hval 0 22 v0 rfl rfl) h0
  obtain ⟨a1, rfl, rfl, rfl, w1⟩ := open_int Try.underlying3 (hval 1 3 v1 rfl rfl) h1
  obtain ⟨oc, lc, cc, kd, nm, rfl, hlc, hbc⟩ := open_acts (hval 2 38 v2 rfl rfl) h2
  exact ⟨walk v0 ns0 a1 oc lc cc kd nm W hN0 hl0 hll0 w1 hlc hbc, rfl, rfl, rfl⟩

/-! ### The row -/
set_option maxRecDepth 100000 in
theorem lifted (os : Os) (started : os.Started) (H : Type) (enc : TypeId × Value → H) :
    ReturnsInHanded {} Try.checked os 5 .any (Rows.scheduleInterleavingsSpec.pre6 enc Try.prog Try.f5 Rows.scheduleInterleavingsRow.domain false) (Rows.scheduleInterleavingsSpec.post enc Try.prog Try.f5 false true false false) := by
  refine returnsInHanded_of_change (C := Try.checked) own started (by kernel_rfl) Try.func5
    (ChangeSpec.witness6 (enc := enc) (C := Try.checked) false ⟨#[], #[.slice none 0 0, .int .i64 0, .slice none 0 0], []⟩ 8 (by kernel_rfl) (by kernel_rfl) (by kernel_rfl) (by kernel_rfl)) ?_
  intro W base args ds gs before hval0 hW _ _
  have hW' := hW
  obtain ⟨p, q, hA, hV, _, _, _⟩ := hW
  obtain ⟨rfl, rfl⟩ := trodVars_none hV
  rw [Try.params5] at hA hval0
  obtain ⟨hcall, hds⟩ := walkD enc W base args ds p hval0 hA
  exact hcall.mono fun e W' ⟨he, hb⟩ => ⟨_, he, law_post hW' rfl (by rw [Try.params5]; exact readable) rfl hds hb⟩

theorem over : Rows.scheduleInterleavingsRow.holds Try.pinned (OpenSpec.ofChange Rows.scheduleInterleavingsSpec) :=
  OpenClaim.holds_of_wide 5 Try.f5 rfl rfl rfl rfl rfl rfl rfl ⟨rfl, rfl, rfl, rfl, rfl⟩ rfl rfl rfl rfl rfl (by kernel_rfl) Try.func5 (by kernel_rfl)
    (of_decide_eq_true (by kernel_rfl)) (by unfold Func.isWrapper; first | (rw [if_pos (by decide +kernel)]; kernel_rfl) | (rw [if_neg (by decide +kernel)]; exact ⟨rfl, rfl⟩))
    (fun os started H enc _ => lifted os started H enc)

theorem proved : Rows.ScheduleInterleavingsSaid :=
  over
#print axioms proved
end Go.Proofs.Ytoaellmjgejgfaa.scheduleInterleavings
