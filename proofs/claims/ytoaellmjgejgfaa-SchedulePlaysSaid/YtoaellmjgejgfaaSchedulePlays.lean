/- The statement SchedulePlays holds of the given program for every input. -/
import Derived.Test.YtoaellmjgejgfaaPlayI
import Derived.Deep.RegionHeld3
import Derived.Deep.DeepCutAuto
import Derived.Deep.CutBlock
namespace Go.Proofs.Ytoaellmjgejgfaa.schedulePlays
open Go.ChangeShapes Go.WideShapes Go.ChangeAt Go.RowKit Go.BigFrame Go.Proofs.Ytoaellmjgejgfaa.Steady
open Go.ChangeMaps (open_string shut_string)
set_option linter.unusedVariables false

theorem few_nd {ns : List (List Int)} (h : fewB ns = true) : ∀ j, j < ns.length → (nd ns j).length ≤ 50000 := fun j hj => by
  have := (few_spec h).2 (nd ns j) (by rw [nd, List.getD_eq_getElem?_getD, List.getElem?_eq_getElem hj]; exact List.getElem_mem hj)
  omega

set_option maxRecDepth 100000 in
set_option maxHeartbeats 20000000 in
theorem walk (v : Value) (ns : List (List Int)) (n : Int) (oc : Option Addr) (lc cc : Nat) (kd nm : Nat → Int) (w : World) (hN : NView w v ns) (hl : ns.length ≤ 9223372036854775807) (hll : ∀ l ∈ ns, l.length ≤ 9223372036854775807) (wn : (Lit.int .i64 n).wf = true)
    (hlc : lc ≤ 9223372036854775807) (hB : Acts w oc lc kd nm) :
    Calls Try.prog 8 #[v, .int .i64 n, .slice oc lc cc] w (BOOL w.heap.size w) := by
  clear wn
  have hfew := few_any w v ns hN hl hll
  obtain ⟨oa, ca, rfl⟩ := hN.len
  have HN := hid hN
  have HBY := hid hB
  cases hf : fewB ns with
  | false =>
    rw [hf] at hfew
    have Hfew := hid hfew
    clear hfew hN hll hf hB
    go_enter Try.func8, Try.ntmps8
    go_wp2_with fail
    refine Hfew.out.mono ?_; rintro e w' ⟨rfl, rfl⟩
    go_wp2_with fail
    refine (awake_any _).mono ?_; rintro e w5 ⟨rfl, hb⟩
    go_wp2_with fail
    go_ret
    exact ⟨rfl, hb⟩
  | true =>
    rw [hf] at hfew
    have hfs := few_spec hf
    have Hfew := hid hfew
    have HF := hid hf
    have hlen := hfs.1
    obtain ⟨us, hus1, hus2, hus3⟩ := hN
    have HU1 := hid hus1
    have HU2 := hid hus2
    have HU3 := hid hus3
    clear hfew hll hf hfs hB hus1 hus2 hus3
    by_cases hlc2 : 120 < lc
    · go_enter Try.func8, Try.ntmps8
      go_wp2_with fail
      refine Hfew.out.mono ?_; rintro e w' ⟨rfl, rfl⟩
      go_wp2_with fail
      refine (awake_any _).mono ?_; rintro e w5 ⟨rfl, hb⟩
      go_wp2_with fail
      go_ret
      exact ⟨rfl, hb⟩
    go_enter Try.func8, Try.ntmps8
    go_wp2_with fail
    refine Hfew.out.mono ?_; rintro e w' ⟨rfl, rfl⟩
    go_wp2_with fail
    refine (steps_us w _ ns us HU1.out HU2.out HU3.out (by omega)).mono ?_; rintro e w1 ⟨v1, rfl, hs1, hb1⟩
    have HV1 : Hid (∀ (i : Nat) u l, us[i]? = some u → ns[i]? = some l → View w1 u l) := hid fun i u l hu hl => (HU3.out i u l hu hl).keep (Keeps.below hb1)
    have HS1 := hid (hs1.view HU2.out HV1.out)
    have HB1 := hid hb1
    clear hs1 hb1
    go_wp2_with fail
    refine (new_any w1 v1 ns HS1.out n (by omega) (few_nd HF.out)).mono ?_; rintro e w2 hp
    rcases hp with ⟨c, hc, hcode, rfl, hb2⟩ | ⟨b, own, order, hcode, rfl, hb2, hsch, hos, hof, hval, hl1, hl2, hlow, hbs⟩
    · have HB2 := hid (HB1.out.trans (hb2.mono HB1.out.size))
      have HCode := hid hcode
      have HC0 := hid hc
      have hd1 : decide (c = 0) = false := decide_eq_false hc
      have hd2 : (c == 0) = false := beq_eq_false_iff_ne.2 hc
      have hd3 : (c != 0) = true := by rw [bne, hd2]; rfl
      clear hb2 hcode hc
      go_wp2_with fail
      refine (steps_us w2 _ ns us (HU1.out.keep (Keeps.below HB2.out)) HU2.out (fun i u l hu hl => (HU3.out i u l hu hl).keep (Keeps.below HB2.out)) (by omega)).mono ?_; rintro e w3 ⟨v3, rfl, hs3, hb3⟩
      have HS3 := hid hs3
      have HB3 := hid (HB2.out.trans (hb3.mono HB2.out.size))
      clear hs3 hb3
      go_wp2_with fail
      refine (rnew_us w3 v3 ns us HU2.out (fun i u l hu hl => (HU3.out i u l hu hl).keep (Keeps.below HB3.out)) HS3.out n (by omega) (few_nd HF.out)).mono ?_; rintro e w4 ⟨vr, rfl, hb4, hr⟩
      rcases hr with ⟨_, rfl⟩ | ⟨h0, _⟩
      · have HB4 := hid (HB3.out.trans (hb4.mono HB3.out.size))
        have hcode := HCode.out
        rw [hcode]
        unfold zeroR
        clear hb4 hcode
        have hd4 : decide (c = c) = true := decide_eq_true rfl
        have hd5 : (c != c) = false := by simp
        go_wp2_with fail
        have HB5 := hid (HB4.out.alloc HB4.out.size (.cells #[.slice none 0 0, .int .i64 0, .slice none 0 0] 33))
        refine (awake_any _).mono ?_; rintro e w5 ⟨rfl, hb⟩
        go_wp2_with fail
        go_ret
        exact ⟨rfl, HB5.out.trans (hb.mono HB5.out.size)⟩
      · exact absurd (HCode.out.symm.trans h0) HC0.out
    · have hinv := inv_new (by omega) (few_nd HF.out) hval hos hof hl1
      have hlive : Live w1.heap.size w1 own w2 b (stNew ns order n) := live_new (by omega) (few_nd HF.out) hb2 hsch hos hl1 hlow
      have HB2 := hid (HB1.out.trans (hb2.mono HB1.out.size))
      have HCode := hid hcode
      have HInv := hid hinv
      have HLive := hid hlive
      clear hcode hb2 hsch hos hof hval hlow hbs hinv hlive hl1 hl2
      go_wp2_with fail
      refine (steps_us w2 _ ns us (HU1.out.keep (Keeps.below HB2.out)) HU2.out (fun i u l hu hl => (HU3.out i u l hu hl).keep (Keeps.below HB2.out)) (by omega)).mono ?_; rintro e w3 ⟨v3, rfl, hs3, hb3⟩
      have HS3 := hid hs3
      have HBx := hid hb3
      have HB3 := hid (HB2.out.trans (hb3.mono HB2.out.size))
      clear hs3 hb3
      go_wp2_with fail
      refine (rnew_us w3 v3 ns us HU2.out (fun i u l hu hl => (HU3.out i u l hu hl).keep (Keeps.below HB3.out)) HS3.out n (by omega) (few_nd HF.out)).mono ?_; rintro e w4 ⟨vr, rfl, hb4, hr⟩
      rcases hr with ⟨h0, _⟩ | ⟨_, vn, vs0, rfl, hcv, hg1, hrow, hg2⟩
      · exact absurd HCode.out h0
      have hI0 := pi_new HB1.out HLive.out HInv.out HBx.out hb4 hcv hg1 hrow hg2 HU2.out HU3.out
      have I0 := hid hI0
      have hcode := HCode.out
      rw [hcode]
      obtain ⟨on, cn, rfl⟩ := hcv.len
      obtain ⟨ov, cv, rfl⟩ := row_len hrow
      rw [List.length_replicate] at I0
      clear hb4 hcode hcv hg1 hrow hg2 hI0 HS1 HV1 HLive HInv HBx HS3
      go_wp2_with fail
      try rw [List.length_replicate]
      generalize hXX : w4.alloc (.cells #[.slice on us.length cn, .int .i64 n, .slice ov ns.length cv] 33) = w5 at *
      generalize hX : w4.heap.size = X at *
      clear hXX hX
      generalize own2 (own2 (own2 own w2 0) w3 0) w4 11 = own5 at *
      go_loopw [11] (fun i wr => ∃ (k : Nat) (own : Nat → Nat) (s : St) (vs : Value), k ≤ lc ∧ i = .int .i64 k ∧ Hid (PI w w1 b X ns us n (.slice on us.length cn) vs own s wr)) (fun i _ => lc - (intOf i).toNat)
      case atStart => exact ⟨0, _, _, _, Nat.zero_le _, rfl, I0⟩
      case round =>
        obtain ⟨k, own1, s, vs, hk, rfl, HI⟩ := hrel
        clear I0
        obtain ⟨ov1, cv1, rfl⟩ := row_len HI.out.row.1
        generalize us.length = un at *
        generalize (rst s).length = sn at *
        have HBw : Hid (Below w.heap.size w wr) := hid HI.out.low
        by_cases hlt : k < lc
        · obtain ⟨gc, oo, rfl, hkd0, hnm0⟩ := HBY.out k hlt
          have hkd := Keeps.below HBw.out _ _ _ hkd0
          have hnm := Keeps.below HBw.out _ _ _ hnm0
          have hk0 : (0 : Int) ≤ (k : Int) := by omega
          have hk1 : (k : Int) < (lc : Int) := by omega
          generalize kd k = K at *
          generalize nm k = x at *
          obtain ⟨x0, x1, x2⟩ := HI.out.cells
          go_upto_block 2 with (fail)
          go_cut [12] (fun _ wx => ∃ (own' : Nat → Nat) (s' : St) (vs' : Value), Hid (PI w w1 b X ns us n (.slice on un cn) vs' own' s' wx))
          case first =>
            by_cases hK0 : K = 0
            · subst hK0
              as_aux_lemma =>
                go_upto_region 14 with (fail)
                go_cut [12, 13] (fun y c wx => ∃ (Y : Nat) (own' : Nat → Nat) (vs' : Value), y = .pointer (some ⟨Y, 0, none⟩) ∧ c = .int .i64 (beginS s x).1 ∧ Hid (Next w w1 b X ns us n (.slice on un cn) (.slice ov1 sn cv1) s (rst (beginS s x).2) Y vs' own' wx))
                case first =>
                  have hcall : ∀ W0, Below wr.heap.size wr W0 → Calls Try.prog 24 #[.agg #[.slice on un cn, .int .i64 n, .slice ov1 sn cv1], .int .i64 x] W0 (RPost (.slice on un cn) (.slice ov1 sn cv1) n (beginS s x).1 (rst (beginS s x).2) W0) := fun W0 hb0 => by
                    have := rbegin_any W0 (.slice on un cn) (.slice ov1 sn cv1) n ns (rst s) x (HI.out.nview.keep (Keeps.below hb0)) (row_below HI.out.row.1 hb0) HI.out.fit
                    have e := HI.out.inv.beg_eq x
                    rw [HI.out.needs, HI.out.lim] at e
                    rw [e] at this
                    exact this
                  have HCall := hid hcall
                  have HB0 : Hid (Below wr.heap.size wr (wr.alloc (.cells #[.slice none 0 0, .int .i64 0, .slice none 0 0] 33))) := hid ((Below.refl _ _).alloc (Nat.le_refl _) _)
                  have e0 := World.new_ne wr _ x0
                  have e1 := World.new_ne wr _ hnm
                  generalize hcd : (beginS s x).1 = cd at *
                  generalize hst : rst (beginS s x).2 = st' at *
                  clear hcall hcd hst
                  go_region_held3 (fun v => v.cell? ⟨X, 0, none⟩ = some (.slice on un cn) ∧ v.cell? ⟨X, 1, none⟩ = some (.int .i64 n) ∧ v.cell? ⟨X, 2, none⟩ = some (.slice ov1 sn cv1) ∧ v.cell? ⟨gc, oo + k * 2 + 1, none⟩ = some (.int .i64 x)) (go_keep) (first | (go_at_call 24; refine (HCall.out wr.drew (below_drewN (Below.refl _ _) 1)).mono ?_; rintro e w' ⟨vs', rfl, hr, hf, hb⟩; obtain ⟨o5, c5, rfl⟩ := row_len hr; generalize st'.length = tn at *; have c0 := Keeps.below (w := wr.drew) hb _ _ _ x0; have c1 := Keeps.below (w := wr.drew) hb _ _ _ x1; have c2 := Keeps.below (w := wr.drew) hb _ _ _ x2; have c3 := Keeps.below (w := wr.drew) hb _ _ _ hnm; have NXT := hid (HI.out.next1 (show Below wr.heap.size wr w' from ⟨hb.os, hb.tape, hb.output, hb.size, hb.block⟩) hr hf); clear hr hf hb) | (go_at_call 24; refine (HCall.out (wr.alloc (.cells #[.slice none 0 0, .int .i64 0, .slice none 0 0] 33)).drew (below_drewN HB0.out 1)).mono ?_; rintro e w' ⟨vs', rfl, hr, hf, hb⟩; obtain ⟨o5, c5, rfl⟩ := row_len hr; generalize st'.length = tn at *; have c0 := Keeps.below (w := (wr.alloc (.cells #[.slice none 0 0, .int .i64 0, .slice none 0 0] 33)).drew) hb _ _ _ (Keeps.below HB0.out _ _ _ x0); have c1 := Keeps.below (w := (wr.alloc (.cells #[.slice none 0 0, .int .i64 0, .slice none 0 0] 33)).drew) hb _ _ _ (Keeps.below HB0.out _ _ _ x1); have c2 := Keeps.below (w := (wr.alloc (.cells #[.slice none 0 0, .int .i64 0, .slice none 0 0] 33)).drew) hb _ _ _ (Keeps.below HB0.out _ _ _ x2); have c3 := Keeps.below (w := (wr.alloc (.cells #[.slice none 0 0, .int .i64 0, .slice none 0 0] 33)).drew) hb _ _ _ (Keeps.below HB0.out _ _ _ hnm); have hsz : (wr.alloc (.cells #[.slice none 0 0, .int .i64 0, .slice none 0 0] 33)).drew.heap.size = wr.heap.size + 1 := (by simp); have hY := (hb.block wr.heap.size (by rw [hsz]; omega)).trans (heap_alloc_at wr (.cells #[.slice none 0 0, .int .i64 0, .slice none 0 0] 33)); have z0 := (cells_in hY 0).trans rfl; have z1 := (cells_in hY 1).trans rfl; have z2 := (cells_in hY 2).trans rfl; have zf := (fun o => frozen_in hY o); have NXT := hid (HI.out.next2 (.slice none 0 0) (.int .i64 0) (.slice none 0 0) (show Below (wr.heap.size + 1) (wr.alloc (.cells #[.slice none 0 0, .int .i64 0, .slice none 0 0] 33)) w' from ⟨hb.os, hb.tape, hb.output, hb.size, fun k hk => hb.block k (by rw [hsz]; exact hk)⟩) hr (by rw [← hsz]; exact hf)); clear hr hf hb))
                  all_goals (go_wp2_with fail; go_meet; exact ⟨_, _, _, rfl, rfl, NXT⟩)
                case rest =>
                  obtain ⟨Y, own', vs', rfl, rfl, NXT⟩ := hcut
                  have HP := hid NXT.out.1
                  have HNN := hid NXT.out.2.1
                  have HX := hid NXT.out.2.2
                  have hnm2 := Keeps.below HP.out.low _ _ _ hnm0
                  have hcall := HP.out.live.begin_ x
                  have HCall := hid hcall
                  have hinv := HP.out.inv.begin_ x
                  have HINV := hid hinv
                  have hnd := begin_needs s x
                  have hlm := begin_lim s x
                  have HND := hid hnd
                  have HLM := hid hlm
                  obtain ⟨o5, c5, rfl⟩ := row_len HNN.out.row.1
                  generalize (rst (beginS s x).2).length = tn at *
                  generalize hcd : (beginS s x).1 = cd at *
                  generalize (beginS s x).2 = s2 at *
                  have hd1 : decide (cd = cd) = true := decide_eq_true rfl
                  have hd2 : (cd != cd) = false := by simp
                  clear hcall hcd hinv hnd hlm NXT HI hkd hnm x0 x1 x2
                  go_wp2_with fail
                  refine HCall.out.mono ?_; rintro e wm ⟨r, ownm, rfl, Lm, hom, hcm, rfl⟩
                  have HX2 := hid (HX.out.keep hom hcm)
                  have hb2 := HX2.out.cells
                  obtain ⟨y0, y1, y2⟩ := hb2
                  have hxb := (hcm.block X HP.out.ltX (fun e => by have := e.2; have := HP.out.ownX; omega)).trans HP.out.box
                  have q0 := (cells_in hxb 0).trans rfl
                  have q1 := (cells_in hxb 1).trans rfl
                  have q2 := (cells_in hxb 2).trans rfl
                  have qf := fun o => frozen_in hxb o
                  have HIe := hid (HP.out.put HNN.out Lm hom hcm HINV.out (HND.out) (HLM.out))
                  clear HP HNN HX HX2 Lm hom hcm hxb
                  go_wp2_with fail
                  go_meet
                  exact ⟨_, _, _, HIe⟩
            · by_cases hK1 : K = 1
              · subst hK1
                as_aux_lemma =>
                  go_upto_region 19 with (fail)
                  go_cut [14, 15] (fun y c wx => ∃ (Y : Nat) (own' : Nat → Nat) (vs' : Value), y = .pointer (some ⟨Y, 0, none⟩) ∧ c = .int .i64 (finishS s x).1 ∧ Hid (Next w w1 b X ns us n (.slice on un cn) (.slice ov1 sn cv1) s (rst (finishS s x).2) Y vs' own' wx))
                  case first =>
                    have hcall : ∀ W0, Below wr.heap.size wr W0 → Calls Try.prog 25 #[.agg #[.slice on un cn, .int .i64 n, .slice ov1 sn cv1], .int .i64 x] W0 (RPost (.slice on un cn) (.slice ov1 sn cv1) n (finishS s x).1 (rst (finishS s x).2) W0) := fun W0 hb0 => by
                      have := rfinish_any W0 (.slice on un cn) (.slice ov1 sn cv1) n ns (rst s) x (HI.out.nview.keep (Keeps.below hb0)) (row_below HI.out.row.1 hb0) HI.out.fit
                      have e := HI.out.inv.fin_eq x
                      skip
                      rw [e] at this
                      exact this
                    have HCall := hid hcall
                    have HB0 : Hid (Below wr.heap.size wr (wr.alloc (.cells #[.slice none 0 0, .int .i64 0, .slice none 0 0] 33))) := hid ((Below.refl _ _).alloc (Nat.le_refl _) _)
                    have e0 := World.new_ne wr _ x0
                    have e1 := World.new_ne wr _ hnm
                    generalize hcd : (finishS s x).1 = cd at *
                    generalize hst : rst (finishS s x).2 = st' at *
                    clear hcall hcd hst
                    go_region_held3 (fun v => v.cell? ⟨X, 0, none⟩ = some (.slice on un cn) ∧ v.cell? ⟨X, 1, none⟩ = some (.int .i64 n) ∧ v.cell? ⟨X, 2, none⟩ = some (.slice ov1 sn cv1) ∧ v.cell? ⟨gc, oo + k * 2 + 1, none⟩ = some (.int .i64 x)) (go_keep) (first | (go_at_call 25; refine (HCall.out wr.drew (below_drewN (Below.refl _ _) 1)).mono ?_; rintro e w' ⟨vs', rfl, hr, hf, hb⟩; obtain ⟨o5, c5, rfl⟩ := row_len hr; generalize st'.length = tn at *; have c0 := Keeps.below (w := wr.drew) hb _ _ _ x0; have c1 := Keeps.below (w := wr.drew) hb _ _ _ x1; have c2 := Keeps.below (w := wr.drew) hb _ _ _ x2; have c3 := Keeps.below (w := wr.drew) hb _ _ _ hnm; have NXT := hid (HI.out.next1 (show Below wr.heap.size wr w' from ⟨hb.os, hb.tape, hb.output, hb.size, hb.block⟩) hr hf); clear hr hf hb) | (go_at_call 25; refine (HCall.out (wr.alloc (.cells #[.slice none 0 0, .int .i64 0, .slice none 0 0] 33)).drew (below_drewN HB0.out 1)).mono ?_; rintro e w' ⟨vs', rfl, hr, hf, hb⟩; obtain ⟨o5, c5, rfl⟩ := row_len hr; generalize st'.length = tn at *; have c0 := Keeps.below (w := (wr.alloc (.cells #[.slice none 0 0, .int .i64 0, .slice none 0 0] 33)).drew) hb _ _ _ (Keeps.below HB0.out _ _ _ x0); have c1 := Keeps.below (w := (wr.alloc (.cells #[.slice none 0 0, .int .i64 0, .slice none 0 0] 33)).drew) hb _ _ _ (Keeps.below HB0.out _ _ _ x1); have c2 := Keeps.below (w := (wr.alloc (.cells #[.slice none 0 0, .int .i64 0, .slice none 0 0] 33)).drew) hb _ _ _ (Keeps.below HB0.out _ _ _ x2); have c3 := Keeps.below (w := (wr.alloc (.cells #[.slice none 0 0, .int .i64 0, .slice none 0 0] 33)).drew) hb _ _ _ (Keeps.below HB0.out _ _ _ hnm); have hsz : (wr.alloc (.cells #[.slice none 0 0, .int .i64 0, .slice none 0 0] 33)).drew.heap.size = wr.heap.size + 1 := (by simp); have hY := (hb.block wr.heap.size (by rw [hsz]; omega)).trans (heap_alloc_at wr (.cells #[.slice none 0 0, .int .i64 0, .slice none 0 0] 33)); have z0 := (cells_in hY 0).trans rfl; have z1 := (cells_in hY 1).trans rfl; have z2 := (cells_in hY 2).trans rfl; have zf := (fun o => frozen_in hY o); have NXT := hid (HI.out.next2 (.slice none 0 0) (.int .i64 0) (.slice none 0 0) (show Below (wr.heap.size + 1) (wr.alloc (.cells #[.slice none 0 0, .int .i64 0, .slice none 0 0] 33)) w' from ⟨hb.os, hb.tape, hb.output, hb.size, fun k hk => hb.block k (by rw [hsz]; exact hk)⟩) hr (by rw [← hsz]; exact hf)); clear hr hf hb))
                    all_goals (go_wp2_with fail; go_meet; exact ⟨_, _, _, rfl, rfl, NXT⟩)
                  case rest =>
                    obtain ⟨Y, own', vs', rfl, rfl, NXT⟩ := hcut
                    have HP := hid NXT.out.1
                    have HNN := hid NXT.out.2.1
                    have HX := hid NXT.out.2.2
                    have hnm2 := Keeps.below HP.out.low _ _ _ hnm0
                    have hcall := HP.out.live.finish x
                    have HCall := hid hcall
                    have hinv := HP.out.inv.finish x
                    have HINV := hid hinv
                    have hnd := finish_needs s x
                    have hlm := finish_lim s x
                    have HND := hid hnd
                    have HLM := hid hlm
                    obtain ⟨o5, c5, rfl⟩ := row_len HNN.out.row.1
                    generalize (rst (finishS s x).2).length = tn at *
                    generalize hcd : (finishS s x).1 = cd at *
                    generalize (finishS s x).2 = s2 at *
                    have hd1 : decide (cd = cd) = true := decide_eq_true rfl
                    have hd2 : (cd != cd) = false := by simp
                    clear hcall hcd hinv hnd hlm NXT HI hkd hnm x0 x1 x2
                    go_wp2_with fail
                    refine HCall.out.mono ?_; rintro e wm ⟨r, ownm, rfl, Lm, hom, hcm, rfl⟩
                    have HX2 := hid (HX.out.keep hom hcm)
                    have hb2 := HX2.out.cells
                    obtain ⟨y0, y1, y2⟩ := hb2
                    have hxb := (hcm.block X HP.out.ltX (fun e => by have := e.2; have := HP.out.ownX; omega)).trans HP.out.box
                    have q0 := (cells_in hxb 0).trans rfl
                    have q1 := (cells_in hxb 1).trans rfl
                    have q2 := (cells_in hxb 2).trans rfl
                    have qf := fun o => frozen_in hxb o
                    have HIe := hid (HP.out.put HNN.out Lm hom hcm HINV.out (HND.out) (HLM.out))
                    clear HP HNN HX HX2 Lm hom hcm hxb
                    go_wp2_with fail
                    go_meet
                    exact ⟨_, _, _, HIe⟩
              · by_cases hK2 : K = 2
                · subst hK2
                  as_aux_lemma =>
                    go_upto_region 24 with (fail)
                    go_cut [16, 17, 18] (fun y o c wx => ∃ (Y : Nat) (own' : Nat → Nat) (vs' : Value), y = .pointer (some ⟨Y, 0, none⟩) ∧ c = .int .i64 (failS s x).1 ∧ Hid (Next w w1 b X ns us n (.slice on un cn) (.slice ov1 sn cv1) s (rst (failS s x).2.1) Y vs' own' wx) ∧ Hid (RowT own' 0 wx o (failS s x).2.2))
                    case first =>
                      have hcall : ∀ W0, Below wr.heap.size wr W0 → Calls Try.prog 26 #[.agg #[.slice on un cn, .int .i64 n, .slice ov1 sn cv1], .int .i64 x] W0 (FPost2 (.slice on un cn) (.slice ov1 sn cv1) n (failS s x).1 (rst (failS s x).2.1) (failS s x).2.2 W0) := fun W0 hb0 => by
                        have hs1 := HI.out.needs
                        refine (rfail_any W0 (.slice on un cn) (.slice ov1 sn cv1) n ns (rst s) x (HI.out.nview.keep (Keeps.below hb0)) (row_below HI.out.row.1 hb0) HI.out.fit).mono fun e w' hp => ?_
                        rw [← hs1] at hp
                        exact fpost2 HI.out.inv hp
                      have HCall := hid hcall
                      have HB0 : Hid (Below wr.heap.size wr (wr.alloc (.cells #[.slice none 0 0, .int .i64 0, .slice none 0 0] 33))) := hid ((Below.refl _ _).alloc (Nat.le_refl _) _)
                      have e0 := World.new_ne wr _ x0
                      have e1 := World.new_ne wr _ hnm
                      generalize hcd : (failS s x).1 = cd at *
                      generalize hst : rst (failS s x).2.1 = st' at *
                      generalize hou : (failS s x).2.2 = out at *
                      clear hcall hcd hst hou
                      go_region_held3 (fun v => v.cell? ⟨X, 0, none⟩ = some (.slice on un cn) ∧ v.cell? ⟨X, 1, none⟩ = some (.int .i64 n) ∧ v.cell? ⟨X, 2, none⟩ = some (.slice ov1 sn cv1) ∧ v.cell? ⟨gc, oo + k * 2 + 1, none⟩ = some (.int .i64 x)) (go_keep) (first | (go_at_call 26; refine (HCall.out wr.drew (below_drewN (Below.refl _ _) 1)).mono ?_; rintro e w' ⟨vs', vl, rfl, hr, hf, hrl, hgl, hb⟩; obtain ⟨o5, c5, rfl⟩ := row_len hr; obtain ⟨o6, c6, rfl⟩ := row_len hrl; generalize st'.length = tn at *; generalize out.length = oun at *; have c0 := Keeps.below (w := wr.drew) hb _ _ _ x0; have c1 := Keeps.below (w := wr.drew) hb _ _ _ x1; have c2 := Keeps.below (w := wr.drew) hb _ _ _ x2; have c3 := Keeps.below (w := wr.drew) hb _ _ _ hnm; have RL := hid (row1 (own := own1) (wr := wr) (.slice on un cn) (.int .i64 n) (.slice o5 tn c5) hrl hgl); have NXT := hid (HI.out.next1 (show Below wr.heap.size wr w' from ⟨hb.os, hb.tape, hb.output, hb.size, hb.block⟩) hr hf); clear hr hf hb hrl hgl) | (go_at_call 26; refine (HCall.out (wr.alloc (.cells #[.slice none 0 0, .int .i64 0, .slice none 0 0] 33)).drew (below_drewN HB0.out 1)).mono ?_; rintro e w' ⟨vs', vl, rfl, hr, hf, hrl, hgl, hb⟩; obtain ⟨o5, c5, rfl⟩ := row_len hr; obtain ⟨o6, c6, rfl⟩ := row_len hrl; generalize st'.length = tn at *; generalize out.length = oun at *; have c0 := Keeps.below (w := (wr.alloc (.cells #[.slice none 0 0, .int .i64 0, .slice none 0 0] 33)).drew) hb _ _ _ (Keeps.below HB0.out _ _ _ x0); have c1 := Keeps.below (w := (wr.alloc (.cells #[.slice none 0 0, .int .i64 0, .slice none 0 0] 33)).drew) hb _ _ _ (Keeps.below HB0.out _ _ _ x1); have c2 := Keeps.below (w := (wr.alloc (.cells #[.slice none 0 0, .int .i64 0, .slice none 0 0] 33)).drew) hb _ _ _ (Keeps.below HB0.out _ _ _ x2); have c3 := Keeps.below (w := (wr.alloc (.cells #[.slice none 0 0, .int .i64 0, .slice none 0 0] 33)).drew) hb _ _ _ (Keeps.below HB0.out _ _ _ hnm); have hsz : (wr.alloc (.cells #[.slice none 0 0, .int .i64 0, .slice none 0 0] 33)).drew.heap.size = wr.heap.size + 1 := (by simp); have hY := (hb.block wr.heap.size (by rw [hsz]; omega)).trans (heap_alloc_at wr (.cells #[.slice none 0 0, .int .i64 0, .slice none 0 0] 33)); have z0 := (cells_in hY 0).trans rfl; have z1 := (cells_in hY 1).trans rfl; have z2 := (cells_in hY 2).trans rfl; have zf := (fun o => frozen_in hY o); have RL := hid (row2 (own := own1) (wr := wr) (.slice none 0 0) (.int .i64 0) (.slice none 0 0) (.slice on un cn) (.int .i64 n) (.slice o5 tn c5) hrl (by rw [← hsz]; exact hgl)); have NXT := hid (HI.out.next2 (.slice none 0 0) (.int .i64 0) (.slice none 0 0) (show Below (wr.heap.size + 1) (wr.alloc (.cells #[.slice none 0 0, .int .i64 0, .slice none 0 0] 33)) w' from ⟨hb.os, hb.tape, hb.output, hb.size, fun k hk => hb.block k (by rw [hsz]; exact hk)⟩) hr (by rw [← hsz]; exact hf)); clear hr hf hb hrl hgl))
                      all_goals (go_wp2_with fail; go_meet; exact ⟨_, _, _, rfl, rfl, NXT, RL⟩)
                    case rest =>
                      obtain ⟨Y, own', vs', rfl, rfl, NXT, RL⟩ := hcut
                      have HP := hid NXT.out.1
                      have HNN := hid NXT.out.2.1
                      have HX := hid NXT.out.2.2
                      have hnm2 := Keeps.below HP.out.low _ _ _ hnm0
                      have hcall := HP.out.live.fail x
                      have HCall := hid hcall
                      have hinv := HP.out.inv.fail x
                      have HINV := hid hinv
                      have hnd := fail_needs s x
                      have hlm := fail_lim s x
                      have HND := hid hnd
                      have HLM := hid hlm
                      have hfl : (failS s x).2.2.length ≤ 100000 := by
                        by_cases he : (stopS s x).1 = 0
                        · rw [(fail_spec he).1]
                          have h1 := HP.out.inv.good.lo
                          have h2 : (failL s x).length ≤ s.needs.length := by
                            refine sorted_len (failL s x) 0 s.needs.length (by rw [(fail_spec he).2]; exact sorted_del (lostS_sorted _ _ _)) fun y hy => ?_
                            have := HP.out.inv.good.rwt y ((mem_failL HP.out.inv he y).1 hy).1
                            omega
                          have h3 := HP.out.inv.good.ln
                          show (failL s x).length ≤ 100000
                          omega
                        · have e : failS s x = ((stopS s x).1, (stopS s x).2, []) := by unfold failS; rw [if_neg he]
                          rw [e]; exact Nat.zero_le _
                      obtain ⟨o5, c5, rfl⟩ := row_len HNN.out.row.1
                      obtain ⟨o6, c6, ho6⟩ := row_len RL.out.1
                      subst ho6
                      generalize (rst (failS s x).2.1).length = tn at *
                      generalize hcd : (failS s x).1 = cd at *
                      generalize hou : (failS s x).2.2 = out at *
                      generalize (failS s x).2.1 = s2 at *
                      have hd1 : decide (cd = cd) = true := decide_eq_true rfl
                      have hd2 : (cd != cd) = false := by simp
                      clear hcall hcd hinv hnd hlm NXT HI hkd hnm x0 x1 x2 hou
                      go_wp2_with fail
                      refine HCall.out.mono ?_; rintro e wm ⟨r, ownm, rfl, Lm, hom, hcm, vf, rfl, hrf⟩
                      obtain ⟨o7, c7, rfl⟩ := row_len hrf.1
                      have HX2 := hid (HX.out.keep hom hcm)
                      have RL2 := hid (RL.out.keep hcm (fun k _ e h => e.1 h) hom)
                      have HRF := hid hrf
                      have HLm := hid Lm
                      have HOm := hid hom
                      have HCm := hid hcm
                      have hdd : decide (out = out) = true := decide_eq_true rfl
                      clear hrf Lm hom hcm
                      go_wp2_with fail
                      refine (same_any _ _ _ out out HRF.out.1.view RL2.out.1.view hfl hfl).mono ?_; rintro e w8 ⟨rfl, q8, rfl⟩
                      have Lm := HLm.out.drewN q8
                      have hom : SameOwn wc own' ownm := HOm.out
                      have hcm : Chg (fun k => own' k ≠ 0 ∧ own' k ≤ 7) wc (wm.drewN q8) := HCm.out.trans (Chg.drewN _ _ _)
                      have HX3 := HX2
                      clear HX2 HLm HOm HCm RL RL2 HRF
                      have HX2 : Hid (NX ownm (wm.drewN q8) Y (.slice on un cn) n _) := hid ⟨HX3.out.box, HX3.out.tag⟩
                      clear HX3
                      have hb2 := HX2.out.cells
                      obtain ⟨y0, y1, y2⟩ := hb2
                      have hxb := (hcm.block X HP.out.ltX (fun e => by have := e.2; have := HP.out.ownX; omega)).trans HP.out.box
                      have q0 := (cells_in hxb 0).trans rfl
                      have q1 := (cells_in hxb 1).trans rfl
                      have q2 := (cells_in hxb 2).trans rfl
                      have qf := fun o => frozen_in hxb o
                      have HIe := hid (HP.out.put HNN.out Lm hom hcm HINV.out (HND.out) (HLM.out))
                      clear HP HNN HX HX2 Lm hom hcm hxb
                      go_wp2_with fail
                      go_meet
                      exact ⟨_, _, _, HIe⟩
                · by_cases hK3 : K = 3
                  · subst hK3
                    as_aux_lemma =>
                      have hcall := rcancel_any wr (.slice on un cn) (.slice ov1 sn cv1) n ns (rst s) HI.out.nview HI.out.row.1 HI.out.fit
                      rw [HI.out.inv.in0, HI.out.inv.cancel_eq] at hcall
                      have HCall := hid hcall
                      have hwl : s.wt.length ≤ 100000 := by have := HI.out.inv.good.lwt; omega
                      clear hcall
                      go_wp2_with fail
                      refine HCall.out.mono ?_; rintro e w' ⟨vs', vl, rfl, hr, hf, hrl, hgl, hb⟩
                      obtain ⟨o5, c5, rfl⟩ := row_len hr
                      obtain ⟨o6, c6, rfl⟩ := row_len hrl
                      have hrw := row1 (own := own1) (wr := wr) (.slice on un cn) (.int .i64 n) (.slice o5 (rst (skipS s s.wt)).length c5) hrl hgl
                      have hnx := HI.out.next1 hb hr hf
                      obtain ⟨own', hown'⟩ : ∃ o, own2 (own2 own1 wr 0) w' 12 = o := ⟨_, rfl⟩
                      rw [hown'] at hrw hnx
                      have RL := hid hrw
                      have NXT := hid hnx
                      clear hrw hnx hr hf hrl hgl hb HCall hown' HI hkd x0 x1 x2 hnm
                      generalize (rst (skipS s s.wt)).length = tn at *
                      go_wp2_with fail
                      generalize w'.alloc (.cells #[.slice on un cn, .int .i64 n, .slice o5 tn c5] 33) = wc at *
                      generalize w'.heap.size = Y at *
                      have HP := hid NXT.out.1
                      have HNN := hid NXT.out.2.1
                      have HX := hid NXT.out.2.2
                      have hinv := HP.out.inv.cancel
                      have HINV := hid hinv
                      have hnd : (skipS s s.wt).needs = s.needs := skip_needs _ _
                      have hlm : (skipS s s.wt).limit = s.limit := skip_lim _ _
                      have HND := hid hnd
                      have HLM := hid hlm
                      have hcall := HP.out.live.cancel
                      generalize skipS s s.wt = s2 at *
                      have HCall := hid hcall
                      clear hcall hinv hnd hlm NXT
                      refine HCall.out.mono ?_; rintro e wm ⟨r, ownm, rfl, Lm, hom, hcm, hrf⟩
                      obtain ⟨o7, c7, rfl⟩ := row_len hrf.1
                      have HX2 := hid (HX.out.keep hom hcm)
                      have RL2 := hid (RL.out.keep hcm (fun k _ e h => e.1 h) hom)
                      have HRF := hid hrf
                      have HLm := hid Lm
                      have HOm := hid hom
                      have HCm := hid hcm
                      clear hrf Lm hom hcm
                      generalize hwt : s.wt = wl at *
                      clear hwt
                      have hdd : decide (wl = wl) = true := decide_eq_true rfl
                      go_wp2_with fail
                      refine (same_any _ _ _ wl wl HRF.out.1.view RL2.out.1.view hwl hwl).mono ?_; rintro e w8 ⟨rfl, q8, rfl⟩
                      have Lm := HLm.out.drewN q8
                      have hom : SameOwn wc own' ownm := HOm.out
                      have hcm : Chg (fun k => own' k ≠ 0 ∧ own' k ≤ 7) wc (wm.drewN q8) := HCm.out.trans (Chg.drewN _ _ _)
                      have HX3 := HX2
                      clear HX2 HLm HOm HCm RL RL2 HRF
                      have HX2 : Hid (NX ownm (wm.drewN q8) Y (.slice on un cn) n _) := hid ⟨HX3.out.box, HX3.out.tag⟩
                      clear HX3
                      have hb2 := HX2.out.cells
                      obtain ⟨y0, y1, y2⟩ := hb2
                      have hxb := (hcm.block X HP.out.ltX (fun e => by have := e.2; have := HP.out.ownX; omega)).trans HP.out.box
                      have q0 := (cells_in hxb 0).trans rfl
                      have q1 := (cells_in hxb 1).trans rfl
                      have q2 := (cells_in hxb 2).trans rfl
                      have qf := fun o => frozen_in hxb o
                      have HIe := hid (HP.out.put HNN.out Lm hom hcm HINV.out (HND.out) (HLM.out))
                      clear HP HNN HX HX2 Lm hom hcm hxb
                      go_wp2_with fail
                      go_meet
                      exact ⟨_, _, _, HIe⟩
                  · have d0 : decide (K = 0) = false := decide_eq_false hK0
                    have d1 : decide (K = 1) = false := decide_eq_false hK1
                    have d2 : decide (K = 2) = false := decide_eq_false hK2
                    have d3 : decide (K = 3) = false := decide_eq_false hK3
                    have e0 : (K == 0) = false := beq_eq_false_iff_ne.2 hK0
                    have e1 : (K == 1) = false := beq_eq_false_iff_ne.2 hK1
                    have e2 : (K == 2) = false := beq_eq_false_iff_ne.2 hK2
                    have e3 : (K == 3) = false := beq_eq_false_iff_ne.2 hK3
                    clear hK0 hK1 hK2 hK3
                    go_wp2_with fail
                    go_meet
                    exact ⟨_, _, _, HI⟩
          case rest =>
            obtain ⟨own', s', vs', HI2⟩ := hcut
            as_aux_lemma =>
              obtain ⟨ov2, cv2, rfl⟩ := row_len HI2.out.row.1
              generalize (rst s').length = sn2 at *
              have hl1 := HI2.out.inv.good.lwt
              have hl2 := HI2.out.inv.good.lrn
              have hl3 : (readyL s').length ≤ s'.wt.length := List.length_filter_le _ _
              have hcnt := HI2.out.live.count
              have HCnt := hid hcnt
              clear hcnt x0 x1 x2 HI hkd hnm
              go_wp2_with fail
              refine HCnt.out.mono ?_; rintro e wk ⟨r, ownk, rfl, Lk, hok, hck, rfl⟩
              have HP := hid ((HI2.out.same Lk hok hck).drewN 1)
              have HPk := hid (HI2.out.same Lk hok hck)
              clear HI2 HCnt Lk hok hck
              obtain ⟨k0, k1, k2⟩ := HPk.out.cells
              go_wp2_with fail
              refine wp_region_steady (fun v => v.cell? ⟨X, 0, none⟩ = some (.slice on un cn) ∧ v.cell? ⟨X, 1, none⟩ = some (.int .i64 n) ∧ v.cell? ⟨X, 2, none⟩ = some (.slice ov2 sn2 cv2)) (by kernel_rfl) (by kernel_rfl) (⟨k0, k1, k2⟩) ?_
              clear k0 k1 k2 HPk
              generalize hwd : wk.drew = wd at *
              have hwd2 : wk.drewN 1 = wk.drew := rfl
              rw [hwd2, hwd] at HP
              clear hwd hwd2
              repeat (first
                | (refine wpSteady_skip (by rfl) ?_; try simp only [Act.put, List.setIfInBounds_toArray, List.set_cons_zero, List.set_cons_succ])
                | (refine wpSteady_calm (v := ?_) (by rfl) ?_ ?_; rotate_left; (focus (intro v hSv; (try dsimp only at hSv); go_simp; (try with_reducible rfl); done)); try simp only [Act.put, List.setIfInBounds_toArray, List.set_cons_zero, List.set_cons_succ]))
              refine wpSteady_loud rfl (by rfl) (fun K hK => ?_)
              go_simp
              refine HP.out.live.ready.mono ?_
              rintro e wq ⟨r, ownq, rfl, Lq, hoq, hcq, hrq⟩
              have HPq := hid (HP.out.same Lq hoq hcq)
              obtain ⟨oq, cq, rfl⟩ := row_len hrq.1
              have HR1 := hid hrq.1
              clear hrq
              clear HP Lq hoq hcq
              have HP := HPq
              clear HPq
              refine hK.out _ _ (HP.out.cells) ?_
              clear hK K
              try simp only [Act.put, List.setIfInBounds_toArray, List.set_cons_zero, List.set_cons_succ]
              repeat (first
                | (refine wpSteady_skip (by rfl) ?_; try simp only [Act.put, List.setIfInBounds_toArray, List.set_cons_zero, List.set_cons_succ])
                | (refine wpSteady_calm (v := ?_) (by rfl) ?_ ?_; rotate_left; (focus (intro v hSv; (try dsimp only at hSv); go_simp; (try with_reducible rfl); done)); try simp only [Act.put, List.setIfInBounds_toArray, List.set_cons_zero, List.set_cons_succ]))
              refine wpSteady_loud rfl (by rfl) (fun K hK => ?_)
              go_simp
              refine (rready_any _ (.slice on un cn) (.slice ov2 sn2 cv2) n ns (rst s') HP.out.nview HP.out.row.1.view HP.out.fit).mono ?_
              rintro e wq ⟨vq, rfl, hrq, _, hbq⟩
              have heq := HP.out.inv.ready_eq
              rw [HP.out.needs, HP.out.lim] at heq
              rw [heq] at hrq
              clear heq
              obtain ⟨oq2, cq2, rfl⟩ := row_len hrq
              have HR2 := hid hrq
              have HR1b := hid (row_below HR1.out hbq)
              clear HR1
              have HR1 := HR1b
              clear HR1b
              have HPq := hid (HP.out.grow hbq)
              clear HP hbq hrq
              have HP := HPq
              clear HPq
              refine hK.out _ _ (HP.out.cells) ?_
              clear hK K
              try simp only [Act.put, List.setIfInBounds_toArray, List.set_cons_zero, List.set_cons_succ]
              repeat (first
                | (refine wpSteady_skip (by rfl) ?_; try simp only [Act.put, List.setIfInBounds_toArray, List.set_cons_zero, List.set_cons_succ])
                | (refine wpSteady_calm (v := ?_) (by rfl) ?_ ?_; rotate_left; (focus (intro v hSv; (try dsimp only at hSv); go_simp; (try with_reducible rfl); done)); try simp only [Act.put, List.setIfInBounds_toArray, List.set_cons_zero, List.set_cons_succ]))
              refine wpSteady_loud rfl (by rfl) (fun K hK => ?_)
              go_simp
              refine (same_yes2 _ _ _ _ HR1.out.view HR2.out.view (by omega)).mono ?_
              rintro e wq ⟨rfl, q8, rfl⟩
              have HPq := hid (HP.out.drewN q8)
              clear HP HR1 HR2
              have HP := HPq
              clear HPq
              refine hK.out _ _ (HP.out.cells) ?_
              clear hK K
              try simp only [Act.put, List.setIfInBounds_toArray, List.set_cons_zero, List.set_cons_succ]
              repeat (first
                | (refine wpSteady_skip (by rfl) ?_; try simp only [Act.put, List.setIfInBounds_toArray, List.set_cons_zero, List.set_cons_succ])
                | (refine wpSteady_calm (v := ?_) (by rfl) ?_ ?_; rotate_left; (focus (intro v hSv; (try dsimp only at hSv); go_simp; (try with_reducible rfl); done)); try simp only [Act.put, List.setIfInBounds_toArray, List.set_cons_zero, List.set_cons_succ]))
              refine wpSteady_loud rfl (by rfl) (fun K hK => ?_)
              go_simp
              refine HP.out.live.running.mono ?_
              rintro e wq ⟨r, ownq, rfl, Lq, hoq, hcq, hrq⟩
              have HPq := hid (HP.out.same Lq hoq hcq)
              obtain ⟨oq, cq, rfl⟩ := row_len hrq.1
              have HR1 := hid hrq.1
              clear hrq
              clear HP Lq hoq hcq
              have HP := HPq
              clear HPq
              refine hK.out _ _ (HP.out.cells) ?_
              clear hK K
              try simp only [Act.put, List.setIfInBounds_toArray, List.set_cons_zero, List.set_cons_succ]
              repeat (first
                | (refine wpSteady_skip (by rfl) ?_; try simp only [Act.put, List.setIfInBounds_toArray, List.set_cons_zero, List.set_cons_succ])
                | (refine wpSteady_calm (v := ?_) (by rfl) ?_ ?_; rotate_left; (focus (intro v hSv; (try dsimp only at hSv); go_simp; (try with_reducible rfl); done)); try simp only [Act.put, List.setIfInBounds_toArray, List.set_cons_zero, List.set_cons_succ]))
              refine wpSteady_loud rfl (by rfl) (fun K hK => ?_)
              go_simp
              refine (in_any _ (.slice on un cn) (.slice ov2 sn2 cv2) n ns (rst s') 1 HP.out.nview HP.out.row.1.view (by have := HP.out.fit.le; omega)).mono ?_
              rintro e wq ⟨vq, rfl, hrq, _, hbq⟩
              rw [HP.out.inv.in1] at hrq
              obtain ⟨oq2, cq2, rfl⟩ := row_len hrq
              have HR2 := hid hrq
              have HR1b := hid (row_below HR1.out hbq)
              clear HR1
              have HR1 := HR1b
              clear HR1b
              have HPq := hid (HP.out.grow hbq)
              clear HP hbq hrq
              have HP := HPq
              clear HPq
              refine hK.out _ _ (HP.out.cells) ?_
              clear hK K
              try simp only [Act.put, List.setIfInBounds_toArray, List.set_cons_zero, List.set_cons_succ]
              repeat (first
                | (refine wpSteady_skip (by rfl) ?_; try simp only [Act.put, List.setIfInBounds_toArray, List.set_cons_zero, List.set_cons_succ])
                | (refine wpSteady_calm (v := ?_) (by rfl) ?_ ?_; rotate_left; (focus (intro v hSv; (try dsimp only at hSv); go_simp; (try with_reducible rfl); done)); try simp only [Act.put, List.setIfInBounds_toArray, List.set_cons_zero, List.set_cons_succ]))
              refine wpSteady_loud rfl (by rfl) (fun K hK => ?_)
              go_simp
              refine (same_yes2 _ _ _ _ HR1.out.view HR2.out.view (by omega)).mono ?_
              rintro e wq ⟨rfl, q8, rfl⟩
              have HPq := hid (HP.out.drewN q8)
              clear HP HR1 HR2
              have HP := HPq
              clear HPq
              refine hK.out _ _ (HP.out.cells) ?_
              clear hK K
              try simp only [Act.put, List.setIfInBounds_toArray, List.set_cons_zero, List.set_cons_succ]
              repeat (first
                | (refine wpSteady_skip (by rfl) ?_; try simp only [Act.put, List.setIfInBounds_toArray, List.set_cons_zero, List.set_cons_succ])
                | (refine wpSteady_calm (v := ?_) (by rfl) ?_ ?_; rotate_left; (focus (intro v hSv; (try dsimp only at hSv); go_simp; (try with_reducible rfl); done)); try simp only [Act.put, List.setIfInBounds_toArray, List.set_cons_zero, List.set_cons_succ]))
              refine wpSteady_loud rfl (by rfl) (fun K hK => ?_)
              go_simp
              refine HP.out.live.done.mono ?_
              rintro e wq ⟨r, ownq, rfl, Lq, hoq, hcq, rfl⟩
              have HPq := hid (HP.out.same Lq hoq hcq)
              clear HP Lq hoq hcq
              have HP := HPq
              clear HPq
              refine hK.out _ _ (HP.out.cells) ?_
              clear hK K
              try simp only [Act.put, List.setIfInBounds_toArray, List.set_cons_zero, List.set_cons_succ]
              repeat (first
                | (refine wpSteady_skip (by rfl) ?_; try simp only [Act.put, List.setIfInBounds_toArray, List.set_cons_zero, List.set_cons_succ])
                | (refine wpSteady_calm (v := ?_) (by rfl) ?_ ?_; rotate_left; (focus (intro v hSv; (try dsimp only at hSv); go_simp; (try with_reducible rfl); done)); try simp only [Act.put, List.setIfInBounds_toArray, List.set_cons_zero, List.set_cons_succ]))
              refine wpSteady_loud rfl (by rfl) (fun K hK => ?_)
              go_simp
              refine (rdone_any _ (.slice on un cn) (.slice ov2 sn2 cv2) n ns (rst s') HP.out.nview HP.out.row.1 HP.out.fit).mono ?_
              rw [HP.out.inv.in0, HP.out.inv.in1]
              rintro e wq ⟨rfl, hbq⟩
              have HPq := hid (HP.out.grow hbq)
              clear HP hbq 
              have HP := HPq
              clear HPq
              refine hK.out _ _ (HP.out.cells) ?_
              clear hK K
              try simp only [Act.put, List.setIfInBounds_toArray, List.set_cons_zero, List.set_cons_succ]
              repeat (first
                | (refine wpSteady_skip (by rfl) ?_; try simp only [Act.put, List.setIfInBounds_toArray, List.set_cons_zero, List.set_cons_succ])
                | (refine wpSteady_calm (v := ?_) (by rfl) ?_ ?_; rotate_left; (focus (intro v hSv; (try dsimp only at hSv); go_simp; (try with_reducible rfl); done)); try simp only [Act.put, List.setIfInBounds_toArray, List.set_cons_zero, List.set_cons_succ]))
              refine wpSteady_loud rfl (by rfl) (fun K hK => ?_)
              go_simp
              refine (in_any _ (.slice on un cn) (.slice ov2 sn2 cv2) n ns (rst s') 2 HP.out.nview HP.out.row.1.view (by have := HP.out.fit.le; omega)).mono ?_
              rintro e wq ⟨vq, rfl, hrq, _, hbq⟩
              rw [HP.out.inv.in2] at hrq
              obtain ⟨oq2, cq2, rfl⟩ := row_len hrq
              have HPq := hid (HP.out.grow hbq)
              clear HP hbq hrq
              have HP := HPq
              clear HPq
              refine hK.out _ _ (HP.out.cells) ?_
              clear hK K
              try simp only [Act.put, List.setIfInBounds_toArray, List.set_cons_zero, List.set_cons_succ]
              repeat (first
                | (refine wpSteady_skip (by rfl) ?_; try simp only [Act.put, List.setIfInBounds_toArray, List.set_cons_zero, List.set_cons_succ])
                | (refine wpSteady_calm (v := ?_) (by rfl) ?_ ?_; rotate_left; (focus (intro v hSv; (try dsimp only at hSv); go_simp; (try with_reducible rfl); done)); try simp only [Act.put, List.setIfInBounds_toArray, List.set_cons_zero, List.set_cons_succ]))
              refine wpSteady_loud rfl (by rfl) (fun K hK => ?_)
              go_simp
              refine (in_any _ (.slice on un cn) (.slice ov2 sn2 cv2) n ns (rst s') 3 HP.out.nview HP.out.row.1.view (by have := HP.out.fit.le; omega)).mono ?_
              rintro e wq ⟨vq, rfl, hrq, _, hbq⟩
              rw [HP.out.inv.in3] at hrq
              obtain ⟨oq2, cq2, rfl⟩ := row_len hrq
              have HPq := hid (HP.out.grow hbq)
              clear HP hbq hrq
              have HP := HPq
              clear HPq
              refine hK.out _ _ (HP.out.cells) ?_
              clear hK K
              try simp only [Act.put, List.setIfInBounds_toArray, List.set_cons_zero, List.set_cons_succ]
              repeat (first
                | (refine wpSteady_skip (by rfl) ?_; try simp only [Act.put, List.setIfInBounds_toArray, List.set_cons_zero, List.set_cons_succ])
                | (refine wpSteady_calm (v := ?_) (by rfl) ?_ ?_; rotate_left; (focus (intro v hSv; (try dsimp only at hSv); go_simp; (try with_reducible rfl); done)); try simp only [Act.put, List.setIfInBounds_toArray, List.set_cons_zero, List.set_cons_succ]))
              refine wpSteady_loud rfl (by rfl) (fun K hK => ?_)
              go_simp
              refine (in_any _ (.slice on un cn) (.slice ov2 sn2 cv2) n ns (rst s') 4 HP.out.nview HP.out.row.1.view (by have := HP.out.fit.le; omega)).mono ?_
              rintro e wq ⟨vq, rfl, hrq, _, hbq⟩
              rw [HP.out.inv.in4] at hrq
              obtain ⟨oq2, cq2, rfl⟩ := row_len hrq
              have HPq := hid (HP.out.grow hbq)
              clear HP hbq hrq
              have HP := HPq
              clear HPq
              refine hK.out _ _ (HP.out.cells) ?_
              clear hK K
              try simp only [Act.put, List.setIfInBounds_toArray, List.set_cons_zero, List.set_cons_succ]
              repeat (first
                | (refine wpSteady_skip (by rfl) ?_; try simp only [Act.put, List.setIfInBounds_toArray, List.set_cons_zero, List.set_cons_succ])
                | (refine wpSteady_calm (v := ?_) (by rfl) ?_ ?_; rotate_left; (focus (intro v hSv; (try dsimp only at hSv); go_simp; (try with_reducible rfl); done)); try simp only [Act.put, List.setIfInBounds_toArray, List.set_cons_zero, List.set_cons_succ]))
              refine wpSteady_nil ?_
              go_wp2_with fail
              go_roundw
              case rel => exact ⟨k + 1, _, s', _, by omega, by go_num, HP⟩
              case measure => simp [intOf]; omega
        · have L0 := hid HI.out.live
          clear HI
          go_wp2_with fail
          refine (awake_any _).mono ?_; rintro e w5 ⟨rfl, hb⟩
          go_wp2_with fail
          go_ret
          exact ⟨rfl, HBw.out.trans (hb.mono HBw.out.size)⟩

theorem readable : ∀ t ∈ #[22, 3, 38].toList, Try.prog.readableRec t = true ∧ t < Try.prog.types.size := by
  intro t ht
  have r3 : Try.prog.readableRec 3 = true ∧ 3 < Try.prog.types.size := ⟨by kernel_rfl, of_decide_eq_true (by kernel_rfl)⟩
  have r22 : Try.prog.readableRec 22 = true ∧ 22 < Try.prog.types.size := ⟨by kernel_rfl, of_decide_eq_true (by kernel_rfl)⟩
  have r38 : Try.prog.readableRec 38 = true ∧ 38 < Try.prog.types.size := ⟨by kernel_rfl, of_decide_eq_true (by kernel_rfl)⟩
  have hm : t = 22 ∨ t = 3 ∨ t = 38 := by simpa using ht
  rcases hm with rfl | rfl | rfl <;> assumption

theorem walkD {H : Type} (enc : TypeId × Value → H) (W : World) (base : Nat) (args : Array Value) (ds : List (DataW H)) (p : List MemPlace)
    (hval : ∀ (j : Nat) t v, #[22, 3, 38][j]? = some t → args[j]? = some v → Value.okWide Try.prog W .any base t v)
    (hA : DataW.TrodAll enc Try.prog W 0 (fun _ => true) true #[22, 3, 38].toList args.toList ds p) :
    (Calls Try.prog 8 args W (BOOL W.heap.size W)) ∧
    ((Rows.schedulePlaysSpec.fn H (ds ++ [])).results = [.lit (.bool true)] ∧ (Rows.schedulePlaysSpec.fn H (ds ++ [])).args = ds ∧ (Rows.schedulePlaysSpec.fn H (ds ++ [])).vars = []) := by
  obtain ⟨v0, vs0, d0, ds0, p0, q0, hargs, rfl, rfl, h0, r0⟩ := trodAll_cons hA
  obtain ⟨v1, vs1, d1, ds1, p1, q1, rfl, rfl, rfl, h1, r1⟩ := trodAll_cons r0
  obtain ⟨v2, vs2, d2, ds2, p2, q2, rfl, rfl, rfl, h2, r2⟩ := trodAll_cons r1
  obtain ⟨rfl, rfl, rfl⟩ := trodAll_nil r2
  obtain rfl : args = #[v0, v1, v2] := by cases args; simp_all
  obtain ⟨ns0, hN0, hl0, hll0⟩ := open_rows (hval 0 22 v0 rfl rfl) h0
  obtain ⟨a1, rfl, rfl, rfl, w1⟩ := open_int Try.underlying3 (hval 1 3 v1 rfl rfl) h1
  obtain ⟨oc, lc, cc, kd, nm, rfl, hlc, hbc⟩ := open_acts (hval 2 38 v2 rfl rfl) h2
  exact ⟨walk v0 ns0 a1 oc lc cc kd nm W hN0 hl0 hll0 w1 hlc hbc, rfl, rfl, rfl⟩

/-! ### The row -/
set_option maxRecDepth 100000 in
theorem lifted (os : Os) (started : os.Started) (H : Type) (enc : TypeId × Value → H) :
    ReturnsInHanded {} Try.checked os 8 .any (Rows.schedulePlaysSpec.pre6 enc Try.prog Try.f8 Rows.schedulePlaysRow.domain false) (Rows.schedulePlaysSpec.post enc Try.prog Try.f8 false true false false) := by
  refine returnsInHanded_of_change (C := Try.checked) own started (by kernel_rfl) Try.func8
    (ChangeSpec.witness6 (enc := enc) (C := Try.checked) false ⟨#[], #[.slice none 0 0, .int .i64 0, .slice none 0 0], []⟩ 8 (by kernel_rfl) (by kernel_rfl) (by kernel_rfl) (by kernel_rfl)) ?_
  intro W base args ds gs before hval0 hW _ _
  have hW' := hW
  obtain ⟨p, q, hA, hV, _, _, _⟩ := hW
  obtain ⟨rfl, rfl⟩ := trodVars_none hV
  rw [Try.params8] at hA hval0
  obtain ⟨hcall, hds⟩ := walkD enc W base args ds p hval0 hA
  exact hcall.mono fun e W' ⟨he, hb⟩ => ⟨_, he, law_post hW' rfl (by rw [Try.params8]; exact readable) rfl hds hb⟩

theorem over : Rows.schedulePlaysRow.holds Try.pinned (OpenSpec.ofChange Rows.schedulePlaysSpec) :=
  OpenClaim.holds_of_wide 8 Try.f8 rfl rfl rfl rfl rfl rfl rfl ⟨rfl, rfl, rfl, rfl, rfl⟩ rfl rfl rfl rfl rfl (by kernel_rfl) Try.func8 (by kernel_rfl)
    (of_decide_eq_true (by kernel_rfl)) (by unfold Func.isWrapper; first | (rw [if_pos (by decide +kernel)]; kernel_rfl) | (rw [if_neg (by decide +kernel)]; exact ⟨rfl, rfl⟩))
    (fun os started H enc _ => lifted os started H enc)

theorem proved : Rows.SchedulePlaysSaid :=
  over
#print axioms proved
end Go.Proofs.Ytoaellmjgejgfaa.schedulePlays
