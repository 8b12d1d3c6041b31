/- The input of a change; reason and effective. -/
import Derived.Test.YtibiiafcnaijeaaDel
import Derived.Test.YtibiiafcnaijeaaRepl
import Derived.Test.YtibiiafcnaijeaaProp
namespace Go.Proofs.Ytibiiafcnaijeaa
open Go Go.RowKit Go.Proofs.Ytibiiafcnaijeaa.Steady
set_option linter.unusedVariables false
set_option linter.unusedSimpArgs false

/-- v reads as an input, thirty-one cells. -/
def INV (P : Nat → Prop) (w : World) (v : Value) (i : Inp) : Prop := ∃ oa ca on cn kp np sp oip mip cip okp mkp ckp od cd kc nc sc oic mic cic okc mkc ckc og cg ot mt ct oD cD, v = .agg #[.string i.addr, .string i.tname, .slice oa i.sc.attrs.length ca, .slice on i.sc.nested.length cn, .int .i64 i.quota, .bool i.has, .string i.prior.addr, .string i.prior.deposed, .string i.prior.id, .string i.prior.type, .int .i64 kp, .int .i64 np, .string sp, .slice oip mip cip, .slice okp mkp ckp, .int .i64 i.prior.version, .bool i.prior.tainted, .bool i.prior.createFirst, .slice od i.prior.deps.length cd, .int .i64 kc, .int .i64 nc, .string sc, .slice oic mic cic, .slice okc mkc ckc, .bool i.createFirst, .bool i.protect, .slice og i.ignore.length cg, .slice ot mt ct, .bool i.triggered, .bool i.requested, .slice oD i.deps.length cD] ∧
  SCV P w (.slice oa i.sc.attrs.length ca) (.slice on i.sc.nested.length cn) i.sc ∧ VV P w (.agg #[.int .i64 kp, .int .i64 np, .string sp, .slice oip mip cip, .slice okp mkp ckp]) i.prior.attrs ∧ SV P w (.slice od i.prior.deps.length cd) i.prior.deps ∧ VV P w (.agg #[.int .i64 kc, .int .i64 nc, .string sc, .slice oic mic cic, .slice okc mkc ckc]) i.cnfg ∧ SV P w (.slice og i.ignore.length cg) i.ignore ∧ SV P w (.slice oD i.deps.length cD) i.deps
section
variable {P Q : Nat → Prop} {w w' : World} {v : Value}
theorem SCV.keep {va vn : Value} {s : Sc} (h : SCV P w va vn s) (k : KeepsP P w w') (hq : ∀ g, P g → Q g) : SCV Q w' va vn s := ⟨h.1.keep k hq, h.2.keep k hq⟩
theorem INV.keep {i : Inp} (h : INV P w v i) (k : KeepsP P w w') (hq : ∀ g, P g → Q g) : INV Q w' v i := by
  obtain ⟨oa, ca, on, cn, kp, np, sp, oip, mip, cip, okp, mkp, ckp, od, cd, kc, nc, sc, oic, mic, cic, okc, mkc, ckc, og, cg, ot, mt, ct, oD, cD, e, h1, h2, h3, h4, h5, h6⟩ := h
  exact ⟨oa, ca, on, cn, kp, np, sp, oip, mip, cip, okp, mkp, ckp, od, cd, kc, nc, sc, oic, mic, cic, okc, mkc, ckc, og, cg, ot, mt, ct, oD, cD, e, h1.keep k hq, h2.keep k hq, h3.keep k hq, h4.keep k hq, h5.keep k hq, h6.keep k hq⟩
theorem INV.bel {i : Inp} (h : INV P w v i) (hb : Below w.heap.size w w') : INV P w' v i := h.keep (KeepsP.below hb) fun _ h => h
end
/-- Sizes under which all calls are in reach. -/
def InOk (i : Inp) : Prop := ScOk i.sc ∧ i.sc.attrs.length ≤ 20 ∧ i.sc.nested.length ≤ 20 ∧ szV i.prior.attrs ≤ 300 ∧ kyV i.prior.attrs ≤ 600 ∧ szV i.cnfg ≤ 300 ∧ kyV i.cnfg ≤ 600 ∧ i.ignore.length ≤ 20 ∧ i.deps.length ≤ 20 ∧ i.prior.deps.length ≤ 20
set_option maxRecDepth 100000 in
set_option maxHeartbeats 4000000 in
theorem reason_any (i : Inp) (l : List ByteArray) (P : Nat → Prop) (w : World) (x : Value) (oR : Option Addr) (cR : Nat) (hx : INV P w x i) (hl : l.length ≤ 140737488355328) :
    Calls Try.prog 37 #[x, .slice oR l.length cR] w (Ret (.int .i64 (reasonD i l)) w) := by
  obtain ⟨oa, ca, on, cn, kp, np, sp, oip, mip, cip, okp, mkp, ckp, od, cd, kc, nc, sc, oic, mic, cic, okc, mkc, ckc, og, cg, ot, mt, ct, oD, cD, rfl, hSC, hVP, hSD, hVC, hSG, hSS⟩ := hx
  generalize hA : w.alloc (.cells #[.string i.addr, .string i.tname, .slice oa i.sc.attrs.length ca, .slice on i.sc.nested.length cn, .int .i64 i.quota, .bool i.has, .string i.prior.addr, .string i.prior.deposed, .string i.prior.id, .string i.prior.type, .int .i64 kp, .int .i64 np, .string sp, .slice oip mip cip, .slice okp mkp ckp, .int .i64 i.prior.version, .bool i.prior.tainted, .bool i.prior.createFirst, .slice od i.prior.deps.length cd, .int .i64 kc, .int .i64 nc, .string sc, .slice oic mic cic, .slice okc mkc ckc, .bool i.createFirst, .bool i.protect, .slice og i.ignore.length cg, .slice ot mt ct, .bool i.triggered, .bool i.requested, .slice oD i.deps.length cD] 67) = wa
  have hao : wa.heap[w.heap.size]? = some (.cells #[.string i.addr, .string i.tname, .slice oa i.sc.attrs.length ca, .slice on i.sc.nested.length cn, .int .i64 i.quota, .bool i.has, .string i.prior.addr, .string i.prior.deposed, .string i.prior.id, .string i.prior.type, .int .i64 kp, .int .i64 np, .string sp, .slice oip mip cip, .slice okp mkp ckp, .int .i64 i.prior.version, .bool i.prior.tainted, .bool i.prior.createFirst, .slice od i.prior.deps.length cd, .int .i64 kc, .int .i64 nc, .string sc, .slice oic mic cic, .slice okc mkc ckc, .bool i.createFirst, .bool i.protect, .slice og i.ignore.length cg, .slice ot mt ct, .bool i.triggered, .bool i.requested, .slice oD i.deps.length cD] 67) := by rw [← hA]; exact heap_alloc_at w _
  have has : wa.heap.size = w.heap.size + 1 := by rw [← hA]; simp
  have hab : Below w.heap.size w wa := by rw [← hA]; exact (Below.refl _ _).alloc (Nat.le_refl _) _
  have HA0 := hid hA
  clear hA
  have HB := hid hab
  clear hSC hVP hSD hVC hSG hSS has hab
  obtain ⟨x0, x1, x2, x3, x4, x5, x6, x7, x8, x9, x10, x11, x12, x13, x14, x15, x16, x17, x18, x19, x20, x21, x22, x23, x24, x25, x26, x27, x28, x29, x30⟩ := C31.of hao
  clear hao
  cases ht : i.prior.tainted with
  | true =>
    rw [ht] at x16 HA0
    have HR := hid (show reasonD i l = 4 by unfold reasonD; simp [ht])
    clear ht
    go_enter Try.func37, Try.ntmps37
    go_upto_region 1 with (fail)
    rw [HA0.out]
    go_wp2_with fail
    go_ret
    exact ⟨by rw [HR.out]; rfl, HB.out⟩
  | false =>
    rw [ht] at x16 HA0
    cases hr : i.requested with
    | true =>
      rw [hr] at x29 HA0
      have HR := hid (show reasonD i l = 6 by unfold reasonD; simp [ht, hr])
      clear ht hr
      go_enter Try.func37, Try.ntmps37
      go_upto_region 1 with (fail)
      rw [HA0.out]
      go_wp2_with fail
      go_ret
      exact ⟨by rw [HR.out]; rfl, HB.out⟩
    | false =>
      rw [hr] at x29 HA0
      cases hg : i.triggered with
      | true =>
        rw [hg] at x28 HA0
        have HR := hid (show reasonD i l = 5 by unfold reasonD; simp [ht, hr, hg])
        clear ht hr hg
        go_enter Try.func37, Try.ntmps37
        go_upto_region 1 with (fail)
        rw [HA0.out]
        go_wp2_with fail
        go_ret
        exact ⟨by rw [HR.out]; rfl, HB.out⟩
      | false =>
        rw [hg] at x28 HA0
        by_cases h0 : l = []
        · have h2 : decide (0 < l.length) = false := by rw [h0]; rfl
          have HR := hid (show reasonD i l = 0 by unfold reasonD; simp [ht, hr, hg, h0])
          clear ht hr hg h0
          go_enter Try.func37, Try.ntmps37
          go_upto_region 1 with (fail)
          rw [HA0.out]
          go_wp2_with fail
          go_ret
          exact ⟨by rw [HR.out]; rfl, HB.out⟩
        · have h1 : 0 < l.length := List.length_pos_iff.2 h0
          have h2 : decide (0 < l.length) = true := decide_eq_true h1
          have HR := hid (show reasonD i l = 3 by unfold reasonD; simp [ht, hr, hg, h0])
          clear ht hr hg h0
          go_enter Try.func37, Try.ntmps37
          go_upto_region 1 with (fail)
          rw [HA0.out]
          go_wp2_with fail
          go_ret
          exact ⟨by rw [HR.out]; rfl, HB.out⟩
/-- Is an ignored name one that a configuration may set? -/
def ignP (s : Sc) (x : ByteArray) : Bool := match fndA s.attrs x with
  | none => true
  | some a => decide (a.mode ≠ 3)
theorem ignP_eq (s : Sc) (x : ByteArray) : ignP s x = (!(fndA s.attrs x).isSome || decide (modeO (fndA s.attrs x) ≠ 3)) := by
  unfold ignP modeO
  cases fndA s.attrs x <;> rfl
theorem fresh_store {n m b : Nat} {w w1 w2 : World} {u : Value} {t : Vl} (hB : Below n w w1) (hn : n ≤ w.heap.size) (hu : VV (fun g => m ≤ g) w1 u t) (hc : Chg (fun k => k = b) w1 w2) (hb : n ≤ b) (hm : b < m) : VV (fun g => n ≤ g) w2 u t ∧ Below n w w2 :=
  ⟨hu.keep (KeepsP.chg hc fun g hg e => by omega) fun g hg => by omega, hB.trans (chg_bel hc (fun k hk => by omega) (Nat.le_trans hn hB.size))⟩
set_option maxRecDepth 100000 in
set_option maxHeartbeats 4000000 in
theorem effective_any (i : Inp) (P : Nat → Prop) (w : World) (x : Value) (hx : INV P w x i) (hok : InOk i) :
    Calls Try.prog 34 #[x] w (FreshV (effD i) w) := by
  obtain ⟨oa, ca, on, cn, kp, np, sp, oip, mip, cip, okp, mkp, ckp, od, cd, kc, nc, sc, oic, mic, cic, okc, mkc, ckc, og, cg, ot, mt, ct, oD, cD, rfl, hSC, hVP, hSD, hVC, hSG, hSS⟩ := hx
  generalize hA : w.alloc (.cells #[.string i.addr, .string i.tname, .slice oa i.sc.attrs.length ca, .slice on i.sc.nested.length cn, .int .i64 i.quota, .bool i.has, .string i.prior.addr, .string i.prior.deposed, .string i.prior.id, .string i.prior.type, .int .i64 kp, .int .i64 np, .string sp, .slice oip mip cip, .slice okp mkp ckp, .int .i64 i.prior.version, .bool i.prior.tainted, .bool i.prior.createFirst, .slice od i.prior.deps.length cd, .int .i64 kc, .int .i64 nc, .string sc, .slice oic mic cic, .slice okc mkc ckc, .bool i.createFirst, .bool i.protect, .slice og i.ignore.length cg, .slice ot mt ct, .bool i.triggered, .bool i.requested, .slice oD i.deps.length cD] 67) = wa
  have hao : wa.heap[w.heap.size]? = some (.cells #[.string i.addr, .string i.tname, .slice oa i.sc.attrs.length ca, .slice on i.sc.nested.length cn, .int .i64 i.quota, .bool i.has, .string i.prior.addr, .string i.prior.deposed, .string i.prior.id, .string i.prior.type, .int .i64 kp, .int .i64 np, .string sp, .slice oip mip cip, .slice okp mkp ckp, .int .i64 i.prior.version, .bool i.prior.tainted, .bool i.prior.createFirst, .slice od i.prior.deps.length cd, .int .i64 kc, .int .i64 nc, .string sc, .slice oic mic cic, .slice okc mkc ckc, .bool i.createFirst, .bool i.protect, .slice og i.ignore.length cg, .slice ot mt ct, .bool i.triggered, .bool i.requested, .slice oD i.deps.length cD] 67) := by rw [← hA]; exact heap_alloc_at w _
  have has : wa.heap.size = w.heap.size + 1 := by rw [← hA]; simp
  have hab : Below w.heap.size w wa := by rw [← hA]; exact (Below.refl _ _).alloc (Nat.le_refl _) _
  have HA0 := hid hA
  clear hA
  generalize hB : wa.alloc zero5 = wb
  have hbo : wb.heap[w.heap.size + 1]? = some zero5 := by rw [← hB, ← has]; exact heap_alloc_at wa _
  have hbs : wb.heap.size = w.heap.size + 2 := by rw [← hB]; simp [has]
  have hbb : Below wa.heap.size wa wb := by rw [← hB]; exact (Below.refl _ _).alloc (Nat.le_refl _) _
  have HB0 := hid hB
  have HB := hid (hab.trans (hbb.mono hab.size))
  have HS := hid hbs
  have HZ := hid hbo
  have HXA := hid (keep_obj hao hbb)
  have HSC := hid (hSC.bel HB.out)
  have HVP := hid (hVP.bel HB.out)
  have HVC := hid (hVC.bel HB.out)
  have HSG := hid (hSG.bel HB.out)
  have HOK := hid hok
  clear hB hao has hab hbo hbs hbb hSC hVP hSD hVC hSG hSS hok
  have HE := hid (show effD i = if i.has = true then ignoreV i.prior.attrs i.cnfg (ignN i.sc i.ignore) else i.cnfg from rfl)
  cases hh : i.has with
  | false =>
    rw [hh] at HXA HA0 HE
    clear hh
    obtain ⟨x0, x1, x2, x3, x4, x5, x6, x7, x8, x9, x10, x11, x12, x13, x14, x15, x16, x17, x18, x19, x20, x21, x22, x23, x24, x25, x26, x27, x28, x29, x30⟩ := C31.of HXA.out
    have HCP := hid (copy_any i.cnfg P wb _ HVC.out (by have := HOK.out.2.2.2.2.2.1; omega) (by have := HOK.out.2.2.2.2.2.2.1; omega))
    go_enter Try.func34, Try.ntmps34
    go_upto_region 1 with (fail)
    rw [HA0.out, HB0.out]
    go_wp2_with fail
    clear x0 x1 x2 x3 x4 x5 x6 x7 x8 x9 x10 x11 x12 x13 x14 x15 x16 x17 x18 x19 x20 x21 x22 x23 x24 x25 x26 x27 x28 x29 x30
    refine HCP.out.mono ?_; rintro e w2 ⟨u, rfl, hu, hb2⟩
    obtain ⟨k2, n2, s2, oi2, mi2, ci2, ok2, mk2, ck2, rfl⟩ := hu.agg5
    have HU := hid hu
    have HB2 := hid (HB.out.trans (hb2.mono HB.out.size))
    have HZ2 := hid (keep_obj HZ.out hb2)
    clear hu hb2 HCP
    go_wp2_with (refine wpList_store_obj rfl 26 _ _ rfl (w.heap.size + 1) 0 [_, _, _, _, _] rfl rfl _ _ HZ2.out (by simp) (by kernel_rfl) rfl ?_; intro ws hzs hcs)
    have HF := hid (fresh_store HB2.out (Nat.le_refl _) HU.out hcs (by omega) (by have := HS.out; omega))
    try simp only [Exit.inBlock, Exit.then]
    refine bodyPost_ret (results_cell_row rfl _ ws (w.heap.size + 1) 26 _ (0, 0) _ rfl hzs Try.underlying26 rfl (by kernel_rfl)) rfl ?_
    rw [HE.out, if_neg (by decide)]
    exact ⟨_, rfl, HF.out.1, HF.out.2⟩
  | true =>
    rw [hh, if_pos rfl] at HE
    rw [hh] at HXA HA0
    clear hh
    have HIG := hid (show ignN i.sc i.ignore = i.ignore.filter (ignP i.sc) from rfl)
    rw [HIG.out] at HE
    have HNL := hid (show i.ignore.length ≤ 20 from HOK.out.2.2.2.2.2.2.2.1)
    have hnl := HNL.out
    generalize i.ignore = ns at *
    obtain ⟨x0, x1, x2, x3, x4, x5, x6, x7, x8, x9, x10, x11, x12, x13, x14, x15, x16, x17, x18, x19, x20, x21, x22, x23, x24, x25, x26, x27, x28, x29, x30⟩ := C31.of HXA.out
    go_enter Try.func34, Try.ntmps34
    go_upto_region 1 with (fail)
    rw [HA0.out, HB0.out]
    go_wp2_with fail
    clear x0 x1 x2 x3 x4 x5 x6 x7 x8 x9 x10 x11 x12 x13 x14 x15 x16 x17 x18 x19 x20 x21 x22 x23 x24 x25 x26 x27 x28 x29 x30
    go_loopw [3, 18] (fun o iv wr => ∃ (j : Nat) (oo : Option Addr) (mo co : Nat), j ≤ ns.length ∧ o = .slice oo mo co ∧ iv = .int .i64 j ∧ Hid (FL wb.heap.size wb wr (.slice oo mo co) ((ns.take j).filter (ignP i.sc)))) (fun _ i _ => ns.length - (intOf i).toNat)
    case atStart => exact ⟨0, _, _, _, Nat.zero_le _, rfl, rfl, hid ⟨Below.refl _ _, Nat.le_refl _, .inl ⟨rfl, rfl⟩, (fun g e => by cases e), (fun s h => by cases h)⟩⟩
    case round =>
      obtain ⟨j, oo, mo, co, hj, rfl, rfl, F⟩ := hrel
      by_cases hlt : j < ns.length
      · obtain ⟨g, o, c, e1, a1⟩ := (HSG.out.bel F.out.bel).at hlt
        cases e1
        have hj0 : (0 : Int) ≤ (j : Int) := by omega
        have hj1 : (j : Int) < (ns.length : Int) := by omega
        have HTK := hid (filter_take (ignP i.sc) ns hlt)
        have HXS := hid (HSG.out.2 ns[j] (List.getElem_mem hlt))
        have HLF := hid (show ((ns.take j).filter (ignP i.sc)).length ≤ 2000 by
          have h1 := List.length_filter_le (ignP i.sc) (ns.take j)
          have h2 := List.length_take_le j ns
          have h3 := HNL.out
          omega)
        generalize ns[j] = x at *
        generalize (ns.take j).filter (ignP i.sc) = l at *
        have HIP := hid (ignP_eq i.sc x)
        have HXA3 := hid (keep_obj HXA.out F.out.bel)
        have HC1 := hid (find_any i.sc x P wr _ _ (HSC.out.bel F.out.bel) HOK.out.1)
        obtain ⟨x0, x1, x2, x3, x4, x5, x6, x7, x8, x9, x10, x11, x12, x13, x14, x15, x16, x17, x18, x19, x20, x21, x22, x23, x24, x25, x26, x27, x28, x29, x30⟩ := C31.of HXA3.out
        go_wp2_with fail
        clear x0 x1 x2 x3 x4 x5 x6 x7 x8 x9 x10 x11 x12 x13 x14 x15 x16 x17 x18 x19 x20 x21 x22 x23 x24 x25 x26 x27 x28 x29 x30
        clear a1
        refine HC1.out.mono ?_; rintro e w3 ⟨nm3, k3, oe3, me3, ce3, on3, mn3, cn3, rfl, hb3⟩
        rw [HIP.out] at HTK
        generalize modeO (fndA i.sc.attrs x) = md3 at *
        generalize repO (fndA i.sc.attrs x) = rp3 at *
        generalize sensO (fndA i.sc.attrs x) = sn3 at *
        generalize volO (fndA i.sc.attrs x) = vl3 at *
        generalize (fndA i.sc.attrs x).isSome = is3 at *
        go_upto_region 8 with (fail)
        have hal := (Below.refl w3.heap.size w3).alloc (Nat.le_refl _) (.cells #[.string nm3, .int .i64 k3, .slice oe3 me3 ce3, .slice on3 mn3 cn3, .int .i64 md3, .bool rp3, .bool sn3, .bool vl3] 82)
        have hxo := heap_alloc_at w3 (.cells #[.string nm3, .int .i64 k3, .slice oe3 me3 ce3, .slice on3 mn3 cn3, .int .i64 md3, .bool rp3, .bool sn3, .bool vl3] 82)
        generalize w3.alloc (.cells #[.string nm3, .int .i64 k3, .slice oe3 me3 ce3, .slice on3 mn3 cn3, .int .i64 md3, .bool rp3, .bool sn3, .bool vl3] 82) = w4 at *
        have F4 := hid (F.out.later (hb3.trans (hal.mono hb3.size)))
        have h4 := (cells_in hxo 4).trans rfl
        clear hb3 hal hxo HC1 HIP
        cases is3 with
        | false =>
          rw [if_pos (by rfl)] at HTK
          go_upto_region 10 with (at_builtin; refine app_tag (by rfl) (.tmp 37) (.tmp 39) 24 (by rfl) 9 (.string ⟨#[]⟩) 1 16 Try.underlying24 info9 rfl (by decide) (by decide) _ _ _ F4.out.row.owns (by rfl) [.string x] w4.heap.size (by rfl) (by rfl) (by rfl) (by simp [Value.oneCell']) (by have := HLF.out; omega) ?_; intro v9 w9 hown9 hc9 hp9 hne9; obtain ⟨o9, n9, c9, rfl⟩ := owns_slice hown9; have HF9 := hid (F4.out.push HXS.out hown9 hc9 hp9); clear hown9 hc9 hp9 hne9)
          go_wp2_with fail
          go_roundw
          case rel => exact ⟨j + 1, _, _, _, by omega, rfl, by go_num, by rw [HTK.out]; exact HF9⟩
          case measure => simp [intOf]; omega
        | true =>
          by_cases hm : md3 = 3
          · subst hm
            rw [if_neg (by decide)] at HTK
            go_wp2_with fail
            go_roundw
            case rel => exact ⟨j + 1, _, _, _, by omega, rfl, by go_num, by rw [HTK.out]; exact F4⟩
            case measure => simp [intOf]; omega
          · have f1 : decide (md3 = 3) = false := decide_eq_false hm
            have f2 : (md3 == 3) = false := beq_eq_false_iff_ne.2 hm
            have f3 : (md3 != 3) = true := by rw [bne, f2]; rfl
            have f4 : decide (md3 ≠ 3) = true := decide_eq_true hm
            rw [f4, if_pos (by rfl)] at HTK
            clear hm f4
            go_upto_region 10 with (at_builtin; refine app_tag (by rfl) (.tmp 37) (.tmp 39) 24 (by rfl) 9 (.string ⟨#[]⟩) 1 16 Try.underlying24 info9 rfl (by decide) (by decide) _ _ _ F4.out.row.owns (by rfl) [.string x] w4.heap.size (by rfl) (by rfl) (by rfl) (by simp [Value.oneCell']) (by have := HLF.out; omega) ?_; intro v9 w9 hown9 hc9 hp9 hne9; obtain ⟨o9, n9, c9, rfl⟩ := owns_slice hown9; have HF9 := hid (F4.out.push HXS.out hown9 hc9 hp9); clear hown9 hc9 hp9 hne9)
            go_wp2_with fail
            go_roundw
            case rel => exact ⟨j + 1, _, _, _, by omega, rfl, by go_num, by rw [HTK.out]; exact HF9⟩
            case measure => simp [intOf]; omega
      · rw [List.take_of_length_le (by omega)] at F
        have HB3 := hid (HB.out.trans (F.out.bel.mono HB.out.size))
        have HLC := hid (show (ns.filter (ignP i.sc)).length ≤ 20 from Nat.le_trans (List.length_filter_le _ _) HNL.out)
        have hSN : SV (fun g => wb.heap.size ≤ g) wr (.slice oo mo co) (ns.filter (ignP i.sc)) := F.out.row.sv (fun g e => F.out.own g e) (by have := HLC.out; omega) F.out.str
        have HIGN := hid (ignore_any i.prior.attrs i.cnfg (ns.filter (ignP i.sc)) P P _ wr _ _ _ (HVP.out.bel F.out.bel) (HVC.out.bel F.out.bel) hSN (by have := HOK.out.2.2.2.1; omega) (by have := HOK.out.2.2.2.2.1; omega) (by have := HOK.out.2.2.2.2.2.1; omega) (by have := HOK.out.2.2.2.2.2.2.1; omega) (by have := HLC.out; omega))
        have HXA3 := hid (keep_obj HXA.out F.out.bel)
        have HZ3 := hid (keep_obj HZ.out F.out.bel)
        clear hSN
        obtain ⟨x0, x1, x2, x3, x4, x5, x6, x7, x8, x9, x10, x11, x12, x13, x14, x15, x16, x17, x18, x19, x20, x21, x22, x23, x24, x25, x26, x27, x28, x29, x30⟩ := C31.of HXA3.out
        go_wp2_with fail
        clear x0 x1 x2 x3 x4 x5 x6 x7 x8 x9 x10 x11 x12 x13 x14 x15 x16 x17 x18 x19 x20 x21 x22 x23 x24 x25 x26 x27 x28 x29 x30
        refine HIGN.out.mono ?_; rintro e w5 ⟨u, rfl, hu, hb5⟩
        obtain ⟨k2, n2, s2, oi2, mi2, ci2, ok2, mk2, ck2, rfl⟩ := hu.agg5
        have HU := hid hu
        have HZ5 := hid (keep_obj HZ3.out hb5)
        have HB5 := hid (HB3.out.trans (hb5.mono HB3.out.size))
        clear hu hb5 HIGN
        go_wp2_with (refine wpList_store_obj rfl 26 _ _ rfl (w.heap.size + 1) 0 [_, _, _, _, _] rfl rfl _ _ HZ5.out (by simp) (by kernel_rfl) rfl ?_; intro ws hzs hcs)
        have HF := hid (fresh_store HB5.out (Nat.le_refl _) HU.out hcs (by omega) (by have := HS.out; have := F.out.bel.size; omega))
        try simp only [Exit.inBlock, Exit.then]
        refine bodyPost_ret (results_cell_row rfl _ ws (w.heap.size + 1) 26 _ (0, 0) _ rfl hzs Try.underlying26 rfl (by kernel_rfl)) rfl ?_
        rw [HE.out]
        exact ⟨_, rfl, HF.out.1, HF.out.2⟩
end Go.Proofs.Ytibiiafcnaijeaa
