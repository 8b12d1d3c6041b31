/- The statement DiffOthers holds of the given program for every input. -/
import Derived.Test.YtibiiafcnaijeaaOthK
import Derived.Test.YtibiiafcnaijeaaDel
import Derived.Test.YtibiiafcnaijeaaOpenO
import Derived.Test.YtibiiafcnaijeaaAwake
namespace Go.Proofs.Ytibiiafcnaijeaa.diffOthers
open Go Go.ChangeShapes Go.WideShapes Go.ChangeAt Go.RowKit Go.Proofs.Ytibiiafcnaijeaa.Steady
set_option linter.unusedVariables false
set_option linter.unusedSimpArgs false

abbrev C17 (b : Nat) (x0 x1 x2 x3 x4 x5 x6 x7 x8 x9 x10 x11 x12 x13 x14 x15 x16 : Value) (v : World) : Prop := v.cell? ⟨b, 0, none⟩ = some x0 ∧ v.cell? ⟨b, 1, none⟩ = some x1 ∧ v.cell? ⟨b, 2, none⟩ = some x2 ∧ v.cell? ⟨b, 3, none⟩ = some x3 ∧ v.cell? ⟨b, 4, none⟩ = some x4 ∧ v.cell? ⟨b, 5, none⟩ = some x5 ∧ v.cell? ⟨b, 6, none⟩ = some x6 ∧ v.cell? ⟨b, 7, none⟩ = some x7 ∧ v.cell? ⟨b, 8, none⟩ = some x8 ∧ v.cell? ⟨b, 9, none⟩ = some x9 ∧ v.cell? ⟨b, 10, none⟩ = some x10 ∧ v.cell? ⟨b, 11, none⟩ = some x11 ∧ v.cell? ⟨b, 12, none⟩ = some x12 ∧ v.cell? ⟨b, 13, none⟩ = some x13 ∧ v.cell? ⟨b, 14, none⟩ = some x14 ∧ v.cell? ⟨b, 15, none⟩ = some x15 ∧ v.cell? ⟨b, 16, none⟩ = some x16
theorem C17.of {b T : Nat} {x0 x1 x2 x3 x4 x5 x6 x7 x8 x9 x10 x11 x12 x13 x14 x15 x16 : Value} {v : World} (h : v.heap[b]? = some (.cells #[x0, x1, x2, x3, x4, x5, x6, x7, x8, x9, x10, x11, x12, x13, x14, x15, x16] T)) : C17 b x0 x1 x2 x3 x4 x5 x6 x7 x8 x9 x10 x11 x12 x13 x14 x15 x16 v := ⟨(cells_in h 0).trans rfl, (cells_in h 1).trans rfl, (cells_in h 2).trans rfl, (cells_in h 3).trans rfl, (cells_in h 4).trans rfl, (cells_in h 5).trans rfl, (cells_in h 6).trans rfl, (cells_in h 7).trans rfl, (cells_in h 8).trans rfl, (cells_in h 9).trans rfl, (cells_in h 10).trans rfl, (cells_in h 11).trans rfl, (cells_in h 12).trans rfl, (cells_in h 13).trans rfl, (cells_in h 14).trans rfl, (cells_in h 15).trans rfl, (cells_in h 16).trans rfl⟩
theorem C17.bel {b : Nat} {x0 x1 x2 x3 x4 x5 x6 x7 x8 x9 x10 x11 x12 x13 x14 x15 x16 : Value} {v v' : World} (h : C17 b x0 x1 x2 x3 x4 x5 x6 x7 x8 x9 x10 x11 x12 x13 x14 x15 x16 v) (hb : Below v.heap.size v v') : C17 b x0 x1 x2 x3 x4 x5 x6 x7 x8 x9 x10 x11 x12 x13 x14 x15 x16 v' := ⟨bcell hb h.1, bcell hb h.2.1, bcell hb h.2.2.1, bcell hb h.2.2.2.1, bcell hb h.2.2.2.2.1, bcell hb h.2.2.2.2.2.1, bcell hb h.2.2.2.2.2.2.1, bcell hb h.2.2.2.2.2.2.2.1, bcell hb h.2.2.2.2.2.2.2.2.1, bcell hb h.2.2.2.2.2.2.2.2.2.1, bcell hb h.2.2.2.2.2.2.2.2.2.2.1, bcell hb h.2.2.2.2.2.2.2.2.2.2.2.1, bcell hb h.2.2.2.2.2.2.2.2.2.2.2.2.1, bcell hb h.2.2.2.2.2.2.2.2.2.2.2.2.2.1, bcell hb h.2.2.2.2.2.2.2.2.2.2.2.2.2.2.1, bcell hb h.2.2.2.2.2.2.2.2.2.2.2.2.2.2.2.1, bcell hb h.2.2.2.2.2.2.2.2.2.2.2.2.2.2.2.2⟩
set_option maxRecDepth 100000 in
set_option maxHeartbeats 40000000 in
theorem walk (w : World) (vp vc vo : Value) (prior cnfg : Vl) (x : Oth) (hp : VV (fun _ => True) w vp prior) (hc : VV (fun _ => True) w vc cnfg) (ho : OV w vo x) : Calls Try.prog 3 #[vp, vc, vo] w (Ret (.bool true) w) := by
  have HVP := hid hp
  have HVC := hid hc
  obtain ⟨kp, np, sp, oip, mip, cip, okp, mkp, ckp, rfl⟩ := hp.agg5
  have HK1 := hid (show kdV prior = kp by obtain ⟨_, _, _, _, _, _, _, _, _, e, -, -, -, -, hk⟩ := hp.five; cases e; exact hk)
  obtain ⟨kc, nc, sc, oic, mic, cic, okc, mkc, ckc, rfl⟩ := hc.agg5
  have HK2 := hid (show kdV cnfg = kc by obtain ⟨_, _, _, _, _, _, _, _, _, e, -, -, -, -, hk⟩ := hc.five; cases e; exact hk)
  obtain ⟨on, cn, c1, c2, c3, c4, c5, c6, c7, c8, c9, c10, c11, c12, c13, ou, cu, rfl, hn, hi, hu⟩ := ho
  obtain ⟨ki, ni, si, oii, mii, cii, oki, mki, cki, od, cd, ei, hvi, hdi⟩ := hi
  simp only [Value.agg.injEq, Array.mk.injEq, List.cons.injEq, and_true] at ei
  obtain ⟨rfl, rfl, rfl, rfl, rfl, rfl, rfl, rfl, rfl, rfl, rfl, rfl, rfl⟩ := ei
  have HN := hid hn
  have HVI := hid hvi
  have HDI := hid hdi
  have HU := hid hu
  have hln := hn.le
  have hld := hdi.le
  have hlu := hu.1
  generalize hA : w.alloc (.cells #[.int .i64 kp, .int .i64 np, .string sp, .slice oip mip cip, .slice okp mkp ckp] 26) = wa
  have hao : wa.heap[w.heap.size]? = some (.cells #[.int .i64 kp, .int .i64 np, .string sp, .slice oip mip cip, .slice okp mkp ckp] 26) := by rw [← hA]; exact heap_alloc_at w _
  have has : wa.heap.size = w.heap.size + 1 := by rw [← hA]; simp
  have hab : Below w.heap.size w wa := by rw [← hA]; exact (Below.refl _ _).alloc (Nat.le_refl _) _
  generalize hB : wa.alloc (.cells #[.int .i64 kc, .int .i64 nc, .string sc, .slice oic mic cic, .slice okc mkc ckc] 26) = wb
  have hbo : wb.heap[w.heap.size + 1]? = some (.cells #[.int .i64 kc, .int .i64 nc, .string sc, .slice oic mic cic, .slice okc mkc ckc] 26) := by rw [← hB, ← has]; exact heap_alloc_at wa _
  have hbs : wb.heap.size = w.heap.size + 2 := by rw [← hB]; simp [has]
  have hbb : Below wa.heap.size wa wb := by rw [← hB]; exact (Below.refl _ _).alloc (Nat.le_refl _) _
  generalize hC : wb.alloc (.cells #[.slice on x.names.length cn, .string x.i.addr, .string x.i.deposed, .string x.i.id, .string x.i.type, .int .i64 ki, .int .i64 ni, .string si, .slice oii mii cii, .slice oki mki cki, .int .i64 x.i.version, .bool x.i.tainted, .bool x.i.createFirst, .slice od x.i.deps.length cd, .int .i64 x.why, .bool x.protect, .slice ou x.acts.length cu] 32) = wc
  have hco : wc.heap[w.heap.size + 2]? = some (.cells #[.slice on x.names.length cn, .string x.i.addr, .string x.i.deposed, .string x.i.id, .string x.i.type, .int .i64 ki, .int .i64 ni, .string si, .slice oii mii cii, .slice oki mki cki, .int .i64 x.i.version, .bool x.i.tainted, .bool x.i.createFirst, .slice od x.i.deps.length cd, .int .i64 x.why, .bool x.protect, .slice ou x.acts.length cu] 32) := by rw [← hC, ← hbs]; exact heap_alloc_at wb _
  have hcb : Below wb.heap.size wb wc := by rw [← hC]; exact (Below.refl _ _).alloc (Nat.le_refl _) _
  have HA0 := hid hA
  have HB0 := hid hB
  have HC0 := hid hC
  have HB := hid (hab.trans ((hbb.trans (hcb.mono hbb.size)).mono hab.size))
  have HXO := hid hco
  have HXC := hid (keep_obj hbo hcb)
  have HXP := hid (keep_obj (keep_obj hao hbb) hcb)
  clear hp hc hn hvi hdi hu hA hB hC hao hbo hco has hbs hab hbb hcb
  go_enter Try.func3, Try.ntmps3
  go_upto_region 1 with (fail)
  rw [HA0.out, HB0.out, HC0.out]
  clear HA0 HB0 HC0
  obtain ⟨x0, x1, x2, x3, x4, x5, x6, x7, x8, x9, x10, x11, x12, x13, x14, x15, x16⟩ := C17.of HXO.out
  obtain ⟨p0, p1, p2, p3, p4⟩ := C5.of HXP.out
  obtain ⟨q0, q1, q2, q3, q4⟩ := C5.of HXC.out
  go_wp2_with fail
  clear x0 x1 x2 x3 x4 x5 x6 x7 x8 x9 x10 x11 x12 x13 x14 x15 x16 p0 p1 p2 p3 p4 q0 q1 q2 q3 q4
  have HSM := hid (smallV_any (fun _ => True) _ _ (prior) (HVP.out.bel HB.out) 300 (by decide) (by decide))
  by_cases hsm : smallVB (prior) 300 = true
  case neg =>
    have hsf : smallVB (prior) 300 = false := by simpa using hsm
    rw [hsf] at HSM
    clear hsm hsf
    refine HSM.out.mono ?_
    rintro e wn ⟨rfl, hb⟩
    replace HXO := hid (keep_obj HXO.out hb)
    replace HXP := hid (keep_obj HXP.out hb)
    replace HXC := hid (keep_obj HXC.out hb)
    replace HB := hid (HB.out.trans (hb.mono HB.out.size))
    clear hb
    clear HSM
    go_wp2_with fail
    refine (awake_any _).mono ?_
    rintro e wz ⟨rfl, hb⟩
    replace HB := hid (HB.out.trans (hb.mono HB.out.size))
    clear hb
    go_wp2_with fail
    go_ret
    exact ⟨rfl, HB.out⟩
  rw [hsm] at HSM
  have HF1 := hid (smallV_facts (n := 300) hsm)
  clear hsm
  refine HSM.out.mono ?_
  rintro e wn ⟨rfl, hb⟩
  replace HXO := hid (keep_obj HXO.out hb)
  replace HXP := hid (keep_obj HXP.out hb)
  replace HXC := hid (keep_obj HXC.out hb)
  replace HB := hid (HB.out.trans (hb.mono HB.out.size))
  clear hb
  clear HSM
  obtain ⟨x0, x1, x2, x3, x4, x5, x6, x7, x8, x9, x10, x11, x12, x13, x14, x15, x16⟩ := C17.of HXO.out
  obtain ⟨p0, p1, p2, p3, p4⟩ := C5.of HXP.out
  obtain ⟨q0, q1, q2, q3, q4⟩ := C5.of HXC.out
  go_wp2_with fail
  clear x0 x1 x2 x3 x4 x5 x6 x7 x8 x9 x10 x11 x12 x13 x14 x15 x16 p0 p1 p2 p3 p4 q0 q1 q2 q3 q4
  have HSM := hid (smallV_any (fun _ => True) _ _ (cnfg) (HVC.out.bel HB.out) 300 (by decide) (by decide))
  by_cases hsm : smallVB (cnfg) 300 = true
  case neg =>
    have hsf : smallVB (cnfg) 300 = false := by simpa using hsm
    rw [hsf] at HSM
    clear hsm hsf
    refine HSM.out.mono ?_
    rintro e wn ⟨rfl, hb⟩
    replace HXO := hid (keep_obj HXO.out hb)
    replace HXP := hid (keep_obj HXP.out hb)
    replace HXC := hid (keep_obj HXC.out hb)
    replace HB := hid (HB.out.trans (hb.mono HB.out.size))
    clear hb
    clear HSM
    go_wp2_with fail
    refine (awake_any _).mono ?_
    rintro e wz ⟨rfl, hb⟩
    replace HB := hid (HB.out.trans (hb.mono HB.out.size))
    clear hb
    go_wp2_with fail
    go_ret
    exact ⟨rfl, HB.out⟩
  rw [hsm] at HSM
  have HF2 := hid (smallV_facts (n := 300) hsm)
  clear hsm
  refine HSM.out.mono ?_
  rintro e wn ⟨rfl, hb⟩
  replace HXO := hid (keep_obj HXO.out hb)
  replace HXP := hid (keep_obj HXP.out hb)
  replace HXC := hid (keep_obj HXC.out hb)
  replace HB := hid (HB.out.trans (hb.mono HB.out.size))
  clear hb
  clear HSM
  obtain ⟨x0, x1, x2, x3, x4, x5, x6, x7, x8, x9, x10, x11, x12, x13, x14, x15, x16⟩ := C17.of HXO.out
  obtain ⟨p0, p1, p2, p3, p4⟩ := C5.of HXP.out
  obtain ⟨q0, q1, q2, q3, q4⟩ := C5.of HXC.out
  go_wp2_with fail
  clear x0 x1 x2 x3 x4 x5 x6 x7 x8 x9 x10 x11 x12 x13 x14 x15 x16 p0 p1 p2 p3 p4 q0 q1 q2 q3 q4
  refine (ovcheck_any (fun _ => True) _ _ (prior) (HVP.out.bel HB.out) (by have := HF1.out.1; omega)).mono ?_
  rintro e wn ⟨r, rfl, hok, hb⟩
  have HO1' := hid hok
  replace HXO := hid (keep_obj HXO.out hb)
  replace HXP := hid (keep_obj HXP.out hb)
  replace HXC := hid (keep_obj HXC.out hb)
  replace HB := hid (HB.out.trans (hb.mono HB.out.size))
  clear hb
  clear hok
  by_cases hr : r = 0
  case neg =>
    have d1 : decide (r = 0) = false := decide_eq_false hr
    have d2 : (r == 0) = false := beq_eq_false_iff_ne.2 hr
    have d3 : (r != 0) = true := by rw [bne, d2]; rfl
    clear hr
    go_wp2_with fail
    refine (awake_any _).mono ?_
    rintro e wz ⟨rfl, hb⟩
    replace HB := hid (HB.out.trans (hb.mono HB.out.size))
    clear hb
    go_wp2_with fail
    go_ret
    exact ⟨rfl, HB.out⟩
  have HO1 := hid (HO1'.out hr)
  subst hr
  clear HO1'
  obtain ⟨x0, x1, x2, x3, x4, x5, x6, x7, x8, x9, x10, x11, x12, x13, x14, x15, x16⟩ := C17.of HXO.out
  obtain ⟨p0, p1, p2, p3, p4⟩ := C5.of HXP.out
  obtain ⟨q0, q1, q2, q3, q4⟩ := C5.of HXC.out
  go_wp2_with fail
  clear x0 x1 x2 x3 x4 x5 x6 x7 x8 x9 x10 x11 x12 x13 x14 x15 x16 p0 p1 p2 p3 p4 q0 q1 q2 q3 q4
  refine (ovcheck_any (fun _ => True) _ _ (cnfg) (HVC.out.bel HB.out) (by have := HF2.out.1; omega)).mono ?_
  rintro e wn ⟨r, rfl, hok, hb⟩
  have HO2' := hid hok
  replace HXO := hid (keep_obj HXO.out hb)
  replace HXP := hid (keep_obj HXP.out hb)
  replace HXC := hid (keep_obj HXC.out hb)
  replace HB := hid (HB.out.trans (hb.mono HB.out.size))
  clear hb
  clear hok
  by_cases hr : r = 0
  case neg =>
    have d1 : decide (r = 0) = false := decide_eq_false hr
    have d2 : (r == 0) = false := beq_eq_false_iff_ne.2 hr
    have d3 : (r != 0) = true := by rw [bne, d2]; rfl
    clear hr
    go_wp2_with fail
    refine (awake_any _).mono ?_
    rintro e wz ⟨rfl, hb⟩
    replace HB := hid (HB.out.trans (hb.mono HB.out.size))
    clear hb
    go_wp2_with fail
    go_ret
    exact ⟨rfl, HB.out⟩
  have HO2 := hid (HO2'.out hr)
  subst hr
  clear HO2'
  obtain ⟨x0, x1, x2, x3, x4, x5, x6, x7, x8, x9, x10, x11, x12, x13, x14, x15, x16⟩ := C17.of HXO.out
  obtain ⟨p0, p1, p2, p3, p4⟩ := C5.of HXP.out
  obtain ⟨q0, q1, q2, q3, q4⟩ := C5.of HXC.out
  by_cases hle : x.names.length ≤ 20
  case neg =>
    have hgt : 20 < x.names.length := by omega
    clear hle
    go_wp2_with fail
    refine (awake_any _).mono ?_
    rintro e wz ⟨rfl, hb⟩
    replace HB := hid (HB.out.trans (hb.mono HB.out.size))
    clear hb
    go_wp2_with fail
    go_ret
    exact ⟨rfl, HB.out⟩
  have hl1 := hle
  clear hle
  by_cases hle : x.acts.length ≤ 60
  case neg =>
    have hgt : 60 < x.acts.length := by omega
    clear hle
    go_wp2_with fail
    refine (awake_any _).mono ?_
    rintro e wz ⟨rfl, hb⟩
    replace HB := hid (HB.out.trans (hb.mono HB.out.size))
    clear hb
    go_wp2_with fail
    go_ret
    exact ⟨rfl, HB.out⟩
  have hl2 := hle
  clear hle
  go_wp2_with fail
  clear x0 x1 x2 x3 x4 x5 x6 x7 x8 x9 x10 x11 x12 x13 x14 x15 x16 p0 p1 p2 p3 p4 q0 q1 q2 q3 q4
  have HSM := hid (smallV_any (fun _ => True) _ _ (x.i.attrs) (HVI.out.bel HB.out) 300 (by decide) (by decide))
  by_cases hsm : smallVB (x.i.attrs) 300 = true
  case neg =>
    have hsf : smallVB (x.i.attrs) 300 = false := by simpa using hsm
    rw [hsf] at HSM
    clear hsm hsf
    refine HSM.out.mono ?_
    rintro e wn ⟨rfl, hb⟩
    replace HXO := hid (keep_obj HXO.out hb)
    replace HXP := hid (keep_obj HXP.out hb)
    replace HXC := hid (keep_obj HXC.out hb)
    replace HB := hid (HB.out.trans (hb.mono HB.out.size))
    clear hb
    clear HSM
    go_wp2_with fail
    refine (awake_any _).mono ?_
    rintro e wz ⟨rfl, hb⟩
    replace HB := hid (HB.out.trans (hb.mono HB.out.size))
    clear hb
    go_wp2_with fail
    go_ret
    exact ⟨rfl, HB.out⟩
  rw [hsm] at HSM
  have HF3 := hid (smallV_facts (n := 300) hsm)
  clear hsm
  refine HSM.out.mono ?_
  rintro e wn ⟨rfl, hb⟩
  replace HXO := hid (keep_obj HXO.out hb)
  replace HXP := hid (keep_obj HXP.out hb)
  replace HXC := hid (keep_obj HXC.out hb)
  replace HB := hid (HB.out.trans (hb.mono HB.out.size))
  clear hb
  clear HSM
  obtain ⟨x0, x1, x2, x3, x4, x5, x6, x7, x8, x9, x10, x11, x12, x13, x14, x15, x16⟩ := C17.of HXO.out
  obtain ⟨p0, p1, p2, p3, p4⟩ := C5.of HXP.out
  obtain ⟨q0, q1, q2, q3, q4⟩ := C5.of HXC.out
  by_cases hle : x.i.deps.length ≤ 20
  case neg =>
    have hgt : 20 < x.i.deps.length := by omega
    clear hle
    go_wp2_with fail
    refine (awake_any _).mono ?_
    rintro e wz ⟨rfl, hb⟩
    replace HB := hid (HB.out.trans (hb.mono HB.out.size))
    clear hb
    go_wp2_with fail
    go_ret
    exact ⟨rfl, HB.out⟩
  have hl3 := hle
  clear hle
  go_upto_region 3 with (fail)
  obtain ⟨w3, rfl⟩ : ∃ v, v = wn := ⟨_, rfl⟩
  clear x0 x1 x2 x3 x4 x5 x6 x7 x8 x9 x10 x11 x12 x13 x14 x15 x16 p0 p1 p2 p3 p4 q0 q1 q2 q3 q4
  have HL := hid (And.intro hl1 (And.intro hl2 hl3))
  have hdr : Below w3.heap.size w3 w3.drew := below_drew (Below.refl _ _)
  have h := And.intro (C5.bel (C5.of HXP.out) hdr) (And.intro (C5.bel (C5.of HXC.out) hdr) (C17.bel (C17.of HXO.out) hdr))
  have HDR := hid hdr
  clear hdr
  go_cut [83] (fun b wx => b = .bool false ∧ Hid (Below w3.heap.size w3 wx))
  case first =>
    refine wp_region_steady (fun v => C5 w.heap.size (.int .i64 kp) (.int .i64 np) (.string sp) (.slice oip mip cip) (.slice okp mkp ckp) v ∧ C5 (w.heap.size + 1) (.int .i64 kc) (.int .i64 nc) (.string sc) (.slice oic mic cic) (.slice okc mkc ckc) v ∧ C17 (w.heap.size + 2) (.slice on x.names.length cn) (.string x.i.addr) (.string x.i.deposed) (.string x.i.id) (.string x.i.type) (.int .i64 ki) (.int .i64 ni) (.string si) (.slice oii mii cii) (.slice oki mki cki) (.int .i64 x.i.version) (.bool x.i.tainted) (.bool x.i.createFirst) (.slice od x.i.deps.length cd) (.int .i64 x.why) (.bool x.protect) (.slice ou x.acts.length cu) v) (by kernel_rfl) (by kernel_rfl) h ?_
    by_cases h5 : kp = 5
    case neg =>
      have da : decide (kp = 5) = false := decide_eq_false h5
      have db : (kp == 5) = false := beq_eq_false_iff_ne.2 h5
      have dc : (kp != 5) = true := by rw [bne, db]; rfl
      clear h5
      repeat (first
        | (refine wpSteady_skip (by rfl) ?_; try simp only [Act.put, List.setIfInBounds_toArray, List.set_cons_zero, List.set_cons_succ])
        | (refine wpSteady_calm (v := ?_) (by rfl) ?_ ?_; rotate_left; (focus (intro v hSv; (try simp only [C5, C17] at hSv); go_simp; (try with_reducible rfl); done)); try simp only [Act.put, List.setIfInBounds_toArray, List.set_cons_zero, List.set_cons_succ]))
      refine wpSteady_nil ?_
      clear h
      go_wp2_with fail
      go_meet
      exact ⟨rfl, HDR⟩
    by_cases h6 : kc = 5
    case neg =>
      subst h5
      have h5 := h6
      have da : decide (kc = 5) = false := decide_eq_false h5
      have db : (kc == 5) = false := beq_eq_false_iff_ne.2 h5
      have dc : (kc != 5) = true := by rw [bne, db]; rfl
      clear h5
      repeat (first
        | (refine wpSteady_skip (by rfl) ?_; try simp only [Act.put, List.setIfInBounds_toArray, List.set_cons_zero, List.set_cons_succ])
        | (refine wpSteady_calm (v := ?_) (by rfl) ?_ ?_; rotate_left; (focus (intro v hSv; (try simp only [C5, C17] at hSv); go_simp; (try with_reducible rfl); done)); try simp only [Act.put, List.setIfInBounds_toArray, List.set_cons_zero, List.set_cons_succ]))
      refine wpSteady_nil ?_
      clear h
      go_wp2_with fail
      go_meet
      exact ⟨rfl, HDR⟩
    subst h5 h6
    have HM1 := hid (show MapOk prior from by
      obtain ⟨k, n, s, is, ks⟩ := prior
      exact MapOk.of HO1.out HK1.out)
    have HM2 := hid (show MapOk cnfg from by
      obtain ⟨k, n, s, is, ks⟩ := cnfg
      exact MapOk.of HO2.out HK2.out)
    have HBD := hid (HB.out.trans (HDR.out.mono HB.out.size))
    repeat (first
      | (refine wpSteady_skip (by rfl) ?_; try simp only [Act.put, List.setIfInBounds_toArray, List.set_cons_zero, List.set_cons_succ])
      | (refine wpSteady_calm (v := ?_) (by rfl) ?_ ?_; rotate_left; (focus (intro v hSv; (try simp only [C5, C17] at hSv); go_simp; (try with_reducible rfl); done)); try simp only [Act.put, List.setIfInBounds_toArray, List.set_cons_zero, List.set_cons_succ]))
    refine wpSteady_loud rfl (by rfl) (fun K hK => ?_)
    go_simp
    refine (ignore_any prior cnfg x.names _ _ _ w3.drew _ _ _ (HVP.out.bel HBD.out) (HVC.out.bel HBD.out) (HN.out.bel HBD.out) (by have := HF1.out.1; omega) (by have := HF1.out.2; omega) (by have := HF2.out.1; omega) (by have := HF2.out.2; omega) (by have := HL.out.1; omega)).mono ?_
    rintro e w4 ⟨u, rfl, hu, hb⟩
    obtain ⟨k8, n8, s8, oi8, mi8, ci8, ok8, mk8, ck8, rfl⟩ := hu.agg5
    have HU1 := hid hu
    replace HBD := hid (HBD.out.trans (hb.mono HBD.out.size))
    replace HDR := hid (HDR.out.trans (hb.mono HDR.out.size))
    have h2 := And.intro (C5.bel h.1 hb) (And.intro (C5.bel h.2.1 hb) (C17.bel h.2.2 hb))
    refine hK.out _ _ h2 ?_
    clear hK K hb hu h
    try simp only [Act.put, List.setIfInBounds_toArray, List.set_cons_zero, List.set_cons_succ]
    repeat (first
      | (refine wpSteady_skip (by rfl) ?_; try simp only [Act.put, List.setIfInBounds_toArray, List.set_cons_zero, List.set_cons_succ])
      | (refine wpSteady_calm (v := ?_) (by rfl) ?_ ?_; rotate_left; (focus (intro v hSv; (try simp only [C5, C17] at hSv); go_simp; (try with_reducible rfl); done)); try simp only [Act.put, List.setIfInBounds_toArray, List.set_cons_zero, List.set_cons_succ]))
    refine wpSteady_loud rfl (by rfl) (fun K hK => ?_)
    go_simp
    refine (rignore_any prior cnfg x.names (fun g => g < w4.heap.size) _ w4 _ _ _ ((HVP.out.bel HBD.out).ex.mono fun g hg => hg.2) ((HVC.out.bel HBD.out).ex.mono fun g hg => hg.2) (HN.out.bel HBD.out) (fun g hg => hg) (by have := HF1.out.1; omega) (by have := HF1.out.2; omega) (by have := HF2.out.1; omega) (by have := HF2.out.2; omega) (by have := HL.out.1; omega)).mono ?_
    rintro e w5 ⟨u, rfl, hu, hb⟩
    obtain ⟨k9, n9, s9, oi9, mi9, ci9, ok9, mk9, ck9, rfl⟩ := hu.agg5
    rw [← ignore_same prior HM1.out x.names cnfg HM2.out] at hu
    have HU2 := hid hu
    replace HU1 := hid (HU1.out.bel hb)
    replace HDR := hid (HDR.out.trans (hb.mono HDR.out.size))
    have h := And.intro (C5.bel h2.1 hb) (And.intro (C5.bel h2.2.1 hb) (C17.bel h2.2.2 hb))
    refine hK.out _ _ h ?_
    clear hK K hb hu h2
    try simp only [Act.put, List.setIfInBounds_toArray, List.set_cons_zero, List.set_cons_succ]
    repeat (first
      | (refine wpSteady_skip (by rfl) ?_; try simp only [Act.put, List.setIfInBounds_toArray, List.set_cons_zero, List.set_cons_succ])
      | (refine wpSteady_calm (v := ?_) (by rfl) ?_ ?_; rotate_left; (focus (intro v hSv; (try simp only [C5, C17] at hSv); go_simp; (try with_reducible rfl); done)); try simp only [Act.put, List.setIfInBounds_toArray, List.set_cons_zero, List.set_cons_succ]))
    refine wpSteady_loud rfl (by rfl) (fun K hK => ?_)
    go_simp
    refine (requal_self (ignoreV prior cnfg x.names) _ _ w5 _ _ HU1.out HU2.out).mono ?_
    rintro e w6 ⟨rfl, hb⟩
    replace HDR := hid (HDR.out.trans (hb.mono HDR.out.size))
    have h2 := And.intro (C5.bel h.1 hb) (And.intro (C5.bel h.2.1 hb) (C17.bel h.2.2 hb))
    refine hK.out _ _ h2 ?_
    clear hK K hb h
    try simp only [Act.put, List.setIfInBounds_toArray, List.set_cons_zero, List.set_cons_succ]
    repeat (first
      | (refine wpSteady_skip (by rfl) ?_; try simp only [Act.put, List.setIfInBounds_toArray, List.set_cons_zero, List.set_cons_succ])
      | (refine wpSteady_calm (v := ?_) (by rfl) ?_ ?_; rotate_left; (focus (intro v hSv; (try simp only [C5, C17] at hSv); go_simp; (try with_reducible rfl); done)); try simp only [Act.put, List.setIfInBounds_toArray, List.set_cons_zero, List.set_cons_succ]))
    refine wpSteady_nil ?_
    clear h2
    go_wp2_with fail
    go_meet
    exact ⟨rfl, HDR⟩
  case rest =>
    obtain ⟨rfl, HW⟩ := hcut
    obtain ⟨w6, rfl⟩ : ∃ v, v = wc := ⟨_, rfl⟩
    replace HXO := hid (keep_obj HXO.out HW.out)
    replace HB := hid (HB.out.trans (HW.out.mono HB.out.size))
    clear h HDR HXP HXC HK1 HK2 HO1 HO2 HF1 HF2 HW HVP HVC hl1 hl2 hl3
    go_wp2_with fail
    go_loopw [7, 8] (fun lv iv wr => ∃ (j : Nat) (ol : Option Addr) (ml cl : Nat), j ≤ x.acts.length ∧ lv = .slice ol ml cl ∧ iv = .int .i64 j ∧ Hid (Below w6.heap.size w6 wr) ∧ Hid (Made w6.heap.size wr 42 22 (.slice ol ml cl) j (actsC (x.acts.take j)))) (fun _ iv _ => x.acts.length - (intOf iv).toNat)
    case atStart => exact ⟨0, _, _, _, Nat.zero_le _, rfl, rfl, hid (Below.refl _ _), hid (Made.nil _ _ _ _)⟩
    case round =>
      obtain ⟨j, ol, ml, cl, hj, rfl, rfl, B, M⟩ := hrel
      have HXO2 := hid (keep_obj HXO.out B.out)
      obtain ⟨x0, x1, x2, x3, x4, x5, x6, x7, x8, x9, x10, x11, x12, x13, x14, x15, x16⟩ := C17.of HXO2.out
      by_cases hlt : j < x.acts.length
      · obtain ⟨-, oa, ca, ea, hca⟩ := HU.out
        cases ea
        obtain ⟨g, o, eo, hcell, h0, h255⟩ := hca j hlt
        subst eo
        have b1 := bcell (HB.out.trans (B.out.mono HB.out.size)) hcell
        have hj0 : (0 : Int) ≤ (j : Int) := by omega
        have hj1 : (j : Int) < (x.acts.length : Int) := by omega
        have HT := hid (show actsC (x.acts.take (j + 1)) = actsC (x.acts.take j) ++ actC x.acts[j] by rw [List.take_add_one, List.getElem?_eq_getElem hlt]; exact actsC_snoc _ _)
        obtain ⟨a, ha⟩ : ∃ a, x.acts[j] = a := ⟨_, rfl⟩
        rw [ha] at b1 h0 h255 HT
        clear hca hcell ha
        have hl60 : j ≤ 60 := by have := HL.out.2.1; omega
        go_upto_region 8 with (at_builtin; refine app_big (by rfl) (.tmp 91) (.tmp 99) 39 (by rfl) 42 (.agg #[.string ⟨#[]⟩, .string ⟨#[]⟩, .string ⟨#[]⟩, .int .i64 0, .int .i64 0, .int .i64 0, .int .i64 0, .string ⟨#[]⟩, .slice none 0 0, .slice none 0 0, .int .i64 0, .int .i64 0, .string ⟨#[]⟩, .slice none 0 0, .slice none 0 0, .string ⟨#[]⟩, .slice none 0 0, .bool false, .bool false, .bool false, .slice none 0 0, .slice none 0 0]) 22 320 Try.underlying39 infoC rfl (by decide) (by decide) _ _ _ M.out.1 (by rfl) (actC a) wr.heap.size (by rfl) (by rfl) (by rfl) (by simp [Value.oneCell']) (by omega) ?_; intro v9 w9 hown9 hc9 hp9 hne9; obtain ⟨o9, n9, c9, rfl⟩ := owns_slice hown9)
        have M2 := hid (M.out.grow B.out.size hown9 hp9)
        have B9 := hid (show Below w6.heap.size w6 w9 from B.out.trans (chg_bel hc9 (fun k hk => M.out.2 k hk) B.out.size))
        clear hown9 hc9 hp9 hne9 b1 h0 h255 x0 x1 x2 x3 x4 x5 x6 x7 x8 x9 x10 x11 x12 x13 x14 x15 x16
        go_wp2_with fail
        go_roundw
        case rel => exact ⟨j + 1, _, _, _, by omega, rfl, by go_num, B9, by rw [HT.out]; exact M2⟩
        case measure => simp [intOf]; omega
      · have hnv : NV (fun _ => True) wr (.slice ol ml cl) x.acts := nv_of_owns (by have h := M.out.1; rw [List.take_of_length_le (by omega), show j = x.acts.length by omega] at h; exact h) (by have := HL.out.2.1; omega)
        have HNV := hid hnv
        have HBR := hid (HB.out.trans (B.out.mono HB.out.size))
        clear hnv M
        go_upto_region 10 with (fail)
        clear x0 x1 x2 x3 x4 x5 x6 x7 x8 x9 x10 x11 x12 x13 x14 x15 x16
        go_wp2_with fail
        refine (counts_any x.acts (fun _ => True) wr _ HNV.out).mono ?_
        rintro e w7 ⟨rfl, hb⟩
        replace HNV := hid (HNV.out.bel hb)
        replace HBR := hid (HBR.out.trans (hb.mono HBR.out.size))
        replace HXO2 := hid (keep_obj HXO2.out hb)
        clear hb
        go_upto_region 11 with (fail)
        go_wp2_with fail
        refine (rcounts_any x.acts (fun _ => True) w7 _ HNV.out).mono ?_
        rintro e w8 ⟨rfl, hb⟩
        replace HBR := hid (HBR.out.trans (hb.mono HBR.out.size))
        replace HXO2 := hid (keep_obj HXO2.out hb)
        clear hb HNV
        go_upto_region 12 with (fail)
        generalize ((cntA x.acts 1 : Nat) : Int) = m1 at *
        generalize ((cntA x.acts 2 : Nat) : Int) = m2 at *
        generalize ((cntA x.acts 3 : Nat) : Int) = m3 at *
        generalize ((cntA x.acts 4 : Nat) : Int) = m4 at *
        have hdr : Below w8.heap.size w8 w8.drew := below_drew (Below.refl _ _)
        have h := C17.bel (C17.of HXO2.out) hdr
        replace HBR := hid (HBR.out.trans (hdr.mono HBR.out.size))
        refine wp_region_steady (C17 (w.heap.size + 2) (.slice on x.names.length cn) (.string x.i.addr) (.string x.i.deposed) (.string x.i.id) (.string x.i.type) (.int .i64 ki) (.int .i64 ni) (.string si) (.slice oii mii cii) (.slice oki mki cki) (.int .i64 x.i.version) (.bool x.i.tainted) (.bool x.i.createFirst) (.slice od x.i.deps.length cd) (.int .i64 x.why) (.bool x.protect) (.slice ou x.acts.length cu)) (by kernel_rfl) (by kernel_rfl) (h) ?_
        clear hdr
        repeat (first
          | (refine wpSteady_skip (by rfl) ?_; try simp only [Act.put, List.setIfInBounds_toArray, List.set_cons_zero, List.set_cons_succ])
          | (refine wpSteady_calm (v := ?_) (by rfl) ?_ ?_; rotate_left; (focus (intro v hSv; (try simp only [C17] at hSv); go_simp; (try with_reducible rfl); done)); try simp only [Act.put, List.setIfInBounds_toArray, List.set_cons_zero, List.set_cons_succ]))
        refine wpSteady_loud rfl (by rfl) (fun K hK => ?_)
        go_simp
        refine (delete_any x.i x.why x.protect (fun _ => True) w8.drew _ ⟨ki, ni, si, oii, mii, cii, oki, mki, cki, od, cd, rfl, HVI.out.bel HBR.out, HDI.out.bel HBR.out⟩ (by have := HF3.out.1; omega) (by have := HF3.out.2; omega) (by have := HL.out.2.2; omega)).mono ?_
        rintro e w9 ⟨u, rfl, hu, hb⟩
        have HU1 := hid hu
        replace HBR := hid (HBR.out.trans (hb.mono HBR.out.size))
        refine hK.out _ _ (C17.bel h hb) ?_
        replace h := C17.bel h hb
        clear hK K hb hu
        try simp only [Act.put, List.setIfInBounds_toArray, List.set_cons_zero, List.set_cons_succ]
        repeat (first
          | (refine wpSteady_skip (by rfl) ?_; try simp only [Act.put, List.setIfInBounds_toArray, List.set_cons_zero, List.set_cons_succ])
          | (refine wpSteady_calm (v := ?_) (by rfl) ?_ ?_; rotate_left; (focus (intro v hSv; (try simp only [C17] at hSv); go_simp; (try with_reducible rfl); done)); try simp only [Act.put, List.setIfInBounds_toArray, List.set_cons_zero, List.set_cons_succ]))
        refine wpSteady_loud rfl (by rfl) (fun K hK => ?_)
        go_simp
        refine (rdelete_any x.i x.why x.protect (fun g => g < w9.heap.size) w9 _ ⟨ki, ni, si, oii, mii, cii, oki, mki, cki, od, cd, rfl, (HVI.out.bel HBR.out).ex.mono fun g hg => hg.2, (HDI.out.bel HBR.out).ex.mono fun g hg => hg.2⟩ (fun g hg => hg)).mono ?_
        rintro e wA ⟨u2, rfl, hu, hb⟩
        have HU2 := hid hu
        replace HU1 := hid (HU1.out.bel hb)
        replace HBR := hid (HBR.out.trans (hb.mono HBR.out.size))
        refine hK.out _ _ (C17.bel h hb) ?_
        replace h := C17.bel h hb
        clear hK K hb hu
        try simp only [Act.put, List.setIfInBounds_toArray, List.set_cons_zero, List.set_cons_succ]
        repeat (first
          | (refine wpSteady_skip (by rfl) ?_; try simp only [Act.put, List.setIfInBounds_toArray, List.set_cons_zero, List.set_cons_succ])
          | (refine wpSteady_calm (v := ?_) (by rfl) ?_ ?_; rotate_left; (focus (intro v hSv; (try simp only [C17] at hSv); go_simp; (try with_reducible rfl); done)); try simp only [Act.put, List.setIfInBounds_toArray, List.set_cons_zero, List.set_cons_succ]))
        refine wpSteady_loud rfl (by rfl) (fun K hK => ?_)
        go_simp
        refine (requalC_any (deleteD x.i x.why x.protect) _ _ wA _ _ HU1.out HU2.out).mono ?_
        rintro e wB ⟨rfl, hb⟩
        replace HBR := hid (HBR.out.trans (hb.mono HBR.out.size))
        refine hK.out _ _ (C17.bel h hb) ?_
        replace h := C17.bel h hb
        clear hK K hb HU1 HU2
        try simp only [Act.put, List.setIfInBounds_toArray, List.set_cons_zero, List.set_cons_succ]
        repeat (first
          | (refine wpSteady_skip (by rfl) ?_; try simp only [Act.put, List.setIfInBounds_toArray, List.set_cons_zero, List.set_cons_succ])
          | (refine wpSteady_calm (v := ?_) (by rfl) ?_ ?_; rotate_left; (focus (intro v hSv; (try simp only [C17] at hSv); go_simp; (try with_reducible rfl); done)); try simp only [Act.put, List.setIfInBounds_toArray, List.set_cons_zero, List.set_cons_succ]))
        refine wpSteady_loud rfl (by rfl) (fun K hK => ?_)
        go_simp
        refine (awake_any wB).mono ?_
        rintro e wC ⟨rfl, hb⟩
        replace HBR := hid (HBR.out.trans (hb.mono HBR.out.size))
        refine hK.out _ _ (C17.bel h hb) ?_
        clear hK K hb h
        try simp only [Act.put, List.setIfInBounds_toArray, List.set_cons_zero, List.set_cons_succ]
        repeat (first
          | (refine wpSteady_skip (by rfl) ?_; try simp only [Act.put, List.setIfInBounds_toArray, List.set_cons_zero, List.set_cons_succ])
          | (refine wpSteady_calm (v := ?_) (by rfl) ?_ ?_; rotate_left; (focus (intro v hSv; (try simp only [C17] at hSv); go_simp; (try with_reducible rfl); done)); try simp only [Act.put, List.setIfInBounds_toArray, List.set_cons_zero, List.set_cons_succ]))
        refine wpSteady_nil ?_
        go_wp2_with fail
        go_ret
        exact ⟨rfl, HBR.out⟩

theorem readable : ∀ t ∈ #[26, 26, 32].toList, Try.prog.readableRec t = true ∧ t < Try.prog.types.size := by
  intro t ht
  have r0 : Try.prog.readableRec 26 = true ∧ 26 < Try.prog.types.size := ⟨by kernel_rfl, of_decide_eq_true (by kernel_rfl)⟩
  have r1 : Try.prog.readableRec 32 = true ∧ 32 < Try.prog.types.size := ⟨by kernel_rfl, of_decide_eq_true (by kernel_rfl)⟩
  have hm : t = 26 ∨ t = 26 ∨ t = 32 := by simpa using ht
  rcases hm with rfl | rfl | rfl
  · exact r0
  · exact r0
  · exact r1
set_option maxRecDepth 100000 in
theorem walkD {H : Type} (enc : TypeId × Value → H) (W : World) (base : Nat) (args : Array Value) (ds : List (DataW H)) (p : List MemPlace)
    (hval : ∀ (j : Nat) t v, #[26, 26, 32][j]? = some t → args[j]? = some v → Value.okWide Try.prog W .any base t v)
    (hA : DataW.TrodAll enc Try.prog W 0 (fun _ => true) true #[26, 26, 32].toList args.toList ds p)
    (hws : ∀ (j : Nat) t d, #[26, 26, 32].toList[j]? = some t → ds[j]? = some d → ∀ n ∈ d.weights Try.prog t, n ≤ reachBytes) :
    (Calls Try.prog 3 args W fun e w' => e = .returned (.bool true) ∧ Below W.heap.size W w') ∧
    ((Rows.diffOthersSpec.fn H (ds ++ [])).results = [.lit (.bool true)] ∧ (Rows.diffOthersSpec.fn H (ds ++ [])).args = ds ∧ (Rows.diffOthersSpec.fn H (ds ++ [])).vars = []) := by
  obtain ⟨v0, vs0, d0, ds0, p0, q0, hargs, rfl, rfl, h0, r0⟩ := trodAll_cons hA
  obtain ⟨v1, vs1, d1, ds1, p1, q1, rfl, rfl, rfl, h1, r1⟩ := trodAll_cons r0
  obtain ⟨v2, vs2, d2, ds2, p2, q2, rfl, rfl, rfl, h2, r2⟩ := trodAll_cons r1
  obtain ⟨rfl, rfl, rfl⟩ := trodAll_nil r2
  obtain rfl : args = #[v0, v1, v2] := by cases args; simp_all
  obtain ⟨t0, w0⟩ := open_value (hval 0 _ v0 rfl rfl) h0 (hws 0 _ _ rfl rfl)
  obtain ⟨t1, w1⟩ := open_value (hval 1 _ v1 rfl rfl) h1 (hws 1 _ _ rfl rfl)
  obtain ⟨t2, w2⟩ := open_other (hval 2 _ v2 rfl rfl) h2 (hws 2 _ _ rfl rfl)
  exact ⟨walk W _ _ _ t0 t1 t2 w0 w1 w2, rfl, rfl, rfl⟩
set_option maxRecDepth 100000 in
theorem lifted (os : Os) (started : os.Started) (H : Type) (enc : TypeId × Value → H) :
    ReturnsInHanded {} Try.checked os 3 .any (Rows.diffOthersSpec.pre6 enc Try.prog Try.f3 Rows.diffOthersRow.domain false) (Rows.diffOthersSpec.post enc Try.prog Try.f3 false true false false) := by
  refine returnsInHanded_of_change_sized (C := Try.checked) own started (by kernel_rfl) Try.func3
    (ChangeSpec.witness6 (enc := enc) (C := Try.checked) false ⟨#[], #[.agg #[.int .i64 0, .int .i64 0, .string ⟨#[]⟩, .slice none 0 0, .slice none 0 0], .agg #[.int .i64 0, .int .i64 0, .string ⟨#[]⟩, .slice none 0 0, .slice none 0 0], .agg #[.slice none 0 0, .string ⟨#[]⟩, .string ⟨#[]⟩, .string ⟨#[]⟩, .string ⟨#[]⟩, .int .i64 0, .int .i64 0, .string ⟨#[]⟩, .slice none 0 0, .slice none 0 0, .int .i64 0, .bool false, .bool false, .slice none 0 0, .int .i64 0, .bool false, .slice none 0 0]], []⟩ 8 (by kernel_rfl) (by kernel_rfl) (by kernel_rfl) (by kernel_rfl)) ?_
  intro W base args ds gs before hval0 hW _ hsz _
  have hW' := hW
  obtain ⟨p, q, hA, hV, _, _, _⟩ := hW
  obtain ⟨rfl, rfl⟩ := trodVars_none hV
  rw [Try.params3] at hA hval0 hsz
  have hws : ∀ (j : Nat) t d, #[26, 26, 32].toList[j]? = some t → ds[j]? = some d → ∀ n ∈ d.weights Try.prog t, n ≤ reachBytes := fun j t d h1 h2 n hn => by
    have hj1 := (List.getElem?_eq_some_iff.1 h1).1
    have hj2 := (List.getElem?_eq_some_iff.1 h2).1
    have := List.all_eq_true.1 hsz _ (DataW.weights_mem_each (j := j) (by rw [List.getElem?_append_left hj1]; exact h1) (by rw [List.getElem?_append_left hj2]; exact h2) n hn)
    simpa using this
  obtain ⟨hcall, hds⟩ := walkD enc W base args ds p hval0 hA hws
  exact hcall.mono fun e W' ⟨he, hb⟩ => ⟨_, he, law_post hW' rfl (by rw [Try.params3]; exact readable) rfl hds hb⟩

theorem proved : Rows.DiffOthersSaid :=
  OpenClaim.holds_of_wide 3 Try.f3 rfl rfl rfl rfl rfl rfl rfl ⟨rfl, rfl, rfl, rfl, rfl⟩ rfl rfl rfl rfl rfl (by kernel_rfl) Try.func3 (by kernel_rfl)
    (of_decide_eq_true (by kernel_rfl)) (by unfold Func.isWrapper; first | (rw [if_pos (by decide +kernel)]; kernel_rfl) | (rw [if_neg (by decide +kernel)]; exact ⟨rfl, rfl⟩))
    (fun os started H enc _ => lifted os started H enc)
#print axioms proved
end Go.Proofs.Ytibiiafcnaijeaa.diffOthers
