/- Propose of schema. -/
import Derived.Test.YtibiiafcnaijeaaTail
import Derived.Deep.DeepCutAuto
import Derived.Deep.CutBlock
namespace Go.Proofs.Ytibiiafcnaijeaa
open Go Go.RowKit Go.Proofs.Ytibiiafcnaijeaa.Steady
set_option linter.unusedVariables false
set_option linter.unusedSimpArgs false

set_option maxRecDepth 100000 in
set_option maxHeartbeats 4000000 in
theorem propose_any (s : Sc) (b a : Vl) (P Q R : Nat → Prop) (w : World) (va vn x y : Value) (hs : SCV P w va vn s) (hp : VV Q w x b) (hq : VV R w y a) (hok : ScOk s) (hsz : SzOk b ∧ SzOk a) :
    Calls Try.prog 35 #[.agg #[va, vn], x, y] w (FreshV (proposeS s b a) w) := by
  obtain ⟨oa, ca, rfl⟩ := hs.1.len
  obtain ⟨on, cn, rfl⟩ := hs.2.len
  have HSC := hid hs
  have HVP := hid hp
  have HVQ := hid hq
  have HOK := hid hok
  have HSZ := hid hsz
  obtain ⟨kp, np, sp, oip, mip, cip, okp, mkp, ckp, rfl⟩ := hp.agg5
  obtain ⟨kq, nq, sq, oiq, miq, ciq, okq, mkq, ckq, rfl⟩ := hq.agg5
  generalize hA : w.alloc (.cells #[.slice oa s.attrs.length ca, .slice on s.nested.length cn] 58) = wa
  have hao : wa.heap[w.heap.size]? = some (.cells #[.slice oa s.attrs.length ca, .slice on s.nested.length cn] 58) := by rw [← hA]; exact heap_alloc_at w _
  have has : wa.heap.size = w.heap.size + 1 := by rw [← hA]; simp
  have hab : Below w.heap.size w wa := by rw [← hA]; exact (Below.refl _ _).alloc (Nat.le_refl _) _
  generalize hB : wa.alloc (.cells #[.int .i64 kp, .int .i64 np, .string sp, .slice oip mip cip, .slice okp mkp ckp] 26) = wb
  have hbo : wb.heap[w.heap.size + 1]? = some (.cells #[.int .i64 kp, .int .i64 np, .string sp, .slice oip mip cip, .slice okp mkp ckp] 26) := by rw [← hB, ← has]; exact heap_alloc_at wa _
  have hbs : wb.heap.size = w.heap.size + 2 := by rw [← hB]; simp [has]
  have hbb : Below wa.heap.size wa wb := by rw [← hB]; exact (Below.refl _ _).alloc (Nat.le_refl _) _
  generalize hC : wb.alloc (.cells #[.int .i64 kq, .int .i64 nq, .string sq, .slice oiq miq ciq, .slice okq mkq ckq] 26) = wc
  have hco : wc.heap[w.heap.size + 2]? = some (.cells #[.int .i64 kq, .int .i64 nq, .string sq, .slice oiq miq ciq, .slice okq mkq ckq] 26) := by rw [← hC, ← hbs]; exact heap_alloc_at wb _
  have hcs : wc.heap.size = w.heap.size + 3 := by rw [← hC]; simp [hbs]
  have hcb : Below wb.heap.size wb wc := by rw [← hC]; exact (Below.refl _ _).alloc (Nat.le_refl _) _
  have HA0 := hid hA
  have HB0 := hid hB
  have HC0 := hid hC
  have HB := hid (hab.trans ((hbb.trans (hcb.mono hbb.size)).mono hab.size))
  have HS := hid hcs
  have HXC := hid hco
  have HXB := hid (keep_obj hbo hcb)
  have HXA := hid (keep_obj (keep_obj hao hbb) hcb)
  clear hp hq hs hok hsz hA hB hC hao hbo hco has hbs hcs hab hbb hcb

  generalize hD : wc.alloc zero5 = wd
  have hdo : wd.heap[w.heap.size + 3]? = some zero5 := by rw [← hD, ← HS.out]; exact heap_alloc_at wc _
  have hds : wd.heap.size = w.heap.size + 4 := by rw [← hD]; simp [HS.out]
  have hdb : Below wc.heap.size wc wd := by rw [← hD]; exact (Below.refl _ _).alloc (Nat.le_refl _) _
  generalize hE : wd.alloc five0 = we
  have heo : we.heap[w.heap.size + 4]? = some five0 := by rw [← hE, ← hds]; exact heap_alloc_at wd _
  have hes : we.heap.size = w.heap.size + 5 := by rw [← hE]; simp [hds]
  have heb : Below wd.heap.size wd we := by rw [← hE]; exact (Below.refl _ _).alloc (Nat.le_refl _) _
  have hbb := hdb.trans (heb.mono hdb.size)
  have HD0 := hid hD
  have HE0 := hid hE
  replace HB := hid (HB.out.trans (hbb.mono HB.out.size))
  replace HXA := hid (keep_obj HXA.out hbb)
  replace HXB := hid (keep_obj HXB.out hbb)
  replace HXC := hid (keep_obj HXC.out hbb)
  have HZ := hid (keep_obj hdo heb)
  have HO := hid heo
  replace HS := hid hes
  clear hD hE hdo hds hdb heo hes heb hbb
  have HNC := hid (names_any s P we _ _ (HSC.out.bel HB.out) HOK.out)
  have HNL := hid (show (namesS s).length ≤ 2000 by rw [names_len]; have := HOK.out.1; have := HOK.out.2.1; omega)
  have HRES := hid (propose_eq s b a)
  have HCH := hid (chgS_eq s b a)
  have hnl := HNL.out
  generalize namesS s = ns at *
  have a0 := (cells_in HXA.out 0).trans rfl
  have a1 := (cells_in HXA.out 1).trans rfl
  go_enter Try.func35, Try.ntmps35
  go_upto_region 2 with (fail)
  rw [HA0.out, HB0.out, HC0.out, HD0.out, HE0.out]
  go_wp2_with fail
  clear a0 a1
  refine HNC.out.mono ?_
  rintro e w2 ⟨u, rfl, hu, hb2⟩
  obtain ⟨ou, cu, rfl⟩ := hu.len
  have HN := hid (hu.ex.keep (Q := fun g => w.heap.size + 5 ≤ g ∧ g < w2.heap.size) (KeepsP.refl _ _) fun g hg => ⟨by have := HS.out; omega, hg.2⟩)
  have HB2 := hid (HB.out.trans (hb2.mono HB.out.size))
  have HXA2 := hid (keep_obj HXA.out hb2)
  have HXB2 := hid (keep_obj HXB.out hb2)
  have HXC2 := hid (keep_obj HXC.out hb2)
  have HZ2 := hid (keep_obj HZ.out hb2)
  have HS2 := hid (show w.heap.size + 5 ≤ w2.heap.size by have := hb2.size; have := HS.out; omega)
  have HPR := hid (PR.nil (by have := HS2.out; omega) (keep_obj HO.out hb2))
  clear hu hb2 HNC HXA HXB HXC HZ HO
  go_wp2_with fail
  generalize hX : w.heap.size + 1 + 1 + 1 + 1 = X at *
  have HX := hid (show X = w.heap.size + 4 by omega)
  clear hX
  go_loopw [8, 9, 23] (fun cv vv i wr => ∃ (j : Nat) (oi : Option Addr) (mi ci : Nat) (ok : Option Addr) (mk ck : Nat) (ov : Option Addr) (mv cv' : Nat), j ≤ ns.length ∧ cv = .bool ((ns.take j).any (detC s b a)) ∧ vv = .slice ov mv cv' ∧ i = .int .i64 j ∧
    Hid (PR w2 wr X (.slice oi mi ci) (.slice ok mk ck) (.slice ov mv cv') ((ns.take j).map (itemS s b a)) (ns.take j) (volJ s b a ns j))) (fun _ _ i _ => ns.length - (intOf i).toNat)
  case atStart => exact ⟨0, _, _, _, _, _, _, _, _, _, Nat.zero_le _, rfl, rfl, rfl, HPR⟩
  case round =>
    clear HPR
    obtain ⟨j, oi, mi, ci, ok, mk, ck, ov, mv, cv', hj, rfl, rfl, rfl, T⟩ := hrel
    have HBD := hid (bel_chg HB2.out T.out.chg (Nat.le_refl _) (by have := HX.out; omega))
    by_cases hlt : j < ns.length
    · obtain ⟨g, o, c, e1, a1⟩ := (HN.out.keep (Q := fun _ => True) (KeepsP.chg T.out.chg fun g hg e => by have := HX.out; omega) fun _ _ => trivial).at hlt
      cases e1
      have hj0 : (0 : Int) ≤ (j : Int) := by omega
      have hj1 : (j : Int) < (ns.length : Int) := by omega
      have HTK := hid (And.intro (map_take1 (itemS s b a) ns hlt) (And.intro (any_take (detC s b a) ns hlt) (And.intro (volJ_succ s b a ns hlt) (show ns.take (j + 1) = ns.take j ++ [ns[j]] by rw [List.take_add_one, List.getElem?_eq_getElem hlt]; rfl))))
      have HXS := hid (HN.out.2 ns[j] (List.getElem_mem hlt))
      have HLN := hid (show ((ns.take j).map (itemS s b a)).length ≤ 2000 ∧ (ns.take j).length ≤ 2000 ∧ (volJ s b a ns j).length ≤ 2000 by
        have h1 := volJ_len s b a ns j
        rw [List.length_map, List.length_take]
        omega)
      generalize ns[j] = x at *
      generalize (ns.take j).map (itemS s b a) = is at *
      generalize (ns.take j).any (detC s b a) = chg at *
      generalize ns.take j = ks at *
      generalize volJ s b a ns j = vs at *
      have HXA3 := hid ((T.out.chg.block _ (by have := HS2.out; omega) (by have := HX.out; omega)).trans HXA2.out)
      have HXB3 := hid ((T.out.chg.block _ (by have := HS2.out; omega) (by have := HX.out; omega)).trans HXB2.out)
      have HXC3 := hid ((T.out.chg.block _ (by have := HS2.out; omega) (by have := HX.out; omega)).trans HXC2.out)
      have x0 := (cells_in HXB3.out 0).trans rfl
      have x1 := (cells_in HXB3.out 1).trans rfl
      have x2 := (cells_in HXB3.out 2).trans rfl
      have x3 := (cells_in HXB3.out 3).trans rfl
      have x4 := (cells_in HXB3.out 4).trans rfl
      have y0 := (cells_in HXC3.out 0).trans rfl
      have y1 := (cells_in HXC3.out 1).trans rfl
      have y2 := (cells_in HXC3.out 2).trans rfl
      have y3 := (cells_in HXC3.out 3).trans rfl
      have y4 := (cells_in HXC3.out 4).trans rfl
      go_wp2_with fail
      have HSP := hid (And.intro HSZ.out.1 HSZ.out.2)
      go_upto_region 7 with (fail)
      go_cut [12, 13] (fun p q wx => ∃ (m n : Nat) (r1 r2 : V5), p = .pointer (some ⟨m, 0, none⟩) ∧ q = .pointer (some ⟨n, 0, none⟩) ∧ Hid (TW wr wx m n r1 r2 (getN b x) (getN a x)))
      case first J K' hR hM =>
        have CP := hid (And.intro x0 (And.intro x1 (And.intro x2 (And.intro x3 x4))))
        have CQ := hid (And.intro y0 (And.intro y1 (And.intro y2 (And.intro y3 y4))))
        clear x0 x1 x2 x3 x4 y0 y1 y2 y3 y4
        refine wp_region_vals [28, 29, 30, 31, 32, 33, 12, 13] (by decide) (RJ wr (getN b x) (getN a x) (.agg #[.int .i64 kp, .int .i64 np, .string sp, .slice oip mip cip, .slice okp mkp ckp]) (.agg #[.int .i64 kq, .int .i64 nq, .string sq, .slice oiq miq ciq, .slice okq mkq ckq]) (.string x)) (by kernel_rfl) (by kernel_rfl) (fun k => bif k == 12 then u12 else bif k == 13 then u13 else bif k == 28 then u28 else bif k == 29 then u29 else bif k == 30 then u30 else bif k == 31 then u31 else bif k == 32 then u32 else u33) (by kernel_rfl) (RJ.start _ _ _ _ _ _ _) ⟨?_, ?_, ?_, ?_, ?_, ?_, ?_, ?_, ?_, ?_, trivial⟩ ?_
        · intro D V v hJ hD hd
          refine ⟨rfl, (fun d e => by cases e <;> decide), fun K hK => ?_⟩
          simp only [putF, List.foldl_cons, List.foldl_nil, Act.put, List.setIfInBounds_toArray, List.set_cons_zero, List.set_cons_succ, updO] at hK ⊢
          have hb := hJ.inv (hJ.eight (by decide) hD)
          obtain ⟨z0, z1, z2, z3, z4⟩ := CP.out
          replace z0 := bcell hb z0
          replace z1 := bcell hb z1
          replace z2 := bcell hb z2
          replace z3 := bcell hb z3
          replace z4 := bcell hb z4
          go_simp
          refine hK.out _ _ ?_
          exact hJ.s0 hD
        · intro D V v hJ hD hd
          refine ⟨rfl, (fun d e => by cases e <;> decide), fun K hK => ?_⟩
          simp only [putF, List.foldl_cons, List.foldl_nil, Act.put, List.setIfInBounds_toArray, List.set_cons_zero, List.set_cons_succ, updO] at hK ⊢
          go_simp
          refine hK.out _ _ ?_
          exact hJ.s1 hD
        · intro D V v hJ hD hd
          refine ⟨rfl, (fun d e => by cases e <;> decide), fun K hK => ?_⟩
          have e0 := hJ.r0 (dep hd 0 (by kernel_rfl))
          have e1 := hJ.r1 (dep hd 1 (by kernel_rfl))
          have hb := hJ.inv (hJ.eight (by decide) hD)
          simp only [putF, List.foldl_cons, List.foldl_nil, Act.put, List.setIfInBounds_toArray, List.set_cons_zero, List.set_cons_succ, updO] at hK ⊢
          rw [e0, e1] at hK ⊢
          go_simp
          refine (sget_any b x Q _ _ (HVP.out.bel (bjoin HBD.out hb)) (Nat.le_trans HSP.out.1.1 (by decide)) (Nat.le_trans HSP.out.1.2 (by decide))).mono ?_
          rintro e w3 ⟨u, rfl, hu, hb3⟩
          obtain ⟨k3, n3, s3, oi3, mi3, ci3, ok3, mk3, ck3, rfl⟩ := hu.agg5
          go_simp
          refine hK.out _ _ ?_
          exact hJ.s2 (r := (.int .i64 k3, .int .i64 n3, .string s3, .slice oi3 mi3 ci3, .slice ok3 mk3 ck3)) hD hb3 hu
        · intro D V v hJ hD hd
          refine ⟨rfl, (fun d e => by cases e <;> decide), fun K hK => ?_⟩
          simp only [putF, List.foldl_cons, List.foldl_nil, Act.put, List.setIfInBounds_toArray, List.set_cons_zero, List.set_cons_succ, updO] at hK ⊢
          have hb := hJ.inv (hJ.eight (by decide) hD)
          obtain ⟨z0, z1, z2, z3, z4⟩ := CQ.out
          replace z0 := bcell hb z0
          replace z1 := bcell hb z1
          replace z2 := bcell hb z2
          replace z3 := bcell hb z3
          replace z4 := bcell hb z4
          go_simp
          refine hK.out _ _ ?_
          exact hJ.s3 hD
        · intro D V v hJ hD hd
          refine ⟨rfl, (fun d e => by cases e <;> decide), fun K hK => ?_⟩
          simp only [putF, List.foldl_cons, List.foldl_nil, Act.put, List.setIfInBounds_toArray, List.set_cons_zero, List.set_cons_succ, updO] at hK ⊢
          go_simp
          refine hK.out _ _ ?_
          exact hJ.s4 hD
        · intro D V v hJ hD hd
          refine ⟨rfl, (fun d e => by cases e <;> decide), fun K hK => ?_⟩
          have e0 := hJ.r3 (dep hd 3 (by kernel_rfl))
          have e1 := hJ.r4 (dep hd 4 (by kernel_rfl))
          have hb := hJ.inv (hJ.eight (by decide) hD)
          simp only [putF, List.foldl_cons, List.foldl_nil, Act.put, List.setIfInBounds_toArray, List.set_cons_zero, List.set_cons_succ, updO] at hK ⊢
          rw [e0, e1] at hK ⊢
          go_simp
          refine (sget_any a x R _ _ (HVQ.out.bel (bjoin HBD.out hb)) (Nat.le_trans HSP.out.2.1 (by decide)) (Nat.le_trans HSP.out.2.2 (by decide))).mono ?_
          rintro e w3 ⟨u, rfl, hu, hb3⟩
          obtain ⟨k3, n3, s3, oi3, mi3, ci3, ok3, mk3, ck3, rfl⟩ := hu.agg5
          go_simp
          refine hK.out _ _ ?_
          exact hJ.s5 (dep hd 3 (by kernel_rfl)) (dep hd 4 (by kernel_rfl)) (r := (.int .i64 k3, .int .i64 n3, .string s3, .slice oi3 mi3 ci3, .slice ok3 mk3 ck3)) hD hb3 hu
        · intro D V v hJ hD hd
          refine ⟨rfl, (fun d e => by cases e <;> decide), fun K hK => ?_⟩
          simp only [putF, List.foldl_cons, List.foldl_nil, Act.put, List.setIfInBounds_toArray, List.set_cons_zero, List.set_cons_succ, updO] at hK ⊢
          go_simp
          refine hK.out _ _ ?_
          exact hJ.s6 hD
        · intro D V v hJ hD hd
          refine ⟨rfl, (fun d e => by cases e <;> decide), fun K hK => ?_⟩
          simp only [putF, List.foldl_cons, List.foldl_nil, Act.put, List.setIfInBounds_toArray, List.set_cons_zero, List.set_cons_succ, updO] at hK ⊢
          go_simp
          refine hK.out _ _ ?_
          exact hJ.s7 hD
        · intro D V v hJ hD hd
          refine ⟨rfl, (fun d e => by cases e <;> decide), fun K hK => ?_⟩
          have q0 := dep hd 0 (by kernel_rfl)
          have q1 := dep hd 1 (by kernel_rfl)
          have q2 := dep hd 2 (by kernel_rfl)
          have q5 := dep hd 5 (by kernel_rfl)
          have q6 := dep hd 6 (by kernel_rfl)
          have q7 := dep hd 7 (by kernel_rfl)
          have q := hJ.got8 q2 q6 hD
          clear q2 q6 hd hJ
          simp only [putF, List.foldl_cons, List.foldl_nil, Act.put, List.setIfInBounds_toArray, List.set_cons_zero, List.set_cons_succ, updO] at hK ⊢
          obtain ⟨r, m, ⟨k3, n3, s3, oi3, mi3, ci3, ok3, mk3, ck3, rfl⟩, e30, e12, hz, hn⟩ := q
          have hn2 := hn q0 q1 q5 q7
          clear hn q0 q1 q5 q7
          have z0 := (cells_in hz 0).trans rfl
          have z1 := (cells_in hz 1).trans rfl
          have z2 := (cells_in hz 2).trans rfl
          have z3 := (cells_in hz 3).trans rfl
          have z4 := (cells_in hz 4).trans rfl
          have zf := frozen_in hz
          rw [e12, e30] at hK ⊢
          go_simp
          refine hK.out (.agg #[]) _ ?_
          exact hn2
        · intro D V v hJ hD hd
          refine ⟨rfl, (fun d e => by cases e <;> decide), fun K hK => ?_⟩
          have q8 := dep hd 8 (by kernel_rfl)
          have q := hJ.got9 q8 hD
          clear q8 hd hJ
          simp only [putF, List.foldl_cons, List.foldl_nil, Act.put, List.setIfInBounds_toArray, List.set_cons_zero, List.set_cons_succ, updO] at hK ⊢
          obtain ⟨r, n, ⟨k3, n3, s3, oi3, mi3, ci3, ok3, mk3, ck3, rfl⟩, e33, e13, ⟨arr, hz, rfl⟩, hn2⟩ := q
          have z0 := (cells_in hz 0).trans rfl
          have z1 := (cells_in hz 1).trans rfl
          have z2 := (cells_in hz 2).trans rfl
          have z3 := (cells_in hz 3).trans rfl
          have z4 := (cells_in hz 4).trans rfl
          have zf := frozen_in hz
          rw [e13, e33] at hK ⊢
          go_simp
          refine hK.out (.agg #[]) _ ?_
          exact hn2
        · intro D V v hD hJ
          obtain ⟨m, n, r1, r2, e12, e13, htw⟩ := hJ.fin (hD 9 (by decide))
          simp only [putF, List.foldl_cons, List.foldl_nil, Act.put, List.setIfInBounds_toArray, List.set_cons_zero, List.set_cons_succ, updO]
          refine hM _ _ (Met.intro (hR _ _ ?_))
          repeat apply Exists.intro
          refine ⟨?_, rfl⟩
          exact ⟨m, n, r1, r2, e12, e13, hid htw⟩
      case rest =>
        obtain ⟨m, n, r1, r2, rfl, rfl, htw⟩ := hcut
        obtain ⟨k1, n1, s1, oi1, mi1, ci1, ok1, mk1, ck1, rfl⟩ := htw.out.p.r5
        obtain ⟨k2, n2, s2, oi2, mi2, ci2, ok2, mk2, ck2, rfl⟩ := htw.out.q.r5
        have HKB := hid HVP.out.kd
        have HKA := hid htw.out.q.kd
        clear x0 x1 x2 x3 x4 y0 y1 y2 y3 y4 HSP
        have HXA4 := hid (keep_obj HXA3.out htw.out.bel)
        have HXB4 := hid (keep_obj HXB3.out htw.out.bel)
        have HC1 := hid (find_any s x P wc _ _ (HSC.out.bel (bjoin HBD.out htw.out.bel)) HOK.out)
        have HDT := hid (detS_eq s a x)
        have HVS := hid (volS_eq s b a x)
        have HDC := hid (show detC s b a x = (!detS s a x && differV (getN a x) (getN b x)) from rfl)
        have HIT := hid (show itemS s b a x = if detS s a x = true then (if kdV b = 0 then unkV else getN b x) else getN a x from rfl)
        have a0 := (cells_in HXA4.out 0).trans rfl
        have a1 := (cells_in HXA4.out 1).trans rfl
        go_wp2_with fail
        clear a0 a1
        refine HC1.out.mono ?_; rintro e w3 ⟨nm3, k3, oe3, me3, ce3, on3, mn3, cn3, rfl, hb3⟩
        generalize modeO (fndA s.attrs x) = md3 at *
        generalize repO (fndA s.attrs x) = rp3 at *
        generalize sensO (fndA s.attrs x) = sn3 at *
        generalize volO (fndA s.attrs x) = vl3 at *
        generalize (fndA s.attrs x).isSome = is3 at *
        generalize detS s a x = d at *
        generalize volS s b a x = vb at *
        generalize detC s b a x = dc at *
        generalize itemS s b a x = it at *
        go_upto_region 9 with (fail)
        have hal := (Below.refl w3.heap.size w3).alloc (Nat.le_refl _) (.cells #[.string nm3, .int .i64 k3, .slice oe3 me3 ce3, .slice on3 mn3 cn3, .int .i64 md3, .bool rp3, .bool sn3, .bool vl3] 82)
        have hxo := heap_alloc_at w3 (.cells #[.string nm3, .int .i64 k3, .slice oe3 me3 ce3, .slice on3 mn3 cn3, .int .i64 md3, .bool rp3, .bool sn3, .bool vl3] 82)
        generalize w3.alloc (.cells #[.string nm3, .int .i64 k3, .slice oe3 me3 ce3, .slice on3 mn3 cn3, .int .i64 md3, .bool rp3, .bool sn3, .bool vl3] 82) = w4 at *
        have HTW := hid (htw.out.later (hb3.trans (hal.mono hb3.size)))
        have HXB5 := hid (keep_obj (keep_obj HXB4.out hb3) hal)
        have HXO := hid hxo
        have HNL2 : n < w3.heap.size := Nat.lt_of_lt_of_le (Array.getElem?_eq_some_iff.1 htw.out.on).1 hb3.size
        clear hb3 hal hxo HC1 htw HXA4 HXB4
        have HKD := hid (show d = (is3 && (decide (md3 = 3) || (decide (md3 = 4) && decide (k2 = 0)))) by rw [HDT.out, HKA.out])
        have HN2 := hid (show n < w3.heap.size from HNL2)
        have o4 := (cells_in HXO.out 4).trans rfl
        have c0 := (cells_in HTW.out.on 0).trans rfl
        clear HDT HKA HNL2
        go_cut [16] (fun v wx => v = .bool d ∧ w4 = wx)
        case first =>
          cases is3 with
          | false =>
            go_wp2_with fail
            go_meet
            exact ⟨by rw [HKD.out]; simp, rfl⟩
          | true =>
            by_cases h3 : md3 = 3
            · have f1 : decide (md3 = 3) = true := decide_eq_true h3
              have f2 : (md3 == 3) = true := beq_iff_eq.2 h3
              have H3 := hid h3
              clear h3
              go_wp2_with fail
              go_meet
              exact ⟨by rw [HKD.out, f1]; simp, rfl⟩
            · have f1 : decide (md3 = 3) = false := decide_eq_false h3
              have f2 : (md3 == 3) = false := beq_eq_false_iff_ne.2 h3
              clear h3
              by_cases h4 : md3 = 4
              · have f3 : decide (md3 = 4) = true := decide_eq_true h4
                have f4 : (md3 == 4) = true := beq_iff_eq.2 h4
                clear h4
                by_cases h5 : k2 = 0
                · have f5 : decide (k2 = 0) = true := decide_eq_true h5
                  have f6 : (k2 == 0) = true := beq_iff_eq.2 h5
                  clear h5
                  go_wp2_with fail
                  go_meet
                  exact ⟨by rw [HKD.out, f1, f3, f5]; simp, rfl⟩
                · have f5 : decide (k2 = 0) = false := decide_eq_false h5
                  have f6 : (k2 == 0) = false := beq_eq_false_iff_ne.2 h5
                  clear h5
                  go_wp2_with fail
                  go_meet
                  exact ⟨by rw [HKD.out, f1, f3, f5]; simp, rfl⟩
              · have f3 : decide (md3 = 4) = false := decide_eq_false h4
                have f4 : (md3 == 4) = false := beq_eq_false_iff_ne.2 h4
                clear h4
                go_wp2_with fail
                go_meet
                exact ⟨by rw [HKD.out, f1, f3]; simp, rfl⟩
        case rest =>
          obtain ⟨rfl, rfl⟩ := hcut
          clear HKD o4 c0
          cases d with
          | false =>
            have hit : it = getN a x := HIT.out.trans (by simp)
            cases chg with
            | true =>
              have L0 := hid (show TL w2 w4 X n _ it _ _ _ is ks vs from hit ▸ TL.of T.out HTW.out.cnfg)
              clear hit
              go_upto_region 17 with (fail)
              have o4 := (cells_in L0.out.pr.obj 4).trans rfl
              go_upto_region 18 with (at_builtin; refine app_tag (by rfl) (.tmp 80) (.tmp 82) 24 (by rfl) 9 (.string ⟨#[]⟩) 1 16 Try.underlying24 info9 rfl (by decide) (by decide) _ _ _ L0.out.pr.row.owns (by rfl) [.string x] w4.heap.size (by rfl) (by rfl) (by rfl) (by simp [Value.oneCell']) (by have := HLN.out; omega) ?_; intro v6 w6 hown6 hc6 hp6 hne6; obtain ⟨o6, n6, c6, rfl⟩ := owns_slice hown6; have hT6 := (hc6.block X L0.out.pr.lt (fun e => L0.out.pr.kX X e rfl)).trans L0.out.pr.obj; have t4 := (cells_in hT6 4).trans rfl; have tf := frozen_in hT6)
              have L1 := hid (L0.out.pushK (owns_row (l := ks ++ [x]) (by rw [strs, List.map_append]; exact hown6) (by simp)) (fun s hs => by
                rcases List.mem_append.1 hs with h | h
                · exact L0.out.pr.str s h
                · rw [List.mem_singleton.1 h]; exact HXS.out) hp6 hc6)
              clear hown6 hc6 hp6 hne6 hT6 t4 tf o4 L0
              generalize w6.setCell ⟨X, 4, none⟩ (.slice o6 n6 c6) = w7 at *
              have o3 := (cells_in L1.out.pr.obj 3).trans rfl
              have y0 := (cells_in L1.out.on 0).trans rfl
              have y1 := (cells_in L1.out.on 1).trans rfl
              have y2 := (cells_in L1.out.on 2).trans rfl
              have y3 := (cells_in L1.out.on 3).trans rfl
              have y4 := (cells_in L1.out.on 4).trans rfl
              have HIS := hid L1.out.pr.items
              go_upto_region 19 with (at_builtin; obtain ⟨rs, hm, hl2, he4⟩ := HIS.out; refine app_tag (by rfl) (.tmp 86) (.tmp 88) 23 (by rfl) 26 (.agg #[.int .i64 0, .int .i64 0, .string ⟨#[]⟩, .slice none 0 0, .slice none 0 0]) 5 80 Try.underlying23 infoV (by rfl) (by decide) (by decide) _ _ _ hm.1 (by rfl) [.int .i64 k2, .int .i64 n2, .string s2, .slice oi2 mi2 ci2, .slice ok2 mk2 ck2] w7.heap.size (by rfl) (by rfl) (by rfl) (by simp [Value.oneCell']) (by have := HLN.out; omega) ?_; intro v8 w8 hown8 hc8 hp8 hne8; obtain ⟨o8, n8, c8, rfl⟩ := owns_slice hown8; have HI8 := hid (L1.out.pushI hm hl2 he4 hown8 hp8 hc8); have hT8 := (hc8.block X L1.out.pr.lt (fun e => L1.out.pr.iX X e rfl)).trans L1.out.pr.obj; have t3 := (cells_in hT8 3).trans rfl; have tf := frozen_in hT8; clear hown8 hc8 hp8 hne8 hm hl2 he4)
              clear hT8 t3 tf o3 y0 y1 y2 y3 y4 HIS L1
              generalize w8.setCell ⟨X, 3, none⟩ (.slice o8 n8 c8) = w9 at *
              go_wp2_with fail
              go_roundw
              case rel => exact ⟨j + 1, _, _, _, _, _, _, _, _, _, by omega, by rw [HTK.out.2.1, HDC.out]; simp, rfl, by go_num, by rw [HTK.out.1, HTK.out.2.2.1, HTK.out.2.2.2, HVS.out, if_neg (by simp)]; exact HI8⟩
              case measure => simp [intOf]; omega
            | false =>
              have HD5 := hid (differ_any (getN a x) (getN b x) _ _ w4 _ _ HTW.out.q HTW.out.p)
              have c0 := (cells_in HTW.out.on 0).trans rfl
              have c1 := (cells_in HTW.out.on 1).trans rfl
              have c2 := (cells_in HTW.out.on 2).trans rfl
              have c3 := (cells_in HTW.out.on 3).trans rfl
              have c4 := (cells_in HTW.out.on 4).trans rfl
              have d0 := (cells_in HTW.out.om 0).trans rfl
              have d1 := (cells_in HTW.out.om 1).trans rfl
              have d2 := (cells_in HTW.out.om 2).trans rfl
              have d3 := (cells_in HTW.out.om 3).trans rfl
              have d4 := (cells_in HTW.out.om 4).trans rfl
              have HIT2 := hid hit
              clear hit
              generalize differV (getN a x) (getN b x) = df at *
              go_wp2_with fail
              clear c0 c1 c2 c3 c4 d0 d1 d2 d3 d4
              refine HD5.out.mono ?_; rintro e w5 ⟨rfl, hb5⟩
              have L0 := hid (show TL w2 w5 X n _ it _ _ _ is ks vs from HIT2.out ▸ TL.of T.out (HTW.out.later hb5).cnfg)
              clear hb5 HD5
              go_upto_region 17 with (fail)
              have o4 := (cells_in L0.out.pr.obj 4).trans rfl
              go_upto_region 18 with (at_builtin; refine app_tag (by rfl) (.tmp 80) (.tmp 82) 24 (by rfl) 9 (.string ⟨#[]⟩) 1 16 Try.underlying24 info9 rfl (by decide) (by decide) _ _ _ L0.out.pr.row.owns (by rfl) [.string x] w5.heap.size (by rfl) (by rfl) (by rfl) (by simp [Value.oneCell']) (by have := HLN.out; omega) ?_; intro v6 w6 hown6 hc6 hp6 hne6; obtain ⟨o6, n6, c6, rfl⟩ := owns_slice hown6; have hT6 := (hc6.block X L0.out.pr.lt (fun e => L0.out.pr.kX X e rfl)).trans L0.out.pr.obj; have t4 := (cells_in hT6 4).trans rfl; have tf := frozen_in hT6)
              have L1 := hid (L0.out.pushK (owns_row (l := ks ++ [x]) (by rw [strs, List.map_append]; exact hown6) (by simp)) (fun s hs => by
                rcases List.mem_append.1 hs with h | h
                · exact L0.out.pr.str s h
                · rw [List.mem_singleton.1 h]; exact HXS.out) hp6 hc6)
              clear hown6 hc6 hp6 hne6 hT6 t4 tf o4 L0
              generalize w6.setCell ⟨X, 4, none⟩ (.slice o6 n6 c6) = w7 at *
              have o3 := (cells_in L1.out.pr.obj 3).trans rfl
              have y0 := (cells_in L1.out.on 0).trans rfl
              have y1 := (cells_in L1.out.on 1).trans rfl
              have y2 := (cells_in L1.out.on 2).trans rfl
              have y3 := (cells_in L1.out.on 3).trans rfl
              have y4 := (cells_in L1.out.on 4).trans rfl
              have HIS := hid L1.out.pr.items
              go_upto_region 19 with (at_builtin; obtain ⟨rs, hm, hl2, he4⟩ := HIS.out; refine app_tag (by rfl) (.tmp 86) (.tmp 88) 23 (by rfl) 26 (.agg #[.int .i64 0, .int .i64 0, .string ⟨#[]⟩, .slice none 0 0, .slice none 0 0]) 5 80 Try.underlying23 infoV (by rfl) (by decide) (by decide) _ _ _ hm.1 (by rfl) [.int .i64 k2, .int .i64 n2, .string s2, .slice oi2 mi2 ci2, .slice ok2 mk2 ck2] w7.heap.size (by rfl) (by rfl) (by rfl) (by simp [Value.oneCell']) (by have := HLN.out; omega) ?_; intro v8 w8 hown8 hc8 hp8 hne8; obtain ⟨o8, n8, c8, rfl⟩ := owns_slice hown8; have HI8 := hid (L1.out.pushI hm hl2 he4 hown8 hp8 hc8); have hT8 := (hc8.block X L1.out.pr.lt (fun e => L1.out.pr.iX X e rfl)).trans L1.out.pr.obj; have t3 := (cells_in hT8 3).trans rfl; have tf := frozen_in hT8; clear hown8 hc8 hp8 hne8 hm hl2 he4)
              clear hT8 t3 tf o3 y0 y1 y2 y3 y4 HIS L1
              generalize w8.setCell ⟨X, 3, none⟩ (.slice o8 n8 c8) = w9 at *
              go_wp2_with fail
              go_roundw
              case rel => exact ⟨j + 1, _, _, _, _, _, _, _, _, _, by omega, by rw [HTK.out.2.1, HDC.out]; simp, rfl, by go_num, by rw [HTK.out.1, HTK.out.2.2.1, HTK.out.2.2.2, HVS.out, if_neg (by simp)]; exact HI8⟩
              case measure => simp [intOf]; omega
          | true =>
            have b0 := (cells_in HXB5.out 0).trans rfl
            by_cases hk : kp = 0
            · have f1 : decide (kp = 0) = true := decide_eq_true hk
              have f2 : (kp == 0) = true := beq_iff_eq.2 hk
              have HIT2 := hid (show it = unkV from HIT.out.trans (by rw [HKB.out, if_pos rfl, if_pos hk]))
              have HVF := hid (show vb = false by rw [HVS.out, HKB.out, hk]; simp)
              have HU := hid (unknown_any w4)
              clear hk
              go_wp2_with fail
              clear b0
              refine HU.out.mono ?_; rintro e w5 ⟨u, rfl, hu, hb5⟩
              obtain ⟨k5, n5, s5, oi5, mi5, ci5, ok5, mk5, ck5, rfl⟩ := hu.agg5
              have ho5 := keep_obj HTW.out.on hb5
              have e0 := (cells_in ho5 0).trans rfl
              have e1 := (cells_in ho5 1).trans rfl
              have e2 := (cells_in ho5 2).trans rfl
              have e3 := (cells_in ho5 3).trans rfl
              have e4 := (cells_in ho5 4).trans rfl
              have ef := frozen_in ho5
              have L0 := hid (show TL w2 (((((w5.setCell ⟨n, 0, none⟩ (.int .i64 k5)).setCell ⟨n, 1, none⟩ (.int .i64 n5)).setCell ⟨n, 2, none⟩ (.string s5)).setCell ⟨n, 3, none⟩ (.slice oi5 mi5 ci5)).setCell ⟨n, 4, none⟩ (.slice ok5 mk5 ck5)) X n (.int .i64 k5, .int .i64 n5, .string s5, .slice oi5 mi5 ci5, .slice ok5 mk5 ck5) it _ _ _ is ks vs from by rw [HIT2.out]; exact TL.of T.out (HTW.out.fresh (r := (.int .i64 k5, .int .i64 n5, .string s5, .slice oi5 mi5 ci5, .slice ok5 mk5 ck5)) (t := unkV) hb5 hu))
              clear ho5 hu hb5 HU
              go_upto_region 17 with (fail)
              clear e0 e1 e2 e3 e4 ef
              generalize ((((w5.setCell ⟨n, 0, none⟩ (.int .i64 k5)).setCell ⟨n, 1, none⟩ (.int .i64 n5)).setCell ⟨n, 2, none⟩ (.string s5)).setCell ⟨n, 3, none⟩ (.slice oi5 mi5 ci5)).setCell ⟨n, 4, none⟩ (.slice ok5 mk5 ck5) = w5b at *
              have o4 := (cells_in L0.out.pr.obj 4).trans rfl
              go_upto_region 18 with (at_builtin; refine app_tag (by rfl) (.tmp 80) (.tmp 82) 24 (by rfl) 9 (.string ⟨#[]⟩) 1 16 Try.underlying24 info9 rfl (by decide) (by decide) _ _ _ L0.out.pr.row.owns (by rfl) [.string x] w5b.heap.size (by rfl) (by rfl) (by rfl) (by simp [Value.oneCell']) (by have := HLN.out; omega) ?_; intro v6 w6 hown6 hc6 hp6 hne6; obtain ⟨o6, n6, c6, rfl⟩ := owns_slice hown6; have hT6 := (hc6.block X L0.out.pr.lt (fun e => L0.out.pr.kX X e rfl)).trans L0.out.pr.obj; have t4 := (cells_in hT6 4).trans rfl; have tf := frozen_in hT6)
              have L1 := hid (L0.out.pushK (owns_row (l := ks ++ [x]) (by rw [strs, List.map_append]; exact hown6) (by simp)) (fun s hs => by
                rcases List.mem_append.1 hs with h | h
                · exact L0.out.pr.str s h
                · rw [List.mem_singleton.1 h]; exact HXS.out) hp6 hc6)
              clear hown6 hc6 hp6 hne6 hT6 t4 tf o4 L0
              generalize w6.setCell ⟨X, 4, none⟩ (.slice o6 n6 c6) = w7 at *
              have o3 := (cells_in L1.out.pr.obj 3).trans rfl
              have y0 := (cells_in L1.out.on 0).trans rfl
              have y1 := (cells_in L1.out.on 1).trans rfl
              have y2 := (cells_in L1.out.on 2).trans rfl
              have y3 := (cells_in L1.out.on 3).trans rfl
              have y4 := (cells_in L1.out.on 4).trans rfl
              have HIS := hid L1.out.pr.items
              go_upto_region 19 with (at_builtin; obtain ⟨rs, hm, hl2, he4⟩ := HIS.out; refine app_tag (by rfl) (.tmp 86) (.tmp 88) 23 (by rfl) 26 (.agg #[.int .i64 0, .int .i64 0, .string ⟨#[]⟩, .slice none 0 0, .slice none 0 0]) 5 80 Try.underlying23 infoV (by rfl) (by decide) (by decide) _ _ _ hm.1 (by rfl) [.int .i64 k5, .int .i64 n5, .string s5, .slice oi5 mi5 ci5, .slice ok5 mk5 ck5] w7.heap.size (by rfl) (by rfl) (by rfl) (by simp [Value.oneCell']) (by have := HLN.out; omega) ?_; intro v8 w8 hown8 hc8 hp8 hne8; obtain ⟨o8, n8, c8, rfl⟩ := owns_slice hown8; have HI8 := hid (L1.out.pushI hm hl2 he4 hown8 hp8 hc8); have hT8 := (hc8.block X L1.out.pr.lt (fun e => L1.out.pr.iX X e rfl)).trans L1.out.pr.obj; have t3 := (cells_in hT8 3).trans rfl; have tf := frozen_in hT8; clear hown8 hc8 hp8 hne8 hm hl2 he4)
              clear hT8 t3 tf o3 y0 y1 y2 y3 y4 HIS L1
              generalize w8.setCell ⟨X, 3, none⟩ (.slice o8 n8 c8) = w9 at *
              go_wp2_with fail
              go_roundw
              case rel => exact ⟨j + 1, _, _, _, _, _, _, _, _, _, by omega, by rw [HTK.out.2.1, HDC.out]; simp, rfl, by go_num, by rw [HTK.out.1, HTK.out.2.2.1, HTK.out.2.2.2, HVF.out, if_neg (by simp)]; exact HI8⟩
              case measure => simp [intOf]; omega
            · have f1 : decide (kp = 0) = false := decide_eq_false hk
              have f2 : (kp == 0) = false := beq_eq_false_iff_ne.2 hk
              have HIT2 := hid (show it = getN b x from HIT.out.trans (by rw [HKB.out, if_pos rfl, if_neg hk]))
              have HVF := hid (show vb = vl3 by rw [HVS.out, HKB.out, decide_eq_true hk]; simp)
              clear hk
              have c0 := (cells_in HTW.out.on 0).trans rfl
              have c1 := (cells_in HTW.out.on 1).trans rfl
              have c2 := (cells_in HTW.out.on 2).trans rfl
              have c3 := (cells_in HTW.out.on 3).trans rfl
              have c4 := (cells_in HTW.out.on 4).trans rfl
              have cf := frozen_in HTW.out.on
              have d0 := (cells_in HTW.out.om 0).trans rfl
              have d1 := (cells_in HTW.out.om 1).trans rfl
              have d2 := (cells_in HTW.out.om 2).trans rfl
              have d3 := (cells_in HTW.out.om 3).trans rfl
              have d4 := (cells_in HTW.out.om 4).trans rfl
              have L0 := hid (show TL w2 (((((w4.setCell ⟨n, 0, none⟩ (.int .i64 k1)).setCell ⟨n, 1, none⟩ (.int .i64 n1)).setCell ⟨n, 2, none⟩ (.string s1)).setCell ⟨n, 3, none⟩ (.slice oi1 mi1 ci1)).setCell ⟨n, 4, none⟩ (.slice ok1 mk1 ck1)) X n (.int .i64 k1, .int .i64 n1, .string s1, .slice oi1 mi1 ci1, .slice ok1 mk1 ck1) it _ _ _ is ks vs from by rw [HIT2.out]; exact TL.of T.out HTW.out.prior)
              have v7 := chg_cell (chg_store5 w4 n (.int .i64 k1) (.int .i64 n1) (.string s1) (.slice oi1 mi1 ci1) (.slice ok1 mk1 ck1)) (by have := HN2.out; omega) ((cells_in HXO.out 7).trans rfl)
              go_upto_region 15 with (fail)
              clear c0 c1 c2 c3 c4 cf d0 d1 d2 d3 d4 b0
              generalize ((((w4.setCell ⟨n, 0, none⟩ (.int .i64 k1)).setCell ⟨n, 1, none⟩ (.int .i64 n1)).setCell ⟨n, 2, none⟩ (.string s1)).setCell ⟨n, 3, none⟩ (.slice oi1 mi1 ci1)).setCell ⟨n, 4, none⟩ (.slice ok1 mk1 ck1) = w5b at *
              cases vl3 with
              | false =>
                go_upto_region 17 with (fail)
                clear v7
                have o4 := (cells_in L0.out.pr.obj 4).trans rfl
                go_upto_region 18 with (at_builtin; refine app_tag (by rfl) (.tmp 80) (.tmp 82) 24 (by rfl) 9 (.string ⟨#[]⟩) 1 16 Try.underlying24 info9 rfl (by decide) (by decide) _ _ _ L0.out.pr.row.owns (by rfl) [.string x] w5b.heap.size (by rfl) (by rfl) (by rfl) (by simp [Value.oneCell']) (by have := HLN.out; omega) ?_; intro v6 w6 hown6 hc6 hp6 hne6; obtain ⟨o6, n6, c6, rfl⟩ := owns_slice hown6; have hT6 := (hc6.block X L0.out.pr.lt (fun e => L0.out.pr.kX X e rfl)).trans L0.out.pr.obj; have t4 := (cells_in hT6 4).trans rfl; have tf := frozen_in hT6)
                have L1 := hid (L0.out.pushK (owns_row (l := ks ++ [x]) (by rw [strs, List.map_append]; exact hown6) (by simp)) (fun s hs => by
                  rcases List.mem_append.1 hs with h | h
                  · exact L0.out.pr.str s h
                  · rw [List.mem_singleton.1 h]; exact HXS.out) hp6 hc6)
                clear hown6 hc6 hp6 hne6 hT6 t4 tf o4 L0
                generalize w6.setCell ⟨X, 4, none⟩ (.slice o6 n6 c6) = w7 at *
                have o3 := (cells_in L1.out.pr.obj 3).trans rfl
                have y0 := (cells_in L1.out.on 0).trans rfl
                have y1 := (cells_in L1.out.on 1).trans rfl
                have y2 := (cells_in L1.out.on 2).trans rfl
                have y3 := (cells_in L1.out.on 3).trans rfl
                have y4 := (cells_in L1.out.on 4).trans rfl
                have HIS := hid L1.out.pr.items
                go_upto_region 19 with (at_builtin; obtain ⟨rs, hm, hl2, he4⟩ := HIS.out; refine app_tag (by rfl) (.tmp 86) (.tmp 88) 23 (by rfl) 26 (.agg #[.int .i64 0, .int .i64 0, .string ⟨#[]⟩, .slice none 0 0, .slice none 0 0]) 5 80 Try.underlying23 infoV (by rfl) (by decide) (by decide) _ _ _ hm.1 (by rfl) [.int .i64 k1, .int .i64 n1, .string s1, .slice oi1 mi1 ci1, .slice ok1 mk1 ck1] w7.heap.size (by rfl) (by rfl) (by rfl) (by simp [Value.oneCell']) (by have := HLN.out; omega) ?_; intro v8 w8 hown8 hc8 hp8 hne8; obtain ⟨o8, n8, c8, rfl⟩ := owns_slice hown8; have HI8 := hid (L1.out.pushI hm hl2 he4 hown8 hp8 hc8); have hT8 := (hc8.block X L1.out.pr.lt (fun e => L1.out.pr.iX X e rfl)).trans L1.out.pr.obj; have t3 := (cells_in hT8 3).trans rfl; have tf := frozen_in hT8; clear hown8 hc8 hp8 hne8 hm hl2 he4)
                clear hT8 t3 tf o3 y0 y1 y2 y3 y4 HIS L1
                generalize w8.setCell ⟨X, 3, none⟩ (.slice o8 n8 c8) = w9 at *
                go_wp2_with fail
                go_roundw
                case rel => exact ⟨j + 1, _, _, _, _, _, _, _, _, _, by omega, by rw [HTK.out.2.1, HDC.out]; simp, rfl, by go_num, by rw [HTK.out.1, HTK.out.2.2.1, HTK.out.2.2.2, HVF.out, if_neg (by simp)]; exact HI8⟩
                case measure => simp [intOf]; omega
              | true =>
                go_upto_region 17 with (at_builtin; refine app_tag (by rfl) (.tmp 75) (.tmp 77) 97 (by rfl) 3 (.int .i64 0) 1 8 Try.underlying97 info3 rfl (by decide) (by decide) _ _ _ L0.out.pr.vol (by rfl) [.int .i64 (j : Int)] w5b.heap.size (by rfl) (by rfl) (by rfl) (by simp [Value.oneCell']) (by have := HLN.out; omega) ?_; intro v6 w6 hown6 hc6 hp6 hne6; obtain ⟨o6, n6, c6, rfl⟩ := owns_slice hown6; have LV := hid (L0.out.pushV hown6 hp6 hc6); clear hown6 hc6 hp6 hne6)
                clear v7 L0
                have L0 := LV
                clear LV
                have o4 := (cells_in L0.out.pr.obj 4).trans rfl
                go_upto_region 18 with (at_builtin; refine app_tag (by rfl) (.tmp 80) (.tmp 82) 24 (by rfl) 9 (.string ⟨#[]⟩) 1 16 Try.underlying24 info9 rfl (by decide) (by decide) _ _ _ L0.out.pr.row.owns (by rfl) [.string x] w6.heap.size (by rfl) (by rfl) (by rfl) (by simp [Value.oneCell']) (by have := HLN.out; omega) ?_; intro v6 w6 hown6 hc6 hp6 hne6; obtain ⟨o6, n6, c6, rfl⟩ := owns_slice hown6; have hT6 := (hc6.block X L0.out.pr.lt (fun e => L0.out.pr.kX X e rfl)).trans L0.out.pr.obj; have t4 := (cells_in hT6 4).trans rfl; have tf := frozen_in hT6)
                have L1 := hid (L0.out.pushK (owns_row (l := ks ++ [x]) (by rw [strs, List.map_append]; exact hown6) (by simp)) (fun s hs => by
                  rcases List.mem_append.1 hs with h | h
                  · exact L0.out.pr.str s h
                  · rw [List.mem_singleton.1 h]; exact HXS.out) hp6 hc6)
                clear hown6 hc6 hp6 hne6 hT6 t4 tf o4 L0
                generalize w6.setCell ⟨X, 4, none⟩ (.slice o6 n6 c6) = w7 at *
                have o3 := (cells_in L1.out.pr.obj 3).trans rfl
                have y0 := (cells_in L1.out.on 0).trans rfl
                have y1 := (cells_in L1.out.on 1).trans rfl
                have y2 := (cells_in L1.out.on 2).trans rfl
                have y3 := (cells_in L1.out.on 3).trans rfl
                have y4 := (cells_in L1.out.on 4).trans rfl
                have HIS := hid L1.out.pr.items
                go_upto_region 19 with (at_builtin; obtain ⟨rs, hm, hl2, he4⟩ := HIS.out; refine app_tag (by rfl) (.tmp 86) (.tmp 88) 23 (by rfl) 26 (.agg #[.int .i64 0, .int .i64 0, .string ⟨#[]⟩, .slice none 0 0, .slice none 0 0]) 5 80 Try.underlying23 infoV (by rfl) (by decide) (by decide) _ _ _ hm.1 (by rfl) [.int .i64 k1, .int .i64 n1, .string s1, .slice oi1 mi1 ci1, .slice ok1 mk1 ck1] w7.heap.size (by rfl) (by rfl) (by rfl) (by simp [Value.oneCell']) (by have := HLN.out; omega) ?_; intro v8 w8 hown8 hc8 hp8 hne8; obtain ⟨o8, n8, c8, rfl⟩ := owns_slice hown8; have HI8 := hid (L1.out.pushI hm hl2 he4 hown8 hp8 hc8); have hT8 := (hc8.block X L1.out.pr.lt (fun e => L1.out.pr.iX X e rfl)).trans L1.out.pr.obj; have t3 := (cells_in hT8 3).trans rfl; have tf := frozen_in hT8; clear hown8 hc8 hp8 hne8 hm hl2 he4)
                clear hT8 t3 tf o3 y0 y1 y2 y3 y4 HIS L1
                generalize w8.setCell ⟨X, 3, none⟩ (.slice o8 n8 c8) = w9 at *
                go_wp2_with fail
                go_roundw
                case rel => exact ⟨j + 1, _, _, _, _, _, _, _, _, _, by omega, by rw [HTK.out.2.1, HDC.out]; simp, rfl, by go_num, by rw [HTK.out.1, HTK.out.2.2.1, HTK.out.2.2.2, HVF.out, if_pos rfl]; exact HI8⟩
                case measure => simp [intOf]; omega
    · obtain rfl : j = ns.length := by omega
      rw [List.take_length] at T
      have HRS := hid (HRES.out.trans (by rw [HCH.out]))
      have HLV := hid (volJ_lt s b a ns ns.length)
      have HVL := hid (volJ_len s b a ns ns.length)
      have hli : (ns.map (itemS s b a)).length = ns.length := List.length_map _
      generalize hR : proposeS s b a = R0 at *
      clear hR HRES HCH
      have HZ3 := hid ((T.out.chg.block _ (by have := HS2.out; omega) (by have := HX.out; omega)).trans HZ2.out)
      rw [List.take_length]
      generalize ns.any (detC s b a) = chg at *
      generalize ns.map (itemS s b a) = is at *
      generalize volJ s b a ns ns.length = vs at *
      obtain ⟨o1, c1, e1⟩ := T.out.volLen
      cases e1
      obtain ⟨o2, c2, e2⟩ := T.out.iLen
      rw [hli] at e2
      cases e2
      have HLI := hid hli
      have hvl := HVL.out
      clear hli
      go_wp2_with fail
      go_loopw [94] (fun i wx => ∃ t : Nat, t ≤ vs.length ∧ i = .int .i64 t ∧ Hid (PR w2 wx X (.slice oi ns.length ci) (.slice ok mk ck) (.slice ov vs.length cv') (bif chg then unkAll is (vs.take t) else is) ns vs)) (fun i _ => vs.length - (intOf i).toNat)
      case atStart => exact ⟨0, Nat.zero_le _, rfl, by cases chg <;> exact T⟩
      case round =>
        clear T
        obtain ⟨t, ht, rfl, U⟩ := hrel
        by_cases hlt : t < vs.length
        · obtain ⟨gv, cv2, ev⟩ := U.out.volSl.resolve_left (fun h => by rw [h.2] at hlt; cases hlt)
          cases ev
          have av := U.out.volAt rfl hlt
          have HV := hid (HLV.out t hlt)
          have HTK := hid (unkAll_take is vs hlt)
          have hj0 : (0 : Int) ≤ (t : Int) := by omega
          have hj1 : (t : Int) < (vs.length : Int) := by omega
          generalize vs[t] = y at *
          cases chg with
          | false =>
            go_wp2_with fail
            go_roundw
            case rel => exact ⟨t + 1, by omega, by go_num, U⟩
            case measure => simp [intOf]; omega
          | true =>
            have hL : (unkAll is (vs.take t)).length = ns.length := (unkAll_len _ _).trans HLI.out
            have hy := HV.out
            obtain ⟨gi, cI, e, hgi, hgi2, cur, hcur⟩ := U.out.items.x.slice.resolve_left (fun h => by
              have h2 : unkAll is (vs.take t) = [] := h.2
              rw [h2] at hL
              have h3 : 0 = ns.length := hL
              omega)
            have e2 : Value.slice oi ns.length ci = .slice (some ⟨gi, 0, none⟩) (unkAll is (vs.take t)).length cI := e
            rw [hL] at e2
            clear e
            cases e2
            obtain ⟨k1, n1, s1, oi1, mi1, ci1, ok1, mk1, ck1, a1, a2, a3, a4, a5, -⟩ := U.out.items.x.at (j := y) (by show y < (unkAll is (vs.take t)).length; omega)
            have x3 := (cells_in U.out.obj 3).trans rfl
            have hk0 : (0 : Int) ≤ (y : Int) := by omega
            have hk1 : (y : Int) < (ns.length : Int) := by omega
            have HCall := hid (unknown_any wr.drew)
            have HG := hid (And.intro hgi hgi2)
            have HCU := hid hcur
            have HLL := hid hL
            clear hcur hgi hgi2 hL hy
            go_wp2_with fail
            refine wp_region_steady_tail 5 (fun v => v.cell? ⟨X, 3, none⟩ = some (.slice (some ⟨gi, 0, none⟩) ns.length ci) ∧ v.cell? ⟨gi, y * 5, none⟩ = some (.int .i64 k1) ∧ v.cell? ⟨gi, y * 5 + 1, none⟩ = some (.int .i64 n1) ∧ v.cell? ⟨gi, y * 5 + 2, none⟩ = some (.string s1) ∧ v.cell? ⟨gi, y * 5 + 3, none⟩ = some (.slice oi1 mi1 ci1) ∧ v.cell? ⟨gi, y * 5 + 4, none⟩ = some (.slice ok1 mk1 ck1)) (by kernel_rfl) (by kernel_rfl) (⟨x3, a1, a2, a3, a4, a5⟩) ?_
            simp only [List.take_succ_cons, List.take_zero, List.drop_succ_cons, List.drop_zero]
            repeat (first
              | (refine wpSteady_skip (by rfl) ?_; try simp only [Act.put, List.setIfInBounds_toArray, List.set_cons_zero, List.set_cons_succ])
              | (refine wpSteady_calm (v := ?_) (by rfl) ?_ ?_; rotate_left; (focus (intro v hSv; (try dsimp only at hSv); go_simp; (try with_reducible rfl); done)); try simp only [Act.put, List.setIfInBounds_toArray, List.set_cons_zero, List.set_cons_succ]))
            refine wpSteady_loud rfl (by rfl) (fun K hK => ?_)
            go_simp
            refine HCall.out.mono ?_; rintro e w6 ⟨u, rfl, hu, hb6⟩
            obtain ⟨k6, n6, s6, oi6, mi6, ci6, ok6, mk6, ck6, rfl⟩ := hu.agg5
            have U6 := hid (U.out.later (show Below wr.heap.size wr w6 from ⟨hb6.os, hb6.tape, hb6.output, hb6.size, hb6.block⟩))
            have hcu6 : w6.heap[gi]? = _ := (hb6.block gi HG.out.2).trans HCU.out
            have HU6 := hid hu
            have HF := hid (show ∀ g, wr.heap.size ≤ g → w2.heap.size ≤ g ∧ (Value.slice ok mk ck).ownBlock ≠ some g ∧ (Value.slice (some ⟨gv, 0, none⟩) vs.length cv').ownBlock ≠ some g ∧ g ≠ gi from fun g hg => ⟨by have := U.out.chg.size; omega, (fun e => by have := U.out.row.lt e; omega), (fun e => by have := (U.out.vown g e).2.1; omega), by have := HG.out.2; omega⟩)
            have hf := frozen_in hcu6
            have r1 := bcell (W := wr.drew) hb6 x3
            have r2 := bcell (W := wr.drew) hb6 a1
            have r3 := bcell (W := wr.drew) hb6 a2
            have r4 := bcell (W := wr.drew) hb6 a3
            have r5 := bcell (W := wr.drew) hb6 a4
            have r6 := bcell (W := wr.drew) hb6 a5
            clear hu hb6 hcu6 HCU x3 a1 a2 a3 a4 a5 HCall
            refine hK.out _ _ (⟨r1, r2, r3, r4, r5, r6⟩) ?_
            clear hK K
            try simp only [Act.put, List.setIfInBounds_toArray, List.set_cons_zero, List.set_cons_succ]
            repeat (first
              | (refine wpSteady_skip (by rfl) ?_; try simp only [Act.put, List.setIfInBounds_toArray, List.set_cons_zero, List.set_cons_succ])
              | (refine wpSteady_calm (v := ?_) (by rfl) ?_ ?_; rotate_left; (focus (intro v hSv; (try dsimp only at hSv); go_simp; (try rw [if_neg (by omega)]); (try with_reducible rfl); done)); try simp only [Act.put, List.setIfInBounds_toArray, List.set_cons_zero, List.set_cons_succ]))
            refine wpSteady_nil ?_
            go_wp2_with fail
            go_roundw
            case rel =>
              have hstep := U6.out.set (r := (.int .i64 k6, .int .i64 n6, .string s6, .slice oi6 mi6 ci6, .slice ok6 mk6 ck6)) (j := y) (t := unkV) (by show y < (unkAll is (vs.take t)).length; rw [HLL.out]; exact HV.out) HU6.out (fun g hg => HF.out g hg)
              exact ⟨t + 1, by omega, by go_num, hid (by
                show PR w2 _ X _ _ _ (unkAll is (vs.take (t + 1))) ns vs
                rw [HTK.out]; exact hstep)⟩
            case measure => simp [intOf]; omega
        · obtain rfl : t = vs.length := by omega
          rw [List.take_length] at U
          have HU : Hid (PR w2 wr X (.slice oi ns.length ci) (.slice ok mk ck) (.slice ov vs.length cv') (if chg = true then unkAll is vs else is) ns vs) := hid (by cases chg <;> exact U.out)
          have hl : (if chg = true then unkAll is vs else is).length = ns.length := by cases chg <;> simp [unkAll_len, HLI.out]
          have x0 := (cells_in HU.out.obj 0).trans rfl
          have x1 := (cells_in HU.out.obj 1).trans rfl
          have x2 := (cells_in HU.out.obj 2).trans rfl
          have x3 := (cells_in HU.out.obj 3).trans rfl
          have x4 := (cells_in HU.out.obj 4).trans rfl
          have hz := (HU.out.chg.block (w.heap.size + 3) (by have := HS2.out; omega) (by have := HX.out; omega)).trans HZ2.out
          have f0 := (cells_in hz 0).trans rfl
          have f1 := (cells_in hz 1).trans rfl
          have f2 := (cells_in hz 2).trans rfl
          have f3 := (cells_in hz 3).trans rfl
          have f4 := (cells_in hz 4).trans rfl
          have ff := frozen_in hz
          have OUT := hid (And.intro (store5_vv (b := w.heap.size + 3) (P := fun g => w2.heap.size ≤ g) (Q := fun g => w.heap.size ≤ g) (HU.out.view (by rw [hl]; omega) (by omega)) (by have := HS2.out; omega) (fun g hg => by have := HS2.out; omega) (.int .i64 5) (.int .i64 0) (.string ⟨#[]⟩) (.slice oi ns.length ci) (.slice ok mk ck))
            (store5_below (b := w.heap.size + 3) (bel_chg HB2.out HU.out.chg (Nat.le_refl _) (by have := HX.out; omega)) (by omega) (Nat.le_refl _) (.int .i64 5) (.int .i64 0) (.string ⟨#[]⟩) (.slice oi ns.length ci) (.slice ok mk ck)))
          clear hz hl
          go_wp2_with fail
          try simp only [Exit.inBlock, Exit.then]
          refine bodyPost_ret (v := .agg #[.int .i64 5, .int .i64 0, .string ⟨#[]⟩, .slice oi ns.length ci, .slice ok mk ck]) (by simp [results, Try.results35, go_sem, f0, f1, f2, f3, f4]) rfl ?_
          rw [HRS.out]
          exact ⟨_, rfl, OUT.out.1, OUT.out.2⟩
end Go.Proofs.Ytibiiafcnaijeaa
