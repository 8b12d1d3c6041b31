/- Ignore of diff. -/
import Derived.Test.YtibiiafcnaijeaaPutV
namespace Go.Proofs.Ytibiiafcnaijeaa
open Go Go.RowKit Go.Proofs.Ytibiiafcnaijeaa.Steady
set_option linter.unusedVariables false
set_option linter.unusedSimpArgs false

theorem szL_set : ∀ (l : List Vl) (i : Nat) (y : Vl), szL (l.set i y) ≤ szL l + szV y
  | [], _, _ => by simp [szL]
  | a :: l, 0, y => by rw [List.set_cons_zero, szL, szL]; omega
  | a :: l, i + 1, y => by rw [List.set_cons_succ, szL, szL]; have := szL_set l i y; omega
theorem kyL_set : ∀ (l : List Vl) (i : Nat) (y : Vl), kyL (l.set i y) ≤ kyL l + kyV y
  | [], _, _ => by simp [kyL]
  | a :: l, 0, y => by rw [List.set_cons_zero, kyL, kyL]; omega
  | a :: l, i + 1, y => by rw [List.set_cons_succ, kyL, kyL]; have := kyL_set l i y; omega
theorem szL_ins : ∀ (l : List Vl) (i : Nat) (y : Vl), szL (l.insertIdx i y) ≤ szL l + szV y
  | l, 0, y => by rw [List.insertIdx_zero, szL]; omega
  | [], i + 1, y => by simp [szL]
  | a :: l, i + 1, y => by rw [List.insertIdx_succ_cons, szL, szL]; have := szL_ins l i y; omega
theorem kyL_ins : ∀ (l : List Vl) (i : Nat) (y : Vl), kyL (l.insertIdx i y) ≤ kyL l + kyV y
  | l, 0, y => by rw [List.insertIdx_zero, kyL]; omega
  | [], i + 1, y => by simp [kyL]
  | a :: l, i + 1, y => by rw [List.insertIdx_succ_cons, kyL, kyL]; have := kyL_ins l i y; omega
theorem putV_size (v : Vl) (x : ByteArray) (y : Vl) : szV (putV v x y) ≤ szV v + szV y ∧ kyV (putV v x y) ≤ kyV v + kyV y + 1 := by
  obtain ⟨k, n, s, is, ks⟩ := v
  rw [putV_eq]
  split
  · omega
  · split
    · rw [szV, szV, kyV, kyV]
      have := szL_set is (posN ks x) y
      have := kyL_set is (posN ks x) y
      omega
    · rw [szV, szV, kyV, kyV]
      have := szL_ins is (posN ks x) y
      have := kyL_ins is (posN ks x) y
      have : (ks.insertIdx (posN ks x) x).length ≤ ks.length + 1 := by rw [List.length_insertIdx]; split <;> omega
      omega
theorem getV_size {v : Vl} {x : ByteArray} {y : Vl} (h : getV v x = some y) : szV y ≤ szV v ∧ kyV y ≤ kyV v := by
  obtain ⟨k, n, s, is, ks⟩ := v
  rw [getV_eq] at h
  split at h
  · have hm := List.mem_of_getElem? h
    rw [szV, kyV]
    have := szV_mem hm
    have := kyV_mem hm
    omega
  · cases h
structure IG (w wr : World) (X : Nat) (po : Obj) (k n : Int) (s : ByteArray) (vi vk : Value) (out : Vl) : Prop where
  bel : Below w.heap.size w wr
  z : wr.heap[w.heap.size + 2]? = some zero5
  p : wr.heap[w.heap.size]? = some po
  hX : w.heap.size + 3 ≤ X
  obj : wr.heap[X]? = some (.cells #[.int .i64 k, .int .i64 n, .string s, vi, vk] 26)
  vv : VV (fun g => w.heap.size + 3 ≤ g ∧ g ≠ X) wr (.agg #[.int .i64 k, .int .i64 n, .string s, vi, vk]) out
section
variable {w wr w' : World} {X : Nat} {po : Obj} {k n k' n' : Int} {s s' : ByteArray} {vi vk vi' vk' : Value} {out out' : Vl}
theorem IG.lt (h : IG w wr X po k n s vi vk out) : X < wr.heap.size := (Array.getElem?_eq_some_iff.1 h.obj).1
theorem IG.later (h : IG w wr X po k n s vi vk out) (hb : Below wr.heap.size wr w') : IG w w' X po k n s vi vk out :=
  ⟨h.bel.trans (hb.mono h.bel.size), keep_obj h.z hb, keep_obj h.p hb, h.hX, keep_obj h.obj hb, h.vv.bel hb⟩
theorem IG.set (h : IG w wr X po k n s vi vk out) (hu : VV (fun g => w.heap.size + 3 ≤ g ∧ g ≠ X) wr (.agg #[.int .i64 k', .int .i64 n', .string s', vi', vk']) out') :
    IG w (((((wr.setCell ⟨X, 0, none⟩ (.int .i64 k')).setCell ⟨X, 1, none⟩ (.int .i64 n')).setCell ⟨X, 2, none⟩ (.string s')).setCell ⟨X, 3, none⟩ vi').setCell ⟨X, 4, none⟩ vk') X po k' n' s' vi' vk' out' := by
  have hl := h.lt
  have hX := h.hX
  have hc := chg_store5 wr X (.int .i64 k') (.int .i64 n') (.string s') vi' vk'
  exact ⟨store5_below h.bel (by omega) (Nat.le_refl _) _ _ _ _ _, (hc.block _ (by omega) (by omega)).trans h.z, (hc.block _ (by omega) (by omega)).trans h.p, hX,
    obj_set (po := 4) (obj_set (po := 3) (obj_set (po := 2) (obj_set (po := 1) (obj_set (po := 0) h.obj _) _) _) _) _, store5_vv hu (fun h => h.2 rfl) (fun g hg => hg) _ _ _ _ _⟩
end
set_option maxRecDepth 100000 in
set_option maxHeartbeats 4000000 in
theorem ignore_any (prior cnfg : Vl) (l : List ByteArray) (P Q S : Nat → Prop) (w : World) (up uc ul : Value) (hp : VV P w up prior) (hc : VV Q w uc cnfg) (hl : SV S w ul l)
    (h1 : szV prior ≤ 1000) (h2 : kyV prior ≤ 1000) (h3 : szV cnfg ≤ 1000) (h4 : kyV cnfg ≤ 1000) (h5 : l.length ≤ 40) :
    Calls Try.prog 8 #[up, uc, ul] w (FreshV (ignoreV prior cnfg l) w) := by
  obtain ⟨k1, n1, s1, oi1, mi1, ci1, ok1, mk1, ck1, rfl⟩ := hp.agg5
  obtain ⟨k2, n2, s2, oi2, mi2, ci2, ok2, mk2, ck2, rfl⟩ := hc.agg5
  obtain ⟨ol, cl, rfl⟩ := hl.len
  have HPR := hid hp
  have HCO := hid hc
  have HLL := hid hl
  generalize hA : w.alloc (.cells #[.int .i64 k1, .int .i64 n1, .string s1, .slice oi1 mi1 ci1, .slice ok1 mk1 ck1] 26) = wa
  have hao : wa.heap[w.heap.size]? = some (.cells #[.int .i64 k1, .int .i64 n1, .string s1, .slice oi1 mi1 ci1, .slice ok1 mk1 ck1] 26) := by rw [← hA]; exact heap_alloc_at w _
  have has : wa.heap.size = w.heap.size + 1 := by rw [← hA]; simp
  have hab : Below w.heap.size w wa := by rw [← hA]; exact (Below.refl _ _).alloc (Nat.le_refl _) _
  generalize hB : wa.alloc (.cells #[.int .i64 k2, .int .i64 n2, .string s2, .slice oi2 mi2 ci2, .slice ok2 mk2 ck2] 26) = wb
  have hbo : wb.heap[w.heap.size + 1]? = some (.cells #[.int .i64 k2, .int .i64 n2, .string s2, .slice oi2 mi2 ci2, .slice ok2 mk2 ck2] 26) := by rw [← hB, ← has]; exact heap_alloc_at wa _
  have hbs : wb.heap.size = w.heap.size + 2 := by rw [← hB]; simp [has]
  have hbb : Below wa.heap.size wa wb := by rw [← hB]; exact (Below.refl _ _).alloc (Nat.le_refl _) _
  generalize hC : wb.alloc zero5 = wc
  have hco : wc.heap[w.heap.size + 2]? = some zero5 := by rw [← hC, ← hbs]; exact heap_alloc_at wb _
  have hcs : wc.heap.size = w.heap.size + 3 := by rw [← hC]; simp [hbs]
  have hcb : Below wb.heap.size wb wc := by rw [← hC]; exact (Below.refl _ _).alloc (Nat.le_refl _) _
  have HA0 := hid hA
  have HB0 := hid hB
  have HC0 := hid hC
  have HB := hid (hab.trans ((hbb.trans (hcb.mono hbb.size)).mono hab.size))
  have HS := hid hcs
  have HZ := hid hco
  have HXB := hid (keep_obj hbo hcb)
  have HA := hid (keep_obj (keep_obj hao hbb) hcb)
  clear hp hc hl hA hB hC hao hbo hco has hbs hcs hab hbb hcb
  have a0 := (cells_in HXB.out 0).trans rfl
  have a1 := (cells_in HXB.out 1).trans rfl
  have a2 := (cells_in HXB.out 2).trans rfl
  have a3 := (cells_in HXB.out 3).trans rfl
  have a4 := (cells_in HXB.out 4).trans rfl
  have HCP := hid (copy_any cnfg Q wc _ (HCO.out.bel HB.out) (by omega) (by omega))
  go_enter Try.func8, Try.ntmps8
  go_upto_region 1 with (fail)
  rw [HA0.out, HB0.out, HC0.out]
  go_wp2_with fail
  clear a0 a1 a2 a3 a4
  refine HCP.out.mono ?_
  rintro e w4 ⟨u, rfl, hu, hb4⟩
  obtain ⟨k3, n3, s3, oi3, mi3, ci3, ok3, mk3, ck3, rfl⟩ := hu.agg5
  go_upto_region 2 with (fail)
  have hba : Below w4.heap.size w4 (w4.alloc (.cells #[.int .i64 k3, .int .i64 n3, .string s3, .slice oi3 mi3 ci3, .slice ok3 mk3 ck3] 26)) := (Below.refl _ _).alloc (Nat.le_refl _) _
  have hoa := heap_alloc_at w4 (.cells #[.int .i64 k3, .int .i64 n3, .string s3, .slice oi3 mi3 ci3, .slice ok3 mk3 ck3] 26)
  generalize w4.alloc (.cells #[.int .i64 k3, .int .i64 n3, .string s3, .slice oi3 mi3 ci3, .slice ok3 mk3 ck3] 26) = w5 at *
  have HI0 : Hid (IG w w5 w4.heap.size (.cells #[.int .i64 k1, .int .i64 n1, .string s1, .slice oi1 mi1 ci1, .slice ok1 mk1 ck1] 26) k3 n3 s3 (.slice oi3 mi3 ci3) (.slice ok3 mk3 ck3) cnfg) := hid (by
    have h3 := HS.out
    have h4 := hb4.size
    exact ⟨HB.out.trans ((hb4.trans (hba.mono hb4.size)).mono HB.out.size), keep_obj (keep_obj HZ.out hb4) hba, keep_obj (keep_obj HA.out hb4) hba, by omega, hoa, (hu.ex.mono fun g hg => ⟨by omega, by omega⟩).bel hba⟩)
  clear hu hb4 hba hoa HZ HXB HA HCP HCO
  go_wp2_with fail
  go_loopw [18] (fun i wr => ∃ (j : Nat) (out : Vl) (k n : Int) (s : ByteArray) (oi : Option Addr) (mi ci : Nat) (ok : Option Addr) (mk ck : Nat), j ≤ l.length ∧ i = .int .i64 j ∧ Hid (IG w wr w4.heap.size (.cells #[.int .i64 k1, .int .i64 n1, .string s1, .slice oi1 mi1 ci1, .slice ok1 mk1 ck1] 26) k n s (.slice oi mi ci) (.slice ok mk ck) out) ∧
    Hid (ignoreV prior cnfg l = (l.drop j).foldl (ignStep prior) out) ∧ Hid (szV out ≤ 1000 + j * 1000 ∧ kyV out ≤ 1000 + j * 1001)) (fun i _ => l.length - (intOf i).toNat)
  case atStart => exact ⟨0, cnfg, _, _, _, _, _, _, _, _, _, Nat.zero_le _, rfl, HI0, rfl, hid ⟨by omega, by omega⟩⟩
  case round =>
    clear HI0
    obtain ⟨j, out, k, n, s, oi, mi, ci, ok, mk, ck, hj, rfl, HI, HE, HSZ⟩ := hrel
    by_cases hlt : j < l.length
    · obtain ⟨g, o, c, e1, a1⟩ := (HLL.out.bel HI.out.bel).at hlt
      cases e1
      have hj0 : (0 : Int) ≤ (j : Int) := by omega
      have hj1 : (j : Int) < (l.length : Int) := by omega
      have hj40 : j ≤ 40 := by omega
      obtain ⟨x, hx⟩ : ∃ x, l[j] = x := ⟨_, rfl⟩
      have hxs := HLL.out.2 l[j] (List.getElem_mem hlt)
      rw [hx] at a1 hxs
      have HN := hid hx
      clear hx
      have HG1 := hid (get_any prior x P wr _ (HPR.out.bel HI.out.bel) (by omega) (by omega))
      obtain ⟨o1, ho1⟩ : ∃ o1, getV prior x = o1 := ⟨_, rfl⟩
      rw [ho1] at HG1
      have HO1 := hid ho1
      clear ho1
      have p0 := (cells_in HI.out.p 0).trans rfl
      have p1 := (cells_in HI.out.p 1).trans rfl
      have p2 := (cells_in HI.out.p 2).trans rfl
      have p3 := (cells_in HI.out.p 3).trans rfl
      have p4 := (cells_in HI.out.p 4).trans rfl
      go_wp2_with fail
      clear p0 p1 p2 p3 p4 a1
      refine HG1.out.mono ?_
      rintro e w5' ⟨u, rfl, hu, hb5⟩
      obtain ⟨k5, n5, s5, oi5, mi5, ci5, ok5, mk5, ck5, rfl⟩ := hu.agg5
      have IG5 := hid (HI.out.later hb5)
      have HU5 := hid hu
      have HW5 := hid (show wr.heap.size ≤ w5'.heap.size from hb5.size)
      clear hu hb5 HG1
      go_upto_region 6 with (fail)
      have hba : Below w5'.heap.size w5' (w5'.alloc (.cells #[.int .i64 k5, .int .i64 n5, .string s5, .slice oi5 mi5 ci5, .slice ok5 mk5 ck5] 26)) := (Below.refl _ _).alloc (Nat.le_refl _) _
      have hoa := heap_alloc_at w5' (.cells #[.int .i64 k5, .int .i64 n5, .string s5, .slice oi5 mi5 ci5, .slice ok5 mk5 ck5] 26)
      generalize w5'.alloc (.cells #[.int .i64 k5, .int .i64 n5, .string s5, .slice oi5 mi5 ci5, .slice ok5 mk5 ck5] 26) = w6 at *
      replace IG5 := hid (IG5.out.later hba)
      replace HU5 := hid (HU5.out.bel hba)
      have HO6 := hid hoa
      clear hba hoa
      have HG2 := hid (get_any out x _ w6 _ IG5.out.vv (by have := HSZ.out.1; omega) (by have := HSZ.out.2; omega))
      obtain ⟨o2, ho2⟩ : ∃ o2, getV out x = o2 := ⟨_, rfl⟩
      rw [ho2] at HG2
      have HO2 := hid ho2
      clear ho2
      have q0 := (cells_in IG5.out.obj 0).trans rfl
      have q1 := (cells_in IG5.out.obj 1).trans rfl
      have q2 := (cells_in IG5.out.obj 2).trans rfl
      have q3 := (cells_in IG5.out.obj 3).trans rfl
      have q4 := (cells_in IG5.out.obj 4).trans rfl
      have qf := frozen_in IG5.out.obj
      go_wp2_with fail
      clear q0 q1 q2 q3 q4 qf
      refine HG2.out.mono ?_
      rintro e w7 ⟨u, rfl, hu, hb7⟩
      obtain ⟨k7, n7, s7, oi7, mi7, ci7, ok7, mk7, ck7, rfl⟩ := hu.agg5
      have IG6 := hid (IG5.out.later hb7)
      replace HU5 := hid (HU5.out.bel hb7)
      replace HO6 := hid (keep_obj HO6.out hb7)
      clear hu hb7 HG2 IG5
      go_upto_region 7 with (fail)
      have hba : Below w7.heap.size w7 (w7.alloc (.cells #[.int .i64 k7, .int .i64 n7, .string s7, .slice oi7 mi7 ci7, .slice ok7 mk7 ck7] 26)) := (Below.refl _ _).alloc (Nat.le_refl _) _
      have hoa := heap_alloc_at w7 (.cells #[.int .i64 k7, .int .i64 n7, .string s7, .slice oi7 mi7 ci7, .slice ok7 mk7 ck7] 26)
      generalize w7.alloc (.cells #[.int .i64 k7, .int .i64 n7, .string s7, .slice oi7 mi7 ci7, .slice ok7 mk7 ck7] 26) = w8 at *
      replace IG6 := hid (IG6.out.later hba)
      replace HU5 := hid (HU5.out.bel hba)
      replace HO6 := hid (keep_obj HO6.out hba)
      clear hba hoa
      cases o1 with
      | none =>
        have HE2 : Hid (ignoreV prior cnfg l = (l.drop (j + 1)).foldl (ignStep prior) out) := hid (by have h := HE.out; rw [List.drop_eq_getElem_cons hlt, List.foldl_cons, HN.out] at h; rw [show ignStep prior out x = out by rw [ignStep, HO1.out]] at h; exact h)
        go_wp2_with fail
        go_roundw
        case rel => exact ⟨j + 1, out, _, _, _, _, _, _, _, _, _, by omega, by go_num, IG6, HE2, hid ⟨by have := HSZ.out.1; rw [Nat.succ_mul]; omega, by have := HSZ.out.2; rw [Nat.succ_mul]; omega⟩⟩
        case measure => simp [intOf]; omega
      | some v1 =>
        cases o2 with
        | none =>
          have HE2 : Hid (ignoreV prior cnfg l = (l.drop (j + 1)).foldl (ignStep prior) out) := hid (by have h := HE.out; rw [List.drop_eq_getElem_cons hlt, List.foldl_cons, HN.out] at h; rw [show ignStep prior out x = out by rw [ignStep, HO1.out]; simp only [HO2.out]; rfl] at h; exact h)
          go_wp2_with fail
          go_roundw
          case rel => exact ⟨j + 1, out, _, _, _, _, _, _, _, _, _, by omega, by go_num, IG6, HE2, hid ⟨by have := HSZ.out.1; rw [Nat.succ_mul]; omega, by have := HSZ.out.2; rw [Nat.succ_mul]; omega⟩⟩
          case measure => simp [intOf]; omega
        | some v2 =>
          have HSV1 := hid (getV_size HO1.out)
          have HPS := hid (putV_size out x v1)
          have HPU := hid (vput_any out x v1 _ _ w8 _ _ IG6.out.vv HU5.out (by have := HSZ.out.1; omega) (by have := HSZ.out.2; omega) (by have := HSV1.out.1; omega) (by have := HSV1.out.2; omega) hxs)
          have HE2 : Hid (ignoreV prior cnfg l = (l.drop (j + 1)).foldl (ignStep prior) (putV out x v1)) := hid (by have h := HE.out; rw [List.drop_eq_getElem_cons hlt, List.foldl_cons, HN.out] at h; rw [show ignStep prior out x = putV out x v1 by rw [ignStep, HO1.out]; simp only [HO2.out]; rfl] at h; exact h)
          have q0 := (cells_in IG6.out.obj 0).trans rfl
          have q1 := (cells_in IG6.out.obj 1).trans rfl
          have q2 := (cells_in IG6.out.obj 2).trans rfl
          have q3 := (cells_in IG6.out.obj 3).trans rfl
          have q4 := (cells_in IG6.out.obj 4).trans rfl
          have qf := frozen_in IG6.out.obj
          have z0 := (cells_in HO6.out 0).trans rfl
          have z1 := (cells_in HO6.out 1).trans rfl
          have z2 := (cells_in HO6.out 2).trans rfl
          have z3 := (cells_in HO6.out 3).trans rfl
          have z4 := (cells_in HO6.out 4).trans rfl
          go_wp2_with fail
          clear q0 q1 q2 q3 q4 qf z0 z1 z2 z3 z4
          refine HPU.out.mono ?_
          rintro e w9 ⟨u, rfl, hu, hb9⟩
          obtain ⟨k9, n9, s9, oi9, mi9, ci9, ok9, mk9, ck9, rfl⟩ := hu.agg5
          have IG9 := hid (IG6.out.later hb9)
          have HST := hid (IG9.out.set (hu.mono fun g hg => ⟨by have := IG6.out.bel.size; have := IG6.out.lt; have := IG6.out.hX; omega, by have := IG6.out.lt; omega⟩))
          have q0 := (cells_in IG9.out.obj 0).trans rfl
          have q1 := (cells_in IG9.out.obj 1).trans rfl
          have q2 := (cells_in IG9.out.obj 2).trans rfl
          have q3 := (cells_in IG9.out.obj 3).trans rfl
          have q4 := (cells_in IG9.out.obj 4).trans rfl
          have qf := frozen_in IG9.out.obj
          clear hu hb9 HPU
          go_wp2_with fail
          go_roundw
          case rel => exact ⟨j + 1, _, _, _, _, _, _, _, _, _, _, by omega, by go_num, HST, HE2, hid ⟨by have := HSZ.out.1; have := HPS.out.1; have := HSV1.out.1; omega, by have := HSZ.out.2; have := HPS.out.2; have := HSV1.out.2; omega⟩⟩
          case measure => simp [intOf]; omega
    · have HE2 := hid (HE.out.trans (by rw [List.drop_of_length_le (by omega), List.foldl_nil]))
      have q0 := (cells_in HI.out.obj 0).trans rfl
      have q1 := (cells_in HI.out.obj 1).trans rfl
      have q2 := (cells_in HI.out.obj 2).trans rfl
      have q3 := (cells_in HI.out.obj 3).trans rfl
      have q4 := (cells_in HI.out.obj 4).trans rfl
      have qf := frozen_in HI.out.obj
      have f0 := (cells_in HI.out.z 0).trans rfl
      have f1 := (cells_in HI.out.z 1).trans rfl
      have f2 := (cells_in HI.out.z 2).trans rfl
      have f3 := (cells_in HI.out.z 3).trans rfl
      have f4 := (cells_in HI.out.z 4).trans rfl
      have fz := frozen_in HI.out.z
      go_wp2_with fail
      try simp only [Exit.inBlock, Exit.then]
      refine bodyPost_ret (v := .agg #[.int .i64 k, .int .i64 n, .string s, .slice oi mi ci, .slice ok mk ck]) (by simp [results, Try.results8, go_sem, f0, f1, f2, f3, f4]) rfl ?_
      rw [HE2.out]
      exact ⟨_, rfl, store5_vv (Q := fun g => w.heap.size ≤ g) (HI.out.vv.mono (Q := fun g => w.heap.size + 3 ≤ g) fun g hg => hg.1) (by omega) (fun g hg => by omega) _ _ _ _ _, store5_below HI.out.bel (by omega) (Nat.le_refl _) _ _ _ _ _⟩
end Go.Proofs.Ytibiiafcnaijeaa
