/- Ignore of the reference of diff. -/
import Derived.Test.YtibiiafcnaijeaaRPut
import Derived.Test.YtibiiafcnaijeaaFree
namespace Go.Proofs.Ytibiiafcnaijeaa
open Go Go.RowKit Go.Proofs.Ytibiiafcnaijeaa.Steady
set_option linter.unusedVariables false
set_option linter.unusedSimpArgs false

def ignR (prior out : Vl) (x : ByteArray) : Vl := match getR prior x with
  | none => out
  | some v => if (getR out x).isSome = true then putR out x v else out
def ignoreR (prior cnfg : Vl) (l : List ByteArray) : Vl := l.foldl (ignR prior) cnfg
theorem getRL_memI : ∀ {ks : List ByteArray} {is : List Vl} {x : ByteArray} {y : Vl}, getRL ks is x = some y → y ∈ is
  | [], _, _, _, h => by rw [getRL] at h; cases h
  | _ :: _, [], _, _, h => by rw [getRL] at h; cases h
  | k :: ks, v :: is, x, y, h => by
    rw [getRL] at h
    split at h
    · cases h; exact List.mem_cons_self ..
    · exact List.mem_cons_of_mem _ (getRL_memI h)
theorem getR_size {v : Vl} {x : ByteArray} {y : Vl} (h : getR v x = some y) : szV y ≤ szV v ∧ kyV y ≤ kyV v := by
  obtain ⟨k, n, s, is, ks⟩ := v
  rw [getR] at h
  split at h
  · have hm := getRL_memI h
    rw [szV, kyV]
    have := szV_mem hm
    have := kyV_mem hm
    omega
  · cases h
theorem szL_appI : ∀ a b : List Vl, szL (a ++ b) = szL a + szL b
  | [], b => by simp [szL]
  | e :: a, b => by rw [List.cons_append, szL, szL, szL_appI a b]; omega
theorem kyL_appI : ∀ a b : List Vl, kyL (a ++ b) = kyL a + kyL b
  | [], b => by simp [kyL]
  | e :: a, b => by rw [List.cons_append, kyL, kyL, kyL_appI a b]; omega
theorem putG_size : ∀ (d : Bool) (ks : List ByteArray) (is : List Vl) (x : ByteArray) (y : Vl), szL ((putG d ks is x y).map (·.2)) ≤ szL is + (if d = true then 0 else szV y) ∧ kyL ((putG d ks is x y).map (·.2)) ≤ kyL is + (if d = true then 0 else kyV y) ∧
    (putG d ks is x y).length ≤ ks.length + (if d = true then 0 else 1)
  | d, [], is, x, y => by rw [putG]; cases d <;> simp [szL, kyL]
  | d, _ :: _, [], x, y => by rw [putG]; cases d <;> simp [szL, kyL]
  | d, k :: ks, v :: is, x, y => by
    have ih := putG_size (d || !ltS k x) ks is x y
    rw [putG]
    simp only [List.map_append, szL_appI, kyL_appI, List.length_append, szL, kyL, List.length_cons]
    by_cases hk : k = x
    · rw [if_pos hk]
      cases d with
      | true => simp [szL, kyL] at ih ⊢; omega
      | false =>
        cases hl : ltS k x with
        | true => simp [szL, kyL, hl] at ih ⊢; omega
        | false => simp [szL, kyL, hl] at ih ⊢; omega
    · rw [if_neg hk]
      cases d with
      | true => simp [szL, kyL] at ih ⊢; omega
      | false =>
        cases hl : ltS k x with
        | true => simp [szL, kyL, hl] at ih ⊢; omega
        | false => simp [szL, kyL, hl] at ih ⊢; omega
theorem putR_size (v : Vl) (x : ByteArray) (y : Vl) : szV (putR v x y) ≤ szV v + szV y ∧ kyV (putR v x y) ≤ kyV v + kyV y + 1 := by
  obtain ⟨k, n, s, is, ks⟩ := v
  have h := putG_size false ks is x y
  unfold putR
  rw [szV, szV, kyV, kyV, List.length_map]
  simp at h
  omega
/-- What was fetched stands in a box of its own. -/
structure GS (S : Nat → Prop) (wr wx : World) (X : Nat) (r : V5) (o : Option Vl) : Prop where
  bel : Below wr.heap.size wr wx
  hX : wr.heap.size ≤ X
  obj : wx.heap[X]? = some (.cells #[r.1, r.2.1, r.2.2.1, r.2.2.2.1, r.2.2.2.2] 26)
  vv : VV S wx (pent r) (o.getD nullV)
theorem GS.one {S : Nat → Prop} {wr w5 w6 w7 : World} {r : V5} {o : Option Vl} (hS : ∀ g, S g → g < wr.heap.size) (hb : Below wr.heap.size wr w5) (hu : VV S w5 (pent r) (o.getD nullV)) (ha : Below w5.heap.size w5 w6) (hc : Chg (fun k => k = w5.heap.size) w6 w7)
    (hz : w7.heap[w5.heap.size]? = some (.cells #[r.1, r.2.1, r.2.2.1, r.2.2.2.1, r.2.2.2.2] 26)) : GS S wr w7 w5.heap.size r o :=
  ⟨(hb.trans (ha.mono hb.size)).trans (chg_bel hc (fun k hk => by rw [hk]; exact hb.size) (Nat.le_trans hb.size ha.size)), hb.size, hz, (hu.bel ha).keep (KeepsP.chg hc fun g hg e => by have := hS g hg; have := hb.size; omega) fun g hg => hg⟩
theorem GS.two {S : Nat → Prop} {wr w5 w7 : World} {r : V5} {o : Option Vl} (hS : ∀ g, S g → g < wr.heap.size) (hb : Below (wr.drew.alloc zero5).heap.size (wr.drew.alloc zero5) w5) (hu : VV S w5 (pent r) (o.getD nullV)) (hc : Chg (fun k => k = wr.heap.size) w5 w7)
    (hz : w7.heap[wr.heap.size]? = some (.cells #[r.1, r.2.1, r.2.2.1, r.2.2.2.1, r.2.2.2.2] 26)) : GS S wr w7 wr.heap.size r o := by
  have h1 : Below wr.heap.size wr (wr.drew.alloc zero5) := (below_drew (Below.refl _ _)).alloc (Nat.le_refl _) _
  have h2 := h1.trans (hb.mono h1.size)
  exact ⟨h2.trans (chg_bel hc (fun k hk => by omega) h2.size), Nat.le_refl _, hz, hu.keep (KeepsP.chg hc fun g hg e => by have := hS g hg; omega) fun g hg => hg⟩
/-- The map that is being made is in box w.heap.size + 1. -/
structure IR (P : Nat → Prop) (w wr : World) (po : Obj) (r : V5) (out : Vl) : Prop where
  bel : Below w.heap.size w wr
  p : wr.heap[w.heap.size]? = some po
  obj : wr.heap[w.heap.size + 1]? = some (.cells #[r.1, r.2.1, r.2.2.1, r.2.2.2.1, r.2.2.2.2] 26)
  z : wr.heap[w.heap.size + 2]? = some zero5
  vv : VV (fun g => (P g ∨ w.heap.size + 3 ≤ g) ∧ g < wr.heap.size) wr (pent r) out
theorem IR.later {P : Nat → Prop} {w wr w' : World} {po : Obj} {r : V5} {out : Vl} (h : IR P w wr po r out) (hb : Below wr.heap.size wr w') : IR P w w' po r out :=
  ⟨h.bel.trans (hb.mono h.bel.size), keep_obj h.p hb, keep_obj h.obj hb, keep_obj h.z hb, (h.vv.bel hb).mono fun g hg => ⟨hg.1, Nat.lt_of_lt_of_le hg.2 hb.size⟩⟩
theorem IR.set {P : Nat → Prop} {w wr w' w'' : World} {po : Obj} {r r' : V5} {out out' : Vl} (h : IR P w wr po r out) (hb : Below wr.heap.size wr w') (hP : ∀ g, P g → g < w.heap.size) (hu : VV (fun g => ((P g ∨ w.heap.size + 3 ≤ g) ∧ g < wr.heap.size) ∨ wr.heap.size ≤ g) w' (pent r') out') (hc : Chg (fun k => k = w.heap.size + 1) w' w'')
    (hz : w''.heap[w.heap.size + 1]? = some (.cells #[r'.1, r'.2.1, r'.2.2.1, r'.2.2.2.1, r'.2.2.2.2] 26)) : IR P w w'' po r' out' := by
  have h2 := h.later hb
  have l1 := (Array.getElem?_eq_some_iff.1 h.z).1
  refine ⟨h2.bel.trans (chg_bel hc (fun k hk => by omega) h2.bel.size), (hc.block _ (Array.getElem?_eq_some_iff.1 h2.p).1 (by omega)).trans h2.p, hz, (hc.block _ (Array.getElem?_eq_some_iff.1 h2.z).1 (by omega)).trans h2.z, (hu.ex.keep (KeepsP.chg hc fun g hg e => ?_) fun g hg => ⟨?_, Nat.lt_of_lt_of_le hg.2 hc.size⟩)⟩
  · rcases hg.1 with h3 | h3
    · rcases h3.1 with h4 | h4
      · have := hP g h4; omega
      · omega
    · omega
  · rcases hg.1 with h3 | h3
    · exact h3.1
    · exact .inr (by omega)
set_option maxRecDepth 100000 in
set_option maxHeartbeats 4000000 in
theorem rignore_any (prior cnfg : Vl) (l : List ByteArray) (P S : Nat → Prop) (w : World) (up uc ul : Value) (hp : VV P w up prior) (hc : VV P w uc cnfg) (hl : SV S w ul l) (hP : ∀ g, P g → g < w.heap.size)
    (h1 : szV prior ≤ 1000) (h2 : kyV prior ≤ 1000) (h3 : szV cnfg ≤ 1000) (h4 : kyV cnfg ≤ 1000) (h5 : l.length ≤ 40) :
    Calls Try.prog 9 #[up, uc, ul] w fun e w' => ∃ u, e = .returned u ∧ VV (fun g => P g ∨ w.heap.size ≤ g) w' u (ignoreR prior cnfg l) ∧ Below w.heap.size w w' := by
  obtain ⟨k1, n1, s1, oi1, mi1, ci1, ok1, mk1, ck1, rfl⟩ := hp.agg5
  obtain ⟨k2, n2, s2, oi2, mi2, ci2, ok2, mk2, ck2, rfl⟩ := hc.agg5
  obtain ⟨ol, cl, rfl⟩ := hl.len
  generalize hA : w.alloc (.cells #[.int .i64 k1, .int .i64 n1, .string s1, .slice oi1 mi1 ci1, .slice ok1 mk1 ck1] 26) = wa
  have hao : wa.heap[w.heap.size]? = some (.cells #[.int .i64 k1, .int .i64 n1, .string s1, .slice oi1 mi1 ci1, .slice ok1 mk1 ck1] 26) := by rw [← hA]; exact heap_alloc_at w _
  have has : wa.heap.size = w.heap.size + 1 := by rw [← hA]; simp
  have hab : Below w.heap.size w wa := by rw [← hA]; exact (Below.refl _ _).alloc (Nat.le_refl _) _
  generalize hB : wa.alloc (.cells #[.int .i64 k2, .int .i64 n2, .string s2, .slice oi2 mi2 ci2, .slice ok2 mk2 ck2] 26) = wb
  have hbo : wb.heap[w.heap.size + 1]? = some (.cells #[.int .i64 k2, .int .i64 n2, .string s2, .slice oi2 mi2 ci2, .slice ok2 mk2 ck2] 26) := by rw [← hB, ← has]; exact heap_alloc_at wa _
  have hbs : wb.heap.size = w.heap.size + 2 := by rw [← hB]; simp [has]
  have hbb : Below wa.heap.size wa wb := by rw [← hB]; exact (Below.refl _ _).alloc (Nat.le_refl _) _
  generalize hC : wb.alloc zero5 = wc
  have hco : wc.heap[w.heap.size + 2]? = some zero5 := by rw [← hC, ← hbs]; exact heap_alloc_at wb _
  have hcs : wc.heap.size = w.heap.size + 3 := by rw [← hC]; simp [hbs]
  have hcb : Below wb.heap.size wb wc := by rw [← hC]; exact (Below.refl _ _).alloc (Nat.le_refl _) _
  have hball := hab.trans ((hbb.trans (hcb.mono hbb.size)).mono hab.size)
  have HA0 := hid hA
  have HB0 := hid hB
  have HC0 := hid hC
  have HB := hid hball
  have HS := hid hcs
  have HPL := hid hP
  have HVP := hid hp
  have HLL := hid hl
  have HI0 : Hid (IR P w wc (.cells #[.int .i64 k1, .int .i64 n1, .string s1, .slice oi1 mi1 ci1, .slice ok1 mk1 ck1] 26) (.int .i64 k2, .int .i64 n2, .string s2, .slice oi2 mi2 ci2, .slice ok2 mk2 ck2) cnfg) :=
    hid ⟨hball, keep_obj (keep_obj hao hbb) hcb, keep_obj hbo hcb, hco, (hc.bel hball).mono fun g hg => ⟨.inl hg, by have := hP g hg; have := hball.size; omega⟩⟩
  clear hp hc hl hA hB hC hao hbo hco has hbs hcs hab hbb hcb hball hP
  go_enter Try.func9, Try.ntmps9
  go_upto_region 1 with (fail)
  rw [HA0.out, HB0.out, HC0.out]
  go_wp2_with fail
  go_loopw [7] (fun iv wr => ∃ (j : Nat) (out : Vl) (k n : Int) (s : ByteArray) (oi : Option Addr) (mi ci : Nat) (ok : Option Addr) (mk ck : Nat), j ≤ l.length ∧ iv = .int .i64 j ∧ Hid (IR P w wr (.cells #[.int .i64 k1, .int .i64 n1, .string s1, .slice oi1 mi1 ci1, .slice ok1 mk1 ck1] 26) (.int .i64 k, .int .i64 n, .string s, .slice oi mi ci, .slice ok mk ck) out) ∧
    Hid (ignoreR prior cnfg l = (l.drop j).foldl (ignR prior) out) ∧ Hid (szV out ≤ 1000 + j * 1000 ∧ kyV out ≤ 1000 + j * 1001)) (fun iv _ => l.length - (intOf iv).toNat)
  case atStart => exact ⟨0, cnfg, _, _, _, _, _, _, _, _, _, Nat.zero_le _, rfl, HI0, hid rfl, hid ⟨by omega, by omega⟩⟩
  case round =>
    clear HI0
    obtain ⟨j, out, k, n, s, oi, mi, ci, ok, mk, ck, hj, rfl, I, HE, HSZ⟩ := hrel
    by_cases hlt : j < l.length
    · obtain ⟨g, o, c, e1, b1⟩ := (HLL.out.bel I.out.bel).at hlt
      cases e1
      have hj0 : (0 : Int) ≤ (j : Int) := by omega
      have hj1 : (j : Int) < (l.length : Int) := by omega
      have hj40 : j ≤ 40 := by omega
      obtain ⟨x, hx⟩ : ∃ x, l[j] = x := ⟨_, rfl⟩
      have HXZ := hid (HLL.out.2 l[j] (List.getElem_mem hlt))
      rw [hx] at b1 HXZ
      have HN := hid hx
      clear hx
      have HB1 := hid b1
      have HLT := hid (show w.heap.size + 2 < wr.heap.size from (Array.getElem?_eq_some_iff.1 I.out.z).1)
      have HGL := hid (show g < wr.heap.size from World.block_lt_of_cell? wr _ b1)
      have HVQ := hid (HVP.out.bel I.out.bel)
      have HPW := hid (fun g (hg : P g) => Nat.lt_of_lt_of_le (HPL.out g hg) I.out.bel.size)
      have h := And.intro (C5.bel (C5.of I.out.p) (show Below wr.heap.size wr wr.drew from below_drew (Below.refl _ _))) (show wr.drew.cell? ⟨g, o + j, none⟩ = some (.string x) from b1)
      go_upto_region 4 with (fail)
      clear b1
      go_cut [8, 9] (fun y b wx => ∃ (X : Nat) (k9 n9 : Int) (s9 : ByteArray) (oi9 : Option Addr) (mi9 ci9 : Nat) (ok9 : Option Addr) (mk9 ck9 : Nat), y = .pointer (some ⟨X, 0, none⟩) ∧ b = .bool (getR prior x).isSome ∧ Hid (GS (P) wr wx X (.int .i64 k9, .int .i64 n9, .string s9, .slice oi9 mi9 ci9, .slice ok9 mk9 ck9) (getR prior x)))
      case first =>
        refine wp_region_free 9 5 5 (fun v => C5 w.heap.size (.int .i64 k1) (.int .i64 n1) (.string s1) (.slice oi1 mi1 ci1) (.slice ok1 mk1 ck1) v ∧ v.cell? ⟨g, o + j, none⟩ = some (.string x)) (by kernel_rfl) (by kernel_rfl) h ?_ ?_
        · repeat (first
            | (refine wpSteady_skip (by rfl) ?_; try simp only [Act.put, List.setIfInBounds_toArray, List.set_cons_zero, List.set_cons_succ])
            | (refine wpSteady_calm (v := ?_) (by rfl) ?_ ?_; rotate_left; (focus (intro v hSv; (try simp only [C5] at hSv); go_simp; (try with_reducible rfl); done)); try simp only [Act.put, List.setIfInBounds_toArray, List.set_cons_zero, List.set_cons_succ]))
          refine wpSteady_loud rfl (by rfl) (fun K hK => ?_)
          go_simp
          refine (rget_any (prior) x (P) wr.drew _ (HVQ.out.bel (below_drew (Below.refl _ _))) (fun g hg => HPW.out g hg)).mono ?_
          rintro e w5 ⟨u, rfl, hu, hb5⟩
          obtain ⟨k9, n9, s9, oi9, mi9, ci9, ok9, mk9, ck9, rfl⟩ := hu.agg5
          have h5 := And.intro (C5.bel h.1 hb5) (bcell (W := wr.drew) hb5 h.2)
          have HU := hid hu
          have HB5 := hid hb5
          clear hu hb5 h
          refine hK.out _ _ (h5) ?_
          clear hK K
          try simp only [Act.put, List.setIfInBounds_toArray, List.set_cons_zero, List.set_cons_succ]
          repeat (first
            | (refine wpSteady_skip (by rfl) ?_; try simp only [Act.put, List.setIfInBounds_toArray, List.set_cons_zero, List.set_cons_succ])
            | (refine wpSteady_calm (v := ?_) (by rfl) ?_ ?_; rotate_left; (focus (intro v hSv; (try simp only [C5] at hSv); go_simp; (try with_reducible rfl); done)); try simp only [Act.put, List.setIfInBounds_toArray, List.set_cons_zero, List.set_cons_succ]))
          refine wpSteady_loud rfl (by rfl) (fun K hK => ?_)
          go_simp
          have hba : Below w5.heap.size w5 (w5.alloc zero5) := (Below.refl _ _).alloc (Nat.le_refl _) _
          have hoa := heap_alloc_at w5 zero5
          generalize w5.alloc zero5 = w6 at *
          have h6 := And.intro (C5.bel h5.1 hba) (bcell hba h5.2)
          refine hK.out _ _ (h6) ?_
          clear hK K
          try simp only [Act.put, List.setIfInBounds_toArray, List.set_cons_zero, List.set_cons_succ]
          refine wpSteady_loud rfl (by rfl) (fun K hK => ?_)
          refine wp_store_obj 26 _ _ rfl w5.heap.size 0 [_, _, _, _, _] rfl rfl _ _ hoa (by simp) (by kernel_rfl) rfl ?_
          intro w7 hz7 hc7
          have hsz5 : wr.heap.size ≤ w5.heap.size := HB5.out.size
          have h7 := And.intro (C5.chg h6.1 hc7 (by have := HLT.out; omega)) (chg_cell hc7 (by have := HGL.out; omega) h6.2)
          refine hK.out _ _ h7 ?_
          clear hK K h5 h6
          try simp only [Act.put, List.setIfInBounds_toArray, List.set_cons_zero, List.set_cons_succ]
          repeat (first
            | (refine wpSteady_skip (by rfl) ?_; try simp only [Act.put, List.setIfInBounds_toArray, List.set_cons_zero, List.set_cons_succ])
            | (refine wpSteady_calm (v := ?_) (by rfl) ?_ ?_; rotate_left; (focus (intro v hSv; (try simp only [C5] at hSv); go_simp; (try with_reducible rfl); done)); try simp only [Act.put, List.setIfInBounds_toArray, List.set_cons_zero, List.set_cons_succ]))
          refine wpSteady_nil ?_
          clear h7
          go_wp2_with fail
          go_meet
          exact ⟨_, _, _, _, _, _, _, _, _, _, rfl, rfl, hid (GS.one (fun g hg => HPW.out g hg) (show Below wr.heap.size wr w5 from ⟨HB5.out.os, HB5.out.tape, HB5.out.output, HB5.out.size, HB5.out.block⟩) HU.out hba hc7 hz7)⟩
        · simp only [mv, List.take_succ_cons, List.take_zero, List.drop_succ_cons, List.drop_zero, List.cons_append, List.nil_append]
          repeat (first
            | (refine wpSteady_skip (by rfl) ?_; try simp only [Act.put, List.setIfInBounds_toArray, List.set_cons_zero, List.set_cons_succ])
            | (refine wpSteady_calm (v := ?_) (by rfl) ?_ ?_; rotate_left; (focus (intro v hSv; (try simp only [C5] at hSv); go_simp; (try with_reducible rfl); done)); try simp only [Act.put, List.setIfInBounds_toArray, List.set_cons_zero, List.set_cons_succ]))
          refine wpSteady_loud rfl (by rfl) (fun K hK => ?_)
          go_simp
          have hba : Below wr.heap.size wr (wr.drew.alloc zero5) := (below_drew (Below.refl _ _)).alloc (Nat.le_refl _) _
          have hba0 : Below wr.drew.heap.size wr.drew (wr.drew.alloc zero5) := (Below.refl _ _).alloc (Nat.le_refl _) _
          have h5 := And.intro (C5.bel h.1 hba0) (bcell hba0 h.2)
          have hoa := heap_alloc_at wr.drew zero5
          refine hK.out _ _ (h5) ?_
          clear hK K
          try simp only [Act.put, List.setIfInBounds_toArray, List.set_cons_zero, List.set_cons_succ]
          repeat (first
            | (refine wpSteady_skip (by rfl) ?_; try simp only [Act.put, List.setIfInBounds_toArray, List.set_cons_zero, List.set_cons_succ])
            | (refine wpSteady_calm (v := ?_) (by rfl) ?_ ?_; rotate_left; (focus (intro v hSv; (try simp only [C5] at hSv); go_simp; (try with_reducible rfl); done)); try simp only [Act.put, List.setIfInBounds_toArray, List.set_cons_zero, List.set_cons_succ]))
          refine wpSteady_loud rfl (by rfl) (fun K hK => ?_)
          go_simp
          refine (rget_any (prior) x (P) (wr.drew.alloc zero5) _ (HVQ.out.bel hba) (fun g hg => Nat.lt_of_lt_of_le (HPW.out g hg) hba.size)).mono ?_
          rintro e w5 ⟨u, rfl, hu, hb5⟩
          obtain ⟨k9, n9, s9, oi9, mi9, ci9, ok9, mk9, ck9, rfl⟩ := hu.agg5
          have h6 := And.intro (C5.bel h5.1 hb5) (bcell hb5 h5.2)
          have HU := hid hu
          have HB5 := hid hb5
          have hoa5 := keep_obj hoa hb5
          clear hu hb5 h h5 hoa
          refine hK.out _ _ (h6) ?_
          clear hK K
          try simp only [Act.put, List.setIfInBounds_toArray, List.set_cons_zero, List.set_cons_succ]
          repeat (first
            | (refine wpSteady_skip (by rfl) ?_; try simp only [Act.put, List.setIfInBounds_toArray, List.set_cons_zero, List.set_cons_succ])
            | (refine wpSteady_calm (v := ?_) (by rfl) ?_ ?_; rotate_left; (focus (intro v hSv; (try simp only [C5] at hSv); go_simp; (try with_reducible rfl); done)); try simp only [Act.put, List.setIfInBounds_toArray, List.set_cons_zero, List.set_cons_succ]))
          refine wpSteady_loud rfl (by rfl) (fun K hK => ?_)
          refine wp_store_obj 26 _ _ rfl wr.heap.size 0 [_, _, _, _, _] rfl rfl _ _ hoa5 (by simp) (by kernel_rfl) rfl ?_
          intro w7 hz7 hc7
          have h7 := And.intro (C5.chg h6.1 hc7 (by have := HLT.out; omega)) (chg_cell hc7 (by have := HGL.out; omega) h6.2)
          refine hK.out _ _ h7 ?_
          clear hK K h6
          try simp only [Act.put, List.setIfInBounds_toArray, List.set_cons_zero, List.set_cons_succ]
          repeat (first
            | (refine wpSteady_skip (by rfl) ?_; try simp only [Act.put, List.setIfInBounds_toArray, List.set_cons_zero, List.set_cons_succ])
            | (refine wpSteady_calm (v := ?_) (by rfl) ?_ ?_; rotate_left; (focus (intro v hSv; (try simp only [C5] at hSv); go_simp; (try with_reducible rfl); done)); try simp only [Act.put, List.setIfInBounds_toArray, List.set_cons_zero, List.set_cons_succ]))
          refine wpSteady_nil ?_
          clear h7
          go_wp2_with fail
          go_meet
          exact ⟨_, _, _, _, _, _, _, _, _, _, rfl, rfl, hid (GS.two (fun g hg => HPW.out g hg) HB5.out HU.out hc7 hz7)⟩
      case rest =>
        obtain ⟨X8, k8, n8, s8, oi8, mi8, ci8, ok8, mk8, ck8, rfl, rfl, G1⟩ := hcut
        obtain ⟨w4, rfl⟩ : ∃ w4, w4 = wc := ⟨_, rfl⟩
        clear h HVQ HPW
        obtain ⟨o1, ho1⟩ : ∃ o1, getR prior x = o1 := ⟨_, rfl⟩
        rw [ho1] at G1 ⊢
        have HO1 := hid ho1
        clear ho1
        have I1 := hid (I.out.later G1.out.bel)
        have hb4 := G1.out.bel
        have HB4 := hid (bcell hb4 HB1.out)
        replace HLT := hid (show w.heap.size + 2 < w4.heap.size by have := HLT.out; have := hb4.size; omega)
        replace HGL := hid (show g < w4.heap.size by have := HGL.out; have := hb4.size; omega)
        clear hb4 HB1 I
        have HVO := hid I1.out.vv
        have h := And.intro (C5.bel (C5.of I1.out.obj) (show Below w4.heap.size w4 w4.drew from below_drew (Below.refl _ _))) (show w4.drew.cell? ⟨g, o + j, none⟩ = some (.string x) from HB4.out)
        go_upto_region 5 with (fail)
        go_cut [10, 11] (fun y b wx => ∃ (X : Nat) (k9 n9 : Int) (s9 : ByteArray) (oi9 : Option Addr) (mi9 ci9 : Nat) (ok9 : Option Addr) (mk9 ck9 : Nat), y = .pointer (some ⟨X, 0, none⟩) ∧ b = .bool (getR out x).isSome ∧ Hid (GS (fun g => (P g ∨ w.heap.size + 3 ≤ g) ∧ g < w4.heap.size) w4 wx X (.int .i64 k9, .int .i64 n9, .string s9, .slice oi9 mi9 ci9, .slice ok9 mk9 ck9) (getR out x)))
        case first =>
          refine wp_region_free 9 5 5 (fun v => C5 (w.heap.size + 1) (.int .i64 k) (.int .i64 n) (.string s) (.slice oi mi ci) (.slice ok mk ck) v ∧ v.cell? ⟨g, o + j, none⟩ = some (.string x)) (by kernel_rfl) (by kernel_rfl) h ?_ ?_
          · repeat (first
              | (refine wpSteady_skip (by rfl) ?_; try simp only [Act.put, List.setIfInBounds_toArray, List.set_cons_zero, List.set_cons_succ])
              | (refine wpSteady_calm (v := ?_) (by rfl) ?_ ?_; rotate_left; (focus (intro v hSv; (try simp only [C5] at hSv); go_simp; (try with_reducible rfl); done)); try simp only [Act.put, List.setIfInBounds_toArray, List.set_cons_zero, List.set_cons_succ]))
            refine wpSteady_loud rfl (by rfl) (fun K hK => ?_)
            go_simp
            refine (rget_any (out) x (fun g => (P g ∨ w.heap.size + 3 ≤ g) ∧ g < w4.heap.size) w4.drew _ (HVO.out.bel (below_drew (Below.refl _ _))) (fun g hg => (fun (g : Nat) (hg : (P g ∨ w.heap.size + 3 ≤ g) ∧ g < w4.heap.size) => hg.2) g hg)).mono ?_
            rintro e w5 ⟨u, rfl, hu, hb5⟩
            obtain ⟨k9, n9, s9, oi9, mi9, ci9, ok9, mk9, ck9, rfl⟩ := hu.agg5
            have h5 := And.intro (C5.bel h.1 hb5) (bcell (W := w4.drew) hb5 h.2)
            have HU := hid hu
            have HB5 := hid hb5
            clear hu hb5 h
            refine hK.out _ _ (h5) ?_
            clear hK K
            try simp only [Act.put, List.setIfInBounds_toArray, List.set_cons_zero, List.set_cons_succ]
            repeat (first
              | (refine wpSteady_skip (by rfl) ?_; try simp only [Act.put, List.setIfInBounds_toArray, List.set_cons_zero, List.set_cons_succ])
              | (refine wpSteady_calm (v := ?_) (by rfl) ?_ ?_; rotate_left; (focus (intro v hSv; (try simp only [C5] at hSv); go_simp; (try with_reducible rfl); done)); try simp only [Act.put, List.setIfInBounds_toArray, List.set_cons_zero, List.set_cons_succ]))
            refine wpSteady_loud rfl (by rfl) (fun K hK => ?_)
            go_simp
            have hba : Below w5.heap.size w5 (w5.alloc zero5) := (Below.refl _ _).alloc (Nat.le_refl _) _
            have hoa := heap_alloc_at w5 zero5
            generalize w5.alloc zero5 = w6 at *
            have h6 := And.intro (C5.bel h5.1 hba) (bcell hba h5.2)
            refine hK.out _ _ (h6) ?_
            clear hK K
            try simp only [Act.put, List.setIfInBounds_toArray, List.set_cons_zero, List.set_cons_succ]
            refine wpSteady_loud rfl (by rfl) (fun K hK => ?_)
            refine wp_store_obj 26 _ _ rfl w5.heap.size 0 [_, _, _, _, _] rfl rfl _ _ hoa (by simp) (by kernel_rfl) rfl ?_
            intro w7 hz7 hc7
            have hsz5 : w4.heap.size ≤ w5.heap.size := HB5.out.size
            have h7 := And.intro (C5.chg h6.1 hc7 (by have := HLT.out; omega)) (chg_cell hc7 (by have := HGL.out; omega) h6.2)
            refine hK.out _ _ h7 ?_
            clear hK K h5 h6
            try simp only [Act.put, List.setIfInBounds_toArray, List.set_cons_zero, List.set_cons_succ]
            repeat (first
              | (refine wpSteady_skip (by rfl) ?_; try simp only [Act.put, List.setIfInBounds_toArray, List.set_cons_zero, List.set_cons_succ])
              | (refine wpSteady_calm (v := ?_) (by rfl) ?_ ?_; rotate_left; (focus (intro v hSv; (try simp only [C5] at hSv); go_simp; (try with_reducible rfl); done)); try simp only [Act.put, List.setIfInBounds_toArray, List.set_cons_zero, List.set_cons_succ]))
            refine wpSteady_nil ?_
            clear h7
            go_wp2_with fail
            go_meet
            exact ⟨_, _, _, _, _, _, _, _, _, _, rfl, rfl, hid (GS.one (fun g hg => (fun (g : Nat) (hg : (P g ∨ w.heap.size + 3 ≤ g) ∧ g < w4.heap.size) => hg.2) g hg) (show Below w4.heap.size w4 w5 from ⟨HB5.out.os, HB5.out.tape, HB5.out.output, HB5.out.size, HB5.out.block⟩) HU.out hba hc7 hz7)⟩
          · simp only [mv, List.take_succ_cons, List.take_zero, List.drop_succ_cons, List.drop_zero, List.cons_append, List.nil_append]
            repeat (first
              | (refine wpSteady_skip (by rfl) ?_; try simp only [Act.put, List.setIfInBounds_toArray, List.set_cons_zero, List.set_cons_succ])
              | (refine wpSteady_calm (v := ?_) (by rfl) ?_ ?_; rotate_left; (focus (intro v hSv; (try simp only [C5] at hSv); go_simp; (try with_reducible rfl); done)); try simp only [Act.put, List.setIfInBounds_toArray, List.set_cons_zero, List.set_cons_succ]))
            refine wpSteady_loud rfl (by rfl) (fun K hK => ?_)
            go_simp
            have hba : Below w4.heap.size w4 (w4.drew.alloc zero5) := (below_drew (Below.refl _ _)).alloc (Nat.le_refl _) _
            have hba0 : Below w4.drew.heap.size w4.drew (w4.drew.alloc zero5) := (Below.refl _ _).alloc (Nat.le_refl _) _
            have h5 := And.intro (C5.bel h.1 hba0) (bcell hba0 h.2)
            have hoa := heap_alloc_at w4.drew zero5
            refine hK.out _ _ (h5) ?_
            clear hK K
            try simp only [Act.put, List.setIfInBounds_toArray, List.set_cons_zero, List.set_cons_succ]
            repeat (first
              | (refine wpSteady_skip (by rfl) ?_; try simp only [Act.put, List.setIfInBounds_toArray, List.set_cons_zero, List.set_cons_succ])
              | (refine wpSteady_calm (v := ?_) (by rfl) ?_ ?_; rotate_left; (focus (intro v hSv; (try simp only [C5] at hSv); go_simp; (try with_reducible rfl); done)); try simp only [Act.put, List.setIfInBounds_toArray, List.set_cons_zero, List.set_cons_succ]))
            refine wpSteady_loud rfl (by rfl) (fun K hK => ?_)
            go_simp
            refine (rget_any (out) x (fun g => (P g ∨ w.heap.size + 3 ≤ g) ∧ g < w4.heap.size) (w4.drew.alloc zero5) _ (HVO.out.bel hba) (fun g hg => Nat.lt_of_lt_of_le ((fun (g : Nat) (hg : (P g ∨ w.heap.size + 3 ≤ g) ∧ g < w4.heap.size) => hg.2) g hg) hba.size)).mono ?_
            rintro e w5 ⟨u, rfl, hu, hb5⟩
            obtain ⟨k9, n9, s9, oi9, mi9, ci9, ok9, mk9, ck9, rfl⟩ := hu.agg5
            have h6 := And.intro (C5.bel h5.1 hb5) (bcell hb5 h5.2)
            have HU := hid hu
            have HB5 := hid hb5
            have hoa5 := keep_obj hoa hb5
            clear hu hb5 h h5 hoa
            refine hK.out _ _ (h6) ?_
            clear hK K
            try simp only [Act.put, List.setIfInBounds_toArray, List.set_cons_zero, List.set_cons_succ]
            repeat (first
              | (refine wpSteady_skip (by rfl) ?_; try simp only [Act.put, List.setIfInBounds_toArray, List.set_cons_zero, List.set_cons_succ])
              | (refine wpSteady_calm (v := ?_) (by rfl) ?_ ?_; rotate_left; (focus (intro v hSv; (try simp only [C5] at hSv); go_simp; (try with_reducible rfl); done)); try simp only [Act.put, List.setIfInBounds_toArray, List.set_cons_zero, List.set_cons_succ]))
            refine wpSteady_loud rfl (by rfl) (fun K hK => ?_)
            refine wp_store_obj 26 _ _ rfl w4.heap.size 0 [_, _, _, _, _] rfl rfl _ _ hoa5 (by simp) (by kernel_rfl) rfl ?_
            intro w7 hz7 hc7
            have h7 := And.intro (C5.chg h6.1 hc7 (by have := HLT.out; omega)) (chg_cell hc7 (by have := HGL.out; omega) h6.2)
            refine hK.out _ _ h7 ?_
            clear hK K h6
            try simp only [Act.put, List.setIfInBounds_toArray, List.set_cons_zero, List.set_cons_succ]
            repeat (first
              | (refine wpSteady_skip (by rfl) ?_; try simp only [Act.put, List.setIfInBounds_toArray, List.set_cons_zero, List.set_cons_succ])
              | (refine wpSteady_calm (v := ?_) (by rfl) ?_ ?_; rotate_left; (focus (intro v hSv; (try simp only [C5] at hSv); go_simp; (try with_reducible rfl); done)); try simp only [Act.put, List.setIfInBounds_toArray, List.set_cons_zero, List.set_cons_succ]))
            refine wpSteady_nil ?_
            clear h7
            go_wp2_with fail
            go_meet
            exact ⟨_, _, _, _, _, _, _, _, _, _, rfl, rfl, hid (GS.two (fun g hg => (fun (g : Nat) (hg : (P g ∨ w.heap.size + 3 ≤ g) ∧ g < w4.heap.size) => hg.2) g hg) HB5.out HU.out hc7 hz7)⟩
        case rest =>
          obtain ⟨X10, k10, n10, s10, oi10, mi10, ci10, ok10, mk10, ck10, rfl, rfl, G2⟩ := hcut
          obtain ⟨w6, rfl⟩ : ∃ w6, w6 = wc := ⟨_, rfl⟩
          clear h HVO
          obtain ⟨o2, ho2⟩ : ∃ o2, getR out x = o2 := ⟨_, rfl⟩
          rw [ho2] at G2 ⊢
          have HO2 := hid ho2
          clear ho2
          have I2 := hid (I1.out.later G2.out.bel)
          have hb6 := G2.out.bel
          have HB6 := hid (bcell hb6 HB4.out)
          have HX8 := hid (keep_obj G1.out.obj hb6)
          have HV1 := hid (G1.out.vv.bel hb6)
          have HP6 := hid (fun g (hg : P g) => show g < w6.heap.size by have := HPL.out g hg; have := HLT.out; have := hb6.size; omega)
          have HL6 := hid (show w4.heap.size ≤ w6.heap.size from hb6.size)
          clear hb6 HB4 I1 G1 G2
          cases o1 with
          | none =>
            have HE2 : Hid (ignoreR prior cnfg l = (l.drop (j + 1)).foldl (ignR prior) out) := hid (by have h := HE.out; rw [List.drop_eq_getElem_cons hlt, List.foldl_cons, HN.out] at h; rw [show ignR prior out x = out by rw [ignR, HO1.out]] at h; exact h)
            go_wp2_with fail
            go_roundw
            case rel => exact ⟨j + 1, out, _, _, _, _, _, _, _, _, _, by omega, by go_num, I2, HE2, hid ⟨by have := HSZ.out.1; rw [Nat.succ_mul]; omega, by have := HSZ.out.2; rw [Nat.succ_mul]; omega⟩⟩
            case measure => simp [intOf]; omega
          | some v1 =>
            cases o2 with
            | none =>
              have HE2 : Hid (ignoreR prior cnfg l = (l.drop (j + 1)).foldl (ignR prior) out) := hid (by have h := HE.out; rw [List.drop_eq_getElem_cons hlt, List.foldl_cons, HN.out] at h; rw [show ignR prior out x = out by rw [ignR, HO1.out]; simp only [HO2.out]; rfl] at h; exact h)
              go_wp2_with fail
              go_roundw
              case rel => exact ⟨j + 1, out, _, _, _, _, _, _, _, _, _, by omega, by go_num, I2, HE2, hid ⟨by have := HSZ.out.1; rw [Nat.succ_mul]; omega, by have := HSZ.out.2; rw [Nat.succ_mul]; omega⟩⟩
              case measure => simp [intOf]; omega
            | some v2 =>
              have HSV1 := hid (getR_size HO1.out)
              have HPS := hid (putR_size out x v1)
              have HE2 : Hid (ignoreR prior cnfg l = (l.drop (j + 1)).foldl (ignR prior) (putR out x v1)) := hid (by have h := HE.out; rw [List.drop_eq_getElem_cons hlt, List.foldl_cons, HN.out] at h; rw [show ignR prior out x = putR out x v1 by rw [ignR, HO1.out]; simp only [HO2.out]; rfl] at h; exact h)
              have hdr : Below w6.heap.size w6 w6.drew := below_drew (Below.refl _ _)
              have HPU := hid (rput_any out v1 x (fun g => (P g ∨ w.heap.size + 3 ≤ g) ∧ g < w6.heap.size) w6.drew _ _ (I2.out.vv.bel hdr) ((HV1.out.bel hdr).mono fun g hg => ⟨.inl hg, HP6.out g hg⟩) (fun g hg => hg.2) HXZ.out (by have := HSZ.out.1; omega) (by have := HSZ.out.2; omega))
              have h := And.intro (C5.bel (C5.of I2.out.obj) hdr) (And.intro (show w6.drew.cell? ⟨g, o + j, none⟩ = some (.string x) from HB6.out) (C5.bel (C5.of HX8.out) hdr))
              go_upto_region 7 with (fail)
              refine wp_region_steady_tail 7 (fun v => C5 (w.heap.size + 1) (.int .i64 k) (.int .i64 n) (.string s) (.slice oi mi ci) (.slice ok mk ck) v ∧ v.cell? ⟨g, o + j, none⟩ = some (.string x) ∧ C5 X8 (.int .i64 k8) (.int .i64 n8) (.string s8) (.slice oi8 mi8 ci8) (.slice ok8 mk8 ck8) v) (by kernel_rfl) (by kernel_rfl) (h) ?_
              simp only [List.take_succ_cons, List.take_zero, List.drop_succ_cons, List.drop_zero]
              repeat (first
                | (refine wpSteady_skip (by rfl) ?_; try simp only [Act.put, List.setIfInBounds_toArray, List.set_cons_zero, List.set_cons_succ])
                | (refine wpSteady_calm (v := ?_) (by rfl) ?_ ?_; rotate_left; (focus (intro v hSv; (try simp only [C5] at hSv); go_simp; (try with_reducible rfl); done)); try simp only [Act.put, List.setIfInBounds_toArray, List.set_cons_zero, List.set_cons_succ]))
              refine wpSteady_loud rfl (by rfl) (fun K hK => ?_)
              go_simp
              refine HPU.out.mono ?_
              rintro e w9 ⟨u, rfl, hu, hb9⟩
              obtain ⟨k9, n9, s9, oi9, mi9, ci9, ok9, mk9, ck9, rfl⟩ := hu.agg5
              have h2 := And.intro (C5.bel h.1 hb9) (And.intro (bcell (W := w6.drew) hb9 h.2.1) (C5.bel h.2.2 hb9))
              have HU := hid hu
              have HB9 := hid (show Below w6.heap.size w6 w9 from ⟨hb9.os, hb9.tape, hb9.output, hb9.size, hb9.block⟩)
              have hob := keep_obj I2.out.obj HB9.out
              clear hu hb9 HPU h hdr
              refine hK.out _ _ (h2) ?_
              clear hK K
              try simp only [Act.put, List.setIfInBounds_toArray, List.set_cons_zero, List.set_cons_succ]
              refine wpSteady_nil ?_
              clear h2
              refine wpList_store_obj rfl 26 _ _ rfl (w.heap.size + 1) 0 [_, _, _, _, _] rfl rfl _ _ hob (by simp) (by kernel_rfl) rfl ?_
              intro w10 hz10 hc10
              have I10 := hid (I2.out.set (r' := (.int .i64 k9, .int .i64 n9, .string s9, .slice oi9 mi9 ci9, .slice ok9 mk9 ck9)) HB9.out HPL.out HU.out hc10 hz10)
              clear hob hz10 hc10 HU
              go_wp2_with fail
              go_roundw
              case rel => exact ⟨j + 1, _, _, _, _, _, _, _, _, _, _, by omega, by go_num, I10, HE2, hid ⟨by have := HSZ.out.1; have := HPS.out.1; have := HSV1.out.1; omega, by have := HSZ.out.2; have := HPS.out.2; have := HSV1.out.2; omega⟩⟩
              case measure => simp [intOf]; omega
    · have HE2 := hid (HE.out.trans (by rw [List.drop_of_length_le (by omega), List.foldl_nil]))
      obtain ⟨q0, q1, q2, q3, q4⟩ := C5.of I.out.obj
      have HZr := hid I.out.z
      go_wp2_with (refine wpList_store_obj rfl 26 _ _ rfl (w.heap.size + 2) 0 [_, _, _, _, _] rfl rfl _ _ HZr.out (by simp) (by kernel_rfl) rfl ?_; intro ws hzs hcs)
      try simp only [Exit.inBlock, Exit.then]
      refine bodyPost_ret (results_cell_row rfl _ ws (w.heap.size + 2) 26 _ (0, 0) _ rfl hzs Try.underlying26 rfl (by kernel_rfl)) rfl ?_
      rw [HE2.out]
      exact ⟨_, rfl, I.out.vv.keep (KeepsP.chg hcs fun g hg e => by rcases hg.1 with h | h; (have := HPL.out g h; omega); omega) (fun g hg => hg.1.imp id fun h => by omega), I.out.bel.trans (chg_bel hcs (fun k hk => by omega) I.out.bel.size)⟩
end Go.Proofs.Ytibiiafcnaijeaa
