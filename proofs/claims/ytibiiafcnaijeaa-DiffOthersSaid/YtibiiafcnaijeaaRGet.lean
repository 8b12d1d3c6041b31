/- Get of the reference of values. -/
import Derived.Test.YtibiiafcnaijeaaRec
namespace Go.Proofs.Ytibiiafcnaijeaa
open Go Go.RowKit Go.Proofs.Ytibiiafcnaijeaa.Steady
set_option linter.unusedVariables false
set_option linter.unusedSimpArgs false

theorem results_ct {Pr : Program} {fn : Func} {p u : Tmp} {ty : TypeId} (h : fn.results = #[.cell p ty, .tmp u]) (tmps : Array Value) (w : World) (g : Nat) (t : TypeId) (cs : Array Value) (fr : Nat × Nat) (d : TypeDesc)
    (hp : tmps.getD p undef = .pointer (some ⟨g, 0, none⟩)) (hg : w.heap[g]? = some (.cells cs t fr)) (hu : Pr.underlying ty = some d) (hd : (match d with | .struct _ | .array _ _ => true | _ => false) = true) (hi : (Pr.info? ty).map (·.size) = some cs.size) :
    (results fn tmps).run Pr w = .ok (.tuple #[.agg cs, tmps.getD u undef]) w := by
  rw [results_cell_tmp h, hp]
  simp [asAddr, run_loadVar_row w g t ty cs fr d hg hu hd hi, Result.andThen]
theorem getRL_hit {ks : List ByteArray} {is : List Vl} {j : Nat} (h : j < ks.length) (h2 : j < is.length) : getRL (ks.drop j) (is.drop j) ks[j] = some is[j] := by
  rw [List.drop_eq_getElem_cons h, List.drop_eq_getElem_cons h2, getRL, if_pos rfl]
theorem getRL_miss {ks : List ByteArray} {is : List Vl} {x : ByteArray} {j : Nat} (h : j < ks.length) (h2 : j < is.length) (hn : ks[j] ≠ x) : getRL (ks.drop j) (is.drop j) x = getRL (ks.drop (j + 1)) (is.drop (j + 1)) x := by
  rw [List.drop_eq_getElem_cons h, List.drop_eq_getElem_cons h2, getRL, if_neg hn]
theorem getRL_end {ks : List ByteArray} {is : List Vl} {x : ByteArray} {j : Nat} (h : ks.length ≤ j ∨ is.length ≤ j) : getRL (ks.drop j) (is.drop j) x = none := by
  rcases h with h | h
  · rw [List.drop_of_length_le h, getRL]
  · rw [List.drop_of_length_le h]
    cases ks.drop j <;> rw [getRL]
def RGetPost (P : Nat → Prop) (o : Option Vl) (w : World) (e : Ending) (w' : World) : Prop := ∃ u, e = .returned (.tuple #[u, .bool o.isSome]) ∧ VV P w' u (o.getD nullV) ∧ Below w.heap.size w w'
set_option maxRecDepth 100000 in
set_option maxHeartbeats 4000000 in
theorem rget_any (v : Vl) (x : ByteArray) (P : Nat → Prop) (w : World) (u : Value) (hv : VV P w u v) (hP : ∀ g, P g → g < w.heap.size) : Calls Try.prog 28 #[u, .string x] w (RGetPost P (getR v x) w) := by
  obtain ⟨k, n, s, is, ks⟩ := v
  obtain ⟨vi, vk, rfl, hI, hK, hss⟩ := hv.out
  obtain ⟨oi, ci, rfl⟩ := hI.len
  obtain ⟨ok, ck, rfl⟩ := hK.len
  have hli := hI.le
  have hlk := hK.le
  generalize hA : w.alloc (.cells #[.int .i64 k, .int .i64 n, .string s, .slice oi is.length ci, .slice ok ks.length ck] 26) = wa
  have hao : wa.heap[w.heap.size]? = some (.cells #[.int .i64 k, .int .i64 n, .string s, .slice oi is.length ci, .slice ok ks.length ck] 26) := by rw [← hA]; exact heap_alloc_at w _
  have has : wa.heap.size = w.heap.size + 1 := by rw [← hA]; simp
  have hab : Below w.heap.size w wa := by rw [← hA]; exact (Below.refl _ _).alloc (Nat.le_refl _) _
  generalize hB : wa.alloc zero5 = wb
  have hbo : wb.heap[w.heap.size + 1]? = some zero5 := by rw [← hB, ← has]; exact heap_alloc_at wa _
  have hbs : wb.heap.size = w.heap.size + 2 := by rw [← hB]; simp [has]
  have hbb : Below wa.heap.size wa wb := by rw [← hB]; exact (Below.refl _ _).alloc (Nat.le_refl _) _
  have HA0 := hid hA
  have HB0 := hid hB
  have HB := hid (hab.trans (hbb.mono hab.size))
  have HS := hid hbs
  have HZ := hid hbo
  have HXA := hid (keep_obj hao hbb)
  have HI := hid (hI.bel HB.out)
  have HK := hid (hK.bel HB.out)
  have HPL := hid hP
  clear hA hB hao has hab hbo hbs hbb hI hK hv hP
  obtain ⟨a0, a1, a2, a3, a4⟩ := C5.of HXA.out
  by_cases hk : k = 5
  case neg =>
    have HG : Hid (getR (.mk k n s is ks) x = none) := hid (by rw [getR]; exact if_neg hk)
    have d1 : decide (k = 5) = false := decide_eq_false hk
    have d2 : (k == 5) = false := beq_eq_false_iff_ne.2 hk
    have d3 : (k != 5) = true := by rw [bne, d2]; rfl
    clear hk
    go_enter Try.func28, Try.ntmps28
    go_upto_region 1 with (fail)
    rw [HA0.out, HB0.out]
    go_wp2_with (refine wpList_store_obj rfl 26 _ _ rfl (w.heap.size + 1) 0 [_, _, _, _, _] rfl rfl _ _ HZ.out (by simp) (by kernel_rfl) rfl ?_; intro ws hzs hcs)
    try simp only [Exit.inBlock, Exit.then]
    refine bodyPost_ret (results_ct rfl _ ws (w.heap.size + 1) 26 _ (0, 0) _ rfl hzs Try.underlying26 rfl (by kernel_rfl)) rfl ?_
    rw [HG.out]
    exact ⟨_, rfl, VV.zero _ _, HB.out.trans (chg_bel hcs (fun k hk => by omega) HB.out.size)⟩
  subst hk
  have HG : Hid (getR (.mk 5 n s is ks) x = getRL ks is x) := hid (by rw [getR]; exact if_pos rfl)
  go_enter Try.func28, Try.ntmps28
  go_upto_region 1 with (fail)
  rw [HA0.out, HB0.out]
  go_wp2_with fail
  go_loopw [6] (fun i wr => ∃ (j : Nat), j ≤ ks.length ∧ i = .int .i64 j ∧ wb = wr ∧ Hid (getRL ks is x = getRL (ks.drop j) (is.drop j) x)) (fun i _ => ks.length - (intOf i).toNat)
  case atStart => exact ⟨0, Nat.zero_le _, rfl, rfl, hid rfl⟩
  case round =>
    obtain ⟨j, hj, rfl, rfl, HR⟩ := hrel
    by_cases hlt : j < ks.length
    · by_cases hlt2 : j < is.length
      · obtain ⟨g, o, c, e1, b1⟩ := HK.out.at hlt
        cases e1
        have hj0 : (0 : Int) ≤ (j : Int) := by omega
        have hj1 : (j : Int) < (ks.length : Int) := by omega
        have hj2 : (j : Int) < (is.length : Int) := by omega
        have HM := hid (fun hn => getRL_miss (x := x) hlt hlt2 hn)
        have HH := hid (getRL_hit hlt hlt2)
        obtain ⟨y, hy⟩ : ∃ y, ks[j] = y := ⟨_, rfl⟩
        rw [hy] at HM HH b1
        clear hy
        by_cases hxy : y = x
        · subst hxy
          obtain ⟨g2, o2, c2, k1, n1, s1, oi1, mi1, ci1, ok1, mk1, ck1, e2, q0, q1, q2, q3, q4, hT, -⟩ := HI.out.at hlt2
          cases e2
          have HE := hid (HG.out.trans (HR.out.trans HH.out))
          have HT := hid hT
          clear hT HG HM HH HR
          go_wp2_with (refine wpList_store_obj rfl 26 _ _ rfl (w.heap.size + 1) 0 [_, _, _, _, _] rfl rfl _ _ HZ.out (by simp) (by kernel_rfl) rfl ?_; intro ws hzs hcs)
          try simp only [Exit.inBlock, Exit.then]
          refine bodyPost_ret (results_ct rfl _ ws (w.heap.size + 1) 26 _ (0, 0) _ rfl hzs Try.underlying26 rfl (by kernel_rfl)) rfl ?_
          rw [HE.out]
          exact ⟨_, rfl, HT.out.keep (KeepsP.chg hcs fun g hg e => by have := HPL.out g hg; omega) (fun g hg => hg), HB.out.trans (chg_bel hcs (fun k hk => by omega) HB.out.size)⟩
        · obtain ⟨f1, f2⟩ := str_ne hxy
          have f3 := str_ne2 hxy
          have HE := hid (HR.out.trans (HM.out hxy))
          clear hxy HM HH
          go_wp2_with fail
          go_roundw
          case rel => exact ⟨j + 1, by omega, by go_num, trivial, HE⟩
          case measure => simp [intOf]; omega
      · have HE := hid (HG.out.trans (HR.out.trans (getRL_end (.inr (by omega)))))
        clear HG HR
        go_wp2_with (refine wpList_store_obj rfl 26 _ _ rfl (w.heap.size + 1) 0 [_, _, _, _, _] rfl rfl _ _ HZ.out (by simp) (by kernel_rfl) rfl ?_; intro ws hzs hcs)
        try simp only [Exit.inBlock, Exit.then]
        refine bodyPost_ret (results_ct rfl _ ws (w.heap.size + 1) 26 _ (0, 0) _ rfl hzs Try.underlying26 rfl (by kernel_rfl)) rfl ?_
        rw [HE.out]
        exact ⟨_, rfl, VV.zero _ _, HB.out.trans (chg_bel hcs (fun k hk => by omega) HB.out.size)⟩
    · have HE := hid (HG.out.trans (HR.out.trans (getRL_end (.inl (by omega)))))
      clear HG HR
      go_wp2_with (refine wpList_store_obj rfl 26 _ _ rfl (w.heap.size + 1) 0 [_, _, _, _, _] rfl rfl _ _ HZ.out (by simp) (by kernel_rfl) rfl ?_; intro ws hzs hcs)
      try simp only [Exit.inBlock, Exit.then]
      refine bodyPost_ret (results_ct rfl _ ws (w.heap.size + 1) 26 _ (0, 0) _ rfl hzs Try.underlying26 rfl (by kernel_rfl)) rfl ?_
      rw [HE.out]
      exact ⟨_, rfl, VV.zero _ _, HB.out.trans (chg_bel hcs (fun k hk => by omega) HB.out.size)⟩
end Go.Proofs.Ytibiiafcnaijeaa
