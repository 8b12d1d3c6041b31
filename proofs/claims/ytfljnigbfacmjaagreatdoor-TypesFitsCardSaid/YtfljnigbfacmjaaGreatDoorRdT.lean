/- A type: the reader's read. -/
import Derived.Test.YtfljnigbfacmjaaGreatDoorObj
namespace Go.Proofs.YtfljnigbfacmjaaGreatDoor
open Go Go.RowKit Go.Proofs.YtfljnigbfacmjaaGreatDoor.Steady
set_option linter.unusedVariables false

section
variable {s : ByteArray} {f p j k p2 p3 p4 p5 : Nat} {e : Int × Nat} {t : Ty}
theorem rp_1 (h : readyP s p = .error e) : readP s f p = .error e := by rw [readP.eq_def]; simp only [h]
theorem rp_2 (h : readyP s p = .ok j) (h2 : kindO (s.extract j (wordE s j)) = none) : readP s f p = .error (2, j) := by rw [readP.eq_def]; simp only [h, h2]
theorem rp_3 (h : readyP s p = .ok j) (h2 : kindO (s.extract j (wordE s j)) = some k) : readP s 0 p = .error (4, j) := by rw [readP.eq_def]; simp only [h, h2]
theorem rp_4 (h : readyP s p = .ok j) (h2 : kindO (s.extract j (wordE s j)) = some k) (hk : k < 4) : readP s (f + 1) p = .ok (.mk k [] [], wordE s j) := by rw [readP.eq_def]; simp only [h, h2]; rw [if_neg (by omega), if_neg (by omega)]
theorem rl_1 (h : readyP s p = .ok j) (h2 : kindO (s.extract j (wordE s j)) = some k) (hk : k = 4 ∨ k = 5) (h3 : signP s (wordE s j) 40 = .error e) : readP s (f + 1) p = .error e := by
  rw [readP.eq_def]; simp only [h, h2]; rw [if_pos hk]; simp only [h3]
theorem rl_2 (h : readyP s p = .ok j) (h2 : kindO (s.extract j (wordE s j)) = some k) (hk : k = 4 ∨ k = 5) (h3 : signP s (wordE s j) 40 = .ok p2) (h4 : readP s f p2 = .error e) : readP s (f + 1) p = .error e := by
  rw [readP.eq_def]; simp only [h, h2]; rw [if_pos hk]; simp only [h3, h4]
theorem rl_3 (h : readyP s p = .ok j) (h2 : kindO (s.extract j (wordE s j)) = some k) (hk : k = 4 ∨ k = 5) (h3 : signP s (wordE s j) 40 = .ok p2) (h4 : readP s f p2 = .ok (t, p3)) (h5 : signP s p3 41 = .error e) : readP s (f + 1) p = .error e := by
  rw [readP.eq_def]; simp only [h, h2]; rw [if_pos hk]; simp only [h3, h4, h5]
theorem rl_4 (h : readyP s p = .ok j) (h2 : kindO (s.extract j (wordE s j)) = some k) (hk : k = 4 ∨ k = 5) (h3 : signP s (wordE s j) 40 = .ok p2) (h4 : readP s f p2 = .ok (t, p3)) (h5 : signP s p3 41 = .ok p4) : readP s (f + 1) p = .ok (.mk k [t] [], p4) := by
  rw [readP.eq_def]; simp only [h, h2]; rw [if_pos hk]; simp only [h3, h4, h5]
theorem ro_1 (h : readyP s p = .ok j) (h2 : kindO (s.extract j (wordE s j)) = some 6) (h3 : signP s (wordE s j) 40 = .error e) : readP s (f + 1) p = .error e := by
  rw [readP.eq_def]; simp only [h, h2]; rw [if_neg (by decide), if_pos trivial]; simp only [h3]
theorem ro_2 (h : readyP s p = .ok j) (h2 : kindO (s.extract j (wordE s j)) = some 6) (h3 : signP s (wordE s j) 40 = .ok p2) (h4 : signP s p2 123 = .error e) : readP s (f + 1) p = .error e := by
  rw [readP.eq_def]; simp only [h, h2]; rw [if_neg (by decide), if_pos trivial]; simp only [h3, h4]
theorem ro_3 (h : readyP s p = .ok j) (h2 : kindO (s.extract j (wordE s j)) = some 6) (h3 : signP s (wordE s j) 40 = .ok p2) (h4 : signP s p2 123 = .ok p3) (h5 : objP s (readP s f) p3 = .error e) : readP s (f + 1) p = .error e := by
  rw [readP.eq_def]; simp only [h, h2]; rw [if_neg (by decide), if_pos trivial]; simp only [h3, h4, h5]
theorem ro_4 (h : readyP s p = .ok j) (h2 : kindO (s.extract j (wordE s j)) = some 6) (h3 : signP s (wordE s j) 40 = .ok p2) (h4 : signP s p2 123 = .ok p3) (h5 : objP s (readP s f) p3 = .ok (t, p4)) (h6 : signP s p4 41 = .error e) : readP s (f + 1) p = .error e := by
  rw [readP.eq_def]; simp only [h, h2]; rw [if_neg (by decide), if_pos trivial]; simp only [h3, h4, h5, h6]
theorem ro_5 (h : readyP s p = .ok j) (h2 : kindO (s.extract j (wordE s j)) = some 6) (h3 : signP s (wordE s j) 40 = .ok p2) (h4 : signP s p2 123 = .ok p3) (h5 : objP s (readP s f) p3 = .ok (t, p4)) (h6 : signP s p4 41 = .ok p5) : readP s (f + 1) p = .ok (t, p5) := by
  rw [readP.eq_def]; simp only [h, h2]; rw [if_neg (by decide), if_pos trivial]; simp only [h3, h4, h5, h6]
end

/-- While a type is read: the reader, and the result's cells. -/
structure ZI (X : Nat) (w wr : World) (s : ByteArray) (p k q : Int) (nm : ByteArray) : Prop where
  hX : X < w.heap.size
  chg : OnlyX X w wr
  z : wr.heap[w.heap.size]? = some (.cells #[.int .i64 0, .slice none 0 0, .slice none 0 0] 30)
  rd : RD wr X s p k q nm
section
variable {X : Nat} {w wr w' : World} {s nm nm' : ByteArray} {p p' k k' q q' : Int}
theorem ZI.zlt (h : ZI X w wr s p k q nm) : w.heap.size < wr.heap.size := (Array.getElem?_eq_some_iff.1 h.z).1
theorem ZI.only (h : ZI X w wr s p k q nm) (hc : OnlyX X wr w') (hr : RD w' X s p' k' q' nm') : ZI X w w' s p' k' q' nm' := by
  have hX := h.hX
  exact ⟨hX, h.chg.trans hc, (hc.block _ h.zlt (by omega)).trans h.z, hr⟩
theorem ZI.later (h : ZI X w wr s p k q nm) (hb : Below wr.heap.size wr w') : ZI X w w' s p k q nm := h.only (Chg.below hb) (h.rd.bel hb)
theorem ZI.out {u : Value} {t : Ty} {x y z : Value} (h : ZI X w wr s p k q nm) (hu : TV (fun g => w.heap.size + 1 ≤ g) wr u t) :
    OnlyX X w (((wr.setCell ⟨w.heap.size, 0, none⟩ x).setCell ⟨w.heap.size, 1, none⟩ y).setCell ⟨w.heap.size, 2, none⟩ z) ∧ TV (fun g => w.heap.size ≤ g) (((wr.setCell ⟨w.heap.size, 0, none⟩ x).setCell ⟨w.heap.size, 1, none⟩ y).setCell ⟨w.heap.size, 2, none⟩ z) u t ∧
    RD (((wr.setCell ⟨w.heap.size, 0, none⟩ x).setCell ⟨w.heap.size, 1, none⟩ y).setCell ⟨w.heap.size, 2, none⟩ z) X s p k q nm := by
  have hX := h.hX
  have hc := chg_store3 wr w.heap.size x y z
  exact ⟨onlyX_more h.chg hc fun i hi => .inr (by omega), store3_tv hu (by omega) (fun g hg => by omega) x y z, (hc.block _ h.rd.lt (by omega)).trans h.rd⟩
end
set_option maxRecDepth 100000 in
set_option maxHeartbeats 4000000 in
theorem read_step (s : ByteArray) (f : Nat) (hs : s.size ≤ 65536) (hf : f ≤ 32) (HRD : ∀ g, g < f → ReadOkAt s g) : ReadOkAt s f := by
  intro w X p k q nm hp hrd
  have hXw := hrd.lt
  generalize hA : w.alloc (.cells #[.int .i64 0, .slice none 0 0, .slice none 0 0] 30) = wa
  have hzo : wa.heap[w.heap.size]? = some (.cells #[.int .i64 0, .slice none 0 0, .slice none 0 0] 30) := by rw [← hA]; exact heap_alloc_at w _
  have hab : Below w.heap.size w wa := by rw [← hA]; exact (Below.refl _ _).alloc (Nat.le_refl _) _
  have HZ := hid (show ZI X w wa s p k q nm from ⟨hXw, Chg.below hab, hzo, hrd.bel hab⟩)
  have HRDY := hid (ready_p wa X s nm p k q hp (by omega) HZ.out.rd)
  have HA := hid hA
  obtain ⟨L, hL⟩ : ∃ L : Int, (33 - (f : Int)) = L := ⟨_, rfl⟩
  rw [hL]
  have hL1 : 1 ≤ L := by omega
  have hL2 : L ≤ 33 := by omega
  have HL := hid hL
  have HR := hid HRD
  clear hA hab hzo hrd hL HRD
  go_enter Tryz.func44, Tryz.ntmps44
  go_wp2_with fail
  rw [HA.out]
  refine HRDY.out.mono ?_
  rintro e w2 ⟨x2', (⟨j, h1, rfl, hr2⟩ | ⟨ek, at', h1, rfl, p', hr2⟩)⟩
  rotate_left
  · have HE := hid (rp_1 (f := f) h1)
    have HZ2 := hid (HZ.out.only x2' hr2)
    clear h1 x2' hr2
    have f0 := (cells_in HZ2.out.z 0).trans rfl
    have f1 := (cells_in HZ2.out.z 1).trans rfl
    have f2 := (cells_in HZ2.out.z 2).trans rfl
    have fz := frozen_in HZ2.out.z
    go_wp2_with fail
    try simp only [Exit.inBlock, Exit.then]
    refine bodyPost_ret (v := .tuple #[.agg #[.int .i64 0, .slice none 0 0, .slice none 0 0], .bool false]) (by simp [results, Tryz.results44, go_sem, f0, f1, f2]) rfl ?_
    have OUT := hid (HZ2.out.out (t := .mk 0 [] []) (x := .int .i64 0) (y := .slice none 0 0) (z := .slice none 0 0) (TV.any0 _ _))
    exact ⟨OUT.out.1, _, _, OUT.out.2.1, .inr ⟨_, _, HE.out, rfl, _, OUT.out.2.2⟩⟩
  obtain ⟨m1, m2, -⟩ := ready_ok h1 hp
  have HR1 := hid h1
  have HZ2 := hid (HZ.out.only x2' hr2)
  have HWD := hid (rword_any w2 X s nm j k q (by omega) (by omega) hr2)
  obtain ⟨we1, we2⟩ := wordE_le (s := s) (p := j) (by omega)
  have hxs : (s.extract j (wordE s j)).size = wordE s j - j := by rw [ByteArray.size_extract]; omega
  clear h1 x2' hr2 HRDY HZ HA
  go_wp2_with fail
  refine HWD.out.mono ?_
  rintro e w3 ⟨rfl, hb3⟩
  have HZ3 := hid (HZ2.out.later hb3)
  clear hb3 HZ2 HWD
  obtain ⟨x, hx⟩ : ∃ x, s.extract j (wordE s j) = x := ⟨_, rfl⟩
  rw [hx] at hxs ⊢
  have HX := hid hx
  clear hx
  obtain ⟨we, hwe⟩ : ∃ we, wordE s j = we := ⟨_, rfl⟩
  rw [hwe] at hxs we1 we2
  have HWE := hid hwe
  clear hwe
  have HK := hid (kind_any x w3)
  go_wp2_with fail
  refine HK.out.mono ?_
  rintro e w4 ⟨rfl, rfl⟩
  clear HK
  have c1 := HZ3.out.rd.c1
  cases hk : kindO x with
  | none =>
    have HE := hid (rp_2 (f := f) HR1.out (by rw [HX.out]; exact hk))
    have HF := hid (fail_any w3 X s nm j k q 2 j HZ3.out.rd)
    clear hk
    go_wp2_with fail
    refine HF.out.mono ?_
    rintro e w4 ⟨rfl, r2, y2⟩
    have HZ4 := hid (HZ3.out.only y2 r2)
    clear r2 y2 c1
    have f0 := (cells_in HZ4.out.z 0).trans rfl
    have f1 := (cells_in HZ4.out.z 1).trans rfl
    have f2 := (cells_in HZ4.out.z 2).trans rfl
    have fz := frozen_in HZ4.out.z
    go_wp2_with fail
    try simp only [Exit.inBlock, Exit.then]
    refine bodyPost_ret (v := .tuple #[.agg #[.int .i64 0, .slice none 0 0, .slice none 0 0], .bool false]) (by simp [results, Tryz.results44, go_sem, f0, f1, f2]) rfl ?_
    have OUT := hid (HZ4.out.out (t := .mk 0 [] []) (x := .int .i64 0) (y := .slice none 0 0) (z := .slice none 0 0) (TV.any0 _ _))
    exact ⟨OUT.out.1, _, _, OUT.out.2.1, .inr ⟨_, _, HE.out, rfl, _, OUT.out.2.2⟩⟩
  | some kk =>
    obtain ⟨kk6, -⟩ := kindO_some hk
    have HKK := hid (show kindO (s.extract j (wordE s j)) = some kk by rw [HX.out]; exact hk)
    clear hk
    have hgd : (some kk).getD 0 = kk := rfl
    have hsm : (some kk).isSome = true := rfl
    rw [hgd, hsm]
    clear hgd hsm
    by_cases hf0 : f = 0
    · subst hf0
      have HE := hid (rp_3 HR1.out HKK.out)
      have HF := hid (fail_any w3 X s nm j k q 4 j HZ3.out.rd)
      have hl := HL.out
      have g1 : decide (L > 32) = true := decide_eq_true (by omega)
      clear hl
      go_wp2_with fail
      refine HF.out.mono ?_
      rintro e w4 ⟨rfl, r2, y2⟩
      have HZ4 := hid (HZ3.out.only y2 r2)
      clear r2 y2 c1
      have f0 := (cells_in HZ4.out.z 0).trans rfl
      have f1 := (cells_in HZ4.out.z 1).trans rfl
      have f2 := (cells_in HZ4.out.z 2).trans rfl
      have fz := frozen_in HZ4.out.z
      go_wp2_with fail
      try simp only [Exit.inBlock, Exit.then]
      refine bodyPost_ret (v := .tuple #[.agg #[.int .i64 0, .slice none 0 0, .slice none 0 0], .bool false]) (by simp [results, Tryz.results44, go_sem, f0, f1, f2]) rfl ?_
      have OUT := hid (HZ4.out.out (t := .mk 0 [] []) (x := .int .i64 0) (y := .slice none 0 0) (z := .slice none 0 0) (TV.any0 _ _))
      exact ⟨OUT.out.1, _, _, OUT.out.2.1, .inr ⟨_, _, HE.out, rfl, _, OUT.out.2.2⟩⟩
    obtain ⟨f, rfl⟩ : ∃ f', f = f' + 1 := ⟨f - 1, by omega⟩
    have HRR := hid (HR.out f (Nat.lt_succ_self _))
    have HOK := hid (readP_ok s f (33 - f) (by omega))
    have hl := HL.out
    have hl3 : L ≤ 32 := by omega
    have hl4 : L + 1 = 33 - (f : Int) := by omega
    have hl5 : L = 32 - (f : Int) := by omega
    have HL4 := hid hl4
    have HL5 := hid hl5
    have g1 : decide (L > 32) = false := decide_eq_false (by omega)
    have fx := HZ3.out.rd.fr 1
    have hadd : (j : Int) + (x.size : Int) = (we : Int) := by omega
    have HAD := hid hadd
    have hb1 : (j : Int) + (x.size : Int) ≤ 9223372036854775807 := by omega
    clear hl hl4 hl5 hadd hxs
    go_upto_region 10 with (fail)
    have HZ5 := hid (HZ3.out.only (Chg.setCell (B := fun k => k = X) w3 X 1 (.int .i64 (j + x.size)) rfl) (HZ3.out.rd.at ((j : Int) + x.size)))
    generalize w3.setCell ⟨X, 1, none⟩ (.int .i64 (j + x.size)) = w5 at *
    rw [HAD.out] at HZ5
    clear c1 fx HZ3
    have HSG := hid (sign_p w5 X s nm we 40 k q we2 (by omega) (by omega) HZ5.out.rd)
    rw [← HWE.out] at HSG
    by_cases hk45 : kk = 4 ∨ kk = 5
    · rcases hk45 with rfl | rfl
      · go_wp2_with fail
        refine HSG.out.mono ?_
        rintro e w6 ⟨y2, (⟨p2, a1, rfl, r2⟩ | ⟨ek, at', a1, rfl, p', r2⟩)⟩
        rotate_left
        · have HE := hid (rl_1 (f := f) HR1.out HKK.out (Or.inl rfl) a1)
          have HZ6 := hid (HZ5.out.only y2 r2)
          clear a1 y2 r2
          have f0 := (cells_in HZ6.out.z 0).trans rfl
          have f1 := (cells_in HZ6.out.z 1).trans rfl
          have f2 := (cells_in HZ6.out.z 2).trans rfl
          have fz := frozen_in HZ6.out.z
          go_wp2_with fail
          try simp only [Exit.inBlock, Exit.then]
          refine bodyPost_ret (v := .tuple #[.agg #[.int .i64 0, .slice none 0 0, .slice none 0 0], .bool false]) (by simp [results, Tryz.results44, go_sem, f0, f1, f2]) rfl ?_
          have OUT := hid (HZ6.out.out (t := .mk 0 [] []) (x := .int .i64 0) (y := .slice none 0 0) (z := .slice none 0 0) (TV.any0 _ _))
          exact ⟨OUT.out.1, _, _, OUT.out.2.1, .inr ⟨_, _, HE.out, rfl, _, OUT.out.2.2⟩⟩
        obtain ⟨c1, c2⟩ := sign_ok a1 (by rw [HWE.out]; exact we2)
        have A2 := hid a1
        have HZ6 := hid (HZ5.out.only y2 r2)
        have HN3 := hid (HRR.out w6 X p2 k q nm c2 r2)
        clear a1 y2 r2 HZ5 HSG c1
        go_wp2_with fail
        rw [HL4.out]
        refine HN3.out.mono ?_
        rintro e w4 ⟨y2, u, t, hu, hpost⟩
        obtain ⟨k4, es4, ns4⟩ := t
        obtain ⟨ve4, vn4, rfl, hE4, hN4⟩ := hu.out
        obtain ⟨oe4, ce4, rfl⟩ := hE4.len
        obtain ⟨on4, cn4, rfl⟩ := hN4.len
        have HU := hid hu
        have TL3 := hid HZ6.out.zlt
        clear hu hE4 hN4
        rcases hpost with ⟨p3, a1, rfl, r2⟩ | ⟨ek, at', a1, rfl, p', r2⟩
        rotate_left
        · have HE := hid (rl_2 HR1.out HKK.out (Or.inl rfl) A2.out a1)
          have HZ7 := hid (HZ6.out.only y2 r2)
          clear a1 y2 r2 HN3 HZ6
          go_upto_region 16 with (fail)
          have hG5 : Below w4.heap.size w4 (w4.alloc (.cells #[.int .i64 k4, .slice oe4 es4.length ce4, .slice on4 ns4.length cn4] 30)) := (Below.refl _ _).alloc (Nat.le_refl _) _
          have hXO := heap_alloc_at w4 (.cells #[.int .i64 k4, .slice oe4 es4.length ce4, .slice on4 ns4.length cn4] 30)
          generalize w4.alloc (.cells #[.int .i64 k4, .slice oe4 es4.length ce4, .slice on4 ns4.length cn4] 30) = w5 at *
          have HZ8 := hid (HZ7.out.later hG5)
          have HU8 := hid (HU.out.bel hG5)
          have XO := hid hXO
          clear hXO hG5 HZ7 HU
          have z0 := (cells_in XO.out 0).trans rfl
          have z1 := (cells_in XO.out 1).trans rfl
          have z2 := (cells_in XO.out 2).trans rfl
          have HONE := hid (one_any _ w5 _ _ 4 HU8.out)
          go_wp2_with fail
          clear z0 z1 z2
          refine HONE.out.mono ?_
          rintro e w7 ⟨u7, rfl, hu7, hb7⟩
          obtain ⟨ve7, vn7, rfl, hE7, hN7⟩ := hu7.out
          obtain ⟨oe7, ce7, rfl⟩ : ∃ oa c, ve7 = .slice oa 1 c := hE7.len
          obtain ⟨on7, cn7, rfl⟩ : ∃ oa c, vn7 = .slice oa 0 c := hN7.len
          have HZ9 := hid (HZ8.out.later hb7)
          have HU9 := hid (hu7.mono (Q := fun g => w.heap.size + 1 ≤ g) (fun g hg => by have := TL3.out; have := HZ8.out.zlt; omega))
          clear hu7 hb7 hE7 hN7 HONE HU8 XO HZ8
          have f0 := (cells_in HZ9.out.z 0).trans rfl
          have f1 := (cells_in HZ9.out.z 1).trans rfl
          have f2 := (cells_in HZ9.out.z 2).trans rfl
          have fz := frozen_in HZ9.out.z
          go_wp2_with fail
          try simp only [Exit.inBlock, Exit.then]
          refine bodyPost_ret (v := .tuple #[.agg #[.int .i64 4, .slice oe7 1 ce7, .slice on7 0 cn7], .bool false]) (by simp [results, Tryz.results44, go_sem, f0, f1, f2]) rfl ?_
          have OUT := hid (HZ9.out.out (t := .mk 4 [.mk k4 es4 ns4] []) (x := .int .i64 4) (y := .slice oe7 1 ce7) (z := .slice on7 0 cn7) HU9.out)
          exact ⟨OUT.out.1, _, _, OUT.out.2.1, .inr ⟨_, _, HE.out, rfl, _, OUT.out.2.2⟩⟩
        obtain ⟨-, c4, c5, -⟩ := (HOK.out p2 c2).1 _ _ a1
        have A3 := hid a1
        have HZ7 := hid (HZ6.out.only y2 r2)
        clear a1 y2 r2 HN3 HZ6
        go_upto_region 16 with (fail)
        have hG5 : Below w4.heap.size w4 (w4.alloc (.cells #[.int .i64 k4, .slice oe4 es4.length ce4, .slice on4 ns4.length cn4] 30)) := (Below.refl _ _).alloc (Nat.le_refl _) _
        have hXO := heap_alloc_at w4 (.cells #[.int .i64 k4, .slice oe4 es4.length ce4, .slice on4 ns4.length cn4] 30)
        generalize w4.alloc (.cells #[.int .i64 k4, .slice oe4 es4.length ce4, .slice on4 ns4.length cn4] 30) = w5 at *
        have HZ8 := hid (HZ7.out.later hG5)
        have HU8 := hid (HU.out.bel hG5)
        have XO := hid hXO
        clear hXO hG5 HZ7 HU
        have z0 := (cells_in XO.out 0).trans rfl
        have z1 := (cells_in XO.out 1).trans rfl
        have z2 := (cells_in XO.out 2).trans rfl
        have HONE := hid (one_any _ w5 _ _ 4 HU8.out)
        go_wp2_with fail
        clear z0 z1 z2
        refine HONE.out.mono ?_
        rintro e w7 ⟨u7, rfl, hu7, hb7⟩
        obtain ⟨ve7, vn7, rfl, hE7, hN7⟩ := hu7.out
        obtain ⟨oe7, ce7, rfl⟩ : ∃ oa c, ve7 = .slice oa 1 c := hE7.len
        obtain ⟨on7, cn7, rfl⟩ : ∃ oa c, vn7 = .slice oa 0 c := hN7.len
        have HZ9 := hid (HZ8.out.later hb7)
        have HU9 := hid (hu7.mono (Q := fun g => w.heap.size + 1 ≤ g) (fun g hg => by have := TL3.out; have := HZ8.out.zlt; omega))
        clear hu7 hb7 hE7 hN7 HONE HU8 XO HZ8
        have HS2 := hid (sign_p w7 X s nm p3 41 k q c5 (by omega) (by omega) HZ9.out.rd)
        go_wp2_with fail
        refine HS2.out.mono ?_
        rintro e w8 ⟨y2, (⟨p5, a1, rfl, r2⟩ | ⟨ek, at', a1, rfl, p', r2⟩)⟩
        · have HE := hid (rl_4 HR1.out HKK.out (Or.inl rfl) A2.out A3.out a1)
          have HZ10 := hid (HZ9.out.only y2 r2)
          have HU10 := hid (HU9.out.keep (KeepsP.chg y2 (fun g (hg : w.heap.size + 1 ≤ g) => by omega)) fun g hg => hg)
          clear a1 y2 r2 HZ9 HU9
          have f0 := (cells_in HZ10.out.z 0).trans rfl
          have f1 := (cells_in HZ10.out.z 1).trans rfl
          have f2 := (cells_in HZ10.out.z 2).trans rfl
          have fz := frozen_in HZ10.out.z
          go_wp2_with fail
          try simp only [Exit.inBlock, Exit.then]
          refine bodyPost_ret (v := .tuple #[.agg #[.int .i64 4, .slice oe7 1 ce7, .slice on7 0 cn7], .bool true]) (by simp [results, Tryz.results44, go_sem, f0, f1, f2]) rfl ?_
          have OUT := hid (HZ10.out.out (t := .mk 4 [.mk k4 es4 ns4] []) (x := .int .i64 4) (y := .slice oe7 1 ce7) (z := .slice on7 0 cn7) HU10.out)
          exact ⟨OUT.out.1, _, _, OUT.out.2.1, .inl ⟨_, HE.out, rfl, OUT.out.2.2⟩⟩
        · have HE := hid (rl_3 HR1.out HKK.out (Or.inl rfl) A2.out A3.out a1)
          have HZ10 := hid (HZ9.out.only y2 r2)
          have HU10 := hid (HU9.out.keep (KeepsP.chg y2 (fun g (hg : w.heap.size + 1 ≤ g) => by omega)) fun g hg => hg)
          clear a1 y2 r2 HZ9 HU9
          have f0 := (cells_in HZ10.out.z 0).trans rfl
          have f1 := (cells_in HZ10.out.z 1).trans rfl
          have f2 := (cells_in HZ10.out.z 2).trans rfl
          have fz := frozen_in HZ10.out.z
          go_wp2_with fail
          try simp only [Exit.inBlock, Exit.then]
          refine bodyPost_ret (v := .tuple #[.agg #[.int .i64 4, .slice oe7 1 ce7, .slice on7 0 cn7], .bool false]) (by simp [results, Tryz.results44, go_sem, f0, f1, f2]) rfl ?_
          have OUT := hid (HZ10.out.out (t := .mk 4 [.mk k4 es4 ns4] []) (x := .int .i64 4) (y := .slice oe7 1 ce7) (z := .slice on7 0 cn7) HU10.out)
          exact ⟨OUT.out.1, _, _, OUT.out.2.1, .inr ⟨_, _, HE.out, rfl, _, OUT.out.2.2⟩⟩
      · go_wp2_with fail
        refine HSG.out.mono ?_
        rintro e w6 ⟨y2, (⟨p2, a1, rfl, r2⟩ | ⟨ek, at', a1, rfl, p', r2⟩)⟩
        rotate_left
        · have HE := hid (rl_1 (f := f) HR1.out HKK.out (Or.inr rfl) a1)
          have HZ6 := hid (HZ5.out.only y2 r2)
          clear a1 y2 r2
          have f0 := (cells_in HZ6.out.z 0).trans rfl
          have f1 := (cells_in HZ6.out.z 1).trans rfl
          have f2 := (cells_in HZ6.out.z 2).trans rfl
          have fz := frozen_in HZ6.out.z
          go_wp2_with fail
          try simp only [Exit.inBlock, Exit.then]
          refine bodyPost_ret (v := .tuple #[.agg #[.int .i64 0, .slice none 0 0, .slice none 0 0], .bool false]) (by simp [results, Tryz.results44, go_sem, f0, f1, f2]) rfl ?_
          have OUT := hid (HZ6.out.out (t := .mk 0 [] []) (x := .int .i64 0) (y := .slice none 0 0) (z := .slice none 0 0) (TV.any0 _ _))
          exact ⟨OUT.out.1, _, _, OUT.out.2.1, .inr ⟨_, _, HE.out, rfl, _, OUT.out.2.2⟩⟩
        obtain ⟨c1, c2⟩ := sign_ok a1 (by rw [HWE.out]; exact we2)
        have A2 := hid a1
        have HZ6 := hid (HZ5.out.only y2 r2)
        have HN3 := hid (HRR.out w6 X p2 k q nm c2 r2)
        clear a1 y2 r2 HZ5 HSG c1
        go_wp2_with fail
        rw [HL4.out]
        refine HN3.out.mono ?_
        rintro e w4 ⟨y2, u, t, hu, hpost⟩
        obtain ⟨k4, es4, ns4⟩ := t
        obtain ⟨ve4, vn4, rfl, hE4, hN4⟩ := hu.out
        obtain ⟨oe4, ce4, rfl⟩ := hE4.len
        obtain ⟨on4, cn4, rfl⟩ := hN4.len
        have HU := hid hu
        have TL3 := hid HZ6.out.zlt
        clear hu hE4 hN4
        rcases hpost with ⟨p3, a1, rfl, r2⟩ | ⟨ek, at', a1, rfl, p', r2⟩
        rotate_left
        · have HE := hid (rl_2 HR1.out HKK.out (Or.inr rfl) A2.out a1)
          have HZ7 := hid (HZ6.out.only y2 r2)
          clear a1 y2 r2 HN3 HZ6
          go_upto_region 16 with (fail)
          have hG5 : Below w4.heap.size w4 (w4.alloc (.cells #[.int .i64 k4, .slice oe4 es4.length ce4, .slice on4 ns4.length cn4] 30)) := (Below.refl _ _).alloc (Nat.le_refl _) _
          have hXO := heap_alloc_at w4 (.cells #[.int .i64 k4, .slice oe4 es4.length ce4, .slice on4 ns4.length cn4] 30)
          generalize w4.alloc (.cells #[.int .i64 k4, .slice oe4 es4.length ce4, .slice on4 ns4.length cn4] 30) = w5 at *
          have HZ8 := hid (HZ7.out.later hG5)
          have HU8 := hid (HU.out.bel hG5)
          have XO := hid hXO
          clear hXO hG5 HZ7 HU
          have z0 := (cells_in XO.out 0).trans rfl
          have z1 := (cells_in XO.out 1).trans rfl
          have z2 := (cells_in XO.out 2).trans rfl
          have HONE := hid (one_any _ w5 _ _ 5 HU8.out)
          go_wp2_with fail
          clear z0 z1 z2
          refine HONE.out.mono ?_
          rintro e w7 ⟨u7, rfl, hu7, hb7⟩
          obtain ⟨ve7, vn7, rfl, hE7, hN7⟩ := hu7.out
          obtain ⟨oe7, ce7, rfl⟩ : ∃ oa c, ve7 = .slice oa 1 c := hE7.len
          obtain ⟨on7, cn7, rfl⟩ : ∃ oa c, vn7 = .slice oa 0 c := hN7.len
          have HZ9 := hid (HZ8.out.later hb7)
          have HU9 := hid (hu7.mono (Q := fun g => w.heap.size + 1 ≤ g) (fun g hg => by have := TL3.out; have := HZ8.out.zlt; omega))
          clear hu7 hb7 hE7 hN7 HONE HU8 XO HZ8
          have f0 := (cells_in HZ9.out.z 0).trans rfl
          have f1 := (cells_in HZ9.out.z 1).trans rfl
          have f2 := (cells_in HZ9.out.z 2).trans rfl
          have fz := frozen_in HZ9.out.z
          go_wp2_with fail
          try simp only [Exit.inBlock, Exit.then]
          refine bodyPost_ret (v := .tuple #[.agg #[.int .i64 5, .slice oe7 1 ce7, .slice on7 0 cn7], .bool false]) (by simp [results, Tryz.results44, go_sem, f0, f1, f2]) rfl ?_
          have OUT := hid (HZ9.out.out (t := .mk 5 [.mk k4 es4 ns4] []) (x := .int .i64 5) (y := .slice oe7 1 ce7) (z := .slice on7 0 cn7) HU9.out)
          exact ⟨OUT.out.1, _, _, OUT.out.2.1, .inr ⟨_, _, HE.out, rfl, _, OUT.out.2.2⟩⟩
        obtain ⟨-, c4, c5, -⟩ := (HOK.out p2 c2).1 _ _ a1
        have A3 := hid a1
        have HZ7 := hid (HZ6.out.only y2 r2)
        clear a1 y2 r2 HN3 HZ6
        go_upto_region 16 with (fail)
        have hG5 : Below w4.heap.size w4 (w4.alloc (.cells #[.int .i64 k4, .slice oe4 es4.length ce4, .slice on4 ns4.length cn4] 30)) := (Below.refl _ _).alloc (Nat.le_refl _) _
        have hXO := heap_alloc_at w4 (.cells #[.int .i64 k4, .slice oe4 es4.length ce4, .slice on4 ns4.length cn4] 30)
        generalize w4.alloc (.cells #[.int .i64 k4, .slice oe4 es4.length ce4, .slice on4 ns4.length cn4] 30) = w5 at *
        have HZ8 := hid (HZ7.out.later hG5)
        have HU8 := hid (HU.out.bel hG5)
        have XO := hid hXO
        clear hXO hG5 HZ7 HU
        have z0 := (cells_in XO.out 0).trans rfl
        have z1 := (cells_in XO.out 1).trans rfl
        have z2 := (cells_in XO.out 2).trans rfl
        have HONE := hid (one_any _ w5 _ _ 5 HU8.out)
        go_wp2_with fail
        clear z0 z1 z2
        refine HONE.out.mono ?_
        rintro e w7 ⟨u7, rfl, hu7, hb7⟩
        obtain ⟨ve7, vn7, rfl, hE7, hN7⟩ := hu7.out
        obtain ⟨oe7, ce7, rfl⟩ : ∃ oa c, ve7 = .slice oa 1 c := hE7.len
        obtain ⟨on7, cn7, rfl⟩ : ∃ oa c, vn7 = .slice oa 0 c := hN7.len
        have HZ9 := hid (HZ8.out.later hb7)
        have HU9 := hid (hu7.mono (Q := fun g => w.heap.size + 1 ≤ g) (fun g hg => by have := TL3.out; have := HZ8.out.zlt; omega))
        clear hu7 hb7 hE7 hN7 HONE HU8 XO HZ8
        have HS2 := hid (sign_p w7 X s nm p3 41 k q c5 (by omega) (by omega) HZ9.out.rd)
        go_wp2_with fail
        refine HS2.out.mono ?_
        rintro e w8 ⟨y2, (⟨p5, a1, rfl, r2⟩ | ⟨ek, at', a1, rfl, p', r2⟩)⟩
        · have HE := hid (rl_4 HR1.out HKK.out (Or.inr rfl) A2.out A3.out a1)
          have HZ10 := hid (HZ9.out.only y2 r2)
          have HU10 := hid (HU9.out.keep (KeepsP.chg y2 (fun g (hg : w.heap.size + 1 ≤ g) => by omega)) fun g hg => hg)
          clear a1 y2 r2 HZ9 HU9
          have f0 := (cells_in HZ10.out.z 0).trans rfl
          have f1 := (cells_in HZ10.out.z 1).trans rfl
          have f2 := (cells_in HZ10.out.z 2).trans rfl
          have fz := frozen_in HZ10.out.z
          go_wp2_with fail
          try simp only [Exit.inBlock, Exit.then]
          refine bodyPost_ret (v := .tuple #[.agg #[.int .i64 5, .slice oe7 1 ce7, .slice on7 0 cn7], .bool true]) (by simp [results, Tryz.results44, go_sem, f0, f1, f2]) rfl ?_
          have OUT := hid (HZ10.out.out (t := .mk 5 [.mk k4 es4 ns4] []) (x := .int .i64 5) (y := .slice oe7 1 ce7) (z := .slice on7 0 cn7) HU10.out)
          exact ⟨OUT.out.1, _, _, OUT.out.2.1, .inl ⟨_, HE.out, rfl, OUT.out.2.2⟩⟩
        · have HE := hid (rl_3 HR1.out HKK.out (Or.inr rfl) A2.out A3.out a1)
          have HZ10 := hid (HZ9.out.only y2 r2)
          have HU10 := hid (HU9.out.keep (KeepsP.chg y2 (fun g (hg : w.heap.size + 1 ≤ g) => by omega)) fun g hg => hg)
          clear a1 y2 r2 HZ9 HU9
          have f0 := (cells_in HZ10.out.z 0).trans rfl
          have f1 := (cells_in HZ10.out.z 1).trans rfl
          have f2 := (cells_in HZ10.out.z 2).trans rfl
          have fz := frozen_in HZ10.out.z
          go_wp2_with fail
          try simp only [Exit.inBlock, Exit.then]
          refine bodyPost_ret (v := .tuple #[.agg #[.int .i64 5, .slice oe7 1 ce7, .slice on7 0 cn7], .bool false]) (by simp [results, Tryz.results44, go_sem, f0, f1, f2]) rfl ?_
          have OUT := hid (HZ10.out.out (t := .mk 5 [.mk k4 es4 ns4] []) (x := .int .i64 5) (y := .slice oe7 1 ce7) (z := .slice on7 0 cn7) HU10.out)
          exact ⟨OUT.out.1, _, _, OUT.out.2.1, .inr ⟨_, _, HE.out, rfl, _, OUT.out.2.2⟩⟩
    have hk4 : kk ≠ 4 := fun e => hk45 (.inl e)
    have hk5 : kk ≠ 5 := fun e => hk45 (.inr e)
    have e4 : ((kk : Int) == 4) = false := beq_eq_false_iff_ne.2 (by omega)
    have e5 : ((kk : Int) == 5) = false := beq_eq_false_iff_ne.2 (by omega)
    have g4 : decide ((kk : Int) = 4) = false := decide_eq_false (by omega)
    have g5 : decide ((kk : Int) = 5) = false := decide_eq_false (by omega)
    by_cases hk6 : kk = 6
    · subst hk6
      clear hk4 hk5 hk45
      clear e4 e5 g4 g5 kk6
      go_wp2_with fail
      refine HSG.out.mono ?_
      rintro e w6 ⟨y2, (⟨p2, a1, rfl, r2⟩ | ⟨ek, at', a1, rfl, p', r2⟩)⟩
      rotate_left
      · have HE := hid (ro_1 (f := f) HR1.out HKK.out a1)
        have HZ6 := hid (HZ5.out.only y2 r2)
        clear a1 y2 r2
        have f0 := (cells_in HZ6.out.z 0).trans rfl
        have f1 := (cells_in HZ6.out.z 1).trans rfl
        have f2 := (cells_in HZ6.out.z 2).trans rfl
        have fz := frozen_in HZ6.out.z
        go_wp2_with fail
        try simp only [Exit.inBlock, Exit.then]
        refine bodyPost_ret (v := .tuple #[.agg #[.int .i64 0, .slice none 0 0, .slice none 0 0], .bool false]) (by simp [results, Tryz.results44, go_sem, f0, f1, f2]) rfl ?_
        have OUT := hid (HZ6.out.out (t := .mk 0 [] []) (x := .int .i64 0) (y := .slice none 0 0) (z := .slice none 0 0) (TV.any0 _ _))
        exact ⟨OUT.out.1, _, _, OUT.out.2.1, .inr ⟨_, _, HE.out, rfl, _, OUT.out.2.2⟩⟩
      obtain ⟨c1, c2⟩ := sign_ok a1 (by rw [HWE.out]; exact we2)
      have A2 := hid a1
      have HZ6 := hid (HZ5.out.only y2 r2)
      have HS2 := hid (sign_p w6 X s nm p2 123 k q c2 (by omega) (by omega) r2)
      clear a1 y2 r2 HZ5 HSG c1
      go_wp2_with fail
      refine HS2.out.mono ?_
      rintro e w7 ⟨y2, (⟨p3, a1, rfl, r2⟩ | ⟨ek, at', a1, rfl, p', r2⟩)⟩
      rotate_left
      · have HE := hid (ro_2 (f := f) HR1.out HKK.out A2.out a1)
        have HZ7 := hid (HZ6.out.only y2 r2)
        clear a1 y2 r2
        have f0 := (cells_in HZ7.out.z 0).trans rfl
        have f1 := (cells_in HZ7.out.z 1).trans rfl
        have f2 := (cells_in HZ7.out.z 2).trans rfl
        have fz := frozen_in HZ7.out.z
        go_wp2_with fail
        try simp only [Exit.inBlock, Exit.then]
        refine bodyPost_ret (v := .tuple #[.agg #[.int .i64 0, .slice none 0 0, .slice none 0 0], .bool false]) (by simp [results, Tryz.results44, go_sem, f0, f1, f2]) rfl ?_
        have OUT := hid (HZ7.out.out (t := .mk 0 [] []) (x := .int .i64 0) (y := .slice none 0 0) (z := .slice none 0 0) (TV.any0 _ _))
        exact ⟨OUT.out.1, _, _, OUT.out.2.1, .inr ⟨_, _, HE.out, rfl, _, OUT.out.2.2⟩⟩
      obtain ⟨c3, c4⟩ := sign_ok a1 c2
      have A3 := hid a1
      have HZ7 := hid (HZ6.out.only y2 r2)
      have HN3 := hid (obj_any s f hs (by omega) HRR.out w7 X p3 k q nm c4 r2)
      clear a1 y2 r2 HZ6 HS2 c3
      go_wp2_with fail
      rw [HL5.out]
      refine HN3.out.mono ?_
      rintro e w4 ⟨y2, u, t, hu, hpost⟩
      obtain ⟨k4, es4, ns4⟩ := t
      obtain ⟨ve4, vn4, rfl, hE4, hN4⟩ := hu.out
      obtain ⟨oe4, ce4, rfl⟩ := hE4.len
      obtain ⟨on4, cn4, rfl⟩ := hN4.len
      have HU := hid (hu.mono (Q := fun g => w.heap.size + 1 ≤ g) (fun g hg => by have := HZ7.out.zlt; omega))
      clear hu hE4 hN4
      rcases hpost with ⟨p4, a1, rfl, r2⟩ | ⟨ek, at', a1, rfl, p', r2⟩
      rotate_left
      · have HE := hid (ro_3 HR1.out HKK.out A2.out A3.out a1)
        have HZ8 := hid (HZ7.out.only y2 r2)
        clear a1 y2 r2 HN3 HZ7
        go_upto_region 21 with (fail)
        have hG5 : Below w4.heap.size w4 (w4.alloc (.cells #[.int .i64 k4, .slice oe4 es4.length ce4, .slice on4 ns4.length cn4] 30)) := (Below.refl _ _).alloc (Nat.le_refl _) _
        have hXO := heap_alloc_at w4 (.cells #[.int .i64 k4, .slice oe4 es4.length ce4, .slice on4 ns4.length cn4] 30)
        generalize w4.alloc (.cells #[.int .i64 k4, .slice oe4 es4.length ce4, .slice on4 ns4.length cn4] 30) = w5 at *
        have HZ9 := hid (HZ8.out.later hG5)
        have HU9 := hid (HU.out.bel hG5)
        have XO := hid hXO
        clear hXO hG5 HU
        have z0 := (cells_in XO.out 0).trans rfl
        have z1 := (cells_in XO.out 1).trans rfl
        have z2 := (cells_in XO.out 2).trans rfl
        refine wp_region_steady (fun v => v.cell? ⟨w4.heap.size, 0, none⟩ = some (.int .i64 k4) ∧ v.cell? ⟨w4.heap.size, 1, none⟩ = some (.slice oe4 es4.length ce4) ∧ v.cell? ⟨w4.heap.size, 2, none⟩ = some (.slice on4 ns4.length cn4)) (by kernel_rfl) (by kernel_rfl) (⟨z0, z1, z2⟩) ?_
        repeat (first
          | (refine wpSteady_skip (by rfl) ?_; try simp only [Act.put, List.setIfInBounds_toArray, List.set_cons_zero, List.set_cons_succ])
          | (refine wpSteady_calm (v := ?_) (by rfl) ?_ ?_; rotate_left; (focus (intro v hSv; (try dsimp only at hSv); go_simp; (try with_reducible rfl); done)); try simp only [Act.put, List.setIfInBounds_toArray, List.set_cons_zero, List.set_cons_succ]))
        have HZ10 := hid (HZ9.out.later (below_drew (Below.refl _ _)))
        have HU10 := hid (HU9.out.bel (below_drew (Below.refl _ _)))
        have v0 : w5.drew.cell? ⟨w4.heap.size, 0, none⟩ = some (.int .i64 k4) := z0
        have v1 : w5.drew.cell? ⟨w4.heap.size, 1, none⟩ = some (.slice oe4 es4.length ce4) := z1
        have v2 : w5.drew.cell? ⟨w4.heap.size, 2, none⟩ = some (.slice on4 ns4.length cn4) := z2
        have hzw := HZ8.out.zlt
        clear z0 z1 z2
        generalize w5.drew = w8 at *
        have f0 := (cells_in HZ10.out.z 0).trans rfl
        have f1 := (cells_in HZ10.out.z 1).trans rfl
        have f2 := (cells_in HZ10.out.z 2).trans rfl
        have fz := frozen_in HZ10.out.z
        refine wpSteady_loud rfl (by rfl) (fun K hK => ?_)
        go_simp
        have hzx : ¬ w4.heap.size = w.heap.size := by omega
        have hc3 := chg_store3 w8 w.heap.size (.int .i64 k4) (.slice oe4 es4.length ce4) (.slice on4 ns4.length cn4)
        refine hK.out _ _ (⟨chg_cell hc3 hzx v0, chg_cell hc3 hzx v1, chg_cell hc3 hzx v2⟩) ?_
        clear hK K
        try simp only [Act.put, List.setIfInBounds_toArray, List.set_cons_zero, List.set_cons_succ]
        repeat (first
          | (refine wpSteady_skip (by rfl) ?_; try simp only [Act.put, List.setIfInBounds_toArray, List.set_cons_zero, List.set_cons_succ])
          | (refine wpSteady_calm (v := ?_) (by rfl) ?_ ?_; rotate_left; (focus (intro v hSv; (try dsimp only at hSv); go_simp; (try with_reducible rfl); done)); try simp only [Act.put, List.setIfInBounds_toArray, List.set_cons_zero, List.set_cons_succ]))
        refine wpSteady_nil ?_
        clear v0 v1 v2 hc3 hzx hzw
        go_wp2_with fail
        try simp only [Exit.inBlock, Exit.then]
        refine bodyPost_ret (v := .tuple #[.agg #[.int .i64 k4, .slice oe4 es4.length ce4, .slice on4 ns4.length cn4], .bool false]) (by simp [results, Tryz.results44, go_sem, f0, f1, f2]) rfl ?_
        have OUT := hid (HZ10.out.out (t := .mk k4 es4 ns4) (x := .int .i64 k4) (y := .slice oe4 es4.length ce4) (z := .slice on4 ns4.length cn4) HU10.out)
        exact ⟨OUT.out.1, _, _, OUT.out.2.1, .inr ⟨_, _, HE.out, rfl, _, OUT.out.2.2⟩⟩
      obtain ⟨-, c5, c6, -⟩ := (obj_ok s (readP s f) (32 - f) (by rw [show (32 - (f : Int) + 1) = 33 - f by omega]; exact HOK.out) (by omega) p3 c4).1 _ _ a1
      have A4 := hid a1
      have HZ8 := hid (HZ7.out.only y2 r2)
      clear a1 y2 r2 HN3 HZ7
      go_upto_region 21 with (fail)
      have hG5 : Below w4.heap.size w4 (w4.alloc (.cells #[.int .i64 k4, .slice oe4 es4.length ce4, .slice on4 ns4.length cn4] 30)) := (Below.refl _ _).alloc (Nat.le_refl _) _
      have hXO := heap_alloc_at w4 (.cells #[.int .i64 k4, .slice oe4 es4.length ce4, .slice on4 ns4.length cn4] 30)
      generalize w4.alloc (.cells #[.int .i64 k4, .slice oe4 es4.length ce4, .slice on4 ns4.length cn4] 30) = w5 at *
      have HZ9 := hid (HZ8.out.later hG5)
      have HU9 := hid (HU.out.bel hG5)
      have XO := hid hXO
      clear hXO hG5 HU
      have z0 := (cells_in XO.out 0).trans rfl
      have z1 := (cells_in XO.out 1).trans rfl
      have z2 := (cells_in XO.out 2).trans rfl
      have XL := hid (Array.getElem?_eq_some_iff.1 XO.out).1
      have XW := hid HZ8.out.rd.lt
      have HS3 := hid (sign_p w5.drew X s nm p4 41 k q c6 (by omega) (by omega) (HZ9.out.later (below_drew (Below.refl _ _))).rd)
      refine wp_region_steady (fun v => v.cell? ⟨w4.heap.size, 0, none⟩ = some (.int .i64 k4) ∧ v.cell? ⟨w4.heap.size, 1, none⟩ = some (.slice oe4 es4.length ce4) ∧ v.cell? ⟨w4.heap.size, 2, none⟩ = some (.slice on4 ns4.length cn4)) (by kernel_rfl) (by kernel_rfl) (⟨z0, z1, z2⟩) ?_
      repeat (first
        | (refine wpSteady_skip (by rfl) ?_; try simp only [Act.put, List.setIfInBounds_toArray, List.set_cons_zero, List.set_cons_succ])
        | (refine wpSteady_calm (v := ?_) (by rfl) ?_ ?_; rotate_left; (focus (intro v hSv; (try dsimp only at hSv); go_simp; (try with_reducible rfl); done)); try simp only [Act.put, List.setIfInBounds_toArray, List.set_cons_zero, List.set_cons_succ]))
      refine wpSteady_loud rfl (by rfl) (fun K hK => ?_)
      go_simp
      refine HS3.out.mono ?_
      rintro e w8 ⟨y2, (⟨p5, a1, rfl, r2⟩ | ⟨ek, at', a1, rfl, p', r2⟩)⟩
      · have HE := hid (ro_5 HR1.out HKK.out A2.out A3.out A4.out a1)
        have HZ10 := hid ((HZ9.out.later (below_drew (Below.refl _ _))).only y2 r2)
        have HU10 := hid ((HU9.out.bel (below_drew (Below.refl _ _))).keep (KeepsP.chg y2 (fun g (hg : w.heap.size + 1 ≤ g) => by omega)) fun g hg => hg)
        have hwx : ¬ w4.heap.size = X := by have := XW.out; omega
        have v0 := chg_cell (w := w5.drew) y2 hwx z0
        have v1 := chg_cell (w := w5.drew) y2 hwx z1
        have v2 := chg_cell (w := w5.drew) y2 hwx z2
        clear a1 y2 r2 HZ9 HU9 z0 z1 z2
        have hzw := HZ8.out.zlt
        refine hK.out _ _ (⟨v0, v1, v2⟩) ?_
        clear hK K
        try simp only [Act.put, List.setIfInBounds_toArray, List.set_cons_zero, List.set_cons_succ]
        repeat (first
          | (refine wpSteady_skip (by rfl) ?_; try simp only [Act.put, List.setIfInBounds_toArray, List.set_cons_zero, List.set_cons_succ])
          | (refine wpSteady_calm (v := ?_) (by rfl) ?_ ?_; rotate_left; (focus (intro v hSv; (try dsimp only at hSv); go_simp; (try with_reducible rfl); done)); try simp only [Act.put, List.setIfInBounds_toArray, List.set_cons_zero, List.set_cons_succ]))
        have f0 := (cells_in HZ10.out.z 0).trans rfl
        have f1 := (cells_in HZ10.out.z 1).trans rfl
        have f2 := (cells_in HZ10.out.z 2).trans rfl
        have fz := frozen_in HZ10.out.z
        refine wpSteady_loud rfl (by rfl) (fun K hK => ?_)
        go_simp
        have hzx : ¬ w4.heap.size = w.heap.size := by omega
        have hc3 := chg_store3 w8 w.heap.size (.int .i64 k4) (.slice oe4 es4.length ce4) (.slice on4 ns4.length cn4)
        refine hK.out _ _ (⟨chg_cell hc3 hzx v0, chg_cell hc3 hzx v1, chg_cell hc3 hzx v2⟩) ?_
        clear hK K
        try simp only [Act.put, List.setIfInBounds_toArray, List.set_cons_zero, List.set_cons_succ]
        repeat (first
          | (refine wpSteady_skip (by rfl) ?_; try simp only [Act.put, List.setIfInBounds_toArray, List.set_cons_zero, List.set_cons_succ])
          | (refine wpSteady_calm (v := ?_) (by rfl) ?_ ?_; rotate_left; (focus (intro v hSv; (try dsimp only at hSv); go_simp; (try with_reducible rfl); done)); try simp only [Act.put, List.setIfInBounds_toArray, List.set_cons_zero, List.set_cons_succ]))
        refine wpSteady_nil ?_
        clear v0 v1 v2 hc3 hzx hzw
        go_wp2_with fail
        try simp only [Exit.inBlock, Exit.then]
        refine bodyPost_ret (v := .tuple #[.agg #[.int .i64 k4, .slice oe4 es4.length ce4, .slice on4 ns4.length cn4], .bool true]) (by simp [results, Tryz.results44, go_sem, f0, f1, f2]) rfl ?_
        have OUT := hid (HZ10.out.out (t := .mk k4 es4 ns4) (x := .int .i64 k4) (y := .slice oe4 es4.length ce4) (z := .slice on4 ns4.length cn4) HU10.out)
        exact ⟨OUT.out.1, _, _, OUT.out.2.1, .inl ⟨_, HE.out, rfl, OUT.out.2.2⟩⟩
      · have HE := hid (ro_4 HR1.out HKK.out A2.out A3.out A4.out a1)
        have HZ10 := hid ((HZ9.out.later (below_drew (Below.refl _ _))).only y2 r2)
        have HU10 := hid ((HU9.out.bel (below_drew (Below.refl _ _))).keep (KeepsP.chg y2 (fun g (hg : w.heap.size + 1 ≤ g) => by omega)) fun g hg => hg)
        have hwx : ¬ w4.heap.size = X := by have := XW.out; omega
        have v0 := chg_cell (w := w5.drew) y2 hwx z0
        have v1 := chg_cell (w := w5.drew) y2 hwx z1
        have v2 := chg_cell (w := w5.drew) y2 hwx z2
        clear a1 y2 r2 HZ9 HU9 z0 z1 z2
        have hzw := HZ8.out.zlt
        refine hK.out _ _ (⟨v0, v1, v2⟩) ?_
        clear hK K
        try simp only [Act.put, List.setIfInBounds_toArray, List.set_cons_zero, List.set_cons_succ]
        repeat (first
          | (refine wpSteady_skip (by rfl) ?_; try simp only [Act.put, List.setIfInBounds_toArray, List.set_cons_zero, List.set_cons_succ])
          | (refine wpSteady_calm (v := ?_) (by rfl) ?_ ?_; rotate_left; (focus (intro v hSv; (try dsimp only at hSv); go_simp; (try with_reducible rfl); done)); try simp only [Act.put, List.setIfInBounds_toArray, List.set_cons_zero, List.set_cons_succ]))
        have f0 := (cells_in HZ10.out.z 0).trans rfl
        have f1 := (cells_in HZ10.out.z 1).trans rfl
        have f2 := (cells_in HZ10.out.z 2).trans rfl
        have fz := frozen_in HZ10.out.z
        refine wpSteady_loud rfl (by rfl) (fun K hK => ?_)
        go_simp
        have hzx : ¬ w4.heap.size = w.heap.size := by omega
        have hc3 := chg_store3 w8 w.heap.size (.int .i64 k4) (.slice oe4 es4.length ce4) (.slice on4 ns4.length cn4)
        refine hK.out _ _ (⟨chg_cell hc3 hzx v0, chg_cell hc3 hzx v1, chg_cell hc3 hzx v2⟩) ?_
        clear hK K
        try simp only [Act.put, List.setIfInBounds_toArray, List.set_cons_zero, List.set_cons_succ]
        repeat (first
          | (refine wpSteady_skip (by rfl) ?_; try simp only [Act.put, List.setIfInBounds_toArray, List.set_cons_zero, List.set_cons_succ])
          | (refine wpSteady_calm (v := ?_) (by rfl) ?_ ?_; rotate_left; (focus (intro v hSv; (try dsimp only at hSv); go_simp; (try with_reducible rfl); done)); try simp only [Act.put, List.setIfInBounds_toArray, List.set_cons_zero, List.set_cons_succ]))
        refine wpSteady_nil ?_
        clear v0 v1 v2 hc3 hzx hzw
        go_wp2_with fail
        try simp only [Exit.inBlock, Exit.then]
        refine bodyPost_ret (v := .tuple #[.agg #[.int .i64 k4, .slice oe4 es4.length ce4, .slice on4 ns4.length cn4], .bool false]) (by simp [results, Tryz.results44, go_sem, f0, f1, f2]) rfl ?_
        have OUT := hid (HZ10.out.out (t := .mk k4 es4 ns4) (x := .int .i64 k4) (y := .slice oe4 es4.length ce4) (z := .slice on4 ns4.length cn4) HU10.out)
        exact ⟨OUT.out.1, _, _, OUT.out.2.1, .inr ⟨_, _, HE.out, rfl, _, OUT.out.2.2⟩⟩
    · have e6 : ((kk : Int) == 6) = false := beq_eq_false_iff_ne.2 (by omega)
      have g6 : decide ((kk : Int) = 6) = false := decide_eq_false (by omega)
      have HE := hid (rp_4 (f := f) HR1.out HKK.out (by omega))
      rw [HWE.out] at HE
      clear hk4 hk5 hk45 hk6 HSG
      have f0 := (cells_in HZ5.out.z 0).trans rfl
      have f1 := (cells_in HZ5.out.z 1).trans rfl
      have f2 := (cells_in HZ5.out.z 2).trans rfl
      have fz := frozen_in HZ5.out.z
      go_wp2_with fail
      try simp only [Exit.inBlock, Exit.then]
      refine bodyPost_ret (v := .tuple #[.agg #[.int .i64 kk, .slice none 0 0, .slice none 0 0], .bool true]) (by simp [results, Tryz.results44, go_sem, f0, f1, f2]) rfl ?_
      have OUT := hid (HZ5.out.out (t := .mk kk [] []) (x := .int .i64 kk) (y := .slice none 0 0) (z := .slice none 0 0) (TV.mk' (SV.nil _ _) (LV.nil _ _)))
      exact ⟨OUT.out.1, _, _, OUT.out.2.1, .inl ⟨_, HE.out, rfl, OUT.out.2.2⟩⟩
theorem read_any (s : ByteArray) (hs : s.size ≤ 65536) (f : Nat) : f ≤ 32 → ReadOkAt s f := by
  induction f using Nat.strongRecOn with
  | ind f ih => exact fun hf => read_step s f hs hf fun g hg => ih g hg (by omega)
end Go.Proofs.YtfljnigbfacmjaaGreatDoor
