import Derived.Test.YtdhfpgkncglgoaaRef
namespace Go.Proofs.Ytdhfpgkncglgoaa
open Go.RowKit Go.BigFrame
set_option linter.unusedVariables false

set_option maxRecDepth 100000 in
set_option maxHeartbeats 400000 in
theorem rcnt_err (s : ByteArray) (e0 least : Int) (w : World) (h : e0 ≠ 0) :
    Calls Try.prog 24 #[.agg #[.string s, .int .i64 e0], .int .i64 least] w fun e w' => e = .returned (.tuple #[.agg #[.string s, .int .i64 e0], .int .i64 0]) ∧ Below w.heap.size w w' := by
  have he' : (e0 != 0) = true := by simpa using h
  go_enter Try.func24, Try.ntmps24
  go_wp2_with fail
  refine bodyPost_ret (v := .tuple #[.agg #[.string s, .int .i64 e0], .int .i64 0]) (by simp [results, Try.results24, go_sem]) rfl ⟨rfl, ?_⟩
  go_grown

def RCntPost (s : ByteArray) (least : Int) (w : World) (e : Ending) (w' : World) : Prop :=
  e = .returned (.tuple #[.agg #[.string (cntOf s least).2.1, .int .i64 (cntOf s least).2.2], .int .i64 (cntOf s least).1]) ∧ Below w.heap.size w w'
theorem rcnt_fin {s : ByteArray} {least : Int} {w w' : World} {n : Int} {s' : ByteArray} {e : Int} (h : cntOf s least = (n, s', e)) (hb : Below w.heap.size w w') :
    RCntPost s least w (.returned (.tuple #[.agg #[.string s', .int .i64 e], .int .i64 n])) w' := by
  refine ⟨?_, hb⟩
  rw [h]
/-- Count by way of Number. -/
theorem cntOf_num (s : ByteArray) (least : Int) : cntOf s least =
    if (numOf s).2.2 ≠ 0 then (0, s, (numOf s).2.2) else if (numOf s).1 < 0 then (0, s, 1)
    else if ((numOf s).2.1.size : Int) / (max least 1) < (numOf s).1 then (0, s, 40) else ((numOf s).1, (numOf s).2.1, 0) := by
  have hle := groupOf_le s.data.toList
  unfold cntOf sizeOfL numOf
  generalize groupOf s.data.toList = G at *
  obtain ⟨n, k, e⟩ := G
  simp only at *
  have hk : k ≤ s.size := by simpa using hle
  by_cases he : e = 0
  · subst he
    simp only [if_true]
    by_cases hn : n < 0
    · simp [hn]
    · have : (s.extract k s.size).size = s.size - k := by simp
      simp only [hn, and_false, if_false, this]
      rw [show ((s.size - k : Nat) : Int) = (s.size : Int) - k by omega]
  · simp [he]

theorem bcell {W w1 : World} (hb : Below W.heap.size W w1) : (∀ b o, b < W.heap.size → w1.cell? ⟨b, o, none⟩ = W.cell? ⟨b, o, none⟩) ∧ (∀ b o, b < W.heap.size → w1.frozen? ⟨b, o, none⟩ = W.frozen? ⟨b, o, none⟩) :=
  ⟨fun b o h => hb.cell (p := ⟨b, o, none⟩) h, fun b o h => hb.frozen (p := ⟨b, o, none⟩) h⟩

theorem below_from2 {w w' : World} {x y : Obj} (hb : Below ((w.alloc x).alloc y).heap.size ((w.alloc x).alloc y) w') : Below w.heap.size w w' :=
  (((Below.refl _ _).alloc (Nat.le_refl _) _).alloc (by simp) _).trans (hb.mono (by simp; omega))

set_option maxRecDepth 100000 in
set_option maxHeartbeats 1000000 in
theorem rcnt_ok (s : ByteArray) (least : Int) (w : World) (hs : s.size ≤ 9223372036854775807) :
    Calls Try.prog 24 #[.agg #[.string s, .int .i64 0], .int .i64 least] w (RCntPost s least w) := by
  have hn := fun w => rnum_ok s w hs
  unfold RNumPost at hn
  have hc := cntOf_num s least
  have hsz : (numOf s).2.1.size ≤ 9223372036854775807 := by
    unfold numOf; split
    · simp; omega
    · exact hs
  generalize numOf s = G at *
  obtain ⟨n, s', e⟩ := G
  simp only at *
  have Hn := hid hn
  clear hn
  by_cases he : e = 0
  · subst he
    by_cases hneg : n < 0
    · rw [if_neg (by simp), if_pos hneg] at hc
      have Hc := hid hc
      clear hc
      go_enter Try.func24, Try.ntmps24
      go_wp2_with fail
      refine (Hn.out _).mono ?_; rintro e w' ⟨rfl, hb⟩
      obtain ⟨hc1, hf1⟩ := bcell hb
      have hz := hb.size
      have hB := below_from2 hb
      simp only [World.size_alloc] at hz
      have hz0 : w.heap.size < w'.heap.size := by omega
      have hz1 : w.heap.size + 1 < w'.heap.size := by omega
      go_wp2_with (go_at_call 34; refine (fail_any _ _ _ _).mono ?_; rintro e w' ⟨rfl, rfl⟩)
      exact bodyPost_ret (v := .tuple #[.agg #[.string s, .int .i64 1], .int .i64 0]) (by simp [results, Try.results24, go_sem, hc1, hz0, hz1]) rfl (rcnt_fin Hc.out (by go_grown))
    · rw [if_neg (by simp), if_neg hneg] at hc
      have hn0 : 0 ≤ n := by omega
      by_cases hl : least < 1
      · rw [show max least 1 = 1 by omega, Int.ediv_one] at hc
        by_cases hgt : (s'.size : Int) < n
        · rw [if_pos hgt] at hc
          have Hc := hid hc
          clear hc
          go_enter Try.func24, Try.ntmps24
          go_wp2_with fail
          refine (Hn.out _).mono ?_; rintro e w' ⟨rfl, hb⟩
          obtain ⟨hc1, hf1⟩ := bcell hb
          have hz := hb.size
          have hB := below_from2 hb
          simp only [World.size_alloc] at hz
          have hz0 : w.heap.size < w'.heap.size := by omega
          have hz1 : w.heap.size + 1 < w'.heap.size := by omega
          go_wp2_with (go_at_call 34; refine (fail_any _ _ _ _).mono ?_; rintro e w' ⟨rfl, rfl⟩)
          exact bodyPost_ret (v := .tuple #[.agg #[.string s, .int .i64 40], .int .i64 0]) (by simp [results, Try.results24, go_sem, hc1, hz0, hz1]) rfl (rcnt_fin Hc.out (by go_grown))
        · rw [if_neg hgt] at hc
          have Hc := hid hc
          clear hc
          go_enter Try.func24, Try.ntmps24
          go_wp2_with fail
          refine (Hn.out _).mono ?_; rintro e w' ⟨rfl, hb⟩
          obtain ⟨hc1, hf1⟩ := bcell hb
          have hz := hb.size
          have hB := below_from2 hb
          simp only [World.size_alloc] at hz
          have hz0 : w.heap.size < w'.heap.size := by omega
          have hz1 : w.heap.size + 1 < w'.heap.size := by omega
          go_wp2_with (go_at_call 34; refine (fail_any _ _ _ _).mono ?_; rintro e w' ⟨rfl, rfl⟩)
          exact bodyPost_ret (v := .tuple #[.agg #[.string s', .int .i64 0], .int .i64 n]) (by simp [results, Try.results24, go_sem, hc1, hz1]) rfl (rcnt_fin Hc.out (by go_grown))
      · rw [show max least 1 = least by omega] at hc
        have hq0 : 0 ≤ (s'.size : Int) / least := Int.ediv_nonneg (by omega) (by omega)
        have hq1 : (s'.size : Int) / least ≤ 9223372036854775807 := Int.le_trans (Int.ediv_le_self _ (by omega)) (by omega)
        by_cases hgt : (s'.size : Int) / least < n
        · rw [if_pos hgt] at hc
          have Hc := hid hc
          clear hc
          go_enter Try.func24, Try.ntmps24
          go_wp2_with fail
          refine (Hn.out _).mono ?_; rintro e w' ⟨rfl, hb⟩
          obtain ⟨hc1, hf1⟩ := bcell hb
          have hz := hb.size
          have hB := below_from2 hb
          simp only [World.size_alloc] at hz
          have hz0 : w.heap.size < w'.heap.size := by omega
          have hz1 : w.heap.size + 1 < w'.heap.size := by omega
          go_wp2_with (go_at_call 34; refine (fail_any _ _ _ _).mono ?_; rintro e w' ⟨rfl, rfl⟩)
          exact bodyPost_ret (v := .tuple #[.agg #[.string s, .int .i64 40], .int .i64 0]) (by simp [results, Try.results24, go_sem, hc1, hz0, hz1]) rfl (rcnt_fin Hc.out (by go_grown))
        · rw [if_neg hgt] at hc
          have Hc := hid hc
          clear hc
          go_enter Try.func24, Try.ntmps24
          go_wp2_with fail
          refine (Hn.out _).mono ?_; rintro e w' ⟨rfl, hb⟩
          obtain ⟨hc1, hf1⟩ := bcell hb
          have hz := hb.size
          have hB := below_from2 hb
          simp only [World.size_alloc] at hz
          have hz0 : w.heap.size < w'.heap.size := by omega
          have hz1 : w.heap.size + 1 < w'.heap.size := by omega
          go_wp2_with (go_at_call 34; refine (fail_any _ _ _ _).mono ?_; rintro e w' ⟨rfl, rfl⟩)
          exact bodyPost_ret (v := .tuple #[.agg #[.string s', .int .i64 0], .int .i64 n]) (by simp [results, Try.results24, go_sem, hc1, hz1]) rfl (rcnt_fin Hc.out (by go_grown))
  · rw [if_pos he] at hc
    have Hc := hid hc
    have e1 : (e != 0) = true := by simpa using he
    clear hc
    go_enter Try.func24, Try.ntmps24
    go_wp2_with fail
    refine (Hn.out _).mono ?_; rintro e w' ⟨rfl, hb⟩
    obtain ⟨hc1, hf1⟩ := bcell hb
    have hz := hb.size
    have hB := below_from2 hb
    simp only [World.size_alloc] at hz
    have hz0 : w.heap.size < w'.heap.size := by omega
    have hz1 : w.heap.size + 1 < w'.heap.size := by omega
    go_wp2_with (go_at_call 34; refine (fail_any _ _ _ _).mono ?_; rintro e w' ⟨rfl, rfl⟩)
    exact bodyPost_ret (v := .tuple #[.agg #[.string s, .int .i64 e], .int .i64 0]) (by simp [results, Try.results24, go_sem, hc1, hz0, hz1]) rfl (rcnt_fin Hc.out (by go_grown))


theorem rleft_any (s : ByteArray) (e : Int) (w : World) (hs : s.size ≤ 9223372036854775807) :
    Calls Try.prog 26 #[.agg #[.string s, .int .i64 e]] w fun r w' => r = .returned (.int .i64 (s.size : Int)) ∧ Below w.heap.size w w' := by
  go_enter Try.func26, Try.ntmps26
  go_wp2
  go_ret
  exact ⟨rfl, by go_grown⟩
theorem rerr_any (s : ByteArray) (e : Int) (w : World) :
    Calls Try.prog 27 #[.agg #[.string s, .int .i64 e]] w fun r w' => r = .returned (.int .i64 e) ∧ Below w.heap.size w w' := by
  go_enter Try.func27, Try.ntmps27
  go_wp2
  go_ret
  exact ⟨rfl, by go_grown⟩
theorem rnew_any (s : ByteArray) (w : World) :
    Calls Try.prog 21 #[.string s] w fun r w' => r = .returned (.agg #[.string s, .int .i64 0]) ∧ Below w.heap.size w w' := by
  go_enter Try.func21, Try.ntmps21
  go_wp2
  exact bodyPost_ret (v := .agg #[.string s, .int .i64 0]) (by simp [results, Try.results21, go_sem]) rfl ⟨rfl, by go_grown⟩

theorem strOf_cnt (s : ByteArray) : strOf s = if (cntOf s 1).2.2 ≠ 0 then (ByteArray.empty, s, (cntOf s 1).2.2)
    else ((cntOf s 1).2.1.extract 0 (cntOf s 1).1.toNat, (cntOf s 1).2.1.extract (cntOf s 1).1.toNat (cntOf s 1).2.1.size, 0) := by
  unfold strOf cntOf
  generalize sizeOfL s.data.toList = G at *
  obtain ⟨n, k, e⟩ := G
  simp only at *
  rw [show max (1 : Int) 1 = 1 by omega, Int.ediv_one]
  by_cases he : e = 0
  · subst he
    by_cases h : (s.size : Int) - k < n
    · simp [h]
    · simp [h]
  · simp [he]
theorem cntOf_le (s : ByteArray) (least : Int) (h : (cntOf s least).2.2 = 0) : 0 ≤ (cntOf s least).1 ∧ (cntOf s least).1 ≤ (cntOf s least).2.1.size := by
  have hp := sizeOfL_pos s.data.toList
  have hle := sizeOfL_le s.data.toList
  unfold cntOf at *
  generalize sizeOfL s.data.toList = G at *
  obtain ⟨n, k, e⟩ := G
  simp only at *
  have hk : k ≤ s.size := by simpa using hle
  by_cases he : e = 0
  · subst he
    by_cases hlt : ((s.size : Int) - k) / max least 1 < n
    · rw [if_neg (by simp), if_pos hlt] at h; simp at h
    · rw [if_neg (by simp), if_neg hlt]
      refine ⟨hp rfl, ?_⟩
      have h1 : ((s.size : Int) - k) / max least 1 ≤ (s.size : Int) - k := Int.ediv_le_self _ (by omega)
      simp; omega
  · rw [if_pos he] at h; simp at h; exact absurd h he
theorem cntOf_same (s : ByteArray) (least : Int) (h : (cntOf s least).2.2 ≠ 0) : cntOf s least = (0, s, (cntOf s least).2.2) := by
  unfold cntOf at *
  generalize sizeOfL s.data.toList = G at *
  obtain ⟨n, k, e⟩ := G
  simp only at *
  by_cases he : e = 0
  · subst he
    by_cases hlt : ((s.size : Int) - k) / max least 1 < n
    · simp [hlt]
    · simp [hlt] at h
  · simp [he]
theorem cntOf_size (s : ByteArray) (least : Int) : (cntOf s least).2.1.size ≤ s.size := by
  unfold cntOf
  split
  · exact Nat.le_refl _
  · split
    · exact Nat.le_refl _
    · simp

set_option maxRecDepth 100000 in
set_option maxHeartbeats 400000 in
theorem rstr_err (s : ByteArray) (e0 : Int) (w : World) (h : e0 ≠ 0) :
    Calls Try.prog 23 #[.agg #[.string s, .int .i64 e0]] w fun e w' => e = .returned (.tuple #[.agg #[.string s, .int .i64 e0], .string ByteArray.empty]) ∧ Below w.heap.size w w' := by
  have he' : (e0 != 0) = true := by simpa using h
  go_enter Try.func23, Try.ntmps23
  go_wp2_with fail
  refine (rcnt_err s e0 1 _ h).mono ?_; rintro e w' ⟨rfl, hb⟩
  obtain ⟨hc1, hf1⟩ := bcell hb
  have hz := hb.size
  have hB := below_from2 hb
  simp only [World.size_alloc] at hz
  have hz0 : w.heap.size < w'.heap.size := by omega
  have hz1 : w.heap.size + 1 < w'.heap.size := by omega
  go_wp2_with fail
  refine bodyPost_ret (v := .tuple #[.agg #[.string s, .int .i64 e0], .string ByteArray.empty]) (by simp [results, Try.results23, go_sem, hc1, hz1]; rfl) rfl ⟨rfl, by go_grown⟩

def RStrPost (s : ByteArray) (w : World) (e : Ending) (w' : World) : Prop :=
  e = .returned (.tuple #[.agg #[.string (strOf s).2.1, .int .i64 (strOf s).2.2], .string (strOf s).1]) ∧ Below w.heap.size w w'
theorem rstr_fin {s : ByteArray} {w w' : World} {n : ByteArray} {s' : ByteArray} {e : Int} (h : strOf s = (n, s', e)) (hb : Below w.heap.size w w') :
    RStrPost s w (.returned (.tuple #[.agg #[.string s', .int .i64 e], .string n])) w' := by
  refine ⟨?_, hb⟩
  rw [h]

theorem cell_new_set (w : World) (a b : Addr) (x y : Value) (cs : Array Value) (t : TypeId) (o : Nat) :
    ((((w.setCell a x).setCell b y).alloc (.cells cs t)).drew).cell? ⟨w.heap.size, o, none⟩ = cs[o]? := by
  have hs : ((w.setCell a x).setCell b y).heap.size = w.heap.size := by simp [World.setCell]
  generalize (w.setCell a x).setCell b y = w2 at *
  rw [← hs]
  show (match (w2.heap.push _)[w2.heap.size]? with | some (.cells c _ _) => _ | _ => _) = _
  simp

set_option maxRecDepth 100000 in
set_option maxHeartbeats 1000000 in
theorem rstr_ok (s : ByteArray) (w : World) (hs : s.size ≤ 9223372036854775807) :
    Calls Try.prog 23 #[.agg #[.string s, .int .i64 0]] w (RStrPost s w) := by
  have hn := fun w => rcnt_ok s 1 w hs
  unfold RCntPost at hn
  have hc := strOf_cnt s
  have hle := cntOf_le s 1
  have hsm := cntOf_same s 1
  have hss := cntOf_size s 1
  generalize cntOf s 1 = G at *
  obtain ⟨n, s', e⟩ := G
  simp only at *
  have Hn := hid hn
  clear hn
  by_cases he : e = 0
  · subst he
    obtain ⟨hn0, hn1⟩ := hle rfl
    obtain ⟨m, rfl⟩ := Int.eq_ofNat_of_zero_le hn0
    rw [if_neg (by simp)] at hc
    rw [Int.toNat_natCast] at hc
    have Hc := hid hc
    clear hc hsm hle
    have hm : m ≤ s'.size := by omega
    go_enter Try.func23, Try.ntmps23
    go_wp2_with fail
    refine (Hn.out _).mono ?_; rintro e w' ⟨rfl, hb⟩
    obtain ⟨hc1, hf1⟩ := bcell hb
    have hz := hb.size
    have hB := below_from2 hb
    simp only [World.size_alloc] at hz
    have hz0 : w.heap.size < w'.heap.size := by omega
    have hz1 : w.heap.size + 1 < w'.heap.size := by omega
    go_wp2_with fail
    go_region_held3 (fun w2 => w2.cell? ⟨w'.heap.size, 0, none⟩ = some (.string s')) (first | (go_keep; done) | (with_reducible exact cell_new_set _ _ _ _ _ _ _ _) | exact (cell_new_set _ _ _ _ _ _ _ _).trans rfl) (fail)
    go_wp2_with fail
    exact bodyPost_ret (v := .tuple #[.agg #[.string (s'.extract m s'.size), .int .i64 0], .string (s'.extract 0 m)]) (by simp [results, Try.results23, go_sem, hc1, hz1]) rfl (rstr_fin Hc.out (by go_grown))
  · rw [if_pos he] at hc
    have hsm := hsm he
    simp only [Prod.mk.injEq] at hsm
    obtain ⟨rfl, rfl, _⟩ := hsm
    have Hc := hid hc
    have e1 : (e != 0) = true := by simpa using he
    clear hc
    go_enter Try.func23, Try.ntmps23
    go_wp2_with fail
    refine (Hn.out _).mono ?_; rintro e w' ⟨rfl, hb⟩
    obtain ⟨hc1, hf1⟩ := bcell hb
    have hz := hb.size
    have hB := below_from2 hb
    simp only [World.size_alloc] at hz
    have hz0 : w.heap.size < w'.heap.size := by omega
    have hz1 : w.heap.size + 1 < w'.heap.size := by omega
    go_wp2_with fail
    exact bodyPost_ret (v := .tuple #[.agg #[.string s', .int .i64 e], .string ByteArray.empty]) (by simp [results, Try.results23, go_sem, hc1, hz1]; rfl) rfl (rstr_fin Hc.out (by go_grown))
end Go.Proofs.Ytdhfpgkncglgoaa
