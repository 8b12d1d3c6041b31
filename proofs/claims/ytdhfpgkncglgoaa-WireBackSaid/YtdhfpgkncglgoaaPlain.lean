/- Plain laws of encoding and reading: no program in sight. -/
import Derived.Test.YtdhfpgkncglgoaaNot
namespace Go.Proofs.Ytdhfpgkncglgoaa

theorem ext_list (B : ByteArray) (i j : Nat) : (B.extract i j).data.toList = (B.data.toList.take j).drop i := by
  rw [ByteArray.data_extract, Array.toList_extract]
  simp [List.extract_eq_take_drop, List.drop_take]

theorem groupOf_take_enc (n : Nat) (hn : n < 18446744073709551616) (c : Nat) (hc : c < (enc n).length) : groupOf ((enc n).take c) = (0, 0, 40) := by
  unfold groupOf
  rw [dec_prefix n 0 0 c (by omega) (by simpa using hn) hc]
theorem groupOf_enc (n : Nat) (hn : n < 18446744073709551616) (r : List UInt8) : groupOf (enc n ++ r) = (zag n, (enc n).length, 0) := by
  unfold groupOf
  rw [dec_enc r n 0 0 (by omega) (by simpa using hn) (by omega)]
  simp

theorem numOf_prefix (n : Int) (h1 : -9223372036854775808 ≤ n) (h2 : n ≤ 9223372036854775807) (c : Nat) (hc : c < (enc (zig n)).length) :
    numOf ((bs (enc (zig n))).extract 0 c) = (0, (bs (enc (zig n))).extract 0 c, 40) := by
  unfold numOf
  rw [ext_list, bs_list, List.drop_zero, groupOf_take_enc _ (zig_lt n h1 h2) c hc]
  simp
theorem sizeOfL_enc (n : Nat) (hn : n ≤ 9223372036854775807) (r : List UInt8) : sizeOfL (enc (zig n) ++ r) = ((n : Int), (enc (zig n)).length, 0) := by
  unfold sizeOfL
  rw [groupOf_enc _ (zig_lt n (by omega) (by omega)), zag_zig]
  rw [if_neg (fun h => by have := h.2; simp only at this; omega)]

theorem strOf_prefix (s : ByteArray) (hs : s.size ≤ 9223372036854775807) (c : Nat) (hc : c < (enc (zig s.size) ++ s.data.toList).length) :
    strOf ((bs (enc (zig s.size) ++ s.data.toList)).extract 0 c) = (ByteArray.empty, (bs (enc (zig s.size) ++ s.data.toList)).extract 0 c, 40) := by
  have hl : ((bs (enc (zig s.size) ++ s.data.toList)).extract 0 c).data.toList = (enc (zig s.size) ++ s.data.toList).take c := by rw [ext_list, bs_list, List.drop_zero]
  have hz : ((bs (enc (zig s.size) ++ s.data.toList)).extract 0 c).size = c := by
    have : ((bs (enc (zig s.size) ++ s.data.toList)).extract 0 c).data.toList.length = c := by rw [hl, List.length_take]; omega
    simpa using this
  unfold strOf
  rw [hl, hz]
  by_cases h : c < (enc (zig s.size)).length
  · have e : (enc (zig s.size) ++ s.data.toList).take c = (enc (zig s.size)).take c := by rw [List.take_append_of_le_length (by omega)]
    have e2 : sizeOfL ((enc (zig s.size) ++ s.data.toList).take c) = (0, 0, 40) := by
      unfold sizeOfL
      rw [e, groupOf_take_enc _ (zig_lt _ (by omega) (by omega)) c h]
      simp
    rw [e2]
    simp
  · have e : (enc (zig s.size) ++ s.data.toList).take c = enc (zig s.size) ++ s.data.toList.take (c - (enc (zig s.size)).length) := by
      rw [List.take_append, List.take_of_length_le (by omega)]
    rw [e, sizeOfL_enc _ hs]
    have hlen : s.data.toList.length = s.size := by simp
    simp only [List.length_append] at hc
    simp only
    rw [if_neg (by simp), if_pos (by omega)]

theorem ba_ext {a b : ByteArray} (h : a.data.toList = b.data.toList) : a = b := by
  apply ByteArray.ext
  exact Array.toList_inj.1 h
theorem size_list (s : ByteArray) : s.data.toList.length = s.size := by simp

theorem groupOf_ok (l : List UInt8) (h : (groupOf l).2.2 = 0) : 1 ≤ (groupOf l).2.1 ∧ (groupOf l).2.1 ≤ 10 ∧ (groupOf l).2.1 ≤ l.length ∧ enc (zig (groupOf l).1) = l.take (groupOf l).2.1 := by
  unfold groupOf at *
  cases h' : dec l 0 0 with
  | error e =>
    exfalso
    rw [h'] at h
    simp only at h
    have : ∀ (l : List UInt8) i u e, dec l i u = .error e → e ≠ 0 := by
      intro l
      induction l with
      | nil => intro i u e h; simp [dec] at h; omega
      | cons c r ih =>
        intro i u e h
        unfold dec at h
        split at h
        · cases h; decide
        · split at h
          · exact ih _ _ _ h
          · split at h
            · cases h; decide
            · cases h
    exact this _ _ _ _ h' h
  | ok p =>
    obtain ⟨u, k⟩ := p
    obtain ⟨h1, h2, h3, h4, h5⟩ := dec_bounds l u k h'
    exact ⟨h2, h3, h4, by simp only; rw [zig_zag, h5]⟩

theorem numOf_spec (s : ByteArray) (h : (numOf s).2.2 = 0) : ∃ k, 1 ≤ k ∧ k ≤ 10 ∧ k ≤ s.size ∧ (numOf s).2.1 = s.extract k s.size ∧ bs (enc (zig (numOf s).1)) = s.extract 0 k := by
  have hg := groupOf_ok s.data.toList
  unfold numOf at *
  by_cases he : (groupOf s.data.toList).2.2 = 0
  · rw [if_pos he]
    obtain ⟨h1, h2, h3, h4⟩ := hg he
    refine ⟨_, h1, h2, by simpa using h3, rfl, ?_⟩
    apply ba_ext
    rw [bs_list, h4, ext_list, List.drop_zero]
  · rw [if_neg he] at h
    exact absurd h he
theorem numOf_bad (s : ByteArray) (h : (numOf s).2.2 ≠ 0) : numOf s = (0, s, (numOf s).2.2) := by
  unfold numOf at *
  by_cases he : (groupOf s.data.toList).2.2 = 0
  · rw [if_pos he] at h; exact absurd rfl h
  · rw [if_neg he]

theorem strOf_bad (s : ByteArray) (h : (strOf s).2.2 ≠ 0) : strOf s = (ByteArray.empty, s, (strOf s).2.2) := by
  unfold strOf at *
  split
  · rfl
  · split
    · rfl
    · rename_i h1 h2; rw [if_neg h1, if_neg h2] at h; exact absurd rfl h
theorem strOf_spec (s : ByteArray) (h : (strOf s).2.2 = 0) : ∃ k, 1 ≤ k ∧ k ≤ s.size ∧ (strOf s).2.1 = s.extract k s.size ∧ (strOf s).1.size ≤ s.size ∧
    bs (enc (zig (strOf s).1.size) ++ (strOf s).1.data.toList) = s.extract 0 k := by
  have hg := groupOf_ok s.data.toList
  have hp := sizeOfL_pos s.data.toList
  unfold strOf at *
  by_cases h1 : (sizeOfL s.data.toList).2.2 ≠ 0
  · rw [if_pos h1] at h; exact absurd h h1
  · rw [if_neg h1] at h ⊢
    by_cases h2 : (s.size : Int) - (sizeOfL s.data.toList).2.1 < (sizeOfL s.data.toList).1
    · rw [if_pos h2] at h; simp at h
    · rw [if_neg h2]
      have h1' : (sizeOfL s.data.toList).2.2 = 0 := by simpa using h1
      have hpos := hp h1'
      have hge : (groupOf s.data.toList).2.2 = 0 := by
        unfold sizeOfL at h1'
        simp only at h1'
        split at h1'
        · omega
        · exact h1'
      obtain ⟨g1, g2, g3, g4⟩ := hg hge
      have g2' : (sizeOfL s.data.toList).2.1 ≤ s.data.toList.length := g3
      have g1' : 1 ≤ (sizeOfL s.data.toList).2.1 := g1
      have g4' : enc (zig (sizeOfL s.data.toList).1) = s.data.toList.take (sizeOfL s.data.toList).2.1 := g4
      clear g1 g2 g3 g4 h1 h1' hge hg hp
      generalize (sizeOfL s.data.toList).2.1 = k at *
      generalize (sizeOfL s.data.toList).1 = n at *
      obtain ⟨m, rfl⟩ := Int.eq_ofNat_of_zero_le hpos
      have g3 := g2'
      have g4 := g4'
      rw [size_list] at g3
      simp only [Int.toNat_natCast]
      have hsz : ((s.extract k s.size).extract 0 m).size = m := by simp; omega
      refine ⟨k + m, by omega, by omega, ?_, by rw [hsz]; omega, ?_⟩
      · apply ba_ext
        rw [ext_list, ext_list, ext_list]
        simp only [ByteArray.size_extract]
        have : s.data.toList.take s.size = s.data.toList := List.take_of_length_le (by rw [size_list]; exact Nat.le_refl _)
        rw [this, List.take_of_length_le (by simp), List.drop_drop]
      · apply ba_ext
        rw [bs_list, hsz, g4, ext_list, ext_list, ext_list, List.drop_zero, List.drop_zero]
        have : s.data.toList.take s.size = s.data.toList := List.take_of_length_le (by rw [size_list]; exact Nat.le_refl _)
        rw [this]
        exact (List.take_add ..).symm
end Go.Proofs.Ytdhfpgkncglgoaa
