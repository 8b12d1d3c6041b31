/- The reader's names. -/
import Derived.Test.YtfljnigbfacmjaaGreatDoorWd
import Derived.Test.YtfljnigbfacmjaaGreatDoorRow
namespace Go.Proofs.YtfljnigbfacmjaaGreatDoor
open Go Go.RowKit Go.Proofs.YtfljnigbfacmjaaGreatDoor.Steady
set_option linter.unusedVariables false

theorem contains_str (P : Nat → Prop) (w : World) (u : Value) (l : List ByteArray) (x : ByteArray) (h : SV P w u l) :
    Calls Tryz.prog 90 #[u, .string x] w fun e w' => e = .returned (.bool (Lib.containsS l x)) ∧ w = w' := by
  have hl := h.le
  rcases h.1.2 with ⟨h0, oa, c, rfl⟩ | ⟨g, o, c, hp, rfl, hc⟩
  · obtain rfl : l = [] := by simpa using h0
    exact (Tryz.slices_Contains_string_empty oa c x w).mono fun e w' ⟨h1, h2⟩ => ⟨by rw [h1]; rfl, h2.symm⟩
  · rw [List.length_map]
    refine (Tryz.slices_Contains_string g o l.length c l x w (Nat.le_refl _) (by omega) fun j hj => ?_).mono fun e w' ⟨h1, h2⟩ => ⟨by rw [h1, List.take_length], h2.symm⟩
    refine hc j _ ?_
    rw [List.getElem?_map, List.getElem?_eq_getElem hj]
    simp [List.getD, hj]
def nameX (s : ByteArray) (p : Nat) : ByteArray := s.extract (skipN s p) (wordE s (skipN s p))
def nameK (s : ByteArray) (p : Nat) (ns : List ByteArray) : Int :=
  if s.size ≤ skipN s p then 40 else if (nameX s p).size = 0 ∨ digitN (byteN (nameX s p) 0) = true then 2 else if 64 < (nameX s p).size then 7 else if Lib.containsS ns (nameX s p) = true then 8 else 0
theorem nameX_size {s : ByteArray} {p : Nat} (h : p ≤ s.size) : skipN s p + (nameX s p).size = wordE s (skipN s p) := by
  have h1 := skipN_ge h
  have h2 := wordE_le h1.2
  unfold nameX
  rw [ByteArray.size_extract]
  omega
def NamePost (X : Nat) (s : ByteArray) (p : Nat) (ns : List ByteArray) (k q : Int) (nm : ByteArray) (w : World) (e : Ending) (w' : World) : Prop :=
  OnlyX X w w' ∧ ((nameK s p ns = 0 ∧ e = .returned (.tuple #[.string (nameX s p), .bool true]) ∧ RD w' X s (wordE s (skipN s p) : Nat) k q nm) ∨
    (nameK s p ns ≠ 0 ∧ e = .returned (.tuple #[.string ⟨#[]⟩, .bool false]) ∧ ∃ p', RD w' X s p' (nameK s p ns) (skipN s p) ⟨#[]⟩))
set_option maxRecDepth 100000 in
set_option maxHeartbeats 4000000 in
theorem name_any (P : Nat → Prop) (w : World) (X : Nat) (s nm : ByteArray) (p : Nat) (k q : Int) (u : Value) (ns : List ByteArray) (hp : p ≤ s.size) (hs : s.size ≤ 140737488355328) (h : RD w X s p k q nm) (hu : SV P w u ns) (hP : ∀ g, P g → g ≠ X) :
    Calls Tryz.prog 79 #[.pointer (some ⟨X, 0, none⟩), u] w (NamePost X s p ns k q nm w) := by
  have HR := hid (ready_any w X s nm p k q hp hs h)
  have hge := skipN_ge hp
  have hsz := nameX_size hp
  have hwe := wordE_le hge.2
  obtain ⟨ou, cu, rfl⟩ := hu.len
  have HU := hid hu
  clear h hu
  by_cases hlt : skipN s p < s.size
  case neg =>
    have hkk : nameK s p ns = 40 := by unfold nameK; rw [if_pos (by omega)]
    have HK := hid hkk
    have HLT := hid hlt
    clear hkk hlt
    go_enter Tryz.func79, Tryz.ntmps79
    go_wp2_with fail
    refine HR.out.mono ?_; rintro e w2 ⟨rfl, x2, h2⟩
    rw [if_neg HLT.out] at h2
    rw [decide_eq_false HLT.out]
    go_wp2_with fail
    try simp only [Exit.inBlock, Exit.then]
    refine bodyPost_ret (results_tmp2 rfl _ _ _) rfl ?_
    refine ⟨x2, .inr ⟨by rw [HK.out]; decide, rfl, ?_⟩⟩
    rw [HK.out]
    exact ⟨_, h2⟩
  have hkdef : nameK s p ns = if (nameX s p).size = 0 ∨ digitN (byteN (nameX s p) 0) = true then 2 else if 64 < (nameX s p).size then 7 else if Lib.containsS ns (nameX s p) = true then 8 else 0 := by
    conv => lhs; unfold nameK
    rw [if_neg (by omega)]
  have hxdef : s.extract (skipN s p) (wordE s (skipN s p)) = nameX s p := rfl
  have HX := hid hxdef
  have HKD := hid hkdef
  generalize hj : skipN s p = j at *
  have HJ := hid hj
  clear hj hkdef hxdef
  generalize hx : nameX s p = x at *
  have HXX := hid hx
  clear hx
  obtain ⟨we, hwe2⟩ : ∃ we, wordE s j = we := ⟨_, rfl⟩
  have HWE := hid hwe2
  rw [hwe2] at hsz hwe
  clear hwe2
  go_enter Tryz.func79, Tryz.ntmps79
  go_wp2_with fail
  refine HR.out.mono ?_; rintro e w2 ⟨rfl, x2, h2⟩
  rw [HJ.out] at h2
  rw [if_pos hlt] at h2
  rw [HJ.out, decide_eq_true hlt]
  have HWD := hid (rword_any w2 X s nm j k q hge.2 hs h2)
  rw [HX.out] at HWD
  have H2 := hid h2
  have X2 := hid x2
  clear h2 x2
  go_wp2_with fail
  refine HWD.out.mono ?_; rintro e w3 ⟨rfl, hb3⟩
  have H3 := hid (H2.out.bel hb3)
  have X3 := hid (X2.out.trans (Chg.below hb3))
  have HU3 := hid ((HU.out.keep (KeepsP.chg X2.out hP) fun g hg => hg).bel hb3)
  have c1 := H3.out.c1
  have f1 := H3.out.fr 1
  clear hb3 H2 X2
  have hem : x.toList.isEmpty = decide (x.size = 0) := by
    rw [Lib.toList_data, size_eq]
    cases x.data.toList <;> simp
  by_cases hz : x.size = 0
  · have d1 : x.toList.isEmpty = true := by rw [hem]; exact decide_eq_true hz
    have hkk : nameK s p ns = 2 := by rw [HKD.out, if_pos (.inl hz)]
    clear hem
    have HK := hid hkk
    have HF := hid (fail_any w3 X s nm j k q 2 j H3.out)
    clear hkk
    go_wp2_with fail
    refine HF.out.mono ?_; rintro e w4 ⟨rfl, h4, x4⟩
    go_wp2_with fail
    try simp only [Exit.inBlock, Exit.then]
    refine bodyPost_ret (results_tmp2 rfl _ _ _) rfl ?_
    refine ⟨X3.out.trans x4, .inr ⟨by rw [HK.out]; decide, rfl, ?_⟩⟩
    rw [HK.out, HJ.out]
    exact ⟨_, h4⟩
  have d1 : x.toList.isEmpty = false := by rw [hem]; exact decide_eq_false hz
  clear hem
  have hpos : 0 < x.size := by omega
  have hbn := byteN_get hpos
  have hb0 := byteN_lt x 0
  generalize hn : byteN x 0 = n at *
  have HN := hid hn
  clear hn
  have hdg : ∀ b, digitN n = b → b = decide (48 ≤ n ∧ n ≤ 57) := fun b hb => by rw [← hb]; unfold digitN; simp
  by_cases e48 : 48 ≤ n
  · have g1 : decide ((n : Int) ≥ 48) = true := decide_eq_true (by omega)
    by_cases e57 : n ≤ 57
    · have g2 : decide ((n : Int) ≤ 57) = true := decide_eq_true (by omega)
      have hkk : nameK s p ns = 2 := by rw [HKD.out, if_pos (.inr (by rw [hdg _ rfl]; exact decide_eq_true ⟨e48, e57⟩))]
      clear hdg
      have HK := hid hkk
      have HF := hid (fail_any w3 X s nm j k q 2 j H3.out)
      clear hkk
      go_wp2_with fail
      refine HF.out.mono ?_; rintro e w4 ⟨rfl, h4, x4⟩
      go_wp2_with fail
      try simp only [Exit.inBlock, Exit.then]
      refine bodyPost_ret (results_tmp2 rfl _ _ _) rfl ?_
      refine ⟨X3.out.trans x4, .inr ⟨by rw [HK.out]; decide, rfl, ?_⟩⟩
      rw [HK.out, HJ.out]
      exact ⟨_, h4⟩
    · have g2 : decide ((n : Int) ≤ 57) = false := decide_eq_false (by omega)
      have hnd : digitN n = false := by rw [hdg _ rfl]; exact decide_eq_false (by omega)
      have HND := hid hnd
      clear hdg hnd
      have hno : ¬(x.size = 0 ∨ digitN n = true) := by rw [HND.out]; rintro (h | h); exact hz h; cases h
      have hkd2 : nameK s p ns = if 64 < x.size then 7 else if Lib.containsS ns x = true then 8 else 0 := by rw [HKD.out, if_neg hno]
      have HKD2 := hid hkd2
      clear hno hkd2
      by_cases h64 : 64 < x.size
      · have g3 : decide ((x.size : Int) > 64) = true := decide_eq_true (by omega)
        have hkk : nameK s p ns = 7 := by rw [HKD2.out, if_pos h64]
        have HK := hid hkk
        have HF := hid (fail_any w3 X s nm j k q 7 j H3.out)
        clear hkk
        go_wp2_with fail
        refine HF.out.mono ?_; rintro e w4 ⟨rfl, h4, x4⟩
        go_wp2_with fail
        try simp only [Exit.inBlock, Exit.then]
        refine bodyPost_ret (results_tmp2 rfl _ _ _) rfl ?_
        refine ⟨X3.out.trans x4, .inr ⟨by rw [HK.out]; decide, rfl, ?_⟩⟩
        rw [HK.out, HJ.out]
        exact ⟨_, h4⟩
      have g3 : decide ((x.size : Int) > 64) = false := decide_eq_false (by omega)
      have HC := hid (contains_str P w3 _ ns x HU3.out)
      cases hc : Lib.containsS ns x with
      | true =>
        have hkk : nameK s p ns = 8 := by rw [HKD2.out, if_neg h64, if_pos hc]
        rw [hc] at HC
        have HK := hid hkk
        have HF := hid (fail_any w3 X s nm j k q 8 j H3.out)
        clear hkk hc
        go_wp2_with fail
        refine HC.out.mono ?_; rintro e w4 ⟨rfl, rfl⟩
        go_wp2_with fail
        refine HF.out.mono ?_; rintro e w4 ⟨rfl, h4, x4⟩
        go_wp2_with fail
        try simp only [Exit.inBlock, Exit.then]
        refine bodyPost_ret (results_tmp2 rfl _ _ _) rfl ?_
        refine ⟨X3.out.trans x4, .inr ⟨by rw [HK.out]; decide, rfl, ?_⟩⟩
        rw [HK.out, HJ.out]
        exact ⟨_, h4⟩
      | false =>
        have hkk : nameK s p ns = 0 := by rw [HKD2.out, if_neg h64, if_neg (by rw [hc]; decide)]
        rw [hc] at HC
        have HK := hid hkk
        have hadd : (j : Int) + (x.size : Int) = (we : Int) := by omega
        have HA := hid hadd
        have hb1 : (j : Int) + (x.size : Int) ≤ 9223372036854775807 := by omega
        clear hkk hc hadd
        go_wp2_with fail
        refine HC.out.mono ?_; rintro e w4 ⟨rfl, rfl⟩
        go_wp2_with fail
        try simp only [Exit.inBlock, Exit.then]
        refine bodyPost_ret (results_tmp2 rfl _ _ _) rfl ?_
        refine ⟨X3.out.trans (Chg.setCell (B := fun k => k = X) w3 X 1 _ rfl), .inl ⟨HK.out, by rw [HXX.out]; rfl, ?_⟩⟩
        have := H3.out.at ((j : Int) + (x.size : Int))
        rw [HJ.out, HWE.out, ← HA.out]
        exact this
  · have g1 : decide ((n : Int) ≥ 48) = false := decide_eq_false (by omega)
    have hnd : digitN n = false := by rw [hdg _ rfl]; exact decide_eq_false (by omega)
    have HND := hid hnd
    clear hdg hnd
    have hno : ¬(x.size = 0 ∨ digitN n = true) := by rw [HND.out]; rintro (h | h); exact hz h; cases h
    have hkd2 : nameK s p ns = if 64 < x.size then 7 else if Lib.containsS ns x = true then 8 else 0 := by rw [HKD.out, if_neg hno]
    have HKD2 := hid hkd2
    clear hno hkd2
    by_cases h64 : 64 < x.size
    · have g3 : decide ((x.size : Int) > 64) = true := decide_eq_true (by omega)
      have hkk : nameK s p ns = 7 := by rw [HKD2.out, if_pos h64]
      have HK := hid hkk
      have HF := hid (fail_any w3 X s nm j k q 7 j H3.out)
      clear hkk
      go_wp2_with fail
      refine HF.out.mono ?_; rintro e w4 ⟨rfl, h4, x4⟩
      go_wp2_with fail
      try simp only [Exit.inBlock, Exit.then]
      refine bodyPost_ret (results_tmp2 rfl _ _ _) rfl ?_
      refine ⟨X3.out.trans x4, .inr ⟨by rw [HK.out]; decide, rfl, ?_⟩⟩
      rw [HK.out, HJ.out]
      exact ⟨_, h4⟩
    have g3 : decide ((x.size : Int) > 64) = false := decide_eq_false (by omega)
    have HC := hid (contains_str P w3 _ ns x HU3.out)
    cases hc : Lib.containsS ns x with
    | true =>
      have hkk : nameK s p ns = 8 := by rw [HKD2.out, if_neg h64, if_pos hc]
      rw [hc] at HC
      have HK := hid hkk
      have HF := hid (fail_any w3 X s nm j k q 8 j H3.out)
      clear hkk hc
      go_wp2_with fail
      refine HC.out.mono ?_; rintro e w4 ⟨rfl, rfl⟩
      go_wp2_with fail
      refine HF.out.mono ?_; rintro e w4 ⟨rfl, h4, x4⟩
      go_wp2_with fail
      try simp only [Exit.inBlock, Exit.then]
      refine bodyPost_ret (results_tmp2 rfl _ _ _) rfl ?_
      refine ⟨X3.out.trans x4, .inr ⟨by rw [HK.out]; decide, rfl, ?_⟩⟩
      rw [HK.out, HJ.out]
      exact ⟨_, h4⟩
    | false =>
      have hkk : nameK s p ns = 0 := by rw [HKD2.out, if_neg h64, if_neg (by rw [hc]; decide)]
      rw [hc] at HC
      have HK := hid hkk
      have hadd : (j : Int) + (x.size : Int) = (we : Int) := by omega
      have HA := hid hadd
      have hb1 : (j : Int) + (x.size : Int) ≤ 9223372036854775807 := by omega
      clear hkk hc hadd
      go_wp2_with fail
      refine HC.out.mono ?_; rintro e w4 ⟨rfl, rfl⟩
      go_wp2_with fail
      try simp only [Exit.inBlock, Exit.then]
      refine bodyPost_ret (results_tmp2 rfl _ _ _) rfl ?_
      refine ⟨X3.out.trans (Chg.setCell (B := fun k => k = X) w3 X 1 _ rfl), .inl ⟨HK.out, by rw [HXX.out]; rfl, ?_⟩⟩
      have := H3.out.at ((j : Int) + (x.size : Int))
      rw [HJ.out, HWE.out, ← HA.out]
      exact this
end Go.Proofs.YtfljnigbfacmjaaGreatDoor
