/- The reader's words: part, word, kind. -/
import Derived.Test.YtfljnigbfacmjaaGreatDoorRd
import Derived.Test.YtfljnigbfacmjaaGreatDoorIdent
import Derived.Test.YtfljnigbfacmjaaGreatDoorWord
namespace Go.Proofs.YtfljnigbfacmjaaGreatDoor
open Go Go.RowKit Go.Proofs.YtfljnigbfacmjaaGreatDoor.Steady
set_option linter.unusedVariables false

def partN (n : Nat) : Bool := letterN n || digitN n
set_option maxRecDepth 100000 in
set_option maxHeartbeats 4000000 in
theorem part_any (n : Nat) (w : World) (hn : n < 256) : Calls Tryz.prog 78 #[.int .u8 n] w (Is (partN n) w) := by
  have hor := or32 n hn
  obtain ⟨c0, hcc⟩ : ∃ c0, bits BinOp.or IntKind.u8 (n : Int) 32 = c0 := ⟨_, rfl⟩
  rw [hcc] at hor
  by_cases c95 : n = 95
  · have e1 : decide ((n : Int) = 95) = true := decide_eq_true (by omega)
    have e2 : ((n : Int) == 95) = true := beq_iff_eq.2 (by omega)
    have hp : partN n = true := by unfold partN letterN digitN; simp; omega
    clear hcc hor
    have HP := hid hp
    clear hp
    go_enter Tryz.func78, Tryz.ntmps78
    go_wp2_with fail
    generalize bits BinOp.or IntKind.u8 (n : Int) 32 = c at *
    go_wp2_with fail
    go_ret
    exact ⟨by rw [HP.out]; rfl, rfl⟩
  have e1 : decide ((n : Int) = 95) = false := decide_eq_false (by omega)
  have e2 : ((n : Int) == 95) = false := beq_eq_false_iff_ne.2 (by omega)
  by_cases d1 : 48 ≤ n
  · have f4 : decide ((n : Int) ≥ 48) = true := decide_eq_true (by omega)
    by_cases d2 : n ≤ 57
    · have f5 : decide ((n : Int) ≤ 57) = true := decide_eq_true (by omega)
      have hp : partN n = true := by unfold partN letterN digitN; simp; omega
      clear hcc hor
      have HP := hid hp
      clear hp
      go_enter Tryz.func78, Tryz.ntmps78
      go_wp2_with fail
      generalize bits BinOp.or IntKind.u8 (n : Int) 32 = c at *
      go_wp2_with fail
      go_ret
      exact ⟨by rw [HP.out]; rfl, rfl⟩
    · have f5 : decide ((n : Int) ≤ 57) = false := decide_eq_false (by omega)
      by_cases c1 : c0 ≥ 97
      · by_cases c2 : c0 ≤ 122
        · have f1 : decide (bits BinOp.or IntKind.u8 (n : Int) 32 ≥ 97) = true := decide_eq_true (by omega)
          have f2 : decide (bits BinOp.or IntKind.u8 (n : Int) 32 ≤ 122) = true := decide_eq_true (by omega)
          have hp : partN n = true := by unfold partN letterN digitN; simp; omega
          clear hcc hor c1 c2
          have HP := hid hp
          clear hp
          go_enter Tryz.func78, Tryz.ntmps78
          go_wp2_with fail
          generalize bits BinOp.or IntKind.u8 (n : Int) 32 = c at *
          go_wp2_with fail
          go_ret
          exact ⟨by rw [HP.out]; rfl, rfl⟩
        · have f1 : decide (bits BinOp.or IntKind.u8 (n : Int) 32 ≥ 97) = true := decide_eq_true (by omega)
          have f2 : decide (bits BinOp.or IntKind.u8 (n : Int) 32 ≤ 122) = false := decide_eq_false (by omega)
          have hp : partN n = false := by unfold partN letterN digitN; simp; omega
          clear hcc hor c1 c2
          have HP := hid hp
          clear hp
          go_enter Tryz.func78, Tryz.ntmps78
          go_wp2_with fail
          generalize bits BinOp.or IntKind.u8 (n : Int) 32 = c at *
          go_wp2_with fail
          go_ret
          exact ⟨by rw [HP.out]; rfl, rfl⟩
      · have f1 : decide (bits BinOp.or IntKind.u8 (n : Int) 32 ≥ 97) = false := decide_eq_false (by omega)
        have hp : partN n = false := by unfold partN letterN digitN; simp; omega
        clear hcc hor c1
        have HP := hid hp
        clear hp
        go_enter Tryz.func78, Tryz.ntmps78
        go_wp2_with fail
        generalize bits BinOp.or IntKind.u8 (n : Int) 32 = c at *
        go_wp2_with fail
        go_ret
        exact ⟨by rw [HP.out]; rfl, rfl⟩
  · have f4 : decide ((n : Int) ≥ 48) = false := decide_eq_false (by omega)
    by_cases c1 : c0 ≥ 97
    · by_cases c2 : c0 ≤ 122
      · have f1 : decide (bits BinOp.or IntKind.u8 (n : Int) 32 ≥ 97) = true := decide_eq_true (by omega)
        have f2 : decide (bits BinOp.or IntKind.u8 (n : Int) 32 ≤ 122) = true := decide_eq_true (by omega)
        have hp : partN n = true := by unfold partN letterN digitN; simp; omega
        clear hcc hor c1 c2
        have HP := hid hp
        clear hp
        go_enter Tryz.func78, Tryz.ntmps78
        go_wp2_with fail
        generalize bits BinOp.or IntKind.u8 (n : Int) 32 = c at *
        go_wp2_with fail
        go_ret
        exact ⟨by rw [HP.out]; rfl, rfl⟩
      · have f1 : decide (bits BinOp.or IntKind.u8 (n : Int) 32 ≥ 97) = true := decide_eq_true (by omega)
        have f2 : decide (bits BinOp.or IntKind.u8 (n : Int) 32 ≤ 122) = false := decide_eq_false (by omega)
        have hp : partN n = false := by unfold partN letterN digitN; simp; omega
        clear hcc hor c1 c2
        have HP := hid hp
        clear hp
        go_enter Tryz.func78, Tryz.ntmps78
        go_wp2_with fail
        generalize bits BinOp.or IntKind.u8 (n : Int) 32 = c at *
        go_wp2_with fail
        go_ret
        exact ⟨by rw [HP.out]; rfl, rfl⟩
    · have f1 : decide (bits BinOp.or IntKind.u8 (n : Int) 32 ≥ 97) = false := decide_eq_false (by omega)
      have hp : partN n = false := by unfold partN letterN digitN; simp; omega
      clear hcc hor c1
      have HP := hid hp
      clear hp
      go_enter Tryz.func78, Tryz.ntmps78
      go_wp2_with fail
      generalize bits BinOp.or IntKind.u8 (n : Int) 32 = c at *
      go_wp2_with fail
      go_ret
      exact ⟨by rw [HP.out]; rfl, rfl⟩

/-- Where the word at p ends. -/
def wordE (s : ByteArray) (p : Nat) : Nat := p + ((s.data.toList.drop p).takeWhile fun c => partN c.toNat).length
theorem takeWhile_at (f : UInt8 → Bool) : ∀ (l : List UInt8) (m : Nat), m ≤ l.length → (∀ j, j < m → f (l.getD j 0) = true) → (m = l.length ∨ f (l.getD m 0) = false) → (l.takeWhile f).length = m
  | [], m, h, _, _ => by simp at h; subst h; rfl
  | x :: l, 0, _, _, h => by
    rcases h with h | h
    · simp at h
    · have hx : f x = false := h
      rw [List.takeWhile_cons, if_neg (by rw [hx]; decide)]; rfl
  | x :: l, m + 1, hm, ha, h => by
    have hx : f x = true := ha 0 (by omega)
    rw [List.takeWhile_cons, if_pos hx, List.length_cons, takeWhile_at f l m (by simpa using hm) (fun j hj => by simpa using ha (j + 1) (by omega)) (by simpa using h)]
theorem wordE_eq {s : ByteArray} {p n : Nat} (h1 : p ≤ n) (h2 : n ≤ s.size) (ha : ∀ j, p ≤ j → j < n → partN (byteN s j) = true) (hs : n = s.size ∨ partN (byteN s n) = false) : wordE s p = n := by
  have hg : ∀ j, (s.data.toList.drop p).getD j 0 = s.data.toList.getD (p + j) 0 := fun j => by simp [List.getD, List.getElem?_drop]
  unfold wordE
  rw [takeWhile_at _ _ (n - p) (by rw [List.length_drop, ← size_eq]; omega) (fun j hj => by rw [hg]; exact ha (p + j) (by omega) (by omega))
    (by rw [hg, List.length_drop, ← size_eq, show p + (n - p) = n by omega]; exact hs.imp (fun h => by omega) id)]
  omega
theorem wordE_le {s : ByteArray} {p : Nat} (h : p ≤ s.size) : p ≤ wordE s p ∧ wordE s p ≤ s.size := by
  have := (List.takeWhile_prefix (fun c : UInt8 => partN c.toNat) (l := s.data.toList.drop p)).length_le
  rw [List.length_drop, ← size_eq] at this
  unfold wordE; omega
set_option maxRecDepth 100000 in
set_option maxHeartbeats 4000000 in
theorem rword_any (w : World) (X : Nat) (s nm : ByteArray) (p : Nat) (k q : Int) (hp : p ≤ s.size) (hs : s.size ≤ 140737488355328) (h : RD w X s p k q nm) :
    Calls Tryz.prog 62 #[.pointer (some ⟨X, 0, none⟩)] w (Ret (.string (s.extract p (wordE s p))) w) := by
  have c0 := h.c0
  have c1 := h.c1
  clear h
  go_enter Tryz.func62, Tryz.ntmps62
  go_wp2_with fail
  go_loop [3] (fun i => ∃ n : Nat, p ≤ n ∧ n ≤ s.size ∧ i = .int .i64 n ∧ Hid (∀ j, p ≤ j → j < n → partN (byteN s j) = true)) (fun i => s.size - (intOf i).toNat)
  case atStart => exact ⟨p, Nat.le_refl _, hp, rfl, hid fun j h1 h2 => by omega⟩
  case round =>
    obtain ⟨n, hpn, hn, rfl, A⟩ := hrel
    have hn0 : (0 : Int) ≤ (n : Int) := by omega
    by_cases hlt : n < s.size
    · have hbn := byteN_get hlt
      have HP := hid (part_any (byteN s n) w (byteN_lt s n))
      have hn1 : (n : Int) < (s.size : Int) := by omega
      cases hb : partN (byteN s n) with
      | true =>
        rw [hb] at HP
        have HB := hid hb
        clear hb
        go_wp2_with fail
        refine HP.out.mono ?_; rintro e w2 ⟨rfl, rfl⟩
        go_wp2_with fail
        go_round
        case rel =>
          refine ⟨n + 1, by omega, by omega, by go_num, hid fun j h1 h2 => ?_⟩
          by_cases e : j = n
          · subst e; exact HB.out
          · exact A.out j h1 (by omega)
        case measure => simp [intOf]; omega
      | false =>
        rw [hb] at HP
        have HW := hid (wordE_eq hpn hn A.out (.inr hb))
        clear hb
        go_wp2_with fail
        refine HP.out.mono ?_; rintro e w2 ⟨rfl, rfl⟩
        go_wp2_with fail
        have hpn2 : (p : Int) ≤ (n : Int) := by omega
        have hn2 : (n : Int) ≤ (s.size : Int) := by omega
        have hp0 : (0 : Int) ≤ (p : Int) := by omega
        refine wp_region_steady (fun v => v.cell? ⟨X, 0, none⟩ = some (.string s) ∧ v.cell? ⟨X, 1, none⟩ = some (.int .i64 p)) (by kernel_rfl) (by kernel_rfl) (⟨c0, c1⟩) ?_
        repeat (first
          | (refine wpSteady_skip (by rfl) ?_; try simp only [Act.put, List.setIfInBounds_toArray, List.set_cons_zero, List.set_cons_succ])
          | (refine wpSteady_calm (v := ?_) (by rfl) ?_ ?_; rotate_left; (focus (intro v hSv; (try dsimp only at hSv); go_simp; (try rw [if_neg (by omega)]); (try with_reducible rfl); done)); try simp only [Act.put, List.setIfInBounds_toArray, List.set_cons_zero, List.set_cons_succ]))
        refine wpSteady_nil ?_
        go_wp2_with fail
        go_ret
        exact ⟨by rw [HW.out]; rfl, below_drew (Below.refl _ _)⟩
    · have hns : n = s.size := by omega
      have HW := hid (wordE_eq hpn hn A.out (.inl hns))
      go_wp2_with fail
      have hpn2 : (p : Int) ≤ (n : Int) := by omega
      have hn2 : (n : Int) ≤ (s.size : Int) := by omega
      have hp0 : (0 : Int) ≤ (p : Int) := by omega
      refine wp_region_steady (fun v => v.cell? ⟨X, 0, none⟩ = some (.string s) ∧ v.cell? ⟨X, 1, none⟩ = some (.int .i64 p)) (by kernel_rfl) (by kernel_rfl) (⟨c0, c1⟩) ?_
      repeat (first
        | (refine wpSteady_skip (by rfl) ?_; try simp only [Act.put, List.setIfInBounds_toArray, List.set_cons_zero, List.set_cons_succ])
        | (refine wpSteady_calm (v := ?_) (by rfl) ?_ ?_; rotate_left; (focus (intro v hSv; (try dsimp only at hSv); go_simp; (try rw [if_neg (by omega)]); (try with_reducible rfl); done)); try simp only [Act.put, List.setIfInBounds_toArray, List.set_cons_zero, List.set_cons_succ]))
      refine wpSteady_nil ?_
      go_wp2_with fail
      go_ret
      exact ⟨by rw [HW.out, hns]; rfl, below_drew (Below.refl _ _)⟩

/-- The kind of a word. -/
def kindO (x : ByteArray) : Option Nat :=
  if wordS ((0 : Nat) : Int) = x then some 0 else if wordS ((1 : Nat) : Int) = x then some 1 else if wordS ((2 : Nat) : Int) = x then some 2 else if wordS ((3 : Nat) : Int) = x then some 3 else if wordS ((4 : Nat) : Int) = x then some 4 else if wordS ((5 : Nat) : Int) = x then some 5 else if wordS ((6 : Nat) : Int) = x then some 6 else none
theorem kindO_hit {x : ByteArray} : ∀ {k : Nat}, k < 7 → (∀ j : Nat, j < k → wordS j ≠ x) → wordS k = x → kindO x = some k
  | 0, _, hn, h => by unfold kindO; rw [if_pos h]
  | 1, _, hn, h => by unfold kindO; rw [if_neg (hn 0 (by omega)), if_pos h]
  | 2, _, hn, h => by unfold kindO; rw [if_neg (hn 0 (by omega)), if_neg (hn 1 (by omega)), if_pos h]
  | 3, _, hn, h => by unfold kindO; rw [if_neg (hn 0 (by omega)), if_neg (hn 1 (by omega)), if_neg (hn 2 (by omega)), if_pos h]
  | 4, _, hn, h => by unfold kindO; rw [if_neg (hn 0 (by omega)), if_neg (hn 1 (by omega)), if_neg (hn 2 (by omega)), if_neg (hn 3 (by omega)), if_pos h]
  | 5, _, hn, h => by unfold kindO; rw [if_neg (hn 0 (by omega)), if_neg (hn 1 (by omega)), if_neg (hn 2 (by omega)), if_neg (hn 3 (by omega)), if_neg (hn 4 (by omega)), if_pos h]
  | 6, _, hn, h => by unfold kindO; rw [if_neg (hn 0 (by omega)), if_neg (hn 1 (by omega)), if_neg (hn 2 (by omega)), if_neg (hn 3 (by omega)), if_neg (hn 4 (by omega)), if_neg (hn 5 (by omega)), if_pos h]
  | n + 7, hk, _, _ => absurd hk (by omega)
theorem kindO_miss {x : ByteArray} (hn : ∀ j : Nat, j < 7 → wordS j ≠ x) : kindO x = none := by unfold kindO; rw [if_neg (hn 0 (by omega)), if_neg (hn 1 (by omega)), if_neg (hn 2 (by omega)), if_neg (hn 3 (by omega)), if_neg (hn 4 (by omega)), if_neg (hn 5 (by omega)), if_neg (hn 6 (by omega))]
/-- kind: the kind, and whether there is one. -/
def KindPost (x : ByteArray) (w : World) (e : Ending) (w' : World) : Prop := w = w' ∧ e = .returned (.tuple #[.int .i64 (((kindO x).getD 0 : Nat) : Int), .bool (kindO x).isSome])
set_option maxRecDepth 100000 in
set_option maxHeartbeats 4000000 in
theorem kind_any (x : ByteArray) (w : World) : Calls Tryz.prog 63 #[.string x] w (KindPost x w) := by
  go_enter Tryz.func63, Tryz.ntmps63
  go_wp2_with fail
  go_loop [4] (fun i => ∃ n : Nat, n ≤ 7 ∧ i = .int .i64 n ∧ Hid (∀ j : Nat, j < n → wordS j ≠ x)) (fun i => 7 - (intOf i).toNat)
  case atStart => exact ⟨0, by omega, rfl, hid fun j hj => by omega⟩
  case round =>
    obtain ⟨n, hn, rfl, A⟩ := hrel
    by_cases hlt : n < 7
    · have d1 : decide ((n : Int) ≤ 6) = true := decide_eq_true (by omega)
      have HW := hid (word_any n w)
      by_cases he : wordS n = x
      · have HK := hid (kindO_hit hlt A.out he)
        have h1 : decide ((wordS n).toList = x.toList) = true := decide_eq_true (by rw [he])
        have h2 : ((wordS n).toList == x.toList) = true := beq_iff_eq.2 (by rw [he])
        clear he
        generalize wordS n = y at *
        go_wp2_with fail
        refine HW.out.mono ?_; rintro e w2 ⟨rfl, rfl⟩
        go_wp2_with fail
        try simp only [Exit.inBlock, Exit.then]
        refine bodyPost_ret (results_tmp2 rfl _ _ _) rfl ?_
        exact ⟨rfl, by rw [HK.out]; rfl⟩
      · have h1 : decide ((wordS n).toList = x.toList) = false := decide_eq_false fun e => he (toList_inj e)
        have h2 : ((wordS n).toList == x.toList) = false := beq_eq_false_iff_ne.2 fun e => he (toList_inj e)
        have HE := hid he
        clear he
        generalize hy : wordS n = y at *
        have HY := hid hy
        clear hy
        go_wp2_with fail
        refine HW.out.mono ?_; rintro e w2 ⟨rfl, rfl⟩
        go_wp2_with fail
        go_round
        case rel =>
          refine ⟨n + 1, by omega, by go_num, hid fun j hj => ?_⟩
          by_cases e : j = n
          · subst e; rw [HY.out]; exact HE.out
          · exact A.out j (by omega)
        case measure => simp [intOf]; omega
    · have d1 : decide ((n : Int) ≤ 6) = false := decide_eq_false (by omega)
      have HK := hid (kindO_miss fun j hj => A.out j (by omega))
      go_wp2_with fail
      try simp only [Exit.inBlock, Exit.then]
      refine bodyPost_ret (results_tmp2 rfl _ _ _) rfl ?_
      exact ⟨rfl, by rw [HK.out]; rfl⟩
end Go.Proofs.YtfljnigbfacmjaaGreatDoor
