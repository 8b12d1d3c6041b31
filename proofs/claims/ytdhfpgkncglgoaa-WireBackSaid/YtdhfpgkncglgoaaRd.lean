/- The methods of a Reader: what each call returns and what it leaves in the Reader's block. -/
import Derived.Test.YtdhfpgkncglgoaaGroup
namespace Go.Proofs.Ytdhfpgkncglgoaa
open Go.RowKit
set_option linter.unusedVariables false

/-- A Reader lies in block b: what is left, the error, whether NewReader made it. -/
def RD (w : World) (b : Nat) (s : ByteArray) (e : Int) (g : Bool) : Prop := w.heap[b]? = some (.cells #[.string s, .int .i64 e, .bool g] 56 (0, 0))
/-- Only block b may have changed. -/
structure Only (b : Nat) (w w' : World) : Prop where
  os : w'.os = w.os
  tape : w'.tape = w.tape
  output : w'.output = w.output
  size : w'.heap.size = w.heap.size
  block : ∀ k, k ≠ b → w'.heap[k]? = w.heap[k]?
theorem Only.refl (b : Nat) (w : World) : Only b w w := ⟨rfl, rfl, rfl, rfl, fun _ _ => rfl⟩
theorem Only.trans {b : Nat} {u v w : World} (h : Only b u v) (k : Only b v w) : Only b u w :=
  ⟨k.os.trans h.os, k.tape.trans h.tape, k.output.trans h.output, k.size.trans h.size, fun i hi => (k.block i hi).trans (h.block i hi)⟩
theorem Only.setCell (b o : Nat) (v : Value) (w : World) : Only b w (w.setCell ⟨b, o, none⟩ v) :=
  ⟨rfl, rfl, rfl, by simp [World.setCell], fun k hk => Below.heap_setCell _ _ _ _ hk⟩

section
variable {w : World} {b : Nat} {s : ByteArray} {e : Int} {g : Bool}
theorem RD.c0 (h : RD w b s e g) : w.cell? ⟨b, 0, none⟩ = some (.string s) := by unfold RD at h; simp [World.cell?, h]
theorem RD.c1 (h : RD w b s e g) : w.cell? ⟨b, 1, none⟩ = some (.int .i64 e) := by unfold RD at h; simp [World.cell?, h]
theorem RD.c2 (h : RD w b s e g) : w.cell? ⟨b, 2, none⟩ = some (.bool g) := by unfold RD at h; simp [World.cell?, h]
theorem RD.f (h : RD w b s e g) (o : Nat) : w.frozen? ⟨b, o, none⟩ = false := by unfold RD at h; simp [World.frozen?, h]
theorem RD.set0 (h : RD w b s e g) (s' : ByteArray) : RD (w.setCell ⟨b, 0, none⟩ (.string s')) b s' e g := by
  unfold RD at *; simp [World.setCell, Array.getElem?_modify, h]
theorem RD.set1 (h : RD w b s e g) (e' : Int) : RD (w.setCell ⟨b, 1, none⟩ (.int .i64 e')) b s e' g := by
  unfold RD at *; simp [World.setCell, Array.getElem?_modify, h]
theorem RD.lt (h : RD w b s e g) : b < w.heap.size := by unfold RD at h; exact (Array.getElem?_eq_some_iff.1 h).1
theorem RD.only {b' : Nat} {w' : World} (h : RD w b s e g) (ho : Only b' w w') (hne : b ≠ b') : RD w' b s e g := by
  unfold RD at *; rw [ho.block b hne]; exact h
theorem RD.below {B : Nat} {w' : World} (h : RD w b s e g) (ho : Below B w w') (hlt : b < B) : RD w' b s e g := by
  unfold RD at *; rw [ho.block b hlt]; exact h
end

set_option maxRecDepth 100000 in
set_option maxHeartbeats 400000 in
theorem fails_yes (b : Nat) (e : Int) (s : ByteArray) (e0 : Int) (g : Bool) (w : World) (h : RD w b s e0 g) (he : e ≠ 0) :
    Calls Try.prog 31 #[.pointer (some ⟨b,0,none⟩), .int .i64 e] w fun e' w' => e' = .returned (.bool true) ∧ w.setCell ⟨b,1,none⟩ (.int .i64 e) = w' := by
  have h1 := h.c1
  have h2 := h.f 1
  have he' : (e == 0) = false := by simpa using he
  go_enter Try.func31, Try.ntmps31
  go_wp2
  go_ret
  exact ⟨by simp, rfl⟩
set_option maxRecDepth 100000 in
set_option maxHeartbeats 400000 in
theorem fails_no (b : Nat) (w : World) :
    Calls Try.prog 31 #[.pointer (some ⟨b,0,none⟩), .int .i64 0] w fun e' w' => e' = .returned (.bool false) ∧ w = w' := by
  go_enter Try.func31, Try.ntmps31
  go_wp2
  go_ret
  exact ⟨rfl, rfl⟩
set_option maxRecDepth 100000 in
set_option maxHeartbeats 400000 in
theorem move_any (b k : Nat) (e : Int) (s : ByteArray) (g : Bool) (w : World) (hs : s.size ≤ 9223372036854775807) (h : RD w b s e g) (hk : k ≤ s.size) :
    Calls Try.prog 32 #[.pointer (some ⟨b,0,none⟩), .int .i64 (k : Int)] w fun e' w' => e' = .returned (.string (s.extract 0 k)) ∧ w.setCell ⟨b,0,none⟩ (.string (s.extract k s.size)) = w' := by
  have h1 := h.c0
  have h2 := h.f 0
  go_enter Try.func32, Try.ntmps32
  go_wp2
  go_ret
  exact ⟨rfl, rfl⟩
set_option maxRecDepth 100000 in
set_option maxHeartbeats 400000 in
theorem ready_yes (b : Nat) (s : ByteArray) (w : World) (h : RD w b s 0 true) :
    Calls Try.prog 29 #[.pointer (some ⟨b,0,none⟩)] w fun e' w' => e' = .returned (.bool true) ∧ w = w' := by
  have h1 := h.c1
  have h2 := h.c2
  go_enter Try.func29, Try.ntmps29
  go_wp2
  go_ret
  exact ⟨rfl, rfl⟩
set_option maxRecDepth 100000 in
set_option maxHeartbeats 400000 in
theorem ready_err (b : Nat) (s : ByteArray) (e : Int) (he : e ≠ 0) (w : World) (h : RD w b s e true) :
    Calls Try.prog 29 #[.pointer (some ⟨b,0,none⟩)] w fun e' w' => e' = .returned (.bool false) ∧ w = w' := by
  have h1 := h.c1
  have h2 := h.c2
  have he' : (e == 0) = false := by simpa using he
  go_enter Try.func29, Try.ntmps29
  go_wp2
  go_ret
  exact ⟨by simp, rfl⟩
set_option maxRecDepth 100000 in
set_option maxHeartbeats 400000 in
theorem ready_odd (b : Nat) (s : ByteArray) (e : Int) (w : World) (h : RD w b s e false) :
    Calls Try.prog 29 #[.pointer (some ⟨b,0,none⟩)] w fun e' w' => e' = .returned (.bool false) ∧ w = w' := by
  have h1 := h.c1
  have h2 := h.c2
  go_enter Try.func29, Try.ntmps29
  go_wp2
  go_ret
  exact ⟨rfl, rfl⟩
set_option maxRecDepth 100000 in
set_option maxHeartbeats 400000 in
theorem ready_nil (w : World) :
    Calls Try.prog 29 #[.pointer none] w fun e' w' => e' = .returned (.bool false) ∧ w = w' := by
  go_enter Try.func29, Try.ntmps29
  go_wp2
  go_ret
  exact ⟨rfl, rfl⟩
set_option maxRecDepth 100000 in
set_option maxHeartbeats 400000 in
theorem left_any (b : Nat) (s : ByteArray) (e : Int) (g : Bool) (hs : s.size ≤ 9223372036854775807) (w : World) (h : RD w b s e g) :
    Calls Try.prog 17 #[.pointer (some ⟨b,0,none⟩)] w fun e' w' => e' = .returned (.int .i64 (s.size : Int)) ∧ w = w' := by
  have h1 := h.c0
  go_enter Try.func17, Try.ntmps17
  go_wp2
  go_ret
  exact ⟨rfl, rfl⟩
set_option maxRecDepth 100000 in
set_option maxHeartbeats 400000 in
theorem left_nil (w : World) :
    Calls Try.prog 17 #[.pointer none] w fun e' w' => e' = .returned (.int .i64 0) ∧ w = w' := by
  go_enter Try.func17, Try.ntmps17
  go_wp2
  go_ret
  exact ⟨rfl, rfl⟩
set_option maxRecDepth 100000 in
set_option maxHeartbeats 400000 in
theorem err_any (b : Nat) (s : ByteArray) (e : Int) (w : World) (h : RD w b s e true) :
    Calls Try.prog 20 #[.pointer (some ⟨b,0,none⟩)] w fun e' w' => e' = .returned (.int .i64 e) ∧ w = w' := by
  have h1 := h.c1
  have h2 := h.c2
  go_enter Try.func20, Try.ntmps20
  go_wp2
  go_ret
  exact ⟨rfl, rfl⟩
set_option maxRecDepth 100000 in
set_option maxHeartbeats 400000 in
theorem err_odd (b : Nat) (s : ByteArray) (e : Int) (w : World) (h : RD w b s e false) :
    Calls Try.prog 20 #[.pointer (some ⟨b,0,none⟩)] w fun e' w' => e' = .returned (.int .i64 38) ∧ w = w' := by
  have h1 := h.c1
  have h2 := h.c2
  go_enter Try.func20, Try.ntmps20
  go_wp2
  go_ret
  exact ⟨rfl, rfl⟩
set_option maxRecDepth 100000 in
set_option maxHeartbeats 400000 in
theorem err_nil (w : World) :
    Calls Try.prog 20 #[.pointer none] w fun e' w' => e' = .returned (.int .i64 38) ∧ w = w' := by
  go_enter Try.func20, Try.ntmps20
  go_wp2
  go_ret
  exact ⟨rfl, rfl⟩
set_option maxRecDepth 100000 in
set_option maxHeartbeats 400000 in
theorem new_any (s : ByteArray) (w : World) :
    Calls Try.prog 16 #[.string s] w fun e' w' => e' = .returned (.pointer (some ⟨w.heap.size, 0, none⟩)) ∧ w.alloc (.cells #[.string s, .int .i64 0, .bool true] 56) = w' := by
  go_enter Try.func16, Try.ntmps16
  go_wp2
  go_ret
  exact ⟨rfl, rfl⟩

/-- What Number does to a Reader without an error: the result, what is left, the error. -/
def numOf (s : ByteArray) : Int × ByteArray × Int :=
  if (groupOf s.data.toList).2.2 = 0 then ((groupOf s.data.toList).1, s.extract (groupOf s.data.toList).2.1 s.size, 0) else (0, s, (groupOf s.data.toList).2.2)
def Post (b : Nat) (w : World) (v : Value) (s : ByteArray) (err : Int) (e : Ending) (w' : World) : Prop := e = .returned v ∧ RD w' b s err true ∧ Only b w w'

theorem groupOf_le (l : List UInt8) : (groupOf l).2.1 ≤ l.length := by
  unfold groupOf
  cases h : dec l 0 0 with
  | error e => simp
  | ok p => obtain ⟨u, k⟩ := p; exact (dec_bounds l u k h).2.2.2.1
theorem groupOf_zero (l : List UInt8) (h : (groupOf l).2.2 ≠ 0) : (groupOf l).1 = 0 := by
  unfold groupOf at *
  cases h' : dec l 0 0 with
  | error e => simp
  | ok p => simp [h'] at h
theorem groupOf_bd (l : List UInt8) : -9223372036854775808 ≤ (groupOf l).1 ∧ (groupOf l).1 ≤ 9223372036854775807 := by
  unfold groupOf at *
  cases h' : dec l 0 0 with
  | error e => simp
  | ok p => obtain ⟨u, k⟩ := p; exact zag_bd u (dec_bounds l u k h').1

set_option maxRecDepth 100000 in
set_option maxHeartbeats 400000 in
theorem number_ok (b : Nat) (s : ByteArray) (hs : s.size ≤ 9223372036854775807) (w : World) (h : RD w b s 0 true) :
    Calls Try.prog 19 #[.pointer (some ⟨b,0,none⟩)] w (Post b w (.int .i64 (numOf s).1) (numOf s).2.1 (numOf s).2.2) := by
  have hle := groupOf_le s.data.toList
  have hb0 : (groupOf s.data.toList).2.1 ≤ s.size := by simpa using hle
  have hz := groupOf_zero s.data.toList
  have hnum : numOf s = if (groupOf s.data.toList).2.2 = 0 then ((groupOf s.data.toList).1, s.extract (groupOf s.data.toList).2.1 s.size, 0) else (0, s, (groupOf s.data.toList).2.2) := rfl
  have hg := group_any b s w hs h.c0
  unfold GroupPost at hg
  generalize groupOf s.data.toList = G at *
  obtain ⟨n, k, e⟩ := G
  simp only at *
  have H := hid h
  have Hn := hid hnum
  have Hg := hid hg
  clear h hnum hg hle
  by_cases he : e = 0
  · subst he
    go_enter Try.func19, Try.ntmps19
    go_wp2_with fail
    refine (ready_yes b s w H.out).mono ?_; rintro e w' ⟨rfl, rfl⟩
    go_wp2_with fail
    refine (Hg.out).mono ?_; rintro e w' ⟨rfl, rfl⟩
    go_wp2_with fail
    refine (fails_no b w).mono ?_; rintro e w' ⟨rfl, rfl⟩
    go_wp2_with fail
    refine (move_any b k 0 s true w hs H.out hb0).mono ?_; rintro e w' ⟨rfl, rfl⟩
    go_wp2_with fail
    go_ret
    exact ⟨by rw [Hn.out]; rfl, by rw [Hn.out]; exact H.out.set0 _, Only.setCell _ _ _ _⟩
  · have hn := hz he
    subst hn
    have He := hid he
    clear he hz
    go_enter Try.func19, Try.ntmps19
    go_wp2_with fail
    refine (ready_yes b s w H.out).mono ?_; rintro e w' ⟨rfl, rfl⟩
    go_wp2_with fail
    refine (Hg.out).mono ?_; rintro e w' ⟨rfl, rfl⟩
    go_wp2_with fail
    refine (fails_yes b _ s 0 true w H.out He.out).mono ?_; rintro e w' ⟨rfl, rfl⟩
    go_wp2_with fail
    go_ret
    rw [if_neg He.out] at Hn
    exact ⟨by rw [Hn.out]; rfl, by rw [Hn.out]; exact H.out.set1 _, Only.setCell _ _ _ _⟩

/-- What 'size' reads: the number, how many bytes, the error. -/
def sizeOfL (l : List UInt8) : Int × Nat × Int := ((groupOf l).1, (groupOf l).2.1, if (groupOf l).2.2 = 0 ∧ (groupOf l).1 < 0 then 1 else (groupOf l).2.2)
theorem sizeOfL_le (l : List UInt8) : (sizeOfL l).2.1 ≤ l.length := groupOf_le l
theorem sizeOfL_bd (l : List UInt8) : -9223372036854775808 ≤ (sizeOfL l).1 ∧ (sizeOfL l).1 ≤ 9223372036854775807 := groupOf_bd l
theorem sizeOfL_pos (l : List UInt8) (h : (sizeOfL l).2.2 = 0) : 0 ≤ (sizeOfL l).1 := by
  unfold sizeOfL at *
  simp only at *
  split at h
  · omega
  · omega
theorem sizeOfL_zero (l : List UInt8) (h : (groupOf l).2.2 ≠ 0) : (sizeOfL l).1 = 0 := groupOf_zero l h

set_option maxRecDepth 100000 in
set_option maxHeartbeats 400000 in
theorem size_ok (b : Nat) (s : ByteArray) (hs : s.size ≤ 9223372036854775807) (w : World) (h : RD w b s 0 true) (he : (sizeOfL s.data.toList).2.2 = 0) :
    Calls Try.prog 30 #[.pointer (some ⟨b,0,none⟩)] w fun e w' => e = .returned (.tuple #[.int .i64 (sizeOfL s.data.toList).1, .int .i64 (sizeOfL s.data.toList).2.1, .bool true]) ∧ w = w' := by
  have hp := sizeOfL_pos _ he
  have hg := group_any b s w hs h.c0
  unfold GroupPost at hg
  unfold sizeOfL at he hp ⊢
  simp only at *
  generalize groupOf s.data.toList = G at *
  obtain ⟨n, k, e⟩ := G
  simp only at *
  have h0 : e = 0 := by split at he <;> omega
  subst h0
  have H := hid h
  have Hg := hid hg
  clear h hg he
  have hn : ¬ n < 0 := by omega
  go_enter Try.func30, Try.ntmps30
  go_wp2_with fail
  refine (Hg.out).mono ?_; rintro e w' ⟨rfl, rfl⟩
  go_wp2_with fail
  refine (fails_no b w).mono ?_; rintro e w' ⟨rfl, rfl⟩
  go_wp2_with fail
  go_ret3
  exact ⟨rfl, rfl⟩

set_option maxRecDepth 100000 in
set_option maxHeartbeats 400000 in
theorem size_bad (b : Nat) (s : ByteArray) (hs : s.size ≤ 9223372036854775807) (w : World) (h : RD w b s 0 true) (he : (sizeOfL s.data.toList).2.2 ≠ 0) :
    Calls Try.prog 30 #[.pointer (some ⟨b,0,none⟩)] w fun e w' => e = .returned (.tuple #[.int .i64 (sizeOfL s.data.toList).1, .int .i64 (sizeOfL s.data.toList).2.1, .bool false]) ∧ w.setCell ⟨b,1,none⟩ (.int .i64 (sizeOfL s.data.toList).2.2) = w' := by
  have hg := group_any b s w hs h.c0
  unfold GroupPost at hg
  unfold sizeOfL at he ⊢
  simp only at *
  generalize groupOf s.data.toList = G at *
  obtain ⟨n, k, e⟩ := G
  simp only at *
  have H := hid h
  have Hg := hid hg
  clear h hg
  by_cases h0 : e = 0
  · subst h0
    have hn : n < 0 := by
      by_cases h : n < 0
      · exact h
      · rw [if_neg (by omega)] at he; exact absurd rfl he
    clear he
    rw [if_pos ⟨rfl, hn⟩]
    go_enter Try.func30, Try.ntmps30
    go_wp2_with fail
    refine (Hg.out).mono ?_; rintro e w' ⟨rfl, rfl⟩
    go_wp2_with fail
    refine (fails_yes b 1 s 0 true w H.out (by decide)).mono ?_; rintro e w' ⟨rfl, rfl⟩
    go_wp2_with fail
    go_ret3
    exact ⟨rfl, rfl⟩
  · have He := hid h0
    have h0' : (e == 0) = false := by simpa using h0
    clear h0 he
    rw [if_neg (fun h => He.out h.1)]
    go_enter Try.func30, Try.ntmps30
    go_wp2_with fail
    refine (Hg.out).mono ?_; rintro e w' ⟨rfl, rfl⟩
    go_wp2_with fail
    refine (fails_yes b _ s 0 true w H.out He.out).mono ?_; rintro e w' ⟨rfl, rfl⟩
    go_wp2_with fail
    go_ret3
    exact ⟨rfl, rfl⟩

def strOf (s : ByteArray) : ByteArray × ByteArray × Int :=
  if (sizeOfL s.data.toList).2.2 ≠ 0 then (ByteArray.empty, s, (sizeOfL s.data.toList).2.2)
  else if (s.size : Int) - (sizeOfL s.data.toList).2.1 < (sizeOfL s.data.toList).1 then (ByteArray.empty, s, 40)
  else ((s.extract (sizeOfL s.data.toList).2.1 s.size).extract 0 (sizeOfL s.data.toList).1.toNat,
    (s.extract (sizeOfL s.data.toList).2.1 s.size).extract (sizeOfL s.data.toList).1.toNat (s.extract (sizeOfL s.data.toList).2.1 s.size).size, 0)
def cntOf (s : ByteArray) (least : Int) : Int × ByteArray × Int :=
  if (sizeOfL s.data.toList).2.2 ≠ 0 then (0, s, (sizeOfL s.data.toList).2.2)
  else if ((s.size : Int) - (sizeOfL s.data.toList).2.1) / (max least 1) < (sizeOfL s.data.toList).1 then (0, s, 40)
  else ((sizeOfL s.data.toList).1, s.extract (sizeOfL s.data.toList).2.1 s.size, 0)

set_option maxRecDepth 100000 in
set_option maxHeartbeats 400000 in
theorem string_ok (b : Nat) (s : ByteArray) (hs : s.size ≤ 9223372036854775807) (w : World) (h : RD w b s 0 true) :
    Calls Try.prog 18 #[.pointer (some ⟨b,0,none⟩)] w (Post b w (.string (strOf s).1) (strOf s).2.1 (strOf s).2.2) := by
  have hle := sizeOfL_le s.data.toList
  have hb0 : (sizeOfL s.data.toList).2.1 ≤ s.size := by simpa using hle
  have hbd := sizeOfL_bd s.data.toList
  have hp := sizeOfL_pos s.data.toList
  have hg1 := size_ok b s hs w h
  have hg2 := size_bad b s hs w h
  unfold strOf
  generalize sizeOfL s.data.toList = G at *
  obtain ⟨n, k, e⟩ := G
  simp only at *
  have H := hid h
  have h0 := h.c0
  clear h
  by_cases he : e = 0
  · have Hg := hid (hg1 he)
    clear hg1 hg2 hle
    have hn0 := hp he
    subst he
    clear hp
    by_cases hlt : (s.size : Int) - k < n
    · rw [if_neg (by simp), if_pos hlt]
      go_enter Try.func18, Try.ntmps18
      go_wp2_with fail
      refine (ready_yes b s w H.out).mono ?_; rintro e w' ⟨rfl, rfl⟩
      go_wp2_with fail
      refine (Hg.out).mono ?_; rintro e w' ⟨rfl, rfl⟩
      go_wp2_with fail
      refine (fails_yes b 40 s 0 true w H.out (by decide)).mono ?_; rintro e w' ⟨rfl, rfl⟩
      go_wp2_with fail
      go_ret
      exact ⟨rfl, H.out.set1 _, Only.setCell _ _ _ _⟩
    · rw [if_neg (by simp), if_neg hlt]
      obtain ⟨m, rfl⟩ := Int.eq_ofNat_of_zero_le hn0
      have hsz : (s.extract k s.size).size = s.size - k := by simp
      have Hsz := hid hsz
      clear hsz
      rw [show ((m : Int)).toNat = m by omega]
      go_enter Try.func18, Try.ntmps18
      go_wp2_with fail
      refine (ready_yes b s w H.out).mono ?_; rintro e w' ⟨rfl, rfl⟩
      go_wp2_with fail
      refine (Hg.out).mono ?_; rintro e w' ⟨rfl, rfl⟩
      go_wp2_with fail
      refine (move_any b k 0 s true w hs H.out hb0).mono ?_; rintro e w' ⟨rfl, rfl⟩
      go_wp2_with fail
      refine (move_any b m 0 (s.extract k s.size) true _ (by rw [Hsz.out]; omega) (H.out.set0 _) (by rw [Hsz.out]; omega)).mono ?_; rintro e w' ⟨rfl, rfl⟩
      go_wp2_with fail
      go_ret
      rw [← Hsz.out]
      exact ⟨rfl, (H.out.set0 _).set0 _, (Only.setCell _ _ _ _).trans (Only.setCell _ _ _ _)⟩
  · have Hg := hid (hg2 he)
    have He := hid he
    clear hg1 hg2 hle he hp
    rw [if_pos He.out]
    go_enter Try.func18, Try.ntmps18
    go_wp2_with fail
    refine (ready_yes b s w H.out).mono ?_; rintro e w' ⟨rfl, rfl⟩
    go_wp2_with fail
    refine (Hg.out).mono ?_; rintro e w' ⟨rfl, rfl⟩
    go_wp2_with fail
    go_ret
    exact ⟨rfl, H.out.set1 _, Only.setCell _ _ _ _⟩

set_option maxRecDepth 100000 in
set_option maxHeartbeats 400000 in
theorem count_ok (b : Nat) (s : ByteArray) (least : Int) (hs : s.size ≤ 9223372036854775807) (w : World) (h : RD w b s 0 true) :
    Calls Try.prog 25 #[.pointer (some ⟨b,0,none⟩), .int .i64 least] w (Post b w (.int .i64 (cntOf s least).1) (cntOf s least).2.1 (cntOf s least).2.2) := by
  have hle := sizeOfL_le s.data.toList
  have hb0 : (sizeOfL s.data.toList).2.1 ≤ s.size := by simpa using hle
  have hbd := sizeOfL_bd s.data.toList
  have hp := sizeOfL_pos s.data.toList
  have hg1 := size_ok b s hs w h
  have hg2 := size_bad b s hs w h
  unfold cntOf
  generalize sizeOfL s.data.toList = G at *
  obtain ⟨n, k, e⟩ := G
  simp only at *
  have H := hid h
  have h0 := h.c0
  clear h
  by_cases he : e = 0
  · have Hg := hid (hg1 he)
    clear hg1 hg2 hle
    have hn0 := hp he
    subst he
    clear hp
    by_cases hl : least < 1
    · rw [show max least 1 = 1 by omega, Int.ediv_one]
      by_cases hlt : (s.size : Int) - k < n
      · rw [if_neg (by simp), if_pos hlt]
        go_enter Try.func25, Try.ntmps25
        go_wp2_with fail
        refine (ready_yes b s w H.out).mono ?_; rintro e w' ⟨rfl, rfl⟩
        go_wp2_with fail
        refine (Hg.out).mono ?_; rintro e w' ⟨rfl, rfl⟩
        go_wp2_with fail
        refine (fails_yes b 40 s 0 true w H.out (by decide)).mono ?_; rintro e w' ⟨rfl, rfl⟩
        go_wp2_with fail
        go_ret
        exact ⟨rfl, H.out.set1 _, Only.setCell _ _ _ _⟩
      · rw [if_neg (by simp), if_neg hlt]
        go_enter Try.func25, Try.ntmps25
        go_wp2_with fail
        refine (ready_yes b s w H.out).mono ?_; rintro e w' ⟨rfl, rfl⟩
        go_wp2_with fail
        refine (Hg.out).mono ?_; rintro e w' ⟨rfl, rfl⟩
        go_wp2_with fail
        refine (move_any b k 0 s true w hs H.out hb0).mono ?_; rintro e w' ⟨rfl, rfl⟩
        go_wp2_with fail
        go_ret
        exact ⟨rfl, H.out.set0 _, Only.setCell _ _ _ _⟩
    · rw [show max least 1 = least by omega]
      by_cases hlt : ((s.size : Int) - k) / least < n
      · rw [if_neg (by simp), if_pos hlt]
        go_enter Try.func25, Try.ntmps25
        go_wp2_with fail
        refine (ready_yes b s w H.out).mono ?_; rintro e w' ⟨rfl, rfl⟩
        go_wp2_with fail
        refine (Hg.out).mono ?_; rintro e w' ⟨rfl, rfl⟩
        go_wp2_with fail
        refine (fails_yes b 40 s 0 true w H.out (by decide)).mono ?_; rintro e w' ⟨rfl, rfl⟩
        go_wp2_with fail
        go_ret
        exact ⟨rfl, H.out.set1 _, Only.setCell _ _ _ _⟩
      · rw [if_neg (by simp), if_neg hlt]
        go_enter Try.func25, Try.ntmps25
        go_wp2_with fail
        refine (ready_yes b s w H.out).mono ?_; rintro e w' ⟨rfl, rfl⟩
        go_wp2_with fail
        refine (Hg.out).mono ?_; rintro e w' ⟨rfl, rfl⟩
        go_wp2_with fail
        refine (move_any b k 0 s true w hs H.out hb0).mono ?_; rintro e w' ⟨rfl, rfl⟩
        go_wp2_with fail
        go_ret
        exact ⟨rfl, H.out.set0 _, Only.setCell _ _ _ _⟩
  · have Hg := hid (hg2 he)
    have He := hid he
    clear hg1 hg2 hle he hp
    rw [if_pos He.out]
    go_enter Try.func25, Try.ntmps25
    go_wp2_with fail
    refine (ready_yes b s w H.out).mono ?_; rintro e w' ⟨rfl, rfl⟩
    go_wp2_with fail
    refine (Hg.out).mono ?_; rintro e w' ⟨rfl, rfl⟩
    go_wp2_with fail
    go_ret
    exact ⟨rfl, H.out.set1 _, Only.setCell _ _ _ _⟩
end Go.Proofs.Ytdhfpgkncglgoaa
