/- One contract for each method, with or without an error; what the readers of the program and of the reference hold. -/
import Derived.Test.YtdhfpgkncglgoaaPlain
namespace Go.Proofs.Ytdhfpgkncglgoaa
open Go.RowKit Go.BigFrame

def stepN (s : ByteArray) (e : Int) : Int × ByteArray × Int := if e = 0 then numOf s else (0, s, e)
def stepS (s : ByteArray) (e : Int) : ByteArray × ByteArray × Int := if e = 0 then strOf s else (ByteArray.empty, s, e)
def stepC (s : ByteArray) (e n : Int) : Int × ByteArray × Int := if e = 0 then cntOf s n else (0, s, e)

theorem number_any (b : Nat) (s : ByteArray) (e : Int) (hs : s.size ≤ 9223372036854775807) (w : World) (h : RD w b s e true) :
    Calls Try.prog 19 #[.pointer (some ⟨b,0,none⟩)] w (Post b w (.int .i64 (stepN s e).1) (stepN s e).2.1 (stepN s e).2.2) := by
  unfold stepN
  by_cases he : e = 0
  · subst he; rw [if_pos rfl]; exact number_ok b s hs w h
  · rw [if_neg he]
    refine (number_not _ _ (ready_err b s e he w h)).mono ?_
    rintro r w' ⟨rfl, rfl⟩
    exact ⟨rfl, h, Only.refl _ _⟩
theorem string_any (b : Nat) (s : ByteArray) (e : Int) (hs : s.size ≤ 9223372036854775807) (w : World) (h : RD w b s e true) :
    Calls Try.prog 18 #[.pointer (some ⟨b,0,none⟩)] w (Post b w (.string (stepS s e).1) (stepS s e).2.1 (stepS s e).2.2) := by
  unfold stepS
  by_cases he : e = 0
  · subst he; rw [if_pos rfl]; exact string_ok b s hs w h
  · rw [if_neg he]
    refine (string_not _ _ (ready_err b s e he w h)).mono ?_
    rintro r w' ⟨rfl, rfl⟩
    exact ⟨rfl, h, Only.refl _ _⟩
theorem count_any (b : Nat) (s : ByteArray) (e n : Int) (hs : s.size ≤ 9223372036854775807) (w : World) (h : RD w b s e true) :
    Calls Try.prog 25 #[.pointer (some ⟨b,0,none⟩), .int .i64 n] w (Post b w (.int .i64 (stepC s e n).1) (stepC s e n).2.1 (stepC s e n).2.2) := by
  unfold stepC
  by_cases he : e = 0
  · subst he; rw [if_pos rfl]; exact count_ok b s n hs w h
  · rw [if_neg he]
    refine (count_not _ n _ (ready_err b s e he w h)).mono ?_
    rintro r w' ⟨rfl, rfl⟩
    exact ⟨rfl, h, Only.refl _ _⟩
theorem rnum_any (s : ByteArray) (e : Int) (w : World) (hs : s.size ≤ 9223372036854775807) :
    Calls Try.prog 22 #[.agg #[.string s, .int .i64 e]] w fun r w' => r = .returned (.tuple #[.agg #[.string (stepN s e).2.1, .int .i64 (stepN s e).2.2], .int .i64 (stepN s e).1]) ∧ Below w.heap.size w w' := by
  unfold stepN
  by_cases he : e = 0
  · subst he; rw [if_pos rfl]; exact rnum_ok s w hs
  · rw [if_neg he]; exact rnum_err s e w he
theorem rstr_any (s : ByteArray) (e : Int) (w : World) (hs : s.size ≤ 9223372036854775807) :
    Calls Try.prog 23 #[.agg #[.string s, .int .i64 e]] w fun r w' => r = .returned (.tuple #[.agg #[.string (stepS s e).2.1, .int .i64 (stepS s e).2.2], .string (stepS s e).1]) ∧ Below w.heap.size w w' := by
  unfold stepS
  by_cases he : e = 0
  · subst he; rw [if_pos rfl]; exact rstr_ok s w hs
  · rw [if_neg he]; exact rstr_err s e w he
theorem rcnt_any (s : ByteArray) (e n : Int) (w : World) (hs : s.size ≤ 9223372036854775807) :
    Calls Try.prog 24 #[.agg #[.string s, .int .i64 e], .int .i64 n] w fun r w' => r = .returned (.tuple #[.agg #[.string (stepC s e n).2.1, .int .i64 (stepC s e n).2.2], .int .i64 (stepC s e n).1]) ∧ Below w.heap.size w w' := by
  unfold stepC
  by_cases he : e = 0
  · subst he; rw [if_pos rfl]; exact rcnt_ok s n w hs
  · rw [if_neg he]; exact rcnt_err s e n w he

theorem numOf_size (s : ByteArray) : (numOf s).2.1.size ≤ s.size := by
  unfold numOf; split
  · simp
  · exact Nat.le_refl _
theorem strOf_size (s : ByteArray) : (strOf s).2.1.size ≤ s.size := by
  unfold strOf; split
  · exact Nat.le_refl _
  · split
    · exact Nat.le_refl _
    · simp; omega
theorem stepN_size (s : ByteArray) (e : Int) : (stepN s e).2.1.size ≤ s.size := by
  unfold stepN; split
  · exact numOf_size s
  · exact Nat.le_refl _
theorem stepS_size (s : ByteArray) (e : Int) : (stepS s e).2.1.size ≤ s.size := by
  unfold stepS; split
  · exact strOf_size s
  · exact Nat.le_refl _
theorem stepC_size (s : ByteArray) (e n : Int) : (stepC s e n).2.1.size ≤ s.size := by
  unfold stepC; split
  · exact cntOf_size s n
  · exact Nat.le_refl _

/-- The reference's Reader in a variable. -/
def XD (w : World) (b : Nat) (s : ByteArray) (e : Int) : Prop := w.heap[b]? = some (.cells #[.string s, .int .i64 e] 40 (0, 0))
section
variable {w : World} {b : Nat} {s : ByteArray} {e : Int}
theorem XD.c0 (h : XD w b s e) : w.cell? ⟨b, 0, none⟩ = some (.string s) := by unfold XD at h; simp [World.cell?, h]
theorem XD.c1 (h : XD w b s e) : w.cell? ⟨b, 1, none⟩ = some (.int .i64 e) := by unfold XD at h; simp [World.cell?, h]
theorem XD.f (h : XD w b s e) (o : Nat) : w.frozen? ⟨b, o, none⟩ = false := by unfold XD at h; simp [World.frozen?, h]
theorem XD.set (h : XD w b s e) (s' : ByteArray) (e' : Int) : XD ((w.setCell ⟨b, 0, none⟩ (.string s')).setCell ⟨b, 1, none⟩ (.int .i64 e')) b s' e' := by
  unfold XD at *; simp [World.setCell, Array.getElem?_modify, h]
theorem XD.lt (h : XD w b s e) : b < w.heap.size := by unfold XD at h; exact (Array.getElem?_eq_some_iff.1 h).1
theorem XD.only {b' : Nat} {w' : World} (h : XD w b s e) (ho : Only b' w w') (hne : b ≠ b') : XD w' b s e := by
  unfold XD at *; rw [ho.block b hne]; exact h
theorem XD.below {B : Nat} {w' : World} (h : XD w b s e) (ho : Below B w w') (hlt : b < B) : XD w' b s e := by
  unfold XD at *; rw [ho.block b hlt]; exact h
end

theorem xd_alloc {w : World} {b : Nat} {s : ByteArray} {e : Int} (h : XD w b s e) (o : Obj) : XD (w.alloc o) b s e := h.below ((Below.refl _ _).alloc (Nat.le_refl _) o) h.lt
theorem rd_alloc {w : World} {b : Nat} {s : ByteArray} {e : Int} {g : Bool} (h : RD w b s e g) (o : Obj) : RD (w.alloc o) b s e g := h.below ((Below.refl _ _).alloc (Nat.le_refl _) o) h.lt
theorem cell_alloc_lt {w : World} {b o : Nat} {v : Value} {x : Obj} (h : b < w.heap.size) (hc : w.cell? ⟨b, o, none⟩ = some v) : (w.alloc x).cell? ⟨b, o, none⟩ = some v :=
  (((Below.refl _ _).alloc (Nat.le_refl _) x).cell (p := ⟨b, o, none⟩) h).trans hc
theorem only_cell {nb b o : Nat} {w w' : World} (h : Only nb w w') (hne : b ≠ nb) : w'.cell? ⟨b, o, none⟩ = w.cell? ⟨b, o, none⟩ := World.cell?_of_block (h.block b hne)
theorem only_set2 (w : World) (nb : Nat) (x y : Value) : Only nb w ((w.setCell ⟨nb, 0, none⟩ x).setCell ⟨nb, 1, none⟩ y) := (Only.setCell _ _ _ _).trans (Only.setCell _ _ _ _)
/-- The calls of a law's list: kinds and numbers. -/
structure Acts (w : World) (oa : Option Addr) (len : Nat) (kd nm : Nat → Int) : Prop where
  head : 0 < len → ∃ b off, oa = some ⟨b, off, none⟩
  lt : ∀ b off, oa = some ⟨b, off, none⟩ → 0 < len → b < w.heap.size
  kind : ∀ b off i, oa = some ⟨b, off, none⟩ → i < len → w.cell? ⟨b, off + i * 2, none⟩ = some (.int .i64 (kd i))
  num : ∀ b off i, oa = some ⟨b, off, none⟩ → i < len → w.cell? ⟨b, off + i * 2 + 1, none⟩ = some (.int .i64 (nm i))
theorem Acts.below {w w' : World} {oa : Option Addr} {len : Nat} {kd nm : Nat → Int} (h : Acts w oa len kd nm) (hb : Below w.heap.size w w') : Acts w' oa len kd nm :=
  ⟨h.head, fun b off e hl => Nat.lt_of_lt_of_le (h.lt b off e hl) hb.size,
    fun b off i e hi => by rw [hb.cell (p := ⟨b, _, none⟩) (h.lt b off e (by omega))]; exact h.kind b off i e hi,
    fun b off i e hi => by rw [hb.cell (p := ⟨b, _, none⟩) (h.lt b off e (by omega))]; exact h.num b off i e hi⟩
end Go.Proofs.Ytdhfpgkncglgoaa
