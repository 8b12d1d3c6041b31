/- What was appended is read: the plain law; lists of items. -/
import Derived.Test.YtdhfpgkncglgoaaOpen
import Derived.Deep.Strs
namespace Go.Proofs.Ytdhfpgkncglgoaa
open Go.ChangeShapes Go.WideShapes Go.ChangeAt Go.RowKit Go.Deep
set_option linter.unusedVariables false

theorem ba_of (s : ByteArray) : bs s.data.toList = s := ba_ext rfl
theorem numOf_back (n : Int) (h1 : -9223372036854775808 ≤ n) (h2 : n ≤ 9223372036854775807) (r : List UInt8) :
    numOf (bs (enc (zig n) ++ r)) = (n, bs r, 0) := by
  unfold numOf
  rw [bs_list, groupOf_enc _ (zig_lt n h1 h2), zag_zig]
  simp only [if_true]
  congr 2
  apply ba_ext
  rw [ext_list, bs_list, bs_list, bs_size, List.take_length]
  simp
theorem strOf_back (s : ByteArray) (hs : s.size ≤ 9223372036854775807) (r : List UInt8) :
    strOf (bs (enc (zig s.size) ++ (s.data.toList ++ r))) = (s, bs r, 0) := by
  unfold strOf
  rw [bs_list, sizeOfL_enc _ hs]
  simp only
  have hl := size_list s
  rw [if_neg (by simp), if_neg (by rw [bs_size]; simp; omega)]
  simp only [Int.toNat_natCast]
  have h1 : ((bs (enc (zig s.size) ++ (s.data.toList ++ r))).extract (enc (zig s.size)).length (bs (enc (zig s.size) ++ (s.data.toList ++ r))).size) = bs (s.data.toList ++ r) := by
    apply ba_ext
    rw [ext_list, bs_list, bs_list, bs_size, List.take_length]
    simp
  rw [h1]
  have h2 : (bs (s.data.toList ++ r)).extract 0 s.size = s := by
    apply ba_ext
    rw [ext_list, bs_list, List.drop_zero]
    rw [← hl]; simp
  have h3 : (bs (s.data.toList ++ r)).extract s.size (bs (s.data.toList ++ r)).size = bs r := by
    apply ba_ext
    rw [ext_list, bs_list, bs_list, bs_size, List.take_length]
    rw [← hl]; simp
  rw [h2, h3]

/-- One item's encoding; the encodings of the items from i on, n of them. -/
def encItem (tx : Nat → Bool) (nm : Nat → Int) (st : Nat → ByteArray) (i : Nat) : List UInt8 :=
  if tx i then enc (zig (st i).size) ++ (st i).data.toList else enc (zig (nm i))
def encFrom (tx : Nat → Bool) (nm : Nat → Int) (st : Nat → ByteArray) : Nat → Nat → List UInt8
  | _, 0 => []
  | i, n + 1 => encItem tx nm st i ++ encFrom tx nm st (i + 1) n
theorem encFrom_snoc (tx : Nat → Bool) (nm : Nat → Int) (st : Nat → ByteArray) : ∀ n i, encFrom tx nm st i (n + 1) = encFrom tx nm st i n ++ encItem tx nm st (i + n) := by
  intro n
  induction n with
  | zero => intro i; simp [encFrom]
  | succ n ih =>
    intro i
    rw [encFrom, ih (i + 1), encFrom, List.append_assoc]
    congr 3
    omega
theorem encItem_len (tx : Nat → Bool) (nm : Nat → Int) (st : Nat → ByteArray) (i : Nat) (h1 : -9223372036854775808 ≤ nm i) (h2 : nm i ≤ 9223372036854775807) (h3 : (st i).size ≤ 200) :
    (encItem tx nm st i).length ≤ 210 := by
  unfold encItem
  split
  · have := enc_zig_len ((st i).size : Int) (by omega) (by omega)
    simp; omega
  · have := enc_zig_len (nm i) h1 h2; omega
theorem encFrom_len (tx : Nat → Bool) (nm : Nat → Int) (st : Nat → ByteArray) : ∀ n i, (∀ j, i ≤ j → j < i + n → (encItem tx nm st j).length ≤ 210) → (encFrom tx nm st i n).length ≤ 210 * n := by
  intro n
  induction n with
  | zero => intro i _; simp [encFrom]
  | succ n ih =>
    intro i h
    have h0 := h i (by omega) (by omega)
    have h1 := ih (i + 1) (fun j hj hj' => h j (by omega) (by omega))
    simp [encFrom]; omega

/-- The items of a law's list. -/
structure Items (w : World) (oa : Option Addr) (len : Nat) (tx : Nat → Bool) (nm : Nat → Int) (st : Nat → ByteArray) : Prop where
  head : 0 < len → ∃ b off, oa = some ⟨b, off, none⟩
  lt : ∀ b off, oa = some ⟨b, off, none⟩ → 0 < len → b < w.heap.size
  text : ∀ b off i, oa = some ⟨b, off, none⟩ → i < len → w.cell? ⟨b, off + i * 3, none⟩ = some (.bool (tx i))
  num : ∀ b off i, oa = some ⟨b, off, none⟩ → i < len → w.cell? ⟨b, off + i * 3 + 1, none⟩ = some (.int .i64 (nm i))
  str : ∀ b off i, oa = some ⟨b, off, none⟩ → i < len → w.cell? ⟨b, off + i * 3 + 2, none⟩ = some (.string (st i))
  numlo : ∀ i, i < len → -9223372036854775808 ≤ nm i
  numhi : ∀ i, i < len → nm i ≤ 9223372036854775807
  strlen : ∀ i, i < len → (st i).size ≤ 9223372036854775807
theorem Items.below {w w' : World} {oa : Option Addr} {len : Nat} {tx : Nat → Bool} {nm : Nat → Int} {st : Nat → ByteArray} (h : Items w oa len tx nm st) (hb : Below w.heap.size w w') : Items w' oa len tx nm st :=
  ⟨h.head, fun b off e hl => Nat.lt_of_lt_of_le (h.lt b off e hl) hb.size,
    fun b off i e hi => by rw [hb.cell (p := ⟨b, _, none⟩) (h.lt b off e (by omega))]; exact h.text b off i e hi,
    fun b off i e hi => by rw [hb.cell (p := ⟨b, _, none⟩) (h.lt b off e (by omega))]; exact h.num b off i e hi,
    fun b off i e hi => by rw [hb.cell (p := ⟨b, _, none⟩) (h.lt b off e (by omega))]; exact h.str b off i e hi, h.numlo, h.numhi, h.strlen⟩

theorem open_items {H : Type} {enc : TypeId × Value → H} {W : World} {v : Value} {d : DataW H} {p : List MemPlace} {base : Nat}
    (hv : Value.okWide Try.prog W .any base 26 v) (h : DataW.Trod enc Try.prog W 0 (fun _ => true) true 26 v d p) :
    ∃ (oa : Option Addr) (len cap : Nat) (tx : Nat → Bool) (nm : Nat → Int) (st : Nat → ByteArray), v = .slice oa len cap ∧ len ≤ maxLen ∧ Items W oa len tx nm st := by
  obtain ⟨a0, len0, cap0, rfl⟩ := okWide_slice Try.underlying26 hv
  obtain ⟨fuel, hf⟩ := h
  rcases open_slice Try.underlying26 hf with ⟨hcs, hx⟩ | ⟨a, len, cap, m, n, D, Pl, hcs, hb, hl, hm, hmm, hx, hel⟩
  · have : Value.slice a0 len0 cap0 = .slice none 0 0 := by simpa [Value.cells] using hcs
    exact ⟨none, 0, 0, fun _ => false, fun _ => 0, fun _ => ByteArray.empty, this, by simp [maxLen], ⟨fun h => by omega, fun _ _ _ h => by omega, fun _ _ _ _ h => by omega, fun _ _ _ _ h => by omega, fun _ _ _ _ h => by omega, fun _ h => by omega, fun _ h => by omega, fun _ h => by omega⟩⟩
  · have hv' : Value.slice a0 len0 cap0 = .slice (some a) len cap := by simpa [Value.cells] using hcs
    have key : ∀ i, i < len → ∃ (z : Bool × Int × ByteArray), W.cell? (a.add (i * 3)) = some (.bool z.1) ∧ W.cell? ((a.add (i * 3)).add 1) = some (.int .i64 z.2.1) ∧ W.cell? ((a.add (i * 3)).add 2) = some (.string z.2.2) ∧
        (Lit.int .i64 z.2.1).wf = true ∧ z.2.2.size ≤ maxLen := by
      intro i hi
      obtain ⟨cs, h1, h2⟩ := hel i (by rw [hmm]; simp; omega)
      rw [cells26] at h1
      obtain ⟨_, hlen, hc⟩ := World.cells?_some h1
      match cs, hlen with
      | [u0, u1, u2], _ =>
        obtain ⟨y0, y1, y2, m, _, _, t0, t1, t2⟩ := trod_struct3 Try.underlying29 h2
        simp only [c3, c4, c9, List.drop_zero, List.take_succ_cons, List.take_zero, List.drop_succ_cons] at t0 t1 t2
        obtain ⟨x, e0, _⟩ := DataW.trod_bool Try.underlying4 t0
        obtain ⟨y, e1, _, wf⟩ := DataW.trod_int Try.underlying3 t1
        obtain ⟨z, e2, _, ws⟩ := DataW.trod_string Try.underlying9 t2
        simp at e0 e1 e2
        subst e0 e1 e2
        refine ⟨(x, y, z), ?_, ?_, ?_, wf, ws⟩
        · have := hc 0 (by omega)
          simpa [Addr.add] using this
        · exact hc 1 (by omega)
        · exact hc 2 (by omega)
    obtain ⟨f, hf⟩ := choose_lt (α := Bool × Int × ByteArray) key
    refine ⟨some a, len, cap, fun i => (f i).1, fun i => (f i).2.1, fun i => (f i).2.2, hv', Nat.le_trans hl hm, ⟨?_, ?_, ?_, ?_, ?_, ?_, ?_, ?_⟩⟩
    · intro h0
      obtain ⟨cs, h1, h2⟩ := hel 0 (by rw [hmm]; simp; omega)
      rw [cells26] at h1
      have := addr_head h1 (by omega)
      obtain ⟨b, o, sp⟩ := a
      simp at this
      subst this
      exact ⟨b, o, rfl⟩
    · intro b off e h0
      have := (hf 0 h0).1
      have hh := World.block_lt_of_cell? W _ this
      simp at e
      subst e
      simpa [Addr.add] using hh
    · intro b off i e hi
      have := (hf i hi).1
      simp at e
      subst e
      rwa [add_off] at this
    · intro b off i e hi
      have := (hf i hi).2.1
      simp at e
      subst e
      rwa [add_off, add_off] at this
    · intro b off i e hi
      have := (hf i hi).2.2.1
      simp at e
      subst e
      rwa [add_off, add_off] at this
    · intro i hi
      have := (hf i hi).2.2.2.1
      have : -9223372036854775808 ≤ (f i).2.1 ∧ (f i).2.1 ≤ 9223372036854775807 := by simpa [Lit.wf, IntKind.min, IntKind.max, IntKind.signed, IntKind.bits] using this
      exact this.1
    · intro i hi
      have := (hf i hi).2.2.2.1
      have : -9223372036854775808 ≤ (f i).2.1 ∧ (f i).2.1 ≤ 9223372036854775807 := by simpa [Lit.wf, IntKind.min, IntKind.max, IntKind.signed, IntKind.bits] using this
      exact this.2
    · intro i hi
      have := (hf i hi).2.2.2.2
      unfold maxLen at this
      simp at this ⊢
      omega
end Go.Proofs.Ytdhfpgkncglgoaa
