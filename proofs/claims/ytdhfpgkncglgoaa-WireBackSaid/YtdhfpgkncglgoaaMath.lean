/- Plain arithmetic of the encoding: no program in sight. -/
import Derived.Laws.BitsAllLaws
namespace Go.Proofs.Ytdhfpgkncglgoaa

/-- The groups of seven bits of a number, the least first. -/
def enc (u : Nat) : List UInt8 := if h : u < 128 then [UInt8.ofNat u] else UInt8.ofNat (u % 128 + 128) :: enc (u / 128)
termination_by u
decreasing_by omega

def zig (n : Int) : Nat := if n < 0 then (2 * (-n - 1) + 1).toNat else (2 * n).toNat
def zag (u : Nat) : Int := if u % 2 = 1 then -((u / 2 : Nat) : Int) - 1 else ((u / 2 : Nat) : Int)

/-- Reading a number: the number and how many bytes it has, or the error. -/
def dec : List UInt8 → Nat → Nat → Except Int (Nat × Nat)
  | [], _, _ => .error 40
  | c :: r, i, u =>
    if i = 9 ∧ 1 < c.toNat then .error 5
    else if 127 < c.toNat then dec r (i + 1) (u + c.toNat % 128 * 2 ^ (7 * i))
    else if 0 < i ∧ c.toNat = 0 then .error 1
    else .ok (u + c.toNat % 128 * 2 ^ (7 * i), i + 1)

theorem enc_lt {u : Nat} (h : u < 128) : enc u = [UInt8.ofNat u] := by rw [enc]; simp [h]
theorem enc_ge {u : Nat} (h : ¬ u < 128) : enc u = UInt8.ofNat (u % 128 + 128) :: enc (u / 128) := by rw [enc]; simp [h]

theorem zag_zig (n : Int) : zag (zig n) = n := by
  unfold zag zig; split <;> split <;> omega
theorem zig_zag (u : Nat) : zig (zag u) = u := by
  unfold zag zig; split <;> split <;> omega
theorem zig_lt (n : Int) (h1 : -9223372036854775808 ≤ n) (h2 : n ≤ 9223372036854775807) : zig n < 18446744073709551616 := by
  unfold zig; split <;> omega
theorem zag_bd (u : Nat) (h : u < 18446744073709551616) : -9223372036854775808 ≤ zag u ∧ zag u ≤ 9223372036854775807 := by
  unfold zag; split <;> omega

theorem enc_len (j : Nat) : ∀ u, u < 2 ^ (7 * (j + 1)) → 1 ≤ (enc u).length ∧ (enc u).length ≤ j + 1 := by
  induction j with
  | zero => intro u h; rw [enc_lt (by simpa using h)]; simp
  | succ j ih =>
    intro u h
    by_cases hu : u < 128
    · rw [enc_lt hu]; simp
    · rw [enc_ge hu]
      have : u / 128 < 2 ^ (7 * (j + 1)) := by
        rw [Nat.div_lt_iff_lt_mul (by omega)]
        rw [show 7 * (j + 1 + 1) = 7 * (j + 1) + 7 by omega, Nat.pow_add] at h
        simpa using h
      have := ih _ this
      simp only [List.length_cons]; omega
theorem enc_len10 (u : Nat) (h : u < 18446744073709551616) : 1 ≤ (enc u).length ∧ (enc u).length ≤ 10 :=
  enc_len 9 u (Nat.lt_trans h (by decide))

theorem two_pow7 (i : Nat) : 2 ^ (7 * (i + 1)) = 128 * 2 ^ (7 * i) := by
  rw [show 7 * (i + 1) = 7 + 7 * i by omega, Nat.pow_add]

/-- What was encoded is read. -/
theorem dec_enc (r : List UInt8) : ∀ (u i v : Nat), i ≤ 9 → u * 2 ^ (7 * i) < 18446744073709551616 → (0 < i → 0 < u) →
    dec (enc u ++ r) i v = .ok (v + u * 2 ^ (7 * i), i + (enc u).length) := by
  intro u
  induction u using Nat.strongRecOn with
  | _ u ih =>
    intro i v hi hu hpos
    have h9 : i = 9 → u ≤ 1 := by
      rintro rfl; simp at hu; omega
    by_cases hlt : u < 128
    · rw [enc_lt hlt]
      have e : (UInt8.ofNat u).toNat = u := by simp; omega
      simp only [List.cons_append, List.nil_append, dec, e, List.length_cons, List.length_nil]
      rw [if_neg (by omega), if_neg (by omega), if_neg (by omega), Nat.mod_eq_of_lt hlt]
    · rw [enc_ge hlt]
      have e : (UInt8.ofNat (u % 128 + 128)).toNat = u % 128 + 128 := by simp; omega
      have i9 : i < 9 := by
        rcases Nat.lt_or_ge i 9 with h | h
        · exact h
        · have := h9 (by omega); omega
      simp only [List.cons_append, dec, e, List.length_cons]
      rw [if_neg (by omega), if_pos (by omega), ih (u / 128) (by omega) (i + 1) _ (by omega) ?_ (by omega)]
      · have e2 : (u % 128 + 128) % 128 = u % 128 := by omega
        rw [two_pow7, e2]
        have : u % 128 * 2 ^ (7 * i) + u / 128 * (128 * 2 ^ (7 * i)) = u * 2 ^ (7 * i) := by
          rw [← Nat.mul_assoc, ← Nat.add_mul]; congr 1; omega
        congr 2 <;> omega
      · rw [two_pow7, ← Nat.mul_assoc]
        exact Nat.lt_of_le_of_lt (Nat.mul_le_mul_right _ (by omega)) hu

/-- What is read is the encoding of the result. -/
theorem dec_ok : ∀ (l : List UInt8) (i v u k : Nat), i ≤ 9 → dec l i v = .ok (u, k) →
    ∃ m, u = v + m * 2 ^ (7 * i) ∧ k = i + (enc m).length ∧ l = enc m ++ l.drop (k - i) ∧ m * 2 ^ (7 * i) < 18446744073709551616 ∧ (0 < i → 0 < m) := by
  intro l
  induction l with
  | nil => intro i v u k _ h; simp [dec] at h
  | cons c r ih =>
    intro i v u k hi h
    have hc := c.toNat_lt
    unfold dec at h
    by_cases h1 : i = 9 ∧ 1 < c.toNat
    · rw [if_pos h1] at h; cases h
    · rw [if_neg h1] at h
      by_cases h2 : 127 < c.toNat
      · rw [if_pos h2] at h
        obtain ⟨m, hu, hk, hl, hb, hp⟩ := ih (i + 1) _ u k (by omega) h
        have hm := hp (by omega)
        have hd : (c.toNat % 128 + m * 128) / 128 = m := by omega
        have hmod : (c.toNat % 128 + m * 128) % 128 = c.toNat % 128 := by omega
        have he : enc (c.toNat % 128 + m * 128) = c :: enc m := by
          rw [enc_ge (by omega), hd, hmod]
          congr 1
          apply UInt8.toNat_inj.1
          simp; omega
        rw [two_pow7] at hu hb
        refine ⟨c.toNat % 128 + m * 128, ?_, ?_, ?_, ?_, fun _ => by omega⟩
        · rw [hu, Nat.add_mul, Nat.mul_assoc]; omega
        · rw [he, hk, List.length_cons]; omega
        · rw [he, List.cons_append]
          congr 1
          rw [hl]
          rw [show k - i = (k - (i + 1)) + 1 by omega]
          simp [← hl]
        · rw [Nat.add_mul, Nat.mul_assoc]
          have hi8 : i ≤ 8 := by omega
          -- m * 128 * 2^(7i) ≤ 2^64 - 128*2^(7i) since both are multiples
          have hx : c.toNat % 128 * 2 ^ (7 * i) < 128 * 2 ^ (7 * i) := Nat.mul_lt_mul_of_pos_right (by omega) (Nat.two_pow_pos _)
          have hy : (18446744073709551616 : Nat) = 2 ^ (64 - 7 * (i + 1)) * (128 * 2 ^ (7 * i)) := by
            rw [← two_pow7, ← Nat.pow_add, show 64 - 7 * (i + 1) + 7 * (i + 1) = 64 by omega]
          rw [hy] at hb ⊢
          have hz : m < 2 ^ (64 - 7 * (i + 1)) := Nat.lt_of_mul_lt_mul_right hb
          have hw : (m + 1) * (128 * 2 ^ (7 * i)) ≤ 2 ^ (64 - 7 * (i + 1)) * (128 * 2 ^ (7 * i)) := Nat.mul_le_mul_right _ hz
          rw [Nat.add_mul] at hw
          omega
      · rw [if_neg h2] at h
        by_cases h3 : 0 < i ∧ c.toNat = 0
        · rw [if_pos h3] at h; cases h
        · rw [if_neg h3] at h
          simp only [Except.ok.injEq, Prod.mk.injEq] at h
          obtain ⟨rfl, rfl⟩ := h
          have he : enc c.toNat = [c] := by
            rw [enc_lt (by omega)]; simp
          refine ⟨c.toNat, by rw [Nat.mod_eq_of_lt (by omega)], by rw [he]; rfl, by rw [he]; simp, ?_, fun hi' => by omega⟩
          have : i ≤ 8 ∨ i = 9 := by omega
          rcases this with h8 | rfl
          · have h1 : (2:Nat) ^ (7 * i) ≤ 2 ^ 56 := Nat.pow_le_pow_right (by omega) (by omega)
            calc c.toNat * 2 ^ (7 * i) ≤ 127 * 2 ^ 56 := Nat.mul_le_mul (by omega) h1
              _ < _ := by decide
          · have : c.toNat ≤ 1 := by omega
            simp; omega

/-- A proper prefix of an encoding is truncated. -/
theorem dec_prefix : ∀ (u i v c : Nat), i ≤ 9 → u * 2 ^ (7 * i) < 18446744073709551616 → c < (enc u).length →
    dec ((enc u).take c) i v = .error 40 := by
  intro u
  induction u using Nat.strongRecOn with
  | _ u ih =>
    intro i v c hi hu hc
    by_cases hlt : u < 128
    · rw [enc_lt hlt] at hc ⊢
      have : c = 0 := by simp at hc; omega
      subst this; rfl
    · rw [enc_ge hlt] at hc ⊢
      cases c with
      | zero => rfl
      | succ c =>
        have i9 : i < 9 := by
          rcases Nat.lt_or_ge i 9 with h | h
          · exact h
          · have : i = 9 := by omega
            subst this; simp at hu; omega
        have e : (UInt8.ofNat (u % 128 + 128)).toNat = u % 128 + 128 := by simp; omega
        simp only [List.take_succ_cons, dec, e]
        rw [if_neg (by omega), if_pos (by omega)]
        refine ih (u / 128) (by omega) (i + 1) _ c (by omega) ?_ (by simpa using hc)
        rw [two_pow7, ← Nat.mul_assoc]
        exact Nat.lt_of_le_of_lt (Nat.mul_le_mul_right _ (by omega)) hu

theorem dec_bounds (l : List UInt8) (u k : Nat) (h : dec l 0 0 = .ok (u, k)) : u < 18446744073709551616 ∧ 1 ≤ k ∧ k ≤ 10 ∧ k ≤ l.length ∧ l.take k = enc u := by
  obtain ⟨m, hu, hk, hl, hb, _⟩ := dec_ok l 0 0 u k (by omega) h
  simp at hu hk hl hb
  subst hu
  have := enc_len10 u hb
  have hlen : l.length = (enc u ++ l.drop k).length := by rw [← hl]
  simp at hlen
  refine ⟨hb, by omega, by omega, ?_, ?_⟩
  · have : (enc u).length = k := hk.symm
    rw [hl]; simp; omega
  · rw [hl, hk]; simp

end Go.Proofs.Ytdhfpgkncglgoaa
