import Derived.Test.YtdhfpgkncglgoaaProg
import Derived.Test.YtdhfpgkncglgoaaMath
import Derived.Test.YtdhfpgkncglgoaaOwn
import Derived.WalkSpells
import Derived.WalkLawsBesides

namespace Go.Proofs.Ytdhfpgkncglgoaa
open Go.RowKit

theorem or_join (v c k : Nat) (hv : v < 2 ^ (7 * k)) (hk : k ≤ 8) (hc : c < 256) :
    bits .or .u64 (v : Int) (IntKind.u64.wrap (IntKind.u64.wrap (bits .and .u8 (c : Int) 127) * 2 ^ (7 * k))) = ((v + c % 128 * 2 ^ (7 * k) : Nat) : Int) := by
  have h1 : bits .and .u8 (c : Int) 127 = ((c % 128 : Nat) : Int) := by
    rw [show (127 : Int) = ((127 : Nat) : Int) from rfl, u8_and_nat _ _ hc (by omega), nat_mask7]
  have hp : (2 : Nat) ^ (7 * k) ≤ 2 ^ 56 := Nat.pow_le_pow_right (by omega) (by omega)
  have hmul : c % 128 * 2 ^ (7 * k) ≤ 127 * 2 ^ 56 := Nat.mul_le_mul (by omega) hp
  have hlt : v + c % 128 * 2 ^ (7 * k) < 18446744073709551616 := by
    have : (2:Nat)^56 + 127 * 2^56 ≤ 18446744073709551615 := by decide
    omega
  rw [h1, IntKind.wrap_u64, IntKind.wrap_u64]
  have hc2 : ((c % 128 : Nat) : Int) % 18446744073709551616 = ((c % 128 : Nat) : Int) := Int.emod_eq_of_lt (by omega) (by omega)
  have hc3 : ((c % 128 : Nat) : Int) * 2 ^ (7 * k) = ((c % 128 * 2 ^ (7 * k) : Nat) : Int) := by rw [Int.natCast_mul, Int.natCast_pow]; rfl
  have e : ((c % 128 : Nat) : Int) % 18446744073709551616 * 2 ^ (7 * k) % 18446744073709551616 = ((c % 128 * 2 ^ (7 * k) : Nat) : Int) := by
    rw [hc2, hc3]
    exact Int.emod_eq_of_lt (Int.natCast_nonneg _) (by omega)
  rw [e, u64_or_nat _ _ (by omega) (by omega), Nat.or_comm, nat_join (7 * k) _ _ (by simp) hv, Nat.add_comm]

theorem or_join9 (v c : Nat) (hv : v < 2 ^ 63) (hc : c ≤ 1) :
    bits .or .u64 (v : Int) (IntKind.u64.wrap (IntKind.u64.wrap (bits .and .u8 (c : Int) 127) * 9223372036854775808)) = ((v + c % 128 * 2 ^ (7 * 9) : Nat) : Int) := by
  have h1 : bits .and .u8 (c : Int) 127 = ((c % 128 : Nat) : Int) := by
    rw [show (127 : Int) = ((127 : Nat) : Int) from rfl, u8_and_nat _ _ (by omega) (by omega), nat_mask7]
  rw [h1, IntKind.wrap_u64, IntKind.wrap_u64]
  have e : ((c % 128 : Nat) : Int) % 18446744073709551616 * 9223372036854775808 % 18446744073709551616 = ((c % 128 * 2 ^ 63 : Nat) : Int) := by
    omega
  rw [e, u64_or_nat _ _ (by omega) (by omega), Nat.or_comm, nat_join 63 _ _ (by simp) hv, Nat.add_comm]

/-- What 'group' returns. -/
def groupOf (l : List UInt8) : Int × Nat × Int := match dec l 0 0 with
  | .error e => (0, 0, e)
  | .ok (u, k) => (zag u, k, 0)
def GroupPost (s : ByteArray) (w : World) (e : Ending) (w' : World) : Prop :=
  e = .returned (.tuple #[.int .i64 (groupOf s.data.toList).1, .int .i64 (groupOf s.data.toList).2.1, .int .i64 (groupOf s.data.toList).2.2]) ∧ w = w'


theorem drop_cons (s : ByteArray) (k : Nat) (h : k < s.size) : s.data.toList.drop k = s[k] :: s.data.toList.drop (k + 1) := by
  rw [List.drop_eq_getElem_cons (by simpa using h)]; rfl

theorem group_fin {s : ByteArray} {w : World} {k v : Nat} {n i e : Int} (hd : Hid (dec s.data.toList 0 0 = dec (s.data.toList.drop k) k v))
    (h : (match dec (s.data.toList.drop k) k v with | .error e => ((0 : Int), (0 : Int), e) | .ok (u, k) => (zag u, (k : Int), 0)) = (n, i, e)) :
    GroupPost s w (.returned (.tuple #[.int .i64 n, .int .i64 i, .int .i64 e])) w := by
  refine ⟨?_, rfl⟩
  have hd := hd.out
  have : groupOf s.data.toList = (n, i.toNat, e) ∧ i = i.toNat := by
    unfold groupOf
    rw [hd]
    revert h
    cases dec (s.data.toList.drop k) k v with
    | error e' => simp; intro h1 h2 h3; subst h1 h2 h3; simp
    | ok p => obtain ⟨a, b⟩ := p; simp; intro h1 h2 h3; subst h1 h2 h3; simp
  rw [this.1]
  simp only
  rw [← this.2]

theorem group_trunc {s : ByteArray} {w : World} {k v : Nat} (hd : Hid (dec s.data.toList 0 0 = dec (s.data.toList.drop k) k v)) (h : ¬ k < s.size) :
    GroupPost s w (.returned (.tuple #[.int .i64 0, .int .i64 0, .int .i64 40])) w :=
  group_fin hd (by rw [List.drop_eq_nil_of_le (by simpa using h)]; rfl)
theorem group_range {s : ByteArray} {w : World} {v : Nat} (hlt : 9 < s.size) (hd : Hid (dec s.data.toList 0 0 = dec (s.data.toList.drop 9) 9 v)) (h : 1 < s[9].toNat) :
    GroupPost s w (.returned (.tuple #[.int .i64 0, .int .i64 0, .int .i64 5])) w :=
  group_fin hd (by rw [drop_cons s 9 hlt, dec, if_pos ⟨rfl, h⟩])
theorem group_inval {s : ByteArray} {w : World} {k v : Nat} (hlt : k < s.size) (hd : Hid (dec s.data.toList 0 0 = dec (s.data.toList.drop k) k v))
    (hk : 0 < k) (h : ((s[k].toNat : Int) == 0) = true) :
    GroupPost s w (.returned (.tuple #[.int .i64 0, .int .i64 0, .int .i64 1])) w := by
  have h0 : s[k].toNat = 0 := by simpa using h
  exact group_fin hd (by rw [drop_cons s k hlt, dec, if_neg (by omega), if_neg (by omega), if_pos ⟨hk, h0⟩])
theorem bits_and1 (u : Nat) (hu : u < 18446744073709551616) : bits .and .u64 (u : Int) 1 = ((u % 2 : Nat) : Int) := by
  rw [show (1 : Int) = ((1 : Nat) : Int) from rfl, u64_and_nat _ _ hu (by omega), nat_mask1]
theorem bits_not (u : Nat) (hu : u < 18446744073709551616) : bits .xor .u64 IntKind.u64.max (u : Int) = ((18446744073709551615 - u : Nat) : Int) := by
  rw [show IntKind.u64.max = ((18446744073709551615 : Nat) : Int) from rfl, u64_xor_nat _ _ (by omega) hu]
  congr 1
  rw [show (18446744073709551615 : Nat) = 2 ^ 64 - 1 from rfl, Nat.xor_comm]
  apply Nat.eq_of_testBit_eq
  intro i
  rw [show (2 ^ 64 - 1 - u : Nat) = 2 ^ 64 - (u + 1) by omega, Nat.testBit_two_pow_sub_succ (by omega), Nat.testBit_xor, Nat.testBit_two_pow_sub_one]
  by_cases h : i < 64
  · simp [h]
  · have h2 : 2 ^ 64 ≤ 2 ^ i := Nat.pow_le_pow_right (by decide) (by omega)
    have : u.testBit i = false := Nat.testBit_lt_two_pow (Nat.lt_of_lt_of_le hu h2)
    simp [h, this]
theorem group_ok {s : ByteArray} {w : World} {k v : Nat} {n i : Int} (hlt : k < s.size) (hd : Hid (dec s.data.toList 0 0 = dec (s.data.toList.drop k) k v))
    (h9 : ¬ (k = 9 ∧ 1 < s[k].toNat)) (h127 : s[k].toNat ≤ 127) (h0 : ¬ (0 < k ∧ s[k].toNat = 0)) (hi : i = k + 1)
    (hn : n = zag (v + s[k].toNat % 128 * 2 ^ (7 * k))) :
    GroupPost s w (.returned (.tuple #[.int .i64 n, .int .i64 i, .int .i64 0])) w := by
  subst hi hn
  exact group_fin hd (by rw [drop_cons s k hlt, dec, if_neg h9, if_neg (by omega), if_neg h0]; rfl)
theorem zag_odd (u : Nat) (hu : u < 18446744073709551616) (h : (bits .and .u64 (u : Int) 1 == 1) = true) : wrap64 (bits .xor .u64 IntKind.u64.max ((u : Int) / 2)) = zag u := by
  rw [bits_and1 u hu] at h
  have h : u % 2 = 1 := by simp at h; omega
  rw [show (u : Int) / 2 = ((u / 2 : Nat) : Int) by omega, bits_not _ (by omega)]
  unfold zag wrap64; rw [if_pos h]; omega
theorem zag_even (u : Nat) (hu : u < 18446744073709551616) (h : (bits .and .u64 (u : Int) 1 == 1) = false) : wrap64 ((u : Int) / 2) = zag u := by
  rw [bits_and1 u hu] at h
  have h : ¬ u % 2 = 1 := by simp at h; omega
  unfold zag wrap64; rw [if_neg h]; omega
theorem lt_next (v c k : Nat) (hv : v < 2 ^ (7 * k)) : v + c % 128 * 2 ^ (7 * k) < 2 ^ (7 * (k + 1)) := by
  rw [two_pow7]
  have : c % 128 * 2 ^ (7 * k) ≤ 127 * 2 ^ (7 * k) := Nat.mul_le_mul_right _ (by omega)
  omega
theorem lt_64 (v c k : Nat) (hv : v < 2 ^ (7 * k)) (hk : k ≤ 8) : v + c % 128 * 2 ^ (7 * k) < 18446744073709551616 :=
  Nat.lt_of_lt_of_le (lt_next v c k hv) (by rw [show (18446744073709551616 : Nat) = 2 ^ 64 from rfl]; exact Nat.pow_le_pow_right (by omega) (by omega))

set_option maxRecDepth 100000 in
set_option maxHeartbeats 400000 in
theorem group_any (b : Nat) (s : ByteArray) (w : World) (hs : s.size ≤ 9223372036854775807)
   (hb : w.cell? ⟨b, 0, none⟩ = some (.string s)) :
    Calls Try.prog 33 #[.pointer (some ⟨b,0,none⟩)] w (GroupPost s w) := by
  go_enter Try.func33, Try.ntmps33
  go_wp2
  go_loop [5, 6] (fun u i => ∃ k : Nat, ∃ v : Nat, k ≤ s.size ∧ k ≤ 9 ∧ i = .int .i64 k ∧ u = .int .u64 v ∧ v < 2^(7*k) ∧ Hid (dec s.data.toList 0 0 = dec (s.data.toList.drop k) k v)) (fun _ i => s.size - (intOf i).toNat)
  case atStart => exact ⟨0, 0, by omega, by omega, rfl, rfl, by simp, hid (by simp)⟩
  case round =>
    obtain ⟨k, v, hk, hk9, rfl, rfl, hv, hd⟩ := hrel
    by_cases hlt : k < s.size
    · have hc := s[k].toNat_lt
      by_cases h9 : k = 9
      · subst h9
        by_cases h1 : 1 < s[9].toNat
        · go_wp2
          go_ret3
          exact group_range hlt hd h1
        · go_wp2
          all_goals go_ret3
          · exact group_inval hlt hd (by omega) (by assumption)
          · have hj := or_join9 v s[9].toNat (by simpa using hv) (by omega)
            have h := ‹(bits BinOp.and _ _ _ == 1) = true›
            have h0 : (((s[9].toNat : Nat) : Int) == 0) = false := by assumption
            have h0 : ¬ s[9].toNat = 0 := by simpa using h0
            have hb : v + s[9].toNat % 128 * 2 ^ (7 * 9) < 18446744073709551616 := by simp at hv; omega
            rw [hj] at h
            exact group_ok hlt hd (by omega) (by omega) (by omega) rfl (by rw [hj]; exact zag_odd _ hb h)
          · have hj := or_join9 v s[9].toNat (by simpa using hv) (by omega)
            have h := ‹(bits BinOp.and _ _ _ == 1) = false›
            have h0 : (((s[9].toNat : Nat) : Int) == 0) = false := by assumption
            have h0 : ¬ s[9].toNat = 0 := by simpa using h0
            have hb : v + s[9].toNat % 128 * 2 ^ (7 * 9) < 18446744073709551616 := by simp at hv; omega
            rw [hj] at h
            exact group_ok hlt hd (by omega) (by omega) (by omega) rfl (by rw [hj]; exact zag_even _ hb h)
      · have hj := or_join v s[k].toNat k hv (by omega) hc
        have hb := lt_64 v s[k].toNat k hv (by omega)
        have Hj := hid hj
        have Hb := hid hb
        clear hj hb
        go_wp2
        · go_round
          case rel =>
            refine ⟨k + 1, v + s[k].toNat % 128 * 2 ^ (7 * k), by omega, by omega, by go_num, by rw [Hj.out], lt_next _ _ _ hv, hid ?_⟩
            have h127 : (127 : Int) < s[k].toNat := by assumption
            rw [hd.out, drop_cons s k hlt, dec, if_neg (by omega), if_pos (by omega)]
          case measure => simp [intOf]; omega
        all_goals go_ret3
        · exact group_inval hlt hd (by omega) (by assumption)
        · have h := ‹(bits BinOp.and _ _ _ == 1) = true›
          have h0 : (((s[k].toNat : Nat) : Int) == 0) = false := by assumption
          have h0 : ¬ s[k].toNat = 0 := by simpa using h0
          rw [Hj.out] at h
          exact group_ok hlt hd (by omega) (by omega) (by omega) rfl (by rw [Hj.out]; exact zag_odd _ Hb.out h)
        · have h := ‹(bits BinOp.and _ _ _ == 1) = false›
          have h0 : (((s[k].toNat : Nat) : Int) == 0) = false := by assumption
          have h0 : ¬ s[k].toNat = 0 := by simpa using h0
          rw [Hj.out] at h
          exact group_ok hlt hd (by omega) (by omega) (by omega) rfl (by rw [Hj.out]; exact zag_even _ Hb.out h)
        · have h := ‹(bits BinOp.and _ _ _ == 1) = true›
          rw [Hj.out] at h
          exact group_ok hlt hd (by omega) (by omega) (by omega) rfl (by rw [Hj.out]; exact zag_odd _ Hb.out h)
        · have h := ‹(bits BinOp.and _ _ _ == 1) = false›
          rw [Hj.out] at h
          exact group_ok hlt hd (by omega) (by omega) (by omega) rfl (by rw [Hj.out]; exact zag_even _ Hb.out h)
    · go_wp2
      go_ret3
      exact group_trunc hd hlt
end Go.Proofs.Ytdhfpgkncglgoaa
