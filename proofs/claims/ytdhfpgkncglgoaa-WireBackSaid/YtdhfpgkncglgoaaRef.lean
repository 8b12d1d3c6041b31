import Derived.Test.YtdhfpgkncglgoaaApp
import Derived.Deep.QuietTactic
import Derived.BigQuiet
import Derived.Deep.RegionHeld3
import Derived.StillTactics
import Derived.Handy
namespace Go.Proofs.Ytdhfpgkncglgoaa
open Go.RowKit Go.BigFrame
set_option linter.unusedVariables false

theorem zig_any (n : Int) (w : World) (h1 : -9223372036854775808 ≤ n) (h2 : n ≤ 9223372036854775807) :
    Calls Try.prog 28 #[.int .i64 n] w fun e w' => e = .returned (.int .u64 (zig n)) ∧ w = w' := by
  by_cases hn : n < 0
  · have hz : (zig n : Int) = 2 * (-(n + 1)) + 1 := by unfold zig; rw [if_pos hn]; omega
    rw [hz]
    clear hz
    go_enter Try.func28, Try.ntmps28
    go_wp2
    go_ret
    exact ⟨rfl, rfl⟩
  · have hz : (zig n : Int) = 2 * n := by unfold zig; rw [if_neg hn]; omega
    rw [hz]
    clear hz
    go_enter Try.func28, Try.ntmps28
    go_wp2
    go_ret
    exact ⟨rfl, rfl⟩
theorem zag_any (u : Nat) (w : World) (h1 : u < 18446744073709551616)  :
    Calls Try.prog 35 #[.int .u64 (u : Int)] w fun e w' => e = .returned (.int .i64 (zag u)) ∧ w = w' := by
  by_cases hn : u % 2 = 1
  · have hz : (zag u : Int) = -((u : Int) / 2) - 1 := by unfold zag; rw [if_pos hn]; omega
    have hb : ((u : Int) % 2 == 1) = true := by simp; omega
    rw [hz]
    clear hz
    go_enter Try.func35, Try.ntmps35
    go_wp2
    go_ret
    exact ⟨rfl, rfl⟩
  · have hz : (zag u : Int) = (u : Int) / 2 := by unfold zag; rw [if_neg hn]; omega
    have hb : ((u : Int) % 2 == 1) = false := by simp; omega
    rw [hz]
    clear hz
    go_enter Try.func35, Try.ntmps35
    go_wp2
    go_ret
    exact ⟨rfl, rfl⟩
theorem fail_any (s : ByteArray) (e0 e : Int) (w : World) :
    Calls Try.prog 34 #[.agg #[.string s, .int .i64 e0], .int .i64 e] w fun r w' => r = .returned (.agg #[.string s, .int .i64 e]) ∧ (w.alloc (.cells #[.string s, .int .i64 e0] 40)).alloc (.cells #[.string s, .int .i64 e] 40) = w' := by
  go_enter Try.func34, Try.ntmps34
  go_wp2
  refine bodyPost_ret (v := .agg #[.string s, .int .i64 e]) (by simp [results, Try.results34, go_sem]) rfl ⟨rfl, rfl⟩

theorem or_join' (v c k : Nat) (hv : v < 2 ^ (7 * k)) (hk : k ≤ 8) (hc : c < 256) :
    bits .or .u64 (v : Int) (IntKind.u64.wrap ((c : Int) % 128 * 2 ^ (7 * k))) = ((v + c % 128 * 2 ^ (7 * k) : Nat) : Int) := by
  have hp : (2 : Nat) ^ (7 * k) ≤ 2 ^ 56 := Nat.pow_le_pow_right (by omega) (by omega)
  have hmul : c % 128 * 2 ^ (7 * k) ≤ 127 * 2 ^ 56 := Nat.mul_le_mul (by omega) hp
  have hlt : v + c % 128 * 2 ^ (7 * k) < 18446744073709551616 := by
    have : (2:Nat)^56 + 127 * 2^56 ≤ 18446744073709551615 := by decide
    omega
  rw [IntKind.wrap_u64]
  have hc3 : (c : Int) % 128 * 2 ^ (7 * k) = ((c % 128 * 2 ^ (7 * k) : Nat) : Int) := by rw [Int.natCast_mul, Int.natCast_pow]; rfl
  have e : (c : Int) % 128 * 2 ^ (7 * k) % 18446744073709551616 = ((c % 128 * 2 ^ (7 * k) : Nat) : Int) := by
    rw [hc3]
    exact Int.emod_eq_of_lt (Int.natCast_nonneg _) (by omega)
  rw [e, u64_or_nat _ _ (by omega) (by omega), Nat.or_comm, nat_join (7 * k) _ _ (by simp) hv, Nat.add_comm]
theorem or_join9' (v c : Nat) (hv : v < 2 ^ 63) (hc : c ≤ 1) :
    bits .or .u64 (v : Int) (IntKind.u64.wrap ((c : Int) % 128 * 2 ^ (7 * 9))) = ((v + c % 128 * 2 ^ (7 * 9) : Nat) : Int) := by
  rw [IntKind.wrap_u64]
  have e : (c : Int) % 128 * 2 ^ (7 * 9) % 18446744073709551616 = ((c % 128 * 2 ^ 63 : Nat) : Int) := by
    have : (2 : Int) ^ (7 * 9) = 9223372036854775808 := by decide
    rw [this]; omega
  rw [e, u64_or_nat _ _ (by omega) (by omega), Nat.or_comm, nat_join 63 _ _ (by simp) hv, Nat.add_comm]
theorem or_joinR (v c k : Nat) (hv : v < 2 ^ (7 * k)) (hk : k ≤ 9) (hc : c < 256) (h9 : ¬ (k = 9 ∧ 1 < c)) :
    ∃ u : Nat, u < 18446744073709551616 ∧ bits .or .u64 (v : Int) (IntKind.u64.wrap ((c : Int) % 128 * 2 ^ (7 * k))) = (u : Int) ∧ u = v + c % 128 * 2 ^ (7 * k) := by
  refine ⟨_, ?_, ?_, rfl⟩
  · by_cases h : k = 9
    · subst h; simp at hv; omega
    · exact lt_64 _ _ _ hv (by omega)
  · by_cases h : k = 9
    · subst h; exact or_join9' v c (by simpa using hv) (by omega)
    · exact or_join' v c k hv (by omega) hc

def RNumPost (s : ByteArray) (w : World) (e : Ending) (w' : World) : Prop :=
  e = .returned (.tuple #[.agg #[.string (numOf s).2.1, .int .i64 (numOf s).2.2], .int .i64 (numOf s).1]) ∧ Below w.heap.size w w'

set_option maxRecDepth 100000 in
set_option maxHeartbeats 400000 in
theorem rnum_err (s : ByteArray) (e0 : Int) (w : World) (h : e0 ≠ 0) :
    Calls Try.prog 22 #[.agg #[.string s, .int .i64 e0]] w fun e w' => e = .returned (.tuple #[.agg #[.string s, .int .i64 e0], .int .i64 0]) ∧ Below w.heap.size w w' := by
  have he' : (e0 != 0) = true := by simpa using h
  go_enter Try.func22, Try.ntmps22
  go_wp2_with fail
  refine bodyPost_ret (v := .tuple #[.agg #[.string s, .int .i64 e0], .int .i64 0]) (by simp [results, Try.results22, go_sem]) rfl ⟨rfl, ?_⟩
  exact ((Below.refl _ _).alloc (Nat.le_refl _) _).alloc (by simp) _

theorem numOf_err {s : ByteArray} {k v : Nat} {e : Int} (hd : Hid (dec s.data.toList 0 0 = dec (s.data.toList.drop k) k v)) (h : dec (s.data.toList.drop k) k v = .error e) (he : e ≠ 0) : numOf s = (0, s, e) := by
  unfold numOf groupOf
  rw [hd.out, h]
  simp [he]
theorem numOf_ok {s : ByteArray} {k v u j : Nat} (hd : Hid (dec s.data.toList 0 0 = dec (s.data.toList.drop k) k v)) (h : dec (s.data.toList.drop k) k v = .ok (u, j)) : numOf s = (zag u, s.extract j s.size, 0) := by
  unfold numOf groupOf
  rw [hd.out, h]
  simp
theorem rnum_fin {s : ByteArray} {w w' : World} {n : Int} {s' : ByteArray} {e : Int} (h : numOf s = (n, s', e)) (hb : Below w.heap.size w w') :
    RNumPost s w (.returned (.tuple #[.agg #[.string s', .int .i64 e], .int .i64 n])) w' := by
  refine ⟨?_, hb⟩
  rw [h]

set_option maxRecDepth 100000 in
set_option maxHeartbeats 1000000 in
theorem rnum_ok (s : ByteArray) (w : World) (hs : s.size ≤ 9223372036854775807) :
    Calls Try.prog 22 #[.agg #[.string s, .int .i64 0]] w (RNumPost s w) := by
  go_enter Try.func22, Try.ntmps22
  go_wp2_with fail
  go_loop [4, 5] (fun u i => ∃ k : Nat, ∃ v : Nat, k ≤ s.size ∧ k ≤ 9 ∧ i = .int .i64 k ∧ u = .int .u64 v ∧ v < 2^(7*k) ∧ Hid (dec s.data.toList 0 0 = dec (s.data.toList.drop k) k v)) (fun _ i => s.size - (intOf i).toNat)
  case atStart => exact ⟨0, 0, by omega, by omega, rfl, rfl, by simp, hid (by simp)⟩
  case round =>
    obtain ⟨k, v, hk, hk9, rfl, rfl, hv, hd⟩ := hrel
    by_cases hlt : k < s.size
    · have hc := s[k].toNat_lt
      have Hdc := hid (drop_cons s k hlt)
      by_cases h9 : k = 9 ∧ 1 < s[k].toNat
      · have e9 : ((k : Int) == 9) = true := by simp; omega
        have e1 : (1 : Int) < s[k].toNat := by omega
        have H9 := hid h9
        clear h9
        go_wp2_with (go_at_call 34; refine (fail_any _ _ _ _).mono ?_; rintro e w' ⟨rfl, rfl⟩)
        exact bodyPost_ret (v := .tuple #[.agg #[.string s, .int .i64 5], .int .i64 0]) (by simp [results, Try.results22, go_sem]) rfl
          (rnum_fin (numOf_err hd (by rw [Hdc.out, dec, if_pos H9.out]) (by decide)) (by go_grown))
      · obtain ⟨u, hu, hj, hue⟩ := or_joinR v s[k].toNat k hv hk9 hc h9
        have Hue := hid hue
        have H9n := hid h9
        clear hue
        by_cases h127 : 127 < s[k].toNat
        · have n128 : ¬ ((s[k].toNat : Int) < 128) := by omega
          by_cases h9' : k = 9
          · exfalso; omega
          · have e9 : ((k : Int) == 9) = false := by simp; omega
            have H9 := hid h9'
            clear h9 h9'
            go_wp2_with fail
            go_round
            case rel =>
              refine ⟨k + 1, u, by omega, by have := H9.out; omega, by go_num, rfl, by rw [Hue.out]; exact lt_next _ _ _ hv, hid ?_⟩
              rw [hd.out, Hdc.out, dec, if_neg H9n.out, if_pos h127, Hue.out]
            case measure => simp [intOf]; omega
        · have p128 : ((s[k].toNat : Int) < 128) := by omega
          by_cases h0 : 0 < k ∧ s[k].toNat = 0
          · have z1 : ((s[k].toNat : Int) == 0) = true := by simp; omega
            have p0 : (0 : Int) < (k : Int) := by omega
            have n1 : ¬ ((1 : Int) < s[k].toNat) := by omega
            have H0 := hid h0
            clear h0 h9
            go_wp2_with (go_at_call 34; refine (fail_any _ _ _ _).mono ?_; rintro e w' ⟨rfl, rfl⟩)
            all_goals exact bodyPost_ret (v := .tuple #[.agg #[.string s, .int .i64 1], .int .i64 0]) (by simp [results, Try.results22, go_sem]) rfl (rnum_fin (numOf_err hd (by rw [Hdc.out, dec, if_neg H9n.out, if_neg (by omega), if_pos H0.out]) (by decide)) (by go_grown))
          · have hdec : numOf s = (zag u, s.extract (k + 1) s.size, 0) := numOf_ok hd (by rw [Hdc.out, dec, if_neg h9, if_neg h127, if_neg h0, Hue.out])
            have Hdec := hid hdec
            clear hdec
            have hk1 : ((k : Int) + 1) ≤ (s.size : Int) := by omega
            have hkw : IntKind.i64.wrap ((k : Int) + 1) = (k : Int) + 1 := IntWalk.i64_in _ (by omega)
            have hk0 : (0 : Int) ≤ (k : Int) + 1 := by omega
            have hkn : ((k : Int) + 1).toNat = k + 1 := by omega
            by_cases hp : 0 < k
            · have p0 : (0 : Int) < (k : Int) := by omega
              have z1 : ((s[k].toNat : Int) == 0) = false := by simp; omega
              by_cases h9' : k = 9
              all_goals
                first
                  | have e9 : ((k : Int) == 9) = true := by simp; omega
                  | have e9 : ((k : Int) == 9) = false := by simp; omega
                first
                  | have n1 : ¬ ((1 : Int) < s[k].toNat) := by omega
                  | skip
                have H9 := hid h9'
                clear h9 h9' h0
                go_wp2_with fail
                go_region_held3 (fun w' => w'.cell? ⟨w.heap.size, 0, none⟩ = some (.string s)) (go_keep) (first | (go_at_call 35; refine (zag_any u _ hu).mono ?_; rintro e w' ⟨rfl, rfl⟩))
                go_wp2_with fail
                exact bodyPost_ret (v := .tuple #[.agg #[.string (s.extract (k + 1) s.size), .int .i64 0], .int .i64 (zag u)]) (by simp [results, Try.results22, go_sem]) rfl (rnum_fin Hdec.out (by go_grown))
            · have p0 : ¬ (0 : Int) < (k : Int) := by omega
              have e9 : ((k : Int) == 9) = false := by simp; omega
              clear h9 h0
              go_wp2_with fail
              go_region_held3 (fun w' => w'.cell? ⟨w.heap.size, 0, none⟩ = some (.string s)) (go_keep) (first | (go_at_call 35; refine (zag_any u _ hu).mono ?_; rintro e w' ⟨rfl, rfl⟩))
              go_wp2_with fail
              exact bodyPost_ret (v := .tuple #[.agg #[.string (s.extract (k + 1) s.size), .int .i64 0], .int .i64 (zag u)]) (by simp [results, Try.results22, go_sem]) rfl (rnum_fin Hdec.out (by go_grown))
    · go_wp2_with (go_at_call 34; refine (fail_any _ _ _ _).mono ?_; rintro e w' ⟨rfl, rfl⟩)
      exact bodyPost_ret (v := .tuple #[.agg #[.string s, .int .i64 40], .int .i64 0]) (by simp [results, Try.results22, go_sem]) rfl
          (rnum_fin (numOf_err hd (by rw [List.drop_eq_nil_of_le (by simpa using hlt)]; rfl) (by decide)) (by go_grown))
end Go.Proofs.Ytdhfpgkncglgoaa
