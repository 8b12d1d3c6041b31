import Derived.Test.YtdhfpgkncglgoaaRd
namespace Go.Proofs.Ytdhfpgkncglgoaa
open Go.RowKit

/-- A byte as a cell. -/
def u8c (c : UInt8) : Value := .int .u8 c.toNat
theorem info5 : (Try.prog.info? 5).map (fun i => (i.zero, i.size, i.bytes)) = some (some (.int .u8 0), 1, 1) := by kernel_rfl

theorem conv_own {w : World} {base : Nat} {v : Value} {n : Nat} {l : List UInt8} (hn : 0 < l.length) (h : w.ownsRow base 5 1 v n (l.map u8c)) :
    (convert 60 9 v).run Try.prog w = .ok (.string ⟨l.toArray⟩) w := by
  have hl := h.1
  simp at hl
  rcases h.2 with ⟨rfl, rfl⟩ | ⟨g, cap, cur, rfl, _⟩
  · omega
  · subst hl
    refine run_convert_bytes_back w 60 9 5 ⟨g, 0, none⟩ cap l Try.underlying60 Try.underlying5 Try.underlying9 (fun j hj => ?_)
    exact h.cells (g := g) rfl j _ (by simp [hj, u8c])

theorem wrapu (n : Int) (h : n < 0) (h1 : -9223372036854775808 ≤ n) : bits .xor .u64 IntKind.u64.max (IntKind.u64.wrap (IntKind.u64.wrap n * 2)) = ((zig n : Nat) : Int) := by
  have e : IntKind.u64.wrap (IntKind.u64.wrap n * 2) = ((18446744073709551616 - (-2 * n).toNat : Nat) : Int) := by
    rw [IntKind.wrap_u64, IntKind.wrap_u64]; omega
  rw [e, bits_not _ (by omega)]
  unfold zig; rw [if_pos h]; omega
theorem wrapp (n : Int) (h : ¬ n < 0) (h1 : n ≤ 9223372036854775807) : IntKind.u64.wrap (IntKind.u64.wrap n * 2) = ((zig n : Nat) : Int) := by
  rw [IntKind.wrap_u64, IntKind.wrap_u64]
  unfold zig; rw [if_neg h]; omega

def AppPost (dst : ByteArray) (n : Int) (w : World) (e : Ending) (w' : World) : Prop :=
  e = .returned (.string ⟨(dst.data.toList ++ enc (zig n)).toArray⟩) ∧ Below w.heap.size w w'

def Rel (n : Int) (w : World) (u : Value) (b : Value) (wr : World) : Prop :=
  ∃ (v : Nat) (l : List UInt8), v < 18446744073709551616 ∧ u = .int .u64 v ∧ l.length + (enc v).length ≤ 10 ∧ wr.ownsRow w.heap.size 5 1 b l.length (l.map u8c) ∧ Below w.heap.size w wr ∧ l ++ enc v = enc (zig n)

theorem byte_more (v : Nat) (hv : v < 18446744073709551616) (h : 127 < v) :
    ∃ c : UInt8, bits .or .u8 (bits .and .u64 (v : Int) 127 % 256) 128 = (c.toNat : Int) ∧ enc v = c :: enc (v / 128) := by
  refine ⟨UInt8.ofNat (v % 128 + 128), ?_, enc_ge (by omega)⟩
  have h1 : bits .and .u64 (v : Int) 127 = ((v % 128 : Nat) : Int) := by
    rw [show (127 : Int) = ((127 : Nat) : Int) from rfl, u64_and_nat _ _ hv (by omega), nat_mask7]
  rw [h1, u8_or128_right _ (by omega) (by omega)]
  simp; omega
theorem byte_last (v : Nat) (h : ¬ 127 < v) : ∃ c : UInt8, Value.int .u8 (v : Int) = u8c c ∧ enc v = [c] := by
  refine ⟨UInt8.ofNat v, ?_, enc_lt (by omega)⟩
  unfold u8c
  simp; omega
theorem conv_last {w w1 : World} {v : Nat} {l : List UInt8} {v' : Value} {c : UInt8} (hc : Value.int .u8 (v : Int) = u8c c)
    (h : w1.ownsRow w.heap.size 5 1 v' (l.length + 1) (l.map u8c ++ [.int .u8 (v : Int)])) :
    (convert 60 9 v').run Try.prog w1 = .ok (.string ⟨(l ++ [c]).toArray⟩) w1 := by
  rw [hc] at h
  exact conv_own (l := l ++ [c]) (by simp) (by simpa using h)
theorem rel_more {n : Int} {w wr w1 : World} {v : Nat} {l : List UInt8} {v' : Value} {c : UInt8} (hv : v < 18446744073709551616) (hb : Below w.heap.size w wr) (hb1 : Below w.heap.size wr w1)
    (hc2 : enc v = c :: enc (v / 128)) (hown : w1.ownsRow w.heap.size 5 1 v' (l.length + 1) (l.map u8c ++ [.int .u8 c.toNat]))
    (hl : l.length + (enc v).length ≤ 10) (he : l ++ enc v = enc (zig n)) : Rel n w (.int .u64 ((v : Int) / 128)) v' w1 := by
  refine ⟨v / 128, l ++ [c], by omega, by congr 1, ?_, ?_, hb.trans hb1, ?_⟩
  · rw [hc2] at hl; simp at hl ⊢; omega
  · simpa [u8c] using hown
  · rw [List.append_assoc, ← he, hc2]; rfl

theorem str_app (a : ByteArray) (l : List UInt8) : a ++ (⟨l.toArray⟩ : ByteArray) = ⟨(a.data.toList ++ l).toArray⟩ := by
  apply ByteArray.ext
  rw [ByteArray.data_append]
  apply Array.toList_inj.1
  simp
theorem app_fin {dst : ByteArray} {n : Int} {w wr w1 : World} {v : Nat} {l : List UInt8} {c : UInt8} (hc : enc v = [c]) (he : l ++ enc v = enc (zig n)) (hb : Below w.heap.size w wr) (hb1 : Below w.heap.size wr w1) :
    AppPost dst n w (.returned (.string (dst ++ ⟨(l ++ [c]).toArray⟩))) w1 := by
  refine ⟨?_, hb.trans hb1⟩
  rw [str_app, ← he, hc]

set_option maxRecDepth 100000 in
set_option maxHeartbeats 400000 in
theorem app_any (dst : ByteArray) (n : Int) (w : World) (h1 : -9223372036854775808 ≤ n) (h2 : n ≤ 9223372036854775807) (hd : dst.size ≤ 1000000000000) :
    Calls Try.prog 11 #[.string dst, .int .i64 n] w (AppPost dst n w) := by
  have hz := zig_lt n h1 h2
  by_cases hn : n < 0
  · have hw1 := wrapu n hn h1
    go_enter Try.func11, Try.ntmps11
    go_wp2
    clear hw1
    go_loopw [5, 6] (fun u b wr => Rel n w u b wr) (fun u _ _ => (intOf u).toNat)
    case atStart => exact ⟨zig n, [], hz, rfl, by have := (enc_len10 _ hz).2; simpa using this, World.ownsRow_nil _ _ _ _, Below.refl _ _, rfl⟩
    case round =>
      obtain ⟨v, l, hv, rfl, hlen, hown, hb, heq⟩ := hrel
      have hl10 : l.length ≤ 10 := by omega
      have Heq := hid heq
      have Hlen := hid hlen
      clear heq hlen hz
      by_cases hlt : 127 < v
      · obtain ⟨c, hc1, hc2⟩ := byte_more v hv hlt
        have Hc := hid hc2
        clear hc2
        go_wp2_with (at_builtin; refine app_one rfl _ _ 60 rfl w.heap.size 5 (.int .u8 0) 1 1 Try.underlying60 info5 rfl (by decide) (by decide) _ _ _ rfl hown [.int .u8 c.toNat] rfl rfl (by simp [Value.oneCell']) (by omega) hb.size ?_; intro v' w1 hown1 hb1 hne)
        go_roundw
        case rel => exact rel_more hv hb hb1 Hc.out hown1 Hlen.out Heq.out
        case measure => simp [intOf]; omega
      · obtain ⟨c, hc1, hc2⟩ := byte_last v hlt
        have Hc := hid hc2
        have Hc1 := hid hc1
        clear hc2 hc1
        go_wp2_with (at_builtin; refine app_one rfl _ _ 60 rfl w.heap.size 5 (.int .u8 0) 1 1 Try.underlying60 info5 rfl (by decide) (by decide) _ _ _ rfl hown [.int .u8 v] rfl rfl (by simp [Value.oneCell']) (by omega) hb.size ?_; intro v' w1 hown1 hb1 hne; have hcv := conv_last Hc1.out hown1)
        go_ret
        exact app_fin Hc.out Heq.out hb hb1
  · 
    go_enter Try.func11, Try.ntmps11
    go_wp2
    go_loopw [5, 6] (fun u b wr => Rel n w u b wr) (fun u _ _ => (intOf u).toNat)
    case atStart => exact ⟨zig n, [], hz, by congr 1; unfold zig; rw [if_neg (by omega)]; omega, by have := (enc_len10 _ hz).2; simpa using this, World.ownsRow_nil _ _ _ _, Below.refl _ _, rfl⟩
    case round =>
      obtain ⟨v, l, hv, rfl, hlen, hown, hb, heq⟩ := hrel
      have hl10 : l.length ≤ 10 := by omega
      have Heq := hid heq
      have Hlen := hid hlen
      clear heq hlen hz
      by_cases hlt : 127 < v
      · obtain ⟨c, hc1, hc2⟩ := byte_more v hv hlt
        have Hc := hid hc2
        clear hc2
        go_wp2_with (at_builtin; refine app_one rfl _ _ 60 rfl w.heap.size 5 (.int .u8 0) 1 1 Try.underlying60 info5 rfl (by decide) (by decide) _ _ _ rfl hown [.int .u8 c.toNat] rfl rfl (by simp [Value.oneCell']) (by omega) hb.size ?_; intro v' w1 hown1 hb1 hne)
        go_roundw
        case rel => exact rel_more hv hb hb1 Hc.out hown1 Hlen.out Heq.out
        case measure => simp [intOf]; omega
      · obtain ⟨c, hc1, hc2⟩ := byte_last v hlt
        have Hc := hid hc2
        have Hc1 := hid hc1
        clear hc2 hc1
        go_wp2_with (at_builtin; refine app_one rfl _ _ 60 rfl w.heap.size 5 (.int .u8 0) 1 1 Try.underlying60 info5 rfl (by decide) (by decide) _ _ _ rfl hown [.int .u8 v] rfl rfl (by simp [Value.oneCell']) (by omega) hb.size ?_; intro v' w1 hown1 hb1 hne; have hcv := conv_last Hc1.out hown1)
        go_ret
        exact app_fin Hc.out Heq.out hb hb1
end Go.Proofs.Ytdhfpgkncglgoaa
