/- Values as plain data and as they lie in memory. -/
import Derived.Test.YtibiiafcnaijeaaRow
namespace Go.Proofs.Ytibiiafcnaijeaa
open Go Go.RowKit
set_option linter.unusedVariables false
set_option linter.unusedSimpArgs false

inductive Vl where
  | mk (k n : Int) (s : ByteArray) (is : List Vl) (ks : List ByteArray)
theorem Vl.ind {M : Vl → Prop} (h : ∀ k n s is ks, (∀ e ∈ is, M e) → M (.mk k n s is ks)) (v : Vl) : M v :=
  Vl.rec (motive_1 := M) (motive_2 := fun is => ∀ e ∈ is, M e) (fun k n s is ks ih => h k n s is ks ih) (fun e he => absurd he List.not_mem_nil) (fun e is h1 h2 x hx => (List.mem_cons.1 hx).elim (fun e => e ▸ h1) (h2 x)) v
mutual
def szV : Vl → Nat
  | .mk _ _ _ is _ => 1 + szL is
def szL : List Vl → Nat
  | [] => 0
  | e :: l => szV e + szL l
end
mutual
def kyV : Vl → Nat
  | .mk _ _ _ is ks => ks.length + kyL is
def kyL : List Vl → Nat
  | [] => 0
  | e :: l => kyV e + kyL l
end
theorem szV_pos (v : Vl) : 1 ≤ szV v := by cases v; unfold szV; omega
theorem szV_mem : ∀ {l : List Vl} {e : Vl}, e ∈ l → szV e ≤ szL l
  | x :: l, e, hm => by
    rw [szL]
    rcases List.mem_cons.1 hm with rfl | hm
    · omega
    · have := szV_mem hm; omega
theorem kyV_mem : ∀ {l : List Vl} {e : Vl}, e ∈ l → kyV e ≤ kyL l
  | x :: l, e, hm => by
    rw [kyL]
    rcases List.mem_cons.1 hm with rfl | hm
    · omega
    · have := kyV_mem hm; omega
theorem szL_len : ∀ l : List Vl, l.length ≤ szL l
  | [] => by simp
  | e :: l => by rw [szL]; have := szV_pos e; have := szL_len l; simp; omega
def kdV : Vl → Int
  | .mk k _ _ _ _ => k
/-- null or unknown. -/
def nilV (v : Vl) : Bool := decide (kdV v = 0) || decide (kdV v = 6)
/-! Values in memory -/
abbrev V5 := Value × Value × Value × Value × Value
abbrev pent (r : V5) : Value := .agg #[r.1, r.2.1, r.2.2.1, r.2.2.2.1, r.2.2.2.2]
/-- v reads as rs, five cells each. -/
def QV (P : Nat → Prop) (w : World) (v : Value) (rs : List V5) : Prop := rs.length ≤ 140737488355328 ∧ (
  (rs = [] ∧ ∃ oa c, v = .slice oa 0 c) ∨ ∃ g o c, P g ∧ v = .slice (some ⟨g, o, none⟩) rs.length c ∧
    ∀ (i : Nat) r, rs[i]? = some r → w.cell? ⟨g, o + i * 5, none⟩ = some r.1 ∧ w.cell? ⟨g, o + i * 5 + 1, none⟩ = some r.2.1 ∧ w.cell? ⟨g, o + i * 5 + 2, none⟩ = some r.2.2.1 ∧ w.cell? ⟨g, o + i * 5 + 3, none⟩ = some r.2.2.2.1 ∧ w.cell? ⟨g, o + i * 5 + 4, none⟩ = some r.2.2.2.2)
/-- v reads as the value t; all its blocks are P's. -/
inductive VV (P : Nat → Prop) (w : World) : Value → Vl → Prop where
  | mk (k n : Int) (s : ByteArray) (is : List Vl) (ks : List ByteArray) (vi vk : Value) (rs : List V5) (hs : s.size ≤ 140737488355328) (hk : SV P w vk ks) (hr : QV P w vi rs) (hl : rs.length = is.length)
    (he : ∀ (i : Nat) r e, rs[i]? = some r → is[i]? = some e → VV P w (pent r) e) : VV P w (.agg #[.int .i64 k, .int .i64 n, .string s, vi, vk]) (.mk k n s is ks)
/-- A list of values. -/
def WV (P : Nat → Prop) (w : World) (v : Value) (is : List Vl) : Prop :=
  ∃ rs, QV P w v rs ∧ rs.length = is.length ∧ ∀ (i : Nat) r e, rs[i]? = some r → is[i]? = some e → VV P w (pent r) e
section
variable {P Q : Nat → Prop} {w w' : World} {v vi vk : Value} {k n : Int} {s : ByteArray} {is : List Vl} {ks : List ByteArray} {t : Vl}
theorem VV.mk' (hs : s.size ≤ 140737488355328) (hk : SV P w vk ks) (hi : WV P w vi is) : VV P w (.agg #[.int .i64 k, .int .i64 n, .string s, vi, vk]) (.mk k n s is ks) := by
  obtain ⟨rs, h1, h2, h3⟩ := hi
  exact .mk k n s is ks vi vk rs hs hk h1 h2 h3
theorem VV.out (h : VV P w v (.mk k n s is ks)) : ∃ vi vk, v = .agg #[.int .i64 k, .int .i64 n, .string s, vi, vk] ∧ WV P w vi is ∧ SV P w vk ks ∧ s.size ≤ 140737488355328 := by
  cases h with
  | mk _ _ _ _ _ vi vk rs hs hk hr hl he => exact ⟨vi, vk, rfl, ⟨rs, hr, hl, he⟩, hk, hs⟩
theorem QV.keep {rs : List V5} (h : QV P w v rs) (k : KeepsP P w w') (hq : ∀ g, P g → Q g) : QV Q w' v rs :=
  ⟨h.1, h.2.imp id fun ⟨g, o, c, hp, e, hc⟩ => ⟨g, o, c, hq g hp, e, fun i r hr => ⟨k _ _ _ hp (hc i r hr).1, k _ _ _ hp (hc i r hr).2.1, k _ _ _ hp (hc i r hr).2.2.1, k _ _ _ hp (hc i r hr).2.2.2.1, k _ _ _ hp (hc i r hr).2.2.2.2⟩⟩⟩
theorem VV.keep (h : VV P w v t) (k : KeepsP P w w') (hq : ∀ g, P g → Q g) : VV Q w' v t := by
  induction h with
  | mk k' n' s' is' ks' vi vk rs hs hk hr hl he ih => exact .mk k' n' s' is' ks' vi vk rs hs (hk.keep k hq) (hr.keep k hq) hl ih
theorem WV.keep (h : WV P w v is) (k : KeepsP P w w') (hq : ∀ g, P g → Q g) : WV Q w' v is := by
  obtain ⟨rs, h1, h2, h3⟩ := h
  exact ⟨rs, h1.keep k hq, h2, fun i r e hr he => (h3 i r e hr he).keep k hq⟩
theorem VV.bel (h : VV P w v t) (hb : Below w.heap.size w w') : VV P w' v t := h.keep (KeepsP.below hb) fun _ h => h
theorem WV.bel (h : WV P w v is) (hb : Below w.heap.size w w') : WV P w' v is := h.keep (KeepsP.below hb) fun _ h => h
theorem WV.len (h : WV P w v is) : ∃ oa c, v = .slice oa is.length c := by
  obtain ⟨rs, h1, h2, h3⟩ := h
  rcases h1.2 with ⟨rfl, oa, c, rfl⟩ | ⟨g, o, c, _, rfl, _⟩
  · exact ⟨oa, c, by rw [← h2]; rfl⟩
  · exact ⟨_, c, by rw [h2]⟩
theorem WV.le (h : WV P w v is) : is.length ≤ 140737488355328 := by
  obtain ⟨rs, h1, h2, h3⟩ := h
  have := h1.1
  omega
theorem VV.five {a b c d e : Value} (h : VV P w (.agg #[a, b, c, d, e]) t) : ∃ k n s oi mi ci ok mk ck, a = .int .i64 k ∧ b = .int .i64 n ∧ c = .string s ∧ d = .slice oi mi ci ∧ e = .slice ok mk ck ∧ kdV t = k := by
  obtain ⟨k, n, s, is, ks⟩ := t
  obtain ⟨vi, vk, e1, hI, hK, _⟩ := h.out
  obtain ⟨o1, c1, rfl⟩ := hI.len
  obtain ⟨o2, c2, rfl⟩ := hK.len
  simp only [Value.agg.injEq, Array.mk.injEq, List.cons.injEq, and_true] at e1
  exact ⟨k, n, s, _, _, _, _, _, _, e1.1, e1.2.1, e1.2.2.1, e1.2.2.2.1, e1.2.2.2.2, rfl⟩
theorem WV.at (h : WV P w v is) {j : Nat} (hj : j < is.length) :
    ∃ g o c k' n' s' oi mi ci ok mk ck, v = .slice (some ⟨g, o, none⟩) is.length c ∧ w.cell? ⟨g, o + j * 5, none⟩ = some (.int .i64 k') ∧ w.cell? ⟨g, o + j * 5 + 1, none⟩ = some (.int .i64 n') ∧ w.cell? ⟨g, o + j * 5 + 2, none⟩ = some (.string s') ∧
      w.cell? ⟨g, o + j * 5 + 3, none⟩ = some (.slice oi mi ci) ∧ w.cell? ⟨g, o + j * 5 + 4, none⟩ = some (.slice ok mk ck) ∧ VV P w (.agg #[.int .i64 k', .int .i64 n', .string s', .slice oi mi ci, .slice ok mk ck]) is[j] ∧ kdV is[j] = k' := by
  obtain ⟨rs, h1, h2, h3⟩ := h
  rcases h1.2 with ⟨rfl, _⟩ | ⟨g, o, c, _, rfl, hc⟩
  · simp at h2; omega
  · have hr : rs[j]? = some rs[j] := List.getElem?_eq_getElem (by omega)
    obtain ⟨a1, a2, a3, a4, a5⟩ := hc j _ hr
    have hV := h3 j _ _ hr (List.getElem?_eq_getElem hj)
    obtain ⟨k', n', s', oi, mi, ci, ok, mk, ck, e1, e2, e3, e4, e5, hk⟩ := hV.five
    rw [e1] at a1; rw [e2] at a2; rw [e3] at a3; rw [e4] at a4; rw [e5] at a5
    refine ⟨g, o, c, k', n', s', oi, mi, ci, ok, mk, ck, by rw [h2], a1, a2, a3, a4, a5, ?_, hk⟩
    have hp : pent rs[j] = .agg #[.int .i64 k', .int .i64 n', .string s', .slice oi mi ci, .slice ok mk ck] := by
      unfold pent; rw [e1, e2, e3, e4, e5]
    rw [← hp]; exact hV
theorem WV.nil (P : Nat → Prop) (w : World) : WV P w (.slice none 0 0) [] := ⟨[], ⟨by simp, .inl ⟨rfl, _, _, rfl⟩⟩, rfl, fun i r e h => by simp at h⟩
end
/-- A new block of five cells. -/
theorem box5 (w : World) (a b c d e : Value) (T : Nat) : Below w.heap.size w (w.alloc (.cells #[a, b, c, d, e] T)) ∧ (w.alloc (.cells #[a, b, c, d, e] T)).cell? ⟨w.heap.size, 0, none⟩ = some a ∧ (w.alloc (.cells #[a, b, c, d, e] T)).cell? ⟨w.heap.size, 1, none⟩ = some b ∧ (w.alloc (.cells #[a, b, c, d, e] T)).cell? ⟨w.heap.size, 2, none⟩ = some c ∧
    (w.alloc (.cells #[a, b, c, d, e] T)).cell? ⟨w.heap.size, 3, none⟩ = some d ∧ (w.alloc (.cells #[a, b, c, d, e] T)).cell? ⟨w.heap.size, 4, none⟩ = some e := by
  refine ⟨(Below.refl _ _).alloc (Nat.le_refl _) _, ?_, ?_, ?_, ?_, ?_⟩ <;> simp [World.cell?_alloc_new]
end Go.Proofs.Ytibiiafcnaijeaa
