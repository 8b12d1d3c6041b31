/- The reference's parser: what its reader answers. -/
import Derived.Test.YtfljnigbfacmjaaDoorPut
namespace Go.Proofs.YtfljnigbfacmjaaDoor
open Go Go.RowKit
set_option linter.unusedVariables false

def RPost (r : Rd Ty) (w : World) (e : Ending) (w' : World) : Prop :=
  Below w.heap.size w w' ∧ ∃ u t, TV (fun g => w.heap.size ≤ g) w' u t ∧
    ((∃ p' : Nat, r = .ok (t, p') ∧ e = .returned (.tuple #[u, .int .i64 p', dg 0 0])) ∨ (∃ (ek : Int) (at' : Nat), r = .error (ek, at') ∧ e = .returned (.tuple #[u, .int .i64 0, dg ek at'])))
def robjP (s : ByteArray) (rd : Nat → Rd Ty) (p : Nat) : Rd Ty := match signP s p 123 with
  | .error e => .error e
  | .ok q => objP s rd q
def RReadAt (s : ByteArray) (f : Nat) : Prop := ∀ (w : World) (p : Nat), p ≤ s.size → Calls Tryd.prog 35 #[.string s, .int .i64 p, .int .i64 (33 - f)] w (RPost (readP s f p) w)
def RObjAt (s : ByteArray) (f : Nat) : Prop := ∀ (w : World) (p : Nat), p ≤ s.size → Calls Tryd.prog 61 #[.string s, .int .i64 p, .int .i64 (32 - f)] w (RPost (robjP s (readP s f) p) w)
theorem robj_1 {s : ByteArray} {rd : Nat → Rd Ty} {p : Nat} {e : Int × Nat} (h : signP s p 123 = .error e) : robjP s rd p = .error e := by unfold robjP; rw [h]
theorem robj_2 {s : ByteArray} {rd : Nat → Rd Ty} {p q : Nat} (h : signP s p 123 = .ok q) : robjP s rd p = objP s rd q := by unfold robjP; rw [h]
theorem name_end {s : ByteArray} {p : Nat} {ns : List ByteArray} (h : s.size ≤ skipN s p) : nameP s p ns = .error (40, skipN s p) := by
  have : nameK s p ns = 40 := by unfold nameK; rw [if_pos h]
  unfold nameP
  rw [this, if_neg (by decide)]
theorem name_bad {s : ByteArray} {p : Nat} {ns : List ByteArray} {k : Int} (h : nameK s p ns = k) (hk : k ≠ 0) : nameP s p ns = .error (k, skipN s p) := by
  unfold nameP
  rw [h, if_neg hk]
theorem name_good {s : ByteArray} {p : Nat} {ns : List ByteArray} (h : nameK s p ns = 0) : nameP s p ns = .ok (nameX s p, wordE s (skipN s p)) := by
  unfold nameP
  rw [if_pos h]
theorem obj_end {s : ByteArray} {rd : Nat → Rd Ty} {p : Nat} (hp : p ≤ s.size) (h : ¬ skipN s p < s.size) : objP s rd p = loopP s rd (s.size + 1) (skipN s p) [] [] := by
  have h1 := skipN_ge hp
  have h2 : skipN s p = s.size := by omega
  have h3 : readyP s p = .error (40, s.size) := by unfold readyP; rw [if_neg h, h2]
  rw [objP_1 h3, h2, loopP_1 (name_end (by rw [skip_end]; exact Nat.le_refl _)), skip_end]
theorem sign_end (s : ByteArray) (c : Nat) : signP s s.size c = .error (40, s.size) := by
  unfold signP
  have h : sgnB s s.size c = false := by unfold sgnB; rw [skip_end, decide_eq_false (by omega)]; rfl
  have h2 : sgnE s s.size = 40 := by unfold sgnE; rw [skip_end, if_neg (by omega)]
  rw [h, if_neg (by decide), skip_end, h2]
end Go.Proofs.YtfljnigbfacmjaaDoor
