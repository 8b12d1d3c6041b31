/- What holds while the reader gathers the attributes of an object type. -/
import Derived.Test.YtfljnigbfacmjaaGreatDoorInsT
import Derived.Test.YtfljnigbfacmjaaGreatDoorReads
import Derived.Test.YtfljnigbfacmjaaGreatDoorOne
namespace Go.Proofs.YtfljnigbfacmjaaGreatDoor
open Go Go.RowKit
set_option linter.unusedVariables false

theorem bsGo_le (less : Nat → Bool) : ∀ (f lo hi : Nat), lo ≤ hi → Lib.bsGo less f lo hi ≤ hi
  | 0, lo, hi, h => by simp [Lib.bsGo]; exact h
  | f + 1, lo, hi, h => by
    unfold Lib.bsGo
    split
    · split
      · exact bsGo_le less f _ _ (by omega)
      · exact Nat.le_trans (bsGo_le less f _ _ (by omega)) (by omega)
    · exact h
theorem posN_le (ns : List ByteArray) (x : ByteArray) : posN ns x ≤ ns.length := bsGo_le _ _ _ _ (Nat.zero_le _)

theorem OwnL.chg {B box : Nat} {R C : Nat → Prop} {w w' : World} {v : Value} {ts : List Ty} (h : OwnL B box R w v ts) (hc : Chg C w w') (h1 : ∀ g, v.ownBlock = some g → ¬ C g) (h2 : ∀ g, R g → g ≠ box → ¬ C g) : OwnL B box R w' v ts := by
  obtain ⟨rs, m, l, e⟩ := h
  exact ⟨rs, ⟨owns_keep m.1 hc h1, m.2⟩, l, fun i r t hr ht => (e i r t hr ht).keep (KeepsP.chg hc fun g hg => h2 g hg.1 hg.2.2.1) fun g hg => ⟨hg.1, Nat.lt_of_lt_of_le hg.2.1 hc.size, hg.2.2⟩⟩
theorem OwnL.mono {B box : Nat} {R R' : Nat → Prop} {w : World} {v : Value} {ts : List Ty} (h : OwnL B box R w v ts) (hr : ∀ g, g < w.heap.size → R g → R' g) : OwnL B box R' w v ts := by
  obtain ⟨rs, m, l, e⟩ := h
  exact ⟨rs, m, l, fun i r t h1 h2 => (e i r t h1 h2).mono fun g hg => ⟨hr g hg.2.1 hg.1, hg.2⟩⟩
theorem onlyX_more {X : Nat} {B : Nat → Prop} {u v w : World} (h : OnlyX X u v) (k : Chg B v w) (hB : ∀ i, B i → i = X ∨ u.heap.size ≤ i) : OnlyX X u w :=
  ⟨k.os.trans h.os, k.tape.trans h.tape, k.output.trans h.output, Nat.le_trans h.size k.size, fun i hi hn => (k.block i (Nat.lt_of_lt_of_le hi h.size) fun hb => (hB i hb).elim hn (by omega)).trans (h.block i hi hn)⟩

structure OI (X T : Nat) (w wr : World) (s : ByteArray) (p k q : Int) (nm : ByteArray) (ve vn : Value) (es : List Ty) (ns : List ByteArray) : Prop where
  hX : X < w.heap.size
  hT : T = w.heap.size + 1
  chg : OnlyX X w wr
  z : wr.heap[w.heap.size]? = some (.cells #[.int .i64 0, .slice none 0 0, .slice none 0 0] 30)
  obj : wr.heap[T]? = some (.cells #[.int .i64 6, ve, vn] 30)
  own : OwnL (T + 1) T (fun g => T + 1 ≤ g ∧ vn.ownBlock ≠ some g) wr ve es
  row : Row wr vn ns
  rowT : ∀ g, vn.ownBlock = some g → T + 1 ≤ g
  apart : ∀ g, vn.ownBlock = some g → ve.ownBlock ≠ some g
  small : ∀ x ∈ ns, x.size ≤ 140737488355328
  rd : RD wr X s p k q nm
section
variable {X T : Nat} {w wr w' : World} {s nm nm' : ByteArray} {p p' k k' q q' : Int} {ve vn ve' vn' : Value} {es es' : List Ty} {ns ns' : List ByteArray}
theorem OI.tlt (h : OI X T w wr s p k q nm ve vn es ns) : T < wr.heap.size := (Array.getElem?_eq_some_iff.1 h.obj).1
theorem OI.sv (h : OI X T w wr s p k q nm ve vn es ns) (hl : ns.length ≤ 140737488355328) : SV (fun g => T + 1 ≤ g) wr vn ns := by
  refine ⟨⟨by simpa using hl, ?_⟩, h.small⟩
  rcases h.row with ⟨h1, h2⟩ | ⟨g, pad, h1, hh, _⟩
  · exact .inl ⟨by rw [h2]; rfl, none, 0, h1⟩
  · refine .inr ⟨g, 0, _, h.rowT g (by rw [h1]; rfl), by rw [List.length_map]; exact h1, fun i u hu => row_get hh i u hu⟩
theorem OI.tv (h : OI X T w wr s p k q nm ve vn es ns) (hl : ns.length ≤ 140737488355328) (hl2 : es.length ≤ 140737488355328) : TV (fun g => T + 1 ≤ g) wr (.agg #[.int .i64 6, ve, vn]) (.mk 6 es ns) :=
  TV.mk' (h.sv hl) ((h.own.mono (R' := fun g => T + 1 ≤ g) fun g _ hg => hg.1).read (fun g hg => hg) hl2)
/-- Only the reader changes. -/
theorem OI.only (h : OI X T w wr s p k q nm ve vn es ns) (hc : OnlyX X wr w') (hr : RD w' X s p' k' q' nm') : OI X T w w' s p' k' q' nm' ve vn es ns := by
  have hX := h.hX
  have hT := h.hT
  have hz := (Array.getElem?_eq_some_iff.1 h.z).1
  refine ⟨hX, hT, h.chg.trans hc, ?_, ?_, ?_, ?_, h.rowT, h.apart, h.small, hr⟩
  · exact (hc.block _ hz (by omega)).trans h.z
  · exact (hc.block _ h.tlt (by omega)).trans h.obj
  · exact h.own.chg hc (fun g hg e => by have := (h.own.block hg).1; omega) (fun g hg _ e => by have := hg.1; omega)
  · exact h.row.chg hc fun g hg e => by have := h.rowT g hg; omega
/-- New blocks. -/
theorem OI.later (h : OI X T w wr s p k q nm ve vn es ns) (hb : Below wr.heap.size wr w') : OI X T w w' s p k q nm ve vn es ns := h.only (Chg.below hb) (h.rd.bel hb)
theorem OI.insN (h : OI X T w wr s p k q nm ve vn es ns) (hrow : Row w' vn' ns') (hp : vn'.ownBlock = vn.ownBlock ∨ ∃ g, vn'.ownBlock = some g ∧ wr.heap.size ≤ g) (hc : Chg (fun k => vn.ownBlock = some k) wr w')
    (hsm : ∀ x ∈ ns', x.size ≤ 140737488355328) : OI X T w (w'.setCell ⟨T, 2, none⟩ vn') s p k q nm ve vn' es ns' := by
  have hX := h.hX
  have hT := h.hT
  have hz := (Array.getElem?_eq_some_iff.1 h.z).1
  have ht := h.tlt
  have hXl := h.rd.lt
  have hc2 : Chg (fun k => k = T) w' (w'.setCell ⟨T, 2, none⟩ vn') := Chg.setCell w' T 2 vn' rfl
  have hno : ∀ k, k ≤ T → ¬ vn.ownBlock = some k := fun k hk e => by have := h.rowT k e; omega
  have hnew : ∀ g, vn'.ownBlock = some g → T + 1 ≤ g := fun g hg => by
    rcases hp with e | ⟨g', e, hg'⟩
    · exact h.rowT g (e ▸ hg)
    · rw [e] at hg; cases hg; omega
  refine ⟨hX, hT, onlyX_more (onlyX_more h.chg hc fun i hi => ?_) hc2 fun i hi => ?_, ?_, ?_, ?_, ?_, hnew, ?_, hsm, ?_⟩
  · right; have := h.rowT i hi; omega
  · right; omega
  · exact (hc2.block _ (Nat.lt_of_lt_of_le hz hc.size) (by omega)).trans ((hc.block _ hz (hno _ (by omega))).trans h.z)
  · exact obj_set ((hc.block _ ht (hno _ (Nat.le_refl _))).trans h.obj) vn'
  · refine ((h.own.mono (R' := fun g => (T + 1 ≤ g ∧ vn'.ownBlock ≠ some g) ∧ vn.ownBlock ≠ some g) fun g hlt hg => ⟨⟨hg.1, ?_⟩, hg.2⟩).chg hc (fun g hg e => h.apart g e hg) (fun g hg _ e => hg.2 e)).mono (R' := fun g => T + 1 ≤ g ∧ vn'.ownBlock ≠ some g) (fun g _ hg => hg.1) |>.store (Nat.lt_succ_self _) vn'
    rcases hp with e | ⟨g', e, hg'⟩
    · rw [e]; exact hg.2
    · rw [e]; intro e2; cases e2; omega
  · exact hrow.chg hc2 fun g hg e => by have := hnew g hg; omega
  · intro g hg e
    rcases hp with e1 | ⟨g', e1, hg'⟩
    · exact h.apart g (e1 ▸ hg) e
    · rw [e1] at hg; cases hg; have := (h.own.block e).2; omega
  · exact (hc2.block _ (Nat.lt_of_lt_of_le hXl hc.size) (by omega)).trans ((hc.block _ hXl (hno _ (by omega))).trans h.rd)
theorem OI.insE (h : OI X T w wr s p k q nm ve vn es ns) (hown : OwnL (T + 1) T (fun g => T + 1 ≤ g ∧ vn.ownBlock ≠ some g) w' ve' es') (hp : ve'.ownBlock = ve.ownBlock ∨ ∃ g, ve'.ownBlock = some g ∧ wr.heap.size ≤ g) (hc : Chg (fun k => ve.ownBlock = some k) wr w') :
    OI X T w (w'.setCell ⟨T, 1, none⟩ ve') s p k q nm ve' vn es' ns := by
  have hX := h.hX
  have hT := h.hT
  have hz := (Array.getElem?_eq_some_iff.1 h.z).1
  have ht := h.tlt
  have hXl := h.rd.lt
  have hc2 : Chg (fun k => k = T) w' (w'.setCell ⟨T, 1, none⟩ ve') := Chg.setCell w' T 1 ve' rfl
  have hno : ∀ k, k ≤ T → ¬ ve.ownBlock = some k := fun k hk e => by have := (h.own.block e).1; omega
  refine ⟨hX, hT, onlyX_more (onlyX_more h.chg hc fun i hi => ?_) hc2 fun i hi => ?_, ?_, ?_, ?_, ?_, h.rowT, ?_, h.small, ?_⟩
  · right; have := (h.own.block hi).1; omega
  · right; omega
  · exact (hc2.block _ (Nat.lt_of_lt_of_le hz hc.size) (by omega)).trans ((hc.block _ hz (hno _ (by omega))).trans h.z)
  · exact obj_set ((hc.block _ ht (hno _ (Nat.le_refl _))).trans h.obj) ve'
  · exact hown.store (Nat.lt_succ_self _) ve'
  · exact (h.row.chg hc fun g hg e => h.apart g hg e).chg hc2 fun g hg e => by have := h.rowT g hg; omega
  · intro g hg e
    rcases hp with e1 | ⟨g', e1, hg'⟩
    · exact h.apart g hg (e1 ▸ e)
    · rw [e1] at e; cases e; have := h.row.lt hg; omega
  · exact (hc2.block _ (Nat.lt_of_lt_of_le hXl hc.size) (by omega)).trans ((hc.block _ hXl (hno _ (by omega))).trans h.rd)
/-- The result's cells take three values. -/
theorem OI.out {u : Value} {t : Ty} {x y z : Value} (h : OI X T w wr s p k q nm ve vn es ns) (hu : TV (fun g => T + 1 ≤ g) wr u t) :
    OnlyX X w (((wr.setCell ⟨w.heap.size, 0, none⟩ x).setCell ⟨w.heap.size, 1, none⟩ y).setCell ⟨w.heap.size, 2, none⟩ z) ∧ TV (fun g => w.heap.size ≤ g) (((wr.setCell ⟨w.heap.size, 0, none⟩ x).setCell ⟨w.heap.size, 1, none⟩ y).setCell ⟨w.heap.size, 2, none⟩ z) u t ∧
    RD (((wr.setCell ⟨w.heap.size, 0, none⟩ x).setCell ⟨w.heap.size, 1, none⟩ y).setCell ⟨w.heap.size, 2, none⟩ z) X s p k q nm := by
  have hX := h.hX
  have hT := h.hT
  have hc := chg_store3 wr w.heap.size x y z
  exact ⟨onlyX_more h.chg hc fun i hi => .inr (by omega), store3_tv hu (by omega) (fun g hg => by omega) x y z, (hc.block _ h.rd.lt (by omega)).trans h.rd⟩
end
/-- What reading a type leaves: r says what was read. -/
def RdPost (X : Nat) (s : ByteArray) (r : Rd Ty) (k q : Int) (nm : ByteArray) (w : World) (e : Ending) (w' : World) : Prop :=
  OnlyX X w w' ∧ ∃ u t, TV (fun g => w.heap.size ≤ g) w' u t ∧
    ((∃ p' : Nat, r = .ok (t, p') ∧ e = .returned (.tuple #[u, .bool true]) ∧ RD w' X s p' k q nm) ∨ (∃ ek at', r = .error (ek, at') ∧ e = .returned (.tuple #[u, .bool false]) ∧ ∃ p', RD w' X s p' ek at' ⟨#[]⟩))
/-! The reader's parts, in the words of the plain functions -/
theorem Row.slice {w : World} {v : Value} {l : List ByteArray} (h : Row w v l) : ∃ oa m c, v = .slice oa m c := by
  rcases h with ⟨rfl, _⟩ | ⟨g, pad, rfl, _⟩
  · exact ⟨_, _, _, rfl⟩
  · exact ⟨_, _, _, rfl⟩
def StepPost (X : Nat) (s : ByteArray) (r : Except (Int × Nat) Nat) (k q : Int) (nm : ByteArray) (w : World) (e : Ending) (w' : World) : Prop :=
  OnlyX X w w' ∧ ((∃ j : Nat, r = .ok j ∧ e = .returned (.bool true) ∧ RD w' X s j k q nm) ∨ (∃ (ek : Int) (at' : Nat), r = .error (ek, at') ∧ e = .returned (.bool false) ∧ ∃ p', RD w' X s p' ek at' ⟨#[]⟩))
theorem ready_p (w : World) (X : Nat) (s nm : ByteArray) (p : Nat) (k q : Int) (hp : p ≤ s.size) (hs : s.size ≤ 140737488355328) (h : RD w X s p k q nm) :
    Calls Tryz.prog 45 #[.pointer (some ⟨X, 0, none⟩)] w (StepPost X s (readyP s p) k q nm w) := by
  refine (ready_any w X s nm p k q hp hs h).mono ?_
  rintro e w' ⟨rfl, hc, hr⟩
  refine ⟨hc, ?_⟩
  unfold readyP
  by_cases hlt : skipN s p < s.size
  · rw [if_pos hlt] at hr ⊢
    exact .inl ⟨_, rfl, by rw [decide_eq_true hlt], hr⟩
  · rw [if_neg hlt] at hr ⊢
    exact .inr ⟨_, _, rfl, by rw [decide_eq_false hlt], _, hr⟩
theorem sign_p (w : World) (X : Nat) (s nm : ByteArray) (p c : Nat) (k q : Int) (hp : p ≤ s.size) (hs : s.size ≤ 140737488355328) (hc : c < 256) (h : RD w X s p k q nm) :
    Calls Tryz.prog 65 #[.pointer (some ⟨X, 0, none⟩), .int .u8 c] w (StepPost X s (signP s p c) k q nm w) := by
  refine (sign_any w X s nm p c k q hp hs hc h).mono ?_
  rintro e w' ⟨rfl, hc, hr⟩
  refine ⟨hc, ?_⟩
  unfold signP
  by_cases hlt : sgnB s p c = true
  · rw [if_pos hlt] at hr ⊢
    exact .inl ⟨_, rfl, by rw [hlt], hr⟩
  · rw [if_neg hlt] at hr ⊢
    exact .inr ⟨_, _, rfl, by rw [Bool.not_eq_true] at hlt; rw [hlt], hr⟩
def NmPost (X : Nat) (s : ByteArray) (r : Rd ByteArray) (k q : Int) (nm : ByteArray) (w : World) (e : Ending) (w' : World) : Prop :=
  OnlyX X w w' ∧ ((∃ (x : ByteArray) (j : Nat), r = .ok (x, j) ∧ e = .returned (.tuple #[.string x, .bool true]) ∧ RD w' X s j k q nm) ∨ (∃ (ek : Int) (at' : Nat), r = .error (ek, at') ∧ e = .returned (.tuple #[.string ⟨#[]⟩, .bool false]) ∧ ∃ p', RD w' X s p' ek at' ⟨#[]⟩))
theorem name_p (P : Nat → Prop) (w : World) (X : Nat) (s nm : ByteArray) (p : Nat) (k q : Int) (u : Value) (ns : List ByteArray) (hp : p ≤ s.size) (hs : s.size ≤ 140737488355328) (h : RD w X s p k q nm) (hu : SV P w u ns) (hP : ∀ g, P g → g ≠ X) :
    Calls Tryz.prog 79 #[.pointer (some ⟨X, 0, none⟩), u] w (NmPost X s (nameP s p ns) k q nm w) := by
  refine (name_any P w X s nm p k q u ns hp hs h hu hP).mono ?_
  rintro e w' ⟨hc, hr⟩
  refine ⟨hc, ?_⟩
  unfold nameP
  rcases hr with ⟨h1, rfl, h3⟩ | ⟨h1, rfl, h3⟩
  · rw [if_pos h1]; exact .inl ⟨_, _, rfl, rfl, h3⟩
  · rw [if_neg h1]; exact .inr ⟨_, _, rfl, rfl, h3⟩
section
variable {s : ByteArray} {rd : Nat → Rd Ty} {n p p1 p2 p3 p4 p5 : Nat} {es : List Ty} {ns : List ByteArray} {e : Int × Nat} {x : ByteArray} {t : Ty}
theorem loopP_1 (h : nameP s p ns = .error e) : loopP s rd (n + 1) p es ns = .error e := by unfold loopP; simp only [h]
theorem loopP_2 (h : nameP s p ns = .ok (x, p1)) (h2 : signP s p1 61 = .error e) : loopP s rd (n + 1) p es ns = .error e := by unfold loopP; simp only [h, h2]
theorem loopP_3 (h : nameP s p ns = .ok (x, p1)) (h2 : signP s p1 61 = .ok p2) (h3 : rd p2 = .error e) : loopP s rd (n + 1) p es ns = .error e := by unfold loopP; simp only [h, h2, h3]
theorem loopP_4 (h : nameP s p ns = .ok (x, p1)) (h2 : signP s p1 61 = .ok p2) (h3 : rd p2 = .ok (t, p3)) (h4 : readyP s p3 = .error e) : loopP s rd (n + 1) p es ns = .error e := by unfold loopP; simp only [h, h2, h3, h4]
theorem loopP_5 (h : nameP s p ns = .ok (x, p1)) (h2 : signP s p1 61 = .ok p2) (h3 : rd p2 = .ok (t, p3)) (h4 : readyP s p3 = .ok p4) (h5 : byteN s p4 = 125) :
    loopP s rd (n + 1) p es ns = .ok (.mk 6 (es.insertIdx (posN ns x) t) (ns.insertIdx (posN ns x) x), p4 + 1) := by unfold loopP; simp only [h, h2, h3, h4]; rw [if_pos h5]
theorem loopP_6 (h : nameP s p ns = .ok (x, p1)) (h2 : signP s p1 61 = .ok p2) (h3 : rd p2 = .ok (t, p3)) (h4 : readyP s p3 = .ok p4) (h5 : ¬ byteN s p4 = 125) (h6 : signP s p4 44 = .error e) :
    loopP s rd (n + 1) p es ns = .error e := by unfold loopP; simp only [h, h2, h3, h4]; rw [if_neg h5]; simp only [h6]
theorem loopP_7 (h : nameP s p ns = .ok (x, p1)) (h2 : signP s p1 61 = .ok p2) (h3 : rd p2 = .ok (t, p3)) (h4 : readyP s p3 = .ok p4) (h5 : ¬ byteN s p4 = 125) (h6 : signP s p4 44 = .ok p5) :
    loopP s rd (n + 1) p es ns = loopP s rd n p5 (es.insertIdx (posN ns x) t) (ns.insertIdx (posN ns x) x) := by conv => lhs; unfold loopP; simp only [h, h2, h3, h4]; rw [if_neg h5]; simp only [h6]
theorem objP_1 (h : readyP s p = .error e) : objP s rd p = .error e := by unfold objP; simp only [h]
theorem objP_2 (h : readyP s p = .ok p1) (h2 : byteN s p1 = 125) : objP s rd p = .ok (.mk 6 [] [], p1 + 1) := by unfold objP; simp only [h]; rw [if_pos h2]
theorem objP_3 (h : readyP s p = .ok p1) (h2 : ¬ byteN s p1 = 125) : objP s rd p = loopP s rd (s.size + 1) p1 [] [] := by conv => lhs; unfold objP; simp only [h]; rw [if_neg h2]
end
end Go.Proofs.YtfljnigbfacmjaaGreatDoor
