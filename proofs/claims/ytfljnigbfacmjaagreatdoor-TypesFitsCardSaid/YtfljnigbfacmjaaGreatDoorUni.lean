/- Unify: the plain function, and what holds while its result is made. -/
import Derived.Test.YtfljnigbfacmjaaGreatDoorRow
import Derived.Test.YtfljnigbfacmjaaGreatDoorEq
import Derived.Test.YtfljnigbfacmjaaGreatDoorShelf
namespace Go.Proofs.YtfljnigbfacmjaaGreatDoor
open Go Go.RowKit
set_option linter.unusedVariables false

mutual
def uniT : Ty → Ty → Ty
  | .mk k es ns, .mk k' es' ns' => if k = k' ∧ ns = ns' ∧ es.length = es'.length then .mk k (uniL es es') ns else .mk 0 [] []
def uniL : List Ty → List Ty → List Ty
  | [], _ => []
  | _ :: _, [] => []
  | e :: es, e' :: es' => uniT e e' :: uniL es es'
end
theorem uniL_zip : ∀ (a b : List Ty), uniL a b = List.zipWith uniT a b
  | [], _ => by rw [uniL]; simp
  | _ :: _, [] => by rw [uniL]; simp
  | e :: es, e' :: es' => by rw [uniL, uniL_zip es es']; simp
theorem uniT_yes {k k' : Int} {es es' : List Ty} {ns ns' : List ByteArray} (h : k = k' ∧ ns = ns' ∧ es.length = es'.length) : uniT (.mk k es ns) (.mk k' es' ns') = .mk k (uniL es es') ns := by rw [uniT, if_pos h]
theorem uniT_no {k k' : Int} {es es' : List Ty} {ns ns' : List ByteArray} (h : ¬(k = k' ∧ ns = ns' ∧ es.length = es'.length)) : uniT (.mk k es ns) (.mk k' es' ns') = .mk 0 [] [] := by rw [uniT, if_neg h]
theorem uniL_step {es es' : List Ty} {j : Nat} (h : j < es.length) (h' : j < es'.length) : (uniL es es').take (j + 1) = (uniL es es').take j ++ [uniT es[j] es'[j]] := by
  have hl : j < (uniL es es').length := by rw [uniL_zip]; simp; omega
  rw [List.take_succ_eq_append_getElem hl]
  congr 2
  simp [uniL_zip]
theorem uniL_len (es es' : List Ty) : (uniL es es').length = min es.length es'.length := by rw [uniL_zip]; simp
theorem namesL_mem : ∀ {l : List Ty} {e : Ty}, e ∈ l → namesT e ≤ namesL l
  | x :: l, e, hm => by
    rw [namesL]
    rcases List.mem_cons.1 hm with rfl | hm
    · omega
    · have := namesL_mem hm; omega

theorem chg_below {B : Nat → Prop} {n : Nat} {w w' : World} (h : Chg B w w') (hb : ∀ k, B k → n ≤ k) (hn : n ≤ w.heap.size) : Below n w w' :=
  ⟨h.os, h.tape, h.output, h.size, fun k hk => h.block k (by omega) fun hB => by have := hb k hB; omega⟩
theorem SV.nil (P : Nat → Prop) (w : World) : SV P w (.slice none 0 0) [] := ⟨⟨by simp, .inl ⟨rfl, _, _, rfl⟩⟩, fun s h => by cases h⟩
theorem LV.nil (P : Nat → Prop) (w : World) : LV P w (.slice none 0 0) [] := ⟨[], ⟨by simp, .inl ⟨rfl, _, _, rfl⟩⟩, rfl, fun i r e h => by simp at h⟩
theorem TV.any0 (P : Nat → Prop) (w : World) : TV P w (.agg #[.int .i64 0, .slice none 0 0, .slice none 0 0]) (.mk 0 [] []) := TV.mk' (SV.nil _ _) (LV.nil _ _)

structure UI (R : Nat → Prop) (X : Nat) (V : World) (k : Int) (vn : Value) (ns : List ByteArray) (wr : World) (v : Value) (ts : List Ty) : Prop where
  bel : Below V.heap.size V wr
  le : V.heap.size ≤ X
  lt : X < wr.heap.size
  obj : wr.heap[X]? = some (.cells #[.int .i64 k, v, vn] 30)
  own : OwnL (X + 1) X R wr v ts
  nm : SV (fun g => R g ∧ g < wr.heap.size ∧ g ≠ X ∧ v.ownBlock ≠ some g) wr vn ns
theorem UI.call {R : Nat → Prop} {X : Nat} {V wr w4 : World} {k : Int} {vn v : Value} {ns : List ByteArray} {ts : List Ty} (h : UI R X V k vn ns wr v ts) (hb : Below wr.heap.size wr w4) : UI R X V k vn ns w4 v ts :=
  ⟨h.bel.trans (hb.mono h.bel.size), h.le, Nat.lt_of_lt_of_le h.lt hb.size, (hb.block X h.lt).trans h.obj, h.own.later hb,
    h.nm.keep (KeepsP.below hb) fun g hg => ⟨hg.1, Nat.lt_of_lt_of_le hg.2.1 hb.size, hg.2.2⟩⟩
theorem OwnL.block {B box : Nat} {R : Nat → Prop} {w : World} {v : Value} {ts : List Ty} (h : OwnL B box R w v ts) {g : Nat} (hg : v.ownBlock = some g) : B ≤ g ∧ g < w.heap.size := by
  obtain ⟨rs, h1, _⟩ := h
  refine ⟨h1.2 g hg, ?_⟩
  rcases h1.1.2 with ⟨rfl, h0⟩ | ⟨g, cap, cur, rfl, p1, p2, _⟩
  · cases hg
  · cases hg; exact (Array.getElem?_eq_some_iff.1 p2).1
theorem UI.push {R S : Nat → Prop} {X : Nat} {V w w5 : World} {k : Int} {vn v v' x y z : Value} {ns : List ByteArray} {ts : List Ty} {t : Ty} (h : UI R X V k vn ns w v ts)
    (hrow : ∃ rs : List (Value × Value × Value), Made (X + 1) w 30 3 v ts.length (flat rs) ∧ rs.length = ts.length ∧
      (∀ (i : Nat) r t, rs[i]? = some r → ts[i]? = some t → TV (fun g => R g ∧ g < w.heap.size ∧ g ≠ X ∧ v.ownBlock ≠ some g) w (tri r) t) ∧ w5.ownsRow 0 30 3 v' (ts.length + 1) (flat rs ++ [x, y, z]))
    (ht : TV S w (.agg #[x, y, z]) t) (hs : ∀ g, S g → R g ∧ g ≠ X ∧ v.ownBlock ≠ some g)
    (hc : Chg (fun k => v.ownBlock = some k) w w5) (hp : v'.ownBlock = v.ownBlock ∨ ∃ g, v'.ownBlock = some g ∧ w.heap.size ≤ g) :
    UI R X V k vn ns (w5.setCell ⟨X, 1, none⟩ v') v' (ts ++ [t]) := by
  have hX := h.lt
  have hXv : ¬ v.ownBlock = some X := fun e => by have := (h.own.block e).1; omega
  have hown := OwnL.push (box := X) (R := R) (by omega) hrow ht hs hc hp
  have hcs : Chg (fun k => k = X) w5 (w5.setCell ⟨X, 1, none⟩ v') := Chg.setCell w5 X 1 v' rfl
  have hb5 : Below V.heap.size V w5 := ⟨hc.os.trans h.bel.os, hc.tape.trans h.bel.tape, hc.output.trans h.bel.output, Nat.le_trans h.bel.size hc.size,
    fun i hi => (hc.block i (Nat.lt_of_lt_of_le hi h.bel.size) fun e => by have := (h.own.block e).1; have := h.le; omega).trans (h.bel.block i hi)⟩
  refine ⟨hb5.trans (chg_below hcs (fun k hk => by rw [hk]; exact h.le) hb5.size), h.le, Nat.lt_of_lt_of_le (Nat.lt_of_lt_of_le hX hc.size) hcs.size, ?_, hown.store (Nat.lt_succ_self _) v', ?_⟩
  · exact obj_set ((hc.block X hX hXv).trans h.obj) v'
  · refine (h.nm.keep (KeepsP.chg hc fun g hg => hg.2.2.2) (Q := fun g => R g ∧ g < w5.heap.size ∧ g ≠ X ∧ v'.ownBlock ≠ some g) fun g ⟨a1, a2, a3, a4⟩ => ⟨a1, Nat.lt_of_lt_of_le a2 hc.size, a3, ?_⟩).keep (KeepsP.chg hcs fun g hg => hg.2.2.1) fun g hg => ⟨hg.1, Nat.lt_of_lt_of_le hg.2.1 hcs.size, hg.2.2⟩
    rcases hp with e | ⟨g', e, hg'⟩
    · rw [e]; exact a4
    · rw [e]; intro e2; cases e2; omega
/-- A row of the call's own, after one more type. -/
theorem UI.grown {R S : Nat → Prop} {X : Nat} {V w w5 : World} {k : Int} {vn v v' x y z : Value} {ns : List ByteArray} {ts : List Ty} {t : Ty} {rs : List (Value × Value × Value)} (h : UI R X V k vn ns w v ts)
    (hm : Made (X + 1) w 30 3 v ts.length (flat rs)) (hl : rs.length = ts.length) (he : ∀ (i : Nat) r t, rs[i]? = some r → ts[i]? = some t → TV (fun g => R g ∧ g < w.heap.size ∧ g ≠ X ∧ v.ownBlock ≠ some g) w (tri r) t)
    (hr : w5.ownsRow 0 30 3 v' (ts.length + 1) (flat rs ++ [x, y, z])) (ht : TV S w (.agg #[x, y, z]) t) (hs : ∀ g, S g → R g ∧ g ≠ X ∧ v.ownBlock ≠ some g)
    (hc : Chg (fun k => v.ownBlock = some k) w w5) (hp : v'.ownBlock = v.ownBlock ∨ ∃ g, v'.ownBlock = some g ∧ w.heap.size ≤ g) :
    UI R X V k vn ns (w5.setCell ⟨X, 1, none⟩ v') v' (ts ++ [t]) := h.push ⟨rs, hm, hl, he, hr⟩ ht hs hc hp
theorem UI.read {R : Nat → Prop} {X : Nat} {V w : World} {k : Int} {vn v : Value} {ns : List ByteArray} {ts : List Ty} (h : UI R X V k vn ns w v ts) (hR : ∀ g, X + 1 ≤ g → R g) (hl : ts.length ≤ 140737488355328) : TV R w (.agg #[.int .i64 k, v, vn]) (.mk k ts ns) :=
  TV.mk' (h.nm.keep (KeepsP.refl _ _) fun g hg => hg.1) (h.own.read hR hl)

/-- Three cells of a block of the call's own. -/
theorem chg_store3 (w : World) (b : Nat) (x y z : Value) : Chg (fun k => k = b) w (((w.setCell ⟨b, 0, none⟩ x).setCell ⟨b, 1, none⟩ y).setCell ⟨b, 2, none⟩ z) :=
  ((Chg.setCell (B := fun k => k = b) w b 0 x rfl).trans (Chg.setCell _ b 1 y rfl)).trans (Chg.setCell _ b 2 z rfl)
theorem store3_below {n b : Nat} {w w2 : World} (h : Below n w w2) (hb : n ≤ b) (hn : n ≤ w.heap.size) (x y z : Value) : Below n w (((w2.setCell ⟨b, 0, none⟩ x).setCell ⟨b, 1, none⟩ y).setCell ⟨b, 2, none⟩ z) :=
  h.trans (chg_below (chg_store3 w2 b x y z) (fun k hk => by rw [hk]; exact hb) (Nat.le_trans hn h.size))
theorem store3_tv {P Q : Nat → Prop} {b : Nat} {w : World} {v : Value} {t : Ty} (h : TV P w v t) (hb : ¬ P b) (hq : ∀ g, P g → Q g) (x y z : Value) : TV Q (((w.setCell ⟨b, 0, none⟩ x).setCell ⟨b, 1, none⟩ y).setCell ⟨b, 2, none⟩ z) v t :=
  h.keep (KeepsP.chg (chg_store3 w b x y z) fun g hg e => hb (e ▸ hg)) hq
theorem UI.start {R S : Nat → Prop} {V : World} {k : Int} {vn : Value} {ns : List ByteArray} (h : SV S V vn ns) (hS : ∀ g, S g → R g) :
    UI R V.heap.size V k vn ns (V.alloc (.cells #[.int .i64 k, .slice none 0 0, vn] 30)) (.slice none 0 0) [] := by
  have hb : Below V.heap.size V (V.alloc (.cells #[.int .i64 k, .slice none 0 0, vn] 30)) := (Below.refl _ _).alloc (Nat.le_refl _) _
  exact ⟨hb, Nat.le_refl _, by simp, heap_alloc_at V _, OwnL.nil _ _ _ _, h.ex.keep (KeepsP.below hb) fun g hg => ⟨hS g hg.1, Nat.lt_of_lt_of_le hg.2 hb.size, Nat.ne_of_lt hg.2, by simp [Value.ownBlock]⟩⟩

/-- The box made ahead of what is laid into it. -/
theorem UI.start2 {R S : Nat → Prop} {w2 wa w3 : World} {k : Int} {vn : Value} {ns : List ByteArray} (ha : Below w2.heap.size w2 wa) (hs : wa.heap.size = w2.heap.size + 1)
    (ho : wa.heap[w2.heap.size]? = some (.cells #[.int .i64 0, .slice none 0 0, .slice none 0 0] 30)) (hb : Below wa.heap.size wa w3) (h : SV S w3 vn ns) (hS : ∀ g, S g → R g ∧ g ≠ w2.heap.size) :
    UI R w2.heap.size w2 k vn ns (((w3.setCell ⟨w2.heap.size, 0, none⟩ (.int .i64 k)).setCell ⟨w2.heap.size, 1, none⟩ (.slice none 0 0)).setCell ⟨w2.heap.size, 2, none⟩ vn) (.slice none 0 0) [] := by
  have h3 : Below w2.heap.size w2 w3 := ha.trans (hb.mono ha.size)
  have hc := chg_store3 w3 w2.heap.size (.int .i64 k) (.slice none 0 0) vn
  have o3 := (hb.block w2.heap.size (by omega)).trans ho
  have o6 := obj_set (po := 2) (obj_set (po := 1) (obj_set (po := 0) o3 (.int .i64 k)) (.slice none 0 0)) vn
  refine ⟨store3_below h3 (Nat.le_refl _) (Nat.le_refl _) _ _ _, Nat.le_refl _, ?_, o6, OwnL.nil _ _ _ _, ?_⟩
  · have := hb.size; have := hc.size; omega
  · exact h.ex.keep (KeepsP.chg hc fun g hg => (hS g hg.1).2) fun g hg => ⟨(hS g hg.1).1, Nat.lt_of_lt_of_le hg.2 hc.size, (hS g hg.1).2, by simp [Value.ownBlock]⟩
theorem UI.rebase {R : Nat → Prop} {X : Nat} {w2 V w : World} {k : Int} {vn v : Value} {ns : List ByteArray} {ts : List Ty} (h : UI R X V k vn ns w v ts) (hb : Below w2.heap.size w2 V) : UI R X w2 k vn ns w v ts :=
  ⟨hb.trans (h.bel.mono hb.size), Nat.le_trans hb.size h.le, h.lt, h.obj, h.own, h.nm⟩

/-- slices.Clone at a list of names. -/
theorem clone_any (P : Nat → Prop) (w : World) (v : Value) (l : List ByteArray) (h : SV P w v l) (hl : l.length ≤ 1000000) :
    Calls Tryz.prog 37 #[v] w fun e w' => ∃ v', e = .returned v' ∧ SV (fun g => w.heap.size ≤ g) w' v' l ∧ Below w.heap.size w w' := by
  have hout : ∀ (w' : World) (v' : Value), w'.ownsRow w.heap.size 9 1 v' l.length (strs l) → SV (fun g => w.heap.size ≤ g) w' v' l := fun w' v' ho => by
    refine ⟨⟨by simp; omega, ?_⟩, h.2⟩
    rcases ho.2 with ⟨rfl, h0⟩ | ⟨g, cap, cur, rfl, p1, p2, p3, p4, p5, p6⟩
    · exact .inl ⟨by rw [List.eq_nil_of_length_eq_zero h0]; rfl, _, _, rfl⟩
    · exact .inr ⟨g, 0, cap, p1, by simp, fun i u hu => by rw [Nat.zero_add]; exact cells_at p2 p6 hu⟩
  rcases h.1.2 with ⟨h0, oa, c, rfl⟩ | ⟨g, o, c, hp, rfl, hc⟩
  · obtain rfl : l = [] := by simpa using h0
    cases oa with
    | none => exact (Tryz.slices_Clone_string_nil 0 c w).mono fun e w' ⟨h1, h2⟩ => ⟨_, h1, SV.nil _ _, by rw [h2]; exact Below.refl _ _⟩
    | some a => exact (Tryz.slices_Clone_string_zero a c w).mono fun e w' ⟨v', h1, h2, h3, h4⟩ => ⟨v', h1, hout w' v' h2, h4⟩
  · rw [List.length_map]
    refine (Tryz.slices_Clone_string g o l.length c l w (Nat.le_refl _) (by omega) fun j hj => ?_).mono fun e w' ⟨v', h1, h2, h3, h4⟩ => ⟨v', h1, hout w' v' (by rw [List.take_length] at h2; exact h2), h4⟩
    refine hc j _ ?_
    rw [List.getElem?_map, List.getElem?_eq_getElem hj]
    simp [List.getD, hj]
end Go.Proofs.YtfljnigbfacmjaaGreatDoor
