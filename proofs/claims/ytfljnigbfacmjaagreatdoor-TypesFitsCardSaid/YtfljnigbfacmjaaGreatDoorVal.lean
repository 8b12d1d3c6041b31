/- Values as plain data and as they lie in memory; the type of a value. -/
import Derived.Test.YtfljnigbfacmjaaGreatDoorPUni
namespace Go.Proofs.YtfljnigbfacmjaaGreatDoor
open Go Go.RowKit
set_option linter.unusedVariables false

inductive Vl where
  | mk (k n : Int) (s : ByteArray) (is : List Vl) (ks : List ByteArray)
theorem Vl.ind {M : Vl → Prop} (h : ∀ k n s is ks, (∀ e ∈ is, M e) → M (.mk k n s is ks)) (v : Vl) : M v :=
  Vl.rec (motive_1 := M) (motive_2 := fun is => ∀ e ∈ is, M e) (fun k n s is ks ih => h k n s is ks ih) (fun e he => absurd he List.not_mem_nil) (fun e is h1 h2 x hx => (List.mem_cons.1 hx).elim (fun e => e ▸ h1) (h2 x)) v
mutual
def szV : Vl → Nat
  | .mk _ _ _ is _ => 1 + szL is
def szL : List Vl → Nat
  | [] => 0
  | e :: l => szV e + szL l
end
mutual
def kyV : Vl → Nat
  | .mk _ _ _ is ks => ks.length + kyL is
def kyL : List Vl → Nat
  | [] => 0
  | e :: l => kyV e + kyL l
end
theorem szV_pos (v : Vl) : 1 ≤ szV v := by cases v; unfold szV; omega
theorem szV_mem : ∀ {l : List Vl} {e : Vl}, e ∈ l → szV e ≤ szL l
  | x :: l, e, hm => by
    rw [szL]
    rcases List.mem_cons.1 hm with rfl | hm
    · omega
    · have := szV_mem hm; omega
theorem kyV_mem : ∀ {l : List Vl} {e : Vl}, e ∈ l → kyV e ≤ kyL l
  | x :: l, e, hm => by
    rw [kyL]
    rcases List.mem_cons.1 hm with rfl | hm
    · omega
    · have := kyV_mem hm; omega
theorem szL_len : ∀ l : List Vl, l.length ≤ szL l
  | [] => by simp
  | e :: l => by rw [szL]; have := szV_pos e; have := szL_len l; simp; omega
def kdV : Vl → Int
  | .mk k _ _ _ _ => k
/-- null or unknown. -/
def nilV (v : Vl) : Bool := decide (kdV v = 0) || decide (kdV v = 6)
mutual
def ofT : Vl → Int → Ty
  | .mk k _ _ is ks, lv => if k = 1 then .mk 1 [] [] else if k = 2 then .mk 2 [] [] else if k = 3 then .mk 3 [] [] else if (k ≠ 4 ∧ k ≠ 5) ∨ 32 ≤ lv then .mk 0 [] [] else
    if k = 4 then .mk 4 [comT is (lv + 1) none] [] else if ks.any (fun x => !identB x) = true then .mk 5 [comT is (lv + 1) none] [] else .mk 6 (ofL is (lv + 1)) ks
def comT : List Vl → Int → Option Ty → Ty
  | [], _, o => o.getD (.mk 0 [] [])
  | v :: l, lv, o => if nilV v = true then comT l lv o else comT l lv (some (match o with
    | none => ofT v lv
    | some t => uniT t (ofT v lv)))
def ofL : List Vl → Int → List Ty
  | [], _ => []
  | v :: l, lv => ofT v lv :: ofL l lv
end
theorem ofT_1 {k : Int} (h : k = 1 ∨ k = 2 ∨ k = 3) (n : Int) (s : ByteArray) (is : List Vl) (ks : List ByteArray) (lv : Int) : ofT (.mk k n s is ks) lv = .mk k [] [] := by
  rw [ofT]; rcases h with rfl | rfl | rfl <;> rfl
theorem ofT_0 {k lv : Int} (h : ¬ (k = 1 ∨ k = 2 ∨ k = 3)) (h2 : (k ≠ 4 ∧ k ≠ 5) ∨ 32 ≤ lv) (n : Int) (s : ByteArray) (is : List Vl) (ks : List ByteArray) : ofT (.mk k n s is ks) lv = .mk 0 [] [] := by
  rw [ofT, if_neg (fun e => h (.inl e)), if_neg (fun e => h (.inr (.inl e))), if_neg (fun e => h (.inr (.inr e))), if_pos h2]
theorem ofT_4 {lv : Int} (h2 : ¬ 32 ≤ lv) (n : Int) (s : ByteArray) (is : List Vl) (ks : List ByteArray) : ofT (.mk 4 n s is ks) lv = .mk 4 [comT is (lv + 1) none] [] := by
  rw [ofT, if_neg (by decide), if_neg (by decide), if_neg (by decide), if_neg (by rintro (⟨h, _⟩ | h); exact h rfl; exact h2 h), if_pos rfl]
theorem ofT_5 {lv : Int} (h2 : ¬ 32 ≤ lv) (n : Int) (s : ByteArray) (is : List Vl) {ks : List ByteArray} (h : ks.any (fun x => !identB x) = true) : ofT (.mk 5 n s is ks) lv = .mk 5 [comT is (lv + 1) none] [] := by
  rw [ofT, if_neg (by decide), if_neg (by decide), if_neg (by decide), if_neg (by rintro (⟨_, h⟩ | h); exact h rfl; exact h2 h), if_neg (by decide), if_pos h]
theorem ofT_6 {lv : Int} (h2 : ¬ 32 ≤ lv) (n : Int) (s : ByteArray) (is : List Vl) {ks : List ByteArray} (h : ks.any (fun x => !identB x) = false) : ofT (.mk 5 n s is ks) lv = .mk 6 (ofL is (lv + 1)) ks := by
  rw [ofT, if_neg (by decide), if_neg (by decide), if_neg (by decide), if_neg (by rintro (⟨_, h⟩ | h); exact h rfl; exact h2 h), if_neg (by decide), if_neg (by rw [h]; decide)]
theorem comT_nil (lv : Int) (o : Option Ty) : comT [] lv o = o.getD (.mk 0 [] []) := by rw [comT]
theorem comT_skip {v : Vl} (h : nilV v = true) (l : List Vl) (lv : Int) (o : Option Ty) : comT (v :: l) lv o = comT l lv o := by
  conv => lhs; rw [comT.eq_def]
  simp only [h, if_true]
theorem comT_first {v : Vl} (h : nilV v = false) (l : List Vl) (lv : Int) : comT (v :: l) lv none = comT l lv (some (ofT v lv)) := by rw [comT, if_neg (by rw [h]; decide)]
theorem comT_next {v : Vl} (h : nilV v = false) (l : List Vl) (lv : Int) (t : Ty) : comT (v :: l) lv (some t) = comT l lv (some (uniT t (ofT v lv))) := by rw [comT, if_neg (by rw [h]; decide)]
theorem ofL_map : ∀ (l : List Vl) (lv : Int), ofL l lv = l.map (ofT · lv)
  | [], lv => by rw [ofL]; rfl
  | v :: l, lv => by rw [ofL, ofL_map l lv]; rfl
theorem uniT_size (a : Ty) : ∀ b, sizeT (uniT a b) ≤ sizeT a ∧ namesT (uniT a b) ≤ namesT a := by
  induction a using Ty.ind with
  | h k es ns ih =>
    intro b
    obtain ⟨k', es', ns'⟩ := b
    by_cases h : k = k' ∧ ns = ns' ∧ es.length = es'.length
    · rw [uniT_yes h, sizeT_eq, sizeT_eq, namesT, namesT]
      have key : ∀ (l : List Ty), (∀ e ∈ l, e ∈ es) → ∀ m, sizeL (uniL l m) ≤ sizeL l ∧ namesL (uniL l m) ≤ namesL l := by
        intro l
        induction l with
        | nil => intro _ m; rw [uniL]; exact ⟨Nat.le_refl _, Nat.le_refl _⟩
        | cons e l ih2 =>
          intro hl m
          cases m with
          | nil => rw [uniL, sizeL, namesL]; exact ⟨Nat.zero_le _, Nat.zero_le _⟩
          | cons x m =>
            rw [uniL, sizeL, namesL, sizeL, namesL]
            have h1 := ih e (hl e (List.mem_cons_self ..)) x
            have h2 := ih2 (fun y hy => hl y (List.mem_cons_of_mem _ hy)) m
            omega
      have := key es (fun _ h => h) es'
      omega
    · rw [uniT_no h, sizeT_eq, sizeT_eq, namesT, namesT, sizeL, namesL]
      simp
theorem ofT_size (v : Vl) : ∀ lv, sizeT (ofT v lv) ≤ 2 * szV v ∧ namesT (ofT v lv) ≤ kyV v := by
  induction v using Vl.ind with
  | h k n s is ks ih =>
    intro lv
    have any0 : ∀ j : Int, sizeT (.mk j [] []) ≤ 2 * szV (.mk k n s is ks) ∧ namesT (.mk j [] []) ≤ kyV (.mk k n s is ks) := fun j => by
      rw [sizeT_eq, namesT, sizeL, namesL, szV]; simp; omega
    have com : ∀ (l : List Vl), (∀ e ∈ l, e ∈ is) → ∀ (lv : Int) (o : Option Ty), sizeT (o.getD (.mk 0 [] [])) ≤ 1 + 2 * szL is → namesT (o.getD (.mk 0 [] [])) ≤ kyL is → sizeT (comT l lv o) ≤ 1 + 2 * szL is ∧ namesT (comT l lv o) ≤ kyL is := by
      intro l
      induction l with
      | nil => intro _ lv o h1 h2; rw [comT_nil]; exact ⟨h1, h2⟩
      | cons e l ih2 =>
        intro hl lv o h1 h2
        have hl' := fun x hx => hl x (List.mem_cons_of_mem _ hx)
        have he := hl e (List.mem_cons_self ..)
        have a1 := ih e he lv
        have a2 := szV_mem he
        have a3 := kyV_mem he
        cases hn : nilV e with
        | true => rw [comT_skip hn]; exact ih2 hl' lv o h1 h2
        | false =>
          cases o with
          | none => rw [comT_first hn]; exact ih2 hl' lv _ (by show sizeT (ofT e lv) ≤ _; omega) (by show namesT (ofT e lv) ≤ _; omega)
          | some t =>
            rw [comT_next hn]
            have b1 := uniT_size t (ofT e lv)
            have h1' : sizeT t ≤ 1 + 2 * szL is := h1
            have h2' : namesT t ≤ kyL is := h2
            exact ih2 hl' lv _ (by show sizeT (uniT t (ofT e lv)) ≤ _; omega) (by show namesT (uniT t (ofT e lv)) ≤ _; omega)
    have com0 : ∀ lv, sizeT (comT is lv none) ≤ 1 + 2 * szL is ∧ namesT (comT is lv none) ≤ kyL is := fun lv => com is (fun _ h => h) lv none (by show sizeT (.mk 0 [] []) ≤ _; rw [sizeT_eq, sizeL]; omega) (by show namesT (.mk 0 [] []) ≤ _; rw [namesT, namesL]; simp)
    have obj : ∀ (l : List Vl), (∀ e ∈ l, e ∈ is) → ∀ lv, sizeL (ofL l lv) ≤ 2 * szL l ∧ namesL (ofL l lv) ≤ kyL l := by
      intro l
      induction l with
      | nil => intro _ lv; rw [ofL, sizeL, namesL]; exact ⟨Nat.zero_le _, Nat.zero_le _⟩
      | cons e l ih2 =>
        intro hl lv
        have a1 := ih e (hl e (List.mem_cons_self ..)) lv
        have a2 := ih2 (fun x hx => hl x (List.mem_cons_of_mem _ hx)) lv
        rw [ofL, sizeL, namesL, szL, kyL]; omega
    by_cases h1 : k = 1 ∨ k = 2 ∨ k = 3
    · rw [ofT_1 h1]; exact any0 k
    by_cases h2 : (k ≠ 4 ∧ k ≠ 5) ∨ 32 ≤ lv
    · rw [ofT_0 h1 h2]; exact any0 0
    have h32 : ¬ 32 ≤ lv := fun h => h2 (.inr h)
    have one : ∀ j : Int, sizeT (.mk j [comT is (lv + 1) none] []) ≤ 2 * szV (.mk k n s is ks) ∧ namesT (.mk j [comT is (lv + 1) none] []) ≤ kyV (.mk k n s is ks) := fun j => by
      have := com0 (lv + 1)
      rw [sizeT_eq, namesT, sizeL, namesL, sizeL, namesL, szV, kyV]; simp; omega
    by_cases h4 : k = 4
    · subst h4; rw [ofT_4 h32]; exact one 4
    · have h5 : k = 5 := by omega
      subst h5
      cases hi : ks.any (fun x => !identB x) with
      | true => rw [ofT_5 h32 n s is hi]; exact one 5
      | false =>
        rw [ofT_6 h32 n s is hi, sizeT_eq, namesT, szV, kyV]
        have := obj is (fun _ h => h) (lv + 1)
        omega

/-! Values in memory -/
abbrev V5 := Value × Value × Value × Value × Value
abbrev pent (r : V5) : Value := .agg #[r.1, r.2.1, r.2.2.1, r.2.2.2.1, r.2.2.2.2]
/-- v reads as rs, five cells each. -/
def QV (P : Nat → Prop) (w : World) (v : Value) (rs : List V5) : Prop := rs.length ≤ 140737488355328 ∧ (
  (rs = [] ∧ ∃ oa c, v = .slice oa 0 c) ∨ ∃ g o c, P g ∧ v = .slice (some ⟨g, o, none⟩) rs.length c ∧
    ∀ (i : Nat) r, rs[i]? = some r → w.cell? ⟨g, o + i * 5, none⟩ = some r.1 ∧ w.cell? ⟨g, o + i * 5 + 1, none⟩ = some r.2.1 ∧ w.cell? ⟨g, o + i * 5 + 2, none⟩ = some r.2.2.1 ∧ w.cell? ⟨g, o + i * 5 + 3, none⟩ = some r.2.2.2.1 ∧ w.cell? ⟨g, o + i * 5 + 4, none⟩ = some r.2.2.2.2)
/-- v reads as the value t; all its blocks are P's. -/
inductive VV (P : Nat → Prop) (w : World) : Value → Vl → Prop where
  | mk (k n : Int) (s : ByteArray) (is : List Vl) (ks : List ByteArray) (vi vk : Value) (rs : List V5) (hs : s.size ≤ 140737488355328) (hk : SV P w vk ks) (hr : QV P w vi rs) (hl : rs.length = is.length)
    (he : ∀ (i : Nat) r e, rs[i]? = some r → is[i]? = some e → VV P w (pent r) e) : VV P w (.agg #[.int .i64 k, .int .i64 n, .string s, vi, vk]) (.mk k n s is ks)
/-- A list of values. -/
def WV (P : Nat → Prop) (w : World) (v : Value) (is : List Vl) : Prop :=
  ∃ rs, QV P w v rs ∧ rs.length = is.length ∧ ∀ (i : Nat) r e, rs[i]? = some r → is[i]? = some e → VV P w (pent r) e
section
variable {P Q : Nat → Prop} {w w' : World} {v vi vk : Value} {k n : Int} {s : ByteArray} {is : List Vl} {ks : List ByteArray} {t : Vl}
theorem VV.mk' (hs : s.size ≤ 140737488355328) (hk : SV P w vk ks) (hi : WV P w vi is) : VV P w (.agg #[.int .i64 k, .int .i64 n, .string s, vi, vk]) (.mk k n s is ks) := by
  obtain ⟨rs, h1, h2, h3⟩ := hi
  exact .mk k n s is ks vi vk rs hs hk h1 h2 h3
theorem VV.out (h : VV P w v (.mk k n s is ks)) : ∃ vi vk, v = .agg #[.int .i64 k, .int .i64 n, .string s, vi, vk] ∧ WV P w vi is ∧ SV P w vk ks ∧ s.size ≤ 140737488355328 := by
  cases h with
  | mk _ _ _ _ _ vi vk rs hs hk hr hl he => exact ⟨vi, vk, rfl, ⟨rs, hr, hl, he⟩, hk, hs⟩
theorem QV.keep {rs : List V5} (h : QV P w v rs) (k : KeepsP P w w') (hq : ∀ g, P g → Q g) : QV Q w' v rs :=
  ⟨h.1, h.2.imp id fun ⟨g, o, c, hp, e, hc⟩ => ⟨g, o, c, hq g hp, e, fun i r hr => ⟨k _ _ _ hp (hc i r hr).1, k _ _ _ hp (hc i r hr).2.1, k _ _ _ hp (hc i r hr).2.2.1, k _ _ _ hp (hc i r hr).2.2.2.1, k _ _ _ hp (hc i r hr).2.2.2.2⟩⟩⟩
theorem VV.keep (h : VV P w v t) (k : KeepsP P w w') (hq : ∀ g, P g → Q g) : VV Q w' v t := by
  induction h with
  | mk k' n' s' is' ks' vi vk rs hs hk hr hl he ih => exact .mk k' n' s' is' ks' vi vk rs hs (hk.keep k hq) (hr.keep k hq) hl ih
theorem WV.keep (h : WV P w v is) (k : KeepsP P w w') (hq : ∀ g, P g → Q g) : WV Q w' v is := by
  obtain ⟨rs, h1, h2, h3⟩ := h
  exact ⟨rs, h1.keep k hq, h2, fun i r e hr he => (h3 i r e hr he).keep k hq⟩
theorem VV.bel (h : VV P w v t) (hb : Below w.heap.size w w') : VV P w' v t := h.keep (KeepsP.below hb) fun _ h => h
theorem WV.bel (h : WV P w v is) (hb : Below w.heap.size w w') : WV P w' v is := h.keep (KeepsP.below hb) fun _ h => h
theorem WV.len (h : WV P w v is) : ∃ oa c, v = .slice oa is.length c := by
  obtain ⟨rs, h1, h2, h3⟩ := h
  rcases h1.2 with ⟨rfl, oa, c, rfl⟩ | ⟨g, o, c, _, rfl, _⟩
  · exact ⟨oa, c, by rw [← h2]; rfl⟩
  · exact ⟨_, c, by rw [h2]⟩
theorem WV.le (h : WV P w v is) : is.length ≤ 140737488355328 := by
  obtain ⟨rs, h1, h2, h3⟩ := h
  have := h1.1
  omega
theorem VV.five {a b c d e : Value} (h : VV P w (.agg #[a, b, c, d, e]) t) : ∃ k n s oi mi ci ok mk ck, a = .int .i64 k ∧ b = .int .i64 n ∧ c = .string s ∧ d = .slice oi mi ci ∧ e = .slice ok mk ck ∧ kdV t = k := by
  obtain ⟨k, n, s, is, ks⟩ := t
  obtain ⟨vi, vk, e1, hI, hK, _⟩ := h.out
  obtain ⟨o1, c1, rfl⟩ := hI.len
  obtain ⟨o2, c2, rfl⟩ := hK.len
  simp only [Value.agg.injEq, Array.mk.injEq, List.cons.injEq, and_true] at e1
  exact ⟨k, n, s, _, _, _, _, _, _, e1.1, e1.2.1, e1.2.2.1, e1.2.2.2.1, e1.2.2.2.2, rfl⟩
theorem WV.at (h : WV P w v is) {j : Nat} (hj : j < is.length) :
    ∃ g o c k' n' s' oi mi ci ok mk ck, v = .slice (some ⟨g, o, none⟩) is.length c ∧ w.cell? ⟨g, o + j * 5, none⟩ = some (.int .i64 k') ∧ w.cell? ⟨g, o + j * 5 + 1, none⟩ = some (.int .i64 n') ∧ w.cell? ⟨g, o + j * 5 + 2, none⟩ = some (.string s') ∧
      w.cell? ⟨g, o + j * 5 + 3, none⟩ = some (.slice oi mi ci) ∧ w.cell? ⟨g, o + j * 5 + 4, none⟩ = some (.slice ok mk ck) ∧ VV P w (.agg #[.int .i64 k', .int .i64 n', .string s', .slice oi mi ci, .slice ok mk ck]) is[j] ∧ kdV is[j] = k' := by
  obtain ⟨rs, h1, h2, h3⟩ := h
  rcases h1.2 with ⟨rfl, _⟩ | ⟨g, o, c, _, rfl, hc⟩
  · simp at h2; omega
  · have hr : rs[j]? = some rs[j] := List.getElem?_eq_getElem (by omega)
    obtain ⟨a1, a2, a3, a4, a5⟩ := hc j _ hr
    have hV := h3 j _ _ hr (List.getElem?_eq_getElem hj)
    obtain ⟨k', n', s', oi, mi, ci, ok, mk, ck, e1, e2, e3, e4, e5, hk⟩ := hV.five
    rw [e1] at a1; rw [e2] at a2; rw [e3] at a3; rw [e4] at a4; rw [e5] at a5
    refine ⟨g, o, c, k', n', s', oi, mi, ci, ok, mk, ck, by rw [h2], a1, a2, a3, a4, a5, ?_, hk⟩
    have hp : pent rs[j] = .agg #[.int .i64 k', .int .i64 n', .string s', .slice oi mi ci, .slice ok mk ck] := by
      unfold pent; rw [e1, e2, e3, e4, e5]
    rw [← hp]; exact hV
theorem WV.nil (P : Nat → Prop) (w : World) : WV P w (.slice none 0 0) [] := ⟨[], ⟨by simp, .inl ⟨rfl, _, _, rfl⟩⟩, rfl, fun i r e h => by simp at h⟩
end
/-- A new value that reads as t. -/
def Fresh (t : Ty) (w : World) (e : Ending) (w' : World) : Prop := ∃ u, e = .returned u ∧ TV (fun g => w.heap.size ≤ g) w' u t ∧ Below w.heap.size w w'
theorem uni_fresh {a b : Ty} {P Q : Nat → Prop} {w : World} {x y : Value} (hx : TV P w x a) (hy : TV Q w y b) (hs : sizeT a ≤ 1000000) (hn : namesT a ≤ 1000000) : Calls Tryz.prog 17 #[x, y] w (Fresh (uniT a b) w) := by
  refine (uni_any a b P Q w x y hx hy hs hn).mono ?_
  rintro e w' ⟨u, rfl, hu, hb⟩
  exact ⟨u, rfl, hu.mono fun g hg => hg.resolve_left (by omega), hb⟩
/-- A new block of five cells. -/
theorem box5 (w : World) (a b c d e : Value) (T : Nat) : Below w.heap.size w (w.alloc (.cells #[a, b, c, d, e] T)) ∧ (w.alloc (.cells #[a, b, c, d, e] T)).cell? ⟨w.heap.size, 0, none⟩ = some a ∧ (w.alloc (.cells #[a, b, c, d, e] T)).cell? ⟨w.heap.size, 1, none⟩ = some b ∧ (w.alloc (.cells #[a, b, c, d, e] T)).cell? ⟨w.heap.size, 2, none⟩ = some c ∧
    (w.alloc (.cells #[a, b, c, d, e] T)).cell? ⟨w.heap.size, 3, none⟩ = some d ∧ (w.alloc (.cells #[a, b, c, d, e] T)).cell? ⟨w.heap.size, 4, none⟩ = some e := by
  refine ⟨(Below.refl _ _).alloc (Nat.le_refl _) _, ?_, ?_, ?_, ?_, ?_⟩ <;> simp [World.cell?_alloc_new]
end Go.Proofs.YtfljnigbfacmjaaGreatDoor
