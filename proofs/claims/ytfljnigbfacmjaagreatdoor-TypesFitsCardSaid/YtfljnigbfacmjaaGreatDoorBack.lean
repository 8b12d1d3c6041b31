/- What Parse reads, against Format and Check: plain. -/
import Derived.Test.YtfljnigbfacmjaaGreatDoorIns
namespace Go.Proofs.YtfljnigbfacmjaaGreatDoor
open Go Go.RowKit
set_option linter.unusedVariables false

theorem bsGo_at (less : Nat → Bool) (k n : Nat) (h1 : ∀ t, t < k → less t = true) (h2 : ∀ t, k ≤ t → t < n → less t = false) :
    ∀ (f lo hi : Nat), hi - lo ≤ f → lo ≤ k → k ≤ hi → hi ≤ n → Lib.bsGo less f lo hi = k
  | 0, lo, hi, hf, a, b, c => by simp [Lib.bsGo]; omega
  | f + 1, lo, hi, hf, a, b, c => by
    unfold Lib.bsGo
    by_cases h : lo < hi
    · rw [if_pos h]
      by_cases hm : (lo + hi) / 2 < k
      · rw [h1 _ hm, if_pos rfl]; exact bsGo_at less k n h1 h2 f _ _ (by omega) (by omega) b c
      · rw [h2 _ (by omega) (by omega)]; exact bsGo_at less k n h1 h2 f _ _ (by omega) a (by omega) (by omega)
    · rw [if_neg h]; omega
theorem ltS_trans {a b c : ByteArray} (h : ltS a b = true) (k : ltS b c = true) : ltS a c = true := bl_trans _ _ _ h k
theorem ltS_total {a b : ByteArray} (h : ltS a b = false) : ltS b a = true ∨ a = b := (bl_total _ _ h).imp id toList_inj
theorem ltS_irr (a : ByteArray) : ltS a a = false := by
  cases h : ltS a a with
  | false => rfl
  | true => have := bl_asymm _ _ h; unfold ltS at h; rw [h] at this; cases this
theorem ltS_asymm {a b : ByteArray} (h : ltS a b = true) : ltS b a = false := bl_asymm _ _ h
def Asc (ns : List ByteArray) : Prop := ns.Pairwise fun a b => ltS a b = true
def posT : List ByteArray → ByteArray → Nat
  | [], _ => 0
  | a :: ns, x => if ltS a x = true then posT ns x + 1 else 0
theorem posT_le : ∀ (ns : List ByteArray) (x : ByteArray), posT ns x ≤ ns.length
  | [], _ => Nat.le_refl _
  | a :: ns, x => by
    unfold posT
    split
    · have := posT_le ns x; simp; omega
    · exact Nat.zero_le _
theorem posT_lt : ∀ (ns : List ByteArray) (x : ByteArray) (t : Nat), t < posT ns x → ltS (ns.getD t ByteArray.empty) x = true
  | [], _, t, h => by simp [posT] at h
  | a :: ns, x, t, h => by
    unfold posT at h
    split at h
    · rename_i hh
      cases t with
      | zero => exact hh
      | succ t => exact posT_lt ns x t (by omega)
    · simp at h
theorem posT_ge : ∀ (ns : List ByteArray) (x : ByteArray) (t : Nat), Asc ns → posT ns x ≤ t → t < ns.length → ltS (ns.getD t ByteArray.empty) x = false
  | [], _, t, _, _, h => by simp at h
  | a :: ns, x, t, ha, h, hl => by
    unfold posT at h
    have hp := List.pairwise_cons.1 ha
    split at h
    · cases t with
      | zero => omega
      | succ t => exact posT_ge ns x t hp.2 (by omega) (by simpa using hl)
    · rename_i hh
      have hh' : ltS a x = false := by simpa using hh
      cases t with
      | zero => exact hh'
      | succ t =>
        have hl' : t < ns.length := by simpa using hl
        have e : (a :: ns).getD (t + 1) ByteArray.empty = ns[t] := by simp [hl']
        rw [e]
        cases hc : ltS ns[t] x with
        | false => rfl
        | true => rw [ltS_trans (hp.1 _ (List.getElem_mem hl')) hc] at hh'; cases hh'
theorem posN_asc {ns : List ByteArray} (x : ByteArray) (h : Asc ns) : posN ns x = posT ns x := by
  unfold posN
  exact bsGo_at _ (posT ns x) ns.length (fun t ht => posT_lt ns x t ht) (fun t h1 h2 => posT_ge ns x t h h1 h2) _ _ _ (by omega) (Nat.zero_le _) (posT_le ns x) (Nat.le_refl _)
theorem asc_ins : ∀ (ns : List ByteArray) (x : ByteArray), Asc ns → (∀ y ∈ ns, y ≠ x) → Asc (ns.insertIdx (posT ns x) x)
  | [], x, _, _ => by simp [posT, Asc]
  | a :: ns, x, ha, hn => by
    have hp := List.pairwise_cons.1 ha
    unfold posT
    split
    · rename_i hh
      rw [List.insertIdx_succ_cons]
      refine List.pairwise_cons.2 ⟨fun b hb => ?_, asc_ins ns x hp.2 fun y hy => hn y (List.mem_cons_of_mem _ hy)⟩
      rcases (List.mem_insertIdx (posT_le ns x)).1 hb with rfl | hb
      · exact hh
      · exact hp.1 b hb
    · rename_i hh
      rw [List.insertIdx_zero]
      have hx : ltS x a = true := (ltS_total (by simpa using hh)).resolve_right (hn a (List.mem_cons_self ..))
      refine List.pairwise_cons.2 ⟨fun b hb => ?_, ha⟩
      rcases List.mem_cons.1 hb with rfl | hb
      · exact hx
      · exact ltS_trans hx (hp.1 b hb)
theorem posT_all : ∀ (ns : List ByteArray) (x : ByteArray), (∀ y ∈ ns, ltS y x = true) → posT ns x = ns.length
  | [], _, _ => rfl
  | a :: ns, x, h => by
    unfold posT
    rw [if_pos (h a (List.mem_cons_self ..)), posT_all ns x fun y hy => h y (List.mem_cons_of_mem _ hy)]
    rfl
theorem namesE_zero : ∀ (ns : List ByteArray) (p : Option ByteArray), namesE p ns = 0 ↔ ((∀ s ∈ ns, identB s = true) ∧ Asc ns ∧ ∀ q, p = some q → ∀ s ∈ ns, ltS q s = true)
  | [], p => by simp [namesE, Asc]
  | s :: r, p => by
    rw [namesE_cons]
    cases hi : identB s with
    | false => simp [hi]
    | true =>
      rw [if_neg (by decide)]
      have ih := namesE_zero r (some s)
      cases hb : badP p s with
      | true =>
        simp only [if_pos]
        refine ⟨fun h => by simp at h, fun ⟨_, _, h3⟩ => ?_⟩
        cases p with
        | none => cases hb
        | some q =>
          have hb' : (!ltS q s) = true := hb
          rw [h3 q rfl s (List.mem_cons_self ..)] at hb'; cases hb'
      | false =>
        rw [if_neg (by decide), ih]
        have hq : ∀ q, p = some q → ltS q s = true := fun q e => by
          subst e
          have hb' : (!ltS q s) = false := hb
          simpa using hb'
        constructor
        · rintro ⟨h1, h2, h3⟩
          refine ⟨fun x hx => ?_, List.pairwise_cons.2 ⟨h3 s rfl, h2⟩, fun q e x hx => ?_⟩
          · rcases List.mem_cons.1 hx with rfl | hx
            · exact hi
            · exact h1 x hx
          · rcases List.mem_cons.1 hx with rfl | hx
            · exact hq q e
            · exact ltS_trans (hq q e) (h3 s rfl x hx)
        · rintro ⟨h1, h2, h3⟩
          have hp := List.pairwise_cons.1 h2
          exact ⟨fun x hx => h1 x (List.mem_cons_of_mem _ hx), hp.2, fun q e x hx => by cases e; exact hp.1 x hx⟩
theorem checkL_zero : ∀ (es : List Ty) (lv : Int), checkL es lv = 0 ↔ ∀ e ∈ es, checkT e lv = 0
  | [], lv => by simp [checkL]
  | e :: es, lv => by
    rw [checkL]
    split
    · rename_i h
      exact ⟨fun h2 => absurd h2 h, fun h2 => absurd (h2 e (List.mem_cons_self ..)) h⟩
    · rename_i h
      have h' : checkT e lv = 0 := by simpa using h
      rw [checkL_zero es lv]
      simp [h']
/-- A valid type. -/
theorem checkT_zero (k : Int) (es : List Ty) (ns : List ByteArray) (lv : Int) : checkT (.mk k es ns) lv = 0 ↔ (lv ≤ 32 ∧ partsB k es.length ns.length = true ∧ (∀ s ∈ ns, identB s = true) ∧ Asc ns ∧ ∀ e ∈ es, checkT e (lv + 1) = 0) := by
  rw [checkT_eq]
  by_cases h1 : 32 < lv
  · rw [if_pos h1]; exact ⟨fun h => by simp at h, fun h => by omega⟩
  rw [if_neg h1]
  cases h2 : partsB k es.length ns.length with
  | false => simp
  | true =>
    rw [if_neg (by decide)]
    by_cases h3 : namesE none ns = 0
    · rw [if_neg (by simpa using h3), checkL_zero]
      have := (namesE_zero ns none).1 h3
      exact ⟨fun h => ⟨by omega, rfl, this.1, this.2.1, h⟩, fun h => h.2.2.2.2⟩
    · rw [if_pos h3]
      exact ⟨fun h => absurd h h3, fun h => absurd ((namesE_zero ns none).2 ⟨h.2.2.1, h.2.2.2.1, fun q e => by cases e⟩) h3⟩

/-! Reading at a place of a text -/
def bl (x : ByteArray) : List UInt8 := x.data.toList
theorem bl_eq : bl ⟨#[32, 61, 32]⟩ = [32, 61, 32] := rfl
theorem bl_lp : bl ⟨#[40]⟩ = [40] := rfl
theorem bl_rp : bl ⟨#[41]⟩ = [41] := rfl
theorem bl_ob : bl ⟨#[111, 98, 106, 101, 99, 116, 40, 123]⟩ = [111, 98, 106, 101, 99, 116, 40, 123] := rfl
theorem bl_cb : bl ⟨#[125, 41]⟩ = [125, 41] := rfl
theorem bl_app (a b : ByteArray) : bl (a ++ b) = bl a ++ bl b := by
  unfold bl
  rw [ByteArray.data_append, Array.toList_append]
theorem bl_len (x : ByteArray) : (bl x).length = x.size := (size_eq x).symm
def At (s : ByteArray) (p : Nat) (l : List UInt8) : Prop := p ≤ s.size ∧ (bl s).drop p = l
theorem At.size {s : ByteArray} {p : Nat} {l : List UInt8} (h : At s p l) : p + l.length = s.size := by
  rw [← h.2, List.length_drop, bl_len]
  have := h.1; omega
theorem At.step {s : ByteArray} {p : Nat} {a b : List UInt8} (h : At s p (a ++ b)) : At s (p + a.length) b := by
  have := h.size
  rw [List.length_append] at this
  refine ⟨by omega, ?_⟩
  rw [← List.drop_drop, h.2, List.drop_left' rfl]
theorem At.cons {s : ByteArray} {p : Nat} {c : UInt8} {b : List UInt8} (h : At s p (c :: b)) : At s (p + 1) b := At.step (a := [c]) h
theorem At.lt {s : ByteArray} {p : Nat} {c : UInt8} {b : List UInt8} (h : At s p (c :: b)) : p < s.size := by
  have := h.size
  rw [List.length_cons] at this; omega
theorem At.byte {s : ByteArray} {p : Nat} {c : UInt8} {b : List UInt8} (h : At s p (c :: b)) : byteN s p = c.toNat := by
  have hl := h.lt
  show ((bl s).getD p 0).toNat = _
  have e : (bl s).drop p = c :: b := h.2
  have : ((bl s).drop p)[0]? = some c := by rw [e]; rfl
  rw [List.getElem?_drop, Nat.add_zero] at this
  rw [List.getD_eq_getElem?_getD, this]; rfl
theorem At.rest {s : ByteArray} {p : Nat} {l : List UInt8} (h : At s p l) : restL s p = l.dropWhile (blanks.contains ·) := by
  unfold restL
  rw [show s.data.toList.drop p = l from h.2]
theorem At.skip0 {s : ByteArray} {p : Nat} {c : UInt8} {b : List UInt8} (h : At s p (c :: b)) (hc : blanks.contains c = false) : skipN s p = p := by
  have hz := h.size
  unfold skipN
  rw [h.rest, List.dropWhile_cons, if_neg (by rw [hc]; decide)]
  omega
theorem At.skip1 {s : ByteArray} {p : Nat} {c : UInt8} {b : List UInt8} (h : At s p (32 :: c :: b)) (hc : blanks.contains c = false) : skipN s p = p + 1 := by
  have hz := h.size
  unfold skipN
  rw [h.rest, List.dropWhile_cons, if_pos (by decide), List.dropWhile_cons, if_neg (by rw [hc]; decide)]
  rw [List.length_cons, List.length_cons] at hz
  rw [List.length_cons]
  omega
theorem At.skipE {s : ByteArray} {p : Nat} (h : At s p []) : skipN s p = s.size := by
  unfold skipN
  rw [h.rest]; rfl
def NP (rest : List UInt8) : Prop := ∀ c r, rest = c :: r → partN c.toNat = false
theorem takeWhile_app (f : UInt8 → Bool) : ∀ (w rest : List UInt8), (∀ c ∈ w, f c = true) → (∀ c r, rest = c :: r → f c = false) → (w ++ rest).takeWhile f = w
  | [], [], _, _ => rfl
  | [], c :: r, _, h => by rw [List.nil_append, List.takeWhile_cons, if_neg (by rw [h c r rfl]; decide)]
  | x :: w, rest, hw, h => by
    rw [List.cons_append, List.takeWhile_cons, if_pos (hw x (List.mem_cons_self ..)), takeWhile_app f w rest (fun c hc => hw c (List.mem_cons_of_mem _ hc)) h]
theorem bl_extract (s : ByteArray) (p e : Nat) : bl (s.extract p e) = ((bl s).drop p).take (e - p) := by
  unfold bl
  rw [ByteArray.data_extract, Array.toList_extract]
theorem wordE_bl (s : ByteArray) (p : Nat) : bl (s.extract p (wordE s p)) = ((bl s).drop p).takeWhile fun c => partN c.toNat := by
  rw [bl_extract]
  unfold wordE
  rw [Nat.add_sub_cancel_left]
  exact (List.prefix_iff_eq_take.1 (List.takeWhile_prefix _)).symm
theorem ba_ext {a b : ByteArray} (h : bl a = bl b) : a = b := ByteArray.ext (Array.ext' h)
theorem At.word {s : ByteArray} {p : Nat} {w : ByteArray} {rest : List UInt8} (h : At s p (bl w ++ rest)) (hw : ∀ c ∈ bl w, partN c.toNat = true) (hr : NP rest) : wordE s p = p + w.size ∧ s.extract p (wordE s p) = w := by
  have e : ((bl s).drop p).takeWhile (fun c => partN c.toNat) = bl w := by rw [h.2]; exact takeWhile_app _ _ _ hw hr
  refine ⟨?_, ba_ext (by rw [wordE_bl, e])⟩
  have : wordE s p = p + (((bl s).drop p).takeWhile fun c => partN c.toNat).length := rfl
  rw [this, e, bl_len]
theorem part_nb {c : UInt8} (h : partN c.toNat = true) : blanks.contains c = false := by
  have hb : ∀ d : UInt8, d ∈ blanks → partN d.toNat = false := by decide
  cases hc : blanks.contains c with
  | false => rfl
  | true => rw [hb c (by simpa using hc)] at h; cases h
/-- A word of a kind. -/
theorem word_facts {k : Int} (h0 : 0 ≤ k) (h6 : k ≤ 6) : (∀ c ∈ bl (wordS k), partN c.toNat = true) ∧ (∃ c r, bl (wordS k) = c :: r) ∧ kindO (wordS k) = some k.toNat := by
  have : k = 0 ∨ k = 1 ∨ k = 2 ∨ k = 3 ∨ k = 4 ∨ k = 5 ∨ k = 6 := by omega
  rcases this with rfl | rfl | rfl | rfl | rfl | rfl | rfl
  all_goals exact ⟨by decide, ⟨_, _, rfl⟩, by decide⟩
theorem read_word {s : ByteArray} {p q : Nat} {k : Int} {rest : List UInt8} (h0 : 0 ≤ k) (h6 : k ≤ 6) (hq : skipN s p = q) (h : At s q (bl (wordS k) ++ rest)) (hr : NP rest) :
    readyP s p = .ok q ∧ wordE s q = q + (wordS k).size ∧ kindO (s.extract q (wordE s q)) = some k.toNat := by
  obtain ⟨h1, ⟨c, r, h2⟩, h3⟩ := word_facts h0 h6
  obtain ⟨h4, h5⟩ := h.word h1 hr
  refine ⟨?_, h4, by rw [h5, h3]⟩
  unfold readyP
  have hlt : q < s.size := by
    rw [h2] at h
    exact At.lt (c := c) (b := r ++ rest) h
  rw [hq, if_pos hlt]
theorem sign_fmt {s : ByteArray} {p : Nat} {c : UInt8} {rest : List UInt8} (h : At s p (c :: rest)) (hc : blanks.contains c = false) : signP s p c.toNat = .ok (p + 1) := by
  unfold signP sgnB
  rw [h.skip0 hc, h.byte, decide_eq_true h.lt, decide_eq_true rfl]
  rfl
theorem sign_fmt1 {s : ByteArray} {p : Nat} {c : UInt8} {rest : List UInt8} (h : At s p (32 :: c :: rest)) (hc : blanks.contains c = false) : signP s p c.toNat = .ok (p + 2) := by
  unfold signP sgnB
  rw [h.skip1 hc, h.cons.byte, decide_eq_true h.cons.lt, decide_eq_true rfl]
  rfl
theorem ready_fmt {s : ByteArray} {p : Nat} {c : UInt8} {rest : List UInt8} (h : At s p (c :: rest)) (hc : blanks.contains c = false) : readyP s p = .ok p := by
  unfold readyP
  rw [h.skip0 hc, if_pos h.lt]
theorem ident_bytes {x : ByteArray} (h : identB x = true) : (∀ c ∈ bl x, partN c.toNat = true) ∧ x.size ≠ 0 ∧ x.size ≤ 64 ∧ digitN (byteN x 0) = false ∧ ∃ c r, bl x = c :: r := by
  obtain ⟨h1, h2, h3⟩ := (identB_iff x).1 h
  have hok : ∀ j, okAt x j = true → partN (byteN x j) = true := fun j hj => by
    unfold okAt at hj
    unfold partN
    revert hj
    cases letterN (byteN x j) <;> cases digitN (byteN x j) <;> simp
  refine ⟨fun c hc => ?_, h1, h2, ?_, ?_⟩
  · obtain ⟨j, hj, rfl⟩ := List.getElem_of_mem hc
    have hj' : j < x.size := by rw [← bl_len]; exact hj
    have := hok j (h3 j hj')
    have this : partN ((bl x).getD j 0).toNat = true := this
    rw [List.getD_eq_getElem?_getD, List.getElem?_eq_getElem hj] at this
    exact this
  · have := h3 0 (by omega)
    unfold okAt at this
    have hl : letterN (byteN x 0) = true := by simpa using this
    generalize byteN x 0 = n at hl
    unfold letterN at hl
    unfold digitN
    simp at hl ⊢
    omega
  · cases hb : bl x with
    | nil => rw [← bl_len, hb] at h1; exact absurd rfl h1
    | cons c r => exact ⟨c, r, rfl⟩
theorem containsS_not {l : List ByteArray} {x : ByteArray} (h : ∀ y ∈ l, y ≠ x) : Lib.containsS l x = false := by
  cases hc : Lib.containsS l x with
  | false => rfl
  | true => exact absurd rfl (h x ((Lib.containsS_iff l x).1 hc))
theorem name_fmt {s : ByteArray} {p q : Nat} {x : ByteArray} {ns : List ByteArray} {rest : List UInt8} (hx : identB x = true) (hn : ∀ y ∈ ns, y ≠ x) (hq : skipN s p = q) (h : At s q (bl x ++ 32 :: rest)) : nameP s p ns = .ok (x, q + x.size) := by
  obtain ⟨h1, h2, h3, h4, c, r, h5⟩ := ident_bytes hx
  obtain ⟨h6, h7⟩ := h.word h1 (fun c r e => by cases e; decide)
  have hlt : q < s.size := by
    rw [h5] at h
    exact At.lt (c := c) (b := r ++ 32 :: rest) h
  have hX : nameX s p = x := by unfold nameX; rw [hq, h7]
  have hK : nameK s p ns = 0 := by
    unfold nameK
    rw [hX, hq, if_neg (by omega), if_neg (by rw [h4]; simp [h2]), if_neg (by omega), if_neg (by rw [containsS_not hn]; decide)]
  unfold nameP
  rw [if_pos hK, hX, hq, h6]
theorem joinS_one (a : ByteArray) : joinS [a] = a := by
  apply ba_ext
  unfold joinS
  simp [Lib.join]
theorem joinS_cons (a b : ByteArray) (r : List ByteArray) : bl (joinS (a :: b :: r)) = bl a ++ 44 :: 32 :: bl (joinS (b :: r)) := by
  have key : ∀ (x y : List UInt8) (l : List (List UInt8)), Lib.join (x :: y :: l) [44, 32] = x ++ 44 :: 32 :: Lib.join (y :: l) [44, 32] := fun x y l => by simp [Lib.join, List.intercalate]
  have h2 : ∀ l : List ByteArray, bl (joinS l) = Lib.join (l.map bl) [44, 32] := fun l => by
    show (Lib.join (l.map (·.data.toList)) [44, 32]).toArray.toList = _
    rw [List.toList_toArray]; rfl
  rw [h2, h2, List.map_cons, List.map_cons, key]
theorem joinS_size (a b : ByteArray) (r : List ByteArray) : (joinS (a :: b :: r)).size = a.size + 2 + (joinS (b :: r)).size := by
  rw [← bl_len, joinS_cons, List.length_append, List.length_cons, List.length_cons, bl_len, bl_len]; omega
theorem insertIdx_end {α : Type} (l : List α) (x : α) (n : Nat) (h : n = l.length) : l.insertIdx n x = l ++ [x] := by
  subst h; exact List.insertIdx_length_self

def RdFmt (s : ByteArray) (rd : Nat → Rd Ty) (e : Ty) : Prop := ∀ q rest, At s q (32 :: bl (fmtT e) ++ rest) → NP rest → rd q = .ok (e, q + 1 + (fmtT e).size)
theorem loop_fmt (s : ByteArray) (rd : Nat → Rd Ty) : ∀ (es2 : List Ty) (ns2 : List ByteArray) (es1 : List Ty) (ns1 : List ByteArray) (n p q : Nat) (tail : List UInt8), es2.length = ns2.length → es2 ≠ [] → es2.length ≤ n → skipN s p = q →
    At s q (bl (joinS (fmtL es2 ns2)) ++ 125 :: tail) → (∀ e ∈ es2, RdFmt s rd e) → Asc (ns1 ++ ns2) → (∀ x ∈ ns2, identB x = true) → es1.length = ns1.length →
    loopP s rd n p es1 ns1 = .ok (.mk 6 (es1 ++ es2) (ns1 ++ ns2), q + (joinS (fmtL es2 ns2)).size + 1)
  | [], _, _, _, _, _, _, _, _, h, _, _, _, _, _, _, _ => absurd rfl h
  | e :: es, [], _, _, _, _, _, _, h, _, _, _, _, _, _, _, _ => by simp at h
  | e :: es, x :: ns, es1, ns1, 0, _, _, _, _, _, h, _, _, _, _, _, _ => by simp at h
  | e :: es, x :: ns, es1, ns1, n + 1, p, q, tail, hl, _, hn, hq, hA, hrd, hasc, hid, hl1 => by
    have hlt : ∀ y ∈ ns1, ltS y x = true := fun y hy => (List.pairwise_append.1 hasc).2.2 y hy x (List.mem_cons_self ..)
    have hasc1 : Asc ns1 := (List.pairwise_append.1 hasc).1
    have hne : ∀ y ∈ ns1, y ≠ x := fun y hy e => by have := hlt y hy; rw [e, ltS_irr] at this; cases this
    have hix := hid x (List.mem_cons_self ..)
    have hpos : posN ns1 x = ns1.length := by rw [posN_asc x hasc1, posT_all ns1 x hlt]
    have hi1 : ns1.insertIdx (posN ns1 x) x = ns1 ++ [x] := insertIdx_end _ _ _ hpos
    have hi2 : es1.insertIdx (posN ns1 x) e = es1 ++ [e] := insertIdx_end _ _ _ (by rw [hpos, hl1])
    have hent : bl (x ++ ⟨#[32, 61, 32]⟩ ++ fmtT e) = bl x ++ (32 :: 61 :: 32 :: bl (fmtT e)) := by rw [bl_app, bl_app, bl_eq]; simp
    have hentS : (x ++ ⟨#[32, 61, 32]⟩ ++ fmtT e).size = x.size + 3 + (fmtT e).size := by rw [← bl_len, hent]; simp [bl_len]; omega
    have hx0 := (ident_bytes hix)
    have main : ∀ (more : List UInt8), At s q (bl x ++ (32 :: 61 :: 32 :: bl (fmtT e)) ++ more) → NP more →
        nameP s p ns1 = .ok (x, q + x.size) ∧ signP s (q + x.size) 61 = .ok (q + x.size + 2) ∧ rd (q + x.size + 2) = .ok (e, q + (x.size + 3 + (fmtT e).size)) ∧ At s (q + (x.size + 3 + (fmtT e).size)) more := by
      intro more hA hm
      have a1 : At s q (bl x ++ 32 :: (61 :: 32 :: bl (fmtT e) ++ more)) := by simpa [List.append_assoc] using hA
      have a2 := a1.step
      rw [bl_len] at a2
      have a3 := a2.cons.cons
      have a4 : At s (q + x.size + 2) (32 :: bl (fmtT e) ++ more) := a3
      have a5 := hrd e (List.mem_cons_self ..) _ _ a4 hm
      have a6 := a4.step
      rw [List.length_cons, bl_len] at a6
      refine ⟨name_fmt hix hne hq a1, sign_fmt1 (c := 61) a2 (by decide), ?_, ?_⟩
      · rw [a5]; simp only [Except.ok.injEq, Prod.mk.injEq, true_and]; omega
      · rw [show q + (x.size + 3 + (fmtT e).size) = q + x.size + 2 + ((fmtT e).size + 1) by omega]; exact a6
    unfold loopP
    cases es with
    | nil =>
      obtain rfl : ns = [] := List.eq_nil_of_length_eq_zero (by simpa using hl.symm)
      have hj : fmtL [e] [x] = [x ++ ⟨#[32, 61, 32]⟩ ++ fmtT e] := by rw [fmtL, fmtL]
      rw [hj, joinS_one] at hA ⊢
      rw [hent] at hA
      obtain ⟨m1, m2, m3, m4⟩ := main _ hA (fun c r e => by cases e; decide)
      simp only [m1, m2, m3, ready_fmt m4 (by decide)]
      have hb : byteN s (q + (x.size + 3 + (fmtT e).size)) = 125 := m4.byte
      rw [if_pos hb, hi1, hi2, hentS]
    | cons e' es =>
      cases ns with
      | nil => simp at hl
      | cons x' ns =>
        have hj : fmtL (e :: e' :: es) (x :: x' :: ns) = (x ++ ⟨#[32, 61, 32]⟩ ++ fmtT e) :: fmtL (e' :: es) (x' :: ns) := by rw [fmtL]
        have hj2 : fmtL (e' :: es) (x' :: ns) = (x' ++ ⟨#[32, 61, 32]⟩ ++ fmtT e') :: fmtL es ns := by rw [fmtL]
        have hsz : (joinS (fmtL (e :: e' :: es) (x :: x' :: ns))).size = x.size + 3 + (fmtT e).size + 2 + (joinS (fmtL (e' :: es) (x' :: ns))).size := by
          rw [hj, hj2, joinS_size, hentS]
        rw [hj, hj2, joinS_cons, ← hj2, hent] at hA
        obtain ⟨m1, m2, m3, m4⟩ := main (44 :: 32 :: bl (joinS (fmtL (e' :: es) (x' :: ns))) ++ 125 :: tail) (by simpa [List.append_assoc] using hA) (fun c r e => by cases e; decide)
        have m5 : At s (q + (x.size + 3 + (fmtT e).size)) (44 :: (32 :: bl (joinS (fmtL (e' :: es) (x' :: ns))) ++ 125 :: tail)) := by simpa using m4
        have hr := ready_fmt m5 (by decide)
        have hb : ¬ byteN s (q + (x.size + 3 + (fmtT e).size)) = 125 := by rw [m5.byte]; decide
        have hs := sign_fmt (c := 44) m5 (by decide)
        have hs' : signP s (q + (x.size + 3 + (fmtT e).size)) 44 = .ok (q + (x.size + 3 + (fmtT e).size) + 1) := hs
        simp only [m1, m2, m3, hr, if_neg hb, hs', hi1, hi2]
        have hx'2 := ident_bytes (hid x' (by simp))
        obtain ⟨c, r, hc⟩ := hx'2.2.2.2.2
        have hent' : bl (x' ++ ⟨#[32, 61, 32]⟩ ++ fmtT e') = c :: (r ++ (32 :: 61 :: 32 :: bl (fmtT e'))) := by rw [bl_app, bl_app, hc, bl_eq]; simp
        have hhead : ∃ r', bl (joinS (fmtL (e' :: es) (x' :: ns))) = c :: r' := by
          rw [hj2]
          cases hq : fmtL es ns with
          | nil => rw [joinS_one, hent']; exact ⟨_, rfl⟩
          | cons b r2 => rw [joinS_cons, hent']; exact ⟨_, rfl⟩
        obtain ⟨r', hr'⟩ := hhead
        have hcp : partN c.toNat = true := hx'2.1 c (by rw [hc]; exact List.mem_cons_self ..)
        have m6 : At s (q + (x.size + 3 + (fmtT e).size) + 1) (32 :: c :: (r' ++ 125 :: tail)) := by have := m5.cons; rw [hr'] at this; simpa using this
        have hsk := m6.skip1 (part_nb hcp)
        have m7 : At s (q + (x.size + 3 + (fmtT e).size) + 1 + 1) (bl (joinS (fmtL (e' :: es) (x' :: ns))) ++ 125 :: tail) := by rw [hr']; simpa using m6.cons
        rw [loop_fmt s rd (e' :: es) (x' :: ns) (es1 ++ [e]) (ns1 ++ [x]) n _ _ tail (by simpa using hl) (by simp) (by simpa using hn) hsk m7 (fun y hy => hrd y (List.mem_cons_of_mem _ hy)) (by simpa [List.append_assoc] using hasc)
          (fun y hy => hid y (List.mem_cons_of_mem _ hy)) (by simp [hl1]), hsz]
        simp only [List.append_assoc, List.cons_append, List.nil_append, Except.ok.injEq, Prod.mk.injEq, true_and]
        omega

theorem partsB_true {k : Int} {ne nn : Nat} (h : partsB k ne nn = true) : (k = 4 ∨ k = 5) ∧ ne = 1 ∧ nn = 0 ∨ k = 6 ∧ ne = nn ∨ (0 ≤ k ∧ k ≤ 3) ∧ ne = 0 ∧ nn = 0 := by
  unfold partsB at h
  split at h
  · simp at h; exact .inl ⟨by assumption, h⟩
  · split at h
    · simp at h; exact .inr (.inl ⟨by assumption, h⟩)
    · simp at h; refine .inr (.inr ⟨⟨h.1, h.2.1⟩, ?_⟩); omega
theorem fmt_head (t : Ty) (lv : Int) (h : checkT t lv = 0) : ∃ c r, bl (fmtT t) = c :: r ∧ partN c.toNat = true := by
  obtain ⟨k, es, ns⟩ := t
  obtain ⟨_, hp, _⟩ := (checkT_zero k es ns lv).1 h
  have hw : ∀ (k : Int) (b : List UInt8), 0 ≤ k → k ≤ 6 → ∃ c r, bl (wordS k) ++ b = c :: r ∧ partN c.toNat = true := fun k b h0 h6 => by
    obtain ⟨h1, ⟨c, r, h2⟩, _⟩ := word_facts h0 h6
    exact ⟨c, r ++ b, by rw [h2]; rfl, h1 c (by rw [h2]; exact List.mem_cons_self ..)⟩
  rw [fmtT_eq]
  rcases partsB_true hp with ⟨hk, h1, h2⟩ | ⟨rfl, h1⟩ | ⟨hk, h1, h2⟩
  · rw [if_pos hk, if_pos h1, bl_app, bl_app, bl_app, List.append_assoc, List.append_assoc]
    exact hw k _ (by omega) (by omega)
  · rw [if_neg (by decide), if_pos rfl, bl_app, bl_app]
    exact ⟨111, _, rfl, by decide⟩
  · rw [if_neg (by omega), if_neg (by omega)]
    have := hw k [] hk.1 (by omega)
    rwa [List.append_nil] at this
theorem read_fmt (s : ByteArray) (t : Ty) : ∀ (lv : Int) (f p q : Nat) (rest : List UInt8), checkT t lv = 0 → (f : Int) + lv = 33 → skipN s p = q → At s q (bl (fmtT t) ++ rest) → NP rest → readP s f p = .ok (t, q + (fmtT t).size) := by
  induction t using Ty.ind with
  | h k es ns ih =>
    intro lv f p q rest hc hf hq hA hr
    obtain ⟨hlv, hparts, hid, hasc, hes⟩ := (checkT_zero k es ns lv).1 hc
    obtain ⟨f, rfl⟩ : ∃ f', f = f' + 1 := ⟨f - 1, by omega⟩
    have hf' : (f : Int) + (lv + 1) = 33 := by push_cast at hf; omega
    rw [readP]
    rcases partsB_true hparts with ⟨hk, h1, h2⟩ | ⟨rfl, h1⟩ | ⟨hk, h1, h2⟩
    · obtain ⟨e, rfl⟩ := List.length_eq_one_iff.1 h1
      obtain rfl := List.eq_nil_of_length_eq_zero h2
      have hk0 : 0 ≤ k := by omega
      have hk6 : k ≤ 6 := by omega
      have hft : fmtT (.mk k [e] []) = wordS k ++ ⟨#[40]⟩ ++ fmtT e ++ ⟨#[41]⟩ := by rw [fmtT_eq, if_pos hk, if_pos (show [e].length = 1 from rfl), fmtH]
      have hfs : (fmtT (.mk k [e] [])).size = (wordS k).size + 1 + (fmtT e).size + 1 := by
        rw [hft, ← bl_len, bl_app, bl_app, bl_app, bl_lp, bl_rp]; simp [bl_len]; omega
      rw [hft, bl_app, bl_app, bl_app, bl_lp, bl_rp] at hA
      have hA1 : At s q (bl (wordS k) ++ (40 :: (bl (fmtT e) ++ (41 :: rest)))) := by simpa [List.append_assoc] using hA
      obtain ⟨w1, w2, w3⟩ := read_word hk0 hk6 hq hA1 (fun c r e => by cases e; decide)
      have hA2 := hA1.step
      rw [bl_len] at hA2
      have s1 : signP s (q + (wordS k).size) 40 = .ok (q + (wordS k).size + 1) := sign_fmt (c := 40) hA2 (by decide)
      have hA3 := hA2.cons
      have hwe : ∃ c r, bl (fmtT e) = c :: r ∧ partN c.toNat = true := fmt_head e (lv + 1) (hes e (List.mem_cons_self ..))
      obtain ⟨c, r, hcr, hcp⟩ := hwe
      have hsk : skipN s (q + (wordS k).size + 1) = q + (wordS k).size + 1 := by
        rw [hcr] at hA3
        exact At.skip0 (c := c) (b := r ++ 41 :: rest) hA3 (part_nb hcp)
      have hread := ih e (List.mem_cons_self ..) (lv + 1) f _ _ _ (hes e (List.mem_cons_self ..)) hf' hsk hA3 (fun c r e => by cases e; decide)
      have hA4 := hA3.step
      rw [bl_len] at hA4
      have s2 : signP s (q + (wordS k).size + 1 + (fmtT e).size) 41 = .ok (q + (wordS k).size + 1 + (fmtT e).size + 1) := sign_fmt (c := 41) hA4 (by decide)
      have hkn : k.toNat = 4 ∨ k.toNat = 5 := by omega
      simp only [w1, w3]
      rw [if_pos hkn, w2]
      simp only [s1, hread, s2]
      rw [hfs, show ((k.toNat : Nat) : Int) = k by omega]
      simp only [Except.ok.injEq, Prod.mk.injEq, true_and]; omega
    · have hft : fmtT (.mk 6 es ns) = ⟨#[111, 98, 106, 101, 99, 116, 40, 123]⟩ ++ joinS (fmtL es ns) ++ ⟨#[125, 41]⟩ := by rw [fmtT_eq, if_neg (by decide), if_pos rfl]
      have hfs : (fmtT (.mk 6 es ns)).size = 8 + (joinS (fmtL es ns)).size + 2 := by
        rw [hft, ← bl_len, bl_app, bl_app, bl_ob, bl_cb]; simp [bl_len]; omega
      rw [hft, bl_app, bl_app, bl_ob, bl_cb] at hA
      have hA1 : At s q (bl (wordS 6) ++ (40 :: 123 :: (bl (joinS (fmtL es ns)) ++ (125 :: 41 :: rest)))) := by
        rw [show bl (wordS 6) = [111, 98, 106, 101, 99, 116] from rfl]; simpa [List.append_assoc] using hA
      obtain ⟨w1, w2, w3⟩ := read_word (by decide) (by decide) hq hA1 (fun c r e => by cases e; decide)
      rw [show (wordS 6).size = 6 from rfl] at w2
      have hA2 : At s (q + 6) _ := hA1.step
      have s1 : signP s (q + 6) 40 = .ok (q + 7) := sign_fmt (c := 40) hA2 (by decide)
      have hA3 : At s (q + 7) _ := hA2.cons
      have s2 : signP s (q + 7) 123 = .ok (q + 8) := sign_fmt (c := 123) hA3 (by decide)
      have hA4 : At s (q + 8) _ := hA3.cons
      have hobj : objP s (readP s f) (q + 8) = .ok (.mk 6 es ns, q + 8 + (joinS (fmtL es ns)).size + 1) := by
        unfold objP
        cases es with
        | nil =>
          obtain rfl : ns = [] := List.eq_nil_of_length_eq_zero (by simpa using h1.symm)
          have hj : joinS (fmtL [] []) = ⟨#[]⟩ := by rw [fmtL]; rfl
          rw [hj] at hA4 ⊢
          have hA5 : At s (q + 8) (125 :: 41 :: rest) := hA4
          simp only [ready_fmt hA5 (by decide)]
          have hb : byteN s (q + 8) = 125 := hA5.byte
          rw [if_pos hb]
          rfl
        | cons e es =>
          cases ns with
          | nil => simp at h1
          | cons x ns =>
            have hx := ident_bytes (hid x (List.mem_cons_self ..))
            obtain ⟨c, r, hcr⟩ := hx.2.2.2.2
            have hcp : partN c.toNat = true := hx.1 c (by rw [hcr]; exact List.mem_cons_self ..)
            have hent' : bl (x ++ ⟨#[32, 61, 32]⟩ ++ fmtT e) = c :: (r ++ (32 :: 61 :: 32 :: bl (fmtT e))) := by rw [bl_app, bl_app, hcr, bl_eq]; simp
            have hhead : ∃ r', bl (joinS (fmtL (e :: es) (x :: ns))) = c :: r' := by
              rw [fmtL]
              cases hq : fmtL es ns with
              | nil => rw [joinS_one, hent']; exact ⟨_, rfl⟩
              | cons b r2 => rw [joinS_cons, hent']; exact ⟨_, rfl⟩
            obtain ⟨r', hr'⟩ := hhead
            have hA5 : At s (q + 8) (c :: (r' ++ (125 :: 41 :: rest))) := by have h := hA4; rw [hr'] at h; exact h
            have hnb : ¬ byteN s (q + 8) = 125 := by
              rw [hA5.byte]; intro h; rw [h] at hcp; revert hcp; decide
            have hz := hA4.size
            have hle : (e :: es).length ≤ s.size + 1 := by
              have : ∀ (es : List Ty) (ns : List ByteArray), es.length = ns.length → es.length ≤ (joinS (fmtL es ns)).size + 1 := by
                intro es
                induction es with
                | nil => intro ns h; simp
                | cons a es ih2 =>
                  intro ns h
                  cases ns with
                  | nil => simp at h
                  | cons y ns =>
                    have h' : es.length = ns.length := by simpa using h
                    have i2 := ih2 ns h'
                    rw [fmtL]
                    cases es with
                    | nil => simp
                    | cons b es =>
                      cases ns with
                      | nil => simp at h'
                      | cons z ns =>
                        rw [fmtL] at i2 ⊢
                        rw [joinS_size]
                        simp at i2 ⊢
                        omega
              have := this (e :: es) (x :: ns) h1
              rw [List.length_append, bl_len] at hz
              simp at hz this ⊢
              omega
            simp only [ready_fmt hA5 (part_nb hcp), if_neg hnb]
            have hl := loop_fmt s (readP s f) (e :: es) (x :: ns) [] [] (s.size + 1) (q + 8) (q + 8) (41 :: rest) h1 (by simp) hle (hA5.skip0 (part_nb hcp)) hA4 (fun e' he' => ?_) (by simpa using hasc) hid rfl
            · exact hl
            · intro q2 rest2 hA6 hr2
              obtain ⟨c2, r2, hcr2, hcp2⟩ := fmt_head e' (lv + 1) (hes e' he')
              have hA7 : At s q2 (32 :: c2 :: (r2 ++ rest2)) := by rw [hcr2] at hA6; exact hA6
              exact ih e' he' (lv + 1) f q2 (q2 + 1) rest2 (hes e' he') hf' (hA7.skip1 (part_nb hcp2)) (by rw [hcr2]; exact hA7.cons) hr2
      have hA5 : At s (q + 8 + (joinS (fmtL es ns)).size) (125 :: 41 :: rest) := by have := hA4.step; rw [bl_len] at this; exact this
      have s3 : signP s (q + 8 + (joinS (fmtL es ns)).size + 1) 41 = .ok (q + 8 + (joinS (fmtL es ns)).size + 1 + 1) := sign_fmt (c := 41) hA5.cons (by decide)
      simp only [w1, w3]
      rw [if_neg (by decide), if_pos (by decide), w2]
      simp only [s1, s2, hobj, s3]
      rw [hfs]
      simp only [Except.ok.injEq, Prod.mk.injEq, true_and]; omega
    · obtain rfl := List.eq_nil_of_length_eq_zero h1
      obtain rfl := List.eq_nil_of_length_eq_zero h2
      have hft : fmtT (.mk k [] []) = wordS k := by rw [fmtT_eq, if_neg (by omega), if_neg (by omega)]
      rw [hft] at hA ⊢
      obtain ⟨w1, w2, w3⟩ := read_word hk.1 (by omega) hq hA hr
      simp only [w1, w3]
      rw [if_neg (by omega), if_neg (by omega), w2, show ((k.toNat : Nat) : Int) = k by omega]
/-- A type is recovered from its text. -/
theorem parse_fmt {t : Ty} (h : checkT t 1 = 0) : parseP (fmtT t) = .ok t := by
  obtain ⟨c, r, hcr, hcp⟩ := fmt_head t 1 h
  have hA : At (fmtT t) 0 (bl (fmtT t) ++ []) := ⟨Nat.zero_le _, by simp⟩
  have hA' : At (fmtT t) 0 (c :: r) := by rw [hcr, List.append_nil] at hA; exact hA
  have hr := read_fmt (fmtT t) t 1 32 0 0 [] h (by decide) (hA'.skip0 (part_nb hcp)) hA (fun c r e => by cases e)
  have hE := hA.step
  rw [bl_len] at hE
  unfold parseP
  simp only [hr]
  rw [hE.skipE, if_neg (by omega)]
end Go.Proofs.YtfljnigbfacmjaaGreatDoor
