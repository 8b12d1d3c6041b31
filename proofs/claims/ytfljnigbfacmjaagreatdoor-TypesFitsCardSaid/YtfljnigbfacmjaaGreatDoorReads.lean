/- What Parse returns is valid, and its text is short: plain. -/
import Derived.Test.YtfljnigbfacmjaaGreatDoorBack
namespace Go.Proofs.YtfljnigbfacmjaaGreatDoor
open Go Go.RowKit
set_option linter.unusedVariables false

theorem containsS_out {l : List ByteArray} {x : ByteArray} (h : Lib.containsS l x = false) : ∀ y ∈ l, y ≠ x := by
  intro y hy e
  subst e
  rw [(Lib.containsS_iff l y).2 hy] at h; cases h
theorem skip_le {s : ByteArray} {p : Nat} (h : p ≤ s.size) : skipN s p ≤ s.size := (skipN_ge h).2
/-- What a reader's error says. -/
def ErrOk (s : ByteArray) (e : Int × Nat) : Prop := (e.1 = 2 ∨ e.1 = 4 ∨ e.1 = 7 ∨ e.1 = 8 ∨ e.1 = 40) ∧ e.2 ≤ s.size
theorem ready_ok {s : ByteArray} {p q : Nat} (h : readyP s p = .ok q) (hp : p ≤ s.size) : p ≤ q ∧ q < s.size ∧ q = skipN s p := by
  unfold readyP at h
  split at h
  · cases h; exact ⟨(skipN_ge hp).1, by assumption, rfl⟩
  · cases h
theorem ready_err {s : ByteArray} {p : Nat} {e : Int × Nat} (h : readyP s p = .error e) (hp : p ≤ s.size) : ErrOk s e := by
  unfold readyP at h
  split at h
  · cases h
  · cases h; exact ⟨by simp, skip_le hp⟩
theorem sign_ok {s : ByteArray} {p c q : Nat} (h : signP s p c = .ok q) (hp : p ≤ s.size) : p < q ∧ q ≤ s.size := by
  unfold signP at h
  split at h
  · rename_i hb
    cases h
    unfold sgnB at hb
    simp at hb
    have := (skipN_ge hp).1
    omega
  · cases h
theorem sign_err {s : ByteArray} {p c : Nat} {e : Int × Nat} (h : signP s p c = .error e) (hp : p ≤ s.size) : ErrOk s e := by
  unfold signP at h
  split at h
  · cases h
  · cases h
    refine ⟨?_, skip_le hp⟩
    unfold sgnE
    split <;> simp
theorem word_part {s : ByteArray} {p : Nat} : ∀ c ∈ bl (s.extract p (wordE s p)), partN c.toNat = true := by
  rw [wordE_bl]
  intro c hc
  have h : ∀ (f : UInt8 → Bool) (l : List UInt8), ∀ x ∈ l.takeWhile f, f x = true := by
    intro f l
    induction l with
    | nil => intro x hx; cases hx
    | cons a l ih =>
      intro x hx
      rw [List.takeWhile_cons] at hx
      split at hx
      · rcases List.mem_cons.1 hx with rfl | hx
        · assumption
        · exact ih x hx
      · cases hx
  exact h _ _ c hc
theorem name_ok {s : ByteArray} {p q : Nat} {x : ByteArray} {ns : List ByteArray} (h : nameP s p ns = .ok (x, q)) (hp : p ≤ s.size) : identB x = true ∧ (∀ y ∈ ns, y ≠ x) ∧ p + x.size ≤ q ∧ p < q ∧ q ≤ s.size := by
  unfold nameP at h
  split at h
  · rename_i hk
    simp only [Except.ok.injEq, Prod.mk.injEq] at h
    obtain ⟨rfl, rfl⟩ := h
    have h1 := skipN_ge hp
    have h2 := nameX_size (s := s) hp
    have h3 := wordE_le h1.2
    unfold nameK at hk
    split at hk
    · simp at hk
    rename_i g1
    split at hk
    · simp at hk
    rename_i g2
    split at hk
    · simp at hk
    rename_i g3
    split at hk
    · simp at hk
    rename_i g4
    have hz : (nameX s p).size ≠ 0 := fun e => g2 (.inl e)
    have hd : digitN (byteN (nameX s p) 0) = false := by simpa using fun e => g2 (.inr e)
    refine ⟨(identB_iff _).2 ⟨hz, by omega, fun j hj => ?_⟩, containsS_out (by simpa using g4), by omega, by omega, h3.2⟩
    have hm : partN (byteN (nameX s p) j) = true := by
      have hj' : j < (bl (nameX s p)).length := by rw [bl_len]; exact hj
      have := word_part (s := s) (p := skipN s p) (bl (nameX s p))[j] (List.getElem_mem hj')
      show partN ((bl (nameX s p)).getD j 0).toNat = true
      rw [List.getD_eq_getElem?_getD, List.getElem?_eq_getElem hj']
      exact this
    unfold okAt
    unfold partN at hm
    cases j with
    | zero => rw [hd] at hm; simpa using hm
    | succ j => simpa using hm
  · cases h
theorem name_err {s : ByteArray} {p : Nat} {ns : List ByteArray} {e : Int × Nat} (h : nameP s p ns = .error e) (hp : p ≤ s.size) : ErrOk s e := by
  unfold nameP at h
  split at h
  · cases h
  · rename_i hk
    cases h
    refine ⟨?_, skip_le hp⟩
    show nameK s p ns = 2 ∨ _
    unfold nameK at hk ⊢
    split
    · simp
    split
    · simp
    split
    · simp
    split
    · simp
    · rename_i g1 g2 g3 g4
      rw [if_neg g1, if_neg g2, if_neg g3, if_neg g4] at hk
      exact absurd rfl hk

def entS : List Ty → List ByteArray → Nat
  | e :: es, n :: ns => n.size + 5 + (fmtT e).size + entS es ns
  | _, _ => 0
theorem entS_ins : ∀ (es : List Ty) (ns : List ByteArray) (i : Nat) (e : Ty) (x : ByteArray), es.length = ns.length → i ≤ ns.length → entS (es.insertIdx i e) (ns.insertIdx i x) = entS es ns + (x.size + 5 + (fmtT e).size)
  | es, ns, 0, e, x, h, _ => by rw [List.insertIdx_zero, List.insertIdx_zero, entS]; omega
  | [], [], i + 1, e, x, _, hi => by simp at hi
  | a :: es, b :: ns, i + 1, e, x, h, hi => by
    rw [List.insertIdx_succ_cons, List.insertIdx_succ_cons, entS, entS, entS_ins es ns i e x (by simpa using h) (by simpa using hi)]
    omega
  | [], b :: ns, i + 1, e, x, h, _ => by simp at h
  | a :: es, [], i + 1, e, x, h, _ => by simp at h
theorem joinS_entS : ∀ (es : List Ty) (ns : List ByteArray), es.length = ns.length → (joinS (fmtL es ns)).size ≤ entS es ns
  | [], ns, h => by
    rw [fmtL]
    have : joinS [] = ⟨#[]⟩ := rfl
    rw [this]; exact Nat.zero_le _
  | e :: es, [], h => by simp at h
  | e :: es, x :: ns, h => by
    have hent : (x ++ ⟨#[32, 61, 32]⟩ ++ fmtT e).size = x.size + 3 + (fmtT e).size := by rw [← bl_len, bl_app, bl_app, bl_eq]; simp [bl_len]; omega
    have h' : es.length = ns.length := by simpa using h
    have ih := joinS_entS es ns h'
    rw [fmtL, entS]
    cases es with
    | nil =>
      rw [fmtL, joinS_one, hent]; omega
    | cons e' es =>
      cases ns with
      | nil => simp at h'
      | cons x' ns =>
        rw [fmtL] at ih ⊢
        rw [joinS_size, hent]
        omega
/-- What a reader of types may do. -/
def RdOk (s : ByteArray) (rd : Nat → Rd Ty) (lv : Int) : Prop := ∀ q, q ≤ s.size → (∀ t q', rd q = .ok (t, q') → checkT t lv = 0 ∧ q < q' ∧ q' ≤ s.size ∧ (fmtT t).size ≤ 4 * (q' - q)) ∧ ∀ e, rd q = .error e → ErrOk s e
theorem loop_ok (s : ByteArray) (rd : Nat → Rd Ty) (lv : Int) (hrd : RdOk s rd lv) : ∀ (n p : Nat) (es : List Ty) (ns : List ByteArray), p ≤ s.size → s.size - p < n → es.length = ns.length → (∀ x ∈ ns, identB x = true) → Asc ns → (∀ e ∈ es, checkT e lv = 0) →
    (∀ t p', loopP s rd n p es ns = .ok (t, p') → ∃ es' ns', t = .mk 6 es' ns' ∧ es'.length = ns'.length ∧ (∀ x ∈ ns', identB x = true) ∧ Asc ns' ∧ (∀ e ∈ es', checkT e lv = 0) ∧ p < p' ∧ p' ≤ s.size ∧ entS es' ns' ≤ entS es ns + 4 * (p' - p)) ∧
    ∀ e, loopP s rd n p es ns = .error e → ErrOk s e
  | 0, p, es, ns, hp, hn, _, _, _, _ => by omega
  | n + 1, p, es, ns, hp, hn, hl, hid, hasc, hes => by
    unfold loopP
    cases h1 : nameP s p ns with
    | error e => exact ⟨fun t p' h => by simp at h, fun e' h => by simp at h; subst h; exact name_err h1 hp⟩
    | ok r1 =>
    obtain ⟨x, p1⟩ := r1
    obtain ⟨i1, i2, i3, i4, i5⟩ := name_ok h1 hp
    simp only
    cases h2 : signP s p1 61 with
    | error e => exact ⟨fun t p' h => by simp at h, fun e' h => by simp at h; subst h; exact sign_err h2 i5⟩
    | ok p2 =>
    have j2 := sign_ok h2 i5
    simp only
    obtain ⟨k1, k2⟩ := hrd p2 j2.2
    cases h3 : rd p2 with
    | error e => exact ⟨fun t p' h => by simp at h, fun e' h => by simp at h; subst h; exact k2 _ h3⟩
    | ok r3 =>
    obtain ⟨t, p3⟩ := r3
    obtain ⟨l1, l2, l3, l4⟩ := k1 t p3 h3
    simp only
    cases h4 : readyP s p3 with
    | error e => exact ⟨fun t p' h => by simp at h, fun e' h => by simp at h; subst h; exact ready_err h4 l3⟩
    | ok p4 =>
    obtain ⟨m1, m2, m3⟩ := ready_ok h4 l3
    simp only
    have hpos := posN_asc x hasc
    have hle := posT_le ns x
    have e1 : (es.insertIdx (posN ns x) t).length = (ns.insertIdx (posN ns x) x).length := by
      rw [hpos, List.length_insertIdx_of_le_length (by omega), List.length_insertIdx_of_le_length hle, hl]
    have e2 : ∀ y ∈ ns.insertIdx (posN ns x) x, identB y = true := fun y hy => by
      rw [hpos] at hy
      rcases (List.mem_insertIdx hle).1 hy with rfl | hy
      · exact i1
      · exact hid y hy
    have e3 : Asc (ns.insertIdx (posN ns x) x) := by rw [hpos]; exact asc_ins ns x hasc i2
    have e4 : ∀ e ∈ es.insertIdx (posN ns x) t, checkT e lv = 0 := fun y hy => by
      rw [hpos] at hy
      rcases (List.mem_insertIdx (by omega)).1 hy with rfl | hy
      · exact l1
      · exact hes y hy
    have e5 : entS (es.insertIdx (posN ns x) t) (ns.insertIdx (posN ns x) x) = entS es ns + (x.size + 5 + (fmtT t).size) := entS_ins es ns _ t x hl (by rw [hpos]; exact hle)
    by_cases hb : byteN s p4 = 125
    · rw [if_pos hb]
      refine ⟨fun t' p' h => ?_, fun e' h => by simp at h⟩
      simp only [Except.ok.injEq, Prod.mk.injEq] at h
      obtain ⟨rfl, rfl⟩ := h
      exact ⟨_, _, rfl, e1, e2, e3, e4, by omega, by omega, by omega⟩
    · rw [if_neg hb]
      cases h5 : signP s p4 44 with
      | error e => exact ⟨fun t p' h => by simp at h, fun e' h => by simp at h; subst h; exact sign_err h5 (by omega)⟩
      | ok p5 =>
      have j5 := sign_ok h5 (by omega)
      simp only
      obtain ⟨n1, n2⟩ := loop_ok s rd lv hrd n p5 _ _ j5.2 (by omega) e1 e2 e3 e4
      refine ⟨fun t' p' h => ?_, n2⟩
      obtain ⟨es', ns', o1, o2, o3, o4, o5, o6, o7, o8⟩ := n1 t' p' h
      exact ⟨es', ns', o1, o2, o3, o4, o5, by omega, o7, by omega⟩
theorem obj_ok (s : ByteArray) (rd : Nat → Rd Ty) (lv : Int) (hrd : RdOk s rd (lv + 1)) (hlv : lv ≤ 32) (p : Nat) (hp : p ≤ s.size) :
    (∀ t p', objP s rd p = .ok (t, p') → checkT t lv = 0 ∧ p < p' ∧ p' ≤ s.size ∧ (fmtT t).size ≤ 10 + 4 * (p' - p)) ∧ ∀ e, objP s rd p = .error e → ErrOk s e := by
  have hsz : ∀ (es : List Ty) (ns : List ByteArray), (fmtT (.mk 6 es ns)).size = 8 + (joinS (fmtL es ns)).size + 2 := fun es ns => by
    rw [fmtT_eq, if_neg (by decide), if_pos rfl, ← bl_len, bl_app, bl_app, bl_ob, bl_cb]; simp [bl_len]; omega
  unfold objP
  cases h1 : readyP s p with
  | error e => exact ⟨fun t p' h => by simp at h, fun e' h => by simp at h; subst h; exact ready_err h1 hp⟩
  | ok p1 =>
  obtain ⟨m1, m2, m3⟩ := ready_ok h1 hp
  simp only
  by_cases hb : byteN s p1 = 125
  · rw [if_pos hb]
    refine ⟨fun t' p' h => ?_, fun e' h => by simp at h⟩
    simp only [Except.ok.injEq, Prod.mk.injEq] at h
    obtain ⟨rfl, rfl⟩ := h
    refine ⟨(checkT_zero _ _ _ _).2 ⟨hlv, rfl, List.forall_mem_nil _, List.Pairwise.nil, List.forall_mem_nil _⟩, by omega, by omega, ?_⟩
    rw [hsz, fmtL, show joinS [] = ⟨#[]⟩ from rfl, show (⟨#[]⟩ : ByteArray).size = 0 from rfl]; omega
  · rw [if_neg hb]
    obtain ⟨n1, n2⟩ := loop_ok s rd (lv + 1) hrd (s.size + 1) p1 [] [] (by omega) (by omega) rfl (fun x hx => by cases hx) List.Pairwise.nil (fun x hx => by cases hx)
    refine ⟨fun t' p' h => ?_, n2⟩
    obtain ⟨es', ns', rfl, o2, o3, o4, o5, o6, o7, o8⟩ := n1 t' p' h
    refine ⟨(checkT_zero _ _ _ _).2 ⟨hlv, by unfold partsB; rw [if_neg (by decide), if_pos rfl]; exact decide_eq_true o2, o3, o4, o5⟩, by omega, o7, ?_⟩
    have := joinS_entS es' ns' o2
    rw [hsz]
    rw [show entS [] [] = 0 from rfl] at o8
    omega
theorem kindO_some {x : ByteArray} {k : Nat} (h : kindO x = some k) : k ≤ 6 ∧ wordS k = x := by
  unfold kindO at h
  repeat' split at h
  all_goals first | (cases h; done) | (simp only [Option.some.injEq] at h; subst h; exact ⟨by decide, by assumption⟩)
theorem readP_ok (s : ByteArray) : ∀ (f : Nat) (lv : Int), (f : Int) + lv = 33 → RdOk s (readP s f) lv
  | f, lv, hf => by
    intro p hp
    cases f with
    | zero =>
      rw [readP]
      cases h1 : readyP s p with
      | error e => exact ⟨fun t p' h => by simp at h, fun e' h => by simp at h; subst h; exact ready_err h1 hp⟩
      | ok j =>
      obtain ⟨m1, m2, m3⟩ := ready_ok h1 hp
      simp only
      cases h2 : kindO (s.extract j (wordE s j)) with
      | none => exact ⟨fun t p' h => by simp at h, fun e' h => by simp at h; subst h; exact ⟨by simp, by simp; omega⟩⟩
      | some k => exact ⟨fun t p' h => by simp at h, fun e' h => by simp at h; subst h; exact ⟨by simp, by simp; omega⟩⟩
    | succ f =>
      have ih := readP_ok s f (lv + 1) (by push_cast at hf; omega)
      have hlv : lv ≤ 32 := by push_cast at hf; omega
      rw [readP]
      cases h1 : readyP s p with
      | error e => exact ⟨fun t p' h => by simp at h, fun e' h => by simp at h; subst h; exact ready_err h1 hp⟩
      | ok j =>
      obtain ⟨m1, m2, m3⟩ := ready_ok h1 hp
      simp only
      cases h2 : kindO (s.extract j (wordE s j)) with
      | none => exact ⟨fun t p' h => by simp at h, fun e' h => by simp at h; subst h; exact ⟨by simp, by simp; omega⟩⟩
      | some k =>
      obtain ⟨hk6, hks⟩ := kindO_some h2
      have hwl := wordE_le (s := s) (p := j) (by omega)
      have hws : (wordS k).size = wordE s j - j := by rw [hks, ByteArray.size_extract]; omega
      have hw3 : 3 ≤ (wordS k).size := by
        have : ∀ k : Nat, k ≤ 6 → 3 ≤ (wordS k).size := by decide
        exact this k hk6
      simp only
      by_cases hk : k = 4 ∨ k = 5
      · rw [if_pos hk]
        cases h3 : signP s (wordE s j) 40 with
        | error e => exact ⟨fun t p' h => by simp at h, fun e' h => by simp at h; subst h; exact sign_err h3 hwl.2⟩
        | ok p2 =>
        have j2 := sign_ok h3 hwl.2
        simp only
        obtain ⟨k1, k2⟩ := ih p2 j2.2
        cases h4 : readP s f p2 with
        | error e => exact ⟨fun t p' h => by simp at h, fun e' h => by simp at h; subst h; exact k2 _ h4⟩
        | ok r4 =>
        obtain ⟨t, p3⟩ := r4
        obtain ⟨l1, l2, l3, l4⟩ := k1 t p3 h4
        simp only
        cases h5 : signP s p3 41 with
        | error e => exact ⟨fun t p' h => by simp at h, fun e' h => by simp at h; subst h; exact sign_err h5 l3⟩
        | ok p4 =>
        have j4 := sign_ok h5 l3
        refine ⟨fun t' p' h => ?_, fun e' h => by simp at h⟩
        simp only [Except.ok.injEq, Prod.mk.injEq] at h
        obtain ⟨rfl, rfl⟩ := h
        have hki : ((k : Int) = 4 ∨ (k : Int) = 5) := by omega
        refine ⟨(checkT_zero _ _ _ _).2 ⟨hlv, by unfold partsB; rw [if_pos hki]; rfl, List.forall_mem_nil _, List.Pairwise.nil, fun e (he : e ∈ [t]) => ?_⟩, by omega, by omega, ?_⟩
        · rcases List.mem_cons.1 he with rfl | he
          · exact l1
          · cases he
        · rw [fmtT_eq, if_pos hki, if_pos (show [t].length = 1 from rfl), fmtH, ← bl_len, bl_app, bl_app, bl_app, bl_lp, bl_rp]
          simp [bl_len]
          omega
      · rw [if_neg hk]
        by_cases hk2 : k = 6
        · subst hk2
          rw [if_pos rfl]
          rw [show (wordS ((6 : Nat) : Int)).size = 6 from rfl] at hws
          cases h3 : signP s (wordE s j) 40 with
          | error e => exact ⟨fun t p' h => by simp at h, fun e' h => by simp at h; subst h; exact sign_err h3 hwl.2⟩
          | ok p2 =>
          have j2 := sign_ok h3 hwl.2
          simp only
          cases h4 : signP s p2 123 with
          | error e => exact ⟨fun t p' h => by simp at h, fun e' h => by simp at h; subst h; exact sign_err h4 j2.2⟩
          | ok p3 =>
          have j3 := sign_ok h4 j2.2
          simp only
          obtain ⟨k1, k2⟩ := obj_ok s (readP s f) lv ih hlv p3 j3.2
          cases h5 : objP s (readP s f) p3 with
          | error e => exact ⟨fun t p' h => by simp at h, fun e' h => by simp at h; subst h; exact k2 _ h5⟩
          | ok r5 =>
          obtain ⟨t, p4⟩ := r5
          obtain ⟨l1, l2, l3, l4⟩ := k1 t p4 h5
          simp only
          cases h6 : signP s p4 41 with
          | error e => exact ⟨fun t p' h => by simp at h, fun e' h => by simp at h; subst h; exact sign_err h6 l3⟩
          | ok p5 =>
          have j5 := sign_ok h6 l3
          refine ⟨fun t' p' h => ?_, fun e' h => by simp at h⟩
          simp only [Except.ok.injEq, Prod.mk.injEq] at h
          obtain ⟨rfl, rfl⟩ := h
          exact ⟨l1, by omega, by omega, by omega⟩
        · rw [if_neg hk2]
          refine ⟨fun t' p' h => ?_, fun e' h => by simp at h⟩
          simp only [Except.ok.injEq, Prod.mk.injEq] at h
          obtain ⟨rfl, rfl⟩ := h
          refine ⟨(checkT_zero _ _ _ _).2 ⟨hlv, ?_, List.forall_mem_nil _, List.Pairwise.nil, List.forall_mem_nil _⟩, by omega, hwl.2, ?_⟩
          · unfold partsB
            rw [if_neg (by omega), if_neg (by omega)]
            simp; omega
          · rw [fmtT_eq, if_neg (by omega), if_neg (by omega)]
            omega
/-- What Parse returns is valid, and its text is not much longer than the text that was read. -/
theorem parse_ok {s : ByteArray} {t : Ty} (h : parseP s = .ok t) : checkT t 1 = 0 ∧ (fmtT t).size ≤ 4 * s.size := by
  unfold parseP at h
  obtain ⟨k1, k2⟩ := readP_ok s 32 1 (by decide) 0 (Nat.zero_le _)
  cases h1 : readP s 32 0 with
  | error e => rw [h1] at h; simp at h
  | ok r =>
    obtain ⟨t', p⟩ := r
    rw [h1] at h
    simp only at h
    split at h
    · cases h
    · cases h
      obtain ⟨l1, l2, l3, l4⟩ := k1 t p h1
      exact ⟨l1, by omega⟩
theorem parse_err {s : ByteArray} {e : Int × Nat} (h : parseP s = .error e) : ErrOk s e := by
  unfold parseP at h
  obtain ⟨k1, k2⟩ := readP_ok s 32 1 (by decide) 0 (Nat.zero_le _)
  cases h1 : readP s 32 0 with
  | error e' => rw [h1] at h; simp at h; subst h; exact k2 _ h1
  | ok r =>
    obtain ⟨t', p⟩ := r
    rw [h1] at h
    simp only at h
    split at h
    · rename_i hlt
      cases h
      exact ⟨by simp, Nat.le_of_lt hlt⟩
    · cases h
end Go.Proofs.YtfljnigbfacmjaaGreatDoor
