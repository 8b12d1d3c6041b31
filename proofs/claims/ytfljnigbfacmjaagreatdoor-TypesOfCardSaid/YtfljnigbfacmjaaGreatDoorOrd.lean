/- The plain laws of Includes, Unify, Fits and Of. -/
import Derived.Test.YtfljnigbfacmjaaGreatDoorVal
import Derived.Test.YtfljnigbfacmjaaGreatDoorBack
import Derived.Test.YtfljnigbfacmjaaGreatDoorIncl
namespace Go.Proofs.YtfljnigbfacmjaaGreatDoor
open Go Go.RowKit
set_option linter.unusedVariables false

mutual
/-- Which values conform to which types. -/
def fitsT : Vl → Ty → Bool
  | .mk k _ _ is ks, .mk k' es ns => if k = 0 ∨ k = 6 ∨ k' = 0 then true else if k' = 1 ∨ k' = 2 ∨ k' = 3 then decide (k = k') else if k' = 4 ∨ k' = 5 then decide (k = k') && (match es with
    | [] => false
    | e :: _ => fitsA is e) else decide (k = 5) && (decide (ks = ns) && fitsL is es)
def fitsA : List Vl → Ty → Bool
  | [], _ => true
  | v :: l, e => fitsT v e && fitsA l e
def fitsL : List Vl → List Ty → Bool
  | [], [] => true
  | v :: l, e :: es => fitsT v e && fitsL l es
  | [], _ :: _ => false
  | _ :: _, [] => false
end
theorem fitsA_all : ∀ (l : List Vl) (e : Ty), fitsA l e = l.all fun v => fitsT v e
  | [], _ => by rw [fitsA]; rfl
  | v :: l, e => by rw [fitsA, fitsA_all l e]; rfl
theorem fitsT_0 {k k' : Int} (h : k = 0 ∨ k = 6 ∨ k' = 0) (n : Int) (s : ByteArray) (is : List Vl) (ks : List ByteArray) (es : List Ty) (ns : List ByteArray) : fitsT (.mk k n s is ks) (.mk k' es ns) = true := by
  rw [fitsT.eq_def]; simp only; rw [if_pos h]
theorem fitsT_1 {k k' : Int} (h : ¬ (k = 0 ∨ k = 6 ∨ k' = 0)) (h1 : k' = 1 ∨ k' = 2 ∨ k' = 3) (n : Int) (s : ByteArray) (is : List Vl) (ks : List ByteArray) (es : List Ty) (ns : List ByteArray) : fitsT (.mk k n s is ks) (.mk k' es ns) = decide (k = k') := by
  rw [fitsT.eq_def]; simp only; rw [if_neg h, if_pos h1]
theorem fitsT_4 {k k' : Int} (h : ¬ (k = 0 ∨ k = 6 ∨ k' = 0)) (h1 : k' = 4 ∨ k' = 5) (n : Int) (s : ByteArray) (is : List Vl) (ks : List ByteArray) (e : Ty) (es : List Ty) (ns : List ByteArray) : fitsT (.mk k n s is ks) (.mk k' (e :: es) ns) = (decide (k = k') && is.all fun v => fitsT v e) := by
  rw [fitsT.eq_def]; simp only; rw [if_neg h, if_neg (by omega), if_pos h1, fitsA_all]
theorem fitsT_4n {k k' : Int} (h : ¬ (k = 0 ∨ k = 6 ∨ k' = 0)) (h1 : k' = 4 ∨ k' = 5) (n : Int) (s : ByteArray) (is : List Vl) (ks : List ByteArray) (ns : List ByteArray) : fitsT (.mk k n s is ks) (.mk k' [] ns) = false := by
  rw [fitsT.eq_def]; simp only; rw [if_neg h, if_neg (by omega), if_pos h1, Bool.and_false]
theorem fitsT_6 {k k' : Int} (h : ¬ (k = 0 ∨ k = 6 ∨ k' = 0)) (h1 : ¬ (k' = 1 ∨ k' = 2 ∨ k' = 3)) (h2 : ¬ (k' = 4 ∨ k' = 5)) (n : Int) (s : ByteArray) (is : List Vl) (ks : List ByteArray) (es : List Ty) (ns : List ByteArray) :
    fitsT (.mk k n s is ks) (.mk k' es ns) = (decide (k = 5) && (decide (ks = ns) && fitsL is es)) := by
  rw [fitsT.eq_def]; simp only; rw [if_neg h, if_neg h1, if_neg h2]
theorem fitsT_nil {v : Vl} (h : nilV v = true) (t : Ty) : fitsT v t = true := by
  obtain ⟨k, n, s, is, ks⟩ := v
  obtain ⟨k', es, ns⟩ := t
  unfold nilV kdV at h
  simp only [Bool.or_eq_true, decide_eq_true_eq] at h
  exact fitsT_0 (by omega) ..
theorem fitsT_any (v : Vl) (es : List Ty) (ns : List ByteArray) : fitsT v (.mk 0 es ns) = true := by
  obtain ⟨k, n, s, is, ks⟩ := v
  exact fitsT_0 (.inr (.inr rfl)) ..

/-! Includes is a partial order. -/
theorem eqF_refl {f : Ty → Ty → Bool} : ∀ (es : List Ty), (∀ e ∈ es, f e e = true) → eqF f es es = true
  | [], _ => rfl
  | e :: es, h => by rw [eqF, h e (List.mem_cons_self ..), eqF_refl es fun x hx => h x (List.mem_cons_of_mem _ hx)]; rfl
theorem eqF_trans {f : Ty → Ty → Bool} : ∀ (ea eb ec : List Ty), (∀ x ∈ ea, ∀ y z, f x y = true → f y z = true → f x z = true) → eqF f ea eb = true → eqF f eb ec = true → eqF f ea ec = true
  | [], [], [], _, _, _ => rfl
  | [], _ :: _, _, _, h, _ => by rw [eqF] at h; cases h
  | _ :: _, [], _, _, h, _ => by rw [eqF] at h; cases h
  | _, [], _ :: _, _, _, h => by rw [eqF] at h; cases h
  | _, _ :: _, [], _, _, h => by rw [eqF] at h; cases h
  | x :: ea, y :: eb, z :: ec, hf, h1, h2 => by
    rw [eqF, Bool.and_eq_true] at h1 h2 ⊢
    exact ⟨hf x (List.mem_cons_self ..) y z h1.1 h2.1, eqF_trans ea eb ec (fun u hu => hf u (List.mem_cons_of_mem _ hu)) h1.2 h2.2⟩
theorem eqF_antisymm {f : Ty → Ty → Bool} : ∀ (ea eb : List Ty), (∀ x ∈ ea, ∀ y ∈ eb, f x y = true → f y x = true → x = y) → eqF f ea eb = true → eqF f eb ea = true → ea = eb
  | [], [], _, _, _ => rfl
  | [], _ :: _, _, h, _ => by rw [eqF] at h; cases h
  | _ :: _, [], _, h, _ => by rw [eqF] at h; cases h
  | x :: ea, y :: eb, hf, h1, h2 => by
    rw [eqF, Bool.and_eq_true] at h1 h2
    rw [hf x (List.mem_cons_self ..) y (List.mem_cons_self ..) h1.1 h2.1, eqF_antisymm ea eb (fun u hu z hz => hf u (List.mem_cons_of_mem _ hu) z (List.mem_cons_of_mem _ hz)) h1.2 h2.2]
theorem all_eqF {f : Ty → Ty → Bool} {e : Ty} : ∀ (eb ec : List Ty), (∀ y z, f e y = true → f y z = true → f e z = true) → eb.all (f e) = true → eqF f eb ec = true → ec.all (f e) = true
  | [], [], _, _, _ => rfl
  | [], _ :: _, _, _, h => by rw [eqF] at h; cases h
  | _ :: _, [], _, _, _ => rfl
  | y :: eb, z :: ec, hf, h1, h2 => by
    rw [List.all_cons, Bool.and_eq_true] at h1 ⊢
    rw [eqF, Bool.and_eq_true] at h2
    exact ⟨hf y z h1.1 h2.1, all_eqF eb ec hf h1.2 h2.2⟩
theorem len1 {es : List Ty} (h : es.length = 1) : ∃ e, es = [e] := by
  match es, h with
  | [e], _ => exact ⟨e, rfl⟩
theorem inclT_m' {es : List Ty} {ns : List ByteArray} {es' : List Ty} {ns' : List ByteArray} (h : inclT (.mk 5 es ns) (.mk 6 es' ns') = true) : ∃ e, es = [e] ∧ es'.all (inclT e) = true := by
  by_cases hl : es.length = 1
  · obtain ⟨e, rfl⟩ := len1 hl
    exact ⟨e, rfl, by rw [inclT_m] at h; exact h⟩
  · rw [inclT_n hl] at h; cases h
theorem inclT_o' {k k' : Int} (h0 : k ≠ 0) (h : ¬(k = 5 ∧ k' = 6)) {es : List Ty} {ns : List ByteArray} {es' : List Ty} {ns' : List ByteArray} (hi : inclT (.mk k es ns) (.mk k' es' ns') = true) : k = k' ∧ ns = ns' ∧ eqF inclT es es' = true := by
  rw [inclT_o h0 h, Bool.and_eq_true, Bool.and_eq_true, decide_eq_true_eq, decide_eq_true_eq] at hi
  exact hi
theorem inclT_same {k : Int} (h0 : k ≠ 0) {es : List Ty} {ns : List ByteArray} {es' : List Ty} (h : eqF inclT es es' = true) : inclT (.mk k es ns) (.mk k es' ns) = true := by
  rw [inclT_o h0 (by omega), h]; simp
theorem inclT_refl (a : Ty) : inclT a a = true := by
  induction a using Ty.ind with
  | h k es ns ih =>
    by_cases h0 : k = 0
    · subst h0; exact inclT_0 ..
    · exact inclT_same h0 (eqF_refl es ih)
theorem inclT_trans (a : Ty) : ∀ b c, inclT a b = true → inclT b c = true → inclT a c = true := by
  induction a using Ty.ind with
  | h ka ea na ih =>
    intro b c h1 h2
    obtain ⟨kb, eb, nb⟩ := b
    obtain ⟨kc, ec, nc⟩ := c
    by_cases h0 : ka = 0
    · subst h0; exact inclT_0 ..
    by_cases h56 : ka = 5 ∧ kb = 6
    · obtain ⟨rfl, rfl⟩ := h56
      obtain ⟨e, rfl, ha⟩ := inclT_m' h1
      obtain ⟨rfl, rfl, hb⟩ := inclT_o' (by decide) (by omega) h2
      rw [inclT_m]
      exact all_eqF eb ec (ih e (List.mem_cons_self ..)) ha hb
    · obtain ⟨rfl, rfl, ha⟩ := inclT_o' h0 h56 h1
      by_cases h57 : ka = 5 ∧ kc = 6
      · obtain ⟨rfl, rfl⟩ := h57
        obtain ⟨e', rfl, hb⟩ := inclT_m' h2
        match ea, ha, ih with
        | [], ha, _ => rw [eqF] at ha; cases ha
        | [e], ha, ih =>
          rw [eqF, Bool.and_eq_true] at ha
          rw [inclT_m, List.all_eq_true]
          exact fun x hx => ih e (List.mem_cons_self ..) e' x ha.1 (List.all_eq_true.1 hb x hx)
        | e :: e2 :: r, ha, _ => rw [eqF, eqF, Bool.and_false] at ha; cases ha
      · obtain ⟨rfl, rfl, hb⟩ := inclT_o' h0 h57 h2
        exact inclT_same h0 (eqF_trans ea eb ec ih ha hb)
theorem parts_0 {es : List Ty} {ns : List ByteArray} (h : partsB 0 es.length ns.length = true) : es = [] ∧ ns = [] := by
  rcases partsB_true h with h | h | h
  · omega
  · omega
  · exact ⟨List.length_eq_zero_iff.1 h.2.1, List.length_eq_zero_iff.1 h.2.2⟩
theorem inclT_antisymm (a : Ty) : ∀ b la lb, checkT a la = 0 → checkT b lb = 0 → inclT a b = true → inclT b a = true → a = b := by
  induction a using Ty.ind with
  | h ka ea na ih =>
    intro b la lb ca cb h1 h2
    obtain ⟨kb, eb, nb⟩ := b
    obtain ⟨-, pa, -, -, ma⟩ := (checkT_zero ..).1 ca
    obtain ⟨-, pb, -, -, mb⟩ := (checkT_zero ..).1 cb
    by_cases hb0 : kb = 0
    · have ha0 : ka = 0 := by
        by_cases h : ka = 0
        · exact h
        · have := (inclT_o' h (by omega) h1).1; omega
      subst ha0; subst hb0
      obtain ⟨rfl, rfl⟩ := parts_0 pa
      obtain ⟨rfl, rfl⟩ := parts_0 pb
      rfl
    have ha0 : ka ≠ 0 := fun h => by
      have := (inclT_o' hb0 (by omega) h2).1; omega
    by_cases h56 : ka = 5 ∧ kb = 6
    · have := (inclT_o' hb0 (by omega) h2).1; omega
    obtain ⟨rfl, rfl, e1⟩ := inclT_o' ha0 h56 h1
    obtain ⟨-, -, e2⟩ := inclT_o' hb0 (by omega) h2
    rw [eqF_antisymm ea eb (fun x hx y hy => ih x hx y _ _ (ma x hx) (mb y hy)) e1 e2]

/-! Unify -/
theorem uniL_mem {x : Ty} : ∀ {es es' : List Ty}, x ∈ uniL es es' → ∃ e ∈ es, ∃ e' ∈ es', x = uniT e e'
  | [], _, h => by rw [uniL] at h; cases h
  | _ :: _, [], h => by rw [uniL] at h; cases h
  | e :: es, e' :: es', h => by
    rw [uniL] at h
    rcases List.mem_cons.1 h with rfl | h
    · exact ⟨e, List.mem_cons_self .., e', List.mem_cons_self .., rfl⟩
    · obtain ⟨a, ha, b, hb, e⟩ := uniL_mem h
      exact ⟨a, List.mem_cons_of_mem _ ha, b, List.mem_cons_of_mem _ hb, e⟩
theorem check_0 {lv : Int} (h : lv ≤ 32) : checkT (.mk 0 [] []) lv = 0 := (checkT_zero ..).2 ⟨h, by decide, fun s hs => absurd hs List.not_mem_nil, List.Pairwise.nil, fun e he => absurd he List.not_mem_nil⟩
theorem uniT_check (a : Ty) : ∀ b lv, checkT a lv = 0 → checkT b lv = 0 → checkT (uniT a b) lv = 0 := by
  induction a using Ty.ind with
  | h ka ea na ih =>
    intro b lv ca cb
    obtain ⟨kb, eb, nb⟩ := b
    obtain ⟨hl, pa, ia, sa, ma⟩ := (checkT_zero ..).1 ca
    obtain ⟨-, pb, -, -, mb⟩ := (checkT_zero ..).1 cb
    by_cases h : ka = kb ∧ na = nb ∧ ea.length = eb.length
    · rw [uniT_yes h]
      refine (checkT_zero ..).2 ⟨hl, by rw [uniL_len, ← h.2.2, Nat.min_self]; exact pa, ia, sa, fun x hx => ?_⟩
      obtain ⟨e, he, e', he', rfl⟩ := uniL_mem hx
      exact ih e he e' _ (ma e he) (mb e' he')
    · rw [uniT_no h]; exact check_0 hl
theorem uniL_ge1 : ∀ (es es' : List Ty), es.length = es'.length → (∀ e ∈ es, ∀ e', inclT (uniT e e') e = true) → eqF inclT (uniL es es') es = true
  | [], [], _, _ => by rw [uniL]; rfl
  | [], _ :: _, h, _ => by cases h
  | _ :: _, [], h, _ => by cases h
  | e :: es, e' :: es', h, hf => by
    rw [uniL, eqF, hf e (List.mem_cons_self ..), uniL_ge1 es es' (by simpa using h) fun x hx => hf x (List.mem_cons_of_mem _ hx)]; rfl
theorem uniL_ge2 : ∀ (es es' : List Ty), es.length = es'.length → (∀ e ∈ es, ∀ e', inclT (uniT e e') e' = true) → eqF inclT (uniL es es') es' = true
  | [], [], _, _ => by rw [uniL]; rfl
  | [], _ :: _, h, _ => by cases h
  | _ :: _, [], h, _ => by cases h
  | e :: es, e' :: es', h, hf => by
    rw [uniL, eqF, hf e (List.mem_cons_self ..), uniL_ge2 es es' (by simpa using h) fun x hx => hf x (List.mem_cons_of_mem _ hx)]; rfl
theorem uniL_comm : ∀ (es es' : List Ty), es.length = es'.length → (∀ e ∈ es, ∀ e', uniT e e' = uniT e' e) → uniL es es' = uniL es' es
  | [], [], _, _ => by rw [uniL]
  | [], _ :: _, h, _ => by cases h
  | _ :: _, [], h, _ => by cases h
  | e :: es, e' :: es', h, hf => by
    rw [uniL, uniL, hf e (List.mem_cons_self ..), uniL_comm es es' (by simpa using h) fun x hx => hf x (List.mem_cons_of_mem _ hx)]
theorem uniT_ge1 (a : Ty) : ∀ b, inclT (uniT a b) a = true := by
  induction a using Ty.ind with
  | h ka ea na ih =>
    intro b
    obtain ⟨kb, eb, nb⟩ := b
    by_cases h : ka = kb ∧ na = nb ∧ ea.length = eb.length
    · rw [uniT_yes h]
      by_cases h0 : ka = 0
      · subst h0; exact inclT_0 ..
      · exact inclT_same h0 (uniL_ge1 ea eb h.2.2 ih)
    · rw [uniT_no h]; exact inclT_0 ..
theorem uniT_ge2 (a : Ty) : ∀ b, inclT (uniT a b) b = true := by
  induction a using Ty.ind with
  | h ka ea na ih =>
    intro b
    obtain ⟨kb, eb, nb⟩ := b
    by_cases h : ka = kb ∧ na = nb ∧ ea.length = eb.length
    · rw [uniT_yes h]
      obtain ⟨rfl, rfl, hl⟩ := h
      by_cases h0 : ka = 0
      · subst h0; exact inclT_0 ..
      · exact inclT_same h0 (uniL_ge2 ea eb hl ih)
    · rw [uniT_no h]; exact inclT_0 ..
theorem uniT_comm (a : Ty) : ∀ b, uniT a b = uniT b a := by
  induction a using Ty.ind with
  | h ka ea na ih =>
    intro b
    obtain ⟨kb, eb, nb⟩ := b
    by_cases h : ka = kb ∧ na = nb ∧ ea.length = eb.length
    · rw [uniT_yes h, uniT_yes ⟨h.1.symm, h.2.1.symm, h.2.2.symm⟩]
      obtain ⟨rfl, rfl, hl⟩ := h
      rw [uniL_comm ea eb hl ih]
    · rw [uniT_no h, uniT_no fun e => h ⟨e.1.symm, e.2.1.symm, e.2.2.symm⟩]

/-! Fits respects Includes. -/
theorem fitsL_mono : ∀ (is : List Vl) (ea eb : List Ty), (∀ v ∈ is, ∀ a b, inclT a b = true → fitsT v b = true → fitsT v a = true) → eqF inclT ea eb = true → fitsL is eb = true → fitsL is ea = true
  | _, [], _ :: _, _, h, _ => by rw [eqF] at h; cases h
  | _, _ :: _, [], _, h, _ => by rw [eqF] at h; cases h
  | [], [], [], _, _, _ => by rw [fitsL]
  | _ :: _, [], [], _, _, h => by rw [fitsL] at h; cases h
  | [], _ :: _, _ :: _, _, _, h => by rw [fitsL] at h; cases h
  | v :: is, a :: ea, b :: eb, hf, h1, h2 => by
    rw [eqF, Bool.and_eq_true] at h1
    rw [fitsL, Bool.and_eq_true] at h2 ⊢
    exact ⟨hf v (List.mem_cons_self ..) a b h1.1 h2.1, fitsL_mono is ea eb (fun x hx => hf x (List.mem_cons_of_mem _ hx)) h1.2 h2.2⟩
theorem fitsL_all {e : Ty} : ∀ (is : List Vl) (eb : List Ty), (∀ v ∈ is, ∀ b, inclT e b = true → fitsT v b = true → fitsT v e = true) → eb.all (inclT e) = true → fitsL is eb = true → (is.all fun v => fitsT v e) = true
  | [], _, _, _, _ => rfl
  | _ :: _, [], _, _, h => by rw [fitsL] at h; cases h
  | v :: is, b :: eb, hf, h1, h2 => by
    rw [List.all_cons, Bool.and_eq_true] at h1 ⊢
    rw [fitsL, Bool.and_eq_true] at h2
    exact ⟨hf v (List.mem_cons_self ..) b h1.1 h2.1, fitsL_all is eb (fun x hx => hf x (List.mem_cons_of_mem _ hx)) h1.2 h2.2⟩
theorem fits_mono (v : Vl) : ∀ a b, inclT a b = true → fitsT v b = true → fitsT v a = true := by
  induction v using Vl.ind with
  | h k n s is ks ih =>
    intro a b hi hf
    obtain ⟨ka, ea, na⟩ := a
    obtain ⟨kb, eb, nb⟩ := b
    by_cases hz : k = 0 ∨ k = 6 ∨ ka = 0
    · exact fitsT_0 hz ..
    by_cases h56 : ka = 5 ∧ kb = 6
    · obtain ⟨rfl, rfl⟩ := h56
      obtain ⟨e, rfl, ha⟩ := inclT_m' hi
      rw [fitsT_6 (by omega) (by omega) (by omega), Bool.and_eq_true, Bool.and_eq_true] at hf
      rw [fitsT_4 (by omega) (by omega), Bool.and_eq_true]
      exact ⟨hf.1, fitsL_all is eb (fun v hv b => ih v hv e b) ha hf.2.2⟩
    obtain ⟨rfl, rfl, he⟩ := inclT_o' (by omega) h56 hi
    by_cases h1 : ka = 1 ∨ ka = 2 ∨ ka = 3
    · rw [fitsT_1 hz h1] at hf ⊢; exact hf
    by_cases h4 : ka = 4 ∨ ka = 5
    · match ea, eb, he, hf with
      | [], [], _, hf => exact hf
      | [], _ :: _, he, _ => rw [eqF] at he; cases he
      | _ :: _, [], he, _ => rw [eqF] at he; cases he
      | a :: ea, b :: eb, he, hf =>
        rw [eqF, Bool.and_eq_true] at he
        rw [fitsT_4 hz h4, Bool.and_eq_true, List.all_eq_true] at hf ⊢
        exact ⟨hf.1, fun x hx => ih x hx a b he.1 (hf.2 x hx)⟩
    · rw [fitsT_6 hz h1 h4, Bool.and_eq_true, Bool.and_eq_true] at hf ⊢
      exact ⟨hf.1, hf.2.1, fitsL_mono is ea eb ih he hf.2.2⟩

/-! Of -/
/-- What a checked value keeps to. -/
inductive VOk : Vl → Prop
  | mk (k n : Int) (s : ByteArray) (is : List Vl) (ks : List ByteArray) (hk : 0 ≤ k ∧ k ≤ 6) (h5 : k = 5 → ks.length = is.length) (hn : k ≠ 5 → ks = []) (hi : k ≠ 4 → k ≠ 5 → is = []) (ha : Asc ks) (he : ∀ e ∈ is, VOk e) : VOk (.mk k n s is ks)
theorem VOk.out {k n : Int} {s : ByteArray} {is : List Vl} {ks : List ByteArray} (h : VOk (.mk k n s is ks)) : (0 ≤ k ∧ k ≤ 6) ∧ (k = 5 → ks.length = is.length) ∧ (k ≠ 5 → ks = []) ∧ (k ≠ 4 → k ≠ 5 → is = []) ∧ Asc ks ∧ ∀ e ∈ is, VOk e := by
  cases h with
  | mk _ _ _ _ _ hk h5 hn hi ha he => exact ⟨hk, h5, hn, hi, ha, he⟩
theorem com_ge (lv : Int) : ∀ (l : List Vl) (o : Option Ty), (∀ t, o = some t → inclT (comT l lv o) t = true) ∧ ∀ v ∈ l, nilV v = false → inclT (comT l lv o) (ofT v lv) = true
  | [], o => ⟨fun t h => by rw [comT_nil, h]; exact inclT_refl _, fun v hv => absurd hv List.not_mem_nil⟩
  | v :: l, o => by
    cases hn : nilV v with
    | true =>
      rw [comT_skip hn]
      refine ⟨(com_ge lv l o).1, fun x hx hx0 => ?_⟩
      rcases List.mem_cons.1 hx with rfl | hx
      · rw [hn] at hx0; cases hx0
      · exact (com_ge lv l o).2 x hx hx0
    | false =>
      cases o with
      | none =>
        rw [comT_first hn]
        obtain ⟨h1, h2⟩ := com_ge lv l (some (ofT v lv))
        refine ⟨(by intro x h; cases h), fun x hx hx0 => ?_⟩
        rcases List.mem_cons.1 hx with rfl | hx
        · exact h1 _ rfl
        · exact h2 x hx hx0
      | some t =>
        rw [comT_next hn]
        obtain ⟨h1, h2⟩ := com_ge lv l (some (uniT t (ofT v lv)))
        refine ⟨fun u h => ?_, fun x hx hx0 => ?_⟩
        · cases h
          exact inclT_trans _ _ _ (h1 _ rfl) (uniT_ge1 ..)
        rcases List.mem_cons.1 hx with rfl | hx
        · exact inclT_trans _ _ _ (h1 _ rfl) (uniT_ge2 ..)
        · exact h2 x hx hx0
theorem com_check (lv : Int) (hl : lv ≤ 32) : ∀ (l : List Vl) (o : Option Ty), (∀ v ∈ l, checkT (ofT v lv) lv = 0) → (∀ t, o = some t → checkT t lv = 0) → checkT (comT l lv o) lv = 0
  | [], o, _, h => by
    rw [comT_nil]
    cases o with
    | none => exact check_0 hl
    | some t => exact h t rfl
  | v :: l, o, hf, h => by
    have hv := hf v (List.mem_cons_self ..)
    have hl2 := fun x hx => hf x (List.mem_cons_of_mem _ hx)
    cases hn : nilV v with
    | true => rw [comT_skip hn]; exact com_check lv hl l o hl2 h
    | false =>
      cases o with
      | none => rw [comT_first hn]; exact com_check lv hl l _ hl2 fun t e => by cases e; exact hv
      | some t => rw [comT_next hn]; exact com_check lv hl l _ hl2 fun u e => by cases e; exact uniT_check _ _ _ (h t rfl) hv
theorem check_one {k lv : Int} (hk : k = 4 ∨ k = 5) (hl : lv ≤ 32) {t : Ty} (ht : checkT t (lv + 1) = 0) : checkT (.mk k [t] []) lv = 0 :=
  (checkT_zero ..).2 ⟨hl, by rcases hk with rfl | rfl <;> rfl, fun s hs => absurd hs List.not_mem_nil, List.Pairwise.nil, fun e he => by rcases List.mem_cons.1 he with rfl | he; exact ht; cases he⟩
theorem check_simple {k lv : Int} (hk : k = 1 ∨ k = 2 ∨ k = 3) (hl : lv ≤ 32) : checkT (.mk k [] []) lv = 0 :=
  (checkT_zero ..).2 ⟨hl, by rcases hk with rfl | rfl | rfl <;> rfl, fun s hs => absurd hs List.not_mem_nil, List.Pairwise.nil, fun e he => absurd he List.not_mem_nil⟩
theorem of_check (v : Vl) : VOk v → ∀ lv, lv ≤ 32 → checkT (ofT v lv) lv = 0 := by
  induction v using Vl.ind with
  | h k n s is ks ih =>
    intro hv lv hl
    obtain ⟨hk, h5, hn, hi, ha, he⟩ := hv.out
    by_cases h1 : k = 1 ∨ k = 2 ∨ k = 3
    · rw [ofT_1 h1]; exact check_simple h1 hl
    by_cases h2 : (k ≠ 4 ∧ k ≠ 5) ∨ 32 ≤ lv
    · rw [ofT_0 h1 h2]; exact check_0 hl
    have h32 : ¬ 32 ≤ lv := fun h => h2 (.inr h)
    have hc : checkT (comT is (lv + 1) none) (lv + 1) = 0 := com_check (lv + 1) (by omega) is none (fun v hv => ih v hv (he v hv) _ (by omega)) (fun t e => by cases e)
    by_cases h4 : k = 4
    · subst h4; rw [ofT_4 h32]; exact check_one (.inl rfl) hl hc
    · have h5' : k = 5 := by omega
      subst h5'
      cases hb : ks.any (fun x => !identB x) with
      | true => rw [ofT_5 h32 n s is hb]; exact check_one (.inr rfl) hl hc
      | false =>
        rw [ofT_6 h32 n s is hb, ofL_map]
        refine (checkT_zero ..).2 ⟨hl, ?_, fun x hx => ?_, ha, fun e he' => ?_⟩
        · unfold partsB
          rw [if_neg (by decide), if_pos rfl, List.length_map, h5 rfl]; simp
        · have := List.any_eq_false.1 hb x hx
          simpa using this
        · obtain ⟨x, hx, rfl⟩ := List.mem_map.1 he'
          exact ih x hx (he x hx) _ (by omega)
theorem fits_ofL (lv : Int) : ∀ (is : List Vl), (∀ v ∈ is, fitsT v (ofT v lv) = true) → fitsL is (ofL is lv) = true
  | [], _ => by rw [ofL, fitsL]
  | v :: is, h => by
    rw [ofL, fitsL, h v (List.mem_cons_self ..), fits_ofL lv is fun x hx => h x (List.mem_cons_of_mem _ hx)]; rfl
theorem of_fits (v : Vl) : VOk v → ∀ lv, fitsT v (ofT v lv) = true := by
  induction v using Vl.ind with
  | h k n s is ks ih =>
    intro hv lv
    obtain ⟨hk, h5, hn, hi, ha, he⟩ := hv.out
    by_cases h1 : k = 1 ∨ k = 2 ∨ k = 3
    · rw [ofT_1 h1, fitsT_1 (by omega) h1]; simp
    by_cases h2 : (k ≠ 4 ∧ k ≠ 5) ∨ 32 ≤ lv
    · rw [ofT_0 h1 h2]; exact fitsT_any ..
    have h32 : ¬ 32 ≤ lv := fun h => h2 (.inr h)
    have hc : (is.all fun x => fitsT x (comT is (lv + 1) none)) = true := by
      rw [List.all_eq_true]
      intro x hx
      cases hx0 : nilV x with
      | true => exact fitsT_nil hx0 _
      | false => exact fits_mono x _ _ ((com_ge (lv + 1) is none).2 x hx hx0) (ih x hx (he x hx) _)
    by_cases h4 : k = 4
    · subst h4; rw [ofT_4 h32, fitsT_4 (by omega) (by omega), hc]; rfl
    · have h5' : k = 5 := by omega
      subst h5'
      cases hb : ks.any (fun x => !identB x) with
      | true => rw [ofT_5 h32 n s is hb, fitsT_4 (by omega) (by omega), hc]; rfl
      | false => rw [ofT_6 h32 n s is hb, fitsT_6 (by omega) (by omega) (by omega), fits_ofL _ is fun x hx => ih x hx (he x hx) _]; simp
end Go.Proofs.YtfljnigbfacmjaaGreatDoor
