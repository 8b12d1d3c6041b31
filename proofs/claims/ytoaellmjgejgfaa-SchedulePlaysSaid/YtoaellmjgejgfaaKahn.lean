/- An order in which each step comes after those that it needs: plain mathematics of 'sorted'. -/
import Derived.Test.YtoaellmjgejgfaaList
namespace Go.Proofs.Ytoaellmjgejgfaa
set_option linter.unusedVariables false

abbrev nd (ns : List (List Int)) (n : Nat) : List Int := ns.getD n []

/-- Strictly ascending indexes of other steps. -/
def Valid (ns : List (List Int)) : Prop := ∀ n, n < ns.length → Sorted (nd ns n) ∧ ∀ x ∈ nd ns n, 0 ≤ x ∧ x < ns.length ∧ x ≠ n

def usr (ns : List (List Int)) (k x : Nat) : List Int := ((List.range k).filter fun n => (nd ns n).contains (x : Int)).map Int.ofNat
def usrJ (ns : List (List Int)) (k j x : Nat) : List Int := usr ns k x ++ if ((nd ns k).take j).contains (x : Int) then [(k : Int)] else []

theorem usrJ_zero (ns : List (List Int)) (k x : Nat) : usrJ ns k 0 x = usr ns k x := by simp [usrJ]
theorem usr_succ (ns : List (List Int)) (k x : Nat) : usr ns (k + 1) x = usr ns k x ++ if (nd ns k).contains (x : Int) then [(k : Int)] else [] := by
  unfold usr
  rw [List.range_succ, List.filter_append, List.map_append]
  congr 1
  by_cases h : (nd ns k).contains (x : Int) = true
  · rw [if_pos h]; simp only [List.filter_cons, h, if_true, List.filter_nil]; rfl
  · rw [if_neg h]; simp only [List.filter_cons, h, List.filter_nil]; rfl
theorem usrJ_full (ns : List (List Int)) (k x : Nat) : usrJ ns k (nd ns k).length x = usr ns (k + 1) x := by
  rw [usr_succ, usrJ, List.take_length]

theorem getD_mem {l : List Int} {j : Nat} (h : j < l.length) : l.getD j 0 ∈ l := by
  rw [List.getD_eq_getElem?_getD, List.getElem?_eq_getElem h]; exact List.getElem_mem h
theorem take_snoc (l : List Int) {j : Nat} (h : j < l.length) : l.take (j + 1) = l.take j ++ [l.getD j 0] := by
  rw [List.take_succ_eq_append_getElem h, List.getD_eq_getElem?_getD, List.getElem?_eq_getElem h]; rfl
theorem nodup_at {l : List Int} (hn : l.Nodup) {j : Nat} (h : j < l.length) : l.getD j 0 ∉ l.take j := by
  intro hm
  obtain ⟨i, hi, e⟩ := List.getElem_of_mem hm
  have hij : i < j := by simp at hi; omega
  rw [List.getElem_take, List.getD_eq_getElem?_getD, List.getElem?_eq_getElem h, Option.getD_some] at e
  have := (List.nodup_iff_pairwise_ne.1 hn)
  have := List.pairwise_iff_getElem.1 this i j (by omega) h hij
  exact this e
theorem Sorted.nodup {l : List Int} (h : Sorted l) : l.Nodup := List.Pairwise.imp (fun {a b} (hab : a < b) => (by omega : a ≠ b)) h

theorem usrJ_succ (ns : List (List Int)) (k j x : Nat) (hs : Sorted (nd ns k)) (hj : j < (nd ns k).length) :
    usrJ ns k (j + 1) x = if (x : Int) = (nd ns k).getD j 0 then usrJ ns k j x ++ [(k : Int)] else usrJ ns k j x := by
  unfold usrJ
  rw [take_snoc _ hj]
  have hno := nodup_at hs.nodup hj
  by_cases h : (x : Int) = (nd ns k).getD j 0
  · rw [if_pos h, if_pos (by simp [h]), if_neg (by rw [h, List.contains_iff_mem]; exact hno)]
    simp
  · rw [if_neg h]
    congr 2
    rw [List.contains_iff_mem, List.contains_iff_mem, List.mem_append, List.mem_singleton]
    simp only [h, or_false]

theorem mem_usr {ns : List (List Int)} {k x : Nat} {y : Int} : y ∈ usr ns k x ↔ ∃ n : Nat, n < k ∧ y = n ∧ (x : Int) ∈ nd ns n := by
  unfold usr
  simp only [List.mem_map, List.mem_filter, List.mem_range, List.contains_iff_mem]
  constructor
  · rintro ⟨n, ⟨h1, h2⟩, rfl⟩; exact ⟨n, h1, rfl, h2⟩
  · rintro ⟨n, h1, rfl, h2⟩; exact ⟨n, ⟨h1, h2⟩, rfl⟩
theorem usr_nodup (ns : List (List Int)) (k x : Nat) : (usr ns k x).Nodup := by
  unfold usr
  refine List.Pairwise.map _ (fun a b (h : a ≠ b) => ?_) (List.nodup_iff_pairwise_ne.1 (List.Nodup.sublist List.filter_sublist List.nodup_range))
  intro e
  exact h (Int.ofNat.inj e)
theorem usr_length (ns : List (List Int)) (k x : Nat) : (usr ns k x).length ≤ k := by
  unfold usr
  rw [List.length_map]
  exact Nat.le_trans (List.length_filter_le _ _) (by simp)
theorem usrJ_length (ns : List (List Int)) (k j x : Nat) : (usrJ ns k j x).length ≤ k + 1 := by
  unfold usrJ
  rw [List.length_append]
  have := usr_length ns k x
  split <;> simp <;> omega

/-- What left[n] is when i of out are through, and j users of the next. -/
def leftAt (ns : List (List Int)) (out : List Int) (i j n : Nat) : Int :=
  ((nd ns n).countP (fun x => !(out.take i).contains x) : Nat) - if ((usr ns ns.length (out.getD i 0).toNat).take j).contains (n : Int) then 1 else 0

theorem leftAt_zero (ns : List (List Int)) (out : List Int) (n : Nat) : leftAt ns out 0 0 n = (nd ns n).length := by
  unfold leftAt
  simp

theorem leftAt_grow (ns : List (List Int)) (out : List Int) (y : Int) {i : Nat} (hi : i < out.length) (j n : Nat) : leftAt ns (out ++ [y]) i j n = leftAt ns out i j n := by
  unfold leftAt
  rw [List.take_append_of_le_length (by omega), show (out ++ [y]).getD i 0 = out.getD i 0 by simp [List.getD_eq_getElem?_getD, List.getElem?_append_left hi]]

theorem leftAt_succ (ns : List (List Int)) (out : List Int) {i j : Nat} (hj : j < (usr ns ns.length (out.getD i 0).toNat).length) (n : Nat) :
    leftAt ns out i (j + 1) n = if (n : Int) = (usr ns ns.length (out.getD i 0).toNat).getD j 0 then leftAt ns out i j n - 1 else leftAt ns out i j n := by
  unfold leftAt
  rw [take_snoc _ hj]
  have hno := nodup_at (usr_nodup ns ns.length (out.getD i 0).toNat) hj
  by_cases h : (n : Int) = (usr ns ns.length (out.getD i 0).toNat).getD j 0
  · rw [if_pos h, if_pos (by simp [h]), if_neg (by rw [h, List.contains_iff_mem]; exact hno)]
    omega
  · rw [if_neg h]
    congr 2
    rw [List.contains_iff_mem, List.contains_iff_mem, List.mem_append, List.mem_singleton]
    simp only [h, or_false]

theorem countP_drop_one {l : List Int} (hn : l.Nodup) (p : Int → Bool) (y : Int) (hy : p y = true) :
    l.countP p = l.countP (fun x => p x && x != y) + if l.contains y then 1 else 0 := by
  induction l with
  | nil => simp
  | cons a l ih =>
    obtain ⟨h1, h2⟩ := List.nodup_cons.1 hn
    have ih := ih h2
    rw [List.countP_cons, List.countP_cons, ih]
    by_cases ha : a = y
    · subst ha
      have hc : l.contains a = false := by
        cases h : l.contains a with
        | false => rfl
        | true => exact absurd (List.contains_iff_mem.1 h) h1
      have hc' : ¬ (a ∈ l) := h1
      simp [hy, hc']
    · have : (a :: l).contains y = l.contains y := by
        simp [Ne.symm ha]
      rw [this]
      have hb : (a != y) = true := by simp [ha]
      rw [hb, Bool.and_true]
      omega

theorem leftAt_full (ns : List (List Int)) (out : List Int) {i : Nat} (hv : Valid ns) (hno : out.Nodup) (hr : ∀ y ∈ out, 0 ≤ y ∧ y < ns.length) (hi : i < out.length) {n : Nat} (hn : n < ns.length) :
    leftAt ns out i (usr ns ns.length (out.getD i 0).toNat).length n = leftAt ns out (i + 1) 0 n := by
  have hin := getD_mem hi
  have hnot := nodup_at hno hi
  have hr1 := hr _ hin
  unfold leftAt
  rw [List.take_length, take_snoc _ hi]
  generalize out.getD i 0 = y at *
  have hc := countP_drop_one (hv n hn).1.nodup (fun x => !(out.take i).contains x) y (by simpa using hnot)
  rw [hc]
  have e1 : (usr ns ns.length y.toNat).contains (n : Int) = (nd ns n).contains y := by
    rw [Bool.eq_iff_iff, List.contains_iff_mem, List.contains_iff_mem, mem_usr]
    constructor
    · rintro ⟨m, hm, e, h⟩
      have : n = m := by omega
      subst this
      rwa [show ((y.toNat : Nat) : Int) = y by omega] at h
    · intro h
      exact ⟨n, hn, rfl, by rwa [show ((y.toNat : Nat) : Int) = y by omega]⟩
  have e2 : (nd ns n).countP (fun x => (!(out.take i).contains x) && x != y) = (nd ns n).countP (fun x => !(out.take i ++ [y]).contains x) := by
    congr 1
    funext x
    rw [List.contains_eq_mem, List.contains_eq_mem, Bool.eq_iff_iff]
    simp
  rw [e1, e2]
  simp
  split <;> omega

structure K2 (ns : List (List Int)) (out : List Int) (i j : Nat) : Prop where
  nodup : out.Nodup
  rng : ∀ y ∈ out, 0 ≤ y ∧ y < ns.length
  zero : ∀ n, n < ns.length → ((n : Int) ∈ out ↔ leftAt ns out i j n = 0)
  topo : ∀ k, k < out.length → ∀ x ∈ nd ns (out.getD k 0).toNat, x ∈ out.take k

def out0 (ns : List (List Int)) (k : Nat) : List Int := ((List.range k).filter fun n => (nd ns n).isEmpty).map Int.ofNat
theorem out0_succ (ns : List (List Int)) (k : Nat) : out0 ns (k + 1) = out0 ns k ++ if (nd ns k).isEmpty then [(k : Int)] else [] := by
  unfold out0
  rw [List.range_succ, List.filter_append, List.map_append]
  congr 1
  by_cases h : (nd ns k).isEmpty = true
  · rw [if_pos h]; simp only [List.filter_cons, h, if_true, List.filter_nil]; rfl
  · rw [if_neg h]; simp only [List.filter_cons, h, List.filter_nil]; rfl
theorem mem_out0 {ns : List (List Int)} {k : Nat} {y : Int} : y ∈ out0 ns k ↔ ∃ n : Nat, n < k ∧ y = n ∧ nd ns n = [] := by
  unfold out0
  simp only [List.mem_map, List.mem_filter, List.mem_range, List.isEmpty_iff]
  constructor
  · rintro ⟨n, ⟨h1, h2⟩, rfl⟩; exact ⟨n, h1, rfl, h2⟩
  · rintro ⟨n, h1, rfl, h2⟩; exact ⟨n, ⟨h1, h2⟩, rfl⟩
theorem out0_length (ns : List (List Int)) (k : Nat) : (out0 ns k).length ≤ k := by
  unfold out0
  rw [List.length_map]
  exact Nat.le_trans (List.length_filter_le _ _) (by simp)

theorem k2_start (ns : List (List Int)) : K2 ns (out0 ns ns.length) 0 0 := by
  refine ⟨?_, ?_, ?_, ?_⟩
  · unfold out0
    refine List.Pairwise.map _ (fun a b (h : a ≠ b) => ?_) (List.nodup_iff_pairwise_ne.1 (List.Nodup.sublist List.filter_sublist List.nodup_range))
    intro e
    exact h (Int.ofNat.inj e)
  · intro y hy
    obtain ⟨n, h1, rfl, _⟩ := mem_out0.1 hy
    omega
  · intro n hn
    rw [leftAt_zero, mem_out0]
    constructor
    · rintro ⟨m, h1, h2, h3⟩
      have : n = m := by omega
      subst this
      rw [h3]; rfl
    · intro h
      exact ⟨n, hn, rfl, List.eq_nil_of_length_eq_zero (by omega)⟩
  · intro k hk x hx
    obtain ⟨n, h1, h2, h3⟩ := mem_out0.1 (getD_mem hk)
    rw [h2, Int.toNat_natCast, h3] at hx
    cases hx

section
variable {ns : List (List Int)} {out : List Int} {i j : Nat}

theorem K2.length (h : K2 ns out i j) : out.length ≤ ns.length := by
  have hsub : ∀ (m : Nat) (l : List Int), l.Nodup → (∀ y ∈ l, 0 ≤ y ∧ y < m) → l.length ≤ m := by
    intro m
    induction m with
    | zero =>
      intro l _ hr
      cases l with
      | nil => simp
      | cons a l => have := hr a (List.mem_cons_self ..); omega
    | succ m ih =>
      intro l hn hr
      have h1 := ih (l.erase (m : Int)) (hn.erase _) (fun y hy => by
        have := (hn.mem_erase_iff).1 hy
        have := hr y this.2
        omega)
      have h2 := List.length_erase (a := (m : Int)) (l := l)
      split at h2 <;> omega
  exact hsub _ _ h.nodup h.rng

/-- The next user. -/
theorem K2.user (h : K2 ns out i j) (hv : Valid ns) (hi : i < out.length) (hj : j < (usr ns ns.length (out.getD i 0).toNat).length) :
    ∃ n : Nat, (usr ns ns.length (out.getD i 0).toNat).getD j 0 = n ∧ n < ns.length ∧ (out.getD i 0) ∈ nd ns n ∧ 1 ≤ leftAt ns out i j n := by
  obtain ⟨n, h1, h2, h3⟩ := mem_usr.1 (getD_mem hj)
  have hr := h.rng _ (getD_mem hi)
  have hy : ((out.getD i 0).toNat : Int) = out.getD i 0 := by omega
  rw [hy] at h3
  refine ⟨n, h2, h1, h3, ?_⟩
  unfold leftAt
  have hno := nodup_at (usr_nodup ns ns.length (out.getD i 0).toNat) hj
  rw [h2] at hno
  rw [if_neg (by rw [List.contains_iff_mem]; exact hno)]
  have : 0 < (nd ns n).countP (fun x => !(out.take i).contains x) := by
    rw [List.countP_pos_iff]
    exact ⟨_, h3, by simpa using nodup_at h.nodup hi⟩
  omega

theorem K2.fall (h : K2 ns out i j) (hv : Valid ns) (hi : i < out.length) (hj : j < (usr ns ns.length (out.getD i 0).toNat).length) (n : Nat)
    (hn : (usr ns ns.length (out.getD i 0).toNat).getD j 0 = n) (hne : leftAt ns out i j n - 1 ≠ 0) : K2 ns out i (j + 1) := by
  obtain ⟨n', h1, h2, h3, h4⟩ := h.user hv hi hj
  have : n = n' := by omega
  subst this
  refine ⟨h.nodup, h.rng, fun m hm => ?_, h.topo⟩
  rw [leftAt_succ ns out hj m, h.zero m hm]
  by_cases e : m = n
  · subst e
    rw [if_pos hn.symm]
    omega
  · rw [if_neg (by rw [hn]; omega)]

theorem K2.add (h : K2 ns out i j) (hv : Valid ns) (hi : i < out.length) (hj : j < (usr ns ns.length (out.getD i 0).toNat).length) (n : Nat)
    (hn : (usr ns ns.length (out.getD i 0).toNat).getD j 0 = n) (he : leftAt ns out i j n - 1 = 0) : K2 ns (out ++ [(n : Int)]) i (j + 1) := by
  obtain ⟨n', h1, h2, h3, h4⟩ := h.user hv hi hj
  have : n = n' := by omega
  subst this
  have hno : (n : Int) ∉ out := fun hm => by have := (h.zero n h2).1 hm; omega
  refine ⟨?_, ?_, ?_, ?_⟩
  · rw [List.nodup_append]
    refine ⟨h.nodup, by simp, ?_⟩
    intro a ha b hb e
    simp at hb
    subst e
    exact hno (hb ▸ ha)
  · intro y hy
    rcases List.mem_append.1 hy with hy | hy
    · exact h.rng y hy
    · simp at hy; omega
  · intro m hm
    rw [leftAt_grow ns out _ hi, leftAt_succ ns out hj m, List.mem_append, h.zero m hm]
    by_cases e : m = n
    · subst e
      rw [if_pos hn.symm]
      simp [he]
    · rw [if_neg (by rw [hn]; omega)]
      simp
      intro e2; omega
  · intro k hk x hx
    rw [List.length_append, List.length_singleton] at hk
    by_cases hk2 : k < out.length
    · rw [show (out ++ [(n : Int)]).getD k 0 = out.getD k 0 by simp [List.getD_eq_getElem?_getD, List.getElem?_append_left hk2]] at hx
      rw [List.take_append_of_le_length (by omega)]
      exact h.topo k hk2 x hx
    · have hke : k = out.length := by omega
      subst hke
      rw [show (out ++ [(n : Int)]).getD out.length 0 = n by simp [List.getD_eq_getElem?_getD]] at hx
      rw [List.take_left' rfl]
      rw [Int.toNat_natCast] at hx
      have h5 : leftAt ns out i (j + 1) n = 0 := by rw [leftAt_succ ns out hj n, if_pos hn.symm]; exact he
      unfold leftAt at h5
      rw [take_snoc _ hj, hn, if_pos (by simp)] at h5
      have h6 : (nd ns n).countP (fun x => !(out.take i).contains x) = 1 := by omega
      rw [countP_drop_one (hv n h2).1.nodup (fun x => !(out.take i).contains x) (out.getD i 0) (by simpa using nodup_at h.nodup hi), if_pos (List.contains_iff_mem.2 h3)] at h6
      have h7 : (nd ns n).countP (fun x => (!(out.take i).contains x) && x != out.getD i 0) = 0 := by omega
      rw [List.countP_eq_zero] at h7
      have h8 := h7 x hx
      by_cases hxy : x = out.getD i 0
      · rw [hxy]; exact getD_mem hi
      · have hb : (x != out.getD i 0) = true := by simpa using hxy
        rw [hb, Bool.and_true] at h8
        have : x ∈ out.take i := Classical.byContradiction fun hc => h8 (by simpa using hc)
        exact List.mem_of_mem_take this

theorem K2.next (h : K2 ns out i (usr ns ns.length (out.getD i 0).toNat).length) (hv : Valid ns) (hi : i < out.length) : K2 ns out (i + 1) 0 :=
  ⟨h.nodup, h.rng, fun n hn => by rw [← leftAt_full ns out hv h.nodup h.rng hi hn]; exact h.zero n hn, h.topo⟩
end

/-- What 'sorted' says of its list. -/
structure OrdSpec (ns : List (List Int)) (out : List Int) : Prop where
  nodup : out.Nodup
  rng : ∀ y ∈ out, 0 ≤ y ∧ y < ns.length
  topo : ∀ k, k < out.length → ∀ x ∈ nd ns (out.getD k 0).toNat, x ∈ out.take k
  full : ∀ n : Nat, n < ns.length → (n : Int) ∉ out → ∃ x ∈ nd ns n, x ∉ out
  len : out.length ≤ ns.length

theorem K2.done {ns : List (List Int)} {out : List Int} {i j : Nat} (h : K2 ns out i j) (hi : out.length ≤ i) (hj : j = 0) : OrdSpec ns out := by
  subst hj
  refine ⟨h.nodup, h.rng, h.topo, fun n hn hno => ?_, h.length⟩
  have h1 : leftAt ns out i 0 n ≠ 0 := fun e => hno ((h.zero n hn).2 e)
  unfold leftAt at h1
  rw [List.take_of_length_le (l := out) hi] at h1
  simp only [List.take_zero, List.contains_nil, Bool.false_eq_true, if_false] at h1
  have h2 : 0 < (nd ns n).countP (fun x => !out.contains x) := by omega
  rw [List.countP_pos_iff] at h2
  obtain ⟨x, hx, hx2⟩ := h2
  exact ⟨x, hx, by simpa using hx2⟩

/-! Orders and cycles. -/
def Topo (ns : List (List Int)) : Prop := ∃ out : List Int, (∀ n : Nat, n < ns.length → (n : Int) ∈ out) ∧ ∀ k, k < out.length → ∀ x ∈ nd ns (out.getD k 0).toNat, x ∈ out.take k
def Stuck (ns : List (List Int)) : Prop := ∃ S : Nat → Prop, (∃ n, n < ns.length ∧ S n) ∧ ∀ n, n < ns.length → S n → ∃ x : Nat, x < ns.length ∧ (x : Int) ∈ nd ns n ∧ S x

theorem not_both {ns : List (List Int)} (h : Topo ns) (k : Stuck ns) : False := by
  obtain ⟨out, h1, h2⟩ := h
  obtain ⟨S, ⟨n, hn, hS⟩, h3⟩ := k
  have key : ∀ d, ∀ n, n < ns.length → S n → (∃ p, p < out.length ∧ p < d ∧ out.getD p 0 = n) → False := by
    intro d
    induction d with
    | zero => rintro n _ _ ⟨p, _, h, _⟩; omega
    | succ d ih =>
      rintro n hn hS ⟨p, hp, hpd, e⟩
      obtain ⟨x, hx, hxn, hSx⟩ := h3 n hn hS
      have h4 := h2 p hp x (by rw [e]; exact hxn)
      obtain ⟨q, hq, e2⟩ := List.getElem_of_mem h4
      have hqp : q < p := by simp at hq; omega
      refine ih x hx hSx ⟨q, by omega, by omega, ?_⟩
      rw [List.getElem_take] at e2
      rw [List.getD_eq_getElem?_getD, List.getElem?_eq_getElem (by omega), Option.getD_some, e2]
  obtain ⟨p, hp, e⟩ := List.getElem_of_mem (h1 n hn)
  exact key out.length n hn hS ⟨p, hp, hp, by rw [List.getD_eq_getElem?_getD, List.getElem?_eq_getElem hp, Option.getD_some, e]⟩

theorem full_of_length {ns : List (List Int)} {out : List Int} (h : OrdSpec ns out) (hl : out.length = ns.length) : ∀ n : Nat, n < ns.length → (n : Int) ∈ out := by
  intro n hn
  have hcount : ∀ (m : Nat) (l : List Int), l.Nodup → (∀ y ∈ l, 0 ≤ y ∧ y < m) → (n : Int) ∉ l → n < m → l.length < m := by
    intro m l hno hr hn hnm
    have := K2.length (ns := List.replicate m []) (out := l ++ [(n : Int)]) (i := 0) (j := 0)
    have hsub : ∀ (m : Nat) (l : List Int), l.Nodup → (∀ y ∈ l, 0 ≤ y ∧ y < m) → l.length ≤ m := by
      intro m
      induction m with
      | zero =>
        intro l _ hr
        cases l with
        | nil => simp
        | cons a l => have := hr a (List.mem_cons_self ..); omega
      | succ m ih =>
        intro l hn hr
        have h1 := ih (l.erase (m : Int)) (hn.erase _) (fun y hy => by
          have := (hn.mem_erase_iff).1 hy
          have := hr y this.2
          omega)
        have h2 := List.length_erase (a := (m : Int)) (l := l)
        split at h2 <;> omega
    have := hsub m ((n : Int) :: l) (List.nodup_cons.2 ⟨hn, hno⟩) (fun y hy => by rcases List.mem_cons.1 hy with rfl | hy; omega; exact hr y hy)
    simp at this; omega
  apply Classical.byContradiction
  intro hno
  have := hcount ns.length out h.nodup h.rng hno hn
  omega

theorem OrdSpec.topo_of {ns : List (List Int)} {out : List Int} (h : OrdSpec ns out) (hl : out.length = ns.length) : Topo ns := ⟨out, full_of_length h hl, h.topo⟩
theorem OrdSpec.stuck_of {ns : List (List Int)} {out : List Int} (h : OrdSpec ns out) (hv : Valid ns) (hl : out.length ≠ ns.length) : Stuck ns := by
  have hle : out.length < ns.length := by have := h.len; omega
  refine ⟨fun n => (n : Int) ∉ out, ?_, fun n hn hS => ?_⟩
  · apply Classical.byContradiction
    intro hno
    have hall : ∀ n : Nat, n < ns.length → (n : Int) ∈ out := fun n hn => Classical.byContradiction fun h => hno ⟨n, hn, h⟩
    have hsub : ∀ m, m ≤ ns.length → ((List.range m).map Int.ofNat).length ≤ out.length := fun m hm => by
      refine List.Nodup.length_le_of_subset ?_ ?_
      · exact List.Pairwise.map _ (fun a b (h : a ≠ b) e => h (Int.ofNat.inj e)) (List.nodup_iff_pairwise_ne.1 List.nodup_range)
      · intro y hy
        simp only [List.mem_map, List.mem_range] at hy
        obtain ⟨n, hn, rfl⟩ := hy
        exact hall n (by omega)
    have := hsub ns.length (Nat.le_refl _)
    simp at this
    omega
  · obtain ⟨x, hx, hxo⟩ := h.full n hn hS
    have hr := (hv n hn).2 x hx
    exact ⟨x.toNat, by omega, by rwa [show ((x.toNat : Nat) : Int) = x by omega], by show ¬ ((x.toNat : Nat) : Int) ∈ out; rwa [show ((x.toNat : Nat) : Int) = x by omega]⟩
end Go.Proofs.Ytoaellmjgejgfaa
