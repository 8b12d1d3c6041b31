/- Plays: the reference's list of states. Plain. -/
import Derived.Test.YtoaellmjgejgfaaFails
import Derived.Test.YtoaellmjgejgfaaInter
import Derived.Test.YtoaellmjgejgfaaRefS
namespace Go.Proofs.Ytoaellmjgejgfaa
set_option linter.unusedVariables false

def stR (s : St) (y : Int) : Int := if s.rn.contains y then 1 else if s.dn.contains y then 2 else if s.fl.contains y then 3 else if s.sk.contains y then 4 else 0
def rst (s : St) : List Int := (List.range s.needs.length).map fun n : Nat => stR s (n : Int)
theorem rst_length (s : St) : (rst s).length = s.needs.length := by simp [rst]
theorem rst_getD {s : St} {n : Nat} (h : n < s.needs.length) : (rst s).getD n 0 = stR s n := range_getD _ n _ h
theorem rst_of {s : St} {st : List Int} (hl : st.length = s.needs.length) (h : ∀ n : Nat, n < s.needs.length → st.getD n 0 = stR s n) : st = rst s := by
  refine List.ext_getElem (by rw [hl, rst_length]) fun n h1 h2 => ?_
  have h3 := h n (by omega)
  have h4 := rst_getD (s := s) (n := n) (by omega)
  rw [List.getD_eq_getElem?_getD, List.getElem?_eq_getElem h1, Option.getD_some] at h3
  rw [List.getD_eq_getElem?_getD, List.getElem?_eq_getElem h2, Option.getD_some] at h4
  rw [h3, h4]

theorem Inv.st5 {s : St} (h : Inv s) {y : Int} (h0 : 0 ≤ y) (h1 : y < s.needs.length) :
    (stR s y = 0 ↔ y ∈ s.wt) ∧ (stR s y = 1 ↔ y ∈ s.rn) ∧ (stR s y = 2 ↔ y ∈ s.dn) ∧ (stR s y = 3 ↔ y ∈ s.fl) ∧ (stR s y = 4 ↔ y ∈ s.sk) := by
  unfold stR
  rcases h.where_ h0 h1 with w | w | w | w | w
  all_goals
    obtain ⟨a, b, c, d, e⟩ := w
    simp [a, b, c, d, e]

theorem mem_inL {st : List Int} {want : Int} {k : Nat} {y : Int} : y ∈ inL st want k ↔ 0 ≤ y ∧ y < k ∧ st.getD y.toNat 0 = want := by
  unfold inL
  simp only [List.mem_map, List.mem_filter, List.mem_range, decide_eq_true_eq]
  constructor
  · rintro ⟨m, ⟨h1, h2⟩, rfl⟩
    refine ⟨by show (0 : Int) ≤ (m : Int); omega, by show (m : Int) < k; omega, ?_⟩
    rw [show (Int.ofNat m).toNat = m from rfl]; exact h2
  · rintro ⟨h1, h2, h3⟩
    exact ⟨y.toNat, ⟨by omega, h3⟩, by show ((y.toNat : Nat) : Int) = y; omega⟩
theorem inL_sorted (st : List Int) (want : Int) (k : Nat) : Sorted (inL st want k) := by
  unfold inL
  refine List.Pairwise.map _ (fun a b (h : a < b) => ?_) (List.Pairwise.filter _ List.pairwise_lt_range)
  show (a : Int) < (b : Int)
  omega

theorem Inv.get {s : St} (h : Inv s) {y : Int} (h0 : 0 ≤ y) (h1 : y < s.needs.length) : (rst s).getD y.toNat 0 = stR s y := by
  rw [rst_getD (by omega), show ((y.toNat : Nat) : Int) = y by omega]
section
variable {s : St} (h : Inv s)
include h
theorem Inv.in_ {want : Int} {l : List Int} (hs : Sorted l) (hr : ∀ y ∈ l, 0 ≤ y ∧ y < s.needs.length) (hm : ∀ y : Int, 0 ≤ y → y < s.needs.length → (stR s y = want ↔ y ∈ l)) : inL (rst s) want (rst s).length = l := by
  refine sorted_ext (inL_sorted _ _ _) hs fun y => ?_
  rw [mem_inL, rst_length]
  constructor
  · rintro ⟨h0, h1, h2⟩
    rw [h.get h0 h1] at h2
    exact (hm y h0 h1).1 h2
  · intro hy
    obtain ⟨h0, h1⟩ := hr y hy
    exact ⟨h0, h1, (h.get h0 h1).trans ((hm y h0 h1).2 hy)⟩
theorem Inv.in0 : inL (rst s) 0 (rst s).length = s.wt := h.in_ h.good.swt h.good.rwt fun y h0 h1 => (h.st5 h0 h1).1
theorem Inv.in1 : inL (rst s) 1 (rst s).length = s.rn := h.in_ h.good.srn h.good.rrn fun y h0 h1 => (h.st5 h0 h1).2.1
theorem Inv.in2 : inL (rst s) 2 (rst s).length = s.dn := h.in_ h.good.sdn h.good.rdn fun y h0 h1 => (h.st5 h0 h1).2.2.1
theorem Inv.in3 : inL (rst s) 3 (rst s).length = s.fl := h.in_ h.good.sfl h.good.rfl fun y h0 h1 => (h.st5 h0 h1).2.2.2.1
theorem Inv.in4 : inL (rst s) 4 (rst s).length = s.sk := h.in_ h.good.ssk h.good.rsk fun y h0 h1 => (h.st5 h0 h1).2.2.2.2
end

/-- The steps that wait for nothing. -/
def frL (ns : List (List Int)) (st : List Int) (k : Nat) : List Int := ((List.range k).filter fun i : Nat => decide (st.getD i 0 = 0) && allB st (nd ns i) 2).map Int.ofNat
theorem frL_succ (ns : List (List Int)) (st : List Int) (k : Nat) : frL ns st (k + 1) = frL ns st k ++ if decide (st.getD k 0 = 0) && allB st (nd ns k) 2 then [(k : Int)] else [] := by
  unfold frL
  rw [List.range_succ, List.filter_append, List.map_append]
  congr 1
  cases h : decide (st.getD k 0 = 0) && allB st (nd ns k) 2 with
  | true => rw [if_pos rfl]; simp only [List.filter_cons, h, if_true, List.filter_nil]; rfl
  | false => simp only [List.filter_cons, h, List.filter_nil]; rfl
theorem frL_length (ns : List (List Int)) (st : List Int) (k : Nat) : (frL ns st k).length ≤ k := by
  unfold frL
  rw [List.length_map]
  exact Nat.le_trans (List.length_filter_le _ _) (by simp)
theorem mem_frL {ns : List (List Int)} {st : List Int} {k : Nat} {y : Int} : y ∈ frL ns st k ↔ 0 ≤ y ∧ y < k ∧ st.getD y.toNat 0 = 0 ∧ allB st (nd ns y.toNat) 2 = true := by
  unfold frL
  simp only [List.mem_map, List.mem_filter, List.mem_range, Bool.and_eq_true, decide_eq_true_eq]
  constructor
  · rintro ⟨m, ⟨h1, h2, h3⟩, rfl⟩
    refine ⟨by show (0 : Int) ≤ (m : Int); omega, by show (m : Int) < k; omega, ?_⟩
    rw [show (Int.ofNat m).toNat = m from rfl]; exact ⟨h2, h3⟩
  · rintro ⟨h1, h2, h3⟩
    exact ⟨y.toNat, ⟨by omega, h3⟩, by show ((y.toNat : Nat) : Int) = y; omega⟩
theorem frL_sorted (ns : List (List Int)) (st : List Int) (k : Nat) : Sorted (frL ns st k) := by
  unfold frL
  refine List.Pairwise.map _ (fun a b (h : a < b) => ?_) (List.Pairwise.filter _ List.pairwise_lt_range)
  show (a : Int) < (b : Int)
  omega
/-- What the reference's Ready gives. -/
def rdR (ns : List (List Int)) (limit : Int) (st : List Int) : List Int := if limit ≤ ((inL st 1 st.length).length : Int) then [] else frL ns st st.length

section
variable {s : St} (h : Inv s)
include h
theorem Inv.all2 {n : Nat} (hn : n < s.needs.length) : allB (rst s) (nd s.needs n) 2 = true ↔ ∀ x ∈ nd s.needs n, x ∈ s.dn := by
  unfold allB
  rw [List.all_eq_true]
  constructor
  · intro ha x hx
    obtain ⟨x0, x1, _⟩ := (h.valid n hn).2 x hx
    have := ha x hx
    rw [decide_eq_true_eq, h.get x0 x1] at this
    exact (h.st5 x0 x1).2.2.1.1 this
  · intro ha x hx
    obtain ⟨x0, x1, _⟩ := (h.valid n hn).2 x hx
    rw [decide_eq_true_eq, h.get x0 x1]
    exact (h.st5 x0 x1).2.2.1.2 (ha x hx)
theorem Inv.mem_ready (y : Int) : y ∈ readyL s ↔ y ∈ s.wt ∧ (s.rn.length : Int) < s.limit ∧ ∀ x ∈ nd s.needs y.toNat, x ∈ s.dn := by
  unfold readyL
  rw [List.mem_filter]
  constructor
  · rintro ⟨h1, h2⟩
    have := ready_spec h2
    exact ⟨h1, this.2⟩
  · rintro ⟨h1, h2, h3⟩
    have := h.good.rwt y h1
    refine ⟨h1, ready_of ?_ h2 h3⟩
    rw [show ((y.toNat : Nat) : Int) = y by omega]; exact h1
theorem Inv.ready_eq : rdR s.needs s.limit (rst s) = readyL s := by
  unfold rdR
  rw [h.in1]
  have hsr : Sorted (readyL s) := List.Pairwise.filter _ h.good.swt
  split
  · rename_i hl
    refine sorted_ext List.Pairwise.nil hsr fun y => ⟨fun hy => (by cases hy), fun hy => ?_⟩
    have := (h.mem_ready y).1 hy
    omega
  · rename_i hl
    refine sorted_ext (frL_sorted _ _ _) hsr fun y => ?_
    rw [mem_frL, h.mem_ready, rst_length]
    constructor
    · rintro ⟨h0, h1, h2, h3⟩
      rw [h.get h0 h1] at h2
      exact ⟨(h.st5 h0 h1).1.1 h2, by omega, (h.all2 (by omega)).1 h3⟩
    · rintro ⟨h1, h2, h3⟩
      obtain ⟨y0, y1⟩ := h.good.rwt y h1
      exact ⟨y0, y1, (h.get y0 y1).trans ((h.st5 y0 y1).1.2 h1), (h.all2 (by omega)).2 h3⟩
theorem Inv.lim0 : s.limit ≠ 0 := by have := h.lim; omega
end

theorem set_getD {st : List Int} {n m : Nat} {v : Int} (hn : n < st.length) : (st.set n v).getD m 0 = if m = n then v else st.getD m 0 := by
  rw [List.getD_eq_getElem?_getD, List.getElem?_set]
  by_cases h : n = m
  · subst h; rw [if_pos rfl, if_pos hn, if_pos rfl]; rfl
  · rw [if_neg h, if_neg (fun e => h e.symm), List.getD_eq_getElem?_getD]

/-! Begin, end -/
def begR (ns : List (List Int)) (limit : Int) (st : List Int) (x : Int) : Int × List Int :=
  if 0 ≤ x ∧ x < st.length then (if (rdR ns limit st).contains x then (0, st.set x.toNat 1) else (38, st)) else (9, st)
def endR (st : List Int) (x v : Int) : Int × List Int :=
  if 0 ≤ x ∧ x < st.length then (if st.getD x.toNat 0 = 1 then (0, st.set x.toNat v) else (38, st)) else (9, st)

theorem end_bad {st : List Int} {x v : Int} (he : (endR st x v).1 ≠ 0) : (endR st x v).2 = st := by
  unfold endR at he ⊢
  split
  · rename_i h1
    rw [if_pos h1] at he
    split
    · rename_i h2; rw [if_pos h2] at he; exact absurd rfl he
    · rfl
  · rfl
theorem end_good {st : List Int} {x v : Int} (he : (endR st x v).1 = 0) : 0 ≤ x ∧ x < st.length ∧ st.getD x.toNat 0 = 1 ∧ (endR st x v).2 = st.set x.toNat v := by
  unfold endR at he ⊢
  split at he
  · rename_i h1
    rw [if_pos h1]
    split at he
    · rename_i h2; rw [if_pos h2]; exact ⟨h1.1, h1.2, h2, rfl⟩
    · cases he
  · cases he
section
variable {s : St} (h : Inv s)
include h
theorem Inv.ready_mem {x : Int} (h0 : 0 ≤ x) (h1 : x < s.needs.length) : (readyL s).contains x = readyB s x.toNat (nd s.needs x.toNat) := by
  have hx : ((x.toNat : Nat) : Int) = x := by omega
  rw [Bool.eq_iff_iff, List.contains_iff_mem, h.mem_ready]
  constructor
  · rintro ⟨a, b, c⟩
    exact ready_of (by rw [hx]; exact a) b c
  · intro hr
    have := ready_spec hr
    rw [hx] at this
    exact this
theorem Inv.beg_eq (x : Int) : begR s.needs s.limit (rst s) x = ((beginS s x).1, rst (beginS s x).2) := by
  have hb := h.begin_ x
  unfold begR
  rw [rst_length, h.ready_eq]
  by_cases hx : 0 ≤ x ∧ x < s.needs.length
  · rw [if_pos hx, h.ready_mem hx.1 hx.2]
    have hi : inR s x = true := by unfold inR; simp [hx]
    by_cases hr : readyB s x.toNat (nd s.needs x.toNat) = true
    · have e : beginS s x = (0, { s with wt := del x s.wt, rn := ins x s.rn }) := by
        unfold beginS; rw [if_pos hi, if_pos (by exact hr)]
      rw [if_pos hr, e]
      rw [e] at hb
      refine Prod.ext rfl (rst_of (by rw [List.length_set, rst_length]) fun n hn => ?_)
      have hn' : n < s.needs.length := hn
      rw [set_getD (by rw [rst_length]; omega)]
      by_cases hnx : n = x.toNat
      · subst hnx
        rw [if_pos rfl]
        have hx' : ((x.toNat : Nat) : Int) = x := by omega
        rw [hx']
        exact ((hb.st5 (y := x) hx.1 hx.2).2.1.2 (mem_ins.2 (.inl rfl))).symm
      · rw [if_neg hnx, rst_getD hn']
        have hne : (n : Int) ≠ x := by omega
        unfold stR
        show _ = if (ins x s.rn).contains (n : Int) then _ else _
        rw [has_ins, decide_eq_false hne, Bool.false_or]
    · have e : beginS s x = (38, s) := by
        unfold beginS; rw [if_pos hi, if_neg (by exact hr)]
      rw [if_neg hr, e]
  · rw [if_neg hx]
    have hi : inR s x = false := by unfold inR; simp only [Bool.and_eq_false_iff, decide_eq_false_iff_not]; omega
    have e : beginS s x = (9, s) := by unfold beginS; rw [hi]; rfl
    rw [e]

theorem Inv.end_code (x v : Int) : (endR (rst s) x v).1 = (stopS s x).1 := by
  unfold endR stopS
  rw [rst_length]
  by_cases hx : 0 ≤ x ∧ x < s.needs.length
  · rw [if_pos hx]
    have hi : inR s x = true := by unfold inR; simp [hx]
    rw [if_pos hi, h.get hx.1 hx.2]
    by_cases hr : x ∈ s.rn
    · rw [if_pos ((h.st5 hx.1 hx.2).2.1.2 hr), if_pos (List.contains_iff_mem.2 hr)]
    · rw [if_neg (fun e => hr ((h.st5 hx.1 hx.2).2.1.1 e)), if_neg (fun e => hr (List.contains_iff_mem.1 e))]
  · rw [if_neg hx]
    have hi : inR s x = false := by unfold inR; simp only [Bool.and_eq_false_iff, decide_eq_false_iff_not]; omega
    rw [hi]; rfl
theorem Inv.fin_eq (x : Int) : endR (rst s) x 2 = ((finishS s x).1, rst (finishS s x).2) := by
  have hc := h.end_code x 2
  by_cases he : (stopS s x).1 = 0
  · obtain ⟨x0, x1, hx, e1⟩ := stop_spec he
    rw [he] at hc
    obtain ⟨_, _, _, e2⟩ := end_good hc
    have e3 := finish_of_running h hx
    have hi := h.finish x
    rw [e3] at hi ⊢
    refine Prod.ext hc ?_
    rw [e2]
    refine rst_of (by rw [List.length_set, rst_length]) fun n hn => ?_
    have hn' : n < s.needs.length := hn
    rw [set_getD (by rw [rst_length]; omega)]
    have hx' : ((x.toNat : Nat) : Int) = x := by omega
    by_cases hnx : n = x.toNat
    · subst hnx
      rw [if_pos rfl, hx']
      exact ((hi.st5 (y := x) x0 x1).2.2.1.2 (mem_ins.2 (.inl rfl))).symm
    · rw [if_neg hnx, rst_getD hn']
      have hne : (n : Int) ≠ x := by omega
      unfold stR
      show _ = if (del x s.rn).contains (n : Int) then _ else if (ins x s.dn).contains (n : Int) then _ else _
      rw [has_ins, decide_eq_false hne, Bool.false_or, has_del h.good.srn, decide_eq_true hne, Bool.and_true]
  · have e : finishS s x = stopS s x := by unfold finishS; rw [if_neg he]
    rw [e]
    refine Prod.ext hc ?_
    rw [end_bad (by rw [hc]; exact he), stop_same he]
end

/-! Fail, Cancel -/
def fS (a : List Int × List Int) (x : Int) : List Int × List Int := if a.1.getD x.toNat 0 = 0 then (a.1.set x.toNat 4, a.2 ++ [x]) else a
def failR (st l : List Int) : List Int × List Int := l.foldl fS (st, [])
theorem failR_snoc (st l : List Int) (k : Nat) (hk : k < l.length) : failR st (l.take (k + 1)) = fS (failR st (l.take k)) (l.getD k 0) := by
  unfold failR
  rw [List.take_succ_eq_append_getElem hk, List.foldl_append, List.getD_eq_getElem?_getD, List.getElem?_eq_getElem hk]; rfl
theorem fS_len (a : List Int × List Int) (x : Int) : (fS a x).1.length = a.1.length := by
  unfold fS; split
  · exact List.length_set
  · rfl
theorem failR_len (l : List Int) : ∀ a : List Int × List Int, (l.foldl fS a).1.length = a.1.length := by
  induction l with
  | nil => intro a; rfl
  | cons x l ih => intro a; exact (ih _).trans (fS_len a x)
theorem failR_out_len (l : List Int) : ∀ a : List Int × List Int, (l.foldl fS a).2.length ≤ a.2.length + l.length := by
  induction l with
  | nil => intro a; exact Nat.le_refl _
  | cons x l ih =>
    intro a
    refine Nat.le_trans (ih _) ?_
    have : (fS a x).2.length ≤ a.2.length + 1 := by unfold fS; split <;> simp
    simp only [List.length_cons]; omega
theorem fS_spec (l : List Int) : ∀ a : List Int × List Int, l.Nodup → (∀ y ∈ l, 0 ≤ y ∧ y < a.1.length) →
    (l.foldl fS a).2 = a.2 ++ l.filter (fun x => decide (a.1.getD x.toNat 0 = 0)) ∧
    ∀ n : Nat, n < a.1.length → (l.foldl fS a).1.getD n 0 = if (n : Int) ∈ l ∧ a.1.getD n 0 = 0 then 4 else a.1.getD n 0 := by
  induction l with
  | nil => intro a _ _; exact ⟨by simp, fun n _ => by simp⟩
  | cons x l ih =>
    intro a hn hr
    obtain ⟨hx, hn⟩ := List.nodup_cons.1 hn
    obtain ⟨x0, x1⟩ := hr x (List.mem_cons_self ..)
    have hx' : ((x.toNat : Nat) : Int) = x := by omega
    obtain ⟨i1, i2⟩ := ih (fS a x) hn (fun y hy => by rw [fS_len]; exact hr y (List.mem_cons_of_mem _ hy))
    rw [List.foldl_cons]
    by_cases h0 : a.1.getD x.toNat 0 = 0
    · have e : fS a x = (a.1.set x.toNat 4, a.2 ++ [x]) := by unfold fS; rw [if_pos h0]
      rw [e] at i1 i2 ⊢
      have hg : ∀ m, (a.1.set x.toNat 4).getD m 0 = if m = x.toNat then 4 else a.1.getD m 0 := fun m => set_getD (by omega)
      refine ⟨?_, fun n hn => ?_⟩
      · rw [i1, List.filter_cons_of_pos (by simpa using h0), List.append_assoc]
        congr 1
        show x :: _ = x :: _
        congr 1
        apply List.filter_congr
        intro y hy
        obtain ⟨y0, y1⟩ := hr y (List.mem_cons_of_mem _ hy)
        rw [hg, if_neg]
        intro e
        have : y = x := by omega
        subst this
        exact hx hy
      · rw [i2 n (by simpa using hn), hg]
        by_cases hnx : n = x.toNat
        · subst hnx
          rw [if_pos rfl, hx', if_neg (fun h => hx h.1), if_pos ⟨List.mem_cons_self .., h0⟩]
        · have hne : (n : Int) ≠ x := by omega
          rw [if_neg hnx]
          simp only [List.mem_cons, hne, false_or]
    · have e : fS a x = a := by unfold fS; rw [if_neg h0]
      rw [e] at i1 i2 ⊢
      refine ⟨by rw [i1, List.filter_cons_of_neg (by simpa using h0)], fun n hn => ?_⟩
      rw [i2 n hn]
      by_cases hnx : n = x.toNat
      · subst hnx
        rw [if_neg (fun h => h0 h.2), if_neg (fun h => h0 h.2)]
      · have hne : (n : Int) ≠ x := by omega
        simp only [List.mem_cons, hne, false_or]

theorem sorted_nodup {l : List Int} (h : Sorted l) : l.Nodup := h.imp fun {a b} (h : a < b) => by omega

section
variable {s : St} (h : Inv s)
include h
theorem Inv.fail_eq {x : Int} (he : (stopS s x).1 = 0) {l : List Int} (hl : Sorted l) (hm : ∀ y, y ∈ l ↔ 0 ≤ y ∧ y < s.needs.length ∧ Dep s.needs x y) :
    failR ((rst s).set x.toNat 3) l = (rst (failS s x).2.1, (failS s x).2.2) := by
  obtain ⟨x0, x1, hx, _⟩ := stop_spec he
  obtain ⟨e, e2⟩ := fail_spec he
  have hi := h.fail x
  rw [e] at hi ⊢
  have hx' : ((x.toNat : Nat) : Int) = x := by omega
  have hlen : ((rst s).set x.toNat 3).length = s.needs.length := by rw [List.length_set, rst_length]
  obtain ⟨i1, i2⟩ := fS_spec l ((rst s).set x.toNat 3, []) (sorted_nodup hl) (fun y hy => by have := (hm y).1 hy; rw [show (((rst s).set x.toNat 3, ([] : List Int)).1) = (rst s).set x.toNat 3 from rfl, hlen]; exact ⟨this.1, this.2.1⟩)
  have hg : ∀ m, ((rst s).set x.toNat 3).getD m 0 = if m = x.toNat then 3 else (rst s).getD m 0 := fun m => set_getD (by rw [rst_length]; omega)
  have hw : ∀ y : Int, 0 ≤ y → y < s.needs.length → (((rst s).set x.toNat 3).getD y.toNat 0 = 0 ↔ y ∈ s.wt) := by
    intro y y0 y1
    rw [hg]
    by_cases hyx : y.toNat = x.toNat
    · have : y = x := by omega
      subst this
      rw [if_pos rfl]
      exact ⟨fun e => (by cases e), fun hw => absurd hx (h.wt_only hw).1⟩
    · rw [if_neg hyx, h.get y0 y1]
      exact (h.st5 y0 y1).1
  obtain ⟨f1, f2, f3, f4, f5⟩ := skip_mem (failL s x) { s with rn := del x s.rn, fl := ins x s.fl } h.good.swt
  have hnd : (skipS { s with rn := del x s.rn, fl := ins x s.fl } (failL s x)).needs = s.needs := skip_needs _ _
  refine Prod.ext ?_ ?_
  · refine rst_of (by unfold failR; rw [failR_len]; exact hlen.trans (congrArg List.length hnd).symm) fun n hn => ?_
    have hn' : n < s.needs.length := by rw [hnd] at hn; exact hn
    unfold failR
    rw [i2 n (by rw [show (((rst s).set x.toNat 3, ([] : List Int)).1) = (rst s).set x.toNat 3 from rfl, hlen]; exact hn')]
    show (if (n : Int) ∈ l ∧ ((rst s).set x.toNat 3).getD n 0 = 0 then 4 else ((rst s).set x.toNat 3).getD n 0) = _
    have hwn := hw n (by omega) (by omega)
    rw [Int.toNat_natCast] at hwn
    have h5 := hi.st5 (y := (n : Int)) (by omega) (by rw [hnd]; omega)
    by_cases hc : (n : Int) ∈ l ∧ ((rst s).set x.toNat 3).getD n 0 = 0
    · rw [if_pos hc]
      refine (h5.2.2.2.2.2 ?_).symm
      rw [f5]
      exact .inr ((mem_failL h he _).2 ⟨hwn.1 hc.2, ((hm _).1 hc.1).2.2⟩)
    · rw [if_neg hc]
      have hnf : (n : Int) ∉ failL s x := fun hf => by
        have := (mem_failL h he _).1 hf
        exact hc ⟨(hm _).2 ⟨by omega, by omega, this.2⟩, hwn.2 this.1⟩
      rw [hg]
      by_cases hnx : n = x.toNat
      · subst hnx
        rw [if_pos rfl]
        refine (h5.2.2.2.1.2 ?_).symm
        rw [f3, hx']
        exact mem_ins.2 (.inl rfl)
      · rw [if_neg hnx, rst_getD hn']
        have hne : (n : Int) ≠ x := by omega
        have hsk : (skipS { s with rn := del x s.rn, fl := ins x s.fl } (failL s x)).sk.contains (n : Int) = s.sk.contains (n : Int) := by
          rw [Bool.eq_iff_iff, List.contains_iff_mem, List.contains_iff_mem, f5]
          exact ⟨fun h => h.resolve_right hnf, .inl⟩
        unfold stR
        rw [f1, f2, f3, hsk]
        show _ = if (del x s.rn).contains (n : Int) then _ else if s.dn.contains (n : Int) then _ else if (ins x s.fl).contains (n : Int) then _ else _
        rw [has_ins, decide_eq_false hne, Bool.false_or, has_del h.good.srn, decide_eq_true hne, Bool.and_true]
  · unfold failR
    rw [i1]
    show [] ++ l.filter (fun y => decide (((rst s).set x.toNat 3).getD y.toNat 0 = 0)) = failL s x
    rw [List.nil_append]
    refine sorted_ext (List.Pairwise.filter _ hl) (by rw [e2]; exact sorted_del (lostS_sorted _ _ _)) fun y => ?_
    rw [List.mem_filter, mem_failL h he, decide_eq_true_eq]
    constructor
    · rintro ⟨a, b⟩
      obtain ⟨y0, y1, hd⟩ := (hm y).1 a
      exact ⟨(hw y y0 y1).1 b, hd⟩
    · rintro ⟨a, b⟩
      obtain ⟨y0, y1⟩ := h.good.rwt y a
      exact ⟨(hm y).2 ⟨y0, y1, b⟩, (hw y y0 y1).2 a⟩
end

def canS (st : List Int) (x : Int) : List Int := st.set x.toNat 4
theorem canS_snoc (st l : List Int) (k : Nat) (hk : k < l.length) : (l.take (k + 1)).foldl canS st = canS ((l.take k).foldl canS st) (l.getD k 0) := by
  rw [List.take_succ_eq_append_getElem hk, List.foldl_append, List.getD_eq_getElem?_getD, List.getElem?_eq_getElem hk]; rfl
theorem canS_len (l : List Int) : ∀ st : List Int, (l.foldl canS st).length = st.length := by
  induction l with
  | nil => intro a; rfl
  | cons x l ih => intro a; exact (ih _).trans List.length_set
theorem canS_get (l : List Int) : ∀ st : List Int, (∀ y ∈ l, 0 ≤ y ∧ y < st.length) → ∀ n : Nat, (l.foldl canS st).getD n 0 = if (n : Int) ∈ l then 4 else st.getD n 0 := by
  induction l with
  | nil => intro st _ n; simp
  | cons x l ih =>
    intro st hr n
    obtain ⟨x0, x1⟩ := hr x (List.mem_cons_self ..)
    rw [List.foldl_cons, ih _ (fun y hy => by unfold canS; rw [List.length_set]; exact hr y (List.mem_cons_of_mem _ hy))]
    unfold canS
    rw [set_getD (by omega)]
    by_cases hl : (n : Int) ∈ l
    · rw [if_pos hl, if_pos (List.mem_cons_of_mem _ hl)]
    · rw [if_neg hl]
      by_cases hnx : n = x.toNat
      · rw [if_pos hnx, if_pos]
        rw [hnx, show ((x.toNat : Nat) : Int) = x by omega]; exact List.mem_cons_self ..
      · rw [if_neg hnx, if_neg]
        intro hm
        rcases List.mem_cons.1 hm with e | e
        · omega
        · exact hl e
theorem Inv.cancel_eq {s : St} (h : Inv s) : s.wt.foldl canS (rst s) = rst (skipS s s.wt) := by
  have hi := h.cancel
  have hnd : (skipS s s.wt).needs = s.needs := skip_needs _ _
  obtain ⟨f1, f2, f3, f4, f5⟩ := skip_mem s.wt s h.good.swt
  refine rst_of (by rw [canS_len, rst_length, hnd]) fun n hn => ?_
  have hn' : n < s.needs.length := by rw [hnd] at hn; exact hn
  rw [canS_get _ _ (fun y hy => by rw [rst_length]; exact h.good.rwt y hy), rst_getD hn']
  have h5 := hi.st5 (y := (n : Int)) (by omega) (by rw [hnd]; omega)
  by_cases hw : (n : Int) ∈ s.wt
  · rw [if_pos hw]
    exact (h5.2.2.2.2.2 ((f5 _).2 (.inr hw))).symm
  · rw [if_neg hw]
    have hsk : (skipS s s.wt).sk.contains (n : Int) = s.sk.contains (n : Int) := by
      rw [Bool.eq_iff_iff, List.contains_iff_mem, List.contains_iff_mem, f5]
      exact ⟨fun h => h.resolve_right hw, .inl⟩
    unfold stR
    rw [f1, f2, f3, hsk]

theorem rst_new (ns : List (List Int)) (order : List Int) (limit : Int) : rst (stNew ns order limit) = List.replicate ns.length 0 := by
  refine List.ext_getElem (by simp [rst_length, stNew]) fun n h1 h2 => ?_
  simp [rst, stR, stNew]
end Go.Proofs.Ytoaellmjgejgfaa
