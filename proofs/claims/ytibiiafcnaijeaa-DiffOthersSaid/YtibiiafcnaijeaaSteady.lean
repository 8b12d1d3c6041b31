/- A region that draws its order, walked once in the order of the text, where calls change the world.
   One condition C on the world holds all along. An operation is calm if it yields one value in every world that meets C.
   Whatever is no call must be calm (or passed over by its guard); of two calls one must wait for the other. -/
import Derived.OrdersHeld
import Derived.StillTail
import Derived.Below
import Derived.WalkKit
import Derived.KernelRfl
namespace Go.Proofs.Ytibiiafcnaijeaa.Steady
open Go Go.RowKit
set_option linter.unusedVariables false
set_option linter.unusedSimpArgs false

def loudB (o : Oper) : Bool := match o.op with
  | .call c => match c.callee with
    | .builtin .len => false
    | .builtin .cap => false
    | _ => true
  | .buildSlice _ _ _ => true
  | .alloc _ => true
  | .box _ _ => true
  | .store _ _ _ => true
  | _ => false

def NoOut : Exit → Act → World → Prop := fun _ _ _ => False

/-- closes an implication whose premise cannot be -/
theorem nF {G : Prop} (f : G := by first | (intro h; cases h; done) | (intro a h; cases h; done) | (intro a b h; cases h; done) | (intro a b c h; cases h; done)) : G := f

theorem letsOut_no : ¬ LetsOut NoOut := fun ⟨_, _, h⟩ => h

section
variable {P : Program} {ops : Array Oper} {md : Region.Mode} {C : World → Prop} {Q : Act → World → Prop}

def stepS (P : Program) (ops : Array Oper) (C : World → Prop) (o : Oper) (K : Act → World → Prop) (a : Act) (w : World) : Prop :=
  (∃ v, YieldsIf P ops C o v a ∧ K (a.put o.dst v) w) ∨
  (loudB o = true ∧ Region.wanted o (yielded ops a.tmps) = true ∧ o.wp P a w (fun a' w' => C w' ∧ K a' w') NoOut)

theorem stepS_mono {o : Oper} {K K' : Act → World → Prop} {a : Act} {w : World} (hC : C w) (h : ∀ a w, C w → K a w → K' a w) (hh : stepS P ops C o K a w) : stepS P ops C o K' a w := by
  rcases hh with ⟨v, hy, hk⟩ | ⟨hl, hw, hp⟩
  · exact .inl ⟨v, hy, h _ _ hC hk⟩
  · exact .inr ⟨hl, hw, Oper.wp_mono (fun a w ⟨h1, h2⟩ => ⟨h1, h _ _ h1 h2⟩) hp⟩

theorem yieldsIf_same {o : Oper} {v v' : Value} {a : Act} {w : World} (hC : C w) (h : YieldsIf P ops C o v a) (h' : YieldsIf P ops C o v' a) : v = v' := by
  rcases h with ⟨hw, hv⟩ | ⟨hw, rfl⟩ <;> rcases h' with ⟨hw', hv'⟩ | ⟨hw', rfl⟩
  · have e := (hv w hC).symm.trans (hv' w hC)
    injection e with e1 e2
    injection e1
  · rw [hw] at hw'; cases hw'
  · rw [hw] at hw'; cases hw'
  · rfl

/-- y, loud, ahead of x, calm. -/
theorem loud_put {x y : Oper} {v : Value} {K : Act → World → Prop} {a : Act} {w : World} (hap : x.apart ops y = true)
    (hsx : ∀ cs b, x.op ≠ .select cs b) (hsy : ∀ cs b, y.op ≠ .select cs b)
    (hy : YieldsIf P ops C x v a) (h : y.wp P (a.put x.dst v) w K NoOut) :
    y.wp P a w (fun a' w' => YieldsIf P ops C x v a' ∧ K (a'.put x.dst v) w') NoOut := by
  obtain ⟨h1, h2, h3⟩ := Oper.apart_spec hap
  have keep : ∀ (a : Act), YieldsIf P ops C x v a → ∀ u, YieldsIf P ops C x v (a.put y.dst u) := fun a hy u =>
    hy.of_same (execOp_put x hsx a y.dst u h3) (wanted_put x a y.dst u h3)
  have keepD : ∀ d, YieldsIf P ops C x v { a with defers := d :: a.defers } := fun d => hy.of_same rfl rfl
  unfold Oper.wp at *
  rw [execOp_put y hsy a x.dst v h1] at h
  generalize (execOp a.eval y).run P w = r at *
  cases r with
  | ok n w' =>
    cases n <;> simp only [Oper.upon] at h ⊢
    case value u => exact ⟨keep a hy u, by rw [← Act.put_comm a v u h2]; exact h⟩
    case skip => exact ⟨keep a hy _, by rw [← Act.put_comm a v undef h2]; exact h⟩
    case defer d =>
      refine ⟨keep _ (keepD d) _, ?_⟩
      rw [← Act.put_comm _ v undef h2, ← Act.put_defers]
      exact h
    case enter f args =>
      refine Calls.mono h fun e w'' he => ?_
      cases e with
      | returned u => exact ⟨keep a hy u, by rw [← Act.put_comm a v u h2]; exact he⟩
      | panicked c => exact he
      | outgrown => exact he
    case row row args => exact Rows.mono h fun u w'' he => ⟨keep a hy u, by rw [← Act.put_comm a v u h2]; exact he⟩
  | halt x w' =>
    cases x <;> simp only [Oper.upon] at h ⊢
    case panic u => exact h

/-- A loud operation's outcomes: each differs from 'a' only in x's own slot (and in what is deferred); there is one. -/
theorem loud_out {x y : Oper} {K : Act → World → Prop} {a : Act} {w : World} {p : Prop} (hap : x.apart ops y = true)
    (hsx : ∀ cs b, x.op ≠ .select cs b) (hsy : ∀ cs b, y.op ≠ .select cs b) (hLO : LetsOut NoOut → p)
    (h : x.wp P a w K NoOut) (hp : ∀ a' w', K a' w' → (∀ v, YieldsIf P ops C y v a' → YieldsIf P ops C y v a) → p) : p := by
  obtain ⟨h1, h2, h3⟩ := Oper.apart_spec hap
  have keep : ∀ u v, YieldsIf P ops C y v (a.put x.dst u) → YieldsIf P ops C y v a := fun u v hy =>
    hy.of_same (execOp_put y hsy a x.dst u h1).symm (wanted_put y a x.dst u h1).symm
  have keepF : ∀ d v, YieldsIf P ops C y v (({ a with defers := d :: a.defers } : Act).put x.dst undef) → YieldsIf P ops C y v { a with defers := d :: a.defers } := fun d v hy =>
    hy.of_same (execOp_put y hsy _ x.dst undef h1).symm (wanted_put y _ x.dst undef h1).symm
  unfold Oper.wp at *
  generalize (execOp a.eval x).run P w = r at *
  cases r with
  | ok n w' =>
    cases n <;> simp only [Oper.upon] at h
    case value u => exact hp _ _ h (keep u)
    case skip => exact hp _ _ h (keep _)
    case defer d =>
      exact hp _ _ h fun v hy => (keepF d v hy).of_same rfl rfl
    case enter f args =>
      obtain ⟨e, w2, fr, hr, _⟩ := h []
      cases e with
      | returned u => exact hp _ _ hr (keep u)
      | panicked c => exact hr.elim
      | outgrown => exact hLO hr
    case row row args =>
      obtain ⟨v, w2, hr, _⟩ := h (Frame.enter P 0 #[] .normal) []
      exact hp _ _ hr (keep v)
  | halt x w' =>
    cases x <;> simp only [Oper.upon] at h
    case panic u => exact h.elim

/-- x calm, ahead of which y, loud, was carried out. -/
theorem loud_past {x y : Oper} {v : Value} {K : Act → World → Prop} {a : Act} {w : World} (hap : x.apart ops y = true)
    (hsx : ∀ cs b, x.op ≠ .select cs b) (hsy : ∀ cs b, y.op ≠ .select cs b)
    (hy : YieldsIf P ops C y v a) (h : x.wp P a w (fun a' w' => ∃ v', YieldsIf P ops C y v' a' ∧ C w' ∧ K (a'.put y.dst v') w') NoOut) :
    x.wp P (a.put y.dst v) w (fun a' w' => C w' ∧ K a' w') NoOut := by
  obtain ⟨h1, h2, h3⟩ := Oper.apart_spec hap
  have keep : ∀ (a : Act), YieldsIf P ops C y v a → ∀ u, YieldsIf P ops C y v (a.put x.dst u) := fun a hy u =>
    hy.of_same (execOp_put y hsy a x.dst u h1) (wanted_put y a x.dst u h1)
  have keepD : ∀ d, YieldsIf P ops C y v { a with defers := d :: a.defers } := fun d => hy.of_same rfl rfl
  unfold Oper.wp at *
  rw [execOp_put x hsx a y.dst v h3]
  generalize (execOp a.eval x).run P w = r at *
  have fin : ∀ u w', (∃ v', YieldsIf P ops C y v' (a.put x.dst u) ∧ C w' ∧ K ((a.put x.dst u).put y.dst v') w') → C w' ∧ K ((a.put y.dst v).put x.dst u) w' := by
    rintro u w' ⟨v', hy', hc, hk⟩
    have e := yieldsIf_same hc hy' (keep a hy u)
    subst e
    exact ⟨hc, by rw [← Act.put_comm a u v' h2]; exact hk⟩
  cases r with
  | ok n w' =>
    cases n <;> simp only [Oper.upon] at h ⊢
    case value u => exact fin u _ h
    case skip => exact fin undef _ h
    case defer d =>
      obtain ⟨v', hy', hc, hk⟩ := h
      have e := yieldsIf_same hc hy' (keep _ (keepD d) undef)
      subst e
      refine ⟨hc, ?_⟩
      rw [Act.put_defers, ← Act.put_comm _ undef v' h2]
      exact hk
    case enter f args =>
      refine Calls.mono h fun e w'' he => ?_
      cases e with
      | returned u => exact fin u _ he
      | panicked c => exact he
      | outgrown => exact he
    case row row args => exact Rows.mono h fun u w'' he => fin u _ he
  | halt x w' =>
    cases x <;> simp only [Oper.upon] at h ⊢
    case panic u => exact h

theorem stepS_swap {x y : Oper} {K : Act → World → Prop} {a : Act} {w : World} (hap : x.apart ops y = true) (hnl : (loudB x && loudB y) = false)
    (hsx : ∀ cs b, x.op ≠ .select cs b) (hsy : ∀ cs b, y.op ≠ .select cs b) (hC : C w)
    (h : stepS P ops C x (stepS P ops C y K) a w) : stepS P ops C y (stepS P ops C x K) a w := by
  obtain ⟨h1, h2, h3⟩ := Oper.apart_spec hap
  rcases h with ⟨vx, hx, hk⟩ | ⟨hlx, hwx, hpx⟩
  · rcases hk with ⟨vy, hy, hk⟩ | ⟨hly, hwy, hpy⟩
    · have hy' : YieldsIf P ops C y vy a := hy.of_same (execOp_put y hsy a x.dst vx h1).symm (wanted_put y a x.dst vx h1).symm
      refine .inl ⟨vy, hy', .inl ⟨vx, hx.of_same (execOp_put x hsx a y.dst vy h3) (wanted_put x a y.dst vy h3), ?_⟩⟩
      rw [← Act.put_comm a vx vy h2]; exact hk
    · refine .inr ⟨hly, by rw [← wanted_put y a x.dst vx h1]; exact hwy, ?_⟩
      refine Oper.wp_mono (fun a' w' hh => ?_) (loud_put hap hsx hsy hx hpy)
      exact ⟨hh.2.1, .inl ⟨vx, hh.1, hh.2.2⟩⟩
  · rw [hlx, Bool.true_and] at hnl
    have hyform : x.wp P a w (fun a' w' => ∃ v', YieldsIf P ops C y v' a' ∧ C w' ∧ K (a'.put y.dst v') w') NoOut := by
      refine Oper.wp_mono (fun a' w' hh => ?_) hpx
      obtain ⟨hc, hh⟩ := hh
      rcases hh with ⟨v, hv, hk⟩ | ⟨hl, _⟩
      · exact ⟨v, hv, hc, hk⟩
      · rw [hnl] at hl; cases hl
    obtain ⟨v, hv⟩ : ∃ v, YieldsIf P ops C y v a :=
      loud_out (C := C) hap hsx hsy (fun hl => (letsOut_no hl).elim) hyform fun a' w' ⟨v', hv', _⟩ hb => ⟨v', hb v' hv'⟩
    exact .inl ⟨v, hv, .inr ⟨hlx, by rw [wanted_put x a y.dst v h3]; exact hwx, loud_past hap hsx hsy hv hyform⟩⟩

/-! ### The order's own laws -/
def stepAt (P : Program) (ops : Array Oper) (C : World → Prop) (i : Nat) (K : Act → World → Prop) (a : Act) (w : World) : Prop :=
  match ops[i]? with
  | none => K a w
  | some o => stepS P ops C o K a w

theorem stepAt_mono {i : Nat} {K K' : Act → World → Prop} {a : Act} {w : World} (hC : C w) (h : ∀ a w, C w → K a w → K' a w) (hh : stepAt P ops C i K a w) : stepAt P ops C i K' a w := by
  unfold stepAt at *
  split
  · rename_i ho; simp only [ho] at hh; exact h _ _ hC hh
  · rename_i o ho; simp only [ho] at hh; exact stepS_mono hC h hh

/-- i and j may change places. -/
def indepB (ops : Array Oper) (i j : Nat) : Bool :=
  match ops[i]?, ops[j]? with
  | some x, some y => x.apart ops y && !(loudB x && loudB y)
  | _, _ => true

theorem stepAt_swap {i j : Nat} {K : Act → World → Prop} {a : Act} {w : World} (hs : Region.noSelect ops = true) (hi : indepB ops i j = true) (hC : C w)
    (h : stepAt P ops C i (stepAt P ops C j K) a w) : stepAt P ops C j (stepAt P ops C i K) a w := by
  have hsel := Region.noSelect_spec hs
  unfold indepB at hi
  unfold stepAt at *
  cases hx : ops[i]? with
  | none =>
    rw [hx] at h
    cases hy : ops[j]? with
    | none => rw [hy] at h; exact h
    | some y => rw [hy] at h; exact h
  | some x =>
    rw [hx] at h
    cases hy : ops[j]? with
    | none => rw [hy] at h; exact h
    | some y =>
      rw [hy] at h
      rw [hx, hy] at hi
      simp only [Bool.and_eq_true, Bool.not_eq_true'] at hi
      exact stepS_swap hi.1 hi.2 (fun cs b => hsel i x cs b hx) (fun cs b => hsel j y cs b hy) hC h

def walkS (P : Program) (ops : Array Oper) (C : World → Prop) (Q : Act → World → Prop) : List Nat → Act → World → Prop
  | [], a, w => Q a w
  | i :: l, a, w => stepAt P ops C i (walkS P ops C Q l) a w

theorem walkS_bubble (hs : Region.noSelect ops = true) {j : Nat} : ∀ (l₁ l₂ : List Nat) (a : Act) (w : World), (∀ q ∈ l₁, indepB ops q j = true) → C w →
    walkS P ops C Q (l₁ ++ j :: l₂) a w → stepAt P ops C j (walkS P ops C Q (l₁ ++ l₂)) a w
  | [], _, _, _, _, _, h => h
  | q :: l₁, l₂, a, w, hq, hC, h =>
    stepAt_swap hs (hq q (List.mem_cons_self ..)) hC (stepAt_mono hC (fun a w hC h => walkS_bubble hs l₁ l₂ a w (fun q hq' => hq q (List.mem_cons_of_mem _ hq')) hC h) h)

/-- Those of the list that wait for q, themselves or by way of others. -/
def waitsB (md : Region.Mode) (ops : Array Oper) (q : Nat) (acc : List Nat) (j : Nat) : Bool :=
  match ops[j]? with
  | some o => o.after.any fun e => Region.binds md e && (e.on == q || acc.contains e.on)
  | none => false
def waiters (md : Region.Mode) (ops : Array Oper) (q : Nat) : List Nat → List Nat → List Nat
  | [], acc => acc
  | j :: js, acc => waiters md ops q js (cond (waitsB md ops q acc j) (j :: acc) acc)

/-- The order of the text stands for every order. -/
def steadyB (md : Region.Mode) (ops : Array Oper) : Bool :=
  Region.noSelect ops && (List.range ops.size).all fun j =>
    (match ops[j]? with | some o => o.after.all fun e => !Region.binds md e || decide (e.on < j) | none => true) &&
    (fun ws : List Nat => (List.range ops.size).all fun i => !decide (j < i) || indepB ops j i || ws.contains i) (waiters md ops j (List.range ops.size) [])

def ClosedL (md : Region.Mode) (ops : Array Oper) (listed : Array Bool) : Prop :=
  ∀ j oj, ops[j]? = some oj → listed.getD j false = true → ∀ e ∈ oj.after, Region.binds md e = true → listed.getD e.on false = true

/-- q is listed once all that j waits for is. -/
def WaitsP (md : Region.Mode) (ops : Array Oper) (q j : Nat) : Prop :=
  ∀ listed : Array Bool, ClosedL md ops listed → (∀ oj, ops[j]? = some oj → ∀ e ∈ oj.after, Region.binds md e = true → listed.getD e.on false = true) → listed.getD q false = true

theorem waiters_spec {q : Nat} : ∀ (js acc : List Nat), (∀ j ∈ acc, WaitsP md ops q j) → ∀ j ∈ waiters md ops q js acc, WaitsP md ops q j
  | [], _, h => h
  | j :: js, acc, h => by
    refine waiters_spec js _ ?_
    cases hb : waitsB md ops q acc j with
    | true =>
      intro k hk
      unfold waitsB at hb
      rcases List.mem_cons.1 hk with rfl | hk
      · cases ho : ops[k]? with
        | none => rw [ho] at hb; cases hb
        | some o =>
          rw [ho] at hb
          obtain ⟨e, he, hb⟩ := Array.any_eq_true'.1 hb
          simp only [Bool.and_eq_true, Bool.or_eq_true, beq_iff_eq, List.contains_iff_mem] at hb
          obtain ⟨hbi, hb⟩ := hb
          intro listed hc hall
          have hl := hall o ho e he hbi
          rcases hb with rfl | hb
          · exact hl
          · exact h e.on hb listed hc (fun oj hj => hc e.on oj hj hl)
      · exact h k hk
    | false => exact h

structure InvS (md : Region.Mode) (ops : Array Oper) (n : Nat) (listed : Array Bool) (l : List Nat) : Prop where
  sorted : l.Pairwise (· < ·)
  mem : ∀ j, j ∈ l ↔ j < n ∧ listed.getD j true = false
  head : HeadInv md ops n listed

theorem wpAny_of_walkS {T : Nat} (hT : T ≤ ops.size) (hsink : T < ops.size → Region.sinkB md ops T = true ∧ Region.chainB md ops T = true) (hB : steadyB md ops = true) {Q' : Exit → Act → World → Prop} {g : Nat}
    (hQ : ∀ listed a w, HeadInv md ops T listed → (∀ j, j < T → listed.getD j true = true) → Q a w → wpAny P md ops Q' g listed a w) : ∀ (n : Nat) (l : List Nat) (listed : Array Bool) (a : Act) (w : World), l.length = n →
    InvS md ops T listed l → C w → walkS P ops C Q l a w → wpAny P md ops Q' (n + g) listed a w
  | 0, l, listed, a, w, hn, inv, hC, h => by
    have hl : l = [] := List.eq_nil_of_length_eq_zero hn
    subst hl
    rw [Nat.zero_add]
    refine hQ listed a w inv.head (fun j hj => ?_) h
    cases hv : listed.getD j true with
    | true => rfl
    | false => have := (inv.mem j).2 ⟨hj, hv⟩; cases this
  | n + 1, l, listed, a, w, hn, inv, hC, h => by
    rw [show n + 1 + g = (n + g) + 1 by omega]
    have hB' := hB
    unfold steadyB at hB'
    rw [Bool.and_eq_true] at hB'
    obtain ⟨hs, hall⟩ := hB'
    have front : ∀ i, i ∈ Region.ready md ops listed → i < T := by
      intro i hi
      rcases Nat.lt_or_ge i T with h1 | h1
      · exact h1
      · exfalso
        have hlt : i < ops.size := by obtain ⟨_, o, ho, _⟩ := mem_ready.1 hi; exact (Array.getElem?_eq_some_iff.1 ho).1
        obtain ⟨s1, s2⟩ := hsink (by omega)
        cases l with
        | nil => cases hn
        | cons q l =>
          obtain ⟨hq, hun⟩ := (inv.mem q).1 (List.mem_cons_self ..)
          exact tail_waits s1 s2 (by omega) inv.head _ q rfl hq hun i h1 hi
    constructor
    · intro h0
      exfalso
      cases l with
      | nil => cases hn
      | cons i l =>
        obtain ⟨hiT, hun⟩ := (inv.mem i).1 (List.mem_cons_self ..)
        have hi : i < ops.size := by omega
        have h1 := List.all_eq_true.1 hall i (List.mem_range.2 hi)
        rw [Bool.and_eq_true] at h1
        have hr : i ∈ Region.ready md ops listed := by
          refine mem_ready.2 ⟨hun, ops[i], Array.getElem?_eq_getElem hi, fun e he hb => ?_⟩
          have h2 := h1.1
          rw [Array.getElem?_eq_getElem hi] at h2
          have h3 := Array.all_eq_true_iff_forall_mem.1 h2 e he
          rw [hb] at h3
          simp only [Bool.not_true, Bool.false_or, decide_eq_true_eq] at h3
          cases hle : listed.getD e.on false with
          | true => rfl
          | false =>
            have hm : e.on ∈ i :: l := (inv.mem e.on).2 ⟨by omega, getD_in (by rw [inv.head.size]; omega) hle⟩
            rcases List.mem_cons.1 hm with h4 | h4
            · omega
            · have := List.rel_of_pairwise_cons inv.sorted h4
              omega
        rw [h0] at hr
        cases hr
    · intro i hi
      have hiT := front i hi
      obtain ⟨hun, oi, hoi, hwait⟩ := mem_ready.1 hi
      have hilt : i < ops.size := (Array.getElem?_eq_some_iff.1 hoi).1
      have him : i ∈ l := (inv.mem i).2 ⟨hiT, hun⟩
      obtain ⟨l₁, l₂, rfl⟩ := List.append_of_mem him
      have hlt : ∀ q ∈ l₁, q < i := fun q hq => (List.pairwise_append.1 inv.sorted).2.2 q hq i (List.mem_cons_self ..)
      have hgt : ∀ q ∈ l₂, i < q := fun q hq => List.rel_of_pairwise_cons (List.pairwise_append.1 inv.sorted).2.1 hq
      have hind : ∀ q ∈ l₁, indepB ops q i = true := by
        intro q hq
        have h1 := List.all_eq_true.1 hall q (List.mem_range.2 (Nat.lt_trans (hlt q hq) hilt))
        rw [Bool.and_eq_true] at h1
        have h2 := List.all_eq_true.1 h1.2 i (List.mem_range.2 hilt)
        rcases Bool.or_eq_true _ _ ▸ h2 with h2 | h2
        · rcases Bool.or_eq_true _ _ ▸ h2 with h2 | h2
          · simp [hlt q hq] at h2
          · exact h2
        · exfalso
          have h3 := waiters_spec (md := md) (ops := ops) (q := q) _ [] (fun _ h => by cases h) i (List.contains_iff_mem.1 h2) listed inv.head.closed (fun oj hj => by
            have : oj = oi := Option.some.inj (hj.symm.trans hoi)
            subst this
            exact hwait)
          have h4 := ((inv.mem q).1 (List.mem_append_left _ hq)).2
          rw [getD_both h4] at h3
          cases h3
      have hb := walkS_bubble hs l₁ l₂ a w hind hC h
      have inv' : InvS md ops T (listed.setIfInBounds i true) (l₁ ++ l₂) := by
        refine ⟨inv.sorted.sublist (List.Sublist.append_left (List.sublist_cons_self ..) _), fun j => ?_, inv.head.set hi hiT⟩
        constructor
        · intro hj
          have hne : i ≠ j := by
            intro e
            subst e
            rcases List.mem_append.1 hj with h5 | h5
            · exact Nat.lt_irrefl _ (hlt _ h5)
            · exact Nat.lt_irrefl _ (hgt _ h5)
          have := (inv.mem j).1 (List.mem_append.2 ((List.mem_append.1 hj).imp id (List.mem_cons_of_mem _)))
          exact ⟨this.1, by rw [getD_set_ne true hne]; exact this.2⟩
        · rintro ⟨hj, hl⟩
          have hne : i ≠ j := by
            intro e
            subst e
            rw [show (listed.setIfInBounds i true).getD i true = true by simp [Array.getD, inv.head.size, hilt]] at hl
            cases hl
          rw [getD_set_ne true hne] at hl
          have := (inv.mem j).2 ⟨hj, hl⟩
          rcases List.mem_append.1 this with h5 | h5
          · exact List.mem_append_left _ h5
          · rcases List.mem_cons.1 h5 with h6 | h6
            · exact absurd h6.symm hne
            · exact List.mem_append_right _ h6
      have ih := fun a' w' hC' h' => wpAny_of_walkS hT hsink hB hQ n (l₁ ++ l₂) (listed.setIfInBounds i true) a' w' (by simp at hn ⊢; omega) inv' hC' h'
      unfold stepAt at hb
      simp only [hoi] at hb
      unfold wpOp
      simp only [hoi]
      rcases hb with ⟨v, hy, hk⟩ | ⟨_, hw, hp⟩
      · have := hy.wpOp (Q := Q') hoi hC (K := wpAny P md ops Q' (n + g) (listed.setIfInBounds i true)) (ih _ _ hC hk)
        unfold wpOp at this
        simp only [hoi] at this
        exact this
      · rw [if_pos hw]
        refine .inl ?_
        have := Oper.wp_mono (fun a w ⟨hC, hk⟩ => ih a w hC hk) hp
        unfold Oper.wp at *
        generalize (execOp a.eval oi).run P w = r at *
        cases r with
        | ok m w' =>
          cases m <;> simp only [Oper.upon] at this ⊢ <;>
            first
              | exact this
              | (refine Calls.mono this fun e w'' he => ?_
                 cases e with
                 | returned u => exact he
                 | panicked c => exact he.elim
                 | outgrown => exact (letsOut_no he).elim)
        | halt x w' =>
          cases x <;> simp only [Oper.upon] at this ⊢
          case panic u => exact this.elim

/-! ### The walk -/
def wpSteady (P : Program) (ops : Array Oper) (C : World → Prop) (Q : Act → World → Prop) : List Oper → Act → World → Prop
  | [], a, w => Q a w
  | o :: rest, a, w => stepS P ops C o (wpSteady P ops C Q rest) a w

theorem walkS_of_steady : ∀ (l : List Oper) (k : Nat) (a : Act) (w : World), (∀ j, j < l.length → l[j]? = ops[k + j]?) → C w → wpSteady P ops C Q l a w → walkS P ops C Q (List.range' k l.length) a w
  | [], _, _, _, _, _, h => h
  | o :: l, k, a, w, hl, hC, h => by
    have h0 : ops[k]? = some o := by simpa using (hl 0 (by simp)).symm
    show stepAt P ops C k (walkS P ops C Q (List.range' (k + 1) l.length)) a w
    unfold stepAt
    simp only [h0]
    exact stepS_mono hC (fun a w hC h => walkS_of_steady l (k + 1) a w (fun j hj => by have := hl (j + 1) (by simp; omega); simpa [Nat.add_assoc, Nat.add_comm 1 j] using this) hC h) h

/-- Which operations are done when the head is. -/
def headDone (T n : Nat) : Array Bool := ((List.range n).map fun j => decide (j < T)).toArray

theorem headDone_eq {T : Nat} {listed : Array Bool} (inv : HeadInv md ops T listed) (h : ∀ j, j < T → listed.getD j true = true) : listed = headDone T ops.size := by
  refine Array.ext (by simp [headDone, inv.size]) fun j h1 h2 => ?_
  have hj : j < ops.size := by rw [← inv.size]; exact h1
  simp only [headDone, List.getElem_toArray, List.getElem_map, List.getElem_range]
  rcases Nat.lt_or_ge j T with hT | hT
  · have := h j hT
    simp [h1] at this
    rw [this, decide_eq_true hT]
  · have := inv.tail j hT hj
    simp [h1] at this
    rw [this, decide_eq_false (by omega)]

/-- The checks: all operations may be walked in the order of the text; those from T on come last, in this order. -/
def steadyTailB (md : Region.Mode) (ops : Array Oper) (T : Nat) : Bool :=
  steadyB md ops && decide (T ≤ ops.size) && Region.seqB md ops (ops.size - T) T (headDone T ops.size) && (decide (T = ops.size) || (Region.sinkB md ops T && Region.chainB md ops T))

theorem wp_region_steady_tail {id : Nat} {Q : Exit → Act → World → Prop} {a : Act} {w : World} {l : List Oper} (T : Nat) (C : World → Prop) (hm : P.follows .mixedOrders = true) (hB : steadyTailB .any l.toArray T = true)
    (hC : C w.drew) (h : wpSteady P l.toArray C (wpList P l.toArray Q (l.drop T)) (l.take T) a w.drew) : (Code.region id l.toArray true).wp P Q a w := by
  simp only [steadyTailB, Bool.and_eq_true, Bool.or_eq_true, decide_eq_true_eq] at hB
  obtain ⟨⟨⟨hB, hT⟩, hseq⟩, hsink⟩ := hB
  refine wp_region_any hm ?_
  have hT' : T ≤ l.length := by simpa using hT
  have htl : (l.take T).length = T := by simp; omega
  have hw := walkS_of_steady (ops := l.toArray) (l.take T) 0 a w.drew (fun j hj => by
    have hj' : j < T := by rw [htl] at hj; exact hj
    simp [hj']) hC h
  rw [htl] at hw
  have hg : T + (l.toArray.size - T) = l.toArray.size := by omega
  have := wpAny_of_walkS (md := .any) (T := T) (g := l.toArray.size - T) (Q' := Q) hT (fun hlt => by rcases hsink with h | h; omega; exact h) hB (fun listed a w inv hall hq => by
    rw [headDone_eq inv hall]
    have hdl : (l.drop T).length = l.toArray.size - T := by simp
    rw [← hdl]
    refine wpAny_of_seq (l.drop T) T _ a w (fun j => by simp) (by rw [hdl]; exact hseq) hq) T (List.range' 0 T) (Array.replicate l.toArray.size false) a w.drew (by simp) ⟨List.pairwise_lt_range', ?_, ?_⟩ hC hw
  · rw [hg] at this
    exact this
  · intro j
    by_cases hj : j < T
    · have : j < l.length := by omega
      simp [List.mem_range', hj, this]
    · simp [List.mem_range', hj]
  · exact ⟨by simp, fun j oj _ hl => (by rw [getD_replicate_false] at hl; cases hl), fun t _ ht => getD_in (by simpa using ht) (getD_replicate_false _ _)⟩

theorem wp_region_steady {id : Nat} {Q : Exit → Act → World → Prop} {a : Act} {w : World} {l : List Oper} (C : World → Prop) (hm : P.follows .mixedOrders = true) (hB : steadyTailB .any l.toArray l.length = true)
    (hC : C w.drew) (h : wpSteady P l.toArray C (Q .normal) l a w.drew) : (Code.region id l.toArray true).wp P Q a w := by
  refine wp_region_steady_tail l.length C hm hB hC ?_
  rw [List.take_length, List.drop_length]
  exact h

theorem wpSteady_calm {o : Oper} {rest : List Oper} {a : Act} {w : World} {v : Value} (hw : Region.wanted o (yielded ops a.tmps) = true)
    (hy : ∀ w, C w → (execOp a.eval o).run P w = .ok (.value v) w) (h : wpSteady P ops C Q rest (a.put o.dst v) w) : wpSteady P ops C Q (o :: rest) a w :=
  .inl ⟨v, .inl ⟨hw, hy⟩, h⟩
theorem wpSteady_skip {o : Oper} {rest : List Oper} {a : Act} {w : World} (hw : Region.wanted o (yielded ops a.tmps) = false)
    (h : wpSteady P ops C Q rest (a.put o.dst undef) w) : wpSteady P ops C Q (o :: rest) a w :=
  .inl ⟨undef, .inr ⟨hw, rfl⟩, h⟩
theorem wpSteady_loud {o : Oper} {rest : List Oper} {a : Act} {w : World} (hl : loudB o = true) (hw : Region.wanted o (yielded ops a.tmps) = true)
    (h : ∀ K : Act → World → Prop, Hid (∀ a w, C w → wpSteady P ops C Q rest a w → K a w) → o.wp P a w K NoOut) : wpSteady P ops C Q (o :: rest) a w :=
  .inr ⟨hl, hw, h _ (show Hid _ from fun _ _ h1 h2 => ⟨h1, h2⟩)⟩
theorem wpSteady_nil {a : Act} {w : World} (h : Q a w) : wpSteady P ops C Q [] a w := h
end
end Go.Proofs.Ytibiiafcnaijeaa.Steady
