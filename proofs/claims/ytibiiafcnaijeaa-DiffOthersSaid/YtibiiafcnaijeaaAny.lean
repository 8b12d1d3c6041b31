/- A region that draws its order, walked operation by operation under an invariant J that knows which operations are done. -/
import Derived.Test.YtibiiafcnaijeaaSteady
namespace Go.Proofs.Ytibiiafcnaijeaa.Steady
open Go Go.RowKit
set_option linter.unusedVariables false
set_option linter.unusedSimpArgs false
section
variable {P : Program} {ops : Array Oper} {md : Region.Mode} {Q : Exit → Act → World → Prop}

def stepQ (P : Program) (ops : Array Oper) (o : Oper) (a : Act) (w : World) (K : Act → World → Prop) : Prop :=
  Region.wanted o (yielded ops a.tmps) = true ∧ o.wp P a w K NoOut

/-- The operation's outcome under what the invariant says. -/
def StepOk (P : Program) (ops : Array Oper) (md : Region.Mode) (J : (Nat → Bool) → Act → World → Prop) (i : Nat) (o : Oper) : Prop :=
  ∀ (D : Nat → Bool) (a : Act) (w : World), J D a w → D i = false → (o.after.all fun e => !Region.binds md e || D e.on) = true → stepQ P ops o a w (J (fun k => k == i || D k))

def forOps (F : Nat → Oper → Prop) : Nat → List Oper → Prop
  | _, [] => True
  | k, o :: l => F k o ∧ forOps F (k + 1) l
theorem forOps_at {F : Nat → Oper → Prop} : ∀ {l : List Oper} {k i : Nat} {o : Oper}, forOps F k l → l[i]? = some o → F (k + i) o
  | [], _, _, _, _, h => by simp at h
  | x :: l, k, 0, o, hf, h => by
    have e : x = o := by simpa using h
    exact e ▸ hf.1
  | x :: l, k, i + 1, o, hf, h => by
    have := forOps_at (k := k + 1) (i := i) hf.2 (by simpa using h)
    rw [show k + (i + 1) = k + 1 + i by omega]
    exact this
/-- An operation that this one waits for is done. -/
theorem dep {o : Oper} {D : Nat → Bool} (h : (o.after.all fun e => !Region.binds md e || D e.on) = true) (k : Nat) (hk : (o.after.any fun e => Region.binds md e && e.on == k) = true) : D k = true := by
  rw [Array.all_eq_true_iff_forall_mem] at h
  obtain ⟨e, he, hb⟩ := Array.any_eq_true'.1 hk
  rw [Bool.and_eq_true, beq_iff_eq] at hb
  have := h e he
  rw [hb.1, Bool.not_true, Bool.false_or, hb.2] at this
  exact this

theorem wpAny_inv {J : (Nat → Bool) → Act → World → Prop} (hback : ∀ (j : Nat) (oj : Oper), ops[j]? = some oj → ∀ e ∈ oj.after, Region.binds md e = true → e.on < j)
    (hstep : ∀ (i : Nat) (o : Oper), ops[i]? = some o → StepOk P ops md J i o) (hend : ∀ (D : Nat → Bool) (a : Act) (w : World), (∀ j, j < ops.size → D j = true) → J D a w → Q .normal a w) :
    ∀ (n : Nat) (l : List Nat) (listed : Array Bool) (a : Act) (w : World), l.length = n → l.Nodup → (∀ j, j ∈ l ↔ j < ops.size ∧ listed.getD j true = false) → listed.size = ops.size →
      J (fun k => listed.getD k false) a w → wpAny P md ops Q n listed a w
  | 0, l, listed, a, w, hn, hnd, hm, hs, hJ => by
    obtain rfl : l = [] := List.eq_nil_of_length_eq_zero hn
    have hall : ∀ j, j < ops.size → listed.getD j false = true := fun j hj => by
      cases hv : listed.getD j true with
      | false => have := (hm j).2 ⟨hj, hv⟩; cases this
      | true => rw [Array.getD, dif_pos (by omega)] at hv ⊢; exact hv
    refine ⟨?_, hend _ a w hall hJ⟩
    refine List.eq_nil_iff_forall_not_mem.2 fun i hi => ?_
    obtain ⟨hun, o, ho, _⟩ := mem_ready.1 hi
    have hlt := (Array.getElem?_eq_some_iff.1 ho).1
    have := (hm i).2 ⟨hlt, hun⟩
    cases this
  | n + 1, l, listed, a, w, hn, hnd, hm, hs, hJ => by
    constructor
    · intro h0
      have hall : ∀ m j, j < m → j < ops.size → listed.getD j false = true := by
        intro m
        induction m with
        | zero => intro j h; omega
        | succ m ih =>
          intro j hj hjs
          rcases Nat.lt_or_ge j m with h1 | h1
          · exact ih j h1 hjs
          · have e : j = m := by omega
            subst e
            cases hv : listed.getD j true with
            | true => rw [Array.getD, dif_pos (by omega)] at hv ⊢; exact hv
            | false =>
              exfalso
              have hr : j ∈ Region.ready md ops listed := mem_ready.2 ⟨hv, ops[j], Array.getElem?_eq_getElem hjs, fun e he hb => by
                have h2 := hback j _ (Array.getElem?_eq_getElem hjs) e he hb
                exact ih e.on h2 (by omega)⟩
              rw [h0] at hr
              cases hr
      exact hend _ a w (fun j hj => hall (j + 1) j (Nat.lt_succ_self _) hj) hJ
    · intro i hi
      obtain ⟨hun, oi, hoi, hwait⟩ := mem_ready.1 hi
      have hlt := (Array.getElem?_eq_some_iff.1 hoi).1
      have him := (hm i).2 ⟨hlt, hun⟩
      have hf : listed.getD i false = false := by
        rw [Array.getD, dif_pos (by omega)] at hun ⊢; exact hun
      have hst := hstep i oi hoi (fun k => listed.getD k false) a w hJ hf (by
        rw [Array.all_eq_true_iff_forall_mem]
        intro e he
        cases hb : Region.binds md e with
        | false => rfl
        | true => rw [Bool.not_true, Bool.false_or]; exact hwait e he hb)
      have ih := fun a' w' h' => wpAny_inv hback hstep hend n (l.erase i) (listed.setIfInBounds i true) a' w' (by rw [List.length_erase_of_mem him]; omega) (hnd.erase _) (fun j => by
        rw [hnd.mem_erase_iff, hm j]
        by_cases e : i = j
        · subst e
          have : (listed.setIfInBounds i true).getD i true = true := by simp [Array.getD, hs, hlt]
          simp [this]
        · have : (listed.setIfInBounds i true).getD j true = listed.getD j true := by rw [getD_set_ne true e]
          rw [this]
          constructor
          · rintro ⟨_, h⟩; exact h
          · intro h; exact ⟨fun e2 => e e2.symm, h⟩) (by simp [hs]) h'
      have hD : (fun k => (listed.setIfInBounds i true).getD k false) = fun k => k == i || listed.getD k false := by
        funext k
        by_cases e : i = k
        · subst e; simp [Array.getD, hs, hlt]
        · rw [getD_set_ne false e, beq_eq_false_iff_ne.2 (fun e2 => e e2.symm), Bool.false_or]
      obtain ⟨hw, hp⟩ := hst
      unfold wpOp
      simp only [hoi]
      rw [if_pos hw]
      refine .inl ?_
      have := Oper.wp_mono (fun a w hk => ih a w (by rw [hD]; exact hk)) hp
      unfold Oper.wp at *
      generalize (execOp a.eval oi).run P w = r at *
      cases r with
      | ok m w' =>
        cases m <;> simp only [Oper.upon] at this ⊢ <;>
          first
            | exact this
            | (refine Calls.mono this fun e w'' he => ?_
               cases e with
               | returned u => exact he
               | panicked c => exact he.elim
               | outgrown => exact (letsOut_no he).elim)
      | halt x w' =>
        cases x <;> simp only [Oper.upon] at this ⊢
        case panic u => exact this.elim

def backB (md : Region.Mode) (ops : Array Oper) : Bool := (List.range ops.size).all fun j => match ops[j]? with | some o => o.after.all fun e => !Region.binds md e || decide (e.on < j) | none => true
theorem wp_region_inv {id : Nat} {a : Act} {w : World} {l : List Oper} (J : (Nat → Bool) → Act → World → Prop) (hm : P.follows .mixedOrders = true) (hB : backB .any l.toArray = true)
    (h0 : J (fun _ => false) a w.drew) (hstep : forOps (StepOk P l.toArray .any J) 0 l) (hend : ∀ (D : Nat → Bool) (a : Act) (w : World), (∀ j, j < l.length → D j = true) → J D a w → Q .normal a w) :
    (Code.region id l.toArray true).wp P Q a w := by
  refine wp_region_any hm ?_
  have hsz : l.toArray.size = l.length := by simp
  rw [hsz]
  refine wpAny_inv (ops := l.toArray) (fun j oj hj e he hb => ?_) (fun i o ho => ?_) (fun D a w h => hend D a w fun j hj => h j (by simpa using hj)) l.length (List.range l.length) _ a w.drew (by simp) List.nodup_range (fun j => ?_) (by simp) ?_
  · have h1 := List.all_eq_true.1 hB j (List.mem_range.2 (Array.getElem?_eq_some_iff.1 hj).1)
    rw [hj] at h1
    have h3 := Array.all_eq_true_iff_forall_mem.1 h1 e he
    rw [hb, Bool.not_true, Bool.false_or, decide_eq_true_eq] at h3
    exact h3
  · have := forOps_at hstep (by simpa using ho)
    rwa [Nat.zero_add] at this
  · rw [List.mem_range]
    constructor
    · intro h; exact ⟨h, by simp [Array.getD, h]⟩
    · rintro ⟨h, _⟩; simpa using h
  · have : (fun k => (Array.replicate l.length false).getD k false) = fun _ => false := by
      funext k
      exact getD_replicate_false _ _
    rw [this]; exact h0

/-! The slots that the region writes, as a function. -/
def putF (a : Act) (ds : List Nat) (V : Nat → Value) : Act := ds.foldl (fun a d => a.put (some d) (V d)) a
def upd (V : Nat → Value) (d : Nat) (v : Value) : Nat → Value := fun k => bif k == d then v else V k
def updO (V : Nat → Value) (d : Option Nat) (v : Value) : Nat → Value := match d with
  | none => V
  | some d => upd V d v
theorem upd_self (V : Nat → Value) (d : Nat) (v : Value) : upd V d v d = v := by unfold upd; rw [beq_self_eq_true]; rfl
theorem upd_ne {V : Nat → Value} {d k : Nat} {v : Value} (h : k ≠ d) : upd V d v k = V k := by unfold upd; rw [beq_eq_false_iff_ne.2 h]; rfl
theorem put_twice (a : Act) (d : Nat) (u v : Value) : (a.put (some d) u).put (some d) v = a.put (some d) v := by
  simp [Act.put]
theorem put_swap (a : Act) {d e : Nat} (h : d ≠ e) (u v : Value) : (a.put (some d) u).put (some e) v = (a.put (some e) v).put (some d) u := by
  simp only [Act.put]
  congr 1
  rw [Array.setIfInBounds_comm _ _ h]
theorem putF_swap (V : Nat → Value) (d : Nat) (v : Value) : ∀ (ds : List Nat) (a : Act), d ∉ ds → (putF a ds V).put (some d) v = putF (a.put (some d) v) ds V
  | [], _, _ => rfl
  | e :: ds, a, h => by
    show (putF (a.put (some e) (V e)) ds V).put (some d) v = putF ((a.put (some d) v).put (some e) (V e)) ds V
    rw [putF_swap V d v ds _ fun hm => h (List.mem_cons_of_mem _ hm), put_swap a (fun e2 => h (by rw [e2]; exact List.mem_cons_self ..))]
theorem putF_same {V V' : Nat → Value} : ∀ (ds : List Nat) (a : Act), (∀ d ∈ ds, V d = V' d) → putF a ds V = putF a ds V'
  | [], _, _ => rfl
  | e :: ds, a, h => by
    show putF (a.put (some e) (V e)) ds V = putF (a.put (some e) (V' e)) ds V'
    rw [h e (List.mem_cons_self ..), putF_same ds _ fun d hd => h d (List.mem_cons_of_mem _ hd)]
theorem putF_put (V : Nat → Value) (d : Nat) (v : Value) : ∀ (ds : List Nat) (a : Act), ds.Nodup → d ∈ ds → (putF a ds V).put (some d) v = putF a ds (upd V d v)
  | [], _, _, h => by cases h
  | e :: ds, a, hn, h => by
    obtain ⟨h1, h2⟩ := List.nodup_cons.1 hn
    show (putF (a.put (some e) (V e)) ds V).put (some d) v = putF (a.put (some e) (upd V d v e)) ds (upd V d v)
    by_cases e1 : e = d
    · subst e1
      rw [putF_swap V e v ds _ h1, put_twice, upd_self]
      exact putF_same ds _ fun k hk => (upd_ne fun e2 => h1 (by rw [← e2]; exact hk)).symm
    · rw [upd_ne e1]
      exact putF_put V d v ds _ h2 ((List.mem_cons.1 h).resolve_left fun e2 => e1 e2.symm)

/-- One operation of such a region. -/
def StepV (P : Program) (ops : Array Oper) (md : Region.Mode) (a : Act) (ds : List Nat) (J : (Nat → Bool) → (Nat → Value) → World → Prop) (i : Nat) (o : Oper) : Prop :=
  ∀ (D : Nat → Bool) (V : Nat → Value) (w : World), J D V w → D i = false → (o.after.all fun e => !Region.binds md e || D e.on) = true →
    Region.wanted o (yielded ops (putF a ds V).tmps) = true ∧ (∀ d, o.dst = some d → d ∈ ds) ∧
    ∀ K : Act → World → Prop, Hid (∀ v w', J (fun k => k == i || D k) (updO V o.dst v) w' → K ((putF a ds V).put o.dst v) w') → o.wp P (putF a ds V) w K NoOut
theorem forOps_mono {F G : Nat → Oper → Prop} (h : ∀ i o, F i o → G i o) : ∀ {l : List Oper} {k : Nat}, forOps F k l → forOps G k l
  | [], _, _ => trivial
  | _ :: _, _, hf => ⟨h _ _ hf.1, forOps_mono h hf.2⟩
theorem wp_region_vals {id : Nat} {a : Act} {w : World} {l : List Oper} (ds : List Nat) (hds : ds.Nodup) (J : (Nat → Bool) → (Nat → Value) → World → Prop) (hm : P.follows .mixedOrders = true) (hB : backB .any l.toArray = true)
    (V0 : Nat → Value) (hV : putF a ds V0 = a) (h0 : J (fun _ => false) V0 w.drew) (hstep : forOps (StepV P l.toArray .any a ds J) 0 l)
    (hend : ∀ (D : Nat → Bool) (V : Nat → Value) (w : World), (∀ j, j < l.length → D j = true) → J D V w → Q .normal (putF a ds V) w) :
    (Code.region id l.toArray true).wp P Q a w := by
  refine wp_region_inv (fun D a' w' => ∃ V, a' = putF a ds V ∧ J D V w') hm hB ⟨V0, hV.symm, h0⟩ (forOps_mono (fun i o hf => ?_) hstep) fun D a' w' hD ⟨V, e, hJ⟩ => e ▸ hend D V w' hD hJ
  rintro D a' w' ⟨V, rfl, hJ⟩ hi hd
  obtain ⟨h1, h2, h3⟩ := hf D V w' hJ hi hd
  refine ⟨h1, h3 _ (show Hid _ from fun v w2 hJ2 => ?_)⟩
  cases hdst : o.dst with
  | none =>
    rw [hdst] at hJ2
    exact ⟨V, rfl, hJ2⟩
  | some d =>
    rw [hdst] at hJ2
    exact ⟨_, putF_put V d v ds a hds (h2 d hdst), hJ2⟩
end
end Go.Proofs.Ytibiiafcnaijeaa.Steady
