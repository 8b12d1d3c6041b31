/- A region that draws its order, in which one operation f (an allocation) is not ordered among some calls: one walk for each place that it may take. -/
import Derived.Test.YtibiiafcnaijeaaAny
namespace Go.Proofs.Ytibiiafcnaijeaa.Steady
open Go Go.RowKit
set_option linter.unusedVariables false
set_option linter.unusedSimpArgs false
section
variable {P : Program} {ops : Array Oper} {md : Region.Mode} {C : World → Prop}

inductive LinX (md : Region.Mode) (ops : Array Oper) : Array Bool → List Nat → List Nat → Prop where
  | nil {listed : Array Bool} : LinX md ops listed [] []
  | cons {listed : Array Bool} {l σ : List Nat} {i : Nat} (h : i ∈ Region.ready md ops listed) (hl : i ∈ l) (t : LinX md ops (listed.setIfInBounds i true) (l.erase i) σ) : LinX md ops listed l (i :: σ)

theorem lin_go (hback : ∀ (j : Nat) (oj : Oper), ops[j]? = some oj → ∀ e ∈ oj.after, Region.binds md e = true → e.on < j) :
    ∀ (n t : Nat) (l : List Nat) (listed : Array Bool), l.length = n → l.Nodup → (∀ j, j ∈ l ↔ j < ops.size ∧ listed.getD j true = false) → listed.size = ops.size → LinX md ops listed l (Region.linearise.go md ops n t listed [])
  | 0, t, l, listed, hn, _, _, _ => by
    obtain rfl : l = [] := List.eq_nil_of_length_eq_zero hn
    exact .nil
  | n + 1, t, l, listed, hn, hnd, hm, hs => by
    have hne : Region.ready md ops listed ≠ [] := by
      intro h0
      have hall : ∀ m j, j < m → j < ops.size → listed.getD j false = true := by
        intro m
        induction m with
        | zero => intro j h; omega
        | succ m ih =>
          intro j hj hjs
          rcases Nat.lt_or_ge j m with h1 | h1
          · exact ih j h1 hjs
          · have e : j = m := by omega
            subst e
            cases hv : listed.getD j true with
            | true => rw [Array.getD, dif_pos (by omega)] at hv ⊢; exact hv
            | false =>
              exfalso
              have hr : j ∈ Region.ready md ops listed := mem_ready.2 ⟨hv, ops[j], Array.getElem?_eq_getElem hjs, fun e he hb => by
                have h2 := hback j _ (Array.getElem?_eq_getElem hjs) e he hb
                exact ih e.on h2 (by omega)⟩
              rw [h0] at hr
              cases hr
      cases l with
      | nil => cases hn
      | cons q l =>
        obtain ⟨h1, h2⟩ := (hm q).1 (List.mem_cons_self ..)
        have h3 := hall (q + 1) q (Nat.lt_succ_self _) h1
        rw [Array.getD, dif_pos (by omega)] at h2 h3
        rw [h2] at h3; cases h3
    simp only [Region.linearise.go]
    change LinX md ops listed l (match (Region.ready md ops listed)[t % (Region.ready md ops listed).length]? with
      | some i => Region.linearise.go md ops n (t / (Region.ready md ops listed).length) (listed.setIfInBounds i true) [i]
      | none => [].reverse)
    have hpos : 0 < (Region.ready md ops listed).length := List.length_pos_iff.2 hne
    have hlt := Nat.mod_lt t hpos
    rw [List.getElem?_eq_getElem hlt]
    simp only []
    rw [linearise_go_acc, List.reverse_singleton, List.singleton_append]
    have hi := List.getElem_mem hlt
    generalize (Region.ready md ops listed)[t % (Region.ready md ops listed).length] = i at *
    obtain ⟨hun, oi, hoi, _⟩ := mem_ready.1 hi
    have hilt := (Array.getElem?_eq_some_iff.1 hoi).1
    have him := (hm i).2 ⟨hilt, hun⟩
    refine .cons hi him (lin_go hback n _ (l.erase i) _ (by rw [List.length_erase_of_mem him]; omega) (hnd.erase _) (fun j => ?_) (by simp [hs]))
    rw [hnd.mem_erase_iff, hm j]
    by_cases e : i = j
    · subst e
      have : (listed.setIfInBounds i true).getD i true = true := by simp [Array.getD, hs, hilt]
      simp [this]
    · rw [getD_set_ne true e]
      constructor
      · rintro ⟨_, h⟩; exact h
      · intro h; exact ⟨fun e2 => e e2.symm, h⟩

theorem sub_two {α : Type} {q i : α} : ∀ {l : List α}, [q, i].Sublist l → ∃ l1 l2, l = l1 ++ q :: l2 ∧ i ∈ l2
  | x :: l, h => by
    rcases List.sublist_cons_iff.1 h with h | ⟨r, e, h⟩
    · obtain ⟨l1, l2, rfl, hm⟩ := sub_two h
      exact ⟨x :: l1, l2, rfl, hm⟩
    · injection e with e1 e2
      subst e1 e2
      exact ⟨[], l, rfl, List.singleton_sublist.1 h⟩
theorem sub_of {α : Type} {q i : α} (l1 l2 : List α) (h : i ∈ l2) : [q, i].Sublist (l1 ++ q :: l2) := (((List.singleton_sublist.2 h).cons_cons q)).trans (List.sublist_append_right _ _)

structure HS (md : Region.Mode) (ops : Array Oper) (listed : Array Bool) (l : List Nat) (L σ : List Nat) : Prop where
  nd : L.Nodup
  mem : ∀ j, j ∈ L ↔ j ∈ l
  un : ∀ j ∈ l, j < ops.size ∧ listed.getD j true = false
  cl : ClosedL md ops listed
  size : listed.size = ops.size
  pairs : ∀ q i, [q, i].Sublist L → indepB ops q i = true ∨ WaitsP md ops q i ∨ ∃ c, (c = i ∨ WaitsP md ops c i) ∧ [q, c].Sublist σ

theorem ops_of_walk (hs : Region.noSelect ops = true) {Q : Exit → Act → World → Prop} : ∀ {listed : Array Bool} {l σ : List Nat}, LinX md ops listed l σ → ∀ (L : List Nat) (a : Act) (w : World), HS md ops listed l L σ → l.Nodup → C w →
    walkS P ops C (Q .normal) L a w → wpOps P ops Q σ a w := by
  intro listed l σ h
  induction h with
  | nil =>
    intro L a w hS _ _ hw
    have : L = [] := List.eq_nil_iff_forall_not_mem.2 fun j hj => by have := (hS.mem j).1 hj; cases this
    subst this
    exact hw
  | @cons listed l σ i hi hl t ih =>
    intro L a w hS hnd hC hw
    rw [wpOps_cons]
    obtain ⟨hun, oi, hoi, hwait⟩ := mem_ready.1 hi
    have hilt := (Array.getElem?_eq_some_iff.1 hoi).1
    have hiL : i ∈ L := (hS.mem i).2 hl
    obtain ⟨l₁, l₂, rfl⟩ := List.append_of_mem hiL
    have hind : ∀ q ∈ l₁, indepB ops q i = true := by
      intro q hq
      have hq1 : q ∈ l := (hS.mem q).1 (List.mem_append_left _ hq)
      have hun := (hS.un q hq1).2
      have hne : q ≠ i := by
        intro e; subst e
        exact (List.nodup_append.1 hS.nd).2.2 q hq q (List.mem_cons_self ..) rfl
      have hsub : [q, i].Sublist (l₁ ++ i :: l₂) := by
        obtain ⟨m1, m2, rfl⟩ := List.append_of_mem hq
        rw [List.append_assoc, List.cons_append]
        exact sub_of m1 _ (List.mem_append_right _ (List.mem_cons_self ..))
      rcases hS.pairs q i hsub with h | h | h
      · exact h
      · exfalso
        have := h listed hS.cl (fun oj hj => by
          obtain rfl : oj = oi := Option.some.inj (hj.symm.trans hoi)
          exact hwait)
        rw [getD_both hun] at this
        cases this
      · exfalso
        obtain ⟨c, hci, h⟩ := h
        rcases List.sublist_cons_iff.1 h with h | ⟨r, e, h⟩
        · have hm : c ∈ σ := h.subset (by simp)
          have key : ∀ {listed : Array Bool} {l σ : List Nat}, LinX md ops listed l σ → ∀ j ∈ σ, j ∈ l := by
            intro listed l σ h
            induction h with
            | nil => intro j hj; cases hj
            | cons _ hl _ ih => intro j hj; rcases List.mem_cons.1 hj with rfl | hj; exact hl; exact List.mem_of_mem_erase (ih j hj)
          have h3 := key t c hm
          rw [hnd.mem_erase_iff] at h3
          rcases hci with e | hwc
          · exact h3.1 e
          · have h4 := hwc listed hS.cl (fun oj hj => by
              obtain rfl : oj = oi := Option.some.inj (hj.symm.trans hoi)
              exact hwait)
            rw [getD_both (hS.un c h3.2).2] at h4
            cases h4
        · injection e with e1 _; exact hne e1
    have hb := walkS_bubble hs l₁ l₂ a w hind hC hw
    have hS' : HS md ops (listed.setIfInBounds i true) (l.erase i) (l₁ ++ l₂) σ := by
      have hnd' : (l₁ ++ l₂).Nodup := hS.nd.sublist (List.Sublist.append_left (List.sublist_cons_self ..) _)
      have hni : i ∉ l₁ ++ l₂ := by
        intro h
        have h0 := hS.nd
        rw [List.nodup_append] at h0
        rcases List.mem_append.1 h with h | h
        · exact h0.2.2 i h i (List.mem_cons_self ..) rfl
        · exact (List.nodup_cons.1 h0.2.1).1 h
      refine ⟨hnd', fun j => ?_, fun j hj => ?_, ?_, by simp [hS.size], fun q x hsub => ?_⟩
      · rw [hnd.mem_erase_iff, ← hS.mem j]
        constructor
        · intro h
          exact ⟨fun e => hni (e ▸ h), (List.mem_append.1 h).elim (List.mem_append_left _) fun h => List.mem_append_right _ (List.mem_cons_of_mem _ h)⟩
        · rintro ⟨h1, h2⟩
          rcases List.mem_append.1 h2 with h | h
          · exact List.mem_append_left _ h
          · exact List.mem_append_right _ ((List.mem_cons.1 h).resolve_left h1)
      · rw [hnd.mem_erase_iff] at hj
        have := hS.un j hj.2
        exact ⟨this.1, by rw [getD_set_ne true (fun e => hj.1 e.symm)]; exact this.2⟩
      · intro j oj hoj hlj e he hbi
        by_cases e1 : i = j
        · subst e1
          obtain rfl : oj = oi := Option.some.inj (hoj.symm.trans hoi)
          have := hwait e he hbi
          by_cases e2 : i = e.on
          · rw [← e2]; simp [Array.getD, hS.size, hilt]
          · rw [getD_set_ne false e2]; exact this
        · rw [getD_set_ne false e1] at hlj
          have := hS.cl j oj hoj hlj e he hbi
          by_cases e2 : i = e.on
          · rw [← e2]; simp [Array.getD, hS.size, hilt]
          · rw [getD_set_ne false e2]; exact this
      · have hsub2 : [q, x].Sublist (l₁ ++ i :: l₂) := hsub.trans (List.Sublist.append_left (List.sublist_cons_self ..) _)
        rcases hS.pairs q x hsub2 with h | h | h
        · exact .inl h
        · exact .inr (.inl h)
        · obtain ⟨c, hci, h⟩ := h
          refine .inr (.inr ⟨c, hci, ?_⟩)
          rcases List.sublist_cons_iff.1 h with h | ⟨r, e, h⟩
          · exact h
          · injection e with e1 _
            exact absurd (hsub.subset (by simp : q ∈ [q, x])) (fun hq => hni (e1 ▸ hq))
    have ih' := fun a' w' hC' h' => ih (l₁ ++ l₂) a' w' hS' (hnd.erase _) hC' h'
    unfold stepAt at hb
    simp only [hoi] at hb
    unfold wpOp
    simp only [hoi]
    rcases hb with ⟨v, hy, hk⟩ | ⟨_, hwt, hp⟩
    · have := hy.wpOp (Q := Q) hoi hC (K := wpOps P ops Q σ) (ih' _ _ hC hk)
      unfold wpOp at this
      simp only [hoi] at this
      exact this
    · rw [if_pos hwt]
      refine .inl ?_
      have := Oper.wp_mono (fun a w ⟨hC, hk⟩ => ih' a w hC hk) hp
      unfold Oper.wp at *
      generalize (execOp a.eval oi).run P w = r at *
      cases r with
      | ok m w' =>
        cases m <;> simp only [Oper.upon] at this ⊢ <;>
          first
            | exact this
            | (refine Calls.mono this fun e w'' he => ?_
               cases e with
               | returned u => exact he
               | panicked c => exact he.elim
               | outgrown => exact (letsOut_no he).elim)
      | halt x w' =>
        cases x <;> simp only [Oper.upon] at this ⊢
        case panic u => exact this.elim

def pairsB (R : Nat → Nat → Bool) : List Nat → Bool
  | [] => true
  | q :: l => l.all (R q) && pairsB R l
theorem pairsB_spec {R : Nat → Nat → Bool} : ∀ {L : List Nat}, pairsB R L = true → ∀ q i, [q, i].Sublist L → R q i = true
  | [], _, _, _, h => by cases h
  | x :: l, h, q, i, hs => by
    rw [pairsB, Bool.and_eq_true] at h
    rcases List.sublist_cons_iff.1 hs with h1 | ⟨r, e, h1⟩
    · exact pairsB_spec h.2 q i h1
    · injection e with e1 e2
      subst e1 e2
      exact List.all_eq_true.1 h.1 i (List.singleton_sublist.1 h1)
def wB (md : Region.Mode) (ops : Array Oper) (q i : Nat) : Bool := (waiters md ops q (List.range ops.size) []).contains i
theorem wB_spec {q i : Nat} (h : wB md ops q i = true) : WaitsP md ops q i := waiters_spec _ [] (fun _ h => by cases h) i (List.contains_iff_mem.1 h)
/-- f moved ahead to place p. -/
def mv {α : Type} (l : List α) (p f : Nat) : List α := l.take p ++ ((l.drop f).take 1 ++ ((l.take f).drop p ++ l.drop (f + 1)))
def listB (md : Region.Mode) (ops : Array Oper) (f : Nat) (before behind : List Nat) (L : List Nat) : Bool :=
  pairsB (fun q i => indepB ops q i || wB md ops q i || (q == f && behind.contains i) || (i == f && before.contains q)) L && ((List.range ops.size).all fun j => L.contains j) && (decide L.Nodup && L.all fun j => decide (j < ops.size))
def freeB (md : Region.Mode) (ops : Array Oper) (f c p : Nat) : Bool :=
  Region.noSelect ops && ((List.range ops.size).all fun j => match ops[j]? with | some o => o.after.all fun e => !Region.binds md e || decide (e.on < j) | none => true) &&
  (listB md ops f [c] [] (List.range ops.size) && listB md ops f [] [c] (mv (List.range ops.size) p f) && (decide (f < ops.size) && decide (c < ops.size) && decide (f ≠ c)))
theorem lin_mem (md : Region.Mode) (ops : Array Oper) : ∀ {listed : Array Bool} {l σ : List Nat}, LinX md ops listed l σ → ∀ j ∈ l, j ∈ σ := by
  intro listed l σ h
  induction h with
  | nil => intro j hj; cases hj
  | @cons _ l σ i _ hl _ ih =>
    intro j hj
    by_cases e : j = i
    · exact e ▸ List.mem_cons_self ..
    · exact List.mem_cons_of_mem _ (ih j ((List.mem_erase_of_ne e).2 hj))
theorem two_order {α : Type} {x y : α} (hne : x ≠ y) : ∀ {l : List α}, x ∈ l → y ∈ l → [x, y].Sublist l ∨ [y, x].Sublist l
  | z :: l, hx, hy => by
    by_cases e1 : x = z
    · subst e1
      exact .inl ((List.singleton_sublist.2 ((List.mem_cons.1 hy).resolve_left fun e => hne e.symm)).cons_cons _)
    · by_cases e2 : y = z
      · subst e2
        exact .inr ((List.singleton_sublist.2 ((List.mem_cons.1 hx).resolve_left hne)).cons_cons _)
      · rcases two_order hne ((List.mem_cons.1 hx).resolve_left e1) ((List.mem_cons.1 hy).resolve_left e2) with h | h
        · exact .inl (h.cons _)
        · exact .inr (h.cons _)
theorem walk_of_list {Q : Act → World → Prop} : ∀ (L : List Nat) (lo : List Oper) (a : Act) (w : World), L.map (fun i => ops[i]?) = lo.map some → C w → wpSteady P ops C Q lo a w → walkS P ops C Q L a w
  | [], lo, a, w, h, _, hw => by
    cases lo with
    | nil => exact hw
    | cons o lo => cases h
  | i :: L, lo, a, w, h, hC, hw => by
    cases lo with
    | nil => cases h
    | cons o lo =>
      rw [List.map_cons, List.map_cons] at h
      injection h with h1 h2
      show stepAt P ops C i (walkS P ops C Q L) a w
      unfold stepAt
      simp only [h1]
      exact stepS_mono hC (fun a w hC h => walk_of_list L lo a w h2 hC h) hw
theorem mv_map {α β : Type} (g : α → β) (l : List α) (p f : Nat) : (mv l p f).map g = mv (l.map g) p f := by
  simp only [mv, List.map_append, List.map_take, List.map_drop]
theorem range_map (l : List Oper) : (List.range l.toArray.size).map (fun i => l.toArray[i]?) = l.map some := by
  apply List.ext_getElem?
  intro j
  rw [List.getElem?_map, List.getElem?_map]
  by_cases h : j < l.length
  · simp [h]
  · rw [List.getElem?_eq_none (by simpa using h), List.getElem?_eq_none (by omega)]; rfl
/-- f (an allocation) and c (a call) in either order: two walks. -/
theorem wp_region_free {id : Nat} {Q : Exit → Act → World → Prop} {a : Act} {w : World} {l : List Oper} (f c p : Nat) (C : World → Prop) (hm : P.follows .mixedOrders = true) (hB : freeB .any l.toArray f c p = true)
    (hC : C w.drew) (h1 : wpSteady P l.toArray C (Q .normal) l a w.drew) (h2 : wpSteady P l.toArray C (Q .normal) (mv l p f) a w.drew) : (Code.region id l.toArray true).wp P Q a w := by
  refine wp_region_draw fun t => ?_
  simp only [Region.schedule, hm, Bool.true_or, if_true]
  unfold freeB at hB
  simp only [Bool.and_eq_true] at hB
  obtain ⟨⟨hs, hbk⟩, ⟨hL1, hL2⟩, ⟨⟨hf, hc⟩, hne⟩⟩ := hB
  have hlin : LinX .any l.toArray (Array.replicate l.toArray.size false) (List.range l.toArray.size) (Region.linearise.go .any l.toArray l.toArray.size t (Array.replicate l.toArray.size false) []) := by
    refine lin_go (fun j oj hj e he hb => ?_) _ _ _ _ (by simp) List.nodup_range (fun j => ?_) (by simp)
    · have h3 := List.all_eq_true.1 hbk j (List.mem_range.2 (Array.getElem?_eq_some_iff.1 hj).1)
      simp only [hj] at h3
      have h4 := Array.all_eq_true_iff_forall_mem.1 h3 e he
      rw [hb] at h4
      simpa using h4
    · rw [List.mem_range]
      constructor
      · intro hj; exact ⟨hj, getD_in (by simpa using hj) (getD_replicate_false _ _)⟩
      · exact fun h => h.1
  have go : ∀ (L before behind : List Nat) (lo : List Oper), listB .any l.toArray f before behind L = true → L.map (fun i => l.toArray[i]?) = lo.map some → (∀ q ∈ before, [q, f].Sublist (Region.linearise.go .any l.toArray l.toArray.size t (Array.replicate l.toArray.size false) [])) →
      (∀ q ∈ behind, [f, q].Sublist (Region.linearise.go .any l.toArray l.toArray.size t (Array.replicate l.toArray.size false) [])) → wpSteady P l.toArray C (Q .normal) lo a w.drew →
      wpOps P l.toArray Q (Region.linearise.go .any l.toArray l.toArray.size t (Array.replicate l.toArray.size false) []) a w.drew := by
    intro L before behind lo hL hmap hb1 hb2 hwalk
    unfold listB at hL
    simp only [Bool.and_eq_true] at hL
    obtain ⟨⟨hp, hall⟩, hnd, hlt⟩ := hL
    refine ops_of_walk (C := C) hs hlin L a w.drew ⟨of_decide_eq_true hnd, fun j => ?_, fun j hj => ⟨List.mem_range.1 hj, getD_in (by simpa using List.mem_range.1 hj) (getD_replicate_false _ _)⟩, fun j oj _ hl => (by rw [getD_replicate_false] at hl; cases hl), by simp, fun q i hsub => ?_⟩ List.nodup_range hC (walk_of_list L lo a _ hmap hC hwalk)
    · constructor
      · intro hj
        exact List.mem_range.2 (of_decide_eq_true (List.all_eq_true.1 hlt j hj))
      · intro hj
        exact List.contains_iff_mem.1 (List.all_eq_true.1 hall j hj)
    · have h5 := pairsB_spec hp q i hsub
      simp only [Bool.or_eq_true, Bool.and_eq_true, beq_iff_eq, List.contains_iff_mem] at h5
      rcases h5 with ((h5 | h5) | ⟨rfl, h5⟩) | ⟨rfl, h5⟩
      · exact .inl h5
      · exact .inr (.inl (wB_spec h5))
      · exact .inr (.inr ⟨i, .inl rfl, hb2 i h5⟩)
      · exact .inr (.inr ⟨i, .inl rfl, hb1 q h5⟩)
  rcases two_order (of_decide_eq_true hne) (lin_mem _ _ hlin f (List.mem_range.2 (of_decide_eq_true hf))) (lin_mem _ _ hlin c (List.mem_range.2 (of_decide_eq_true hc))) with h | h
  · exact go (mv (List.range l.toArray.size) p f) [] [c] (mv l p f) hL2 (by rw [mv_map, mv_map, range_map]) (fun q hq => by cases hq) (fun q hq => (List.mem_singleton.1 hq) ▸ h) h2
  · exact go (List.range l.toArray.size) [c] [] l hL1 (range_map l) (fun q hq => (List.mem_singleton.1 hq) ▸ h) (fun q hq => by cases hq) h1
def listLB (md : Region.Mode) (ops : Array Oper) (f : Nat) (before : List Nat) (c : Option Nat) (L : List Nat) : Bool :=
  pairsB (fun q i => indepB ops q i || wB md ops q i || (q == f && match c with | some c => (c == i || wB md ops c i) | none => false) || (i == f && before.contains q)) L && ((List.range ops.size).all fun j => L.contains j) && (decide L.Nodup && L.all fun j => decide (j < ops.size))
def chkB (md : Region.Mode) (ops : Array Oper) (f : Nat) : List Nat → List Nat → Bool
  | before, [] => listLB md ops f before none (mv (List.range ops.size) f f)
  | before, c :: r => listLB md ops f before (some c) (mv (List.range ops.size) c f) && chkB md ops f (before ++ [c]) r
def freeLB (md : Region.Mode) (ops : Array Oper) (f : Nat) (cs : List Nat) : Bool :=
  Region.noSelect ops && ((List.range ops.size).all fun j => match ops[j]? with | some o => o.after.all fun e => !Region.binds md e || decide (e.on < j) | none => true) &&
  (chkB md ops f [] cs && (decide (f < ops.size) && cs.all fun c => decide (c < ops.size) && decide (f ≠ c)))
/-- f (an allocation) and the calls cs, which wait one for the other: a walk for each place of f among them. -/
theorem wp_region_freeL {id : Nat} {Q : Exit → Act → World → Prop} {a : Act} {w : World} {l : List Oper} (f : Nat) (cs : List Nat) (C : World → Prop) (hm : P.follows .mixedOrders = true) (hB : freeLB .any l.toArray f cs = true)
    (hC : C w.drew) (h : ∀ p ∈ cs ++ [f], wpSteady P l.toArray C (Q .normal) (mv l p f) a w.drew) : (Code.region id l.toArray true).wp P Q a w := by
  refine wp_region_draw fun t => ?_
  simp only [Region.schedule, hm, Bool.true_or, if_true]
  unfold freeLB at hB
  simp only [Bool.and_eq_true] at hB
  obtain ⟨⟨hs, hbk⟩, hL, hf, hcs⟩ := hB
  have hlin : LinX .any l.toArray (Array.replicate l.toArray.size false) (List.range l.toArray.size) (Region.linearise.go .any l.toArray l.toArray.size t (Array.replicate l.toArray.size false) []) := by
    refine lin_go (fun j oj hj e he hb => ?_) _ _ _ _ (by simp) List.nodup_range (fun j => ?_) (by simp)
    · have h3 := List.all_eq_true.1 hbk j (List.mem_range.2 (Array.getElem?_eq_some_iff.1 hj).1)
      simp only [hj] at h3
      have h4 := Array.all_eq_true_iff_forall_mem.1 h3 e he
      rw [hb] at h4
      simpa using h4
    · rw [List.mem_range]
      constructor
      · intro hj; exact ⟨hj, getD_in (by simpa using hj) (getD_replicate_false _ _)⟩
      · exact fun h => h.1
  change wpOps P l.toArray Q (Region.linearise.go .any l.toArray l.toArray.size t (Array.replicate l.toArray.size false) []) a w.drew
  generalize Region.linearise.go .any l.toArray l.toArray.size t (Array.replicate l.toArray.size false) [] = σ at *
  have go : ∀ (before : List Nat) (c : Option Nat) (p : Nat), listLB .any l.toArray f before c (mv (List.range l.toArray.size) p f) = true → (∀ q ∈ before, [q, f].Sublist σ) → (∀ x, c = some x → [f, x].Sublist σ) → wpSteady P l.toArray C (Q .normal) (mv l p f) a w.drew →
      wpOps P l.toArray Q σ a w.drew := by
    intro before c p hL hb1 hb2 hwalk
    unfold listLB at hL
    simp only [Bool.and_eq_true] at hL
    obtain ⟨⟨hp, hall⟩, hnd, hlt⟩ := hL
    refine ops_of_walk (C := C) hs hlin (mv (List.range l.toArray.size) p f) a w.drew ⟨of_decide_eq_true hnd, fun j => ?_, fun j hj => ⟨List.mem_range.1 hj, getD_in (by simpa using List.mem_range.1 hj) (getD_replicate_false _ _)⟩, fun j oj _ hl => (by rw [getD_replicate_false] at hl; cases hl), by simp, fun q i hsub => ?_⟩ List.nodup_range hC (walk_of_list _ (mv l p f) a _ (by rw [mv_map, mv_map, range_map]) hC hwalk)
    · constructor
      · intro hj
        exact List.mem_range.2 (of_decide_eq_true (List.all_eq_true.1 hlt j hj))
      · intro hj
        exact List.contains_iff_mem.1 (List.all_eq_true.1 hall j hj)
    · have h5 := pairsB_spec hp q i hsub
      simp only [Bool.or_eq_true, Bool.and_eq_true, beq_iff_eq, List.contains_iff_mem] at h5
      rcases h5 with ((h5 | h5) | ⟨rfl, h5⟩) | ⟨rfl, h5⟩
      · exact .inl h5
      · exact .inr (.inl (wB_spec h5))
      · cases c with
        | none => cases h5
        | some x =>
          simp only [Bool.or_eq_true, beq_iff_eq] at h5
          exact .inr (.inr ⟨x, h5.imp (fun h => h) wB_spec, hb2 x rfl⟩)
      · exact .inr (.inr ⟨i, .inl rfl, hb1 q h5⟩)
  have pick : ∀ (rest before : List Nat), (∀ q ∈ before, [q, f].Sublist σ) → chkB .any l.toArray f before rest = true → (∀ c ∈ rest, decide (c < l.toArray.size) = true ∧ decide (f ≠ c) = true) → (∀ p ∈ rest ++ [f], wpSteady P l.toArray C (Q .normal) (mv l p f) a w.drew) → wpOps P l.toArray Q σ a w.drew := by
    intro rest
    induction rest with
    | nil => exact fun before hb hch _ hw => go before none f hch hb (fun x hx => by cases hx) (hw f (by simp))
    | cons c r ih =>
      intro before hb hch hc hw
      rw [chkB, Bool.and_eq_true] at hch
      have hc1 := hc c (List.mem_cons_self ..)
      rcases two_order (of_decide_eq_true hc1.2) (lin_mem _ _ hlin f (List.mem_range.2 (of_decide_eq_true hf))) (lin_mem _ _ hlin c (List.mem_range.2 (of_decide_eq_true hc1.1))) with h | h
      · exact go before (some c) c hch.1 hb (fun x hx => by cases hx; exact h) (hw c (by simp))
      · exact ih (before ++ [c]) (fun q hq => by
          rcases List.mem_append.1 hq with h1 | h1
          · exact hb q h1
          · rw [List.mem_singleton.1 h1]; exact h) hch.2 (fun x hx => hc x (List.mem_cons_of_mem _ hx)) (fun p hp => hw p (List.mem_cons_of_mem _ hp))
  exact pick cs [] (fun q hq => by cases hq) hL (fun c hc => by have := List.all_eq_true.1 hcs c hc; rwa [Bool.and_eq_true] at this) h
end
end Go.Proofs.Ytibiiafcnaijeaa.Steady
