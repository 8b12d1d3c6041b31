/- Fail: plain mathematics; progress. -/
import Derived.Test.YtoaellmjgejgfaaInv
import Derived.Test.YtoaellmjgejgfaaAwake
namespace Go.Proofs.Ytoaellmjgejgfaa
set_option linter.unusedVariables false

/-- y depends on n. -/
inductive Dep (ns : List (List Int)) (n : Int) : Int → Prop
  | base {y : Int} : n ∈ nd ns y.toNat → Dep ns n y
  | step {y z : Int} : z ∈ nd ns y.toNat → Dep ns n z → Dep ns n y

structure PInv (s : St) : Prop where
  good : Good s
  valid : Valid s.needs
  ord : OrdSpec s.needs s.order
  full : s.order.length = s.needs.length
  lim : 1 ≤ s.limit
  part : ∀ y : Int, 0 ≤ y → y < s.needs.length → mem5 s y = 1
  rlim : (s.rn.length : Int) ≤ s.limit
  run : ∀ y : Int, (y ∈ s.rn ∨ y ∈ s.dn ∨ y ∈ s.fl) → ∀ x ∈ nd s.needs y.toNat, x ∈ s.dn

theorem PInv.skip {s : St} (h : PInv s) {l : List Int} (hl : ∀ y ∈ l, y ∈ s.wt) (hc : ∀ y : Int, 0 ≤ y → y < s.needs.length → (∃ x ∈ nd s.needs y.toNat, x ∈ s.fl ∨ x ∈ s.sk ∨ x ∈ l) → y ∈ s.sk ∨ y ∈ l) : Inv (skipS s l) := by
  obtain ⟨e1, e2, e3, e4, e5⟩ := skip_mem l s h.good.swt
  have en := skip_needs l s
  have hg := good_skip l h.good fun x hx => h.good.rwt x (hl x hx)
  refine ⟨hg, by rw [en]; exact h.valid, by rw [en, skip_order]; exact h.ord, by rw [en, skip_order]; exact h.full, by rw [skip_lim]; exact h.lim, fun y y0 y1 => ?_, by rw [e1, skip_lim]; exact h.rlim, ?_, ?_⟩
  · rw [en] at y1
    have hp := h.part y y0 y1
    unfold mem5 at hp ⊢
    rw [e1, e2, e3]
    have f4 : (skipS s l).wt.contains y = (s.wt.contains y && !l.contains y) := by
      rw [Bool.eq_iff_iff, List.contains_iff_mem, e4, Bool.and_eq_true, List.contains_iff_mem, Bool.not_eq_true', ← Bool.not_eq_true, List.contains_iff_mem]
    have f5 : (skipS s l).sk.contains y = (s.sk.contains y || l.contains y) := by
      rw [Bool.eq_iff_iff, List.contains_iff_mem, e5, Bool.or_eq_true, List.contains_iff_mem, List.contains_iff_mem]
    rw [f4, f5]
    have hly : l.contains y = true → s.wt.contains y = true := fun e => List.contains_iff_mem.2 (hl y (List.contains_iff_mem.1 e))
    generalize s.wt.contains y = a at *
    generalize s.rn.contains y = b at *
    generalize s.dn.contains y = c at *
    generalize s.fl.contains y = d at *
    generalize s.sk.contains y = e at *
    generalize l.contains y = f at *
    cases a <;> cases b <;> cases c <;> cases d <;> cases e <;> cases f <;> simp [b2n] at hp hly ⊢
  · rw [e1, e2, e3, en]; exact h.run
  · intro y y0 y1 hx
    rw [en] at y1 hx
    obtain ⟨x, hx, hxs⟩ := hx
    rw [e3, e5] at hxs
    rw [e5]
    exact hc y y0 y1 ⟨x, hx, hxs⟩

section
variable (s : St) (n : Int)
theorem lostStep_mono {acc : List Int} {x y : Int} (h : y ∈ acc) : y ∈ lostStep s acc x := by
  unfold lostStep
  split
  · exact mem_ins.2 (.inr h)
  · exact h
theorem lost_mono (l : List Int) : ∀ {acc : List Int} {y : Int}, y ∈ acc → y ∈ l.foldl (lostStep s) acc := by
  induction l with
  | nil => exact fun h => h
  | cons x l ih => exact fun h => ih (lostStep_mono s h)
theorem lost_only (l : List Int) : ∀ {acc : List Int} {y : Int}, y ∈ l.foldl (lostStep s) acc → y ∈ acc ∨ (y ∈ l ∧ y ∈ s.wt) := by
  induction l with
  | nil => exact fun h => .inl h
  | cons x l ih =>
    intro acc y h
    rcases ih h with h | h
    · unfold lostStep at h
      split at h
      · rename_i hc
        rw [Bool.and_eq_true, List.contains_iff_mem] at hc
        rcases mem_ins.1 h with rfl | h
        · exact .inr ⟨List.mem_cons_self .., hc.1⟩
        · exact .inl h
      · exact .inl h
    · exact .inr ⟨List.mem_cons_of_mem _ h.1, h.2⟩
theorem lost_dep (l : List Int) : ∀ {acc : List Int}, (∀ y ∈ acc, y = n ∨ Dep s.needs n y) → ∀ y ∈ l.foldl (lostStep s) acc, y = n ∨ Dep s.needs n y := by
  induction l with
  | nil => exact fun h => h
  | cons x l ih =>
    intro acc h
    refine ih fun y hy => ?_
    unfold lostStep at hy
    split at hy
    · rename_i hc
      rw [Bool.and_eq_true, List.any_eq_true] at hc
      rcases mem_ins.1 hy with rfl | hy
      · obtain ⟨z, hz, hza⟩ := hc.2
        rcases h z (List.contains_iff_mem.1 hza) with rfl | hd
        · exact .inr (.base hz)
        · exact .inr (.step hz hd)
      · exact h y hy
    · exact h y hy
end

theorem lostS_sorted (s : St) (n : Int) (l : List Int) : Sorted (lostS s n l) := lost_good _ _ _ (List.pairwise_singleton _ _)

/-- Whoever waits and needs one that is lost, is lost. -/
theorem lost_closed {s : St} {n : Int} (ho : OrdSpec s.needs s.order) {y z : Int} (hy : y ∈ s.order) (hw : y ∈ s.wt) (hz : z ∈ nd s.needs y.toNat) (hl : z ∈ lostS s n s.order) : y ∈ lostS s n s.order := by
  obtain ⟨j, hj, rfl⟩ := List.getElem_of_mem hy
  have e1 : s.order = s.order.take j ++ s.order[j] :: s.order.drop (j + 1) := by
    rw [List.getElem_cons_drop, List.take_append_drop]
  have ht := ho.topo j hj z (by rw [List.getD_eq_getElem?_getD, List.getElem?_eq_getElem hj]; exact hz)
  have hnd := ho.nodup
  have hL : lostS s n s.order = (s.order.drop (j + 1)).foldl (lostStep s) (lostStep s (lostS s n (s.order.take j)) s.order[j]) := by
    unfold lostS
    conv => lhs; rw [e1]
    rw [List.foldl_append]; rfl
  have hzj : z ∈ lostS s n (s.order.take j) := by
    rw [hL] at hl
    have hz' : z ∉ s.order.drop (j + 1) ∧ z ≠ s.order[j] := by
      rw [e1] at hnd
      have h3 := (List.nodup_append.1 hnd).2.2 z ht
      exact ⟨fun h => h3 z (List.mem_cons_of_mem _ h) rfl, fun h => h3 _ (List.mem_cons_self ..) h⟩
    rcases lost_only s _ hl with h | h
    · unfold lostStep at h
      split at h
      · rcases mem_ins.1 h with e | h
        · exact absurd e hz'.2
        · exact h
      · exact h
    · exact absurd h.1 hz'.1
  rw [hL]
  refine lost_mono s _ ?_
  unfold lostStep
  have : (s.wt.contains s.order[j] && (s.needs.getD s.order[j].toNat []).any fun y => (lostS s n (s.order.take j)).contains y) = true := by
    rw [Bool.and_eq_true, List.contains_iff_mem, List.any_eq_true]
    exact ⟨hw, z, hz, List.contains_iff_mem.2 hzj⟩
  rw [if_pos this]
  exact mem_ins.2 (.inl rfl)

section
variable {s : St}
theorem Inv.in_order (h : Inv s) {y : Int} (h0 : 0 ≤ y) (h1 : y < s.needs.length) : y ∈ s.order := by
  have := full_of_length h.ord h.full y.toNat (by omega)
  rwa [show ((y.toNat : Nat) : Int) = y by omega] at this

theorem fail_spec {x : Int} (he : (stopS s x).1 = 0) : failS s x = (0, skipS { s with rn := del x s.rn, fl := ins x s.fl } (failL s x), failL s x) ∧ failL s x = del x (lostS { s with rn := del x s.rn, fl := ins x s.fl } x s.order) := by
  obtain ⟨_, _, _, e⟩ := stop_spec he
  unfold failS failL
  rw [if_pos he, e]
  exact ⟨rfl, rfl⟩

theorem dep_dn (h : Inv s) {x : Int} : ∀ {z : Int}, Dep s.needs x z → (z ∈ s.rn ∨ z ∈ s.dn ∨ z ∈ s.fl) → x ∈ s.dn := by
  intro z hd
  induction hd with
  | base hz => exact fun hw => h.run _ hw _ hz
  | step hz _ ih => exact fun hw => ih (.inr (.inl (h.run _ hw _ hz)))

/-- Whom a failure takes along. -/
theorem mem_failL (h : Inv s) {x : Int} (he : (stopS s x).1 = 0) (y : Int) : y ∈ failL s x ↔ y ∈ s.wt ∧ Dep s.needs x y := by
  obtain ⟨x0, x1, hx, _⟩ := stop_spec he
  have hxo := h.rn_only hx
  rw [(fail_spec he).2, mem_del (lostS_sorted _ _ _)]
  have hwx : ∀ z, z ∈ s.wt → z ≠ x := fun z hz e => hxo.1 (e ▸ hz)
  constructor
  · rintro ⟨hy, hne⟩
    have h1 := lost_dep { s with rn := del x s.rn, fl := ins x s.fl } x s.order (acc := [x]) (fun z hz => .inl (by simpa using hz)) y hy
    rcases lost_only _ _ hy with h2 | h2
    · exact absurd (by simpa using h2) hne
    · exact ⟨h2.2, h1.resolve_left hne⟩
  · rintro ⟨hy, hd⟩
    refine ⟨?_, hwx y hy⟩
    have hall : ∀ {z}, Dep s.needs x z → z ∈ s.wt → z ∈ lostS { s with rn := del x s.rn, fl := ins x s.fl } x s.order := by
      intro z hd
      induction hd with
      | @base z hz =>
        intro hw
        have hr := h.good.rwt z hw
        exact lost_closed (s := { s with rn := del x s.rn, fl := ins x s.fl }) h.ord (h.in_order hr.1 hr.2) hw hz (lost_mono _ _ (by simp))
      | @step z u hz hd ih =>
        intro hw
        have hr := h.good.rwt z hw
        have hu := (h.valid z.toNat (by omega)).2 u hz
        rcases h.where_ hu.1 hu.2.1 with w | w | w | w | w
        · exact lost_closed (s := { s with rn := del x s.rn, fl := ins x s.fl }) h.ord (h.in_order hr.1 hr.2) hw hz (ih w.1)
        · exact absurd (dep_dn h hd (.inl w.2.1)) hxo.2.1
        · exact absurd (dep_dn h hd (.inr (.inl w.2.2.1))) hxo.2.1
        · exact absurd (dep_dn h hd (.inr (.inr w.2.2.2.1))) hxo.2.1
        · exact absurd (h.skp z hr.1 hr.2 ⟨u, hz, .inr w.2.2.2.2⟩) (h.wt_only hw).2.2.2
    exact hall hd hy

theorem Inv.fail (h : Inv s) (x : Int) : Inv (failS s x).2.1 := by
  by_cases he : (stopS s x).1 = 0
  case neg =>
    unfold failS
    rw [if_neg he, stop_same he]; exact h
  obtain ⟨x0, x1, hx, e⟩ := stop_spec he
  have hxo := h.rn_only hx
  rw [(fail_spec he).1]
  have hg : Good { s with rn := del x s.rn, fl := ins x s.fl } := (h.good.drop_rn x).put_fl x0 x1
  have hmem := mem_failL h he
  have hP : PInv { s with rn := del x s.rn, fl := ins x s.fl } := by
    refine ⟨hg, h.valid, h.ord, h.full, h.lim, fun y y0 y1 => ?_, ?_, fun y hy z hz => ?_⟩
    · have hp := h.part y y0 y1
      unfold mem5 at hp ⊢
      simp only [has_ins, has_del h.good.srn]
      have := b2n_move (p := true) (q := true) (x := x) (y := y) (a := s.rn.contains y) (b := s.fl.contains y) (fun e => by
        subst e
        refine ⟨List.contains_iff_mem.2 hx, ?_⟩
        cases hc : s.fl.contains y with
        | false => rfl
        | true => exact absurd (List.contains_iff_mem.1 hc) hxo.2.2.1)
      omega
    · show ((del x s.rn).length : Int) ≤ s.limit
      have := length_del_le x s.rn
      have := h.rlim
      omega
    · rcases hy with hy | hy | hy
      · exact h.run y (.inl ((mem_del h.good.srn).1 hy).1) z hz
      · exact h.run y (.inr (.inl hy)) z hz
      · rcases mem_ins.1 hy with rfl | hy
        · exact h.run y (.inl hx) z hz
        · exact h.run y (.inr (.inr hy)) z hz
  refine hP.skip (fun y hy => ((hmem y).1 hy).1) fun y y0 y1 hex => ?_
  obtain ⟨z, hz, hzs⟩ := hex
  have out : z ∉ s.dn → (y ∈ s.wt → Dep s.needs x y) → y ∈ s.sk ∨ y ∈ failL s x := fun hzd hdep => by
    rcases h.where_ y0 y1 with w | w | w | w | w
    · exact .inr ((hmem y).2 ⟨w.1, hdep w.1⟩)
    · exact absurd (h.run y (.inl w.2.1) z hz) hzd
    · exact absurd (h.run y (.inr (.inl w.2.2.1)) z hz) hzd
    · exact absurd (h.run y (.inr (.inr w.2.2.2.1)) z hz) hzd
    · exact .inl w.2.2.2.2
  rcases hzs with hzs | hzs | hzs
  · rcases mem_ins.1 hzs with rfl | hzs
    · exact out hxo.2.1 fun _ => .base hz
    · exact .inl (h.skp y y0 y1 ⟨z, hz, .inl hzs⟩)
  · exact .inl (h.skp y y0 y1 ⟨z, hz, .inr hzs⟩)
  · have := (hmem z).1 hzs
    exact out (h.wt_only this.1).2.1 fun _ => .step hz this.2

/-- As long as a step waits and none runs, one is ready. -/
theorem Inv.progress (h : Inv s) (hw : s.wt ≠ []) (hr : s.rn = []) : readyL s ≠ [] := by
  have key : ∀ k, k ≤ s.order.length → (∀ j, j < k → s.order.getD j 0 ∉ s.wt) ∨ ∃ y ∈ s.wt, ∀ x ∈ nd s.needs y.toNat, x ∉ s.wt := by
    intro k
    induction k with
    | zero => intro _; exact .inl fun j hj => absurd hj (Nat.not_lt_zero _)
    | succ k ih =>
      intro hk
      rcases ih (by omega) with h1 | h1
      · by_cases hc : s.order.getD k 0 ∈ s.wt
        · right
          refine ⟨_, hc, fun x hx => ?_⟩
          have := h.ord.topo k (by omega) x hx
          obtain ⟨j, hj, rfl⟩ := List.getElem_of_mem this
          have hjk : j < k := by simp at hj; omega
          have := h1 j hjk
          rw [List.getD_eq_getElem?_getD, List.getElem?_eq_getElem (by omega)] at this
          rw [List.getElem_take]
          exact this
        · left
          intro j hj
          by_cases e : j = k
          · subst e; exact hc
          · exact h1 j (by omega)
      · exact .inr h1
  rcases key s.order.length (Nat.le_refl _) with h1 | ⟨y, hy, hx⟩
  · exfalso
    obtain ⟨a, ha⟩ := List.exists_mem_of_ne_nil _ hw
    have hra := h.good.rwt a ha
    obtain ⟨j, hj, e⟩ := List.getElem_of_mem (h.in_order hra.1 hra.2)
    have := h1 j hj
    rw [List.getD_eq_getElem?_getD, List.getElem?_eq_getElem hj, Option.getD_some, e] at this
    exact this ha
  · have hry := h.good.rwt y hy
    have hyo := h.wt_only hy
    have hdn : ∀ x ∈ nd s.needs y.toNat, x ∈ s.dn := fun x hxm => by
      have hu := (h.valid y.toNat (by omega)).2 x hxm
      rcases h.where_ hu.1 hu.2.1 with w | w | w | w | w
      · exact absurd w.1 (hx x hxm)
      · rw [hr] at w; exact absurd w.2.1 (by simp)
      · exact w.2.2.1
      · exact absurd (h.skp y hry.1 hry.2 ⟨x, hxm, .inl w.2.2.2.1⟩) hyo.2.2.2
      · exact absurd (h.skp y hry.1 hry.2 ⟨x, hxm, .inr w.2.2.2.2⟩) hyo.2.2.2
    have hrd : readyB s y.toNat (nd s.needs y.toNat) = true := ready_of (by rw [show ((y.toNat : Nat) : Int) = y by omega]; exact hy) (by rw [hr]; have := h.lim; simp; omega) hdn
    intro hnil
    have hm : y ∈ readyL s := List.mem_filter.2 ⟨hy, hrd⟩
    rw [hnil] at hm
    cases hm

theorem inv_new {ns : List (List Int)} {order : List Int} {limit : Int} (hn : ns.length ≤ 2048) (hl : ∀ j, j < ns.length → (nd ns j).length ≤ 50000) (hv : Valid ns) (ho : OrdSpec ns order) (hf : order.length = ns.length) (h1 : 1 ≤ limit) : Inv (stNew ns order limit) := by
  refine ⟨good_stNew hn hl ho, hv, ho, hf, h1, fun y y0 y1 => ?_, by show ((0 : Nat) : Int) ≤ limit; omega, fun y hy => ?_, fun y _ _ hx => ?_⟩
  · unfold mem5 stNew
    have : ((List.range ns.length).map Int.ofNat).contains y = true := List.contains_iff_mem.2 (range_mem.2 ⟨y0, y1⟩)
    show b2n (((List.range ns.length).map Int.ofNat).contains y) + _ + _ + _ + _ = 1
    rw [this]; rfl
  · rcases hy with hy | hy | hy <;> cases hy
  · obtain ⟨x, _, hx | hx⟩ := hx <;> cases hx
end
end Go.Proofs.Ytoaellmjgejgfaa
