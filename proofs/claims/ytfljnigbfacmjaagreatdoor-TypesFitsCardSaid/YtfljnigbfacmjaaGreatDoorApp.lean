/- Rows of the call's own: append, with the place of the new row. -/
import Derived.Test.YtfljnigbfacmjaaGreatDoorProg
import Derived.Below
import Derived.WalkKit
import Derived.WalkSpells
import Derived.WalkLawsBesides
namespace Go.Proofs.YtfljnigbfacmjaaGreatDoor
open Go Go.RowKit
set_option linter.unusedVariables false
set_option linter.unusedSimpArgs false

structure Chg (B : Nat → Prop) (w w' : World) : Prop where
  os : w'.os = w.os
  tape : w'.tape = w.tape
  output : w'.output = w.output
  size : w.heap.size ≤ w'.heap.size
  block : ∀ k, k < w.heap.size → ¬ B k → w'.heap[k]? = w.heap[k]?
theorem Chg.refl (B : Nat → Prop) (w : World) : Chg B w w := ⟨rfl, rfl, rfl, Nat.le_refl _, fun _ _ _ => rfl⟩
theorem Chg.trans {B : Nat → Prop} {u v w : World} (h : Chg B u v) (k : Chg B v w) : Chg B u w :=
  ⟨k.os.trans h.os, k.tape.trans h.tape, k.output.trans h.output, Nat.le_trans h.size k.size, fun i hi hb => (k.block i (Nat.lt_of_lt_of_le hi h.size) hb).trans (h.block i hi hb)⟩
theorem Chg.mono {B B' : Nat → Prop} {u v : World} (h : Chg B u v) (hb : ∀ k, k < u.heap.size → B k → B' k) : Chg B' u v :=
  ⟨h.os, h.tape, h.output, h.size, fun i hi hn => h.block i hi fun hB => hn (hb i hi hB)⟩
theorem Chg.drewN (B : Nat → Prop) (w : World) (q : Nat) : Chg B w (w.drewN q) := ⟨rfl, rfl, rfl, Nat.le_refl _, fun _ _ _ => rfl⟩
theorem Chg.drew (B : Nat → Prop) (w : World) : Chg B w w.drew := ⟨rfl, rfl, rfl, Nat.le_refl _, fun _ _ _ => rfl⟩
theorem Chg.below {B : Nat → Prop} {w w' : World} (h : Below w.heap.size w w') : Chg B w w' := ⟨h.os, h.tape, h.output, h.size, fun k hk _ => h.block k hk⟩
theorem Chg.alloc (B : Nat → Prop) (w : World) (o : Obj) : Chg B w (w.alloc o) := Chg.below ((Below.refl _ w).alloc (Nat.le_refl _) o)
theorem Chg.setCells {B : Nat → Prop} (w : World) (b o : Nat) (vs : List Value) (hb : B b) : Chg B w (w.setCells b o vs) := by
  induction vs generalizing w o with
  | nil => exact Chg.refl _ _
  | cons v r ih =>
    refine Chg.trans ?_ (ih _ _)
    exact ⟨rfl, rfl, rfl, by simp [World.setCell], fun k hk hn => Below.heap_setCell _ _ _ _ (fun e => hn (e ▸ hb))⟩
theorem cells_in {w : World} {b : Nat} {cs : Array Value} {t : Nat} {fz : Nat × Nat} (h : w.heap[b]? = some (.cells cs t fz)) (o : Nat) : w.cell? ⟨b, o, none⟩ = cs[o]? := by
  simp [World.cell?, h]
theorem frozen_in {w : World} {b : Nat} {cs : Array Value} {t : Nat} (h : w.heap[b]? = some (.cells cs t (0, 0))) (o : Nat) : w.frozen? ⟨b, o, none⟩ = false := by
  simp [World.frozen?, h]
theorem heap_alloc_at (w : World) (o : Obj) : (w.alloc o).heap[w.heap.size]? = some o := by
  show (w.heap.push o)[w.heap.size]? = _
  simp
theorem obj_set {w : World} {pb po : Nat} {arr : Array Value} {t : Nat} (h : w.heap[pb]? = some (.cells arr t)) (v : Value) :
    (w.setCell ⟨pb, po, none⟩ v).heap[pb]? = some (.cells (arr.setIfInBounds po v) t) := by
  simp [World.setCell, Array.getElem?_modify, h]
theorem Chg.setCell {B : Nat → Prop} (w : World) (b o : Nat) (v : Value) (hb : B b) : Chg B w (w.setCell ⟨b, o, none⟩ v) :=
  ⟨rfl, rfl, rfl, by simp [World.setCell], fun k hk hn => Below.heap_setCell _ _ _ _ (fun e => hn (e ▸ hb))⟩
theorem Chg.of_grown {w w' : World} {v : Value} (h : w.grownBy w' v.ownBlock) : Chg (fun k => v.ownBlock = some k) w w' :=
  ⟨h.os, h.tape, h.output, h.size, fun k hk hn => h.block k hk fun e => hn e.symm⟩
theorem run_append_place {P : Program} (w : World) (t ty e : TypeId) (i : TypeInfo) (z : Value) (size bytes : Nat) (ht : P.underlying t = some (.slice e)) (hi : P.info? e = some i) (hz : i.zero = some z)
    (hsize : i.size = size) (hby : i.bytes = bytes) (hzs : z.cells.size = size) (hsz : 0 < size) (v : Value) (n : Nat) (xs : List Value) (hown : w.ownsRow 0 e size v n xs)
    (a : Addr) (m c : Nat) (news : List Value) (hl : news.length = m * size) (hnews : ∀ j u, news[j]? = some u → w.cell? (a.add j) = some u) (h1 : ∀ u ∈ news, u.oneCell' = true)
    (hm : 0 < m) (h63 : n + m ≤ maxLen) (hbytes : (n + m) * bytes ≤ 140737488355328) :
    ∃ v' w', (Builtin.append_ #[t, t] ty #[v, .slice (some a) m c]).run P w = .ok v' w' ∧ w'.ownsRow 0 e size v' (n + m) (xs ++ news) ∧ w.grownBy w' v.ownBlock ∧
      (v'.ownBlock = v.ownBlock ∨ ∃ g, v'.ownBlock = some g ∧ w.heap.size ≤ g) ∧ v' ≠ .slice none 0 0 := by
  obtain ⟨v', w', hr, h2, h3, h4⟩ := run_append_own (P := P) w 0 t ty e i z size bytes ht hi hz hsize hby hzs hsz v n xs hown a m c news hl hnews h1 h63 hbytes (Nat.zero_le _)
  refine ⟨v', w', hr, h2, h3, ?_, fun hv => by have := (h4.1 hv).2; omega⟩
  have hsmall : n + m ≤ 9223372036854775807 := by simp only [maxLen] at h63; omega
  rcases hown.2 with ⟨rfl, rfl⟩ | ⟨g, cap, cur, rfl, hbg, hg, hnc, hcm, hcs, htake⟩
  · obtain ⟨v'', w'', hr2, h2', h3', h4'⟩ := run_append_own (P := P) w w.heap.size t ty e i z size bytes ht hi hz hsize hby hzs hsz (.slice none 0 0) 0 xs ⟨hown.1, .inl ⟨rfl, rfl⟩⟩ a m c news hl hnews h1 h63 hbytes (Nat.le_refl _)
    rw [hr] at hr2
    injection hr2 with e1 e2
    subst e1 e2
    rcases h2'.2 with ⟨rfl, h0⟩ | ⟨g, cap, cur, rfl, hb, _⟩
    · omega
    · exact .inr ⟨g, rfl, hb⟩
  · subst hsize
    subst hby
    by_cases hroom : n + m ≤ cap
    · have hfit : n * i.size + news.length ≤ cur.size := by rw [hl, hcs, ← Nat.add_mul]; exact Nat.mul_le_mul_right _ hroom
      have hr2 := run_append_room (P := P) w t ty e i ht hi g n cap cur hg a m c news hl hnews h1 hroom hfit
      rw [hr] at hr2
      injection hr2 with e1 e2
      subst e1
      exact .inl rfl
    · have hr2 := run_append_grow (P := P) w t ty e i z ht hi hz ⟨g, 0, none⟩ n cap xs hown.1 (hown.cells (g := g) rfl) a m c news hl hnews (by omega) (by omega) (growslice_fits (by omega) hbytes)
      rw [hr] at hr2
      injection hr2 with e1 e2
      subst e1
      exact .inr ⟨_, rfl, Nat.le_refl _⟩
theorem cells_new (w : World) (news : List Value) (t : TypeId) : ∀ j u, news[j]? = some u → (w.alloc (.cells news.toArray t)).cell? ((⟨w.heap.size, 0, none⟩ : Addr).add j) = some u := by
  intro j u hj
  have : (⟨w.heap.size, 0, none⟩ : Addr).add j = ⟨w.heap.size, j, none⟩ := by unfold Addr.add; split <;> simp_all
  rw [this, cells_in (heap_alloc_at w _)]
  simp [hj]
theorem app_tag_wp {P : Program} {w : World} {o : Oper} {a : Act} {K : Act → World → Prop} {Q : Exit → Act → World → Prop} (s x : Operand) (t : TypeId)
    (ho : o.op = .call { callee := .builtin .append, args := #[s, x], argTypes := #[t, t] })
    (e : Nat) (z : Value) (size bytes : Nat) (ht : P.underlying t = some (.slice e)) (hinf : (P.info? e).map (fun i => (i.zero, i.size, i.bytes)) = some (some z, size, bytes))
    (hzs : z.cells.size = size) (hsz : 0 < size) (hb : bytes ≤ 100)
    (v : Value) (n : Nat) (xs : List Value) (hown : w.ownsRow 0 e size v n xs) (hs : a.eval s = v)
    (news : List Value) (n0 : Nat) (hx : a.eval x = .slice (some ⟨n0, 0, none⟩) 1 1) (hn0 : n0 = w.heap.size) (hl : news.length = size) (h1 : ∀ u ∈ news, u.oneCell' = true)
    (hn : n ≤ 1000000000000)
    (h : ∀ v' w', w'.ownsRow 0 e size v' (n + 1) (xs ++ news) → Chg (fun k => v.ownBlock = some k) w w' → (v'.ownBlock = v.ownBlock ∨ ∃ g, v'.ownBlock = some g ∧ w.heap.size ≤ g) → v' ≠ .slice none 0 0 →
      K (a.put o.dst v') w') :
    o.wp P a (w.alloc (.cells news.toArray e)) K Q := by
  subst hn0
  obtain ⟨i, hi, hz, hsize, hby⟩ := info_parts hinf
  obtain ⟨v', w', hr, h2, h3, h4, h5⟩ := run_append_place (P := P) (w.alloc (.cells news.toArray e)) t o.type e i z size bytes ht hi hz hsize hby hzs hsz v n xs (hown.alloc _) ⟨w.heap.size, 0, none⟩ 1 1 news (by omega)
    (cells_new w news e) h1 (by omega) (by unfold maxLen; omega) (by have : (n + 1) * bytes ≤ (n + 1) * 100 := Nat.mul_le_mul_left _ hb; omega)
  unfold Oper.wp execOp
  simp only [ho, resolve, invoke, builtin, Sem.run_bind, Sem.run_pure, Result.andThen_ok, List.map_toArray, List.map_cons, List.map_nil, hs, hx, hr]
  refine h v' w' h2 ?_ ?_ h5
  · have c1 : Chg (fun k => v.ownBlock = some k) w (w.alloc (.cells news.toArray e)) := Chg.alloc _ _ _
    exact c1.trans (Chg.of_grown h3)
  · refine h4.imp id ?_
    rintro ⟨g, h6, h7⟩
    exact ⟨g, h6, by simp at h7; omega⟩
theorem app_tag {P : Program} {w : World} {ops : Array Oper} {rest : List Oper} {o : Oper} {a : Act} {Q : Exit → Act → World → Prop} (hg : o.guard = none) (s x : Operand) (t : TypeId)
    (ho : o.op = .call { callee := .builtin .append, args := #[s, x], argTypes := #[t, t] })
    (e : Nat) (z : Value) (size bytes : Nat) (ht : P.underlying t = some (.slice e)) (hinf : (P.info? e).map (fun i => (i.zero, i.size, i.bytes)) = some (some z, size, bytes))
    (hzs : z.cells.size = size) (hsz : 0 < size) (hb : bytes ≤ 100)
    (v : Value) (n : Nat) (xs : List Value) (hown : w.ownsRow 0 e size v n xs) (hs : a.eval s = v)
    (news : List Value) (n0 : Nat) (hx : a.eval x = .slice (some ⟨n0, 0, none⟩) 1 1) (hn0 : n0 = w.heap.size) (hl : news.length = size) (h1 : ∀ u ∈ news, u.oneCell' = true)
    (hn : n ≤ 1000000000000)
    (h : ∀ v' w', w'.ownsRow 0 e size v' (n + 1) (xs ++ news) → Chg (fun k => v.ownBlock = some k) w w' → (v'.ownBlock = v.ownBlock ∨ ∃ g, v'.ownBlock = some g ∧ w.heap.size ≤ g) → v' ≠ .slice none 0 0 →
      wpList P ops Q rest (a.put o.dst v') w') :
    wpList P ops Q (o :: rest) a (w.alloc (.cells news.toArray e)) := by
  refine wpList_plain hg fun K hK => ?_
  exact app_tag_wp s x t ho e z size bytes ht hinf hzs hsz hb v n xs hown hs news n0 hx hn0 hl h1 hn fun v' w' a1 a2 a3 a4 => hK _ _ (h v' w' a1 a2 a3 a4)
theorem owns_slice {w : World} {base e size n : Nat} {v : Value} {xs : List Value} (h : w.ownsRow base e size v n xs) : ∃ oa m c, v = .slice oa m c := by
  rcases h.2 with ⟨rfl, _⟩ | ⟨g, cap, cur, rfl, _⟩
  · exact ⟨_, _, _, rfl⟩
  · exact ⟨_, _, _, rfl⟩
def Made (B : Nat) (w : World) (e size : Nat) (v : Value) (n : Nat) (xs : List Value) : Prop := w.ownsRow 0 e size v n xs ∧ ∀ g, v.ownBlock = some g → B ≤ g
theorem Made.grow {B e size n n' : Nat} {w w' : World} {v v' : Value} {xs xs' : List Value} (h : Made B w e size v n xs) (hB : B ≤ w.heap.size) (hown : w'.ownsRow 0 e size v' n' xs') (hp : v'.ownBlock = v.ownBlock ∨ ∃ g, v'.ownBlock = some g ∧ w.heap.size ≤ g) : Made B w' e size v' n' xs' :=
  ⟨hown, fun g hg => by
    rcases hp with e | ⟨g', e, hg'⟩
    · exact h.2 g (e ▸ hg)
    · rw [e] at hg; cases hg; omega⟩
theorem Made.below {B e size n : Nat} {w0 w w' : World} {v : Value} {xs : List Value} (h : Made B w e size v n xs) (hB : B ≤ w0.heap.size) (hb : Below B w0 w) (hc : Chg (fun k => v.ownBlock = some k) w w') : Below B w0 w' :=
  ⟨hc.os.trans hb.os, hc.tape.trans hb.tape, hc.output.trans hb.output, Nat.le_trans hb.size hc.size, fun k hk => (hc.block k (by have := hb.size; omega) (fun e => by have := h.2 k e; omega)).trans (hb.block k hk)⟩
theorem cells_at {w : World} {g : Nat} {cur : Array Value} {e : Nat} (hh : w.heap[g]? = some (.cells cur e)) {n : Nat} {xs : List Value} (ht : cur.toList.take n = xs) {i : Nat} {u : Value} (hu : xs[i]? = some u) : w.cell? ⟨g, i, none⟩ = some u := by
  rw [cells_in hh]
  subst ht
  rw [List.getElem?_take] at hu
  split at hu
  · simpa using hu
  · cases hu
theorem owns_keep {w w' : World} {e size n : Nat} {v : Value} {xs : List Value} {P : Nat → Prop} (h : w.ownsRow 0 e size v n xs) (hc : Chg P w w') (hn : ∀ g, v.ownBlock = some g → ¬ P g) : w'.ownsRow 0 e size v n xs := by
  refine ⟨h.1, ?_⟩
  rcases h.2 with h0 | ⟨g, cap, cur, rfl, p1, p2, p3⟩
  · exact .inl h0
  · exact .inr ⟨g, cap, cur, rfl, p1, by rw [hc.block g (Array.getElem?_eq_some_iff.1 p2).1 (hn g rfl)]; exact p2, p3⟩
theorem made_keep {B : Nat} {w w' : World} {e size n : Nat} {v : Value} {xs : List Value} {P : Nat → Prop} (h : Made B w e size v n xs) (hc : Chg P w w') (hP : ∀ k, P k → k < B) : Made B w' e size v n xs :=
  ⟨owns_keep h.1 hc fun g hg hp => by have := h.2 g hg; have := hP g hp; omega, h.2⟩
theorem app_all {P : Program} {w : World} {ops : Array Oper} {rest : List Oper} {o : Oper} {a : Act} {Q : Exit → Act → World → Prop} (hg : o.guard = none) (s x : Operand) (t : TypeId)
    (ho : o.op = .call { callee := .builtin .append, args := #[s, x], argTypes := #[t, t] })
    (e : Nat) (z : Value) (size bytes : Nat) (ht : P.underlying t = some (.slice e)) (hinf : (P.info? e).map (fun i => (i.zero, i.size, i.bytes)) = some (some z, size, bytes))
    (hzs : z.cells.size = size) (hsz : 0 < size) (hb : bytes ≤ 100)
    (hs : a.eval s = .slice none 0 0) (ad : Addr) (m c : Nat) (news : List Value) (hx : a.eval x = .slice (some ad) m c) (hl : news.length = m * size) (hnews : ∀ j u, news[j]? = some u → w.cell? (ad.add j) = some u) (h1 : ∀ u ∈ news, u.oneCell' = true)
    (hm : 0 < m) (hn : m ≤ 1000000000000)
    (h : ∀ v' w', w'.ownsRow 0 e size v' m news → Chg (fun _ => False) w w' → (∃ g, v'.ownBlock = some g ∧ w.heap.size ≤ g) → wpList P ops Q rest (a.put o.dst v') w') :
    wpList P ops Q (o :: rest) a w := by
  refine wpList_plain hg fun K hK => ?_
  obtain ⟨i, hi, hz, hsize, hby⟩ := info_parts hinf
  obtain ⟨v', w', hr, h2, h3, h4, h5⟩ := run_append_place (P := P) w t o.type e i z size bytes ht hi hz hsize hby hzs hsz (.slice none 0 0) 0 [] (World.ownsRow_nil _ _ _ _) ad m c news hl hnews h1 hm (by unfold maxLen; omega)
    (by have : (0 + m) * bytes ≤ (0 + m) * 100 := Nat.mul_le_mul_left _ hb; omega)
  unfold Oper.wp execOp
  simp only [ho, resolve, invoke, builtin, Sem.run_bind, Sem.run_pure, Result.andThen_ok, List.map_toArray, List.map_cons, List.map_nil, hs, hx, hr]
  rw [Nat.zero_add, List.nil_append] at h2
  refine hK _ _ (h v' w' h2 ((Chg.of_grown h3).mono fun k _ e => by cases e) ?_)
  rcases h4 with h4 | h4
  · rcases h2.2 with ⟨rfl, _⟩ | ⟨g, cap, cur, rfl, _⟩
    · exact absurd rfl h5
    · cases h4
  · exact h4
theorem chg_cell {P : Nat → Prop} {w w' : World} {g o : Nat} {u : Value} (hc : Chg P w w') (hn : ¬ P g) (h : w.cell? ⟨g, o, none⟩ = some u) : w'.cell? ⟨g, o, none⟩ = some u := by
  have hb := World.block_lt_of_cell? w _ h
  have := hc.block g hb hn
  unfold World.cell? at h ⊢
  simp only at h ⊢
  rw [this]
  exact h
theorem below_drewN {B : Nat} {w w' : World} (h : Below B w w') (q : Nat) : Below B w (w'.drewN q) := ⟨h.os, h.tape, h.output, h.size, h.block⟩
theorem below_drew {B : Nat} {w w' : World} (h : Below B w w') : Below B w w'.drew := ⟨h.os, h.tape, h.output, h.size, h.block⟩
/-- A row after something else has been made. -/
theorem Made.later {B : Nat} {w w' : World} {e size n : Nat} {v : Value} {xs : List Value} (h : Made B w e size v n xs) (hb : Below w.heap.size w w') : Made B w' e size v n xs :=
  ⟨owns_keep (P := fun _ => False) h.1 (Chg.below hb) (fun _ _ h => h), h.2⟩
theorem Made.nil (B : Nat) (w : World) (e size : Nat) : Made B w e size (.slice none 0 0) 0 [] := ⟨World.ownsRow_nil _ _ _ _, fun g hg => by cases hg⟩
theorem info9 : (Tryz.prog.info? 9).map (fun i => (i.zero, i.size, i.bytes)) = some (some (.string ⟨#[]⟩), 1, 16) := by kernel_rfl
theorem info26 : (Tryz.prog.info? 30).map (fun i => (i.zero, i.size, i.bytes)) = some (some (.agg #[.int .i64 0, .slice none 0 0, .slice none 0 0]), 3, 56) := by kernel_rfl
end Go.Proofs.YtfljnigbfacmjaaGreatDoor
