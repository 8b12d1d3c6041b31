/- The reference's parser: one more attribute, in its place. -/
import Derived.Test.YtfljnigbfacmjaaDoorRPa
import Derived.Test.YtfljnigbfacmjaaDoorPUni
import Derived.Deep.DeepCutAuto
import Derived.Deep.CutBlock
namespace Go.Proofs.YtfljnigbfacmjaaDoor
open Go Go.RowKit Go.Proofs.YtfljnigbfacmjaaDoor.Steady
set_option linter.unusedVariables false

def mrg {α : Type} (l : List α) (p : Nat) (x : α) (j : Nat) : List α := if p < j then l.take p ++ x :: (l.drop p).take (j - p) else l.take j
theorem mrg_zero {α : Type} (l : List α) (p : Nat) (x : α) : mrg l p x 0 = [] := by unfold mrg; rw [if_neg (by omega), List.take_zero]
theorem mrg_next {α : Type} {l : List α} {p : Nat} {x : α} {j : Nat} (hj : j < l.length) (h : j ≠ p) : mrg l p x (j + 1) = mrg l p x j ++ [l[j]] := by
  unfold mrg
  by_cases hp : p < j
  · rw [if_pos (by omega), if_pos hp, show j + 1 - p = (j - p) + 1 by omega, List.take_add_one, List.getElem?_drop, show p + (j - p) = j by omega, List.getElem?_eq_getElem hj]
    simp
  · rw [if_neg (by omega), if_neg hp, List.take_add_one, List.getElem?_eq_getElem hj]; rfl
theorem mrg_put {α : Type} {l : List α} {x : α} {j : Nat} (hj : j < l.length) : mrg l j x (j + 1) = (mrg l j x j ++ [x]) ++ [l[j]] := by
  unfold mrg
  rw [if_pos (by omega), if_neg (by omega), show j + 1 - j = 0 + 1 by omega, List.take_add_one, List.getElem?_drop, Nat.add_zero, List.getElem?_eq_getElem hj]
  simp
theorem mrg_end {α : Type} {l : List α} {p : Nat} {x : α} (h : p < l.length) : mrg l p x l.length = l.insertIdx p x := by
  unfold mrg
  have e : (l.drop p).take (l.length - p) = l.drop p := List.take_of_length_le (by simp)
  rw [if_pos h, insertIdx_eq l p x (by omega), e]
theorem mrg_last {α : Type} {l : List α} {x : α} : mrg l l.length x l.length ++ [x] = l.insertIdx l.length x := by
  unfold mrg
  rw [if_neg (by omega), insertIdx_eq l _ x (Nat.le_refl _)]; simp
theorem mrg_len {α : Type} (l : List α) (p : Nat) (x : α) (j : Nat) : (mrg l p x j).length ≤ l.length + 1 := by
  unfold mrg
  split <;> simp <;> omega
theorem Made.lt {B e size n : Nat} {w : World} {v : Value} {xs : List Value} (h : Made B w e size v n xs) {g : Nat} (hg : v.ownBlock = some g) : B ≤ g ∧ g < w.heap.size := by
  refine ⟨h.2 g hg, ?_⟩
  rcases h.1.2 with ⟨rfl, h0⟩ | ⟨g', cap, cur, rfl, p1, p2, _⟩
  · cases hg
  · cases hg; exact (Array.getElem?_eq_some_iff.1 p2).1

theorem posT_stop : ∀ (ns : List ByteArray) (x : ByteArray), posT ns x < ns.length → ltS (ns.getD (posT ns x) ByteArray.empty) x = false
  | [], x, h => by simp at h
  | a :: ns, x, h => by
    unfold posT at h ⊢
    by_cases hh : ltS a x = true
    · rw [if_pos hh] at h ⊢
      exact posT_stop ns x (by simpa using h)
    · rw [if_neg hh]
      simpa using hh

structure QI (P : Nat → Prop) (w wr : World) (a1 a2 a3 b1 b2 b3 ve vn : Value) (es : List Ty) (ns : List ByteArray) : Prop where
  bel : Below w.heap.size w wr
  tb : wr.heap[w.heap.size]? = some (.cells #[a1, a2, a3] 26)
  xb : wr.heap[w.heap.size + 1]? = some (.cells #[b1, b2, b3] 26)
  z : wr.heap[w.heap.size + 1 + 1]? = some (.cells #[.int .i64 0, .slice none 0 0, .slice none 0 0] 26)
  obj : wr.heap[w.heap.size + 1 + 1 + 1]? = some (.cells #[.int .i64 6, ve, vn] 26)
  own : OwnL (w.heap.size + 4) (w.heap.size + 3) (fun g => ((P g ∧ g < w.heap.size) ∨ w.heap.size + 4 ≤ g) ∧ vn.ownBlock ≠ some g) wr ve es
  row : Made (w.heap.size + 4) wr 9 1 vn ns.length (ns.map .string)
  apart : ∀ g, vn.ownBlock = some g → ve.ownBlock ≠ some g
section
variable {P : Nat → Prop} {w wr w' : World} {a1 a2 a3 b1 b2 b3 ve vn v' : Value} {es : List Ty} {ns : List ByteArray}
theorem QI.tlt (h : QI P w wr a1 a2 a3 b1 b2 b3 ve vn es ns) : w.heap.size + 3 < wr.heap.size := (Array.getElem?_eq_some_iff.1 h.obj).1
theorem QI.later (h : QI P w wr a1 a2 a3 b1 b2 b3 ve vn es ns) (hb : Below wr.heap.size wr w') : QI P w w' a1 a2 a3 b1 b2 b3 ve vn es ns := by
  have ht := h.tlt
  exact ⟨h.bel.trans (hb.mono h.bel.size), (hb.block _ (by omega)).trans h.tb, (hb.block _ (by omega)).trans h.xb, (hb.block _ (by omega)).trans h.z, (hb.block _ ht).trans h.obj, h.own.later hb, h.row.later hb, h.apart⟩
theorem QI.pushN (h : QI P w wr a1 a2 a3 b1 b2 b3 ve vn es ns) {x : ByteArray} (hown : w'.ownsRow 0 9 1 v' (ns.length + 1) (ns.map .string ++ [.string x])) (hc : Chg (fun k => vn.ownBlock = some k) wr w')
    (hp : v'.ownBlock = vn.ownBlock ∨ ∃ g, v'.ownBlock = some g ∧ wr.heap.size ≤ g) : QI P w (w'.setCell ⟨w.heap.size + 1 + 1 + 1, 2, none⟩ v') a1 a2 a3 b1 b2 b3 ve v' es (ns ++ [x]) := by
  have ht := h.tlt
  have hc2 : Chg (fun k => k = w.heap.size + 3) w' (w'.setCell ⟨w.heap.size + 1 + 1 + 1, 2, none⟩ v') := Chg.setCell w' (w.heap.size + 3) 2 v' rfl
  have hno : ∀ k, k ≤ w.heap.size + 3 → ¬ vn.ownBlock = some k := fun k hk e => by have := (h.row.lt e).1; omega
  have hst : ∀ k o, k < w.heap.size + 3 → wr.heap[k]? = some o → (w'.setCell ⟨w.heap.size + 1 + 1 + 1, 2, none⟩ v').heap[k]? = some o := fun k o hk e =>
    (hc2.block _ (Nat.lt_of_lt_of_le (by omega) hc.size) (by omega)).trans ((hc.block _ (by omega) (hno _ (by omega))).trans e)
  have hb5 := h.bel.trans (chg_below hc (fun k hk => by have := (h.row.lt hk).1; omega) h.bel.size)
  refine ⟨hb5.trans (chg_below hc2 (fun k hk => by omega) hb5.size), hst _ _ (by omega) h.tb, hst _ _ (by omega) h.xb, hst _ _ (by omega) h.z, ?_, ?_, ?_, ?_⟩
  · exact obj_set ((hc.block _ ht (hno _ (Nat.le_refl _))).trans h.obj) v'
  · refine ((h.own.mono (R' := fun g => (((P g ∧ g < w.heap.size) ∨ w.heap.size + 4 ≤ g) ∧ v'.ownBlock ≠ some g) ∧ vn.ownBlock ≠ some g) fun g hlt hg => ⟨⟨hg.1, ?_⟩, hg.2⟩).chg hc (fun g hg e => h.apart g e hg) (fun g hg _ e => hg.2 e)).mono (R' := fun g => ((P g ∧ g < w.heap.size) ∨ w.heap.size + 4 ≤ g) ∧ v'.ownBlock ≠ some g) (fun g _ hg => hg.1) |>.store (Nat.lt_succ_self _) v'
    rcases hp with e | ⟨g', e, hg'⟩
    · rw [e]; exact hg.2
    · rw [e]; intro e2; cases e2; omega
  · have := made_keep (h.row.grow (by omega) hown hp) hc2 (fun k hk => by omega)
    rw [List.length_append, List.map_append]; exact this
  · intro g hg e
    rcases hp with e1 | ⟨g', e1, hg'⟩
    · exact h.apart g (e1 ▸ hg) e
    · rw [e1] at hg; cases hg; have := (h.own.block e).2; omega
theorem QI.pushE (h : QI P w wr a1 a2 a3 b1 b2 b3 ve vn es ns) {rs : List (Value × Value × Value)} {x y z : Value} {t : Ty} (hm : Made (w.heap.size + 4) wr 26 3 ve es.length (flat rs)) (hl : rs.length = es.length)
    (he : ∀ (i : Nat) r t, rs[i]? = some r → es[i]? = some t → TV (fun g => (((P g ∧ g < w.heap.size) ∨ w.heap.size + 4 ≤ g) ∧ vn.ownBlock ≠ some g) ∧ g < wr.heap.size ∧ g ≠ w.heap.size + 3 ∧ ve.ownBlock ≠ some g) wr (tri r) t)
    (hr : w'.ownsRow 0 26 3 v' (es.length + 1) (flat rs ++ [x, y, z])) (ht : TV (fun g => P g ∧ g < w.heap.size) wr (.agg #[x, y, z]) t)
    (hc : Chg (fun k => ve.ownBlock = some k) wr w') (hp : v'.ownBlock = ve.ownBlock ∨ ∃ g, v'.ownBlock = some g ∧ wr.heap.size ≤ g) : QI P w (w'.setCell ⟨w.heap.size + 1 + 1 + 1, 1, none⟩ v') a1 a2 a3 b1 b2 b3 v' vn (es ++ [t]) ns := by
  have htl := h.tlt
  have hc2 : Chg (fun k => k = w.heap.size + 3) w' (w'.setCell ⟨w.heap.size + 1 + 1 + 1, 1, none⟩ v') := Chg.setCell w' (w.heap.size + 3) 1 v' rfl
  have hno : ∀ k, k ≤ w.heap.size + 3 → ¬ ve.ownBlock = some k := fun k hk e => by have := (h.own.block e).1; omega
  have hst : ∀ k o, k < w.heap.size + 3 → wr.heap[k]? = some o → (w'.setCell ⟨w.heap.size + 1 + 1 + 1, 1, none⟩ v').heap[k]? = some o := fun k o hk e =>
    (hc2.block _ (Nat.lt_of_lt_of_le (by omega) hc.size) (by omega)).trans ((hc.block _ (by omega) (hno _ (by omega))).trans e)
  have hb5 := h.bel.trans (chg_below hc (fun k hk => by have := (h.own.block hk).1; omega) h.bel.size)
  have hown := OwnL.push (box := w.heap.size + 3) (R := fun g => ((P g ∧ g < w.heap.size) ∨ w.heap.size + 4 ≤ g) ∧ vn.ownBlock ≠ some g) (by omega) ⟨rs, hm, hl, he, hr⟩ ht (fun g hg => ⟨⟨.inl hg, fun e => by have := (h.row.lt e).1; omega⟩, by omega, fun e => by have := (h.own.block e).1; omega⟩) hc hp
  refine ⟨hb5.trans (chg_below hc2 (fun k hk => by omega) hb5.size), hst _ _ (by omega) h.tb, hst _ _ (by omega) h.xb, hst _ _ (by omega) h.z, ?_, ?_, ?_, ?_⟩
  · exact obj_set ((hc.block _ htl (hno _ (Nat.le_refl _))).trans h.obj) v'
  · exact hown.store (Nat.lt_succ_self _) v'
  · exact made_keep ⟨owns_keep h.row.1 hc fun g hg e => h.apart g hg e, h.row.2⟩ hc2 (fun k hk => by omega)
  · intro g hg e
    rcases hp with e1 | ⟨g', e1, hg'⟩
    · exact h.apart g hg (e1 ▸ e)
    · rw [e1] at e; cases e; have := (h.row.lt hg).2; omega
theorem QI.read (h : QI P w wr a1 a2 a3 b1 b2 b3 ve vn es ns) (hl : es.length ≤ 140737488355328) (hl2 : ns.length ≤ 140737488355328) (hs : ∀ x ∈ ns, x.size ≤ 140737488355328) :
    TV (fun g => (P g ∧ g < w.heap.size) ∨ w.heap.size + 4 ≤ g) wr (.agg #[.int .i64 6, ve, vn]) (.mk 6 es ns) := by
  refine TV.mk' ⟨⟨by simpa using hl2, ?_⟩, hs⟩ ((h.own.mono (R' := fun g => (P g ∧ g < w.heap.size) ∨ w.heap.size + 4 ≤ g) fun g _ hg => hg.1).read (fun g hg => .inr hg) hl)
  rcases h.row.1.2 with ⟨h1, h2⟩ | ⟨g, cap, cur, h1, p1, p2, p3, p4, p5, p6⟩
  · refine .inl ⟨?_, none, 0, h1⟩
    have h3 : ns.length = 0 := by omega
    rw [List.eq_nil_of_length_eq_zero h3]; rfl
  · refine .inr ⟨g, 0, cap, .inr (h.row.2 g (by rw [h1]; rfl)), by rw [List.length_map]; exact h1, fun i u hu => ?_⟩
    have := cells_at p2 p6 hu
    simpa using this
end
set_option maxRecDepth 100000 in
set_option maxHeartbeats 4000000 in
theorem put_any (P : Nat → Prop) (w : World) (u v : Value) (es : List Ty) (ns : List ByteArray) (x : ByteArray) (t : Ty) (k : Int) (hu : TV P w u (.mk k es ns)) (hv : TV P w v t) (hl : es.length = ns.length) (hn : ns.length ≤ 1000000) (hx : ∀ y ∈ ns, y ≠ x) (hxs : x.size ≤ 140737488355328) :
    Calls Tryd.prog 81 #[u, .string x, v] w fun e w' => ∃ r, e = .returned r ∧ TV (fun g => P g ∨ w.heap.size ≤ g) w' r (.mk 6 (es.insertIdx (posT ns x) t) (ns.insertIdx (posT ns x) x)) ∧ Below w.heap.size w w' := by
  obtain ⟨kx, ex, nx⟩ := t
  have hu := hu.ex
  have hv := hv.ex
  obtain ⟨va, vb, rfl, hE, hN⟩ := hu.out
  obtain ⟨oa, ca, rfl⟩ := hE.len
  obtain ⟨ob, cb, rfl⟩ := hN.len
  obtain ⟨vc, vd, rfl, hE2, hN2⟩ := hv.out
  obtain ⟨oc, cc, rfl⟩ := hE2.len
  obtain ⟨od, cd, rfl⟩ := hN2.len
  have HU := hid hu
  have HV := hid hv
  have HE := hid hE
  have HN := hid hN
  clear hu hv hE hN hE2 hN2
  generalize hA : w.alloc (.cells #[.int .i64 k, .slice oa es.length ca, .slice ob ns.length cb] 26) = wa
  have ha : Below w.heap.size w wa := by rw [← hA]; exact (Below.refl _ _).alloc (Nat.le_refl _) _
  have has : wa.heap.size = w.heap.size + 1 := by rw [← hA]; simp
  have hao : wa.heap[w.heap.size]? = some (.cells #[.int .i64 k, .slice oa es.length ca, .slice ob ns.length cb] 26) := by rw [← hA]; exact heap_alloc_at w _
  generalize hB : wa.alloc (.cells #[.int .i64 kx, .slice oc ex.length cc, .slice od nx.length cd] 26) = wb
  have hb : Below wa.heap.size wa wb := by rw [← hB]; exact (Below.refl _ _).alloc (Nat.le_refl _) _
  have hbs : wb.heap.size = w.heap.size + 1 + 1 := by rw [← hB]; simp [has]
  have hbo : wb.heap[w.heap.size + 1]? = some (.cells #[.int .i64 kx, .slice oc ex.length cc, .slice od nx.length cd] 26) := by rw [← hB, ← has]; exact heap_alloc_at wa _
  generalize hC : wb.alloc (.cells #[.int .i64 0, .slice none 0 0, .slice none 0 0] 26) = wc
  have hc : Below wb.heap.size wb wc := by rw [← hC]; exact (Below.refl _ _).alloc (Nat.le_refl _) _
  have hcs : wc.heap.size = w.heap.size + 1 + 1 + 1 := by rw [← hC]; simp [hbs]
  have hco : wc.heap[w.heap.size + 1 + 1]? = some (.cells #[.int .i64 0, .slice none 0 0, .slice none 0 0] 26) := by rw [← hC, ← hbs]; exact heap_alloc_at wb _
  generalize hD : wc.alloc (.cells #[.int .i64 6, .slice none 0 0, .slice none 0 0] 26) = wd
  have hd : Below wc.heap.size wc wd := by rw [← hD]; exact (Below.refl _ _).alloc (Nat.le_refl _) _
  have hdo : wd.heap[w.heap.size + 1 + 1 + 1]? = some (.cells #[.int .i64 6, .slice none 0 0, .slice none 0 0] 26) := by rw [← hD, ← hcs]; exact heap_alloc_at wc _
  have hq : QI P w wd (.int .i64 k) (.slice oa es.length ca) (.slice ob ns.length cb) (.int .i64 kx) (.slice oc ex.length cc) (.slice od nx.length cd) (.slice none 0 0) (.slice none 0 0) [] [] := by
    refine ⟨ha.trans ((hb.mono ha.size).trans ((hc.mono (by omega)).trans (hd.mono (by omega)))), ?_, ?_, ?_, hdo, OwnL.nil _ _ _ _, Made.nil _ _ _ _, fun g hg => by cases hg⟩
    · exact (hd.block _ (by omega)).trans ((hc.block _ (by omega)).trans ((hb.block _ (by omega)).trans hao))
    · exact (hd.block _ (by omega)).trans ((hc.block _ (by omega)).trans hbo)
    · exact (hd.block _ (by omega)).trans hco
  have HA := hid hA
  have HB := hid hB
  have HC := hid hC
  have HD := hid hD
  have HQ := hid hq
  have HX := hid hx
  obtain ⟨p, hp⟩ : ∃ p, posT ns x = p := ⟨_, rfl⟩
  have hpl : p ≤ ns.length := by rw [← hp]; exact posT_le _ _
  have HL := hid (fun j (h : j < p) => posT_lt ns x j (by rw [hp]; exact h))
  have HPP := hid hp
  rw [hp]
  have HSZ := hid (show ∀ y ∈ ns.insertIdx p x, y.size ≤ 140737488355328 from fun y hy => by
    rcases (List.mem_insertIdx hpl).1 hy with rfl | hy
    · exact hxs
    · exact HN.out.2 y hy)
  have HLN := hid hl
  have hn2 : es.length ≤ 1000000 := by omega
  clear hl hA hB hC hD hq ha hb hc hd has hbs hcs hao hbo hco hdo hx hp
  go_enter Tryd.func81, Tryd.ntmps81
  go_wp2_with fail
  rw [HA.out, HB.out, HC.out, HD.out]
  go_loopw [8, 9] (fun d i wr => ∃ j : Nat, j ≤ ns.length ∧ d = .bool (decide (p < j)) ∧ i = .int .i64 j ∧ ∃ ve vn, Hid (QI P w wr (.int .i64 k) (.slice oa es.length ca) (.slice ob ns.length cb) (.int .i64 kx) (.slice oc ex.length cc) (.slice od nx.length cd) ve vn (mrg es p (.mk kx ex nx) j) (mrg ns p x j))) (fun d i _ => ns.length - (intOf i).toNat)
  case atStart => exact ⟨0, Nat.zero_le _, by rw [decide_eq_false (by omega)], rfl, _, _, by rw [mrg_zero, mrg_zero]; exact HQ⟩
  case round =>
    obtain ⟨j, hj, rfl, rfl, ve, vn, Q⟩ := hrel
    have n2 := (cells_in Q.out.tb 2).trans rfl
    by_cases hlt : j < ns.length
    · have hlt2 : j < es.length := by rw [HLN.out]; exact hlt
      obtain ⟨g2, o2', c2, e2, q1⟩ := HN.out.at hlt
      cases e2
      have q2 := bcell Q.out.bel q1
      have hj0 : (0 : Int) ≤ (j : Int) := by omega
      have hj1 : (j : Int) < (ns.length : Int) := by omega
      rcases Nat.lt_trichotomy p j with hpj | hpj | hpj
      · have d1 : decide (p < j) = true := decide_eq_true hpj
        rw [d1]
        have HM1 := hid (mrg_next (l := es) (x := .mk kx ex nx) hlt2 (Nat.ne_of_gt hpj))
        have HM2 := hid (mrg_next (l := ns) (x := x) hlt (Nat.ne_of_gt hpj))
        have HD' := hid (show decide (p < j + 1) = true from decide_eq_true (by omega))
        have b1 := mrg_len es p (.mk kx ex nx) j
        have b2 := mrg_len ns p x j
        generalize mrg es p (.mk kx ex nx) j = LE at *
        generalize mrg ns p x j = LN at *
        clear hpj d1
        go_wp2_with fail
        obtain ⟨oe, me, ce, hve⟩ := Q.out.own.slice
        obtain ⟨on, mn, cn, hvn⟩ := owns_slice Q.out.row.1
        subst hve hvn
        have x2 := (cells_in Q.out.obj 2).trans rfl
        have n2 := (cells_in Q.out.tb 2).trans rfl
        have q2 := bcell Q.out.bel q1
        refine wp_region_steady_tail 10 (fun v => v.cell? ⟨w.heap.size + 1 + 1 + 1, 2, none⟩ = some (.slice on mn cn) ∧ v.cell? ⟨w.heap.size, 2, none⟩ = some (.slice (some ⟨g2, o2', none⟩) ns.length cb) ∧ v.cell? ⟨g2, o2' + j, none⟩ = some (.string ns[j])) (by kernel_rfl) (by kernel_rfl) (⟨x2, n2, q2⟩) ?_
        simp only [List.take_succ_cons, List.take_zero, List.drop_succ_cons, List.drop_zero]
        repeat (first
          | (refine wpSteady_skip (by rfl) ?_; try simp only [Act.put, List.setIfInBounds_toArray, List.set_cons_zero, List.set_cons_succ])
          | (refine wpSteady_calm (v := ?_) (by rfl) ?_ ?_; rotate_left; (focus (intro v hSv; (try dsimp only at hSv); go_simp; (try rw [if_neg (by omega)]); (try with_reducible rfl); done)); try simp only [Act.put, List.setIfInBounds_toArray, List.set_cons_zero, List.set_cons_succ]))
        refine wpSteady_loud rfl (by rfl) (fun K hK => ?_)
        go_simp
        have hal : Below wr.drew.heap.size wr.drew (wr.drew.alloc (.cells #[.string ns[j]] 9)) := (Below.refl _ _).alloc (Nat.le_refl _) _
        refine hK.out _ _ (⟨bcell (W := wr.drew) hal x2, bcell (W := wr.drew) hal n2, bcell (W := wr.drew) hal q2⟩) ?_
        clear hK K
        try simp only [Act.put, List.setIfInBounds_toArray, List.set_cons_zero, List.set_cons_succ]
        repeat (first
          | (refine wpSteady_skip (by rfl) ?_; try simp only [Act.put, List.setIfInBounds_toArray, List.set_cons_zero, List.set_cons_succ])
          | (refine wpSteady_calm (v := ?_) (by rfl) ?_ ?_; rotate_left; (focus (intro v hSv; (try dsimp only at hSv); go_simp; (try rw [if_neg (by omega)]); (try with_reducible rfl); done)); try simp only [Act.put, List.setIfInBounds_toArray, List.set_cons_zero, List.set_cons_succ]))
        clear hal
        refine wpSteady_loud rfl (by rfl) (fun K hK => ?_)
        have QD := hid (Q.out.later (below_drew (Below.refl _ _)))
        have hno : ∀ g, g ≤ w.heap.size + 3 → ¬ (Value.slice on mn cn).ownBlock = some g := fun g hg e => by have := (QD.out.row.lt e).1; omega
        refine app_tag_wp (.tmp 42) (.tmp 48) 24 (by rfl) 9 (.string ⟨#[]⟩) 1 16 Tryd.underlying24 info9 rfl (by decide) (by decide) _ _ _ QD.out.row.1 (by rfl) [.string ns[j]] wr.drew.heap.size (by rfl) (by rfl) (by rfl) (by simp [Value.oneCell']) (by omega) ?_
        intro v5 w5 hown5 hc5 hp5 hne5
        obtain ⟨o5, n5, c5, rfl⟩ := owns_slice hown5
        have hX5 := (hc5.block _ QD.out.tlt (hno _ (Nat.le_refl _))).trans QD.out.obj
        have lt2 : g2 < w.heap.size := World.block_lt_of_cell? w _ q1
        refine hK.out _ _ ⟨chg_cell hc5 (hno _ (by omega)) x2, chg_cell hc5 (hno _ (by omega)) n2, chg_cell hc5 (hno _ (by omega)) q2⟩ ?_
        clear hK K
        try simp only [Act.put, List.setIfInBounds_toArray, List.set_cons_zero, List.set_cons_succ]
        have Q5 := hid (QD.out.pushN hown5 hc5 hp5)
        have h1 := (cells_in hX5 2).trans rfl
        have hf := frozen_in hX5
        clear hown5 hc5 hp5 hne5 hX5 hno x2 n2 q2 QD
        repeat (first
          | (refine wpSteady_skip (by rfl) ?_; try simp only [Act.put, List.setIfInBounds_toArray, List.set_cons_zero, List.set_cons_succ])
          | (refine wpSteady_calm (v := ?_) (by rfl) ?_ ?_; rotate_left; (focus (intro v hSv; (try dsimp only at hSv); go_simp; (try rw [if_neg (by omega)]); (try with_reducible rfl); done)); try simp only [Act.put, List.setIfInBounds_toArray, List.set_cons_zero, List.set_cons_succ]))
        refine wpSteady_nil ?_
        go_wp2_with fail
        clear h1 hf
        generalize w5.setCell ⟨w.heap.size + 1 + 1 + 1, 2, none⟩ (.slice o5 n5 c5) = w6 at *
        obtain ⟨g1, o1, c1, k1, oy1, my1, cy1, oz1, mz1, cz1, e1, a1', a2', a3', hT1⟩ := HE.out.at2 hlt2
        cases e1
        have lt1 : g1 < w.heap.size := World.block_lt_of_cell? w _ a1'
        have x2 := (cells_in Q5.out.obj 1).trans rfl
        have n2 := (cells_in Q5.out.tb 1).trans rfl
        have a1 := bcell Q5.out.bel a1'
        have a2 := bcell Q5.out.bel a2'
        have a3 := bcell Q5.out.bel a3'
        have HT1 := hid hT1
        clear a1' a2' a3' hT1
        refine wp_region_steady_tail 10 (fun v => v.cell? ⟨w.heap.size + 1 + 1 + 1, 1, none⟩ = some (.slice oe me ce) ∧ v.cell? ⟨w.heap.size, 1, none⟩ = some (.slice (some ⟨g1, o1, none⟩) es.length ca) ∧ v.cell? ⟨g1, o1 + j * 3, none⟩ = some (.int .i64 k1) ∧ v.cell? ⟨g1, o1 + j * 3 + 1, none⟩ = some (.slice oy1 my1 cy1) ∧ v.cell? ⟨g1, o1 + j * 3 + 2, none⟩ = some (.slice oz1 mz1 cz1)) (by kernel_rfl) (by kernel_rfl) (⟨x2, n2, a1, a2, a3⟩) ?_
        simp only [List.take_succ_cons, List.take_zero, List.drop_succ_cons, List.drop_zero]
        repeat (first
          | (refine wpSteady_skip (by rfl) ?_; try simp only [Act.put, List.setIfInBounds_toArray, List.set_cons_zero, List.set_cons_succ])
          | (refine wpSteady_calm (v := ?_) (by rfl) ?_ ?_; rotate_left; (focus (intro v hSv; (try dsimp only at hSv); go_simp; (try rw [if_neg (by omega)]); (try with_reducible rfl); done)); try simp only [Act.put, List.setIfInBounds_toArray, List.set_cons_zero, List.set_cons_succ]))
        refine wpSteady_loud rfl (by rfl) (fun K hK => ?_)
        go_simp
        have hal : Below w6.drew.heap.size w6.drew (w6.drew.alloc (.cells #[.int .i64 k1, .slice oy1 my1 cy1, .slice oz1 mz1 cz1] 26)) := (Below.refl _ _).alloc (Nat.le_refl _) _
        refine hK.out _ _ (⟨bcell (W := w6.drew) hal x2, bcell (W := w6.drew) hal n2, bcell (W := w6.drew) hal a1, bcell (W := w6.drew) hal a2, bcell (W := w6.drew) hal a3⟩) ?_
        clear hK K
        try simp only [Act.put, List.setIfInBounds_toArray, List.set_cons_zero, List.set_cons_succ]
        repeat (first
          | (refine wpSteady_skip (by rfl) ?_; try simp only [Act.put, List.setIfInBounds_toArray, List.set_cons_zero, List.set_cons_succ])
          | (refine wpSteady_calm (v := ?_) (by rfl) ?_ ?_; rotate_left; (focus (intro v hSv; (try dsimp only at hSv); go_simp; (try rw [if_neg (by omega)]); (try with_reducible rfl); done)); try simp only [Act.put, List.setIfInBounds_toArray, List.set_cons_zero, List.set_cons_succ]))
        clear hal
        refine wpSteady_loud rfl (by rfl) (fun K hK => ?_)
        have QD := hid (Q5.out.later (below_drew (Below.refl _ _)))
        obtain ⟨rs, hm, hl2, he4⟩ := QD.out.own
        have hno : ∀ g, g ≤ w.heap.size + 3 → ¬ (Value.slice oe me ce).ownBlock = some g := fun g hg e => by have := hm.2 g e; omega
        refine app_tag_wp (.tmp 52) (.tmp 58) 23 (by rfl) 26 (.agg #[.int .i64 0, .slice none 0 0, .slice none 0 0]) 3 56 Tryd.underlying23 info26 (by rfl) (by decide) (by decide) _ _ _ hm.1 (by rfl) [.int .i64 k1, .slice oy1 my1 cy1, .slice oz1 mz1 cz1] w6.drew.heap.size (by rfl) (by rfl) (by rfl) (by simp [Value.oneCell']) (by omega) ?_
        intro v7 w7 hown5 hc5 hp5 hne5
        obtain ⟨o7, n7, c7, rfl⟩ := owns_slice hown5
        have hX5 := (hc5.block _ QD.out.tlt (hno _ (Nat.le_refl _))).trans QD.out.obj
        refine hK.out _ _ ⟨chg_cell hc5 (hno _ (by omega)) x2, chg_cell hc5 (hno _ (by omega)) n2, chg_cell hc5 (hno _ (by omega)) a1, chg_cell hc5 (hno _ (by omega)) a2, chg_cell hc5 (hno _ (by omega)) a3⟩ ?_
        clear hK K
        try simp only [Act.put, List.setIfInBounds_toArray, List.set_cons_zero, List.set_cons_succ]
        have Q7 := hid (QD.out.pushE hm hl2 he4 hown5 (HT1.out.bel QD.out.bel) hc5 hp5)
        have h1 := (cells_in hX5 1).trans rfl
        have hf := frozen_in hX5
        clear hown5 hc5 hp5 hne5 hX5 hno x2 n2 a1 a2 a3 QD hm hl2 he4 Q5
        repeat (first
          | (refine wpSteady_skip (by rfl) ?_; try simp only [Act.put, List.setIfInBounds_toArray, List.set_cons_zero, List.set_cons_succ])
          | (refine wpSteady_calm (v := ?_) (by rfl) ?_ ?_; rotate_left; (focus (intro v hSv; (try dsimp only at hSv); go_simp; (try rw [if_neg (by omega)]); (try with_reducible rfl); done)); try simp only [Act.put, List.setIfInBounds_toArray, List.set_cons_zero, List.set_cons_succ]))
        refine wpSteady_nil ?_
        go_wp2_with fail
        clear h1 hf
        go_roundw
        case rel => exact ⟨j + 1, by omega, by rw [HD'.out], by go_num, _, _, by rw [HM1.out, HM2.out]; exact Q7⟩
        case measure => simp [intOf]; omega
      · have d1 : decide (p < j) = false := decide_eq_false (by omega)
        rw [d1]
        have hpj2 := hpj.symm
        clear hpj
        subst hpj2
        have hcm : ltS ns[j] x = false := by have := posT_stop ns x (by rw [HPP.out]; exact hlt); rw [HPP.out] at this; rwa [List.getD_eq_getElem?_getD, List.getElem?_eq_getElem hlt] at this
        have hcn : Op.bytesLess ns[j].toList x.toList = false := hcm
        have hce : (ns[j].toList == x.toList) = false := beq_eq_false_iff_ne.2 fun e => HX.out _ (List.getElem_mem hlt) (toList_inj e)
        have HM1 := hid (mrg_put (l := es) (x := .mk kx ex nx) hlt2)
        have HM2 := hid (mrg_put (l := ns) (x := x) hlt)
        have HD' := hid (show decide (j < j + 1) = true from decide_eq_true (by omega))
        have b1 := mrg_len es j (.mk kx ex nx) j
        have b2 := mrg_len ns j x j
        generalize mrg es j (.mk kx ex nx) j = LE at *
        generalize mrg ns j x j = LN at *
        clear d1 hcm
        obtain ⟨oe, me, ce, hve⟩ := Q.out.own.slice
        obtain ⟨on, mn, cn, hvn⟩ := owns_slice Q.out.row.1
        subst hve hvn
        have o2 := (cells_in Q.out.obj 2).trans rfl
        go_upto_region 8 with (at_builtin; refine app_tag (by rfl) (.tmp 30) (.tmp 32) 24 (by rfl) 9 (.string ⟨#[]⟩) 1 16 Tryd.underlying24 info9 rfl (by decide) (by decide) _ _ _ Q.out.row.1 (by rfl) [.string x] wr.heap.size (by rfl) (by rfl) (by rfl) (by simp [Value.oneCell']) (by omega) ?_; intro v3 w3 hown3 hc3 hp3 hne3; obtain ⟨o3, n3, c3, rfl⟩ := owns_slice hown3; have hT3 : w3.heap[w.heap.size + 1 + 1 + 1]? = _ := (hc3.block _ Q.out.tlt (fun e => by have := (Q.out.row.lt e).1; omega)).trans Q.out.obj; have t2 := (cells_in hT3 2).trans rfl; have tf := frozen_in hT3)
        have Q3 := hid (Q.out.pushN hown3 hc3 hp3)
        clear hown3 hc3 hp3 hne3 hT3 t2 tf o2
        generalize w3.setCell ⟨w.heap.size + 1 + 1 + 1, 2, none⟩ (.slice o3 n3 c3) = w4 at *
        have o1 := (cells_in Q3.out.obj 1).trans rfl
        have y0 := (cells_in Q3.out.xb 0).trans rfl
        have y1 := (cells_in Q3.out.xb 1).trans rfl
        have y2 := (cells_in Q3.out.xb 2).trans rfl
        obtain ⟨rs, hm, hl2, he4⟩ := Q3.out.own
        go_upto_region 9 with (at_builtin; refine app_tag (by rfl) (.tmp 36) (.tmp 38) 23 (by rfl) 26 (.agg #[.int .i64 0, .slice none 0 0, .slice none 0 0]) 3 56 Tryd.underlying23 info26 (by rfl) (by decide) (by decide) _ _ _ hm.1 (by rfl) [.int .i64 kx, .slice oc ex.length cc, .slice od nx.length cd] w4.heap.size (by rfl) (by rfl) (by rfl) (by simp [Value.oneCell']) (by omega) ?_; intro v5 w5 hown5 hc5 hp5 hne5; obtain ⟨o5, n5, c5, rfl⟩ := owns_slice hown5; have hT5 : w5.heap[w.heap.size + 1 + 1 + 1]? = _ := (hc5.block _ Q3.out.tlt (fun e => by have := hm.2 _ e; omega)).trans Q3.out.obj; have t2 := (cells_in hT5 1).trans rfl; have tf := frozen_in hT5)
        have Q5 := hid (Q3.out.pushE hm hl2 he4 hown5 (HV.out.bel Q3.out.bel) hc5 hp5)
        clear hown5 hc5 hp5 hne5 hT5 t2 tf o1 y0 y1 y2 hm hl2 he4 Q3
        generalize w5.setCell ⟨w.heap.size + 1 + 1 + 1, 1, none⟩ (.slice o5 n5 c5) = w6 at *
        generalize Value.slice o5 n5 c5 = ve5 at Q5
        generalize Value.slice o3 n3 c3 = vn5 at Q5
        have b3 : (LE ++ [Ty.mk kx ex nx]).length ≤ 1000003 := by simp; omega
        have b4 : (LN ++ [x]).length ≤ 1000003 := by simp; omega
        generalize LE ++ [Ty.mk kx ex nx] = LE2 at *
        generalize LN ++ [x] = LN2 at *
        go_wp2_with fail
        obtain ⟨oe, me, ce, hve⟩ := Q5.out.own.slice
        obtain ⟨on, mn, cn, hvn⟩ := owns_slice Q5.out.row.1
        subst hve hvn
        have x2 := (cells_in Q5.out.obj 2).trans rfl
        have n2 := (cells_in Q5.out.tb 2).trans rfl
        have q2 := bcell Q5.out.bel q1
        refine wp_region_steady_tail 10 (fun v => v.cell? ⟨w.heap.size + 1 + 1 + 1, 2, none⟩ = some (.slice on mn cn) ∧ v.cell? ⟨w.heap.size, 2, none⟩ = some (.slice (some ⟨g2, o2', none⟩) ns.length cb) ∧ v.cell? ⟨g2, o2' + j, none⟩ = some (.string ns[j])) (by kernel_rfl) (by kernel_rfl) (⟨x2, n2, q2⟩) ?_
        simp only [List.take_succ_cons, List.take_zero, List.drop_succ_cons, List.drop_zero]
        repeat (first
          | (refine wpSteady_skip (by rfl) ?_; try simp only [Act.put, List.setIfInBounds_toArray, List.set_cons_zero, List.set_cons_succ])
          | (refine wpSteady_calm (v := ?_) (by rfl) ?_ ?_; rotate_left; (focus (intro v hSv; (try dsimp only at hSv); go_simp; (try rw [if_neg (by omega)]); (try with_reducible rfl); done)); try simp only [Act.put, List.setIfInBounds_toArray, List.set_cons_zero, List.set_cons_succ]))
        refine wpSteady_loud rfl (by rfl) (fun K hK => ?_)
        go_simp
        have hal : Below w6.drew.heap.size w6.drew (w6.drew.alloc (.cells #[.string ns[j]] 9)) := (Below.refl _ _).alloc (Nat.le_refl _) _
        refine hK.out _ _ (⟨bcell (W := w6.drew) hal x2, bcell (W := w6.drew) hal n2, bcell (W := w6.drew) hal q2⟩) ?_
        clear hK K
        try simp only [Act.put, List.setIfInBounds_toArray, List.set_cons_zero, List.set_cons_succ]
        repeat (first
          | (refine wpSteady_skip (by rfl) ?_; try simp only [Act.put, List.setIfInBounds_toArray, List.set_cons_zero, List.set_cons_succ])
          | (refine wpSteady_calm (v := ?_) (by rfl) ?_ ?_; rotate_left; (focus (intro v hSv; (try dsimp only at hSv); go_simp; (try rw [if_neg (by omega)]); (try with_reducible rfl); done)); try simp only [Act.put, List.setIfInBounds_toArray, List.set_cons_zero, List.set_cons_succ]))
        clear hal
        refine wpSteady_loud rfl (by rfl) (fun K hK => ?_)
        have QD := hid (Q5.out.later (below_drew (Below.refl _ _)))
        have hno : ∀ g, g ≤ w.heap.size + 3 → ¬ (Value.slice on mn cn).ownBlock = some g := fun g hg e => by have := (QD.out.row.lt e).1; omega
        refine app_tag_wp (.tmp 42) (.tmp 48) 24 (by rfl) 9 (.string ⟨#[]⟩) 1 16 Tryd.underlying24 info9 rfl (by decide) (by decide) _ _ _ QD.out.row.1 (by rfl) [.string ns[j]] w6.drew.heap.size (by rfl) (by rfl) (by rfl) (by simp [Value.oneCell']) (by omega) ?_
        intro v5 w5 hown5 hc5 hp5 hne5
        obtain ⟨o5, n5, c5, rfl⟩ := owns_slice hown5
        have hX5 := (hc5.block _ QD.out.tlt (hno _ (Nat.le_refl _))).trans QD.out.obj
        have lt2 : g2 < w.heap.size := World.block_lt_of_cell? w _ q1
        refine hK.out _ _ ⟨chg_cell hc5 (hno _ (by omega)) x2, chg_cell hc5 (hno _ (by omega)) n2, chg_cell hc5 (hno _ (by omega)) q2⟩ ?_
        clear hK K
        try simp only [Act.put, List.setIfInBounds_toArray, List.set_cons_zero, List.set_cons_succ]
        have Q5 := hid (QD.out.pushN hown5 hc5 hp5)
        have h1 := (cells_in hX5 2).trans rfl
        have hf := frozen_in hX5
        clear hown5 hc5 hp5 hne5 hX5 hno x2 n2 q2 QD
        repeat (first
          | (refine wpSteady_skip (by rfl) ?_; try simp only [Act.put, List.setIfInBounds_toArray, List.set_cons_zero, List.set_cons_succ])
          | (refine wpSteady_calm (v := ?_) (by rfl) ?_ ?_; rotate_left; (focus (intro v hSv; (try dsimp only at hSv); go_simp; (try rw [if_neg (by omega)]); (try with_reducible rfl); done)); try simp only [Act.put, List.setIfInBounds_toArray, List.set_cons_zero, List.set_cons_succ]))
        refine wpSteady_nil ?_
        go_wp2_with fail
        clear h1 hf
        generalize w5.setCell ⟨w.heap.size + 1 + 1 + 1, 2, none⟩ (.slice o5 n5 c5) = w6 at *
        obtain ⟨g1, o1, c1, k1, oy1, my1, cy1, oz1, mz1, cz1, e1, a1', a2', a3', hT1⟩ := HE.out.at2 hlt2
        cases e1
        have lt1 : g1 < w.heap.size := World.block_lt_of_cell? w _ a1'
        have x2 := (cells_in Q5.out.obj 1).trans rfl
        have n2 := (cells_in Q5.out.tb 1).trans rfl
        have a1 := bcell Q5.out.bel a1'
        have a2 := bcell Q5.out.bel a2'
        have a3 := bcell Q5.out.bel a3'
        have HT1 := hid hT1
        clear a1' a2' a3' hT1
        refine wp_region_steady_tail 10 (fun v => v.cell? ⟨w.heap.size + 1 + 1 + 1, 1, none⟩ = some (.slice oe me ce) ∧ v.cell? ⟨w.heap.size, 1, none⟩ = some (.slice (some ⟨g1, o1, none⟩) es.length ca) ∧ v.cell? ⟨g1, o1 + j * 3, none⟩ = some (.int .i64 k1) ∧ v.cell? ⟨g1, o1 + j * 3 + 1, none⟩ = some (.slice oy1 my1 cy1) ∧ v.cell? ⟨g1, o1 + j * 3 + 2, none⟩ = some (.slice oz1 mz1 cz1)) (by kernel_rfl) (by kernel_rfl) (⟨x2, n2, a1, a2, a3⟩) ?_
        simp only [List.take_succ_cons, List.take_zero, List.drop_succ_cons, List.drop_zero]
        repeat (first
          | (refine wpSteady_skip (by rfl) ?_; try simp only [Act.put, List.setIfInBounds_toArray, List.set_cons_zero, List.set_cons_succ])
          | (refine wpSteady_calm (v := ?_) (by rfl) ?_ ?_; rotate_left; (focus (intro v hSv; (try dsimp only at hSv); go_simp; (try rw [if_neg (by omega)]); (try with_reducible rfl); done)); try simp only [Act.put, List.setIfInBounds_toArray, List.set_cons_zero, List.set_cons_succ]))
        refine wpSteady_loud rfl (by rfl) (fun K hK => ?_)
        go_simp
        have hal : Below w6.drew.heap.size w6.drew (w6.drew.alloc (.cells #[.int .i64 k1, .slice oy1 my1 cy1, .slice oz1 mz1 cz1] 26)) := (Below.refl _ _).alloc (Nat.le_refl _) _
        refine hK.out _ _ (⟨bcell (W := w6.drew) hal x2, bcell (W := w6.drew) hal n2, bcell (W := w6.drew) hal a1, bcell (W := w6.drew) hal a2, bcell (W := w6.drew) hal a3⟩) ?_
        clear hK K
        try simp only [Act.put, List.setIfInBounds_toArray, List.set_cons_zero, List.set_cons_succ]
        repeat (first
          | (refine wpSteady_skip (by rfl) ?_; try simp only [Act.put, List.setIfInBounds_toArray, List.set_cons_zero, List.set_cons_succ])
          | (refine wpSteady_calm (v := ?_) (by rfl) ?_ ?_; rotate_left; (focus (intro v hSv; (try dsimp only at hSv); go_simp; (try rw [if_neg (by omega)]); (try with_reducible rfl); done)); try simp only [Act.put, List.setIfInBounds_toArray, List.set_cons_zero, List.set_cons_succ]))
        clear hal
        refine wpSteady_loud rfl (by rfl) (fun K hK => ?_)
        have QD := hid (Q5.out.later (below_drew (Below.refl _ _)))
        obtain ⟨rs, hm, hl2, he4⟩ := QD.out.own
        have hno : ∀ g, g ≤ w.heap.size + 3 → ¬ (Value.slice oe me ce).ownBlock = some g := fun g hg e => by have := hm.2 g e; omega
        refine app_tag_wp (.tmp 52) (.tmp 58) 23 (by rfl) 26 (.agg #[.int .i64 0, .slice none 0 0, .slice none 0 0]) 3 56 Tryd.underlying23 info26 (by rfl) (by decide) (by decide) _ _ _ hm.1 (by rfl) [.int .i64 k1, .slice oy1 my1 cy1, .slice oz1 mz1 cz1] w6.drew.heap.size (by rfl) (by rfl) (by rfl) (by simp [Value.oneCell']) (by omega) ?_
        intro v7 w7 hown5 hc5 hp5 hne5
        obtain ⟨o7, n7, c7, rfl⟩ := owns_slice hown5
        have hX5 := (hc5.block _ QD.out.tlt (hno _ (Nat.le_refl _))).trans QD.out.obj
        refine hK.out _ _ ⟨chg_cell hc5 (hno _ (by omega)) x2, chg_cell hc5 (hno _ (by omega)) n2, chg_cell hc5 (hno _ (by omega)) a1, chg_cell hc5 (hno _ (by omega)) a2, chg_cell hc5 (hno _ (by omega)) a3⟩ ?_
        clear hK K
        try simp only [Act.put, List.setIfInBounds_toArray, List.set_cons_zero, List.set_cons_succ]
        have Q7 := hid (QD.out.pushE hm hl2 he4 hown5 (HT1.out.bel QD.out.bel) hc5 hp5)
        have h1 := (cells_in hX5 1).trans rfl
        have hf := frozen_in hX5
        clear hown5 hc5 hp5 hne5 hX5 hno x2 n2 a1 a2 a3 QD hm hl2 he4 Q5
        repeat (first
          | (refine wpSteady_skip (by rfl) ?_; try simp only [Act.put, List.setIfInBounds_toArray, List.set_cons_zero, List.set_cons_succ])
          | (refine wpSteady_calm (v := ?_) (by rfl) ?_ ?_; rotate_left; (focus (intro v hSv; (try dsimp only at hSv); go_simp; (try rw [if_neg (by omega)]); (try with_reducible rfl); done)); try simp only [Act.put, List.setIfInBounds_toArray, List.set_cons_zero, List.set_cons_succ]))
        refine wpSteady_nil ?_
        go_wp2_with fail
        clear h1 hf
        go_roundw
        case rel => exact ⟨j + 1, by omega, by rw [HD'.out], by go_num, _, _, by rw [HM1.out, HM2.out]; exact Q7⟩
        case measure => simp [intOf]; omega
      · have d1 : decide (p < j) = false := decide_eq_false (by omega)
        rw [d1]
        have hcm : ltS ns[j] x = true := by have := HL.out j hpj; rwa [List.getD_eq_getElem?_getD, List.getElem?_eq_getElem hlt] at this
        have hcn : Op.bytesLess ns[j].toList x.toList = true := hcm
        have HM1 := hid (mrg_next (l := es) (x := .mk kx ex nx) hlt2 (Nat.ne_of_lt hpj))
        have HM2 := hid (mrg_next (l := ns) (x := x) hlt (Nat.ne_of_lt hpj))
        have HD' := hid (show decide (p < j + 1) = false from decide_eq_false (by omega))
        have b1 := mrg_len es p (.mk kx ex nx) j
        have b2 := mrg_len ns p x j
        generalize mrg es p (.mk kx ex nx) j = LE at *
        generalize mrg ns p x j = LN at *
        clear hpj d1 hcm
        go_wp2_with fail
        obtain ⟨oe, me, ce, hve⟩ := Q.out.own.slice
        obtain ⟨on, mn, cn, hvn⟩ := owns_slice Q.out.row.1
        subst hve hvn
        have x2 := (cells_in Q.out.obj 2).trans rfl
        have n2 := (cells_in Q.out.tb 2).trans rfl
        have q2 := bcell Q.out.bel q1
        refine wp_region_steady_tail 10 (fun v => v.cell? ⟨w.heap.size + 1 + 1 + 1, 2, none⟩ = some (.slice on mn cn) ∧ v.cell? ⟨w.heap.size, 2, none⟩ = some (.slice (some ⟨g2, o2', none⟩) ns.length cb) ∧ v.cell? ⟨g2, o2' + j, none⟩ = some (.string ns[j])) (by kernel_rfl) (by kernel_rfl) (⟨x2, n2, q2⟩) ?_
        simp only [List.take_succ_cons, List.take_zero, List.drop_succ_cons, List.drop_zero]
        repeat (first
          | (refine wpSteady_skip (by rfl) ?_; try simp only [Act.put, List.setIfInBounds_toArray, List.set_cons_zero, List.set_cons_succ])
          | (refine wpSteady_calm (v := ?_) (by rfl) ?_ ?_; rotate_left; (focus (intro v hSv; (try dsimp only at hSv); go_simp; (try rw [if_neg (by omega)]); (try with_reducible rfl); done)); try simp only [Act.put, List.setIfInBounds_toArray, List.set_cons_zero, List.set_cons_succ]))
        refine wpSteady_loud rfl (by rfl) (fun K hK => ?_)
        go_simp
        have hal : Below wr.drew.heap.size wr.drew (wr.drew.alloc (.cells #[.string ns[j]] 9)) := (Below.refl _ _).alloc (Nat.le_refl _) _
        refine hK.out _ _ (⟨bcell (W := wr.drew) hal x2, bcell (W := wr.drew) hal n2, bcell (W := wr.drew) hal q2⟩) ?_
        clear hK K
        try simp only [Act.put, List.setIfInBounds_toArray, List.set_cons_zero, List.set_cons_succ]
        repeat (first
          | (refine wpSteady_skip (by rfl) ?_; try simp only [Act.put, List.setIfInBounds_toArray, List.set_cons_zero, List.set_cons_succ])
          | (refine wpSteady_calm (v := ?_) (by rfl) ?_ ?_; rotate_left; (focus (intro v hSv; (try dsimp only at hSv); go_simp; (try rw [if_neg (by omega)]); (try with_reducible rfl); done)); try simp only [Act.put, List.setIfInBounds_toArray, List.set_cons_zero, List.set_cons_succ]))
        clear hal
        refine wpSteady_loud rfl (by rfl) (fun K hK => ?_)
        have QD := hid (Q.out.later (below_drew (Below.refl _ _)))
        have hno : ∀ g, g ≤ w.heap.size + 3 → ¬ (Value.slice on mn cn).ownBlock = some g := fun g hg e => by have := (QD.out.row.lt e).1; omega
        refine app_tag_wp (.tmp 42) (.tmp 48) 24 (by rfl) 9 (.string ⟨#[]⟩) 1 16 Tryd.underlying24 info9 rfl (by decide) (by decide) _ _ _ QD.out.row.1 (by rfl) [.string ns[j]] wr.drew.heap.size (by rfl) (by rfl) (by rfl) (by simp [Value.oneCell']) (by omega) ?_
        intro v5 w5 hown5 hc5 hp5 hne5
        obtain ⟨o5, n5, c5, rfl⟩ := owns_slice hown5
        have hX5 := (hc5.block _ QD.out.tlt (hno _ (Nat.le_refl _))).trans QD.out.obj
        have lt2 : g2 < w.heap.size := World.block_lt_of_cell? w _ q1
        refine hK.out _ _ ⟨chg_cell hc5 (hno _ (by omega)) x2, chg_cell hc5 (hno _ (by omega)) n2, chg_cell hc5 (hno _ (by omega)) q2⟩ ?_
        clear hK K
        try simp only [Act.put, List.setIfInBounds_toArray, List.set_cons_zero, List.set_cons_succ]
        have Q5 := hid (QD.out.pushN hown5 hc5 hp5)
        have h1 := (cells_in hX5 2).trans rfl
        have hf := frozen_in hX5
        clear hown5 hc5 hp5 hne5 hX5 hno x2 n2 q2 QD
        repeat (first
          | (refine wpSteady_skip (by rfl) ?_; try simp only [Act.put, List.setIfInBounds_toArray, List.set_cons_zero, List.set_cons_succ])
          | (refine wpSteady_calm (v := ?_) (by rfl) ?_ ?_; rotate_left; (focus (intro v hSv; (try dsimp only at hSv); go_simp; (try rw [if_neg (by omega)]); (try with_reducible rfl); done)); try simp only [Act.put, List.setIfInBounds_toArray, List.set_cons_zero, List.set_cons_succ]))
        refine wpSteady_nil ?_
        go_wp2_with fail
        clear h1 hf
        generalize w5.setCell ⟨w.heap.size + 1 + 1 + 1, 2, none⟩ (.slice o5 n5 c5) = w6 at *
        obtain ⟨g1, o1, c1, k1, oy1, my1, cy1, oz1, mz1, cz1, e1, a1', a2', a3', hT1⟩ := HE.out.at2 hlt2
        cases e1
        have lt1 : g1 < w.heap.size := World.block_lt_of_cell? w _ a1'
        have x2 := (cells_in Q5.out.obj 1).trans rfl
        have n2 := (cells_in Q5.out.tb 1).trans rfl
        have a1 := bcell Q5.out.bel a1'
        have a2 := bcell Q5.out.bel a2'
        have a3 := bcell Q5.out.bel a3'
        have HT1 := hid hT1
        clear a1' a2' a3' hT1
        refine wp_region_steady_tail 10 (fun v => v.cell? ⟨w.heap.size + 1 + 1 + 1, 1, none⟩ = some (.slice oe me ce) ∧ v.cell? ⟨w.heap.size, 1, none⟩ = some (.slice (some ⟨g1, o1, none⟩) es.length ca) ∧ v.cell? ⟨g1, o1 + j * 3, none⟩ = some (.int .i64 k1) ∧ v.cell? ⟨g1, o1 + j * 3 + 1, none⟩ = some (.slice oy1 my1 cy1) ∧ v.cell? ⟨g1, o1 + j * 3 + 2, none⟩ = some (.slice oz1 mz1 cz1)) (by kernel_rfl) (by kernel_rfl) (⟨x2, n2, a1, a2, a3⟩) ?_
        simp only [List.take_succ_cons, List.take_zero, List.drop_succ_cons, List.drop_zero]
        repeat (first
          | (refine wpSteady_skip (by rfl) ?_; try simp only [Act.put, List.setIfInBounds_toArray, List.set_cons_zero, List.set_cons_succ])
          | (refine wpSteady_calm (v := ?_) (by rfl) ?_ ?_; rotate_left; (focus (intro v hSv; (try dsimp only at hSv); go_simp; (try rw [if_neg (by omega)]); (try with_reducible rfl); done)); try simp only [Act.put, List.setIfInBounds_toArray, List.set_cons_zero, List.set_cons_succ]))
        refine wpSteady_loud rfl (by rfl) (fun K hK => ?_)
        go_simp
        have hal : Below w6.drew.heap.size w6.drew (w6.drew.alloc (.cells #[.int .i64 k1, .slice oy1 my1 cy1, .slice oz1 mz1 cz1] 26)) := (Below.refl _ _).alloc (Nat.le_refl _) _
        refine hK.out _ _ (⟨bcell (W := w6.drew) hal x2, bcell (W := w6.drew) hal n2, bcell (W := w6.drew) hal a1, bcell (W := w6.drew) hal a2, bcell (W := w6.drew) hal a3⟩) ?_
        clear hK K
        try simp only [Act.put, List.setIfInBounds_toArray, List.set_cons_zero, List.set_cons_succ]
        repeat (first
          | (refine wpSteady_skip (by rfl) ?_; try simp only [Act.put, List.setIfInBounds_toArray, List.set_cons_zero, List.set_cons_succ])
          | (refine wpSteady_calm (v := ?_) (by rfl) ?_ ?_; rotate_left; (focus (intro v hSv; (try dsimp only at hSv); go_simp; (try rw [if_neg (by omega)]); (try with_reducible rfl); done)); try simp only [Act.put, List.setIfInBounds_toArray, List.set_cons_zero, List.set_cons_succ]))
        clear hal
        refine wpSteady_loud rfl (by rfl) (fun K hK => ?_)
        have QD := hid (Q5.out.later (below_drew (Below.refl _ _)))
        obtain ⟨rs, hm, hl2, he4⟩ := QD.out.own
        have hno : ∀ g, g ≤ w.heap.size + 3 → ¬ (Value.slice oe me ce).ownBlock = some g := fun g hg e => by have := hm.2 g e; omega
        refine app_tag_wp (.tmp 52) (.tmp 58) 23 (by rfl) 26 (.agg #[.int .i64 0, .slice none 0 0, .slice none 0 0]) 3 56 Tryd.underlying23 info26 (by rfl) (by decide) (by decide) _ _ _ hm.1 (by rfl) [.int .i64 k1, .slice oy1 my1 cy1, .slice oz1 mz1 cz1] w6.drew.heap.size (by rfl) (by rfl) (by rfl) (by simp [Value.oneCell']) (by omega) ?_
        intro v7 w7 hown5 hc5 hp5 hne5
        obtain ⟨o7, n7, c7, rfl⟩ := owns_slice hown5
        have hX5 := (hc5.block _ QD.out.tlt (hno _ (Nat.le_refl _))).trans QD.out.obj
        refine hK.out _ _ ⟨chg_cell hc5 (hno _ (by omega)) x2, chg_cell hc5 (hno _ (by omega)) n2, chg_cell hc5 (hno _ (by omega)) a1, chg_cell hc5 (hno _ (by omega)) a2, chg_cell hc5 (hno _ (by omega)) a3⟩ ?_
        clear hK K
        try simp only [Act.put, List.setIfInBounds_toArray, List.set_cons_zero, List.set_cons_succ]
        have Q7 := hid (QD.out.pushE hm hl2 he4 hown5 (HT1.out.bel QD.out.bel) hc5 hp5)
        have h1 := (cells_in hX5 1).trans rfl
        have hf := frozen_in hX5
        clear hown5 hc5 hp5 hne5 hX5 hno x2 n2 a1 a2 a3 QD hm hl2 he4 Q5
        repeat (first
          | (refine wpSteady_skip (by rfl) ?_; try simp only [Act.put, List.setIfInBounds_toArray, List.set_cons_zero, List.set_cons_succ])
          | (refine wpSteady_calm (v := ?_) (by rfl) ?_ ?_; rotate_left; (focus (intro v hSv; (try dsimp only at hSv); go_simp; (try rw [if_neg (by omega)]); (try with_reducible rfl); done)); try simp only [Act.put, List.setIfInBounds_toArray, List.set_cons_zero, List.set_cons_succ]))
        refine wpSteady_nil ?_
        go_wp2_with fail
        clear h1 hf
        go_roundw
        case rel => exact ⟨j + 1, by omega, by rw [HD'.out], by go_num, _, _, by rw [HM1.out, HM2.out]; exact Q7⟩
        case measure => simp [intOf]; omega
    · have hje : j = ns.length := by omega
      subst hje
      by_cases hpj : p < ns.length
      · have d1 : decide (p < ns.length) = true := decide_eq_true hpj
        rw [d1]
        have HM1 := hid (show mrg es p (.mk kx ex nx) ns.length = es.insertIdx p (.mk kx ex nx) by rw [← HLN.out]; exact mrg_end (by rw [HLN.out]; exact hpj))
        have HM2 := hid (mrg_end (x := x) hpj)
        rw [HM1.out, HM2.out] at Q
        clear d1 hpj hlt
        obtain ⟨o5, n5, c5, hve⟩ := Q.out.own.slice
        obtain ⟨o3, n3, c3, hvn⟩ := owns_slice Q.out.row.1
        subst hve hvn
        have Q5 := hid Q.out
        have o0 := (cells_in Q5.out.obj 0).trans rfl
        have o1 := (cells_in Q5.out.obj 1).trans rfl
        have o2 := (cells_in Q5.out.obj 2).trans rfl
        have z0 := (cells_in Q5.out.z 0).trans rfl
        have z1 := (cells_in Q5.out.z 1).trans rfl
        have z2 := (cells_in Q5.out.z 2).trans rfl
        have zf := frozen_in Q5.out.z
        go_wp2_with fail
        try simp only [Exit.inBlock, Exit.then]
        refine bodyPost_ret (v := .agg #[.int .i64 6, .slice o5 n5 c5, .slice o3 n3 c3]) (by simp [results, Tryd.results81, go_sem, z0, z1, z2]) rfl ?_
        refine ⟨_, rfl, store3_tv (Q5.out.read (by rw [List.length_insertIdx_of_le_length (by have := HLN.out; omega)]; omega) (by rw [List.length_insertIdx_of_le_length (by omega)]; omega) HSZ.out) (fun h => by omega) (fun g hg => hg.elim (fun h => .inl h.1) (fun h => .inr (by omega))) _ _ _, store3_below Q5.out.bel (by omega) (Nat.le_refl _) _ _ _⟩
      · have d1 : decide (p < ns.length) = false := decide_eq_false hpj
        rw [d1]
        have hpe : p = ns.length := by omega
        subst hpe
        have HM1 := hid (show mrg es ns.length (.mk kx ex nx) ns.length ++ [.mk kx ex nx] = es.insertIdx ns.length (.mk kx ex nx) by rw [← HLN.out]; exact mrg_last)
        have HM2 := hid (mrg_last (l := ns) (x := x))
        have b1 := mrg_len es ns.length (.mk kx ex nx) ns.length
        have b2 := mrg_len ns ns.length x ns.length
        generalize mrg es ns.length (.mk kx ex nx) ns.length = LE at *
        generalize mrg ns ns.length x ns.length = LN at *
        clear d1 hpj hlt
        obtain ⟨oe, me, ce, hve⟩ := Q.out.own.slice
        obtain ⟨on, mn, cn, hvn⟩ := owns_slice Q.out.row.1
        subst hve hvn
        have o2 := (cells_in Q.out.obj 2).trans rfl
        go_upto_region 14 with (at_builtin; refine app_tag (by rfl) (.tmp 64) (.tmp 66) 24 (by rfl) 9 (.string ⟨#[]⟩) 1 16 Tryd.underlying24 info9 rfl (by decide) (by decide) _ _ _ Q.out.row.1 (by rfl) [.string x] wr.heap.size (by rfl) (by rfl) (by rfl) (by simp [Value.oneCell']) (by omega) ?_; intro v3 w3 hown3 hc3 hp3 hne3; obtain ⟨o3, n3, c3, rfl⟩ := owns_slice hown3; have hT3 : w3.heap[w.heap.size + 1 + 1 + 1]? = _ := (hc3.block _ Q.out.tlt (fun e => by have := (Q.out.row.lt e).1; omega)).trans Q.out.obj; have t2 := (cells_in hT3 2).trans rfl; have tf := frozen_in hT3)
        have Q3 := hid (Q.out.pushN hown3 hc3 hp3)
        clear hown3 hc3 hp3 hne3 hT3 t2 tf o2
        generalize w3.setCell ⟨w.heap.size + 1 + 1 + 1, 2, none⟩ (.slice o3 n3 c3) = w4 at *
        have o1 := (cells_in Q3.out.obj 1).trans rfl
        have y0 := (cells_in Q3.out.xb 0).trans rfl
        have y1 := (cells_in Q3.out.xb 1).trans rfl
        have y2 := (cells_in Q3.out.xb 2).trans rfl
        obtain ⟨rs, hm, hl2, he4⟩ := Q3.out.own
        go_upto_region 15 with (at_builtin; refine app_tag (by rfl) (.tmp 70) (.tmp 72) 23 (by rfl) 26 (.agg #[.int .i64 0, .slice none 0 0, .slice none 0 0]) 3 56 Tryd.underlying23 info26 (by rfl) (by decide) (by decide) _ _ _ hm.1 (by rfl) [.int .i64 kx, .slice oc ex.length cc, .slice od nx.length cd] w4.heap.size (by rfl) (by rfl) (by rfl) (by simp [Value.oneCell']) (by omega) ?_; intro v5 w5 hown5 hc5 hp5 hne5; obtain ⟨o5, n5, c5, rfl⟩ := owns_slice hown5; have hT5 : w5.heap[w.heap.size + 1 + 1 + 1]? = _ := (hc5.block _ Q3.out.tlt (fun e => by have := hm.2 _ e; omega)).trans Q3.out.obj; have t2 := (cells_in hT5 1).trans rfl; have tf := frozen_in hT5)
        have Q5 := hid (Q3.out.pushE hm hl2 he4 hown5 (HV.out.bel Q3.out.bel) hc5 hp5)
        clear hown5 hc5 hp5 hne5 hT5 t2 tf o1 y0 y1 y2 hm hl2 he4 Q3
        generalize w5.setCell ⟨w.heap.size + 1 + 1 + 1, 1, none⟩ (.slice o5 n5 c5) = w6 at *
        rw [HM1.out, HM2.out] at Q5
        have o0 := (cells_in Q5.out.obj 0).trans rfl
        have o1 := (cells_in Q5.out.obj 1).trans rfl
        have o2 := (cells_in Q5.out.obj 2).trans rfl
        have z0 := (cells_in Q5.out.z 0).trans rfl
        have z1 := (cells_in Q5.out.z 1).trans rfl
        have z2 := (cells_in Q5.out.z 2).trans rfl
        have zf := frozen_in Q5.out.z
        go_wp2_with fail
        try simp only [Exit.inBlock, Exit.then]
        refine bodyPost_ret (v := .agg #[.int .i64 6, .slice o5 n5 c5, .slice o3 n3 c3]) (by simp [results, Tryd.results81, go_sem, z0, z1, z2]) rfl ?_
        refine ⟨_, rfl, store3_tv (Q5.out.read (by rw [List.length_insertIdx_of_le_length (by have := HLN.out; omega)]; omega) (by rw [List.length_insertIdx_of_le_length (by omega)]; omega) HSZ.out) (fun h => by omega) (fun g hg => hg.elim (fun h => .inl h.1) (fun h => .inr (by omega))) _ _ _, store3_below Q5.out.bel (by omega) (Nat.le_refl _) _ _ _⟩
end Go.Proofs.YtfljnigbfacmjaaDoor
