/- The reference's with. -/
import Derived.Test.YtoaellmjgejgfaaRefS
namespace Go.Proofs.Ytoaellmjgejgfaa
open Go Go.RowKit Go.Shelf
set_option linter.unusedVariables false

/-- 'append(nil, x...)'. -/
theorem app_all {P : Program} {w : World} {ops : Array Oper} {rest : List Oper} {o : Oper} {a : Act} {Q : Exit → Act → World → Prop} (hg : o.guard = none) (s x : Operand) (t : TypeId)
    (ho : o.op = .call { callee := .builtin .append, args := #[s, x], argTypes := #[t, t] })
    (e : Nat) (z : Value) (size bytes : Nat) (ht : P.underlying t = some (.slice e)) (hinf : (P.info? e).map (fun i => (i.zero, i.size, i.bytes)) = some (some z, size, bytes))
    (hzs : z.cells.size = size) (hsz : 0 < size) (hb : bytes ≤ 100)
    (hs : a.eval s = .slice none 0 0) (ad : Addr) (m c : Nat) (news : List Value) (hx : a.eval x = .slice (some ad) m c) (hl : news.length = m * size) (hnews : ∀ j u, news[j]? = some u → w.cell? (ad.add j) = some u) (h1 : ∀ u ∈ news, u.oneCell' = true)
    (hm : 0 < m) (hn : m ≤ 1000000000000)
    (h : ∀ v' w', w'.ownsRow 0 e size v' m news → Chg (fun _ => False) w w' → (∃ g, v'.ownBlock = some g ∧ w.heap.size ≤ g) → wpList P ops Q rest (a.put o.dst v') w') :
    wpList P ops Q (o :: rest) a w := by
  refine wpList_plain hg fun K hK => ?_
  obtain ⟨i, hi, hz, hsize, hby⟩ := info_parts hinf
  obtain ⟨v', w', hr, h2, h3, h4, h5⟩ := run_append_place (P := P) w t o.type e i z size bytes ht hi hz hsize hby hzs hsz (.slice none 0 0) 0 [] (World.ownsRow_nil _ _ _ _) ad m c news hl hnews h1 hm (by unfold maxLen; omega)
    (by have : (0 + m) * bytes ≤ (0 + m) * 100 := Nat.mul_le_mul_left _ hb; omega)
  unfold Oper.wp execOp
  simp only [ho, resolve, invoke, builtin, Sem.run_bind, Sem.run_pure, Result.andThen_ok, List.map_toArray, List.map_cons, List.map_nil, hs, hx, hr]
  rw [Nat.zero_add, List.nil_append] at h2
  refine hK _ _ (h v' w' h2 ((Chg.of_grown h3).mono fun k _ e => by cases e) ?_)
  rcases h4 with h4 | h4
  · rcases h2.2 with ⟨rfl, _⟩ | ⟨g, cap, cur, rfl, _⟩
    · exact absurd rfl h5
    · cases h4
  · exact h4

/-- What 'with' returns. -/
def WithPost (vn : Value) (limit : Int) (st : List Int) (w : World) (e : Ending) (w' : World) : Prop :=
  ∃ vs', e = .returned (.agg #[vn, .int .i64 limit, vs']) ∧ Row w' vs' st ∧ (∀ g, vs'.ownBlock = some g → w.heap.size ≤ g) ∧ Below w.heap.size w w'

set_option maxRecDepth 100000 in
set_option maxHeartbeats 4000000 in
theorem with_any (w : World) (vn vs : Value) (limit : Int) (ns : List (List Int)) (st : List Int) (n : Nat) (x : Int) (hn : NView w vn ns) (hv : View w vs st) (hl : st.length ≤ 100000) (hnl : n < st.length) :
    Calls Try.prog 49 #[.agg #[vn, .int .i64 limit, vs], .int .i64 n, .int .i64 x] w (WithPost vn limit (st.set n x) w) := by
  obtain ⟨on, cn, rfl⟩ := hn.len
  obtain ⟨g1, o1, cv, rfl, _⟩ := hv.at hnl
  have B1 := hid (((Below.refl w.heap.size w).alloc (Nat.le_refl _) (.cells #[.slice on ns.length cn, .int .i64 limit, .slice (some ⟨g1, o1, none⟩) st.length cv] 33)).alloc (by simp) (.cells #[.slice none 0 0, .int .i64 0, .slice none 0 0] 33))
  have ha : ((w.alloc (.cells #[.slice on ns.length cn, .int .i64 limit, .slice (some ⟨g1, o1, none⟩) st.length cv] 33)).alloc (.cells #[.slice none 0 0, .int .i64 0, .slice none 0 0] 33)).heap[w.heap.size]? = some (.cells #[.slice on ns.length cn, .int .i64 limit, .slice (some ⟨g1, o1, none⟩) st.length cv] 33) :=
    (heap_alloc_old _ _ (by simp)).trans (heap_alloc_at w _)
  have hb : ((w.alloc (.cells #[.slice on ns.length cn, .int .i64 limit, .slice (some ⟨g1, o1, none⟩) st.length cv] 33)).alloc (.cells #[.slice none 0 0, .int .i64 0, .slice none 0 0] 33)).heap[w.heap.size + 1]? = some (.cells #[.slice none 0 0, .int .i64 0, .slice none 0 0] 33) := by
    have := heap_alloc_at (w.alloc (.cells #[.slice on ns.length cn, .int .i64 limit, .slice (some ⟨g1, o1, none⟩) st.length cv] 33)) (.cells #[.slice none 0 0, .int .i64 0, .slice none 0 0] 33)
    rwa [show (w.alloc (.cells #[.slice on ns.length cn, .int .i64 limit, .slice (some ⟨g1, o1, none⟩) st.length cv] 33)).heap.size = w.heap.size + 1 by simp] at this
  have hsz : ((w.alloc (.cells #[.slice on ns.length cn, .int .i64 limit, .slice (some ⟨g1, o1, none⟩) st.length cv] 33)).alloc (.cells #[.slice none 0 0, .int .i64 0, .slice none 0 0] 33)).heap.size = w.heap.size + 2 := by simp
  have hcs : ∀ j u, (ints st)[j]? = some u → ((w.alloc (.cells #[.slice on ns.length cn, .int .i64 limit, .slice (some ⟨g1, o1, none⟩) st.length cv] 33)).alloc (.cells #[.slice none 0 0, .int .i64 0, .slice none 0 0] 33)).cell? ((⟨g1, o1, none⟩ : Addr).add j) = some u := by
    intro j u hu
    have hj : j < st.length := by have := (List.getElem?_eq_some_iff.1 hu).1; simpa using this
    obtain ⟨g2, o2, c2, e, hc⟩ := (hv.keep (Keeps.below B1.out)).at hj
    cases e
    have ea : (⟨g1, o1, none⟩ : Addr).add j = ⟨g1, o1 + j, none⟩ := by unfold Addr.add; split <;> simp_all
    rw [ea, hc, ← hu, List.getElem?_map, List.getElem?_eq_getElem hj, List.getD_eq_getElem?_getD, List.getElem?_eq_getElem hj]; rfl
  have HA := hid ha
  have HB := hid hb
  have HCS := hid hcs
  have HSZ := hid hsz
  have hn0 : (0 : Int) ≤ (n : Int) := by omega
  have hn1 : (n : Int) < (st.length : Int) := by omega
  clear hn hv ha hb hsz hcs
  go_enter Try.func49, Try.ntmps49
  go_wp2_with (at_builtin; refine app_all rfl (.tmp 8) (.tmp 10) 31 rfl 3 (.int .i64 0) 1 8 Try.underlying31 info3 rfl (by decide) (by decide) rfl ⟨g1, o1, none⟩ st.length cv (ints st) rfl (by simp) HCS.out (by simp [Value.oneCell']) (by omega) (by omega) ?_; intro v3 w3 hown3 hc3 hp3; obtain ⟨g3, pad3, rfl, hh3, hcap3⟩ := (Row.of_owns hown3 rfl).resolve_left (by rintro ⟨rfl, _⟩; obtain ⟨_, h, _⟩ := hp3; cases h); have HH3 := hid hh3; have HC3 := hid hc3; have HP3 := hid hp3; have hcell3 : w3.cell? ⟨g3, n, none⟩ = some (.int .i64 (st.getD n 0)) := (by have := row_cells hh3 n hnl; rwa [Nat.zero_add] at this); have hfr3 : w3.frozen? ⟨g3, n, none⟩ = false := frozen_in hh3 _; have hg3 : w.heap.size + 2 ≤ g3 := (by obtain ⟨g, e, h⟩ := hp3; cases e; rw [HSZ.out] at h; exact h); have ha3 := (hc3.block w.heap.size (by rw [HSZ.out]; omega) (fun h => h)).trans HA.out; have hb3 := (hc3.block (w.heap.size + 1) (by rw [HSZ.out]; omega) (fun h => h)).trans HB.out; have HA3 := hid ha3; have HB3 := hid hb3; have p0 := cells_in ha3 0; have p1 := cells_in ha3 1; have q0 := cells_in hb3 0; have q1 := cells_in hb3 1; have q2 := cells_in hb3 2; simp at p0 p1 q0 q1 q2; have qf := (fun o => frozen_in hb3 o); have hne3 : w.heap.size ≠ g3 := (by omega); have hne4 : w.heap.size + 1 ≠ g3 := (by omega); clear hown3 hc3 hp3 hh3 ha3 hb3)
  have s1 : (w3.setCell ⟨g3, n, none⟩ (.int .i64 x)).heap[g3]? = some (.cells (ints (st.set n x) ++ pad3).toArray 3) := by
    rw [obj_set HH3.out, List.setIfInBounds_toArray, List.set_append_left _ _ (by simp; omega)]
    simp [ints, List.map_set]
  have k1 : Chg (fun k => k = g3) w3 (w3.setCell ⟨g3, n, none⟩ (.int .i64 x)) := Chg.setCell _ _ _ _ rfl
  have hbl : w.heap.size + 1 < w3.heap.size := (Array.getElem?_eq_some_iff.1 HB3.out).1
  have s2 := (k1.block (w.heap.size + 1) hbl hne4).trans HB3.out
  have b2 : Below w.heap.size w (w3.setCell ⟨g3, n, none⟩ (.int .i64 x)) := by
    have hb3 : Below w.heap.size w w3 := B1.out.trans ⟨HC3.out.os, HC3.out.tape, HC3.out.output, HC3.out.size, fun k hk => HC3.out.block k (by rw [HSZ.out]; omega) (fun h => h)⟩
    exact hb3.setCell (show w.heap.size ≤ g3 by omega) _
  generalize w3.setCell ⟨g3, n, none⟩ (.int .i64 x) = ws at *
  have s3 := three_set s2 (.slice on ns.length cn) (.int .i64 limit) (.slice (some ⟨g3, 0, none⟩) st.length (st.length + pad3.length))
  have b3 := three_below b2 (r := w.heap.size + 1) (by omega) (.slice on ns.length cn) (.int .i64 limit) (.slice (some ⟨g3, 0, none⟩) st.length (st.length + pad3.length))
  have k3 := three_chg ws (w.heap.size + 1) (.slice on ns.length cn) (.int .i64 limit) (.slice (some ⟨g3, 0, none⟩) st.length (st.length + pad3.length))
  have s4 := (k3.block g3 (Array.getElem?_eq_some_iff.1 s1).1 (fun e => hne4 e.symm)).trans s1
  generalize ((ws.setCell ⟨w.heap.size + 1, 0, none⟩ (.slice on ns.length cn)).setCell ⟨w.heap.size + 1, 1, none⟩ (.int .i64 limit)).setCell ⟨w.heap.size + 1, 2, none⟩ (.slice (some ⟨g3, 0, none⟩) st.length (st.length + pad3.length)) = W at *
  have d0 := cells_in s3 0
  have d1 := cells_in s3 1
  have d2 := cells_in s3 2
  simp at d0 d1 d2
  have hpost : WithPost (.slice on ns.length cn) limit (st.set n x) w (.returned (.agg #[.slice on ns.length cn, .int .i64 limit, .slice (some ⟨g3, 0, none⟩) st.length (st.length + pad3.length)])) W :=
    ⟨_, rfl, .inr ⟨g3, pad3, by rw [List.length_set], s4, by rw [List.length_set]; exact hcap3⟩, fun g hg => (by cases hg; show w.heap.size ≤ g3; omega), b3⟩
  have HP := hid hpost
  clear hpost s1 s2 s3 s4 b2 b3 k1 k3
  refine bodyPost_ret (v := .agg #[.slice on ns.length cn, .int .i64 limit, .slice (some ⟨g3, 0, none⟩) st.length (st.length + pad3.length)]) (by simp [results, Try.results49, go_sem, d0, d1, d2]) rfl ?_
  exact HP.out
end Go.Proofs.Ytoaellmjgejgfaa
