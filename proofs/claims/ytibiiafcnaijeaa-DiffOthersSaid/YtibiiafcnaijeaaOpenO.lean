/- Arguments that came in, opened: values, records, names, numbers. -/
import Derived.Test.YtibiiafcnaijeaaRec
import Derived.SliceStrings
import Derived.Deep.Strs
import Derived.SizedLaws
import Derived.ProofKit
import Derived.OpenShut
namespace Go.Proofs.Ytibiiafcnaijeaa
open Go Go.ChangeShapes Go.WideShapes Go.ChangeAt Go.RowKit Go.Deep
set_option linter.unusedVariables false
set_option linter.unusedSimpArgs false
set_option maxRecDepth 100000

theorem cellsN : Try.prog.cellsOf 24 = 1 := by kernel_rfl
theorem cellsS : Try.prog.cellsOf 9 = 1 := by kernel_rfl
theorem bytesS : Try.prog.bytesOf 9 = 16 := by kernel_rfl
theorem reach_le : reachBytes ≤ 140737488355328 := by decide
theorem add_off (b o i : Nat) : (⟨b, o, none⟩ : Addr).add i = ⟨b, o + i, none⟩ := by
  unfold Addr.add; split <;> simp_all
theorem spot_none {W : World} {a : Addr} {v : Value} (h0 : W.cell? a = some v) : a.spot = none := by
  unfold World.cell? at h0
  split at h0
  · split at h0
    · cases h0
    · rename_i h; simpa using h
  · cases h0
/-- An address at whose head something is read. -/
theorem addr_flat {W : World} {a : Addr} {v : Value} (h : W.cell? (a.add 0) = some v) : ∃ g o, a = ⟨g, o, none⟩ := by
  have ea : a.add 0 = a := by simp [Addr.add]
  rw [ea] at h
  have hs := spot_none h
  obtain ⟨g, o, s⟩ := a
  simp at hs
  subst hs
  exact ⟨g, o, rfl⟩
section
variable {H : Type} {enc : TypeId × Value → H} {W : World}
theorem weights_all {P : Program} {e : TypeId} : ∀ {l : List (DataW H)} {d : DataW H} {n : Nat}, d ∈ l → n ∈ d.weights P e → n ∈ DataW.weightsAll P e l
  | x :: l, d, n, hm, hn => by
    rw [DataW.weightsAll, List.mem_append]
    rcases List.mem_cons.1 hm with rfl | hm
    · exact .inl hn
    · exact .inr (weights_all hm hn)
def dstr (ss : List ByteArray) : List (DataW H) := ss.map fun s => .lit (.string s.data.toList)
/-- A list of names. -/
theorem open_names {fuel : Nat} {v : Value} {x : DataW H × List MemPlace} (h : DataW.trod enc Try.prog W 0 (fun _ => true) true fuel 24 [v] = some x) (hw : ∀ n ∈ x.1.weights Try.prog 24, n ≤ reachBytes) :
    ∃ ns, SV (fun _ => True) W v ns := by
  have hr := reach_le
  rcases open_strings Try.underlying24 Try.underlying9 cellsS h with ⟨hcs, hx⟩ | ⟨a, len, cap, ss, hcs, hb, hl, hm, hlen, hx, hc, hs⟩
  · simp only [List.cons.injEq, and_true] at hcs
    subst hcs
    exact ⟨[], ⟨by simp, .inl ⟨rfl, _, _, rfl⟩⟩, List.forall_mem_nil _⟩
  · simp only [List.cons.injEq, and_true] at hcs
    subst hcs
    subst hx
    have hw2 : ∀ n, n ∈ ((dstr (H := H) (ss.take len)).length + (dstr (H := H) (ss.drop len)).length) * Try.prog.bytesOf 9 :: (DataW.weightsAll Try.prog 9 (dstr (H := H) (ss.take len)) ++ DataW.weightsAll Try.prog 9 (dstr (H := H) (ss.drop len))) → n ≤ reachBytes := fun n hn => hw n (by
      rw [DataW.weights, Try.underlying24]; exact hn)
    have h1 := hw2 _ (List.mem_cons_self ..)
    rw [bytesS] at h1
    have hsl : ss.length = cap := by simpa using hlen
    have htl : (ss.take len).length = len := by rw [List.length_take]; omega
    refine ⟨ss.take len, ⟨?_, ?_⟩, fun s hs' => ?_⟩
    · have : (dstr (H := H) (ss.take len)).length = len := by unfold dstr; rw [List.length_map, htl]
      rw [List.length_map, htl]; omega
    · by_cases h0 : len = 0
      · subst h0; exact .inl ⟨by simp, _, _, rfl⟩
      · have hc0 := hc 0 (by omega)
        obtain ⟨g, o, rfl⟩ := addr_flat hc0
        refine .inr ⟨g, o, cap, trivial, by rw [List.length_map, htl], fun i u hu => ?_⟩
        have hi : i < len := by have := (List.getElem?_eq_some_iff.1 hu).1; rw [List.length_map, htl] at this; exact this
        rw [List.getElem?_map, List.getElem?_take, if_pos hi] at hu
        have := hc i (by omega)
        rw [add_off] at this
        rw [this]
        have hl2 : i < ss.length := by omega
        rw [List.getElem?_eq_getElem hl2] at hu
        rw [← hu, List.getD_eq_getElem?_getD, List.getElem?_eq_getElem hl2]; rfl
    · have hm2 : s.data.toList.length ≤ reachBytes := hw2 _ (List.mem_cons_of_mem _ (List.mem_append_left _ (weights_all (d := .lit (.string s.data.toList)) (by unfold dstr; exact List.mem_map.2 ⟨s, hs', rfl⟩) (by rw [DataW.weights]; exact List.mem_singleton.2 rfl))))
      rw [size_eq]; omega
end
theorem cellsV : Try.prog.cellsOf 26 = 5 := by kernel_rfl
theorem cellsVK : Try.prog.cellsOf 22 = 1 := by kernel_rfl
theorem cellsInt : Try.prog.cellsOf 3 = 1 := by kernel_rfl
theorem cellsVE : Try.prog.cellsOf 23 = 1 := by kernel_rfl
theorem bytesV : Try.prog.bytesOf 26 = 80 := by kernel_rfl
section
variable {H : Type} {enc : TypeId × Value → H} {W : World}
theorem trod_struct5' {P : Program} {t : TypeId} {f0 f1 f2 f3 f4 : Field} (m : Nat) {cs : List Value} {x : DataW H × List MemPlace} (ht : P.underlying t = some (.struct #[f0, f1, f2, f3, f4])) (h : DataW.trod enc P W 0 (fun _ => true) true (m + 1) t cs = some x) :
    ∃ y0 y1 y2 y3 y4 n, (n = m ∧ x.1 = .agg [y0.1, y1.1, y2.1, y3.1, y4.1]) ∧ cs.length = P.cellsOf t ∧ DataW.trod enc P W 0 (fun _ => true) true n f0.type ((cs.drop f0.offset).take (P.cellsOf f0.type)) = some y0 ∧
      DataW.trod enc P W 0 (fun _ => true) true n f1.type ((cs.drop f1.offset).take (P.cellsOf f1.type)) = some y1 ∧ DataW.trod enc P W 0 (fun _ => true) true n f2.type ((cs.drop f2.offset).take (P.cellsOf f2.type)) = some y2 ∧
      DataW.trod enc P W 0 (fun _ => true) true n f3.type ((cs.drop f3.offset).take (P.cellsOf f3.type)) = some y3 ∧ DataW.trod enc P W 0 (fun _ => true) true n f4.type ((cs.drop f4.offset).take (P.cellsOf f4.type)) = some y4 := by
  obtain ⟨xs, n, hn, rfl, hl, hlen, hf⟩ := DataW.trod_struct ht h
  match xs, hlen with
  | [y0, y1, y2, y3, y4], _ => exact ⟨y0, y1, y2, y3, y4, n, ⟨by omega, rfl⟩, hl, by simpa using hf 0 f0 rfl, by simpa using hf 1 f1 rfl, by simpa using hf 2 f2 rfl, by simpa using hf 3 f3 rfl, by simpa using hf 4 f4 rfl⟩
theorem open_val : ∀ (fuel : Nat) (cs : List Value) (x : DataW H × List MemPlace), DataW.trod enc Try.prog W 0 (fun _ => true) true fuel 26 cs = some x → (∀ n ∈ x.1.weights Try.prog 26, n ≤ reachBytes) →
    ∃ a b c d e t, cs = [a, b, c, d, e] ∧ VV (fun _ => True) W (.agg #[a, b, c, d, e]) t := by
  intro fuel
  induction fuel using Nat.strongRecOn with
  | ind fuel ih =>
    intro cs x h hw
    have hr := reach_le
    cases fuel with
    | zero => simp [DataW.trod] at h
    | succ m =>
    obtain ⟨y0, y1, y2, y3, y4, n, hx, hl, h0, h1, h2, h3, h4⟩ := trod_struct5' m Try.underlying26 h
    rw [cellsV] at hl
    obtain ⟨a, b, c, d, e, rfl⟩ : ∃ a b c d e, cs = [a, b, c, d, e] := by
      match cs, hl with
      | [a, b, c, d, e], _ => exact ⟨a, b, c, d, e, rfl⟩
    obtain ⟨rfl, hx⟩ := hx
    rw [hx] at hw
    simp only [cellsVK, cellsInt, cellsS, cellsVE, cellsN] at h0 h1 h2 h3 h4
    have e0 : (List.drop 0 [a, b, c, d, e]).take 1 = [a] := rfl
    have e1 : (List.drop 1 [a, b, c, d, e]).take 1 = [b] := rfl
    have e2 : (List.drop 2 [a, b, c, d, e]).take 1 = [c] := rfl
    have e3 : (List.drop 3 [a, b, c, d, e]).take 1 = [d] := rfl
    have e4 : (List.drop 4 [a, b, c, d, e]).take 1 = [e] := rfl
    rw [e0] at h0
    rw [e1] at h1
    rw [e2] at h2
    rw [e3] at h3
    rw [e4] at h4
    obtain ⟨k, hk, _, _⟩ := DataW.trod_int Try.underlying22 h0
    simp only [List.cons.injEq, and_true] at hk
    subst hk
    obtain ⟨nn, hk, _, _⟩ := DataW.trod_int Try.underlying3 h1
    simp only [List.cons.injEq, and_true] at hk
    subst hk
    obtain ⟨s, hk, hy2, _⟩ := DataW.trod_string Try.underlying9 h2
    simp only [List.cons.injEq, and_true] at hk
    subst hk
    have hwS : ∀ n ∈ y2.1.weights Try.prog 9, n ≤ reachBytes := fun q hq => hw q (by
      rw [DataW.weights, Try.underlying26]
      simp only [List.map_cons, List.map_nil, DataW.weightsEach, List.mem_append]
      exact .inr (.inr (.inl hq)))
    have hw1 : ∀ n ∈ y3.1.weights Try.prog 23, n ≤ reachBytes := fun q hq => hw q (by
      rw [DataW.weights, Try.underlying26]
      simp only [List.map_cons, List.map_nil, DataW.weightsEach, List.mem_append]
      exact .inr (.inr (.inr (.inl hq))))
    have hw2 : ∀ n ∈ y4.1.weights Try.prog 24, n ≤ reachBytes := fun q hq => hw q (by
      rw [DataW.weights, Try.underlying26]
      simp only [List.map_cons, List.map_nil, DataW.weightsEach, List.mem_append]
      exact .inr (.inr (.inr (.inr (.inl hq)))))
    have hsz : s.size ≤ 140737488355328 := by
      have := hwS s.data.toList.length (by rw [hy2, DataW.weights]; exact List.mem_singleton.2 rfl)
      rw [size_eq]; omega
    obtain ⟨ks, hks⟩ := open_names h4 hw2
    suffices hE : ∃ is, WV (fun _ => True) W d is by
      obtain ⟨is, his⟩ := hE
      exact ⟨_, _, _, d, e, .mk k nn s is ks, rfl, VV.mk' hsz hks his⟩
    rcases DataW.trod_slice Try.underlying23 h3 with ⟨hcs, hx⟩ | ⟨ad, len, cap, elems, rest, n', rfl, hcs, hx, hb, hlc, hm, hlen, hel, hsp, hns'⟩
    · simp only [List.cons.injEq, and_true] at hcs
      subst hcs
      exact ⟨[], WV.nil _ _⟩
    · simp only [List.cons.injEq, and_true] at hcs
      subst hcs
      subst hx
      dsimp only at hw1
      have hwE : ∀ n, n ∈ ((elems.map (·.1)).length + (rest.map (·.1)).length) * Try.prog.bytesOf 26 :: (DataW.weightsAll Try.prog 26 (elems.map (·.1)) ++ DataW.weightsAll Try.prog 26 (rest.map (·.1))) → n ≤ reachBytes := fun q hq => hw1 q (by
        rw [DataW.weights, Try.underlying23]; exact hq)
      have hbig := hwE _ (List.mem_cons_self ..)
      rw [bytesV, List.length_map, hlen] at hbig
      have each : ∀ i, i < len → ∃ x y z u v t, W.cells? 0 (ad.add (i * 5)) 5 = some [x, y, z, u, v] ∧ VV (fun _ => True) W (.agg #[x, y, z, u, v]) t := fun i hi => by
        have hi' : i < elems.length := by omega
        have he := hel i hi
        rw [cellsV, List.getElem?_eq_getElem hi'] at he
        cases hcq : W.cells? 0 (ad.add (i * 5)) 5 with
        | none => rw [hcq] at he; cases he
        | some l =>
          rw [hcq] at he
          obtain ⟨x, y, z, u, v, t, rfl, ht⟩ := ih n' (by omega) l elems[i] he (fun q hq => hwE q (List.mem_cons_of_mem _ (List.mem_append_left _ (weights_all (d := elems[i].1) (List.mem_map.2 ⟨_, List.getElem_mem hi', rfl⟩) hq))))
          exact ⟨x, y, z, u, v, t, rfl, ht⟩
      by_cases h00 : len = 0
      · subst h00; exact ⟨[], ⟨[], ⟨by simp, .inl ⟨rfl, _, _, rfl⟩⟩, rfl, fun i r e h => by simp at h⟩⟩
      · obtain ⟨g, o, rfl⟩ : ∃ g o, ad = ⟨g, o, none⟩ := by
          obtain ⟨x, y, z, u, v, t, hc, _⟩ := each 0 (by omega)
          have := (World.cells?_some hc).2.2 0 (by omega)
          rw [show ad.add (0 * 5) = ad by simp [Addr.add]] at this
          exact addr_flat this
        have cell : ∀ i, i < len → ∃ (r : V5) (t : Vl), W.cell? ⟨g, o + i * 5, none⟩ = some r.1 ∧ W.cell? ⟨g, o + i * 5 + 1, none⟩ = some r.2.1 ∧ W.cell? ⟨g, o + i * 5 + 2, none⟩ = some r.2.2.1 ∧ W.cell? ⟨g, o + i * 5 + 3, none⟩ = some r.2.2.2.1 ∧ W.cell? ⟨g, o + i * 5 + 4, none⟩ = some r.2.2.2.2 ∧ VV (fun _ => True) W (pent r) t := fun i hi => by
          obtain ⟨x, y, z, u, v, t, hc, ht⟩ := each i hi
          have hc' := (World.cells?_some hc).2.2
          refine ⟨(x, y, z, u, v), t, ?_, ?_, ?_, ?_, ?_, ht⟩
          · have := hc' 0 (by omega); rw [add_off, add_off] at this; exact this
          · have := hc' 1 (by omega); rw [add_off, add_off] at this; exact this
          · have := hc' 2 (by omega); rw [add_off, add_off] at this; exact this
          · have := hc' 3 (by omega); rw [add_off, add_off] at this; exact this
          · have := hc' 4 (by omega); rw [add_off, add_off] at this; exact this
        have : ∃ f : Nat → V5 × Vl, ∀ i, i < len → W.cell? ⟨g, o + i * 5, none⟩ = some (f i).1.1 ∧ W.cell? ⟨g, o + i * 5 + 1, none⟩ = some (f i).1.2.1 ∧ W.cell? ⟨g, o + i * 5 + 2, none⟩ = some (f i).1.2.2.1 ∧ W.cell? ⟨g, o + i * 5 + 3, none⟩ = some (f i).1.2.2.2.1 ∧ W.cell? ⟨g, o + i * 5 + 4, none⟩ = some (f i).1.2.2.2.2 ∧ VV (fun _ => True) W (pent (f i).1) (f i).2 := by
          have hch : ∀ i, ∃ p : V5 × Vl, i < len → W.cell? ⟨g, o + i * 5, none⟩ = some p.1.1 ∧ W.cell? ⟨g, o + i * 5 + 1, none⟩ = some p.1.2.1 ∧ W.cell? ⟨g, o + i * 5 + 2, none⟩ = some p.1.2.2.1 ∧ W.cell? ⟨g, o + i * 5 + 3, none⟩ = some p.1.2.2.2.1 ∧ W.cell? ⟨g, o + i * 5 + 4, none⟩ = some p.1.2.2.2.2 ∧ VV (fun _ => True) W (pent p.1) p.2 := fun i => by
            by_cases hi : i < len
            · obtain ⟨r, t, h⟩ := cell i hi
              exact ⟨(r, t), fun _ => h⟩
            · exact ⟨((.bool true, .bool true, .bool true, .bool true, .bool true), .mk 0 0 ⟨#[]⟩ [] []), fun h => absurd h hi⟩
          exact ⟨fun i => (hch i).choose, fun i hi => (hch i).choose_spec hi⟩
        obtain ⟨f, hf⟩ := this
        refine ⟨(List.range len).map fun i => (f i).2, (List.range len).map fun i => (f i).1, ⟨by simp; omega, .inr ⟨g, o, cap, trivial, by simp, fun i r hr => ?_⟩⟩, by simp, fun i r t hr ht => ?_⟩
        · have hi : i < len := by have := (List.getElem?_eq_some_iff.1 hr).1; simpa using this
          rw [List.getElem?_map, List.getElem?_range hi] at hr
          cases hr
          exact ⟨(hf i hi).1, (hf i hi).2.1, (hf i hi).2.2.1, (hf i hi).2.2.2.1, (hf i hi).2.2.2.2.1⟩
        · have hi : i < len := by have := (List.getElem?_eq_some_iff.1 hr).1; simpa using this
          rw [List.getElem?_map, List.getElem?_range hi] at hr ht
          cases hr
          cases ht
          exact (hf i hi).2.2.2.2.2
/-- An argument that is a value. -/
theorem open_value {v : Value} {d : DataW H} {p : List MemPlace} {base : Nat} (hv : Value.okWide Try.prog W .any base 26 v) (h : DataW.Trod enc Try.prog W 0 (fun _ => true) true 26 v d p)
    (hw : ∀ n ∈ d.weights Try.prog 26, n ≤ reachBytes) : ∃ t, VV (fun _ => True) W v t := by
  obtain ⟨cs, rfl, hcs⟩ := okWide_struct Try.underlying26 hv
  obtain ⟨fuel, hf⟩ := h
  obtain ⟨a, b, c, x, y, t, he, ht⟩ := open_val fuel _ _ hf hw
  have : cs.toList = [a, b, c, x, y] := by simpa [Value.cells] using he
  have e : cs = #[a, b, c, x, y] := Array.toList_inj.1 (by rw [this])
  exact ⟨t, by rw [e]; exact ht⟩
end

theorem cellsI13 : Try.prog.cellsOf 28 = 13 := by kernel_rfl
theorem cellsB : Try.prog.cellsOf 4 = 1 := by kernel_rfl
theorem cellsR : Try.prog.cellsOf 29 = 1 := by kernel_rfl
theorem cellsU : Try.prog.cellsOf 5 = 1 := by kernel_rfl
theorem cellsUs : Try.prog.cellsOf 30 = 1 := by kernel_rfl
theorem cellsO : Try.prog.cellsOf 32 = 17 := by kernel_rfl
theorem bytesU : Try.prog.bytesOf 5 = 1 := by kernel_rfl
/-- v reads as small numbers. -/
def UV (w : World) (v : Value) (l : List Int) : Prop := l.length ≤ 9223372036854775807 ∧ ∃ oa c, v = .slice oa l.length c ∧ ∀ i (h : i < l.length), ∃ g o, oa = some ⟨g, o, none⟩ ∧ w.cell? ⟨g, o + i, none⟩ = some (.int .u8 l[i]) ∧ 0 ≤ l[i] ∧ l[i] ≤ 255
theorem open_small {H : Type} {enc : TypeId × Value → H} {W : World} {fuel : Nat} {v : Value} {x : DataW H × List MemPlace} (h : DataW.trod enc Try.prog W 0 (fun _ => true) true fuel 30 [v] = some x) : ∃ l, UV W v l := by
  rcases open_ints Try.underlying30 Try.underlying5 cellsU h with ⟨hcs, hx⟩ | ⟨a, len, cap, zs, hcs, hb, hl, hm, hzl, hx, hel, hwf⟩
  · simp only [List.cons.injEq, and_true] at hcs
    exact ⟨[], by simp, none, 0, hcs, fun i hi => by cases hi⟩
  · simp only [List.cons.injEq, and_true] at hcs
    simp only [if_true] at hzl
    have hm' : cap ≤ 9223372036854775807 := by simpa [maxLen] using hm
    have htl : (zs.take len).length = len := by rw [List.length_take]; omega
    refine ⟨zs.take len, by omega, some a, cap, by rw [hcs, htl], fun i hi => ?_⟩
    have hil : i < zs.length := by omega
    have hw := hwf (zs.getD i 0) (by rw [List.getD_eq_getElem?_getD, List.getElem?_eq_getElem hil]; exact List.getElem_mem hil)
    have e1 : IntKind.u8.min = 0 := by decide
    have e2 : IntKind.u8.max = 255 := by decide
    simp only [Lit.wf, Bool.and_eq_true, decide_eq_true_eq, e1, e2] at hw
    obtain ⟨g, o, rfl⟩ := addr_flat (hel 0 (by omega))
    have := hel i hil
    rw [add_off] at this
    have e3 : (zs.take len)[i] = zs.getD i 0 := by rw [List.getElem_take, List.getD_eq_getElem?_getD, List.getElem?_eq_getElem hil]; rfl
    rw [e3]
    exact ⟨g, o, rfl, this, hw.1, hw.2⟩
/-- A record. -/
theorem open_inst {H : Type} {enc : TypeId × Value → H} {W : World} {fuel : Nat} {cs : List Value} {x : DataW H × List MemPlace} (h : DataW.trod enc Try.prog W 0 (fun _ => true) true fuel 28 cs = some x) (hw : ∀ n ∈ x.1.weights Try.prog 28, n ≤ reachBytes) :
    cs.length = 13 ∧ ∃ i, IV (fun _ => True) W (.agg cs.toArray) i := by
  cases fuel with
  | zero => simp [DataW.trod] at h
  | succ m =>
  obtain ⟨xs, n, hn, rfl, hl, hlen, hf⟩ := DataW.trod_struct Try.underlying28 h
  rw [cellsI13] at hl
  refine ⟨hl, ?_⟩
  obtain ⟨c0, c1, c2, c3, c4, c5, c6, c7, c8, c9, c10, c11, c12, rfl⟩ : ∃ c0 c1 c2 c3 c4 c5 c6 c7 c8 c9 c10 c11 c12, cs = [c0, c1, c2, c3, c4, c5, c6, c7, c8, c9, c10, c11, c12] := by
    match cs, hl with
    | [c0, c1, c2, c3, c4, c5, c6, c7, c8, c9, c10, c11, c12], _ => exact ⟨c0, c1, c2, c3, c4, c5, c6, c7, c8, c9, c10, c11, c12, rfl⟩
  match xs, hlen with
  | [y0, y1, y2, y3, y4, y5, y6, y7, y8], _ =>
    have h0 : DataW.trod enc Try.prog W 0 (fun _ => true) true n 9 ((List.drop 0 [c0, c1, c2, c3, c4, c5, c6, c7, c8, c9, c10, c11, c12]).take (Try.prog.cellsOf 9)) = some y0 := by simpa using hf 0 _ rfl
    have h1 : DataW.trod enc Try.prog W 0 (fun _ => true) true n 9 ((List.drop 1 [c0, c1, c2, c3, c4, c5, c6, c7, c8, c9, c10, c11, c12]).take (Try.prog.cellsOf 9)) = some y1 := by simpa using hf 1 _ rfl
    have h2 : DataW.trod enc Try.prog W 0 (fun _ => true) true n 9 ((List.drop 2 [c0, c1, c2, c3, c4, c5, c6, c7, c8, c9, c10, c11, c12]).take (Try.prog.cellsOf 9)) = some y2 := by simpa using hf 2 _ rfl
    have h3 : DataW.trod enc Try.prog W 0 (fun _ => true) true n 9 ((List.drop 3 [c0, c1, c2, c3, c4, c5, c6, c7, c8, c9, c10, c11, c12]).take (Try.prog.cellsOf 9)) = some y3 := by simpa using hf 3 _ rfl
    have h4 : DataW.trod enc Try.prog W 0 (fun _ => true) true n 26 ((List.drop 4 [c0, c1, c2, c3, c4, c5, c6, c7, c8, c9, c10, c11, c12]).take (Try.prog.cellsOf 26)) = some y4 := by simpa using hf 4 _ rfl
    have h5 : DataW.trod enc Try.prog W 0 (fun _ => true) true n 3 ((List.drop 9 [c0, c1, c2, c3, c4, c5, c6, c7, c8, c9, c10, c11, c12]).take (Try.prog.cellsOf 3)) = some y5 := by simpa using hf 5 _ rfl
    have h6 : DataW.trod enc Try.prog W 0 (fun _ => true) true n 4 ((List.drop 10 [c0, c1, c2, c3, c4, c5, c6, c7, c8, c9, c10, c11, c12]).take (Try.prog.cellsOf 4)) = some y6 := by simpa using hf 6 _ rfl
    have h7 : DataW.trod enc Try.prog W 0 (fun _ => true) true n 4 ((List.drop 11 [c0, c1, c2, c3, c4, c5, c6, c7, c8, c9, c10, c11, c12]).take (Try.prog.cellsOf 4)) = some y7 := by simpa using hf 7 _ rfl
    have h8 : DataW.trod enc Try.prog W 0 (fun _ => true) true n 24 ((List.drop 12 [c0, c1, c2, c3, c4, c5, c6, c7, c8, c9, c10, c11, c12]).take (Try.prog.cellsOf 24)) = some y8 := by simpa using hf 8 _ rfl
    simp only [cellsS, cellsV, cellsInt, cellsB, cellsN] at h0 h1 h2 h3 h4 h5 h6 h7 h8
    rw [show (List.drop 0 [c0, c1, c2, c3, c4, c5, c6, c7, c8, c9, c10, c11, c12]).take 1 = [c0] from rfl] at h0
    rw [show (List.drop 1 [c0, c1, c2, c3, c4, c5, c6, c7, c8, c9, c10, c11, c12]).take 1 = [c1] from rfl] at h1
    rw [show (List.drop 2 [c0, c1, c2, c3, c4, c5, c6, c7, c8, c9, c10, c11, c12]).take 1 = [c2] from rfl] at h2
    rw [show (List.drop 3 [c0, c1, c2, c3, c4, c5, c6, c7, c8, c9, c10, c11, c12]).take 1 = [c3] from rfl] at h3
    rw [show (List.drop 4 [c0, c1, c2, c3, c4, c5, c6, c7, c8, c9, c10, c11, c12]).take 5 = [c4, c5, c6, c7, c8] from rfl] at h4
    rw [show (List.drop 9 [c0, c1, c2, c3, c4, c5, c6, c7, c8, c9, c10, c11, c12]).take 1 = [c9] from rfl] at h5
    rw [show (List.drop 10 [c0, c1, c2, c3, c4, c5, c6, c7, c8, c9, c10, c11, c12]).take 1 = [c10] from rfl] at h6
    rw [show (List.drop 11 [c0, c1, c2, c3, c4, c5, c6, c7, c8, c9, c10, c11, c12]).take 1 = [c11] from rfl] at h7
    rw [show (List.drop 12 [c0, c1, c2, c3, c4, c5, c6, c7, c8, c9, c10, c11, c12]).take 1 = [c12] from rfl] at h8
    obtain ⟨s0, e0, -, -⟩ := DataW.trod_string Try.underlying9 h0
    obtain ⟨s1, e1, -, -⟩ := DataW.trod_string Try.underlying9 h1
    obtain ⟨s2, e2, -, -⟩ := DataW.trod_string Try.underlying9 h2
    obtain ⟨s3, e3, -, -⟩ := DataW.trod_string Try.underlying9 h3
    obtain ⟨n5, e5, -, -⟩ := DataW.trod_int Try.underlying3 h5
    obtain ⟨b6, e6, -⟩ := DataW.trod_bool Try.underlying4 h6
    obtain ⟨b7, e7, -⟩ := DataW.trod_bool Try.underlying4 h7
    simp only [List.cons.injEq, and_true] at e0 e1 e2 e3 e5 e6 e7
    subst e0 e1 e2 e3 e5 e6 e7
    have hwV : ∀ q ∈ y4.1.weights Try.prog 26, q ≤ reachBytes := fun q hq => hw q (by
      rw [DataW.weights, Try.underlying28]
      simp only [List.map_cons, List.map_nil, DataW.weightsEach, List.mem_append]
      exact .inr (.inr (.inr (.inr (.inl hq)))))
    have hwS : ∀ q ∈ y8.1.weights Try.prog 24, q ≤ reachBytes := fun q hq => hw q (by
      rw [DataW.weights, Try.underlying28]
      simp only [List.map_cons, List.map_nil, DataW.weightsEach, List.mem_append]
      exact .inr (.inr (.inr (.inr (.inr (.inr (.inr (.inr (.inl hq)))))))))
    obtain ⟨a, b, c, d, e, t, hv, ht⟩ := open_val _ _ _ h4 hwV
    simp only [List.cons.injEq, and_true] at hv
    obtain ⟨rfl, rfl, rfl, rfl, rfl⟩ := hv
    obtain ⟨k, n', s, oi, mi, ci, ok, mk, ck, e1, e2, e3, e4, e5, -⟩ := ht.five
    subst e1 e2 e3 e4 e5
    obtain ⟨ks, hks⟩ := open_names h8 hwS
    obtain ⟨od, cd, rfl⟩ := hks.len
    exact ⟨⟨s0, s1, s2, s3, t, n5, b6, b7, ks⟩, k, n', s, oi, mi, ci, ok, mk, ck, od, cd, rfl, ht, hks⟩
/-- Names, a record with a reason, and actions. -/
structure Oth where
  names : List ByteArray
  i : Inst
  why : Int
  protect : Bool
  acts : List Int
def OV (w : World) (v : Value) (x : Oth) : Prop := ∃ on cn c1 c2 c3 c4 c5 c6 c7 c8 c9 c10 c11 c12 c13 ou cu, v = .agg #[.slice on x.names.length cn, c1, c2, c3, c4, c5, c6, c7, c8, c9, c10, c11, c12, c13, .int .i64 x.why, .bool x.protect, .slice ou x.acts.length cu] ∧ SV (fun _ => True) w (.slice on x.names.length cn) x.names ∧
  IV (fun _ => True) w (.agg #[c1, c2, c3, c4, c5, c6, c7, c8, c9, c10, c11, c12, c13]) x.i ∧ UV w (.slice ou x.acts.length cu) x.acts
theorem open_other {H : Type} {enc : TypeId × Value → H} {W : World} {v : Value} {d : DataW H} {p : List MemPlace} {base : Nat} (hv : Value.okWide Try.prog W .any base 32 v) (h : DataW.Trod enc Try.prog W 0 (fun _ => true) true 32 v d p)
    (hw : ∀ n ∈ d.weights Try.prog 32, n ≤ reachBytes) : ∃ x, OV W v x := by
  obtain ⟨cs, rfl, hcs⟩ := okWide_struct Try.underlying32 hv
  obtain ⟨fuel, hf⟩ := h
  cases fuel with
  | zero => simp [DataW.trod] at hf
  | succ m =>
  obtain ⟨y0, y1, y2, y3, y4, n, ⟨hn, hx⟩, hl, h0, h1, h2, h3, h4⟩ := trod_struct5' m Try.underlying32 hf
  rw [cellsO] at hl
  have hcl : (Value.agg cs).cells = cs := rfl
  rw [hcl] at hl h0 h1 h2 h3 h4
  obtain ⟨a0, a1, a2, a3, a4, a5, a6, a7, a8, a9, a10, a11, a12, a13, a14, a15, a16, he⟩ : ∃ a0 a1 a2 a3 a4 a5 a6 a7 a8 a9 a10 a11 a12 a13 a14 a15 a16, cs.toList = [a0, a1, a2, a3, a4, a5, a6, a7, a8, a9, a10, a11, a12, a13, a14, a15, a16] := by
    generalize cs.toList = l at hl
    match l, hl with
    | [a0, a1, a2, a3, a4, a5, a6, a7, a8, a9, a10, a11, a12, a13, a14, a15, a16], _ => exact ⟨a0, a1, a2, a3, a4, a5, a6, a7, a8, a9, a10, a11, a12, a13, a14, a15, a16, rfl⟩
  have e : cs = #[a0, a1, a2, a3, a4, a5, a6, a7, a8, a9, a10, a11, a12, a13, a14, a15, a16] := Array.toList_inj.1 (by rw [he])
  rw [he] at h0 h1 h2 h3 h4
  have hd1 : d = .agg [y0.1, y1.1, y2.1, y3.1, y4.1] := hx
  rw [hd1] at hw
  simp only [cellsN, cellsI13, cellsR, cellsB, cellsUs] at h0 h1 h2 h3 h4
  rw [show (List.drop 0 [a0, a1, a2, a3, a4, a5, a6, a7, a8, a9, a10, a11, a12, a13, a14, a15, a16]).take 1 = [a0] from rfl] at h0
  rw [show (List.drop 1 [a0, a1, a2, a3, a4, a5, a6, a7, a8, a9, a10, a11, a12, a13, a14, a15, a16]).take 13 = [a1, a2, a3, a4, a5, a6, a7, a8, a9, a10, a11, a12, a13] from rfl] at h1
  rw [show (List.drop 14 [a0, a1, a2, a3, a4, a5, a6, a7, a8, a9, a10, a11, a12, a13, a14, a15, a16]).take 1 = [a14] from rfl] at h2
  rw [show (List.drop 15 [a0, a1, a2, a3, a4, a5, a6, a7, a8, a9, a10, a11, a12, a13, a14, a15, a16]).take 1 = [a15] from rfl] at h3
  rw [show (List.drop 16 [a0, a1, a2, a3, a4, a5, a6, a7, a8, a9, a10, a11, a12, a13, a14, a15, a16]).take 1 = [a16] from rfl] at h4
  have hwN : ∀ q ∈ y0.1.weights Try.prog 24, q ≤ reachBytes := fun q hq => hw q (by
    rw [DataW.weights, Try.underlying32]
    simp only [List.map_cons, List.map_nil, DataW.weightsEach, List.mem_append]
    exact .inl hq)
  have hwI : ∀ q ∈ y1.1.weights Try.prog 28, q ≤ reachBytes := fun q hq => hw q (by
    rw [DataW.weights, Try.underlying32]
    simp only [List.map_cons, List.map_nil, DataW.weightsEach, List.mem_append]
    exact .inr (.inl hq))
  obtain ⟨ns, hns⟩ := open_names h0 hwN
  obtain ⟨on, cn, rfl⟩ := hns.len
  obtain ⟨-, i, hi⟩ := open_inst h1 hwI
  obtain ⟨n2, e2, -, -⟩ := DataW.trod_int Try.underlying29 h2
  obtain ⟨b3, e3, -⟩ := DataW.trod_bool Try.underlying4 h3
  simp only [List.cons.injEq, and_true] at e2 e3
  subst e2 e3
  obtain ⟨l, hl4⟩ := open_small h4
  obtain ⟨hle, ou, cu, rfl, hc⟩ := hl4
  exact ⟨⟨ns, i, n2, b3, l⟩, on, cn, _, _, _, _, _, _, _, _, _, _, _, _, _, ou, cu, by rw [e], hns, hi, hle, ou, cu, rfl, hc⟩
end Go.Proofs.Ytibiiafcnaijeaa

