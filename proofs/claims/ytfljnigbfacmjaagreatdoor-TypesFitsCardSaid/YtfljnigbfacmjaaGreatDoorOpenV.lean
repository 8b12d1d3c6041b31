/- Arguments that came in, opened as values; three types in a struct. -/
import Derived.Test.YtfljnigbfacmjaaGreatDoorOpen
import Derived.Test.YtfljnigbfacmjaaGreatDoorVal
namespace Go.Proofs.YtfljnigbfacmjaaGreatDoor
open Go Go.ChangeShapes Go.WideShapes Go.ChangeAt Go.RowKit Go.Deep
set_option linter.unusedVariables false
set_option maxRecDepth 100000

theorem cellsV : Tryz.prog.cellsOf 26 = 5 := by kernel_rfl
theorem cellsVK : Tryz.prog.cellsOf 22 = 1 := by kernel_rfl
theorem cellsInt : Tryz.prog.cellsOf 3 = 1 := by kernel_rfl
theorem cellsVE : Tryz.prog.cellsOf 23 = 1 := by kernel_rfl
theorem bytesV : Tryz.prog.bytesOf 26 = 80 := by kernel_rfl
section
variable {H : Type} {enc : TypeId × Value → H} {W : World}
theorem trod_struct5' {P : Program} {t : TypeId} {f0 f1 f2 f3 f4 : Field} (m : Nat) {cs : List Value} {x : DataW H × List MemPlace} (ht : P.underlying t = some (.struct #[f0, f1, f2, f3, f4])) (h : DataW.trod enc P W 0 (fun _ => true) true (m + 1) t cs = some x) :
    ∃ y0 y1 y2 y3 y4 n, (n = m ∧ x.1 = .agg [y0.1, y1.1, y2.1, y3.1, y4.1]) ∧ cs.length = P.cellsOf t ∧ DataW.trod enc P W 0 (fun _ => true) true n f0.type ((cs.drop f0.offset).take (P.cellsOf f0.type)) = some y0 ∧
      DataW.trod enc P W 0 (fun _ => true) true n f1.type ((cs.drop f1.offset).take (P.cellsOf f1.type)) = some y1 ∧ DataW.trod enc P W 0 (fun _ => true) true n f2.type ((cs.drop f2.offset).take (P.cellsOf f2.type)) = some y2 ∧
      DataW.trod enc P W 0 (fun _ => true) true n f3.type ((cs.drop f3.offset).take (P.cellsOf f3.type)) = some y3 ∧ DataW.trod enc P W 0 (fun _ => true) true n f4.type ((cs.drop f4.offset).take (P.cellsOf f4.type)) = some y4 := by
  obtain ⟨xs, n, hn, rfl, hl, hlen, hf⟩ := DataW.trod_struct ht h
  match xs, hlen with
  | [y0, y1, y2, y3, y4], _ => exact ⟨y0, y1, y2, y3, y4, n, ⟨by omega, rfl⟩, hl, by simpa using hf 0 f0 rfl, by simpa using hf 1 f1 rfl, by simpa using hf 2 f2 rfl, by simpa using hf 3 f3 rfl, by simpa using hf 4 f4 rfl⟩
theorem open_val : ∀ (fuel : Nat) (cs : List Value) (x : DataW H × List MemPlace), DataW.trod enc Tryz.prog W 0 (fun _ => true) true fuel 26 cs = some x → (∀ n ∈ x.1.weights Tryz.prog 26, n ≤ reachBytes) →
    ∃ a b c d e t, cs = [a, b, c, d, e] ∧ VV (fun _ => True) W (.agg #[a, b, c, d, e]) t := by
  intro fuel
  induction fuel using Nat.strongRecOn with
  | ind fuel ih =>
    intro cs x h hw
    have hr := reach_le
    cases fuel with
    | zero => simp [DataW.trod] at h
    | succ m =>
    obtain ⟨y0, y1, y2, y3, y4, n, hx, hl, h0, h1, h2, h3, h4⟩ := trod_struct5' m Tryz.underlying26 h
    rw [cellsV] at hl
    obtain ⟨a, b, c, d, e, rfl⟩ : ∃ a b c d e, cs = [a, b, c, d, e] := by
      match cs, hl with
      | [a, b, c, d, e], _ => exact ⟨a, b, c, d, e, rfl⟩
    obtain ⟨rfl, hx⟩ := hx
    rw [hx] at hw
    simp only [cellsVK, cellsInt, cellsS, cellsVE, cellsN] at h0 h1 h2 h3 h4
    have e0 : (List.drop 0 [a, b, c, d, e]).take 1 = [a] := rfl
    have e1 : (List.drop 1 [a, b, c, d, e]).take 1 = [b] := rfl
    have e2 : (List.drop 2 [a, b, c, d, e]).take 1 = [c] := rfl
    have e3 : (List.drop 3 [a, b, c, d, e]).take 1 = [d] := rfl
    have e4 : (List.drop 4 [a, b, c, d, e]).take 1 = [e] := rfl
    rw [e0] at h0
    rw [e1] at h1
    rw [e2] at h2
    rw [e3] at h3
    rw [e4] at h4
    obtain ⟨k, hk, _, _⟩ := DataW.trod_int Tryz.underlying22 h0
    simp only [List.cons.injEq, and_true] at hk
    subst hk
    obtain ⟨nn, hk, _, _⟩ := DataW.trod_int Tryz.underlying3 h1
    simp only [List.cons.injEq, and_true] at hk
    subst hk
    obtain ⟨s, hk, hy2, _⟩ := DataW.trod_string Tryz.underlying9 h2
    simp only [List.cons.injEq, and_true] at hk
    subst hk
    have hwS : ∀ n ∈ y2.1.weights Tryz.prog 9, n ≤ reachBytes := fun q hq => hw q (by
      rw [DataW.weights, Tryz.underlying26]
      simp only [List.map_cons, List.map_nil, DataW.weightsEach, List.mem_append]
      exact .inr (.inr (.inl hq)))
    have hw1 : ∀ n ∈ y3.1.weights Tryz.prog 23, n ≤ reachBytes := fun q hq => hw q (by
      rw [DataW.weights, Tryz.underlying26]
      simp only [List.map_cons, List.map_nil, DataW.weightsEach, List.mem_append]
      exact .inr (.inr (.inr (.inl hq))))
    have hw2 : ∀ n ∈ y4.1.weights Tryz.prog 24, n ≤ reachBytes := fun q hq => hw q (by
      rw [DataW.weights, Tryz.underlying26]
      simp only [List.map_cons, List.map_nil, DataW.weightsEach, List.mem_append]
      exact .inr (.inr (.inr (.inr (.inl hq)))))
    have hsz : s.size ≤ 140737488355328 := by
      have := hwS s.data.toList.length (by rw [hy2, DataW.weights]; exact List.mem_singleton.2 rfl)
      rw [size_eq]; omega
    obtain ⟨ks, hks⟩ := open_names h4 hw2
    suffices hE : ∃ is, WV (fun _ => True) W d is by
      obtain ⟨is, his⟩ := hE
      exact ⟨_, _, _, d, e, .mk k nn s is ks, rfl, VV.mk' hsz hks his⟩
    rcases DataW.trod_slice Tryz.underlying23 h3 with ⟨hcs, hx⟩ | ⟨ad, len, cap, elems, rest, n', rfl, hcs, hx, hb, hlc, hm, hlen, hel, hsp, hns'⟩
    · simp only [List.cons.injEq, and_true] at hcs
      subst hcs
      exact ⟨[], WV.nil _ _⟩
    · simp only [List.cons.injEq, and_true] at hcs
      subst hcs
      subst hx
      dsimp only at hw1
      have hwE : ∀ n, n ∈ ((elems.map (·.1)).length + (rest.map (·.1)).length) * Tryz.prog.bytesOf 26 :: (DataW.weightsAll Tryz.prog 26 (elems.map (·.1)) ++ DataW.weightsAll Tryz.prog 26 (rest.map (·.1))) → n ≤ reachBytes := fun q hq => hw1 q (by
        rw [DataW.weights, Tryz.underlying23]; exact hq)
      have hbig := hwE _ (List.mem_cons_self ..)
      rw [bytesV, List.length_map, hlen] at hbig
      have each : ∀ i, i < len → ∃ x y z u v t, W.cells? 0 (ad.add (i * 5)) 5 = some [x, y, z, u, v] ∧ VV (fun _ => True) W (.agg #[x, y, z, u, v]) t := fun i hi => by
        have hi' : i < elems.length := by omega
        have he := hel i hi
        rw [cellsV, List.getElem?_eq_getElem hi'] at he
        cases hcq : W.cells? 0 (ad.add (i * 5)) 5 with
        | none => rw [hcq] at he; cases he
        | some l =>
          rw [hcq] at he
          obtain ⟨x, y, z, u, v, t, rfl, ht⟩ := ih n' (by omega) l elems[i] he (fun q hq => hwE q (List.mem_cons_of_mem _ (List.mem_append_left _ (weights_all (d := elems[i].1) (List.mem_map.2 ⟨_, List.getElem_mem hi', rfl⟩) hq))))
          exact ⟨x, y, z, u, v, t, rfl, ht⟩
      by_cases h00 : len = 0
      · subst h00; exact ⟨[], ⟨[], ⟨by simp, .inl ⟨rfl, _, _, rfl⟩⟩, rfl, fun i r e h => by simp at h⟩⟩
      · obtain ⟨g, o, rfl⟩ : ∃ g o, ad = ⟨g, o, none⟩ := by
          obtain ⟨x, y, z, u, v, t, hc, _⟩ := each 0 (by omega)
          have := (World.cells?_some hc).2.2 0 (by omega)
          rw [show ad.add (0 * 5) = ad by simp [Addr.add]] at this
          exact addr_flat this
        have cell : ∀ i, i < len → ∃ (r : V5) (t : Vl), W.cell? ⟨g, o + i * 5, none⟩ = some r.1 ∧ W.cell? ⟨g, o + i * 5 + 1, none⟩ = some r.2.1 ∧ W.cell? ⟨g, o + i * 5 + 2, none⟩ = some r.2.2.1 ∧ W.cell? ⟨g, o + i * 5 + 3, none⟩ = some r.2.2.2.1 ∧ W.cell? ⟨g, o + i * 5 + 4, none⟩ = some r.2.2.2.2 ∧ VV (fun _ => True) W (pent r) t := fun i hi => by
          obtain ⟨x, y, z, u, v, t, hc, ht⟩ := each i hi
          have hc' := (World.cells?_some hc).2.2
          refine ⟨(x, y, z, u, v), t, ?_, ?_, ?_, ?_, ?_, ht⟩
          · have := hc' 0 (by omega); rw [add_off, add_off] at this; exact this
          · have := hc' 1 (by omega); rw [add_off, add_off] at this; exact this
          · have := hc' 2 (by omega); rw [add_off, add_off] at this; exact this
          · have := hc' 3 (by omega); rw [add_off, add_off] at this; exact this
          · have := hc' 4 (by omega); rw [add_off, add_off] at this; exact this
        have : ∃ f : Nat → V5 × Vl, ∀ i, i < len → W.cell? ⟨g, o + i * 5, none⟩ = some (f i).1.1 ∧ W.cell? ⟨g, o + i * 5 + 1, none⟩ = some (f i).1.2.1 ∧ W.cell? ⟨g, o + i * 5 + 2, none⟩ = some (f i).1.2.2.1 ∧ W.cell? ⟨g, o + i * 5 + 3, none⟩ = some (f i).1.2.2.2.1 ∧ W.cell? ⟨g, o + i * 5 + 4, none⟩ = some (f i).1.2.2.2.2 ∧ VV (fun _ => True) W (pent (f i).1) (f i).2 := by
          have hch : ∀ i, ∃ p : V5 × Vl, i < len → W.cell? ⟨g, o + i * 5, none⟩ = some p.1.1 ∧ W.cell? ⟨g, o + i * 5 + 1, none⟩ = some p.1.2.1 ∧ W.cell? ⟨g, o + i * 5 + 2, none⟩ = some p.1.2.2.1 ∧ W.cell? ⟨g, o + i * 5 + 3, none⟩ = some p.1.2.2.2.1 ∧ W.cell? ⟨g, o + i * 5 + 4, none⟩ = some p.1.2.2.2.2 ∧ VV (fun _ => True) W (pent p.1) p.2 := fun i => by
            by_cases hi : i < len
            · obtain ⟨r, t, h⟩ := cell i hi
              exact ⟨(r, t), fun _ => h⟩
            · exact ⟨((.bool true, .bool true, .bool true, .bool true, .bool true), .mk 0 0 ⟨#[]⟩ [] []), fun h => absurd h hi⟩
          exact ⟨fun i => (hch i).choose, fun i hi => (hch i).choose_spec hi⟩
        obtain ⟨f, hf⟩ := this
        refine ⟨(List.range len).map fun i => (f i).2, (List.range len).map fun i => (f i).1, ⟨by simp; omega, .inr ⟨g, o, cap, trivial, by simp, fun i r hr => ?_⟩⟩, by simp, fun i r t hr ht => ?_⟩
        · have hi : i < len := by have := (List.getElem?_eq_some_iff.1 hr).1; simpa using this
          rw [List.getElem?_map, List.getElem?_range hi] at hr
          cases hr
          exact ⟨(hf i hi).1, (hf i hi).2.1, (hf i hi).2.2.1, (hf i hi).2.2.2.1, (hf i hi).2.2.2.2.1⟩
        · have hi : i < len := by have := (List.getElem?_eq_some_iff.1 hr).1; simpa using this
          rw [List.getElem?_map, List.getElem?_range hi] at hr ht
          cases hr
          cases ht
          exact (hf i hi).2.2.2.2.2
/-- An argument that is a value. -/
theorem open_value {v : Value} {d : DataW H} {p : List MemPlace} {base : Nat} (hv : Value.okWide Tryz.prog W .any base 26 v) (h : DataW.Trod enc Tryz.prog W 0 (fun _ => true) true 26 v d p)
    (hw : ∀ n ∈ d.weights Tryz.prog 26, n ≤ reachBytes) : ∃ t, VV (fun _ => True) W v t := by
  obtain ⟨cs, rfl, hcs⟩ := okWide_struct Tryz.underlying26 hv
  obtain ⟨fuel, hf⟩ := h
  obtain ⟨a, b, c, x, y, t, he, ht⟩ := open_val fuel _ _ hf hw
  have : cs.toList = [a, b, c, x, y] := by simpa [Value.cells] using he
  have e : cs = #[a, b, c, x, y] := Array.toList_inj.1 (by rw [this])
  exact ⟨t, by rw [e]; exact ht⟩
end
end Go.Proofs.YtfljnigbfacmjaaGreatDoor
