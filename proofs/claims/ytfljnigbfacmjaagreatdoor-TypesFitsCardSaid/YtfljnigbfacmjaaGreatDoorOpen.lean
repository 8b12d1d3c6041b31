/- Arguments that came in, opened as types. -/
import Derived.Test.YtfljnigbfacmjaaGreatDoorView
import Derived.SliceStrings
import Derived.Deep.Strs
import Derived.SizedLaws
import Derived.ProofKit
import Derived.OpenShut
namespace Go.Proofs.YtfljnigbfacmjaaGreatDoor
open Go Go.ChangeShapes Go.WideShapes Go.ChangeAt Go.RowKit Go.Deep
set_option linter.unusedVariables false
set_option maxRecDepth 100000

theorem cellsT : Tryz.prog.cellsOf 30 = 3 := by kernel_rfl
theorem cellsI : Tryz.prog.cellsOf 27 = 1 := by kernel_rfl
theorem cellsE : Tryz.prog.cellsOf 28 = 1 := by kernel_rfl
theorem cellsN : Tryz.prog.cellsOf 24 = 1 := by kernel_rfl
theorem cellsS : Tryz.prog.cellsOf 9 = 1 := by kernel_rfl
theorem bytesT : Tryz.prog.bytesOf 30 = 56 := by kernel_rfl
theorem bytesS : Tryz.prog.bytesOf 9 = 16 := by kernel_rfl
theorem reach_le : reachBytes ≤ 140737488355328 := by decide
theorem add_off (b o i : Nat) : (⟨b, o, none⟩ : Addr).add i = ⟨b, o + i, none⟩ := by
  unfold Addr.add; split <;> simp_all
theorem spot_none {W : World} {a : Addr} {v : Value} (h0 : W.cell? a = some v) : a.spot = none := by
  unfold World.cell? at h0
  split at h0
  · split at h0
    · cases h0
    · rename_i h; simpa using h
  · cases h0
/-- An address at whose head something is read. -/
theorem addr_flat {W : World} {a : Addr} {v : Value} (h : W.cell? (a.add 0) = some v) : ∃ g o, a = ⟨g, o, none⟩ := by
  have ea : a.add 0 = a := by simp [Addr.add]
  rw [ea] at h
  have hs := spot_none h
  obtain ⟨g, o, s⟩ := a
  simp at hs
  subst hs
  exact ⟨g, o, rfl⟩
section
variable {H : Type} {enc : TypeId × Value → H} {W : World}
theorem weights_all {P : Program} {e : TypeId} : ∀ {l : List (DataW H)} {d : DataW H} {n : Nat}, d ∈ l → n ∈ d.weights P e → n ∈ DataW.weightsAll P e l
  | x :: l, d, n, hm, hn => by
    rw [DataW.weightsAll, List.mem_append]
    rcases List.mem_cons.1 hm with rfl | hm
    · exact .inl hn
    · exact .inr (weights_all hm hn)
def dstr (ss : List ByteArray) : List (DataW H) := ss.map fun s => .lit (.string s.data.toList)
theorem trod_struct3' {P : Program} {t : TypeId} {f0 f1 f2 : Field} (m : Nat) {cs : List Value} {x : DataW H × List MemPlace} (ht : P.underlying t = some (.struct #[f0, f1, f2])) (h : DataW.trod enc P W 0 (fun _ => true) true (m + 1) t cs = some x) :
    ∃ y0 y1 y2 n, (n = m ∧ x = (.agg [y0.1, y1.1, y2.1], y0.2 ++ (y1.2 ++ y2.2))) ∧ cs.length = P.cellsOf t ∧ DataW.trod enc P W 0 (fun _ => true) true n f0.type ((cs.drop f0.offset).take (P.cellsOf f0.type)) = some y0 ∧
      DataW.trod enc P W 0 (fun _ => true) true n f1.type ((cs.drop f1.offset).take (P.cellsOf f1.type)) = some y1 ∧ DataW.trod enc P W 0 (fun _ => true) true n f2.type ((cs.drop f2.offset).take (P.cellsOf f2.type)) = some y2 := by
  obtain ⟨xs, n, hn, rfl, hl, hlen, hf⟩ := DataW.trod_struct ht h
  match xs, hlen with
  | [y0, y1, y2], _ => exact ⟨y0, y1, y2, n, ⟨by omega, by simp⟩, hl, by simpa using hf 0 f0 rfl, by simpa using hf 1 f1 rfl, by simpa using hf 2 f2 rfl⟩
theorem LV.nil' (P : Nat → Prop) (w : World) : LV P w (.slice none 0 0) [] := ⟨[], ⟨by simp, .inl ⟨rfl, _, _, rfl⟩⟩, rfl, fun i r e h => by simp at h⟩
/-- A list of names. -/
theorem open_names {fuel : Nat} {v : Value} {x : DataW H × List MemPlace} (h : DataW.trod enc Tryz.prog W 0 (fun _ => true) true fuel 24 [v] = some x) (hw : ∀ n ∈ x.1.weights Tryz.prog 24, n ≤ reachBytes) :
    ∃ ns, SV (fun _ => True) W v ns := by
  have hr := reach_le
  rcases open_strings Tryz.underlying24 Tryz.underlying9 cellsS h with ⟨hcs, hx⟩ | ⟨a, len, cap, ss, hcs, hb, hl, hm, hlen, hx, hc, hs⟩
  · simp only [List.cons.injEq, and_true] at hcs
    subst hcs
    exact ⟨[], ⟨by simp, .inl ⟨rfl, _, _, rfl⟩⟩, List.forall_mem_nil _⟩
  · simp only [List.cons.injEq, and_true] at hcs
    subst hcs
    subst hx
    have hw2 : ∀ n, n ∈ ((dstr (H := H) (ss.take len)).length + (dstr (H := H) (ss.drop len)).length) * Tryz.prog.bytesOf 9 :: (DataW.weightsAll Tryz.prog 9 (dstr (H := H) (ss.take len)) ++ DataW.weightsAll Tryz.prog 9 (dstr (H := H) (ss.drop len))) → n ≤ reachBytes := fun n hn => hw n (by
      rw [DataW.weights, Tryz.underlying24]; exact hn)
    have h1 := hw2 _ (List.mem_cons_self ..)
    rw [bytesS] at h1
    have hsl : ss.length = cap := by simpa using hlen
    have htl : (ss.take len).length = len := by rw [List.length_take]; omega
    refine ⟨ss.take len, ⟨?_, ?_⟩, fun s hs' => ?_⟩
    · have : (dstr (H := H) (ss.take len)).length = len := by unfold dstr; rw [List.length_map, htl]
      rw [List.length_map, htl]; omega
    · by_cases h0 : len = 0
      · subst h0; exact .inl ⟨by simp, _, _, rfl⟩
      · have hc0 := hc 0 (by omega)
        obtain ⟨g, o, rfl⟩ := addr_flat hc0
        refine .inr ⟨g, o, cap, trivial, by rw [List.length_map, htl], fun i u hu => ?_⟩
        have hi : i < len := by have := (List.getElem?_eq_some_iff.1 hu).1; rw [List.length_map, htl] at this; exact this
        rw [List.getElem?_map, List.getElem?_take, if_pos hi] at hu
        have := hc i (by omega)
        rw [add_off] at this
        rw [this]
        have hl2 : i < ss.length := by omega
        rw [List.getElem?_eq_getElem hl2] at hu
        rw [← hu, List.getD_eq_getElem?_getD, List.getElem?_eq_getElem hl2]; rfl
    · have hm2 : s.data.toList.length ≤ reachBytes := hw2 _ (List.mem_cons_of_mem _ (List.mem_append_left _ (weights_all (d := .lit (.string s.data.toList)) (by unfold dstr; exact List.mem_map.2 ⟨s, hs', rfl⟩) (by rw [DataW.weights]; exact List.mem_singleton.2 rfl))))
      rw [size_eq]; omega
theorem open_type : ∀ (fuel : Nat) (cs : List Value) (x : DataW H × List MemPlace), DataW.trod enc Tryz.prog W 0 (fun _ => true) true fuel 30 cs = some x → (∀ n ∈ x.1.weights Tryz.prog 30, n ≤ reachBytes) →
    ∃ a b c t, cs = [a, b, c] ∧ TV (fun _ => True) W (.agg #[a, b, c]) t := by
  intro fuel
  induction fuel using Nat.strongRecOn with
  | ind fuel ih =>
    intro cs x h hw
    have hr := reach_le
    cases fuel with
    | zero => simp [DataW.trod] at h
    | succ m =>
    obtain ⟨y0, y1, y2, n, hx, hl, h0, h1, h2⟩ := trod_struct3' m Tryz.underlying30 h
    rw [cellsT] at hl
    obtain ⟨a, b, c, rfl⟩ : ∃ a b c, cs = [a, b, c] := by
      match cs, hl with
      | [a, b, c], _ => exact ⟨a, b, c, rfl⟩
    obtain ⟨rfl, rfl⟩ := hx
    simp only [cellsI, cellsE, cellsN] at h0 h1 h2
    have e0 : (List.drop 0 [a, b, c]).take 1 = [a] := rfl
    have e1 : (List.drop 1 [a, b, c]).take 1 = [b] := rfl
    have e2 : (List.drop 2 [a, b, c]).take 1 = [c] := rfl
    rw [e0] at h0
    rw [e1] at h1
    rw [e2] at h2
    obtain ⟨k, hk, _, _⟩ := DataW.trod_int Tryz.underlying27 h0
    simp only [List.cons.injEq, and_true] at hk
    subst hk
    have hw1 : ∀ n ∈ y1.1.weights Tryz.prog 28, n ≤ reachBytes := fun q hq => hw q (by
      rw [DataW.weights, Tryz.underlying30]
      simp only [List.map_cons, List.map_nil, DataW.weightsEach, List.mem_append]
      exact .inr (.inl hq))
    have hw2 : ∀ n ∈ y2.1.weights Tryz.prog 24, n ≤ reachBytes := fun q hq => hw q (by
      rw [DataW.weights, Tryz.underlying30]
      simp only [List.map_cons, List.map_nil, DataW.weightsEach, List.mem_append]
      exact .inr (.inr (.inl hq)))
    obtain ⟨ns, hns⟩ := open_names h2 hw2
    suffices hE : ∃ es, LV (fun _ => True) W b es by
      obtain ⟨es, hes⟩ := hE
      exact ⟨_, b, c, .mk k es ns, rfl, TV.mk' hns hes⟩
    rcases DataW.trod_slice Tryz.underlying28 h1 with ⟨hcs, hx⟩ | ⟨ad, len, cap, elems, rest, n', rfl, hcs, hx, hb, hlc, hm, hlen, hel, hsp, hns'⟩
    · simp only [List.cons.injEq, and_true] at hcs
      subst hcs
      exact ⟨[], LV.nil' _ _⟩
    · simp only [List.cons.injEq, and_true] at hcs
      subst hcs
      subst hx
      dsimp only at hw1
      have hwE : ∀ n, n ∈ ((elems.map (·.1)).length + (rest.map (·.1)).length) * Tryz.prog.bytesOf 30 :: (DataW.weightsAll Tryz.prog 30 (elems.map (·.1)) ++ DataW.weightsAll Tryz.prog 30 (rest.map (·.1))) → n ≤ reachBytes := fun q hq => hw1 q (by
        rw [DataW.weights, Tryz.underlying28]; exact hq)
      have hbig := hwE _ (List.mem_cons_self ..)
      rw [bytesT, List.length_map, hlen] at hbig
      have each : ∀ i, i < len → ∃ x y z t, W.cells? 0 (ad.add (i * 3)) 3 = some [x, y, z] ∧ TV (fun _ => True) W (.agg #[x, y, z]) t := fun i hi => by
        have hi' : i < elems.length := by omega
        have he := hel i hi
        rw [cellsT, List.getElem?_eq_getElem hi'] at he
        cases hcq : W.cells? 0 (ad.add (i * 3)) 3 with
        | none => rw [hcq] at he; cases he
        | some l =>
          rw [hcq] at he
          obtain ⟨x, y, z, t, rfl, ht⟩ := ih n' (by omega) l elems[i] he (fun q hq => hwE q (List.mem_cons_of_mem _ (List.mem_append_left _ (weights_all (d := elems[i].1) (List.mem_map.2 ⟨_, List.getElem_mem hi', rfl⟩) hq))))
          exact ⟨x, y, z, t, rfl, ht⟩
      by_cases h00 : len = 0
      · subst h00; exact ⟨[], ⟨[], ⟨by simp, .inl ⟨rfl, _, _, rfl⟩⟩, rfl, fun i r e h => by simp at h⟩⟩
      · obtain ⟨g, o, rfl⟩ : ∃ g o, ad = ⟨g, o, none⟩ := by
          obtain ⟨x, y, z, t, hc, _⟩ := each 0 (by omega)
          have := (World.cells?_some hc).2.2 0 (by omega)
          rw [show ad.add (0 * 3) = ad by simp [Addr.add]] at this
          exact addr_flat this
        have cell : ∀ i, i < len → ∃ (r : Value × Value × Value) (t : Ty), W.cell? ⟨g, o + i * 3, none⟩ = some r.1 ∧ W.cell? ⟨g, o + i * 3 + 1, none⟩ = some r.2.1 ∧ W.cell? ⟨g, o + i * 3 + 2, none⟩ = some r.2.2 ∧ TV (fun _ => True) W (tri r) t := fun i hi => by
          obtain ⟨x, y, z, t, hc, ht⟩ := each i hi
          have hc' := (World.cells?_some hc).2.2
          refine ⟨(x, y, z), t, ?_, ?_, ?_, ht⟩
          · have := hc' 0 (by omega); rw [add_off, add_off] at this; exact this
          · have := hc' 1 (by omega); rw [add_off, add_off] at this; exact this
          · have := hc' 2 (by omega); rw [add_off, add_off] at this; exact this
        have : ∃ f : Nat → (Value × Value × Value) × Ty, ∀ i, i < len → W.cell? ⟨g, o + i * 3, none⟩ = some (f i).1.1 ∧ W.cell? ⟨g, o + i * 3 + 1, none⟩ = some (f i).1.2.1 ∧ W.cell? ⟨g, o + i * 3 + 2, none⟩ = some (f i).1.2.2 ∧ TV (fun _ => True) W (tri (f i).1) (f i).2 := by
          have hch : ∀ i, ∃ p : (Value × Value × Value) × Ty, i < len → W.cell? ⟨g, o + i * 3, none⟩ = some p.1.1 ∧ W.cell? ⟨g, o + i * 3 + 1, none⟩ = some p.1.2.1 ∧ W.cell? ⟨g, o + i * 3 + 2, none⟩ = some p.1.2.2 ∧ TV (fun _ => True) W (tri p.1) p.2 := fun i => by
            by_cases hi : i < len
            · obtain ⟨r, t, h⟩ := cell i hi
              exact ⟨(r, t), fun _ => h⟩
            · exact ⟨((.bool true, .bool true, .bool true), .mk 0 [] []), fun h => absurd h hi⟩
          exact ⟨fun i => (hch i).choose, fun i hi => (hch i).choose_spec hi⟩
        obtain ⟨f, hf⟩ := this
        refine ⟨(List.range len).map fun i => (f i).2, (List.range len).map fun i => (f i).1, ⟨by simp; omega, .inr ⟨g, o, cap, trivial, by simp, fun i r hr => ?_⟩⟩, by simp, fun i r t hr ht => ?_⟩
        · have hi : i < len := by have := (List.getElem?_eq_some_iff.1 hr).1; simpa using this
          rw [List.getElem?_map, List.getElem?_range hi] at hr
          cases hr
          exact ⟨(hf i hi).1, (hf i hi).2.1, (hf i hi).2.2.1⟩
        · have hi : i < len := by have := (List.getElem?_eq_some_iff.1 hr).1; simpa using this
          rw [List.getElem?_map, List.getElem?_range hi] at hr ht
          cases hr
          cases ht
          exact (hf i hi).2.2.2
/-- An argument that is a type. -/
theorem open_arg {v : Value} {d : DataW H} {p : List MemPlace} {base : Nat} (hv : Value.okWide Tryz.prog W .any base 30 v) (h : DataW.Trod enc Tryz.prog W 0 (fun _ => true) true 30 v d p)
    (hw : ∀ n ∈ d.weights Tryz.prog 30, n ≤ reachBytes) : ∃ t, TV (fun _ => True) W v t := by
  obtain ⟨cs, rfl, hcs⟩ := okWide_struct Tryz.underlying30 hv
  obtain ⟨fuel, hf⟩ := h
  obtain ⟨a, b, c, t, he, ht⟩ := open_type fuel _ _ hf hw
  have : cs.toList = [a, b, c] := by simpa [Value.cells] using he
  have e : cs = #[a, b, c] := Array.toList_inj.1 (by rw [this])
  exact ⟨t, by rw [e]; exact ht⟩
end
end Go.Proofs.YtfljnigbfacmjaaGreatDoor
