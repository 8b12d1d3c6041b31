/- Three types in a struct: as an argument, and as a list laid for valid. -/
import Derived.Test.YtfljnigbfacmjaaGreatDoorOpenV
import Derived.Test.YtfljnigbfacmjaaGreatDoorLawKit
namespace Go.Proofs.YtfljnigbfacmjaaGreatDoor
open Go Go.ChangeShapes Go.WideShapes Go.ChangeAt Go.RowKit Go.Deep
set_option linter.unusedVariables false
set_option maxRecDepth 100000

theorem cellsX : Tryz.prog.cellsOf 40 = 9 := by kernel_rfl
/-- v holds three types. -/
def XV (w : World) (v : Value) (t1 t2 t3 : Ty) : Prop := ∃ a b c a' b' c' a'' b'' c'', v = .agg #[a, b, c, a', b', c', a'', b'', c''] ∧ TV (fun _ => True) w (.agg #[a, b, c]) t1 ∧ TV (fun _ => True) w (.agg #[a', b', c']) t2 ∧ TV (fun _ => True) w (.agg #[a'', b'', c'']) t3
theorem open_three {H : Type} {enc : TypeId × Value → H} {W : World} {v : Value} {d : DataW H} {p : List MemPlace} {base : Nat} (hv : Value.okWide Tryz.prog W .any base 40 v) (h : DataW.Trod enc Tryz.prog W 0 (fun _ => true) true 40 v d p)
    (hw : ∀ n ∈ d.weights Tryz.prog 40, n ≤ reachBytes) : ∃ t1 t2 t3, XV W v t1 t2 t3 := by
  obtain ⟨cs, rfl, hcs⟩ := okWide_struct Tryz.underlying40 hv
  obtain ⟨fuel, hf⟩ := h
  cases fuel with
  | zero => simp [DataW.trod] at hf
  | succ m =>
  obtain ⟨y0, y1, y2, n, hx, hl, h0, h1, h2⟩ := trod_struct3' m Tryz.underlying40 hf
  rw [cellsX] at hl
  have hcl : (Value.agg cs).cells = cs := rfl
  rw [hcl] at hl h0 h1 h2
  obtain ⟨a, b, c, a', b', c', a'', b'', c'', he⟩ : ∃ a b c a' b' c' a'' b'' c'', cs.toList = [a, b, c, a', b', c', a'', b'', c''] := by
    generalize cs.toList = l at hl
    match l, hl with
    | [a, b, c, a', b', c', a'', b'', c''], _ => exact ⟨a, b, c, a', b', c', a'', b'', c'', rfl⟩
  have e : cs = #[a, b, c, a', b', c', a'', b'', c''] := Array.toList_inj.1 (by rw [he])
  rw [he] at h0 h1 h2
  obtain ⟨hn, hd⟩ := hx
  have hd1 : d = .agg [y0.1, y1.1, y2.1] := (Prod.ext_iff.1 hd).1
  rw [hd1] at hw
  simp only [cellsT] at h0 h1 h2
  have e0 : (List.drop 0 [a, b, c, a', b', c', a'', b'', c'']).take 3 = [a, b, c] := rfl
  have e1 : (List.drop 3 [a, b, c, a', b', c', a'', b'', c'']).take 3 = [a', b', c'] := rfl
  have e2 : (List.drop 6 [a, b, c, a', b', c', a'', b'', c'']).take 3 = [a'', b'', c''] := rfl
  rw [e0] at h0
  rw [e1] at h1
  rw [e2] at h2
  have hw0 : ∀ n ∈ y0.1.weights Tryz.prog 30, n ≤ reachBytes := fun q hq => hw q (by
    rw [DataW.weights, Tryz.underlying40]
    simp only [List.map_cons, List.map_nil, DataW.weightsEach, List.mem_append]
    exact .inl hq)
  have hw1 : ∀ n ∈ y1.1.weights Tryz.prog 30, n ≤ reachBytes := fun q hq => hw q (by
    rw [DataW.weights, Tryz.underlying40]
    simp only [List.map_cons, List.map_nil, DataW.weightsEach, List.mem_append]
    exact .inr (.inl hq))
  have hw2 : ∀ n ∈ y2.1.weights Tryz.prog 30, n ≤ reachBytes := fun q hq => hw q (by
    rw [DataW.weights, Tryz.underlying40]
    simp only [List.map_cons, List.map_nil, DataW.weightsEach, List.mem_append]
    exact .inr (.inr (.inl hq)))
  obtain ⟨_, _, _, t1, q1, ht1⟩ := open_type _ _ _ h0 hw0
  obtain ⟨_, _, _, t2, q2, ht2⟩ := open_type _ _ _ h1 hw1
  obtain ⟨_, _, _, t3, q3, ht3⟩ := open_type _ _ _ h2 hw2
  cases q1
  cases q2
  cases q3
  exact ⟨t1, t2, t3, a, b, c, a', b', c', a'', b'', c'', by rw [e], ht1, ht2, ht3⟩
theorem three_types {P : Nat → Prop} {w : World} {b : Nat} {x y z x' y' z' x'' y'' z'' : Value} {t t' t'' : Ty} (h : w.heap[b]? = some (.cells #[x, y, z, x', y', z', x'', y'', z''] 30)) (h1 : TV P w (.agg #[x, y, z]) t) (h2 : TV P w (.agg #[x', y', z']) t') (h3 : TV P w (.agg #[x'', y'', z'']) t'') :
    LV (fun _ => True) w (.slice (some ⟨b, 0, none⟩) 3 3) [t, t', t''] := by
  refine ⟨[(x, y, z), (x', y', z'), (x'', y'', z'')], ⟨by simp, .inr ⟨b, 0, 3, trivial, rfl, fun i r hr => ?_⟩⟩, rfl, fun i r e hr he => ?_⟩
  · match i, hr with
    | 0, hr => cases hr; exact ⟨(cells_in h 0).trans rfl, (cells_in h 1).trans rfl, (cells_in h 2).trans rfl⟩
    | 1, hr => cases hr; exact ⟨(cells_in h 3).trans rfl, (cells_in h 4).trans rfl, (cells_in h 5).trans rfl⟩
    | 2, hr => cases hr; exact ⟨(cells_in h 6).trans rfl, (cells_in h 7).trans rfl, (cells_in h 8).trans rfl⟩
  · match i, hr, he with
    | 0, hr, he => cases hr; cases he; exact h1.mono fun _ _ => trivial
    | 1, hr, he => cases hr; cases he; exact h2.mono fun _ _ => trivial
    | 2, hr, he => cases hr; cases he; exact h3.mono fun _ _ => trivial
/-- Three new blocks that hold three types. -/
theorem three_boxes (w : World) (a b c a' b' c' a'' b'' c'' z0 z1 z2 : Value) (n : Nat) (hn : w.heap.size = n) :
    ∀ W : World, W = (((((((((((w.alloc (.cells #[z0, z1, z2] 30)).alloc (.cells #[z0, z1, z2] 30)).alloc (.cells #[z0, z1, z2] 30)).setCell ⟨n, 0, none⟩ a).setCell ⟨n, 1, none⟩ b).setCell ⟨n, 2, none⟩ c).setCell ⟨n + 1, 0, none⟩ a').setCell ⟨n + 1, 1, none⟩ b').setCell ⟨n + 1, 2, none⟩ c').setCell ⟨n + 1 + 1, 0, none⟩ a'').setCell ⟨n + 1 + 1, 1, none⟩ b'').setCell ⟨n + 1 + 1, 2, none⟩ c'' →
    Below w.heap.size w W ∧ W.heap[n]? = some (.cells #[a, b, c] 30) ∧ W.heap[n + 1]? = some (.cells #[a', b', c'] 30) ∧ W.heap[n + 1 + 1]? = some (.cells #[a'', b'', c''] 30) := by
  intro W hW
  subst hn
  have o1 := heap_alloc_at w (.cells #[z0, z1, z2] 30)
  have b1 : Below w.heap.size w (w.alloc (.cells #[z0, z1, z2] 30)) := (Below.refl _ _).alloc (Nat.le_refl _) _
  have s1 : (w.alloc (.cells #[z0, z1, z2] 30)).heap.size = w.heap.size + 1 := by simp
  generalize w.alloc (.cells #[z0, z1, z2] 30) = w1 at *
  have o2 := heap_alloc_at w1 (.cells #[z0, z1, z2] 30)
  have b2 : Below w1.heap.size w1 (w1.alloc (.cells #[z0, z1, z2] 30)) := (Below.refl _ _).alloc (Nat.le_refl _) _
  have s2 : (w1.alloc (.cells #[z0, z1, z2] 30)).heap.size = w.heap.size + 1 + 1 := by simp [s1]
  rw [s1] at o2
  generalize w1.alloc (.cells #[z0, z1, z2] 30) = w2 at *
  have o3 := heap_alloc_at w2 (.cells #[z0, z1, z2] 30)
  have b3 : Below w2.heap.size w2 (w2.alloc (.cells #[z0, z1, z2] 30)) := (Below.refl _ _).alloc (Nat.le_refl _) _
  have s3 : (w2.alloc (.cells #[z0, z1, z2] 30)).heap.size = w.heap.size + 1 + 1 + 1 := by simp [s2]
  rw [s2] at o3
  generalize w2.alloc (.cells #[z0, z1, z2] 30) = w3 at *
  have o1' := (b3.block _ (by omega)).trans ((b2.block _ (by omega)).trans o1)
  have o2' := (b3.block _ (by omega)).trans o2
  have hb := b1.trans ((b2.trans (b3.mono b2.size)).mono b1.size)
  have c1 := chg_store3 w3 w.heap.size a b c
  have p1 : (((w3.setCell ⟨w.heap.size, 0, none⟩ a).setCell ⟨w.heap.size, 1, none⟩ b).setCell ⟨w.heap.size, 2, none⟩ c).heap[w.heap.size]? = some (.cells #[a, b, c] 30) := obj_set (obj_set (obj_set o1' _) _) _
  have p2 := (c1.block _ (by omega) (by omega)).trans o2'
  have p3 := (c1.block _ (by omega) (by omega)).trans o3
  have hb4 := store3_below hb (Nat.le_refl _) (Nat.le_refl _) a b c
  have l4 := (Array.getElem?_eq_some_iff.1 p3).1
  generalize ((w3.setCell ⟨w.heap.size, 0, none⟩ a).setCell ⟨w.heap.size, 1, none⟩ b).setCell ⟨w.heap.size, 2, none⟩ c = w4 at *
  have c2 := chg_store3 w4 (w.heap.size + 1) a' b' c'
  have q1 := (c2.block _ (by omega) (by omega)).trans p1
  have q2 : (((w4.setCell ⟨w.heap.size + 1, 0, none⟩ a').setCell ⟨w.heap.size + 1, 1, none⟩ b').setCell ⟨w.heap.size + 1, 2, none⟩ c').heap[w.heap.size + 1]? = some (.cells #[a', b', c'] 30) := obj_set (obj_set (obj_set p2 _) _) _
  have q3 := (c2.block _ (by omega) (by omega)).trans p3
  have hb5 := store3_below hb4 (show w.heap.size ≤ w.heap.size + 1 by omega) (Nat.le_refl _) a' b' c'
  have l5 := (Array.getElem?_eq_some_iff.1 q3).1
  generalize ((w4.setCell ⟨w.heap.size + 1, 0, none⟩ a').setCell ⟨w.heap.size + 1, 1, none⟩ b').setCell ⟨w.heap.size + 1, 2, none⟩ c' = w5 at *
  have c3 := chg_store3 w5 (w.heap.size + 1 + 1) a'' b'' c''
  rw [hW]
  exact ⟨store3_below hb5 (show w.heap.size ≤ w.heap.size + 1 + 1 by omega) (Nat.le_refl _) a'' b'' c'', (c3.block _ (by omega) (by omega)).trans q1, (c3.block _ (by omega) (by omega)).trans q2, obj_set (obj_set (obj_set q3 _) _) _⟩
end Go.Proofs.YtfljnigbfacmjaaGreatDoor
