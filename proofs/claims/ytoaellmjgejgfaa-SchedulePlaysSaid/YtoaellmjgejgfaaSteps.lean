/- few, steps. -/
import Derived.Test.YtoaellmjgejgfaaView
namespace Go.Proofs.Ytoaellmjgejgfaa
open Go Go.RowKit Go.Shelf
set_option linter.unusedVariables false

def fewB (ns : List (List Int)) : Bool := (ns.take 40).all (fun l => decide (l.length ≤ 40)) && decide (ns.length ≤ 40)
theorem few_no {ns : List (List Int)} {k : Nat} (hk : k < ns.length) (h40 : k < 40) (h : 40 < (nd ns k).length) : fewB ns = false := by
  cases hb : fewB ns with
  | false => rfl
  | true =>
    unfold fewB at hb
    rw [Bool.and_eq_true] at hb
    have hm : nd ns k ∈ ns.take 40 := by
      rw [nd, List.getD_eq_getElem?_getD, List.getElem?_eq_getElem hk, Option.getD_some]
      exact List.mem_iff_getElem.2 ⟨k, by simp; omega, by simp⟩
    have := List.all_eq_true.1 hb.1 _ hm
    simp only [decide_eq_true_eq] at this
    omega
theorem few_yes {ns : List (List Int)} (h : ∀ j, j < ns.length → j < 40 → (nd ns j).length ≤ 40) : fewB ns = decide (ns.length ≤ 40) := by
  have : (ns.take 40).all (fun l => decide (l.length ≤ 40)) = true := by
    rw [List.all_eq_true]
    intro l hl
    obtain ⟨j, hj, rfl⟩ := List.getElem_of_mem hl
    have hj' : j < 40 ∧ j < ns.length := by simp at hj; omega
    have := h j hj'.2 hj'.1
    rw [nd, List.getD_eq_getElem?_getD, List.getElem?_eq_getElem hj'.2, Option.getD_some] at this
    rw [List.getElem_take]
    exact decide_eq_true this
  unfold fewB
  rw [this, Bool.true_and]
theorem few_spec {ns : List (List Int)} (h : fewB ns = true) : ns.length ≤ 40 ∧ ∀ l ∈ ns, l.length ≤ 40 := by
  unfold fewB at h
  rw [Bool.and_eq_true, decide_eq_true_eq] at h
  refine ⟨h.2, fun l hl => ?_⟩
  rw [List.take_of_length_le h.2] at h
  have := List.all_eq_true.1 h.1 l hl
  simpa using this

theorem le40 (n : Nat) : decide (n ≤ 40) = decide ((n : Int) ≤ 40) := by rw [decide_eq_decide]; omega

set_option maxRecDepth 100000 in
set_option maxHeartbeats 1000000 in
theorem few_any (w : World) (v : Value) (ns : List (List Int)) (hN : NView w v ns) (hl : ns.length ≤ 9223372036854775807) (hll : ∀ l ∈ ns, l.length ≤ 9223372036854775807) :
    Calls Try.prog 10 #[v] w fun e w' => e = .returned (.bool (fewB ns)) ∧ w = w' := by
  obtain ⟨oa, c, rfl⟩ := hN.len
  have HN := hid hN
  have HLL := hid hll
  clear hN hll
  go_enter Try.func10, Try.ntmps10
  go_wp2_with fail
  go_loop [3] (fun i => ∃ k : Nat, k ≤ ns.length ∧ k ≤ 40 ∧ i = .int .i64 k ∧ Hid (∀ j, j < k → (nd ns j).length ≤ 40)) (fun i => 40 - (intOf i).toNat)
  case atStart => exact ⟨0, Nat.zero_le _, by omega, rfl, hid fun j hj => absurd hj (Nat.not_lt_zero _)⟩
  case round =>
    obtain ⟨k, hk, hk4, rfl, A⟩ := hrel
    by_cases hlt : k < ns.length
    · by_cases h40 : k < 40
      · obtain ⟨g, o, c2, u, hv, hcell, hview⟩ := HN.out.at hlt
        cases hv
        obtain ⟨ou, cu, rfl⟩ := hview.len
        have hk0 : (0 : Int) ≤ (k : Int) := by omega
        have hk1 : (k : Int) < (ns.length : Int) := by omega
        have hul : (nd ns k).length ≤ 9223372036854775807 := HLL.out _ (by
          rw [nd, List.getD_eq_getElem?_getD, List.getElem?_eq_getElem hlt]; exact List.getElem_mem hlt)
        have hno := few_no hlt h40
        have hsn : ∀ h : (nd ns k).length ≤ 40, ∀ j, j < k + 1 → (nd ns j).length ≤ 40 := fun h j hj => by
          by_cases e : j = k
          · subst e; exact h
          · exact A.out j (by omega)
        generalize (nd ns k).length = m at *
        have Hno := hid hno
        have Hsn := hid hsn
        clear hno hsn hview
        by_cases hm : 40 < m
        · go_wp2_with fail
          go_ret
          exact ⟨by rw [Hno.out hm]; rfl, rfl⟩
        · go_wp2_with fail
          go_round
          case rel => exact ⟨k + 1, by omega, by omega, by go_num, hid (Hsn.out (by omega))⟩
          case measure => simp [intOf]; omega
      · have : k = 40 := by omega
        have hf := few_yes (ns := ns) fun j hj hj4 => A.out j (by omega)
        have HF := hid hf
        clear hf
        go_wp2_with fail
        go_ret
        refine ⟨?_, rfl⟩
        rw [HF.out, le40]; rfl
    · have hf := few_yes (ns := ns) fun j hj hj4 => A.out j (by omega)
      have HF := hid hf
      clear hf
      go_wp2_with fail
      go_ret
      refine ⟨?_, rfl⟩
      rw [HF.out, le40]; rfl

/-- A slice of steps: the needs alone. -/
def flat (us : List Value) : List Value := us.flatMap fun u => [.int .i64 0, .int .i64 0, u]
theorem flat_length (us : List Value) : (flat us).length = us.length * 3 := by
  unfold flat
  induction us with
  | nil => rfl
  | cons u us ih => rw [List.flatMap_cons, List.length_append, ih]; simp; omega
theorem flat_at : ∀ (us : List Value) (i : Nat) (u : Value), us[i]? = some u → (flat us)[i * 3]? = some (.int .i64 0) ∧ (flat us)[i * 3 + 1]? = some (.int .i64 0) ∧ (flat us)[i * 3 + 2]? = some u
  | [], _, _, h => by cases h
  | x :: us, 0, u, h => by
    simp at h
    subst h
    exact ⟨rfl, rfl, rfl⟩
  | x :: us, i + 1, u, h => by
    have := flat_at us i u (by simpa using h)
    have e : ∀ r, (flat (x :: us))[(i + 1) * 3 + r]? = (flat us)[i * 3 + r]? := fun r => by
      show ([Value.int .i64 0, .int .i64 0, x] ++ flat us)[(i + 1) * 3 + r]? = _
      rw [List.getElem?_append_right (by simp; omega)]
      congr 1
      simp; omega
    exact ⟨(e 0).trans this.1, (e 1).trans this.2.1, (e 2).trans this.2.2⟩
theorem flat_snoc (us : List Value) (k : Nat) (u : Value) (h : us[k]? = some u) : flat (us.take (k + 1)) = flat (us.take k) ++ [.int .i64 0, .int .i64 0, u] := by
  obtain ⟨hk, rfl⟩ := List.getElem?_eq_some_iff.1 h
  rw [List.take_succ_eq_append_getElem hk]
  unfold flat
  rw [List.flatMap_append]; rfl

def SView (w : World) (v : Value) (ns : List (List Int)) : Prop :=
  ∃ us : List Value, us.length = ns.length ∧ (∀ (i : Nat) u l, us[i]? = some u → ns[i]? = some l → View w u l) ∧
    ((ns = [] ∧ ∃ oa c, v = .slice oa 0 c) ∨ ∃ g o c, v = .slice (some ⟨g, o, none⟩) ns.length c ∧
      ∀ i u, us[i]? = some u → w.cell? ⟨g, o + i * 3, none⟩ = some (.int .i64 0) ∧ w.cell? ⟨g, o + i * 3 + 1, none⟩ = some (.int .i64 0) ∧ w.cell? ⟨g, o + i * 3 + 2, none⟩ = some u)
theorem SView.keep {w w' : World} {v : Value} {ns : List (List Int)} (h : SView w v ns) (k : Keeps w w') : SView w' v ns := by
  obtain ⟨us, h1, h2, h3⟩ := h
  exact ⟨us, h1, fun i u l hu hl => (h2 i u l hu hl).keep k, h3.imp id fun ⟨g, o, c, e, hc⟩ => ⟨g, o, c, e, fun i u hu => ⟨k _ _ _ (hc i u hu).1, k _ _ _ (hc i u hu).2.1, k _ _ _ (hc i u hu).2.2⟩⟩⟩
theorem SView.len {w : World} {v : Value} {ns : List (List Int)} (h : SView w v ns) : ∃ oa c, v = .slice oa ns.length c := by
  obtain ⟨us, h1, h2, ⟨rfl, oa, c, rfl⟩ | ⟨g, o, c, rfl, _⟩⟩ := h
  · exact ⟨oa, c, rfl⟩
  · exact ⟨_, c, rfl⟩
theorem SView.at {w : World} {v : Value} {ns : List (List Int)} (h : SView w v ns) {k : Nat} (hk : k < ns.length) :
    ∃ g o c u, v = .slice (some ⟨g, o, none⟩) ns.length c ∧ w.cell? ⟨g, o + k * 3, none⟩ = some (.int .i64 0) ∧ w.cell? ⟨g, o + k * 3 + 1, none⟩ = some (.int .i64 0) ∧ w.cell? ⟨g, o + k * 3 + 2, none⟩ = some u ∧ View w u (nd ns k) := by
  obtain ⟨us, h1, h2, ⟨rfl, _⟩ | ⟨g, o, c, rfl, hc⟩⟩ := h
  · cases hk
  · have hu : us[k]? = some us[k] := List.getElem?_eq_getElem (by omega)
    obtain ⟨a1, a2, a3⟩ := hc k _ hu
    refine ⟨g, o, c, us[k], rfl, a1, a2, a3, h2 k _ _ hu ?_⟩
    rw [List.getElem?_eq_getElem hk, nd, List.getD_eq_getElem?_getD, List.getElem?_eq_getElem hk]; rfl

def StepsPost (ns : List (List Int)) (w : World) (e : Ending) (w' : World) : Prop := ∃ v', e = .returned v' ∧ SView w' v' ns ∧ Below w.heap.size w w'

/-- A row made by the call. -/
def Made (B : Nat) (w : World) (e size : Nat) (v : Value) (n : Nat) (xs : List Value) : Prop := w.ownsRow 0 e size v n xs ∧ ∀ g, v.ownBlock = some g → B ≤ g
theorem Made.grow {B e size n n' : Nat} {w w' : World} {v v' : Value} {xs xs' : List Value} (h : Made B w e size v n xs) (hB : B ≤ w.heap.size) (hown : w'.ownsRow 0 e size v' n' xs') (hp : v'.ownBlock = v.ownBlock ∨ ∃ g, v'.ownBlock = some g ∧ w.heap.size ≤ g) : Made B w' e size v' n' xs' :=
  ⟨hown, fun g hg => by
    rcases hp with e | ⟨g', e, hg'⟩
    · exact h.2 g (e ▸ hg)
    · rw [e] at hg; cases hg; omega⟩
theorem Made.below {B e size n : Nat} {w0 w w' : World} {v : Value} {xs : List Value} (h : Made B w e size v n xs) (hB : B ≤ w0.heap.size) (hb : Below B w0 w) (hc : Chg (fun k => v.ownBlock = some k) w w') : Below B w0 w' :=
  ⟨hc.os.trans hb.os, hc.tape.trans hb.tape, hc.output.trans hb.output, Nat.le_trans hb.size hc.size, fun k hk => (hc.block k (by have := hb.size; omega) (fun e => by have := h.2 k e; omega)).trans (hb.block k hk)⟩

theorem cells_at {w : World} {g : Nat} {cur : Array Value} {e : Nat} (hh : w.heap[g]? = some (.cells cur e)) {n : Nat} {xs : List Value} (ht : cur.toList.take n = xs) {i : Nat} {u : Value} (hu : xs[i]? = some u) : w.cell? ⟨g, i, none⟩ = some u := by
  rw [cells_in hh]
  subst ht
  rw [List.getElem?_take] at hu
  split at hu
  · simpa using hu
  · cases hu

theorem steps_view {B : Nat} {w : World} {v : Value} {ns : List (List Int)} {us : List Value} (h : Made B w 67 3 v ns.length (flat us)) (hl : us.length = ns.length) (hv : ∀ (i : Nat) u l, us[i]? = some u → ns[i]? = some l → View w u l) : SView w v ns := by
  refine ⟨us, hl, hv, ?_⟩
  rcases h.1.2 with ⟨rfl, h0⟩ | ⟨g, cap, cur, rfl, _, hh, _, _, _, ht⟩
  · exact .inl ⟨List.eq_nil_of_length_eq_zero h0, none, 0, by rw []⟩
  · refine .inr ⟨g, 0, cap, rfl, fun i u hu => ?_⟩
    obtain ⟨a1, a2, a3⟩ := flat_at us i u hu
    simp only [Nat.zero_add]
    exact ⟨cells_at hh ht a1, cells_at hh ht a2, cells_at hh ht a3⟩

set_option maxRecDepth 100000 in
set_option maxHeartbeats 1000000 in
theorem steps_any (w : World) (v : Value) (ns : List (List Int)) (hN : NView w v ns) (hl : ns.length ≤ 100000) :
    Calls Try.prog 13 #[v] w (StepsPost ns w) := by
  obtain ⟨oa, c, rfl⟩ := hN.len
  obtain ⟨vs, h1, h2, h3⟩ := hN
  have HC := hid h1
  have HL := hid h2
  have HV := hid h3
  clear h1 h2 h3
  go_enter Try.func13, Try.ntmps13
  go_wp2_with fail
  go_loopw [3, 4] (fun o i wr => ∃ k : Nat, k ≤ ns.length ∧ i = .int .i64 k ∧ Hid (Made w.heap.size wr 67 3 o k (flat (vs.take k))) ∧ Hid (Below w.heap.size w wr)) (fun _ i _ => ns.length - (intOf i).toNat)
  case atStart => exact ⟨0, Nat.zero_le _, rfl, hid ⟨World.ownsRow_nil _ _ _ _, fun g hg => by cases hg⟩, hid (Below.refl _ _)⟩
  case round =>
    obtain ⟨k, hk, rfl, M, B⟩ := hrel
    by_cases hlt : k < ns.length
    · obtain ⟨u, hvk⟩ : ∃ u, vs[k]? = some u := ⟨_, List.getElem?_eq_getElem (by rw [HL.out]; exact hlt)⟩
      obtain ⟨g, o, hcell⟩ : ∃ g o, oa = some ⟨g, o, none⟩ ∧ w.cell? ⟨g, o + k, none⟩ = some u := by
        rcases HC.out with ⟨h0, _⟩ | ⟨g, o, c', e, hc⟩
        · have := HL.out; rw [h0] at this; simp at this; omega
        · injection e with e1 e2 e3; exact ⟨g, o, e1, hc k _ hvk⟩
      obtain ⟨rfl, hcell0⟩ := hcell
      have hsn := flat_snoc vs k _ hvk
      have hview := HV.out k _ _ hvk (by rw [List.getElem?_eq_getElem hlt])
      obtain ⟨ou, cu, hu⟩ := hview.len
      generalize ns[k].length = m at hu
      have hcell := Keeps.below B.out _ _ _ hcell0
      rw [hu] at hcell hsn
      have hk0 : (0 : Int) ≤ (k : Int) := by omega
      have hk1 : (k : Int) < (ns.length : Int) := by omega
      have hz : w.heap.size ≤ wr.heap.size := B.out.size
      have Hsn := hid hsn
      clear hvk hcell0 hview hu hsn u
      go_wp2_with (at_builtin; refine app_tag rfl (.tmp 11) (.tmp 17) 29 rfl 67 (.agg #[.int .i64 0, .int .i64 0, .slice none 0 0]) 3 40 Try.underlying29 info67 rfl (by decide) (by decide) _ _ _ M.out.1 rfl [.int .i64 0, .int .i64 0, .slice ou m cu] wr.heap.size rfl rfl rfl (by simp [Value.oneCell']) (by omega) ?_; intro v3 w3 hown3 hc3 hp3 hne3)
      have M3 := M.out.grow hz hown3 hp3
      have B3 := M.out.below (Nat.le_refl _) B.out hc3
      rw [← Hsn.out] at M3
      clear hown3 hc3 hp3 hne3
      go_roundw
      case rel => exact ⟨k + 1, by omega, by go_num, hid M3, hid B3⟩
      case measure => simp [intOf]; omega
    · have hke : k = ns.length := by omega
      go_wp2_with fail
      go_ret
      refine ⟨_, rfl, ?_, B.out⟩
      have hM := M.out
      rw [hke, List.take_of_length_le (by rw [HL.out]; exact Nat.le_refl _)] at hM
      exact steps_view hM HL.out fun i u l hu hl => (HV.out i u l hu hl).keep (Keeps.below B.out)
end Go.Proofs.Ytoaellmjgejgfaa
