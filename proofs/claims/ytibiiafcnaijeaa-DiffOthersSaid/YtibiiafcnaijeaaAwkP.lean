/- Sizes of what a change is made of, and the examples that awake looks at, as plain data. -/
import Derived.Test.YtibiiafcnaijeaaEff
namespace Go.Proofs.Ytibiiafcnaijeaa
open Go Go.RowKit
set_option linter.unusedVariables false
set_option linter.unusedSimpArgs false

def itmV : Vl → List Vl
  | .mk _ _ _ is _ => is
theorem getV_mem {v : Vl} {x : ByteArray} {y : Vl} (h : getV v x = some y) : y ∈ itmV v := by
  obtain ⟨k, n, s, is, ks⟩ := v
  rw [getV_eq] at h
  split at h
  · exact List.mem_of_getElem? h
  · cases h
theorem putV_items (v : Vl) (x : ByteArray) (y : Vl) : ∀ e ∈ itmV (putV v x y), e ∈ itmV v ∨ e = y := by
  obtain ⟨k, n, s, is, ks⟩ := v
  intro e he
  rw [putV_eq] at he
  split at he
  · exact .inl he
  · split at he
    · rcases List.mem_or_eq_of_mem_set he with h | h
      · exact .inl h
      · exact .inr h
    · have he' : e ∈ is.insertIdx (posN ks x) y := he
      by_cases hl : posN ks x ≤ is.length
      · rcases (List.mem_insertIdx hl).1 he' with h | h
        · exact .inr h
        · exact .inl h
      · rw [List.insertIdx_of_length_lt (by omega)] at he'
        exact .inl he'
theorem ignStep_items (p c : Vl) (x : ByteArray) : ∀ e ∈ itmV (ignStep p c x), e ∈ itmV c ∨ e ∈ itmV p := by
  intro e he
  unfold ignStep at he
  cases hg : getV p x with
  | none => rw [hg] at he; exact .inl he
  | some v =>
    rw [hg] at he
    simp only at he
    split at he
    · rcases putV_items _ _ _ e he with h | h
      · exact .inl h
      · exact .inr (h ▸ getV_mem hg)
    · exact .inl he
theorem ignoreV_items (p : Vl) : ∀ (l : List ByteArray) (c : Vl), ∀ e ∈ itmV (ignoreV p c l), e ∈ itmV c ∨ e ∈ itmV p
  | [], c, e, he => .inl he
  | x :: l, c, e, he => by
    rcases ignoreV_items p l (ignStep p c x) e he with h | h
    · exact ignStep_items p c x e h
    · exact .inr h
theorem ignStep_size (p c : Vl) (x : ByteArray) : szV (ignStep p c x) ≤ szV c + szV p ∧ kyV (ignStep p c x) ≤ kyV c + kyV p + 1 := by
  unfold ignStep
  cases hg : getV p x with
  | none => simp only; omega
  | some v =>
    simp only
    have h1 := getV_size hg
    split
    · have h2 := putV_size c x v; omega
    · omega
theorem ignoreV_size (p : Vl) : ∀ (l : List ByteArray) (c : Vl), szV (ignoreV p c l) ≤ szV c + l.length * szV p ∧ kyV (ignoreV p c l) ≤ kyV c + l.length * (kyV p + 1)
  | [], c => by simp [ignoreV]
  | x :: l, c => by
    have h1 := ignoreV_size p l (ignStep p c x)
    have h2 := ignStep_size p c x
    have h3 : ignoreV p c (x :: l) = ignoreV p (ignStep p c x) l := rfl
    rw [h3]
    simp only [List.length_cons, Nat.succ_mul]
    omega
theorem itm_small {v : Vl} {m k : Nat} (h1 : szV v ≤ m) (h2 : kyV v ≤ k) : ∀ e ∈ itmV v, szV e ≤ m ∧ kyV e ≤ k := by
  obtain ⟨kk, n, s, is, ks⟩ := v
  intro e he
  have a := szV_mem (show e ∈ is from he)
  have b := kyV_mem (show e ∈ is from he)
  rw [szV] at h1
  rw [kyV] at h2
  omega
theorem effD_items (i : Inp) : ∀ e ∈ itmV (effD i), e ∈ itmV i.cnfg ∨ e ∈ itmV i.prior.attrs := by
  intro e he
  unfold effD at he
  split at he
  · exact ignoreV_items _ _ _ e he
  · exact .inl he
theorem effD_small {i : Inp} (h : InOk i) : SzOk (effD i) ∧ ∀ e ∈ itmV (effD i), szV e ≤ 300 ∧ kyV e ≤ 600 := by
  obtain ⟨_, _, _, h1, h2, h3, h4, h5, _, _⟩ := h
  refine ⟨?_, fun e he => ?_⟩
  · unfold effD SzOk
    split
    · have h6 := ignoreV_size i.prior.attrs (ignN i.sc i.ignore) i.cnfg
      have h7 : (ignN i.sc i.ignore).length ≤ 20 := Nat.le_trans (List.length_filter_le _ _) h5
      have h8 := Nat.mul_le_mul h7 h1
      have h9 := Nat.mul_le_mul h7 (Nat.succ_le_succ h2)
      simp only [Nat.succ_eq_add_one] at h9
      omega
    · omega
  · rcases effD_items i e he with h | h
    · exact itm_small h3 h4 e h
    · exact itm_small h1 h2 e h
theorem szL_le {m : Nat} : ∀ {l : List Vl}, (∀ e ∈ l, szV e ≤ m) → szL l ≤ l.length * m
  | [], _ => by simp [szL]
  | a :: l, h => by
    have := h a (List.mem_cons_self ..)
    have := szL_le fun e he => h e (List.mem_cons_of_mem _ he)
    rw [szL, List.length_cons, Nat.succ_mul]; omega
theorem kyL_le {m : Nat} : ∀ {l : List Vl}, (∀ e ∈ l, kyV e ≤ m) → kyL l ≤ l.length * m
  | [], _ => by simp [kyL]
  | a :: l, h => by
    have := h a (List.mem_cons_self ..)
    have := kyL_le fun e he => h e (List.mem_cons_of_mem _ he)
    rw [kyL, List.length_cons, Nat.succ_mul]; omega
theorem getN_small {v : Vl} (hv : ∀ e ∈ itmV v, szV e ≤ 300 ∧ kyV e ≤ 600) (x : ByteArray) : szV (getN v x) ≤ 300 ∧ kyV (getN v x) ≤ 600 := by
  unfold getN
  cases h : getV v x with
  | none => exact ⟨by decide, by decide⟩
  | some y => exact hv y (getV_mem h)
theorem itemS_small (s : Sc) {p c : Vl} (hp : ∀ e ∈ itmV p, szV e ≤ 300 ∧ kyV e ≤ 600) (hc : ∀ e ∈ itmV c, szV e ≤ 300 ∧ kyV e ≤ 600) (x : ByteArray) : szV (itemS s p c x) ≤ 300 ∧ kyV (itemS s p c x) ≤ 600 := by
  unfold itemS
  split
  · split
    · exact ⟨by decide, by decide⟩
    · exact getN_small hp x
  · exact getN_small hc x
theorem proposeS_items (s : Sc) {p c : Vl} (hp : ∀ e ∈ itmV p, szV e ≤ 300 ∧ kyV e ≤ 600) (hc : ∀ e ∈ itmV c, szV e ≤ 300 ∧ kyV e ≤ 600) : ∀ e ∈ itmV (proposeS s p c), szV e ≤ 300 ∧ kyV e ≤ 600 := by
  intro e he
  obtain ⟨x, _, rfl⟩ := List.mem_map.1 he
  split
  · exact ⟨by decide, by decide⟩
  · exact itemS_small s hp hc x
theorem proposeS_small (s : Sc) {p c : Vl} (hs : (namesS s).length ≤ 40) (hp : ∀ e ∈ itmV p, szV e ≤ 300 ∧ kyV e ≤ 600) (hc : ∀ e ∈ itmV c, szV e ≤ 300 ∧ kyV e ≤ 600) : SzOk (proposeS s p c) := by
  have h := proposeS_items s hp hc
  unfold SzOk
  unfold proposeS at h ⊢
  have h1 := szL_le fun e he => (h e he).1
  have h2 := kyL_le fun e he => (h e he).2
  rw [szV, kyV]
  simp only [itmV, List.length_map] at h1 h2
  omega
theorem nullV_items : ∀ e ∈ itmV nullV, szV e ≤ 300 ∧ kyV e ≤ 600 := fun e he => by cases he

abbrev sE : ByteArray := ⟨#[101]⟩
abbrev sEtag : ByteArray := ⟨#[101, 116, 97, 103]⟩
abbrev sId : ByteArray := ⟨#[105, 100]⟩
abbrev sN : ByteArray := ⟨#[110]⟩
abbrev sSize : ByteArray := ⟨#[115, 105, 122, 101]⟩
abbrev sNet1 : ByteArray := ⟨#[110, 101, 116, 45, 49]⟩
abbrev sNetA : ByteArray := ⟨#[110, 101, 116, 46, 97]⟩
abbrev sNetZ : ByteArray := ⟨#[110, 101, 116, 46, 122]⟩
abbrev sNet : ByteArray := ⟨#[110, 101, 116]⟩
abbrev strV (s : ByteArray) : Vl := .mk 3 0 s [] []
abbrev numV (n : Int) : Vl := .mk 2 n ⟨#[]⟩ [] []
abbrev fourV (a b c d : Vl) : Vl := .mk 5 0 ⟨#[]⟩ [a, b, c, d] [sEtag, sId, sN, sSize]
abbrev kindS : Sc := ⟨[⟨sEtag, .mk 3 [] [], 3, false, false, true⟩, ⟨sId, .mk 3 [] [], 3, false, false, false⟩, ⟨sN, .mk 2 [] [], 2, false, false, false⟩, ⟨sSize, .mk 2 [] [], 2, true, false, false⟩], []⟩
abbrev priorI : Inst := ⟨sNetA, ⟨#[]⟩, sNet1, sNet, fourV (strV sE) (strV sNet1) (numV 1) (numV 1), 1, false, false, [sNetZ]⟩
abbrev inp1 : Inp := ⟨sNetA, sNet, kindS, 0, true, priorI, fourV nullV nullV (numV 2) (numV 1), false, false, [], false, false, []⟩
abbrev inp2 : Inp := ⟨sNetA, sNet, kindS, 0, true, priorI, fourV nullV nullV (numV 1) (numV 2), true, false, [], false, false, []⟩
abbrev inp3 : Inp := ⟨sNetA, sNet, kindS, 0, true, priorI, fourV nullV nullV (numV 1) (numV 2), true, false, [sSize], false, false, []⟩
abbrev inp4 : Inp := ⟨sNetA, sNet, kindS, 0, false, priorI, fourV nullV nullV (numV 1) (numV 2), true, false, [sSize], false, false, []⟩
set_option maxRecDepth 100000
theorem chg1 : (changeD inp1).action = 2 ∧ (changeD inp1).reason = 2 ∧ (changeD inp1).oldDeps.length = 1 ∧ eqV (changeD inp1).after (fourV unkV (strV sNet1) (numV 2) (numV 1)) = true := ⟨by kernel_rfl, by kernel_rfl, by kernel_rfl, by kernel_rfl⟩
theorem chg2 : (changeD inp2).action = 3 ∧ (changeD inp2).reason = 3 ∧ (changeD inp2).createFirst = true ∧ (changeD inp2).replace.length = 1 ∧ eqV (changeD inp2).after (fourV unkV unkV (numV 1) (numV 2)) = true := ⟨by kernel_rfl, by kernel_rfl, by kernel_rfl, by kernel_rfl, by kernel_rfl⟩
theorem chg3 : (changeD inp3).action = 0 ∧ (changeD inp3).reason = 0 := ⟨by kernel_rfl, by kernel_rfl⟩
theorem chg4 : (changeD inp4).action = 1 ∧ (changeD inp4).reason = 1 := ⟨by kernel_rfl, by kernel_rfl⟩
theorem ok1 : InOk inp1 := by unfold InOk ScOk; decide
theorem ok2 : InOk inp2 := by unfold InOk ScOk; decide
theorem ok3 : InOk inp3 := by unfold InOk ScOk; decide
theorem ok4 : InOk inp4 := by unfold InOk ScOk; decide
end Go.Proofs.Ytibiiafcnaijeaa
