/- Ascending names; what Get and Put of the program and of the reference give on them: plain. -/
import Derived.Test.YtibiiafcnaijeaaDp
namespace Go.Proofs.Ytibiiafcnaijeaa
open Go Go.RowKit
set_option linter.unusedVariables false
set_option linter.unusedSimpArgs false

theorem bsGo_at (less : Nat → Bool) (k n : Nat) (h1 : ∀ t, t < k → less t = true) (h2 : ∀ t, k ≤ t → t < n → less t = false) :
    ∀ (f lo hi : Nat), hi - lo ≤ f → lo ≤ k → k ≤ hi → hi ≤ n → Lib.bsGo less f lo hi = k
  | 0, lo, hi, hf, a, b, c => by simp [Lib.bsGo]; omega
  | f + 1, lo, hi, hf, a, b, c => by
    unfold Lib.bsGo
    by_cases h : lo < hi
    · rw [if_pos h]
      by_cases hm : (lo + hi) / 2 < k
      · rw [h1 _ hm, if_pos rfl]; exact bsGo_at less k n h1 h2 f _ _ (by omega) (by omega) b c
      · rw [h2 _ (by omega) (by omega)]; exact bsGo_at less k n h1 h2 f _ _ (by omega) a (by omega) (by omega)
    · rw [if_neg h]; omega
theorem ltS_trans {a b c : ByteArray} (h : ltS a b = true) (k : ltS b c = true) : ltS a c = true := bl_trans _ _ _ h k
theorem ltS_total {a b : ByteArray} (h : ltS a b = false) : ltS b a = true ∨ a = b := (bl_total _ _ h).imp id toList_inj
theorem ltS_irr (a : ByteArray) : ltS a a = false := by
  cases h : ltS a a with
  | false => rfl
  | true => have := bl_asymm _ _ h; unfold ltS at h; rw [h] at this; cases this
theorem ltS_asymm {a b : ByteArray} (h : ltS a b = true) : ltS b a = false := bl_asymm _ _ h
def Asc (ns : List ByteArray) : Prop := ns.Pairwise fun a b => ltS a b = true
def posT : List ByteArray → ByteArray → Nat
  | [], _ => 0
  | a :: ns, x => if ltS a x = true then posT ns x + 1 else 0
theorem posT_le : ∀ (ns : List ByteArray) (x : ByteArray), posT ns x ≤ ns.length
  | [], _ => Nat.le_refl _
  | a :: ns, x => by
    unfold posT
    split
    · have := posT_le ns x; simp; omega
    · exact Nat.zero_le _
theorem posT_lt : ∀ (ns : List ByteArray) (x : ByteArray) (t : Nat), t < posT ns x → ltS (ns.getD t ByteArray.empty) x = true
  | [], _, t, h => by simp [posT] at h
  | a :: ns, x, t, h => by
    unfold posT at h
    split at h
    · rename_i hh
      cases t with
      | zero => exact hh
      | succ t => exact posT_lt ns x t (by omega)
    · simp at h
theorem posT_ge : ∀ (ns : List ByteArray) (x : ByteArray) (t : Nat), Asc ns → posT ns x ≤ t → t < ns.length → ltS (ns.getD t ByteArray.empty) x = false
  | [], _, t, _, _, h => by simp at h
  | a :: ns, x, t, ha, h, hl => by
    unfold posT at h
    have hp := List.pairwise_cons.1 ha
    split at h
    · cases t with
      | zero => omega
      | succ t => exact posT_ge ns x t hp.2 (by omega) (by simpa using hl)
    · rename_i hh
      have hh' : ltS a x = false := by simpa using hh
      cases t with
      | zero => exact hh'
      | succ t =>
        have hl' : t < ns.length := by simpa using hl
        have e : (a :: ns).getD (t + 1) ByteArray.empty = ns[t] := by simp [hl']
        rw [e]
        cases hc : ltS ns[t] x with
        | false => rfl
        | true => rw [ltS_trans (hp.1 _ (List.getElem_mem hl')) hc] at hh'; cases hh'
theorem posN_asc {ns : List ByteArray} (x : ByteArray) (h : Asc ns) : posN ns x = posT ns x := by
  unfold posN
  exact bsGo_at _ (posT ns x) ns.length (fun t ht => posT_lt ns x t ht) (fun t h1 h2 => posT_ge ns x t h h1 h2) _ _ _ (by omega) (Nat.zero_le _) (posT_le ns x) (Nat.le_refl _)
theorem asc_ins : ∀ (ns : List ByteArray) (x : ByteArray), Asc ns → (∀ y ∈ ns, y ≠ x) → Asc (ns.insertIdx (posT ns x) x)
  | [], x, _, _ => by simp [posT, Asc]
  | a :: ns, x, ha, hn => by
    have hp := List.pairwise_cons.1 ha
    unfold posT
    split
    · rename_i hh
      rw [List.insertIdx_succ_cons]
      refine List.pairwise_cons.2 ⟨fun b hb => ?_, asc_ins ns x hp.2 fun y hy => hn y (List.mem_cons_of_mem _ hy)⟩
      rcases (List.mem_insertIdx (posT_le ns x)).1 hb with rfl | hb
      · exact hh
      · exact hp.1 b hb
    · rename_i hh
      rw [List.insertIdx_zero]
      have hx : ltS x a = true := (ltS_total (by simpa using hh)).resolve_right (hn a (List.mem_cons_self ..))
      refine List.pairwise_cons.2 ⟨fun b hb => ?_, ha⟩
      rcases List.mem_cons.1 hb with rfl | hb
      · exact hx
      · exact ltS_trans hx (hp.1 b hb)
theorem posT_all : ∀ (ns : List ByteArray) (x : ByteArray), (∀ y ∈ ns, ltS y x = true) → posT ns x = ns.length
  | [], _, _ => rfl
  | a :: ns, x, h => by
    unfold posT
    rw [if_pos (h a (List.mem_cons_self ..)), posT_all ns x fun y hy => h y (List.mem_cons_of_mem _ hy)]
    rfl

/-- The value of a key, found from the left. -/
def getRL : List ByteArray → List Vl → ByteArray → Option Vl
  | k :: ks, v :: is, x => if k = x then some v else getRL ks is x
  | [], _, _ => none
  | _ :: _, [], _ => none
def getR : Vl → ByteArray → Option Vl
  | .mk k _ _ is ks, x => if k = 5 then getRL ks is x else none
theorem getRL_none : ∀ (ks : List ByteArray) (is : List Vl) (x : ByteArray), (∀ y ∈ ks, y ≠ x) → getRL ks is x = none
  | [], _, _, _ => by rw [getRL]
  | _ :: _, [], _, _ => by rw [getRL]
  | k :: ks, v :: is, x, h => by rw [getRL, if_neg (h k (List.mem_cons_self ..)), getRL_none ks is x fun y hy => h y (List.mem_cons_of_mem _ hy)]
theorem getRL_pos : ∀ (ks : List ByteArray) (is : List Vl) (x : ByteArray), Asc ks → getRL ks is x = if posT ks x < ks.length ∧ ks.getD (posT ks x) ByteArray.empty = x then is[posT ks x]? else none
  | [], _, _, _ => by rw [getRL]; simp
  | k :: ks, [], x, _ => by rw [getRL]; simp
  | k :: ks, v :: is, x, ha => by
    have hp := List.pairwise_cons.1 ha
    rw [getRL]
    unfold posT
    by_cases hk : k = x
    · subst hk
      simp [ltS_irr]
    · rw [if_neg hk]
      by_cases hl : ltS k x = true
      · rw [if_pos hl, getRL_pos ks is x hp.2]
        simp
      · rw [if_neg hl, if_neg (by simp; exact hk), getRL_none]
        intro y hy e
        subst e
        exact hl (hp.1 y hy)
theorem fndN_asc {ks : List ByteArray} (x : ByteArray) (h : Asc ks) : fndN ks x = decide (posT ks x < ks.length ∧ ks.getD (posT ks x) ByteArray.empty = x) := by
  unfold fndN; rw [posN_asc x h]
theorem getV_R {k n : Int} {s : ByteArray} {is : List Vl} {ks : List ByteArray} (x : ByteArray) (h : Asc ks) : getV (.mk k n s is ks) x = getR (.mk k n s is ks) x := by
  simp only [getV, getR]
  rw [fndN_asc x h, posN_asc x h, getRL_pos ks is x h]
  by_cases hk : k = 5
  · rw [if_pos hk]
    by_cases h2 : posT ks x < ks.length ∧ ks.getD (posT ks x) ByteArray.empty = x
    · rw [if_pos ⟨hk, decide_eq_true h2⟩, if_pos h2]
    · rw [if_neg fun e => h2 (of_decide_eq_true e.2), if_neg h2]
  · rw [if_neg hk, if_neg fun e => hk e.1]
/-- What the reference's Put lays: the pairs, and whether the new one is laid. -/
def putG : Bool → List ByteArray → List Vl → ByteArray → Vl → List (ByteArray × Vl)
  | d, k :: ks, v :: is, x, y => (if d = false ∧ ltS k x = false then [(x, y)] else []) ++ ((if k = x then [] else [(k, v)]) ++ putG (d || !ltS k x) ks is x y)
  | d, [], _, x, y => if d = true then [] else [(x, y)]
  | d, _ :: _, [], x, y => if d = true then [] else [(x, y)]
def putR (v : Vl) (x : ByteArray) (y : Vl) : Vl := match v with
  | .mk _ _ _ is ks => .mk 5 0 ⟨#[]⟩ ((putG false ks is x y).map (·.2)) ((putG false ks is x y).map (·.1))
theorem putG_done : ∀ (ks : List ByteArray) (is : List Vl) (x : ByteArray) (y : Vl), ks.length = is.length → (∀ z ∈ ks, z ≠ x) → putG true ks is x y = ks.zip is
  | [], [], _, _, _, _ => by rw [putG]; rfl
  | [], _ :: _, _, _, h, _ => by cases h
  | _ :: _, [], _, _, h, _ => by cases h
  | k :: ks, v :: is, x, y, h, hn => by
    rw [putG, if_neg (by simp), if_neg (hn k (List.mem_cons_self ..)), Bool.true_or, putG_done ks is x y (by simpa using h) fun z hz => hn z (List.mem_cons_of_mem _ hz)]; rfl
theorem putG_pos : ∀ (ks : List ByteArray) (is : List Vl) (x : ByteArray) (y : Vl), ks.length = is.length → Asc ks →
    (putG false ks is x y).map (·.1) = (if posT ks x < ks.length ∧ ks.getD (posT ks x) ByteArray.empty = x then ks else ks.insertIdx (posT ks x) x) ∧
    (putG false ks is x y).map (·.2) = (if posT ks x < ks.length ∧ ks.getD (posT ks x) ByteArray.empty = x then is.set (posT ks x) y else is.insertIdx (posT ks x) y)
  | [], [], _, _, _, _ => by rw [putG]; simp [posT]
  | [], _ :: _, _, _, h, _ => by cases h
  | _ :: _, [], _, _, h, _ => by cases h
  | k :: ks, v :: is, x, y, h, ha => by
    have hp := List.pairwise_cons.1 ha
    have hl : ks.length = is.length := by simpa using h
    rw [putG]
    unfold posT
    by_cases hk : k = x
    · subst hk
      have hn : ∀ z ∈ ks, z ≠ k := fun z hz e => by subst e; have := hp.1 z hz; rw [ltS_irr] at this; cases this
      rw [ltS_irr]
      simp only [if_true, and_self, Bool.false_or, Bool.not_false, putG_done ks is k y hl hn, if_neg Bool.false_ne_true]
      simp [List.map_fst_zip, List.map_snd_zip, hl]
    · by_cases hlt : ltS k x = true
      · obtain ⟨h1, h2⟩ := putG_pos ks is x y hl hp.2
        rw [hlt]
        simp only [Bool.not_true, Bool.or_false, if_neg hk, if_true]
        rw [if_neg (by simp)]
        simp only [List.nil_append, List.map_append, List.map_cons, List.map_nil, h1, h2, List.cons_append, List.length_cons, List.getD_cons_succ, Nat.add_lt_add_iff_right, List.insertIdx_succ_cons, List.set_cons_succ]
        constructor <;> split <;> rfl
      · have hlf : ltS k x = false := by simpa using hlt
        have hxk : ltS x k = true := (ltS_total hlf).resolve_right hk
        have hn : ∀ z ∈ ks, z ≠ x := fun z hz e => by subst e; rw [hp.1 z hz] at hlf; cases hlf
        rw [hlf]
        simp only [Bool.not_false, Bool.or_true, and_self, if_true, if_neg hk, putG_done ks is x y hl hn, if_neg Bool.false_ne_true]
        rw [if_neg (by simp; exact hk)]
        simp [List.map_fst_zip, List.map_snd_zip, hl, hk]
theorem posT_some {ks : List ByteArray} {x : ByteArray} : posT ks x ≤ ks.length := posT_le ks x
theorem putV_R {n : Int} {is : List Vl} {ks : List ByteArray} (x : ByteArray) (y : Vl) (h : Asc ks) (hl : ks.length = is.length) : putV (.mk 5 0 ⟨#[]⟩ is ks) x y = putR (.mk 5 n ⟨#[]⟩ is ks) x y := by
  simp only [putV, putR]
  obtain ⟨h1, h2⟩ := putG_pos ks is x y hl h
  have hle := posT_le ks x
  rw [fndN_asc x h, posN_asc x h, h1, h2, if_neg (by rintro (h3 | ⟨h3, h4⟩); omega; have := (of_decide_eq_true h3).1; omega)]
  by_cases h2 : posT ks x < ks.length ∧ ks.getD (posT ks x) ByteArray.empty = x
  · rw [if_pos (decide_eq_true h2), if_pos h2, if_pos h2]
  · rw [if_neg (fun e => h2 (of_decide_eq_true e)), if_neg h2, if_neg h2]
end Go.Proofs.Ytibiiafcnaijeaa
