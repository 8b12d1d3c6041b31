/- Whether a value that does not conform is in a list: ContainsFunc at values. -/
import Derived.Test.YtfljnigbfacmjaaGreatDoorOrd
import Derived.Test.YtfljnigbfacmjaaGreatDoorIncl
import Derived.Test.YtfljnigbfacmjaaGreatDoorCom
namespace Go.Proofs.YtfljnigbfacmjaaGreatDoor
open Go Go.RowKit Go.Proofs.YtfljnigbfacmjaaGreatDoor.Steady
set_option linter.unusedVariables false

def idxV (f : Vl → Bool) : List Vl → Int
  | [] => -1
  | e :: l => if f e = true then 0 else if idxV f l = -1 then -1 else idxV f l + 1
theorem idxV_ge (f : Vl → Bool) : ∀ l, (idxV f l = -1 ∧ l.any f = false) ∨ (0 ≤ idxV f l ∧ l.any f = true)
  | [] => .inl ⟨rfl, rfl⟩
  | e :: l => by
    rw [idxV, List.any_cons]
    cases h : f e with
    | true => right; simp
    | false =>
      rcases idxV_ge f l with ⟨h1, h2⟩ | ⟨h1, h2⟩
      · left; rw [h1, h2]; simp
      · right
        rw [h2, if_neg (by decide), if_neg (by omega)]
        exact ⟨by omega, rfl⟩
theorem idxV_hit {f : Vl → Bool} {es : List Vl} {k : Nat} (h : k < es.length) (hn : ∀ j (hj : j < es.length), j < k → f es[j] = false) (hy : f es[k] = true) : idxV f es = k := by
  induction es generalizing k with
  | nil => cases h
  | cons e l ih =>
    cases k with
    | zero => rw [idxV, if_pos (by exact hy)]; rfl
    | succ k =>
      have h0 := hn 0 (by simp) (by omega)
      have h1 := ih (k := k) (by simpa using h) (fun j hj hjk => hn (j + 1) (by simpa using hj) (by omega)) hy
      replace h0 : f e = false := h0
      rw [idxV, if_neg (by rw [h0]; decide), h1, if_neg (by omega)]
      omega
theorem idxV_miss {f : Vl → Bool} : ∀ {es : List Vl}, (∀ j (hj : j < es.length), f es[j] = false) → idxV f es = -1
  | [], _ => rfl
  | e :: l, h => by
    have h0 : f e = false := h 0 (by simp)
    rw [idxV, if_neg (by rw [h0]; decide), idxV_miss fun j hj => h (j + 1) (by simpa using hj), if_pos rfl]
set_option maxRecDepth 100000 in
set_option maxHeartbeats 4000000 in
theorem indexV_any (c : Value) (f : Vl → Bool) (P : Nat → Prop) (w : World) (u : Value) (es : List Vl) (hu : WV P w u es)
    (hf : ∀ e ∈ es, ∀ (w1 : World) (x : Value), Below w.heap.size w w1 → VV P w1 x e → Calls Tryz.prog 49 #[x, c] w1 (Ret (.bool (f e)) w1)) :
    Calls Tryz.prog 71 #[u, .func (.func 49) #[] #[c]] w (Ret (.int .i64 (idxV f es)) w) := by
  obtain ⟨oa, ca, rfl⟩ := hu.len
  have hla := hu.le
  have HU := hid hu
  have HF := hid hf
  clear hu hf
  go_enter Tryz.func71, Tryz.ntmps71
  go_wp2_with fail
  go_loopw [8] (fun i wr => ∃ k : Nat, k ≤ es.length ∧ i = .int .i64 k ∧ Hid (Below w.heap.size w wr) ∧ Hid (∀ j (hj : j < es.length), j < k → f es[j] = false)) (fun i _ => es.length - (intOf i).toNat)
  case atStart => exact ⟨0, Nat.zero_le _, rfl, hid (Below.refl _ _), hid fun j _ hj => absurd hj (Nat.not_lt_zero _)⟩
  case round =>
    obtain ⟨k, hk, rfl, B, A⟩ := hrel
    by_cases hlt : k < es.length
    · obtain ⟨g1, o1, c1, k1, n1, s1, oi1, mi1, ci1, ok1, mk1, ck1, e1, a1, a2, a3, a4, a5, hT1, -⟩ := (HU.out.bel B.out).at hlt
      cases e1
      have hk0 : (0 : Int) ≤ (k : Int) := by omega
      have hk1 : (k : Int) < (es.length : Int) := by omega
      have hcall := HF.out es[k] (List.getElem_mem hlt) wr _ B.out hT1
      have HCall := hid hcall
      clear hcall hT1
      cases hfe : f es[k] with
      | true =>
        rw [hfe] at HCall
        have HS := hid (idxV_hit hlt A.out hfe)
        clear hfe A
        go_wp2_with fail
        refine HCall.out.mono ?_; rintro e w4 ⟨rfl, hb4⟩
        have HB4 := hid (B.out.trans (hb4.mono B.out.size))
        clear hb4
        go_wp2_with fail
        go_ret
        exact ⟨by rw [HS.out]; rfl, HB4.out⟩
      | false =>
        rw [hfe] at HCall
        have HS : Hid (∀ j (hj : j < es.length), j < k + 1 → f es[j] = false) := hid fun j hj h => by
          by_cases e : j = k
          · subst e; exact hfe
          · exact A.out j hj (by omega)
        clear hfe A
        go_wp2_with fail
        refine HCall.out.mono ?_; rintro e w4 ⟨rfl, hb4⟩
        have HB4 := hid (B.out.trans (hb4.mono B.out.size))
        clear hb4
        go_wp2_with fail
        go_roundw
        case rel => exact ⟨k + 1, by omega, by go_num, HB4, HS⟩
        case measure => simp [intOf]; omega
    · have hfin := idxV_miss fun j hj => A.out j hj (by omega)
      have HFin := hid hfin
      clear hfin
      go_wp2_with fail
      go_ret
      exact ⟨by rw [HFin.out]; rfl, B.out⟩
set_option maxRecDepth 100000 in
set_option maxHeartbeats 4000000 in
theorem containsV_any (c : Value) (f : Vl → Bool) (P : Nat → Prop) (w : World) (u : Value) (es : List Vl) (hu : WV P w u es)
    (hf : ∀ e ∈ es, ∀ (w1 : World) (x : Value), Below w.heap.size w w1 → VV P w1 x e → Calls Tryz.prog 49 #[x, c] w1 (Ret (.bool (f e)) w1)) :
    Calls Tryz.prog 48 #[u, .func (.func 49) #[] #[c]] w (Ret (.bool (es.any f)) w) := by
  have HI := hid (indexV_any c f P w u es hu hf)
  obtain ⟨oa, ca, rfl⟩ := hu.len
  have hge : decide (0 ≤ idxV f es) = es.any f := by
    rcases idxV_ge f es with ⟨h1, h2⟩ | ⟨h1, h2⟩
    · rw [h1, h2]; rfl
    · rw [h2]; exact decide_eq_true h1
  have HG := hid hge
  clear hu hf hge
  go_enter Tryz.func48, Tryz.ntmps48
  go_wp2_with fail
  refine HI.out.mono ?_; rintro e w2 ⟨rfl, hb⟩
  have HB := hid hb
  clear hb
  go_wp2_with fail
  go_ret
  exact ⟨by rw [← HG.out]; rfl, HB.out⟩
end Go.Proofs.YtfljnigbfacmjaaGreatDoor
