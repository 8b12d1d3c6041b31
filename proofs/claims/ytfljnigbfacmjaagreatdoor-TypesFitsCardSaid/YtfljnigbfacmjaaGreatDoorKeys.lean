/- Whether a key is no identifier: ContainsFunc at strings. -/
import Derived.Test.YtfljnigbfacmjaaGreatDoorVal
import Derived.Test.YtfljnigbfacmjaaGreatDoorIdent
namespace Go.Proofs.YtfljnigbfacmjaaGreatDoor
open Go Go.RowKit Go.Proofs.YtfljnigbfacmjaaGreatDoor.Steady
set_option linter.unusedVariables false

def badK (x : ByteArray) : Bool := !identB x
def idxS (f : ByteArray → Bool) : List ByteArray → Int
  | [] => -1
  | e :: l => if f e = true then 0 else if idxS f l = -1 then -1 else idxS f l + 1
theorem idxS_ge (f : ByteArray → Bool) : ∀ l, (idxS f l = -1 ∧ l.any f = false) ∨ (0 ≤ idxS f l ∧ l.any f = true)
  | [] => .inl ⟨rfl, rfl⟩
  | e :: l => by
    rw [idxS, List.any_cons]
    cases h : f e with
    | true => right; simp
    | false =>
      rcases idxS_ge f l with ⟨h1, h2⟩ | ⟨h1, h2⟩
      · left; rw [h1, h2]; simp
      · right
        rw [h2, if_neg (by decide), if_neg (by omega)]
        exact ⟨by omega, rfl⟩
theorem idxS_hit {f : ByteArray → Bool} {es : List ByteArray} {k : Nat} (h : k < es.length) (hn : ∀ j (hj : j < es.length), j < k → f es[j] = false) (hy : f es[k] = true) : idxS f es = k := by
  induction es generalizing k with
  | nil => cases h
  | cons e l ih =>
    cases k with
    | zero => rw [idxS, if_pos (by exact hy)]; rfl
    | succ k =>
      have h0 := hn 0 (by simp) (by omega)
      have h1 := ih (k := k) (by simpa using h) (fun j hj hjk => hn (j + 1) (by simpa using hj) (by omega)) hy
      replace h0 : f e = false := h0
      rw [idxS, if_neg (by rw [h0]; decide), h1, if_neg (by omega)]
      omega
theorem idxS_miss {f : ByteArray → Bool} : ∀ {es : List ByteArray}, (∀ j (hj : j < es.length), f es[j] = false) → idxS f es = -1
  | [], _ => rfl
  | e :: l, h => by
    have h0 : f e = false := h 0 (by simp)
    rw [idxS, if_neg (by rw [h0]; decide), idxS_miss fun j hj => h (j + 1) (by simpa using hj), if_pos rfl]
set_option maxRecDepth 100000 in
set_option maxHeartbeats 4000000 in
theorem badk_any (x : ByteArray) (w : World) (hx : x.size ≤ 140737488355328) : Calls Tryz.prog 53 #[.string x] w (Is (badK x) w) := by
  have HI := hid (ident_any x w hx)
  have HB := hid (show badK x = !identB x from rfl)
  go_enter Tryz.func53, Tryz.ntmps53
  go_wp2_with fail
  refine HI.out.mono ?_; rintro e w2 ⟨rfl, rfl⟩
  go_wp2_with fail
  go_ret
  exact ⟨by rw [HB.out]; rfl, rfl⟩
set_option maxRecDepth 100000 in
set_option maxHeartbeats 4000000 in
theorem indexK_any (P : Nat → Prop) (w : World) (u : Value) (l : List ByteArray) (hu : SV P w u l) :
    Calls Tryz.prog 72 #[u, .func (.func 53) #[] #[]] w (Ret (.int .i64 (idxS badK l)) w) := by
  obtain ⟨oa, ca, rfl⟩ := hu.len
  have hla := hu.le
  have HU := hid hu
  clear hu
  go_enter Tryz.func72, Tryz.ntmps72
  go_wp2_with fail
  go_loop [8] (fun i => ∃ k : Nat, k ≤ l.length ∧ i = .int .i64 k ∧ Hid (∀ j (hj : j < l.length), j < k → badK l[j] = false)) (fun i => l.length - (intOf i).toNat)
  case atStart => exact ⟨0, Nat.zero_le _, rfl, hid fun j _ hj => absurd hj (Nat.not_lt_zero _)⟩
  case round =>
    obtain ⟨k, hk, rfl, A⟩ := hrel
    by_cases hlt : k < l.length
    · obtain ⟨g1, o1, c1, e1, a1⟩ := HU.out.at hlt
      cases e1
      have hk0 : (0 : Int) ≤ (k : Int) := by omega
      have hk1 : (k : Int) < (l.length : Int) := by omega
      have HCall := hid (badk_any l[k] w (HU.out.2 _ (List.getElem_mem hlt)))
      cases hfe : badK l[k] with
      | true =>
        rw [hfe] at HCall
        have HS := hid (idxS_hit hlt A.out hfe)
        clear hfe A
        go_wp2_with fail
        refine HCall.out.mono ?_; rintro e w4 ⟨rfl, rfl⟩
        go_wp2_with fail
        go_ret
        exact ⟨by rw [HS.out]; rfl, Below.refl _ _⟩
      | false =>
        rw [hfe] at HCall
        have HS : Hid (∀ j (hj : j < l.length), j < k + 1 → badK l[j] = false) := hid fun j hj h => by
          by_cases e : j = k
          · subst e; exact hfe
          · exact A.out j hj (by omega)
        clear hfe A
        go_wp2_with fail
        refine HCall.out.mono ?_; rintro e w4 ⟨rfl, rfl⟩
        go_wp2_with fail
        go_round
        case rel => exact ⟨k + 1, by omega, by go_num, HS⟩
        case measure => simp [intOf]; omega
    · have HS := hid (idxS_miss (f := badK) (es := l) fun j hj => A.out j hj (by omega))
      go_wp2_with fail
      go_ret
      exact ⟨by rw [HS.out]; rfl, Below.refl _ _⟩
set_option maxRecDepth 100000 in
set_option maxHeartbeats 4000000 in
theorem containsK_any (P : Nat → Prop) (w : World) (u : Value) (l : List ByteArray) (hu : SV P w u l) :
    Calls Tryz.prog 52 #[u, .func (.func 53) #[] #[]] w (Ret (.bool (l.any badK)) w) := by
  obtain ⟨oa, ca, rfl⟩ := hu.len
  have HI := hid (indexK_any P w _ l hu)
  have HG := hid (idxS_ge badK l)
  clear hu
  obtain ⟨r, hr⟩ : ∃ r, idxS badK l = r := ⟨_, rfl⟩
  rw [hr] at HI HG
  clear hr
  go_enter Tryz.func52, Tryz.ntmps52
  go_wp2_with fail
  refine HI.out.mono ?_; rintro e w2 ⟨rfl, hb⟩
  rcases HG.out with ⟨h1, h2⟩ | ⟨h1, h2⟩
  · have g : decide (r ≥ 0) = false := decide_eq_false (by omega)
    have H2 := hid h2
    clear h1 h2
    have HB := hid hb
    clear hb
    go_wp2_with fail
    go_ret
    exact ⟨by rw [H2.out]; rfl, HB.out⟩
  · have g : decide (r ≥ 0) = true := decide_eq_true h1
    have H2 := hid h2
    clear h1 h2
    have HB := hid hb
    clear hb
    go_wp2_with fail
    go_ret
    exact ⟨by rw [H2.out]; rfl, HB.out⟩
end Go.Proofs.YtfljnigbfacmjaaGreatDoor
