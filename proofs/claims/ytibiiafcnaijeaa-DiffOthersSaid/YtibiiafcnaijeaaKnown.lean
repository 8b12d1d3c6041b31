/- Known and Unknown of values. -/
import Derived.Test.YtibiiafcnaijeaaEqV
namespace Go.Proofs.Ytibiiafcnaijeaa
open Go Go.RowKit Go.Proofs.Ytibiiafcnaijeaa.Steady
set_option linter.unusedVariables false
set_option linter.unusedSimpArgs false

def unk (e : Vl) : Bool := !knownV e
def idxV (f : Vl → Bool) : List Vl → Int
  | [] => -1
  | e :: l => if f e = true then 0 else if idxV f l = -1 then -1 else idxV f l + 1
theorem idxV_ge (f : Vl → Bool) : ∀ l, (idxV f l = -1 ∧ l.any f = false) ∨ (0 ≤ idxV f l ∧ l.any f = true)
  | [] => .inl ⟨rfl, rfl⟩
  | e :: l => by
    rw [idxV, List.any_cons]
    cases h : f e with
    | true => right; simp
    | false =>
      rcases idxV_ge f l with ⟨h1, h2⟩ | ⟨h1, h2⟩
      · left; rw [h1, h2]; simp
      · right
        rw [h2, if_neg (by decide), if_neg (by omega)]
        exact ⟨by omega, rfl⟩
theorem idxV_hit {f : Vl → Bool} {es : List Vl} {k : Nat} (h : k < es.length) (hn : ∀ j (hj : j < es.length), j < k → f es[j] = false) (hy : f es[k] = true) : idxV f es = k := by
  induction es generalizing k with
  | nil => cases h
  | cons e l ih =>
    cases k with
    | zero => rw [idxV, if_pos (by exact hy)]; rfl
    | succ k =>
      have h0 := hn 0 (by simp) (by omega)
      have h1 := ih (k := k) (by simpa using h) (fun j hj hjk => hn (j + 1) (by simpa using hj) (by omega)) hy
      replace h0 : f e = false := h0
      rw [idxV, if_neg (by rw [h0]; decide), h1, if_neg (by omega)]
      omega
theorem idxV_miss {f : Vl → Bool} : ∀ {es : List Vl}, (∀ j (hj : j < es.length), f es[j] = false) → idxV f es = -1
  | [], _ => rfl
  | e :: l, h => by
    have h0 : f e = false := h 0 (by simp)
    rw [idxV, if_neg (by rw [h0]; decide), idxV_miss fun j hj => h (j + 1) (by simpa using hj), if_pos rfl]
theorem known_any_eq : ∀ l : List Vl, l.all knownV = !l.any unk
  | [] => rfl
  | e :: l => by rw [List.all_cons, List.any_cons, known_any_eq l, unk]; cases knownV e <;> simp
def KnownOk (a : Vl) : Prop := ∀ (P : Nat → Prop) (w : World) (x : Value), VV P w x a → Calls Try.prog 64 #[x] w (Ret (.bool (knownV a)) w)
set_option maxRecDepth 100000 in
set_option maxHeartbeats 4000000 in
theorem known1_any (a : Vl) (hok : KnownOk a) (P : Nat → Prop) (w : World) (x : Value) (hx : VV P w x a) : Calls Try.prog 75 #[x] w (Ret (.bool (unk a)) w) := by
  obtain ⟨k, n, s, oi, mi, ci, ok, mk, ck, rfl⟩ := hx.agg5
  obtain ⟨hB1, a0, a1, a2, a3, a4⟩ := box5 w (.int .i64 k) (.int .i64 n) (.string s) (.slice oi mi ci) (.slice ok mk ck) 26
  generalize hW : w.alloc (.cells #[.int .i64 k, .int .i64 n, .string s, .slice oi mi ci, .slice ok mk ck] 26) = W at *
  have HW := hid hW
  have HB := hid hB1
  have HC := hid (hok P W _ (hx.bel hB1))
  have HU := hid (show unk a = !knownV a from rfl)
  clear hW hB1 hx hok
  go_enter Try.func75, Try.ntmps75
  go_upto_region 1 with (fail)
  rw [HW.out]
  go_wp2_with fail
  refine HC.out.mono ?_; rintro e w2 ⟨rfl, hb⟩
  have HB2 := hid (HB.out.trans (hb.mono HB.out.size))
  clear hb
  go_wp2_with fail
  go_ret
  exact ⟨by rw [HU.out]; rfl, HB2.out⟩
set_option maxRecDepth 100000 in
set_option maxHeartbeats 4000000 in
theorem indexV_any (P : Nat → Prop) (w : World) (u : Value) (es : List Vl) (hu : WV P w u es)
    (hf : ∀ e ∈ es, KnownOk e) :
    Calls Try.prog 81 #[u, .func (.func 75) #[] #[]] w (Ret (.int .i64 (idxV unk es)) w) := by
  obtain ⟨oa, ca, rfl⟩ := hu.len
  have hla := hu.le
  have HU := hid hu
  have HF := hid hf
  clear hu hf
  go_enter Try.func81, Try.ntmps81
  go_wp2_with fail
  go_loopw [8] (fun i wr => ∃ k : Nat, k ≤ es.length ∧ i = .int .i64 k ∧ Hid (Below w.heap.size w wr) ∧ Hid (∀ j (hj : j < es.length), j < k → unk es[j] = false)) (fun i _ => es.length - (intOf i).toNat)
  case atStart => exact ⟨0, Nat.zero_le _, rfl, hid (Below.refl _ _), hid fun j _ hj => absurd hj (Nat.not_lt_zero _)⟩
  case round =>
    obtain ⟨k, hk, rfl, B, A⟩ := hrel
    by_cases hlt : k < es.length
    · obtain ⟨g1, o1, c1, k1, n1, s1, oi1, mi1, ci1, ok1, mk1, ck1, e1, a1, a2, a3, a4, a5, hT1, -⟩ := (HU.out.bel B.out).at hlt
      cases e1
      have hk0 : (0 : Int) ≤ (k : Int) := by omega
      have hk1 : (k : Int) < (es.length : Int) := by omega
      have hcall := known1_any es[k] (HF.out es[k] (List.getElem_mem hlt)) P wr _ hT1
      have HCall := hid hcall
      clear hcall hT1
      cases hfe : unk es[k] with
      | true =>
        rw [hfe] at HCall
        have HS := hid (idxV_hit hlt A.out hfe)
        clear hfe A
        go_wp2_with fail
        refine HCall.out.mono ?_; rintro e w4 ⟨rfl, hb4⟩
        have HB4 := hid (B.out.trans (hb4.mono B.out.size))
        clear hb4
        go_wp2_with fail
        go_ret
        exact ⟨by rw [HS.out]; rfl, HB4.out⟩
      | false =>
        rw [hfe] at HCall
        have HS : Hid (∀ j (hj : j < es.length), j < k + 1 → unk es[j] = false) := hid fun j hj h => by
          by_cases e : j = k
          · subst e; exact hfe
          · exact A.out j hj (by omega)
        clear hfe A
        go_wp2_with fail
        refine HCall.out.mono ?_; rintro e w4 ⟨rfl, hb4⟩
        have HB4 := hid (B.out.trans (hb4.mono B.out.size))
        clear hb4
        go_wp2_with fail
        go_roundw
        case rel => exact ⟨k + 1, by omega, by go_num, HB4, HS⟩
        case measure => simp [intOf]; omega
    · have hfin := idxV_miss fun j hj => A.out j hj (by omega)
      have HFin := hid hfin
      clear hfin
      go_wp2_with fail
      go_ret
      exact ⟨by rw [HFin.out]; rfl, B.out⟩
set_option maxRecDepth 100000 in
set_option maxHeartbeats 4000000 in
theorem containsV_any (P : Nat → Prop) (w : World) (u : Value) (es : List Vl) (hu : WV P w u es)
    (hf : ∀ e ∈ es, KnownOk e) :
    Calls Try.prog 74 #[u, .func (.func 75) #[] #[]] w (Ret (.bool (es.any unk)) w) := by
  have HI := hid (indexV_any P w u es hu hf)
  obtain ⟨oa, ca, rfl⟩ := hu.len
  have hge : decide (0 ≤ idxV unk es) = es.any unk := by
    rcases idxV_ge unk es with ⟨h1, h2⟩ | ⟨h1, h2⟩
    · rw [h1, h2]; rfl
    · rw [h2]; exact decide_eq_true h1
  have HG := hid hge
  clear hu hf hge
  go_enter Try.func74, Try.ntmps74
  go_wp2_with fail
  refine HI.out.mono ?_; rintro e w2 ⟨rfl, hb⟩
  have HB := hid hb
  clear hb
  go_wp2_with fail
  go_ret
  exact ⟨by rw [← HG.out]; rfl, HB.out⟩
set_option maxRecDepth 100000 in
set_option maxHeartbeats 4000000 in
theorem known_any (a : Vl) : KnownOk a := by
  induction a using Vl.ind with
  | h k n s is ks ih =>
    intro P w x hx
    obtain ⟨vi, vk, rfl, hI, hK, hss⟩ := hx.out
    obtain ⟨oi, ci, rfl⟩ := hI.len
    obtain ⟨ok, ck, rfl⟩ := hK.len
    obtain ⟨hB1, a0, a1, a2, a3, a4⟩ := box5 w (.int .i64 k) (.int .i64 n) (.string s) (.slice oi is.length ci) (.slice ok ks.length ck) 26
    generalize hW : w.alloc (.cells #[.int .i64 k, .int .i64 n, .string s, .slice oi is.length ci, .slice ok ks.length ck] 26) = W at *
    have HW := hid hW
    have HB := hid hB1
    have HC := hid (containsV_any P W _ is (hI.bel hB1) ih)
    have HQ := hid (knownV_eq k n s is ks)
    clear hW hB1 hx ih hI hK
    by_cases hk : k = 6
    · subst hk
      have HP := hid (show knownV (.mk 6 n s is ks) = false by rw [HQ.out]; rfl)
      go_enter Try.func64, Try.ntmps64
      go_upto_region 1 with (fail)
      rw [HW.out]
      go_wp2_with fail
      go_ret
      exact ⟨by rw [HP.out]; rfl, HB.out⟩
    · have f1 : decide (k = 6) = false := decide_eq_false hk
      have f2 : (k == 6) = false := beq_eq_false_iff_ne.2 hk
      have f3 : (k != 6) = true := by rw [bne, f2]; rfl
      have HP := hid (show knownV (.mk k n s is ks) = !is.any unk by rw [HQ.out, known_any_eq, decide_eq_true hk]; rfl)
      clear hk
      go_enter Try.func64, Try.ntmps64
      go_upto_region 1 with (fail)
      rw [HW.out]
      go_wp2_with fail
      refine HC.out.mono ?_; rintro e w2 ⟨rfl, hb⟩
      have HB2 := hid (HB.out.trans (hb.mono HB.out.size))
      clear hb
      go_wp2_with fail
      go_ret
      exact ⟨by rw [HP.out]; rfl, HB2.out⟩
set_option maxRecDepth 100000 in
set_option maxHeartbeats 4000000 in
theorem unknown_any (w : World) : Calls Try.prog 50 #[] w (FreshV unkV w) := by
  have hao := heap_alloc_at w zero5
  have hab : Below w.heap.size w (w.alloc zero5) := (Below.refl _ _).alloc (Nat.le_refl _) _
  generalize hA : w.alloc zero5 = wa at *
  have HA := hid hA
  have HB := hid hab
  have HZ := hid hao
  clear hA hab hao
  have f0 := (cells_in HZ.out 0).trans rfl
  have f1 := (cells_in HZ.out 1).trans rfl
  have f2 := (cells_in HZ.out 2).trans rfl
  have f3 := (cells_in HZ.out 3).trans rfl
  have f4 := (cells_in HZ.out 4).trans rfl
  have fz := frozen_in HZ.out
  go_enter Try.func50, Try.ntmps50
  go_upto_region 1 with (fail)
  rw [HA.out]
  go_wp2_with fail
  try simp only [Exit.inBlock, Exit.then]
  refine bodyPost_ret (v := .agg #[.int .i64 6, .int .i64 0, .string ⟨#[]⟩, .slice none 0 0, .slice none 0 0]) (by simp [results, Try.results50, go_sem, f0, f1, f2, f3, f4]) rfl ?_
  exact ⟨_, rfl, store5_vv (Q := fun g => w.heap.size ≤ g) (VV.mk' (by decide) ⟨⟨by simp, .inl ⟨rfl, _, _, rfl⟩⟩, fun s h => by cases h⟩ (WV.nil (fun g => w.heap.size + 1 ≤ g) _)) (by omega) (fun g hg => by omega) _ _ _ _ _, store5_below HB.out (Nat.le_refl _) (Nat.le_refl _) _ _ _ _ _⟩
end Go.Proofs.Ytibiiafcnaijeaa
