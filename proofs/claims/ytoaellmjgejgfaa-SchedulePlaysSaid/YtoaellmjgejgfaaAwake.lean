/- awake. -/
import Derived.Test.YtoaellmjgejgfaaLive
import Derived.Test.YtoaellmjgejgfaaNew
namespace Go.Proofs.Ytoaellmjgejgfaa
open Go Go.RowKit Go.Shelf Go.Proofs.Ytoaellmjgejgfaa.Steady
set_option linter.unusedVariables false

def ns0 : List (List Int) := [[], [0], [0, 1]]
def needsW (w : World) : World :=
  ((w.alloc (.cells #[.int .i64 0] 3)).alloc (.cells #[.int .i64 0, .int .i64 1] 3)).alloc (.cells #[.slice none 0 0, .slice (some ⟨w.heap.size, 0, none⟩) 1 1, .slice (some ⟨w.heap.size + 1, 0, none⟩) 2 2] 31)

theorem needs_view (w : World) : NView (needsW w) (.slice (some ⟨w.heap.size + 2, 0, none⟩) 3 3) ns0 := by
  have s1 : (w.alloc (.cells #[.int .i64 0] 3)).heap.size = w.heap.size + 1 := by simp
  have s2 : ((w.alloc (.cells #[.int .i64 0] 3)).alloc (.cells #[.int .i64 0, .int .i64 1] 3)).heap.size = w.heap.size + 2 := by simp
  have c0 := heap_alloc_at w (.cells #[.int .i64 0] 3)
  have c1 := heap_alloc_at (w.alloc (.cells #[.int .i64 0] 3)) (.cells #[.int .i64 0, .int .i64 1] 3)
  have c2 := heap_alloc_at ((w.alloc (.cells #[.int .i64 0] 3)).alloc (.cells #[.int .i64 0, .int .i64 1] 3)) (.cells #[.slice none 0 0, .slice (some ⟨w.heap.size, 0, none⟩) 1 1, .slice (some ⟨w.heap.size + 1, 0, none⟩) 2 2] 31)
  rw [s1] at c1
  rw [s2] at c2
  have k1 : (needsW w).heap[w.heap.size]? = some (.cells #[.int .i64 0] 3) := by
    unfold needsW
    exact (heap_alloc_old _ _ (r := w.heap.size) (by rw [s2]; omega)).trans ((heap_alloc_old _ _ (by rw [s1]; omega)).trans c0)
  have k2 : (needsW w).heap[w.heap.size + 1]? = some (.cells #[.int .i64 0, .int .i64 1] 3) := by
    unfold needsW
    exact (heap_alloc_old _ _ (r := w.heap.size + 1) (by rw [s2]; omega)).trans c1
  have k3 : (needsW w).heap[w.heap.size + 2]? = some (.cells #[.slice none 0 0, .slice (some ⟨w.heap.size, 0, none⟩) 1 1, .slice (some ⟨w.heap.size + 1, 0, none⟩) 2 2] 31) := c2
  refine ⟨[.slice none 0 0, .slice (some ⟨w.heap.size, 0, none⟩) 1 1, .slice (some ⟨w.heap.size + 1, 0, none⟩) 2 2], .inr ⟨w.heap.size + 2, 0, 3, rfl, fun i u hu => ?_⟩, rfl, ?_⟩
  · rw [cells_in k3]
    simpa using hu
  · intro i u l hu hl
    have hi : i < 3 := (List.getElem?_eq_some_iff.1 hu).1
    match i, hi with
    | 0, _ => cases hu; cases hl; exact .inl ⟨rfl, none, 0, rfl⟩
    | 1, _ => cases hu; cases hl; exact .inr ⟨w.heap.size, 0, 1, rfl, fun j x hx => by rw [cells_in k1]; simpa using hx⟩
    | 2, _ => cases hu; cases hl; exact .inr ⟨w.heap.size + 1, 0, 2, rfl, fun j x hx => by rw [cells_in k2]; simpa using hx⟩

theorem valid0 : Valid ns0 := by
  intro n hn
  have hn : n < 3 := hn
  match n, hn with
  | 0, _ => exact ⟨List.Pairwise.nil, fun x hx => by cases hx⟩
  | 1, _ => exact ⟨List.pairwise_singleton _ _, fun x hx => by simp [nd, ns0] at hx; subst hx; decide⟩
  | 2, _ =>
    refine ⟨?_, fun x hx => ?_⟩
    · show Sorted [0, 1]
      unfold Sorted; decide
    · have hx : x ∈ [0, 1] := hx
      simp at hx
      rcases hx with rfl | rfl <;> decide
theorem topo0 : Topo ns0 := by
  refine ⟨[0, 1, 2], fun n hn => ?_, fun k hk x hx => ?_⟩
  · have hn : n < 3 := hn
    match n, hn with
    | 0, _ => decide
    | 1, _ => decide
    | 2, _ => decide
  · have hk : k < 3 := hk
    match k, hk with
    | 0, _ => cases hx
    | 1, _ => exact hx
    | 2, _ => exact hx
theorem order0 {order : List Int} (h : OrdSpec ns0 order) (hl : order.length = 3) : order = [0, 1, 2] := by
  match order, hl with
  | [a, b, c], _ =>
    have ra := h.rng a (by simp)
    have rb := h.rng b (by simp)
    have rc := h.rng c (by simp)
    have hno := h.nodup
    simp at hno
    have t0 := h.topo 0 (by simp)
    have t1 := h.topo 1 (by simp)
    have e3 : (ns0.length : Int) = 3 := rfl
    rw [e3] at ra rb rc
    simp at t0 t1
    have ha : a = 0 := by
      rcases (by omega : a = 0 ∨ a = 1 ∨ a = 2) with rfl | rfl | rfl
      · rfl
      · exact absurd (t0 0 (by decide)) (by simp)
      · exact absurd (t0 0 (by decide)) (by simp)
    subst ha
    have hb : b = 1 := by
      rcases (by omega : b = 0 ∨ b = 1 ∨ b = 2) with rfl | rfl | rfl
      · exact absurd rfl hno.1.1
      · rfl
      · exact absurd (t1 1 (by decide)) (by decide)
    subst hb
    have hc : c = 2 := by omega
    subst hc
    rfl

def sA0 : St := ⟨ns0, [0, 1, 2], 2, [0, 1, 2], [], [], [], []⟩
def sA1 : St := ⟨ns0, [0, 1, 2], 2, [1, 2], [0], [], [], []⟩
def sA2 : St := ⟨ns0, [0, 1, 2], 2, [1, 2], [], [0], [], []⟩
def sA3 : St := ⟨ns0, [0, 1, 2], 2, [2], [1], [0], [], []⟩
def sA4 : St := ⟨ns0, [0, 1, 2], 2, [], [], [0], [1], [2]⟩
theorem eA1 : beginS sA0 0 = (0, sA1) := by kernel_rfl
theorem eA2 : finishS sA1 0 = (0, sA2) := by kernel_rfl
theorem eA3 : beginS sA2 1 = (0, sA3) := by kernel_rfl
theorem eA4 : failS sA3 1 = (0, sA4, [2]) := by kernel_rfl
theorem rA0 : readyL sA0 = [0] := by kernel_rfl

def BOOL (B : Nat) (w : World) (e : Ending) (w' : World) : Prop := e = .returned (.bool true) ∧ Below B w w'

theorem good_stNew {ns : List (List Int)} {order : List Int} {limit : Int} (hn : ns.length ≤ 2048) (hl : ∀ j, j < ns.length → (nd ns j).length ≤ 50000) (ho : OrdSpec ns order) : Good (stNew ns order limit) := by
  have h := good_stN ns limit ns.length ns.length (Nat.le_refl _) (Nat.le_refl _) hn hl
  have e : stN ns limit ns.length ns.length = stNew ns [] limit := by unfold stN stNew; rw [List.take_length]
  rw [e] at h
  exact { h with lo := (by have h1 := ho.len; show order.length ≤ 50000; omega), ro := ho.rng }

theorem live_new {ns : List (List Int)} {limit : Int} {w w' : World} {b : Nat} {own : Nat → Nat} {order : List Int} (hn : ns.length ≤ 2048) (hl : ∀ j, j < ns.length → (nd ns j).length ≤ 50000) (hb : Below w.heap.size w w') (hs : Sch own w' b (stNew ns order limit)) (ho : OrdSpec ns order) (h1 : 1 ≤ limit) (hlow : ∀ k, k < w.heap.size → own k = 0) : Live w.heap.size w own w' b (stNew ns order limit) :=
  ⟨hs, good_stNew hn hl ho, by show limit ≠ 0; omega, hlow, Nat.le_refl _, hb⟩

theorem new0 (w : World) (v : Value) (hS : SView w v ns0) : Calls Try.prog 12 #[v, .int .i64 2] w fun e w' => ∃ b own, e = .returned (.tuple #[.pointer (some ⟨b, 0, none⟩), .int .i64 0]) ∧ Live w.heap.size w own w' b sA0 := by
  refine (new_any w v ns0 hS 2 (by decide) (fun j hj => ?_)).mono ?_
  · have hj : j < 3 := hj
    match j, hj with
    | 0, _ => decide
    | 1, _ => decide
    | 2, _ => decide
  · rintro e w' (⟨c, hc, h1, _⟩ | ⟨b, own, order, h1, rfl, h2, h3, h4, h5, h6, h7, h8, h9, h10⟩)
    · rw [code_ok (by decide) (by decide) valid0 topo0] at h1
      exact absurd h1.symm hc
    · have he : order = [0, 1, 2] := order0 h4 h5
      subst he
      exact ⟨b, own, rfl, live_new (by decide) (fun j hj => (by
        have hj : j < 3 := hj
        match j, hj with
        | 0, _ => decide
        | 1, _ => decide
        | 2, _ => decide)) h2 h3 h4 h7 h9⟩

/-- A one-element slice that the law makes. -/
theorem one_view (w : World) (x : Int) : View (w.alloc (.cells #[.int .i64 x] 3)) (.slice (some ⟨w.heap.size, 0, none⟩) 1 1) [x] :=
  .inr ⟨w.heap.size, 0, 1, rfl, fun j u hu => by rw [cells_in (heap_alloc_at w _)]; simpa using hu⟩

set_option maxRecDepth 100000 in
set_option maxHeartbeats 4000000 in
theorem awake_any (w : World) : Calls Try.prog 11 #[] w (BOOL w.heap.size w) := by
  have hst := steps_any (needsW w) _ ns0 (needs_view w) (by decide)
  have hB : Below w.heap.size w (needsW w) := (((Below.refl _ _).alloc (Nat.le_refl _) _).alloc (by simp) _).alloc (by simp; omega) _
  have Hst := hid hst
  have HB := hid hB
  clear hst hB
  go_enter Try.func11, Try.ntmps11
  go_wp2_with fail
  refine Hst.out.mono ?_
  rintro e wa ⟨v', rfl, hS, hb⟩
  have HS := hid hS
  have BA := hid (HB.out.trans (hb.mono HB.out.size))
  clear hS hb HB Hst
  go_wp2_with fail
  refine (new0 wa v' HS.out).mono ?_
  rintro e w0 ⟨b, own0, rfl, L'⟩
  have L0 := hid L'
  have BB := hid (Nat.le_refl wa.heap.size)
  clear L'
  go_wp2_with fail
  refine (L0.out.ready).mono ?_
  rintro e w1 ⟨r, own1, rfl, L', ho', hc', rv⟩
  have L1 := hid L'
  obtain ⟨oa, ca, rfl⟩ := row_len rv.1
  have RV := hid rv
  have LR := L'.grow ((Below.refl _ _).alloc (Nat.le_refl _) (.cells #[.int .i64 0] 3)) 0
  have Lg := hid LR
  have hview := rv.1.view.keep (Keeps.below ((Below.refl w1.heap.size w1).alloc (Nat.le_refl _) (.cells #[.int .i64 0] 3)))
  have HV := hid hview
  clear rv LR hview
  clear L' ho' hc'
  rw [rA0] at RV HV
  go_wp2_with fail
  refine (same_any _ _ _ [0] [0] HV.out (one_view _ 0) (by decide) (by decide)).mono ?_
  rintro e w2 ⟨rfl, q, rfl⟩
  have L2 := hid (Lg.out.drewN q)
  clear Lg HV RV L1 L0 HS
  have hd : decide (([0] : List Int) = [0]) = true := rfl
  have hcall := L2.out.begin_ 0
  rw [eA1] at hcall
  have HCall := hid hcall
  clear hcall
  go_wp2_with fail
  refine HCall.out.mono ?_
  rintro e w3 ⟨r, own3, rfl, L', ho', hc', rfl⟩
  have L3 := hid L'
  clear L' ho' hc' HCall L2
  have hcall := L3.out.finish 0
  rw [eA2] at hcall
  have HCall := hid hcall
  clear hcall
  go_wp2_with fail
  refine HCall.out.mono ?_
  rintro e w4 ⟨r, own4, rfl, L', ho', hc', rfl⟩
  have L4 := hid L'
  clear L' ho' hc' HCall L3
  have hcall := L4.out.begin_ 1
  rw [eA3] at hcall
  have HCall := hid hcall
  clear hcall
  go_wp2_with fail
  refine HCall.out.mono ?_
  rintro e w5 ⟨r, own5, rfl, L', ho', hc', rfl⟩
  have L5 := hid L'
  clear L' ho' hc' HCall L4
  have hcall := L5.out.fail 1
  rw [eA4] at hcall
  have HCall := hid hcall
  clear hcall
  go_wp2_with fail
  refine HCall.out.mono ?_
  rintro e w6 ⟨r, own6, rfl, L', ho', hc', ⟨vf, rfl, rv⟩⟩
  have L6 := hid L'
  obtain ⟨of, cf, rfl⟩ := row_len rv.1
  have RV := hid rv
  clear rv
  clear L' ho' hc' HCall L5
  have hcall := L6.out.count
  have HCall := hid hcall
  clear hcall
  go_wp2_with fail
  refine HCall.out.mono ?_
  rintro e w7 ⟨r, own7, rfl, L', ho', hc', rfl⟩
  have L7 := hid L'
  have RV7 := hid (RV.out.keep hc' (fun k _ h => (fun e => h.1 e)) ho')
  clear RV
  clear L' ho' hc' HCall L6
  go_wp2_with fail
  have RV8 := hid (RV7.out.1.view.keep (Keeps.below ((Below.refl w7.heap.size w7).alloc (Nat.le_refl _) (.cells #[.int .i64 2] 3))))
  have L8 := hid (L7.out.grow ((Below.refl _ _).alloc (Nat.le_refl _) (.cells #[.int .i64 2] 3)) 0)
  clear RV7 L7
  refine (same_any _ _ _ [2] [2] RV8.out (one_view _ 2) (by decide) (by decide)).mono ?_
  rintro e w9 ⟨rfl, q9, rfl⟩
  have L9 := hid (L8.out.drewN q9)
  have hd9 : decide (([2] : List Int) = [2]) = true := rfl
  clear RV8 L8
  have hcall := L9.out.done
  have HCall := hid hcall
  clear hcall
  go_wp2_with fail
  refine HCall.out.mono ?_
  rintro e w10 ⟨r, own10, rfl, L', ho', hc', rfl⟩
  have L10 := hid L'
  have hd10 : decide (sA4.wt.length + sA4.rn.length = 0) = true := rfl
  clear L' ho' hc' HCall L9
  go_wp2_with fail
  go_ret
  refine ⟨rfl, BA.out.trans (L10.out.below.mono BA.out.size)⟩
end Go.Proofs.Ytoaellmjgejgfaa
