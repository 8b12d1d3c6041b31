/- The reference's all, Ordered. -/
import Derived.Test.YtoaellmjgejgfaaView
import Derived.Test.YtoaellmjgejgfaaSort
namespace Go.Proofs.Ytoaellmjgejgfaa
open Go Go.RowKit Go.Shelf
set_option linter.unusedVariables false

theorem nodup_len : ∀ (m : Nat) (l : List Int), l.Nodup → (∀ y ∈ l, 0 ≤ y ∧ y < m) → l.length ≤ m := by
  intro m
  induction m with
  | zero =>
    intro l _ hr
    cases l with
    | nil => simp
    | cons a l => have := hr a (List.mem_cons_self ..); omega
  | succ m ih =>
    intro l hn hr
    have h1 := ih (l.erase (m : Int)) (hn.erase _) (fun y hy => by
      have := (hn.mem_erase_iff).1 hy
      have := hr y this.2
      omega)
    have h2 := List.length_erase (a := (m : Int)) (l := l)
    split at h2 <;> omega
theorem mem_of_full {m : Nat} {l : List Int} (hn : l.Nodup) (hr : ∀ y ∈ l, 0 ≤ y ∧ y < m) (hl : m ≤ l.length) {n : Nat} (hnm : n < m) : (n : Int) ∈ l := by
  apply Classical.byContradiction
  intro hno
  have := nodup_len m ((n : Int) :: l) (List.nodup_cons.2 ⟨hno, hn⟩) (fun y hy => by rcases List.mem_cons.1 hy with rfl | hy; omega; exact hr y hy)
  simp at this; omega

def allB (st l : List Int) (want : Int) : Bool := l.all fun x => decide (st.getD x.toNat 0 = want)
theorem all_no {st l : List Int} {want : Int} {k : Nat} (hk : k < l.length) (h : st.getD (l.getD k 0).toNat 0 ≠ want) : allB st l want = false := by
  cases hb : allB st l want with
  | false => rfl
  | true =>
    have := List.all_eq_true.1 hb _ (getD_mem hk)
    simp only [decide_eq_true_eq] at this
    exact absurd this h
theorem all_yes {st l : List Int} {want : Int} (h : ∀ j, j < l.length → st.getD (l.getD j 0).toNat 0 = want) : allB st l want = true := by
  refine List.all_eq_true.2 fun x hx => ?_
  obtain ⟨j, hj, rfl⟩ := List.getElem_of_mem hx
  have := h j hj
  rw [List.getD_eq_getElem?_getD, List.getD_eq_getElem?_getD, List.getElem?_eq_getElem hj, Option.getD_some] at this
  rw [List.getD_eq_getElem?_getD]
  exact decide_eq_true this

set_option maxRecDepth 100000 in
set_option maxHeartbeats 1000000 in
theorem all_any2 (w : World) (u v : Value) (st l : List Int) (want : Int) (hu : View w u st) (hv : View w v l) (hst : st.length ≤ 100000) (hl : l.length ≤ 100000) (hr : ∀ x ∈ l, 0 ≤ x ∧ x < st.length) :
    Calls Try.prog 51 #[u, v, .int .i64 want] w fun e w' => e = .returned (.bool (allB st l want)) ∧ w = w' := by
  obtain ⟨oa, ca, rfl⟩ := hu.len
  obtain ⟨ob, cb, rfl⟩ := hv.len
  have HU := hid hu
  have HV := hid hv
  have HR := hid hr
  clear hu hv hr
  go_enter Try.func51, Try.ntmps51
  go_wp2_with fail
  go_loop [7] (fun i => ∃ k : Nat, k ≤ l.length ∧ i = .int .i64 k ∧ Hid (∀ j, j < k → st.getD (l.getD j 0).toNat 0 = want)) (fun i => l.length - (intOf i).toNat)
  case atStart => exact ⟨0, Nat.zero_le _, rfl, hid fun j hj => absurd hj (Nat.not_lt_zero _)⟩
  case round =>
    obtain ⟨k, hk, rfl, A⟩ := hrel
    by_cases hlt : k < l.length
    · obtain ⟨g1, o1, c1, e1, hc1⟩ := HV.out.at hlt
      have hxr := HR.out _ (getD_mem hlt)
      obtain ⟨n, hn⟩ : ∃ n : Nat, l.getD k 0 = n := ⟨(l.getD k 0).toNat, by omega⟩
      have hno := all_no (st := st) (want := want) hlt
      rw [hn] at hc1 hxr hno
      have hnl : n < st.length := by omega
      obtain ⟨g2, o2, c2, e2, hc2⟩ := HU.out.at hnl
      cases e1
      cases e2
      have hk0 : (0 : Int) ≤ (k : Int) := by omega
      have hk1 : (k : Int) < (l.length : Int) := by omega
      have hn0 : (0 : Int) ≤ (n : Int) := by omega
      have hn1 : (n : Int) < (st.length : Int) := by omega
      rw [Int.toNat_natCast] at hno
      have HN := hid hn
      generalize hx : st.getD n 0 = x at *
      have Hno := hid hno
      have HX := hid hx
      clear hno hx hn hxr
      by_cases hxw : x = want
      · subst hxw
        go_wp2_with fail
        go_round
        case rel =>
          refine ⟨k + 1, by omega, by go_num, hid fun j hj => ?_⟩
          by_cases e : j = k
          · subst e; rw [HN.out, Int.toNat_natCast, HX.out]
          · exact A.out j (by omega)
        case measure => simp [intOf]; omega
      · have hb1 : decide (x = want) = false := decide_eq_false hxw
        have hb2 : (x != want) = true := by rw [bne, beq_eq_false_iff_ne.2 hxw]; rfl
        have hb3 : (x == want) = false := beq_eq_false_iff_ne.2 hxw
        have HXW := hid (Hno.out hxw)
        clear hxw
        go_wp2_with fail
        go_ret
        exact ⟨by rw [HXW.out]; rfl, rfl⟩
    · go_wp2_with fail
      go_ret
      exact ⟨by rw [all_yes fun j hj => A.out j (by omega)]; rfl, rfl⟩

/-! Ordered -/
def marks (N : Nat) (ord : List Int) : List Int := (List.range N).map fun n : Nat => if ord.contains (n : Int) then (2 : Int) else 0
theorem marks_length (N : Nat) (ord : List Int) : (marks N ord).length = N := by simp [marks]
theorem marks_nil (N : Nat) : List.replicate N (0 : Int) = marks N [] := by
  unfold marks
  apply List.ext_getElem (by simp)
  intro i h1 h2
  simp
theorem marks_getD {N n : Nat} {ord : List Int} (h : n < N) : (marks N ord).getD n 0 = if ord.contains (n : Int) then 2 else 0 := range_getD N n _ h
theorem marks_set {N n : Nat} {ord : List Int} : (marks N ord).set n 2 = marks N (ord ++ [(n : Int)]) := by
  unfold marks
  rw [range_set]
  apply List.map_congr_left
  intro m _
  by_cases h : m = n
  · subst h; rw [if_pos rfl, if_pos (by simp)]
  · rw [if_neg h]
    congr 1
    rw [List.contains_iff_mem, List.contains_iff_mem, List.mem_append, List.mem_singleton]
    have : ¬ (m : Int) = (n : Int) := by omega
    simp only [this, or_false]
theorem all_marks {N : Nat} {ord l : List Int} (hr : ∀ x ∈ l, 0 ≤ x ∧ x < N) : allB (marks N ord) l 2 = true ↔ ∀ x ∈ l, x ∈ ord := by
  unfold allB
  rw [List.all_eq_true]
  constructor
  · intro h x hx
    have h1 := h x hx
    have h2 := hr x hx
    rw [marks_getD (by omega), decide_eq_true_eq, show ((x.toNat : Nat) : Int) = x by omega] at h1
    split at h1
    · rename_i h3; exact List.contains_iff_mem.1 h3
    · cases h1
  · intro h x hx
    have h2 := hr x hx
    rw [marks_getD (by omega), decide_eq_true_eq, show ((x.toNat : Nat) : Int) = x by omega, if_pos (List.contains_iff_mem.2 (h x hx))]

structure OP (ns : List (List Int)) (ord : List Int) : Prop where
  nodup : ord.Nodup
  rng : ∀ y ∈ ord, 0 ≤ y ∧ y < ns.length
  topo : ∀ k, k < ord.length → ∀ x ∈ nd ns (ord.getD k 0).toNat, x ∈ ord.take k

theorem OP.nil (ns : List (List Int)) : OP ns [] := ⟨List.nodup_nil, fun y hy => (by cases hy), fun k hk => (by cases hk)⟩
theorem OP.length {ns : List (List Int)} {ord : List Int} (h : OP ns ord) : ord.length ≤ ns.length := nodup_len _ _ h.nodup h.rng
theorem OP.add {ns : List (List Int)} {ord : List Int} (h : OP ns ord) {n : Nat} (hn : n < ns.length) (hno : (n : Int) ∉ ord) (hx : ∀ x ∈ nd ns n, x ∈ ord) : OP ns (ord ++ [(n : Int)]) := by
  refine ⟨?_, ?_, ?_⟩
  · rw [List.nodup_append]
    refine ⟨h.nodup, by simp, ?_⟩
    intro a ha b hb e
    simp at hb
    subst e
    exact hno (hb ▸ ha)
  · intro y hy
    rcases List.mem_append.1 hy with hy | hy
    · exact h.rng y hy
    · simp at hy; omega
  · intro k hk x hxx
    rw [List.length_append, List.length_singleton] at hk
    by_cases hk2 : k < ord.length
    · rw [show (ord ++ [(n : Int)]).getD k 0 = ord.getD k 0 by simp [List.getD_eq_getElem?_getD, List.getElem?_append_left hk2]] at hxx
      rw [List.take_append_of_le_length (by omega)]
      exact h.topo k hk2 x hxx
    · have hke : k = ord.length := by omega
      subst hke
      rw [show (ord ++ [(n : Int)]).getD ord.length 0 = n by simp [List.getD_eq_getElem?_getD]] at hxx
      rw [List.take_left' rfl]
      rw [Int.toNat_natCast] at hxx
      exact hx x hxx
theorem OP.topo_of {ns : List (List Int)} {ord : List Int} (h : OP ns ord) (hl : ns.length ≤ ord.length) : Topo ns :=
  ⟨ord, fun n hn => mem_of_full h.nodup h.rng hl hn, h.topo⟩
theorem OP.stuck_of {ns : List (List Int)} {ord : List Int} (h : OP ns ord) (hv : Valid ns) (hl : ord.length < ns.length) (hs : ∀ m : Nat, m < ns.length → (m : Int) ∈ ord ∨ ∃ x ∈ nd ns m, x ∉ ord) : Stuck ns := by
  refine ⟨fun n => (n : Int) ∉ ord, ?_, fun n hn hS => ?_⟩
  · apply Classical.byContradiction
    intro hno
    have hall : ∀ n : Nat, n < ns.length → (n : Int) ∈ ord := fun n hn => Classical.byContradiction fun h => hno ⟨n, hn, h⟩
    have : ((List.range ns.length).map Int.ofNat).length ≤ ord.length := by
      refine List.Nodup.length_le_of_subset ?_ ?_
      · exact List.Pairwise.map _ (fun a b (h : a ≠ b) e => h (Int.ofNat.inj e)) (List.nodup_iff_pairwise_ne.1 List.nodup_range)
      · intro y hy
        simp only [List.mem_map, List.mem_range] at hy
        obtain ⟨n, hn, rfl⟩ := hy
        exact hall n hn
    simp at this
    omega
  · rcases hs n hn with h1 | ⟨x, hx, hxo⟩
    · exact absurd h1 hS
    · have hr := (hv n hn).2 x hx
      exact ⟨x.toNat, by omega, by rwa [show ((x.toNat : Nat) : Int) = x by omega], by show ¬ ((x.toNat : Nat) : Int) ∈ ord; rwa [show ((x.toNat : Nat) : Int) = x by omega]⟩

/-- Ordered's inner loop: those that were asked are done, or lack something; unless something was added. -/
def Asked (ns : List (List Int)) (ord : List Int) (b n : Nat) : Prop := b ≤ ord.length ∧ (ord.length = b → ∀ m : Nat, m < n → (m : Int) ∈ ord ∨ ∃ x ∈ nd ns m, x ∉ ord)

def OrdPost (ns : List (List Int)) (w : World) (e : Ending) (w' : World) : Prop := ∃ bb, e = .returned (.bool bb) ∧ (bb = true ↔ Topo ns) ∧ Below w.heap.size w w'

theorem ord_fin {ns : List (List Int)} {ord : List Int} {w w' : World} (hv : Valid ns) (h : OP ns ord) (hb : Below w.heap.size w w') (hs : ord.length = ns.length ∨ ∀ m : Nat, m < ns.length → (m : Int) ∈ ord ∨ ∃ x ∈ nd ns m, x ∉ ord) :
    OrdPost ns w (.returned (.bool (decide ((ord.length : Int) = ns.length)))) w' := by
  refine ⟨_, rfl, ?_, hb⟩
  rw [decide_eq_true_eq]
  have hle := h.length
  constructor
  · intro e
    exact h.topo_of (by omega)
  · intro ht
    apply Classical.byContradiction
    intro hne
    rcases hs with hs | hs
    · omega
    · exact not_both ht (h.stuck_of hv (by omega) hs)

theorem asked_step {ns : List (List Int)} {ord : List Int} {b n : Nat} (h : Asked ns ord b n) (hn : (n : Int) ∈ ord ∨ ∃ x ∈ nd ns n, x ∉ ord) : Asked ns ord b (n + 1) :=
  ⟨h.1, fun e m hm => by
    by_cases e2 : m = n
    · subst e2; exact hn
    · exact h.2 e m (by omega)⟩
theorem row_view {w : World} {L N : Nat} {st : List Int} (h : w.heap[L]? = some (.cells (ints st).toArray 3)) (hl : st.length = N) (c : Nat) : View w (.slice (some ⟨L, 0, none⟩) N c) st := by
  refine .inr ⟨L, 0, c, by rw [List.length_map, hl], fun i u hu => ?_⟩
  rw [Nat.zero_add, cells_in h]
  simpa using hu

set_option maxRecDepth 100000 in
set_option maxHeartbeats 4000000 in
theorem ordered_any (w : World) (v : Value) (ns : List (List Int)) (hN : NView w v ns) (hv : Valid ns) (hl : ns.length ≤ 50000) :
    Calls Try.prog 37 #[v] w (OrdPost ns w) := by
  obtain ⟨oa, c, rfl⟩ := hN.len
  have hm1 := fun w => make_ints w ns.length (by omega)
  have h0 : (w.alloc (.cells (Array.replicate ns.length (.int .i64 0)) 3)).heap[w.heap.size]? = some (.cells (ints (marks ns.length [])).toArray 3) := by
    rw [heap_alloc_at w _, ← marks_nil]
    simp [ints]
  have H0 := hid h0
  have B0 := hid ((Below.refl w.heap.size w).alloc (Nat.le_refl _) (.cells (Array.replicate ns.length (.int .i64 0)) 3))
  have HN := hid hN
  have HV := hid hv
  clear hN hv h0
  go_enter Try.func37, Try.ntmps37
  go_wp2_with fail
  clear hm1
  generalize hL : w.heap.size = L at *
  have HL := hid hL
  clear hL
  generalize w.alloc (.cells (Array.replicate ns.length (.int .i64 0)) 3) = w1 at *
  go_loopw [4, 5] (fun d r wr => ∃ (rr : Nat) (ord : List Int), rr ≤ ns.length ∧ r = .int .i64 rr ∧ d = .int .i64 ord.length ∧ rr ≤ ord.length ∧ ord.length ≤ ns.length ∧ Hid (OP ns ord) ∧ Hid (wr.heap[L]? = some (.cells (ints (marks ns.length ord)).toArray 3)) ∧ Hid (Below L w wr)) (fun _ r _ => ns.length - (intOf r).toNat)
  case atStart => exact ⟨0, [], Nat.zero_le _, rfl, rfl, Nat.le_refl _, Nat.zero_le _, hid (OP.nil ns), H0, B0⟩
  case round =>
    obtain ⟨rr, ord, hr, rfl, rfl, hro, hol, O, C, B⟩ := hrel
    clear H0 B0
    by_cases hlt : rr < ns.length
    · go_wp2_with fail
      obtain ⟨wo, rfl⟩ : ∃ wo, wo = wr := ⟨_, rfl⟩
      go_loopw [4, 7] (fun d n wr => ∃ (nn : Nat) (ord' : List Int), nn ≤ ns.length ∧ n = .int .i64 nn ∧ d = .int .i64 ord'.length ∧ ord'.length ≤ ns.length ∧ Hid (OP ns ord') ∧ Hid (Asked ns ord' ord.length nn) ∧ Hid (wr.heap[L]? = some (.cells (ints (marks ns.length ord')).toArray 3)) ∧ Hid (Below L w wr)) (fun _ n _ => ns.length - (intOf n).toNat)
      case atStart => exact ⟨0, ord, Nat.zero_le _, rfl, rfl, hol, O, hid ⟨Nat.le_refl _, fun _ m hm => absurd hm (Nat.not_lt_zero _)⟩, C, B⟩
      case round =>
        obtain ⟨nn, ord', hnn, rfl, rfl, hol', O', A', C', B'⟩ := hrel
        clear C B
        by_cases hnl : nn < ns.length
        · have hcell : wr.cell? ⟨L, nn, none⟩ = some (.int .i64 ((marks ns.length ord').getD nn 0)) := by
            rw [cells_in C'.out, List.getElem?_toArray, List.getElem?_map, List.getElem?_eq_getElem (by rw [marks_length]; exact hnl), List.getD_eq_getElem?_getD, List.getElem?_eq_getElem (by rw [marks_length]; exact hnl)]; rfl
          have hfr : wr.frozen? ⟨L, nn, none⟩ = false := frozen_in C'.out _
          rw [marks_getD hnl] at hcell
          have hn0 : (0 : Int) ≤ (nn : Int) := by omega
          have hn1 : (nn : Int) < (ns.length : Int) := by omega
          cases hm : ord'.contains (nn : Int) with
          | true =>
            rw [hm, if_pos rfl] at hcell
            have hmem := List.contains_iff_mem.1 hm
            have AS := hid (asked_step A'.out (.inl hmem))
            clear hm hmem
            go_wp2_with fail
            go_roundw
            case rel => exact ⟨nn + 1, ord', by omega, by go_num, rfl, hol', O', AS, C', B'⟩
            case measure => simp [intOf]; omega
          | false =>
            rw [hm, if_neg (by simp)] at hcell
            have hno : ¬ (nn : Int) ∈ ord' := fun h => by rw [List.contains_iff_mem.2 h] at hm; cases hm
            obtain ⟨g, o, c2, u, hv2, hcu0, hview⟩ := HN.out.at hnl
            cases hv2
            have hlw : w.heap.size = L := HL.out
            have BL : Below w.heap.size w wr := by rw [hlw]; exact B'.out
            have hcu := Keeps.below BL _ _ _ hcu0
            have hvw := hview.keep (Keeps.below BL)
            obtain ⟨ou, cu, rfl⟩ := hview.len
            have hvk := HV.out nn hnl
            have hra := fun x hx => (hvk.2 x hx)
            have hal := all_any2 wr _ _ (marks ns.length ord') (nd ns nn) 2 (row_view C'.out (marks_length _ _) ns.length) hvw (by rw [marks_length]; omega) (Nat.le_trans (valid_len HV.out hnl) (by omega)) (fun x hx => by rw [marks_length]; have := hra x hx; omega)
            have ham := all_marks (N := ns.length) (ord := ord') (l := nd ns nn) (fun x hx => by have := hra x hx; omega)
            have hst : (wr.setCell ⟨L, nn, none⟩ (.int .i64 2)).heap[L]? = some (.cells (ints (marks ns.length (ord' ++ [(nn : Int)]))).toArray 3) := by
              rw [obj_set C'.out, List.setIfInBounds_toArray, ← marks_set]
              simp [ints, List.map_set]
            have HST := hid hst
            have BS : Hid (Below L w (wr.setCell ⟨L, nn, none⟩ (.int .i64 2))) := hid (B'.out.setCell (show L ≤ L from Nat.le_refl _) _)
            cases hb : allB (marks ns.length ord') (nd ns nn) 2 with
            | true =>
              rw [hb] at hal ham
              have OA := hid (O'.out.add hnl hno (ham.1 rfl))
              have hl2 := OA.out.length
              have AS : Hid (Asked ns (ord' ++ [(nn : Int)]) ord.length (nn + 1)) := hid ⟨by have := A'.out.1; simp; omega, fun e => by have := A'.out.1; simp at e; omega⟩
              have Hal := hid hal
              generalize nd ns nn = l at *
              have HX := hid ham
              have HVk := hid hvk
              have HB := hid hb
              clear hal ham hst hb hvw hview hcu0 hra hm hvk BL hlw
              rw [List.length_append, List.length_singleton] at hl2
              go_wp2_with fail
              refine Hal.out.mono ?_; rintro e w' ⟨rfl, rfl⟩
              go_wp2_with fail
              go_roundw
              case rel => exact ⟨nn + 1, ord' ++ [(nn : Int)], by omega, by go_num, by rw [List.length_append, List.length_singleton]; go_num, by rw [List.length_append, List.length_singleton]; exact hl2, OA, AS, HST, BS⟩
              case measure => simp [intOf]; omega
            | false =>
              rw [hb] at hal ham
              have hex : ∃ x ∈ nd ns nn, x ∉ ord' := Classical.byContradiction fun h => by
                have := ham.2 (fun x hx => Classical.byContradiction fun h2 => h ⟨x, hx, h2⟩)
                cases this
              have AS := hid (asked_step A'.out (.inr hex))
              have Hal := hid hal
              generalize nd ns nn = l at *
              have HB := hid hb
              clear hal ham hst hb hvw hview hcu0 hra hm hvk hex BL hlw
              go_wp2_with fail
              refine Hal.out.mono ?_; rintro e w' ⟨rfl, rfl⟩
              go_wp2_with fail
              go_roundw
              case rel => exact ⟨nn + 1, ord', by omega, by go_num, rfl, hol', O', AS, C', B'⟩
              case measure => simp [intOf]; omega
        · have hne : nn = ns.length := by omega
          have hAsk := A'.out
          rw [hne] at hAsk
          have HA := hid hAsk
          have hge := hAsk.1
          clear hAsk
          by_cases hd : ord'.length = ord.length
          · have hfin := ord_fin HV.out O'.out (by rw [HL.out]; exact B'.out) (.inr (HA.out.2 hd))
            have HF := hid hfin
            have hd1 : decide ((ord'.length : Int) = (ord.length : Int)) = true := decide_eq_true (by omega)
            have hd2 : ((ord'.length : Int) == (ord.length : Int)) = true := beq_iff_eq.2 (by omega)
            have HD := hid hd
            clear hfin hd
            go_wp2_with fail
            go_ret
            exact HF.out
          · have hd1 : decide ((ord'.length : Int) = (ord.length : Int)) = false := decide_eq_false (by omega)
            have hd2 : ((ord'.length : Int) == (ord.length : Int)) = false := beq_eq_false_iff_ne.2 (by omega)
            go_wp2_with fail
            go_roundw
            case rel => exact ⟨rr + 1, ord', by omega, by go_num, rfl, by omega, hol', O', C', B'⟩
            case measure => simp [intOf]; omega
    · have hfin := ord_fin HV.out O.out (by rw [HL.out]; exact B.out) (.inl (by omega))
      have HF := hid hfin
      clear hfin
      go_wp2_with fail
      go_ret
      exact HF.out
end Go.Proofs.Ytoaellmjgejgfaa
