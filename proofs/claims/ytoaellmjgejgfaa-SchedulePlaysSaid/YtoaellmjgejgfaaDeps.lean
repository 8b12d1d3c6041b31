/- The reference's Dependents. -/
import Derived.Test.YtoaellmjgejgfaaInv2
import Derived.Test.YtoaellmjgejgfaaRefNew
namespace Go.Proofs.Ytoaellmjgejgfaa
open Go Go.RowKit Go.Shelf
set_option linter.unusedVariables false

abbrev bools (l : List Bool) : List Value := l.map Value.bool
theorem info4 : (Try.prog.info? 4).map (fun i => (i.zero, i.size, i.bytes)) = some (some (.bool false), 1, 1) := by kernel_rfl
theorem make_bools (w : World) (n : Nat) (hn : n ≤ 1000000) : (Instr.makeSlice 76 (.int .i64 (n : Int)) (.int .i64 (n : Int))).run Try.prog w =
    .ok (.slice (some ⟨w.heap.size, 0, none⟩) n n) (w.alloc (.cells (Array.replicate n (.bool false)) 4)) := by
  obtain ⟨i, hi, hz, hs, hb⟩ := info_parts info4
  have := run_make (P := Try.prog) w 76 4 i _ Try.underlying76 hi hz .i64 .i64 n n (by omega) (Int.le_refl _) (by rw [hb]; omega) (by omega)
  rw [this, hs]
  simp only [Int.toNat_natCast, Nat.mul_one]
  congr 3
  apply Array.ext'
  simp [madeCells, Value.cells, Nat.mod_one, List.map_const']

def onL (N : Nat) (D : List Int) : List Bool := (List.range N).map fun n : Nat => D.contains (n : Int)
theorem onL_length (N : Nat) (D : List Int) : (onL N D).length = N := by simp [onL]
theorem onL_nil (N : Nat) : List.replicate N false = onL N [] := by
  unfold onL
  apply List.ext_getElem (by simp)
  intro i h1 h2
  simp
theorem onL_get {N n : Nat} {D : List Int} (h : n < N) : (bools (onL N D))[n]? = some (.bool (D.contains (n : Int))) := by
  rw [List.getElem?_map]
  unfold onL
  rw [List.getElem?_map, List.getElem?_range h]; rfl
theorem onL_set {N n : Nat} {D : List Int} : (bools (onL N D)).set n (.bool true) = bools (onL N (D ++ [(n : Int)])) := by
  apply List.ext_getElem (by simp [onL])
  intro i h1 h2
  rw [List.getElem_set]
  by_cases h : n = i
  · subst h
    rw [if_pos rfl]
    simp [onL]
  · rw [if_neg h]
    have hne : ¬ (i : Int) = (n : Int) := by omega
    simp only [bools, onL, List.map_map, List.getElem_map, List.getElem_range, Function.comp]
    congr 1
    rw [Bool.eq_iff_iff, List.contains_iff_mem, List.contains_iff_mem, List.mem_append, List.mem_singleton]
    simp only [hne, or_false]

/-- What Dependents' rounds keep. -/
structure DP (ns : List (List Int)) (n : Int) (D : List Int) : Prop where
  nodup : D.Nodup
  rng : ∀ y ∈ D, 0 ≤ y ∧ y < ns.length
  dep : ∀ y ∈ D, Dep ns n y
theorem DP.nil (ns : List (List Int)) (n : Int) : DP ns n [] := ⟨List.nodup_nil, fun y hy => (by cases hy), fun y hy => (by cases hy)⟩
theorem DP.length {ns : List (List Int)} {n : Int} {D : List Int} (h : DP ns n D) : D.length ≤ ns.length := nodup_len _ _ h.nodup h.rng
theorem DP.add {ns : List (List Int)} {n : Int} {D : List Int} (h : DP ns n D) {i : Nat} (hi : i < ns.length) (hno : (i : Int) ∉ D) {x : Int} (hx : x ∈ nd ns i) (hd : x = n ∨ x ∈ D) : DP ns n (D ++ [(i : Int)]) := by
  refine ⟨?_, ?_, ?_⟩
  · rw [List.nodup_append]
    refine ⟨h.nodup, by simp, ?_⟩
    intro a ha b hb e
    simp at hb
    subst e
    exact hno (hb ▸ ha)
  · intro y hy
    rcases List.mem_append.1 hy with hy | hy
    · exact h.rng y hy
    · simp at hy; omega
  · intro y hy
    rcases List.mem_append.1 hy with hy | hy
    · exact h.dep y hy
    · have : y = (i : Int) := by simpa using hy
      subst this
      rcases hd with rfl | hd
      · exact .base (by rw [Int.toNat_natCast]; exact hx)
      · exact .step (by rw [Int.toNat_natCast]; exact hx) (h.dep x hd)

def Closed (ns : List (List Int)) (n : Int) (D : List Int) : Prop := ∀ m, m < ns.length → ∀ x ∈ nd ns m, (x = n ∨ x ∈ D) → (m : Int) ∈ D
def AskedD (ns : List (List Int)) (n : Int) (D : List Int) (b i k : Nat) : Prop :=
  b ≤ D.length ∧ (D.length = b → (∀ m, m < i → ∀ x ∈ nd ns m, (x = n ∨ x ∈ D) → (m : Int) ∈ D) ∧ ∀ x ∈ (nd ns i).take k, (x = n ∨ x ∈ D) → (i : Int) ∈ D)

theorem DP.all {ns : List (List Int)} {n : Int} {D : List Int} (h : DP ns n D) (hv : Valid ns) (hc : Closed ns n D) {y : Int} (h0 : 0 ≤ y) (h1 : y < ns.length) : y ∈ D ↔ Dep ns n y := by
  refine ⟨h.dep y, fun hd => ?_⟩
  have key : ∀ {y}, Dep ns n y → 0 ≤ y → y < ns.length → y ∈ D := by
    intro y hd
    induction hd with
    | @base y hx =>
      intro h0 h1
      have := hc y.toNat (by omega) n hx (.inl rfl)
      rwa [show ((y.toNat : Nat) : Int) = y by omega] at this
    | @step y z hz _ ih =>
      intro h0 h1
      have hr := (hv y.toNat (by omega)).2 z hz
      have := hc y.toNat (by omega) z hz (.inr (ih hr.1 hr.2.1))
      rwa [show ((y.toNat : Nat) : Int) = y by omega] at this
  exact key hd h0 h1
theorem DP.closed_of_full {ns : List (List Int)} {n : Int} {D : List Int} (h : DP ns n D) (hl : ns.length ≤ D.length) : Closed ns n D := fun m hm _ _ _ => mem_of_full h.nodup h.rng hl hm

theorem asked_skip {ns : List (List Int)} {n : Int} {D : List Int} {b i k : Nat} (h : AskedD ns n D b i k) (hk : k < (nd ns i).length) (hs : ((nd ns i).getD k 0 = n ∨ (nd ns i).getD k 0 ∈ D) → (i : Int) ∈ D) : AskedD ns n D b i (k + 1) := by
  refine ⟨h.1, fun e => ⟨(h.2 e).1, fun x hx hd => ?_⟩⟩
  rw [take_snoc _ hk] at hx
  rcases List.mem_append.1 hx with hx | hx
  · exact (h.2 e).2 x hx hd
  · have : x = (nd ns i).getD k 0 := by simpa using hx
    subst this
    exact hs hd
theorem asked_add {ns : List (List Int)} {n : Int} {D : List Int} {b i k : Nat} (h : AskedD ns n D b i k) (y : Int) (j : Nat) : AskedD ns n (D ++ [y]) b i j := by
  have := h.1
  exact ⟨by simp; omega, fun e => by simp at e; omega⟩
theorem asked_row {ns : List (List Int)} {n : Int} {D : List Int} {b i : Nat} (h : AskedD ns n D b i (nd ns i).length) : AskedD ns n D b (i + 1) 0 := by
  refine ⟨h.1, fun e => ⟨fun m hm x hx hd => ?_, fun x hx => by simp at hx⟩⟩
  by_cases e2 : m = i
  · subst e2
    exact (h.2 e).2 x (by rw [List.take_length]; exact hx) hd
  · exact (h.2 e).1 m (by omega) x hx hd

/-- The members of D in ascending order. -/
def depOut (D : List Int) (k : Nat) : List Int := ((List.range k).filter fun i : Nat => D.contains (i : Int)).map Int.ofNat
theorem depOut_succ (D : List Int) (k : Nat) : depOut D (k + 1) = depOut D k ++ if D.contains (k : Int) then [(k : Int)] else [] := by
  unfold depOut
  rw [List.range_succ, List.filter_append, List.map_append]
  congr 1
  by_cases h : D.contains (k : Int) = true
  · rw [if_pos h]; simp only [List.filter_cons, h, if_true, List.filter_nil]; rfl
  · rw [if_neg h]; simp only [List.filter_cons, h, List.filter_nil]; rfl
theorem mem_depOut {D : List Int} {k : Nat} {y : Int} : y ∈ depOut D k ↔ 0 ≤ y ∧ y < k ∧ y ∈ D := by
  unfold depOut
  simp only [List.mem_map, List.mem_filter, List.mem_range, List.contains_iff_mem]
  constructor
  · rintro ⟨m, ⟨h1, h2⟩, rfl⟩
    exact ⟨by show (0 : Int) ≤ (m : Int); omega, by show (m : Int) < k; omega, h2⟩
  · rintro ⟨h1, h2, h3⟩
    refine ⟨y.toNat, ⟨by omega, ?_⟩, by show ((y.toNat : Nat) : Int) = y; omega⟩
    rwa [show ((y.toNat : Nat) : Int) = y by omega]
theorem depOut_sorted (D : List Int) (k : Nat) : Sorted (depOut D k) := by
  unfold depOut
  refine List.Pairwise.map _ (fun a b (h : a < b) => ?_) (List.Pairwise.filter _ List.pairwise_lt_range)
  show (a : Int) < (b : Int)
  omega
theorem depOut_length (D : List Int) (k : Nat) : (depOut D k).length ≤ k := by
  unfold depOut
  rw [List.length_map]
  exact Nat.le_trans (List.length_filter_le _ _) (by simp)

def DepPost (ns : List (List Int)) (n : Int) (w : World) (e : Ending) (w' : World) : Prop :=
  ∃ v' l, e = .returned v' ∧ Row w' v' l ∧ Sorted l ∧ (∀ y, y ∈ l ↔ 0 ≤ y ∧ y < ns.length ∧ Dep ns n y) ∧ Below w.heap.size w w' ∧ ∀ g, v'.ownBlock = some g → w.heap.size ≤ g

set_option maxRecDepth 100000 in
set_option maxHeartbeats 8000000 in
theorem deps_any (w : World) (v : Value) (ns : List (List Int)) (n : Int) (hN : NView w v ns) (hv : Valid ns) (hl : ns.length ≤ 50000) :
    Calls Try.prog 22 #[v, .int .i64 n] w (DepPost ns n w) := by
  obtain ⟨oa, c, rfl⟩ := hN.len
  have hm1 := fun w => make_bools w ns.length (by omega)
  have h0 : (w.alloc (.cells (Array.replicate ns.length (.bool false)) 4)).heap[w.heap.size]? = some (.cells (bools (onL ns.length [])).toArray 4) := by
    rw [heap_alloc_at w _, ← onL_nil]
    simp [bools]
  have H0 := hid h0
  have B0 := hid ((Below.refl w.heap.size w).alloc (Nat.le_refl _) (.cells (Array.replicate ns.length (.bool false)) 4))
  have HN := hid hN
  have HV := hid hv
  clear hN hv h0
  go_enter Try.func22, Try.ntmps22
  go_wp2_with fail
  clear hm1
  generalize hL : w.heap.size = L at *
  have HL := hid hL
  clear hL
  generalize w.alloc (.cells (Array.replicate ns.length (.bool false)) 4) = w1 at *
  go_loopw [6] (fun r wr => ∃ (rr : Nat) (D : List Int), rr ≤ ns.length ∧ r = .int .i64 rr ∧ rr ≤ D.length ∧ D.length ≤ ns.length ∧ Hid (DP ns n D) ∧ Hid (wr.heap[L]? = some (.cells (bools (onL ns.length D)).toArray 4)) ∧ Hid (Below L w wr)) (fun r _ => ns.length - (intOf r).toNat)
  case atStart => exact ⟨0, [], Nat.zero_le _, rfl, Nat.le_refl _, Nat.zero_le _, hid (DP.nil ns n), H0, B0⟩
  case round =>
    obtain ⟨rr, D, hr, rfl, hro, hol, O, C, B⟩ := hrel
    clear H0 B0
    by_cases hlt : rr < ns.length
    · go_wp2_with fail
      obtain ⟨wo, rfl⟩ : ∃ wo, wo = wr := ⟨_, rfl⟩
      go_loopw [7, 8] (fun mo i wr => ∃ (ii : Nat) (D' : List Int), ii ≤ ns.length ∧ i = .int .i64 ii ∧ mo = .bool (decide (D.length < D'.length)) ∧ D'.length ≤ ns.length ∧ Hid (DP ns n D') ∧ Hid (AskedD ns n D' D.length ii 0) ∧ Hid (wr.heap[L]? = some (.cells (bools (onL ns.length D')).toArray 4)) ∧ Hid (Below L w wr)) (fun _ i _ => ns.length - (intOf i).toNat)
      case atStart => exact ⟨0, D, Nat.zero_le _, rfl, by simp, hol, O, hid ⟨Nat.le_refl _, fun _ => ⟨fun m hm => absurd hm (Nat.not_lt_zero _), fun x hx => by simp at hx⟩⟩, C, B⟩
      case round =>
        obtain ⟨ii, D', hii, rfl, rfl, hol', O', A', C', B'⟩ := hrel
        clear C B
        by_cases hil : ii < ns.length
        · have hi0 : (0 : Int) ≤ (ii : Int) := by omega
          have hi1 : (ii : Int) < (ns.length : Int) := by omega
          obtain ⟨g, o, c2, u, hv2, hcu0, hview⟩ := HN.out.at hil
          cases hv2
          obtain ⟨ou, cu, rfl⟩ := hview.len
          have HCU := hid hcu0
          have HVW := hid hview
          have hlk := valid_len HV.out hil
          have hvk := HV.out ii hil
          have HVK := hid hvk
          clear hcu0 hview hvk
          go_wp2_with fail
          obtain ⟨wo2, rfl⟩ : ∃ wo, wo = wr := ⟨_, rfl⟩
          go_loopw [7, 9] (fun mo k wr => ∃ (kk : Nat) (D2 : List Int), kk ≤ (nd ns ii).length ∧ k = .int .i64 kk ∧ mo = .bool (decide (D.length < D2.length)) ∧ D2.length ≤ ns.length ∧ Hid (DP ns n D2) ∧ Hid (AskedD ns n D2 D.length ii kk) ∧ Hid (wr.heap[L]? = some (.cells (bools (onL ns.length D2)).toArray 4)) ∧ Hid (Below L w wr)) (fun _ k _ => (nd ns ii).length - (intOf k).toNat)
          case atStart => exact ⟨0, D', Nat.zero_le _, rfl, rfl, hol', O', A', C', B'⟩
          case round =>
            obtain ⟨kk, D2, hkk, rfl, rfl, hol2, O2, A2, C2, B2⟩ := hrel
            clear C' B'
            have BL : Below w.heap.size w wr := by rw [HL.out]; exact B2.out
            have hcu := Keeps.below BL _ _ _ HCU.out
            have hvw := HVW.out.keep (Keeps.below BL)
            clear BL
            by_cases hkl : kk < (nd ns ii).length
            · have hcell : wr.cell? ⟨L, ii, none⟩ = some (.bool (D2.contains (ii : Int))) := by
                rw [cells_in C2.out, List.getElem?_toArray]; exact onL_get hil
              have hfr : wr.frozen? ⟨L, ii, none⟩ = false := frozen_in C2.out _
              have hkk0 : (0 : Int) ≤ (kk : Int) := by omega
              have hkk1 : (kk : Int) < ((nd ns ii).length : Int) := by omega
              cases hm : D2.contains (ii : Int) with
              | true =>
                rw [hm] at hcell
                have AS := hid (asked_skip A2.out hkl (fun _ => List.contains_iff_mem.1 hm))
                clear hm hvw
                generalize nd ns ii = l at *
                go_wp2_with fail
                go_roundw
                case rel => exact ⟨kk + 1, D2, by omega, by go_num, rfl, hol2, O2, AS, C2, B2⟩
                case measure => simp [intOf]; omega
              | false =>
                rw [hm] at hcell
                have hno : ¬ (ii : Int) ∈ D2 := fun h => by rw [List.contains_iff_mem.2 h] at hm; cases hm
                obtain ⟨g9, o9, c9, hv9, hc9⟩ := hvw.at hkl
                cases hv9
                have hxm := getD_mem hkl
                have hxr := HVK.out.2 _ hxm
                have hskip := asked_skip A2.out hkl
                obtain ⟨xn, hxn⟩ : ∃ xn : Nat, (nd ns ii).getD kk 0 = xn := ⟨((nd ns ii).getD kk 0).toNat, by omega⟩
                rw [hxn] at hc9 hxm hxr hskip
                have hst : (wr.setCell ⟨L, ii, none⟩ (.bool true)).heap[L]? = some (.cells (bools (onL ns.length (D2 ++ [(ii : Int)]))).toArray 4) := by
                  rw [obj_set C2.out, List.setIfInBounds_toArray, onL_set]
                have HST := hid hst
                have BS : Hid (Below L w (wr.setCell ⟨L, ii, none⟩ (.bool true))) := hid (B2.out.setCell (show L ≤ L from Nat.le_refl _) _)
                have AS := hid (asked_add A2.out (ii : Int) (kk + 1))
                have hbd := A2.out.1
                have hadd := fun hd => O2.out.add hil hno hxm hd
                have HAdd := hid hadd
                have HSkip := hid hskip
                have hx0 : (0 : Int) ≤ (xn : Int) := by omega
                have hx1 : (xn : Int) < (ns.length : Int) := by omega
                have hcx : wr.cell? ⟨L, xn, none⟩ = some (.bool (D2.contains (xn : Int))) := by
                  rw [cells_in C2.out, List.getElem?_toArray]; exact onL_get (by omega)
                clear hm hvw hno hxm hxr hskip hst hadd hxn
                generalize nd ns ii = l at *
                by_cases hxn2 : (xn : Int) = n
                · have DA := hid (HAdd.out (.inl hxn2))
                  have hl2 := DA.out.length
                  rw [List.length_append, List.length_singleton] at hl2
                  have hd1 : decide ((xn : Int) = n) = true := decide_eq_true hxn2
                  have hd2 : ((xn : Int) == n) = true := beq_iff_eq.2 hxn2
                  clear hxn2 hcx
                  go_wp2_with fail
                  go_roundw
                  case rel => exact ⟨kk + 1, D2 ++ [(ii : Int)], by omega, by go_num, by rw [decide_eq_true (by simp; omega)], by simp; omega, DA, AS, HST, BS⟩
                  case measure => simp [intOf]; omega
                · have hd1 : decide ((xn : Int) = n) = false := decide_eq_false hxn2
                  have hd2 : ((xn : Int) == n) = false := beq_eq_false_iff_ne.2 hxn2
                  have HXN := hid hxn2
                  clear hxn2
                  cases hmx : D2.contains (xn : Int) with
                  | true =>
                    rw [hmx] at hcx
                    have DA := hid (HAdd.out (.inr (List.contains_iff_mem.1 hmx)))
                    have hl2 := DA.out.length
                    rw [List.length_append, List.length_singleton] at hl2
                    clear hmx
                    go_wp2_with fail
                    go_roundw
                    case rel => exact ⟨kk + 1, D2 ++ [(ii : Int)], by omega, by go_num, by rw [decide_eq_true (by simp; omega)], by simp; omega, DA, AS, HST, BS⟩
                    case measure => simp [intOf]; omega
                  | false =>
                    rw [hmx] at hcx
                    have AK := hid (HSkip.out (fun h => h.elim (fun e => absurd e HXN.out) (fun e => by rw [List.contains_iff_mem.2 e] at hmx; cases hmx)))
                    clear hmx
                    go_wp2_with fail
                    go_roundw
                    case rel => exact ⟨kk + 1, D2, by omega, by go_num, rfl, hol2, O2, AK, C2, B2⟩
                    case measure => simp [intOf]; omega
            · have hke : kk = (nd ns ii).length := by omega
              have hA := A2.out
              rw [hke] at hA
              have AR := hid (asked_row hA)
              clear hA hvw
              generalize (nd ns ii).length = lk at *
              go_wp2_with fail
              go_roundw
              case rel => exact ⟨ii + 1, D2, by omega, by go_num, rfl, hol2, O2, AR, C2, B2⟩
              case measure => simp [intOf]; omega
        · have hie : ii = ns.length := by omega
          have hA := A'.out
          rw [hie] at hA
          have hge := hA.1
          by_cases hd : D.length < D'.length
          · have hd1 : decide (D.length < D'.length) = true := decide_eq_true hd
            clear hA
            go_wp2_with fail
            go_roundw
            case rel => exact ⟨rr + 1, D', by omega, by go_num, by omega, hol', O', C', B'⟩
            case measure => simp [intOf]; omega
          · have hd1 : decide (D.length < D'.length) = false := decide_eq_false hd
            have CLe := hid (show Closed ns n D' from (hA.2 (by omega)).1)
            have DPe := O'
            have Ce := C'
            have Be := B'
            clear hA O' C' B' A' hd
            obtain ⟨De, hDe⟩ : ∃ De, De = D' := ⟨_, rfl⟩
            rw [← hDe] at CLe DPe Ce
            clear hDe
            obtain ⟨wE, hwE⟩ : ∃ wE, wE = wr := ⟨_, rfl⟩
            rw [← hwE] at Ce Be
            rw [← hwE]
            clear hwE
            go_wp2_with fail
            go_loopw [10, 11] (fun o i wr => ∃ k : Nat, k ≤ ns.length ∧ i = .int .i64 k ∧ Hid (Made wE.heap.size wr 3 1 o (depOut De k).length (ints (depOut De k))) ∧ Hid (Below wE.heap.size wE wr)) (fun _ i _ => ns.length - (intOf i).toNat)
            case atStart => exact ⟨0, Nat.zero_le _, rfl, hid ⟨World.ownsRow_nil _ _ _ _, fun g hg => by cases hg⟩, hid (Below.refl _ _)⟩
            case round =>
              obtain ⟨k, hk, rfl, M, B4⟩ := hrel
              by_cases hlt : k < ns.length
              · have hLE : L < wE.heap.size := (Array.getElem?_eq_some_iff.1 Ce.out).1
                have hcL := (B4.out.block L hLE).trans Ce.out
                have hcell : wr.cell? ⟨L, k, none⟩ = some (.bool (De.contains (k : Int))) := by
                  rw [cells_in hcL, List.getElem?_toArray]; exact onL_get hlt
                have hk0 : (0 : Int) ≤ (k : Int) := by omega
                have hk1 : (k : Int) < (ns.length : Int) := by omega
                have hz : wE.heap.size ≤ wr.heap.size := B4.out.size
                have hol := depOut_length De k
                have hsc := depOut_succ De k
                cases hm : De.contains (k : Int) with
                | true =>
                  rw [hm] at hcell hsc
                  have HSC := hid hsc
                  clear hm hsc hcL hLE
                  go_wp2_with (at_builtin; refine app_tag rfl (.tmp 79) (.tmp 81) 31 rfl 3 (.int .i64 0) 1 8 Try.underlying31 info3 rfl (by decide) (by decide) _ _ _ M.out.1 rfl [.int .i64 k] wr.heap.size rfl rfl rfl (by simp [Value.oneCell']) (by omega) ?_; intro v3 w3 hown3 hc3 hp3 hne3)
                  have M3 := M.out.grow hz hown3 hp3
                  have B3 := M.out.below (Nat.le_refl _) B4.out hc3
                  clear hown3 hc3 hp3 hne3 hcell
                  go_roundw
                  case rel =>
                    refine ⟨k + 1, by omega, by go_num, hid ?_, hid B3⟩
                    rw [HSC.out]
                    simp only [if_true]
                    have e1 : ints (depOut De k ++ [(k : Int)]) = ints (depOut De k) ++ [.int .i64 k] := by simp [ints]
                    rw [e1, List.length_append]
                    exact M3
                  case measure => simp [intOf]; omega
                | false =>
                  rw [hm] at hcell hsc
                  have HSC := hid hsc
                  clear hm hsc hcL hLE
                  go_wp2_with fail
                  go_roundw
                  case rel =>
                    refine ⟨k + 1, by omega, by go_num, hid ?_, B4⟩
                    rw [HSC.out, if_neg (by simp), List.append_nil]
                    exact M.out
                  case measure => simp [intOf]; omega
              · have hke : k = ns.length := by omega
                subst hke
                go_wp2_with fail
                go_ret
                refine ⟨_, _, rfl, Row.of_owns M.out.1 rfl, depOut_sorted _ _, fun y => ?_, ?_, fun g hg => ?_⟩
                · rw [mem_depOut]
                  constructor
                  · rintro ⟨h1, h2, h3⟩
                    exact ⟨h1, h2, (DPe.out.all HV.out CLe.out h1 h2).1 h3⟩
                  · rintro ⟨h1, h2, h3⟩
                    exact ⟨h1, h2, (DPe.out.all HV.out CLe.out h1 h2).2 h3⟩
                · rw [HL.out]
                  exact Be.out.trans (B4.out.mono (by have h1 := Be.out.size; have h2 := HL.out; omega))
                · have h1 := M.out.2 g hg
                  have h2 := Be.out.size
                  omega
    · have CLe := hid (O.out.closed_of_full (by omega))
      have DPe := O
      have Ce := C
      have Be := B
      clear O C B
      obtain ⟨De, hDe⟩ : ∃ De, De = D := ⟨_, rfl⟩
      rw [← hDe] at CLe DPe Ce
      clear hDe
      obtain ⟨wE, hwE⟩ : ∃ wE, wE = wr := ⟨_, rfl⟩
      rw [← hwE] at Ce Be
      rw [← hwE]
      clear hwE
      go_wp2_with fail
      go_loopw [10, 11] (fun o i wr => ∃ k : Nat, k ≤ ns.length ∧ i = .int .i64 k ∧ Hid (Made wE.heap.size wr 3 1 o (depOut De k).length (ints (depOut De k))) ∧ Hid (Below wE.heap.size wE wr)) (fun _ i _ => ns.length - (intOf i).toNat)
      case atStart => exact ⟨0, Nat.zero_le _, rfl, hid ⟨World.ownsRow_nil _ _ _ _, fun g hg => by cases hg⟩, hid (Below.refl _ _)⟩
      case round =>
        obtain ⟨k, hk, rfl, M, B4⟩ := hrel
        by_cases hlt : k < ns.length
        · have hLE : L < wE.heap.size := (Array.getElem?_eq_some_iff.1 Ce.out).1
          have hcL := (B4.out.block L hLE).trans Ce.out
          have hcell : wr.cell? ⟨L, k, none⟩ = some (.bool (De.contains (k : Int))) := by
            rw [cells_in hcL, List.getElem?_toArray]; exact onL_get hlt
          have hk0 : (0 : Int) ≤ (k : Int) := by omega
          have hk1 : (k : Int) < (ns.length : Int) := by omega
          have hz : wE.heap.size ≤ wr.heap.size := B4.out.size
          have hol := depOut_length De k
          have hsc := depOut_succ De k
          cases hm : De.contains (k : Int) with
          | true =>
            rw [hm] at hcell hsc
            have HSC := hid hsc
            clear hm hsc hcL hLE
            go_wp2_with (at_builtin; refine app_tag rfl (.tmp 79) (.tmp 81) 31 rfl 3 (.int .i64 0) 1 8 Try.underlying31 info3 rfl (by decide) (by decide) _ _ _ M.out.1 rfl [.int .i64 k] wr.heap.size rfl rfl rfl (by simp [Value.oneCell']) (by omega) ?_; intro v3 w3 hown3 hc3 hp3 hne3)
            have M3 := M.out.grow hz hown3 hp3
            have B3 := M.out.below (Nat.le_refl _) B4.out hc3
            clear hown3 hc3 hp3 hne3 hcell
            go_roundw
            case rel =>
              refine ⟨k + 1, by omega, by go_num, hid ?_, hid B3⟩
              rw [HSC.out]
              simp only [if_true]
              have e1 : ints (depOut De k ++ [(k : Int)]) = ints (depOut De k) ++ [.int .i64 k] := by simp [ints]
              rw [e1, List.length_append]
              exact M3
            case measure => simp [intOf]; omega
          | false =>
            rw [hm] at hcell hsc
            have HSC := hid hsc
            clear hm hsc hcL hLE
            go_wp2_with fail
            go_roundw
            case rel =>
              refine ⟨k + 1, by omega, by go_num, hid ?_, B4⟩
              rw [HSC.out, if_neg (by simp), List.append_nil]
              exact M.out
            case measure => simp [intOf]; omega
        · have hke : k = ns.length := by omega
          subst hke
          go_wp2_with fail
          go_ret
          refine ⟨_, _, rfl, Row.of_owns M.out.1 rfl, depOut_sorted _ _, fun y => ?_, ?_, fun g hg => ?_⟩
          · rw [mem_depOut]
            constructor
            · rintro ⟨h1, h2, h3⟩
              exact ⟨h1, h2, (DPe.out.all HV.out CLe.out h1 h2).1 h3⟩
            · rintro ⟨h1, h2, h3⟩
              exact ⟨h1, h2, (DPe.out.all HV.out CLe.out h1 h2).2 h3⟩
          · rw [HL.out]
            exact Be.out.trans (B4.out.mono (by have h1 := Be.out.size; have h2 := HL.out; omega))
          · have h1 := M.out.2 g hg
            have h2 := Be.out.size
            omega
end Go.Proofs.Ytoaellmjgejgfaa
