/- steps and the reference's New, with the needs' own cells named. -/
import Derived.Test.YtoaellmjgejgfaaRefF
namespace Go.Proofs.Ytoaellmjgejgfaa
open Go Go.RowKit Go.Shelf
set_option linter.unusedVariables false

/-- The steps with these needs. -/
def SCells (w : World) (v : Value) (n : Nat) (us : List Value) : Prop :=
  (n = 0 ∧ ∃ oa c, v = .slice oa 0 c) ∨ ∃ g o c, v = .slice (some ⟨g, o, none⟩) n c ∧
      ∀ i u, us[i]? = some u → w.cell? ⟨g, o + i * 3, none⟩ = some (.int .i64 0) ∧ w.cell? ⟨g, o + i * 3 + 1, none⟩ = some (.int .i64 0) ∧ w.cell? ⟨g, o + i * 3 + 2, none⟩ = some u
theorem SCells.view {w : World} {v : Value} {ns : List (List Int)} {us : List Value} (h : SCells w v ns.length us) (hl : us.length = ns.length) (hv : ∀ (i : Nat) u l, us[i]? = some u → ns[i]? = some l → View w u l) : SView w v ns :=
  ⟨us, hl, hv, h.imp (fun h => ⟨List.eq_nil_of_length_eq_zero h.1, h.2⟩) id⟩
theorem steps_cells {B : Nat} {w : World} {v : Value} {n : Nat} {us : List Value} (h : Made B w 67 3 v n (flat us)) : SCells w v n us := by
  rcases h.1.2 with ⟨rfl, h0⟩ | ⟨g, cap, cur, rfl, _, hh, _, _, _, ht⟩
  · exact .inl ⟨h0, none, 0, rfl⟩
  · refine .inr ⟨g, 0, cap, rfl, fun i u hu => ?_⟩
    obtain ⟨a1, a2, a3⟩ := flat_at us i u hu
    simp only [Nat.zero_add]
    exact ⟨cells_at hh ht a1, cells_at hh ht a2, cells_at hh ht a3⟩

set_option maxRecDepth 100000 in
set_option maxHeartbeats 1000000 in
theorem steps_us (w : World) (v : Value) (ns : List (List Int)) (vs : List Value) (h1 : CView w v vs) (h2 : vs.length = ns.length) (h3 : ∀ (i : Nat) u l, vs[i]? = some u → ns[i]? = some l → View w u l) (hl : ns.length ≤ 100000) :
    Calls Try.prog 13 #[v] w fun e w' => ∃ v', e = .returned v' ∧ SCells w' v' ns.length vs ∧ Below w.heap.size w w' := by
  obtain ⟨oa, c, hv⟩ := h1.len
  rw [h2] at hv
  subst hv
  have HC := hid h1
  have HL := hid h2
  have HV := hid h3
  clear h1 h2 h3
  go_enter Try.func13, Try.ntmps13
  go_wp2_with fail
  go_loopw [3, 4] (fun o i wr => ∃ k : Nat, k ≤ ns.length ∧ i = .int .i64 k ∧ Hid (Made w.heap.size wr 67 3 o k (flat (vs.take k))) ∧ Hid (Below w.heap.size w wr)) (fun _ i _ => ns.length - (intOf i).toNat)
  case atStart => exact ⟨0, Nat.zero_le _, rfl, hid ⟨World.ownsRow_nil _ _ _ _, fun g hg => by cases hg⟩, hid (Below.refl _ _)⟩
  case round =>
    obtain ⟨k, hk, rfl, M, B⟩ := hrel
    by_cases hlt : k < ns.length
    · obtain ⟨u, hvk⟩ : ∃ u, vs[k]? = some u := ⟨_, List.getElem?_eq_getElem (by rw [HL.out]; exact hlt)⟩
      obtain ⟨g, o, hcell⟩ : ∃ g o, oa = some ⟨g, o, none⟩ ∧ w.cell? ⟨g, o + k, none⟩ = some u := by
        rcases HC.out with ⟨h0, _⟩ | ⟨g, o, c', e, hc⟩
        · have := HL.out; rw [h0] at this; simp at this; omega
        · injection e with e1 e2 e3; exact ⟨g, o, e1, hc k _ hvk⟩
      obtain ⟨rfl, hcell0⟩ := hcell
      have hsn := flat_snoc vs k _ hvk
      have hview := HV.out k _ _ hvk (by rw [List.getElem?_eq_getElem hlt])
      obtain ⟨ou, cu, hu⟩ := hview.len
      generalize ns[k].length = m at hu
      have hcell := Keeps.below B.out _ _ _ hcell0
      rw [hu] at hcell hsn
      have hk0 : (0 : Int) ≤ (k : Int) := by omega
      have hk1 : (k : Int) < (ns.length : Int) := by omega
      have hz : w.heap.size ≤ wr.heap.size := B.out.size
      have Hsn := hid hsn
      clear hvk hcell0 hview hu hsn u
      go_wp2_with (at_builtin; refine app_tag rfl (.tmp 11) (.tmp 17) 29 rfl 67 (.agg #[.int .i64 0, .int .i64 0, .slice none 0 0]) 3 40 Try.underlying29 info67 rfl (by decide) (by decide) _ _ _ M.out.1 rfl [.int .i64 0, .int .i64 0, .slice ou m cu] wr.heap.size rfl rfl rfl (by simp [Value.oneCell']) (by omega) ?_; intro v3 w3 hown3 hc3 hp3 hne3)
      have M3 := M.out.grow hz hown3 hp3
      have B3 := M.out.below (Nat.le_refl _) B.out hc3
      rw [← Hsn.out] at M3
      clear hown3 hc3 hp3 hne3
      go_roundw
      case rel => exact ⟨k + 1, by omega, by go_num, hid M3, hid B3⟩
      case measure => simp [intOf]; omega
    · have hke : k = ns.length := by omega
      go_wp2_with fail
      go_ret
      refine ⟨_, rfl, ?_, B.out⟩
      have hM := M.out
      rw [hke, List.take_of_length_le (by rw [HL.out]; exact Nat.le_refl _)] at hM
      exact steps_cells hM

/-- What the reference's New gives. -/
def RNewUs (us : List Value) (ns : List (List Int)) (limit : Int) (w : World) (e : Ending) (w' : World) : Prop :=
  ∃ v, e = .returned (.tuple #[v, .int .i64 (newCode ns limit)]) ∧ Below w.heap.size w w' ∧
    ((newCode ns limit ≠ 0 ∧ v = zeroR) ∨ (newCode ns limit = 0 ∧ ∃ vn vs, v = .agg #[vn, .int .i64 limit, vs] ∧ CView w' vn us ∧ (∀ g, vn.ownBlock = some g → w.heap.size ≤ g) ∧ Row w' vs (List.replicate ns.length 0) ∧ ∀ g, vs.ownBlock = some g → w.heap.size ≤ g))
theorem rnew_badU {us : List Value} {ns : List (List Int)} {limit c : Int} {w w' : World} (h : newCode ns limit = c) (hc : c ≠ 0) (hb : Below w.heap.size w w') : RNewUs us ns limit w (.returned (.tuple #[zeroR, .int .i64 c])) w' :=
  ⟨_, by rw [h], hb, .inl ⟨by rw [h]; exact hc, rfl⟩⟩

set_option maxRecDepth 100000 in
set_option maxHeartbeats 4000000 in
theorem rnew_us (w : World) (v : Value) (ns : List (List Int)) (us : List Value) (h1 : us.length = ns.length) (h2 : ∀ (i : Nat) u l, us[i]? = some u → ns[i]? = some l → View w u l) (hS : SCells w v ns.length us) (limit : Int) (hl : ns.length ≤ 9223372036854775807) (hll : ∀ j, j < ns.length → (nd ns j).length ≤ 50000) :
    Calls Try.prog 14 #[v, .int .i64 limit] w (RNewUs us ns limit w) := by
  obtain ⟨oa, c, rfl⟩ := (hS.view h1 h2).len
  have h3 := hS
  by_cases hbig : 2048 < ns.length
  · exact (rnew_many oa ns.length c hbig hl limit w).mono fun e w' ⟨h1, h2⟩ => by subst h1; exact rnew_badU (code_many hbig) (by decide) h2
  by_cases hlim : 1 ≤ limit ∧ limit ≤ 64
  case neg => exact (rnew_limit oa ns.length c (by omega) limit hlim w).mono fun e w' ⟨h1, h2⟩ => by subst h1; exact rnew_badU (code_limit (by omega) hlim) (by decide) h2
  have HL := hid h1
  have HVW := hid h2
  have HLL := hid hll
  have hl1 := hlim.1
  have hl2 := hlim.2
  have hnl : ns.length ≤ 2048 := by omega
  have HC : Hid (∀ i, i < ns.length → ∃ g o u, oa = some ⟨g, o, none⟩ ∧ us[i]? = some u ∧ w.cell? ⟨g, o + i * 3 + 2, none⟩ = some u) := by
    intro i hi
    rcases h3 with ⟨h0, _⟩ | ⟨g, o, c', e, hc⟩
    · omega
    · injection e with e1
      have hu : us[i]? = some us[i] := List.getElem?_eq_getElem (by omega)
      exact ⟨g, o, _, e1, hu, (hc i _ hu).2.2⟩
  have B1 := hid ((Below.refl w.heap.size w).alloc (Nat.le_refl _) (.cells #[.slice none 0 0, .int .i64 0, .slice none 0 0] 33))
  have R0 := hid (heap_alloc_at w (.cells #[.slice none 0 0, .int .i64 0, .slice none 0 0] 33))
  have hz : w.heap.size < (w.alloc (.cells #[.slice none 0 0, .int .i64 0, .slice none 0 0] 33)).heap.size := by simp
  clear h1 h2 h3 hS hlim hbig hl hll
  go_enter Try.func14, Try.ntmps14
  go_wp2_with fail
  generalize w.alloc (.cells #[.slice none 0 0, .int .i64 0, .slice none 0 0] 33) = w1 at *
  obtain ⟨r, hr⟩ : ∃ r, r = w.heap.size := ⟨_, rfl⟩
  rw [← hr] at R0 hz
  have Hr := hid hr
  rw [← hr]
  clear hr
  go_loopw [6, 7] (fun o i wr => ∃ k : Nat, k ≤ ns.length ∧ i = .int .i64 k ∧ Hid (Made w1.heap.size wr 31 1 o k (us.take k)) ∧ Hid (Below w1.heap.size w1 wr) ∧ Hid (∀ j, j < k → rightB (nd ns j) j ns.length = true)) (fun _ i _ => ns.length - (intOf i).toNat)
  case atStart => exact ⟨0, Nat.zero_le _, rfl, hid ⟨World.ownsRow_nil _ _ _ _, fun g hg => by cases hg⟩, hid (Below.refl _ _), hid fun j hj => absurd hj (Nat.not_lt_zero _)⟩
  case round =>
    obtain ⟨k, hk, rfl, M, B, A⟩ := hrel
    have hrb : wr.heap[r]? = some (.cells #[.slice none 0 0, .int .i64 0, .slice none 0 0] 33) := (B.out.block r hz).trans R0.out
    have hBw : Below w.heap.size w wr := B1.out.trans (B.out.mono B1.out.size)
    have HBw := hid hBw
    have HRB := hid hrb
    by_cases hlt : k < ns.length
    · obtain ⟨g, o, u, rfl, hu, hcu0⟩ := HC.out k hlt
      have hcu := Keeps.below hBw _ _ _ hcu0
      have hview0 := HVW.out k u (nd ns k) hu (by rw [List.getElem?_eq_getElem hlt, nd, List.getD_eq_getElem?_getD, List.getElem?_eq_getElem hlt]; rfl)
      have hview := hview0.keep (Keeps.below hBw)
      have hvl := HLL.out k hlt
      obtain ⟨ou, cu, rfl⟩ := hview.len
      have htk : us.take (k + 1) = us.take k ++ [.slice ou (nd ns k).length cu] := by
        obtain ⟨hku, hke⟩ := List.getElem?_eq_some_iff.1 hu
        rw [List.take_succ_eq_append_getElem hku, hke]
      have HR := hid (rright_any wr _ (nd ns k) hview hvl k ns.length)
      have hk0 : (0 : Int) ≤ (k : Int) := by omega
      have hk1 : (k : Int) < (ns.length : Int) := by omega
      have HTK := hid htk
      obtain ⟨l, hle⟩ : ∃ l, nd ns k = l := ⟨_, rfl⟩
      rw [hle] at hcu HR HTK hvl
      have HLE := hid hle
      have htl : (us.take k).length = k := by have := HL.out; rw [List.length_take]; omega
      have HTL := hid htl
      clear hcu0 hview0 hview hu htk hle htl hBw hrb
      cases hrr : rightB l k ns.length with
      | false =>
        rw [hrr] at HR
        have HRR := hid hrr
        clear hrr
        have c0 := cells_in HRB.out 0
        have c1 := cells_in HRB.out 1
        have c2 := cells_in HRB.out 2
        simp at c0 c1 c2
        have f0 := fun o => frozen_in HRB.out o
        go_wp2_with fail
        refine HR.out.mono ?_; rintro e w' ⟨rfl, q, rfl⟩
        go_wp2_with fail
        have h3 := three_set (w := wr.drewN q) HRB.out (.slice none 0 0) (.int .i64 0) (.slice none 0 0)
        have b3 := three_below (w := wr.drewN q) (below_drewN HBw.out q) (r := r) (by rw [Hr.out]; exact Nat.le_refl _) (.slice none 0 0) (.int .i64 0) (.slice none 0 0)
        generalize (((wr.drewN q).setCell ⟨r, 0, none⟩ (.slice none 0 0)).setCell ⟨r, 1, none⟩ (.int .i64 0)).setCell ⟨r, 2, none⟩ (.slice none 0 0) = W at *
        have d0 := cells_in h3 0
        have d1 := cells_in h3 1
        have d2 := cells_in h3 2
        simp at d0 d1 d2
        refine bodyPost_ret (v := .tuple #[zeroR, .int .i64 1]) (by simp [results, Try.results14, go_sem, zeroR, d0, d1, d2]) rfl ?_
        exact rnew_badU (code_invalid hnl ⟨hl1, hl2⟩ (not_valid hlt (by rw [HLE.out]; exact HRR.out))) (by decide) b3
      | true =>
        rw [hrr] at HR
        have HRR := hid hrr
        clear hrr
        have hcu2 : ∀ q, (wr.drewN q).cell? ⟨g, o + k * 3 + 2, none⟩ = some (.slice ou l.length cu) := fun q => hcu
        go_wp2_with fail
        refine HR.out.mono ?_; rintro e w' ⟨rfl, q, rfl⟩
        have hz3 : w1.heap.size ≤ (wr.drewN q).heap.size := B.out.size
        have MQ : Made w1.heap.size (wr.drewN q) 31 1 _ k (us.take k) := M.out
        have MH := hid MQ
        have BQ := hid (below_drewN B.out q)
        clear MQ hcu
        have hcu3 := hcu2 q
        clear hcu2
        go_wp2_with (at_builtin; refine app_tag rfl (.tmp 36) (.tmp 42) 22 rfl 31 (.slice none 0 0) 1 24 Try.underlying22 info31 rfl (by decide) (by decide) _ _ _ MH.out.1 rfl [.slice ou l.length cu] wr.heap.size rfl rfl rfl (by simp [Value.oneCell']) (by omega) ?_; intro v3 w3 hown3 hc3 hp3 hne3)
        have M3 := MH.out.grow hz3 hown3 hp3
        have B3 := MH.out.below (Nat.le_refl _) BQ.out hc3
        rw [← HTK.out] at M3
        clear hown3 hc3 hp3 hne3 hcu3
        go_roundw
        case rel =>
          refine ⟨k + 1, by omega, by go_num, hid M3, hid B3, hid fun j hj => ?_⟩
          by_cases e : j = k
          · subst e; rw [HLE.out]; exact HRR.out
          · exact A.out j (by omega)
        case measure => simp [intOf]; omega
    · have hke : k = ns.length := by omega
      subst hke
      have hv := valid_of A.out
      have hM := M.out
      rw [List.take_of_length_le (by rw [HL.out]; exact Nat.le_refl _)] at hM
      have hnv : NView wr u6 ns := ⟨us, made_cview hM, HL.out, fun i u l hu hl => (HVW.out i u l hu hl).keep (Keeps.below hBw)⟩
      obtain ⟨on, cn, hon⟩ := hnv.len
      subst hon
      have ho := ordered_any wr _ ns hnv hv (by omega)
      have HV := hid hv
      have HO := hid ho
      have HNV := hid hnv
      clear hv hM hnv ho hBw hrb
      go_wp2_with fail
      refine HO.out.mono ?_; rintro e w2 ⟨bb, rfl, ht, hb2⟩
      have HT := hid ht
      have HB2 := hid hb2
      have HR2 := hid ((hb2.block r (by have := B.out.size; omega)).trans HRB.out)
      have HN2 := hid (HNV.out.keep (Keeps.below hb2))
      have HBw2 := hid (HBw.out.trans (hb2.mono HBw.out.size))
      clear ht hb2
      cases bb with
      | false =>
        have c0 := cells_in HR2.out 0
        have c1 := cells_in HR2.out 1
        have c2 := cells_in HR2.out 2
        simp at c0 c1 c2
        have f0 := fun o => frozen_in HR2.out o
        go_wp2_with fail
        have h3 := three_set HR2.out (.slice none 0 0) (.int .i64 0) (.slice none 0 0)
        have b3 := three_below HBw2.out (r := r) (by rw [Hr.out]; exact Nat.le_refl _) (.slice none 0 0) (.int .i64 0) (.slice none 0 0)
        generalize ((w2.setCell ⟨r, 0, none⟩ (.slice none 0 0)).setCell ⟨r, 1, none⟩ (.int .i64 0)).setCell ⟨r, 2, none⟩ (.slice none 0 0) = W at *
        have d0 := cells_in h3 0
        have d1 := cells_in h3 1
        have d2 := cells_in h3 2
        simp at d0 d1 d2
        refine bodyPost_ret (v := .tuple #[zeroR, .int .i64 10]) (by simp [results, Try.results14, go_sem, zeroR, d0, d1, d2]) rfl ?_
        exact rnew_badU (code_cycle hnl ⟨hl1, hl2⟩ HV.out (fun h => by have := HT.out.2 h; cases this)) (by decide) b3
      | true =>
        have hm1 := make_ints w2 ns.length (by omega)
        have hrl : r < w2.heap.size := (Array.getElem?_eq_some_iff.1 HR2.out).1
        have c0 := cells_in HR2.out 0
        have c1 := cells_in HR2.out 1
        have c2 := cells_in HR2.out 2
        simp at c0 c1 c2
        have f0 := fun o => frozen_in HR2.out o
        go_wp2_with fail
        have h3 := three_set HR2.out (.slice on ns.length cn) (.int .i64 limit) (.slice (some ⟨w2.heap.size, 0, none⟩) ns.length ns.length)
        have b3 := three_below HBw2.out (r := r) (by rw [Hr.out]; exact Nat.le_refl _) (.slice on ns.length cn) (.int .i64 limit) (.slice (some ⟨w2.heap.size, 0, none⟩) ns.length ns.length)
        have ch3 := (Chg.below (B := fun k => k = r) HB2.out).trans (three_chg w2 r (.slice on ns.length cn) (.int .i64 limit) (.slice (some ⟨w2.heap.size, 0, none⟩) ns.length ns.length))
        have sz : (((w2.setCell ⟨r, 0, none⟩ (.slice on ns.length cn)).setCell ⟨r, 1, none⟩ (.int .i64 limit)).setCell ⟨r, 2, none⟩ (.slice (some ⟨w2.heap.size, 0, none⟩) ns.length ns.length)).heap.size = w2.heap.size := by simp
        generalize ((w2.setCell ⟨r, 0, none⟩ (.slice on ns.length cn)).setCell ⟨r, 1, none⟩ (.int .i64 limit)).setCell ⟨r, 2, none⟩ (.slice (some ⟨w2.heap.size, 0, none⟩) ns.length ns.length) = W at *
        have hba : Below W.heap.size W (W.alloc (.cells (Array.replicate ns.length (.int .i64 0)) 3)) := (Below.refl _ _).alloc (Nat.le_refl _) _
        have hsr := heap_alloc_at W (.cells (Array.replicate ns.length (.int .i64 0)) 3)
        rw [sz] at hsr
        have d0 := Keeps.below hba _ _ _ ((cells_in h3 0).trans rfl)
        have d1 := Keeps.below hba _ _ _ ((cells_in h3 1).trans rfl)
        have d2 := Keeps.below hba _ _ _ ((cells_in h3 2).trans rfl)
        have hM3 := made_keep M.out ch3 (fun k hk => by omega)
        rw [List.take_of_length_le (by rw [HL.out]; exact Nat.le_refl _)] at hM3
        have b4 : Below w.heap.size w (W.alloc (.cells (Array.replicate ns.length (.int .i64 0)) 3)) := b3.trans (hba.mono b3.size)
        have hcv := (made_cview hM3).keep (Keeps.below hba)
        have hsv : Row (W.alloc (.cells (Array.replicate ns.length (.int .i64 0)) 3)) (.slice (some ⟨w2.heap.size, 0, none⟩) ns.length ns.length) (List.replicate ns.length 0) :=
          .inr ⟨w2.heap.size, [], by simp, by rw [hsr]; simp [ints], by simp; omega⟩
        have hwz : w.heap.size ≤ w2.heap.size := HBw2.out.size
        have hg1 : ∀ g, (Value.slice on ns.length cn).ownBlock = some g → w.heap.size ≤ g := fun g hg => by have := hM3.2 g hg; have := Hr.out; omega
        have hcode := code_ok hnl ⟨hl1, hl2⟩ HV.out (HT.out.1 trivial)
        have hpost : RNewUs us ns limit w (.returned (.tuple #[.agg #[.slice on ns.length cn, .int .i64 limit, .slice (some ⟨w2.heap.size, 0, none⟩) ns.length ns.length], .int .i64 0])) (W.alloc (.cells (Array.replicate ns.length (.int .i64 0)) 3)) :=
          ⟨_, by rw [hcode], b4, .inr ⟨hcode, _, _, rfl, hcv, hg1, hsv, fun g hg => by cases hg; exact hwz⟩⟩
        have HP := hid hpost
        clear hpost hcode hcv hsv b4 hM3 hsr h3 b3 ch3
        refine bodyPost_ret (v := .tuple #[.agg #[.slice on ns.length cn, .int .i64 limit, .slice (some ⟨w2.heap.size, 0, none⟩) ns.length ns.length], .int .i64 0]) (by simp [results, Try.results14, go_sem, d0, d1, d2]) rfl ?_
        exact HP.out
end Go.Proofs.Ytoaellmjgejgfaa
