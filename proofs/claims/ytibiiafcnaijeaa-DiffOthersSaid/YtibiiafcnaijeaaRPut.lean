/- Put of the reference of values. -/
import Derived.Test.YtibiiafcnaijeaaRGet
import Derived.Test.YtibiiafcnaijeaaPr
namespace Go.Proofs.Ytibiiafcnaijeaa
open Go Go.RowKit Go.Proofs.Ytibiiafcnaijeaa.Steady
set_option linter.unusedVariables false
set_option linter.unusedSimpArgs false

abbrev map0 : Obj := .cells #[.int .i64 5, .int .i64 0, .string ⟨#[]⟩, .slice none 0 0, .slice none 0 0] 26
/-- The map that is being made lies in block n0 + 3; its keys and items are rows of the call's own. -/
structure RP (P : Nat → Prop) (n0 : Nat) (w2 wr : World) (vi vk : Value) (is : List Vl) (ks : List ByteArray) : Prop where
  hP : ∀ g, P g → g < n0
  sz : w2.heap.size = n0 + 4
  chg : Chg (fun k => k = n0 + 3) w2 wr
  obj : wr.heap[n0 + 3]? = some (.cells #[.int .i64 5, .int .i64 0, .string ⟨#[]⟩, vi, vk] 26)
  items : OwnW (n0 + 4) (n0 + 3) P wr vi is
  row : Row wr vk ks
  rown : ∀ g, vk.ownBlock = some g → n0 + 4 ≤ g ∧ vi.ownBlock ≠ some g
  str : ∀ s ∈ ks, s.size ≤ 140737488355328
section
variable {P : Nat → Prop} {n0 : Nat} {w2 wr w' w'' : World} {vi vk vi' vk' : Value} {is is' : List Vl} {ks ks' : List ByteArray}
theorem RP.lt (h : RP P n0 w2 wr vi vk is ks) : n0 + 3 < wr.heap.size := by have := h.sz; have := h.chg.size; omega
theorem RP.kX (h : RP P n0 w2 wr vi vk is ks) : ¬ vk.ownBlock = some (n0 + 3) := fun e => by have := (h.rown _ e).1; omega
theorem RP.iX (h : RP P n0 w2 wr vi vk is ks) : ¬ vi.ownBlock = some (n0 + 3) := fun e => by have := (h.items.block e).1; omega
theorem RP.pushK (h : RP P n0 w2 wr vi vk is ks) (hr : Row w' vk' ks') (hs : ∀ s ∈ ks', s.size ≤ 140737488355328) (hp : vk'.ownBlock = vk.ownBlock ∨ ∃ g, vk'.ownBlock = some g ∧ wr.heap.size ≤ g) (hc : Chg (fun g => vk.ownBlock = some g) wr w') (c2 : Chg (fun k => k = n0 + 3) w' w'')
    (ho : w''.heap[n0 + 3]? = some (.cells #[.int .i64 5, .int .i64 0, .string ⟨#[]⟩, vi, vk'] 26)) : RP P n0 w2 w'' vi vk' is ks' := by
  have hl := h.lt
  have hnew : ∀ g, vk'.ownBlock = some g → vk.ownBlock = some g ∨ wr.heap.size ≤ g := fun g e => by
    rcases hp with h1 | ⟨g', h1, h2⟩
    · exact .inl (h1 ▸ e)
    · rw [h1] at e; cases e; exact .inr h2
  have i1 := h.items.chgP (Q := P) hc (fun g e e2 => (h.rown g e2).2 e) (fun g hg _ _ e => by have := (h.rown g e).1; have := h.hP g hg; omega) (fun g hg _ => hg)
  refine ⟨h.hP, h.sz, chg_step (chg_step h.chg hc fun k e => .inr (by have := (h.rown k e).1; have := h.sz; omega)) c2 fun k e => .inl e, ho, i1.chgP c2 (fun g e e2 => by have := (h.items.block e).1; omega) (fun g hg _ _ e => by have := h.hP g hg; omega) (fun g hg _ => hg), hr.chg c2 (fun g e e2 => ?_), fun g e => ?_, hs⟩
  · rcases hnew g e with h1 | h1
    · have := (h.rown g h1).1; omega
    · omega
  · rcases hnew g e with h1 | h1
    · exact h.rown g h1
    · exact ⟨by omega, fun e2 => by have := (h.items.block e2).2; omega⟩
theorem RP.pushI (h : RP P n0 w2 wr vi vk is ks) (hr : OwnW (n0 + 4) (n0 + 3) P w' vi' is') (hp : vi'.ownBlock = vi.ownBlock ∨ ∃ g, vi'.ownBlock = some g ∧ wr.heap.size ≤ g) (hc : Chg (fun g => vi.ownBlock = some g) wr w') (c2 : Chg (fun k => k = n0 + 3) w' w'')
    (ho : w''.heap[n0 + 3]? = some (.cells #[.int .i64 5, .int .i64 0, .string ⟨#[]⟩, vi', vk] 26)) : RP P n0 w2 w'' vi' vk is' ks := by
  have hl := h.lt
  have hiX : ∀ g, vi.ownBlock = some g → n0 + 4 ≤ g := fun g e => (h.items.block e).1
  have hnew : ∀ g, vi'.ownBlock = some g → vi.ownBlock = some g ∨ wr.heap.size ≤ g := fun g e => by
    rcases hp with h1 | ⟨g', h1, h2⟩
    · exact .inl (h1 ▸ e)
    · rw [h1] at e; cases e; exact .inr h2
  refine ⟨h.hP, h.sz, chg_step (chg_step h.chg hc fun k e => .inr (by have := hiX k e; have := h.sz; omega)) c2 fun k e => .inl e, ho, hr.chgP c2 (fun g e e2 => ?_) (fun g hg _ _ e => by have := h.hP g hg; omega) (fun g hg _ => hg), (h.row.chg hc fun g e e2 => (h.rown g e).2 e2).chg c2 (fun g e e2 => by have := (h.rown g e).1; omega), fun g e => ⟨(h.rown g e).1, fun e2 => ?_⟩, h.str⟩
  · rcases hnew g e with h1 | h1
    · have := hiX g h1; omega
    · omega
  · rcases hnew g e2 with h1 | h1
    · exact (h.rown g e).2 h1
    · have := h.row.lt e; omega
theorem RP.old (h : RP P n0 w2 wr vi vk is ks) {b : Nat} {o : Obj} (hb : b < n0 + 3) (ho : w2.heap[b]? = some o) : wr.heap[b]? = some o := (h.chg.block b (by have := h.sz; omega) (by omega)).trans ho
theorem RP.vv (h : RP P n0 w2 wr vi vk is ks) {q : Value} {t : Vl} (hv : VV P w2 q t) : VV P wr q t := hv.keep (KeepsP.chg h.chg fun g hg e => by have := h.hP g hg; omega) fun g hg => hg
theorem RP.view (h : RP P n0 w2 wr vi vk is ks) (hl : is.length ≤ 140737488355328) (hk : ks.length ≤ 140737488355328) : VV (fun g => P g ∨ n0 + 4 ≤ g) wr (.agg #[.int .i64 5, .int .i64 0, .string ⟨#[]⟩, vi, vk]) (.mk 5 0 ⟨#[]⟩ is ks) :=
  VV.mk' (by decide) (h.row.sv (fun g e => .inr (h.rown g e).1) hk h.str) (h.items.x.read (fun i g _ hg => .inl hg) (fun g hg => .inr hg) hl)
end
theorem SV.atP {P : Nat → Prop} {w : World} {v : Value} {l : List ByteArray} (h : SV P w v l) {k : Nat} (hk : k < l.length) :
    ∃ g o c, P g ∧ v = .slice (some ⟨g, o, none⟩) l.length c ∧ w.cell? ⟨g, o + k, none⟩ = some (.string l[k]) := by
  rcases h.1.2 with ⟨h0, _⟩ | ⟨g, o, c, hp, rfl, hc⟩
  · have : l = [] := by simpa using h0
    subst this; cases hk
  · refine ⟨g, o, c, hp, by rw [List.length_map], hc k _ ?_⟩
    rw [List.getElem?_map, List.getElem?_eq_getElem hk]; rfl
theorem WV.atP {P : Nat → Prop} {w : World} {v : Value} {is : List Vl} (h : WV P w v is) {j : Nat} (hj : j < is.length) :
    ∃ g o c k' n' s' oi mi ci ok mk ck, P g ∧ v = .slice (some ⟨g, o, none⟩) is.length c ∧ w.cell? ⟨g, o + j * 5, none⟩ = some (.int .i64 k') ∧ w.cell? ⟨g, o + j * 5 + 1, none⟩ = some (.int .i64 n') ∧ w.cell? ⟨g, o + j * 5 + 2, none⟩ = some (.string s') ∧
      w.cell? ⟨g, o + j * 5 + 3, none⟩ = some (.slice oi mi ci) ∧ w.cell? ⟨g, o + j * 5 + 4, none⟩ = some (.slice ok mk ck) ∧ VV P w (.agg #[.int .i64 k', .int .i64 n', .string s', .slice oi mi ci, .slice ok mk ck]) is[j] := by
  obtain ⟨g, o, c, k', n', s', oi, mi, ci, ok, mk, ck, e, a1, a2, a3, a4, a5, hV, _⟩ := h.at hj
  refine ⟨g, o, c, k', n', s', oi, mi, ci, ok, mk, ck, ?_, e, a1, a2, a3, a4, a5, hV⟩
  obtain ⟨rs, h1, h2, h3⟩ := h
  rcases h1.2 with ⟨rfl, oa, c', rfl⟩ | ⟨g', o', c', hp, rfl, _⟩
  · simp at h2; omega
  · injection e with e1 e2 e3
    injection e1 with e1
    injection e1 with e1
    exact e1 ▸ hp
theorem snoc_str {ks : List ByteArray} {x : ByteArray} (h : ∀ s ∈ ks, s.size ≤ 140737488355328) (hx : x.size ≤ 140737488355328) : ∀ s ∈ ks ++ [x], s.size ≤ 140737488355328 := fun s hs => by
  rcases List.mem_append.1 hs with h1 | h1
  · exact h s h1
  · rw [List.mem_singleton.1 h1]; exact hx
theorem putG_step {ks : List ByteArray} {is : List Vl} {x : ByteArray} {y : Vl} {d : Bool} {j : Nat} (h : j < ks.length) (h2 : j < is.length) :
    putG d (ks.drop j) (is.drop j) x y = (if d = false ∧ ltS ks[j] x = false then [(x, y)] else []) ++ ((if ks[j] = x then [] else [(ks[j], is[j])]) ++ putG (d || !ltS ks[j] x) (ks.drop (j + 1)) (is.drop (j + 1)) x y) := by
  rw [List.drop_eq_getElem_cons h, List.drop_eq_getElem_cons h2, putG]
theorem putG_end {ks : List ByteArray} {is : List Vl} {x : ByteArray} {y : Vl} {d : Bool} {j : Nat} (h : ks.length ≤ j ∨ is.length ≤ j) : putG d (ks.drop j) (is.drop j) x y = if d = true then [] else [(x, y)] := by
  rcases h with h | h
  · rw [List.drop_of_length_le h, putG]
  · rw [List.drop_of_length_le h]
    cases ks.drop j <;> rw [putG]
theorem RP.drew {P : Nat → Prop} {n0 : Nat} {w2 wr : World} {vi vk : Value} {is : List Vl} {ks : List ByteArray} (h : RP P n0 w2 wr vi vk is ks) : RP P n0 w2 wr.drew vi vk is ks :=
  ⟨h.hP, h.sz, ⟨h.chg.os, h.chg.tape, h.chg.output, h.chg.size, h.chg.block⟩, h.obj, h.items.later (below_drew (Below.refl _ _)), h.row, h.rown, h.str⟩
theorem RP.item {P : Nat → Prop} {n0 : Nat} {w2 wr w' : World} {vi vk vi' : Value} {is : List Vl} {ks : List ByteArray} {r : V5} {t : Vl} {rs : List V5} (h : RP P n0 w2 wr vi vk is ks) (hm : Made (n0 + 4) wr 26 5 vi is.length (flat5 rs)) (hl : rs.length = is.length)
    (he : ∀ (i : Nat) r t, rs[i]? = some r → is[i]? = some t → VV (fun g => P g ∧ g < wr.heap.size ∧ g ≠ n0 + 3 ∧ vi.ownBlock ≠ some g) wr (pent r) t)
    (hown : w'.ownsRow 0 26 5 vi' (is.length + 1) (flat5 rs ++ [r.1, r.2.1, r.2.2.1, r.2.2.2.1, r.2.2.2.2])) (ht : VV P wr (pent r) t) (hp : vi'.ownBlock = vi.ownBlock ∨ ∃ g, vi'.ownBlock = some g ∧ wr.heap.size ≤ g) (hc : Chg (fun g => vi.ownBlock = some g) wr w') :
    OwnW (n0 + 4) (n0 + 3) P w' vi' (is ++ [t]) :=
  OwnW.push (by have := h.sz; have := h.chg.size; omega) ⟨rs, hm, hl, he, hown⟩ ht (fun g hg => ⟨hg, by have := h.hP g hg; omega, fun e => by have := (h.items.block e).1; have := h.hP g hg; omega⟩) hc hp
set_option maxRecDepth 100000 in
set_option maxHeartbeats 4000000 in
theorem rputL_any (v y : Vl) (x : ByteArray) (P : Nat → Prop) (w : World) (u uy : Value) (hv : VV P w u v) (hy : VV P w uy y) (hP : ∀ g, P g → g < w.heap.size) (hx : x.size ≤ 140737488355328) (hl : ∀ k n s is ks, v = .mk k n s is ks → is.length ≤ 1000000 ∧ ks.length ≤ 1000000) :
    Calls Try.prog 29 #[u, .string x, uy] w fun e w' => ∃ u', e = .returned u' ∧ VV (fun g => P g ∨ w.heap.size ≤ g) w' u' (putR v x y) ∧ Below w.heap.size w w' := by
  obtain ⟨k, n, s, is, ks⟩ := v
  have HSZ := hid (hl _ _ _ _ _ rfl)
  clear hl
  obtain ⟨vi, vk, rfl, hI, hK, hss⟩ := hv.out
  obtain ⟨oi, ci, rfl⟩ := hI.len
  obtain ⟨ok, ck, rfl⟩ := hK.len
  obtain ⟨k2, n2, s2, oi2, mi2, ci2, ok2, mk2, ck2, rfl⟩ := hy.agg5
  have hli := hI.le
  have hlk := hK.le
  generalize hA : w.alloc (.cells #[.int .i64 k, .int .i64 n, .string s, .slice oi is.length ci, .slice ok ks.length ck] 26) = wa
  have hao : wa.heap[w.heap.size]? = some (.cells #[.int .i64 k, .int .i64 n, .string s, .slice oi is.length ci, .slice ok ks.length ck] 26) := by rw [← hA]; exact heap_alloc_at w _
  have has : wa.heap.size = w.heap.size + 1 := by rw [← hA]; simp
  have hab : Below w.heap.size w wa := by rw [← hA]; exact (Below.refl _ _).alloc (Nat.le_refl _) _
  generalize hB : wa.alloc (.cells #[.int .i64 k2, .int .i64 n2, .string s2, .slice oi2 mi2 ci2, .slice ok2 mk2 ck2] 26) = wb
  have hbo : wb.heap[w.heap.size + 1]? = some (.cells #[.int .i64 k2, .int .i64 n2, .string s2, .slice oi2 mi2 ci2, .slice ok2 mk2 ck2] 26) := by rw [← hB, ← has]; exact heap_alloc_at wa _
  have hbs : wb.heap.size = w.heap.size + 2 := by rw [← hB]; simp [has]
  have hbb : Below wa.heap.size wa wb := by rw [← hB]; exact (Below.refl _ _).alloc (Nat.le_refl _) _
  generalize hC : wb.alloc zero5 = wc
  have hco : wc.heap[w.heap.size + 2]? = some zero5 := by rw [← hC, ← hbs]; exact heap_alloc_at wb _
  have hcs : wc.heap.size = w.heap.size + 3 := by rw [← hC]; simp [hbs]
  have hcb : Below wb.heap.size wb wc := by rw [← hC]; exact (Below.refl _ _).alloc (Nat.le_refl _) _
  generalize hD : wc.alloc map0 = wd
  have hdo : wd.heap[w.heap.size + 3]? = some map0 := by rw [← hD, ← hcs]; exact heap_alloc_at wc _
  have hds : wd.heap.size = w.heap.size + 4 := by rw [← hD]; simp [hcs]
  have hdb : Below wc.heap.size wc wd := by rw [← hD]; exact (Below.refl _ _).alloc (Nat.le_refl _) _
  have HA0 := hid hA
  have HB0 := hid hB
  have HC0 := hid hC
  have HD0 := hid hD
  have HB := hid (hab.trans ((hbb.trans ((hcb.trans (hdb.mono hcb.size)).mono hbb.size)).mono hab.size))
  have HS := hid (And.intro hcs hds)
  have HXD := hid hdo
  have HXC := hid (keep_obj hco hdb)
  have HXB := hid (keep_obj (keep_obj hbo hcb) hdb)
  have HXA := hid (keep_obj (keep_obj (keep_obj hao hbb) hcb) hdb)
  have HI := hid (show WV P wd (.slice oi is.length ci) is from hI.bel HB.out)
  have HK := hid (show SV P wd (.slice ok ks.length ck) ks from hK.bel HB.out)
  have HY := hid (show VV P wd _ y from hy.bel HB.out)
  have HX := hid hx
  have HPL := hid hP
  have HST : Hid (RP P w.heap.size wd wd (.slice none 0 0) (.slice none 0 0) [] []) := hid ⟨hP, hds, Chg.refl _ _, hdo, OwnW.nil _ _ _ _, .inl ⟨rfl, rfl⟩, (fun g e => by cases e), fun s h => by cases h⟩
  clear hA hB hC hD hao hbo hco hdo has hbs hcs hds hab hbb hcb hdb hI hK hv hy hx hP
  go_enter Try.func29, Try.ntmps29
  go_upto_region 1 with (fail)
  rw [HA0.out, HB0.out, HC0.out]
  go_upto_region 2 with (fail)
  rw [HD0.out, HS.out.1]
  go_wp2_with fail
  go_loopw [8, 9] (fun dv iv wr => ∃ (d : Bool) (j : Nat) (oi' : Option Addr) (mi' ci' : Nat) (ok' : Option Addr) (mk' ck' : Nat) (acc : List (ByteArray × Vl)), j ≤ ks.length ∧ dv = .bool d ∧ iv = .int .i64 j ∧ Hid (RP P w.heap.size wd wr (.slice oi' mi' ci') (.slice ok' mk' ck') (acc.map (·.2)) (acc.map (·.1))) ∧ Hid (putG false ks is x y = acc ++ putG d (ks.drop j) (is.drop j) x y) ∧ Hid (acc.length ≤ 2 * j)) (fun _ iv _ => ks.length - (intOf iv).toNat)
  case atStart => exact ⟨false, 0, _, _, _, _, _, _, [], Nat.zero_le _, rfl, rfl, HST, hid rfl, hid (Nat.zero_le _)⟩
  case round =>
    clear HST
    obtain ⟨d, j, oi', mi', ci', ok', mk', ck', acc, hj, rfl, rfl, R, HE, HAL⟩ := hrel
    have HLN := hid (show acc.length ≤ 2000000 by have := HAL.out; have := HSZ.out.2; omega)
    have hxa := R.out.old (by omega) HXA.out
    obtain ⟨a0, a1, a2, a3, a4⟩ := C5.of hxa
    by_cases hlt : j < ks.length
    · by_cases hlt2 : j < is.length
      · obtain ⟨gk, okk, ckk, hgk, e1, b1⟩ := (HK.out.keep (Q := P) (KeepsP.chg R.out.chg fun g hg e => by have := HPL.out g hg; omega) (fun _ hg => hg)).atP hlt
        have HGK := hid (HPL.out gk hgk)
        clear hgk
        cases e1
        have hj0 : (0 : Int) ≤ (j : Int) := by omega
        have hj1 : (j : Int) < (ks.length : Int) := by omega
        have hj2 : (j : Int) < (is.length : Int) := by omega
        have HG := hid (HE.out.trans (congrArg (acc ++ ·) (putG_step (d := d) hlt hlt2)))
        clear hxa HE
        obtain ⟨kj, hkj⟩ : ∃ kj, ks[j] = kj := ⟨_, rfl⟩
        obtain ⟨ij, hij⟩ : ∃ ij, is[j] = ij := ⟨_, rfl⟩
        rw [hkj, hij] at HG
        rw [hkj] at b1
        have HKS := hid (show kj.size ≤ 140737488355328 from hkj ▸ HK.out.2 _ (List.getElem_mem hlt))
        have HKJ := hid hkj
        have HIJ := hid hij
        clear hkj hij
        cases d with
        | true =>
          by_cases hkx : kj = x
          · subst hkx
            have HE2 := hid (HG.out.trans (by rw [if_neg (by simp), if_pos rfl]; rfl : _ = acc ++ putG true (ks.drop (j + 1)) (is.drop (j + 1)) kj y))
            clear HG
            go_wp2_with fail
            go_roundw
            case rel => exact ⟨true, j + 1, _, _, _, _, _, _, acc, by omega, rfl, by go_num, R, HE2, hid (by have := HAL.out; omega)⟩
            case measure => simp [intOf]; omega
          · obtain ⟨f1, f2⟩ := str_ne hkx
            have f3 := str_ne2 hkx
            have HE2 := hid (HG.out.trans (by rw [if_neg (by simp), if_neg hkx, Bool.true_or, List.nil_append, ← List.append_assoc] : _ = (acc ++ [(kj, ij)]) ++ putG true (ks.drop (j + 1)) (is.drop (j + 1)) x y))
            clear HG hkx
            have h4 := (cells_in R.out.obj 4).trans rfl
            have R9 := hid R.out.drew
            go_upto_region 11 with (fail)
            refine wp_region_steady_tail 10 (fun v => v.cell? ⟨w.heap.size, 4, none⟩ = some (.slice (some ⟨gk, okk, none⟩) ks.length ck) ∧ v.cell? ⟨gk, okk + j, none⟩ = some (.string kj) ∧ v.cell? ⟨w.heap.size + 3, 4, none⟩ = some (Value.slice ok' mk' ck')) (by kernel_rfl) (by kernel_rfl) (⟨a4, b1, h4⟩) ?_
            simp only [List.take_succ_cons, List.take_zero, List.drop_succ_cons, List.drop_zero]
            repeat (first
              | (refine wpSteady_skip (by rfl) ?_; try simp only [Act.put, List.setIfInBounds_toArray, List.set_cons_zero, List.set_cons_succ])
              | (refine wpSteady_calm (v := ?_) (by rfl) ?_ ?_; rotate_left; (focus (intro v hSv; (try dsimp only at hSv); go_simp; (try with_reducible rfl); done)); try simp only [Act.put, List.setIfInBounds_toArray, List.set_cons_zero, List.set_cons_succ]))
            refine wpSteady_loud rfl (by rfl) (fun K hK => ?_)
            go_simp
            have hal : Below wr.drew.heap.size wr.drew (wr.drew.alloc (.cells #[.string kj] 9)) := (Below.refl _ _).alloc (Nat.le_refl _) _
            refine hK.out _ _ (⟨bcell (W := wr.drew) hal a4, bcell (W := wr.drew) hal b1, bcell (W := wr.drew) hal h4⟩) ?_
            clear hK K
            try simp only [Act.put, List.setIfInBounds_toArray, List.set_cons_zero, List.set_cons_succ]
            clear hal
            refine wpSteady_loud rfl (by rfl) (fun K hK => ?_)
            refine app_tag_wp (.tmp 56) (.tmp 62) 24 (by rfl) 9 (.string ⟨#[]⟩) 1 16 Try.underlying24 info9 (by rfl) (by decide) (by decide) _ _ _ R9.out.row.owns (by rfl) [.string kj] wr.drew.heap.size (by rfl) (by rfl) (by rfl) (by simp [Value.oneCell']) (by have := HLN.out; simp; omega) ?_
            intro v9 w9 hown9 hc9 hp9 hne9
            obtain ⟨o9, n9, c9, rfl⟩ := owns_slice hown9
            have hX9 := (hc9.block _ R9.out.lt R9.out.kX).trans R9.out.obj
            refine hK.out _ _ ⟨chg_cell hc9 (fun e => by have := (R9.out.rown _ e).1; omega) a4, chg_cell hc9 (fun e => by have := (R9.out.rown _ e).1; have h0 := HGK.out; omega) b1, chg_cell hc9 R9.out.kX h4⟩ ?_
            clear hK K
            try simp only [Act.put, List.setIfInBounds_toArray, List.set_cons_zero, List.set_cons_succ]
            clear a4 b1 h4
            repeat (first
              | (refine wpSteady_skip (by rfl) ?_; try simp only [Act.put, List.setIfInBounds_toArray, List.set_cons_zero, List.set_cons_succ])
              | (refine wpSteady_calm (v := ?_) (by rfl) ?_ ?_; rotate_left; (focus (intro v hSv; (try dsimp only at hSv); go_simp; (try with_reducible rfl); done)); try simp only [Act.put, List.setIfInBounds_toArray, List.set_cons_zero, List.set_cons_succ]))
            refine wpSteady_nil ?_
            refine wpList_store_one rfl 24 _ _ rfl (w.heap.size + 3) 4 _ rfl rfl _ _ hX9 (by simp) (by kernel_rfl) rfl ?_
            intro wk hzk hck
            have RK := hid (R9.out.pushK (owns_row (l := _ ++ [kj]) (by rw [strs, List.map_append]; exact hown9) (by simp)) (snoc_str R9.out.str HKS.out) hp9 hc9 hck hzk)
            clear hown9 hc9 hp9 hne9 hX9 hck hzk R9
            go_upto_region 12 with (fail)
            have R9 := hid RK.out.drew
            obtain ⟨gi, oii, cii, k3, n3, s3, oi3, mi3, ci3, ok3, mk3, ck3, hgi, e1, q0, q1, q2, q3, q4, hT3⟩ := (HI.out.keep (Q := P) (KeepsP.chg RK.out.chg fun g hg e => by have := HPL.out g hg; omega) (fun _ hg => hg)).atP hlt2
            have HGI := hid (HPL.out gi hgi)
            clear hgi
            cases e1
            rw [HIJ.out] at hT3
            have HT3 := hid (show VV P wk.drew (pent (.int .i64 k3, .int .i64 n3, .string s3, .slice oi3 mi3 ci3, .slice ok3 mk3 ck3)) ij from hT3.bel (below_drew (Below.refl _ _)))
            obtain ⟨-, -, -, a3, -⟩ := C5.of (RK.out.old (by omega) HXA.out)
            have h3 := (cells_in RK.out.obj 3).trans rfl
            clear hT3
            refine wp_region_steady_tail 10 (fun v => v.cell? ⟨w.heap.size, 3, none⟩ = some (.slice (some ⟨gi, oii, none⟩) is.length ci) ∧ v.cell? ⟨gi, oii + j * 5, none⟩ = some (.int .i64 k3) ∧ v.cell? ⟨gi, oii + j * 5 + 1, none⟩ = some (.int .i64 n3) ∧ v.cell? ⟨gi, oii + j * 5 + 2, none⟩ = some (.string s3) ∧ v.cell? ⟨gi, oii + j * 5 + 3, none⟩ = some (.slice oi3 mi3 ci3) ∧ v.cell? ⟨gi, oii + j * 5 + 4, none⟩ = some (.slice ok3 mk3 ck3) ∧ v.cell? ⟨w.heap.size + 3, 3, none⟩ = some (Value.slice oi' mi' ci')) (by kernel_rfl) (by kernel_rfl) (⟨a3, q0, q1, q2, q3, q4, h3⟩) ?_
            simp only [List.take_succ_cons, List.take_zero, List.drop_succ_cons, List.drop_zero]
            repeat (first
              | (refine wpSteady_skip (by rfl) ?_; try simp only [Act.put, List.setIfInBounds_toArray, List.set_cons_zero, List.set_cons_succ])
              | (refine wpSteady_calm (v := ?_) (by rfl) ?_ ?_; rotate_left; (focus (intro v hSv; (try dsimp only at hSv); go_simp; (try with_reducible rfl); done)); try simp only [Act.put, List.setIfInBounds_toArray, List.set_cons_zero, List.set_cons_succ]))
            refine wpSteady_loud rfl (by rfl) (fun K hK => ?_)
            go_simp
            have hal : Below wk.drew.heap.size wk.drew (wk.drew.alloc (.cells #[.int .i64 k3, .int .i64 n3, .string s3, .slice oi3 mi3 ci3, .slice ok3 mk3 ck3] 26)) := (Below.refl _ _).alloc (Nat.le_refl _) _
            refine hK.out _ _ (⟨bcell (W := wk.drew) hal a3, bcell (W := wk.drew) hal q0, bcell (W := wk.drew) hal q1, bcell (W := wk.drew) hal q2, bcell (W := wk.drew) hal q3, bcell (W := wk.drew) hal q4, bcell (W := wk.drew) hal h3⟩) ?_
            clear hK K
            try simp only [Act.put, List.setIfInBounds_toArray, List.set_cons_zero, List.set_cons_succ]
            clear hal
            refine wpSteady_loud rfl (by rfl) (fun K hK => ?_)
            obtain ⟨rs, hm, hl2, he4⟩ := R9.out.items
            refine app_tag_wp (.tmp 66) (.tmp 72) 23 (by rfl) 26 (.agg #[.int .i64 0, .int .i64 0, .string ⟨#[]⟩, .slice none 0 0, .slice none 0 0]) 5 80 Try.underlying23 infoV (by rfl) (by decide) (by decide) _ _ _ hm.1 (by rfl) [.int .i64 k3, .int .i64 n3, .string s3, .slice oi3 mi3 ci3, .slice ok3 mk3 ck3] wk.drew.heap.size (by rfl) (by rfl) (by rfl) (by simp [Value.oneCell']) (by have := HLN.out; simp; omega) ?_
            intro v9 w9 hown9 hc9 hp9 hne9
            obtain ⟨o9, n9, c9, rfl⟩ := owns_slice hown9
            have hX9 := (hc9.block _ R9.out.lt R9.out.iX).trans R9.out.obj
            have HOW := hid (R9.out.item (r := (.int .i64 k3, .int .i64 n3, .string s3, .slice oi3 mi3 ci3, .slice ok3 mk3 ck3)) hm hl2 he4 hown9 HT3.out hp9 hc9)
            clear hm hl2 he4
            have hno : ∀ g, g < w.heap.size + 3 → ¬ (Value.slice oi' mi' ci').ownBlock = some g := fun g hg e => by have := (R9.out.items.block e).1; omega
            refine hK.out _ _ ⟨chg_cell hc9 (hno _ (by omega)) a3, chg_cell hc9 (hno _ (by have h0 := HGI.out; omega)) q0, chg_cell hc9 (hno _ (by have h0 := HGI.out; omega)) q1, chg_cell hc9 (hno _ (by have h0 := HGI.out; omega)) q2, chg_cell hc9 (hno _ (by have h0 := HGI.out; omega)) q3, chg_cell hc9 (hno _ (by have h0 := HGI.out; omega)) q4, chg_cell hc9 R9.out.iX h3⟩ ?_
            clear hK K hno
            try simp only [Act.put, List.setIfInBounds_toArray, List.set_cons_zero, List.set_cons_succ]
            clear a3 q0 q1 q2 q3 q4 h3
            repeat (first
              | (refine wpSteady_skip (by rfl) ?_; try simp only [Act.put, List.setIfInBounds_toArray, List.set_cons_zero, List.set_cons_succ])
              | (refine wpSteady_calm (v := ?_) (by rfl) ?_ ?_; rotate_left; (focus (intro v hSv; (try dsimp only at hSv); go_simp; (try with_reducible rfl); done)); try simp only [Act.put, List.setIfInBounds_toArray, List.set_cons_zero, List.set_cons_succ]))
            refine wpSteady_nil ?_
            refine wpList_store_one rfl 23 _ _ rfl (w.heap.size + 3) 3 _ rfl rfl _ _ hX9 (by simp) (by kernel_rfl) rfl ?_
            intro wi hzi hci
            have RI := hid (R9.out.pushI HOW.out hp9 hc9 hci hzi)
            clear hown9 hc9 hp9 hne9 hX9 hci hzi R9 HOW HT3 RK
            go_wp2_with fail
            go_roundw
            case rel => exact ⟨true, j + 1, _, _, _, _, _, _, acc ++ [(kj, ij)], by omega, rfl, by go_num, by simpa using RI, HE2, hid (by have := HAL.out; simp; omega)⟩
            case measure => simp [intOf]; omega
        | false =>
          cases hlx : ltS kj x with
          | true =>
            have hcn : Op.bytesLess kj.toList x.toList = true := hlx
            have hkx : kj ≠ x := fun e => by rw [e, ltS_irr] at hlx; cases hlx
            obtain ⟨f1, f2⟩ := str_ne hkx
            have f3 := str_ne2 hkx
            have HE2 := hid (HG.out.trans (by rw [hlx, if_neg (by simp), if_neg hkx, List.nil_append, ← List.append_assoc]; rfl : _ = (acc ++ [(kj, ij)]) ++ putG false (ks.drop (j + 1)) (is.drop (j + 1)) x y))
            clear HG hkx hlx
            have h4 := (cells_in R.out.obj 4).trans rfl
            have R9 := hid R.out.drew
            go_upto_region 11 with (fail)
            refine wp_region_steady_tail 10 (fun v => v.cell? ⟨w.heap.size, 4, none⟩ = some (.slice (some ⟨gk, okk, none⟩) ks.length ck) ∧ v.cell? ⟨gk, okk + j, none⟩ = some (.string kj) ∧ v.cell? ⟨w.heap.size + 3, 4, none⟩ = some (Value.slice ok' mk' ck')) (by kernel_rfl) (by kernel_rfl) (⟨a4, b1, h4⟩) ?_
            simp only [List.take_succ_cons, List.take_zero, List.drop_succ_cons, List.drop_zero]
            repeat (first
              | (refine wpSteady_skip (by rfl) ?_; try simp only [Act.put, List.setIfInBounds_toArray, List.set_cons_zero, List.set_cons_succ])
              | (refine wpSteady_calm (v := ?_) (by rfl) ?_ ?_; rotate_left; (focus (intro v hSv; (try dsimp only at hSv); go_simp; (try with_reducible rfl); done)); try simp only [Act.put, List.setIfInBounds_toArray, List.set_cons_zero, List.set_cons_succ]))
            refine wpSteady_loud rfl (by rfl) (fun K hK => ?_)
            go_simp
            have hal : Below wr.drew.heap.size wr.drew (wr.drew.alloc (.cells #[.string kj] 9)) := (Below.refl _ _).alloc (Nat.le_refl _) _
            refine hK.out _ _ (⟨bcell (W := wr.drew) hal a4, bcell (W := wr.drew) hal b1, bcell (W := wr.drew) hal h4⟩) ?_
            clear hK K
            try simp only [Act.put, List.setIfInBounds_toArray, List.set_cons_zero, List.set_cons_succ]
            clear hal
            refine wpSteady_loud rfl (by rfl) (fun K hK => ?_)
            refine app_tag_wp (.tmp 56) (.tmp 62) 24 (by rfl) 9 (.string ⟨#[]⟩) 1 16 Try.underlying24 info9 (by rfl) (by decide) (by decide) _ _ _ R9.out.row.owns (by rfl) [.string kj] wr.drew.heap.size (by rfl) (by rfl) (by rfl) (by simp [Value.oneCell']) (by have := HLN.out; simp; omega) ?_
            intro v9 w9 hown9 hc9 hp9 hne9
            obtain ⟨o9, n9, c9, rfl⟩ := owns_slice hown9
            have hX9 := (hc9.block _ R9.out.lt R9.out.kX).trans R9.out.obj
            refine hK.out _ _ ⟨chg_cell hc9 (fun e => by have := (R9.out.rown _ e).1; omega) a4, chg_cell hc9 (fun e => by have := (R9.out.rown _ e).1; have h0 := HGK.out; omega) b1, chg_cell hc9 R9.out.kX h4⟩ ?_
            clear hK K
            try simp only [Act.put, List.setIfInBounds_toArray, List.set_cons_zero, List.set_cons_succ]
            clear a4 b1 h4
            repeat (first
              | (refine wpSteady_skip (by rfl) ?_; try simp only [Act.put, List.setIfInBounds_toArray, List.set_cons_zero, List.set_cons_succ])
              | (refine wpSteady_calm (v := ?_) (by rfl) ?_ ?_; rotate_left; (focus (intro v hSv; (try dsimp only at hSv); go_simp; (try with_reducible rfl); done)); try simp only [Act.put, List.setIfInBounds_toArray, List.set_cons_zero, List.set_cons_succ]))
            refine wpSteady_nil ?_
            refine wpList_store_one rfl 24 _ _ rfl (w.heap.size + 3) 4 _ rfl rfl _ _ hX9 (by simp) (by kernel_rfl) rfl ?_
            intro wk hzk hck
            have RK := hid (R9.out.pushK (owns_row (l := _ ++ [kj]) (by rw [strs, List.map_append]; exact hown9) (by simp)) (snoc_str R9.out.str HKS.out) hp9 hc9 hck hzk)
            clear hown9 hc9 hp9 hne9 hX9 hck hzk R9
            go_upto_region 12 with (fail)
            have R9 := hid RK.out.drew
            obtain ⟨gi, oii, cii, k3, n3, s3, oi3, mi3, ci3, ok3, mk3, ck3, hgi, e1, q0, q1, q2, q3, q4, hT3⟩ := (HI.out.keep (Q := P) (KeepsP.chg RK.out.chg fun g hg e => by have := HPL.out g hg; omega) (fun _ hg => hg)).atP hlt2
            have HGI := hid (HPL.out gi hgi)
            clear hgi
            cases e1
            rw [HIJ.out] at hT3
            have HT3 := hid (show VV P wk.drew (pent (.int .i64 k3, .int .i64 n3, .string s3, .slice oi3 mi3 ci3, .slice ok3 mk3 ck3)) ij from hT3.bel (below_drew (Below.refl _ _)))
            obtain ⟨-, -, -, a3, -⟩ := C5.of (RK.out.old (by omega) HXA.out)
            have h3 := (cells_in RK.out.obj 3).trans rfl
            clear hT3
            refine wp_region_steady_tail 10 (fun v => v.cell? ⟨w.heap.size, 3, none⟩ = some (.slice (some ⟨gi, oii, none⟩) is.length ci) ∧ v.cell? ⟨gi, oii + j * 5, none⟩ = some (.int .i64 k3) ∧ v.cell? ⟨gi, oii + j * 5 + 1, none⟩ = some (.int .i64 n3) ∧ v.cell? ⟨gi, oii + j * 5 + 2, none⟩ = some (.string s3) ∧ v.cell? ⟨gi, oii + j * 5 + 3, none⟩ = some (.slice oi3 mi3 ci3) ∧ v.cell? ⟨gi, oii + j * 5 + 4, none⟩ = some (.slice ok3 mk3 ck3) ∧ v.cell? ⟨w.heap.size + 3, 3, none⟩ = some (Value.slice oi' mi' ci')) (by kernel_rfl) (by kernel_rfl) (⟨a3, q0, q1, q2, q3, q4, h3⟩) ?_
            simp only [List.take_succ_cons, List.take_zero, List.drop_succ_cons, List.drop_zero]
            repeat (first
              | (refine wpSteady_skip (by rfl) ?_; try simp only [Act.put, List.setIfInBounds_toArray, List.set_cons_zero, List.set_cons_succ])
              | (refine wpSteady_calm (v := ?_) (by rfl) ?_ ?_; rotate_left; (focus (intro v hSv; (try dsimp only at hSv); go_simp; (try with_reducible rfl); done)); try simp only [Act.put, List.setIfInBounds_toArray, List.set_cons_zero, List.set_cons_succ]))
            refine wpSteady_loud rfl (by rfl) (fun K hK => ?_)
            go_simp
            have hal : Below wk.drew.heap.size wk.drew (wk.drew.alloc (.cells #[.int .i64 k3, .int .i64 n3, .string s3, .slice oi3 mi3 ci3, .slice ok3 mk3 ck3] 26)) := (Below.refl _ _).alloc (Nat.le_refl _) _
            refine hK.out _ _ (⟨bcell (W := wk.drew) hal a3, bcell (W := wk.drew) hal q0, bcell (W := wk.drew) hal q1, bcell (W := wk.drew) hal q2, bcell (W := wk.drew) hal q3, bcell (W := wk.drew) hal q4, bcell (W := wk.drew) hal h3⟩) ?_
            clear hK K
            try simp only [Act.put, List.setIfInBounds_toArray, List.set_cons_zero, List.set_cons_succ]
            clear hal
            refine wpSteady_loud rfl (by rfl) (fun K hK => ?_)
            obtain ⟨rs, hm, hl2, he4⟩ := R9.out.items
            refine app_tag_wp (.tmp 66) (.tmp 72) 23 (by rfl) 26 (.agg #[.int .i64 0, .int .i64 0, .string ⟨#[]⟩, .slice none 0 0, .slice none 0 0]) 5 80 Try.underlying23 infoV (by rfl) (by decide) (by decide) _ _ _ hm.1 (by rfl) [.int .i64 k3, .int .i64 n3, .string s3, .slice oi3 mi3 ci3, .slice ok3 mk3 ck3] wk.drew.heap.size (by rfl) (by rfl) (by rfl) (by simp [Value.oneCell']) (by have := HLN.out; simp; omega) ?_
            intro v9 w9 hown9 hc9 hp9 hne9
            obtain ⟨o9, n9, c9, rfl⟩ := owns_slice hown9
            have hX9 := (hc9.block _ R9.out.lt R9.out.iX).trans R9.out.obj
            have HOW := hid (R9.out.item (r := (.int .i64 k3, .int .i64 n3, .string s3, .slice oi3 mi3 ci3, .slice ok3 mk3 ck3)) hm hl2 he4 hown9 HT3.out hp9 hc9)
            clear hm hl2 he4
            have hno : ∀ g, g < w.heap.size + 3 → ¬ (Value.slice oi' mi' ci').ownBlock = some g := fun g hg e => by have := (R9.out.items.block e).1; omega
            refine hK.out _ _ ⟨chg_cell hc9 (hno _ (by omega)) a3, chg_cell hc9 (hno _ (by have h0 := HGI.out; omega)) q0, chg_cell hc9 (hno _ (by have h0 := HGI.out; omega)) q1, chg_cell hc9 (hno _ (by have h0 := HGI.out; omega)) q2, chg_cell hc9 (hno _ (by have h0 := HGI.out; omega)) q3, chg_cell hc9 (hno _ (by have h0 := HGI.out; omega)) q4, chg_cell hc9 R9.out.iX h3⟩ ?_
            clear hK K hno
            try simp only [Act.put, List.setIfInBounds_toArray, List.set_cons_zero, List.set_cons_succ]
            clear a3 q0 q1 q2 q3 q4 h3
            repeat (first
              | (refine wpSteady_skip (by rfl) ?_; try simp only [Act.put, List.setIfInBounds_toArray, List.set_cons_zero, List.set_cons_succ])
              | (refine wpSteady_calm (v := ?_) (by rfl) ?_ ?_; rotate_left; (focus (intro v hSv; (try dsimp only at hSv); go_simp; (try with_reducible rfl); done)); try simp only [Act.put, List.setIfInBounds_toArray, List.set_cons_zero, List.set_cons_succ]))
            refine wpSteady_nil ?_
            refine wpList_store_one rfl 23 _ _ rfl (w.heap.size + 3) 3 _ rfl rfl _ _ hX9 (by simp) (by kernel_rfl) rfl ?_
            intro wi hzi hci
            have RI := hid (R9.out.pushI HOW.out hp9 hc9 hci hzi)
            clear hown9 hc9 hp9 hne9 hX9 hci hzi R9 HOW HT3 RK
            go_wp2_with fail
            go_roundw
            case rel => exact ⟨false, j + 1, _, _, _, _, _, _, acc ++ [(kj, ij)], by omega, rfl, by go_num, by simpa using RI, HE2, hid (by have := HAL.out; simp; omega)⟩
            case measure => simp [intOf]; omega
          | false =>
            have hcn : Op.bytesLess kj.toList x.toList = false := hlx
            have HLX := hid hlx
            clear hlx
            have o4 := (cells_in R.out.obj 4).trans rfl
            go_upto_region 8 with (first | (at_builtin; refine app_tag (by rfl) (.tmp 37) (.tmp 39) 24 (by rfl) 9 (.string ⟨#[]⟩) 1 16 Try.underlying24 info9 rfl (by decide) (by decide) _ _ _ R.out.row.owns (by rfl) [.string x] wr.heap.size (by rfl) (by rfl) (by rfl) (by simp [Value.oneCell']) (by have := HLN.out; simp; omega) ?_; intro v9 w9 hown9 hc9 hp9 hne9; obtain ⟨o9, n9, c9, rfl⟩ := owns_slice hown9; have hX9 := (hc9.block _ R.out.lt R.out.kX).trans R.out.obj) | (refine wpList_store_one rfl 24 _ _ rfl (w.heap.size + 3) 4 _ rfl rfl _ _ hX9 (by simp) (by kernel_rfl) rfl ?_; intro w10 hz10 hc10))
            have R1 := hid (R.out.pushK (owns_row (l := _ ++ [x]) (by rw [strs, List.map_append]; exact hown9) (by simp)) (snoc_str R.out.str HX.out) hp9 hc9 hc10 hz10)
            clear hown9 hc9 hp9 hne9 hX9 hz10 hc10 o4
            clear hcn
            have o3 := (cells_in R1.out.obj 3).trans rfl
            obtain ⟨e0, e1, e2, e3, e4⟩ := C5.of (R1.out.old (Nat.lt_of_sub_pos (by omega)) HXB.out)
            have HIY := hid (R1.out.vv HY.out)
            go_upto_region 9 with (first | (at_builtin; obtain ⟨rs, hm, hl2, he4⟩ := R1.out.items; refine app_tag (by rfl) (.tmp 43) (.tmp 45) 23 (by rfl) 26 (.agg #[.int .i64 0, .int .i64 0, .string ⟨#[]⟩, .slice none 0 0, .slice none 0 0]) 5 80 Try.underlying23 infoV (by rfl) (by decide) (by decide) _ _ _ hm.1 (by rfl) [.int .i64 k2, .int .i64 n2, .string s2, .slice oi2 mi2 ci2, .slice ok2 mk2 ck2] w10.heap.size (by rfl) (by rfl) (by rfl) (by simp [Value.oneCell']) (by have := HLN.out; simp; omega) ?_; intro v9 w9 hown9 hc9 hp9 hne9; obtain ⟨o8, n8, c8, rfl⟩ := owns_slice hown9; have hX9 := (hc9.block _ R1.out.lt R1.out.iX).trans R1.out.obj; have HOW := hid (R1.out.item (r := (.int .i64 k2, .int .i64 n2, .string s2, .slice oi2 mi2 ci2, .slice ok2 mk2 ck2)) hm hl2 he4 hown9 HIY.out hp9 hc9); clear hm hl2 he4) | (refine wpList_store_one rfl 23 _ _ rfl (w.heap.size + 3) 3 _ rfl rfl _ _ hX9 (by simp) (by kernel_rfl) rfl ?_; intro w11 hz10 hc10))
            have R2 := hid (R1.out.pushI HOW.out hp9 hc9 hc10 hz10)
            clear hown9 hc9 hp9 hne9 hX9 hz10 hc10 o3 e0 e1 e2 e3 e4 HIY HOW
            clear a0 a1 a2 a3 a4 b1
            obtain ⟨a0, a1, a2, a3, a4⟩ := C5.of (R2.out.old (by omega) HXA.out)
            obtain ⟨gk2, okk2, ckk2, hgk, e1, b1⟩ := (HK.out.keep (Q := P) (KeepsP.chg R2.out.chg fun g hg e => by have := HPL.out g hg; omega) (fun _ hg => hg)).atP hlt
            clear hgk
            cases e1
            rw [HKJ.out] at b1
            by_cases hkx : kj = x
            · subst hkx
              have HE2 := hid (HG.out.trans (by rw [HLX.out, if_pos ⟨rfl, rfl⟩, if_pos rfl, ← List.append_assoc]; rfl : _ = (acc ++ [(kj, y)]) ++ putG true (ks.drop (j + 1)) (is.drop (j + 1)) kj y))
              clear HG
              go_wp2_with fail
              go_roundw
              case rel => exact ⟨true, j + 1, _, _, _, _, _, _, acc ++ [(kj, y)], by omega, rfl, by go_num, by simpa using R2, HE2, hid (by have := HAL.out; simp; omega)⟩
              case measure => simp [intOf]; omega
            · obtain ⟨f1, f2⟩ := str_ne hkx
              have f3 := str_ne2 hkx
              have HE2 := hid (HG.out.trans (by rw [HLX.out, if_pos ⟨rfl, rfl⟩, if_neg hkx, ← List.append_assoc, ← List.append_assoc]; rfl : _ = (acc ++ [(x, y)] ++ [(kj, ij)]) ++ putG true (ks.drop (j + 1)) (is.drop (j + 1)) x y))
              clear HG hkx
              have h4 := (cells_in R2.out.obj 4).trans rfl
              have R9 := hid R2.out.drew
              go_upto_region 11 with (fail)
              refine wp_region_steady_tail 10 (fun v => v.cell? ⟨w.heap.size, 4, none⟩ = some (.slice (some ⟨gk, okk, none⟩) ks.length ck) ∧ v.cell? ⟨gk, okk + j, none⟩ = some (.string kj) ∧ v.cell? ⟨w.heap.size + 3, 4, none⟩ = some (Value.slice o9 n9 c9)) (by kernel_rfl) (by kernel_rfl) (⟨a4, b1, h4⟩) ?_
              simp only [List.take_succ_cons, List.take_zero, List.drop_succ_cons, List.drop_zero]
              repeat (first
                | (refine wpSteady_skip (by rfl) ?_; try simp only [Act.put, List.setIfInBounds_toArray, List.set_cons_zero, List.set_cons_succ])
                | (refine wpSteady_calm (v := ?_) (by rfl) ?_ ?_; rotate_left; (focus (intro v hSv; (try dsimp only at hSv); go_simp; (try with_reducible rfl); done)); try simp only [Act.put, List.setIfInBounds_toArray, List.set_cons_zero, List.set_cons_succ]))
              refine wpSteady_loud rfl (by rfl) (fun K hK => ?_)
              go_simp
              have hal : Below w11.drew.heap.size w11.drew (w11.drew.alloc (.cells #[.string kj] 9)) := (Below.refl _ _).alloc (Nat.le_refl _) _
              refine hK.out _ _ (⟨bcell (W := w11.drew) hal a4, bcell (W := w11.drew) hal b1, bcell (W := w11.drew) hal h4⟩) ?_
              clear hK K
              try simp only [Act.put, List.setIfInBounds_toArray, List.set_cons_zero, List.set_cons_succ]
              clear hal
              refine wpSteady_loud rfl (by rfl) (fun K hK => ?_)
              refine app_tag_wp (.tmp 56) (.tmp 62) 24 (by rfl) 9 (.string ⟨#[]⟩) 1 16 Try.underlying24 info9 (by rfl) (by decide) (by decide) _ _ _ R9.out.row.owns (by rfl) [.string kj] w11.drew.heap.size (by rfl) (by rfl) (by rfl) (by simp [Value.oneCell']) (by have := HLN.out; simp; omega) ?_
              intro v9 w9 hown9 hc9 hp9 hne9
              obtain ⟨o9, n9, c9, rfl⟩ := owns_slice hown9
              have hX9 := (hc9.block _ R9.out.lt R9.out.kX).trans R9.out.obj
              refine hK.out _ _ ⟨chg_cell hc9 (fun e => by have := (R9.out.rown _ e).1; omega) a4, chg_cell hc9 (fun e => by have := (R9.out.rown _ e).1; have h0 := HGK.out; omega) b1, chg_cell hc9 R9.out.kX h4⟩ ?_
              clear hK K
              try simp only [Act.put, List.setIfInBounds_toArray, List.set_cons_zero, List.set_cons_succ]
              clear a4 b1 h4
              repeat (first
                | (refine wpSteady_skip (by rfl) ?_; try simp only [Act.put, List.setIfInBounds_toArray, List.set_cons_zero, List.set_cons_succ])
                | (refine wpSteady_calm (v := ?_) (by rfl) ?_ ?_; rotate_left; (focus (intro v hSv; (try dsimp only at hSv); go_simp; (try with_reducible rfl); done)); try simp only [Act.put, List.setIfInBounds_toArray, List.set_cons_zero, List.set_cons_succ]))
              refine wpSteady_nil ?_
              refine wpList_store_one rfl 24 _ _ rfl (w.heap.size + 3) 4 _ rfl rfl _ _ hX9 (by simp) (by kernel_rfl) rfl ?_
              intro wk hzk hck
              have RK := hid (R9.out.pushK (owns_row (l := _ ++ [kj]) (by rw [strs, List.map_append]; exact hown9) (by simp)) (snoc_str R9.out.str HKS.out) hp9 hc9 hck hzk)
              clear hown9 hc9 hp9 hne9 hX9 hck hzk R9
              go_upto_region 12 with (fail)
              have R9 := hid RK.out.drew
              obtain ⟨gi, oii, cii, k3, n3, s3, oi3, mi3, ci3, ok3, mk3, ck3, hgi, e1, q0, q1, q2, q3, q4, hT3⟩ := (HI.out.keep (Q := P) (KeepsP.chg RK.out.chg fun g hg e => by have := HPL.out g hg; omega) (fun _ hg => hg)).atP hlt2
              have HGI := hid (HPL.out gi hgi)
              clear hgi
              cases e1
              rw [HIJ.out] at hT3
              have HT3 := hid (show VV P wk.drew (pent (.int .i64 k3, .int .i64 n3, .string s3, .slice oi3 mi3 ci3, .slice ok3 mk3 ck3)) ij from hT3.bel (below_drew (Below.refl _ _)))
              obtain ⟨-, -, -, a3, -⟩ := C5.of (RK.out.old (by omega) HXA.out)
              have h3 := (cells_in RK.out.obj 3).trans rfl
              clear hT3
              refine wp_region_steady_tail 10 (fun v => v.cell? ⟨w.heap.size, 3, none⟩ = some (.slice (some ⟨gi, oii, none⟩) is.length ci) ∧ v.cell? ⟨gi, oii + j * 5, none⟩ = some (.int .i64 k3) ∧ v.cell? ⟨gi, oii + j * 5 + 1, none⟩ = some (.int .i64 n3) ∧ v.cell? ⟨gi, oii + j * 5 + 2, none⟩ = some (.string s3) ∧ v.cell? ⟨gi, oii + j * 5 + 3, none⟩ = some (.slice oi3 mi3 ci3) ∧ v.cell? ⟨gi, oii + j * 5 + 4, none⟩ = some (.slice ok3 mk3 ck3) ∧ v.cell? ⟨w.heap.size + 3, 3, none⟩ = some (Value.slice o8 n8 c8)) (by kernel_rfl) (by kernel_rfl) (⟨a3, q0, q1, q2, q3, q4, h3⟩) ?_
              simp only [List.take_succ_cons, List.take_zero, List.drop_succ_cons, List.drop_zero]
              repeat (first
                | (refine wpSteady_skip (by rfl) ?_; try simp only [Act.put, List.setIfInBounds_toArray, List.set_cons_zero, List.set_cons_succ])
                | (refine wpSteady_calm (v := ?_) (by rfl) ?_ ?_; rotate_left; (focus (intro v hSv; (try dsimp only at hSv); go_simp; (try with_reducible rfl); done)); try simp only [Act.put, List.setIfInBounds_toArray, List.set_cons_zero, List.set_cons_succ]))
              refine wpSteady_loud rfl (by rfl) (fun K hK => ?_)
              go_simp
              have hal : Below wk.drew.heap.size wk.drew (wk.drew.alloc (.cells #[.int .i64 k3, .int .i64 n3, .string s3, .slice oi3 mi3 ci3, .slice ok3 mk3 ck3] 26)) := (Below.refl _ _).alloc (Nat.le_refl _) _
              refine hK.out _ _ (⟨bcell (W := wk.drew) hal a3, bcell (W := wk.drew) hal q0, bcell (W := wk.drew) hal q1, bcell (W := wk.drew) hal q2, bcell (W := wk.drew) hal q3, bcell (W := wk.drew) hal q4, bcell (W := wk.drew) hal h3⟩) ?_
              clear hK K
              try simp only [Act.put, List.setIfInBounds_toArray, List.set_cons_zero, List.set_cons_succ]
              clear hal
              refine wpSteady_loud rfl (by rfl) (fun K hK => ?_)
              obtain ⟨rs, hm, hl2, he4⟩ := R9.out.items
              refine app_tag_wp (.tmp 66) (.tmp 72) 23 (by rfl) 26 (.agg #[.int .i64 0, .int .i64 0, .string ⟨#[]⟩, .slice none 0 0, .slice none 0 0]) 5 80 Try.underlying23 infoV (by rfl) (by decide) (by decide) _ _ _ hm.1 (by rfl) [.int .i64 k3, .int .i64 n3, .string s3, .slice oi3 mi3 ci3, .slice ok3 mk3 ck3] wk.drew.heap.size (by rfl) (by rfl) (by rfl) (by simp [Value.oneCell']) (by have := HLN.out; simp; omega) ?_
              intro v9 w9 hown9 hc9 hp9 hne9
              obtain ⟨o9, n9, c9, rfl⟩ := owns_slice hown9
              have hX9 := (hc9.block _ R9.out.lt R9.out.iX).trans R9.out.obj
              have HOW := hid (R9.out.item (r := (.int .i64 k3, .int .i64 n3, .string s3, .slice oi3 mi3 ci3, .slice ok3 mk3 ck3)) hm hl2 he4 hown9 HT3.out hp9 hc9)
              clear hm hl2 he4
              have hno : ∀ g, g < w.heap.size + 3 → ¬ (Value.slice o8 n8 c8).ownBlock = some g := fun g hg e => by have := (R9.out.items.block e).1; omega
              refine hK.out _ _ ⟨chg_cell hc9 (hno _ (by omega)) a3, chg_cell hc9 (hno _ (by have h0 := HGI.out; omega)) q0, chg_cell hc9 (hno _ (by have h0 := HGI.out; omega)) q1, chg_cell hc9 (hno _ (by have h0 := HGI.out; omega)) q2, chg_cell hc9 (hno _ (by have h0 := HGI.out; omega)) q3, chg_cell hc9 (hno _ (by have h0 := HGI.out; omega)) q4, chg_cell hc9 R9.out.iX h3⟩ ?_
              clear hK K hno
              try simp only [Act.put, List.setIfInBounds_toArray, List.set_cons_zero, List.set_cons_succ]
              clear a3 q0 q1 q2 q3 q4 h3
              repeat (first
                | (refine wpSteady_skip (by rfl) ?_; try simp only [Act.put, List.setIfInBounds_toArray, List.set_cons_zero, List.set_cons_succ])
                | (refine wpSteady_calm (v := ?_) (by rfl) ?_ ?_; rotate_left; (focus (intro v hSv; (try dsimp only at hSv); go_simp; (try with_reducible rfl); done)); try simp only [Act.put, List.setIfInBounds_toArray, List.set_cons_zero, List.set_cons_succ]))
              refine wpSteady_nil ?_
              refine wpList_store_one rfl 23 _ _ rfl (w.heap.size + 3) 3 _ rfl rfl _ _ hX9 (by simp) (by kernel_rfl) rfl ?_
              intro wi hzi hci
              have RI := hid (R9.out.pushI HOW.out hp9 hc9 hci hzi)
              clear hown9 hc9 hp9 hne9 hX9 hci hzi R9 HOW HT3 RK
              go_wp2_with fail
              go_roundw
              case rel => exact ⟨true, j + 1, _, _, _, _, _, _, acc ++ [(x, y)] ++ [(kj, ij)], by omega, rfl, by go_num, by simpa using RI, HE2, hid (by have := HAL.out; simp; omega)⟩
              case measure => simp [intOf]; omega
      · have HEN := hid (HE.out.trans (congrArg (acc ++ ·) (putG_end (d := d) (.inr (Nat.le_of_not_lt hlt2)))))
        clear hxa HE
        cases d with
        | true =>
          obtain ⟨q0, q1, q2, q3, q4⟩ := C5.of R.out.obj
          have HZr := hid (R.out.old (by omega) HXC.out)
          go_wp2_with (refine wpList_store_obj rfl 26 _ _ rfl (w.heap.size + 2) 0 [_, _, _, _, _] rfl rfl _ _ HZr.out (by simp) (by kernel_rfl) rfl ?_; intro ws hzs hcs)
          try simp only [Exit.inBlock, Exit.then]
          refine bodyPost_ret (results_cell_row rfl _ ws (w.heap.size + 2) 26 _ (0, 0) _ rfl hzs Try.underlying26 rfl (by kernel_rfl)) rfl ?_
          have hvw := (R.out.view (by have := HLN.out; simp; omega) (by have := HLN.out; simp; omega)).keep (Q := fun g => P g ∨ w.heap.size ≤ g) (KeepsP.chg hcs fun g hg e => hg.elim (fun hg => by have := HPL.out g hg; omega) fun hg => by omega) (fun g hg => hg.imp id fun hg => by omega)
          refine ⟨_, rfl, ?_, (HB.out.trans (chg_bel R.out.chg (fun k hk => by omega) HB.out.size)).trans (chg_bel hcs (fun k hk => by omega) (Nat.le_trans HB.out.size R.out.chg.size))⟩
          show VV _ _ _ (.mk 5 0 ⟨#[]⟩ ((putG false ks is x y).map (·.2)) ((putG false ks is x y).map (·.1)))
          rw [HEN.out]
          simpa using hvw
        | false =>
          have o4 := (cells_in R.out.obj 4).trans rfl
          go_upto_region 15 with (first | (at_builtin; refine app_tag (by rfl) (.tmp 78) (.tmp 80) 24 (by rfl) 9 (.string ⟨#[]⟩) 1 16 Try.underlying24 info9 rfl (by decide) (by decide) _ _ _ R.out.row.owns (by rfl) [.string x] wr.heap.size (by rfl) (by rfl) (by rfl) (by simp [Value.oneCell']) (by have := HLN.out; simp; omega) ?_; intro v9 w9 hown9 hc9 hp9 hne9; obtain ⟨o9, n9, c9, rfl⟩ := owns_slice hown9; have hX9 := (hc9.block _ R.out.lt R.out.kX).trans R.out.obj) | (refine wpList_store_one rfl 24 _ _ rfl (w.heap.size + 3) 4 _ rfl rfl _ _ hX9 (by simp) (by kernel_rfl) rfl ?_; intro w10 hz10 hc10))
          have R1 := hid (R.out.pushK (owns_row (l := _ ++ [x]) (by rw [strs, List.map_append]; exact hown9) (by simp)) (snoc_str R.out.str HX.out) hp9 hc9 hc10 hz10)
          clear hown9 hc9 hp9 hne9 hX9 hz10 hc10 o4
          have o3 := (cells_in R1.out.obj 3).trans rfl
          obtain ⟨e0, e1, e2, e3, e4⟩ := C5.of (R1.out.old (Nat.lt_of_sub_pos (by omega)) HXB.out)
          have HIY := hid (R1.out.vv HY.out)
          go_upto_region 16 with (first | (at_builtin; obtain ⟨rs, hm, hl2, he4⟩ := R1.out.items; refine app_tag (by rfl) (.tmp 84) (.tmp 86) 23 (by rfl) 26 (.agg #[.int .i64 0, .int .i64 0, .string ⟨#[]⟩, .slice none 0 0, .slice none 0 0]) 5 80 Try.underlying23 infoV (by rfl) (by decide) (by decide) _ _ _ hm.1 (by rfl) [.int .i64 k2, .int .i64 n2, .string s2, .slice oi2 mi2 ci2, .slice ok2 mk2 ck2] w10.heap.size (by rfl) (by rfl) (by rfl) (by simp [Value.oneCell']) (by have := HLN.out; simp; omega) ?_; intro v9 w9 hown9 hc9 hp9 hne9; obtain ⟨o8, n8, c8, rfl⟩ := owns_slice hown9; have hX9 := (hc9.block _ R1.out.lt R1.out.iX).trans R1.out.obj; have HOW := hid (R1.out.item (r := (.int .i64 k2, .int .i64 n2, .string s2, .slice oi2 mi2 ci2, .slice ok2 mk2 ck2)) hm hl2 he4 hown9 HIY.out hp9 hc9); clear hm hl2 he4) | (refine wpList_store_one rfl 23 _ _ rfl (w.heap.size + 3) 3 _ rfl rfl _ _ hX9 (by simp) (by kernel_rfl) rfl ?_; intro w11 hz10 hc10))
          have R2 := hid (R1.out.pushI HOW.out hp9 hc9 hc10 hz10)
          clear hown9 hc9 hp9 hne9 hX9 hz10 hc10 o3 e0 e1 e2 e3 e4 HIY HOW
          obtain ⟨q0, q1, q2, q3, q4⟩ := C5.of R2.out.obj
          have HZr := hid (R2.out.old (by omega) HXC.out)
          go_wp2_with (refine wpList_store_obj rfl 26 _ _ rfl (w.heap.size + 2) 0 [_, _, _, _, _] rfl rfl _ _ HZr.out (by simp) (by kernel_rfl) rfl ?_; intro ws hzs hcs)
          try simp only [Exit.inBlock, Exit.then]
          refine bodyPost_ret (results_cell_row rfl _ ws (w.heap.size + 2) 26 _ (0, 0) _ rfl hzs Try.underlying26 rfl (by kernel_rfl)) rfl ?_
          have hvw := (R2.out.view (by have := HLN.out; simp; omega) (by have := HLN.out; simp; omega)).keep (Q := fun g => P g ∨ w.heap.size ≤ g) (KeepsP.chg hcs fun g hg e => hg.elim (fun hg => by have := HPL.out g hg; omega) fun hg => by omega) (fun g hg => hg.imp id fun hg => by omega)
          refine ⟨_, rfl, ?_, (HB.out.trans (chg_bel R2.out.chg (fun k hk => by omega) HB.out.size)).trans (chg_bel hcs (fun k hk => by omega) (Nat.le_trans HB.out.size R2.out.chg.size))⟩
          show VV _ _ _ (.mk 5 0 ⟨#[]⟩ ((putG false ks is x y).map (·.2)) ((putG false ks is x y).map (·.1)))
          rw [HEN.out]
          simpa using hvw
    · have HEN := hid (HE.out.trans (congrArg (acc ++ ·) (putG_end (d := d) (.inl (Nat.le_of_not_lt hlt)))))
      clear hxa HE
      cases d with
      | true =>
        obtain ⟨q0, q1, q2, q3, q4⟩ := C5.of R.out.obj
        have HZr := hid (R.out.old (by omega) HXC.out)
        go_wp2_with (refine wpList_store_obj rfl 26 _ _ rfl (w.heap.size + 2) 0 [_, _, _, _, _] rfl rfl _ _ HZr.out (by simp) (by kernel_rfl) rfl ?_; intro ws hzs hcs)
        try simp only [Exit.inBlock, Exit.then]
        refine bodyPost_ret (results_cell_row rfl _ ws (w.heap.size + 2) 26 _ (0, 0) _ rfl hzs Try.underlying26 rfl (by kernel_rfl)) rfl ?_
        have hvw := (R.out.view (by have := HLN.out; simp; omega) (by have := HLN.out; simp; omega)).keep (Q := fun g => P g ∨ w.heap.size ≤ g) (KeepsP.chg hcs fun g hg e => hg.elim (fun hg => by have := HPL.out g hg; omega) fun hg => by omega) (fun g hg => hg.imp id fun hg => by omega)
        refine ⟨_, rfl, ?_, (HB.out.trans (chg_bel R.out.chg (fun k hk => by omega) HB.out.size)).trans (chg_bel hcs (fun k hk => by omega) (Nat.le_trans HB.out.size R.out.chg.size))⟩
        show VV _ _ _ (.mk 5 0 ⟨#[]⟩ ((putG false ks is x y).map (·.2)) ((putG false ks is x y).map (·.1)))
        rw [HEN.out]
        simpa using hvw
      | false =>
        have o4 := (cells_in R.out.obj 4).trans rfl
        go_upto_region 15 with (first | (at_builtin; refine app_tag (by rfl) (.tmp 78) (.tmp 80) 24 (by rfl) 9 (.string ⟨#[]⟩) 1 16 Try.underlying24 info9 rfl (by decide) (by decide) _ _ _ R.out.row.owns (by rfl) [.string x] wr.heap.size (by rfl) (by rfl) (by rfl) (by simp [Value.oneCell']) (by have := HLN.out; simp; omega) ?_; intro v9 w9 hown9 hc9 hp9 hne9; obtain ⟨o9, n9, c9, rfl⟩ := owns_slice hown9; have hX9 := (hc9.block _ R.out.lt R.out.kX).trans R.out.obj) | (refine wpList_store_one rfl 24 _ _ rfl (w.heap.size + 3) 4 _ rfl rfl _ _ hX9 (by simp) (by kernel_rfl) rfl ?_; intro w10 hz10 hc10))
        have R1 := hid (R.out.pushK (owns_row (l := _ ++ [x]) (by rw [strs, List.map_append]; exact hown9) (by simp)) (snoc_str R.out.str HX.out) hp9 hc9 hc10 hz10)
        clear hown9 hc9 hp9 hne9 hX9 hz10 hc10 o4
        have o3 := (cells_in R1.out.obj 3).trans rfl
        obtain ⟨e0, e1, e2, e3, e4⟩ := C5.of (R1.out.old (Nat.lt_of_sub_pos (by omega)) HXB.out)
        have HIY := hid (R1.out.vv HY.out)
        go_upto_region 16 with (first | (at_builtin; obtain ⟨rs, hm, hl2, he4⟩ := R1.out.items; refine app_tag (by rfl) (.tmp 84) (.tmp 86) 23 (by rfl) 26 (.agg #[.int .i64 0, .int .i64 0, .string ⟨#[]⟩, .slice none 0 0, .slice none 0 0]) 5 80 Try.underlying23 infoV (by rfl) (by decide) (by decide) _ _ _ hm.1 (by rfl) [.int .i64 k2, .int .i64 n2, .string s2, .slice oi2 mi2 ci2, .slice ok2 mk2 ck2] w10.heap.size (by rfl) (by rfl) (by rfl) (by simp [Value.oneCell']) (by have := HLN.out; simp; omega) ?_; intro v9 w9 hown9 hc9 hp9 hne9; obtain ⟨o8, n8, c8, rfl⟩ := owns_slice hown9; have hX9 := (hc9.block _ R1.out.lt R1.out.iX).trans R1.out.obj; have HOW := hid (R1.out.item (r := (.int .i64 k2, .int .i64 n2, .string s2, .slice oi2 mi2 ci2, .slice ok2 mk2 ck2)) hm hl2 he4 hown9 HIY.out hp9 hc9); clear hm hl2 he4) | (refine wpList_store_one rfl 23 _ _ rfl (w.heap.size + 3) 3 _ rfl rfl _ _ hX9 (by simp) (by kernel_rfl) rfl ?_; intro w11 hz10 hc10))
        have R2 := hid (R1.out.pushI HOW.out hp9 hc9 hc10 hz10)
        clear hown9 hc9 hp9 hne9 hX9 hz10 hc10 o3 e0 e1 e2 e3 e4 HIY HOW
        obtain ⟨q0, q1, q2, q3, q4⟩ := C5.of R2.out.obj
        have HZr := hid (R2.out.old (by omega) HXC.out)
        go_wp2_with (refine wpList_store_obj rfl 26 _ _ rfl (w.heap.size + 2) 0 [_, _, _, _, _] rfl rfl _ _ HZr.out (by simp) (by kernel_rfl) rfl ?_; intro ws hzs hcs)
        try simp only [Exit.inBlock, Exit.then]
        refine bodyPost_ret (results_cell_row rfl _ ws (w.heap.size + 2) 26 _ (0, 0) _ rfl hzs Try.underlying26 rfl (by kernel_rfl)) rfl ?_
        have hvw := (R2.out.view (by have := HLN.out; simp; omega) (by have := HLN.out; simp; omega)).keep (Q := fun g => P g ∨ w.heap.size ≤ g) (KeepsP.chg hcs fun g hg e => hg.elim (fun hg => by have := HPL.out g hg; omega) fun hg => by omega) (fun g hg => hg.imp id fun hg => by omega)
        refine ⟨_, rfl, ?_, (HB.out.trans (chg_bel R2.out.chg (fun k hk => by omega) HB.out.size)).trans (chg_bel hcs (fun k hk => by omega) (Nat.le_trans HB.out.size R2.out.chg.size))⟩
        show VV _ _ _ (.mk 5 0 ⟨#[]⟩ ((putG false ks is x y).map (·.2)) ((putG false ks is x y).map (·.1)))
        rw [HEN.out]
        simpa using hvw
theorem rput_any (v y : Vl) (x : ByteArray) (P : Nat → Prop) (w : World) (u uy : Value) (hv : VV P w u v) (hy : VV P w uy y) (hP : ∀ g, P g → g < w.heap.size) (hx : x.size ≤ 140737488355328) (h1 : szV v ≤ 1000000) (h2 : kyV v ≤ 1000000) :
    Calls Try.prog 29 #[u, .string x, uy] w fun e w' => ∃ u', e = .returned u' ∧ VV (fun g => P g ∨ w.heap.size ≤ g) w' u' (putR v x y) ∧ Below w.heap.size w w' :=
  rputL_any v y x P w u uy hv hy hP hx fun k n s is ks e => by
    subst e
    exact ⟨by rw [szV] at h1; have := szL_len is; omega, by rw [kyV] at h2; omega⟩
end Go.Proofs.Ytibiiafcnaijeaa
