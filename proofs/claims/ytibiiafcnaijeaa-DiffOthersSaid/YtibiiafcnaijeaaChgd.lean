/- Changed and Replaced of schema. -/
import Derived.Test.YtibiiafcnaijeaaDiffer
namespace Go.Proofs.Ytibiiafcnaijeaa
open Go Go.RowKit Go.Proofs.Ytibiiafcnaijeaa.Steady
set_option linter.unusedVariables false
set_option linter.unusedSimpArgs false

/-- Sizes under which all calls are in reach. -/
def SzOk (a : Vl) : Prop := szV a ≤ 80000 ∧ kyV a ≤ 80000
theorem filter_take {α : Type} (f : α → Bool) (l : List α) {j : Nat} (h : j < l.length) : (l.take (j + 1)).filter f = if f l[j] = true then (l.take j).filter f ++ [l[j]] else (l.take j).filter f := by
  rw [List.take_add_one, List.getElem?_eq_getElem h, List.filter_append]
  cases hf : f l[j] <;> simp [hf]
/-- The list that is being made: a row of the call's own. -/
structure FL (n : Nat) (w wr : World) (o : Value) (l : List ByteArray) : Prop where
  bel : Below n w wr
  le : n ≤ w.heap.size
  row : Row wr o l
  own : ∀ g, o.ownBlock = some g → n ≤ g
  str : ∀ s ∈ l, s.size ≤ 140737488355328
theorem FL.later {n : Nat} {w wr w' : World} {o : Value} {l : List ByteArray} (h : FL n w wr o l) (hb : Below wr.heap.size wr w') : FL n w w' o l :=
  ⟨h.bel.trans (hb.mono (Nat.le_trans h.le h.bel.size)), h.le, h.row.of_same fun g hg => hb.block g (h.row.lt hg), h.own, h.str⟩
theorem FL.push {n : Nat} {w wr w' : World} {o o' : Value} {l : List ByteArray} {x : ByteArray} (h : FL n w wr o l) (hx : x.size ≤ 140737488355328) (hown : w'.ownsRow 0 9 1 o' (l.length + 1) (strs l ++ [.string x])) (hc : Chg (fun k => o.ownBlock = some k) wr w')
    (hp : o'.ownBlock = o.ownBlock ∨ ∃ g, o'.ownBlock = some g ∧ wr.heap.size ≤ g) : FL n w w' o' (l ++ [x]) := by
  refine ⟨h.bel.trans (chg_bel hc (fun k hk => h.own k hk) (Nat.le_trans h.le h.bel.size)), h.le, owns_row (by rw [strs, List.map_append]; exact hown) (by simp), fun g hg => ?_, fun s hs => ?_⟩
  · rcases hp with e | ⟨g', e, hg'⟩
    · exact h.own g (e ▸ hg)
    · rw [e] at hg; cases hg
      exact Nat.le_trans (Nat.le_trans h.le h.bel.size) hg'
  · rcases List.mem_append.1 hs with h1 | h1
    · exact h.str s h1
    · rw [List.mem_singleton.1 h1]; exact hx
set_option maxRecDepth 100000 in
set_option maxHeartbeats 4000000 in
theorem changed_any (s : Sc) (b a : Vl) (P Q R : Nat → Prop) (w : World) (va vn x y : Value) (hs : SCV P w va vn s) (hp : VV Q w x b) (hq : VV R w y a) (hok : ScOk s) (hsz : SzOk b ∧ SzOk a) :
    Calls Try.prog 38 #[.agg #[va, vn], x, y] w (FreshS (changedS s b a) w) := by
  obtain ⟨oa, ca, rfl⟩ := hs.1.len
  obtain ⟨on, cn, rfl⟩ := hs.2.len
  have HSC := hid hs
  have HVP := hid hp
  have HVQ := hid hq
  have HOK := hid hok
  have HSZ := hid hsz
  obtain ⟨kp, np, sp, oip, mip, cip, okp, mkp, ckp, rfl⟩ := hp.agg5
  obtain ⟨kq, nq, sq, oiq, miq, ciq, okq, mkq, ckq, rfl⟩ := hq.agg5
  generalize hA : w.alloc (.cells #[.slice oa s.attrs.length ca, .slice on s.nested.length cn] 58) = wa
  have hao : wa.heap[w.heap.size]? = some (.cells #[.slice oa s.attrs.length ca, .slice on s.nested.length cn] 58) := by rw [← hA]; exact heap_alloc_at w _
  have has : wa.heap.size = w.heap.size + 1 := by rw [← hA]; simp
  have hab : Below w.heap.size w wa := by rw [← hA]; exact (Below.refl _ _).alloc (Nat.le_refl _) _
  generalize hB : wa.alloc (.cells #[.int .i64 kp, .int .i64 np, .string sp, .slice oip mip cip, .slice okp mkp ckp] 26) = wb
  have hbo : wb.heap[w.heap.size + 1]? = some (.cells #[.int .i64 kp, .int .i64 np, .string sp, .slice oip mip cip, .slice okp mkp ckp] 26) := by rw [← hB, ← has]; exact heap_alloc_at wa _
  have hbs : wb.heap.size = w.heap.size + 2 := by rw [← hB]; simp [has]
  have hbb : Below wa.heap.size wa wb := by rw [← hB]; exact (Below.refl _ _).alloc (Nat.le_refl _) _
  generalize hC : wb.alloc (.cells #[.int .i64 kq, .int .i64 nq, .string sq, .slice oiq miq ciq, .slice okq mkq ckq] 26) = wc
  have hco : wc.heap[w.heap.size + 2]? = some (.cells #[.int .i64 kq, .int .i64 nq, .string sq, .slice oiq miq ciq, .slice okq mkq ckq] 26) := by rw [← hC, ← hbs]; exact heap_alloc_at wb _
  have hcs : wc.heap.size = w.heap.size + 3 := by rw [← hC]; simp [hbs]
  have hcb : Below wb.heap.size wb wc := by rw [← hC]; exact (Below.refl _ _).alloc (Nat.le_refl _) _
  have HA0 := hid hA
  have HB0 := hid hB
  have HC0 := hid hC
  have HB := hid (hab.trans ((hbb.trans (hcb.mono hbb.size)).mono hab.size))
  have HS := hid hcs
  have HXC := hid hco
  have HXB := hid (keep_obj hbo hcb)
  have HXA := hid (keep_obj (keep_obj hao hbb) hcb)
  clear hp hq hs hok hsz hA hB hC hao hbo hco has hbs hcs hab hbb hcb

  have HNC := hid (names_any s P wc _ _ (HSC.out.bel HB.out) HOK.out)
  have HNL := hid (show (namesS s).length ≤ 2000 by rw [names_len]; have := HOK.out.1; have := HOK.out.2.1; omega)
  have HRES := hid (show changedS s b a = (namesS s).filter fun x => differV (getN b x) (getN a x) from rfl)
  have hnl := HNL.out
  generalize namesS s = ns at *
  have a0 := (cells_in HXA.out 0).trans rfl
  have a1 := (cells_in HXA.out 1).trans rfl
  go_enter Try.func38, Try.ntmps38
  go_upto_region 2 with (fail)
  rw [HA0.out, HB0.out, HC0.out]
  go_wp2_with fail
  clear a0 a1
  refine HNC.out.mono ?_
  rintro e w2 ⟨u, rfl, hu, hb2⟩
  obtain ⟨ou, cu, rfl⟩ := hu.len
  have HN := hid (hu.ex.keep (Q := fun _ => True) (KeepsP.refl _ _) fun _ _ => trivial)
  have HB2 := hid (HB.out.trans (hb2.mono HB.out.size))
  have HXB2 := hid (keep_obj HXB.out hb2)
  have HXC2 := hid (keep_obj HXC.out hb2)
  clear hu hb2 HNC
  go_wp2_with fail
  go_loopw [7, 13] (fun o i wr => ∃ (j : Nat) (oo : Option Addr) (mo co : Nat), j ≤ ns.length ∧ o = .slice oo mo co ∧ i = .int .i64 j ∧ Hid (FL w2.heap.size w2 wr (.slice oo mo co) ((ns.take j).filter fun x => differV (getN b x) (getN a x)))) (fun _ i _ => ns.length - (intOf i).toNat)
  case atStart => exact ⟨0, _, _, _, Nat.zero_le _, rfl, rfl, hid ⟨Below.refl _ _, Nat.le_refl _, .inl ⟨rfl, rfl⟩, (fun g e => by cases e), (fun s h => by cases h)⟩⟩
  case round =>
    obtain ⟨j, oo, mo, co, hj, rfl, rfl, F⟩ := hrel
    by_cases hlt : j < ns.length
    · obtain ⟨g, o, c, e1, a1⟩ := (HN.out.bel F.out.bel).at hlt
      cases e1
      have hj0 : (0 : Int) ≤ (j : Int) := by omega
      have hj1 : (j : Int) < (ns.length : Int) := by omega
      have HTK := hid (filter_take (fun x => differV (getN b x) (getN a x)) ns hlt)
      have HXS := hid (HN.out.2 ns[j] (List.getElem_mem hlt))
      have HLF := hid (show ((ns.take j).filter fun x => differV (getN b x) (getN a x)).length ≤ 2000 by
        have h1 := List.length_filter_le (fun x => differV (getN b x) (getN a x)) (ns.take j)
        have h2 := List.length_take_le j ns
        have h3 := HNL.out
        omega)
      generalize ns[j] = x at *
      generalize (ns.take j).filter (fun x => differV (getN b x) (getN a x)) = l at *
      have HXB3 := hid (keep_obj HXB2.out F.out.bel)
      have HXC3 := hid (keep_obj HXC2.out F.out.bel)
      have hdr : Below wr.heap.size wr wr.drew := below_drew (Below.refl _ _)
      have HBD := hid (HB2.out.trans ((F.out.bel.trans (hdr.mono F.out.bel.size)).mono HB2.out.size))
      have HC1 := hid (sget_any b x Q wr.drew _ (HVP.out.bel HBD.out) (by have := HSZ.out.1.1; omega) (by have := HSZ.out.1.2; omega))
      clear hdr
      have x0 := (cells_in HXB3.out 0).trans rfl
      have x1 := (cells_in HXB3.out 1).trans rfl
      have x2 := (cells_in HXB3.out 2).trans rfl
      have x3 := (cells_in HXB3.out 3).trans rfl
      have x4 := (cells_in HXB3.out 4).trans rfl
      have y0 := (cells_in HXC3.out 0).trans rfl
      have y1 := (cells_in HXC3.out 1).trans rfl
      have y2 := (cells_in HXC3.out 2).trans rfl
      have y3 := (cells_in HXC3.out 3).trans rfl
      have y4 := (cells_in HXC3.out 4).trans rfl
      go_wp2_with fail
      refine wp_region_steady (fun v => v.cell? ⟨w.heap.size + 1, 0, none⟩ = some (.int .i64 kp) ∧ v.cell? ⟨w.heap.size + 1, 1, none⟩ = some (.int .i64 np) ∧ v.cell? ⟨w.heap.size + 1, 2, none⟩ = some (.string sp) ∧ v.cell? ⟨w.heap.size + 1, 3, none⟩ = some (.slice oip mip cip) ∧ v.cell? ⟨w.heap.size + 1, 4, none⟩ = some (.slice okp mkp ckp) ∧ v.cell? ⟨w.heap.size + 1 + 1, 0, none⟩ = some (.int .i64 kq) ∧ v.cell? ⟨w.heap.size + 1 + 1, 1, none⟩ = some (.int .i64 nq) ∧ v.cell? ⟨w.heap.size + 1 + 1, 2, none⟩ = some (.string sq) ∧ v.cell? ⟨w.heap.size + 1 + 1, 3, none⟩ = some (.slice oiq miq ciq) ∧ v.cell? ⟨w.heap.size + 1 + 1, 4, none⟩ = some (.slice okq mkq ckq)) (by kernel_rfl) (by kernel_rfl) (⟨x0, x1, x2, x3, x4, y0, y1, y2, y3, y4⟩) ?_
      repeat (first
        | (refine wpSteady_skip (by rfl) ?_; try simp only [Act.put, List.setIfInBounds_toArray, List.set_cons_zero, List.set_cons_succ])
        | (refine wpSteady_calm (v := ?_) (by rfl) ?_ ?_; rotate_left; (focus (intro v hSv; (try dsimp only at hSv); go_simp; (try with_reducible rfl); done)); try simp only [Act.put, List.setIfInBounds_toArray, List.set_cons_zero, List.set_cons_succ]))
      refine wpSteady_loud rfl (by rfl) (fun K hK => ?_)
      go_simp
      refine HC1.out.mono ?_; rintro e w3 ⟨u1, rfl, hu1, hb3⟩
      obtain ⟨k3, n3, s3, oi3, mi3, ci3, ok3, mk3, ck3, rfl⟩ := hu1.agg5
      have HU1 := hid hu1
      have HB3 := hid hb3
      have HC2 := hid (sget_any a x R w3 _ (HVQ.out.bel (HBD.out.trans (hb3.mono HBD.out.size))) (by have := HSZ.out.2.1; omega) (by have := HSZ.out.2.2; omega))
      have r0 := bcell (W := wr.drew) hb3 x0
      have r1 := bcell (W := wr.drew) hb3 x1
      have r2 := bcell (W := wr.drew) hb3 x2
      have r3 := bcell (W := wr.drew) hb3 x3
      have r4 := bcell (W := wr.drew) hb3 x4
      have t0 := bcell (W := wr.drew) hb3 y0
      have t1 := bcell (W := wr.drew) hb3 y1
      have t2 := bcell (W := wr.drew) hb3 y2
      have t3 := bcell (W := wr.drew) hb3 y3
      have t4 := bcell (W := wr.drew) hb3 y4
      clear hu1 hb3 HC1 x0 x1 x2 x3 x4 y0 y1 y2 y3 y4
      refine hK.out _ _ (⟨r0, r1, r2, r3, r4, t0, t1, t2, t3, t4⟩) ?_
      clear hK K
      try simp only [Act.put, List.setIfInBounds_toArray, List.set_cons_zero, List.set_cons_succ]
      repeat (first
        | (refine wpSteady_skip (by rfl) ?_; try simp only [Act.put, List.setIfInBounds_toArray, List.set_cons_zero, List.set_cons_succ])
        | (refine wpSteady_calm (v := ?_) (by rfl) ?_ ?_; rotate_left; (focus (intro v hSv; (try dsimp only at hSv); go_simp; (try with_reducible rfl); done)); try simp only [Act.put, List.setIfInBounds_toArray, List.set_cons_zero, List.set_cons_succ]))
      refine wpSteady_loud rfl (by rfl) (fun K hK => ?_)
      go_simp
      refine HC2.out.mono ?_; rintro e w4 ⟨u2, rfl, hu2, hb4⟩
      obtain ⟨k4, n4, s4, oi4, mi4, ci4, ok4, mk4, ck4, rfl⟩ := hu2.agg5
      have HC3 := hid (differ_any (getN b x) (getN a x) _ _ w4 _ _ (HU1.out.bel hb4) hu2)
      have HB4 := hid (HB3.out.trans (hb4.mono HB3.out.size))
      have x0 := bcell (W := w3) hb4 r0
      have x1 := bcell (W := w3) hb4 r1
      have x2 := bcell (W := w3) hb4 r2
      have x3 := bcell (W := w3) hb4 r3
      have x4 := bcell (W := w3) hb4 r4
      have y0 := bcell (W := w3) hb4 t0
      have y1 := bcell (W := w3) hb4 t1
      have y2 := bcell (W := w3) hb4 t2
      have y3 := bcell (W := w3) hb4 t3
      have y4 := bcell (W := w3) hb4 t4
      clear hu2 hb4 HC2 r0 r1 r2 r3 r4 t0 t1 t2 t3 t4 HU1 HB3
      refine hK.out _ _ (⟨x0, x1, x2, x3, x4, y0, y1, y2, y3, y4⟩) ?_
      clear hK K
      try simp only [Act.put, List.setIfInBounds_toArray, List.set_cons_zero, List.set_cons_succ]
      obtain ⟨df, hdf⟩ : ∃ df, differV (getN b x) (getN a x) = df := ⟨_, rfl⟩
      rw [hdf] at HC3
      simp only [hdf] at HTK
      clear hdf
      refine wpSteady_loud rfl (by rfl) (fun K hK => ?_)
      go_simp
      refine HC3.out.mono ?_; rintro e w5 ⟨rfl, hb5⟩
      have F5 := hid (F.out.later (show Below wr.heap.size wr w5 from by
        have h := HB4.out.trans (hb5.mono HB4.out.size)
        exact ⟨h.os, h.tape, h.output, h.size, h.block⟩))
      have r0 := bcell (W := w4) hb5 x0
      have r1 := bcell (W := w4) hb5 x1
      have r2 := bcell (W := w4) hb5 x2
      have r3 := bcell (W := w4) hb5 x3
      have r4 := bcell (W := w4) hb5 x4
      have t0 := bcell (W := w4) hb5 y0
      have t1 := bcell (W := w4) hb5 y1
      have t2 := bcell (W := w4) hb5 y2
      have t3 := bcell (W := w4) hb5 y3
      have t4 := bcell (W := w4) hb5 y4
      clear hb5 HC3 x0 x1 x2 x3 x4 y0 y1 y2 y3 y4
      refine hK.out _ _ (⟨r0, r1, r2, r3, r4, t0, t1, t2, t3, t4⟩) ?_
      clear hK K
      try simp only [Act.put, List.setIfInBounds_toArray, List.set_cons_zero, List.set_cons_succ]
      refine wpSteady_nil ?_
      clear r0 r1 r2 r3 r4 t0 t1 t2 t3 t4
      cases df with
      | false =>
        rw [if_neg (by decide)] at HTK
        go_wp2_with fail
        go_roundw
        case rel => exact ⟨j + 1, _, _, _, by omega, rfl, by go_num, by rw [HTK.out]; exact F5⟩
        case measure => simp [intOf]; omega
      | true =>
        rw [if_pos rfl] at HTK
        go_upto_region 7 with (at_builtin; refine app_tag (by rfl) (.tmp 24) (.tmp 26) 24 (by rfl) 9 (.string ⟨#[]⟩) 1 16 Try.underlying24 info9 rfl (by decide) (by decide) _ _ _ F5.out.row.owns (by rfl) [.string x] w5.heap.size (by rfl) (by rfl) (by rfl) (by simp [Value.oneCell']) (by have := HLF.out; omega) ?_; intro v9 w9 hown9 hc9 hp9 hne9; obtain ⟨o9, n9, c9, rfl⟩ := owns_slice hown9; have HF9 := hid (F5.out.push HXS.out hown9 hc9 hp9); clear hown9 hc9 hp9 hne9)
        go_wp2_with fail
        go_roundw
        case rel => exact ⟨j + 1, _, _, _, by omega, rfl, by go_num, by rw [HTK.out]; exact HF9⟩
        case measure => simp [intOf]; omega
    · rw [List.take_of_length_le (by omega), ← HRES.out] at F
      have HLC := hid (show (changedS s b a).length ≤ 2000 by rw [HRES.out]; have h1 := List.length_filter_le (fun x => differV (getN b x) (getN a x)) ns; have := HNL.out; omega)
      have HB3 := hid (HB2.out.trans (F.out.bel.mono HB2.out.size))
      go_wp2_with fail
      go_ret
      exact ⟨_, rfl, F.out.row.sv (fun g e => by have := F.out.own g e; have := HB2.out.size; omega) (by have := HLC.out; omega) F.out.str, HB3.out⟩
end Go.Proofs.Ytibiiafcnaijeaa
