/- Replaced of schema. -/
import Derived.Test.YtibiiafcnaijeaaChgd
namespace Go.Proofs.Ytibiiafcnaijeaa
open Go Go.RowKit Go.Proofs.Ytibiiafcnaijeaa.Steady
set_option linter.unusedVariables false
set_option linter.unusedSimpArgs false

set_option maxRecDepth 100000 in
set_option maxHeartbeats 4000000 in
theorem replaced_any (s : Sc) (b a : Vl) (P Q R : Nat → Prop) (w : World) (va vn x y : Value) (hs : SCV P w va vn s) (hp : VV Q w x b) (hq : VV R w y a) (hok : ScOk s) (hsz : SzOk b ∧ SzOk a) :
    Calls Try.prog 36 #[.agg #[va, vn], x, y] w (FreshS (replacedS s b a) w) := by
  obtain ⟨oa, ca, rfl⟩ := hs.1.len
  obtain ⟨on, cn, rfl⟩ := hs.2.len
  have HSC := hid hs
  have HVP := hid hp
  have HVQ := hid hq
  have HOK := hid hok
  have HSZ := hid hsz
  obtain ⟨kp, np, sp, oip, mip, cip, okp, mkp, ckp, rfl⟩ := hp.agg5
  obtain ⟨kq, nq, sq, oiq, miq, ciq, okq, mkq, ckq, rfl⟩ := hq.agg5
  generalize hA : w.alloc (.cells #[.slice oa s.attrs.length ca, .slice on s.nested.length cn] 58) = wa
  have hao : wa.heap[w.heap.size]? = some (.cells #[.slice oa s.attrs.length ca, .slice on s.nested.length cn] 58) := by rw [← hA]; exact heap_alloc_at w _
  have has : wa.heap.size = w.heap.size + 1 := by rw [← hA]; simp
  have hab : Below w.heap.size w wa := by rw [← hA]; exact (Below.refl _ _).alloc (Nat.le_refl _) _
  generalize hB : wa.alloc (.cells #[.int .i64 kp, .int .i64 np, .string sp, .slice oip mip cip, .slice okp mkp ckp] 26) = wb
  have hbo : wb.heap[w.heap.size + 1]? = some (.cells #[.int .i64 kp, .int .i64 np, .string sp, .slice oip mip cip, .slice okp mkp ckp] 26) := by rw [← hB, ← has]; exact heap_alloc_at wa _
  have hbs : wb.heap.size = w.heap.size + 2 := by rw [← hB]; simp [has]
  have hbb : Below wa.heap.size wa wb := by rw [← hB]; exact (Below.refl _ _).alloc (Nat.le_refl _) _
  generalize hC : wb.alloc (.cells #[.int .i64 kq, .int .i64 nq, .string sq, .slice oiq miq ciq, .slice okq mkq ckq] 26) = wc
  have hco : wc.heap[w.heap.size + 2]? = some (.cells #[.int .i64 kq, .int .i64 nq, .string sq, .slice oiq miq ciq, .slice okq mkq ckq] 26) := by rw [← hC, ← hbs]; exact heap_alloc_at wb _
  have hcs : wc.heap.size = w.heap.size + 3 := by rw [← hC]; simp [hbs]
  have hcb : Below wb.heap.size wb wc := by rw [← hC]; exact (Below.refl _ _).alloc (Nat.le_refl _) _
  have HA0 := hid hA
  have HB0 := hid hB
  have HC0 := hid hC
  have HB := hid (hab.trans ((hbb.trans (hcb.mono hbb.size)).mono hab.size))
  have HS := hid hcs
  have HXC := hid hco
  have HXB := hid (keep_obj hbo hcb)
  have HXA := hid (keep_obj (keep_obj hao hbb) hcb)
  clear hp hq hs hok hsz hA hB hC hao hbo hco has hbs hcs hab hbb hcb

  have HNC := hid (changed_any s b a P Q R wc _ _ _ _ (HSC.out.bel HB.out) (HVP.out.bel HB.out) (HVQ.out.bel HB.out) HOK.out HSZ.out)
  have HNL := hid (show (changedS s b a).length ≤ 2000 by have h1 : (changedS s b a).length ≤ (namesS s).length := List.length_filter_le _ _; rw [names_len] at h1; have := HOK.out.1; have := HOK.out.2.1; omega)
  have HRES := hid (show replacedS s b a = (changedS s b a).filter (repS s) from rfl)
  have hnl := HNL.out
  generalize changedS s b a = ns at *
  have a0 := (cells_in HXA.out 0).trans rfl
  have a1 := (cells_in HXA.out 1).trans rfl
  have b0 := (cells_in HXB.out 0).trans rfl
  have b1 := (cells_in HXB.out 1).trans rfl
  have b2 := (cells_in HXB.out 2).trans rfl
  have b3 := (cells_in HXB.out 3).trans rfl
  have b4 := (cells_in HXB.out 4).trans rfl
  have c0 := (cells_in HXC.out 0).trans rfl
  have c1 := (cells_in HXC.out 1).trans rfl
  have c2 := (cells_in HXC.out 2).trans rfl
  have c3 := (cells_in HXC.out 3).trans rfl
  have c4 := (cells_in HXC.out 4).trans rfl
  go_enter Try.func36, Try.ntmps36
  go_upto_region 2 with (fail)
  rw [HA0.out, HB0.out, HC0.out]
  go_wp2_with fail
  clear a0 a1 b0 b1 b2 b3 b4 c0 c1 c2 c3 c4
  refine HNC.out.mono ?_
  rintro e w2 ⟨u, rfl, hu, hb2⟩
  obtain ⟨ou, cu, rfl⟩ := hu.len
  have HN := hid (hu.ex.keep (Q := fun _ => True) (KeepsP.refl _ _) fun _ _ => trivial)
  have HB2 := hid (HB.out.trans (hb2.mono HB.out.size))
  have HXA2 := hid (keep_obj HXA.out hb2)
  clear hu hb2 HNC HXB HXC
  go_wp2_with fail
  go_loopw [7, 19] (fun o i wr => ∃ (j : Nat) (oo : Option Addr) (mo co : Nat), j ≤ ns.length ∧ o = .slice oo mo co ∧ i = .int .i64 j ∧ Hid (FL w2.heap.size w2 wr (.slice oo mo co) ((ns.take j).filter (repS s)))) (fun _ i _ => ns.length - (intOf i).toNat)
  case atStart => exact ⟨0, _, _, _, Nat.zero_le _, rfl, rfl, hid ⟨Below.refl _ _, Nat.le_refl _, .inl ⟨rfl, rfl⟩, (fun g e => by cases e), (fun s h => by cases h)⟩⟩
  case round =>
    obtain ⟨j, oo, mo, co, hj, rfl, rfl, F⟩ := hrel
    by_cases hlt : j < ns.length
    · obtain ⟨g, o, c, e1, a1'⟩ := (HN.out.bel F.out.bel).at hlt
      cases e1
      have hj0 : (0 : Int) ≤ (j : Int) := by omega
      have hj1 : (j : Int) < (ns.length : Int) := by omega
      have HTK := hid (filter_take (repS s) ns hlt)
      have HXS := hid (HN.out.2 ns[j] (List.getElem_mem hlt))
      have HLF := hid (show ((ns.take j).filter (repS s)).length ≤ 2000 by
        have h1 := List.length_filter_le (repS s) (ns.take j)
        have h2 := List.length_take_le j ns
        have h3 := HNL.out
        omega)
      generalize ns[j] = x at *
      generalize (ns.take j).filter (repS s) = l at *
      have HRP := hid (show repS s x = (repO (fndA s.attrs x) || repK (fndK s.nested x)) from rfl)
      have HXA3 := hid (keep_obj HXA2.out F.out.bel)
      have HBD := hid (HB2.out.trans (F.out.bel.mono HB2.out.size))
      have HC1 := hid (find_any s x P wr _ _ (HSC.out.bel HBD.out) HOK.out)
      have a0 := (cells_in HXA3.out 0).trans rfl
      have a1 := (cells_in HXA3.out 1).trans rfl
      go_wp2_with fail
      clear a0 a1 a1'
      refine HC1.out.mono ?_; rintro e w3 ⟨nm3, k3, oe3, me3, ce3, on3, mn3, cn3, rfl, hb3⟩
      generalize modeO (fndA s.attrs x) = md3 at *
      generalize repO (fndA s.attrs x) = rp3 at *
      generalize sensO (fndA s.attrs x) = sn3 at *
      generalize volO (fndA s.attrs x) = vl3 at *
      generalize (fndA s.attrs x).isSome = is3 at *
      go_upto_region 6 with (fail)
      have hal := (Below.refl w3.heap.size w3).alloc (Nat.le_refl _) (.cells #[.string nm3, .int .i64 k3, .slice oe3 me3 ce3, .slice on3 mn3 cn3, .int .i64 md3, .bool rp3, .bool sn3, .bool vl3] 82)
      have hxo := heap_alloc_at w3 (.cells #[.string nm3, .int .i64 k3, .slice oe3 me3 ce3, .slice on3 mn3 cn3, .int .i64 md3, .bool rp3, .bool sn3, .bool vl3] 82)
      generalize w3.alloc (.cells #[.string nm3, .int .i64 k3, .slice oe3 me3 ce3, .slice on3 mn3 cn3, .int .i64 md3, .bool rp3, .bool sn3, .bool vl3] 82) = w4 at *
      have F4 := hid (F.out.later (hb3.trans (hal.mono hb3.size)))
      have HXA4 := hid (keep_obj (keep_obj HXA3.out hb3) hal)
      have HXO := hid hxo
      have HC2 := hid (kind_any s x P w4 _ _ (HSC.out.bel (HBD.out.trans ((hb3.trans (hal.mono hb3.size)).mono HBD.out.size))))
      clear hb3 hal hxo HC1
      have a0 := (cells_in HXA4.out 0).trans rfl
      have a1 := (cells_in HXA4.out 1).trans rfl
      go_wp2_with fail
      clear a0 a1
      refine HC2.out.mono ?_; rintro e w5 ⟨nm5, mn5, mx5, oa5, ma5, ca5, rfl, hb5⟩
      generalize repK (fndK s.nested x) = rp5 at *
      generalize (fndK s.nested x).isSome = is5 at *
      go_upto_region 7 with (fail)
      have hal := (Below.refl w5.heap.size w5).alloc (Nat.le_refl _) (.cells #[.string nm5, .int .i64 mn5, .int .i64 mx5, .slice oa5 ma5 ca5, .bool rp5] 101)
      have hxn := heap_alloc_at w5 (.cells #[.string nm5, .int .i64 mn5, .int .i64 mx5, .slice oa5 ma5 ca5, .bool rp5] 101)
      generalize w5.alloc (.cells #[.string nm5, .int .i64 mn5, .int .i64 mx5, .slice oa5 ma5 ca5, .bool rp5] 101) = w6 at *
      have F6 := hid (F4.out.later (hb5.trans (hal.mono hb5.size)))
      have h5 := (cells_in (keep_obj (keep_obj HXO.out hb5) hal) 5).trans rfl
      have h4 := (cells_in hxn 4).trans rfl
      clear hb5 hal hxn HC2
      rw [HRP.out] at HTK
      cases rp3 with
      | true =>
        rw [if_pos (by rfl)] at HTK
        go_upto_region 9 with (at_builtin; refine app_tag (by rfl) (.tmp 41) (.tmp 43) 24 (by rfl) 9 (.string ⟨#[]⟩) 1 16 Try.underlying24 info9 rfl (by decide) (by decide) _ _ _ F6.out.row.owns (by rfl) [.string x] w6.heap.size (by rfl) (by rfl) (by rfl) (by simp [Value.oneCell']) (by have := HLF.out; omega) ?_; intro v9 w9 hown9 hc9 hp9 hne9; obtain ⟨o9, n9, c9, rfl⟩ := owns_slice hown9; have HF9 := hid (F6.out.push HXS.out hown9 hc9 hp9); clear hown9 hc9 hp9 hne9)
        go_wp2_with fail
        go_roundw
        case rel => exact ⟨j + 1, _, _, _, by omega, rfl, by go_num, by rw [HTK.out]; exact HF9⟩
        case measure => simp [intOf]; omega
      | false =>
        cases rp5 with
        | true =>
          rw [if_pos (by rfl)] at HTK
          go_upto_region 9 with (at_builtin; refine app_tag (by rfl) (.tmp 41) (.tmp 43) 24 (by rfl) 9 (.string ⟨#[]⟩) 1 16 Try.underlying24 info9 rfl (by decide) (by decide) _ _ _ F6.out.row.owns (by rfl) [.string x] w6.heap.size (by rfl) (by rfl) (by rfl) (by simp [Value.oneCell']) (by have := HLF.out; omega) ?_; intro v9 w9 hown9 hc9 hp9 hne9; obtain ⟨o9, n9, c9, rfl⟩ := owns_slice hown9; have HF9 := hid (F6.out.push HXS.out hown9 hc9 hp9); clear hown9 hc9 hp9 hne9)
          go_wp2_with fail
          go_roundw
          case rel => exact ⟨j + 1, _, _, _, by omega, rfl, by go_num, by rw [HTK.out]; exact HF9⟩
          case measure => simp [intOf]; omega
        | false =>
          rw [if_neg (by decide)] at HTK
          go_wp2_with fail
          go_roundw
          case rel => exact ⟨j + 1, _, _, _, by omega, rfl, by go_num, by rw [HTK.out]; exact F6⟩
          case measure => simp [intOf]; omega
    · rw [List.take_of_length_le (by omega), ← HRES.out] at F
      have HLC := hid (show (replacedS s b a).length ≤ 2000 by rw [HRES.out]; have h1 := List.length_filter_le (repS s) ns; have := HNL.out; omega)
      have HB3 := hid (HB2.out.trans (F.out.bel.mono HB2.out.size))
      go_wp2_with fail
      go_ret
      exact ⟨_, rfl, F.out.row.sv (fun g e => by have := F.out.own g e; have := HB2.out.size; omega) (by have := HLC.out; omega) F.out.str, HB3.out⟩
end Go.Proofs.Ytibiiafcnaijeaa
