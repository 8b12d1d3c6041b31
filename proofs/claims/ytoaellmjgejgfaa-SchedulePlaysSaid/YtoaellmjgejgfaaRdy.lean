/- slices.DeleteFunc with Ready's closure; Ready. -/
import Derived.Test.YtoaellmjgejgfaaFail
namespace Go.Proofs.Ytoaellmjgejgfaa
open Go Go.RowKit Go.Shelf
set_option linter.unusedVariables false

/-- What Ready's predicate says of x. -/
def notReady (s : St) (x : Int) : Bool := !readyB s x.toNat (s.needs.getD x.toNat [])

set_option maxRecDepth 100000 in
set_option maxHeartbeats 1000000 in
theorem cl47 {own : Nat → Nat} {w : World} {b : Nat} {s : St} (h : Sch own w b s) (hg : Good s) (fb : Nat) (hc : w.cell? ⟨fb, 0, none⟩ = some (.pointer (some ⟨b, 0, none⟩))) (x : Int) (hx : 0 ≤ x ∧ x < s.needs.length) :
    Calls Try.prog 47 #[.int .i64 x, .pointer (some ⟨fb, 0, none⟩)] w (MPost own w b s (fun r _ _ => r = .bool (notReady s x))) := by
  obtain ⟨n, rfl⟩ : ∃ n : Nat, x = n := ⟨x.toNat, by omega⟩
  have hn : s.needs[n]? = some (s.needs.getD n []) := by
    rw [List.getD_eq_getElem?_getD, List.getElem?_eq_getElem (by omega)]; rfl
  have hr := ready_any h hg n _ hn
  have hnr : notReady s n = !readyB s n (s.needs.getD n []) := rfl
  rw [hnr]
  generalize readyB s n (s.needs.getD n []) = bb at *
  have Hr := hid hr
  clear h hg hr hnr hn hx
  go_enter Try.func47, Try.ntmps47
  go_wp2_with fail
  refine Hr.out.mono ?_; rintro e w1 ⟨r, own1, rfl, h1, h2, h3, rfl⟩
  have HP := hid (⟨h1, h2, h3⟩ : SameOwn w own own1 ∧ Sch own1 w1 b _ ∧ Chg (fun k => own k ≠ 0 ∧ own k ≤ 7) w w1)
  clear h1 h2 h3
  go_wp2_with fail
  go_ret
  exact ⟨_, own1, rfl, HP.out.1, HP.out.2.1, HP.out.2.2, rfl⟩

/-- What DeleteFunc keeps. -/
def keepL (s : St) (l : List Int) : List Int := l.filter fun x => !notReady s x

def DelInv (own : Nat → Nat) (w : World) (b : Nat) (s : St) (fb blk : Nat) (pad : List Value) (dk : List Int) (wr : World) : Prop :=
  ∃ own', SameOwn w own own' ∧ Sch own' wr b s ∧ Chg (fun k => (own k ≠ 0 ∧ own k ≤ 7) ∨ k = blk) w wr ∧ wr.cell? ⟨fb, 0, none⟩ = some (.pointer (some ⟨b, 0, none⟩)) ∧ wr.heap[blk]? = some (.cells (ints dk ++ pad).toArray 3)

theorem DelInv.call {own : Nat → Nat} {w : World} {b : Nat} {s : St} {fb blk : Nat} {pad : List Value} {dk : List Int} {wr : World} (h : DelInv own w b s fb blk pad dk wr) (hg : Good s) (hfb : fb < w.heap.size) (hfo : own fb = 0 ∨ 7 < own fb) (hbl : blk < w.heap.size) (hbo : own blk = 0)
    (x : Int) (hx : 0 ≤ x ∧ x < s.needs.length) :
    Calls Try.prog 47 #[.int .i64 x, .pointer (some ⟨fb, 0, none⟩)] wr fun e w' => e = .returned (.bool (notReady s x)) ∧ DelInv own w b s fb blk pad dk w' := by
  obtain ⟨own', h1, h2, h3, h4, h5⟩ := h
  refine (cl47 h2 hg fb h4 x hx).mono ?_
  rintro e w' ⟨r, own2, rfl, p1, p2, p3, rfl⟩
  have hfb' : fb < wr.heap.size := Nat.lt_of_lt_of_le hfb h3.size
  have hbl' : blk < wr.heap.size := Nat.lt_of_lt_of_le hbl h3.size
  refine ⟨rfl, own2, h1.trans p1 h3.size, p2, ?_, ?_, ?_⟩
  · refine ⟨p3.os.trans h3.os, p3.tape.trans h3.tape, p3.output.trans h3.output, Nat.le_trans h3.size p3.size, fun k hk hn => ?_⟩
    exact (p3.block k (Nat.lt_of_lt_of_le hk h3.size) (by rw [h1 k hk]; exact fun h => hn (.inl h))).trans (h3.block k hk hn)
  · rw [World.cell?_of_block (p3.block fb hfb' (by rw [h1 fb hfb]; omega))]
    exact h4
  · rw [p3.block blk hbl' (by rw [h1 blk hbl]; omega)]
    exact h5

theorem idx_spec (p : Int → Bool) (l : List Int) : (idxP p l 0 = -1 ∧ l.filter (fun x => !p x) = l) ∨ ∃ k, k < l.length ∧ idxP p l 0 = (k : Int) ∧ p (l.getD k 0) = true ∧ (l.take k).filter (fun x => !p x) = l.take k := by
  by_cases h : ∃ k, k < l.length ∧ p (l.getD k 0) = true
  · classical
    have hm : ∃ k, (k < l.length ∧ p (l.getD k 0) = true) ∧ ∀ j, j < k → ¬ (j < l.length ∧ p (l.getD j 0) = true) := by
      obtain ⟨k, hk⟩ := h
      induction k using Nat.strongRecOn with
      | _ k ih =>
        by_cases hj : ∃ j, j < k ∧ (j < l.length ∧ p (l.getD j 0) = true)
        · obtain ⟨j, hj, hj2⟩ := hj; exact ih j hj hj2
        · exact ⟨k, hk, fun j hj2 h => hj ⟨j, hj2, h⟩⟩
    obtain ⟨k, ⟨h1, h2⟩, h3⟩ := hm
    have hno : ∀ j, j < k → p (l.getD j 0) = false := fun j hj => by
      cases hp : p (l.getD j 0) with
      | false => rfl
      | true => exact absurd ⟨by omega, hp⟩ (h3 j hj)
    refine .inr ⟨k, h1, by rw [idxP_hit p l 0 k h1 h2 hno]; simp, h2, ?_⟩
    rw [List.filter_eq_self]
    intro a ha
    obtain ⟨j, hj, rfl⟩ := List.getElem_of_mem ha
    have hjk : j < k := by simp at hj; omega
    have := hno j hjk
    rw [List.getD_eq_getElem?_getD, List.getElem?_eq_getElem (by omega)] at this
    simp only [Option.getD_some] at this
    rw [List.getElem_take, this]; rfl
  · have hno : ∀ j, j < l.length → p (l.getD j 0) = false := fun j hj => by
      cases hp : p (l.getD j 0) with
      | false => rfl
      | true => exact absurd ⟨j, hj, hp⟩ h
    refine .inl ⟨idxP_none p l 0 hno, ?_⟩
    rw [List.filter_eq_self]
    intro a ha
    obtain ⟨j, hj, rfl⟩ := List.getElem_of_mem ha
    have := hno j hj
    rw [List.getD_eq_getElem?_getD, List.getElem?_eq_getElem hj] at this
    simp only [Option.getD_some] at this
    rw [this]; rfl

def DelPost2 (own : Nat → Nat) (w : World) (b : Nat) (s : St) (fb blk : Nat) (pad : List Value) (l : List Int) (e : Ending) (w' : World) : Prop :=
  e = .returned (.slice (some ⟨blk, 0, none⟩) (keepL s l).length (l.length + pad.length)) ∧ ∃ dk, dk.length = l.length ∧ dk.take (keepL s l).length = keepL s l ∧ DelInv own w b s fb blk pad dk w'

set_option maxRecDepth 100000 in
set_option maxHeartbeats 4000000 in
theorem delf_any {own : Nat → Nat} {w : World} {b : Nat} {s : St} {fb blk : Nat} {pad : List Value} {l : List Int} (h : DelInv own w b s fb blk pad l w) (hg : Good s) (hfb : fb < w.heap.size) (hfo : own fb = 0 ∨ 7 < own fb) (hbl : blk < w.heap.size) (hbo : own blk = 0) (hne : fb ≠ blk)
    (hr : ∀ x ∈ l, 0 ≤ x ∧ x < s.needs.length) (hl : l.length ≤ 100000) (hc : l.length + pad.length ≤ 9223372036854775807) :
    Calls Try.prog 46 #[.slice (some ⟨blk, 0, none⟩) l.length (l.length + pad.length), .func (.func 47) #[] #[.pointer (some ⟨fb, 0, none⟩)]] w (DelPost2 own w b s fb blk pad l) := by
  have hidx := index_r (DelInv own w b s fb blk pad l) fb _ l hl (notReady s) (fun W hW => .inr ⟨blk, pad, rfl, hW.choose_spec.2.2.2.2, hc⟩)
    (fun W x hx hW => hW.call hg hfb hfo hbl hbo x (hr x hx)) w h
  have hcall := fun dk W (hW : DelInv own w b s fb blk pad dk W) x hx => hW.call hg hfb hfo hbl hbo x hx
  have Hcall := hid hcall
  rcases idx_spec (notReady s) l with ⟨e1, e2⟩ | ⟨k0, hk0, e1, e2, e3⟩
  · rw [e1] at hidx
    have Hidx := hid hidx
    have HE := hid e2
    clear h hg hr hidx hcall e1 e2
    go_enter Try.func46, Try.ntmps46
    go_wp2_with fail
    refine Hidx.out.mono ?_; rintro e w' ⟨rfl, hi⟩
    have HI := hid hi
    clear hi
    go_wp2_with fail
    go_ret
    have hk : keepL s l = l := HE.out
    refine ⟨by rw [hk]; rfl, l, rfl, by rw [hk]; exact List.take_length, HI.out⟩
  · rw [e1] at hidx
    have Hidx := hid hidx
    have hE0 : l.take k0 = keepL s (l.take (k0 + 1)) := by
      unfold keepL
      rw [List.take_succ_eq_append_getElem hk0, List.filter_append, e3]
      rw [List.getD_eq_getElem?_getD, List.getElem?_eq_getElem hk0, Option.getD_some] at e2
      simp [e2]
    have HE := hid hE0
    have HR := hid hr
    have hne1 : ((k0 : Int) == -1) = false := beq_eq_false_iff_ne.2 (by omega)
    clear h hg hr hidx hcall e1 e2 e3 hE0
    go_enter Try.func46, Try.ntmps46
    go_wp2_with fail
    refine Hidx.out.mono ?_; rintro e w1 ⟨rfl, hi⟩
    have HI := hid hi
    clear hi
    go_wp2_with fail
    go_loopw [5, 6, 7] (fun i j _ wr => ∃ (a c : Nat) (dk : List Int), i = .int .i64 a ∧ j = .int .i64 c ∧ a + 1 ≤ c ∧ c ≤ l.length ∧ Hid (DelInv own w b s fb blk pad dk wr) ∧ Hid (dk.length = l.length ∧ dk.take a = keepL s (l.take c) ∧ dk.drop c = l.drop c)) (fun _ j _ _ => l.length - (intOf j).toNat)
    case atStart => exact ⟨k0, k0 + 1, l, rfl, by go_num, by omega, by omega, HI, hid ⟨rfl, HE.out, rfl⟩⟩
    case round =>
      obtain ⟨a, c, dk, rfl, rfl, hac, hcl, J, D⟩ := hrel
      obtain ⟨own1, j1, j2, j3, j4, j5⟩ := J.out
      have hdl := D.out.1
      have hcells : ∀ i, i < l.length → wr.cell? ⟨blk, i, none⟩ = some (.int .i64 (dk.getD i 0)) := fun i hi => by
        have := row_cells j5 i (by omega); rwa [Nat.zero_add] at this
      have hfr : ∀ i, wr.frozen? ⟨blk, i, none⟩ = false := fun i => frozen_in j5 i
      have Hcells := hid hcells
      have Hfr := hid hfr
      have J5 := hid j5
      clear j1 j2 j3 j4 j5 hcells hfr
      by_cases hlt : c < l.length
      · have hc0 : (0 : Int) ≤ (c : Int) := by omega
        have hc1 : (c : Int) < (l.length : Int) := by omega
        have ha0 : (0 : Int) ≤ (a : Int) := by omega
        have ha1 : (a : Int) < (l.length : Int) := by omega
        have hx : dk.getD c 0 = l.getD c 0 := by
          have h1 := congrArg (fun m : List Int => m.getD 0 0) D.out.2.2
          simpa [List.getD_eq_getElem?_getD] using h1
        have hcell := Hcells.out c hlt
        have hcella := Hcells.out a (by omega)
        have hfa := Hfr.out a
        rw [hx] at hcell
        have hmem : l.getD c 0 ∈ l := by rw [List.getD_eq_getElem?_getD, List.getElem?_eq_getElem hlt]; exact List.getElem_mem hlt
        have hsn : keepL s (l.take (c + 1)) = keepL s (l.take c) ++ if notReady s (l.getD c 0) then [] else [l.getD c 0] := by
          unfold keepL
          rw [List.take_succ_eq_append_getElem hlt, List.filter_append, List.getD_eq_getElem?_getD, List.getElem?_eq_getElem hlt, Option.getD_some]
          cases hq : notReady s l[c] <;> simp [hq]
        have hcl1 := Hcall.out dk wr J.out (l.getD c 0) (HR.out _ hmem)
        generalize dk.getD a 0 = old at hcella
        have hdr : l.drop (c + 1) = (l.drop c).drop 1 := by rw [List.drop_drop]
        generalize hxx : l.getD c 0 = x at *
        have Hxx := hid hxx
        have Hdr := hid hdr
        clear hx hmem hxx hdr
        cases hq : notReady s x with
        | true =>
          rw [hq] at hcl1 hsn
          have Hcl1 := hid hcl1
          have Hsn := hid hsn
          clear hcl1 hsn hq
          go_wp2_with fail
          refine Hcl1.out.mono ?_; rintro e w6 ⟨rfl, hi⟩
          have HI6 := hid hi
          clear hi
          go_wp2_with fail
          go_roundw
          case rel =>
            refine ⟨a, c + 1, dk, rfl, by go_num, by omega, by omega, HI6, hid ⟨hdl, ?_, ?_⟩⟩
            · rw [D.out.2.1, Hsn.out]; simp
            · rw [Hdr.out, ← D.out.2.2, List.drop_drop]
          case measure => simp [intOf]; omega
        | false =>
          rw [hq] at hcl1 hsn
          have Hcl1 := hid hcl1
          have Hsn := hid hsn
          clear hcl1 hsn hq
          go_wp2_with fail
          refine Hcl1.out.mono ?_; rintro e w6 ⟨rfl, hi⟩
          obtain ⟨own6, i1, i2, i3, i4, i5⟩ := hi
          have hca6 : w6.cell? ⟨blk, a, none⟩ = some (.int .i64 (dk.getD a 0)) := by
            have := row_cells i5 a (by omega); rwa [Nat.zero_add] at this
          have hfa6 : w6.frozen? ⟨blk, a, none⟩ = false := frozen_in i5 a
          generalize dk.getD a 0 = old6 at hca6
          have HI6 := hid (⟨i1, i2, i3, i4, i5⟩ : SameOwn w own own6 ∧ Sch own6 w6 b s ∧ Chg (fun k => (own k ≠ 0 ∧ own k ≤ 7) ∨ k = blk) w w6 ∧ w6.cell? ⟨fb, 0, none⟩ = some (.pointer (some ⟨b, 0, none⟩)) ∧ w6.heap[blk]? = some (.cells (ints dk ++ pad).toArray 3))
          clear i1 i2 i3 i4 i5
          go_wp2_with fail
          go_roundw
          case rel =>
            refine ⟨a + 1, c + 1, dk.set a x, by go_num, by go_num, by omega, by omega, hid ?_, hid ⟨by simpa using hdl, ?_, ?_⟩⟩
            · have hob : own6 blk = 0 := (HI6.out.1 blk hbl).trans hbo
              refine ⟨own6, HI6.out.1, HI6.out.2.1.keep (Chg.setCell (B := fun k => k = blk) w6 blk a _ rfl) (fun k _ hk => .inl (by rw [hk]; exact hob)) (SameOwn.refl _ _), HI6.out.2.2.1.trans (Chg.setCell _ _ _ _ (.inr rfl)), ?_, ?_⟩
              · rw [World.cell?_of_block ((Chg.setCell (B := fun k => k = blk) w6 blk a (.int .i64 x) rfl).block fb (Nat.lt_of_lt_of_le hfb HI6.out.2.2.1.size) hne)]
                exact HI6.out.2.2.2.1
              · rw [obj_set HI6.out.2.2.2.2]
                congr 2
                rw [List.setIfInBounds_toArray, List.set_append_left _ _ (by simp [ints]; omega)]
                simp [ints, List.map_set]
            · rw [show (dk.set a x).take (a + 1) = dk.take a ++ [x] by
                rw [List.take_succ_eq_append_getElem (by simp; omega)]
                congr 1
                · rw [List.take_set, List.set_eq_of_length_le (by rw [List.length_take]; omega)]
                · simp]
              rw [D.out.2.1, Hsn.out]; simp
            · rw [List.drop_set_of_lt (by omega), Hdr.out, ← D.out.2.2, List.drop_drop]
          case measure => simp [intOf]; omega
      · have hce : c = l.length := by omega
        subst hce
        have ha1 : (a : Int) ≤ (l.length : Int) := by omega
        have ha0 : (0 : Int) ≤ (a : Int) := by omega
        have hcl : ∀ ty, (Builtin.clear_ #[31] ty #[.slice (some ⟨blk, a, none⟩) (l.length - a) (l.length + pad.length - a)]).run Try.prog wr = .ok (.tuple #[]) (wr.setCells blk a (List.replicate (l.length - a) (.int .i64 0))) :=
          fun ty => Lib.run_clear_slice wr _ _ ty _ Try.underlying31 Try.zeroValue3 rfl rfl blk a _ _ (by omega) (fun t ht => by rw [Hcells.out (a + t) (by omega)]; rfl) (fun t ht => Hfr.out _)
        go_wp2_with fail
        go_ret
        obtain ⟨d1, d2, d3⟩ := D.out
        rw [List.take_length] at d2
        have hka : (keepL s l).length = a := by rw [← d2, List.length_take, d1]; omega
        refine ⟨by rw [hka]; rfl, dk.take a ++ List.replicate (l.length - a) 0, by simp; omega, ?_, ?_⟩
        · rw [hka, List.take_append_of_le_length (by simp; omega), List.take_take, Nat.min_self, d2]
        · obtain ⟨own1, j1, j2, j3, j4, j5⟩ := J.out
          have hC : Chg (fun k => k = blk) wr (wr.setCells blk a (List.replicate (l.length - a) (.int .i64 0))) := Chg.setCells _ _ _ _ rfl
          refine ⟨own1, j1, j2.keep hC (fun k _ hk => .inl (by rw [hk, j1 blk hbl]; exact hbo)) (SameOwn.refl _ _), j3.trans (Chg.setCells _ _ _ _ (.inr rfl)), ?_, ?_⟩
          · rw [World.cell?_of_block (hC.block fb (Nat.lt_of_lt_of_le hfb j3.size) hne)]
            exact j4
          · rw [heap_setCells _ _ _ _ _ _ j5 (by simp [ints]; omega)]
            congr 2
            simp only [ints, List.map_append, List.map_take, List.map_replicate, List.length_replicate]
            rw [List.take_append_of_le_length (by simp; omega), List.drop_append_of_le_length (by simp; omega), List.drop_eq_nil_of_le (by simp; omega)]
            simp

set_option maxRecDepth 100000 in
set_option maxHeartbeats 4000000 in
theorem delf_nil (I : World → Prop) (s : St) (fb : Nat) (w : World) (hw : I w) :
    Calls Try.prog 46 #[.slice none 0 0, .func (.func 47) #[] #[.pointer (some ⟨fb, 0, none⟩)]] w fun e w' => e = .returned (.slice none 0 0) ∧ I w' := by
  have hidx := index_r I fb (.slice none 0 0) [] (Nat.zero_le _) (notReady s) (fun W hW => .inl ⟨rfl, rfl⟩)
    (fun W x hx hW => by cases hx) w hw
  rw [show idxP (notReady s) [] 0 = -1 from rfl] at hidx
  have Hidx := hid hidx
  clear hidx hw
  go_enter Try.func46, Try.ntmps46
  go_wp2_with fail
  refine Hidx.out.mono ?_; rintro e w' ⟨rfl, hi⟩
  have HI := hid hi
  clear hi
  go_wp2_with fail
  go_ret
  exact ⟨rfl, HI.out⟩

/-- What Ready returns. -/
def readyL (s : St) : List Int := s.wt.filter fun x => readyB s x.toNat (s.needs.getD x.toNat [])
theorem keep_ready (s : St) : keepL s s.wt = readyL s := by
  unfold keepL readyL notReady
  simp

theorem own2_old {own : Nat → Nat} {w : World} {tag k : Nat} (h : k < w.heap.size) : own2 own w tag k = own k := if_pos h

set_option maxRecDepth 100000 in
set_option maxHeartbeats 4000000 in
theorem rdy_any {own : Nat → Nat} {w : World} {b : Nat} {s : St} (h : Sch own w b s) (hg : Good s) (hlim : s.limit ≠ 0) :
    Calls Try.prog 21 #[.pointer (some ⟨b, 0, none⟩)] w (LPost own w b s (readyL s)) := by
  have hS : Sch (own2 own w 8) (w.alloc (.cells #[.pointer (some ⟨b, 0, none⟩)] 25)) b s := h.keep (Chg.alloc (fun _ => False) _ _) (fun _ _ hb => hb.elim) (own2_same _ _ _)
  have c0 : Chg (fun _ => False) w (w.alloc (.cells #[.pointer (some ⟨b, 0, none⟩)] 25)) := Chg.alloc _ _ _
  have ho : SameOwn w own (own2 own w 8) := own2_same _ _ _
  have hof : own2 own w 8 w.heap.size = 8 := own2_new (Nat.le_refl _)
  have hbx : (w.alloc (.cells #[.pointer (some ⟨b, 0, none⟩)] 25)).cell? ⟨w.heap.size, 0, none⟩ = some (.pointer (some ⟨b, 0, none⟩)) := by rw [cells_in (heap_alloc_at w _)]; rfl
  have hsz : w.heap.size < (w.alloc (.cells #[.pointer (some ⟨b, 0, none⟩)] 25)).heap.size := by simp
  obtain ⟨vn, vo, vwt, vrn, vdn, vfl, vsk, hN, hO, h3, h4, h5, h6, h7, e0, e1, e2, e3, e4, e5, e6, e7⟩ := hS.cells
  have hl0 : decide (s.limit = 0) = false := decide_eq_false hlim
  have hnone := none_any b s.limit _ e2
  rw [hl0] at hnone
  have Hnone := hid hnone
  have Hall := hid (hS.all_wt hg)
  have Hbx := hid hbx
  have HO := hid ho
  have HF := hid hof
  have HG := hid hg
  have HC := hid c0
  clear hN hO h3 h4 h5 h6 h7 e0 e1 e2 e3 e4 e5 e6 e7 hnone hl0 h hS hbx ho hof hg c0
  go_enter Try.func21, Try.ntmps21
  go_wp2_with fail
  have hld : (w.alloc (.cells #[.pointer (some ⟨b, 0, none⟩)] 25)).cell? ⟨w.heap.size, 0, none⟩ = some (.pointer (some ⟨b, 0, none⟩)) := Hbx.out
  generalize w.alloc (.cells #[.pointer (some ⟨b, 0, none⟩)] 25) = w1 at *
  refine Hnone.out.mono ?_; rintro e w' ⟨rfl, rfl⟩
  go_wp2_with fail
  refine Hall.out.mono ?_; rintro e w2 hp
  obtain ⟨r, own2, rfl, p1, p2, p3, p4, p5⟩ := hp
  have hfo : own2 w.heap.size = 8 := (p1 _ hsz).trans HF.out
  have hcf : w2.cell? ⟨w.heap.size, 0, none⟩ = some (.pointer (some ⟨b, 0, none⟩)) := by
    rw [World.cell?_of_block (p3.block w.heap.size hsz (by rw [HF.out]; omega))]
    exact Hbx.out
  have hsz2 : w.heap.size < w2.heap.size := Nat.lt_of_lt_of_le hsz p3.size
  have hoo : SameOwn w own own2 := HO.out.trans p1 HC.out.size
  have hcc : Chg (fun k => own k ≠ 0 ∧ own k ≤ 7) w w2 := by
    refine ⟨p3.os.trans HC.out.os, p3.tape.trans HC.out.tape, p3.output.trans HC.out.output, Nat.le_trans HC.out.size p3.size, fun k hk hn => ?_⟩
    exact (p3.block k (Nat.lt_of_lt_of_le hk HC.out.size) (by rw [HO.out k hk]; exact hn)).trans (HC.out.block k hk id)
  rcases p4.1 with ⟨rfl, hwt⟩ | ⟨g, pad, rfl, hh, hcap⟩
  · have hd := delf_nil (fun W => Sch own2 W b s ∧ Chg (fun k => own k ≠ 0 ∧ own k ≤ 7) w W) s w.heap.size w2 ⟨p2, hcc⟩
    have hrl : readyL s = [] := by unfold readyL; rw [hwt]; rfl
    have Hd := hid hd
    have Hrl := hid hrl
    have HOO := hid hoo
    clear p1 p2 p3 p4 p5 hfo hcf hoo hcc hwt hd hrl hld
    go_wp2_with fail
    refine Hd.out.mono ?_; rintro e w3 ⟨rfl, q1, q2⟩
    have HQ := hid q1
    have HQ2 := hid q2
    clear q1 q2
    go_wp2_with fail
    go_ret
    rw [Hrl.out]
    exact ⟨_, own2, rfl, HOO.out, HQ.out, HQ2.out, ⟨.inl ⟨rfl, rfl⟩, fun g hg => by cases hg⟩, fun g hg => by cases hg⟩
  · have hg1 := p4.2 g rfl
    have hg2 := p5 g rfl
    have hgl : g < w2.heap.size := (Array.getElem?_eq_some_iff.1 hh).1
    have hne : w.heap.size ≠ g := by omega
    have hd := delf_any (own := own2) (w := w2) (b := b) (s := s) (fb := w.heap.size) (blk := g) (pad := pad) (l := s.wt) ⟨own2, SameOwn.refl _ _, p2, Chg.refl _ _, hcf, hh⟩ HG.out hsz2 (.inr (by omega)) hgl hg1 hne HG.out.rwt (Nat.le_trans HG.out.lwt (by decide)) hcap
    have Hd := hid hd
    have HOO := hid hoo
    have HCC := hid hcc
    have Hg1 := hid hg1
    have Hg2 := hid (Nat.le_trans (Nat.le_of_lt hsz) hg2)
    have Hgl := hid hgl
    have Hcap := hid hcap
    clear p1 p2 p3 p4 p5 hfo hcf hoo hcc hd hld hh hg1 hg2 hgl hne hcap
    go_wp2_with fail
    refine Hd.out.mono ?_; rintro e w3 ⟨rfl, dk, d1, d2, own3, q1, q2, q3, q4, q5⟩
    rw [keep_ready] at d2
    have hrl : (readyL s).length ≤ s.wt.length := List.length_filter_le _ _
    have hfin : LPost own w b s (readyL s) (.returned (.slice (some ⟨g, 0, none⟩) (keepL s s.wt).length (s.wt.length + pad.length))) w3 := by
      rw [keep_ready]
      have e1 : ints dk ++ pad = ints (readyL s) ++ (ints (dk.drop (readyL s).length) ++ pad) := by
        rw [← List.append_assoc]
        congr 1
        conv => lhs; rw [← List.take_append_drop (readyL s).length dk]
        rw [ints, List.map_append, d2]
      have e2 : s.wt.length + pad.length = (readyL s).length + (ints (dk.drop (readyL s).length) ++ pad).length := by
        simp [ints]; omega
      refine ⟨_, own3, rfl, HOO.out.trans q1 HCC.out.size, q2, ?_, ⟨.inr ⟨g, _, by rw [e2], by rw [← e1]; exact q5, by rw [← e2]; exact Hcap.out⟩, ?_⟩, ?_⟩
      · refine ⟨q3.os.trans HCC.out.os, q3.tape.trans HCC.out.tape, q3.output.trans HCC.out.output, Nat.le_trans HCC.out.size q3.size, fun k hk hn => ?_⟩
        exact (q3.block k (Nat.lt_of_lt_of_le hk HCC.out.size) (by rw [HOO.out k hk]; rintro (h | rfl); exact hn h; exact absurd hk (Nat.not_lt.2 Hg2.out))).trans (HCC.out.block k hk hn)
      · intro g' hg'; cases hg'; exact (q1 g Hgl.out).trans Hg1.out
      · intro g' hg'; cases hg'; exact Hg2.out
    have HFin := hid hfin
    clear d1 d2 q1 q2 q3 q4 q5 hfin hrl
    go_wp2_with fail
    go_ret
    exact HFin.out

end Go.Proofs.Ytoaellmjgejgfaa
