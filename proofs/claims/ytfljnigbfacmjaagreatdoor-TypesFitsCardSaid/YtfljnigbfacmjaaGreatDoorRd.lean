/- The reader of the program: fail, ready. -/
import Derived.Test.YtfljnigbfacmjaaGreatDoorView
import Derived.Test.YtfljnigbfacmjaaGreatDoorSmall
import Derived.Test.YtfljnigbfacmjaaGreatDoorApp
import Derived.Test.YtfljnigbfacmjaaGreatDoorShelf
import Derived.Test.YtfljnigbfacmjaaGreatDoorSteady
import Derived.Shelf.Strings.SlTrimAscii
import Derived.Deep.RegionHeld3
namespace Go.Proofs.YtfljnigbfacmjaaGreatDoor
open Go Go.RowKit Go.Proofs.YtfljnigbfacmjaaGreatDoor.Steady
set_option linter.unusedVariables false

/-- The reader at block X. -/
def RD (w : World) (X : Nat) (s : ByteArray) (p k q : Int) (nm : ByteArray) : Prop := w.heap[X]? = some (.cells #[.string s, .int .i64 p, .int .i64 k, .int .i64 q, .string nm] 71)
theorem RD.c0 {w : World} {X : Nat} {s nm : ByteArray} {p k q : Int} (h : RD w X s p k q nm) : w.cell? ⟨X, 0, none⟩ = some (.string s) := (cells_in h 0).trans rfl
theorem RD.c1 {w : World} {X : Nat} {s nm : ByteArray} {p k q : Int} (h : RD w X s p k q nm) : w.cell? ⟨X, 1, none⟩ = some (.int .i64 p) := (cells_in h 1).trans rfl
theorem RD.c2 {w : World} {X : Nat} {s nm : ByteArray} {p k q : Int} (h : RD w X s p k q nm) : w.cell? ⟨X, 2, none⟩ = some (.int .i64 k) := (cells_in h 2).trans rfl
theorem RD.c3 {w : World} {X : Nat} {s nm : ByteArray} {p k q : Int} (h : RD w X s p k q nm) : w.cell? ⟨X, 3, none⟩ = some (.int .i64 q) := (cells_in h 3).trans rfl
theorem RD.c4 {w : World} {X : Nat} {s nm : ByteArray} {p k q : Int} (h : RD w X s p k q nm) : w.cell? ⟨X, 4, none⟩ = some (.string nm) := (cells_in h 4).trans rfl
theorem RD.fr {w : World} {X : Nat} {s nm : ByteArray} {p k q : Int} (h : RD w X s p k q nm) (o : Nat) : w.frozen? ⟨X, o, none⟩ = false := frozen_in h o
theorem RD.lt {w : World} {X : Nat} {s nm : ByteArray} {p k q : Int} (h : RD w X s p k q nm) : X < w.heap.size := (Array.getElem?_eq_some_iff.1 h).1
theorem RD.at {w : World} {X : Nat} {s nm : ByteArray} {p k q : Int} (h : RD w X s p k q nm) (p' : Int) : RD (w.setCell ⟨X, 1, none⟩ (.int .i64 p')) X s p' k q nm := obj_set h _
theorem RD.bad {w : World} {X : Nat} {s nm : ByteArray} {p k q : Int} (h : RD w X s p k q nm) (k' q' : Int) (nm' : ByteArray) : RD (((w.setCell ⟨X, 2, none⟩ (.int .i64 k')).setCell ⟨X, 3, none⟩ (.int .i64 q')).setCell ⟨X, 4, none⟩ (.string nm')) X s p k' q' nm' :=
  obj_set (obj_set (obj_set h _) _) _
theorem RD.bel {w w' : World} {X : Nat} {s nm : ByteArray} {p k q : Int} (h : RD w X s p k q nm) (hb : Below w.heap.size w w') : RD w' X s p k q nm := (hb.block X h.lt).trans h
abbrev OnlyX (X : Nat) (w w' : World) : Prop := Chg (fun k => k = X) w w'

set_option maxRecDepth 100000 in
set_option maxHeartbeats 4000000 in
theorem fail_any (w : World) (X : Nat) (s nm : ByteArray) (p k q k' q' : Int) (h : RD w X s p k q nm) :
    Calls Tryz.prog 64 #[.pointer (some ⟨X, 0, none⟩), .int .i64 k', .int .i64 q'] w fun e w' => e = .returned (.bool false) ∧ RD w' X s p k' q' ⟨#[]⟩ ∧ OnlyX X w w' := by
  have c2 := h.c2
  have c3 := h.c3
  have c4 := h.c4
  have f2 := h.fr 2
  have f3 := h.fr 3
  have f4 := h.fr 4
  have H := hid h
  clear h
  go_enter Tryz.func64, Tryz.ntmps64
  go_wp2_with fail
  go_ret
  exact ⟨rfl, H.out.bad k' q' ⟨#[]⟩, ((Chg.setCell (B := fun k => k = X) w X 2 _ rfl).trans (Chg.setCell _ X 3 _ rfl)).trans (Chg.setCell _ X 4 _ rfl)⟩

def blanks : List UInt8 := [32, 9, 10, 13]
/-- What is left behind the blanks. -/
def restL (s : ByteArray) (p : Nat) : List UInt8 := (s.data.toList.drop p).dropWhile (blanks.contains ·)
def skipN (s : ByteArray) (p : Nat) : Nat := s.size - (restL s p).length
theorem dropWhile_len (f : UInt8 → Bool) : ∀ l : List UInt8, (l.dropWhile f).length ≤ l.length
  | [] => Nat.le_refl _
  | x :: l => by
    rw [List.dropWhile_cons]
    split
    · have := dropWhile_len f l; rw [List.length_cons]; omega
    · exact Nat.le_refl _
theorem dropWhile_drop (f : UInt8 → Bool) : ∀ l : List UInt8, l.dropWhile f = l.drop (l.length - (l.dropWhile f).length)
  | [] => rfl
  | x :: l => by
    rw [List.dropWhile_cons]
    split
    · have h := dropWhile_len f l
      rw [List.length_cons, show l.length + 1 - (l.dropWhile f).length = (l.length - (l.dropWhile f).length) + 1 by omega, List.drop_succ_cons]
      exact dropWhile_drop f l
    · simp
theorem restL_le {s : ByteArray} {p : Nat} : (restL s p).length ≤ s.size - p := by
  have := dropWhile_len (blanks.contains ·) (s.data.toList.drop p)
  rw [List.length_drop, ← size_eq] at this
  exact this
theorem skipN_ge {s : ByteArray} {p : Nat} (h : p ≤ s.size) : p ≤ skipN s p ∧ skipN s p ≤ s.size := by
  have := restL_le (s := s) (p := p)
  unfold skipN; omega
theorem restL_drop {s : ByteArray} {p : Nat} (h : p ≤ s.size) : restL s p = s.data.toList.drop (skipN s p) := by
  have h1 := restL_le (s := s) (p := p)
  unfold skipN
  conv => lhs; unfold restL
  rw [dropWhile_drop, List.drop_drop, List.length_drop, ← size_eq]
  congr 1
  show p + (s.size - p - (restL s p).length) = _
  omega
theorem infoset : (Tryz.prog.info? (Tryz.lays161_ren.t 116)).map (fun i => (i.zero, i.size)) = some (some (.agg (Array.replicate 256 (.bool false))), 256) := by kernel_rfl
theorem extract_list (s : ByteArray) (p : Nat) : (s.extract p s.size).data.toList = s.data.toList.drop p := by
  rw [ByteArray.data_extract, Array.toList_extract]
  simp only [List.extract]
  exact List.take_of_length_le (by rw [List.length_drop, ← size_eq]; exact Nat.le_refl _)
set_option maxRecDepth 100000 in
theorem trim_any (s : ByteArray) (p : Nat) (w : World) : Calls Tryz.prog 67 #[.string (s.extract p s.size), .string ⟨#[32, 9, 10, 13]⟩] w (Ret (.string ⟨(restL s p).toArray⟩) w) := by
  refine (Any.strings_TrimLeft_laid Tryz.lays161 infoset (s.extract p s.size) ⟨#[32, 9, 10, 13]⟩ w (by decide) ?_).mono fun e w' ⟨h1, h2⟩ => ⟨?_, h2⟩
  · intro j b hb
    match j, hb with
    | 0, h => cases h; decide
    | 1, h => cases h; decide
    | 2, h => cases h; decide
    | 3, h => cases h; decide
  · rw [h1, extract_list]; rfl
/-- ready: what it leaves. -/
def RdyPost (X : Nat) (s : ByteArray) (p : Nat) (k q : Int) (nm : ByteArray) (w : World) (e : Ending) (w' : World) : Prop :=
  e = .returned (.bool (decide (skipN s p < s.size))) ∧ OnlyX X w w' ∧ (if skipN s p < s.size then RD w' X s (skipN s p) k q nm else RD w' X s (skipN s p) 40 (skipN s p) ⟨#[]⟩)
set_option maxRecDepth 100000 in
set_option maxHeartbeats 4000000 in
theorem ready_any (w : World) (X : Nat) (s nm : ByteArray) (p : Nat) (k q : Int) (hp : p ≤ s.size) (hs : s.size ≤ 140737488355328) (h : RD w X s p k q nm) :
    Calls Tryz.prog 45 #[.pointer (some ⟨X, 0, none⟩)] w (RdyPost X s p k q nm w) := by
  have c0 := h.c0
  have c1 := h.c1
  have H := hid h
  have hk := restL_le (s := s) (p := p)
  have hsk : (s.size : Int) - ((restL s p).length : Int) = (skipN s p : Int) := by unfold skipN; omega
  have HSK := hid hsk
  clear h
  have hp0 : (0 : Int) ≤ (p : Int) := by omega
  have hp1 : (p : Int) ≤ (s.size : Int) := by omega
  go_enter Tryz.func45, Tryz.ntmps45
  go_wp2_with fail
  refine wp_region_steady (fun v => v.cell? ⟨X, 0, none⟩ = some (.string s) ∧ v.cell? ⟨X, 1, none⟩ = some (.int .i64 p)) (by kernel_rfl) (by kernel_rfl) (⟨c0, c1⟩) ?_
  repeat (first
    | (refine wpSteady_skip (by rfl) ?_; try simp only [Act.put, List.setIfInBounds_toArray, List.set_cons_zero, List.set_cons_succ])
    | (refine wpSteady_calm (v := ?_) (by rfl) ?_ ?_; rotate_left; (focus (intro v hSv; (try dsimp only at hSv); go_simp; (try rw [if_neg (by omega)]); (try with_reducible rfl); done)); try simp only [Act.put, List.setIfInBounds_toArray, List.set_cons_zero, List.set_cons_succ]))
  refine wpSteady_loud rfl (by rfl) (fun K hK => ?_)
  go_simp
  refine (trim_any s p w.drew).mono ?_; rintro e w2 ⟨rfl, hb⟩
  have B2 := hid (show Below w.heap.size w w2 from ⟨hb.os, hb.tape, hb.output, hb.size, hb.block⟩)
  clear hb c0 c1
  have H2 := hid (H.out.bel B2.out)
  have c0 := H2.out.c0
  have c1 := H2.out.c1
  refine hK.out _ _ (⟨c0, c1⟩) ?_
  clear hK K
  try simp only [Act.put, List.setIfInBounds_toArray, List.set_cons_zero, List.set_cons_succ]
  repeat (first
    | (refine wpSteady_skip (by rfl) ?_; try simp only [Act.put, List.setIfInBounds_toArray, List.set_cons_zero, List.set_cons_succ])
    | (refine wpSteady_calm (v := ?_) (by rfl) ?_ ?_; rotate_left; (focus (intro v hSv; (try dsimp only at hSv); go_simp; (try rw [if_neg (by omega)]); (try with_reducible rfl); done)); try simp only [Act.put, List.setIfInBounds_toArray, List.set_cons_zero, List.set_cons_succ]))
  refine wpSteady_nil ?_
  have hsz : (⟨(restL s p).toArray⟩ : ByteArray).size = (restL s p).length := by rw [size_eq]
  have f1 := H2.out.fr 1
  have hsub : IntKind.i64.wrap ((s.size : Int) - ((restL s p).length : Int)) = (skipN s p : Int) := by rw [hsk]; exact IntWalk.i64_in _ (by have := (skipN_ge hp).2; omega)
  generalize (⟨(restL s p).toArray⟩ : ByteArray) = rs at *
  have hge := skipN_ge hp
  have hem : rs.toList.isEmpty = decide (rs.size = 0) := by
    rw [Lib.toList_data, size_eq]
    cases rs.data.toList <;> simp
  have HP2 := hid (H2.out.at (skipN s p : Int))
  have HX := hid (show OnlyX X w (w2.setCell ⟨X, 1, none⟩ (.int .i64 (skipN s p))) from (Chg.below B2.out).trans (Chg.setCell (B := fun k => k = X) w2 X 1 _ rfl))
  by_cases hlt : skipN s p < s.size
  · have hz : rs.size ≠ 0 := by rw [hsz]; unfold skipN at hlt; omega
    have d1 : rs.toList.isEmpty = false := by rw [hem]; exact decide_eq_false hz
    clear hem
    go_wp2_with fail
    go_ret
    exact ⟨by rw [decide_eq_true hlt]; rfl, HX.out, by rw [if_pos hlt]; exact HP2.out⟩
  · have hz : rs.size = 0 := by rw [hsz]; unfold skipN at hlt; omega
    have d1 : rs.toList.isEmpty = true := by rw [hem]; exact decide_eq_true hz
    have HF := hid (fail_any _ X s nm _ k q 40 (skipN s p) HP2.out)
    clear hem
    go_wp2_with fail
    refine HF.out.mono ?_; rintro e w3 ⟨rfl, h3, x3⟩
    go_wp2_with fail
    go_ret
    exact ⟨by rw [decide_eq_false hlt]; rfl, HX.out.trans x3, by rw [if_neg hlt]; exact h3⟩

/-- sign: whether the sign is there. -/
def sgnB (s : ByteArray) (p : Nat) (c : Nat) : Bool := decide (skipN s p < s.size) && decide (byteN s (skipN s p) = c)
def sgnE (s : ByteArray) (p : Nat) : Int := if skipN s p < s.size then 2 else 40
def SgnPost (X : Nat) (s : ByteArray) (p c : Nat) (k q : Int) (nm : ByteArray) (w : World) (e : Ending) (w' : World) : Prop :=
  e = .returned (.bool (sgnB s p c)) ∧ OnlyX X w w' ∧ (if sgnB s p c = true then RD w' X s ((skipN s p + 1 : Nat) : Int) k q nm else ∃ p', RD w' X s p' (sgnE s p) (skipN s p) ⟨#[]⟩)
set_option maxRecDepth 100000 in
set_option maxHeartbeats 4000000 in
theorem sign_any (w : World) (X : Nat) (s nm : ByteArray) (p c : Nat) (k q : Int) (hp : p ≤ s.size) (hs : s.size ≤ 140737488355328) (hc : c < 256) (h : RD w X s p k q nm) :
    Calls Tryz.prog 65 #[.pointer (some ⟨X, 0, none⟩), .int .u8 c] w (SgnPost X s p c k q nm w) := by
  have HR := hid (ready_any w X s nm p k q hp hs h)
  have hge := skipN_ge hp
  clear h
  by_cases hlt : skipN s p < s.size
  case neg =>
    have hb : sgnB s p c = false := by unfold sgnB; rw [decide_eq_false hlt]; rfl
    have he : sgnE s p = 40 := by unfold sgnE; rw [if_neg hlt]
    have HBB := hid hb
    have HEE := hid he
    have HLT := hid hlt
    clear hb he hlt
    go_enter Tryz.func65, Tryz.ntmps65
    go_wp2_with fail
    refine HR.out.mono ?_; rintro e w2 ⟨rfl, x2, h2⟩
    rw [if_neg HLT.out] at h2
    rw [decide_eq_false HLT.out]
    go_wp2_with fail
    go_ret
    unfold SgnPost
    rw [HBB.out, if_neg (by decide), HEE.out]
    exact ⟨rfl, x2, _, h2⟩
  have HLT := hid hlt
  generalize hj : skipN s p = j at *
  have HJ := hid hj
  have hj0 : (0 : Int) ≤ (j : Int) := by omega
  have hj1 : (j : Int) < (s.size : Int) := by omega
  clear hj
  go_enter Tryz.func65, Tryz.ntmps65
  go_wp2_with fail
  refine HR.out.mono ?_; rintro e w2 ⟨rfl, x2, h2⟩
  rw [HJ.out] at h2
  rw [if_pos hlt] at h2
  rw [HJ.out, decide_eq_true hlt]
  have H2 := hid h2
  have X2 := hid x2
  have c0 := h2.c0
  have c1 := h2.c1
  have f1 := h2.fr 1
  clear h2 x2
  go_wp2_with fail
  refine wp_region_steady (fun v => v.cell? ⟨X, 0, none⟩ = some (.string s) ∧ v.cell? ⟨X, 1, none⟩ = some (.int .i64 j)) (by kernel_rfl) (by kernel_rfl) (⟨c0, c1⟩) ?_
  repeat (first
    | (refine wpSteady_skip (by rfl) ?_; try simp only [Act.put, List.setIfInBounds_toArray, List.set_cons_zero, List.set_cons_succ])
    | (refine wpSteady_calm (v := ?_) (by rfl) ?_ ?_; rotate_left; (focus (intro v hSv; (try dsimp only at hSv); go_simp; (try rw [if_neg (by omega)]); (try with_reducible rfl); done)); try simp only [Act.put, List.setIfInBounds_toArray, List.set_cons_zero, List.set_cons_succ]))
  refine wpSteady_nil ?_
  have hbn := byteN_get hlt
  simp only [hbn]
  have c0' : w2.drew.cell? ⟨X, 0, none⟩ = some (.string s) := c0
  have c1' : w2.drew.cell? ⟨X, 1, none⟩ = some (.int .i64 j) := c1
  have f1' : w2.drew.frozen? ⟨X, 1, none⟩ = false := f1
  have H3 : Hid (RD w2.drew X s j k q nm) := H2
  have X3 : Hid (OnlyX X w w2.drew) := hid (X2.out.trans (Chg.drew _ _))
  clear H2 X2 c0 c1 f1
  generalize w2.drew = w3 at *
  by_cases hc2 : byteN s j = c
  · have d1 : ((byteN s j : Int) != (c : Int)) = false := by rw [hc2]; simp
    have hb : sgnB s p c = true := by unfold sgnB; rw [HJ.out, decide_eq_true hlt, decide_eq_true hc2]; rfl
    have HBB := hid hb
    clear hb hc2 hbn
    have hadd : (j : Int) + 1 = ((j + 1 : Nat) : Int) := by omega
    have HA := hid hadd
    clear hadd
    go_wp2_with fail
    go_ret
    unfold SgnPost
    rw [HBB.out, if_pos rfl, HJ.out]
    refine ⟨rfl, X3.out.trans (Chg.setCell (B := fun k => k = X) w3 X 1 _ rfl), ?_⟩
    have := H3.out.at ((j : Int) + 1)
    rw [HA.out] at this ⊢
    exact this
  · have d1 : ((byteN s j : Int) != (c : Int)) = true := by rw [bne, beq_eq_false_iff_ne.2 (by omega)]; rfl
    have hb : sgnB s p c = false := by unfold sgnB; rw [HJ.out, decide_eq_false hc2]; simp
    have he : sgnE s p = 2 := by unfold sgnE; rw [HJ.out, if_pos hlt]
    have HBB := hid hb
    have HEE := hid he
    have HF := hid (fail_any w3 X s nm j k q 2 j H3.out)
    clear hb hc2 hbn he
    go_wp2_with fail
    refine HF.out.mono ?_; rintro e w4 ⟨rfl, h4, x4⟩
    go_wp2_with fail
    go_ret
    unfold SgnPost
    rw [HBB.out, if_neg (by decide), HJ.out, HEE.out]
    exact ⟨rfl, X3.out.trans x4, _, h4⟩
end Go.Proofs.YtfljnigbfacmjaaGreatDoor
