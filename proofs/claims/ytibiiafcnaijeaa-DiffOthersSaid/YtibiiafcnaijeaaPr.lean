/- While Propose is at work: the value in box X, its two rows, and the list of volatile places. -/
import Derived.Test.YtibiiafcnaijeaaRepl
import Derived.Test.YtibiiafcnaijeaaIgn
namespace Go.Proofs.Ytibiiafcnaijeaa
open Go Go.RowKit
set_option linter.unusedVariables false
set_option linter.unusedSimpArgs false

theorem info3 : (Try.prog.info? 3).map (fun i => (i.zero, i.size, i.bytes)) = some (some (.int .i64 0), 1, 8) := by kernel_rfl
abbrev ints (l : List Nat) : List Value := l.map fun (i : Nat) => .int .i64 (i : Int)
theorem chg_step {X : Nat} {C : Nat → Prop} {w2 wr w' : World} (h : Chg (fun k => k = X) w2 wr) (hc : Chg C wr w') (hC : ∀ k, C k → k = X ∨ w2.heap.size ≤ k) : Chg (fun k => k = X) w2 w' :=
  ⟨hc.os.trans h.os, hc.tape.trans h.tape, hc.output.trans h.output, Nat.le_trans h.size hc.size, fun k hk hn => (hc.block k (Nat.lt_of_lt_of_le hk h.size) fun hb => (hC k hb).elim hn (by omega)).trans (h.block k hk hn)⟩
structure PR (w2 wr : World) (X : Nat) (vi vk vv : Value) (is : List Vl) (ks : List ByteArray) (vs : List Nat) : Prop where
  hX : X < w2.heap.size
  chg : Chg (fun k => k = X) w2 wr
  obj : wr.heap[X]? = some (.cells #[.int .i64 5, .int .i64 0, .string ⟨#[]⟩, vi, vk] 26)
  items : OwnW w2.heap.size X (fun g => w2.heap.size ≤ g ∧ vk.ownBlock ≠ some g ∧ vv.ownBlock ≠ some g) wr vi is
  row : Row wr vk ks
  rown : ∀ g, vk.ownBlock = some g → w2.heap.size ≤ g ∧ vi.ownBlock ≠ some g
  vol : wr.ownsRow 0 3 1 vv vs.length (ints vs)
  vown : ∀ g, vv.ownBlock = some g → w2.heap.size ≤ g ∧ g < wr.heap.size ∧ vi.ownBlock ≠ some g ∧ vk.ownBlock ≠ some g
  str : ∀ s ∈ ks, s.size ≤ 140737488355328
section
variable {w2 wr w' : World} {X : Nat} {vi vk vv vi' vk' vv' : Value} {is is' : List Vl} {ks ks' : List ByteArray} {vs : List Nat}
theorem PR.lt (h : PR w2 wr X vi vk vv is ks vs) : X < wr.heap.size := Nat.lt_of_lt_of_le h.hX h.chg.size
theorem PR.kX (h : PR w2 wr X vi vk vv is ks vs) : ∀ g, vk.ownBlock = some g → g ≠ X := fun g e => by have := (h.rown g e).1; have := h.hX; omega
theorem PR.iX (h : PR w2 wr X vi vk vv is ks vs) : ∀ g, vi.ownBlock = some g → g ≠ X := fun g e => by have := (h.items.block e).1; have := h.hX; omega
theorem PR.later (h : PR w2 wr X vi vk vv is ks vs) (hb : Below wr.heap.size wr w') : PR w2 w' X vi vk vv is ks vs :=
  ⟨h.hX, chg_step h.chg (Chg.below (B := fun _ => False) hb) (fun _ h => h.elim), keep_obj h.obj hb, h.items.later hb, h.row.of_same fun g hg => hb.block g (h.row.lt hg), h.rown, owns_keep h.vol (Chg.below (B := fun _ => False) hb) (fun _ _ h => h), fun g e => ⟨(h.vown g e).1, Nat.lt_of_lt_of_le (h.vown g e).2.1 hb.size, (h.vown g e).2.2⟩, h.str⟩
theorem PR.pushK (h : PR w2 wr X vi vk vv is ks vs) (hr : Row w' vk' ks') (hs : ∀ s ∈ ks', s.size ≤ 140737488355328) (hp : vk'.ownBlock = vk.ownBlock ∨ ∃ g, vk'.ownBlock = some g ∧ wr.heap.size ≤ g) (hc : Chg (fun g => vk.ownBlock = some g) wr w') :
    PR w2 (w'.setCell ⟨X, 4, none⟩ vk') X vi vk' vv is ks' vs := by
  have hl := h.lt
  have hX := h.hX
  have hsz := h.chg.size
  have c2 := Chg.setCell (B := fun g => g = X) w' X 4 vk' rfl
  have hnew : ∀ g, vk'.ownBlock = some g → vk.ownBlock = some g ∨ wr.heap.size ≤ g := fun g e => by
    rcases hp with h1 | ⟨g', h1, h2⟩
    · exact .inl (h1 ▸ e)
    · rw [h1] at e; cases e; exact .inr h2
  have hkX : ∀ g, vk.ownBlock = some g → g ≠ X := fun g e => by have := (h.rown g e).1; omega
  have ho := (hc.block X hl (fun e => hkX X e rfl)).trans h.obj
  have i1 : OwnW w2.heap.size X (fun g => w2.heap.size ≤ g ∧ vk'.ownBlock ≠ some g ∧ vv.ownBlock ≠ some g) w' vi is := h.items.chgP hc (fun g e e2 => (h.rown g e2).2 e) (fun g hg _ _ => hg.2.1) (fun g hg hlt => ⟨hg.1, (fun e => by
    rcases hnew g e with h1 | h1
    · exact hg.2.1 h1
    · omega), hg.2.2⟩)
  refine ⟨hX, chg_step (chg_step h.chg hc fun k e => .inr (h.rown k e).1) c2 fun k e => .inl e, obj_set (po := 4) ho _, i1.chgP c2 (fun g e e2 => by have := (h.items.block e).1; omega) (fun g hg _ _ e => by have := hg.1; omega) (fun g hg _ => hg), hr.chg c2 (fun g e e2 => ?_), fun g e => ?_,
    owns_keep (owns_keep h.vol hc fun g e e2 => (h.vown g e).2.2.2 e2) c2 (fun g e e2 => by have := (h.vown g e).1; omega), fun g e => ⟨(h.vown g e).1, by have := (h.vown g e).2.1; have := hc.size; have := c2.size; omega, (h.vown g e).2.2.1, fun e2 => ?_⟩, hs⟩
  · rcases hnew g e with h1 | h1
    · exact hkX g h1 e2
    · omega
  · rcases hnew g e with h1 | h1
    · exact h.rown g h1
    · exact ⟨by omega, fun e2 => by have := (h.items.block e2).2; omega⟩
  · rcases hnew g e2 with h1 | h1
    · exact (h.vown g e).2.2.2 h1
    · have := (h.vown g e).2.1; omega
theorem PR.pushI (h : PR w2 wr X vi vk vv is ks vs) (hr : OwnW w2.heap.size X (fun g => w2.heap.size ≤ g ∧ vk.ownBlock ≠ some g ∧ vv.ownBlock ≠ some g) w' vi' is') (hp : vi'.ownBlock = vi.ownBlock ∨ ∃ g, vi'.ownBlock = some g ∧ wr.heap.size ≤ g) (hc : Chg (fun g => vi.ownBlock = some g) wr w') :
    PR w2 (w'.setCell ⟨X, 3, none⟩ vi') X vi' vk vv is' ks vs := by
  have hl := h.lt
  have hX := h.hX
  have hsz := h.chg.size
  have c2 := Chg.setCell (B := fun g => g = X) w' X 3 vi' rfl
  have hnew : ∀ g, vi'.ownBlock = some g → vi.ownBlock = some g ∨ wr.heap.size ≤ g := fun g e => by
    rcases hp with h1 | ⟨g', h1, h2⟩
    · exact .inl (h1 ▸ e)
    · rw [h1] at e; cases e; exact .inr h2
  have hiX : ∀ g, vi.ownBlock = some g → w2.heap.size ≤ g := fun g e => (h.items.block e).1
  have ho := (hc.block X hl (fun e => by have := hiX X e; omega)).trans h.obj
  refine ⟨hX, chg_step (chg_step h.chg hc fun k e => .inr (hiX k e)) c2 fun k e => .inl e, obj_set (po := 3) ho _, hr.chgP c2 (fun g e e2 => ?_) (fun g hg _ _ e => by have := hg.1; omega) (fun g hg _ => hg), (h.row.chg hc fun g e e2 => (h.rown g e).2 e2).chg c2 (fun g e e2 => by have := (h.rown g e).1; omega), fun g e => ⟨(h.rown g e).1, fun e2 => ?_⟩,
    owns_keep (owns_keep h.vol hc fun g e e2 => (h.vown g e).2.2.1 e2) c2 (fun g e e2 => by have := (h.vown g e).1; omega), fun g e => ⟨(h.vown g e).1, by have := (h.vown g e).2.1; have := hc.size; have := c2.size; omega, fun e2 => ?_, (h.vown g e).2.2.2⟩, h.str⟩
  · rcases hnew g e with h1 | h1
    · have := hiX g h1; omega
    · omega
  · rcases hnew g e2 with h1 | h1
    · exact (h.rown g e).2 h1
    · have := h.row.lt e; omega
  · rcases hnew g e2 with h1 | h1
    · exact (h.vown g e).2.2.1 h1
    · have := (h.vown g e).2.1; omega
theorem PR.pushV {j : Nat} (h : PR w2 wr X vi vk vv is ks vs) (hr : w'.ownsRow 0 3 1 vv' (vs.length + 1) (ints vs ++ [.int .i64 (j : Int)])) (hp : vv'.ownBlock = vv.ownBlock ∨ ∃ g, vv'.ownBlock = some g ∧ wr.heap.size ≤ g) (hc : Chg (fun g => vv.ownBlock = some g) wr w') :
    PR w2 w' X vi vk vv' is ks (vs ++ [j]) := by
  have hl := h.lt
  have hX := h.hX
  have hsz := h.chg.size
  have hnew : ∀ g, vv'.ownBlock = some g → vv.ownBlock = some g ∨ wr.heap.size ≤ g := fun g e => by
    rcases hp with h1 | ⟨g', h1, h2⟩
    · exact .inl (h1 ▸ e)
    · rw [h1] at e; cases e; exact .inr h2
  have hvX : ∀ g, vv.ownBlock = some g → w2.heap.size ≤ g := fun g e => (h.vown g e).1
  have hlt : ∀ g, vv'.ownBlock = some g → g < w'.heap.size := fun g e => by
    rcases hr.2 with ⟨rfl, _⟩ | ⟨g', cap, cur, rfl, p1, p2, _⟩
    · cases e
    · cases e; exact (Array.getElem?_eq_some_iff.1 p2).1
  refine ⟨hX, chg_step h.chg hc fun k e => .inr (hvX k e), (hc.block X hl (fun e => by have := hvX X e; omega)).trans h.obj, h.items.chgP hc (fun g e e2 => (h.vown g e2).2.2.1 e) (fun g hg _ _ => hg.2.2) (fun g hg hlt => ⟨hg.1, hg.2.1, fun e => ?_⟩), h.row.chg hc (fun g e e2 => (h.vown g e2).2.2.2 e), h.rown, ?_, fun g e => ⟨?_, hlt g e, fun e2 => ?_, fun e2 => ?_⟩, h.str⟩
  · rcases hnew g e with h1 | h1
    · exact hg.2.2 h1
    · omega
  · rw [List.length_append, ints, List.map_append]; exact hr
  · rcases hnew g e with h1 | h1
    · exact hvX g h1
    · omega
  · rcases hnew g e with h1 | h1
    · exact (h.vown g h1).2.2.1 e2
    · have := (h.items.block e2).2; omega
  · rcases hnew g e with h1 | h1
    · exact (h.vown g h1).2.2.2 e2
    · have := h.row.lt e2; omega
theorem PR.set {g c j n : Nat} {r : V5} {t : Vl} {S : Nat → Prop} (h : PR w2 wr X (.slice (some ⟨g, 0, none⟩) n c) vk vv is ks vs) (hj : j < is.length) (hr : VV S wr (pent r) t) (hS : ∀ b, S b → w2.heap.size ≤ b ∧ vk.ownBlock ≠ some b ∧ vv.ownBlock ≠ some b ∧ b ≠ g) :
    PR w2 (wr.setCells g (j * 5) [r.1, r.2.1, r.2.2.1, r.2.2.2.1, r.2.2.2.2]) X (.slice (some ⟨g, 0, none⟩) n c) vk vv (is.set j t) ks vs := by
  have hl := h.lt
  have hX := h.hX
  have hg := (h.items.block (g := g) rfl).1
  obtain ⟨h1, hc⟩ := h.items.x.set hj hr (fun b hb => ⟨by have := (hS b hb).1; omega, (hS b hb).2.2.2⟩)
  refine ⟨hX, chg_step h.chg hc fun k e => .inr (by rw [e]; exact hg), (hc.block X hl (by omega)).trans h.obj, h1.mono fun i b hi hb => ?_, h.row.chg hc (fun b e e2 => (h.rown b e).2 (by rw [e2]; rfl)), h.rown, owns_keep h.vol hc (fun b e e2 => (h.vown b e).2.2.1 (by rw [e2]; rfl)), fun b e => ⟨(h.vown b e).1, Nat.lt_of_lt_of_le (h.vown b e).2.1 hc.size, (h.vown b e).2.2⟩, h.str⟩
  by_cases e : i = j
  · have hb' : S b := by rw [if_pos e] at hb; exact hb
    exact ⟨(hS b hb').1, (hS b hb').2.1, (hS b hb').2.2.1⟩
  · rw [if_neg e] at hb; exact hb
theorem PR.view (h : PR w2 wr X vi vk vv is ks vs) (hl : is.length ≤ 140737488355328) (hk : ks.length ≤ 140737488355328) : VV (fun g => w2.heap.size ≤ g) wr (.agg #[.int .i64 5, .int .i64 0, .string ⟨#[]⟩, vi, vk]) (.mk 5 0 ⟨#[]⟩ is ks) :=
  VV.mk' (by decide) (h.row.sv (fun g e => (h.rown g e).1) hk h.str) (h.items.x.read (fun i g _ hg => hg.1) (fun g hg => hg) hl)
theorem PR.nil {w : World} (hX : X < w.heap.size) (ho : w.heap[X]? = some (.cells #[.int .i64 5, .int .i64 0, .string ⟨#[]⟩, .slice none 0 0, .slice none 0 0] 26)) : PR w w X (.slice none 0 0) (.slice none 0 0) (.slice none 0 0) [] [] [] :=
  ⟨hX, Chg.refl _ _, ho, OwnW.nil _ _ _ _, .inl ⟨rfl, rfl⟩, (fun g e => by cases e), World.ownsRow_nil _ _ _ _, (fun g e => by cases e), (fun s h => by cases h)⟩
theorem PR.volAt {g n c t : Nat} (h : PR w2 wr X vi vk vv is ks vs) (e : vv = .slice (some ⟨g, 0, none⟩) n c) (ht : t < vs.length) : wr.cell? ⟨g, t, none⟩ = some (.int .i64 (vs[t] : Int)) := by
  rcases h.vol.2 with ⟨rfl, _⟩ | ⟨g', cap, cur, rfl, p1, p2, p3, p4, p5, p6⟩
  · cases e
  · cases e
    refine cells_at p2 p6 ?_
    rw [List.getElem?_map, List.getElem?_eq_getElem ht]; rfl
theorem PR.volSl (h : PR w2 wr X vi vk vv is ks vs) : (vv = .slice none 0 0 ∧ vs = []) ∨ ∃ g c, vv = .slice (some ⟨g, 0, none⟩) vs.length c := by
  rcases h.vol.2 with ⟨rfl, h0⟩ | ⟨g', cap, cur, rfl, _⟩
  · exact .inl ⟨rfl, List.eq_nil_of_length_eq_zero h0⟩
  · exact .inr ⟨_, _, rfl⟩
theorem PR.volLen (h : PR w2 wr X vi vk vv is ks vs) : ∃ o c, vv = .slice o vs.length c := by
  rcases h.volSl with ⟨e, rfl⟩ | ⟨g, c, e⟩
  · exact ⟨_, _, e⟩
  · exact ⟨_, _, e⟩
theorem PR.iLen (h : PR w2 wr X vi vk vv is ks vs) : ∃ o c, vi = .slice o is.length c := by
  rcases h.items.x.slice with ⟨e, rfl⟩ | ⟨g, c, e, -⟩
  · exact ⟨_, _, e⟩
  · exact ⟨_, _, e⟩
end

/-! What the rounds compute. -/
def detC (s : Sc) (p c : Vl) (x : ByteArray) : Bool := !detS s c x && differV (getN c x) (getN p x)
def volJ (s : Sc) (p c : Vl) (ns : List ByteArray) (j : Nat) : List Nat := (List.range j).filter fun i => volS s p c (ns.getD i ByteArray.empty)
theorem volJ_succ (s : Sc) (p c : Vl) (ns : List ByteArray) {j : Nat} (h : j < ns.length) : volJ s p c ns (j + 1) = if volS s p c ns[j] = true then volJ s p c ns j ++ [j] else volJ s p c ns j := by
  have e : ns.getD j ByteArray.empty = ns[j] := by simp [List.getD, h]
  rw [volJ, List.range_succ, List.filter_append]
  cases hf : volS s p c ns[j] with
  | true => simp [List.getD, h, hf, volJ]
  | false => simp [List.getD, h, hf, volJ]
theorem volJ_lt (s : Sc) (p c : Vl) (ns : List ByteArray) (j t : Nat) (h : t < (volJ s p c ns j).length) : (volJ s p c ns j)[t] < j := by
  have h1 := List.getElem_mem h
  generalize (volJ s p c ns j)[t] = y at *
  rw [volJ, List.mem_filter, List.mem_range] at h1
  exact h1.1
theorem volJ_len (s : Sc) (p c : Vl) (ns : List ByteArray) (j : Nat) : (volJ s p c ns j).length ≤ j := by
  have := List.length_filter_le (fun i => volS s p c (ns.getD i ByteArray.empty)) (List.range j)
  rw [List.length_range] at this
  exact this
theorem any_take {α : Type} (f : α → Bool) (l : List α) {j : Nat} (h : j < l.length) : (l.take (j + 1)).any f = ((l.take j).any f || f l[j]) := by
  rw [List.take_add_one, List.getElem?_eq_getElem h, List.any_append]; simp
theorem map_take1 {α β : Type} (f : α → β) (l : List α) {j : Nat} (h : j < l.length) : (l.take (j + 1)).map f = (l.take j).map f ++ [f l[j]] := by
  rw [List.take_add_one, List.getElem?_eq_getElem h, List.map_append]; rfl
def unkAll (is : List Vl) (l : List Nat) : List Vl := l.foldl (fun a i => a.set i unkV) is
theorem unkAll_len : ∀ (l : List Nat) (is : List Vl), (unkAll is l).length = is.length
  | [], _ => rfl
  | i :: l, is => by
    show (unkAll (is.set i unkV) l).length = is.length
    rw [unkAll_len l, List.length_set]
theorem unkAll_get : ∀ (l : List Nat) (is : List Vl) (k : Nat) (hk : k < is.length), (unkAll is l)[k]? = some (if k ∈ l then unkV else is[k])
  | [], is, k, hk => by rw [unkAll, List.foldl_nil, List.getElem?_eq_getElem hk, if_neg (by simp)]
  | i :: l, is, k, hk => by
    show (unkAll (is.set i unkV) l)[k]? = _
    rw [unkAll_get l _ k (by rw [List.length_set]; exact hk)]
    by_cases h1 : k ∈ l
    · rw [if_pos h1, if_pos (List.mem_cons_of_mem _ h1)]
    · rw [if_neg h1]
      by_cases h2 : k = i
      · subst h2
        rw [if_pos (List.mem_cons_self ..)]; simp
      · rw [if_neg (by simp [h1, h2]), List.getElem_set_ne (by omega)]
theorem unkAll_take (is : List Vl) (l : List Nat) {t : Nat} (h : t < l.length) : unkAll is (l.take (t + 1)) = (unkAll is (l.take t)).set l[t] unkV := by
  rw [unkAll, List.take_add_one, List.getElem?_eq_getElem h, List.foldl_append]; rfl
theorem propose_eq (s : Sc) (p c : Vl) : proposeS s p c = .mk 5 0 ⟨#[]⟩ (if chgS s p c = true then unkAll ((namesS s).map (itemS s p c)) (volJ s p c (namesS s) (namesS s).length) else (namesS s).map (itemS s p c)) (namesS s) := by
  rw [proposeS]
  congr 1
  cases hc : chgS s p c with
  | false => simp
  | true =>
    rw [if_pos rfl]
    refine List.ext_getElem (by rw [unkAll_len]; simp) fun k h1 h2 => ?_
    have hk : k < (namesS s).length := by simpa using h1
    have hg := unkAll_get (volJ s p c (namesS s) (namesS s).length) ((namesS s).map (itemS s p c)) k (by simpa using hk)
    rw [List.getElem?_eq_getElem h2, Option.some.injEq] at hg
    rw [hg, List.getElem_map]
    have hm : k ∈ volJ s p c (namesS s) (namesS s).length ↔ volS s p c (namesS s)[k] = true := by
      rw [volJ, List.mem_filter, List.mem_range]
      simp [List.getD, hk]
    by_cases hv : volS s p c (namesS s)[k] = true
    · rw [if_pos ⟨hv, rfl⟩, if_pos (hm.2 hv)]
    · rw [if_neg fun h => hv h.1, if_neg fun h => hv (hm.1 h), List.getElem_map]
theorem chgS_eq (s : Sc) (p c : Vl) : chgS s p c = (namesS s).any (detC s p c) := rfl
theorem detS_eq (s : Sc) (c : Vl) (x : ByteArray) : detS s c x = ((fndA s.attrs x).isSome && (decide (modeO (fndA s.attrs x) = 3) || (decide (modeO (fndA s.attrs x) = 4) && decide (kdV (getN c x) = 0)))) := by
  rw [detS]
  cases fndA s.attrs x <;> rfl
theorem volS_eq (s : Sc) (p c : Vl) (x : ByteArray) : volS s p c x = (detS s c x && (decide (kdV p ≠ 0) && volO (fndA s.attrs x))) := by
  rw [volS]
  cases fndA s.attrs x <;> rfl
end Go.Proofs.Ytibiiafcnaijeaa
