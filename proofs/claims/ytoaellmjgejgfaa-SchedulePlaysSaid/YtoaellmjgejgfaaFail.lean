/- Fail. -/
import Derived.Test.YtoaellmjgejgfaaSkip
namespace Go.Proofs.Ytoaellmjgejgfaa
open Go Go.RowKit Go.Shelf
set_option linter.unusedVariables false

/-- The local set of the steps that are lost. -/
def Lost (N : Nat) (own : Nat → Nat) (w : World) (lb : Nat) (l : List Int) : Prop :=
  own lb = 9 ∧ N ≤ lb ∧ ∃ v, w.heap[lb]? = some (.cells #[v] 61) ∧ RowT own 10 w v l ∧ ∀ g, v.ownBlock = some g → N ≤ g

theorem Lost.keep {N : Nat} {own own' : Nat → Nat} {w w' : World} {lb : Nat} {l : List Int} {B : Nat → Prop} (h : Lost N own w lb l) (hc : Chg B w w') (hB : ∀ k, k < w.heap.size → B k → own k ≤ 7) (ho : SameOwn w own own') : Lost N own' w' lb l := by
  obtain ⟨h1, hN, v, h2, h3, h4⟩ := h
  have hlt : lb < w.heap.size := (Array.getElem?_eq_some_iff.1 h2).1
  exact ⟨(ho lb hlt).trans h1, hN, v, (hc.block lb hlt fun hb => by have := hB lb hlt hb; omega).trans h2, h3.keep hc (fun k hk hb => by have := hB k hk hb; omega) ho, h4⟩

def LostTo (N : Nat) (own : Nat → Nat) (w : World) (b lb : Nat) (s : St) (l : List Int) (e : Ending) (w' : World) : Prop :=
  e = .returned (.tuple #[]) ∧ ∃ own', SameOwn w own own' ∧ Sch own' w' b s ∧ Lost N own' w' lb l ∧ Chg (fun k => 7 < own k ∧ N ≤ k) w w'

theorem Lost.turn {N : Nat} {own : Nat → Nat} {w w' : World} {b lb : Nat} {s : St} {l l' : List Int} {v : Value} {e : Ending} (hS : Sch own w b s) (h1 : own lb = 9) (hN : N ≤ lb) (h2 : w.heap[lb]? = some (.cells #[v] 61)) (h3 : RowT own 10 w v l) (h4 : ∀ g, v.ownBlock = some g → N ≤ g)
    (hp : PutPost lb 0 #[v] 61 v l' w e w') : LostTo N own w b lb s l' e w' := by
  obtain ⟨rfl, v', hobj, hr, hown, hchg⟩ := hp
  have hlt : lb < w.heap.size := (Array.getElem?_eq_some_iff.1 h2).1
  have hB : ∀ k, k < w.heap.size → (k = lb ∨ v.ownBlock = some k) → 7 < own k ∧ N ≤ k := fun k hk hb => by
    rcases hb with rfl | hb
    · omega
    · have := h3.2 k hb; have := h4 k hb; omega
  refine ⟨rfl, own2 own w 10, own2_same _ _ _, hS.keep hchg (fun k hk hb => .inr (hB k hk hb).1) (own2_same _ _ _), ⟨(own2_same own w 10 lb hlt).trans h1, hN, v', hobj, ⟨hr, ?_⟩, ?_⟩, hchg.mono hB⟩
  rotate_left
  · intro g hg
    rcases hown with h | ⟨g', h, hg'⟩
    · rw [h] at hg; exact h4 g hg
    · rw [h] at hg; cases hg; omega
  intro g hg
  rcases hown with h | ⟨g', h, hg'⟩
  · rw [h] at hg
    exact (own2_same own w 10 g (h3.1.lt hg)).trans (h3.2 g hg)
  · rw [h] at hg
    cases hg
    exact own2_new hg'

theorem Lost.put {N : Nat} {own : Nat → Nat} {w : World} {b lb : Nat} {s : St} {l : List Int} (h : Lost N own w lb l) (hS : Sch own w b s) (hs : Sorted l) (hl : l.length ≤ 100000) (x : Int) :
    Calls Try.prog 34 #[.pointer (some ⟨lb, 0, none⟩), .int .i64 x] w (LostTo N own w b lb s (ins x l)) := by
  obtain ⟨h1, hN, v, h2, h3, h4⟩ := h
  exact (put_any lb 0 #[v] 61 v l x w h2 rfl h3.1 hs hl (fun e => by have := h3.2 lb e; omega)).mono fun e w' hp => Lost.turn hS h1 hN h2 h3 h4 hp
theorem Lost.drop {N : Nat} {own : Nat → Nat} {w : World} {b lb : Nat} {s : St} {l : List Int} (h : Lost N own w lb l) (hS : Sch own w b s) (hs : Sorted l) (hl : l.length ≤ 100000) (x : Int) :
    Calls Try.prog 40 #[.pointer (some ⟨lb, 0, none⟩), .int .i64 x] w (LostTo N own w b lb s (del x l)) := by
  obtain ⟨h1, hN, v, h2, h3, h4⟩ := h
  exact (drop_any lb 0 #[v] 61 v l x w h2 rfl h3.1 hs hl (fun e => by have := h3.2 lb e; omega)).mono fun e w' hp => Lost.turn hS h1 hN h2 h3 h4 hp
theorem Lost.has {N : Nat} {own : Nat → Nat} {w : World} {lb : Nat} {l : List Int} (h : Lost N own w lb l) (hs : Sorted l) (hl : l.length ≤ 100000) (x : Int) :
    Calls Try.prog 42 #[.pointer (some ⟨lb, 0, none⟩), .int .i64 x] w fun e w' => e = .returned (.bool (l.contains x)) ∧ ∃ q, w' = w.drewN q := by
  obtain ⟨h1, hN, v, h2, h3, h4⟩ := h
  exact has_any lb 0 #[v] 61 v l x w h2 rfl h3.1 hs hl
theorem Lost.drewN {N : Nat} {own : Nat → Nat} {w : World} {lb : Nat} {l : List Int} (h : Lost N own w lb l) (q : Nat) : Lost N own (w.drewN q) lb l :=
  h.keep (Chg.drewN (fun _ => False) w q) (fun _ _ hb => hb.elim) (SameOwn.refl _ _)
/-- all, of the local set. -/
theorem Lost.all {N : Nat} {own : Nat → Nat} {w : World} {b lb : Nat} {s : St} {l : List Int} (h : Lost N own w lb l) (hS : Sch own w b s) (hl : l.length ≤ 100000) :
    Calls Try.prog 45 #[.pointer (some ⟨lb, 0, none⟩)] w fun e w' => ∃ r own', e = .returned r ∧ SameOwn w own own' ∧ Sch own' w' b s ∧ Lost N own' w' lb l ∧ Below w.heap.size w w' ∧ RowT own' 0 w' r l ∧ ∀ g, r.ownBlock = some g → w.heap.size ≤ g := by
  have h' := h
  obtain ⟨h1, hN, v, h2, h3, h4⟩ := h
  refine (all_any lb 0 #[v] 61 v l w h2 rfl h3.1 hl).mono ?_
  rintro e w' ⟨r, rfl, p1, p2, p3⟩
  have hc : Chg (fun _ => False) w w' := Chg.below p3
  exact ⟨r, own2 own w 0, rfl, own2_same _ _ _, hS.keep hc (fun _ _ hb => hb.elim) (own2_same _ _ _), h'.keep hc (fun _ _ hb => hb.elim) (own2_same _ _ _), p3, ⟨p1, fun g hg => own2_new (p2 g hg)⟩, p2⟩

theorem Chg.trans' {own own1 : Nat → Nat} {u v w : World} (h : Chg (fun k => own k ≠ 0 ∧ own k ≤ 7) u v) (ho : SameOwn u own own1) (k : Chg (fun _ => False) v w) : Chg (fun k => own k ≠ 0 ∧ own k ≤ 7) u w :=
  h.trans (k.mono fun _ _ h => h.elim)

theorem Chg.new {B : Nat → Prop} {own1 : Nat → Nat} {u v w : World} (h : Chg B u v) (k : Chg (fun k => 7 < own1 k ∧ u.heap.size ≤ k) v w) : Chg B u w :=
  ⟨k.os.trans h.os, k.tape.trans h.tape, k.output.trans h.output, Nat.le_trans h.size k.size, fun i hi hb => (k.block i (Nat.lt_of_lt_of_le hi h.size) (by omega)).trans (h.block i hi hb)⟩

theorem Chg.old {own own1 : Nat → Nat} {u v w : World} (h : Chg (fun k => own k ≠ 0 ∧ own k ≤ 7) u v) (ho : SameOwn u own own1) (k : Chg (fun k => own1 k ≠ 0 ∧ own1 k ≤ 7) v w) : Chg (fun k => own k ≠ 0 ∧ own k ≤ 7) u w :=
  ⟨k.os.trans h.os, k.tape.trans h.tape, k.output.trans h.output, Nat.le_trans h.size k.size, fun i hi hb => (k.block i (Nat.lt_of_lt_of_le hi h.size) (by rw [ho i hi]; exact hb)).trans (h.block i hi hb)⟩

def lostStep (s : St) (acc : List Int) (x : Int) : List Int := if s.wt.contains x && (s.needs.getD x.toNat []).any (fun y => acc.contains y) then ins x acc else acc
def lostS (s : St) (n : Int) (l : List Int) : List Int := l.foldl (lostStep s) [n]

theorem lost_snoc (s : St) (n : Int) (l : List Int) (k : Nat) (hk : k < l.length) : lostS s n (l.take (k + 1)) = lostStep s (lostS s n (l.take k)) (l.getD k 0) := by
  unfold lostS
  rw [List.take_succ_eq_append_getElem hk, List.foldl_append, List.getD_eq_getElem?_getD, List.getElem?_eq_getElem hk]
  rfl
theorem lost_good (s : St) (l : List Int) : ∀ acc : List Int, Sorted acc → Sorted (l.foldl (lostStep s) acc) := by
  induction l with
  | nil => exact fun _ h => h
  | cons x l ih =>
    intro acc h
    refine ih _ ?_
    unfold lostStep
    split
    · exact sorted_ins h
    · exact h
theorem lost_range (s : St) (N : Int) (l : List Int) : ∀ acc : List Int, (∀ y ∈ acc, 0 ≤ y ∧ y < N) → (∀ y ∈ l, 0 ≤ y ∧ y < N) → ∀ y ∈ l.foldl (lostStep s) acc, 0 ≤ y ∧ y < N := by
  induction l with
  | nil => exact fun _ h _ => h
  | cons x l ih =>
    intro acc h hl
    refine ih _ ?_ fun y hy => hl y (List.mem_cons_of_mem _ hy)
    unfold lostStep
    split
    · intro y hy
      rcases mem_ins.1 hy with rfl | hy
      · exact hl _ (List.mem_cons_self ..)
      · exact h y hy
    · exact h

/-- What Fail does. -/
def failL (s : St) (x : Int) : List Int := del x (lostS { (stopS s x).2 with fl := ins x (stopS s x).2.fl } x s.order)
def failS (s : St) (x : Int) : Int × St × List Int :=
  if (stopS s x).1 = 0 then (0, skipS { (stopS s x).2 with fl := ins x (stopS s x).2.fl } (failL s x), failL s x) else ((stopS s x).1, (stopS s x).2, [])

theorem lost_new {N : Nat} {own : Nat → Nat} {w : World} {b : Nat} {s : St} (h : Sch own w b s) (hN : N ≤ w.heap.size) (x : Int) (w' : World)
    (hw : w' = (w.alloc (.cells #[.int .i64 x] 3)).alloc (.cells #[.slice (some ⟨w.heap.size, 0, none⟩) 1 1] 61)) :
    ∃ own', SameOwn w own own' ∧ Sch own' w' b s ∧ Lost N own' w' (w.heap.size + 1) [x] ∧ Chg (fun _ => False) w w' := by
  subst hw
  have hc : Chg (fun _ => False) w ((w.alloc (.cells #[.int .i64 x] 3)).alloc (.cells #[.slice (some ⟨w.heap.size, 0, none⟩) 1 1] 61)) := (Chg.alloc _ _ _).trans (Chg.alloc _ _ _)
  have hsz : (w.alloc (.cells #[.int .i64 x] 3)).heap.size = w.heap.size + 1 := by simp
  have ho : SameOwn w own (fun k => if k < w.heap.size then own k else if k = w.heap.size then 10 else 9) := fun k hk => if_pos hk
  refine ⟨_, ho, h.keep hc (fun _ _ hb => hb.elim) ho, ⟨?_, by omega, _, ?_, ⟨.inr ⟨w.heap.size, [], rfl, ?_, by simp⟩, ?_⟩, fun g hg => by cases hg; exact hN⟩, hc⟩
  · show (if w.heap.size + 1 < w.heap.size then _ else if w.heap.size + 1 = w.heap.size then 10 else 9) = 9
    rw [if_neg (by omega), if_neg (by omega)]
  · have := heap_alloc_at (w.alloc (.cells #[.int .i64 x] 3)) (.cells #[.slice (some ⟨w.heap.size, 0, none⟩) 1 1] 61)
    rw [hsz] at this
    exact this
  · have h1 := heap_alloc_at w (.cells #[.int .i64 x] 3)
    have h2 := (Chg.alloc (fun _ => False) (w.alloc (.cells #[.int .i64 x] 3)) (.cells #[.slice (some ⟨w.heap.size, 0, none⟩) 1 1] 61)).block w.heap.size (by omega) (fun h => h)
    exact h2.trans h1
  · intro g hg
    cases hg
    show (if w.heap.size < w.heap.size then _ else if w.heap.size = w.heap.size then 10 else 9) = 10
    rw [if_neg (by omega), if_pos rfl]

set_option maxRecDepth 100000 in
set_option maxHeartbeats 4000000 in
theorem fail_any {own : Nat → Nat} {w : World} {b : Nat} {s : St} (h : Sch own w b s) (hg : Good s) (hlim : s.limit ≠ 0) (x : Int) :
    Calls Try.prog 17 #[.pointer (some ⟨b, 0, none⟩), .int .i64 x] w (MPost own w b (failS s x).2.1 (fun r o u => ∃ v, r = .tuple #[v, .int .i64 (failS s x).1] ∧ RowT o 0 u v (failS s x).2.2 ∧ ∀ g, v.ownBlock = some g → w.heap.size ≤ g)) := by
  have hst := stop_any h hg hlim x
  have hgs := good_stop hg x
  unfold failS
  by_cases he : (stopS s x).1 = 0
  · rw [if_pos he]
    have hi := stop_in he
    have hor : (stopS s x).2.order = s.order := by unfold stopS; split; (split <;> rfl); rfl
    have hnd := stop_needs s x
    unfold failL
    rw [he] at hst
    generalize hS1 : (stopS s x).2 = s1 at *
    rw [← hor]
    have hx1 : 0 ≤ x ∧ x < s1.needs.length := by rw [hnd]; exact hi
    clear hi hor hnd hS1 he h hg
    have Hst := hid hst
    have HG1 := hid hgs
    have Hx := hid hx1
    clear hst hgs hx1
    go_enter Try.func17, Try.ntmps17
    go_wp2_with fail
    refine Hst.out.mono ?_; rintro e w1 ⟨r, own1, rfl, h1, h2, h3, rfl⟩
    have HP := hid (⟨h1, h2, h3⟩ : SameOwn w own own1 ∧ Sch own1 w1 b _ ∧ Chg (fun k => own k ≠ 0 ∧ own k ≤ 7) w w1)
    clear h1 h2 h3
    go_wp2_with fail
    refine (HP.out.2.1.put_fl HG1.out x).mono ?_; rintro e w2 hp2
    have HP2 := hid (hp2.after HP.out.1 HP.out.2.2 (fun _ _ _ h => h))
    clear hp2 HP
    obtain ⟨r, own2, rfl, h1, h2, h3, rfl⟩ := HP2.out
    have HP := hid (⟨h1, h2, h3⟩ : SameOwn w own own2 ∧ Sch own2 w2 b _ ∧ Chg (fun k => own k ≠ 0 ∧ own k ≤ 7) w w2)
    clear HP2 h1 h2 h3
    obtain ⟨own3, p1, p2, p3, p4⟩ := lost_new (N := w.heap.size) HP.out.2.1 HP.out.2.2.size x _ rfl
    obtain ⟨_, vo, _, _, _, _, _, _, hO, _, _, _, _, _, _, e1, _, _, _, _, _, _⟩ := p2.cells
    obtain ⟨oa, co, rfl⟩ := row_len hO.1
    have G2 := hid (HG1.out.put_fl Hx.out.1 Hx.out.2)
    have hol := G2.out.lo
    have hro := G2.out.ro
    have HRO := hid hro
    have HLO := hid hol
    have P := hid (⟨HP.out.1.trans p1 HP.out.2.2.size, p2, p3, HP.out.2.2.trans' HP.out.1 p4, hO⟩ : SameOwn w own own3 ∧ Sch own3 _ b _ ∧ Lost w.heap.size own3 _ _ [x] ∧ Chg (fun k => own k ≠ 0 ∧ own k ≤ 7) w _ ∧ RowT own3 2 _ _ _)
    have hlb : w2.heap.size + 1 = w2.heap.size + 1 := rfl
    generalize hS2 : ({ s1 with fl := ins x s1.fl } : St) = s2 at *
    have ho2 : s1.order = s2.order := by rw [← hS2]
    have HO2 := hid ho2
    have HS2 := hid hS2
    have Hx2 := hid (show 0 ≤ x ∧ x < s2.needs.length by rw [← hS2]; exact Hx.out)
    clear p1 p2 p3 p4 hO hro HP hS2 HG1 ho2
    go_wp2_with fail
    generalize hw3 : (w2.alloc (.cells #[.int .i64 x] 3)).alloc (.cells #[.slice (some ⟨w2.heap.size, 0, none⟩) 1 1] 61) = w3 at *
    generalize w2.heap.size + 1 = lb at *
    clear hw3
    go_loopw [9, 29] (fun _ i wr => ∃ k : Nat, k ≤ s2.order.length ∧ i = .int .i64 k ∧ Hid (∃ own4, SameOwn w own own4 ∧ Sch own4 wr b s2 ∧ Lost w.heap.size own4 wr lb (lostS s2 x (s2.order.take k)) ∧ Chg (fun k => own k ≠ 0 ∧ own k ≤ 7) w wr ∧ RowT own4 2 wr (.slice oa s2.order.length co) s2.order)) (fun _ i _ => s2.order.length - (intOf i).toNat)
    case atStart => exact ⟨0, Nat.zero_le _, rfl, hid ⟨own3, P.out⟩⟩
    case round =>
      obtain ⟨k, hk, rfl, J⟩ := hrel
      obtain ⟨own4, j1, j2, j3, j4, j5⟩ := J.out
      clear J
      by_cases hlt : k < s2.order.length
      · obtain ⟨g, c', hv, hcell⟩ := row_at j5.1 hlt
        cases hv
        have hk0 : (0 : Int) ≤ (k : Int) := by omega
        have hk1 : (k : Int) < (s2.order.length : Int) := by omega
        have hry := HRO.out (s2.order.getD k 0) (by rw [List.getD_eq_getElem?_getD, List.getElem?_eq_getElem hlt]; exact List.getElem_mem hlt)
        have hsn := lost_snoc s2 x s2.order k hlt
        obtain ⟨m, hm⟩ : ∃ m : Nat, s2.order.getD k 0 = (m : Int) := ⟨(s2.order.getD k 0).toNat, by omega⟩
        rw [hm] at hcell hry hsn
        have hm0 : (0 : Int) ≤ (m : Int) := by omega
        have hm1 : (m : Int) < (s2.needs.length : Int) := hry.2
        have hn : s2.needs[m]? = some (s2.needs.getD m []) := by
          rw [List.getD_eq_getElem?_getD, List.getElem?_eq_getElem (by omega)]; rfl
        have hnl : (s2.needs.getD m []).length ≤ 100000 := Nat.le_trans (G2.out.li _ (List.mem_of_getElem? hn)) (by decide)
        have hLs : Sorted (lostS s2 x (s2.order.take k)) := lost_good _ _ _ (by simp [Sorted])
        have hLl : (lostS s2 x (s2.order.take k)).length ≤ 100000 := Nat.le_trans (sorted_len _ 0 s2.needs.length hLs (fun y hy => by
          have := lost_range s2 s2.needs.length (s2.order.take k) [x] (by simpa using Hx2.out) (fun y hy => HRO.out y (List.mem_of_mem_take hy)) y hy
          omega)) (Nat.le_trans G2.out.ln (by decide))
        generalize lostS s2 x (s2.order.take k) = L at *
        unfold lostStep at hsn
        rw [show (m : Int).toNat = m from rfl] at hsn
        obtain ⟨vn, vo, vwt, vrn, vdn, vfl, vsk, hN, _, _, _, _, _, _, e0, _, _, _, _, _, _, _⟩ := j2.cells
        obtain ⟨gn, cn, u, rfl, hu, hrow⟩ := needs_at hN hn
        have hhas := fun q => (j2.drewN q).has_wt G2.out m
        have HJ := hid (⟨j1, j2, j3, j4, j5⟩ : SameOwn w own own4 ∧ Sch own4 wr b s2 ∧ Lost w.heap.size own4 wr lb L ∧ Chg (fun k => own k ≠ 0 ∧ own k ≤ 7) w wr ∧ RowT own4 2 wr _ s2.order)
        have HLs := hid hLs
        have HLl := hid hLl
        have Hrow := hid hrow
        have HN := hid hN
        have Hm := hid hm
        have Hn := hid hn
        clear j1 j2 j3 j4 j5 hLs hLl hrow hN hm hn
        have stay : ∀ q, SameOwn w own own4 ∧ Sch own4 (wr.drewN q) b s2 ∧ Lost w.heap.size own4 (wr.drewN q) lb L ∧ Chg (fun k => own k ≠ 0 ∧ own k ≤ 7) w (wr.drewN q) ∧ RowT own4 2 (wr.drewN q) (.slice (some ⟨g, 0, none⟩) s2.order.length co) s2.order := fun q =>
          ⟨HJ.out.1, HJ.out.2.1.drewN q, HJ.out.2.2.1.drewN q, HJ.out.2.2.2.1.trans (Chg.drewN _ _ q), HJ.out.2.2.2.2.keep (Chg.drewN (fun _ => False) _ q) (fun _ _ h => h.elim) (SameOwn.refl _ _)⟩
        have Stay := hid stay
        clear stay
        cases hw : s2.wt.contains (m : Int) with
        | false =>
          rw [hw] at hhas hsn
          have Hsn := hid (hsn.trans rfl)
          have Hhas := hid hhas
          clear hw hsn hhas
          go_wp2_with fail
          refine (Hhas.out 0).mono ?_; rintro e w' ⟨rfl, q, rfl⟩
          go_wp2_with fail
          go_roundw
          case rel => exact ⟨k + 1, by omega, by go_num, hid ⟨own4, by rw [Hsn.out]; exact Stay.out q⟩⟩
          case measure => simp [intOf]; omega
        | true =>
          rw [hw] at hhas hsn
          have Hsn := hid hsn
          have Hhas := hid hhas
          clear hw hsn hhas
          go_wp2_with fail
          refine (Hhas.out 0).mono ?_; rintro e w' ⟨rfl, q, rfl⟩
          go_wp2_with fail
          refine (contains_m (fun W => ∃ q, W = wr.drewN q) lb u (s2.needs.getD m []) hnl (fun y => L.contains y) ?_ ?_ _ ⟨q, rfl⟩).mono ?_
          · rintro W ⟨q', rfl⟩
            exact Hrow.out.1.chg (Chg.drewN (fun _ => False) _ _) (fun _ _ h => h)
          · rintro W y _ ⟨q', rfl⟩
            exact ((Stay.out q').2.2.1.has HLs.out HLl.out y).mono fun e w' ⟨h1, q2, h2⟩ => ⟨h1, q' + q2, by rw [h2, World.drewN_drewN]⟩
          · rintro e w' ⟨rfl, q', rfl⟩
            cases ha : (s2.needs.getD m []).any fun y => L.contains y with
            | false =>
              rw [ha] at Hsn
              clear ha
              go_wp2_with fail
              go_roundw
              case rel => exact ⟨k + 1, by omega, by go_num, hid ⟨own4, by rw [Hsn.out]; exact Stay.out q'⟩⟩
              case measure => simp [intOf]; omega
            | true =>
              rw [ha] at Hsn
              clear ha
              go_wp2_with fail
              refine ((Stay.out q').2.2.1.put (Stay.out q').2.1 HLs.out HLl.out m).mono ?_
              rintro e w6 ⟨rfl, own6, t1, t2, t3, t4⟩
              have T := hid (⟨HJ.out.1.trans t1 (Stay.out q').2.2.2.1.size, t2, t3, Chg.new (Stay.out q').2.2.2.1 t4, (Stay.out q').2.2.2.2.keep t4 (fun k _ hb => by omega) t1⟩ : SameOwn w own own6 ∧ Sch own6 w6 b s2 ∧ Lost w.heap.size own6 w6 lb (ins m L) ∧ Chg (fun k => own k ≠ 0 ∧ own k ≤ 7) w w6 ∧ RowT own6 2 w6 (.slice (some ⟨g, 0, none⟩) s2.order.length co) s2.order)
              clear t1 t2 t3 t4
              go_wp2_with fail
              go_roundw
              case rel => exact ⟨k + 1, by omega, by go_num, hid ⟨own6, by rw [Hsn.out]; exact T.out⟩⟩
              case measure => simp [intOf]; omega
      · have hke : k = s2.order.length := by omega
        rw [hke, List.take_length] at j3
        have hLs : Sorted (lostS s2 x s2.order) := lost_good _ _ _ (by simp [Sorted])
        have hLr : ∀ y ∈ lostS s2 x s2.order, 0 ≤ y ∧ y < s2.needs.length := lost_range s2 s2.needs.length s2.order [x] (by simpa using Hx2.out) HRO.out
        have hLl : (lostS s2 x s2.order).length ≤ 100000 := Nat.le_trans (sorted_len _ 0 s2.needs.length hLs (fun y hy => by have := hLr y hy; omega)) (Nat.le_trans G2.out.ln (by decide))
        generalize hL : lostS s2 x s2.order = L at *
        have HL := hid hL
        have hDr : ∀ y ∈ del x L, 0 ≤ y ∧ y < s2.needs.length := fun y hy => hLr y ((mem_del hLs).1 hy).1
        have hDl : (del x L).length ≤ 100000 := Nat.le_trans (length_del_le x L) hLl
        have HLs := hid hLs
        have HLl := hid hLl
        have HDr := hid hDr
        have HDl := hid hDl
        have HJ := hid (⟨j1, j2, j3, j4⟩ : SameOwn w own own4 ∧ Sch own4 wr b s2 ∧ Lost w.heap.size own4 wr lb L ∧ Chg (fun k => own k ≠ 0 ∧ own k ≤ 7) w wr)
        clear j1 j2 j3 j4 j5 hL hLs hLl hDr hDl hLr
        go_wp2_with fail
        refine (HJ.out.2.2.1.drop HJ.out.2.1 HLs.out HLl.out x).mono ?_
        rintro e w5 ⟨rfl, own5, t1, t2, t3, t4⟩
        have T := hid (⟨HJ.out.1.trans t1 HJ.out.2.2.2.size, t2, t3, Chg.new HJ.out.2.2.2 t4⟩ : SameOwn w own own5 ∧ Sch own5 w5 b s2 ∧ Lost w.heap.size own5 w5 lb (del x L) ∧ Chg (fun k => own k ≠ 0 ∧ own k ≤ 7) w w5)
        clear t1 t2 t3 t4
        go_wp2_with fail
        refine (T.out.2.2.1.all T.out.2.1 HDl.out).mono ?_
        rintro e w6 ⟨r, own6, rfl, t1, t2, t3, t4, t5, t6⟩
        have U := hid (⟨T.out.1.trans t1 T.out.2.2.2.size, t2, t3, T.out.2.2.2.trans (Chg.below t4), t5⟩ : SameOwn w own own6 ∧ Sch own6 w6 b s2 ∧ Lost w.heap.size own6 w6 lb (del x L) ∧ Chg (fun k => own k ≠ 0 ∧ own k ≤ 7) w w6 ∧ RowT own6 0 w6 r (del x L))
        obtain ⟨o6, c6, rfl⟩ := row_len t5.1
        clear t1 t2 t3 t4 t5 t6
        go_wp2_with fail
        refine (skip_any U.out.2.1 G2.out _ _ U.out.2.2.2.2 HDr.out HDl.out).mono ?_
        rintro e w7 hp7
        obtain ⟨r7, own7, rfl, t1, t2, t3, rfl⟩ := hp7
        have V := hid (⟨U.out.1.trans t1 U.out.2.2.2.1.size, t2, U.out.2.2.1.keep t3 (fun k _ hb => hb.2) t1, Chg.old U.out.2.2.2.1 U.out.1 t3⟩ : SameOwn w own own7 ∧ Sch own7 w7 b (skipS s2 (del x L)) ∧ Lost w.heap.size own7 w7 lb (del x L) ∧ Chg (fun k => own k ≠ 0 ∧ own k ≤ 7) w w7)
        clear t1 t2 t3
        go_wp2_with fail
        refine (V.out.2.2.1.all V.out.2.1 HDl.out).mono ?_
        rintro e w8 ⟨r8, own8, rfl, t1, t2, t3, t4, t5, t6⟩
        have X := hid (⟨V.out.1.trans t1 V.out.2.2.2.size, t2, V.out.2.2.2.trans (Chg.below t4), t5, fun g hg => Nat.le_trans V.out.2.2.2.size (t6 g hg)⟩ : SameOwn w own own8 ∧ Sch own8 w8 b (skipS s2 (del x L)) ∧ Chg (fun k => own k ≠ 0 ∧ own k ≤ 7) w w8 ∧ RowT own8 0 w8 r8 (del x L) ∧ ∀ g, r8.ownBlock = some g → w.heap.size ≤ g)
        obtain ⟨o8, c8, rfl⟩ := row_len t5.1
        clear t1 t2 t3 t4 t5 t6
        go_wp2_with fail
        refine bodyPost_ret (v := .tuple #[.slice o8 (del x L).length c8, .int .i64 0]) (by simp [results, Try.results17, go_sem]) rfl ?_
        rw [HS2.out, HO2.out, HL.out]
        exact ⟨_, own8, rfl, X.out.1, X.out.2.1, X.out.2.2.1, _, rfl, X.out.2.2.2⟩
  · rw [if_neg he]
    have Hst := hid hst
    generalize (stopS s x).2 = s1 at *
    generalize (stopS s x).1 = c at *
    clear h hg hst hgs
    go_enter Try.func17, Try.ntmps17
    go_wp2_with fail
    refine Hst.out.mono ?_; rintro e w1 ⟨r, own1, rfl, h1, h2, h3, rfl⟩
    have HP := hid (⟨h1, h2, h3⟩ : SameOwn w own own1 ∧ Sch own1 w1 b _ ∧ Chg (fun k => own k ≠ 0 ∧ own k ≤ 7) w w1)
    clear h1 h2 h3
    go_wp2_with fail
    refine bodyPost_ret (v := .tuple #[.slice none 0 0, .int .i64 c]) (by simp [results, Try.results17, go_sem]) rfl ?_
    exact ⟨_, own1, rfl, HP.out.1, HP.out.2.1, HP.out.2.2, _, rfl, ⟨.inl ⟨rfl, rfl⟩, fun g hg => by cases hg⟩, fun g hg => by cases hg⟩

end Go.Proofs.Ytoaellmjgejgfaa
