/- The Scheduler in the heap: who owns which block. -/
import Derived.Test.YtoaellmjgejgfaaPut
import Derived.Test.YtoaellmjgejgfaaList
namespace Go.Proofs.Ytoaellmjgejgfaa
open Go Go.RowKit Go.Shelf Go.Lib
set_option linter.unusedVariables false

/-- v holds l in a row that 'tag' owns. -/
def RowT (own : Nat → Nat) (tag : Nat) (w : World) (v : Value) (l : List Int) : Prop := Row w v l ∧ ∀ g, v.ownBlock = some g → own g = tag

def SameOwn (w : World) (own own' : Nat → Nat) : Prop := ∀ k, k < w.heap.size → own' k = own k
theorem SameOwn.refl (w : World) (own : Nat → Nat) : SameOwn w own own := fun _ _ => rfl
theorem SameOwn.trans {u w : World} {a b c : Nat → Nat} (h : SameOwn u a b) (k : SameOwn w b c) (hs : u.heap.size ≤ w.heap.size) : SameOwn u a c := fun i hi => (k i (Nat.lt_of_lt_of_le hi hs)).trans (h i hi)

theorem RowT.keep {own own' : Nat → Nat} {tag : Nat} {w w' : World} {v : Value} {l : List Int} {B : Nat → Prop} (h : RowT own tag w v l) (hc : Chg B w w') (hB : ∀ k, k < w.heap.size → B k → own k ≠ tag) (ho : SameOwn w own own') : RowT own' tag w' v l :=
  ⟨h.1.chg hc fun g hg hb => hB g (h.1.lt hg) hb (h.2 g hg), fun g hg => (ho g (h.1.lt hg)).trans (h.2 g hg)⟩

/-- A slice of slices of ints, all that tag's. -/
def NeedsT (own : Nat → Nat) (tag : Nat) (w : World) (v : Value) (ns : List (List Int)) : Prop :=
  ∃ vs : List Value, vs.length = ns.length ∧ (∀ (i : Nat) u l, vs[i]? = some u → ns[i]? = some l → RowT own tag w u l) ∧
    ((v = .slice none 0 0 ∧ vs = []) ∨ ∃ g pad, v = .slice (some ⟨g, 0, none⟩) vs.length (vs.length + pad.length) ∧ w.heap[g]? = some (.cells (vs ++ pad).toArray 31) ∧ own g = tag ∧ vs.length + pad.length ≤ 9223372036854775807 ∧ ∀ u ∈ vs, u.ownBlock ≠ some g)

theorem NeedsT.keep {own own' : Nat → Nat} {tag : Nat} {w w' : World} {v : Value} {ns : List (List Int)} {B : Nat → Prop} (h : NeedsT own tag w v ns) (hc : Chg B w w') (hB : ∀ k, k < w.heap.size → B k → own k ≠ tag) (ho : SameOwn w own own') : NeedsT own' tag w' v ns := by
  obtain ⟨vs, hl, hr, hv⟩ := h
  refine ⟨vs, hl, fun i u l hu hn => (hr i u l hu hn).keep hc hB ho, hv.imp id ?_⟩
  rintro ⟨g, pad, rfl, hh, hg, hx⟩
  have hgl : g < w.heap.size := (Array.getElem?_eq_some_iff.1 hh).1
  exact ⟨g, pad, rfl, (hc.block g hgl fun hb => hB g hgl hb hg).trans hh, (ho g hgl).trans hg, hx⟩

structure St where
  needs : List (List Int)
  order : List Int
  limit : Int
  wt : List Int
  rn : List Int
  dn : List Int
  fl : List Int
  sk : List Int

structure Good (s : St) : Prop where
  ln : s.needs.length ≤ 50000
  lo : s.order.length ≤ 50000
  li : ∀ l ∈ s.needs, l.length ≤ 50000
  ro : ∀ y ∈ s.order, 0 ≤ y ∧ y < s.needs.length
  swt : Sorted s.wt
  rwt : ∀ y ∈ s.wt, 0 ≤ y ∧ y < s.needs.length
  srn : Sorted s.rn
  rrn : ∀ y ∈ s.rn, 0 ≤ y ∧ y < s.needs.length
  sdn : Sorted s.dn
  rdn : ∀ y ∈ s.dn, 0 ≤ y ∧ y < s.needs.length
  sfl : Sorted s.fl
  rfl : ∀ y ∈ s.fl, 0 ≤ y ∧ y < s.needs.length
  ssk : Sorted s.sk
  rsk : ∀ y ∈ s.sk, 0 ≤ y ∧ y < s.needs.length

theorem sorted_len : ∀ (l : List Int) (a : Int) (n : Nat), Sorted l → (∀ y ∈ l, a ≤ y ∧ y < a + n) → l.length ≤ n
  | [], _, _, _, _ => Nat.zero_le _
  | y :: t, a, n, hs, h => by
    obtain ⟨h1, h2⟩ := List.pairwise_cons.1 hs
    have hy := h y (List.mem_cons_self ..)
    have := sorted_len t (y + 1) (n - (y + 1 - a).toNat) h2 fun z hz => by
      have h3 := h1 z hz
      have h4 := h z (List.mem_cons_of_mem _ hz)
      omega
    simp only [List.length_cons]
    omega
theorem Good.nwt {s : St} (h : Good s) : s.wt.length ≤ s.needs.length := sorted_len _ 0 _ h.swt (fun y hy => by have := h.rwt y hy; omega)
theorem Good.lwt {s : St} (h : Good s) : s.wt.length ≤ 50000 := Nat.le_trans h.nwt h.ln
theorem Good.nrn {s : St} (h : Good s) : s.rn.length ≤ s.needs.length := sorted_len _ 0 _ h.srn (fun y hy => by have := h.rrn y hy; omega)
theorem Good.lrn {s : St} (h : Good s) : s.rn.length ≤ 50000 := Nat.le_trans h.nrn h.ln
theorem Good.ndn {s : St} (h : Good s) : s.dn.length ≤ s.needs.length := sorted_len _ 0 _ h.sdn (fun y hy => by have := h.rdn y hy; omega)
theorem Good.ldn {s : St} (h : Good s) : s.dn.length ≤ 50000 := Nat.le_trans h.ndn h.ln
theorem Good.nfl {s : St} (h : Good s) : s.fl.length ≤ s.needs.length := sorted_len _ 0 _ h.sfl (fun y hy => by have := h.rfl y hy; omega)
theorem Good.lfl {s : St} (h : Good s) : s.fl.length ≤ 50000 := Nat.le_trans h.nfl h.ln
theorem Good.nsk {s : St} (h : Good s) : s.sk.length ≤ s.needs.length := sorted_len _ 0 _ h.ssk (fun y hy => by have := h.rsk y hy; omega)
theorem Good.lsk {s : St} (h : Good s) : s.sk.length ≤ 50000 := Nat.le_trans h.nsk h.ln

/-- The cells of the Scheduler. -/
def objOf (s : St) (vn vo vwt vrn vdn vfl vsk : Value) : Obj := .cells #[vn, vo, .int .i64 s.limit, vwt, vrn, vdn, vfl, vsk] 63

def Sch (own : Nat → Nat) (w : World) (b : Nat) (s : St) : Prop :=
  own b = 1 ∧ ∃ vn vo vwt vrn vdn vfl vsk, w.heap[b]? = some (objOf s vn vo vwt vrn vdn vfl vsk) ∧ NeedsT own 2 w vn s.needs ∧ RowT own 2 w vo s.order ∧
    RowT own 3 w vwt s.wt ∧ RowT own 4 w vrn s.rn ∧ RowT own 5 w vdn s.dn ∧ RowT own 6 w vfl s.fl ∧ RowT own 7 w vsk s.sk

theorem Sch.keep {own own' : Nat → Nat} {w w' : World} {b : Nat} {s : St} {B : Nat → Prop} (h : Sch own w b s) (hc : Chg B w w') (hB : ∀ k, k < w.heap.size → B k → own k = 0 ∨ 7 < own k) (ho : SameOwn w own own') : Sch own' w' b s := by
  obtain ⟨hb, vn, vo, vwt, vrn, vdn, vfl, vsk, hh, hn, hor, hwt, hrn, hdn, hfl, hsk⟩ := h
  have hbl : b < w.heap.size := (Array.getElem?_eq_some_iff.1 hh).1
  have no : ∀ t, 0 < t → t ≤ 7 → ∀ k, k < w.heap.size → B k → own k ≠ t := fun t h1 h2 k hk hb e => by
    rcases hB k hk hb with h | h <;> omega
  exact ⟨(ho b hbl).trans hb, vn, vo, vwt, vrn, vdn, vfl, vsk, (hc.block b hbl fun hb' => no 1 (by omega) (by omega) b hbl hb' hb).trans hh, hn.keep hc (no 2 (by omega) (by omega)) ho, hor.keep hc (no 2 (by omega) (by omega)) ho,
    hwt.keep hc (no 3 (by omega) (by omega)) ho, hrn.keep hc (no 4 (by omega) (by omega)) ho, hdn.keep hc (no 5 (by omega) (by omega)) ho, hfl.keep hc (no 6 (by omega) (by omega)) ho, hsk.keep hc (no 7 (by omega) (by omega)) ho⟩

/-- Blocks past the end are tag's. -/
def own2 (own : Nat → Nat) (w : World) (tag : Nat) : Nat → Nat := fun k => if k < w.heap.size then own k else tag
theorem own2_same (own : Nat → Nat) (w : World) (tag : Nat) : SameOwn w own (own2 own w tag) := fun k hk => if_pos hk
theorem own2_new {own : Nat → Nat} {w : World} {tag k : Nat} (h : w.heap.size ≤ k) : own2 own w tag k = tag := if_neg (by omega)

/-- What a method may have done. -/
def MPost (own : Nat → Nat) (w : World) (b : Nat) (s' : St) (R : Value → (Nat → Nat) → World → Prop) (e : Ending) (w' : World) : Prop :=
  ∃ r own', e = .returned r ∧ SameOwn w own own' ∧ Sch own' w' b s' ∧ Chg (fun k => own k ≠ 0 ∧ own k ≤ 7) w w' ∧ R r own' w'

/-- The set 'wt' was turned to l'. -/
theorem Sch.turn_wt {own : Nat → Nat} {w w' : World} {b : Nat} {s : St} {vn vo vwt vrn vdn vfl vsk : Value} {l' : List Int} {e : Ending} (hb : own b = 1)
    (hh : w.heap[b]? = some (objOf s vn vo vwt vrn vdn vfl vsk)) (hn : NeedsT own 2 w vn s.needs) (hor : RowT own 2 w vo s.order)
    (hwt : RowT own 3 w vwt s.wt) (hrn : RowT own 4 w vrn s.rn) (hdn : RowT own 5 w vdn s.dn) (hfl : RowT own 6 w vfl s.fl) (hsk : RowT own 7 w vsk s.sk)
    (hp : PutPost b 3 #[vn, vo, .int .i64 s.limit, vwt, vrn, vdn, vfl, vsk] 63 vwt l' w e w') :
    MPost own w b { s with wt := l' } (fun r _ _ => r = .tuple #[]) e w' := by
  obtain ⟨rfl, v', hobj, hr, hown, hchg⟩ := hp
  have hbl : b < w.heap.size := (Array.getElem?_eq_some_iff.1 hh).1
  have ho := own2_same own w 3
  have no : ∀ t, t ≠ 1 → t ≠ 3 → ∀ k, k < w.heap.size → (k = b ∨ vwt.ownBlock = some k) → own k ≠ t := fun t h1 h2 k hk hB e => by
    rcases hB with rfl | hB
    · omega
    · have := hwt.2 k hB; omega
  refine ⟨_, own2 own w 3, rfl, ho, ⟨(ho b hbl).trans hb, vn, vo, v', vrn, vdn, vfl, vsk, hobj, hn.keep hchg (no 2 (by omega) (by omega)) ho, hor.keep hchg (no 2 (by omega) (by omega)) ho,
    ⟨hr, ?_⟩, hrn.keep hchg (no 4 (by omega) (by omega)) ho, hdn.keep hchg (no 5 (by omega) (by omega)) ho, hfl.keep hchg (no 6 (by omega) (by omega)) ho, hsk.keep hchg (no 7 (by omega) (by omega)) ho⟩, hchg.mono fun k hk hB => ?_, rfl⟩
  · intro g hg
    rcases hown with h | ⟨g', h, hg'⟩
    · rw [h] at hg
      exact (ho g (hwt.1.lt hg)).trans (hwt.2 g hg)
    · rw [h] at hg
      cases hg
      exact own2_new hg'
  · rcases hB with rfl | hB
    · omega
    · have := hwt.2 k hB; omega

/-- The set 'rn' was turned to l'. -/
theorem Sch.turn_rn {own : Nat → Nat} {w w' : World} {b : Nat} {s : St} {vn vo vwt vrn vdn vfl vsk : Value} {l' : List Int} {e : Ending} (hb : own b = 1)
    (hh : w.heap[b]? = some (objOf s vn vo vwt vrn vdn vfl vsk)) (hn : NeedsT own 2 w vn s.needs) (hor : RowT own 2 w vo s.order)
    (hwt : RowT own 3 w vwt s.wt) (hrn : RowT own 4 w vrn s.rn) (hdn : RowT own 5 w vdn s.dn) (hfl : RowT own 6 w vfl s.fl) (hsk : RowT own 7 w vsk s.sk)
    (hp : PutPost b 4 #[vn, vo, .int .i64 s.limit, vwt, vrn, vdn, vfl, vsk] 63 vrn l' w e w') :
    MPost own w b { s with rn := l' } (fun r _ _ => r = .tuple #[]) e w' := by
  obtain ⟨rfl, v', hobj, hr, hown, hchg⟩ := hp
  have hbl : b < w.heap.size := (Array.getElem?_eq_some_iff.1 hh).1
  have ho := own2_same own w 4
  have no : ∀ t, t ≠ 1 → t ≠ 4 → ∀ k, k < w.heap.size → (k = b ∨ vrn.ownBlock = some k) → own k ≠ t := fun t h1 h2 k hk hB e => by
    rcases hB with rfl | hB
    · omega
    · have := hrn.2 k hB; omega
  refine ⟨_, own2 own w 4, rfl, ho, ⟨(ho b hbl).trans hb, vn, vo, vwt, v', vdn, vfl, vsk, hobj, hn.keep hchg (no 2 (by omega) (by omega)) ho, hor.keep hchg (no 2 (by omega) (by omega)) ho,
    hwt.keep hchg (no 3 (by omega) (by omega)) ho, ⟨hr, ?_⟩, hdn.keep hchg (no 5 (by omega) (by omega)) ho, hfl.keep hchg (no 6 (by omega) (by omega)) ho, hsk.keep hchg (no 7 (by omega) (by omega)) ho⟩, hchg.mono fun k hk hB => ?_, rfl⟩
  · intro g hg
    rcases hown with h | ⟨g', h, hg'⟩
    · rw [h] at hg
      exact (ho g (hrn.1.lt hg)).trans (hrn.2 g hg)
    · rw [h] at hg
      cases hg
      exact own2_new hg'
  · rcases hB with rfl | hB
    · omega
    · have := hrn.2 k hB; omega

/-- The set 'dn' was turned to l'. -/
theorem Sch.turn_dn {own : Nat → Nat} {w w' : World} {b : Nat} {s : St} {vn vo vwt vrn vdn vfl vsk : Value} {l' : List Int} {e : Ending} (hb : own b = 1)
    (hh : w.heap[b]? = some (objOf s vn vo vwt vrn vdn vfl vsk)) (hn : NeedsT own 2 w vn s.needs) (hor : RowT own 2 w vo s.order)
    (hwt : RowT own 3 w vwt s.wt) (hrn : RowT own 4 w vrn s.rn) (hdn : RowT own 5 w vdn s.dn) (hfl : RowT own 6 w vfl s.fl) (hsk : RowT own 7 w vsk s.sk)
    (hp : PutPost b 5 #[vn, vo, .int .i64 s.limit, vwt, vrn, vdn, vfl, vsk] 63 vdn l' w e w') :
    MPost own w b { s with dn := l' } (fun r _ _ => r = .tuple #[]) e w' := by
  obtain ⟨rfl, v', hobj, hr, hown, hchg⟩ := hp
  have hbl : b < w.heap.size := (Array.getElem?_eq_some_iff.1 hh).1
  have ho := own2_same own w 5
  have no : ∀ t, t ≠ 1 → t ≠ 5 → ∀ k, k < w.heap.size → (k = b ∨ vdn.ownBlock = some k) → own k ≠ t := fun t h1 h2 k hk hB e => by
    rcases hB with rfl | hB
    · omega
    · have := hdn.2 k hB; omega
  refine ⟨_, own2 own w 5, rfl, ho, ⟨(ho b hbl).trans hb, vn, vo, vwt, vrn, v', vfl, vsk, hobj, hn.keep hchg (no 2 (by omega) (by omega)) ho, hor.keep hchg (no 2 (by omega) (by omega)) ho,
    hwt.keep hchg (no 3 (by omega) (by omega)) ho, hrn.keep hchg (no 4 (by omega) (by omega)) ho, ⟨hr, ?_⟩, hfl.keep hchg (no 6 (by omega) (by omega)) ho, hsk.keep hchg (no 7 (by omega) (by omega)) ho⟩, hchg.mono fun k hk hB => ?_, rfl⟩
  · intro g hg
    rcases hown with h | ⟨g', h, hg'⟩
    · rw [h] at hg
      exact (ho g (hdn.1.lt hg)).trans (hdn.2 g hg)
    · rw [h] at hg
      cases hg
      exact own2_new hg'
  · rcases hB with rfl | hB
    · omega
    · have := hdn.2 k hB; omega

/-- The set 'fl' was turned to l'. -/
theorem Sch.turn_fl {own : Nat → Nat} {w w' : World} {b : Nat} {s : St} {vn vo vwt vrn vdn vfl vsk : Value} {l' : List Int} {e : Ending} (hb : own b = 1)
    (hh : w.heap[b]? = some (objOf s vn vo vwt vrn vdn vfl vsk)) (hn : NeedsT own 2 w vn s.needs) (hor : RowT own 2 w vo s.order)
    (hwt : RowT own 3 w vwt s.wt) (hrn : RowT own 4 w vrn s.rn) (hdn : RowT own 5 w vdn s.dn) (hfl : RowT own 6 w vfl s.fl) (hsk : RowT own 7 w vsk s.sk)
    (hp : PutPost b 6 #[vn, vo, .int .i64 s.limit, vwt, vrn, vdn, vfl, vsk] 63 vfl l' w e w') :
    MPost own w b { s with fl := l' } (fun r _ _ => r = .tuple #[]) e w' := by
  obtain ⟨rfl, v', hobj, hr, hown, hchg⟩ := hp
  have hbl : b < w.heap.size := (Array.getElem?_eq_some_iff.1 hh).1
  have ho := own2_same own w 6
  have no : ∀ t, t ≠ 1 → t ≠ 6 → ∀ k, k < w.heap.size → (k = b ∨ vfl.ownBlock = some k) → own k ≠ t := fun t h1 h2 k hk hB e => by
    rcases hB with rfl | hB
    · omega
    · have := hfl.2 k hB; omega
  refine ⟨_, own2 own w 6, rfl, ho, ⟨(ho b hbl).trans hb, vn, vo, vwt, vrn, vdn, v', vsk, hobj, hn.keep hchg (no 2 (by omega) (by omega)) ho, hor.keep hchg (no 2 (by omega) (by omega)) ho,
    hwt.keep hchg (no 3 (by omega) (by omega)) ho, hrn.keep hchg (no 4 (by omega) (by omega)) ho, hdn.keep hchg (no 5 (by omega) (by omega)) ho, ⟨hr, ?_⟩, hsk.keep hchg (no 7 (by omega) (by omega)) ho⟩, hchg.mono fun k hk hB => ?_, rfl⟩
  · intro g hg
    rcases hown with h | ⟨g', h, hg'⟩
    · rw [h] at hg
      exact (ho g (hfl.1.lt hg)).trans (hfl.2 g hg)
    · rw [h] at hg
      cases hg
      exact own2_new hg'
  · rcases hB with rfl | hB
    · omega
    · have := hfl.2 k hB; omega

/-- The set 'sk' was turned to l'. -/
theorem Sch.turn_sk {own : Nat → Nat} {w w' : World} {b : Nat} {s : St} {vn vo vwt vrn vdn vfl vsk : Value} {l' : List Int} {e : Ending} (hb : own b = 1)
    (hh : w.heap[b]? = some (objOf s vn vo vwt vrn vdn vfl vsk)) (hn : NeedsT own 2 w vn s.needs) (hor : RowT own 2 w vo s.order)
    (hwt : RowT own 3 w vwt s.wt) (hrn : RowT own 4 w vrn s.rn) (hdn : RowT own 5 w vdn s.dn) (hfl : RowT own 6 w vfl s.fl) (hsk : RowT own 7 w vsk s.sk)
    (hp : PutPost b 7 #[vn, vo, .int .i64 s.limit, vwt, vrn, vdn, vfl, vsk] 63 vsk l' w e w') :
    MPost own w b { s with sk := l' } (fun r _ _ => r = .tuple #[]) e w' := by
  obtain ⟨rfl, v', hobj, hr, hown, hchg⟩ := hp
  have hbl : b < w.heap.size := (Array.getElem?_eq_some_iff.1 hh).1
  have ho := own2_same own w 7
  have no : ∀ t, t ≠ 1 → t ≠ 7 → ∀ k, k < w.heap.size → (k = b ∨ vsk.ownBlock = some k) → own k ≠ t := fun t h1 h2 k hk hB e => by
    rcases hB with rfl | hB
    · omega
    · have := hsk.2 k hB; omega
  refine ⟨_, own2 own w 7, rfl, ho, ⟨(ho b hbl).trans hb, vn, vo, vwt, vrn, vdn, vfl, v', hobj, hn.keep hchg (no 2 (by omega) (by omega)) ho, hor.keep hchg (no 2 (by omega) (by omega)) ho,
    hwt.keep hchg (no 3 (by omega) (by omega)) ho, hrn.keep hchg (no 4 (by omega) (by omega)) ho, hdn.keep hchg (no 5 (by omega) (by omega)) ho, hfl.keep hchg (no 6 (by omega) (by omega)) ho, ⟨hr, ?_⟩⟩, hchg.mono fun k hk hB => ?_, rfl⟩
  · intro g hg
    rcases hown with h | ⟨g', h, hg'⟩
    · rw [h] at hg
      exact (ho g (hsk.1.lt hg)).trans (hsk.2 g hg)
    · rw [h] at hg
      cases hg
      exact own2_new hg'
  · rcases hB with rfl | hB
    · omega
    · have := hsk.2 k hB; omega

theorem Sch.put_wt {own : Nat → Nat} {w : World} {b : Nat} {s : St} (h : Sch own w b s) (hg : Good s) (x : Int) :
    Calls Try.prog 34 #[.pointer (some ⟨b, 3, none⟩), .int .i64 x] w (MPost own w b { s with wt := ins x s.wt } (fun r _ _ => r = .tuple #[])) := by
  obtain ⟨hb, vn, vo, vwt, vrn, vdn, vfl, vsk, hh, hn, hor, hwt, hrn, hdn, hfl, hsk⟩ := h
  exact (put_any b 3 _ 63 vwt s.wt x w hh rfl hwt.1 hg.swt (Nat.le_trans hg.lwt (by decide)) (fun e => by have := hwt.2 b e; omega)).mono fun e w' hp => Sch.turn_wt hb hh hn hor hwt hrn hdn hfl hsk hp

theorem Sch.put_rn {own : Nat → Nat} {w : World} {b : Nat} {s : St} (h : Sch own w b s) (hg : Good s) (x : Int) :
    Calls Try.prog 34 #[.pointer (some ⟨b, 4, none⟩), .int .i64 x] w (MPost own w b { s with rn := ins x s.rn } (fun r _ _ => r = .tuple #[])) := by
  obtain ⟨hb, vn, vo, vwt, vrn, vdn, vfl, vsk, hh, hn, hor, hwt, hrn, hdn, hfl, hsk⟩ := h
  exact (put_any b 4 _ 63 vrn s.rn x w hh rfl hrn.1 hg.srn (Nat.le_trans hg.lrn (by decide)) (fun e => by have := hrn.2 b e; omega)).mono fun e w' hp => Sch.turn_rn hb hh hn hor hwt hrn hdn hfl hsk hp

theorem Sch.put_dn {own : Nat → Nat} {w : World} {b : Nat} {s : St} (h : Sch own w b s) (hg : Good s) (x : Int) :
    Calls Try.prog 34 #[.pointer (some ⟨b, 5, none⟩), .int .i64 x] w (MPost own w b { s with dn := ins x s.dn } (fun r _ _ => r = .tuple #[])) := by
  obtain ⟨hb, vn, vo, vwt, vrn, vdn, vfl, vsk, hh, hn, hor, hwt, hrn, hdn, hfl, hsk⟩ := h
  exact (put_any b 5 _ 63 vdn s.dn x w hh rfl hdn.1 hg.sdn (Nat.le_trans hg.ldn (by decide)) (fun e => by have := hdn.2 b e; omega)).mono fun e w' hp => Sch.turn_dn hb hh hn hor hwt hrn hdn hfl hsk hp

theorem Sch.put_fl {own : Nat → Nat} {w : World} {b : Nat} {s : St} (h : Sch own w b s) (hg : Good s) (x : Int) :
    Calls Try.prog 34 #[.pointer (some ⟨b, 6, none⟩), .int .i64 x] w (MPost own w b { s with fl := ins x s.fl } (fun r _ _ => r = .tuple #[])) := by
  obtain ⟨hb, vn, vo, vwt, vrn, vdn, vfl, vsk, hh, hn, hor, hwt, hrn, hdn, hfl, hsk⟩ := h
  exact (put_any b 6 _ 63 vfl s.fl x w hh rfl hfl.1 hg.sfl (Nat.le_trans hg.lfl (by decide)) (fun e => by have := hfl.2 b e; omega)).mono fun e w' hp => Sch.turn_fl hb hh hn hor hwt hrn hdn hfl hsk hp

theorem Sch.put_sk {own : Nat → Nat} {w : World} {b : Nat} {s : St} (h : Sch own w b s) (hg : Good s) (x : Int) :
    Calls Try.prog 34 #[.pointer (some ⟨b, 7, none⟩), .int .i64 x] w (MPost own w b { s with sk := ins x s.sk } (fun r _ _ => r = .tuple #[])) := by
  obtain ⟨hb, vn, vo, vwt, vrn, vdn, vfl, vsk, hh, hn, hor, hwt, hrn, hdn, hfl, hsk⟩ := h
  exact (put_any b 7 _ 63 vsk s.sk x w hh rfl hsk.1 hg.ssk (Nat.le_trans hg.lsk (by decide)) (fun e => by have := hsk.2 b e; omega)).mono fun e w' hp => Sch.turn_sk hb hh hn hor hwt hrn hdn hfl hsk hp

theorem Sch.drop_wt {own : Nat → Nat} {w : World} {b : Nat} {s : St} (h : Sch own w b s) (hg : Good s) (x : Int) :
    Calls Try.prog 40 #[.pointer (some ⟨b, 3, none⟩), .int .i64 x] w (MPost own w b { s with wt := del x s.wt } (fun r _ _ => r = .tuple #[])) := by
  obtain ⟨hb, vn, vo, vwt, vrn, vdn, vfl, vsk, hh, hn, hor, hwt, hrn, hdn, hfl, hsk⟩ := h
  exact (drop_any b 3 _ 63 vwt s.wt x w hh rfl hwt.1 hg.swt (Nat.le_trans hg.lwt (by decide)) (fun e => by have := hwt.2 b e; omega)).mono fun e w' hp => Sch.turn_wt hb hh hn hor hwt hrn hdn hfl hsk hp

theorem Sch.drop_rn {own : Nat → Nat} {w : World} {b : Nat} {s : St} (h : Sch own w b s) (hg : Good s) (x : Int) :
    Calls Try.prog 40 #[.pointer (some ⟨b, 4, none⟩), .int .i64 x] w (MPost own w b { s with rn := del x s.rn } (fun r _ _ => r = .tuple #[])) := by
  obtain ⟨hb, vn, vo, vwt, vrn, vdn, vfl, vsk, hh, hn, hor, hwt, hrn, hdn, hfl, hsk⟩ := h
  exact (drop_any b 4 _ 63 vrn s.rn x w hh rfl hrn.1 hg.srn (Nat.le_trans hg.lrn (by decide)) (fun e => by have := hrn.2 b e; omega)).mono fun e w' hp => Sch.turn_rn hb hh hn hor hwt hrn hdn hfl hsk hp

theorem Sch.has_wt {own : Nat → Nat} {w : World} {b : Nat} {s : St} (h : Sch own w b s) (hg : Good s) (x : Int) :
    Calls Try.prog 42 #[.pointer (some ⟨b, 3, none⟩), .int .i64 x] w fun e w' => e = .returned (.bool (s.wt.contains x)) ∧ ∃ q, w' = w.drewN q := by
  obtain ⟨hb, vn, vo, vwt, vrn, vdn, vfl, vsk, hh, hn, hor, hwt, hrn, hdn, hfl, hsk⟩ := h
  exact has_any b 3 _ 63 vwt s.wt x w hh rfl hwt.1 hg.swt (Nat.le_trans hg.lwt (by decide))

theorem Sch.has_rn {own : Nat → Nat} {w : World} {b : Nat} {s : St} (h : Sch own w b s) (hg : Good s) (x : Int) :
    Calls Try.prog 42 #[.pointer (some ⟨b, 4, none⟩), .int .i64 x] w fun e w' => e = .returned (.bool (s.rn.contains x)) ∧ ∃ q, w' = w.drewN q := by
  obtain ⟨hb, vn, vo, vwt, vrn, vdn, vfl, vsk, hh, hn, hor, hwt, hrn, hdn, hfl, hsk⟩ := h
  exact has_any b 4 _ 63 vrn s.rn x w hh rfl hrn.1 hg.srn (Nat.le_trans hg.lrn (by decide))

theorem Sch.has_dn {own : Nat → Nat} {w : World} {b : Nat} {s : St} (h : Sch own w b s) (hg : Good s) (x : Int) :
    Calls Try.prog 42 #[.pointer (some ⟨b, 5, none⟩), .int .i64 x] w fun e w' => e = .returned (.bool (s.dn.contains x)) ∧ ∃ q, w' = w.drewN q := by
  obtain ⟨hb, vn, vo, vwt, vrn, vdn, vfl, vsk, hh, hn, hor, hwt, hrn, hdn, hfl, hsk⟩ := h
  exact has_any b 5 _ 63 vdn s.dn x w hh rfl hdn.1 hg.sdn (Nat.le_trans hg.ldn (by decide))

theorem Sch.has_fl {own : Nat → Nat} {w : World} {b : Nat} {s : St} (h : Sch own w b s) (hg : Good s) (x : Int) :
    Calls Try.prog 42 #[.pointer (some ⟨b, 6, none⟩), .int .i64 x] w fun e w' => e = .returned (.bool (s.fl.contains x)) ∧ ∃ q, w' = w.drewN q := by
  obtain ⟨hb, vn, vo, vwt, vrn, vdn, vfl, vsk, hh, hn, hor, hwt, hrn, hdn, hfl, hsk⟩ := h
  exact has_any b 6 _ 63 vfl s.fl x w hh rfl hfl.1 hg.sfl (Nat.le_trans hg.lfl (by decide))

theorem Sch.has_sk {own : Nat → Nat} {w : World} {b : Nat} {s : St} (h : Sch own w b s) (hg : Good s) (x : Int) :
    Calls Try.prog 42 #[.pointer (some ⟨b, 7, none⟩), .int .i64 x] w fun e w' => e = .returned (.bool (s.sk.contains x)) ∧ ∃ q, w' = w.drewN q := by
  obtain ⟨hb, vn, vo, vwt, vrn, vdn, vfl, vsk, hh, hn, hor, hwt, hrn, hdn, hfl, hsk⟩ := h
  exact has_any b 7 _ 63 vsk s.sk x w hh rfl hsk.1 hg.ssk (Nat.le_trans hg.lsk (by decide))

theorem Good.put_wt {s : St} (h : Good s) {x : Int} (h0 : 0 ≤ x) (h1 : x < s.needs.length) : Good { s with wt := ins x s.wt } :=
  { h with swt := sorted_ins h.swt, rwt := fun y hy => (mem_ins.1 hy).elim (fun e => by subst e; exact ⟨h0, h1⟩) (fun hy => h.rwt y hy) }
theorem Good.drop_wt {s : St} (h : Good s) (x : Int) : Good { s with wt := del x s.wt } :=
  { h with swt := sorted_del h.swt, rwt := fun y hy => h.rwt y ((mem_del h.swt).1 hy).1 }

theorem Good.put_rn {s : St} (h : Good s) {x : Int} (h0 : 0 ≤ x) (h1 : x < s.needs.length) : Good { s with rn := ins x s.rn } :=
  { h with srn := sorted_ins h.srn, rrn := fun y hy => (mem_ins.1 hy).elim (fun e => by subst e; exact ⟨h0, h1⟩) (fun hy => h.rrn y hy) }
theorem Good.drop_rn {s : St} (h : Good s) (x : Int) : Good { s with rn := del x s.rn } :=
  { h with srn := sorted_del h.srn, rrn := fun y hy => h.rrn y ((mem_del h.srn).1 hy).1 }

theorem Good.put_dn {s : St} (h : Good s) {x : Int} (h0 : 0 ≤ x) (h1 : x < s.needs.length) : Good { s with dn := ins x s.dn } :=
  { h with sdn := sorted_ins h.sdn, rdn := fun y hy => (mem_ins.1 hy).elim (fun e => by subst e; exact ⟨h0, h1⟩) (fun hy => h.rdn y hy) }
theorem Good.drop_dn {s : St} (h : Good s) (x : Int) : Good { s with dn := del x s.dn } :=
  { h with sdn := sorted_del h.sdn, rdn := fun y hy => h.rdn y ((mem_del h.sdn).1 hy).1 }

theorem Good.put_fl {s : St} (h : Good s) {x : Int} (h0 : 0 ≤ x) (h1 : x < s.needs.length) : Good { s with fl := ins x s.fl } :=
  { h with sfl := sorted_ins h.sfl, rfl := fun y hy => (mem_ins.1 hy).elim (fun e => by subst e; exact ⟨h0, h1⟩) (fun hy => h.rfl y hy) }
theorem Good.drop_fl {s : St} (h : Good s) (x : Int) : Good { s with fl := del x s.fl } :=
  { h with sfl := sorted_del h.sfl, rfl := fun y hy => h.rfl y ((mem_del h.sfl).1 hy).1 }

theorem Good.put_sk {s : St} (h : Good s) {x : Int} (h0 : 0 ≤ x) (h1 : x < s.needs.length) : Good { s with sk := ins x s.sk } :=
  { h with ssk := sorted_ins h.ssk, rsk := fun y hy => (mem_ins.1 hy).elim (fun e => by subst e; exact ⟨h0, h1⟩) (fun hy => h.rsk y hy) }
theorem Good.drop_sk {s : St} (h : Good s) (x : Int) : Good { s with sk := del x s.sk } :=
  { h with ssk := sorted_del h.ssk, rsk := fun y hy => h.rsk y ((mem_del h.ssk).1 hy).1 }

end Go.Proofs.Ytoaellmjgejgfaa
