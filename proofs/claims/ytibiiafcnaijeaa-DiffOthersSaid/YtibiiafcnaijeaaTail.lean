/- The end of a round of Propose: the name and its value are appended. -/
import Derived.Test.YtibiiafcnaijeaaTwo
namespace Go.Proofs.Ytibiiafcnaijeaa
open Go Go.RowKit
set_option linter.unusedVariables false
set_option linter.unusedSimpArgs false

def Free (vi vk vv : Value) (g : Nat) : Prop := vi.ownBlock ≠ some g ∧ vk.ownBlock ≠ some g ∧ vv.ownBlock ≠ some g
/-- One value stands in box n. -/
structure TS (wr wx : World) (n : Nat) (r : V5) (it : Vl) : Prop where
  bel : Below wr.heap.size wr wx
  hn : wr.heap.size ≤ n
  on : wx.heap[n]? = some (cells5 r)
  it : VV (fun g => wr.heap.size ≤ g ∧ g ≠ n) wx (pent r) it
/-- The same, told by what the value of the call does not hold. -/
structure TL (w2 wx : World) (X n : Nat) (r : V5) (it : Vl) (vi vk vv : Value) (is : List Vl) (ks : List ByteArray) (vs : List Nat) : Prop where
  pr : PR w2 wx X vi vk vv is ks vs
  hn : w2.heap.size ≤ n
  on : wx.heap[n]? = some (cells5 r)
  own : Free vi vk vv n
  it : VV (fun g => w2.heap.size ≤ g ∧ g ≠ n ∧ Free vi vk vv g) wx (pent r) it
section
variable {w2 wr wx w' : World} {X m n j : Nat} {r r1 r2 : V5} {it v1 v2 : Vl} {vi vk vv vi' vk' vv' : Value} {is : List Vl} {ks ks' : List ByteArray} {vs : List Nat}
theorem TW.later (h : TW wr wx m n r1 r2 v1 v2) (hb : Below wx.heap.size wx w') : TW wr w' m n r1 r2 v1 v2 :=
  ⟨h.bel.trans (hb.mono h.bel.size), h.hm, h.hn, h.ne, keep_obj h.om hb, keep_obj h.on hb, h.p.bel hb, h.q.bel hb⟩
theorem TS.later (h : TS wr wx n r it) (hb : Below wx.heap.size wx w') : TS wr w' n r it :=
  ⟨h.bel.trans (hb.mono h.bel.size), h.hn, keep_obj h.on hb, h.it.bel hb⟩
theorem TW.cnfg (h : TW wr wx m n r1 r2 v1 v2) : TS wr wx n r2 v2 := ⟨h.bel, h.hn, h.on, h.q.mono fun g hg => ⟨hg.1, hg.2.2⟩⟩
theorem TW.put (h : TW wr wx m n r1 r2 v1 v2) {S : Nat → Prop} {t : Vl} (ht : VV S wx (pent r) t) (hs : ∀ g, S g → wr.heap.size ≤ g ∧ g ≠ n) : TS wr (put5 wx n r) n r t := by
  have c := chg_store5 wx n r.1 r.2.1 r.2.2.1 r.2.2.2.1 r.2.2.2.2
  exact ⟨h.bel.trans (chg_bel c (fun g e => by rw [e]; exact h.hn) h.bel.size), h.hn, put5_obj h.on rfl r, (ht.keep (KeepsP.chg c fun g hg => (hs g hg).2) hs)⟩
theorem TW.prior (h : TW wr wx m n r1 r2 v1 v2) : TS wr (put5 wx n r1) n r1 v1 := h.put h.p fun g hg => ⟨hg.1, hg.2.2⟩
theorem TW.fresh (h : TW wr wx m n r1 r2 v1 v2) {t : Vl} (hb : Below wx.heap.size wx w') (ht : VV (fun g => wx.heap.size ≤ g) w' (pent r) t) : TS wr (put5 w' n r) n r t :=
  (h.later hb).put ht fun g hg => ⟨Nat.le_trans h.bel.size hg, fun e => by have := (Array.getElem?_eq_some_iff.1 h.on).1; rw [e] at hg; omega⟩
theorem TL.of (T : PR w2 wr X vi vk vv is ks vs) (t : TS wr wx n r it) : TL w2 wx X n r it vi vk vv is ks vs := by
  have hs := T.chg.size
  have hn := t.hn
  have fr : ∀ g, wr.heap.size ≤ g → Free vi vk vv g := fun g hg => ⟨fun e => by have := (T.items.block e).2; omega, fun e => by have := T.row.lt e; omega, fun e => by have := (T.vown g e).2.1; omega⟩
  exact ⟨T.later t.bel, by omega, t.on, fr n hn, t.it.mono fun g hg => ⟨by have := hg.1; omega, hg.2, fr g hg.1⟩⟩
theorem TL.later (h : TL w2 wx X n r it vi vk vv is ks vs) (hb : Below wx.heap.size wx w') : TL w2 w' X n r it vi vk vv is ks vs :=
  ⟨h.pr.later hb, h.hn, keep_obj h.on hb, h.own, h.it.bel hb⟩
theorem TL.pushV (h : TL w2 wx X n r it vi vk vv is ks vs) (hr : w'.ownsRow 0 3 1 vv' (vs.length + 1) (ints vs ++ [.int .i64 (j : Int)])) (hp : vv'.ownBlock = vv.ownBlock ∨ ∃ g, vv'.ownBlock = some g ∧ wx.heap.size ≤ g) (hc : Chg (fun g => vv.ownBlock = some g) wx w') :
    TL w2 w' X n r it vi vk vv' is ks (vs ++ [j]) := by
  have lt := (Array.getElem?_eq_some_iff.1 h.on).1
  have hnew : ∀ g, g < wx.heap.size → Free vi vk vv g → Free vi vk vv' g := fun g hg hf => ⟨hf.1, hf.2.1, fun e => by
    rcases hp with h1 | ⟨g', h1, h2⟩
    · exact hf.2.2 (h1 ▸ e)
    · rw [h1] at e; cases e; omega⟩
  exact ⟨h.pr.pushV hr hp hc, h.hn, (hc.block n lt (fun e => h.own.2.2 e)).trans h.on, hnew n lt h.own, h.it.ex.keep (KeepsP.chg hc fun g hg => hg.1.2.2.2.2) fun g hg => ⟨hg.1.1, hg.1.2.1, hnew g hg.2 hg.1.2.2⟩⟩
theorem TL.pushK (h : TL w2 wx X n r it vi vk vv is ks vs) (hr : Row w' vk' ks') (hs : ∀ s ∈ ks', s.size ≤ 140737488355328) (hp : vk'.ownBlock = vk.ownBlock ∨ ∃ g, vk'.ownBlock = some g ∧ wx.heap.size ≤ g) (hc : Chg (fun g => vk.ownBlock = some g) wx w') :
    TL w2 (w'.setCell ⟨X, 4, none⟩ vk') X n r it vi vk' vv is ks' vs := by
  have lt := (Array.getElem?_eq_some_iff.1 h.on).1
  have hX := h.pr.hX
  have hn := h.hn
  have c2 := Chg.setCell (B := fun g => g = X) w' X 4 vk' rfl
  have hnew : ∀ g, g < wx.heap.size → Free vi vk vv g → Free vi vk' vv g := fun g hg hf => ⟨hf.1, (fun e => by
    rcases hp with h1 | ⟨g', h1, h2⟩
    · exact hf.2.1 (h1 ▸ e)
    · rw [h1] at e; cases e; omega), hf.2.2⟩
  refine ⟨h.pr.pushK hr hs hp hc, hn, (c2.block n (Nat.lt_of_lt_of_le lt hc.size) (by omega)).trans ((hc.block n lt (fun e => h.own.2.1 e)).trans h.on), hnew n lt h.own, ?_⟩
  exact (h.it.ex.keep (Q := fun g => w2.heap.size ≤ g ∧ g ≠ n ∧ Free vi vk' vv g) (KeepsP.chg hc fun g hg => hg.1.2.2.2.1) fun g hg => ⟨hg.1.1, hg.1.2.1, hnew g hg.2 hg.1.2.2⟩).keep (KeepsP.chg c2 fun g hg e => by have := hg.1; omega) fun g hg => hg
theorem TL.pushI (h : TL w2 wx X n r it vi vk vv is ks vs) {rs : List V5} (hm : Made w2.heap.size wx 26 5 vi is.length (flat5 rs)) (hl : rs.length = is.length)
    (he : ∀ (i : Nat) r t, rs[i]? = some r → is[i]? = some t → VV (fun g => (w2.heap.size ≤ g ∧ vk.ownBlock ≠ some g ∧ vv.ownBlock ≠ some g) ∧ g < wx.heap.size ∧ g ≠ X ∧ vi.ownBlock ≠ some g) wx (pent r) t)
    (hown : w'.ownsRow 0 26 5 vi' (is.length + 1) (flat5 rs ++ [r.1, r.2.1, r.2.2.1, r.2.2.2.1, r.2.2.2.2])) (hp : vi'.ownBlock = vi.ownBlock ∨ ∃ g, vi'.ownBlock = some g ∧ wx.heap.size ≤ g) (hc : Chg (fun g => vi.ownBlock = some g) wx w') :
    PR w2 (w'.setCell ⟨X, 3, none⟩ vi') X vi' vk vv (is ++ [it]) ks vs :=
  h.pr.pushI (OwnW.push h.pr.chg.size ⟨rs, hm, hl, he, hown⟩ h.it (fun g hg => ⟨⟨hg.1, hg.2.2.2.1, hg.2.2.2.2⟩, (fun e => by have := h.pr.hX; have := hg.1; omega), hg.2.2.1⟩) hc hp) hp hc
end
end Go.Proofs.Ytibiiafcnaijeaa
