/- Includes. -/
import Derived.Test.YtfljnigbfacmjaaGreatDoorEq
namespace Go.Proofs.YtfljnigbfacmjaaGreatDoor
open Go Go.RowKit Go.Proofs.YtfljnigbfacmjaaGreatDoor.Steady
set_option linter.unusedVariables false

mutual
def inclT : Ty → Ty → Bool
  | .mk k es ns, .mk k' es' ns' => if k = 0 then true else if k = 5 ∧ k' = 6 then decide (es.length = 1) && inclH es es' else decide (k = k') && (decide (ns = ns') && inclL es es')
def inclH : List Ty → List Ty → Bool
  | [], _ => true
  | e :: _, l => inclA e l
def inclA : Ty → List Ty → Bool
  | _, [] => true
  | e, x :: l => inclT e x && inclA e l
def inclL : List Ty → List Ty → Bool
  | [], [] => true
  | e :: es, e' :: es' => inclT e e' && inclL es es'
  | [], _ :: _ => false
  | _ :: _, [] => false
end
theorem inclA_all (e : Ty) : ∀ l : List Ty, inclA e l = l.all (inclT e)
  | [] => by rw [inclA]; rfl
  | x :: l => by rw [inclA, inclA_all e l]; rfl
theorem inclL_eqF : ∀ (es es' : List Ty), inclL es es' = eqF inclT es es'
  | [], [] => by rw [inclL, eqF]
  | e :: es, e' :: es' => by rw [inclL, eqF, inclL_eqF es es']
  | [], _ :: _ => by rw [inclL, eqF]
  | _ :: _, [] => by rw [inclL, eqF]
theorem inclT_0 (es : List Ty) (ns : List ByteArray) (b : Ty) : inclT (.mk 0 es ns) b = true := by
  cases b; rw [inclT, if_pos rfl]
theorem inclT_m (e : Ty) (ns : List ByteArray) (es' : List Ty) (ns' : List ByteArray) : inclT (.mk 5 [e] ns) (.mk 6 es' ns') = es'.all (inclT e) := by
  rw [inclT, if_neg (by omega), if_pos ⟨rfl, rfl⟩, inclH, inclA_all]; rfl
theorem inclT_n {es : List Ty} (h : es.length ≠ 1) (ns : List ByteArray) (es' : List Ty) (ns' : List ByteArray) : inclT (.mk 5 es ns) (.mk 6 es' ns') = false := by
  rw [inclT, if_neg (by omega), if_pos ⟨rfl, rfl⟩, decide_eq_false h]; rfl
theorem inclT_o {k k' : Int} (h0 : k ≠ 0) (h : ¬(k = 5 ∧ k' = 6)) (es : List Ty) (ns : List ByteArray) (es' : List Ty) (ns' : List ByteArray) :
    inclT (.mk k es ns) (.mk k' es' ns') = (decide (k = k') && (decide (ns = ns') && eqF inclT es es')) := by
  rw [inclT, if_neg h0, if_neg h, inclL_eqF]
/-- The first element at which f holds. -/
def idxF (f : Ty → Bool) : List Ty → Int
  | [] => -1
  | e :: l => if f e = true then 0 else if idxF f l = -1 then -1 else idxF f l + 1
theorem idxF_ge (f : Ty → Bool) : ∀ l, (idxF f l = -1 ∧ l.any f = false) ∨ (0 ≤ idxF f l ∧ l.any f = true)
  | [] => .inl ⟨rfl, rfl⟩
  | e :: l => by
    rw [idxF, List.any_cons]
    cases h : f e with
    | true => right; simp
    | false =>
      rcases idxF_ge f l with ⟨h1, h2⟩ | ⟨h1, h2⟩
      · left; rw [h1, h2]; simp
      · right
        rw [h2, if_neg (by decide), if_neg (by omega)]
        exact ⟨by omega, rfl⟩
theorem idxF_hit {f : Ty → Bool} {es : List Ty} {k : Nat} (h : k < es.length) (hn : ∀ j (hj : j < es.length), j < k → f es[j] = false) (hy : f es[k] = true) : idxF f es = k := by
  induction es generalizing k with
  | nil => cases h
  | cons e l ih =>
    cases k with
    | zero => rw [idxF, if_pos (by exact hy)]; rfl
    | succ k =>
      have h0 := hn 0 (by simp) (by omega)
      have h1 := ih (k := k) (by simpa using h) (fun j hj hjk => hn (j + 1) (by simpa using hj) (by omega)) hy
      replace h0 : f e = false := h0
      rw [idxF, if_neg (by rw [h0]; decide), h1, if_neg (by omega)]
      omega
theorem idxF_miss {f : Ty → Bool} : ∀ {es : List Ty}, (∀ j (hj : j < es.length), f es[j] = false) → idxF f es = -1
  | [], _ => rfl
  | e :: l, h => by
    have h0 : f e = false := h 0 (by simp)
    rw [idxF, if_neg (by rw [h0]; decide), idxF_miss fun j hj => h (j + 1) (by simpa using hj), if_pos rfl]

set_option maxRecDepth 100000 in
set_option maxHeartbeats 4000000 in
theorem index_any (c : Value) (f : Ty → Bool) (P : Nat → Prop) (w : World) (u : Value) (es : List Ty) (hu : LV P w u es)
    (hf : ∀ e ∈ es, ∀ (w1 : World) (x : Value), Below w.heap.size w w1 → TV P w1 x e → Calls Tryz.prog 35 #[x, c] w1 (Ret (.bool (f e)) w1)) :
    Calls Tryz.prog 58 #[u, .func (.func 35) #[] #[c]] w (Ret (.int .i64 (idxF f es)) w) := by
  obtain ⟨oa, ca, rfl⟩ := hu.len
  have hla := hu.le
  have HU := hid hu
  have HF := hid hf
  clear hu hf
  go_enter Tryz.func58, Tryz.ntmps58
  go_wp2_with fail
  go_loopw [8] (fun i wr => ∃ k : Nat, k ≤ es.length ∧ i = .int .i64 k ∧ Hid (Below w.heap.size w wr) ∧ Hid (∀ j (hj : j < es.length), j < k → f es[j] = false)) (fun i _ => es.length - (intOf i).toNat)
  case atStart => exact ⟨0, Nat.zero_le _, rfl, hid (Below.refl _ _), hid fun j _ hj => absurd hj (Nat.not_lt_zero _)⟩
  case round =>
    obtain ⟨k, hk, rfl, B, A⟩ := hrel
    by_cases hlt : k < es.length
    · obtain ⟨g1, o1, c1, k1, oy1, my1, cy1, oz1, mz1, cz1, e1, a1, a2, a3, hT1⟩ := (HU.out.bel B.out).at2 hlt
      cases e1
      have hk0 : (0 : Int) ≤ (k : Int) := by omega
      have hk1 : (k : Int) < (es.length : Int) := by omega
      have hcall := HF.out es[k] (List.getElem_mem hlt) wr _ B.out hT1
      have HCall := hid hcall
      clear hcall hT1
      cases hfe : f es[k] with
      | true =>
        rw [hfe] at HCall
        have HS := hid (idxF_hit hlt A.out hfe)
        clear hfe A
        go_wp2_with fail
        refine HCall.out.mono ?_; rintro e w4 ⟨rfl, hb4⟩
        have HB4 := hid (B.out.trans (hb4.mono B.out.size))
        clear hb4
        go_wp2_with fail
        go_ret
        exact ⟨by rw [HS.out]; rfl, HB4.out⟩
      | false =>
        rw [hfe] at HCall
        have HS : Hid (∀ j (hj : j < es.length), j < k + 1 → f es[j] = false) := hid fun j hj h => by
          by_cases e : j = k
          · subst e; exact hfe
          · exact A.out j hj (by omega)
        clear hfe A
        go_wp2_with fail
        refine HCall.out.mono ?_; rintro e w4 ⟨rfl, hb4⟩
        have HB4 := hid (B.out.trans (hb4.mono B.out.size))
        clear hb4
        go_wp2_with fail
        go_roundw
        case rel => exact ⟨k + 1, by omega, by go_num, HB4, HS⟩
        case measure => simp [intOf]; omega
    · have hfin := idxF_miss fun j hj => A.out j hj (by omega)
      have HFin := hid hfin
      clear hfin
      go_wp2_with fail
      go_ret
      exact ⟨by rw [HFin.out]; rfl, B.out⟩

set_option maxRecDepth 100000 in
set_option maxHeartbeats 4000000 in
theorem contains_any (c : Value) (f : Ty → Bool) (P : Nat → Prop) (w : World) (u : Value) (es : List Ty) (hu : LV P w u es)
    (hf : ∀ e ∈ es, ∀ (w1 : World) (x : Value), Below w.heap.size w w1 → TV P w1 x e → Calls Tryz.prog 35 #[x, c] w1 (Ret (.bool (f e)) w1)) :
    Calls Tryz.prog 34 #[u, .func (.func 35) #[] #[c]] w (Ret (.bool (es.any f)) w) := by
  have HI := hid (index_any c f P w u es hu hf)
  obtain ⟨oa, ca, rfl⟩ := hu.len
  have hge : decide (0 ≤ idxF f es) = es.any f := by
    rcases idxF_ge f es with ⟨h1, h2⟩ | ⟨h1, h2⟩
    · rw [h1, h2]; rfl
    · rw [h2]; exact decide_eq_true h1
  have HG := hid hge
  clear hu hf hge
  go_enter Tryz.func34, Tryz.ntmps34
  go_wp2_with fail
  refine HI.out.mono ?_; rintro e w2 ⟨rfl, hb⟩
  have HB := hid hb
  clear hb
  go_wp2_with fail
  go_ret
  exact ⟨by rw [← HG.out]; rfl, HB.out⟩

set_option maxRecDepth 100000 in
set_option maxHeartbeats 4000000 in
theorem lam_any (e x : Ty) (Pe Q : Nat → Prop) (w : World) (b : Nat) (u : Value) (oe : Option Addr) (ce : Nat)
    (hb : w.cell? ⟨b, 1, none⟩ = some (.slice oe 1 ce)) (he : LV Pe w (.slice oe 1 ce) [e]) (hx : TV Q w u x)
    (hcall : ∀ (w1 : World) (y z : Value), TV Pe w1 y e → TV Q w1 z x → Calls Tryz.prog 15 #[y, z] w1 (Ret (.bool (inclT e x)) w1)) :
    Calls Tryz.prog 35 #[u, .pointer (some ⟨b, 0, none⟩)] w (Ret (.bool (!inclT e x)) w) := by
  obtain ⟨k, es, ns⟩ := x
  obtain ⟨ve, vn, rfl, hE, hN⟩ := hx.out
  obtain ⟨ox, cx, rfl⟩ := hE.len
  obtain ⟨on, cn, rfl⟩ := hN.len
  obtain ⟨g1, o1, c1, k1, oy1, my1, cy1, oz1, mz1, cz1, e1, a1, a2, a3, hT1⟩ := he.at2 (k := 0) (by simp)
  cases e1
  simp only [Nat.zero_mul, Nat.add_zero] at a1 a2 a3
  obtain ⟨hB, c0, c1', c2, hz⟩ := box3 w (.int .i64 k) (.slice ox es.length cx) (.slice on ns.length cn) 30
  have HB := hid hB
  have b1 := bcell hB hb
  have d1 := bcell hB a1
  have d2 := bcell hB a2
  have d3 := bcell hB a3
  have HX := hid (hx.bel hB)
  have HT := hid (hT1.bel hB)
  generalize hW : w.alloc (.cells #[.int .i64 k, .slice ox es.length cx, .slice on ns.length cn] 30) = W at *
  have HW := hid hW
  have HCall := hid (hcall W.drew _ _ (HT.out.bel (below_drew (Below.refl _ _))) (HX.out.bel (below_drew (Below.refl _ _))))
  clear hB hT1 hx hE hN hcall he hb a1 a2 a3 hW
  go_enter Tryz.func35, Tryz.ntmps35
  go_wp2_with fail
  rw [HW.out]
  refine wp_region_steady (fun v => v.cell? ⟨b, 1, none⟩ = some (.slice (some ⟨g1, o1, none⟩) 1 ce) ∧ v.cell? ⟨g1, o1, none⟩ = some (.int .i64 k1) ∧ v.cell? ⟨g1, o1 + 1, none⟩ = some (.slice oy1 my1 cy1) ∧ v.cell? ⟨g1, o1 + 2, none⟩ = some (.slice oz1 mz1 cz1) ∧ v.cell? ⟨w.heap.size, 0, none⟩ = some (.int .i64 k) ∧ v.cell? ⟨w.heap.size, 1, none⟩ = some (.slice ox es.length cx) ∧ v.cell? ⟨w.heap.size, 2, none⟩ = some (.slice on ns.length cn)) (by kernel_rfl) (by kernel_rfl) (⟨b1, d1, d2, d3, c0, c1', c2⟩) ?_
  repeat (first
    | (refine wpSteady_skip (by rfl) ?_; try simp only [Act.put, List.setIfInBounds_toArray, List.set_cons_zero, List.set_cons_succ])
    | (refine wpSteady_calm (v := ?_) (by rfl) ?_ ?_; rotate_left; (focus (intro v hSv; (try dsimp only at hSv); go_simp; (try with_reducible rfl); done)); try simp only [Act.put, List.setIfInBounds_toArray, List.set_cons_zero, List.set_cons_succ]))
  refine wpSteady_loud rfl (by rfl) (fun K hK => ?_)
  go_simp
  refine HCall.out.mono ?_; rintro e2 w2 ⟨rfl, hb2⟩
  have B0 := below_drew (Below.refl W.heap.size W)
  have HB2 := hid (HB.out.trans ((B0.trans (hb2.mono B0.size)).mono HB.out.size))
  clear B0
  have r1 := bcell (W := W.drew) hb2 b1
  have r2 := bcell (W := W.drew) hb2 d1
  have r3 := bcell (W := W.drew) hb2 d2
  have r4 := bcell (W := W.drew) hb2 d3
  have r5 := bcell (W := W.drew) hb2 c0
  have r6 := bcell (W := W.drew) hb2 c1'
  have r7 := bcell (W := W.drew) hb2 c2
  clear hb2
  refine hK.out _ _ (⟨r1, r2, r3, r4, r5, r6, r7⟩) ?_
  clear hK K
  try simp only [Act.put, List.setIfInBounds_toArray, List.set_cons_zero, List.set_cons_succ]
  repeat (first
    | (refine wpSteady_skip (by rfl) ?_; try simp only [Act.put, List.setIfInBounds_toArray, List.set_cons_zero, List.set_cons_succ])
    | (refine wpSteady_calm (v := ?_) (by rfl) ?_ ?_; rotate_left; (focus (intro v hSv; (try dsimp only at hSv); go_simp; (try with_reducible rfl); done)); try simp only [Act.put, List.setIfInBounds_toArray, List.set_cons_zero, List.set_cons_succ]))
  refine wpSteady_nil ?_
  go_wp2_with fail
  go_ret
  exact ⟨rfl, HB2.out⟩

def InclOk (a : Ty) : Prop := ∀ (b : Ty) (P Q : Nat → Prop) (w : World) (x y : Value), TV P w x a → TV Q w y b → Calls Tryz.prog 15 #[x, y] w (Ret (.bool (inclT a b)) w)

set_option maxRecDepth 100000 in
set_option maxHeartbeats 4000000 in
theorem incl_any (a : Ty) : InclOk a := by
  induction a using Ty.ind with
  | h k es ns ih =>
    intro b P Q w x y hx hy
    obtain ⟨k', es', ns'⟩ := b
    obtain ⟨ve, vn, rfl, hE, hN⟩ := hx.out
    obtain ⟨ve', vn', rfl, hE', hN'⟩ := hy.out
    obtain ⟨oe, ce, rfl⟩ := hE.len
    obtain ⟨on, cn, rfl⟩ := hN.len
    obtain ⟨oe', ce', rfl⟩ := hE'.len
    obtain ⟨on', cn', rfl⟩ := hN'.len
    have hle := hE.le
    have hln := hN.le
    have hle' := hE'.le
    have hln' := hN'.le
    obtain ⟨hB1, a0, a1, a2, hz1⟩ := box3 w (.int .i64 k) (.slice oe es.length ce) (.slice on ns.length cn) 30
    obtain ⟨hB2, b0, b1, b2, hz2⟩ := box3 (w.alloc (.cells #[.int .i64 k, .slice oe es.length ce, .slice on ns.length cn] 30)) (.int .i64 k') (.slice oe' es'.length ce') (.slice on' ns'.length cn') 30
    have p0 := bcell hB2 a0
    have p1 := bcell hB2 a1
    have p2 := bcell hB2 a2
    rw [show (w.alloc (.cells #[.int .i64 k, .slice oe es.length ce, .slice on ns.length cn] 30)).heap.size = w.heap.size + 1 by simp] at b0 b1 b2
    have hBB := hB1.trans (hB2.mono hB1.size)
    have hE2 := (hE.bel hB1).bel hB2
    have hN2 := (hN.bel hB1).bel hB2
    have hE2' := (hE'.bel hB1).bel hB2
    have hN2' := (hN'.bel hB1).bel hB2
    generalize hW : (w.alloc (.cells #[.int .i64 k, .slice oe es.length ce, .slice on ns.length cn] 30)).alloc (.cells #[.int .i64 k', .slice oe' es'.length ce', .slice on' ns'.length cn'] 30) = W at *
    have HW := hid hW
    have HB := hid hBB
    have HE := hid hE2
    have HN := hid hN2
    have HE' := hid hE2'
    have HN' := hid hN2'
    have P0 := hid p0
    have P1 := hid p1
    have P2 := hid p2
    have Q0 := hid b0
    have Q1 := hid b1
    have Q2 := hid b2
    clear hE hN hE' hN' hB1 hB2 a0 a1 a2 b0 b1 b2 p0 p1 p2 hBB hE2 hN2 hE2' hN2' hW hx hy hz1 hz2
    have HI := hid ih
    clear ih
    by_cases h0 : k = 0
    · subst h0
      have hp := inclT_0 es ns (.mk k' es' ns')
      have HP := hid hp
      clear hp
      go_enter Tryz.func15, Tryz.ntmps15
      go_wp2_with fail
      go_ret
      exact ⟨by rw [HP.out]; rfl, by rw [HW.out]; exact HB.out⟩
    by_cases h5 : k = 5
    · by_cases h6 : k' = 6
      · subst h5 h6
        by_cases h1 : es.length = 1
        · match es, h1 with
          | [e0], _ =>
          have hp := inclT_m e0 ns es' ns'
          have HP := hid hp
          have hcon := contains_any (.pointer (some ⟨w.heap.size, 0, none⟩)) (fun x => !inclT e0 x) Q W _ es' HE'.out fun e _ w1 x hb1 hT1 =>
            lam_any e0 e P Q w1 w.heap.size x oe ce (bcell hb1 P1.out) (HE.out.bel hb1) hT1 fun w2 y z h1 h2 => HI.out e0 (List.mem_singleton_self _) e P Q w2 y z h1 h2
          have HCon := hid hcon
          clear hp hcon h0
          simp only [List.length_singleton] at HW
          go_enter Tryz.func15, Tryz.ntmps15
          go_wp2_with fail
          rw [HW.out]
          refine HCon.out.mono ?_; rintro e w2 ⟨rfl, hb2⟩
          have HB2 := hid (HB.out.trans (hb2.mono HB.out.size))
          clear hb2
          go_wp2_with fail
          go_ret
          exact ⟨by rw [HP.out, List.all_eq_not_any_not]; rfl, HB2.out⟩
        · have hp := inclT_n h1 ns es' ns'
          have HP := hid hp
          have f1 : decide ((es.length : Int) = 1) = false := decide_eq_false (by omega)
          have f2 : ((es.length : Int) == 1) = false := beq_eq_false_iff_ne.2 (by omega)
          clear hp h0 h1
          go_enter Tryz.func15, Tryz.ntmps15
          go_wp2_with fail
          go_ret
          exact ⟨by rw [HP.out]; rfl, by rw [HW.out]; exact HB.out⟩
      · have hno : ¬(k = 5 ∧ k' = 6) := fun h => h6 h.2
        have d6 : decide (k' = 6) = false := decide_eq_false h6
        have e6 : (k' == 6) = false := beq_eq_false_iff_ne.2 h6
        have d5 : decide (k = 5) = true := decide_eq_true h5
        have e5 : (k == 5) = true := beq_iff_eq.2 h5
        clear h5 h6
        have d0 : decide (k = 0) = false := decide_eq_false h0
        have e0 : (k == 0) = false := beq_eq_false_iff_ne.2 h0
        have hq := inclT_o h0 hno es ns es' ns'
        have HQ := hid hq
        clear hq
        by_cases hk : k = k'
        case neg =>
          have hp : inclT (.mk k es ns) (.mk k' es' ns') = false := by rw [HQ.out, decide_eq_false hk]; rfl
          have HP := hid hp
          have f1 : decide (k = k') = false := decide_eq_false hk
          have f2 : (k == k') = false := beq_eq_false_iff_ne.2 hk
          clear hp hk
          go_enter Tryz.func15, Tryz.ntmps15
          go_wp2_with fail
          go_ret
          exact ⟨by rw [HP.out]; rfl, by rw [HW.out]; exact HB.out⟩
        subst hk
        have HS := hid (slEq_any P Q W _ _ ns ns' HN.out HN'.out)
        cases hd : decide (ns = ns') with
        | false =>
          have hp : inclT (.mk k es ns) (.mk k es' ns') = false := by rw [HQ.out, hd]; simp
          have HP := hid hp
          rw [hd] at HS
          clear hp hd
          go_enter Tryz.func15, Tryz.ntmps15
          go_wp2_with fail
          rw [HW.out]
          refine HS.out.mono ?_; rintro e w2 ⟨rfl, hb2⟩
          have HB2 := hid (HB.out.trans (hb2.mono HB.out.size))
          clear hb2
          go_wp2_with fail
          go_ret
          exact ⟨by rw [HP.out]; rfl, HB2.out⟩
        | true =>
          have hp : inclT (.mk k es ns) (.mk k es' ns') = eqF inclT es es' := by rw [HQ.out, hd]; simp
          have HP := hid hp
          rw [hd] at HS
          clear hp hd
          go_enter Tryz.func15, Tryz.ntmps15
          go_wp2_with fail
          rw [HW.out]
          refine HS.out.mono ?_; rintro e w2 ⟨rfl, hb2⟩
          have HB2 := hid (HB.out.trans (hb2.mono HB.out.size))
          have p0 := bcell hb2 P0.out
          have p1 := bcell hb2 P1.out
          have p2 := bcell hb2 P2.out
          have q0 := bcell hb2 Q0.out
          have q1 := bcell hb2 Q1.out
          have q2 := bcell hb2 Q2.out
          have HF := hid (eqfuncI_any inclT P Q w2 _ _ es es' (HE.out.bel hb2) (HE'.out.bel hb2) fun e he e' w1 x y h1 h2 => HI.out e he e' P Q w1 x y h1 h2)
          clear hb2
          go_wp2_with fail
          refine HF.out.mono ?_; rintro e w3 ⟨rfl, hb3⟩
          have HB3 := hid (HB2.out.trans (hb3.mono HB2.out.size))
          clear hb3
          go_wp2_with fail
          go_ret
          exact ⟨by rw [HP.out]; rfl, HB3.out⟩
    · have hno : ¬(k = 5 ∧ k' = 6) := fun h => h5 h.1
      have d5 : decide (k = 5) = false := decide_eq_false h5
      have e5 : (k == 5) = false := beq_eq_false_iff_ne.2 h5
      have d0 : decide (k = 0) = false := decide_eq_false h0
      have e0 : (k == 0) = false := beq_eq_false_iff_ne.2 h0
      have hq := inclT_o h0 hno es ns es' ns'
      have HQ := hid hq
      clear hq
      by_cases hk : k = k'
      case neg =>
        have hp : inclT (.mk k es ns) (.mk k' es' ns') = false := by rw [HQ.out, decide_eq_false hk]; rfl
        have HP := hid hp
        have f1 : decide (k = k') = false := decide_eq_false hk
        have f2 : (k == k') = false := beq_eq_false_iff_ne.2 hk
        clear hp hk
        go_enter Tryz.func15, Tryz.ntmps15
        go_wp2_with fail
        go_ret
        exact ⟨by rw [HP.out]; rfl, by rw [HW.out]; exact HB.out⟩
      subst hk
      have HS := hid (slEq_any P Q W _ _ ns ns' HN.out HN'.out)
      cases hd : decide (ns = ns') with
      | false =>
        have hp : inclT (.mk k es ns) (.mk k es' ns') = false := by rw [HQ.out, hd]; simp
        have HP := hid hp
        rw [hd] at HS
        clear hp hd
        go_enter Tryz.func15, Tryz.ntmps15
        go_wp2_with fail
        rw [HW.out]
        refine HS.out.mono ?_; rintro e w2 ⟨rfl, hb2⟩
        have HB2 := hid (HB.out.trans (hb2.mono HB.out.size))
        clear hb2
        go_wp2_with fail
        go_ret
        exact ⟨by rw [HP.out]; rfl, HB2.out⟩
      | true =>
        have hp : inclT (.mk k es ns) (.mk k es' ns') = eqF inclT es es' := by rw [HQ.out, hd]; simp
        have HP := hid hp
        rw [hd] at HS
        clear hp hd
        go_enter Tryz.func15, Tryz.ntmps15
        go_wp2_with fail
        rw [HW.out]
        refine HS.out.mono ?_; rintro e w2 ⟨rfl, hb2⟩
        have HB2 := hid (HB.out.trans (hb2.mono HB.out.size))
        have p0 := bcell hb2 P0.out
        have p1 := bcell hb2 P1.out
        have p2 := bcell hb2 P2.out
        have q0 := bcell hb2 Q0.out
        have q1 := bcell hb2 Q1.out
        have q2 := bcell hb2 Q2.out
        have HF := hid (eqfuncI_any inclT P Q w2 _ _ es es' (HE.out.bel hb2) (HE'.out.bel hb2) fun e he e' w1 x y h1 h2 => HI.out e he e' P Q w1 x y h1 h2)
        clear hb2
        go_wp2_with fail
        refine HF.out.mono ?_; rintro e w3 ⟨rfl, hb3⟩
        have HB3 := hid (HB2.out.trans (hb3.mono HB2.out.size))
        clear hb3
        go_wp2_with fail
        go_ret
        exact ⟨by rw [HP.out]; rfl, HB3.out⟩
end Go.Proofs.YtfljnigbfacmjaaGreatDoor
