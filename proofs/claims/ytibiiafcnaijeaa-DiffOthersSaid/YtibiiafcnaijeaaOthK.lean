/- What DiffOthers wants besides: appending changes; Ignore's two forms agree on valid maps. -/
import Derived.Test.YtibiiafcnaijeaaCnt
import Derived.Test.YtibiiafcnaijeaaRIgn
import Derived.Test.YtibiiafcnaijeaaVChk
import Derived.Test.YtibiiafcnaijeaaRows
import Derived.Test.YtibiiafcnaijeaaOpenO
import Derived.WalkKit
import Derived.ProofKit
import Derived.SizedLaws
import Derived.OpenShut
import Derived.ShutString
import Derived.RowKit
namespace Go.Proofs.Ytibiiafcnaijeaa
open Go Go.RowKit Go.Proofs.Ytibiiafcnaijeaa.Steady
set_option linter.unusedVariables false
set_option linter.unusedSimpArgs false

theorem app_big_wp {P : Program} {w : World} {o : Oper} {a : Act} {K : Act → World → Prop} {Q : Exit → Act → World → Prop} (s x : Operand) (t : TypeId)
    (ho : o.op = .call { callee := .builtin .append, args := #[s, x], argTypes := #[t, t] })
    (e : Nat) (z : Value) (size bytes : Nat) (ht : P.underlying t = some (.slice e)) (hinf : (P.info? e).map (fun i => (i.zero, i.size, i.bytes)) = some (some z, size, bytes))
    (hzs : z.cells.size = size) (hsz : 0 < size) (hb : bytes ≤ 10000)
    (v : Value) (n : Nat) (xs : List Value) (hown : w.ownsRow 0 e size v n xs) (hs : a.eval s = v)
    (news : List Value) (n0 : Nat) (hx : a.eval x = .slice (some ⟨n0, 0, none⟩) 1 1) (hn0 : n0 = w.heap.size) (hl : news.length = size) (h1 : ∀ u ∈ news, u.oneCell' = true)
    (hn : n ≤ 1000000000)
    (h : ∀ v' w', w'.ownsRow 0 e size v' (n + 1) (xs ++ news) → Chg (fun k => v.ownBlock = some k) w w' → (v'.ownBlock = v.ownBlock ∨ ∃ g, v'.ownBlock = some g ∧ w.heap.size ≤ g) → v' ≠ .slice none 0 0 →
      K (a.put o.dst v') w') :
    o.wp P a (w.alloc (.cells news.toArray e)) K Q := by
  subst hn0
  obtain ⟨i, hi, hz, hsize, hby⟩ := info_parts hinf
  obtain ⟨v', w', hr, h2, h3, h4, h5⟩ := run_append_place (P := P) (w.alloc (.cells news.toArray e)) t o.type e i z size bytes ht hi hz hsize hby hzs hsz v n xs (hown.alloc _) ⟨w.heap.size, 0, none⟩ 1 1 news (by omega)
    (cells_new w news e) h1 (by omega) (by unfold maxLen; omega) (by have : (n + 1) * bytes ≤ (n + 1) * 10000 := Nat.mul_le_mul_left _ hb; omega)
  unfold Oper.wp execOp
  simp only [ho, resolve, invoke, builtin, Sem.run_bind, Sem.run_pure, Result.andThen_ok, List.map_toArray, List.map_cons, List.map_nil, hs, hx, hr]
  refine h v' w' h2 ?_ ?_ h5
  · have c1 : Chg (fun k => v.ownBlock = some k) w (w.alloc (.cells news.toArray e)) := Chg.alloc _ _ _
    exact c1.trans (Chg.of_grown h3)
  · refine h4.imp id ?_
    rintro ⟨g, h6, h7⟩
    exact ⟨g, h6, by simp at h7; omega⟩
theorem app_big {P : Program} {w : World} {ops : Array Oper} {rest : List Oper} {o : Oper} {a : Act} {Q : Exit → Act → World → Prop} (hg : o.guard = none) (s x : Operand) (t : TypeId)
    (ho : o.op = .call { callee := .builtin .append, args := #[s, x], argTypes := #[t, t] })
    (e : Nat) (z : Value) (size bytes : Nat) (ht : P.underlying t = some (.slice e)) (hinf : (P.info? e).map (fun i => (i.zero, i.size, i.bytes)) = some (some z, size, bytes))
    (hzs : z.cells.size = size) (hsz : 0 < size) (hb : bytes ≤ 10000)
    (v : Value) (n : Nat) (xs : List Value) (hown : w.ownsRow 0 e size v n xs) (hs : a.eval s = v)
    (news : List Value) (n0 : Nat) (hx : a.eval x = .slice (some ⟨n0, 0, none⟩) 1 1) (hn0 : n0 = w.heap.size) (hl : news.length = size) (h1 : ∀ u ∈ news, u.oneCell' = true)
    (hn : n ≤ 1000000000)
    (h : ∀ v' w', w'.ownsRow 0 e size v' (n + 1) (xs ++ news) → Chg (fun k => v.ownBlock = some k) w w' → (v'.ownBlock = v.ownBlock ∨ ∃ g, v'.ownBlock = some g ∧ w.heap.size ≤ g) → v' ≠ .slice none 0 0 →
      wpList P ops Q rest (a.put o.dst v') w') :
    wpList P ops Q (o :: rest) a (w.alloc (.cells news.toArray e)) := by
  refine wpList_plain hg fun K hK => ?_
  exact app_big_wp s x t ho e z size bytes ht hinf hzs hsz hb v n xs hown hs news n0 hx hn0 hl h1 hn fun v' w' a1 a2 a3 a4 => hK _ _ (h v' w' a1 a2 a3 a4)

theorem infoC : (Try.prog.info? 42).map (fun i => (i.zero, i.size, i.bytes)) = some (some (.agg #[.string ⟨#[]⟩, .string ⟨#[]⟩, .string ⟨#[]⟩, .int .i64 0, .int .i64 0, .int .i64 0, .int .i64 0, .string ⟨#[]⟩, .slice none 0 0, .slice none 0 0, .int .i64 0, .int .i64 0, .string ⟨#[]⟩, .slice none 0 0, .slice none 0 0, .string ⟨#[]⟩, .slice none 0 0, .bool false, .bool false, .bool false, .slice none 0 0, .slice none 0 0]), 22, 320) := by kernel_rfl
/-- A change of which only the action is given. -/
abbrev actC (a : Int) : List Value := [.string ⟨#[]⟩, .string ⟨#[]⟩, .string ⟨#[]⟩, .int .i64 a, .int .i64 0, .int .i64 0, .int .i64 0, .string ⟨#[]⟩, .slice none 0 0, .slice none 0 0, .int .i64 0, .int .i64 0, .string ⟨#[]⟩, .slice none 0 0, .slice none 0 0, .string ⟨#[]⟩, .slice none 0 0, .bool false, .bool false, .bool false, .slice none 0 0, .slice none 0 0]
def actsC (acs : List Int) : List Value := acs.flatMap actC
theorem actsC_snoc (l : List Int) (a : Int) : actsC (l ++ [a]) = actsC l ++ actC a := by
  rw [actsC, List.flatMap_append, List.flatMap_cons, List.flatMap_nil, List.append_nil]; rfl
theorem actsC_len : ∀ acs : List Int, (actsC acs).length = acs.length * 22
  | [] => rfl
  | a :: acs => by rw [actsC, List.flatMap_cons, List.length_append]; show 22 + (actsC acs).length = _; rw [actsC_len acs, List.length_cons]; omega
theorem actsC_get : ∀ (acs : List Int) (i : Nat) (a : Int), acs[i]? = some a → ∀ j, j < 22 → (actsC acs)[i * 22 + j]? = (actC a)[j]?
  | [], i, a, h, _, _ => by simp at h
  | b :: acs, 0, a, h, j, hj => by
    obtain rfl : b = a := by simpa using h
    rw [actsC, List.flatMap_cons, Nat.zero_mul, Nat.zero_add, List.getElem?_append_left (by exact hj)]
  | b :: acs, i + 1, a, h, j, hj => by
    have ih := actsC_get acs i a (by simpa using h) j hj
    rw [actsC, List.flatMap_cons, List.getElem?_append_right (by show 22 ≤ _; omega)]
    show (actsC acs)[(i + 1) * 22 + j - 22]? = _
    rw [show (i + 1) * 22 + j - 22 = i * 22 + j by omega]; exact ih
theorem nv_of_owns {w : World} {v : Value} {acs : List Int} (h : w.ownsRow 0 42 22 v acs.length (actsC acs)) (hn : acs.length ≤ 140737488355328) : NV (fun _ => True) w v acs := by
  refine ⟨hn, ?_⟩
  rcases h.2 with ⟨rfl, h0⟩ | ⟨g, cap, cur, rfl, p1, p2, p3, p4, p5, p6⟩
  · exact .inl ⟨List.eq_nil_of_length_eq_zero h0, _, _, rfl⟩
  · refine .inr ⟨g, 0, cap, trivial, rfl, fun i a ha => ⟨actC a, rfl, rfl, rfl, fun j u hu => ?_⟩⟩
    have hj : j < 22 := (List.getElem?_eq_some_iff.1 hu).1
    have := actsC_get acs i a ha j hj
    rw [hu] at this
    rw [show (0 : Nat) + i * 22 + j = i * 22 + j by omega]
    exact cells_at p2 p6 this
/-! Ignore on valid maps -/
structure MapOk (v : Vl) : Prop where
  ex : ∃ is ks, v = .mk 5 0 ⟨#[]⟩ is ks ∧ Asc ks ∧ ks.length = is.length
theorem MapOk.of {k n : Int} {s : ByteArray} {is : List Vl} {ks : List ByteArray} (h : VOk (.mk k n s is ks)) (hk : k = 5) : MapOk (.mk k n s is ks) := by
  obtain ⟨-, h5, -, -, hz, ha, -⟩ := h.out
  obtain ⟨rfl, rfl⟩ := hz hk
  subst hk
  exact ⟨is, ks, rfl, ha, h5 rfl⟩
theorem putV_ok {v : Vl} {x : ByteArray} {y : Vl} (h : MapOk v) (hx : (getV v x).isSome = true) : putV v x y = putR v x y ∧ MapOk (putV v x y) := by
  obtain ⟨is, ks, rfl, ha, hl⟩ := h.ex
  refine ⟨putV_R x y ha hl, ?_⟩
  rw [getV_eq] at hx
  rw [putV_eq]
  split at hx
  · rename_i h1
    split
    · exact ⟨is, ks, rfl, ha, hl⟩
    · rw [if_pos h1.2]
      exact ⟨is.set (posN ks x) y, ks, rfl, ha, by simp [hl]⟩
  · cases hx
theorem ignore_same (prior : Vl) (hp : MapOk prior) : ∀ (l : List ByteArray) (c : Vl), MapOk c → ignoreV prior c l = ignoreR prior c l
  | [], c, _ => rfl
  | x :: l, c, hc => by
    obtain ⟨is, ks, e, ha, hl⟩ := hc.ex
    obtain ⟨isp, ksp, ep, hap, hlp⟩ := hp.ex
    have g1 : getV prior x = getR prior x := by rw [ep]; exact getV_R x hap
    have g2 : getV c x = getR c x := by rw [e]; exact getV_R x ha
    have hs : ignStep prior c x = ignR prior c x ∧ MapOk (ignStep prior c x) := by
      unfold ignStep ignR
      rw [← g1, ← g2]
      cases h1 : getV prior x with
      | none => exact ⟨rfl, hc⟩
      | some v =>
        simp only
        by_cases h2 : (getV c x).isSome = true
        · rw [if_pos h2, if_pos h2]; exact putV_ok hc h2
        · rw [if_neg h2, if_neg h2]; exact ⟨rfl, hc⟩
    show ignoreV prior (ignStep prior c x) l = ignoreR prior (ignR prior c x) l
    rw [ignore_same prior hp l _ hs.2, hs.1]
end Go.Proofs.Ytibiiafcnaijeaa

/- From a walk that returns true and changes nothing below the heap's old size to the law's row. -/
namespace Go.Proofs.Ytibiiafcnaijeaa
open Go Go.ChangeShapes Go.WideShapes Go.ChangeAt Go.RowKit

theorem own : ownKnob Try.prog.godebug = none := by kernel_rfl
theorem laidOut : laidOutB Try.prog = true := by kernel_rfl

theorem trodAll_below {H : Type} {enc : TypeId × Value → H} {P : Program} (hl : laidOutB P = true) {W W' : World} (hb : Below W.heap.size W W') :
    ∀ (ts : List TypeId) (vs : List Value) (ds : List (DataW H)) (ps : List MemPlace), (∀ t ∈ ts, P.readableRec t = true ∧ t < P.types.size) →
      DataW.TrodAll enc P W 0 (fun _ => true) true ts vs ds ps → (∀ x ∈ ps, x.block < W.heap.size) →
      DataW.TrodAll enc P W' 0 (fun b => decide (b < W.heap.size)) true ts vs ds ps
  | [], [], [], ps, _, h, _ => h
  | t :: ts, v :: vs, d :: ds, ps, hr, ⟨p, q, h1, h2, e⟩, hlt => by
    subst e
    obtain ⟨r1, r2⟩ := hr t (List.mem_cons_self ..)
    exact ⟨p, q, Below.trod hl r1 r2 h1 hb (fun x hx => hlt x (List.mem_append_left _ hx)),
      trodAll_below hl hb ts vs ds q (fun t' ht => hr t' (List.mem_cons_of_mem _ ht)) h2 (fun x hx => hlt x (List.mem_append_right _ hx)), rfl⟩
  | [], [], _ :: _, _, _, h, _ => h.elim
  | [], _ :: _, _, _, _, h, _ => h.elim
  | _ :: _, [], _, _, _, h, _ => h.elim
  | _ :: _, _ :: _, [], _, _, h, _ => h.elim

/-- The post of a law. -/
theorem law_post {H : Type} {enc : TypeId × Value → H} {f : Func} {s : ChangeSpec} {W W' : World} {args : Array Value} {ds gs : List (DataW H)} {before : List MemPlace}
    (hW : DataW.Whole enc Try.prog f.params.toList s.vars false W args.toList ds gs before) (hv : s.vars = [])
    (hr : ∀ t ∈ f.params.toList, Try.prog.readableRec t = true ∧ t < Try.prog.types.size) (hres : f.resultTypes = #[4])
    (hs : (s.fn H (ds ++ [])).results = [.lit (.bool true)] ∧ (s.fn H (ds ++ [])).args = ds ∧ (s.fn H (ds ++ [])).vars = [])
    (hb : Below W.heap.size W W') : s.post enc Try.prog f false true false false W args (.bool true) W' := by
  have hW' := hW
  obtain ⟨p, q, hA, hV, rfl, hfz, hnd⟩ := hW
  rw [hv] at hV
  obtain ⟨rfl, rfl⟩ := trodVars_none hV
  have hlt : ∀ x ∈ p, x.block < W.heap.size := fun x hx => by
    have := hW'.lt x (List.mem_append_left _ hx)
    exact this
  obtain ⟨h1, h2, h3⟩ := hs
  refine ⟨ds, [], _, [], p, [], hW', ?_, ?_, ?_, hb.frame _, fun h => by cases h⟩
  · rw [h1, hres]
    exact trodAll_cons_mk (shut_bool Try.underlying4 _) trodAll_mk0
  · rw [h2]
    exact trodAll_below laidOut hb _ _ _ _ hr hA hlt
  · rw [h3, hv]; rfl

end Go.Proofs.Ytibiiafcnaijeaa
