/- If nothing fails: plain mathematics; bytes that came in. -/
import Derived.Test.YtoaellmjgejgfaaInv2
import Derived.Test.YtoaellmjgejgfaaOpen
namespace Go.Proofs.Ytoaellmjgejgfaa
open Go.ChangeShapes Go.WideShapes Go.ChangeAt Go.RowKit Go.Deep
set_option linter.unusedVariables false

structure CompI (s : St) (N i : Nat) : Prop where
  inv : Inv s
  fl : s.fl = []
  sk : s.sk = []
  len : s.needs.length = N
  cnt : s.rn.length + 2 * s.dn.length = i

theorem begin_of_ready {s : St} (h : Inv s) {y : Int} (hy : y ∈ readyL s) : (beginS s y).1 = 0 ∧ (beginS s y).2 = { s with wt := del y s.wt, rn := ins y s.rn } ∧ y ∈ s.wt := by
  obtain ⟨h1, h2⟩ := List.mem_filter.1 hy
  have hr := h.good.rwt y h1
  have hb : beginS s y = (0, { s with wt := del y s.wt, rn := ins y s.rn }) := by
    unfold beginS inR
    rw [decide_eq_true hr.1, decide_eq_true hr.2]
    simp only [Bool.and_self, if_true]
    rw [if_pos h2]
  rw [hb]
  exact ⟨rfl, rfl, h1⟩
theorem stop_of_running {s : St} (h : Inv s) {y : Int} (hy : y ∈ s.rn) : stopS s y = (0, { s with rn := del y s.rn }) := by
  have hr := h.good.rrn y hy
  unfold stopS inR
  rw [decide_eq_true hr.1, decide_eq_true hr.2, List.contains_iff_mem.2 hy]
  rfl
theorem finish_of_running {s : St} (h : Inv s) {y : Int} (hy : y ∈ s.rn) : finishS s y = (0, { s with rn := del y s.rn, dn := ins y s.dn }) := by
  unfold finishS
  rw [stop_of_running h hy]
  rfl

section
variable {s : St} {N i : Nat}
theorem CompI.begin_ (h : CompI s N i) {y : Int} (hy : y ∈ readyL s) : CompI (beginS s y).2 N (i + 1) := by
  obtain ⟨_, e, hw⟩ := begin_of_ready h.inv hy
  have hi := h.inv.begin_ y
  rw [e] at hi ⊢
  refine ⟨hi, h.fl, h.sk, h.len, ?_⟩
  show (ins y s.rn).length + 2 * s.dn.length = i + 1
  rw [length_ins (h.inv.wt_only hw).1]
  have := h.cnt; omega
theorem CompI.finish (h : CompI s N i) {y : Int} (hy : y ∈ s.rn) : CompI (finishS s y).2 N (i + 1) := by
  have hi := h.inv.finish y
  rw [finish_of_running h.inv hy] at hi ⊢
  refine ⟨hi, h.fl, h.sk, h.len, ?_⟩
  show (del y s.rn).length + 2 * (ins y s.dn).length = i + 1
  rw [length_ins (h.inv.rn_only hy).2.1]
  have h1 := length_del h.inv.good.srn hy
  have := h.cnt; omega
theorem CompI.some (h : CompI s N i) (hi : i < 2 * N) : 0 < (readyL s).length + s.rn.length := by
  apply Classical.byContradiction
  intro hc
  have h1 : s.rn = [] := List.eq_nil_of_length_eq_zero (by omega)
  have h2 : readyL s = [] := List.eq_nil_of_length_eq_zero (by omega)
  have hs := h.inv.sum
  rw [h.fl, h.sk, h1] at hs
  have hcnt := h.cnt
  rw [h1] at hcnt
  have hl := h.len
  simp at hs hcnt
  have hw : s.wt ≠ [] := fun e => by rw [e] at hs; simp at hs; omega
  exact h.inv.progress hw h1 h2
theorem CompI.fin (h : CompI s N (2 * N)) : s.wt.length + s.rn.length = 0 ∧ s.dn.length = N ∧ s.fl.length = 0 ∧ s.sk.length = 0 := by
  have hs := h.inv.sum
  have hcnt := h.cnt
  have hl := h.len
  have h1 : s.fl.length = 0 := by rw [h.fl]; rfl
  have h2 : s.sk.length = 0 := by rw [h.sk]; rfl
  omega
theorem comp_new {ns : List (List Int)} {order : List Int} {limit : Int} (h : Inv (stNew ns order limit)) : CompI (stNew ns order limit) ns.length 0 := ⟨h, rfl, rfl, rfl, rfl⟩
theorem CompI.small (h : CompI s N i) : (readyL s).length ≤ N ∧ s.rn.length ≤ N := by
  have h1 : (readyL s).length ≤ s.wt.length := List.length_filter_le _ _
  have hs := h.inv.sum
  have hl := h.len
  omega
end

/-- Bytes that are only read. -/
def Bytes (w : World) (oa : Option Addr) (len : Nat) (f : Nat → Int) : Prop := ∀ i, i < len → 0 ≤ f i ∧ f i ≤ 255 ∧ ∃ g o, oa = some ⟨g, o, none⟩ ∧ w.cell? ⟨g, o + i, none⟩ = some (.int .u8 (f i))

theorem c5 : Try.prog.cellsOf 5 = 1 := by kernel_rfl
theorem open_bytes {H : Type} {enc : TypeId × Value → H} {W : World} {v : Value} {d : DataW H} {p : List MemPlace} {base : Nat}
    (hv : Value.okWide Try.prog W .any base 48 v) (h : DataW.Trod enc Try.prog W 0 (fun _ => true) true 48 v d p) :
    ∃ oa len c f, v = .slice oa len c ∧ len ≤ 9223372036854775807 ∧ Bytes W oa len f := by
  obtain ⟨a0, len0, cap0, rfl⟩ := okWide_slice Try.underlying48 hv
  obtain ⟨fuel, hf⟩ := h
  rcases open_ints Try.underlying48 Try.underlying5 c5 hf with ⟨hcs, hx⟩ | ⟨a, len, cap, zs, hcs, hb, hl, hm, hzl, hx, hel, hwf⟩
  · have hv' : Value.slice a0 len0 cap0 = .slice none 0 0 := by simpa [Value.cells] using hcs
    exact ⟨none, 0, 0, fun _ => 0, hv', by omega, fun i hi => absurd hi (Nat.not_lt_zero _)⟩
  · have hv' : Value.slice a0 len0 cap0 = .slice (some a) len cap := by simpa [Value.cells] using hcs
    simp only [if_true] at hzl
    have hm' : cap ≤ 9223372036854775807 := by simpa [maxLen] using hm
    refine ⟨some a, len, cap, fun i => zs.getD i 0, hv', by omega, fun i hi => ?_⟩
    have hil : i < zs.length := by omega
    have hw := hwf (zs.getD i 0) (by rw [List.getD_eq_getElem?_getD, List.getElem?_eq_getElem hil]; exact List.getElem_mem hil)
    have e1 : IntKind.u8.min = 0 := by decide
    have e2 : IntKind.u8.max = 255 := by decide
    simp only [Lit.wf, Bool.and_eq_true, decide_eq_true_eq, e1, e2] at hw
    obtain ⟨g, o, rfl⟩ := addr_flat (hel 0 (by omega))
    have := hel i hil
    rw [add_off] at this
    exact ⟨hw.1, hw.2, g, o, rfl, this⟩
end Go.Proofs.Ytoaellmjgejgfaa
