/- Lists of types that a law lays for valid. -/
import Derived.Test.YtfljnigbfacmjaaGreatDoorAwake
import Derived.Test.YtfljnigbfacmjaaGreatDoorFrame
namespace Go.Proofs.YtfljnigbfacmjaaGreatDoor
open Go Go.RowKit
set_option linter.unusedVariables false
theorem two_types {P : Nat → Prop} {w : World} {b : Nat} {x y z x' y' z' : Value} {t t' : Ty} (h : w.heap[b]? = some (.cells #[x, y, z, x', y', z'] 30)) (h1 : TV P w (.agg #[x, y, z]) t) (h2 : TV P w (.agg #[x', y', z']) t') :
    LV (fun _ => True) w (.slice (some ⟨b, 0, none⟩) 2 2) [t, t'] := by
  refine ⟨[(x, y, z), (x', y', z')], ⟨by simp, .inr ⟨b, 0, 2, trivial, rfl, fun i r hr => ?_⟩⟩, rfl, fun i r e hr he => ?_⟩
  · match i, hr with
    | 0, hr => cases hr; exact ⟨(cells_in h 0).trans rfl, (cells_in h 1).trans rfl, (cells_in h 2).trans rfl⟩
    | 1, hr => cases hr; exact ⟨(cells_in h 3).trans rfl, (cells_in h 4).trans rfl, (cells_in h 5).trans rfl⟩
  · match i, hr, he with
    | 0, hr, he => cases hr; cases he; exact h1.mono fun _ _ => trivial
    | 1, hr, he => cases hr; cases he; exact h2.mono fun _ _ => trivial
theorem one_type {P : Nat → Prop} {w : World} {b : Nat} {x y z : Value} {t : Ty} (h : w.heap[b]? = some (.cells #[x, y, z] 30)) (h1 : TV P w (.agg #[x, y, z]) t) :
    LV (fun _ => True) w (.slice (some ⟨b, 0, none⟩) 1 1) [t] := by
  refine ⟨[(x, y, z)], ⟨by simp, .inr ⟨b, 0, 1, trivial, rfl, fun i r hr => ?_⟩⟩, rfl, fun i r e hr he => ?_⟩
  · match i, hr with
    | 0, hr => cases hr; exact ⟨(cells_in h 0).trans rfl, (cells_in h 1).trans rfl, (cells_in h 2).trans rfl⟩
  · match i, hr, he with
    | 0, hr, he => cases hr; cases he; exact h1.mono fun _ _ => trivial
theorem wordS_len (k : Int) : 3 ≤ (wordS k).size ∧ (wordS k).size ≤ 6 := by
  unfold wordS
  split
  · decide
  split
  · decide
  split
  · decide
  split
  · decide
  split
  · decide
  split
  · decide
  · decide
theorem ent_size (x : ByteArray) (e : Ty) : (x ++ ⟨#[32, 61, 32]⟩ ++ fmtT e).size = x.size + 3 + (fmtT e).size := by rw [← bl_len, bl_app, bl_app, bl_eq]; simp [bl_len]; omega
theorem joinS_ge : ∀ (es : List Ty) (ns : List ByteArray), es.length = ns.length → (∀ e ∈ es, sizeT e ≤ (fmtT e).size) → sizeL es ≤ (joinS (fmtL es ns)).size
  | [], ns, _, _ => by rw [sizeL]; exact Nat.zero_le _
  | e :: es, [], h, _ => by simp at h
  | e :: es, x :: ns, h, hs => by
    have h1 := hs e (List.mem_cons_self ..)
    have ih := joinS_ge es ns (by simpa using h) fun y hy => hs y (List.mem_cons_of_mem _ hy)
    have h' : es.length = ns.length := by simpa using h
    rw [fmtL, sizeL]
    cases es with
    | nil =>
      rw [fmtL, joinS_one, ent_size, sizeL]; omega
    | cons e' es =>
      cases ns with
      | nil => simp at h'
      | cons x' ns =>
        rw [fmtL] at ih ⊢
        rw [joinS_size, ent_size]
        omega
theorem fmt_sizes (t : Ty) : ∀ lv, checkT t lv = 0 → sizeT t ≤ (fmtT t).size ∧ (fmtT t).size ≤ 12 * sizeT t + 70 * namesT t := by
  induction t using Ty.ind with
  | h k es ns ih =>
    intro lv hc
    obtain ⟨_, hp, hid, _, hes⟩ := (checkT_zero k es ns lv).1 hc
    rw [sizeT_eq, namesT]
    have hw := wordS_len k
    rcases partsB_true hp with ⟨hk, h1, h2⟩ | ⟨rfl, h1⟩ | ⟨hk, h1, h2⟩
    · obtain ⟨e, rfl⟩ := List.length_eq_one_iff.1 h1
      have := ih e (List.mem_cons_self ..) (lv + 1) (hes e (List.mem_cons_self ..))
      have hf : (fmtT (.mk k [e] ns)).size = (wordS k).size + 1 + (fmtT e).size + 1 := by
        rw [fmtT_eq, if_pos hk, if_pos (show [e].length = 1 from rfl), fmtH, ← bl_len, bl_app, bl_app, bl_app, bl_lp, bl_rp]; simp [bl_len]; omega
      rw [hf, sizeL, sizeL, namesL, namesL]
      omega
    · have hf : (fmtT (.mk 6 es ns)).size = 8 + (joinS (fmtL es ns)).size + 2 := by
        rw [fmtT_eq, if_neg (by decide), if_pos rfl, ← bl_len, bl_app, bl_app, bl_ob, bl_cb]; simp [bl_len]; omega
      have hj := joinS_entS es ns h1
      have hg := joinS_ge es ns h1 fun e he => (ih e he (lv + 1) (hes e he)).1
      have hent : ∀ (es : List Ty) (ns : List ByteArray), es.length = ns.length → (∀ x ∈ ns, x.size ≤ 64) → (∀ e ∈ es, (fmtT e).size ≤ 12 * sizeT e + 70 * namesT e) → entS es ns ≤ 70 * ns.length + 12 * sizeL es + 70 * namesL es := by
        intro es
        induction es with
        | nil => intro ns _ _ _; cases ns <;> simp [entS]
        | cons e es ih2 =>
          intro ns hl hx he
          cases ns with
          | nil => simp at hl
          | cons x ns =>
            have a1 := ih2 ns (by simpa using hl) (fun y hy => hx y (List.mem_cons_of_mem _ hy)) (fun y hy => he y (List.mem_cons_of_mem _ hy))
            have a2 := hx x (List.mem_cons_self ..)
            have a3 := he e (List.mem_cons_self ..)
            rw [entS, sizeL, namesL, List.length_cons]; omega
      have := hent es ns h1 (fun x hx => (ident_bytes (hid x hx)).2.2.1) fun e he => (ih e he (lv + 1) (hes e he)).2
      rw [hf]; omega
    · obtain rfl := List.eq_nil_of_length_eq_zero h1
      rw [fmtT_eq, if_neg (fun h => by omega), if_neg (fun h => by omega), sizeL]; omega
/-- The text of a valid type is read again. -/
theorem parseV_fmt {t : Ty} (h : checkT t 1 = 0) (hs : (fmtT t).size ≤ 65536) : parseV (fmtT t) = (t, 0, 0) := by
  unfold parseV
  rw [if_neg (by omega), parse_fmt h]
theorem parseV_ok {s : ByteArray} {t : Ty} (h : parseP s = .ok t) (hs : s.size ≤ 65536) : parseV s = (t, 0, 0) := by
  unfold parseV; rw [if_neg (by omega), h]
theorem parseV_err {s : ByteArray} {e : Int × Nat} (h : parseP s = .error e) (hs : s.size ≤ 65536) : parseV s = (.mk 0 [] [], e.1, e.2) := by
  unfold parseV; rw [if_neg (by omega), h]
end Go.Proofs.YtfljnigbfacmjaaGreatDoor
