/- The statement WireBack holds of the given program for every input. -/
import Derived.Test.YtdhfpgkncglgoaaBk
import Derived.Test.YtdhfpgkncglgoaaSteady
namespace Go.Proofs.Ytdhfpgkncglgoaa.wireBack
open Go.ChangeShapes Go.WideShapes Go.ChangeAt Go.RowKit Go.BigFrame
open Go.ChangeMaps (open_string shut_string)
set_option linter.unusedVariables false
open Go.Deep Steady
def fewB (len : Nat) (st : Nat → ByteArray) : Bool := decide (len ≤ 60 ∧ ∀ i, i < len → (st i).size ≤ 200)
theorem few_no {len : Nat} {st : Nat → ByteArray} {i : Nat} (hi : i < len) (h : 200 < (st i).size) : fewB len st = false := by
  unfold fewB
  simp
  intro _
  exact ⟨i, hi, h⟩
theorem few_is {len : Nat} {st : Nat → ByteArray} (h : ∀ i, i < len → i < 60 → (st i).size ≤ 200) : fewB len st = decide (len ≤ 60) := by
  unfold fewB
  congr 1
  apply propext
  constructor
  · intro h'; exact h'.1
  · intro h'; exact ⟨h', fun i hi => h i hi (by omega)⟩

set_option maxRecDepth 100000 in
set_option maxHeartbeats 400000 in
theorem few_any (oa : Option Addr) (len cap : Nat) (tx : Nat → Bool) (nm : Nat → Int) (st : Nat → ByteArray) (hlen : len ≤ maxLen) (w : World) (hI : Items w oa len tx nm st) :
    Calls Try.prog 15 #[.slice oa len cap] w fun e w' => e = .returned (.bool (fewB len st)) ∧ w = w' := by
  unfold maxLen at hlen
  have hn := fun i => @few_no len st i
  have hy := few_is (len := len) (st := st)
  generalize fewB len st = B at *
  have Hn := hid hn
  have Hy := hid hy
  have HI := hid hI
  clear hn hy hI
  go_enter Try.func15, Try.ntmps15
  go_wp2
  go_loop [3] (fun i => ∃ k : Nat, k ≤ len ∧ k ≤ 60 ∧ i = .int .i64 k ∧ Hid (∀ i, i < k → (st i).size ≤ 200)) (fun i => len - (intOf i).toNat)
  case atStart => exact ⟨0, by omega, by omega, rfl, hid (fun _ h => by omega)⟩
  case round =>
    obtain ⟨k, hk, hk6, rfl, hst⟩ := hrel
    by_cases hlt : k < len ∧ k < 60
    · obtain ⟨hl1, hl2⟩ := hlt
      obtain ⟨b, off, rfl⟩ := HI.out.head (by omega)
      have hs := HI.out.str b off k rfl hl1
      have hsl := HI.out.strlen k hl1
      by_cases h200 : 200 < (st k).size
      · have Hf := hid (Hn.out k hl1 h200)
        go_wp2
        go_ret
        exact ⟨by rw [Hf.out]; rfl, rfl⟩
      · go_wp2
        go_round
        case rel => exact ⟨k + 1, by omega, by omega, by go_num, hid (fun i hi => by
          by_cases h : i = k
          · subst h; omega
          · exact hst.out i (by omega))⟩
        case measure => simp [intOf]; omega
    · have hB := Hy.out (fun i hi hi6 => hst.out i (by omega))
      have HB := hid hB
      clear hB
      by_cases hl1 : k < len
      · have hk60 : k = 60 := by omega
        subst hk60
        have hx : decide ((len : Int) ≤ 60) = false := by simp; omega
        have Hx := hid (show decide (len ≤ 60) = false by simp; omega)
        go_wp2
        go_ret
        exact ⟨by rw [HB.out, Hx.out]; rfl, rfl⟩
      · have hke : k = len := by omega
        have hx : decide ((len : Int) ≤ 60) = true := by simp; omega
        have Hx := hid (show decide (len ≤ 60) = true by simp; omega)
        clear hke
        go_wp2
        go_ret
        exact ⟨by rw [HB.out, Hx.out]; rfl, rfl⟩

theorem only_up {B nb : Nat} {u v w : World} (h : Below B u v) (hle : B ≤ nb) (ho : Only nb v w) : Below B u w := by
  exact ⟨ho.os.trans h.os, ho.tape.trans h.tape, ho.output.trans h.output, by rw [ho.size]; exact h.size, fun i hi => (ho.block i (by omega)).trans (h.block i hi)⟩

set_option maxRecDepth 100000 in
set_option maxHeartbeats 2000000 in
theorem walk (oa : Option Addr) (len cap : Nat) (tx : Nat → Bool) (nm : Nat → Int) (st : Nat → ByteArray) (hlen : len ≤ maxLen) (w : World) (hI : Items w oa len tx nm st) :
    Calls Try.prog 4 #[.slice oa len cap] w fun e w' => e = .returned (.bool true) ∧ Below w.heap.size w w' := by
  have hfew := fun w h => few_any oa len cap tx nm st hlen w h
  unfold maxLen at hlen
  cases hF : fewB len st with
  | false =>
    rw [hF] at hfew
    have Hfew := hid hfew
    have HI := hid hI
    clear hfew hI hF
    go_enter Try.func4, Try.ntmps4
    go_wp2_with fail
    refine (Hfew.out _ HI.out).mono ?_; rintro e w' ⟨rfl, rfl⟩
    go_wp2_with fail
    refine (awake_any _).mono ?_; rintro e w' ⟨rfl, hb⟩
    go_wp2_with fail
    go_ret
    exact ⟨rfl, hb⟩
  | true =>
    rw [hF] at hfew
    unfold fewB at hF
    simp only [decide_eq_true_eq] at hF
    obtain ⟨h60, h200⟩ := hF
    have H200 := hid h200
    have Hfew := hid hfew
    have HI := hid hI
    have hil := fun j (hj : j < len) => encItem_len tx nm st j (hI.numlo j hj) (hI.numhi j hj) (h200 j hj)
    have hfl := fun n i (hin : i + n ≤ len) => encFrom_len tx nm st n i (fun j h1 h2 => hil j (by omega))
    have Hfl := hid hfl
    clear hfew hI h200 hil hfl
    go_enter Try.func4, Try.ntmps4
    go_wp2_with fail
    refine (Hfew.out _ HI.out).mono ?_; rintro e w' ⟨rfl, rfl⟩
    go_wp2_with fail
    go_loopw [3, 4] (fun s i wr => ∃ k : Nat, k ≤ len ∧ i = .int .i64 k ∧ s = .string (bs (encFrom tx nm st 0 k)) ∧ Hid (Below w.heap.size w wr)) (fun _ i _ => len - (intOf i).toNat)
    case atStart => exact ⟨0, Nat.zero_le _, rfl, rfl, hid (Below.refl _ _)⟩
    case round =>
      obtain ⟨k, hk, rfl, rfl, B⟩ := hrel
      have hsz : (bs (encFrom tx nm st 0 k)).size ≤ 20000 := by rw [bs_size]; have := Hfl.out k 0 (by omega); omega
      by_cases hlt : k < len
      · obtain ⟨lb, off, rfl⟩ := HI.out.head (by omega)
        have Iw := HI.out.below B.out
        have htx := Iw.text lb off k rfl hlt
        have hnm := Iw.num lb off k rfl hlt
        have hst := Iw.str lb off k rfl hlt
        have hlo := Iw.numlo k hlt
        have hhi := Iw.numhi k hlt
        have h2 := H200.out k hlt
        have hsn := encFrom_snoc tx nm st k 0
        rw [Nat.zero_add] at hsn
        have hit : encItem tx nm st k = if tx k then enc (zig (st k).size) ++ (st k).data.toList else enc (zig (nm k)) := rfl
        clear Iw
        generalize encFrom tx nm st 0 k = E at *
        cases htk : tx k with
        | true =>
          rw [htk] at htx hit
          rw [if_pos rfl] at hit
          have hcall := fun w => astr_any (bs E) (st k) w (by omega) (by omega)
          unfold AStrPost at hcall
          rw [bs_list, List.append_assoc, ← hit, ← hsn] at hcall
          have Hcall := hid hcall
          clear hcall hit hsn htk
          go_wp2_with fail
          refine (Hcall.out _).mono ?_; rintro e w2 ⟨rfl, hb⟩
          go_wp2_with fail
          go_roundw
          case rel => exact ⟨k + 1, by omega, by go_num, rfl, hid (B.out.trans (hb.mono B.out.size))⟩
          case measure => simp [intOf]; omega
        | false =>
          rw [htk] at htx hit
          rw [if_neg (by simp)] at hit
          have hcall := fun w => app_any (bs E) (nm k) w hlo hhi (by omega)
          unfold AppPost at hcall
          rw [bs_list, ← hit, ← hsn] at hcall
          have Hcall := hid hcall
          clear hcall hit hsn htk
          go_wp2_with fail
          refine (Hcall.out _).mono ?_; rintro e w2 ⟨rfl, hb⟩
          go_wp2_with fail
          go_roundw
          case rel => exact ⟨k + 1, by omega, by go_num, rfl, hid (B.out.trans (hb.mono B.out.size))⟩
          case measure => simp [intOf]; omega
      · have hke : k = len := by omega
        have hs0 : bs (encFrom tx nm st 0 k) = bs (encFrom tx nm st 0 len) := by rw [hke]
        rw [hs0] at hsz ⊢
        clear hs0 hke
        generalize hS : bs (encFrom tx nm st 0 len) = S at *
        have HS := hid hS
        clear hS
        go_wp2_with fail
        refine (new_any _ _).mono ?_; rintro e w2 ⟨rfl, hw2⟩
        have r0 : RD w2 wr.heap.size S 0 true := by rw [← hw2]; exact heap_alloc_new wr _
        have b0 : Below w.heap.size w w2 := by rw [← hw2]; exact B.out.alloc B.out.size _
        have hle := B.out.size
        clear hw2 B
        generalize wr.heap.size = rb at *
        generalize hrb : w.heap.size = hz at *
        have Hrb := hid hrb
        have R0 := hid r0
        have B0 := hid b0
        clear r0 b0 hrb
        go_wp2_with fail
        refine (left_any rb S 0 true (by omega) _ R0.out).mono ?_; rintro e w' ⟨rfl, rfl⟩
        go_wp2_with fail
        go_loopw [6] (fun i wr => ∃ k : Nat, k ≤ len ∧ i = .int .i64 k ∧ Hid (RD wr rb (bs (encFrom tx nm st k (len - k))) 0 true) ∧ Hid (Below hz w wr)) (fun i _ => len - (intOf i).toNat)
        case atStart => exact ⟨0, Nat.zero_le _, rfl, by rw [Nat.sub_zero, HS.out]; exact R0, B0⟩
        case round =>
          obtain ⟨k, hk, rfl, R, B⟩ := hrel
          by_cases hlt : k < len
          · obtain ⟨lb, off, rfl⟩ := HI.out.head (by omega)
            have Iw := HI.out.below (by rw [Hrb.out]; exact B.out)
            have hlb : lb < rb := by have := HI.out.lt lb off rfl (by omega); rw [Hrb.out] at this; omega
            have htx := Iw.text lb off k rfl hlt
            have hnm := Iw.num lb off k rfl hlt
            have hst := Iw.str lb off k rfl hlt
            have hlo := Iw.numlo k hlt
            have hhi := Iw.numhi k hlt
            have h2 := H200.out k hlt
            have hrest : encFrom tx nm st k (len - k) = encItem tx nm st k ++ encFrom tx nm st (k + 1) (len - (k + 1)) := by
              rw [show len - k = (len - (k + 1)) + 1 by omega]; rfl
            have hbl : (encFrom tx nm st k (len - k)).length ≤ 20000 := by have := Hfl.out (len - k) k (by omega); omega
            have hk0 : (0 : Int) ≤ (k : Int) := by omega
            have hk1 : (k : Int) < (len : Int) := by omega
            have hne : lb ≠ rb := by omega
            clear Iw
            cases htk : tx k with
            | true =>
              rw [htk] at htx
              have hit : encItem tx nm st k = enc (zig (st k).size) ++ (st k).data.toList := by unfold encItem; rw [htk, if_pos rfl]
              rw [hit, List.append_assoc] at hrest
              have hcall := fun w h => string_ok rb (bs (encFrom tx nm st k (len - k))) (by rw [bs_size]; omega) w h
              unfold Post at hcall
              rw [hrest, strOf_back _ (by omega)] at hcall
              rw [hrest] at R
              have Hcall := hid hcall
              clear hcall hit hrest htk
              go_wp2_with fail
              refine wp_region_steady (fun v => v.cell? ⟨lb, off + k * 3, none⟩ = some (.bool true) ∧ v.cell? ⟨lb, off + k * 3 + 2, none⟩ = some (.string (st k))) (by kernel_rfl) (by kernel_rfl) (⟨htx, hst⟩) ?_
              repeat (first
                | (refine wpSteady_skip (by rfl) ?_; try simp only [Act.put, List.setIfInBounds_toArray, List.set_cons_zero, List.set_cons_succ])
                | (refine wpSteady_calm (v := ?_) (by rfl) ?_ ?_; rotate_left; (focus (intro v hSv; (try dsimp only at hSv); go_simp; (try with_reducible rfl); done)); try simp only [Act.put, List.setIfInBounds_toArray, List.set_cons_zero, List.set_cons_succ]))
              refine wpSteady_loud rfl (by rfl) (fun K hK => ?_)
              go_simp
              refine (Hcall.out _ ?_).mono ?_
              exact R.out
              rintro r w6 ⟨rfl, r6, o6⟩
              have htx6 := (only_cell (o := off + k * 3) o6 hne).trans htx
              have hst6 := (only_cell (o := off + k * 3 + 2) o6 hne).trans hst
              have R6 := hid r6
              have O6 : Hid (Only rb wr w6) := hid ⟨o6.os, o6.tape, o6.output, o6.size, o6.block⟩
              clear r6 o6
              refine hK.out _ _ ⟨htx6, hst6⟩ ?_
              clear hK K
              try simp only [Act.put, List.setIfInBounds_toArray, List.set_cons_zero, List.set_cons_succ]
              repeat (first
                | (refine wpSteady_skip (by rfl) ?_; try simp only [Act.put, List.setIfInBounds_toArray, List.set_cons_zero, List.set_cons_succ])
                | (refine wpSteady_calm (v := ?_) (by rfl) ?_ ?_; rotate_left; (focus (intro v hSv; (try dsimp only at hSv); go_simp; (try with_reducible rfl); done)); try simp only [Act.put, List.setIfInBounds_toArray, List.set_cons_zero, List.set_cons_succ]))
              refine wpSteady_loud rfl (by rfl) (fun K hK => ?_)
              go_simp
              refine (err_any rb (bs (encFrom tx nm st (k + 1) (len - (k + 1)))) 0 _ ?_).mono ?_
              exact R6.out
              rintro r w' ⟨rfl, rfl⟩
              refine hK.out _ _ ⟨htx6, hst6⟩ ?_
              clear hK K
              try simp only [Act.put, List.setIfInBounds_toArray, List.set_cons_zero, List.set_cons_succ]
              repeat (first
                | (refine wpSteady_skip (by rfl) ?_; try simp only [Act.put, List.setIfInBounds_toArray, List.set_cons_zero, List.set_cons_succ])
                | (refine wpSteady_calm (v := ?_) (by rfl) ?_ ?_; rotate_left; (focus (intro v hSv; (try dsimp only at hSv); go_simp; (try with_reducible rfl); done)); try simp only [Act.put, List.setIfInBounds_toArray, List.set_cons_zero, List.set_cons_succ]))
              refine wpSteady_nil ?_
              go_wp2_with fail
              go_roundw
              case rel => exact ⟨k + 1, by omega, by go_num, R6, hid (only_up B.out (Hrb.out ▸ hle) O6.out)⟩
              case measure => simp [intOf]; omega
            | false =>
              rw [htk] at htx
              have hit : encItem tx nm st k = enc (zig (nm k)) := by unfold encItem; rw [htk, if_neg (by simp)]
              rw [hit] at hrest
              have hcall := fun w h => number_ok rb (bs (encFrom tx nm st k (len - k))) (by rw [bs_size]; omega) w h
              unfold Post at hcall
              rw [hrest, numOf_back _ hlo hhi] at hcall
              rw [hrest] at R
              have Hcall := hid hcall
              clear hcall hit hrest htk
              go_wp2_with fail
              refine wp_region_steady (fun v => v.cell? ⟨lb, off + k * 3, none⟩ = some (.bool false) ∧ v.cell? ⟨lb, off + k * 3 + 1, none⟩ = some (.int .i64 (nm k))) (by kernel_rfl) (by kernel_rfl) (⟨htx, hnm⟩) ?_
              repeat (first
                | (refine wpSteady_skip (by rfl) ?_; try simp only [Act.put, List.setIfInBounds_toArray, List.set_cons_zero, List.set_cons_succ])
                | (refine wpSteady_calm (v := ?_) (by rfl) ?_ ?_; rotate_left; (focus (intro v hSv; (try dsimp only at hSv); go_simp; (try with_reducible rfl); done)); try simp only [Act.put, List.setIfInBounds_toArray, List.set_cons_zero, List.set_cons_succ]))
              refine wpSteady_loud rfl (by rfl) (fun K hK => ?_)
              go_simp
              refine (Hcall.out _ ?_).mono ?_
              exact R.out
              rintro r w6 ⟨rfl, r6, o6⟩
              have htx6 := (only_cell (o := off + k * 3) o6 hne).trans htx
              have hst6 := (only_cell (o := off + k * 3 + 1) o6 hne).trans hnm
              have R6 := hid r6
              have O6 : Hid (Only rb wr w6) := hid ⟨o6.os, o6.tape, o6.output, o6.size, o6.block⟩
              clear r6 o6
              refine hK.out _ _ ⟨htx6, hst6⟩ ?_
              clear hK K
              try simp only [Act.put, List.setIfInBounds_toArray, List.set_cons_zero, List.set_cons_succ]
              repeat (first
                | (refine wpSteady_skip (by rfl) ?_; try simp only [Act.put, List.setIfInBounds_toArray, List.set_cons_zero, List.set_cons_succ])
                | (refine wpSteady_calm (v := ?_) (by rfl) ?_ ?_; rotate_left; (focus (intro v hSv; (try dsimp only at hSv); go_simp; (try with_reducible rfl); done)); try simp only [Act.put, List.setIfInBounds_toArray, List.set_cons_zero, List.set_cons_succ]))
              refine wpSteady_loud rfl (by rfl) (fun K hK => ?_)
              go_simp
              refine (err_any rb (bs (encFrom tx nm st (k + 1) (len - (k + 1)))) 0 _ ?_).mono ?_
              exact R6.out
              rintro r w' ⟨rfl, rfl⟩
              refine hK.out _ _ ⟨htx6, hst6⟩ ?_
              clear hK K
              try simp only [Act.put, List.setIfInBounds_toArray, List.set_cons_zero, List.set_cons_succ]
              repeat (first
                | (refine wpSteady_skip (by rfl) ?_; try simp only [Act.put, List.setIfInBounds_toArray, List.set_cons_zero, List.set_cons_succ])
                | (refine wpSteady_calm (v := ?_) (by rfl) ?_ ?_; rotate_left; (focus (intro v hSv; (try dsimp only at hSv); go_simp; (try with_reducible rfl); done)); try simp only [Act.put, List.setIfInBounds_toArray, List.set_cons_zero, List.set_cons_succ]))
              refine wpSteady_nil ?_
              go_wp2_with fail
              go_roundw
              case rel => exact ⟨k + 1, by omega, by go_num, R6, hid (only_up B.out (Hrb.out ▸ hle) O6.out)⟩
              case measure => simp [intOf]; omega
          · have hke : k = len := by omega
            rw [show len - k = 0 by omega] at R
            go_wp2_with fail
            refine (left_any rb ⟨#[]⟩ 0 true (by decide) _ R.out).mono ?_; rintro e w' ⟨rfl, rfl⟩
            go_wp2_with fail
            refine (awake_any _).mono ?_; rintro e w' ⟨rfl, hb⟩
            go_wp2_with fail
            go_ret
            exact ⟨rfl, by rw [Hrb.out]; exact B.out.trans (hb.mono (Nat.le_trans hle (Nat.le_of_lt R.out.lt)))⟩

theorem readable : ∀ t ∈ #[26].toList, Try.prog.readableRec t = true ∧ t < Try.prog.types.size := by
  intro t ht
  have r26 : Try.prog.readableRec 26 = true ∧ 26 < Try.prog.types.size := ⟨by kernel_rfl, of_decide_eq_true (by kernel_rfl)⟩
  have hm : t = 26 := by simpa using ht
  rcases hm with rfl <;> assumption

theorem walkD {H : Type} (enc : TypeId × Value → H) (W : World) (base : Nat) (args : Array Value) (ds : List (DataW H)) (p : List MemPlace)
    (hval : ∀ (j : Nat) t v, #[26][j]? = some t → args[j]? = some v → Value.okWide Try.prog W .any base t v)
    (hA : DataW.TrodAll enc Try.prog W 0 (fun _ => true) true #[26].toList args.toList ds p) :
    (Calls Try.prog 4 args W fun e w' => e = .returned (.bool true) ∧ Below W.heap.size W w') ∧
    ((Rows.wireBackSpec.fn H (ds ++ [])).results = [.lit (.bool true)] ∧ (Rows.wireBackSpec.fn H (ds ++ [])).args = ds ∧ (Rows.wireBackSpec.fn H (ds ++ [])).vars = []) := by
  obtain ⟨v0, vs0, d0, ds0, p0, q0, hargs, rfl, rfl, h0, r0⟩ := trodAll_cons hA
  obtain ⟨rfl, rfl, rfl⟩ := trodAll_nil r0
  obtain rfl : args = #[v0] := by cases args; simp_all
  obtain ⟨oa, ln, cp, tx, nm, st, rfl, wl, wa⟩ := open_items (hval 0 26 v0 rfl rfl) h0
  exact ⟨walk oa ln cp tx nm st wl W wa, rfl, rfl, rfl⟩

/-! ### The row -/
set_option maxRecDepth 100000 in
theorem lifted (os : Os) (started : os.Started) (H : Type) (enc : TypeId × Value → H) :
    ReturnsInHanded {} Try.checked os 4 .any (Rows.wireBackSpec.pre6 enc Try.prog Try.f4 Rows.wireBackRow.domain false) (Rows.wireBackSpec.post enc Try.prog Try.f4 false true false false) := by
  refine returnsInHanded_of_change (C := Try.checked) own started (by kernel_rfl) Try.func4
    (ChangeSpec.witness6 (enc := enc) (C := Try.checked) false ⟨#[], #[.slice none 0 0], []⟩ 8 (by kernel_rfl) (by kernel_rfl) (by kernel_rfl) (by kernel_rfl)) ?_
  intro W base args ds gs before hval0 hW _ _
  have hW' := hW
  obtain ⟨p, q, hA, hV, _, _, _⟩ := hW
  obtain ⟨rfl, rfl⟩ := trodVars_none hV
  rw [Try.params4] at hA hval0
  obtain ⟨hcall, hds⟩ := walkD enc W base args ds p hval0 hA
  exact hcall.mono fun e W' ⟨he, hb⟩ => ⟨_, he, law_post hW' rfl (by rw [Try.params4]; exact readable) rfl hds hb⟩

theorem over : Rows.wireBackRow.holds Try.pinned (OpenSpec.ofChange Rows.wireBackSpec) :=
  OpenClaim.holds_of_wide 4 Try.f4 rfl rfl rfl rfl rfl rfl rfl ⟨rfl, rfl, rfl, rfl, rfl⟩ rfl rfl rfl rfl rfl (by kernel_rfl) Try.func4 (by kernel_rfl)
    (of_decide_eq_true (by kernel_rfl)) (by unfold Func.isWrapper; first | (rw [if_pos (by decide +kernel)]; kernel_rfl) | (rw [if_neg (by decide +kernel)]; exact ⟨rfl, rfl⟩))
    (fun os started H enc _ => lifted os started H enc)

theorem proved : Rows.WireBackSaid :=
  over
#print axioms proved
end Go.Proofs.Ytdhfpgkncglgoaa.wireBack
