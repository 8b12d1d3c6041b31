import Derived.Test.YtdhfpgkncglgoaaRef2
namespace Go.Proofs.Ytdhfpgkncglgoaa
open Go.RowKit Go.BigFrame
set_option linter.unusedVariables false

def bs (l : List UInt8) : ByteArray := ⟨l.toArray⟩
theorem bs_size (l : List UInt8) : (bs l).size = l.length := rfl
theorem bs_list (l : List UInt8) : (bs l).data.toList = l := rfl
def RRel (dst : ByteArray) (n : Int) (w : World) (d : Value) (u : Value) (wr : World) : Prop :=
  ∃ (v : Nat) (l : List UInt8), v < 18446744073709551616 ∧ u = .int .u64 v ∧ l.length + (enc v).length ≤ 10 ∧ d = .string (bs (dst.data.toList ++ l)) ∧ Below w.heap.size w wr ∧ l ++ enc v = enc (zig n)
theorem conv1 (w : World) (c : UInt8) :
    (convert 60 9 (.slice (some ⟨w.heap.size, 0, none⟩) 1 1)).run Try.prog (w.alloc (.cells #[.int .u8 (c.toNat : Int)] 5)) = .ok (.string (bs [c])) (w.alloc (.cells #[.int .u8 (c.toNat : Int)] 5)) := by
  refine run_convert_bytes_back _ 60 9 5 ⟨w.heap.size, 0, none⟩ 1 [c] Try.underlying60 Try.underlying5 Try.underlying9 (fun j hj => ?_)
  have : j = 0 := by simpa using hj
  subst this
  exact cells_new w [.int .u8 (c.toNat : Int)] 5 0 _ rfl
theorem byte_moreR (v : Nat) (hv : v < 18446744073709551616) (h : 128 ≤ v) :
    ∃ c : UInt8, (v : Int) % 128 + 128 = (c.toNat : Int) ∧ enc v = c :: enc (v / 128) := by
  refine ⟨UInt8.ofNat (v % 128 + 128), ?_, enc_ge (by omega)⟩
  simp; omega

set_option maxRecDepth 100000 in
set_option maxHeartbeats 400000 in
theorem rapp_any (dst : ByteArray) (n : Int) (w : World) (h1 : -9223372036854775808 ≤ n) (h2 : n ≤ 9223372036854775807) (hd : dst.size ≤ 1000000000000) :
    Calls Try.prog 12 #[.string dst, .int .i64 n] w (AppPost dst n w) := by
  have hz := zig_lt n h1 h2
  go_enter Try.func12, Try.ntmps12
  go_wp2_with (go_at_call 28; refine (zig_any n _ h1 h2).mono ?_; rintro e w' ⟨rfl, rfl⟩)
  go_loopw [0, 5] (fun d u wr => RRel dst n w d u wr) (fun _ u _ => (intOf u).toNat)
  case atStart => exact ⟨zig n, [], hz, rfl, by have := (enc_len10 _ hz).2; simpa using this, by simp [bs], Below.refl _ _, rfl⟩
  case round =>
    obtain ⟨v, l, hv, rfl, hlen, rfl, hb, heq⟩ := hrel
    have hl10 : l.length ≤ 10 := by omega
    have hsz : (bs (dst.data.toList ++ l)).size ≤ 1000000000010 := by rw [bs_size]; simp; omega
    have Heq := hid heq
    have Hlen := hid hlen
    clear heq hlen hz
    generalize hD : bs (dst.data.toList ++ l) = D at *
    have HD := hid hD
    clear hD
    by_cases hlt : 128 ≤ v
    · obtain ⟨c, hc1, hc2⟩ := byte_moreR v hv hlt
      have Hc := hid hc2
      clear hc2
      have hcv := conv1 wr c
      have hs1 : (bs [c]).size = 1 := rfl
      go_wp2
      go_roundw
      case rel =>
        refine ⟨v / 128, l ++ [c], by omega, by congr 1, ?_, ?_, hb.alloc hb.size _, ?_⟩
        · have := Hlen.out; rw [Hc.out] at this; simp at this ⊢; omega
        · rw [← HD.out]
          congr 1
          show bs _ ++ (⟨[c].toArray⟩ : ByteArray) = _
          rw [str_app, bs_list, List.append_assoc]; rfl
        · rw [List.append_assoc, ← Heq.out, Hc.out]; rfl
      case measure => simp [intOf]; omega
    · obtain ⟨c, hc1, hc2⟩ := byte_last v (by omega)
      have hc3 : (v : Int) = c.toNat := by unfold u8c at hc1; injection hc1
      have Hc := hid hc2
      clear hc2 hc1
      have hcv := conv1 wr c
      have hs1 : (bs [c]).size = 1 := rfl
      go_wp2
      go_ret
      refine ⟨?_, hb.alloc hb.size _⟩
      rw [← HD.out]
      show Ending.returned (.string (bs _ ++ (⟨[c].toArray⟩ : ByteArray))) = _
      rw [str_app, bs_list, List.append_assoc, ← Hc.out, Heq.out]

def AStrPost (dst s : ByteArray) (w : World) (e : Ending) (w' : World) : Prop :=
  e = .returned (.string (bs (dst.data.toList ++ enc (zig s.size) ++ s.data.toList))) ∧ Below w.heap.size w w'
theorem ba_app (a b : ByteArray) : a ++ b = bs (a.data.toList ++ b.data.toList) := by
  have : b = ⟨b.data.toList.toArray⟩ := by apply ByteArray.ext; simp
  conv => lhs; rw [this]
  exact str_app a _
theorem astr_fin {dst s : ByteArray} {w w' : World} (hb : Below w.heap.size w w') :
    AStrPost dst s w (.returned (.string (⟨(dst.data.toList ++ enc (zig s.size)).toArray⟩ ++ s))) w' := by
  refine ⟨?_, hb⟩
  rw [ba_app]
theorem enc_zig_len (n : Int) (h1 : -9223372036854775808 ≤ n) (h2 : n ≤ 9223372036854775807) : (enc (zig n)).length ≤ 10 := (enc_len10 _ (zig_lt n h1 h2)).2

set_option maxRecDepth 100000 in
set_option maxHeartbeats 400000 in
theorem astr_any (dst s : ByteArray) (w : World) (hd : dst.size ≤ 1000000000000) (hs : s.size ≤ 1000000000000) :
    Calls Try.prog 13 #[.string dst, .string s] w (AStrPost dst s w) := by
  have hl := enc_zig_len (s.size : Int) (by omega) (by omega)
  have hsz : (⟨(dst.data.toList ++ enc (zig s.size)).toArray⟩ : ByteArray).size ≤ 1000000000010 := by
    show (dst.data.toList ++ enc (zig s.size)).toArray.size ≤ _
    simp; omega
  have h := fun w => app_any dst s.size w (by omega) (by omega) hd
  unfold AppPost at h
  have hfin := fun w' hb => @astr_fin dst s w w' hb
  generalize (⟨(dst.data.toList ++ enc (zig s.size)).toArray⟩ : ByteArray) = D at *
  have H := hid h
  have Hf := hid hfin
  clear h hfin
  go_enter Try.func13, Try.ntmps13
  go_wp2_with fail
  refine (H.out _).mono ?_; rintro e w' ⟨rfl, hb⟩
  go_wp2_with fail
  go_ret
  exact Hf.out _ hb
set_option maxRecDepth 100000 in
set_option maxHeartbeats 400000 in
theorem rastr_any (dst s : ByteArray) (w : World) (hd : dst.size ≤ 1000000000000) (hs : s.size ≤ 1000000000000) :
    Calls Try.prog 14 #[.string dst, .string s] w (AStrPost dst s w) := by
  have hl := enc_zig_len (s.size : Int) (by omega) (by omega)
  have hsz : (⟨(dst.data.toList ++ enc (zig s.size)).toArray⟩ : ByteArray).size ≤ 1000000000010 := by
    show (dst.data.toList ++ enc (zig s.size)).toArray.size ≤ _
    simp; omega
  have h := fun w => rapp_any dst s.size w (by omega) (by omega) hd
  unfold AppPost at h
  have hfin := fun w' hb => @astr_fin dst s w w' hb
  generalize (⟨(dst.data.toList ++ enc (zig s.size)).toArray⟩ : ByteArray) = D at *
  have H := hid h
  have Hf := hid hfin
  clear h hfin
  go_enter Try.func14, Try.ntmps14
  go_wp2_with fail
  refine (H.out _).mono ?_; rintro e w' ⟨rfl, hb⟩
  go_wp2_with fail
  go_ret
  exact Hf.out _ hb

/-! awake -/
theorem aw1 (w : World) : Calls Try.prog 11 #[.string ⟨#[]⟩, .int .i64 (-3)] w fun e w' => e = .returned (.string ⟨#[5]⟩) ∧ Below w.heap.size w w' := by
  refine (app_any ⟨#[]⟩ (-3) w (by decide) (by decide) (by decide)).mono ?_
  rintro e w' ⟨rfl, hb⟩
  refine ⟨?_, hb⟩
  rw [show zig (-3) = 5 by decide, enc_lt (by decide)]
  rfl
theorem aw2 (w : World) : Calls Try.prog 13 #[.string ⟨#[5]⟩, .string ⟨#[97]⟩] w fun e w' => e = .returned (.string ⟨#[5, 2, 97]⟩) ∧ Below w.heap.size w w' := by
  refine (astr_any ⟨#[5]⟩ ⟨#[97]⟩ w (by decide) (by decide)).mono ?_
  rintro e w' ⟨rfl, hb⟩
  refine ⟨?_, hb⟩
  rw [show zig ((⟨#[97]⟩ : ByteArray).size : Int) = 2 by decide, enc_lt (by decide)]
  rfl
theorem Only.toBelow {b B : Nat} {w w' : World} (h : Only b w w') (hb : B ≤ b) : Below B w w' :=
  ⟨h.os, h.tape, h.output, Nat.le_of_eq h.size.symm, fun k hk => h.block k (by omega)⟩
theorem post_eq {b : Nat} {w : World} {v : Value} {s : ByteArray} {err : Int} {e : Ending} {w' : World} (h : Post b w v s err e w') : e = .returned v ∧ RD w' b s err true ∧ Only b w w' := h
theorem aw3 (b : Nat) (w : World) (h : RD w b ⟨#[5, 2, 97]⟩ 0 true) :
    Calls Try.prog 19 #[.pointer (some ⟨b, 0, none⟩)] w fun e w' => e = .returned (.int .i64 (-3)) ∧ RD w' b ⟨#[2, 97]⟩ 0 true ∧ Only b w w' := by
  have := number_ok b ⟨#[5, 2, 97]⟩ (by decide) w h
  rw [show numOf ⟨#[5, 2, 97]⟩ = (-3, ⟨#[2, 97]⟩, 0) by decide +kernel] at this
  exact this
theorem aw4 (b : Nat) (w : World) (h : RD w b ⟨#[2, 97]⟩ 0 true) :
    Calls Try.prog 18 #[.pointer (some ⟨b, 0, none⟩)] w fun e w' => e = .returned (.string ⟨#[97]⟩) ∧ RD w' b ⟨#[]⟩ 0 true ∧ Only b w w' := by
  have := string_ok b ⟨#[2, 97]⟩ (by decide) w h
  rw [show strOf ⟨#[2, 97]⟩ = (⟨#[97]⟩, ⟨#[]⟩, 0) by decide +kernel] at this
  exact this
theorem aw5 (b : Nat) (w : World) (h : RD w b ⟨#[]⟩ 0 true) :
    Calls Try.prog 19 #[.pointer (some ⟨b, 0, none⟩)] w fun e w' => e = .returned (.int .i64 0) ∧ RD w' b ⟨#[]⟩ 40 true ∧ Only b w w' := by
  have := number_ok b ⟨#[]⟩ (by decide) w h
  rw [show numOf ⟨#[]⟩ = (0, ⟨#[]⟩, 40) by decide +kernel] at this
  exact this
theorem aw6 (b : Nat) (w : World) (h : RD w b ⟨#[]⟩ 0 true) :
    Calls Try.prog 17 #[.pointer (some ⟨b, 0, none⟩)] w fun e w' => e = .returned (.int .i64 0) ∧ w = w' :=
  left_any b ⟨#[]⟩ 0 true (by decide) w h
set_option maxRecDepth 100000 in
set_option maxHeartbeats 1000000 in
theorem awake_any (w : World) : Calls Try.prog 10 #[] w fun e w' => e = .returned (.bool true) ∧ Below w.heap.size w w' := by
  go_enter Try.func10, Try.ntmps10
  go_wp2_with fail
  refine (aw1 _).mono ?_; rintro e w1 ⟨rfl, hb1⟩
  go_wp2_with fail
  refine (aw2 _).mono ?_; rintro e w2 ⟨rfl, hb2⟩
  go_wp2_with fail
  refine (new_any _ _).mono ?_; rintro e w3 ⟨rfl, hw3⟩
  have hB : Below w.heap.size w w2 := hb1.trans (hb2.mono hb1.size)
  have hB3 : Below w.heap.size w w3 := by rw [← hw3]; exact hB.alloc hB.size _
  have h3 : RD w3 w2.heap.size ⟨#[5, 2, 97]⟩ 0 true := by rw [← hw3]; exact heap_alloc_new w2 _
  have hsz := hB.size
  clear hw3 hb1 hb2 hB
  generalize w2.heap.size = b at *
  have H3 := hid h3
  clear h3
  go_wp2_with fail
  refine (aw3 _ _ H3.out).mono ?_; rintro e w4 ⟨rfl, h4, ho4⟩
  have H4 := hid h4
  have hB4 := hB3.trans (ho4.toBelow hsz)
  clear h4 ho4 hB3 H3
  go_wp2_with fail
  refine (aw4 _ _ H4.out).mono ?_; rintro e w5 ⟨rfl, h5, ho5⟩
  have H5 := hid h5
  have hB5 := hB4.trans (ho5.toBelow hsz)
  clear h5 ho5 hB4 H4
  go_wp2_with fail
  refine (aw6 _ _ H5.out).mono ?_; rintro e w6 ⟨rfl, rfl⟩
  go_wp2_with fail
  refine (err_any _ _ _ _ H5.out).mono ?_; rintro e w6 ⟨rfl, rfl⟩
  go_wp2_with fail
  refine (aw5 _ _ H5.out).mono ?_; rintro e w6 ⟨rfl, h6, ho6⟩
  have H6 := hid h6
  have hB6 := hB5.trans (ho6.toBelow hsz)
  clear h6 ho6 hB5 H5
  go_wp2_with fail
  refine (err_any _ _ _ _ H6.out).mono ?_; rintro e w7 ⟨rfl, rfl⟩
  go_wp2_with fail
  go_ret
  exact ⟨rfl, hB6⟩
end Go.Proofs.Ytdhfpgkncglgoaa
