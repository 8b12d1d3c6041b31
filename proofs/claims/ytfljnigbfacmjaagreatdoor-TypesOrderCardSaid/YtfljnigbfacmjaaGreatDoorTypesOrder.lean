/- The statement TypesOrder holds of the given program for every input. -/
import Derived.Test.YtfljnigbfacmjaaGreatDoorThree
import Derived.Test.YtfljnigbfacmjaaGreatDoorVChk
import Derived.Test.YtfljnigbfacmjaaGreatDoorFit
import Derived.Deep.DeepCutAuto
namespace Go.Proofs.YtfljnigbfacmjaaGreatDoor.typesOrder
open Go Go.ChangeShapes Go.WideShapes Go.ChangeAt Go.RowKit Go.Proofs.YtfljnigbfacmjaaGreatDoor.Steady
set_option linter.unusedVariables false

theorem k9 {N : Nat} {v0 v1 v2 v3 v4 v5 v6 v7 v8 : Value} {w W : World} (h : w.cell? ⟨N, 0, none⟩ = some v0 ∧ w.cell? ⟨N, 1, none⟩ = some v1 ∧ w.cell? ⟨N, 2, none⟩ = some v2 ∧ w.cell? ⟨N, 3, none⟩ = some v3 ∧ w.cell? ⟨N, 4, none⟩ = some v4 ∧ w.cell? ⟨N, 5, none⟩ = some v5 ∧ w.cell? ⟨N, 6, none⟩ = some v6 ∧ w.cell? ⟨N, 7, none⟩ = some v7 ∧ w.cell? ⟨N, 8, none⟩ = some v8) (hb : Below w.heap.size w W) :
    W.cell? ⟨N, 0, none⟩ = some v0 ∧ W.cell? ⟨N, 1, none⟩ = some v1 ∧ W.cell? ⟨N, 2, none⟩ = some v2 ∧ W.cell? ⟨N, 3, none⟩ = some v3 ∧ W.cell? ⟨N, 4, none⟩ = some v4 ∧ W.cell? ⟨N, 5, none⟩ = some v5 ∧ W.cell? ⟨N, 6, none⟩ = some v6 ∧ W.cell? ⟨N, 7, none⟩ = some v7 ∧ W.cell? ⟨N, 8, none⟩ = some v8 :=
  ⟨bcell hb h.1, bcell hb h.2.1, bcell hb h.2.2.1, bcell hb h.2.2.2.1, bcell hb h.2.2.2.2.1, bcell hb h.2.2.2.2.2.1, bcell hb h.2.2.2.2.2.2.1, bcell hb h.2.2.2.2.2.2.2.1, bcell hb h.2.2.2.2.2.2.2.2⟩
theorem bal {B : Nat} {a w : World} (h : Below B a w) (hB : B ≤ a.heap.size) (o : Obj) : Below B a (w.alloc o) := h.alloc (Nat.le_trans hB h.size) o
theorem bset {B b i : Nat} {a w : World} {v : Value} (h : Below B a w) (hb : B ≤ b) (hB : B ≤ a.heap.size) : Below B a (w.setCell ⟨b, i, none⟩ v) := h.trans (chg_below (B := fun k => k = b) (Chg.setCell _ _ _ _ rfl) (fun k hk => by rw [hk]; exact hb) (Nat.le_trans hB h.size))
theorem three3 (w : World) (o1 o2 o3 : Obj) : Below w.heap.size w (((w.alloc o1).alloc o2).alloc o3) ∧ (((w.alloc o1).alloc o2).alloc o3).heap[w.heap.size]? = some o1 ∧ (((w.alloc o1).alloc o2).alloc o3).heap[w.heap.size + 1]? = some o2 ∧ (((w.alloc o1).alloc o2).alloc o3).heap[w.heap.size + 1 + 1]? = some o3 := by
  have h1 := heap_alloc_at w o1
  have s1 : (w.alloc o1).heap.size = w.heap.size + 1 := by simp
  have b1 : Below w.heap.size w (w.alloc o1) := (Below.refl _ _).alloc (Nat.le_refl _) _
  generalize w.alloc o1 = w1 at *
  have h2 := heap_alloc_at w1 o2
  have s2 : (w1.alloc o2).heap.size = w.heap.size + 1 + 1 := by simp [s1]
  have b2 : Below w1.heap.size w1 (w1.alloc o2) := (Below.refl _ _).alloc (Nat.le_refl _) _
  rw [s1] at h2
  generalize w1.alloc o2 = w2 at *
  have h3 := heap_alloc_at w2 o3
  have b3 : Below w2.heap.size w2 (w2.alloc o3) := (Below.refl _ _).alloc (Nat.le_refl _) _
  rw [s2] at h3
  exact ⟨b1.trans ((b2.trans (b3.mono b2.size)).mono b1.size), (b3.block _ (by omega)).trans ((b2.block _ (by omega)).trans h1), (b3.block _ (by omega)).trans h2, h3⟩
set_option maxRecDepth 100000 in
set_option maxHeartbeats 4000000 in
theorem walk (w : World) (x : Value) (tA tB tC : Ty) (hx : XV w x tA tB tC) (v : Value) (tv : Vl) (hv : VV (fun _ => True) w v tv) : Calls Tryz.prog 5 #[x, v] w (Ret (.bool true) w) := by
  obtain ⟨_, _, _, _, _, _, _, _, _, rfl, hA, hB, hC⟩ := hx
  obtain ⟨kA, eA, nA⟩ := tA
  obtain ⟨veA, vnA, qA, hEA, hNA⟩ := hA.out
  cases qA
  obtain ⟨oeA, ceA, rfl⟩ := hEA.len
  obtain ⟨onA, cnA, rfl⟩ := hNA.len
  obtain ⟨kB, eB, nB⟩ := tB
  obtain ⟨veB, vnB, qB, hEB, hNB⟩ := hB.out
  cases qB
  obtain ⟨oeB, ceB, rfl⟩ := hEB.len
  obtain ⟨onB, cnB, rfl⟩ := hNB.len
  obtain ⟨kC, eC, nC⟩ := tC
  obtain ⟨veC, vnC, qC, hEC, hNC⟩ := hC.out
  cases qC
  obtain ⟨oeC, ceC, rfl⟩ := hEC.len
  obtain ⟨onC, cnC, rfl⟩ := hNC.len
  obtain ⟨k, n, s, is, ks⟩ := tv
  obtain ⟨vi, vk, rfl, hI, hK, hss⟩ := hv.out
  obtain ⟨oi, ci, rfl⟩ := hI.len
  obtain ⟨ok, ck, rfl⟩ := hK.len
  have hb1 : Below w.heap.size w (w.alloc (.cells #[.int .i64 kA, .slice oeA eA.length ceA, .slice onA nA.length cnA, .int .i64 kB, .slice oeB eB.length ceB, .slice onB nB.length cnB, .int .i64 kC, .slice oeC eC.length ceC, .slice onC nC.length cnC] 40)) := (Below.refl _ _).alloc (Nat.le_refl _) _
  have ho1 := heap_alloc_at w (.cells #[.int .i64 kA, .slice oeA eA.length ceA, .slice onA nA.length cnA, .int .i64 kB, .slice oeB eB.length ceB, .slice onB nB.length cnB, .int .i64 kC, .slice oeC eC.length ceC, .slice onC nC.length cnC] 40)
  have hs1 : (w.alloc (.cells #[.int .i64 kA, .slice oeA eA.length ceA, .slice onA nA.length cnA, .int .i64 kB, .slice oeB eB.length ceB, .slice onB nB.length cnB, .int .i64 kC, .slice oeC eC.length ceC, .slice onC nC.length cnC] 40)).heap.size = w.heap.size + 1 := by simp
  generalize hW1 : w.alloc (.cells #[.int .i64 kA, .slice oeA eA.length ceA, .slice onA nA.length cnA, .int .i64 kB, .slice oeB eB.length ceB, .slice onB nB.length cnB, .int .i64 kC, .slice oeC eC.length ceC, .slice onC nC.length cnC] 40) = W1 at *
  have hb2 : Below W1.heap.size W1 (W1.alloc (.cells #[.int .i64 k, .int .i64 n, .string s, .slice oi is.length ci, .slice ok ks.length ck] 26)) := (Below.refl _ _).alloc (Nat.le_refl _) _
  have ho2 := heap_alloc_at W1 (.cells #[.int .i64 k, .int .i64 n, .string s, .slice oi is.length ci, .slice ok ks.length ck] 26)
  have hs2 : (W1.alloc (.cells #[.int .i64 k, .int .i64 n, .string s, .slice oi is.length ci, .slice ok ks.length ck] 26)).heap.size = w.heap.size + 2 := by simp [hs1]
  rw [hs1] at ho2
  generalize hW2 : W1.alloc (.cells #[.int .i64 k, .int .i64 n, .string s, .slice oi is.length ci, .slice ok ks.length ck] 26) = W2 at *
  have ho1 := keep_obj ho1 hb2
  have HB := hid (hb1.trans (hb2.mono hb1.size))
  have HOV := hid ho2
  have HS2 := hid hs2
  have HA := hid hA
  have HBt := hid hB
  have HC := hid hC
  have HV := hid hv
  have HW1 := hid hW1
  have HW2 := hid hW2
  have x0 := (cells_in ho1 0).trans rfl
  have x1 := (cells_in ho1 1).trans rfl
  have x2 := (cells_in ho1 2).trans rfl
  have x3 := (cells_in ho1 3).trans rfl
  have x4 := (cells_in ho1 4).trans rfl
  have x5 := (cells_in ho1 5).trans rfl
  have x6 := (cells_in ho1 6).trans rfl
  have x7 := (cells_in ho1 7).trans rfl
  have x8 := (cells_in ho1 8).trans rfl
  clear hA hB hC hv hI hK hss hEA hNA hEB hNB hEC hNC hb1 hb2 ho1 ho2 hs1 hs2 hW1 hW2
  go_enter Tryz.func5, Tryz.ntmps5
  go_upto_region 1 with (fail)
  rw [HW1.out, HW2.out]
  have hne1 : ¬ W2.heap.size = w.heap.size := by have := HS2.out; omega
  have hne2 : ¬ W2.heap.size + 1 = w.heap.size := by have := HS2.out; omega
  have hne3 : ¬ W2.heap.size + 1 + 1 = w.heap.size := by have := HS2.out; omega
  go_cut [5, 6, 7] (fun a b c wx => ∃ bA bB bC : Nat, a = .pointer (some ⟨bA, 0, none⟩) ∧ b = .pointer (some ⟨bB, 0, none⟩) ∧ c = .pointer (some ⟨bC, 0, none⟩) ∧ Hid (Below W2.heap.size W2 wx) ∧
    Hid (wx.heap[bA]? = some (.cells #[.int .i64 kA, .slice oeA eA.length ceA, .slice onA nA.length cnA] 30)) ∧ Hid (wx.heap[bB]? = some (.cells #[.int .i64 kB, .slice oeB eB.length ceB, .slice onB nB.length cnB] 30)) ∧ Hid (wx.heap[bC]? = some (.cells #[.int .i64 kC, .slice oeC eC.length ceC, .slice onC nC.length cnC] 30)))
  case first =>
    have TABC := hid (three3 W2 (.cells #[.int .i64 kA, .slice oeA eA.length ceA, .slice onA nA.length cnA] 30) (.cells #[.int .i64 kB, .slice oeB eB.length ceB, .slice onB nB.length cnB] 30) (.cells #[.int .i64 kC, .slice oeC eC.length ceC, .slice onC nC.length cnC] 30))
    have TACB := hid (three3 W2 (.cells #[.int .i64 kA, .slice oeA eA.length ceA, .slice onA nA.length cnA] 30) (.cells #[.int .i64 kC, .slice oeC eC.length ceC, .slice onC nC.length cnC] 30) (.cells #[.int .i64 kB, .slice oeB eB.length ceB, .slice onB nB.length cnB] 30))
    have TBAC := hid (three3 W2 (.cells #[.int .i64 kB, .slice oeB eB.length ceB, .slice onB nB.length cnB] 30) (.cells #[.int .i64 kA, .slice oeA eA.length ceA, .slice onA nA.length cnA] 30) (.cells #[.int .i64 kC, .slice oeC eC.length ceC, .slice onC nC.length cnC] 30))
    have TBCA := hid (three3 W2 (.cells #[.int .i64 kB, .slice oeB eB.length ceB, .slice onB nB.length cnB] 30) (.cells #[.int .i64 kC, .slice oeC eC.length ceC, .slice onC nC.length cnC] 30) (.cells #[.int .i64 kA, .slice oeA eA.length ceA, .slice onA nA.length cnA] 30))
    have TCAB := hid (three3 W2 (.cells #[.int .i64 kC, .slice oeC eC.length ceC, .slice onC nC.length cnC] 30) (.cells #[.int .i64 kA, .slice oeA eA.length ceA, .slice onA nA.length cnA] 30) (.cells #[.int .i64 kB, .slice oeB eB.length ceB, .slice onB nB.length cnB] 30))
    have TCBA := hid (three3 W2 (.cells #[.int .i64 kC, .slice oeC eC.length ceC, .slice onC nC.length cnC] 30) (.cells #[.int .i64 kB, .slice oeB eB.length ceB, .slice onB nB.length cnB] 30) (.cells #[.int .i64 kA, .slice oeA eA.length ceA, .slice onA nA.length cnA] 30))
    go_region_held3 (fun v => v.cell? ⟨w.heap.size, 0, none⟩ = some (.int .i64 kA) ∧ v.cell? ⟨w.heap.size, 1, none⟩ = some (.slice oeA eA.length ceA) ∧ v.cell? ⟨w.heap.size, 2, none⟩ = some (.slice onA nA.length cnA) ∧ v.cell? ⟨w.heap.size, 3, none⟩ = some (.int .i64 kB) ∧ v.cell? ⟨w.heap.size, 4, none⟩ = some (.slice oeB eB.length ceB) ∧ v.cell? ⟨w.heap.size, 5, none⟩ = some (.slice onB nB.length cnB) ∧ v.cell? ⟨w.heap.size, 6, none⟩ = some (.int .i64 kC) ∧ v.cell? ⟨w.heap.size, 7, none⟩ = some (.slice oeC eC.length ceC) ∧ v.cell? ⟨w.heap.size, 8, none⟩ = some (.slice onC nC.length cnC)) (exact k9 (w := W2) ⟨x0, x1, x2, x3, x4, x5, x6, x7, x8⟩ (by repeat (first | exact Below.refl _ _ | refine below_drew ?_ | refine store3_below ?_ (by omega) (Nat.le_refl _) _ _ _ | refine bal ?_ (Nat.le_refl _) _))) (first | (fail))
    all_goals
      go_wp2_with fail
      go_meet
      first
        | exact ⟨_, _, _, rfl, rfl, rfl, hid (by first | exact TABC.out.1 | exact below_drew TABC.out.1), hid TABC.out.2.1, hid TABC.out.2.2.1, hid TABC.out.2.2.2⟩
        | exact ⟨_, _, _, rfl, rfl, rfl, hid (by first | exact TACB.out.1 | exact below_drew TACB.out.1), hid TACB.out.2.1, hid TACB.out.2.2.2, hid TACB.out.2.2.1⟩
        | exact ⟨_, _, _, rfl, rfl, rfl, hid (by first | exact TBAC.out.1 | exact below_drew TBAC.out.1), hid TBAC.out.2.2.1, hid TBAC.out.2.1, hid TBAC.out.2.2.2⟩
        | exact ⟨_, _, _, rfl, rfl, rfl, hid (by first | exact TBCA.out.1 | exact below_drew TBCA.out.1), hid TBCA.out.2.2.2, hid TBCA.out.2.1, hid TBCA.out.2.2.1⟩
        | exact ⟨_, _, _, rfl, rfl, rfl, hid (by first | exact TCAB.out.1 | exact below_drew TCAB.out.1), hid TCAB.out.2.2.1, hid TCAB.out.2.2.2, hid TCAB.out.2.1⟩
        | exact ⟨_, _, _, rfl, rfl, rfl, hid (by first | exact TCBA.out.1 | exact below_drew TCBA.out.1), hid TCBA.out.2.2.2, hid TCBA.out.2.2.1, hid TCBA.out.2.1⟩
  case rest =>
    obtain ⟨bA, bB, bC, rfl, rfl, rfl, HWX, HOA, HOB, HOC⟩ := hcut
    clear x0 x1 x2 x3 x4 x5 x6 x7 x8 hne1 hne2 hne3 HW1 HW2
    replace HB := hid (HB.out.trans (HWX.out.mono HB.out.size))
    replace HOV := hid (keep_obj HOV.out HWX.out)
    clear HWX HS2
    have a0 := (cells_in HOA.out 0).trans rfl
    have a1 := (cells_in HOA.out 1).trans rfl
    have a2 := (cells_in HOA.out 2).trans rfl
    have b0 := (cells_in HOB.out 0).trans rfl
    have b1 := (cells_in HOB.out 1).trans rfl
    have b2 := (cells_in HOB.out 2).trans rfl
    have c0 := (cells_in HOC.out 0).trans rfl
    have c1 := (cells_in HOC.out 1).trans rfl
    have c2 := (cells_in HOC.out 2).trans rfl
    go_wp2_with fail
    clear a0 a1 a2 b0 b1 b2 c0 c1 c2
    have hb : Below wc.heap.size wc (wc.alloc (.cells #[.int .i64 kA, .slice oeA eA.length ceA, .slice onA nA.length cnA, .int .i64 kB, .slice oeB eB.length ceB, .slice onB nB.length cnB, .int .i64 kC, .slice oeC eC.length ceC, .slice onC nC.length cnC] 30)) := (Below.refl _ _).alloc (Nat.le_refl _) _
    have ho3 := heap_alloc_at wc (.cells #[.int .i64 kA, .slice oeA eA.length ceA, .slice onA nA.length cnA, .int .i64 kB, .slice oeB eB.length ceB, .slice onB nB.length cnB, .int .i64 kC, .slice oeC eC.length ceC, .slice onC nC.length cnC] 30)
    generalize wc.alloc (.cells #[.int .i64 kA, .slice oeA eA.length ceA, .slice onA nA.length cnA, .int .i64 kB, .slice oeB eB.length ceB, .slice onB nB.length cnB, .int .i64 kC, .slice oeC eC.length ceC, .slice onC nC.length cnC] 30) = W3 at *
    replace HOA := hid (keep_obj HOA.out hb)
    replace HOB := hid (keep_obj HOB.out hb)
    replace HOC := hid (keep_obj HOC.out hb)
    replace HOV := hid (keep_obj HOV.out hb)
    replace HB := hid (HB.out.trans (hb.mono HB.out.size))
    clear hb
    have HVA := hid (valid_any _ W3 _ _ (three_types ho3 (HA.out.bel HB.out) (HBt.out.bel HB.out) (HC.out.bel HB.out)))
    clear ho3
    cases hv : [Ty.mk kA eA nA, Ty.mk kB eB nB, Ty.mk kC eC nC].all validB with
    | false =>
      rw [hv] at HVA
      clear hv
      refine HVA.out.mono ?_
      rintro e w3 ⟨rfl, hb⟩
      replace HOA := hid (keep_obj HOA.out hb)
      replace HOB := hid (keep_obj HOB.out hb)
      replace HOC := hid (keep_obj HOC.out hb)
      replace HOV := hid (keep_obj HOV.out hb)
      replace HB := hid (HB.out.trans (hb.mono HB.out.size))
      clear hb
      go_wp2_with fail
      refine (awake_any w3).mono ?_
      rintro e wz ⟨rfl, hb⟩
      have HBZ := hid (HB.out.trans (hb.mono HB.out.size))
      clear hb
      go_wp2_with fail
      go_ret
      exact ⟨rfl, HBZ.out⟩
    | true =>
    rw [hv] at HVA
    have hv' : validB (.mk kA eA nA) = true ∧ validB (.mk kB eB nB) = true ∧ validB (.mk kC eC nC) = true := by simpa using hv
    have HZA := hid (valid_facts hv'.1)
    have HZB := hid (valid_facts hv'.2.1)
    clear hv hv'
    refine HVA.out.mono ?_
    rintro e w3 ⟨rfl, hb⟩
    replace HOA := hid (keep_obj HOA.out hb)
    replace HOB := hid (keep_obj HOB.out hb)
    replace HOC := hid (keep_obj HOC.out hb)
    replace HOV := hid (keep_obj HOV.out hb)
    replace HB := hid (HB.out.trans (hb.mono HB.out.size))
    clear hb
    clear HVA
    have v0 := (cells_in HOV.out 0).trans rfl
    have v1 := (cells_in HOV.out 1).trans rfl
    have v2 := (cells_in HOV.out 2).trans rfl
    have v3 := (cells_in HOV.out 3).trans rfl
    have v4 := (cells_in HOV.out 4).trans rfl
    have HVL := hid (value_any _ w3 _ _ (HV.out.bel HB.out))
    go_wp2_with fail
    clear v0 v1 v2 v3 v4
    refine HVL.out.mono ?_
    rintro e w4 ⟨b, rfl, -, hb⟩
    replace HOA := hid (keep_obj HOA.out hb)
    replace HOB := hid (keep_obj HOB.out hb)
    replace HOC := hid (keep_obj HOC.out hb)
    replace HOV := hid (keep_obj HOV.out hb)
    replace HB := hid (HB.out.trans (hb.mono HB.out.size))
    clear hb
    clear HVL
    cases b with
    | false =>
      go_wp2_with fail
      refine (awake_any w4).mono ?_
      rintro e wz ⟨rfl, hb⟩
      have HBZ := hid (HB.out.trans (hb.mono HB.out.size))
      clear hb
      go_wp2_with fail
      go_ret
      exact ⟨rfl, HBZ.out⟩
    | true =>
    obtain ⟨ab, hab⟩ : ∃ ab, inclT (.mk kA eA nA) (.mk kB eB nB) = ab := ⟨_, rfl⟩
    obtain ⟨bc, hbc⟩ : ∃ bc, inclT (.mk kB eB nB) (.mk kC eC nC) = bc := ⟨_, rfl⟩
    have HAB := hid hab
    have HBC := hid hbc
    clear hab hbc
    go_upto_region 4 with (fail)
    have hb : Below w4.heap.size w4 w4.drew := below_drew (Below.refl _ _)
    have a0 := (cells_in HOA.out 0).trans rfl
    have a1 := (cells_in HOA.out 1).trans rfl
    have a2 := (cells_in HOA.out 2).trans rfl
    have b0 := (cells_in HOB.out 0).trans rfl
    have b1 := (cells_in HOB.out 1).trans rfl
    have b2 := (cells_in HOB.out 2).trans rfl
    have c0 := (cells_in HOC.out 0).trans rfl
    have c1 := (cells_in HOC.out 1).trans rfl
    have c2 := (cells_in HOC.out 2).trans rfl
    have HOA4 := HOA
    replace HOA := hid (keep_obj HOA.out hb)
    replace HOB := hid (keep_obj HOB.out hb)
    replace HOC := hid (keep_obj HOC.out hb)
    replace HOV := hid (keep_obj HOV.out hb)
    replace HB := hid (HB.out.trans (hb.mono HB.out.size))
    clear hb
    have HC1 := hid (incl_any (.mk kA eA nA) (.mk kB eB nB) _ _ w4.drew _ _ (HA.out.bel HB.out) (HBt.out.bel HB.out))
    rw [HAB.out] at HC1
    refine wp_region_steady (fun v => v.cell? ⟨bA, 0, none⟩ = some (.int .i64 kA) ∧ v.cell? ⟨bA, 1, none⟩ = some (.slice oeA eA.length ceA) ∧ v.cell? ⟨bA, 2, none⟩ = some (.slice onA nA.length cnA) ∧ v.cell? ⟨bB, 0, none⟩ = some (.int .i64 kB) ∧ v.cell? ⟨bB, 1, none⟩ = some (.slice oeB eB.length ceB) ∧ v.cell? ⟨bB, 2, none⟩ = some (.slice onB nB.length cnB) ∧ v.cell? ⟨bC, 0, none⟩ = some (.int .i64 kC) ∧ v.cell? ⟨bC, 1, none⟩ = some (.slice oeC eC.length ceC) ∧ v.cell? ⟨bC, 2, none⟩ = some (.slice onC nC.length cnC)) (by kernel_rfl) (by kernel_rfl) (⟨a0, a1, a2, b0, b1, b2, c0, c1, c2⟩) ?_
    repeat (first
      | (refine wpSteady_skip (by rfl) ?_; try simp only [Act.put, List.setIfInBounds_toArray, List.set_cons_zero, List.set_cons_succ])
      | (refine wpSteady_calm (v := ?_) (by rfl) ?_ ?_; rotate_left; (focus (intro v hSv; (try dsimp only at hSv); go_simp; (try with_reducible rfl); done)); try simp only [Act.put, List.setIfInBounds_toArray, List.set_cons_zero, List.set_cons_succ]))
    refine wpSteady_loud rfl (by rfl) (fun K hK => ?_)
    go_simp
    refine HC1.out.mono ?_
    rintro e w5 ⟨rfl, hb⟩
    replace a0 := bcell (W := w4.drew) hb a0
    replace a1 := bcell (W := w4.drew) hb a1
    replace a2 := bcell (W := w4.drew) hb a2
    replace b0 := bcell (W := w4.drew) hb b0
    replace b1 := bcell (W := w4.drew) hb b1
    replace b2 := bcell (W := w4.drew) hb b2
    replace c0 := bcell (W := w4.drew) hb c0
    replace c1 := bcell (W := w4.drew) hb c1
    replace c2 := bcell (W := w4.drew) hb c2
    replace HOA := hid (keep_obj HOA.out hb)
    replace HOB := hid (keep_obj HOB.out hb)
    replace HOC := hid (keep_obj HOC.out hb)
    replace HOV := hid (keep_obj HOV.out hb)
    replace HB := hid (HB.out.trans (hb.mono HB.out.size))
    clear hb
    refine hK.out _ _ (⟨a0, a1, a2, b0, b1, b2, c0, c1, c2⟩) ?_
    clear hK K
    try simp only [Act.put, List.setIfInBounds_toArray, List.set_cons_zero, List.set_cons_succ]
    repeat (first
      | (refine wpSteady_skip (by rfl) ?_; try simp only [Act.put, List.setIfInBounds_toArray, List.set_cons_zero, List.set_cons_succ])
      | (refine wpSteady_calm (v := ?_) (by rfl) ?_ ?_; rotate_left; (focus (intro v hSv; (try dsimp only at hSv); go_simp; (try with_reducible rfl); done)); try simp only [Act.put, List.setIfInBounds_toArray, List.set_cons_zero, List.set_cons_succ]))
    refine wpSteady_loud rfl (by rfl) (fun K hK => ?_)
    go_simp
    have HC2 := hid (incl_any (.mk kB eB nB) (.mk kC eC nC) _ _ w5 _ _ (HBt.out.bel HB.out) (HC.out.bel HB.out))
    rw [HBC.out] at HC2
    refine HC2.out.mono ?_
    rintro e w6 ⟨rfl, hb⟩
    replace a0 := bcell (W := w5) hb a0
    replace a1 := bcell (W := w5) hb a1
    replace a2 := bcell (W := w5) hb a2
    replace b0 := bcell (W := w5) hb b0
    replace b1 := bcell (W := w5) hb b1
    replace b2 := bcell (W := w5) hb b2
    replace c0 := bcell (W := w5) hb c0
    replace c1 := bcell (W := w5) hb c1
    replace c2 := bcell (W := w5) hb c2
    replace HOA := hid (keep_obj HOA.out hb)
    replace HOB := hid (keep_obj HOB.out hb)
    replace HOC := hid (keep_obj HOC.out hb)
    replace HOV := hid (keep_obj HOV.out hb)
    replace HB := hid (HB.out.trans (hb.mono HB.out.size))
    clear hb
    refine hK.out _ _ (⟨a0, a1, a2, b0, b1, b2, c0, c1, c2⟩) ?_
    clear hK K
    try simp only [Act.put, List.setIfInBounds_toArray, List.set_cons_zero, List.set_cons_succ]
    repeat (first
      | (refine wpSteady_skip (by rfl) ?_; try simp only [Act.put, List.setIfInBounds_toArray, List.set_cons_zero, List.set_cons_succ])
      | (refine wpSteady_calm (v := ?_) (by rfl) ?_ ?_; rotate_left; (focus (intro v hSv; (try dsimp only at hSv); go_simp; (try with_reducible rfl); done)); try simp only [Act.put, List.setIfInBounds_toArray, List.set_cons_zero, List.set_cons_succ]))
    refine wpSteady_nil ?_
    clear HC1 HC2 HOA4
    clear a0 a1 a2 b0 b1 b2 c0 c1 c2
    go_upto_region 5 with (fail)
    go_cut [64] (fun b wx => b = .bool false ∧ Hid (Below w.heap.size w wx) ∧ Hid (wx.heap[bA]? = some (.cells #[.int .i64 kA, .slice oeA eA.length ceA, .slice onA nA.length cnA] 30)) ∧ Hid (wx.heap[bB]? = some (.cells #[.int .i64 kB, .slice oeB eB.length ceB, .slice onB nB.length cnB] 30)) ∧ Hid (wx.heap[bC]? = some (.cells #[.int .i64 kC, .slice oeC eC.length ceC, .slice onC nC.length cnC] 30)) ∧ Hid (wx.heap[w.heap.size + 1]? = some (.cells #[.int .i64 k, .int .i64 n, .string s, .slice oi is.length ci, .slice ok ks.length ck] 26)))
    case first =>
      have HI := hid (incl_any (.mk kA eA nA) (.mk kA eA nA) _ _ w6 _ _ (HA.out.bel HB.out) (HA.out.bel HB.out))
      rw [inclT_refl] at HI
      have a0 := (cells_in HOA.out 0).trans rfl
      have a1 := (cells_in HOA.out 1).trans rfl
      have a2 := (cells_in HOA.out 2).trans rfl
      have b0 := (cells_in HOB.out 0).trans rfl
      have b1 := (cells_in HOB.out 1).trans rfl
      have b2 := (cells_in HOB.out 2).trans rfl
      have c0 := (cells_in HOC.out 0).trans rfl
      have c1 := (cells_in HOC.out 1).trans rfl
      have c2 := (cells_in HOC.out 2).trans rfl
      cases ab with
      | false =>
        go_wp2_with fail
        clear a0 a1 a2 b0 b1 b2 c0 c1 c2
        refine HI.out.mono ?_
        rintro e w7 ⟨rfl, hb⟩
        replace HOA := hid (keep_obj HOA.out hb)
        replace HOB := hid (keep_obj HOB.out hb)
        replace HOC := hid (keep_obj HOC.out hb)
        replace HOV := hid (keep_obj HOV.out hb)
        replace HB := hid (HB.out.trans (hb.mono HB.out.size))
        clear hb
        clear HI
        go_wp2_with fail
        go_meet
        exact ⟨rfl, HB, HOA, HOB, HOC, HOV⟩
      | true =>
        cases bc with
        | false =>
          go_wp2_with fail
          clear a0 a1 a2 b0 b1 b2 c0 c1 c2
          refine HI.out.mono ?_
          rintro e w7 ⟨rfl, hb⟩
          replace HOA := hid (keep_obj HOA.out hb)
          replace HOB := hid (keep_obj HOB.out hb)
          replace HOC := hid (keep_obj HOC.out hb)
          replace HOV := hid (keep_obj HOV.out hb)
          replace HB := hid (HB.out.trans (hb.mono HB.out.size))
          clear hb
          clear HI
          have HI := hid (incl_any (.mk kB eB nB) (.mk kA eA nA) _ _ w7 _ _ (HBt.out.bel HB.out) (HA.out.bel HB.out))
          have a0 := (cells_in HOA.out 0).trans rfl
          have a1 := (cells_in HOA.out 1).trans rfl
          have a2 := (cells_in HOA.out 2).trans rfl
          have b0 := (cells_in HOB.out 0).trans rfl
          have b1 := (cells_in HOB.out 1).trans rfl
          have b2 := (cells_in HOB.out 2).trans rfl
          have c0 := (cells_in HOC.out 0).trans rfl
          have c1 := (cells_in HOC.out 1).trans rfl
          have c2 := (cells_in HOC.out 2).trans rfl
          cases hba : inclT (.mk kB eB nB) (.mk kA eA nA) with
          | false =>
            rw [hba] at HI
            clear hba
            go_wp2_with fail
            clear a0 a1 a2 b0 b1 b2 c0 c1 c2
            refine HI.out.mono ?_
            rintro e wy ⟨rfl, hb⟩
            replace HOA := hid (keep_obj HOA.out hb)
            replace HOB := hid (keep_obj HOB.out hb)
            replace HOC := hid (keep_obj HOC.out hb)
            replace HOV := hid (keep_obj HOV.out hb)
            replace HB := hid (HB.out.trans (hb.mono HB.out.size))
            clear hb
            go_wp2_with fail
            go_meet
            exact ⟨rfl, HB, HOA, HOB, HOC, HOV⟩
          | true =>
            have HE := hid ((eqT_iff _ _).2 (inclT_antisymm (.mk kA eA nA) (.mk kB eB nB) 1 1 HZA.out.2.2.1 HZB.out.2.2.1 HAB.out hba))
            rw [hba] at HI
            clear hba
            go_wp2_with fail
            clear a0 a1 a2 b0 b1 b2 c0 c1 c2
            refine HI.out.mono ?_
            rintro e wy ⟨rfl, hb⟩
            replace HOA := hid (keep_obj HOA.out hb)
            replace HOB := hid (keep_obj HOB.out hb)
            replace HOC := hid (keep_obj HOC.out hb)
            replace HOV := hid (keep_obj HOV.out hb)
            replace HB := hid (HB.out.trans (hb.mono HB.out.size))
            clear hb
            clear HI
            have HI := hid (equal_any (.mk kA eA nA) (.mk kB eB nB) _ _ wy _ _ (HA.out.bel HB.out) (HBt.out.bel HB.out))
            rw [HE.out] at HI
            have a0 := (cells_in HOA.out 0).trans rfl
            have a1 := (cells_in HOA.out 1).trans rfl
            have a2 := (cells_in HOA.out 2).trans rfl
            have b0 := (cells_in HOB.out 0).trans rfl
            have b1 := (cells_in HOB.out 1).trans rfl
            have b2 := (cells_in HOB.out 2).trans rfl
            have c0 := (cells_in HOC.out 0).trans rfl
            have c1 := (cells_in HOC.out 1).trans rfl
            have c2 := (cells_in HOC.out 2).trans rfl
            go_wp2_with fail
            clear a0 a1 a2 b0 b1 b2 c0 c1 c2
            refine HI.out.mono ?_
            rintro e wz ⟨rfl, hb⟩
            replace HOA := hid (keep_obj HOA.out hb)
            replace HOB := hid (keep_obj HOB.out hb)
            replace HOC := hid (keep_obj HOC.out hb)
            replace HOV := hid (keep_obj HOV.out hb)
            replace HB := hid (HB.out.trans (hb.mono HB.out.size))
            clear hb
            go_wp2_with fail
            go_meet
            exact ⟨rfl, HB, HOA, HOB, HOC, HOV⟩
        | true =>
          have HI2 := hid (fun W hB => incl_any (.mk kA eA nA) (.mk kC eC nC) _ _ W _ _ (HA.out.bel (w' := W) hB) (HC.out.bel hB))
          have hac := inclT_trans _ _ _ HAB.out HBC.out
          rw [hac] at HI2
          clear hac
          go_wp2_with fail
          clear a0 a1 a2 b0 b1 b2 c0 c1 c2
          refine HI.out.mono ?_
          rintro e w7 ⟨rfl, hb⟩
          replace HOA := hid (keep_obj HOA.out hb)
          replace HOB := hid (keep_obj HOB.out hb)
          replace HOC := hid (keep_obj HOC.out hb)
          replace HOV := hid (keep_obj HOV.out hb)
          replace HB := hid (HB.out.trans (hb.mono HB.out.size))
          clear hb
          clear HI
          have a0 := (cells_in HOA.out 0).trans rfl
          have a1 := (cells_in HOA.out 1).trans rfl
          have a2 := (cells_in HOA.out 2).trans rfl
          have b0 := (cells_in HOB.out 0).trans rfl
          have b1 := (cells_in HOB.out 1).trans rfl
          have b2 := (cells_in HOB.out 2).trans rfl
          have c0 := (cells_in HOC.out 0).trans rfl
          have c1 := (cells_in HOC.out 1).trans rfl
          have c2 := (cells_in HOC.out 2).trans rfl
          go_wp2_with fail
          clear a0 a1 a2 b0 b1 b2 c0 c1 c2
          refine (HI2.out w7 HB.out).mono ?_
          rintro e w8 ⟨rfl, hb⟩
          replace HOA := hid (keep_obj HOA.out hb)
          replace HOB := hid (keep_obj HOB.out hb)
          replace HOC := hid (keep_obj HOC.out hb)
          replace HOV := hid (keep_obj HOV.out hb)
          replace HB := hid (HB.out.trans (hb.mono HB.out.size))
          clear hb
          clear HI2
          have HI := hid (incl_any (.mk kB eB nB) (.mk kA eA nA) _ _ w8 _ _ (HBt.out.bel HB.out) (HA.out.bel HB.out))
          have a0 := (cells_in HOA.out 0).trans rfl
          have a1 := (cells_in HOA.out 1).trans rfl
          have a2 := (cells_in HOA.out 2).trans rfl
          have b0 := (cells_in HOB.out 0).trans rfl
          have b1 := (cells_in HOB.out 1).trans rfl
          have b2 := (cells_in HOB.out 2).trans rfl
          have c0 := (cells_in HOC.out 0).trans rfl
          have c1 := (cells_in HOC.out 1).trans rfl
          have c2 := (cells_in HOC.out 2).trans rfl
          cases hba : inclT (.mk kB eB nB) (.mk kA eA nA) with
          | false =>
            rw [hba] at HI
            clear hba
            go_wp2_with fail
            clear a0 a1 a2 b0 b1 b2 c0 c1 c2
            refine HI.out.mono ?_
            rintro e wy ⟨rfl, hb⟩
            replace HOA := hid (keep_obj HOA.out hb)
            replace HOB := hid (keep_obj HOB.out hb)
            replace HOC := hid (keep_obj HOC.out hb)
            replace HOV := hid (keep_obj HOV.out hb)
            replace HB := hid (HB.out.trans (hb.mono HB.out.size))
            clear hb
            go_wp2_with fail
            go_meet
            exact ⟨rfl, HB, HOA, HOB, HOC, HOV⟩
          | true =>
            have HE := hid ((eqT_iff _ _).2 (inclT_antisymm (.mk kA eA nA) (.mk kB eB nB) 1 1 HZA.out.2.2.1 HZB.out.2.2.1 HAB.out hba))
            rw [hba] at HI
            clear hba
            go_wp2_with fail
            clear a0 a1 a2 b0 b1 b2 c0 c1 c2
            refine HI.out.mono ?_
            rintro e wy ⟨rfl, hb⟩
            replace HOA := hid (keep_obj HOA.out hb)
            replace HOB := hid (keep_obj HOB.out hb)
            replace HOC := hid (keep_obj HOC.out hb)
            replace HOV := hid (keep_obj HOV.out hb)
            replace HB := hid (HB.out.trans (hb.mono HB.out.size))
            clear hb
            clear HI
            have HI := hid (equal_any (.mk kA eA nA) (.mk kB eB nB) _ _ wy _ _ (HA.out.bel HB.out) (HBt.out.bel HB.out))
            rw [HE.out] at HI
            have a0 := (cells_in HOA.out 0).trans rfl
            have a1 := (cells_in HOA.out 1).trans rfl
            have a2 := (cells_in HOA.out 2).trans rfl
            have b0 := (cells_in HOB.out 0).trans rfl
            have b1 := (cells_in HOB.out 1).trans rfl
            have b2 := (cells_in HOB.out 2).trans rfl
            have c0 := (cells_in HOC.out 0).trans rfl
            have c1 := (cells_in HOC.out 1).trans rfl
            have c2 := (cells_in HOC.out 2).trans rfl
            go_wp2_with fail
            clear a0 a1 a2 b0 b1 b2 c0 c1 c2
            refine HI.out.mono ?_
            rintro e wz ⟨rfl, hb⟩
            replace HOA := hid (keep_obj HOA.out hb)
            replace HOB := hid (keep_obj HOB.out hb)
            replace HOC := hid (keep_obj HOC.out hb)
            replace HOV := hid (keep_obj HOV.out hb)
            replace HB := hid (HB.out.trans (hb.mono HB.out.size))
            clear hb
            go_wp2_with fail
            go_meet
            exact ⟨rfl, HB, HOA, HOB, HOC, HOV⟩
    case rest =>
      clear HB HOA HOB HOC HOV
      obtain ⟨rfl, HB, HOA, HOB, HOC, HOV⟩ := hcut
      go_upto_region 7 with (fail)
      go_cut [76] (fun b wx => b = .bool false ∧ Hid (Below w.heap.size w wx) ∧ Hid (wx.heap[bA]? = some (.cells #[.int .i64 kA, .slice oeA eA.length ceA, .slice onA nA.length cnA] 30)) ∧ Hid (wx.heap[bB]? = some (.cells #[.int .i64 kB, .slice oeB eB.length ceB, .slice onB nB.length cnB] 30)) ∧ Hid (wx.heap[bC]? = some (.cells #[.int .i64 kC, .slice oeC eC.length ceC, .slice onC nC.length cnC] 30)) ∧ Hid (wx.heap[w.heap.size + 1]? = some (.cells #[.int .i64 k, .int .i64 n, .string s, .slice oi is.length ci, .slice ok ks.length ck] 26)))
      case first =>
        cases ab with
        | false =>
          go_wp2_with fail
          go_meet
          exact ⟨rfl, HB, HOA, HOB, HOC, HOV⟩
        | true =>
          have HF := hid (fits_any (.mk k n s is ks) (.mk kB eB nB) _ _ wc _ _ (HV.out.bel HB.out) (HBt.out.bel HB.out))
          have v0 := (cells_in HOV.out 0).trans rfl
          have v1 := (cells_in HOV.out 1).trans rfl
          have v2 := (cells_in HOV.out 2).trans rfl
          have v3 := (cells_in HOV.out 3).trans rfl
          have v4 := (cells_in HOV.out 4).trans rfl
          have a0 := (cells_in HOA.out 0).trans rfl
          have a1 := (cells_in HOA.out 1).trans rfl
          have a2 := (cells_in HOA.out 2).trans rfl
          have b0 := (cells_in HOB.out 0).trans rfl
          have b1 := (cells_in HOB.out 1).trans rfl
          have b2 := (cells_in HOB.out 2).trans rfl
          have c0 := (cells_in HOC.out 0).trans rfl
          have c1 := (cells_in HOC.out 1).trans rfl
          have c2 := (cells_in HOC.out 2).trans rfl
          cases hf : fitsT (.mk k n s is ks) (.mk kB eB nB) with
          | false =>
            rw [hf] at HF
            clear hf
            go_wp2_with fail
            clear a0 a1 a2 b0 b1 b2 c0 c1 c2
            clear v0 v1 v2 v3 v4
            refine HF.out.mono ?_
            rintro e w8 ⟨rfl, hb⟩
            replace HOA := hid (keep_obj HOA.out hb)
            replace HOB := hid (keep_obj HOB.out hb)
            replace HOC := hid (keep_obj HOC.out hb)
            replace HOV := hid (keep_obj HOV.out hb)
            replace HB := hid (HB.out.trans (hb.mono HB.out.size))
            clear hb
            go_wp2_with fail
            go_meet
            exact ⟨rfl, HB, HOA, HOB, HOC, HOV⟩
          | true =>
            have HMO := hid (fits_mono _ _ _ HAB.out hf)
            rw [hf] at HF
            clear hf
            go_wp2_with fail
            clear a0 a1 a2 b0 b1 b2 c0 c1 c2
            clear v0 v1 v2 v3 v4
            refine HF.out.mono ?_
            rintro e w8 ⟨rfl, hb⟩
            replace HOA := hid (keep_obj HOA.out hb)
            replace HOB := hid (keep_obj HOB.out hb)
            replace HOC := hid (keep_obj HOC.out hb)
            replace HOV := hid (keep_obj HOV.out hb)
            replace HB := hid (HB.out.trans (hb.mono HB.out.size))
            clear hb
            clear HF
            have HF := hid (fits_any (.mk k n s is ks) (.mk kA eA nA) _ _ w8 _ _ (HV.out.bel HB.out) (HA.out.bel HB.out))
            rw [HMO.out] at HF
            have v0 := (cells_in HOV.out 0).trans rfl
            have v1 := (cells_in HOV.out 1).trans rfl
            have v2 := (cells_in HOV.out 2).trans rfl
            have v3 := (cells_in HOV.out 3).trans rfl
            have v4 := (cells_in HOV.out 4).trans rfl
            have a0 := (cells_in HOA.out 0).trans rfl
            have a1 := (cells_in HOA.out 1).trans rfl
            have a2 := (cells_in HOA.out 2).trans rfl
            have b0 := (cells_in HOB.out 0).trans rfl
            have b1 := (cells_in HOB.out 1).trans rfl
            have b2 := (cells_in HOB.out 2).trans rfl
            have c0 := (cells_in HOC.out 0).trans rfl
            have c1 := (cells_in HOC.out 1).trans rfl
            have c2 := (cells_in HOC.out 2).trans rfl
            go_wp2_with fail
            clear a0 a1 a2 b0 b1 b2 c0 c1 c2
            clear v0 v1 v2 v3 v4
            refine HF.out.mono ?_
            rintro e w9 ⟨rfl, hb⟩
            replace HOA := hid (keep_obj HOA.out hb)
            replace HOB := hid (keep_obj HOB.out hb)
            replace HOC := hid (keep_obj HOC.out hb)
            replace HOV := hid (keep_obj HOV.out hb)
            replace HB := hid (HB.out.trans (hb.mono HB.out.size))
            clear hb
            go_wp2_with fail
            go_meet
            exact ⟨rfl, HB, HOA, HOB, HOC, HOV⟩
      case rest =>
        clear HB HOA HOB HOC HOV
        obtain ⟨rfl, HB, HOA, HOB, HOC, HOV⟩ := hcut
        have HU := hid (uni_fresh (w := wc) (HA.out.bel HB.out) (HBt.out.bel HB.out) (by have := HZA.out.1; omega) (by have := HZA.out.2.1; omega))
        have HCU := hid (uniT_check _ _ 1 HZA.out.2.2.1 HZB.out.2.2.1)
        have HG1 := hid (uniT_ge1 (.mk kA eA nA) (.mk kB eB nB))
        have HG2 := hid (uniT_ge2 (.mk kA eA nA) (.mk kB eB nB))
        have HCO := hid (uniT_comm (.mk kA eA nA) (.mk kB eB nB))
        obtain ⟨tu, htu⟩ : ∃ tu, uniT (.mk kA eA nA) (.mk kB eB nB) = tu := ⟨_, rfl⟩
        rw [htu] at HU HCU HG1 HG2 HCO
        clear htu
        have a0 := (cells_in HOA.out 0).trans rfl
        have a1 := (cells_in HOA.out 1).trans rfl
        have a2 := (cells_in HOA.out 2).trans rfl
        have b0 := (cells_in HOB.out 0).trans rfl
        have b1 := (cells_in HOB.out 1).trans rfl
        have b2 := (cells_in HOB.out 2).trans rfl
        have c0 := (cells_in HOC.out 0).trans rfl
        have c1 := (cells_in HOC.out 1).trans rfl
        have c2 := (cells_in HOC.out 2).trans rfl
        go_wp2_with fail
        clear a0 a1 a2 b0 b1 b2 c0 c1 c2
        refine HU.out.mono ?_
        rintro e w4' ⟨u, rfl, hu, hb⟩
        obtain ⟨ku, eu, nu⟩ := tu
        obtain ⟨veu, vnu, rfl, hEu, hNu⟩ := hu.out
        obtain ⟨oeu, ceu, rfl⟩ := hEu.len
        obtain ⟨onu, cnu, rfl⟩ := hNu.len
        have HTU := hid hu
        replace HOA := hid (keep_obj HOA.out hb)
        replace HOB := hid (keep_obj HOB.out hb)
        replace HOC := hid (keep_obj HOC.out hb)
        replace HOV := hid (keep_obj HOV.out hb)
        replace HB := hid (HB.out.trans (hb.mono HB.out.size))
        clear hb
        clear hu hEu hNu HU
        go_upto_region 10 with (fail)
        have hb : Below w4'.heap.size w4' (w4'.alloc (.cells #[.int .i64 ku, .slice oeu eu.length ceu, .slice onu nu.length cnu] 30)) := (Below.refl _ _).alloc (Nat.le_refl _) _
        have hox := heap_alloc_at w4' (.cells #[.int .i64 ku, .slice oeu eu.length ceu, .slice onu nu.length cnu] 30)
        generalize w4'.alloc (.cells #[.int .i64 ku, .slice oeu eu.length ceu, .slice onu nu.length cnu] 30) = wa at *
        replace HTU := hid (HTU.out.bel hb)
        replace HOA := hid (keep_obj HOA.out hb)
        replace HOB := hid (keep_obj HOB.out hb)
        replace HOC := hid (keep_obj HOC.out hb)
        replace HOV := hid (keep_obj HOV.out hb)
        replace HB := hid (HB.out.trans (hb.mono HB.out.size))
        clear hb
        have c0 := (cells_in hox 0).trans rfl
        have c1 := (cells_in hox 1).trans rfl
        have c2 := (cells_in hox 2).trans rfl
        have a0 := (cells_in HOA.out 0).trans rfl
        have a1 := (cells_in HOA.out 1).trans rfl
        have a2 := (cells_in HOA.out 2).trans rfl
        have b0 := (cells_in HOB.out 0).trans rfl
        have b1 := (cells_in HOB.out 1).trans rfl
        have b2 := (cells_in HOB.out 2).trans rfl
        clear hox
        have hb : Below wa.heap.size wa wa.drew := below_drew (Below.refl _ _)
        replace HTU := hid (HTU.out.bel hb)
        replace HOA := hid (keep_obj HOA.out hb)
        replace HOB := hid (keep_obj HOB.out hb)
        replace HOC := hid (keep_obj HOC.out hb)
        replace HOV := hid (keep_obj HOV.out hb)
        replace HB := hid (HB.out.trans (hb.mono HB.out.size))
        clear hb
        have HK := hid (ocheck_any _ wa.drew _ _ HTU.out)
        rw [HCU.out] at HK
        refine wp_region_steady (fun v => v.cell? ⟨bA, 0, none⟩ = some (.int .i64 kA) ∧ v.cell? ⟨bA, 1, none⟩ = some (.slice oeA eA.length ceA) ∧ v.cell? ⟨bA, 2, none⟩ = some (.slice onA nA.length cnA) ∧ v.cell? ⟨bB, 0, none⟩ = some (.int .i64 kB) ∧ v.cell? ⟨bB, 1, none⟩ = some (.slice oeB eB.length ceB) ∧ v.cell? ⟨bB, 2, none⟩ = some (.slice onB nB.length cnB) ∧ v.cell? ⟨w4'.heap.size, 0, none⟩ = some (.int .i64 ku) ∧ v.cell? ⟨w4'.heap.size, 1, none⟩ = some (.slice oeu eu.length ceu) ∧ v.cell? ⟨w4'.heap.size, 2, none⟩ = some (.slice onu nu.length cnu)) (by kernel_rfl) (by kernel_rfl) (⟨a0, a1, a2, b0, b1, b2, c0, c1, c2⟩) ?_
        repeat (first
          | (refine wpSteady_skip (by rfl) ?_; try simp only [Act.put, List.setIfInBounds_toArray, List.set_cons_zero, List.set_cons_succ])
          | (refine wpSteady_calm (v := ?_) (by rfl) ?_ ?_; rotate_left; (focus (intro v hSv; (try dsimp only at hSv); go_simp; (try with_reducible rfl); done)); try simp only [Act.put, List.setIfInBounds_toArray, List.set_cons_zero, List.set_cons_succ]))
        refine wpSteady_loud rfl (by rfl) (fun K hK => ?_)
        go_simp
        refine HK.out.mono ?_
        rintro e w5' ⟨rfl, hb⟩
        replace HTU := hid (HTU.out.bel hb)
        replace a0 := bcell (W := wa.drew) hb a0
        replace a1 := bcell (W := wa.drew) hb a1
        replace a2 := bcell (W := wa.drew) hb a2
        replace b0 := bcell (W := wa.drew) hb b0
        replace b1 := bcell (W := wa.drew) hb b1
        replace b2 := bcell (W := wa.drew) hb b2
        replace c0 := bcell (W := wa.drew) hb c0
        replace c1 := bcell (W := wa.drew) hb c1
        replace c2 := bcell (W := wa.drew) hb c2
        replace HOA := hid (keep_obj HOA.out hb)
        replace HOB := hid (keep_obj HOB.out hb)
        replace HOC := hid (keep_obj HOC.out hb)
        replace HOV := hid (keep_obj HOV.out hb)
        replace HB := hid (HB.out.trans (hb.mono HB.out.size))
        clear hb
        refine hK.out _ _ (⟨a0, a1, a2, b0, b1, b2, c0, c1, c2⟩) ?_
        clear hK K
        try simp only [Act.put, List.setIfInBounds_toArray, List.set_cons_zero, List.set_cons_succ]
        repeat (first
          | (refine wpSteady_skip (by rfl) ?_; try simp only [Act.put, List.setIfInBounds_toArray, List.set_cons_zero, List.set_cons_succ])
          | (refine wpSteady_calm (v := ?_) (by rfl) ?_ ?_; rotate_left; (focus (intro v hSv; (try dsimp only at hSv); go_simp; (try with_reducible rfl); done)); try simp only [Act.put, List.setIfInBounds_toArray, List.set_cons_zero, List.set_cons_succ]))
        refine wpSteady_loud rfl (by rfl) (fun K hK => ?_)
        go_simp
        have HK := hid (incl_any _ _ _ _ w5' _ _ HTU.out (HA.out.bel HB.out))
        rw [HG1.out] at HK
        refine HK.out.mono ?_
        rintro e w6' ⟨rfl, hb⟩
        replace HTU := hid (HTU.out.bel hb)
        replace a0 := bcell (W := w5') hb a0
        replace a1 := bcell (W := w5') hb a1
        replace a2 := bcell (W := w5') hb a2
        replace b0 := bcell (W := w5') hb b0
        replace b1 := bcell (W := w5') hb b1
        replace b2 := bcell (W := w5') hb b2
        replace c0 := bcell (W := w5') hb c0
        replace c1 := bcell (W := w5') hb c1
        replace c2 := bcell (W := w5') hb c2
        replace HOA := hid (keep_obj HOA.out hb)
        replace HOB := hid (keep_obj HOB.out hb)
        replace HOC := hid (keep_obj HOC.out hb)
        replace HOV := hid (keep_obj HOV.out hb)
        replace HB := hid (HB.out.trans (hb.mono HB.out.size))
        clear hb
        refine hK.out _ _ (⟨a0, a1, a2, b0, b1, b2, c0, c1, c2⟩) ?_
        clear hK K
        try simp only [Act.put, List.setIfInBounds_toArray, List.set_cons_zero, List.set_cons_succ]
        repeat (first
          | (refine wpSteady_skip (by rfl) ?_; try simp only [Act.put, List.setIfInBounds_toArray, List.set_cons_zero, List.set_cons_succ])
          | (refine wpSteady_calm (v := ?_) (by rfl) ?_ ?_; rotate_left; (focus (intro v hSv; (try dsimp only at hSv); go_simp; (try with_reducible rfl); done)); try simp only [Act.put, List.setIfInBounds_toArray, List.set_cons_zero, List.set_cons_succ]))
        refine wpSteady_loud rfl (by rfl) (fun K hK => ?_)
        go_simp
        have HK := hid (incl_any _ _ _ _ w6' _ _ HTU.out (HBt.out.bel HB.out))
        rw [HG2.out] at HK
        refine HK.out.mono ?_
        rintro e w7' ⟨rfl, hb⟩
        replace HTU := hid (HTU.out.bel hb)
        replace a0 := bcell (W := w6') hb a0
        replace a1 := bcell (W := w6') hb a1
        replace a2 := bcell (W := w6') hb a2
        replace b0 := bcell (W := w6') hb b0
        replace b1 := bcell (W := w6') hb b1
        replace b2 := bcell (W := w6') hb b2
        replace c0 := bcell (W := w6') hb c0
        replace c1 := bcell (W := w6') hb c1
        replace c2 := bcell (W := w6') hb c2
        replace HOA := hid (keep_obj HOA.out hb)
        replace HOB := hid (keep_obj HOB.out hb)
        replace HOC := hid (keep_obj HOC.out hb)
        replace HOV := hid (keep_obj HOV.out hb)
        replace HB := hid (HB.out.trans (hb.mono HB.out.size))
        clear hb
        refine hK.out _ _ (⟨a0, a1, a2, b0, b1, b2, c0, c1, c2⟩) ?_
        clear hK K
        try simp only [Act.put, List.setIfInBounds_toArray, List.set_cons_zero, List.set_cons_succ]
        repeat (first
          | (refine wpSteady_skip (by rfl) ?_; try simp only [Act.put, List.setIfInBounds_toArray, List.set_cons_zero, List.set_cons_succ])
          | (refine wpSteady_calm (v := ?_) (by rfl) ?_ ?_; rotate_left; (focus (intro v hSv; (try dsimp only at hSv); go_simp; (try with_reducible rfl); done)); try simp only [Act.put, List.setIfInBounds_toArray, List.set_cons_zero, List.set_cons_succ]))
        refine wpSteady_loud rfl (by rfl) (fun K hK => ?_)
        go_simp
        refine (uni_fresh (w := w7') (HBt.out.bel HB.out) (HA.out.bel HB.out) (by have := HZB.out.1; omega) (by have := HZB.out.2.1; omega)).mono ?_
        rintro e w8' ⟨u2, rfl, hu2, hb⟩
        rw [← HCO.out] at hu2
        have HTU2 := hid hu2
        clear hu2
        replace HTU := hid (HTU.out.bel hb)
        replace a0 := bcell (W := w7') hb a0
        replace a1 := bcell (W := w7') hb a1
        replace a2 := bcell (W := w7') hb a2
        replace b0 := bcell (W := w7') hb b0
        replace b1 := bcell (W := w7') hb b1
        replace b2 := bcell (W := w7') hb b2
        replace c0 := bcell (W := w7') hb c0
        replace c1 := bcell (W := w7') hb c1
        replace c2 := bcell (W := w7') hb c2
        replace HOA := hid (keep_obj HOA.out hb)
        replace HOB := hid (keep_obj HOB.out hb)
        replace HOC := hid (keep_obj HOC.out hb)
        replace HOV := hid (keep_obj HOV.out hb)
        replace HB := hid (HB.out.trans (hb.mono HB.out.size))
        clear hb
        refine hK.out _ _ (⟨a0, a1, a2, b0, b1, b2, c0, c1, c2⟩) ?_
        clear hK K
        try simp only [Act.put, List.setIfInBounds_toArray, List.set_cons_zero, List.set_cons_succ]
        repeat (first
          | (refine wpSteady_skip (by rfl) ?_; try simp only [Act.put, List.setIfInBounds_toArray, List.set_cons_zero, List.set_cons_succ])
          | (refine wpSteady_calm (v := ?_) (by rfl) ?_ ?_; rotate_left; (focus (intro v hSv; (try dsimp only at hSv); go_simp; (try with_reducible rfl); done)); try simp only [Act.put, List.setIfInBounds_toArray, List.set_cons_zero, List.set_cons_succ]))
        refine wpSteady_loud rfl (by rfl) (fun K hK => ?_)
        go_simp
        have HK := hid (equal_any _ _ _ _ w8' _ _ HTU.out HTU2.out)
        rw [(eqT_iff (.mk ku eu nu) (.mk ku eu nu)).2 rfl] at HK
        refine HK.out.mono ?_
        rintro e w9' ⟨rfl, hb⟩
        replace a0 := bcell (W := w8') hb a0
        replace a1 := bcell (W := w8') hb a1
        replace a2 := bcell (W := w8') hb a2
        replace b0 := bcell (W := w8') hb b0
        replace b1 := bcell (W := w8') hb b1
        replace b2 := bcell (W := w8') hb b2
        replace c0 := bcell (W := w8') hb c0
        replace c1 := bcell (W := w8') hb c1
        replace c2 := bcell (W := w8') hb c2
        replace HOA := hid (keep_obj HOA.out hb)
        replace HOB := hid (keep_obj HOB.out hb)
        replace HOC := hid (keep_obj HOC.out hb)
        replace HOV := hid (keep_obj HOV.out hb)
        replace HB := hid (HB.out.trans (hb.mono HB.out.size))
        clear hb
        clear HTU HTU2
        refine hK.out _ _ (⟨a0, a1, a2, b0, b1, b2, c0, c1, c2⟩) ?_
        clear hK K
        try simp only [Act.put, List.setIfInBounds_toArray, List.set_cons_zero, List.set_cons_succ]
        repeat (first
          | (refine wpSteady_skip (by rfl) ?_; try simp only [Act.put, List.setIfInBounds_toArray, List.set_cons_zero, List.set_cons_succ])
          | (refine wpSteady_calm (v := ?_) (by rfl) ?_ ?_; rotate_left; (focus (intro v hSv; (try dsimp only at hSv); go_simp; (try with_reducible rfl); done)); try simp only [Act.put, List.setIfInBounds_toArray, List.set_cons_zero, List.set_cons_succ]))
        refine wpSteady_loud rfl (by rfl) (fun K hK => ?_)
        go_simp
        refine (awake_any w9').mono ?_
        rintro e wz ⟨rfl, hb⟩
        replace a0 := bcell (W := w9') hb a0
        replace a1 := bcell (W := w9') hb a1
        replace a2 := bcell (W := w9') hb a2
        replace b0 := bcell (W := w9') hb b0
        replace b1 := bcell (W := w9') hb b1
        replace b2 := bcell (W := w9') hb b2
        replace c0 := bcell (W := w9') hb c0
        replace c1 := bcell (W := w9') hb c1
        replace c2 := bcell (W := w9') hb c2
        replace HOA := hid (keep_obj HOA.out hb)
        replace HOB := hid (keep_obj HOB.out hb)
        replace HOC := hid (keep_obj HOC.out hb)
        replace HOV := hid (keep_obj HOV.out hb)
        replace HB := hid (HB.out.trans (hb.mono HB.out.size))
        clear hb
        refine hK.out _ _ (⟨a0, a1, a2, b0, b1, b2, c0, c1, c2⟩) ?_
        clear hK K
        try simp only [Act.put, List.setIfInBounds_toArray, List.set_cons_zero, List.set_cons_succ]
        repeat (first
          | (refine wpSteady_skip (by rfl) ?_; try simp only [Act.put, List.setIfInBounds_toArray, List.set_cons_zero, List.set_cons_succ])
          | (refine wpSteady_calm (v := ?_) (by rfl) ?_ ?_; rotate_left; (focus (intro v hSv; (try dsimp only at hSv); go_simp; (try with_reducible rfl); done)); try simp only [Act.put, List.setIfInBounds_toArray, List.set_cons_zero, List.set_cons_succ]))
        refine wpSteady_nil ?_
        clear a0 a1 a2 b0 b1 b2 c0 c1 c2
        go_wp2_with fail
        go_ret
        exact ⟨rfl, HB.out⟩

theorem readable : ∀ t ∈ #[40, 26].toList, Tryz.prog.readableRec t = true ∧ t < Tryz.prog.types.size := by
  intro t ht
  have r0 : Tryz.prog.readableRec 40 = true ∧ 40 < Tryz.prog.types.size := ⟨by kernel_rfl, of_decide_eq_true (by kernel_rfl)⟩
  have r1 : Tryz.prog.readableRec 26 = true ∧ 26 < Tryz.prog.types.size := ⟨by kernel_rfl, of_decide_eq_true (by kernel_rfl)⟩
  have hm : t = 40 ∨ t = 26 := by simpa using ht
  rcases hm with rfl | rfl
  · exact r0
  · exact r1
set_option maxRecDepth 100000 in
theorem walkD {H : Type} (enc : TypeId × Value → H) (W : World) (base : Nat) (args : Array Value) (ds : List (DataW H)) (p : List MemPlace)
    (hval : ∀ (j : Nat) t v, #[40, 26][j]? = some t → args[j]? = some v → Value.okWide Tryz.prog W .any base t v)
    (hA : DataW.TrodAll enc Tryz.prog W 0 (fun _ => true) true #[40, 26].toList args.toList ds p)
    (hws : ∀ (j : Nat) t d, #[40, 26].toList[j]? = some t → ds[j]? = some d → ∀ n ∈ d.weights Tryz.prog t, n ≤ reachBytes) :
    (Calls Tryz.prog 5 args W fun e w' => e = .returned (.bool true) ∧ Below W.heap.size W w') ∧
    ((Rows.typesOrderSpec.fn H (ds ++ [])).results = [.lit (.bool true)] ∧ (Rows.typesOrderSpec.fn H (ds ++ [])).args = ds ∧ (Rows.typesOrderSpec.fn H (ds ++ [])).vars = []) := by
  obtain ⟨v0, vs0, d0, ds0, p0, q0, hargs, rfl, rfl, h0, r0⟩ := trodAll_cons hA
  obtain ⟨v1, vs1, d1, ds1, p1, q1, rfl, rfl, rfl, h1, r1⟩ := trodAll_cons r0
  obtain ⟨rfl, rfl, rfl⟩ := trodAll_nil r1
  obtain rfl : args = #[v0, v1] := by cases args; simp_all
  obtain ⟨t0, t0b, t0c, w0⟩ := open_three (hval 0 _ v0 rfl rfl) h0 (hws 0 _ _ rfl rfl)
  obtain ⟨t1, w1⟩ := open_value (hval 1 _ v1 rfl rfl) h1 (hws 1 _ _ rfl rfl)
  exact ⟨walk W _ t0 t0b t0c w0 _ t1 w1, rfl, rfl, rfl⟩

set_option maxRecDepth 100000 in
theorem lifted (os : Os) (started : os.Started) (H : Type) (enc : TypeId × Value → H) :
    ReturnsInHanded {} Tryz.checked os 5 .any (fun w args => (Rows.typesOrderSpec.pre enc Tryz.prog Tryz.f5 [] false w args ∧ laidMetH Tryz.prog laidList w) ∧ sizedMet enc Tryz.prog Tryz.f5 (OpenSpec.ofChange Rows.typesOrderSpec) false w args)
      (Rows.typesOrderSpec.post enc Tryz.prog Tryz.f5 false true false false) := by
  refine returnsInHanded_of_change_and (C := Tryz.checked) (X := fun w _ => laidMetH Tryz.prog laidList w) (fun _ _ _ hh h => h.of_heap hh) own started (by kernel_rfl) Tryz.func5
    (ChangeSpec.witness_at (enc := enc) (C := Tryz.checked) (os := os) (X := fun w _ => laidMetH Tryz.prog laidList w) false (laidWorld os) #[.agg #[.int .i64 0, .slice none 0 0, .slice none 0 0, .int .i64 0, .slice none 0 0, .slice none 0 0, .int .i64 0, .slice none 0 0, .slice none 0 0], .agg #[.int .i64 0, .int .i64 0, .string ⟨#[]⟩, .slice none 0 0, .slice none 0 0]] 8 rfl (by kernel_rfl) (by kernel_rfl) (by kernel_rfl) (by kernel_rfl) (by kernel_rfl) (laidWorld_met os _)) ?_
  intro W base args ds gs before hval0 hW _ hsz _ _
  have hW' := hW
  obtain ⟨p, q, hA, hV, _, _, _⟩ := hW
  obtain ⟨rfl, rfl⟩ := trodVars_none hV
  rw [Tryz.params5] at hA hval0 hsz
  have hws : ∀ (j : Nat) t d, #[40, 26].toList[j]? = some t → ds[j]? = some d → ∀ n ∈ d.weights Tryz.prog t, n ≤ reachBytes := fun j t d h1 h2 n hn => by
    have hj1 := (List.getElem?_eq_some_iff.1 h1).1
    have hj2 := (List.getElem?_eq_some_iff.1 h2).1
    have := List.all_eq_true.1 hsz _ (DataW.weights_mem_each (j := j) (by rw [List.getElem?_append_left hj1]; exact h1) (by rw [List.getElem?_append_left hj2]; exact h2) n hn)
    simpa using this
  obtain ⟨hcall, hds⟩ := walkD enc W base args ds p hval0 hA hws
  exact hcall.mono fun e W' ⟨he, hb⟩ => ⟨_, he, law_post hW' rfl (by rw [Tryz.params5]; exact readable) rfl hds hb⟩

theorem over : Rows.TypesOrderSaid :=
  OpenClaim.holds_of_wide 5 Tryz.f5 rfl rfl rfl rfl rfl rfl rfl ⟨rfl, rfl, rfl, rfl, rfl⟩ rfl rfl rfl rfl rfl (by kernel_rfl) Tryz.func5 (by kernel_rfl)
    (of_decide_eq_true (by kernel_rfl)) (by unfold Func.isWrapper; first | (rw [if_pos (by decide +kernel)]; kernel_rfl) | (rw [if_neg (by decide +kernel)]; exact ⟨rfl, rfl⟩))
    (fun os started H enc _ => lifted os started H enc)

theorem proved : Rows.TypesOrderCardSaid :=
  Claim7.holds_tied_plain_at .later [] [.data, .pinned] true (true, Rows.typesOrderCard.stood.harness.2) false
    over (fun _ h => by cases h) (by kernel_rfl) (fun _ h => by cases h) typesOrder_row_tie rfl ⟨rfl, rfl⟩ (by kernel_rfl) rfl
    (fun f fn hf hfn => by
      obtain rfl : f = 5 := Option.some.inj ((show Tryz.prog.funcNamed "provision/provisionlaw10.TypesOrder" = some 5 by kernel_rfl).symm.trans hf) |>.symm
      obtain rfl : fn = Tryz.f5 := (Option.some.inj (Tryz.func5.symm.trans hfn)).symm
      exact ⟨by kernel_rfl, fun j t ht => by
        have hall : ∀ t ∈ Tryz.f5.params.toList, Tryz.prog.wantsStandIn t = false := by
          rw [Tryz.params5]
          intro t ht
          have hm : t = 40 ∨ t = 26 := by simpa using ht
          have s0 : Tryz.prog.wantsStandIn 40 = false := by kernel_rfl
          have s1 : Tryz.prog.wantsStandIn 26 = false := by kernel_rfl
          rcases hm with rfl | rfl
          · exact s0
          · exact s1
        exact hall t (List.mem_of_getElem? (by rw [Array.getElem?_toList]; exact ht))⟩)
    (by kernel_rfl)
#print axioms proved
end Go.Proofs.YtfljnigbfacmjaaGreatDoor.typesOrder
