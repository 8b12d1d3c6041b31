/- awake: the examples of the chapter. -/
import Derived.Test.YtibiiafcnaijeaaChange
import Derived.Test.YtibiiafcnaijeaaCnt
namespace Go.Proofs.Ytibiiafcnaijeaa
open Go Go.RowKit Go.Proofs.Ytibiiafcnaijeaa.Steady
set_option linter.unusedVariables false
set_option linter.unusedSimpArgs false

abbrev zero31 : Obj := .cells #[.string ⟨#[]⟩, .string ⟨#[]⟩, .slice none 0 0, .slice none 0 0, .int .i64 0, .bool false, .string ⟨#[]⟩, .string ⟨#[]⟩, .string ⟨#[]⟩, .string ⟨#[]⟩, .int .i64 0, .int .i64 0, .string ⟨#[]⟩, .slice none 0 0, .slice none 0 0, .int .i64 0, .bool false, .bool false, .slice none 0 0, .int .i64 0, .int .i64 0, .string ⟨#[]⟩, .slice none 0 0, .slice none 0 0, .bool false, .bool false, .slice none 0 0, .slice none 0 0, .bool false, .bool false, .slice none 0 0] 67
theorem al_bel {n : Nat} {w v : World} (h : Below n w v) (o : Obj) : Below v.heap.size v (v.alloc o) := (Below.refl _ _).alloc (Nat.le_refl _) o
theorem al_obj {n : Nat} {w v : World} (h : Below n w v) (o : Obj) : (v.alloc o).heap[v.heap.size]? = some o := heap_alloc_at v o
theorem al_ex {n : Nat} {w v : World} (h : Below n w v) (o : Obj) : ∃ u, u = v.alloc o ∧ Below v.heap.size v u ∧ u.heap[v.heap.size]? = some o := ⟨_, rfl, al_bel h o, al_obj h o⟩
theorem al_of {v u : World} {ob : Obj} (h : v.alloc ob = u) : Below v.heap.size v u ∧ u.heap[v.heap.size]? = some ob := by
  subst h
  exact ⟨(Below.refl _ _).alloc (Nat.le_refl _) ob, heap_alloc_at v ob⟩
theorem wpSteady_load_row {Pr : Program} {ops : Array Oper} {C : World → Prop} {Q : Act → World → Prop} {rest : List Oper} {o : Oper} {a : Act} {w : World} (hw : Region.wanted o (yielded ops a.tmps) = true) (ty : TypeId) (x : Operand) (ho : o.op = .load ty x)
    (g : Nat) (hx : a.eval x = .pointer (some ⟨g, 0, none⟩)) (t : TypeId) (cs : Array Value) (fr : Nat × Nat) (d : TypeDesc) (hg : ∀ v, C v → v.heap[g]? = some (.cells cs t fr))
    (hu : Pr.underlying ty = some d) (hd : (match d with | .struct _ | .array _ _ => true | _ => false) = true) (hi : (Pr.info? ty).map (·.size) = some cs.size)
    (h : wpSteady Pr ops C Q rest (a.put o.dst (.agg cs)) w) : wpSteady Pr ops C Q (o :: rest) a w :=
  wpSteady_calm (v := .agg cs) hw (fun v hv => by
    unfold execOp
    simp only [ho, hx, Instr.loadAt, Instr.sureAddr, Sem.run_bind, Sem.run_pure, Result.andThen_ok, run_loadVar_row v g t ty cs fr d (hg v hv) hu hd hi]) h
theorem nv_block {P : Nat → Prop} {w : World} {g T c : Nat} {cs : List Value} {acs : List Int} (hp : P g) (h : w.heap[g]? = some (.cells cs.toArray T)) (hn : acs.length ≤ 140737488355328) (hl : cs.length = acs.length * 22) (hone : cs.all (·.oneCell') = true) (hact : ∀ (i : Nat) (a : Int), acs[i]? = some a → cs[i * 22 + 3]? = some (.int .i64 a)) :
    NV P w (.slice (some ⟨g, 0, none⟩) acs.length c) acs := by
  refine ⟨hn, .inr ⟨g, 0, c, hp, rfl, fun i a ha => ⟨(cs.drop (i * 22)).take 22, ?_, ?_, ?_, fun j u hu => ?_⟩⟩⟩
  · have := (List.getElem?_eq_some_iff.1 ha).1
    rw [List.length_take, List.length_drop]; omega
  · rw [List.all_eq_true] at hone ⊢
    exact fun x hx => hone x (List.mem_of_mem_drop (List.mem_of_mem_take hx))
  · rw [List.getElem?_take, if_pos (by decide), List.getElem?_drop]; exact hact i a ha
  · rw [List.getElem?_take] at hu
    split at hu
    · rw [List.getElem?_drop] at hu
      rw [cells_in h, Nat.zero_add]; simpa using hu
    · cases hu
/-- The input lies in block X. -/
def AX (w wx : World) (X : Nat) (i : Inp) : Prop := Below w.heap.size w wx ∧ (w.heap.size ≤ X ∧ X < wx.heap.size) ∧ ∃ cs : List Value, cs.length = 31 ∧ cs.all (·.oneCell') = true ∧ wx.heap[X]? = some (.cells cs.toArray 67) ∧ INV (fun g => w.heap.size ≤ g ∧ g ≠ X) wx (.agg cs.toArray) i
section
variable {w wx wy : World} {X : Nat} {i : Inp}
theorem AX.later (h : AX w wx X i) (hb : Below wx.heap.size wx wy) : AX w wy X i := by
  obtain ⟨h1, h2, cs, h3, h4, h5, h6⟩ := h
  exact ⟨h1.trans (hb.mono h1.size), ⟨h2.1, Nat.lt_of_lt_of_le h2.2 hb.size⟩, cs, h3, h4, keep_obj h5 hb, h6.bel hb⟩
theorem AX.mk {oa ca on cn kp np sp oip mip cip okp mkp ckp od cd kc nc sc oic mic cic okc mkc ckc og cg ot mt ct oD cD : _} (hb : Below w.heap.size w wx) (hX : w.heap.size ≤ X) (ho : wx.heap[X]? = some (.cells #[.string i.addr, .string i.tname, .slice oa i.sc.attrs.length ca, .slice on i.sc.nested.length cn, .int .i64 i.quota, .bool i.has, .string i.prior.addr, .string i.prior.deposed, .string i.prior.id, .string i.prior.type, .int .i64 kp, .int .i64 np, .string sp, .slice oip mip cip, .slice okp mkp ckp, .int .i64 i.prior.version, .bool i.prior.tainted, .bool i.prior.createFirst, .slice od i.prior.deps.length cd, .int .i64 kc, .int .i64 nc, .string sc, .slice oic mic cic, .slice okc mkc ckc, .bool i.createFirst, .bool i.protect, .slice og i.ignore.length cg, .slice ot mt ct, .bool i.triggered, .bool i.requested, .slice oD i.deps.length cD] 67))
    (h1 : SCV (fun g => w.heap.size ≤ g ∧ g ≠ X) wx (.slice oa i.sc.attrs.length ca) (.slice on i.sc.nested.length cn) i.sc) (h2 : VV (fun g => w.heap.size ≤ g ∧ g ≠ X) wx (.agg #[.int .i64 kp, .int .i64 np, .string sp, .slice oip mip cip, .slice okp mkp ckp]) i.prior.attrs) (h3 : SV (fun g => w.heap.size ≤ g ∧ g ≠ X) wx (.slice od i.prior.deps.length cd) i.prior.deps)
    (h4 : VV (fun g => w.heap.size ≤ g ∧ g ≠ X) wx (.agg #[.int .i64 kc, .int .i64 nc, .string sc, .slice oic mic cic, .slice okc mkc ckc]) i.cnfg) (h5 : SV (fun g => w.heap.size ≤ g ∧ g ≠ X) wx (.slice og i.ignore.length cg) i.ignore) (h6 : SV (fun g => w.heap.size ≤ g ∧ g ≠ X) wx (.slice oD i.deps.length cD) i.deps) : AX w wx X i :=
  ⟨hb, ⟨hX, (Array.getElem?_eq_some_iff.1 ho).1⟩, [.string i.addr, .string i.tname, .slice oa i.sc.attrs.length ca, .slice on i.sc.nested.length cn, .int .i64 i.quota, .bool i.has, .string i.prior.addr, .string i.prior.deposed, .string i.prior.id, .string i.prior.type, .int .i64 kp, .int .i64 np, .string sp, .slice oip mip cip, .slice okp mkp ckp, .int .i64 i.prior.version, .bool i.prior.tainted, .bool i.prior.createFirst, .slice od i.prior.deps.length cd, .int .i64 kc, .int .i64 nc, .string sc, .slice oic mic cic, .slice okc mkc ckc, .bool i.createFirst, .bool i.protect, .slice og i.ignore.length cg, .slice ot mt ct, .bool i.triggered, .bool i.requested, .slice oD i.deps.length cD], rfl, rfl, ho, oa, ca, on, cn, kp, np, sp, oip, mip, cip, okp, mkp, ckp, od, cd, kc, nc, sc, oic, mic, cic, okc, mkc, ckc, og, cg, ot, mt, ct, oD, cD, rfl, h1, h2, h3, h4, h5, h6⟩
/-- A field of the input is stored. -/
theorem AX.part {cs : List Value} {P : Nat → Prop} (hinv : INV P wx (.agg cs.toArray) i) : ∃ oa ca on cn kp np sp oip mip cip okp mkp ckp od cd kc nc sc oic mic cic okc mkc ckc og cg ot mt ct oD cD, cs = [.string i.addr, .string i.tname, .slice oa i.sc.attrs.length ca, .slice on i.sc.nested.length cn, .int .i64 i.quota, .bool i.has, .string i.prior.addr, .string i.prior.deposed, .string i.prior.id, .string i.prior.type, .int .i64 kp, .int .i64 np, .string sp, .slice oip mip cip, .slice okp mkp ckp, .int .i64 i.prior.version, .bool i.prior.tainted, .bool i.prior.createFirst, .slice od i.prior.deps.length cd, .int .i64 kc, .int .i64 nc, .string sc, .slice oic mic cic, .slice okc mkc ckc, .bool i.createFirst, .bool i.protect, .slice og i.ignore.length cg, .slice ot mt ct, .bool i.triggered, .bool i.requested, .slice oD i.deps.length cD] ∧
    SCV P wx (.slice oa i.sc.attrs.length ca) (.slice on i.sc.nested.length cn) i.sc ∧ VV P wx (.agg #[.int .i64 kp, .int .i64 np, .string sp, .slice oip mip cip, .slice okp mkp ckp]) i.prior.attrs ∧ SV P wx (.slice od i.prior.deps.length cd) i.prior.deps ∧ VV P wx (.agg #[.int .i64 kc, .int .i64 nc, .string sc, .slice oic mic cic, .slice okc mkc ckc]) i.cnfg ∧ SV P wx (.slice og i.ignore.length cg) i.ignore ∧ SV P wx (.slice oD i.deps.length cD) i.deps := by
  obtain ⟨oa, ca, on, cn, kp, np, sp, oip, mip, cip, okp, mkp, ckp, od, cd, kc, nc, sc, oic, mic, cic, okc, mkc, ckc, og, cg, ot, mt, ct, oD, cD, e, h⟩ := hinv
  exact ⟨oa, ca, on, cn, kp, np, sp, oip, mip, cip, okp, mkp, ckp, od, cd, kc, nc, sc, oic, mic, cic, okc, mkc, ckc, og, cg, ot, mt, ct, oD, cD, by simpa using congrArg Array.toList (Value.agg.inj e), h⟩
theorem AX.setC {cs : List Value} {c' : Vl} {k9 n9 : Int} {s9 : ByteArray} {oi9 : Option Addr} {mi9 ci9 : Nat} {ok9 : Option Addr} {mk9 ck9 : Nat} (hb : Below w.heap.size w wx) (hX : w.heap.size ≤ X) (hinv : INV (fun g => w.heap.size ≤ g ∧ g ≠ X) wx (.agg cs.toArray) i)
    (hv : VV (fun g => w.heap.size ≤ g ∧ g ≠ X) wx (.agg #[.int .i64 k9, .int .i64 n9, .string s9, .slice oi9 mi9 ci9, .slice ok9 mk9 ck9]) c') (hc : Chg (fun k => k = X) wx wy)
    (hz : wy.heap[X]? = some (.cells (cs.take 19 ++ ([.int .i64 k9, .int .i64 n9, .string s9, .slice oi9 mi9 ci9, .slice ok9 mk9 ck9] : List Value) ++ cs.drop (19 + 5)).toArray 67)) : AX w wy X { i with cnfg := c' } := by
  obtain ⟨oa, ca, on, cn, kp, np, sp, oip, mip, cip, okp, mkp, ckp, od, cd, kc, nc, sc, oic, mic, cic, okc, mkc, ckc, og, cg, ot, mt, ct, oD, cD, rfl, h1, h2, h3, h4, h5, h6⟩ := AX.part hinv
  have k : KeepsP (fun g => w.heap.size ≤ g ∧ g ≠ X) wx wy := KeepsP.chg hc fun g hg e => hg.2 e
  exact AX.mk (i := { i with cnfg := c' }) (hb.trans (chg_bel hc (fun k hk => by omega) hb.size)) hX hz (h1.keep k fun _ h => h) (h2.keep k fun _ h => h) (h3.keep k fun _ h => h) (hv.keep k fun _ h => h) (h5.keep k fun _ h => h) (h6.keep k fun _ h => h)
theorem AX.setF {cs : List Value} {b : Bool} (hb : Below w.heap.size w wx) (hX : w.heap.size ≤ X) (hinv : INV (fun g => w.heap.size ≤ g ∧ g ≠ X) wx (.agg cs.toArray) i) (hc : Chg (fun k => k = X) wx wy)
    (hz : wy.heap[X]? = some (.cells (cs.take 24 ++ ([.bool b] : List Value) ++ cs.drop (24 + 1)).toArray 67)) : AX w wy X { i with createFirst := b } := by
  obtain ⟨oa, ca, on, cn, kp, np, sp, oip, mip, cip, okp, mkp, ckp, od, cd, kc, nc, sc, oic, mic, cic, okc, mkc, ckc, og, cg, ot, mt, ct, oD, cD, rfl, h1, h2, h3, h4, h5, h6⟩ := AX.part hinv
  have k : KeepsP (fun g => w.heap.size ≤ g ∧ g ≠ X) wx wy := KeepsP.chg hc fun g hg e => hg.2 e
  exact AX.mk (i := { i with createFirst := b }) (hb.trans (chg_bel hc (fun k hk => by omega) hb.size)) hX hz (h1.keep k fun _ h => h) (h2.keep k fun _ h => h) (h3.keep k fun _ h => h) (h4.keep k fun _ h => h) (h5.keep k fun _ h => h) (h6.keep k fun _ h => h)
theorem AX.setH {cs : List Value} {b : Bool} (hb : Below w.heap.size w wx) (hX : w.heap.size ≤ X) (hinv : INV (fun g => w.heap.size ≤ g ∧ g ≠ X) wx (.agg cs.toArray) i) (hc : Chg (fun k => k = X) wx wy)
    (hz : wy.heap[X]? = some (.cells (cs.take 5 ++ ([.bool b] : List Value) ++ cs.drop (5 + 1)).toArray 67)) : AX w wy X { i with has := b } := by
  obtain ⟨oa, ca, on, cn, kp, np, sp, oip, mip, cip, okp, mkp, ckp, od, cd, kc, nc, sc, oic, mic, cic, okc, mkc, ckc, og, cg, ot, mt, ct, oD, cD, rfl, h1, h2, h3, h4, h5, h6⟩ := AX.part hinv
  have k : KeepsP (fun g => w.heap.size ≤ g ∧ g ≠ X) wx wy := KeepsP.chg hc fun g hg e => hg.2 e
  exact AX.mk (i := { i with has := b }) (hb.trans (chg_bel hc (fun k hk => by omega) hb.size)) hX hz (h1.keep k fun _ h => h) (h2.keep k fun _ h => h) (h3.keep k fun _ h => h) (h4.keep k fun _ h => h) (h5.keep k fun _ h => h) (h6.keep k fun _ h => h)
theorem AX.setG {cs : List Value} {l : List ByteArray} {o9 : Option Addr} {c9 : Nat} (hb : Below w.heap.size w wx) (hX : w.heap.size ≤ X) (hinv : INV (fun g => w.heap.size ≤ g ∧ g ≠ X) wx (.agg cs.toArray) i) (hl : SV (fun g => w.heap.size ≤ g ∧ g ≠ X) wx (.slice o9 l.length c9) l) (hc : Chg (fun k => k = X) wx wy)
    (hz : wy.heap[X]? = some (.cells (cs.take 26 ++ ([.slice o9 l.length c9] : List Value) ++ cs.drop (26 + 1)).toArray 67)) : AX w wy X { i with ignore := l } := by
  obtain ⟨oa, ca, on, cn, kp, np, sp, oip, mip, cip, okp, mkp, ckp, od, cd, kc, nc, sc, oic, mic, cic, okc, mkc, ckc, og, cg, ot, mt, ct, oD, cD, rfl, h1, h2, h3, h4, h5, h6⟩ := AX.part hinv
  have k : KeepsP (fun g => w.heap.size ≤ g ∧ g ≠ X) wx wy := KeepsP.chg hc fun g hg e => hg.2 e
  exact AX.mk (i := { i with ignore := l }) (hb.trans (chg_bel hc (fun k hk => by omega) hb.size)) hX hz (h1.keep k fun _ h => h) (h2.keep k fun _ h => h) (h3.keep k fun _ h => h) (h4.keep k fun _ h => h) (hl.keep k fun _ h => h) (h6.keep k fun _ h => h)
end
set_option maxRecDepth 100000 in
set_option maxHeartbeats 40000000 in
theorem awake_any (w : World) : Calls Try.prog 6 #[] w (Ret (.bool true) w) := by
  have HB0 := hid (Below.refl w.heap.size w)
  go_enter Try.func6, Try.ntmps6
  go_wp2_with fail
  refine (string_any sE w).mono ?_; rintro e w1 ⟨rfl, hb⟩
  have HB1 := hid (HB0.out.trans (hb.mono HB0.out.size))
  clear hb
  go_wp2_with fail
  refine (string_any sNet1 w1).mono ?_; rintro e w2 ⟨rfl, hb⟩
  have HB2 := hid (HB1.out.trans (hb.mono HB1.out.size))
  clear hb
  go_wp2_with fail
  refine (number_any 1 w2).mono ?_; rintro e w3 ⟨rfl, hb⟩
  have HB3 := hid (HB2.out.trans (hb.mono HB2.out.size))
  clear hb
  go_wp2_with fail
  refine (number_any 1 w3).mono ?_; rintro e w4 ⟨rfl, hb⟩
  have HB4 := hid (HB3.out.trans (hb.mono HB3.out.size))
  clear hb
  go_wp2_with fail
  refine (four_any 3 0 sE 3 0 sNet1 2 1 ⟨#[]⟩ 2 1 ⟨#[]⟩ (by decide) (by decide) (by decide) (by decide) w4).mono ?_
  rintro e w5 ⟨u, rfl, hu, hb⟩
  obtain ⟨k5, n5, s5, oi5, mi5, ci5, ok5, mk5, ck5, rfl⟩ := hu.agg5
  have HB5 := hid (HB4.out.trans (hb.mono HB4.out.size))
  have HV5 := hid (hu.ex.mono (Q := fun g => w.heap.size ≤ g ∧ g < w5.heap.size) fun g hg => ⟨Nat.le_trans HB4.out.size hg.1, hg.2⟩)
  clear hu hb
  go_upto_region 2 with (fail)
  generalize hD : w5.alloc (.cells #[.string sNetZ] 9) = wD
  have hdo : wD.heap[w5.heap.size]? = some (.cells #[.string sNetZ] 9) := by rw [← hD]; exact heap_alloc_at w5 _
  have hdb : Below w5.heap.size w5 wD := by rw [← hD]; exact (Below.refl _ _).alloc (Nat.le_refl _) _
  have hds : wD.heap.size = w5.heap.size + 1 := by rw [← hD]; simp
  generalize hI : wD.alloc (.cells #[.string sNetA, .string ⟨#[]⟩, .string sNet1, .string sNet, .int .i64 k5, .int .i64 n5, .string s5, .slice oi5 mi5 ci5, .slice ok5 mk5 ck5, .int .i64 1, .bool false, .bool false, .slice (some ⟨w5.heap.size, 0, none⟩) 1 1] 28) = wI
  have hio : wI.heap[w5.heap.size + 1]? = some (.cells #[.string sNetA, .string ⟨#[]⟩, .string sNet1, .string sNet, .int .i64 k5, .int .i64 n5, .string s5, .slice oi5 mi5 ci5, .slice ok5 mk5 ck5, .int .i64 1, .bool false, .bool false, .slice (some ⟨w5.heap.size, 0, none⟩) 1 1] 28) := by rw [← hI, ← hds]; exact heap_alloc_at wD _
  have hib : Below wD.heap.size wD wI := by rw [← hI]; exact (Below.refl _ _).alloc (Nat.le_refl _) _
  have his : wI.heap.size = w5.heap.size + 2 := by rw [← hI]; simp [hds]
  have hb5I := hdb.trans (hib.mono hdb.size)
  have HBI := hid (HB5.out.trans (hb5I.mono HB5.out.size))
  have HVP := hid (HV5.out.bel hb5I)
  have HSD : Hid (SV (fun g => g = w5.heap.size) wI (.slice (some ⟨w5.heap.size, 0, none⟩) 1 1) [sNetZ]) := hid (sv_block (l := [sNetZ]) rfl (keep_obj hdo hib) (by decide) (by decide))
  have HIO := hid hio
  have HSI := hid (And.intro his HB5.out.size)
  clear hD hdo hdb hI hib hds his hb5I hio HV5 HB5 HB4 HB3 HB2 HB1 HB0
  go_cut [2] (fun y wx => ∃ X, y = .pointer (some ⟨X, 0, none⟩) ∧ Hid (AX w wx X inp1) ∧ Hid (wI.heap.size ≤ X) ∧ Hid (Below wI.heap.size wI wx))
  case first =>
    have hdr : Below wI.heap.size wI wI.drew := below_drew (Below.refl _ _)
    have h := C13.bel (C13.of HIO.out) hdr
    have HBC := hid hdr
    have hsz0 : wI.heap.size ≤ wI.drew.heap.size := hdr.size
    refine wp_region_freeL 8 [0, 2, 3, 4, 5, 6] (C13 (w5.heap.size + 1) (.string sNetA) (.string ⟨#[]⟩) (.string sNet1) (.string sNet) (.int .i64 k5) (.int .i64 n5) (.string s5) (.slice oi5 mi5 ci5) (.slice ok5 mk5 ck5) (.int .i64 1) (.bool false) (.bool false) (.slice (some ⟨w5.heap.size, 0, none⟩) 1 1)) (by kernel_rfl) (by kernel_rfl) h ?_
    simp only [List.cons_append, List.nil_append, List.forall_mem_cons]
    refine ⟨?_, ?_, ?_, ?_, ?_, ?_, ?_, fun p hp => by cases hp⟩
    all_goals (
      clear hdr
      simp only [mv, List.take_succ_cons, List.take_zero, List.drop_succ_cons, List.drop_zero, List.cons_append, List.nil_append]
      repeat (first
        | (refine wpSteady_calm (v := ?_) (by rfl) ?_ ?_; rotate_left; (focus (intro v hSv; (try simp only [C13] at hSv); go_simp; (try with_reducible rfl); done)); try simp only [Act.put, List.setIfInBounds_toArray, List.set_cons_zero, List.set_cons_succ])
        | (refine wpSteady_loud rfl (by rfl) (fun K hK => ?_)
           go_simp
           refine (null_any _).mono ?_
           rintro e w9 ⟨rfl, hb⟩
           have hsz9 := hb.size
           replace HBC := hid (HBC.out.trans (hb.mono HBC.out.size))
           try replace HKD := hid (HKD.out.bel hb)
           try replace HFR := hid (HFR.out.bel hb)
           try replace HOB := hid (keep_obj HOB.out hb)
           refine hK.out _ _ (C13.bel h hb) ?_
           replace h := C13.bel h hb
           clear hK K hb
           try simp only [Act.put, List.setIfInBounds_toArray, List.set_cons_zero, List.set_cons_succ]
          )
        | (refine wpSteady_loud rfl (by rfl) (fun K hK => ?_)
           go_simp
           first
             | (refine (number_any 2 _).mono ?_; rintro e w9 ⟨rfl, hb⟩)
             | (refine (number_any 1 _).mono ?_; rintro e w9 ⟨rfl, hb⟩)
           have hsz9 := hb.size
           replace HBC := hid (HBC.out.trans (hb.mono HBC.out.size))
           try replace HKD := hid (HKD.out.bel hb)
           try replace HFR := hid (HFR.out.bel hb)
           try replace HOB := hid (keep_obj HOB.out hb)
           refine hK.out _ _ (C13.bel h hb) ?_
           replace h := C13.bel h hb
           clear hK K hb
           try simp only [Act.put, List.setIfInBounds_toArray, List.set_cons_zero, List.set_cons_succ]
          )
        | (refine wpSteady_loud rfl (by rfl) (fun K hK => ?_)
           go_simp
           refine (kindF_any _).mono ?_
           rintro e w9 ⟨gk, rfl, hsc, hgk, hb⟩
           have hsz9 := hb.size
           replace HBC := hid (HBC.out.trans (hb.mono HBC.out.size))
           try replace HKD := hid (HKD.out.bel hb)
           try replace HFR := hid (HFR.out.bel hb)
           try replace HOB := hid (keep_obj HOB.out hb)
           have HKD := hid hsc
           clear hsc
           refine hK.out _ _ (C13.bel h hb) ?_
           replace h := C13.bel h hb
           clear hK K hb
           try simp only [Act.put, List.setIfInBounds_toArray, List.set_cons_zero, List.set_cons_succ]
          )
        | (refine wpSteady_loud rfl (by rfl) (fun K hK => ?_)
           go_simp
           refine (four_any 0 0 ⟨#[]⟩ 0 0 ⟨#[]⟩ 2 2 ⟨#[]⟩ 2 1 ⟨#[]⟩ (by decide) (by decide) (by decide) (by decide) _).mono ?_
           rintro e w9 ⟨u, rfl, hu, hb⟩
           obtain ⟨k6, n6, s6, oi6, mi6, ci6, ok6, mk6, ck6, rfl⟩ := hu.agg5
           have hsz9 := hb.size
           replace HBC := hid (HBC.out.trans (hb.mono HBC.out.size))
           try replace HKD := hid (HKD.out.bel hb)
           try replace HFR := hid (HFR.out.bel hb)
           try replace HOB := hid (keep_obj HOB.out hb)
           have HFR := hid hu.ex
           clear hu
           refine hK.out _ _ (C13.bel h hb) ?_
           replace h := C13.bel h hb
           clear hK K hb
           try simp only [Act.put, List.setIfInBounds_toArray, List.set_cons_zero, List.set_cons_succ]
          )
        | (refine wpSteady_loud rfl (by rfl) (fun K hK => ?_)
           go_simp
           obtain ⟨wA, hwA, hb, hob⟩ := al_ex HBC.out zero31
           first
             | rw [← hwA]
             | rw [show ∀ v : World, v.drew.alloc zero31 = (v.alloc zero31).drew from fun _ => rfl] at hwA; rw [← hwA]
           clear hwA
           have hX9 := (Array.getElem?_eq_some_iff.1 hob).1
           have hsz9 := hb.size
           replace HBC := hid (HBC.out.trans (hb.mono HBC.out.size))
           try replace HKD := hid (HKD.out.bel hb)
           try replace HFR := hid (HFR.out.bel hb)
           try replace HOB := hid (keep_obj HOB.out hb)
           have HOB := hid hob
           clear hob
           refine hK.out _ _ (C13.bel h hb) ?_
           replace h := C13.bel h hb
           clear hK K hb
           try simp only [Act.put, List.setIfInBounds_toArray, List.set_cons_zero, List.set_cons_succ]))
      have hXl := (Array.getElem?_eq_some_iff.1 HOB.out).1
      have hsI := HSI.out
      refine wpSteady_loud rfl (by rfl) (fun K hK => ?_)
      refine wp_store_obj 67 _ _ rfl _ 0 [_, _, _, _, _, _, _, _, _, _, _, _, _, _, _, _, _, _, _, _, _, _, _, _, _, _, _, _, _, _, _] rfl rfl _ _ HOB.out (by simp) (by kernel_rfl) rfl ?_
      intro ws hzs hcs
      have h2 := C13.chg h hcs (by omega)
      refine hK.out _ _ h2 ?_
      clear hK K h h2
      try simp only [Act.put]
      refine wpSteady_nil ?_
      go_wp2_with fail
      go_meet
      have hbw := HBC.out.trans (chg_bel hcs (fun k hk => by omega) HBC.out.size)
      refine ⟨_, rfl, hid (AX.mk (HBI.out.trans (hbw.mono HBI.out.size)) (by omega) hzs (HKD.out.keep (KeepsP.chg hcs fun g (hg : g = gk) e => by omega) fun g (hg : g = gk) => ⟨by omega, by omega⟩) ((HVP.out.bel HBC.out).keep (KeepsP.chg hcs fun g (hg : w.heap.size ≤ g ∧ g < w5.heap.size) e => by omega) fun g (hg : w.heap.size ≤ g ∧ g < w5.heap.size) => ⟨by omega, by omega⟩) ((HSD.out.bel HBC.out).keep (KeepsP.chg hcs fun g (hg : g = w5.heap.size) e => by omega) fun g (hg : g = w5.heap.size) => ⟨by omega, by omega⟩)
        (HFR.out.keep (KeepsP.chg hcs fun g (hg : _ ≤ g ∧ g < _) e => by omega) fun g (hg : _ ≤ g ∧ g < _) => ⟨by omega, by omega⟩) (SV.zero _ _) (SV.zero _ _)), hid (by omega), hid hbw⟩)
  case rest =>
    obtain ⟨X, rfl, A0, HXI, HBW⟩ := hcut
    obtain ⟨w6, rfl⟩ : ∃ w6, w6 = wc := ⟨_, rfl⟩
    have HIO6 := hid (keep_obj HIO.out HBW.out)
    have HVP6 := hid (HVP.out.bel HBW.out)
    have HSD6 := hid (HSD.out.bel HBW.out)
    clear HIO HVP HSD
    obtain ⟨hbA, hXA, cs, hcl, hco1, hco, hinv⟩ := A0.out
    have HCL := hid hcl
    have HCH := hid (change_any inp1 _ w6 _ hinv ok1)
    have HCO := hid hco
    clear hbA hXA hcl hco1 hco hinv
    go_wp2_with (refine wpList_load_row rfl 67 (.tmp 2) rfl X rfl _ _ (0, 0) _ HCO.out Try.underlying67 rfl (by rw [List.size_toArray, HCL.out]; kernel_rfl) ?_)
    refine HCH.out.mono ?_
    rintro e wqa ⟨u, rfl, hu, hb⟩
    obtain ⟨da, hd⟩ : ∃ d, changeD inp1 = d := ⟨_, rfl⟩
    have hc := chg1
    rw [hd] at hu
    simp only [hd] at hc
    have HDa := hid hc
    obtain ⟨ka1, na1, sa1, oia1, mia1, cia1, oka1, mka1, cka1, ka2, na2, sa2, oia2, mia2, cia2, oka2, mka2, cka2, oRa, cRa, oda, cda, ooa, coa, rfl, -, hv, -, -, -⟩ := hu
    have HSXa := hid (show X < wqa.heap.size from Nat.lt_of_lt_of_le A0.out.2.1.2 hb.size)
    have HVa := hid (hv.mono (Q := fun g => X < g) fun g (hg : w6.heap.size ≤ g) => Nat.lt_of_lt_of_le A0.out.2.1.2 hg)
    clear hd hc hv HCL HCH HCO
    go_upto_region 4 with (refine wpList_store_obj rfl 42 _ _ rfl wqa.heap.size 0 [_, _, _, _, _, _, _, _, _, _, _, _, _, _, _, _, _, _, _, _, _, _] rfl rfl _ _ (heap_alloc_at wqa zero22) (by simp) (by kernel_rfl) rfl ?_; intro wra hz hc)
    have hz' : wra.heap[wqa.heap.size]? = some (.cells #[.string da.addr, .string da.deposed, .string da.type, .int .i64 da.action, .int .i64 da.reason, .int .i64 ka1, .int .i64 na1, .string sa1, .slice oia1 mia1 cia1, .slice oka1 mka1 cka1, .int .i64 ka2, .int .i64 na2, .string sa2, .slice oia2 mia2 cia2, .slice oka2 mka2 cka2, .string da.id, .slice oRa da.replace.length cRa, .bool da.createFirst, .bool da.protect, .bool da.imp, .slice oda da.deps.length cda, .slice ooa da.oldDeps.length coa] 42) := hz
    have HOa := hid hz'
    have hal : Below wqa.heap.size wqa (wqa.alloc zero22) := (Below.refl _ _).alloc (Nat.le_refl _) _
    have hbq := hal.trans (chg_bel hc (fun k hk => by rw [hk]; exact Nat.le_refl _) hal.size)
    have hb2 := hb.trans (hbq.mono hb.size)
    replace HIO6 := hid (keep_obj HIO6.out hb2)
    replace HVP6 := hid (HVP6.out.bel hb2)
    replace HSD6 := hid (HSD6.out.bel hb2)
    replace HVa := hid (HVa.out.bel hbq)
    have Aa := hid (A0.out.later hb2)
    clear hz hz' hc hal hbq hb hb2 A0
    go_wp2_with fail
    refine (null_any wra).mono ?_; rintro e wn0 ⟨rfl, hb0⟩
    have hbs := hb0
    clear hb0
    have HBS := hid hbs
    clear hbs
    go_wp2_with fail
    have hbs := HBS.out
    refine (null_any wn0).mono ?_; rintro e wn1 ⟨rfl, hb1⟩
    replace hb1 := hbs.trans (hb1.mono hbs.size)
    have hbs := hb1
    clear hb1
    have HBS := hid hbs
    clear hbs
    go_wp2_with fail
    have hbs := HBS.out
    refine (number_any 1 wn1).mono ?_; rintro e wn2 ⟨rfl, hb2⟩
    replace hb2 := hbs.trans (hb2.mono hbs.size)
    have hbs := hb2
    clear hb2
    have HBS := hid hbs
    clear hbs
    go_wp2_with fail
    have hbs := HBS.out
    refine (number_any 2 wn2).mono ?_; rintro e wn3 ⟨rfl, hb3⟩
    replace hb3 := hbs.trans (hb3.mono hbs.size)
    have hbs := hb3
    clear hb3
    have HBS := hid hbs
    clear hbs
    go_wp2_with fail
    have hbs := HBS.out
    refine (four_any 0 0 ⟨#[]⟩ 0 0 ⟨#[]⟩ 2 1 ⟨#[]⟩ 2 2 ⟨#[]⟩ (by decide) (by decide) (by decide) (by decide) wn3).mono ?_
    rintro e wfwt1 ⟨u, rfl, hu, hb⟩
    obtain ⟨k9, n9, s9, oi9, mi9, ci9, ok9, mk9, ck9, rfl⟩ := hu.agg5
    have hb2 := hbs.trans (hb.mono hbs.size)
    have HVC : Hid (VV (fun g => w.heap.size ≤ g ∧ g ≠ X) wfwt1 (.agg #[.int .i64 k9, .int .i64 n9, .string s9, .slice oi9 mi9 ci9, .slice ok9 mk9 ck9]) (fourV nullV nullV (numV 1) (numV 2))) := hid (hu.mono fun g (hg : wn3.heap.size ≤ g) => by have h1 := hbs.size; have h2 := Aa.out.2.1; exact ⟨by omega, by omega⟩)
    replace HOa := hid (keep_obj HOa.out hb2)
    replace HVa := hid (HVa.out.bel hb2)
    replace HIO6 := hid (keep_obj HIO6.out hb2)
    replace HVP6 := hid (HVP6.out.bel hb2)
    replace HSD6 := hid (HSD6.out.bel hb2)
    have AFwt1 := hid (Aa.out.later hb2)
    clear hbs HBS hb hb2 hu Aa
    obtain ⟨hbA, hXA, cs, hcl, hco1, hco, hinv⟩ := AFwt1.out
    have HCO := hid hco
    have HCL := hid hcl
    have HAI := hid (And.intro hbA (And.intro hXA hinv))
    clear hbA hXA hcl hco1 hco hinv
    go_upto_region 5 with (refine wpList_store_obj rfl 26 _ _ rfl X 19 [_, _, _, _, _] rfl rfl _ _ HCO.out (by rw [HCL.out]; simp) (by kernel_rfl) rfl ?_; intro wt1 hz hc)
    have Awt1 : Hid (AX w wt1 X { inp1 with cnfg := fourV nullV nullV (numV 1) (numV 2) }) := hid (AX.setC HAI.out.1 HAI.out.2.1.1 HAI.out.2.2 HVC.out hc hz)
    replace HOa := hid (keep_chg HOa.out hc (fun (e : wqa.heap.size = X) => by have := (Array.getElem?_eq_some_iff.1 HIO6.out).1; have := HSXa.out; omega))
    replace HVa := hid (HVa.out.keep (Q := fun g => X < g) (KeepsP.chg hc fun g (hg : X < g) (e : g = X) => by omega) fun g hg => hg)
    replace HIO6 := hid (keep_chg HIO6.out hc (fun (e : w5.heap.size + 1 = X) => by have := HXI.out; have := HSI.out; omega))
    replace HVP6 := hid (HVP6.out.keep (KeepsP.chg hc fun g (hg : w.heap.size ≤ g ∧ g < w5.heap.size) (e : g = X) => by have := HXI.out; have := HSI.out; omega) fun g hg => hg)
    replace HSD6 := hid (HSD6.out.keep (KeepsP.chg hc fun g (hg : g = w5.heap.size) (e : g = X) => by have := HXI.out; have := HSI.out; omega) fun g hg => hg)
    clear hz hc HCO HCL HAI HVC AFwt1
    obtain ⟨hbA, hXA, cs, hcl, hco1, hco, hinv⟩ := Awt1.out
    have HCO := hid hco
    have HCL := hid hcl
    have HAI := hid (And.intro hbA (And.intro hXA hinv))
    clear hbA hXA hcl hco1 hco hinv
    go_upto_region 6 with (refine wpList_store_one rfl 4 _ _ rfl X 24 (.bool true) rfl rfl _ _ HCO.out (by rw [HCL.out]; decide) (by kernel_rfl) rfl ?_; intro wt2 hz hc)
    have Awt2 : Hid (AX w wt2 X inp2) := hid (AX.setF HAI.out.1 HAI.out.2.1.1 HAI.out.2.2 hc hz)
    replace HOa := hid (keep_chg HOa.out hc (fun (e : wqa.heap.size = X) => by have := (Array.getElem?_eq_some_iff.1 HIO6.out).1; have := HSXa.out; omega))
    replace HVa := hid (HVa.out.keep (Q := fun g => X < g) (KeepsP.chg hc fun g (hg : X < g) (e : g = X) => by omega) fun g hg => hg)
    replace HIO6 := hid (keep_chg HIO6.out hc (fun (e : w5.heap.size + 1 = X) => by have := HXI.out; have := HSI.out; omega))
    replace HVP6 := hid (HVP6.out.keep (KeepsP.chg hc fun g (hg : w.heap.size ≤ g ∧ g < w5.heap.size) (e : g = X) => by have := HXI.out; have := HSI.out; omega) fun g hg => hg)
    replace HSD6 := hid (HSD6.out.keep (KeepsP.chg hc fun g (hg : g = w5.heap.size) (e : g = X) => by have := HXI.out; have := HSI.out; omega) fun g hg => hg)
    clear hz hc HCO HCL HAI Awt1
    obtain ⟨hbA, hXA, cs, hcl, hco1, hco, hinv⟩ := Awt2.out
    have HCL := hid hcl
    have HCH := hid (change_any inp2 _ wt2 _ hinv ok2)
    have HCO := hid hco
    clear hbA hXA hcl hco1 hco hinv
    go_wp2_with (refine wpList_load_row rfl 67 (.tmp 2) rfl X rfl _ _ (0, 0) _ HCO.out Try.underlying67 rfl (by rw [List.size_toArray, HCL.out]; kernel_rfl) ?_)
    refine HCH.out.mono ?_
    rintro e wqb ⟨u, rfl, hu, hb⟩
    obtain ⟨db, hd⟩ : ∃ d, changeD inp2 = d := ⟨_, rfl⟩
    have hc := chg2
    rw [hd] at hu
    simp only [hd] at hc
    have HDb := hid hc
    obtain ⟨kb1, nb1, sb1, oib1, mib1, cib1, okb1, mkb1, ckb1, kb2, nb2, sb2, oib2, mib2, cib2, okb2, mkb2, ckb2, oRb, cRb, odb, cdb, oob, cob, rfl, -, hv, -, -, -⟩ := hu
    have HSXb := hid (show X < wqb.heap.size from Nat.lt_of_lt_of_le Awt2.out.2.1.2 hb.size)
    have HVb := hid (hv.mono (Q := fun g => X < g) fun g (hg : wt2.heap.size ≤ g) => Nat.lt_of_lt_of_le Awt2.out.2.1.2 hg)
    clear hd hc hv HCL HCH HCO
    go_upto_region 7 with (refine wpList_store_obj rfl 42 _ _ rfl wqb.heap.size 0 [_, _, _, _, _, _, _, _, _, _, _, _, _, _, _, _, _, _, _, _, _, _] rfl rfl _ _ (heap_alloc_at wqb zero22) (by simp) (by kernel_rfl) rfl ?_; intro wrb hz hc)
    have hz' : wrb.heap[wqb.heap.size]? = some (.cells #[.string db.addr, .string db.deposed, .string db.type, .int .i64 db.action, .int .i64 db.reason, .int .i64 kb1, .int .i64 nb1, .string sb1, .slice oib1 mib1 cib1, .slice okb1 mkb1 ckb1, .int .i64 kb2, .int .i64 nb2, .string sb2, .slice oib2 mib2 cib2, .slice okb2 mkb2 ckb2, .string db.id, .slice oRb db.replace.length cRb, .bool db.createFirst, .bool db.protect, .bool db.imp, .slice odb db.deps.length cdb, .slice oob db.oldDeps.length cob] 42) := hz
    have HOb := hid hz'
    have hal : Below wqb.heap.size wqb (wqb.alloc zero22) := (Below.refl _ _).alloc (Nat.le_refl _) _
    have hbq := hal.trans (chg_bel hc (fun k hk => by rw [hk]; exact Nat.le_refl _) hal.size)
    have hb2 := hb.trans (hbq.mono hb.size)
    replace HOa := hid (keep_obj HOa.out hb2)
    replace HVa := hid (HVa.out.bel hb2)
    replace HIO6 := hid (keep_obj HIO6.out hb2)
    replace HVP6 := hid (HVP6.out.bel hb2)
    replace HSD6 := hid (HSD6.out.bel hb2)
    replace HVb := hid (HVb.out.bel hbq)
    have Ab := hid (Awt2.out.later hb2)
    clear hz hz' hc hal hbq hb hb2 Awt2
    obtain ⟨hbA, hXA, cs, hcl, hco1, hco, hinv⟩ := Ab.out
    have hal : Below wrb.heap.size wrb (wrb.alloc (.cells #[.string sSize] 9)) := (Below.refl _ _).alloc (Nat.le_refl _) _
    have HCO := hid (keep_obj hco hal)
    have HCL := hid hcl
    have HSL : Hid (SV (fun g => w.heap.size ≤ g ∧ g ≠ X) (wrb.alloc (.cells #[.string sSize] 9)) (.slice (some ⟨wrb.heap.size, 0, none⟩) 1 1) [sSize]) := hid (sv_block (l := [sSize]) (by have := hXA.2; exact ⟨hbA.size, by omega⟩) (heap_alloc_at wrb _) (by decide) (by decide))
    have HAI := hid (And.intro (hbA.trans (hal.mono hbA.size)) (And.intro hXA (hinv.bel hal)))
    replace HOa := hid (keep_obj HOa.out hal)
    replace HOb := hid (keep_obj HOb.out hal)
    replace HVa := hid (HVa.out.bel hal)
    replace HVb := hid (HVb.out.bel hal)
    replace HIO6 := hid (keep_obj HIO6.out hal)
    replace HVP6 := hid (HVP6.out.bel hal)
    replace HSD6 := hid (HSD6.out.bel hal)
    clear hbA hXA hcl hco1 hco hinv hal
    go_upto_region 8 with (refine wpList_store_one rfl 24 _ _ rfl X 26 (.slice (some ⟨wrb.heap.size, 0, none⟩) 1 1) rfl rfl _ _ HCO.out (by rw [HCL.out]; decide) (by kernel_rfl) rfl ?_; intro wt3 hz hc)
    have Awt3 : Hid (AX w wt3 X inp3) := hid (AX.setG (l := [sSize]) HAI.out.1 HAI.out.2.1.1 HAI.out.2.2 HSL.out hc hz)
    replace HOa := hid (keep_chg HOa.out hc (fun (e : wqa.heap.size = X) => by have := (Array.getElem?_eq_some_iff.1 HIO6.out).1; have := HSXa.out; omega))
    replace HOb := hid (keep_chg HOb.out hc (fun (e : wqb.heap.size = X) => by have := (Array.getElem?_eq_some_iff.1 HIO6.out).1; have := HSXb.out; omega))
    replace HVa := hid (HVa.out.keep (Q := fun g => X < g) (KeepsP.chg hc fun g (hg : X < g) (e : g = X) => by omega) fun g hg => hg)
    replace HVb := hid (HVb.out.keep (Q := fun g => X < g) (KeepsP.chg hc fun g (hg : X < g) (e : g = X) => by omega) fun g hg => hg)
    replace HIO6 := hid (keep_chg HIO6.out hc (fun (e : w5.heap.size + 1 = X) => by have := HXI.out; have := HSI.out; omega))
    replace HVP6 := hid (HVP6.out.keep (KeepsP.chg hc fun g (hg : w.heap.size ≤ g ∧ g < w5.heap.size) (e : g = X) => by have := HXI.out; have := HSI.out; omega) fun g hg => hg)
    replace HSD6 := hid (HSD6.out.keep (KeepsP.chg hc fun g (hg : g = w5.heap.size) (e : g = X) => by have := HXI.out; have := HSI.out; omega) fun g hg => hg)
    clear hz hc HCO HCL HAI HSL Ab
    obtain ⟨hbA, hXA, cs, hcl, hco1, hco, hinv⟩ := Awt3.out
    have HCL := hid hcl
    have HCH := hid (change_any inp3 _ wt3 _ hinv ok3)
    have HCO := hid hco
    clear hbA hXA hcl hco1 hco hinv
    go_wp2_with (refine wpList_load_row rfl 67 (.tmp 2) rfl X rfl _ _ (0, 0) _ HCO.out Try.underlying67 rfl (by rw [List.size_toArray, HCL.out]; kernel_rfl) ?_)
    refine HCH.out.mono ?_
    rintro e wqc ⟨u, rfl, hu, hb⟩
    obtain ⟨dc, hd⟩ : ∃ d, changeD inp3 = d := ⟨_, rfl⟩
    have hc := chg3
    rw [hd] at hu
    simp only [hd] at hc
    have HDc := hid hc
    obtain ⟨kc1, nc1, sc1, oic1, mic1, cic1, okc1, mkc1, ckc1, kc2, nc2, sc2, oic2, mic2, cic2, okc2, mkc2, ckc2, oRc, cRc, odc, cdc, ooc, coc, rfl, -, hv, -, -, -⟩ := hu
    have HSXc := hid (show X < wqc.heap.size from Nat.lt_of_lt_of_le Awt3.out.2.1.2 hb.size)
    have HVc := hid (hv.mono (Q := fun g => X < g) fun g (hg : wt3.heap.size ≤ g) => Nat.lt_of_lt_of_le Awt3.out.2.1.2 hg)
    clear hd hc hv HCL HCH HCO
    go_upto_region 9 with (refine wpList_store_obj rfl 42 _ _ rfl wqc.heap.size 0 [_, _, _, _, _, _, _, _, _, _, _, _, _, _, _, _, _, _, _, _, _, _] rfl rfl _ _ (heap_alloc_at wqc zero22) (by simp) (by kernel_rfl) rfl ?_; intro wrc hz hc)
    have hz' : wrc.heap[wqc.heap.size]? = some (.cells #[.string dc.addr, .string dc.deposed, .string dc.type, .int .i64 dc.action, .int .i64 dc.reason, .int .i64 kc1, .int .i64 nc1, .string sc1, .slice oic1 mic1 cic1, .slice okc1 mkc1 ckc1, .int .i64 kc2, .int .i64 nc2, .string sc2, .slice oic2 mic2 cic2, .slice okc2 mkc2 ckc2, .string dc.id, .slice oRc dc.replace.length cRc, .bool dc.createFirst, .bool dc.protect, .bool dc.imp, .slice odc dc.deps.length cdc, .slice ooc dc.oldDeps.length coc] 42) := hz
    have HOc := hid hz'
    have hal : Below wqc.heap.size wqc (wqc.alloc zero22) := (Below.refl _ _).alloc (Nat.le_refl _) _
    have hbq := hal.trans (chg_bel hc (fun k hk => by rw [hk]; exact Nat.le_refl _) hal.size)
    have hb2 := hb.trans (hbq.mono hb.size)
    replace HOa := hid (keep_obj HOa.out hb2)
    replace HOb := hid (keep_obj HOb.out hb2)
    replace HVa := hid (HVa.out.bel hb2)
    replace HVb := hid (HVb.out.bel hb2)
    replace HIO6 := hid (keep_obj HIO6.out hb2)
    replace HVP6 := hid (HVP6.out.bel hb2)
    replace HSD6 := hid (HSD6.out.bel hb2)
    replace HVc := hid (HVc.out.bel hbq)
    have Ac := hid (Awt3.out.later hb2)
    clear hz hz' hc hal hbq hb hb2 Awt3
    obtain ⟨hbA, hXA, cs, hcl, hco1, hco, hinv⟩ := Ac.out
    have HCO := hid hco
    have HCL := hid hcl
    have HAI := hid (And.intro hbA (And.intro hXA hinv))
    clear hbA hXA hcl hco1 hco hinv
    go_upto_region 10 with (refine wpList_store_one rfl 4 _ _ rfl X 5 (.bool false) rfl rfl _ _ HCO.out (by rw [HCL.out]; decide) (by kernel_rfl) rfl ?_; intro wt4 hz hc)
    have Awt4 : Hid (AX w wt4 X inp4) := hid (AX.setH HAI.out.1 HAI.out.2.1.1 HAI.out.2.2 hc hz)
    replace HOa := hid (keep_chg HOa.out hc (fun (e : wqa.heap.size = X) => by have := (Array.getElem?_eq_some_iff.1 HIO6.out).1; have := HSXa.out; omega))
    replace HOb := hid (keep_chg HOb.out hc (fun (e : wqb.heap.size = X) => by have := (Array.getElem?_eq_some_iff.1 HIO6.out).1; have := HSXb.out; omega))
    replace HOc := hid (keep_chg HOc.out hc (fun (e : wqc.heap.size = X) => by have := (Array.getElem?_eq_some_iff.1 HIO6.out).1; have := HSXc.out; omega))
    replace HVa := hid (HVa.out.keep (Q := fun g => X < g) (KeepsP.chg hc fun g (hg : X < g) (e : g = X) => by omega) fun g hg => hg)
    replace HVb := hid (HVb.out.keep (Q := fun g => X < g) (KeepsP.chg hc fun g (hg : X < g) (e : g = X) => by omega) fun g hg => hg)
    replace HIO6 := hid (keep_chg HIO6.out hc (fun (e : w5.heap.size + 1 = X) => by have := HXI.out; have := HSI.out; omega))
    replace HVP6 := hid (HVP6.out.keep (KeepsP.chg hc fun g (hg : w.heap.size ≤ g ∧ g < w5.heap.size) (e : g = X) => by have := HXI.out; have := HSI.out; omega) fun g hg => hg)
    replace HSD6 := hid (HSD6.out.keep (KeepsP.chg hc fun g (hg : g = w5.heap.size) (e : g = X) => by have := HXI.out; have := HSI.out; omega) fun g hg => hg)
    clear hz hc HCO HCL HAI Ac
    obtain ⟨hbA, hXA, cs, hcl, hco1, hco, hinv⟩ := Awt4.out
    have HCL := hid hcl
    have HCH := hid (change_any inp4 _ wt4 _ hinv ok4)
    have HCO := hid hco
    clear hbA hXA hcl hco1 hco hinv
    go_wp2_with (refine wpList_load_row rfl 67 (.tmp 2) rfl X rfl _ _ (0, 0) _ HCO.out Try.underlying67 rfl (by rw [List.size_toArray, HCL.out]; kernel_rfl) ?_)
    refine HCH.out.mono ?_
    rintro e wqd ⟨u, rfl, hu, hb⟩
    obtain ⟨dd, hd⟩ : ∃ d, changeD inp4 = d := ⟨_, rfl⟩
    have hc := chg4
    rw [hd] at hu
    simp only [hd] at hc
    have HDd := hid hc
    obtain ⟨kd1, nd1, sd1, oid1, mid1, cid1, okd1, mkd1, ckd1, kd2, nd2, sd2, oid2, mid2, cid2, okd2, mkd2, ckd2, oRd, cRd, odd, cdd, ood, cod, rfl, -, hv, -, -, -⟩ := hu
    have HSXd := hid (show X < wqd.heap.size from Nat.lt_of_lt_of_le Awt4.out.2.1.2 hb.size)
    have HVd := hid (hv.mono (Q := fun g => X < g) fun g (hg : wt4.heap.size ≤ g) => Nat.lt_of_lt_of_le Awt4.out.2.1.2 hg)
    clear hd hc hv HCL HCH HCO
    go_upto_region 11 with (refine wpList_store_obj rfl 42 _ _ rfl wqd.heap.size 0 [_, _, _, _, _, _, _, _, _, _, _, _, _, _, _, _, _, _, _, _, _, _] rfl rfl _ _ (heap_alloc_at wqd zero22) (by simp) (by kernel_rfl) rfl ?_; intro wrd hz hc)
    have hz' : wrd.heap[wqd.heap.size]? = some (.cells #[.string dd.addr, .string dd.deposed, .string dd.type, .int .i64 dd.action, .int .i64 dd.reason, .int .i64 kd1, .int .i64 nd1, .string sd1, .slice oid1 mid1 cid1, .slice okd1 mkd1 ckd1, .int .i64 kd2, .int .i64 nd2, .string sd2, .slice oid2 mid2 cid2, .slice okd2 mkd2 ckd2, .string dd.id, .slice oRd dd.replace.length cRd, .bool dd.createFirst, .bool dd.protect, .bool dd.imp, .slice odd dd.deps.length cdd, .slice ood dd.oldDeps.length cod] 42) := hz
    have HOd := hid hz'
    have hal : Below wqd.heap.size wqd (wqd.alloc zero22) := (Below.refl _ _).alloc (Nat.le_refl _) _
    have hbq := hal.trans (chg_bel hc (fun k hk => by rw [hk]; exact Nat.le_refl _) hal.size)
    have hb2 := hb.trans (hbq.mono hb.size)
    replace HOa := hid (keep_obj HOa.out hb2)
    replace HOb := hid (keep_obj HOb.out hb2)
    replace HOc := hid (keep_obj HOc.out hb2)
    replace HVa := hid (HVa.out.bel hb2)
    replace HVb := hid (HVb.out.bel hb2)
    replace HIO6 := hid (keep_obj HIO6.out hb2)
    replace HVP6 := hid (HVP6.out.bel hb2)
    replace HSD6 := hid (HSD6.out.bel hb2)
    replace HVd := hid (HVd.out.bel hbq)
    have Ad := hid (Awt4.out.later hb2)
    clear hz hz' hc hal hbq hb hb2 Awt4
    have ho := HOa.out
    rw [HDa.out.1, HDa.out.2.1, HDa.out.2.2.1] at ho
    replace HOa := hid ho
    clear ho
    have ho := HOb.out
    rw [HDb.out.1, HDb.out.2.1, HDb.out.2.2.1, HDb.out.2.2.2.1] at ho
    replace HOb := hid ho
    clear ho
    have ho := HOc.out
    rw [HDc.out.1, HDc.out.2] at ho
    replace HOc := hid ho
    clear ho
    have ho := HOd.out
    rw [HDd.out.1, HDd.out.2] at ho
    replace HOd := hid ho
    clear ho
    go_upto_region 11 with (fail)
    have hdr : Below wrd.heap.size wrd wrd.drew := below_drew (Below.refl _ _)
    have h := C22.bel (C22.of HOa.out) hdr
    have HBC := hid hdr
    refine wp_region_steady (C22 wqa.heap.size (.string da.addr) (.string da.deposed) (.string da.type) (.int .i64 2) (.int .i64 2) (.int .i64 ka1) (.int .i64 na1) (.string sa1) (.slice oia1 mia1 cia1) (.slice oka1 mka1 cka1) (.int .i64 ka2) (.int .i64 na2) (.string sa2) (.slice oia2 mia2 cia2) (.slice oka2 mka2 cka2) (.string da.id) (.slice oRa da.replace.length cRa) (.bool da.createFirst) (.bool da.protect) (.bool da.imp) (.slice oda da.deps.length cda) (.slice ooa 1 coa)) (by kernel_rfl) (by kernel_rfl) (h) ?_
    clear hdr
    repeat (first
      | (refine wpSteady_skip (by rfl) ?_; try simp only [Act.put, List.setIfInBounds_toArray, List.set_cons_zero, List.set_cons_succ])
      | (refine wpSteady_calm (v := ?_) (by rfl) ?_ ?_; rotate_left; (focus (intro v hSv; (try simp only [C22] at hSv); go_simp; (try with_reducible rfl); done)); try simp only [Act.put, List.setIfInBounds_toArray, List.set_cons_zero, List.set_cons_succ]))
    refine wpSteady_loud rfl (by rfl) (fun K hK => ?_)
    go_simp
    refine (runknown_any _).mono ?_; rintro e w9 ⟨rfl, hb⟩
    replace HBC := hid (HBC.out.trans (hb.mono HBC.out.size))
    refine hK.out _ _ (C22.bel h hb) ?_
    replace h := C22.bel h hb
    clear hK K hb
    try simp only [Act.put, List.setIfInBounds_toArray, List.set_cons_zero, List.set_cons_succ]
    repeat (first
      | (refine wpSteady_skip (by rfl) ?_; try simp only [Act.put, List.setIfInBounds_toArray, List.set_cons_zero, List.set_cons_succ])
      | (refine wpSteady_calm (v := ?_) (by rfl) ?_ ?_; rotate_left; (focus (intro v hSv; (try simp only [C22] at hSv); go_simp; (try with_reducible rfl); done)); try simp only [Act.put, List.setIfInBounds_toArray, List.set_cons_zero, List.set_cons_succ]))
    refine wpSteady_loud rfl (by rfl) (fun K hK => ?_)
    go_simp
    refine (string_any sNet1 _).mono ?_; rintro e w9 ⟨rfl, hb⟩
    replace HBC := hid (HBC.out.trans (hb.mono HBC.out.size))
    refine hK.out _ _ (C22.bel h hb) ?_
    replace h := C22.bel h hb
    clear hK K hb
    try simp only [Act.put, List.setIfInBounds_toArray, List.set_cons_zero, List.set_cons_succ]
    repeat (first
      | (refine wpSteady_skip (by rfl) ?_; try simp only [Act.put, List.setIfInBounds_toArray, List.set_cons_zero, List.set_cons_succ])
      | (refine wpSteady_calm (v := ?_) (by rfl) ?_ ?_; rotate_left; (focus (intro v hSv; (try simp only [C22] at hSv); go_simp; (try with_reducible rfl); done)); try simp only [Act.put, List.setIfInBounds_toArray, List.set_cons_zero, List.set_cons_succ]))
    refine wpSteady_loud rfl (by rfl) (fun K hK => ?_)
    go_simp
    refine (number_any 2 _).mono ?_; rintro e w9 ⟨rfl, hb⟩
    replace HBC := hid (HBC.out.trans (hb.mono HBC.out.size))
    refine hK.out _ _ (C22.bel h hb) ?_
    replace h := C22.bel h hb
    clear hK K hb
    try simp only [Act.put, List.setIfInBounds_toArray, List.set_cons_zero, List.set_cons_succ]
    repeat (first
      | (refine wpSteady_skip (by rfl) ?_; try simp only [Act.put, List.setIfInBounds_toArray, List.set_cons_zero, List.set_cons_succ])
      | (refine wpSteady_calm (v := ?_) (by rfl) ?_ ?_; rotate_left; (focus (intro v hSv; (try simp only [C22] at hSv); go_simp; (try with_reducible rfl); done)); try simp only [Act.put, List.setIfInBounds_toArray, List.set_cons_zero, List.set_cons_succ]))
    refine wpSteady_loud rfl (by rfl) (fun K hK => ?_)
    go_simp
    refine (number_any 1 _).mono ?_; rintro e w9 ⟨rfl, hb⟩
    replace HBC := hid (HBC.out.trans (hb.mono HBC.out.size))
    refine hK.out _ _ (C22.bel h hb) ?_
    replace h := C22.bel h hb
    clear hK K hb
    try simp only [Act.put, List.setIfInBounds_toArray, List.set_cons_zero, List.set_cons_succ]
    repeat (first
      | (refine wpSteady_skip (by rfl) ?_; try simp only [Act.put, List.setIfInBounds_toArray, List.set_cons_zero, List.set_cons_succ])
      | (refine wpSteady_calm (v := ?_) (by rfl) ?_ ?_; rotate_left; (focus (intro v hSv; (try simp only [C22] at hSv); go_simp; (try with_reducible rfl); done)); try simp only [Act.put, List.setIfInBounds_toArray, List.set_cons_zero, List.set_cons_succ]))
    refine wpSteady_loud rfl (by rfl) (fun K hK => ?_)
    go_simp
    refine (four_any 6 0 ⟨#[]⟩ 3 0 sNet1 2 2 ⟨#[]⟩ 2 1 ⟨#[]⟩ (by decide) (by decide) (by decide) (by decide) _).mono ?_; rintro e w9 ⟨u, rfl, hu, hb⟩
    obtain ⟨k9, n9, s9, oi9, mi9, ci9, ok9, mk9, ck9, rfl⟩ := hu.agg5
    replace HBC := hid (HBC.out.trans (hb.mono HBC.out.size))
    have HU := hid hu
    refine hK.out _ _ (C22.bel h hb) ?_
    replace h := C22.bel h hb
    clear hK K hb hu
    try simp only [Act.put, List.setIfInBounds_toArray, List.set_cons_zero, List.set_cons_succ]
    repeat (first
      | (refine wpSteady_skip (by rfl) ?_; try simp only [Act.put, List.setIfInBounds_toArray, List.set_cons_zero, List.set_cons_succ])
      | (refine wpSteady_calm (v := ?_) (by rfl) ?_ ?_; rotate_left; (focus (intro v hSv; (try simp only [C22] at hSv); go_simp; (try with_reducible rfl); done)); try simp only [Act.put, List.setIfInBounds_toArray, List.set_cons_zero, List.set_cons_succ]))
    refine wpSteady_loud rfl (by rfl) (fun K hK => ?_)
    go_simp
    have heq := requal_any da.after (fourV unkV (strV sNet1) (numV 2) (numV 1)) _ _ w9 _ _ (HVa.out.bel HBC.out) HU.out
    rw [HDa.out.2.2.2] at heq
    refine heq.mono ?_; rintro e wz ⟨rfl, hb⟩
    replace HBC := hid (HBC.out.trans (hb.mono HBC.out.size))
    refine hK.out _ _ (C22.bel h hb) ?_
    replace h := C22.bel h hb
    clear hK K hb heq HU
    try simp only [Act.put, List.setIfInBounds_toArray, List.set_cons_zero, List.set_cons_succ]
    repeat (first
      | (refine wpSteady_skip (by rfl) ?_; try simp only [Act.put, List.setIfInBounds_toArray, List.set_cons_zero, List.set_cons_succ])
      | (refine wpSteady_calm (v := ?_) (by rfl) ?_ ?_; rotate_left; (focus (intro v hSv; (try simp only [C22] at hSv); go_simp; (try with_reducible rfl); done)); try simp only [Act.put, List.setIfInBounds_toArray, List.set_cons_zero, List.set_cons_succ]))
    refine wpSteady_nil ?_
    clear h
    have hb2 := HBC.out
    replace HOa := hid (keep_obj HOa.out hb2)
    replace HOb := hid (keep_obj HOb.out hb2)
    replace HOc := hid (keep_obj HOc.out hb2)
    replace HOd := hid (keep_obj HOd.out hb2)
    replace HVa := hid (HVa.out.bel hb2)
    replace HVb := hid (HVb.out.bel hb2)
    replace HIO6 := hid (keep_obj HIO6.out hb2)
    replace HVP6 := hid (HVP6.out.bel hb2)
    replace HSD6 := hid (HSD6.out.bel hb2)
    have AZa := hid (Ad.out.later hb2)
    obtain ⟨wya, rfl⟩ : ∃ v, v = wz := ⟨_, rfl⟩
    clear hb2 HBC Ad
    go_upto_region 13 with (fail)
    have hdr : Below wya.heap.size wya wya.drew := below_drew (Below.refl _ _)
    have h := C22.bel (C22.of HOb.out) hdr
    have HBC := hid hdr
    refine wp_region_steady (C22 wqb.heap.size (.string db.addr) (.string db.deposed) (.string db.type) (.int .i64 3) (.int .i64 3) (.int .i64 kb1) (.int .i64 nb1) (.string sb1) (.slice oib1 mib1 cib1) (.slice okb1 mkb1 ckb1) (.int .i64 kb2) (.int .i64 nb2) (.string sb2) (.slice oib2 mib2 cib2) (.slice okb2 mkb2 ckb2) (.string db.id) (.slice oRb 1 cRb) (.bool true) (.bool db.protect) (.bool db.imp) (.slice odb db.deps.length cdb) (.slice oob db.oldDeps.length cob)) (by kernel_rfl) (by kernel_rfl) (h) ?_
    clear hdr
    repeat (first
      | (refine wpSteady_skip (by rfl) ?_; try simp only [Act.put, List.setIfInBounds_toArray, List.set_cons_zero, List.set_cons_succ])
      | (refine wpSteady_calm (v := ?_) (by rfl) ?_ ?_; rotate_left; (focus (intro v hSv; (try simp only [C22] at hSv); go_simp; (try with_reducible rfl); done)); try simp only [Act.put, List.setIfInBounds_toArray, List.set_cons_zero, List.set_cons_succ]))
    refine wpSteady_loud rfl (by rfl) (fun K hK => ?_)
    go_simp
    refine (runknown_any _).mono ?_; rintro e w9 ⟨rfl, hb⟩
    replace HBC := hid (HBC.out.trans (hb.mono HBC.out.size))
    refine hK.out _ _ (C22.bel h hb) ?_
    replace h := C22.bel h hb
    clear hK K hb
    try simp only [Act.put, List.setIfInBounds_toArray, List.set_cons_zero, List.set_cons_succ]
    repeat (first
      | (refine wpSteady_skip (by rfl) ?_; try simp only [Act.put, List.setIfInBounds_toArray, List.set_cons_zero, List.set_cons_succ])
      | (refine wpSteady_calm (v := ?_) (by rfl) ?_ ?_; rotate_left; (focus (intro v hSv; (try simp only [C22] at hSv); go_simp; (try with_reducible rfl); done)); try simp only [Act.put, List.setIfInBounds_toArray, List.set_cons_zero, List.set_cons_succ]))
    refine wpSteady_loud rfl (by rfl) (fun K hK => ?_)
    go_simp
    refine (runknown_any _).mono ?_; rintro e w9 ⟨rfl, hb⟩
    replace HBC := hid (HBC.out.trans (hb.mono HBC.out.size))
    refine hK.out _ _ (C22.bel h hb) ?_
    replace h := C22.bel h hb
    clear hK K hb
    try simp only [Act.put, List.setIfInBounds_toArray, List.set_cons_zero, List.set_cons_succ]
    repeat (first
      | (refine wpSteady_skip (by rfl) ?_; try simp only [Act.put, List.setIfInBounds_toArray, List.set_cons_zero, List.set_cons_succ])
      | (refine wpSteady_calm (v := ?_) (by rfl) ?_ ?_; rotate_left; (focus (intro v hSv; (try simp only [C22] at hSv); go_simp; (try with_reducible rfl); done)); try simp only [Act.put, List.setIfInBounds_toArray, List.set_cons_zero, List.set_cons_succ]))
    refine wpSteady_loud rfl (by rfl) (fun K hK => ?_)
    go_simp
    refine (number_any 1 _).mono ?_; rintro e w9 ⟨rfl, hb⟩
    replace HBC := hid (HBC.out.trans (hb.mono HBC.out.size))
    refine hK.out _ _ (C22.bel h hb) ?_
    replace h := C22.bel h hb
    clear hK K hb
    try simp only [Act.put, List.setIfInBounds_toArray, List.set_cons_zero, List.set_cons_succ]
    repeat (first
      | (refine wpSteady_skip (by rfl) ?_; try simp only [Act.put, List.setIfInBounds_toArray, List.set_cons_zero, List.set_cons_succ])
      | (refine wpSteady_calm (v := ?_) (by rfl) ?_ ?_; rotate_left; (focus (intro v hSv; (try simp only [C22] at hSv); go_simp; (try with_reducible rfl); done)); try simp only [Act.put, List.setIfInBounds_toArray, List.set_cons_zero, List.set_cons_succ]))
    refine wpSteady_loud rfl (by rfl) (fun K hK => ?_)
    go_simp
    refine (number_any 2 _).mono ?_; rintro e w9 ⟨rfl, hb⟩
    replace HBC := hid (HBC.out.trans (hb.mono HBC.out.size))
    refine hK.out _ _ (C22.bel h hb) ?_
    replace h := C22.bel h hb
    clear hK K hb
    try simp only [Act.put, List.setIfInBounds_toArray, List.set_cons_zero, List.set_cons_succ]
    repeat (first
      | (refine wpSteady_skip (by rfl) ?_; try simp only [Act.put, List.setIfInBounds_toArray, List.set_cons_zero, List.set_cons_succ])
      | (refine wpSteady_calm (v := ?_) (by rfl) ?_ ?_; rotate_left; (focus (intro v hSv; (try simp only [C22] at hSv); go_simp; (try with_reducible rfl); done)); try simp only [Act.put, List.setIfInBounds_toArray, List.set_cons_zero, List.set_cons_succ]))
    refine wpSteady_loud rfl (by rfl) (fun K hK => ?_)
    go_simp
    refine (four_any 6 0 ⟨#[]⟩ 6 0 ⟨#[]⟩ 2 1 ⟨#[]⟩ 2 2 ⟨#[]⟩ (by decide) (by decide) (by decide) (by decide) _).mono ?_; rintro e w9 ⟨u, rfl, hu, hb⟩
    obtain ⟨k9, n9, s9, oi9, mi9, ci9, ok9, mk9, ck9, rfl⟩ := hu.agg5
    replace HBC := hid (HBC.out.trans (hb.mono HBC.out.size))
    have HU := hid hu
    refine hK.out _ _ (C22.bel h hb) ?_
    replace h := C22.bel h hb
    clear hK K hb hu
    try simp only [Act.put, List.setIfInBounds_toArray, List.set_cons_zero, List.set_cons_succ]
    repeat (first
      | (refine wpSteady_skip (by rfl) ?_; try simp only [Act.put, List.setIfInBounds_toArray, List.set_cons_zero, List.set_cons_succ])
      | (refine wpSteady_calm (v := ?_) (by rfl) ?_ ?_; rotate_left; (focus (intro v hSv; (try simp only [C22] at hSv); go_simp; (try with_reducible rfl); done)); try simp only [Act.put, List.setIfInBounds_toArray, List.set_cons_zero, List.set_cons_succ]))
    refine wpSteady_loud rfl (by rfl) (fun K hK => ?_)
    go_simp
    have heq := requal_any db.after (fourV unkV unkV (numV 1) (numV 2)) _ _ w9 _ _ (HVb.out.bel HBC.out) HU.out
    rw [HDb.out.2.2.2.2] at heq
    refine heq.mono ?_; rintro e wz ⟨rfl, hb⟩
    replace HBC := hid (HBC.out.trans (hb.mono HBC.out.size))
    refine hK.out _ _ (C22.bel h hb) ?_
    replace h := C22.bel h hb
    clear hK K hb heq HU
    try simp only [Act.put, List.setIfInBounds_toArray, List.set_cons_zero, List.set_cons_succ]
    repeat (first
      | (refine wpSteady_skip (by rfl) ?_; try simp only [Act.put, List.setIfInBounds_toArray, List.set_cons_zero, List.set_cons_succ])
      | (refine wpSteady_calm (v := ?_) (by rfl) ?_ ?_; rotate_left; (focus (intro v hSv; (try simp only [C22] at hSv); go_simp; (try with_reducible rfl); done)); try simp only [Act.put, List.setIfInBounds_toArray, List.set_cons_zero, List.set_cons_succ]))
    refine wpSteady_nil ?_
    clear h
    have hb2 := HBC.out
    replace HOa := hid (keep_obj HOa.out hb2)
    replace HOb := hid (keep_obj HOb.out hb2)
    replace HOc := hid (keep_obj HOc.out hb2)
    replace HOd := hid (keep_obj HOd.out hb2)
    replace HVa := hid (HVa.out.bel hb2)
    replace HVb := hid (HVb.out.bel hb2)
    replace HIO6 := hid (keep_obj HIO6.out hb2)
    replace HVP6 := hid (HVP6.out.bel hb2)
    replace HSD6 := hid (HSD6.out.bel hb2)
    have AZb := hid (AZa.out.later hb2)
    obtain ⟨wyb, rfl⟩ : ∃ v, v = wz := ⟨_, rfl⟩
    clear hb2 HBC AZa
    go_upto_region 15 with (fail)
    have hdr : Below wyb.heap.size wyb wyb.drew := below_drew (Below.refl _ _)
    have h := And.intro (keep_obj HOa.out hdr) (And.intro (keep_obj HOb.out hdr) (And.intro (keep_obj HOc.out hdr) (And.intro (keep_obj HOd.out hdr) (keep_obj HIO6.out hdr))))
    have HBC := hid hdr
    refine wp_region_steady (fun v => v.heap[wqa.heap.size]? = some (.cells #[.string da.addr, .string da.deposed, .string da.type, .int .i64 2, .int .i64 2, .int .i64 ka1, .int .i64 na1, .string sa1, .slice oia1 mia1 cia1, .slice oka1 mka1 cka1, .int .i64 ka2, .int .i64 na2, .string sa2, .slice oia2 mia2 cia2, .slice oka2 mka2 cka2, .string da.id, .slice oRa da.replace.length cRa, .bool da.createFirst, .bool da.protect, .bool da.imp, .slice oda da.deps.length cda, .slice ooa 1 coa] 42) ∧ v.heap[wqb.heap.size]? = some (.cells #[.string db.addr, .string db.deposed, .string db.type, .int .i64 3, .int .i64 3, .int .i64 kb1, .int .i64 nb1, .string sb1, .slice oib1 mib1 cib1, .slice okb1 mkb1 ckb1, .int .i64 kb2, .int .i64 nb2, .string sb2, .slice oib2 mib2 cib2, .slice okb2 mkb2 ckb2, .string db.id, .slice oRb 1 cRb, .bool true, .bool db.protect, .bool db.imp, .slice odb db.deps.length cdb, .slice oob db.oldDeps.length cob] 42) ∧ v.heap[wqc.heap.size]? = some (.cells #[.string dc.addr, .string dc.deposed, .string dc.type, .int .i64 0, .int .i64 0, .int .i64 kc1, .int .i64 nc1, .string sc1, .slice oic1 mic1 cic1, .slice okc1 mkc1 ckc1, .int .i64 kc2, .int .i64 nc2, .string sc2, .slice oic2 mic2 cic2, .slice okc2 mkc2 ckc2, .string dc.id, .slice oRc dc.replace.length cRc, .bool dc.createFirst, .bool dc.protect, .bool dc.imp, .slice odc dc.deps.length cdc, .slice ooc dc.oldDeps.length coc] 42) ∧ v.heap[wqd.heap.size]? = some (.cells #[.string dd.addr, .string dd.deposed, .string dd.type, .int .i64 1, .int .i64 1, .int .i64 kd1, .int .i64 nd1, .string sd1, .slice oid1 mid1 cid1, .slice okd1 mkd1 ckd1, .int .i64 kd2, .int .i64 nd2, .string sd2, .slice oid2 mid2 cid2, .slice okd2 mkd2 ckd2, .string dd.id, .slice oRd dd.replace.length cRd, .bool dd.createFirst, .bool dd.protect, .bool dd.imp, .slice odd dd.deps.length cdd, .slice ood dd.oldDeps.length cod] 42) ∧ v.heap[w5.heap.size + 1]? = some (.cells #[.string sNetA, .string ⟨#[]⟩, .string sNet1, .string sNet, .int .i64 k5, .int .i64 n5, .string s5, .slice oi5 mi5 ci5, .slice ok5 mk5 ck5, .int .i64 1, .bool false, .bool false, .slice (some ⟨w5.heap.size, 0, none⟩) 1 1] 28)) (by kernel_rfl) (by kernel_rfl) (h) ?_
    clear hdr
    refine wpSteady_load_row rfl 42 (.tmp 3) rfl wqa.heap.size rfl _ _ (0, 0) _ (fun v hv => hv.1) Try.underlying42 rfl (by kernel_rfl) ?_
    try simp only [Act.put, List.setIfInBounds_toArray, List.set_cons_zero, List.set_cons_succ]
    refine wpSteady_load_row rfl 42 (.tmp 4) rfl wqb.heap.size rfl _ _ (0, 0) _ (fun v hv => hv.2.1) Try.underlying42 rfl (by kernel_rfl) ?_
    try simp only [Act.put, List.setIfInBounds_toArray, List.set_cons_zero, List.set_cons_succ]
    refine wpSteady_load_row rfl 42 (.tmp 5) rfl wqc.heap.size rfl _ _ (0, 0) _ (fun v hv => hv.2.2.1) Try.underlying42 rfl (by kernel_rfl) ?_
    try simp only [Act.put, List.setIfInBounds_toArray, List.set_cons_zero, List.set_cons_succ]
    refine wpSteady_load_row rfl 42 (.tmp 6) rfl wqd.heap.size rfl _ _ (0, 0) _ (fun v hv => hv.2.2.2.1) Try.underlying42 rfl (by kernel_rfl) ?_
    try simp only [Act.put, List.setIfInBounds_toArray, List.set_cons_zero, List.set_cons_succ]
    refine wpSteady_load_row rfl 28 (.tmp 1) rfl (w5.heap.size + 1) rfl _ _ (0, 0) _ (fun v hv => hv.2.2.2.2) Try.underlying28 rfl (by kernel_rfl) ?_
    try simp only [Act.put, List.setIfInBounds_toArray, List.set_cons_zero, List.set_cons_succ]
    refine wpSteady_loud rfl (by rfl) (fun K hK => ?_)
    go_simp
    refine (delete_any priorI 7 true (fun g => True) wyb.drew _ ⟨k5, n5, s5, oi5, mi5, ci5, ok5, mk5, ck5, some ⟨w5.heap.size, 0, none⟩, 1, rfl, (HVP6.out.bel HBC.out).mono fun _ _ => trivial, (HSD6.out.bel HBC.out).mono fun _ _ => trivial⟩ (by decide) (by decide) (by decide)).mono ?_
    rintro e w9 ⟨u, rfl, hu, hb⟩
    obtain ⟨ke1, ne1, se1, oie1, mie1, cie1, oke1, mke1, cke1, ke2, ne2, se2, oie2, mie2, cie2, oke2, mke2, cke2, oRe, cRe, ode, cde, ooe, coe, rfl, -, -, -, -, -⟩ := hu
    replace HBC := hid (HBC.out.trans (hb.mono HBC.out.size))
    replace h := And.intro (keep_obj h.1 hb) (And.intro (keep_obj h.2.1 hb) (And.intro (keep_obj h.2.2.1 hb) (And.intro (keep_obj h.2.2.2.1 hb) (keep_obj h.2.2.2.2 hb))))
    refine hK.out _ _ h ?_
    clear hK K hb
    try simp only [Act.put, List.setIfInBounds_toArray, List.set_cons_zero, List.set_cons_succ]
    refine wpSteady_loud rfl (by rfl) (fun K hK => ?_)
    go_simp
    generalize hwB : World.alloc w9 _ = wB
    obtain ⟨hb, hob⟩ := al_of hwB
    clear hwB
    replace h := And.intro (keep_obj h.1 hb) (And.intro (keep_obj h.2.1 hb) (And.intro (keep_obj h.2.2.1 hb) (And.intro (keep_obj h.2.2.2.1 hb) (keep_obj h.2.2.2.2 hb))))
    refine hK.out _ _ h ?_
    replace HBC := hid (HBC.out.trans (hb.mono HBC.out.size))
    clear hK K hb
    try simp only [Act.put, List.setIfInBounds_toArray, List.set_cons_zero, List.set_cons_succ]
    refine wpSteady_loud rfl (by rfl) (fun K hK => ?_)
    go_simp
    have hl110 : ∀ cs : List Value, cs.length = 110 → cs.length = [(2 : Int), 3, 0, 1, 4].length * 22 := fun cs h => h
    have hnv : NV (fun _ => True) wB (.slice (some ⟨w9.heap.size, 0, none⟩) [(2 : Int), 3, 0, 1, 4].length 5) [2, 3, 0, 1, 4] := by
      refine nv_block trivial hob (by decide) (hl110 _ (by simp)) (by simp [Value.oneCell']) (fun i a ha => ?_)
      rcases i with _ | _ | _ | _ | _ | i
      · obtain rfl := Option.some.inj ha; rfl
      · obtain rfl := Option.some.inj ha; rfl
      · obtain rfl := Option.some.inj ha; rfl
      · obtain rfl := Option.some.inj ha; rfl
      · obtain rfl := Option.some.inj ha; rfl
      · simp at ha
    clear hl110 hob
    refine Calls.mono (counts_any [2, 3, 0, 1, 4] (fun _ => True) wB _ hnv) ?_
    clear hnv
    rintro e wz ⟨rfl, hb3⟩
    have c1 : ((cntA [2, 3, 0, 1, 4] 1 : Nat) : Int) = 1 := by decide
    have c2 : ((cntA [2, 3, 0, 1, 4] 2 : Nat) : Int) = 1 := by decide
    have c3 : ((cntA [2, 3, 0, 1, 4] 3 : Nat) : Int) = 1 := by decide
    have c4 : ((cntA [2, 3, 0, 1, 4] 4 : Nat) : Int) = 1 := by decide
    simp only [c1, c2, c3, c4]
    have hb2 := HBC.out.trans (hb3.mono HBC.out.size)
    have hb := hb3
    replace h := And.intro (keep_obj h.1 hb) (And.intro (keep_obj h.2.1 hb) (And.intro (keep_obj h.2.2.1 hb) (And.intro (keep_obj h.2.2.2.1 hb) (keep_obj h.2.2.2.2 hb))))
    refine hK.out _ _ h ?_
    clear hK K c1 c2 c3 c4
    try simp only [Act.put, List.setIfInBounds_toArray, List.set_cons_zero, List.set_cons_succ]
    repeat (first
      | (refine wpSteady_skip (by rfl) ?_; try simp only [Act.put, List.setIfInBounds_toArray, List.set_cons_zero, List.set_cons_succ])
      | (refine wpSteady_calm (v := ?_) (by rfl) ?_ ?_; rotate_left; (focus (intro v hSv; (try dsimp only at hSv); go_simp; (try with_reducible rfl); done)); try simp only [Act.put, List.setIfInBounds_toArray, List.set_cons_zero, List.set_cons_succ]))
    refine wpSteady_nil ?_
    clear h hb hb3
    have HOC9 := hid (keep_obj HOc.out hb2)
    have HOD9 := hid (keep_obj HOd.out hb2)
    have HBF := hid (AZb.out.1.trans (hb2.mono AZb.out.1.size))
    clear hb2 HBC
    have x3 := (cells_in HOC9.out 3).trans rfl
    have x4 := (cells_in HOC9.out 4).trans rfl
    have y3 := (cells_in HOD9.out 3).trans rfl
    have y4 := (cells_in HOD9.out 4).trans rfl
    go_wp2_with fail
    go_ret
    exact ⟨rfl, HBF.out⟩
end Go.Proofs.Ytibiiafcnaijeaa
