/- Types as plain data, and what Small and Check compute. -/
import Derived.WalkKit
import Derived.Shelf.Strings.OnBuilder
namespace Go.Proofs.YtfljnigbfacmjaaGreatDoor
set_option linter.unusedVariables false
set_option linter.unusedSimpArgs false

inductive Ty where
  | mk (k : Int) (es : List Ty) (ns : List ByteArray)
theorem Ty.ind {M : Ty → Prop} (h : ∀ k es ns, (∀ e ∈ es, M e) → M (.mk k es ns)) (t : Ty) : M t :=
  Ty.rec (motive_1 := M) (motive_2 := fun es => ∀ e ∈ es, M e) (fun k es ns ih => h k es ns ih) (fun e he => absurd he List.not_mem_nil) (fun e es h1 h2 x hx => (List.mem_cons.1 hx).elim (fun e => e ▸ h1) (h2 x)) t

mutual
def leftT : Ty → Int → Int → Int
  | .mk _ es _, n, lv => if n < 1 ∨ lv < 1 then -1 else leftL es (n - 1) (lv - 1)
def leftL : List Ty → Int → Int → Int
  | [], n, _ => n
  | e :: es, n, lv => if n < 0 then n else leftL es (leftT e n lv) lv
end
theorem leftL_neg (es : List Ty) {n : Int} (lv : Int) (h : n < 0) : leftL es n lv = n := by
  cases es with
  | nil => unfold leftL; rfl
  | cons e es => unfold leftL; rw [if_pos h]

mutual
def namesT : Ty → Nat
  | .mk _ es ns => ns.length + namesL es
def namesL : List Ty → Nat
  | [] => 0
  | e :: es => namesT e + namesL es
end

mutual
def sizeT : Ty → Nat
  | .mk _ es _ => 1 + sizeL es
def sizeL : List Ty → Nat
  | [] => 0
  | e :: es => sizeT e + sizeL es
end
theorem sizeT_pos (t : Ty) : 1 ≤ sizeT t := by cases t; unfold sizeT; omega

theorem sizeT_mem {es : List Ty} {e : Ty} (h : e ∈ es) : sizeT e ≤ sizeL es := by
  induction es with
  | nil => cases h
  | cons a r ih =>
    unfold sizeL
    rcases List.mem_cons.1 h with rfl | h
    · omega
    · have := ih h; omega
theorem sizeL_len (es : List Ty) : es.length ≤ sizeL es := by
  induction es with
  | nil => simp
  | cons a r ih => unfold sizeL; have := sizeT_pos a; simp; omega
theorem sizeT_eq (k : Int) (es : List Ty) (ns : List ByteArray) : sizeT (.mk k es ns) = 1 + sizeL es := by rw [sizeT]
/-- What left leaves. -/
theorem left_le (t : Ty) : ∀ (n lv : Int), leftT t n lv = -1 ∨ (0 ≤ leftT t n lv ∧ leftT t n lv = n - sizeT t) := by
  induction t using Ty.ind with
  | h k es ns ih =>
    have key : ∀ (l : List Ty), (∀ e ∈ l, e ∈ es) → ∀ (n lv : Int), 0 ≤ n → leftL l n lv = -1 ∨ (0 ≤ leftL l n lv ∧ leftL l n lv = n - sizeL l) := by
      intro l
      induction l with
      | nil => intro _ n lv h; right; unfold leftL sizeL; omega
      | cons e l ih2 =>
        intro hl n lv hn
        unfold leftL sizeL
        rw [if_neg (by omega)]
        rcases ih e (hl e (List.mem_cons_self ..)) n lv with h1 | ⟨h1, h2⟩
        · rw [h1, leftL_neg _ _ (by omega)]; exact .inl rfl
        · rcases ih2 (fun x hx => hl x (List.mem_cons_of_mem _ hx)) (leftT e n lv) lv h1 with h3 | ⟨h3, h4⟩
          · exact .inl h3
          · refine .inr ⟨h3, ?_⟩; rw [h4, h2]; push_cast; omega
    intro n lv
    unfold leftT sizeT
    by_cases h : n < 1 ∨ lv < 1
    · rw [if_pos h]; exact .inl rfl
    · rw [if_neg h]
      rcases key es (fun _ h => h) (n - 1) (lv - 1) (by omega) with h1 | ⟨h1, h2⟩
      · exact .inl h1
      · refine .inr ⟨h1, ?_⟩; rw [h2]; push_cast; omega
theorem leftL_le (l : List Ty) : ∀ (n lv : Int), 0 ≤ n → leftL l n lv = -1 ∨ (0 ≤ leftL l n lv ∧ leftL l n lv = n - sizeL l) := by
  induction l with
  | nil => intro n lv h; right; unfold leftL sizeL; omega
  | cons e l ih2 =>
    intro n lv hn
    unfold leftL sizeL
    rw [if_neg (by omega)]
    rcases left_le e n lv with h1 | ⟨h1, h2⟩
    · rw [h1, leftL_neg _ _ (by omega)]; exact .inl rfl
    · rcases ih2 (leftT e n lv) lv h1 with h3 | ⟨h3, h4⟩
      · exact .inl h3
      · refine .inr ⟨h3, ?_⟩; rw [h4, h2]; push_cast; omega

/-! Check -/
def letterN (n : Nat) : Bool := (decide (97 ≤ n) && decide (n ≤ 122)) || ((decide (65 ≤ n) && decide (n ≤ 90)) || decide (n = 95))
def digitN (n : Nat) : Bool := decide (48 ≤ n) && decide (n ≤ 57)
def letterB (c : UInt8) : Bool := letterN c.toNat
def digitB (c : UInt8) : Bool := digitN c.toNat
/-- All but the first of the bytes of an identifier. -/
def wordB (c : UInt8) : Bool := letterB c || digitB c
def identL : List UInt8 → Bool
  | [] => false
  | c :: l => letterB c && l.all wordB && decide (l.length < 64)
def identB (s : ByteArray) : Bool := identL s.data.toList
/-- A byte of a string; 0 behind its end. -/
def byteN (s : ByteArray) (j : Nat) : Nat := (s.data.toList.getD j 0).toNat
theorem byteN_lt (s : ByteArray) (j : Nat) : byteN s j < 256 := UInt8.toNat_lt _
theorem byteN_get {s : ByteArray} {j : Nat} (h : j < s.size) : s[j].toNat = byteN s j := by
  unfold byteN
  have h2 : j < s.data.toList.length := by simpa using h
  rw [List.getD_eq_getElem?_getD, List.getElem?_eq_getElem h2]; rfl
def okAt (s : ByteArray) (j : Nat) : Bool := letterN (byteN s j) || (decide (j ≠ 0) && digitN (byteN s j))
theorem identB_iff (s : ByteArray) : identB s = true ↔ s.size ≠ 0 ∧ s.size ≤ 64 ∧ ∀ j, j < s.size → okAt s j = true := by
  have hsz : s.size = s.data.toList.length := Array.length_toList.symm
  rw [hsz]
  unfold identB okAt byteN
  generalize s.data.toList = l
  cases l with
  | nil => simp [identL]
  | cons c l =>
    simp only [identL, Bool.and_eq_true, List.all_eq_true, decide_eq_true_eq, List.length_cons]
    constructor
    · rintro ⟨⟨h1, h2⟩, h3⟩
      refine ⟨by omega, by omega, fun j hj => ?_⟩
      cases j with
      | zero => simp only [List.getD_cons_zero]; rw [show letterN c.toNat = letterB c from rfl, h1]; rfl
      | succ j =>
        have hm : l.getD j 0 ∈ l := by rw [List.getD_eq_getElem?_getD, List.getElem?_eq_getElem (by omega)]; exact List.getElem_mem _
        have := h2 _ hm
        simp only [List.getD_cons_succ]
        unfold wordB letterB digitB at this
        simpa using this
    · rintro ⟨_, h2, h3⟩
      refine ⟨⟨?_, fun x hx => ?_⟩, by omega⟩
      · have := h3 0 (by omega)
        simpa [letterB] using this
      · obtain ⟨j, hj, rfl⟩ := List.getElem_of_mem hx
        have := h3 (j + 1) (by omega)
        have e : l.getD j 0 = l[j] := by rw [List.getD_eq_getElem?_getD, List.getElem?_eq_getElem hj]; rfl
        rw [List.getD_cons_succ, e] at this
        unfold wordB letterB digitB
        simpa using this
theorem identB_bad {s : ByteArray} {j : Nat} (h : j < s.size) (hb : okAt s j = false) : identB s = false := by
  cases hi : identB s with
  | false => rfl
  | true => rw [((identB_iff s).1 hi).2.2 j h] at hb; cases hb
theorem identB_eq {s : ByteArray} (h : ∀ j, j < s.size → okAt s j = true) : identB s = (decide (s.size ≠ 0) && decide (s.size ≤ 64)) := by
  rw [Bool.eq_iff_iff, identB_iff]
  simp only [Bool.and_eq_true, decide_eq_true_eq]
  exact ⟨fun h => ⟨h.1, h.2.1⟩, fun h2 => ⟨h2.1, h2.2, h⟩⟩
def partsB (k : Int) (ne nn : Nat) : Bool :=
  if k = 4 ∨ k = 5 then decide (ne = 1) && decide (nn = 0) else if k = 6 then decide (ne = nn) else decide (0 ≤ k) && (decide (k ≤ 3) && decide (ne + nn = 0))
theorem bl_nil (x : List UInt8) : Op.bytesLess x [] = false := by cases x <;> rfl
theorem bl_cons (a b : UInt8) (x y : List UInt8) : Op.bytesLess (a :: x) (b :: y) = true ↔ a < b ∨ (a = b ∧ Op.bytesLess x y = true) := by
  rw [Op.bytesLess]; simp
theorem bl_asymm : ∀ (x y : List UInt8), Op.bytesLess x y = true → Op.bytesLess y x = false
  | x, [], h => by rw [bl_nil] at h; cases h
  | [], b :: y, _ => bl_nil _
  | a :: x, b :: y, h => by
    cases hc : Op.bytesLess (b :: y) (a :: x) with
    | false => rfl
    | true =>
      rcases (bl_cons a b x y).1 h with h1 | ⟨h1, h2⟩ <;> rcases (bl_cons b a y x).1 hc with h3 | ⟨h3, h4⟩
      · rw [UInt8.lt_iff_toNat_lt] at h1 h3; omega
      · subst h3; rw [UInt8.lt_iff_toNat_lt] at h1; omega
      · subst h1; rw [UInt8.lt_iff_toNat_lt] at h3; omega
      · rw [bl_asymm x y h2] at h4; cases h4
theorem bl_total : ∀ (x y : List UInt8), Op.bytesLess x y = false → Op.bytesLess y x = true ∨ x = y
  | [], [], _ => .inr rfl
  | a :: x, [], _ => .inl rfl
  | [], b :: y, h => by cases h
  | a :: x, b :: y, h => by
    rcases Nat.lt_trichotomy a.toNat b.toNat with h1 | h1 | h1
    · rw [(bl_cons a b x y).2 (.inl (UInt8.lt_iff_toNat_lt.2 h1))] at h; cases h
    · have e : a = b := UInt8.toNat_inj.1 h1
      subst e
      have h2 : Op.bytesLess x y = false := by
        cases hc : Op.bytesLess x y with
        | false => rfl
        | true => rw [(bl_cons a a x y).2 (.inr ⟨rfl, hc⟩)] at h; cases h
      rcases bl_total x y h2 with h3 | h3
      · exact .inl ((bl_cons a a y x).2 (.inr ⟨rfl, h3⟩))
      · exact .inr (by rw [h3])
    · exact .inl ((bl_cons b a y x).2 (.inl (UInt8.lt_iff_toNat_lt.2 h1)))
theorem bl_trans : ∀ (x y z : List UInt8), Op.bytesLess x y = true → Op.bytesLess y z = true → Op.bytesLess x z = true
  | x, y, [], _, h => by rw [bl_nil] at h; cases h
  | x, [], c :: z, h, _ => by rw [bl_nil] at h; cases h
  | [], b :: y, c :: z, _, _ => rfl
  | a :: x, b :: y, c :: z, h, k => by
    refine (bl_cons a c x z).2 ?_
    rcases (bl_cons a b x y).1 h with h1 | ⟨h1, h2⟩ <;> rcases (bl_cons b c y z).1 k with h3 | ⟨h3, h4⟩
    · left; rw [UInt8.lt_iff_toNat_lt] at h1 h3 ⊢; omega
    · subst h3; exact .inl h1
    · subst h1; exact .inl h3
    · subst h1; subst h3; exact .inr ⟨rfl, bl_trans x y z h2 h4⟩
theorem toList_inj {a b : ByteArray} (h : a.toList = b.toList) : a = b := by
  rw [ByteArray.toList_eq, ByteArray.toList_eq] at h
  exact ByteArray.ext (Array.ext' h)
def ltS (a b : ByteArray) : Bool := Op.bytesLess a.toList b.toList
theorem ltS_facts {p s : ByteArray} (h : ltS p s = true) : Op.bytesLess s.toList p.toList = false ∧ (s.toList == p.toList) = false := by
  refine ⟨bl_asymm _ _ h, ?_⟩
  cases hc : s.toList == p.toList with
  | false => rfl
  | true =>
    have := eq_of_beq hc
    unfold ltS at h
    rw [this] at h
    have := bl_asymm _ _ h
    rw [h] at this; cases this
theorem ltS_not {p s : ByteArray} (h : ltS p s = false) : (Op.bytesLess s.toList p.toList || s.toList == p.toList) = true := by
  rcases bl_total _ _ h with h1 | h1
  · rw [h1]; rfl
  · rw [h1]; simp
def badP : Option ByteArray → ByteArray → Bool
  | none, _ => false
  | some q, s => !ltS q s
def namesE : Option ByteArray → List ByteArray → Int
  | _, [] => 0
  | p, s :: r => if identB s = false then 7 else if badP p s = true then 1 else namesE (some s) r
theorem namesE_cons (p : Option ByteArray) (s : ByteArray) (r : List ByteArray) : namesE p (s :: r) = if identB s = false then 7 else if badP p s = true then 1 else namesE (some s) r := by
  cases p <;> rfl
mutual
def checkT : Ty → Int → Int
  | .mk k es ns, lv => if 32 < lv then 4 else if partsB k es.length ns.length = false then 1 else if namesE none ns ≠ 0 then namesE none ns else checkL es (lv + 1)
def checkL : List Ty → Int → Int
  | [], _ => 0
  | e :: es, lv => if checkT e lv ≠ 0 then checkT e lv else checkL es lv
end
theorem checkT_eq (k : Int) (es : List Ty) (ns : List ByteArray) (lv : Int) : checkT (.mk k es ns) lv = if 32 < lv then 4 else if partsB k es.length ns.length = false then 1 else if namesE none ns ≠ 0 then namesE none ns else checkL es (lv + 1) := by
  rw [checkT]

/-! Equality -/
mutual
def eqT : Ty → Ty → Bool
  | .mk k es ns, .mk k' es' ns' => decide (k = k') && (decide (ns = ns') && eqL es es')
def eqL : List Ty → List Ty → Bool
  | [], [] => true
  | e :: es, e' :: es' => eqT e e' && eqL es es'
  | [], _ :: _ => false
  | _ :: _, [] => false
end
theorem eqT_iff (a : Ty) : ∀ b, eqT a b = true ↔ a = b := by
  induction a using Ty.ind with
  | h k es ns ih =>
    have key : ∀ l : List Ty, (∀ e ∈ l, e ∈ es) → ∀ m, eqL l m = true ↔ l = m := by
      intro l
      induction l with
      | nil => intro _ m; cases m <;> simp [eqL]
      | cons e l ih2 =>
        intro hl m
        cases m with
        | nil => simp [eqL]
        | cons x m => simp [eqL, ih e (hl e (List.mem_cons_self ..)), ih2 (fun y hy => hl y (List.mem_cons_of_mem _ hy))]
    intro b
    obtain ⟨k', es', ns'⟩ := b
    simp [eqT, key es (fun _ h => h) es']
    exact fun _ => and_comm
theorem eqL_iff (a : List Ty) : ∀ b, eqL a b = true ↔ a = b := by
  induction a with
  | nil => intro b; cases b <;> simp [eqL]
  | cons e l ih => intro b; cases b <;> simp [eqL, eqT_iff, ih]
def eqF (f : Ty → Ty → Bool) : List Ty → List Ty → Bool
  | [], [] => true
  | e :: es, e' :: es' => f e e' && eqF f es es'
  | [], _ :: _ => false
  | _ :: _, [] => false
theorem eqF_len {f : Ty → Ty → Bool} : ∀ {es es' : List Ty}, es.length ≠ es'.length → eqF f es es' = false
  | [], [], h => absurd rfl h
  | e :: es, e' :: es', h => by rw [eqF, eqF_len (es := es) (es' := es') (fun e => h (by simp [e])), Bool.and_false]
  | [], _ :: _, _ => rfl
  | _ :: _, [], _ => rfl
theorem eqF_drop {f : Ty → Ty → Bool} {es es' : List Ty} {k : Nat} (h : k < es.length) (h' : k < es'.length) : eqF f (es.drop k) (es'.drop k) = (f es[k] es'[k] && eqF f (es.drop (k + 1)) (es'.drop (k + 1))) := by
  rw [List.drop_eq_getElem_cons h, List.drop_eq_getElem_cons h', eqF]
theorem eqL_eqF : ∀ (es es' : List Ty), eqL es es' = eqF eqT es es'
  | [], [] => by rw [eqL, eqF]
  | e :: es, e' :: es' => by rw [eqL, eqF, eqL_eqF es es']
  | [], _ :: _ => by rw [eqL, eqF]
  | _ :: _, [] => by rw [eqL, eqF]
theorem eqT_eq (k : Int) (es : List Ty) (ns : List ByteArray) (k' : Int) (es' : List Ty) (ns' : List ByteArray) : eqT (.mk k es ns) (.mk k' es' ns') = (decide (k = k') && (decide (ns = ns') && eqL es es')) := by rw [eqT]

/-! Format -/
def wordS (k : Int) : ByteArray :=
  if k = 1 then ⟨#[98, 111, 111, 108]⟩ else if k = 2 then ⟨#[110, 117, 109, 98, 101, 114]⟩ else if k = 3 then ⟨#[115, 116, 114, 105, 110, 103]⟩ else if k = 4 then ⟨#[108, 105, 115, 116]⟩ else
  if k = 5 then ⟨#[109, 97, 112]⟩ else if k = 6 then ⟨#[111, 98, 106, 101, 99, 116]⟩ else ⟨#[97, 110, 121]⟩
def joinS (l : List ByteArray) : ByteArray := ⟨(Lib.join (l.map (·.data.toList)) [44, 32]).toArray⟩
mutual
def fmtT : Ty → ByteArray
  | .mk k es ns => if k = 4 ∨ k = 5 then (if es.length = 1 then wordS k ++ ⟨#[40]⟩ ++ fmtH es ++ ⟨#[41]⟩ else wordS k) else if k = 6 then ⟨#[111, 98, 106, 101, 99, 116, 40, 123]⟩ ++ joinS (fmtL es ns) ++ ⟨#[125, 41]⟩ else wordS k
def fmtH : List Ty → ByteArray
  | [] => ⟨#[]⟩
  | e :: _ => fmtT e
def fmtL : List Ty → List ByteArray → List ByteArray
  | [], _ => []
  | e :: es, ns => match ns with
    | [] => []
    | n :: ns => (n ++ ⟨#[32, 61, 32]⟩ ++ fmtT e) :: fmtL es ns
end
theorem fmtT_eq (k : Int) (es : List Ty) (ns : List ByteArray) : fmtT (.mk k es ns) = if k = 4 ∨ k = 5 then (if es.length = 1 then wordS k ++ ⟨#[40]⟩ ++ fmtH es ++ ⟨#[41]⟩ else wordS k) else if k = 6 then ⟨#[111, 98, 106, 101, 99, 116, 40, 123]⟩ ++ joinS (fmtL es ns) ++ ⟨#[125, 41]⟩ else wordS k := by rw [fmtT]
theorem fmtL_get : ∀ (es : List Ty) (ns : List ByteArray) (j : Nat) (h1 : j < es.length) (h2 : j < ns.length), (fmtL es ns)[j]? = some (ns[j] ++ ⟨#[32, 61, 32]⟩ ++ fmtT es[j])
  | e :: es, n :: ns, 0, _, _ => by rw [fmtL]; rfl
  | e :: es, n :: ns, j + 1, h1, h2 => by
    rw [fmtL]
    exact fmtL_get es ns j (by simpa using h1) (by simpa using h2)
theorem fmtL_len : ∀ (es : List Ty) (ns : List ByteArray), (fmtL es ns).length = min es.length ns.length
  | [], ns => by rw [fmtL]; simp
  | e :: es, [] => by rw [fmtL]; simp
  | e :: es, n :: ns => by rw [fmtL, List.length_cons, fmtL_len es ns]; simp
theorem join_len_mem (sep : List UInt8) : ∀ (l : List (List UInt8)) (x : List UInt8), x ∈ l → x.length ≤ (Lib.join l sep).length := by
  intro l
  induction l with
  | nil => intro x hx; cases hx
  | cons a r ih =>
    intro x hx
    cases r with
    | nil =>
      rcases List.mem_cons.1 hx with rfl | hx
      · simp [Lib.join]
      · cases hx
    | cons b r =>
      rcases List.mem_cons.1 hx with rfl | hx
      · simp [Lib.join]
      · have := ih x hx
        simp [Lib.join] at this ⊢; omega
theorem size_eq (s : ByteArray) : s.size = s.data.toList.length := Array.length_toList.symm
theorem joinS_mem {l : List ByteArray} {s : ByteArray} (h : s ∈ l) : s.size ≤ (joinS l).size := by
  have := join_len_mem [44, 32] (l.map (·.data.toList)) s.data.toList (List.mem_map.2 ⟨s, h, rfl⟩)
  rw [size_eq, size_eq]
  unfold joinS
  simpa using this
end Go.Proofs.YtfljnigbfacmjaaGreatDoor
