/- Structs that lead round to each other, in plain words. No statement is proved here. -/
import Derived.Test.YtnblhbpfgdjnkaaGreatDoorAuJ
import Derived.Test.YtnblhbpfgdjnkaaGreatDoorMPa
namespace Go.Proofs.YtnblhbpfgdjnkaaGreatDoor
open Go.RowKit
set_option linter.unusedVariables false
set_option linter.unusedSimpArgs false
def nmL (i : Nat) : ByteArray := ⟨#[83, UInt8.ofNat (97 + i)]⟩
def namedT (i : Nat) : Ty := .mk 4 (nmL i) []
def linkT (ks : Nat → Int) (n j : Nat) : Ty := .mk (ks j) emS [namedT ((j + 1) % n)]
def chF (ks : Nat → Int) (n j : Nat) : Fi := ⟨(⟨#[97]⟩ : ByteArray), linkT ks n j⟩
def moreF (k : Int) : Fi := ⟨(⟨#[98]⟩ : ByteArray), .mk k emS [.mk 1 emS []]⟩
def chIt (fs : Nat → List Fi) (j : Nat) : It := ⟨1, nmL j, fs j, zeroT, [], zeroX, 0⟩
def chP (fs : Nat → List Fi) (n : Nat) : List It := (List.range n).map (chIt fs)
def fs0 (ks : Nat → Int) (n j : Nat) : List Fi := [chF ks n j]
def fs1 (ks : Nat → Int) (n a : Nat) (k : Int) (j : Nat) : List Fi := if j = a then [chF ks n j, moreF k] else [chF ks n j]
def intT1 : Ty := .mk 1 emS []
theorem nmL_inj {i j : Nat} (hi : i < 20) (hj : j < 20) (h : nmL i = nmL j) : i = j := by
  unfold nmL at h
  simp only [ByteArray.mk.injEq, Array.mk.injEq, List.cons.injEq, and_true, true_and] at h
  have := congrArg UInt8.toNat h
  simp at this
  omega
theorem nmL_type {i : Nat} (hi : i < 20) : typeB (nmL i) = true := by
  have h : (List.range 20).all (fun i => typeB (nmL i)) = true := by kernel_rfl
  exact List.all_eq_true.1 h i (List.mem_range.2 hi)
section
variable {fs : Nat → List Fi} {n : Nat}
theorem chP_fields (hn : n ≤ 20) {i : Nat} (hi : i < n) : fieldsT (chP fs n) (nmL i) = some (fs i) := by
  have hf : firstIt (chP fs n) (nmL i) = some (chIt fs i) := by
    unfold firstIt chP
    rw [List.find?_eq_some_iff_getElem]
    refine ⟨by simp [chIt], i, by simpa using hi, by simp, fun j hj => ?_⟩
    have hne : nmL j ≠ nmL i := fun h => by have := nmL_inj (by omega) (by omega) h; omega
    simp [chIt, sEq_ne hne]
  unfold fieldsT
  rw [hf]
  simp [chIt]
theorem chP_asks (hn : n ≤ 20) {i : Nat} (hi : i < n) (b : Bool) : asksL (chP fs n) (namedT i) b = (fs i).map fun f => (f.type, b) := by
  unfold asksL
  rw [if_pos (show (namedT i).kind = 4 from rfl)]
  show ((fieldsT (chP fs n) (nmL i)).getD []).map _ = _
  rw [chP_fields hn hi]
  rfl
end
theorem link_asks (p : List It) {ks : Nat → Int} (hk : ∀ j, ks j = 5 ∨ ks j = 8) (n j : Nat) (b : Bool) : asksL p (linkT ks n j) b = if ks j = 8 then [(namedT ((j + 1) % n), false), (namedT ((j + 1) % n), true)] else [(namedT ((j + 1) % n), b)] := by
  unfold asksL linkT
  rw [if_neg (show ¬ (Ty.mk (ks j) emS [namedT ((j + 1) % n)]).kind = 4 from by show ¬ ks j = 4; rcases hk j with h | h <;> omega)]
  show [namedT ((j + 1) % n)].flatMap (asksArg (ks j) b) = _
  simp only [List.flatMap_cons, List.flatMap_nil, List.append_nil, asksArg]
  rcases hk j with h | h
  · rw [if_neg (by omega), if_neg (by omega), if_neg (by omega), if_neg (by omega)]
  · rw [if_pos h, if_pos h]
/-- without more no question is answered no -/
theorem loop_none {ks : Nat → Int} (hk : ∀ j, ks j = 5 ∨ ks j = 8) {n : Nat} (hn : n ≤ 20) (h0 : 0 < n) {q : Qn} (h : NoQ (chP (fs0 ks n) n) q) : ¬ ((∃ i, i < n ∧ q.1 = namedT i) ∨ ∃ j, q.1 = linkT ks n j) := by
  induction h with
  | never q h =>
    rintro (⟨i, hi, he⟩ | ⟨j, he⟩)
    · rw [he] at h
      unfold neverQ namedT at h
      simp [Ty.kind] at h
    · rw [he] at h
      unfold neverQ linkT at h
      rcases hk j with h1 | h1 <;> simp [Ty.kind, h1] at h
  | ask q q' hm _ ih =>
    rintro (⟨i, hi, he⟩ | ⟨j, he⟩)
    · rw [he, chP_asks hn hi] at hm
      simp only [fs0, List.map_cons, List.map_nil, List.mem_singleton] at hm
      exact ih (.inr ⟨i, by rw [hm]; rfl⟩)
    · rw [he, link_asks _ hk] at hm
      refine ih (.inl ⟨(j + 1) % n, Nat.mod_lt _ h0, ?_⟩)
      split at hm
      · simp at hm
        rcases hm with rfl | rfl <;> rfl
      · simp at hm
        rw [hm]
/-- with a Rc, a Cell in one of them all are -/
theorem loop_all {ks : Nat → Int} (hk : ∀ j, ks j = 5 ∨ ks j = 8) {n a : Nat} {k : Int} {b : Bool} (hn : n ≤ 20) (ha : a < n) (hv : neverQ (.mk k emS [.mk 1 emS []]) b = true) : ∀ (d i : Nat), i < n → (i + d) % n = a → NoQ (chP (fs1 ks n a k) n) (namedT i, b)
  | 0, i, hi, hd => by
    rw [Nat.add_zero, Nat.mod_eq_of_lt hi] at hd
    subst hd
    refine .ask _ (.mk k emS [.mk 1 emS []], b) ?_ (.never _ hv)
    show _ ∈ asksL _ (namedT i) b
    rw [chP_asks hn hi]
    simp [fs1, moreF]
  | d + 1, i, hi, hd => by
    have ih := loop_all hk hn ha hv d ((i + 1) % n) (Nat.mod_lt _ (by omega)) (by rw [Nat.mod_add_mod, ← hd]; congr 1; omega)
    refine .ask _ (linkT ks n i, b) ?_ (.ask _ (namedT ((i + 1) % n), b) ?_ ih)
    · show _ ∈ asksL _ (namedT i) b
      rw [chP_asks hn hi]
      unfold fs1
      split <;> simp [chF]
    · show _ ∈ asksL _ (linkT ks n i) b
      rw [link_asks _ hk]
      split
      · cases b <;> simp
      · simp
theorem named_whole {i : Nat} (hi : i < 20) (d : Int) (hd : 0 < d) : (namedT i).whole d = true := by
  rw [whole_eq]
  have h1 : (namedT i).kind = 4 := rfl
  have h2 : (namedT i).args = [] := rfl
  have h3 : (namedT i).name = nmL i := rfl
  rw [h1, h2, h3, nmL_type hi]
  simp [hd, plainKind]
theorem link_whole {ks : Nat → Int} (hk : ∀ j, ks j = 5 ∨ ks j = 8) {n j : Nat} (hn : n ≤ 20) (h0 : 0 < n) : (linkT ks n j).whole 38 = true := by
  have := named_whole (i := (j + 1) % n) (by have := Nat.mod_lt (j + 1) h0; omega) 37 (by omega)
  rw [whole_eq]
  have h1 : (linkT ks n j).kind = ks j := rfl
  have h2 : (linkT ks n j).args = [namedT ((j + 1) % n)] := rfl
  have h3 : (linkT ks n j).name = emS := rfl
  rw [h1, h2, h3]
  rcases hk j with h | h <;> rw [h] <;> simp [plainKind, this]
theorem more_whole {k : Int} (hk : k = 6 ∨ k = 7) : (moreF k).type.whole 38 = true := by
  rcases hk with rfl | rfl <;> kernel_rfl
theorem loop_DQ {ks : Nat → Int} (hk : ∀ j, ks j = 5 ∨ ks j = 8) {n : Nat} (hn : n ≤ 20) (h0 : 0 < n) (fs : Nat → List Fi) (hfs : ∀ j, fs j = [chF ks n j] ∨ ∃ k, (k = 6 ∨ k = 7) ∧ fs j = [chF ks n j, moreF k]) : (chP fs n).length ≤ 30 ∧ ∀ x ∈ chP fs n, x.fields.length ≤ 6 ∧ ∀ g ∈ x.fields, DQ g.type 38 := by
  refine ⟨by simp [chP]; omega, fun x hx => ?_⟩
  obtain ⟨j, hj, rfl⟩ := List.mem_map.1 hx
  show (fs j).length ≤ 6 ∧ ∀ g ∈ fs j, DQ g.type 38
  have hl : DQ (chF ks n j).type 38 := .inl (link_whole hk hn h0)
  rcases hfs j with h | ⟨k, hk2, h⟩
  · rw [h]
    exact ⟨by simp, fun g hg => by simp at hg; subst hg; exact hl⟩
  · rw [h]
    refine ⟨by simp, fun g hg => ?_⟩
    simp at hg
    rcases hg with rfl | rfl
    · exact hl
    · exact .inl (more_whole hk2)
theorem fs1_cases (ks : Nat → Int) (n a : Nat) {k : Int} (hk : k = 6 ∨ k = 7) (j : Nat) : fs1 ks n a k j = [chF ks n j] ∨ ∃ k', (k' = 6 ∨ k' = 7) ∧ fs1 ks n a k j = [chF ks n j, moreF k'] := by
  unfold fs1
  split
  · exact .inr ⟨k, hk, rfl⟩
  · exact .inl rfl
theorem loop_yes {ks : Nat → Int} (hk : ∀ j, ks j = 5 ∨ ks j = 8) {n : Nat} (hn : n ≤ 20) {i : Nat} (hi : i < n) (b : Bool) : answerF (chP (fs0 ks n) n) 2600 (namedT i) b = some true := by
  obtain ⟨r, h1, h2, _⟩ := answer_iffD (loop_DQ hk hn (by omega) (fs0 ks n) fun j => .inl rfl) (namedT i) b
  have := (h2 (named_whole (by omega) 40 (by omega))).2 fun h => loop_none hk hn (by omega) h (.inl ⟨i, hi, rfl⟩)
  rw [h1, this]
theorem loop_no {ks : Nat → Int} (hk : ∀ j, ks j = 5 ∨ ks j = 8) {n a : Nat} {k : Int} (hk2 : k = 6 ∨ k = 7) {b : Bool} (hn : n ≤ 20) (ha : a < n) (hv : neverQ (.mk k emS [.mk 1 emS []]) b = true) {i : Nat} (hi : i < n) : answerF (chP (fs1 ks n a k) n) 2600 (namedT i) b = some false := by
  obtain ⟨r, h1, h2, _⟩ := answer_iffD (loop_DQ hk hn (by omega) (fs1 ks n a k) (fs1_cases ks n a hk2)) (namedT i) b
  have hno := loop_all hk hn ha hv (a + n - i) i hi (by rw [show i + (a + n - i) = a + n by omega, Nat.add_mod_right, Nat.mod_eq_of_lt ha])
  cases r with
  | false => exact h1
  | true => exact absurd hno ((h2 (named_whole (by omega) 40 (by omega))).1 rfl)
/-- how many questions there may be: any answer is told -/
theorem loop_any {ks : Nat → Int} (hk : ∀ j, ks j = 5 ∨ ks j = 8) {n a : Nat} {k : Int} (hk2 : k = 6 ∨ k = 7) (hn : n ≤ 20) (ha : a < n) (i : Nat) (b : Bool) : ∃ r, answerF (chP (fs1 ks n a k) n) 2600 (namedT i) b = some r := by
  obtain ⟨r, h1, _⟩ := answer_iffD (loop_DQ hk hn (by omega) (fs1 ks n a k) (fs1_cases ks n a hk2)) (namedT i) b
  exact ⟨r, h1⟩
end Go.Proofs.YtnblhbpfgdjnkaaGreatDoor
