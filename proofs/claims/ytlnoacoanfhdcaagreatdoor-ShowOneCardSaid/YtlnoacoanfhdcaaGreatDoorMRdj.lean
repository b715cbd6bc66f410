/- 4 texts of this proof, one behind the other: RdJ RdK RdL RdM. The statement is proved in the claim's last text. -/
import Derived.Test.YtlnoacoanfhdcaaGreatDoorMRde
namespace Go.Proofs.YtlnoacoanfhdcaaGreatDoor
open Go.RowKit
set_option linter.unusedVariables false
set_option linter.unusedSimpArgs false
theorem must2 {l : List Tok} {s : RS} {t v : ByteArray} {ts : List ByteArray} (h : AtR l s (t :: v :: ts)) : mustP l s [t, v] = s.nx.nx := by
  have h1 := h.must
  have h2 := h.next.must
  unfold mustP at h1 ⊢
  unfold mustP at h1
  rw [h1]
  exact h2
theorem whole_parts {t : Ty} {d : Int} (h : t.whole d = true) : (plainKind t.kind = true ∧ t.name = emS ∧ t.args = []) ∨ (t.kind = 4 ∧ typeB t.name = true ∧ t.args = []) ∨ ((t.kind = 5 ∨ t.kind = 6 ∨ t.kind = 7 ∨ t.kind = 8 ∨ t.kind = 9 ∨ t.kind = 11 ∨ t.kind = 12 ∨ t.kind = 13 ∨ t.kind = 14) ∧ t.name = emS ∧ ∃ a, t.args = [a] ∧ ∃ d', a.whole d' = true) := by
  rw [whole_eq] at h
  simp only [Bool.and_eq_true, decide_eq_true_eq] at h
  obtain ⟨_, h1, h2, h3⟩ := h
  by_cases hp : plainKind t.kind = true
  · rw [if_pos hp] at h3
    simp only [Bool.and_eq_true, decide_eq_true_eq] at h3
    exact .inl ⟨hp, emS_eq h3.1, List.eq_nil_of_length_eq_zero h3.2⟩
  · rw [if_neg hp] at h3
    by_cases h4 : t.kind = 4
    · rw [if_pos h4] at h3
      simp only [Bool.and_eq_true, decide_eq_true_eq] at h3
      exact .inr (.inl ⟨h4, h3.1, List.eq_nil_of_length_eq_zero h3.2⟩)
    · rw [if_neg h4] at h3
      simp only [Bool.and_eq_true, decide_eq_true_eq] at h3
      have hk : t.kind ≠ 1 ∧ t.kind ≠ 2 ∧ t.kind ≠ 3 ∧ t.kind ≠ 10 := by unfold plainKind at hp; simp at hp; omega
      refine .inr (.inr ⟨by omega, emS_eq h3.1, ?_⟩)
      match ha : t.args with
      | [] => rw [ha] at h3; simp at h3
      | [a] => rw [ha] at h3; exact ⟨a, rfl, d - 1, by simpa using h3.2.2⟩
      | a :: b :: r => rw [ha] at h3; simp at h3
def tyWords : List ByteArray := [(⟨#[105, 110, 116]⟩ : ByteArray), (⟨#[98, 111, 111, 108]⟩ : ByteArray), (⟨#[117, 110, 105, 116]⟩ : ByteArray), (⟨#[65, 116, 111, 109, 105, 99]⟩ : ByteArray), (⟨#[66, 111, 120]⟩ : ByteArray), (⟨#[67, 101, 108, 108]⟩ : ByteArray), (⟨#[82, 99]⟩ : ByteArray), (⟨#[65, 114, 99]⟩ : ByteArray), (⟨#[77, 117, 116, 101, 120]⟩ : ByteArray), (⟨#[83, 101, 110, 100, 101, 114]⟩ : ByteArray), (⟨#[82, 101, 99, 101, 105, 118, 101, 114]⟩ : ByteArray), (⟨#[38]⟩ : ByteArray)]
theorem ty_eta {t : Ty} {k : Int} {n : ByteArray} {l : List Ty} (h1 : t.kind = k) (h2 : t.name = n) (h3 : t.args = l) : t = .mk k n l := by cases t; simp only [Ty.kind, Ty.name, Ty.args] at h1 h2 h3; rw [h1, h2, h3]
theorem ty_head {t : Ty} {d : Int} (h : t.whole d = true) : ∃ v vs, t.tk = v :: vs ∧ (kindT v = 3 ∨ inL v tyWords = true) := by
  rw [tyTk_eq]
  rcases whole_parts h with ⟨h1, h2, h3⟩ | ⟨h1, h2, h3⟩ | ⟨h1, h2, a, h3, _⟩
  · unfold plainKind at h1
    simp only [Bool.or_eq_true, beq_iff_eq] at h1
    rw [h3]
    rcases h1 with ((h1 | h1) | h1) | h1 <;> rw [h1] <;> exact ⟨_, _, rfl, .inr (by kernel_rfl)⟩
  · rw [if_pos h1]
    exact ⟨_, _, rfl, .inl (kind_type h2)⟩
  · rw [h3]
    rcases h1 with h1 | h1 | h1 | h1 | h1 | h1 | h1 | h1 | h1 <;> rw [h1] <;> exact ⟨_, _, rfl, .inr (by kernel_rfl)⟩
theorem ty_rd {l : List Tok} (hk : Kinds l) : ∀ (t : Ty) (d : Int), t.whole d = true → ∀ (n : Nat), t.tk.length ≤ n → ∀ r, Rd l (kindP l n) id t.tk r t := by
  intro t
  induction t using Ty.ind with
  | h t ih =>
  intro d hd n hn r s hs
  have hpos : 1 ≤ t.tk.length := by
    obtain ⟨v, vs, hv, _⟩ := ty_head hd
    rw [hv]; simp
  obtain ⟨m, rfl⟩ : ∃ m, n = m + 1 := ⟨n - 1, by omega⟩
  have htk := tyTk_eq t
  rcases whole_parts hd with ⟨h1, h2, h3⟩ | ⟨h1, h2, h3⟩ | ⟨h1, h2, a, h3, d', ha⟩
  · have hw : ∀ w, kindT w = 1 → sEq w (⟨#[38]⟩ : ByteArray) = false → findK w wordK = some t.kind → AtR l s (w :: r) → ∃ y s', kindP l (m + 1) s = some (y, s') ∧ AtR l s' r ∧ s'.full = s.full ∧ id y = t := fun w k1 k2 k3 h0 => by
      refine ⟨.mk t.kind emS [], s.nx, ?_, h0.next, rfl, (ty_eta rfl h2 h3).symm⟩
      rw [kindP, h0.is, k2, if_neg (by simp), h0.hand hk, k1, if_neg (by decide), h0.takeT hk k1, k3]
      simp only
      rw [h0.takeP hk k1]
    unfold plainKind at h1
    simp only [Bool.or_eq_true, beq_iff_eq] at h1
    rcases h1 with ((h1 | h1) | h1) | h1 <;> (rw [h1, h3] at htk; rw [htk] at hs; exact hw _ (by kernel_rfl) (by kernel_rfl) (by rw [h1]; kernel_rfl) hs)
  · rw [if_pos h1] at htk
    rw [htk] at hs
    have h0 : AtR l s (t.name :: r) := hs
    have hkn := kind_type h2
    refine ⟨.mk 4 t.name [], s.nx, ?_, h0.next, rfl, (ty_eta h1 rfl h3).symm⟩
    rw [kindP, h0.is, ne_kind (by rw [hkn]; decide), if_neg (by simp), h0.hand hk, hkn, if_pos (by decide), h0.takeT hk hkn, h0.takeP hk hkn]
  · have iha := ih a (by rw [h3]; simp) d' ha
    obtain ⟨v, vs, hv, hvk⟩ := ty_head ha
    have hvm : sEq v (⟨#[109, 117, 116]⟩ : ByteArray) = false := by
      rcases hvk with h | h
      · exact ne_kind (by rw [h]; decide)
      · exact headL_ok _ _ (by kernel_rfl) h
    have hh : Ty.tkh t.args = a.tk := by rw [h3, Ty.tkh]
    have hwrap : ∀ w, kindT w = 1 → sEq w (⟨#[38]⟩ : ByteArray) = false → findK w wordK = none → findK w wrapK = some t.kind → t.tk = w :: (⟨#[60]⟩ : ByteArray) :: (a.tk ++ [(⟨#[62]⟩ : ByteArray)]) → ∃ y s', kindP l (m + 1) s = some (y, s') ∧ AtR l s' r ∧ s'.full = s.full ∧ id y = t := fun w k1 k2 k3 k4 k5 => by
      rw [k5] at hs hn
      simp only [List.length_cons, List.length_append] at hn
      have h0 : AtR l s (w :: (⟨#[60]⟩ : ByteArray) :: (a.tk ++ (⟨#[62]⟩ : ByteArray) :: r)) := by
        have := hs
        simpa [List.append_assoc] using this
      obtain ⟨y, s', e1, e2, e3, e4⟩ := iha m (by omega) ((⟨#[62]⟩ : ByteArray) :: r) s.nx.nx h0.next.next
      refine ⟨.mk t.kind emS [y], s'.nx, ?_, e2.next, e3, ?_⟩
      · rw [kindP, h0.is, k2, if_neg (by simp), h0.hand hk, k1, if_neg (by decide), h0.takeT hk k1, k3]
        simp only
        rw [k4]
        simp only
        rw [h0.takeP hk k1, h0.next.must, e1]
        simp only [Option.map_some]
        rw [e2.must]
      · have e5 : y = a := e4
        rw [e5]; exact (ty_eta rfl h2 h3).symm
    rw [hh] at htk
    have hl : ¬ t.args.length = 0 := by rw [h3]; simp
    rcases h1 with h1 | h1 | h1 | h1 | h1 | h1 | h1 | h1 | h1
    · rw [if_neg (by omega), if_neg (by omega), if_neg (by omega), if_neg hl, h1] at htk
      exact hwrap _ (by kernel_rfl) (by kernel_rfl) (by kernel_rfl) (by rw [h1]; kernel_rfl) htk
    · rw [if_neg (by omega), if_neg (by omega), if_neg (by omega), if_neg hl, h1] at htk
      exact hwrap _ (by kernel_rfl) (by kernel_rfl) (by kernel_rfl) (by rw [h1]; kernel_rfl) htk
    · rw [if_neg (by omega), if_neg (by omega), if_neg (by omega), if_neg hl, h1] at htk
      exact hwrap _ (by kernel_rfl) (by kernel_rfl) (by kernel_rfl) (by rw [h1]; kernel_rfl) htk
    · rw [if_neg (by omega), if_neg (by omega), if_neg (by omega), if_neg hl, h1] at htk
      exact hwrap _ (by kernel_rfl) (by kernel_rfl) (by kernel_rfl) (by rw [h1]; kernel_rfl) htk
    · rw [if_neg (by omega), if_neg (by omega), if_neg (by omega), if_neg hl, h1] at htk
      exact hwrap _ (by kernel_rfl) (by kernel_rfl) (by kernel_rfl) (by rw [h1]; kernel_rfl) htk
    · rw [if_neg (by omega), if_neg (by omega), if_neg (by omega), if_neg hl, h1] at htk
      exact hwrap _ (by kernel_rfl) (by kernel_rfl) (by kernel_rfl) (by rw [h1]; kernel_rfl) htk
    · rw [if_neg (by omega), if_neg (by omega), if_neg (by omega), if_neg hl, h1] at htk
      exact hwrap _ (by kernel_rfl) (by kernel_rfl) (by kernel_rfl) (by rw [h1]; kernel_rfl) htk
    · rw [if_neg (by omega), if_pos h1] at htk
      rw [htk] at hs hn
      simp only [List.length_cons] at hn
      have h0 : AtR l s ((⟨#[38]⟩ : ByteArray) :: (a.tk ++ r)) := hs
      have h01 : AtR l s.nx (v :: (vs ++ r)) := by
        have := h0.next
        rw [hv] at this
        exact this
      obtain ⟨y, s', e1, e2, e3, e4⟩ := iha m (by omega) r s.nx h0.next
      refine ⟨.mk 13 emS [y], s', ?_, e2, e3, ?_⟩
      · rw [kindP, h0.is, sEq_self, if_pos rfl]
        simp only
        rw [h0.may, h01.mayN hvm, h01.is, hvm, e1]; rfl
      · have e5 : y = a := e4
        rw [e5]; exact (ty_eta h1 h2 h3).symm
    · rw [if_neg (by omega), if_neg (by omega), if_pos h1] at htk
      rw [htk] at hs hn
      simp only [List.length_cons] at hn
      have h0 : AtR l s ((⟨#[38]⟩ : ByteArray) :: (⟨#[109, 117, 116]⟩ : ByteArray) :: (a.tk ++ r)) := hs
      obtain ⟨y, s', e1, e2, e3, e4⟩ := iha m (by omega) r s.nx.nx h0.next.next
      refine ⟨.mk 14 emS [y], s', ?_, e2, e3, ?_⟩
      · rw [kindP, h0.is, sEq_self, if_pos rfl]
        simp only
        rw [h0.may, h0.next.may, h0.next.is, sEq_self, e1]; rfl
      · have e5 : y = a := e4
        rw [e5]; exact (ty_eta h1 h2 h3).symm
/-! ### Fields, variants -/
theorem field_rd {l : List Tok} (hk : Kinds l) {f : Fi} (hn : nameB f.name = true) {d : Int} (hw : f.type.whole d = true) {n : Nat} (hl : f.type.tk.length ≤ n) (r : List ByteArray) : Rd l (fieldP l n) id (fieldTk f) r f := fun s hs => by
  have h0 : AtR l s (f.name :: (⟨#[58]⟩ : ByteArray) :: (f.type.tk ++ r)) := hs
  obtain ⟨y, s', e1, e2, e3, e4⟩ := ty_rd hk f.type d hw n hl r s.nx.nx h0.next.next
  have e5 : y = f.type := e4
  refine ⟨f, s', ?_, e2, e3, rfl⟩
  unfold fieldP
  rw [h0.takeP hk (kind_name hn), h0.next.must, h0.takeT hk (kind_name hn), e1, e5]; rfl
theorem variant_rd {l : List Tok} (hk : Kinds l) {f : Fi} (hn : typeB f.name = true) (hw : zeroTyB f.type = true ∨ ∃ d, f.type.whole d = true) {n : Nat} (hl : f.type.tk.length ≤ n) {r : List ByteArray} (hr : ∀ t ts, r = t :: ts → sEq t (⟨#[40]⟩ : ByteArray) = false) : Rd l (variantP l n) id (varTk f) r f := fun s hs => by
  have hkn := kind_type hn
  unfold varTk at hs
  rcases hw with hw | ⟨d, hw⟩
  · unfold zeroTyB at hw
    simp only [Bool.and_eq_true, beq_iff_eq, decide_eq_true_eq] at hw
    rw [if_pos hw.1] at hs
    have h0 : AtR l s (f.name :: r) := hs
    have hi : isP l s.nx (⟨#[40]⟩ : ByteArray) 0 = false := by
      have h3 := h0.next
      cases r with
      | nil => exact h3.is_nil _ _
      | cons t ts => rw [h3.is]; exact hr t ts rfl
    refine ⟨f, s.nx, ?_, h0.next, rfl, rfl⟩
    unfold variantP
    simp only
    rw [h0.takeP hk hkn, hi, if_neg (by simp), h0.takeT hk hkn]
    have e : f.type = zeroT := ty_eta hw.1 (emS_eq hw.2.1) (List.eq_nil_of_length_eq_zero hw.2.2)
    rw [← e]
  · have hk0 : f.type.kind ≠ 0 := fun h => by
      rw [whole_eq] at hw
      simp only [Bool.and_eq_true, decide_eq_true_eq] at hw
      omega
    rw [if_neg hk0] at hs
    have h0 : AtR l s (f.name :: (⟨#[40]⟩ : ByteArray) :: (f.type.tk ++ (⟨#[41]⟩ : ByteArray) :: r)) := by
      have := hs
      simpa [List.append_assoc] using this
    obtain ⟨y, s', e1, e2, e3, e4⟩ := ty_rd hk f.type d hw n hl ((⟨#[41]⟩ : ByteArray) :: r) s.nx.nx h0.next.next
    have e5 : y = f.type := e4
    refine ⟨f, s'.nx, ?_, e2.next, e3, rfl⟩
    unfold variantP
    simp only
    rw [h0.takeP hk hkn, h0.next.is, sEq_self, if_pos rfl, h0.next.may, e1, h0.takeT hk hkn]
    simp only [Option.map_some]
    rw [e2.must, e5]
end Go.Proofs.YtlnoacoanfhdcaaGreatDoor

namespace Go.Proofs.YtlnoacoanfhdcaaGreatDoor
open Go.RowKit
set_option linter.unusedVariables false
set_option linter.unusedSimpArgs false
abbrev keySt : St → St := St.atm fun _ => 0
abbrev keyAr : Ar → Ar := Ar.atm fun _ => 0
/-- what a whole statement has -/
structure StF (s : St) : Prop where
  op : 1 ≤ s.op ∧ s.op ≤ 13
  cnt : countB s.op s.int = true
  nm : fmN s.op s.name = true
  sd : fmS s.op s.second = true
  len : (s.exprs.length : Int) = fmExprs s.op s.names.length
  ns : (∀ x ∈ s.names, nameB x = true) ∧ (s.names.length : Int) ≤ fmNames s.op
  ty : fmTyped s.op = true → ∃ d, s.type.whole d = true
  ty0 : fmTyped s.op = false → s.type = zeroT
  pl : fmPlaced s.op = true → s.place.whole = true
  pl0 : fmPlaced s.op = false → s.place = zeroPl
  b0 : fmBody s.op = false → s.body = []
  e0 : fmElse s.op = false → s.els = []
  a0 : fmArms s.op = false → s.arms = []
  es : ∀ e ∈ s.exprs, (fmLent s.op = true ∨ lentOp e.op = false) ∧ ∃ d, e.whole d = true
  bw : ∀ x ∈ s.body, ∃ d, x.whole d = true
  ew : ∀ x ∈ s.els, ∃ d, x.whole d = true
  ar : s.arms.length ≤ 6 ∧ ∀ a ∈ s.arms, typeB a.variant = true ∧ (a.name = emS ∨ nameB a.name = true) ∧ ∀ x ∈ a.body, ∃ d, x.whole d = true
theorem st_facts {s : St} {d : Int} (h : s.whole d = true) : StF s := by
  rw [stWhole_eq] at h
  simp only [Bool.and_eq_true, Bool.or_eq_true, decide_eq_true_eq] at h
  obtain ⟨_, hh, hb, he, ha, hx, hwb, hwe, hwa⟩ := h
  unfold stHead at hh
  simp only [Bool.and_eq_true, Bool.or_eq_true, decide_eq_true_eq, beq_iff_eq] at hh
  obtain ⟨k1, k2, k3, k4, k5, k6, k7, k8, k9, k10⟩ := hh
  unfold fmOk at k1
  simp only [Bool.and_eq_true, decide_eq_true_eq] at k1
  have n6 := allUp_pair k6
  have x6 := allUp_pair hx
  have a6 := allUp_pair hwa
  refine ⟨k1, k2, k3, k4, k5, ⟨n6.2, n6.1⟩, fun e => ⟨d - 1, by rw [← k7, e]⟩, fun e => ?_, fun e => by rw [← k9, e], fun e => ?_, fun e => ?_, fun e => ?_, fun e => ?_, fun e hm => ?_, fun x hm => ⟨d - 1, List.all_eq_true.1 hwb x hm⟩, fun x hm => ⟨d - 1, List.all_eq_true.1 hwe x hm⟩, by have := a6.1; omega, fun a hm => ?_⟩
  · rcases k8 with k8 | k8
    · rw [e] at k8; cases k8
    · unfold zeroTyB at k8
      simp only [Bool.and_eq_true, beq_iff_eq, decide_eq_true_eq] at k8
      exact ty_eta k8.1 (emS_eq k8.2.1) (List.eq_nil_of_length_eq_zero k8.2.2)
  · rcases k10 with k10 | k10
    · rw [e] at k10; cases k10
    · exact noPl_eq k10
  · rcases hb with hb | hb
    · rw [e] at hb; cases hb
    · exact List.eq_nil_of_length_eq_zero hb
  · rcases he with hb | hb
    · rw [e] at hb; cases hb
    · exact List.eq_nil_of_length_eq_zero hb
  · rcases ha with hb | hb
    · rw [e] at hb; cases hb
    · exact List.eq_nil_of_length_eq_zero hb
  · have := x6.2 e hm
    simp only [Bool.and_eq_true, Bool.or_eq_true, Bool.not_eq_true'] at this
    exact ⟨this.1, d - 1, this.2⟩
  · have := a6.2 a hm
    unfold Ar.whole at this
    simp only [Bool.and_eq_true, Bool.or_eq_true] at this
    exact ⟨this.1, this.2.1.imp emS_eq id, fun x hx => ⟨d - 1, List.all_eq_true.1 this.2.2 x hx⟩⟩
/-- one statement at hand -/
def One (l : List Tok) (n : Nat) (s0 : RS) (st : St) (s1 : RS) : Prop :=
  stepQ l n (strongQ l n 6) (innerQ l n []) s0 = some (some st, s1) ∨ (stepQ l n (strongQ l n 6) (innerQ l n []) s0 = some (none, s0) ∧ ∃ e s2, strongQ l n 6 s0 = some (e, s2) ∧ isP l s2 (⟨#[125]⟩ : ByteArray) 0 = false ∧ s1 = mustP l s2 [(⟨#[59]⟩ : ByteArray)] ∧ st = (st0 4 emS emS [e] [] []).at (placeP l s0))
theorem inner_one {l : List Tok} {n : Nat} {s0 s1 : RS} {st : St} (h : One l n s0 st s1) {t : ByteArray} {ts : List ByteArray} (h0 : AtR l s0 (t :: ts)) (ht : sEq t (⟨#[125]⟩ : ByteArray) = false) (acc : List St) : innerQ l (n + 1) acc s0 = innerQ l n (acc ++ [st]) s1 := by
  rw [innerQ, if_neg (by rw [h0.ok]; simp), h0.is, ht, if_neg (by simp)]
  rcases h with h | ⟨h, e, s2, h1, h2, rfl, rfl⟩
  · rw [h]
  · rw [h]
    simp only
    rw [h1]
theorem body_one {l : List Tok} {n : Nat} {s0 s1 : RS} {st : St} (h : One l n s0 st s1) (h0 : s0.bad = false) (acc : List St) : bodyQ l (n + 1) acc s0 = bodyQ l n (acc ++ [st]) s1 := by
  rw [bodyQ, if_neg (by rw [h0]; simp)]
  rcases h with h | ⟨h, e, s2, h1, h2, rfl, rfl⟩
  · rw [h]
  · rw [h]
    simp only
    rw [h1]
    simp only
    rw [h2, if_neg (by simp)]
/-- a statement is read back -/
def Sb (l : List Tok) (s : St) : Prop := ∀ n, 11 * s.tk.length + 20 ≤ n → ∀ r, (∀ t ts, r = t :: ts → sEq t (⟨#[101, 108, 115, 101]⟩ : ByteArray) = false) → ∀ s0, AtR l s0 (s.tk ++ r) → ∃ st s1, One l n s0 st s1 ∧ AtR l s1 r ∧ s1.full = s0.full ∧ keySt st = keySt s
/-- how statements begin -/
def stHeads : List ByteArray := [(⟨#[108, 101, 116]⟩ : ByteArray), (⟨#[100, 114, 111, 112]⟩ : ByteArray), (⟨#[105, 102]⟩ : ByteArray), (⟨#[119, 104, 105, 108, 101]⟩ : ByteArray), (⟨#[109, 97, 116, 99, 104]⟩ : ByteArray), (⟨#[115, 99, 111, 112, 101]⟩ : ByteArray), (⟨#[115, 112, 97, 119, 110]⟩ : ByteArray), (⟨#[108, 111, 99, 107]⟩ : ByteArray), (⟨#[99, 104, 97, 110]⟩ : ByteArray), (⟨#[123]⟩ : ByteArray)]
def StHd (t : ByteArray) : Prop := kindT t = 2 ∨ kindT t = 3 ∨ kindT t = 4 ∨ inL t headL = true ∨ inL t stHeads = true
theorem StHd.ne {t u : ByteArray} (h : StHd t) (hk : kindT u ≠ 2 ∧ kindT u ≠ 3 ∧ kindT u ≠ 4) (hu : headL.all (fun t => !sEq t u) = true) (hv : stHeads.all (fun t => !sEq t u) = true) : sEq t u = false := by
  rcases h with h1 | h1 | h1 | h1 | h1
  · exact ne_kind (by omega)
  · exact ne_kind (by omega)
  · exact ne_kind (by omega)
  · exact headL_ok _ _ hu h1
  · exact headL_ok _ _ hv h1
theorem StHd.close {t : ByteArray} (h : StHd t) : sEq t (⟨#[125]⟩ : ByteArray) = false := h.ne (by rw [show kindT (⟨#[125]⟩ : ByteArray) = 5 by kernel_rfl]; omega) (by kernel_rfl) (by kernel_rfl)
theorem StHd.els {t : ByteArray} (h : StHd t) : sEq t (⟨#[101, 108, 115, 101]⟩ : ByteArray) = false := h.ne (by rw [show kindT (⟨#[101, 108, 115, 101]⟩ : ByteArray) = 1 by kernel_rfl]; omega) (by kernel_rfl) (by kernel_rfl)
theorem st_head {s : St} {d : Int} (h : s.whole d = true) : ∃ t ts, s.tk = t :: ts ∧ StHd t := by
  have hF := st_facts h
  have hop := hF.op
  rw [stTk_eq]
  unfold stTk1
  by_cases h10 : s.op = 10
  · rw [if_pos h10]; exact ⟨_, _, rfl, .inr (.inr (.inr (.inr (by kernel_rfl))))⟩
  rw [if_neg h10]
  have hw : ∀ {t : ByteArray}, inL t stHeads = true → StHd t := fun h => .inr (.inr (.inr (.inr h)))
  unfold headTk
  by_cases h1 : s.op = 1
  · rw [if_pos h1]; exact ⟨_, _, rfl, hw (by kernel_rfl)⟩
  rw [if_neg h1]
  by_cases h2 : s.op = 2
  · rw [if_pos h2]; exact ⟨_, _, rfl, hw (by kernel_rfl)⟩
  rw [if_neg h2]
  by_cases h3 : s.op = 3
  · rw [if_pos h3]
    have hp := hF.pl (by rw [h3]; rfl)
    unfold Pl.whole at hp
    simp only [Bool.and_eq_true] at hp
    exact ⟨_, _, rfl, .inl (kind_name hp.1)⟩
  rw [if_neg h3]
  by_cases h5 : s.op = 5
  · rw [if_pos h5]; exact ⟨_, _, rfl, hw (by kernel_rfl)⟩
  rw [if_neg h5]
  by_cases h6 : s.op = 6
  · rw [if_pos h6]; exact ⟨_, _, rfl, hw (by kernel_rfl)⟩
  rw [if_neg h6]
  by_cases h7 : s.op = 7
  · rw [if_pos h7]; exact ⟨_, _, rfl, hw (by kernel_rfl)⟩
  rw [if_neg h7]
  by_cases h8 : s.op = 8
  · rw [if_pos h8]; exact ⟨_, _, rfl, hw (by kernel_rfl)⟩
  rw [if_neg h8]
  by_cases h9 : s.op = 9
  · rw [if_pos h9]; exact ⟨_, _, rfl, hw (by kernel_rfl)⟩
  rw [if_neg h9]
  by_cases h11 : s.op = 11
  · rw [if_pos h11]; exact ⟨_, _, rfl, hw (by kernel_rfl)⟩
  rw [if_neg h11]
  by_cases h12 : s.op = 12
  · rw [if_pos h12]; exact ⟨_, _, rfl, hw (by kernel_rfl)⟩
  rw [if_neg h12]
  by_cases h4 : s.op = 4
  · have hl := hF.len
    rw [h4] at hl
    have hl1 : s.exprs.length = 1 := by
      have : fmExprs 4 s.names.length = 1 := rfl
      omega
    obtain ⟨e, he⟩ : ∃ e, s.exprs = [e] := List.length_eq_one_iff.1 hl1
    obtain ⟨_, hw⟩ := hF.es e (by rw [he]; simp)
    obtain ⟨t, ts, ht, hh⟩ := ex_head e hw
    rw [he]
    simp only [List.map_cons, List.map_nil, List.flatten_cons, List.flatten_nil, List.nil_append, List.append_nil]
    rw [ht]
    refine ⟨t, _, rfl, ?_⟩
    rcases hh.sort with h | h | h | h
    · exact .inl h
    · exact .inr (.inl h)
    · exact .inr (.inr (.inl h))
    · exact .inr (.inr (.inr (.inl h)))
  · have h13 : s.op = 13 := by omega
    have hl := hF.len
    rw [h13] at hl
    have hl0 : s.exprs = [] := List.eq_nil_of_length_eq_zero (by have : fmExprs 13 s.names.length = 0 := rfl; omega)
    rw [hl0]
    unfold restTk
    rw [if_neg (by omega), if_pos (by omega)]
    exact ⟨_, _, rfl, hw (by kernel_rfl)⟩
/-- statements up to a brace -/
theorem inner_rd {l : List Tok} : ∀ (b : List St), (∀ s ∈ b, (∃ d, s.whole d = true) ∧ Sb l s) → ∀ (n : Nat), 11 * (b.flatMap St.tk).length + 21 ≤ n → ∀ (acc : List St) (r : List ByteArray) (s0 : RS), AtR l s0 (b.flatMap St.tk ++ (⟨#[125]⟩ : ByteArray) :: r) → ∃ b' s1, innerQ l n acc s0 = some (acc ++ b', s1) ∧ AtR l s1 r ∧ s1.full = s0.full ∧ b'.map keySt = b.map keySt
  | [], _, n, hn, acc, r, s0, h0 => by
    obtain ⟨m, rfl⟩ : ∃ m, n = m + 1 := ⟨n - 1, by omega⟩
    have h1 : AtR l s0 ((⟨#[125]⟩ : ByteArray) :: r) := h0
    refine ⟨[], s0.nx, ?_, h1.next, rfl, rfl⟩
    rw [innerQ, if_neg (by rw [h0.ok]; simp), h1.is, sEq_self, if_pos rfl, h1.may, List.append_nil]
  | s :: b, hb, n, hn, acc, r, s0, h0 => by
    obtain ⟨m, rfl⟩ : ∃ m, n = m + 1 := ⟨n - 1, by omega⟩
    obtain ⟨⟨d, hd⟩, hs⟩ := hb s (List.mem_cons_self ..)
    obtain ⟨t, ts, ht, hh⟩ := st_head hd
    rw [List.flatMap_cons, List.length_append] at hn
    have hpos : 1 ≤ s.tk.length := by rw [ht]; simp
    have h1 : AtR l s0 (s.tk ++ (b.flatMap St.tk ++ (⟨#[125]⟩ : ByteArray) :: r)) := by
      have := h0
      simpa [List.append_assoc] using this
    have h2 : AtR l s0 (t :: (ts ++ (b.flatMap St.tk ++ (⟨#[125]⟩ : ByteArray) :: r))) := by
      rw [ht] at h1; exact h1
    have helse : ∀ t ts, (b.flatMap St.tk ++ (⟨#[125]⟩ : ByteArray) :: r) = t :: ts → sEq t (⟨#[101, 108, 115, 101]⟩ : ByteArray) = false := fun t' ts' e => by
      cases b with
      | nil => cases e; kernel_rfl
      | cons s2 b =>
        obtain ⟨⟨d2, hd2⟩, _⟩ := hb s2 (by simp)
        obtain ⟨t2, ts2, ht2, hh2⟩ := st_head hd2
        rw [List.flatMap_cons, ht2] at e
        cases e
        exact hh2.els
    obtain ⟨st, s1, e1, e2, e3, e4⟩ := hs m (by omega) _ helse s0 h1
    obtain ⟨b', s2, k1, k2, k3, k4⟩ := inner_rd b (fun x hx => hb x (List.mem_cons_of_mem _ hx)) m (by omega) (acc ++ [st]) r s1 e2
    refine ⟨st :: b', s2, ?_, k2, k3.trans e3, by rw [List.map_cons, List.map_cons, e4, k4]⟩
    rw [inner_one e1 h2 hh.close, k1, List.append_assoc]; rfl
theorem block_rd {l : List Tok} {b : List St} (hb : ∀ s ∈ b, (∃ d, s.whole d = true) ∧ Sb l s) {n : Nat} (hn : 11 * (braceTk (b.flatMap St.tk)).length ≤ n + 1) (r : List ByteArray) : Rd l (blockQ l (innerQ l n [])) (List.map keySt) (braceTk (b.flatMap St.tk)) r (b.map keySt) := fun s0 h0 => by
  unfold braceTk at h0 hn
  simp only [List.length_cons, List.length_append, List.length_nil] at hn
  have h1 : AtR l s0 ((⟨#[123]⟩ : ByteArray) :: (b.flatMap St.tk ++ (⟨#[125]⟩ : ByteArray) :: r)) := by
    have := h0
    simpa [List.append_assoc] using this
  obtain ⟨b', s1, e1, e2, e3, e4⟩ := inner_rd b hb n (by omega) [] r s0.nx h1.next
  refine ⟨b', s1, ?_, e2, e3, e4⟩
  unfold blockQ
  rw [h1.must, e1]; rfl
end Go.Proofs.YtlnoacoanfhdcaaGreatDoor

namespace Go.Proofs.YtlnoacoanfhdcaaGreatDoor
open Go.RowKit
set_option linter.unusedVariables false
set_option linter.unusedSimpArgs false
theorem key_at (s : St) (pos : Int) : keySt (s.at pos) = keySt s := by
  show St.atm _ _ = St.atm _ _
  rw [stAtm, stAtm]; cases s; rfl
theorem key_st (op : Int) (nm sd : ByteArray) (ns : List ByteArray) (ty : Ty) (i : Int) (pl : Pl) (es : List Ex) (b el : List St) (ar : List Ar) (pos : Int) : keySt (.mk op nm sd ns ty i pl es b el ar pos) = .mk op nm sd ns ty i pl (es.map keyE) (b.map keySt) (el.map keySt) (ar.map keyAr) 0 := stAtm _ _
theorem key_sof {s : St} {op i : Int} {nm sd : ByteArray} {ns : List ByteArray} {ty : Ty} {pl : Pl} (h1 : s.op = op) (h2 : s.name = nm) (h3 : s.second = sd) (h4 : s.names = ns) (h5 : s.type = ty) (h6 : s.int = i) (h7 : s.place = pl) : keySt s = .mk op nm sd ns ty i pl (s.exprs.map keyE) (s.body.map keySt) (s.els.map keySt) (s.arms.map keyAr) 0 := by
  subst h1 h2 h3 h4 h5 h6 h7
  exact stAtm _ s
section
variable {l : List Tok} {n : Nat} {ex : RS → Option (Ex × RS)} {inner : Blk} {s0 s1 : RS} {st : St} {t : ByteArray} {ts : List ByteArray}
theorem step_word (h0 : AtR l s0 (t :: ts)) (hq : wordQ l n ex inner t s0.nx = some (some (st, s1))) : ∃ pos, stepQ l n ex inner s0 = some (some (st.at pos), s1) := by
  obtain ⟨x, hx, hxt, _⟩ := h0.get
  refine ⟨x.pos, ?_⟩
  unfold stepQ firstQ
  rw [if_neg (by rw [h0.ok]; simp), hx]
  simp only
  rw [hxt, show (⟨s0.at_ + 1, s0.bad, s0.full⟩ : RS) = s0.nx from rfl, hq]
theorem word_none (hno : startsK.all (fun u => !sEq t u) = true) (s : RS) : wordQ l n ex inner t s = none := by
  have h := fun u (hu : u ∈ startsK) => List.all_eq_true.1 hno u hu
  unfold startsK at h
  simp only [List.mem_cons, List.not_mem_nil, or_false, Bool.not_eq_true', forall_eq_or_imp, forall_eq] at h
  obtain ⟨k1, k2, k3, k4, k5, k6, k7, k8, k9, k10⟩ := h
  unfold wordQ
  rw [k1, k2, k3, k4, k5, k6, k7, k8, k9, k10]
  rfl
theorem step_none (h0 : AtR l s0 (t :: ts)) (hno : startsK.all (fun u => !sEq t u) = true) : stepQ l n ex inner s0 = assignQ l n ex s0 := by
  obtain ⟨x, hx, hxt, _⟩ := h0.get
  unfold stepQ firstQ
  rw [if_neg (by rw [h0.ok]; simp), hx]
  simp only
  rw [hxt, word_none hno]
end
theorem no_start {t : ByteArray} (h : kindT t = 2 ∨ kindT t = 3 ∨ kindT t = 4 ∨ inL t headL = true) : startsK.all (fun u => !sEq t u) = true := by
  rw [List.all_eq_true]
  intro u hu
  have hk : kindT u ≠ 2 ∧ kindT u ≠ 3 ∧ kindT u ≠ 4 := by
    have := List.all_eq_true.1 (show (startsK.all fun u => kindT u == 1 || kindT u == 5) = true by kernel_rfl) u hu
    simp only [Bool.or_eq_true, beq_iff_eq] at this
    omega
  have hh : headL.all (fun t => !sEq t u) = true := List.all_eq_true.1 (show (startsK.all fun u => headL.all fun t => !sEq t u) = true by kernel_rfl) u hu
  have : sEq t u = false := by
    rcases h with h1 | h1 | h1 | h1
    · exact ne_kind (by omega)
    · exact ne_kind (by omega)
    · exact ne_kind (by omega)
    · exact headL_ok _ _ hh h1
  rw [this]; rfl
section
variable {l : List Tok} (hk : Kinds l) {s : St} (hF : StF s) {n : Nat} {r : List ByteArray} {s0 : RS}
theorem one_expr (h : fmExprs s.op s.names.length = 1) (hF : StF s) : ∃ e, s.exprs = [e] := List.length_eq_one_iff.1 (by have := hF.len; omega)
theorem no_expr (h : fmExprs s.op s.names.length = 0) (hF : StF s) : s.exprs = [] := List.eq_nil_of_length_eq_zero (by have := hF.len; omega)
theorem no_names (h : fmNames s.op = 0) (hF : StF s) : s.names = [] := List.eq_nil_of_length_eq_zero (by have := hF.ns.2; omega)
theorem int0 (h : s.op ≠ 12) (hF : StF s) : s.int = 0 := by
  have := hF.cnt
  unfold countB at this
  rw [if_neg h] at this
  simpa using this
theorem nm_name (h : s.op = 1 ∨ s.op = 5 ∨ s.op = 8 ∨ s.op = 11 ∨ s.op = 12) (hF : StF s) : nameB s.name = true := by
  have := hF.nm
  unfold fmN at this
  rwa [if_pos h] at this
theorem nm_none (h : ¬ (s.op = 1 ∨ s.op = 5 ∨ s.op = 8 ∨ s.op = 11 ∨ s.op = 12)) (h2 : s.op ≠ 2) (hF : StF s) : s.name = emS := by
  have := hF.nm
  unfold fmN at this
  rw [if_neg h, if_neg h2] at this
  exact emS_eq this
theorem sd_none (h : s.op ≠ 8) (h2 : s.op ≠ 12) (hF : StF s) : s.second = emS := by
  have := hF.sd
  unfold fmS at this
  rw [if_neg h, if_neg h2] at this
  exact emS_eq this
include hk in
theorem st_let (hF : StF s) (h1 : s.op = 1) (hE : ∀ e ∈ s.exprs, lentOp e.op = false → Eb l e) (hn : 11 * s.tk.length + 20 ≤ n) (h0 : AtR l s0 (s.tk ++ r)) : ∃ st s1, One l n s0 st s1 ∧ AtR l s1 r ∧ s1.full = s0.full ∧ keySt st = keySt s := by
  obtain ⟨e, he⟩ := one_expr (by rw [h1]; rfl) hF
  have hem : e ∈ s.exprs := by rw [he]; simp
  have htk : s.tk = (⟨#[108, 101, 116]⟩ : ByteArray) :: s.name :: (⟨#[61]⟩ : ByteArray) :: (e.tk ++ [(⟨#[59]⟩ : ByteArray)]) := by
    rw [stTk_eq, he]
    unfold stTk1 headTk restTk
    rw [if_neg (by omega), if_pos h1, if_pos (by omega)]
    simp
  rw [htk] at h0 hn
  simp only [List.length_cons, List.length_append, List.length_nil] at hn
  have h0 : AtR l s0 ((⟨#[108, 101, 116]⟩ : ByteArray) :: s.name :: (⟨#[61]⟩ : ByteArray) :: (e.tk ++ (⟨#[59]⟩ : ByteArray) :: r)) := by
    have := h0
    simpa [List.append_assoc] using this
  have hkn := kind_name (nm_name (by omega) hF)
  obtain ⟨y, s1, e1, e2, e3, e4⟩ := lent_rd hk (hF.es e hem).2 (hE e hem) (n := n) (by omega) (okR_end 0 (t := (⟨#[59]⟩ : ByteArray)) (ts := r) (by kernel_rfl)) s0.nx.nx.nx h0.next.next.next
  have hq : wordQ l n (strongQ l n 6) (innerQ l n []) (⟨#[108, 101, 116]⟩ : ByteArray) s0.nx = some (some (st0 1 s.name emS [y] [] [], s1.nx)) := by
    have h2 : wordQ l n (strongQ l n 6) (innerQ l n []) (⟨#[108, 101, 116]⟩ : ByteArray) s0.nx = some (letQ l n (strongQ l n 6) s0.nx) := by kernel_rfl
    rw [h2]
    unfold letQ
    rw [h0.next.hand hk, hkn, if_neg (by decide), h0.next.takeP hk hkn, h0.next.next.must, e1, h0.next.takeT hk hkn]
    simp only [Option.map_some]
    rw [e2.must]
  obtain ⟨pos, hp⟩ := step_word h0 hq
  refine ⟨_, s1.nx, .inl hp, e2.next, e3, ?_⟩
  rw [key_at, key_st, key_sof h1 rfl (sd_none (by omega) (by omega) hF) (no_names (by rw [h1]; rfl) hF) (hF.ty0 (by rw [h1]; rfl)) (int0 (by omega) hF) (hF.pl0 (by rw [h1]; rfl)), he, hF.b0 (by rw [h1]; rfl), hF.e0 (by rw [h1]; rfl), hF.a0 (by rw [h1]; rfl)]
  show St.mk _ _ _ _ _ _ _ [keyE y] _ _ _ _ = _
  rw [e4]; rfl
include hk in
theorem st_take (hF : StF s) (h1 : s.op = 2) (hE : ∀ e ∈ s.exprs, lentOp e.op = false → Eb l e) (hn : 11 * s.tk.length + 20 ≤ n) (h0 : AtR l s0 (s.tk ++ r)) : ∃ st s1, One l n s0 st s1 ∧ AtR l s1 r ∧ s1.full = s0.full ∧ keySt st = keySt s := by
  obtain ⟨e, he⟩ := one_expr (by rw [h1]; rfl) hF
  have hem : e ∈ s.exprs := by rw [he]; simp
  have hle : lentOp e.op = false := by
    rcases (hF.es e hem).1 with h | h
    · rw [h1] at h; cases h
    · exact h
  have htk : s.tk = (⟨#[108, 101, 116]⟩ : ByteArray) :: s.name :: (⟨#[123]⟩ : ByteArray) :: (commas (s.names.map fun x => [x]) ++ ([(⟨#[125]⟩ : ByteArray)] ++ ((⟨#[61]⟩ : ByteArray) :: (e.tk ++ [(⟨#[59]⟩ : ByteArray)])))) := by
    rw [stTk_eq, he]
    unfold stTk1 headTk restTk
    rw [if_neg (by omega), if_neg (by omega), if_pos h1, if_pos (by omega)]
    simp
  rw [htk] at h0 hn
  simp only [List.length_cons, List.length_append, List.length_nil] at hn
  have h0 : AtR l s0 ((⟨#[108, 101, 116]⟩ : ByteArray) :: s.name :: (⟨#[123]⟩ : ByteArray) :: (commas (s.names.map fun x => [x]) ++ [(⟨#[125]⟩ : ByteArray)] ++ ((⟨#[61]⟩ : ByteArray) :: (e.tk ++ (⟨#[59]⟩ : ByteArray) :: r)))) := by
    have := h0
    simpa [List.append_assoc] using this
  have hnm : typeB s.name = true := by
    have := hF.nm
    unfold fmN at this
    rwa [if_neg (by omega), if_pos h1] at this
  have hkn := kind_type hnm
  have hn6 : s.names.length ≤ 6 := by have := hF.ns.2; rw [h1] at this; have e6 : fmNames 2 = 6 := rfl; omega
  obtain ⟨ys, s1, e1, e2, e3, e4⟩ := list_rd (l := l) (f := nameQ l) (key := id) (e := (⟨#[125]⟩ : ByteArray)) (by kernel_rfl) ((⟨#[61]⟩ : ByteArray) :: (e.tk ++ (⟨#[59]⟩ : ByteArray) :: r)) (s.names.map fun x => ([x], x)) (fun x hx r0 hr0 sx hsx => by
    obtain ⟨a, ha, rfl⟩ := List.mem_map.1 hx
    have hsx0 : AtR l sx (a :: r0) := hsx
    have hka := kind_name (hF.ns.1 a ha)
    refine ⟨a, sx.nx, ?_, hsx0.next, rfl, rfl⟩
    unfold nameQ
    rw [hsx0.takeT hk hka, hsx0.takeP hk hka]) (fun x hx => by
    obtain ⟨a, ha, rfl⟩ := List.mem_map.1 hx
    exact ⟨a, [], rfl, ne_kind (by rw [kind_name (hF.ns.1 a ha)]; decide)⟩) (by simpa using hn6) (n := n) (by simp; omega) s0.nx.nx.nx (by
    have := h0.next.next.next
    simpa [List.map_map, Function.comp_def] using this)
  have e5 : ys = s.names := by
    have := e4
    simpa [List.map_map, Function.comp_def] using this
  subst e5
  obtain ⟨y, s2, k1, k2, k3, k4⟩ := hE e hem hle n (by omega) ((⟨#[59]⟩ : ByteArray) :: r) (okR_end 0 (by kernel_rfl)) s1.nx e2.next
  have hq : wordQ l n (strongQ l n 6) (innerQ l n []) (⟨#[108, 101, 116]⟩ : ByteArray) s0.nx = some (some (.mk 2 s.name emS s.names zeroT 0 zeroPl [y] [] [] [] 0, s2.nx)) := by
    have h2 : wordQ l n (strongQ l n 6) (innerQ l n []) (⟨#[108, 101, 116]⟩ : ByteArray) s0.nx = some (letQ l n (strongQ l n 6) s0.nx) := by kernel_rfl
    rw [h2]
    unfold letQ
    rw [h0.next.hand hk, hkn, if_pos (by decide), h0.next.takeP hk hkn, h0.next.next.must, e1]
    simp only
    rw [e2.must, k1, h0.next.takeT hk hkn]
    simp only [Option.map_some]
    rw [k2.must]
  obtain ⟨pos, hp⟩ := step_word h0 hq
  refine ⟨_, s2.nx, .inl hp, k2.next, k3.trans e3, ?_⟩
  rw [key_at, key_st, key_sof h1 rfl (sd_none (by omega) (by omega) hF) rfl (hF.ty0 (by rw [h1]; rfl)) (int0 (by omega) hF) (hF.pl0 (by rw [h1]; rfl)), he, hF.b0 (by rw [h1]; rfl), hF.e0 (by rw [h1]; rfl), hF.a0 (by rw [h1]; rfl)]
  show St.mk _ _ _ _ _ _ _ [keyE y] _ _ _ _ = _
  rw [k4]; rfl
include hk in
theorem st_drop (hF : StF s) (h1 : s.op = 5) (h0 : AtR l s0 (s.tk ++ r)) : ∃ st s1, One l n s0 st s1 ∧ AtR l s1 r ∧ s1.full = s0.full ∧ keySt st = keySt s := by
  have he := no_expr (by rw [h1]; rfl) hF
  have htk : s.tk = [(⟨#[100, 114, 111, 112]⟩ : ByteArray), s.name, (⟨#[59]⟩ : ByteArray)] := by
    rw [stTk_eq, he]
    unfold stTk1 headTk restTk
    rw [if_neg (by omega), if_neg (by omega), if_neg (by omega), if_neg (by omega), if_pos h1, if_neg (by omega), if_neg (by omega)]
    simp
  rw [htk] at h0
  have h0 : AtR l s0 ((⟨#[100, 114, 111, 112]⟩ : ByteArray) :: s.name :: (⟨#[59]⟩ : ByteArray) :: r) := h0
  have hkn := kind_name (nm_name (by omega) hF)
  have hq : wordQ l n (strongQ l n 6) (innerQ l n []) (⟨#[100, 114, 111, 112]⟩ : ByteArray) s0.nx = some (some (st0 5 s.name emS [] [] [], s0.nx.nx.nx)) := by
    have h2 : wordQ l n (strongQ l n 6) (innerQ l n []) (⟨#[100, 114, 111, 112]⟩ : ByteArray) s0.nx = some (dropQ l s0.nx) := by kernel_rfl
    rw [h2]
    unfold dropQ
    rw [h0.next.takeP hk hkn, h0.next.next.must, h0.next.takeT hk hkn]
  obtain ⟨pos, hp⟩ := step_word h0 hq
  refine ⟨_, s0.nx.nx.nx, .inl hp, h0.next.next.next, rfl, ?_⟩
  rw [key_at, key_st, key_sof h1 rfl (sd_none (by omega) (by omega) hF) (no_names (by rw [h1]; rfl) hF) (hF.ty0 (by rw [h1]; rfl)) (int0 (by omega) hF) (hF.pl0 (by rw [h1]; rfl)), he, hF.b0 (by rw [h1]; rfl), hF.e0 (by rw [h1]; rfl), hF.a0 (by rw [h1]; rfl)]
end
end Go.Proofs.YtlnoacoanfhdcaaGreatDoor

namespace Go.Proofs.YtlnoacoanfhdcaaGreatDoor
open Go.RowKit
set_option linter.unusedVariables false
set_option linter.unusedSimpArgs false
/-- an expression that begins with a name is a call, or begins with a place -/
theorem ex_place : ∀ (e : Ex), (∃ d, e.whole d = true) → ∀ t ts, e.tk = t :: ts → kindT t = 2 → (∃ us, ts = (⟨#[40]⟩ : ByteArray) :: us) ∨ ∃ (x : Pl) (rest : List ByteArray), x.whole = true ∧ e.tk = x.tk ++ rest ∧ x.name = t ∧ ∀ h hs, rest = h :: hs → sEq h (⟨#[61]⟩ : ByteArray) = false ∧ sEq h (⟨#[46]⟩ : ByteArray) = false ∧ sEq h (⟨#[40]⟩ : ByteArray) = false := by
  intro e
  induction e using Ex.ind with
  | h e ih =>
  rintro ⟨d, hd⟩ t ts ht hkt
  have hF := ex_facts hd
  have hop := hF.op
  have htk := exTk_eq e
  unfold exTk1 at htk
  have hbad : ∀ {v : ByteArray} {vs : List ByteArray}, e.tk = v :: vs → kindT v ≠ 2 → False := fun {v vs} h1 h2 => by
    rw [h1] at ht
    cases ht
    exact h2 hkt
  by_cases hs : signI e.op < 7
  · have h717 := sign_not7.1 hs
    by_cases hb : binB e.op
    · obtain ⟨a, b, hab⟩ := bin_args hF hb
      obtain ⟨s, q1, q2, q3, q4, q5, q6⟩ := bin_str hb
      have htb := bin_tk hb hab
      have ham : a ∈ e.args := by rw [hab]; simp
      generalize (if signI e.op = 3 then 4 else signI e.op) = least at htb
      unfold parTk at htb
      by_cases hp : signI a.op < least
      · rw [if_pos hp] at htb
        exact (hbad htb (by rw [show kindT (⟨#[40]⟩ : ByteArray) = 5 by kernel_rfl]; decide)).elim
      · rw [if_neg hp] at htb
        obtain ⟨ta, tsa, hta, _⟩ := ex_head a (hF.args a ham).2
        rw [hta] at htb
        have e1 : t = ta := by rw [htb] at ht; cases ht; rfl
        subst e1
        have hsg : sEq (signB e.op) (⟨#[61]⟩ : ByteArray) = false ∧ sEq (signB e.op) (⟨#[46]⟩ : ByteArray) = false ∧ sEq (signB e.op) (⟨#[40]⟩ : ByteArray) = false := by
          rcases hb with h | h | h | h | h | h | h | h | h <;> rw [h] <;> exact ⟨by kernel_rfl, by kernel_rfl, by kernel_rfl⟩
        rcases ih a ham (hF.args a ham).2 t tsa hta hkt with ⟨us, h1⟩ | ⟨x, rest, h1, h2, h3, h4⟩
        · refine .inl ⟨us ++ signB e.op :: (if signI b.op < signI e.op + 1 then (⟨#[40]⟩ : ByteArray) :: (b.tk ++ [(⟨#[41]⟩ : ByteArray)]) else b.tk), ?_⟩
          rw [htb] at ht
          cases ht
          rw [h1]; rfl
        · refine .inr ⟨x, rest ++ signB e.op :: (if signI b.op < signI e.op + 1 then (⟨#[40]⟩ : ByteArray) :: (b.tk ++ [(⟨#[41]⟩ : ByteArray)]) else b.tk), h1, ?_, h3, fun h hs he => ?_⟩
          · rw [htb, ← hta, h2, List.append_assoc]
          · cases rest with
            | nil => cases he; exact hsg
            | cons c cs => cases he; exact h4 _ _ rfl
    · rw [if_pos hs] at htk
      have h78 : e.op = 7 ∨ e.op = 8 := by unfold binB at hb; omega
      obtain ⟨a, ha⟩ := one_arg hF.low hF.high (by rcases h78 with h | h <;> rw [h] <;> rfl) (by rcases h78 with h | h <;> rw [h] <;> rfl)
      rw [ha] at htk
      refine (hbad htk ?_).elim
      rcases h78 with h | h <;> rw [h]
      · rw [show kindT (signB 7) = 5 by kernel_rfl]; decide
      · rw [show kindT (signB 8) = 1 by kernel_rfl]; decide
  · rw [if_neg hs] at htk
    have hl := hF.lab
    have hp := hF.pl
    unfold labB at hl
    simp only [Bool.and_eq_true] at hl
    by_cases h1 : e.op = 1
    · rw [if_pos h1] at htk
      have hi : 0 ≤ e.int := by have := hl.2; rw [if_pos h1] at this; simpa using this
      exact (hbad htk (by rw [itoa_kind hi]; decide)).elim
    rw [if_neg h1] at htk
    by_cases h2 : e.op = 2
    · rw [if_pos h2] at htk
      refine (hbad htk ?_).elim
      split
      · rw [show kindT (⟨#[102, 97, 108, 115, 101]⟩ : ByteArray) = 1 by kernel_rfl]; decide
      · rw [show kindT (⟨#[116, 114, 117, 101]⟩ : ByteArray) = 1 by kernel_rfl]; decide
    rw [if_neg h2] at htk
    by_cases h3 : e.op = 3
    · rw [if_pos h3] at htk
      exact (hbad htk (by rw [show kindT (⟨#[40]⟩ : ByteArray) = 5 by kernel_rfl]; decide)).elim
    rw [if_neg h3] at htk
    by_cases h4 : e.op = 4
    · rw [if_pos h4] at htk
      refine .inr ⟨e.place, [], a_place hp (by rw [h4]; rfl), by rw [List.append_nil]; exact htk, ?_, fun h hs he => by cases he⟩
      rw [ht] at htk
      have : t = e.place.name := by unfold Pl.tk at htk; exact (List.cons.inj htk).1
      exact this.symm
    rw [if_neg h4] at htk
    by_cases h5 : e.op = 5
    · rw [if_pos h5] at htk
      exact (hbad htk (by rw [show kindT (⟨#[38]⟩ : ByteArray) = 5 by kernel_rfl]; decide)).elim
    rw [if_neg h5] at htk
    by_cases h6 : e.op = 6
    · rw [if_pos h6] at htk
      exact (hbad htk (by rw [show kindT (⟨#[38]⟩ : ByteArray) = 5 by kernel_rfl]; decide)).elim
    rw [if_neg h6] at htk
    by_cases h18 : e.op = 18
    · rw [if_pos h18, ht] at htk
      exact .inl ⟨_, (List.cons.inj htk).2⟩
    rw [if_neg h18] at htk
    by_cases h19 : e.op = 19
    · rw [if_pos h19] at htk
      have hty : typeB e.name = true := by have := hl.1.1; rwa [if_neg h18, if_pos (.inl h19)] at this
      exact (hbad htk (by rw [kind_type hty]; decide)).elim
    rw [if_neg h19] at htk
    by_cases h20 : e.op = 20
    · rw [if_pos h20] at htk
      have hty : typeB e.name = true := by have := hl.1.1; rwa [if_neg h18, if_pos (.inr h20)] at this
      exact (hbad htk (by rw [kind_type hty]; decide)).elim
    rw [if_neg h20] at htk
    exact (hbad htk (by rw [word_kind]; decide)).elim
section
variable {l : List Tok} {s : St} {n : Nat} {r : List ByteArray} {s0 : RS}
theorem st_assign (hk : Kinds l) (hF : StF s) (h1 : s.op = 3) (hE : ∀ e ∈ s.exprs, lentOp e.op = false → Eb l e) (hn : 11 * s.tk.length + 20 ≤ n) (h0 : AtR l s0 (s.tk ++ r)) : ∃ st s1, One l n s0 st s1 ∧ AtR l s1 r ∧ s1.full = s0.full ∧ keySt st = keySt s := by
  obtain ⟨e, he⟩ := one_expr (by rw [h1]; rfl) hF
  have hem : e ∈ s.exprs := by rw [he]; simp
  have hle : lentOp e.op = false := by
    rcases (hF.es e hem).1 with h | h
    · rw [h1] at h; cases h
    · exact h
  have htk : s.tk = s.place.tk ++ ((⟨#[61]⟩ : ByteArray) :: (e.tk ++ [(⟨#[59]⟩ : ByteArray)])) := by
    rw [stTk_eq, he]
    unfold stTk1 headTk restTk
    rw [if_neg (by omega), if_neg (by omega), if_neg (by omega), if_pos h1, if_pos (by omega)]
    simp
  rw [htk] at h0 hn
  simp only [List.length_cons, List.length_append, List.length_nil] at hn
  have hp := hF.pl (by rw [h1]; rfl)
  have hpn : nameB s.place.name = true := by unfold Pl.whole at hp; simp only [Bool.and_eq_true] at hp; exact hp.1
  have hpl := place_len s.place
  have h0 : AtR l s0 (s.place.tk ++ ((⟨#[61]⟩ : ByteArray) :: (e.tk ++ (⟨#[59]⟩ : ByteArray) :: r))) := by
    have := h0
    simpa [List.append_assoc] using this
  have h00 : AtR l s0 (s.place.name :: (pathTk s.place.path ++ ((⟨#[61]⟩ : ByteArray) :: (e.tk ++ (⟨#[59]⟩ : ByteArray) :: r)))) := h0
  have hkn := kind_name hpn
  obtain ⟨y, s1, e1, e2, e3, e4⟩ := place_rd hk hp (noDot_cons (t := (⟨#[61]⟩ : ByteArray)) (ts := e.tk ++ (⟨#[59]⟩ : ByteArray) :: r) (by kernel_rfl)) (n := n) (by omega) s0 h0
  have e5 : y = s.place := e4
  subst e5
  obtain ⟨z, s2, k1, k2, k3, k4⟩ := hE e hem hle n (by omega) ((⟨#[59]⟩ : ByteArray) :: r) (okR_end 0 (by kernel_rfl)) s1.nx e2.next
  have hi : isP l s0 (⟨#[40]⟩ : ByteArray) 1 = false := by
    cases hpa : s.place.path with
    | nil =>
      rw [hpa] at h00
      have h2 : AtR l s0 (s.place.name :: (⟨#[61]⟩ : ByteArray) :: (e.tk ++ (⟨#[59]⟩ : ByteArray) :: r)) := h00
      exact (h2.is1 _).trans (by kernel_rfl)
    | cons a p =>
      rw [hpa] at h00
      have h2 : AtR l s0 (s.place.name :: (⟨#[46]⟩ : ByteArray) :: (a :: (pathTk p ++ ((⟨#[61]⟩ : ByteArray) :: (e.tk ++ (⟨#[59]⟩ : ByteArray) :: r))))) := h00
      exact (h2.is1 _).trans (by kernel_rfl)
  obtain ⟨x, hx, hxt, hxm⟩ := h00.get
  have hq : stepQ l n (strongQ l n 6) (innerQ l n []) s0 = some (some (.mk 3 emS emS [] zeroT 0 s.place [z] [] [] [] x.pos), s2.nx) := by
    rw [step_none h00 (no_start (.inl hkn))]
    unfold assignQ
    rw [if_neg (by rw [h0.ok]; simp), hx]
    simp only
    rw [hk x hxm, hxt, hkn, if_pos ⟨rfl, hi⟩, e1]
    simp only
    rw [if_pos ⟨e2.ok, by rw [e2.is, sEq_self]⟩, e2.may, k1]
    simp only [Option.map_some]
    rw [k2.must]
  refine ⟨_, s2.nx, .inl hq, k2.next, k3.trans e3, ?_⟩
  rw [key_st, key_sof h1 (nm_none (by omega) (by omega) hF) (sd_none (by omega) (by omega) hF) (no_names (by rw [h1]; rfl) hF) (hF.ty0 (by rw [h1]; rfl)) (int0 (by omega) hF) rfl, he, hF.b0 (by rw [h1]; rfl), hF.e0 (by rw [h1]; rfl), hF.a0 (by rw [h1]; rfl)]
  show St.mk _ _ _ _ _ _ _ [keyE z] _ _ _ _ = _
  rw [k4]; rfl
theorem st_do (hk : Kinds l) (hF : StF s) (h1 : s.op = 4) (hE : ∀ e ∈ s.exprs, lentOp e.op = false → Eb l e) (hn : 11 * s.tk.length + 20 ≤ n) (h0 : AtR l s0 (s.tk ++ r)) : ∃ st s1, One l n s0 st s1 ∧ AtR l s1 r ∧ s1.full = s0.full ∧ keySt st = keySt s := by
  obtain ⟨e, he⟩ := one_expr (by rw [h1]; rfl) hF
  have hem : e ∈ s.exprs := by rw [he]; simp
  have hle : lentOp e.op = false := by
    rcases (hF.es e hem).1 with h | h
    · rw [h1] at h; cases h
    · exact h
  have htk : s.tk = e.tk ++ [(⟨#[59]⟩ : ByteArray)] := by
    rw [stTk_eq, he]
    unfold stTk1 headTk restTk
    rw [if_neg (by omega), if_neg (by omega), if_neg (by omega), if_neg (by omega), if_neg (by omega), if_neg (by omega), if_neg (by omega), if_neg (by omega), if_neg (by omega), if_neg (by omega), if_neg (by omega), if_pos (by omega)]
    simp
  rw [htk] at h0 hn
  simp only [List.length_cons, List.length_append, List.length_nil] at hn
  have h0 : AtR l s0 (e.tk ++ (⟨#[59]⟩ : ByteArray) :: r) := by
    have := h0
    simpa [List.append_assoc] using this
  obtain ⟨z, s2, k1, k2, k3, k4⟩ := hE e hem hle n (by omega) ((⟨#[59]⟩ : ByteArray) :: r) (okR_end 0 (by kernel_rfl)) s0 h0
  obtain ⟨t, ts, ht, hh⟩ := ex_head e (hF.es e hem).2
  have h00 : AtR l s0 (t :: (ts ++ (⟨#[59]⟩ : ByteArray) :: r)) := by rw [ht] at h0; exact h0
  obtain ⟨x, hx, hxt, hxm⟩ := h00.get
  have hq : stepQ l n (strongQ l n 6) (innerQ l n []) s0 = some (none, s0) := by
    rw [step_none h00 (no_start hh.sort)]
    unfold assignQ
    rw [if_neg (by rw [h0.ok]; simp), hx]
    simp only
    rw [hk x hxm, hxt]
    by_cases hkt : kindT t = 2
    · rcases ex_place e (hF.es e hem).2 t ts ht hkt with ⟨us, h5⟩ | ⟨pl, rest, q1, q2, q3, q4⟩
      · rw [h5] at h00
        have h01 : AtR l s0 (t :: (⟨#[40]⟩ : ByteArray) :: (us ++ (⟨#[59]⟩ : ByteArray) :: r)) := h00
        rw [if_neg (fun hc => by rw [h01.is1, sEq_self] at hc; exact absurd hc.2 (by simp))]
      · by_cases hi : isP l s0 (⟨#[40]⟩ : ByteArray) 1 = false
        · rw [if_pos ⟨hkt, hi⟩]
          have hlen := congrArg List.length q2
          rw [List.length_append] at hlen
          have hpl := place_len pl
          rw [q2] at h0
          have h01 : AtR l s0 (pl.tk ++ (rest ++ (⟨#[59]⟩ : ByteArray) :: r)) := by
            have := h0
            simpa [List.append_assoc] using this
          have hhead : ∀ a b, (rest ++ (⟨#[59]⟩ : ByteArray) :: r) = a :: b → sEq a (⟨#[61]⟩ : ByteArray) = false ∧ sEq a (⟨#[46]⟩ : ByteArray) = false := fun a b he => by
            cases rest with
            | nil => cases he; exact ⟨by kernel_rfl, by kernel_rfl⟩
            | cons c cs => cases he; exact ⟨(q4 _ _ rfl).1, (q4 _ _ rfl).2.1⟩
          obtain ⟨y, s1, e1, e2, e3, e4⟩ := place_rd hk q1 (fun a b he => (hhead a b he).2) (n := n) (by omega) s0 h01
          rw [e1]
          simp only
          have hne : isP l s1 (⟨#[61]⟩ : ByteArray) 0 = false := by
            generalize (rest ++ (⟨#[59]⟩ : ByteArray) :: r) = q at *
            cases q with
            | nil => exact e2.is_nil _ _
            | cons a b => rw [e2.is]; exact (hhead a b rfl).1
          rw [if_neg (fun hc => by rw [hne] at hc; exact absurd hc.2 (by simp))]
        · rw [if_neg (fun hc => hi hc.2)]
    · rw [if_neg (fun hc => hkt hc.1)]
  have hi2 : isP l s2 (⟨#[125]⟩ : ByteArray) 0 = false := by rw [k2.is]; kernel_rfl
  refine ⟨(st0 4 emS emS [z] [] []).at (placeP l s0), s2.nx, .inr ⟨hq, z, s2, k1, hi2, by rw [k2.must], rfl⟩, k2.next, k3, ?_⟩
  rw [key_at, key_st, key_sof h1 (nm_none (by omega) (by omega) hF) (sd_none (by omega) (by omega) hF) (no_names (by rw [h1]; rfl) hF) (hF.ty0 (by rw [h1]; rfl)) (int0 (by omega) hF) (hF.pl0 (by rw [h1]; rfl)), he, hF.b0 (by rw [h1]; rfl), hF.e0 (by rw [h1]; rfl), hF.a0 (by rw [h1]; rfl)]
  show St.mk _ _ _ _ _ _ _ [keyE z] _ _ _ _ = _
  rw [k4]; rfl
end
end Go.Proofs.YtlnoacoanfhdcaaGreatDoor
