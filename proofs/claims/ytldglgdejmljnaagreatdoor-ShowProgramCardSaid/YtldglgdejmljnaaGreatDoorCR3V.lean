/- What is whole, by the reference: any statement, item, program (printed by a program of my own). No statement is proved here. -/
import Derived.Test.YtldglgdejmljnaaGreatDoorNLb
import Derived.Test.YtldglgdejmljnaaGreatDoorNLb
import Derived.Test.YtldglgdejmljnaaGreatDoorNLb
import Derived.Test.YtldglgdejmljnaaGreatDoorNLb
import Derived.Test.YtldglgdejmljnaaGreatDoorNLb
import Derived.Test.YtldglgdejmljnaaGreatDoorNLb
import Derived.Test.YtldglgdejmljnaaGreatDoorNLb
import Derived.Test.YtldglgdejmljnaaGreatDoorNLb
import Derived.Test.YtldglgdejmljnaaGreatDoorNTa
import Derived.Test.YtldglgdejmljnaaGreatDoorNTa
import Derived.Test.YtldglgdejmljnaaGreatDoorNTa
import Derived.Test.YtldglgdejmljnaaGreatDoorNTb
import Derived.Test.YtldglgdejmljnaaGreatDoorNTb
import Derived.Test.YtldglgdejmljnaaGreatDoorNTb
import Derived.Test.YtldglgdejmljnaaGreatDoorNTc
import Derived.Test.YtldglgdejmljnaaGreatDoorNTc
namespace Go.Proofs.YtldglgdejmljnaaGreatDoor
open Go.RowKit
attribute [local simp] List.replicate List.range List.range.loop resA resOne retA
set_option linter.unusedVariables false
set_option linter.unusedSimpArgs false

theorem allUp_eq {α : Type} (p : α → Bool) (l : List α) (m : Int) : allUp p l m = (decide ((l.length : Int) ≤ m) && l.all p) := by
  by_cases h : (l.length : Int) ≤ m
  · rw [allUp_all h]; simp [h]
  · simp [allUp, h]
theorem zero_no {t : Ty} {d : Int} (h : zeroTyB t = true) : t.whole d = false := by
  unfold zeroTyB at h
  simp only [Bool.and_eq_true, beq_iff_eq] at h
  rw [whole_eq]
  have : decide (1 ≤ t.kind) = false := by rw [decide_eq_false_iff_not]; omega
  rw [this, Bool.false_and, Bool.and_false]
theorem nameB_em : nameB emS = false := by decide
theorem noPl_no {x : Pl} (h : noPlB x = true) : x.whole = false := by
  unfold noPlB at h
  simp only [Bool.and_eq_true] at h
  have : x.name = emS := by
    have := h.1
    unfold sEq at this
    exact toList_inj (by simpa using this)
  unfold Pl.whole
  rw [this, nameB_em, Bool.false_and]
/-- what the reference asks is what the plain words say, kind by kind -/
theorem whole_gen (st : St) (d : Int) (h0 : 1 ≤ d) (n t s y N T p e l x B E A : Bool) (hok : fmOk st.op = true) (hN : (if n then nameB st.name else if t then typeB st.name else sEq st.name emS) = fmN st.op st.name) (hS : (if s then nameB st.second else if y then typeB st.second else sEq st.second emS) = fmS st.op st.second)
    (hT : fmTyped st.op = T) (hP : fmPlaced st.op = p) (hB : fmBody st.op = B) (hE : fmElse st.op = E) (hA : fmArms st.op = A) (hM : fmNames st.op = if N then 6 else 0) (hX : fmExprs st.op st.names.length = if (e || l) = true then (1 : Int) else if x = true then (st.names.length : Int) else (0 : Int)) (hl : fmLent st.op = !e ∨ ((e || l) = false ∧ x = false))
    (hc : countB st.op st.int = if T then decide (1 ≤ st.int) && decide (st.int ≤ 8) else st.int == 0) : stR e l x B E A (labR n t s y N T p st d) st d = st.whole d := by
  have hz1 := @zero_no st.type (d - 1)
  have hz2 := @noPl_no st.place
  by_cases hln : ¬ (st.exprs.length : Int) = fmExprs st.op st.names.length
  · have hle := hln
    rw [stWhole_eq]
    have h1 : decide ((st.exprs.length : Int) = fmExprs st.op st.names.length) = false := decide_eq_false hle
    unfold stR stHead
    rw [← hX, h1]
    simp
  have hle := Decidable.not_not.1 hln
  have h1 : decide ((st.exprs.length : Int) = fmExprs st.op st.names.length) = true := decide_eq_true hle
  rw [stWhole_eq]
  unfold stR stHead labR exsB
  rw [← hX, h1, hN, hS, hok, hT, hP, hB, hE, hA, hc, allUp_eq, allUp_eq, allUp_eq, hM, decide_eq_true h0]
  have hal : st.exprs.all (okE e d) = st.exprs.all (fun e => (fmLent st.op || !lentOp e.op) && e.whole (d - 1)) := by
    rcases hl with hl | ⟨hl1, hl2⟩
    · rw [hl]
      congr 1
      funext z
      unfold okE
      cases e <;> cases lentOp z.op <;> rfl
    · have : st.exprs.length = 0 := by rw [hX, hl1, hl2] at hle; simpa using hle
      rw [List.eq_nil_of_length_eq_zero this]; rfl
  rw [hal]
  have h6 : ((N || decide (st.names.length = 0)) && decide (st.names.length ≤ 6)) = true → decide ((st.exprs.length : Int) ≤ 6) = true := fun h => by
    simp only [Bool.and_eq_true, decide_eq_true_eq] at h
    rw [decide_eq_true_eq, hle, hX]
    split
    · omega
    · split <;> omega
  have hnm : decide ((st.names.length : Int) ≤ if N = true then 6 else 0) = ((N || decide (st.names.length = 0)) && decide (st.names.length ≤ 6)) := by
    rw [Bool.eq_iff_iff]
    simp only [Bool.and_eq_true, Bool.or_eq_true, decide_eq_true_eq]
    cases N with
    | true => simp only [if_true, true_or, true_and]; omega
    | false => simp only [Bool.false_eq_true, if_false, false_or]; omega
  have har : decide ((st.arms.length : Int) ≤ 6) = decide (st.arms.length ≤ 6) := by
    rw [Bool.eq_iff_iff]; simp only [decide_eq_true_eq]; omega
  rw [hnm, har]
  generalize ((N || decide (st.names.length = 0)) && decide (st.names.length ≤ 6)) = b1 at *
  generalize decide ((st.exprs.length : Int) ≤ 6) = b2 at *
  generalize st.names.all nameB = b3
  generalize fmN st.op st.name = b4
  generalize fmS st.op st.second = b5
  generalize st.type.whole (d - 1) = b6 at *
  generalize zeroTyB st.type = b7 at *
  generalize st.place.whole = b8 at *
  generalize noPlB st.place = b9 at *
  generalize (B || decide (st.body.length = 0)) = c1
  generalize (E || decide (st.els.length = 0)) = c2
  generalize (A || decide (st.arms.length = 0)) = c3
  generalize decide (st.arms.length ≤ 6) = c4
  generalize (st.exprs.all fun e => (fmLent st.op || !lentOp e.op) && e.whole (d - 1)) = c5
  generalize (st.arms.all fun a => a.whole (d - 1)) = c6
  generalize (st.body.all fun x => x.whole (d - 1)) = c7
  generalize (st.els.all fun x => x.whole (d - 1)) = c8
  generalize decide (1 ≤ st.int) = c9
  generalize decide (st.int ≤ 8) = c10
  generalize (st.int == 0) = c11
  cases b1
  · cases T <;> simp
  · have h6 := h6 rfl
    subst h6
    cases T <;> cases p <;> cases b6 <;> cases b7 <;> cases b8 <;> cases b9 <;> simp at hz1 hz2 ⊢ <;> (cases b4 <;> cases b5 <;> cases b3 <;> cases c9 <;> cases c10 <;> cases c11 <;> simp <;> (cases c1 <;> cases c2 <;> cases c3 <;> cases c4 <;> cases c5 <;> cases c6 <;> cases c7 <;> cases c8 <;> rfl))

/-- every kind of a statement, of an expression in it is a byte -/
def StNn : St → Prop
  | .mk op name second names ty int pl es b el ar _ => (0 ≤ op ∧ op ≤ 255) ∧ (∀ e ∈ es, ExNn e) ∧ StNns b ∧ StNns el ∧ ArNns ar
where
  StNns : List St → Prop
  | [] => True
  | s :: l => StNn s ∧ StNns l
  ArNns : List (ArOf St) → Prop
  | [] => True
  | ⟨v, n, b⟩ :: l => StNns b ∧ ArNns l
theorem stNns_iff (l : List St) : StNn.StNns l ↔ ∀ e ∈ l, StNn e := by
  induction l with
  | nil => simp [StNn.StNns]
  | cons e l ih => simp [StNn.StNns, ih]
theorem arNns_iff (l : List Ar) : StNn.ArNns l ↔ ∀ a ∈ l, ∀ e ∈ a.body, StNn e := by
  induction l with
  | nil => simp [StNn.ArNns]
  | cons a l ih => obtain ⟨v, n, b⟩ := a; simp [StNn.ArNns, ih, stNns_iff]
theorem stNn_iff (s : St) : StNn s ↔ (0 ≤ s.op ∧ s.op ≤ 255) ∧ (∀ e ∈ s.exprs, ExNn e) ∧ (∀ x ∈ s.body, StNn x) ∧ (∀ x ∈ s.els, StNn x) ∧ ∀ a ∈ s.arms, ∀ x ∈ a.body, StNn x := by
  cases s with | mk op name second names ty int pl es b el ar pos => simp only [StNn, stNns_iff, arNns_iff]; rfl
set_option maxRecDepth 100000 in
theorem r3k1 (s : St) (hop : s.op = 1) (hsm : StSm s) (hnn : ∀ x ∈ s.exprs, ExNn x) (ih1 : ∀ x ∈ s.body, RS x) (ih2 : ∀ x ∈ s.els, RS x) (ih3 : ∀ a ∈ s.arms, ∀ x ∈ a.body, RS x) (d : Int) (h0 : 1 ≤ d) (hd2 : d ≤ 1000) (S : ASt) : ADet Tryz.prog 147 [stmV s, I d] S (B (s.whole d)) S := by
  have hF : ∀ S, ADet Tryz.prog 161 [U s.op] S (Sg (⟨#[110, 108]⟩ : ByteArray)) S := fun S => by
    have := stFC s.op (by omega) (by omega) S
    rw [show stF s.op = (⟨#[110, 108]⟩ : ByteArray) by rw [hop]; rfl] at this
    exact this
  have hL := fun S => labKA (⟨#[110, 108]⟩ : ByteArray) (by decide) (by decide) (by decide) (by decide) (by decide) (by decide) (by decide) (by decide) s hsm d (by omega) hd2 S
  have hs := r3StA (⟨#[110, 108]⟩ : ByteArray) (by decide) (sEq_ne (by decide)) (by decide) (by decide) (by decide) (by decide) (by decide) (by decide) s hsm hnn ih1 ih2 ih3 d h0 hd2 _ hF hL S
  rw [whole_gen s d h0 true false false false false false false false true false false false false (by rw [hop]; decide) (by rw [hop]; rfl) (by rw [hop]; rfl) (by rw [hop]; rfl) (by rw [hop]; rfl) (by rw [hop]; rfl) (by rw [hop]; rfl) (by rw [hop]; rfl) (by rw [hop]; rfl) (by rw [hop]; rfl) (by rw [hop]; decide) (by rw [hop]; rfl)] at hs
  exact hs
set_option maxRecDepth 100000 in
theorem r3k2 (s : St) (hop : s.op = 2) (hsm : StSm s) (hnn : ∀ x ∈ s.exprs, ExNn x) (ih1 : ∀ x ∈ s.body, RS x) (ih2 : ∀ x ∈ s.els, RS x) (ih3 : ∀ a ∈ s.arms, ∀ x ∈ a.body, RS x) (d : Int) (h0 : 1 ≤ d) (hd2 : d ≤ 1000) (S : ASt) : ADet Tryz.prog 147 [stmV s, I d] S (B (s.whole d)) S := by
  have hF : ∀ S, ADet Tryz.prog 161 [U s.op] S (Sg (⟨#[116, 78, 101]⟩ : ByteArray)) S := fun S => by
    have := stFC s.op (by omega) (by omega) S
    rw [show stF s.op = (⟨#[116, 78, 101]⟩ : ByteArray) by rw [hop]; rfl] at this
    exact this
  have hL := fun S => labKB (⟨#[116, 78, 101]⟩ : ByteArray) (by decide) (by decide) (by decide) (by decide) (by decide) (by decide) (by decide) (by decide) s hsm d (by omega) hd2 S
  have hs := r3StB (⟨#[116, 78, 101]⟩ : ByteArray) (by decide) (sEq_ne (by decide)) (by decide) (by decide) (by decide) (by decide) (by decide) (by decide) s hsm hnn ih1 ih2 ih3 d h0 hd2 _ hF hL S
  rw [whole_gen s d h0 false true false false true false false true false false false false false (by rw [hop]; decide) (by rw [hop]; rfl) (by rw [hop]; rfl) (by rw [hop]; rfl) (by rw [hop]; rfl) (by rw [hop]; rfl) (by rw [hop]; rfl) (by rw [hop]; rfl) (by rw [hop]; rfl) (by rw [hop]; rfl) (by rw [hop]; decide) (by rw [hop]; rfl)] at hs
  exact hs
set_option maxRecDepth 100000 in
theorem r3k3 (s : St) (hop : s.op = 3) (hsm : StSm s) (hnn : ∀ x ∈ s.exprs, ExNn x) (ih1 : ∀ x ∈ s.body, RS x) (ih2 : ∀ x ∈ s.els, RS x) (ih3 : ∀ a ∈ s.arms, ∀ x ∈ a.body, RS x) (d : Int) (h0 : 1 ≤ d) (hd2 : d ≤ 1000) (S : ASt) : ADet Tryz.prog 147 [stmV s, I d] S (B (s.whole d)) S := by
  have hF : ∀ S, ADet Tryz.prog 161 [U s.op] S (Sg (⟨#[112, 101]⟩ : ByteArray)) S := fun S => by
    have := stFC s.op (by omega) (by omega) S
    rw [show stF s.op = (⟨#[112, 101]⟩ : ByteArray) by rw [hop]; rfl] at this
    exact this
  have hL := fun S => labKC (⟨#[112, 101]⟩ : ByteArray) (by decide) (by decide) (by decide) (by decide) (by decide) (by decide) (by decide) (by decide) s hsm d (by omega) hd2 S
  have hs := r3StB (⟨#[112, 101]⟩ : ByteArray) (by decide) (sEq_ne (by decide)) (by decide) (by decide) (by decide) (by decide) (by decide) (by decide) s hsm hnn ih1 ih2 ih3 d h0 hd2 _ hF hL S
  rw [whole_gen s d h0 false false false false false false true true false false false false false (by rw [hop]; decide) (by rw [hop]; rfl) (by rw [hop]; rfl) (by rw [hop]; rfl) (by rw [hop]; rfl) (by rw [hop]; rfl) (by rw [hop]; rfl) (by rw [hop]; rfl) (by rw [hop]; rfl) (by rw [hop]; rfl) (by rw [hop]; decide) (by rw [hop]; rfl)] at hs
  exact hs
set_option maxRecDepth 100000 in
theorem r3k4 (s : St) (hop : s.op = 4) (hsm : StSm s) (hnn : ∀ x ∈ s.exprs, ExNn x) (ih1 : ∀ x ∈ s.body, RS x) (ih2 : ∀ x ∈ s.els, RS x) (ih3 : ∀ a ∈ s.arms, ∀ x ∈ a.body, RS x) (d : Int) (h0 : 1 ≤ d) (hd2 : d ≤ 1000) (S : ASt) : ADet Tryz.prog 147 [stmV s, I d] S (B (s.whole d)) S := by
  have hF : ∀ S, ADet Tryz.prog 161 [U s.op] S (Sg (⟨#[101]⟩ : ByteArray)) S := fun S => by
    have := stFC s.op (by omega) (by omega) S
    rw [show stF s.op = (⟨#[101]⟩ : ByteArray) by rw [hop]; rfl] at this
    exact this
  have hL := fun S => labKD (⟨#[101]⟩ : ByteArray) (by decide) (by decide) (by decide) (by decide) (by decide) (by decide) (by decide) (by decide) s hsm d (by omega) hd2 S
  have hs := r3StB (⟨#[101]⟩ : ByteArray) (by decide) (sEq_ne (by decide)) (by decide) (by decide) (by decide) (by decide) (by decide) (by decide) s hsm hnn ih1 ih2 ih3 d h0 hd2 _ hF hL S
  rw [whole_gen s d h0 false false false false false false false true false false false false false (by rw [hop]; decide) (by rw [hop]; rfl) (by rw [hop]; rfl) (by rw [hop]; rfl) (by rw [hop]; rfl) (by rw [hop]; rfl) (by rw [hop]; rfl) (by rw [hop]; rfl) (by rw [hop]; rfl) (by rw [hop]; rfl) (by rw [hop]; decide) (by rw [hop]; rfl)] at hs
  exact hs
set_option maxRecDepth 100000 in
theorem r3k5 (s : St) (hop : s.op = 5) (hsm : StSm s) (hnn : ∀ x ∈ s.exprs, ExNn x) (ih1 : ∀ x ∈ s.body, RS x) (ih2 : ∀ x ∈ s.els, RS x) (ih3 : ∀ a ∈ s.arms, ∀ x ∈ a.body, RS x) (d : Int) (h0 : 1 ≤ d) (hd2 : d ≤ 1000) (S : ASt) : ADet Tryz.prog 147 [stmV s, I d] S (B (s.whole d)) S := by
  have hF : ∀ S, ADet Tryz.prog 161 [U s.op] S (Sg (⟨#[110]⟩ : ByteArray)) S := fun S => by
    have := stFC s.op (by omega) (by omega) S
    rw [show stF s.op = (⟨#[110]⟩ : ByteArray) by rw [hop]; rfl] at this
    exact this
  have hL := fun S => labKA (⟨#[110]⟩ : ByteArray) (by decide) (by decide) (by decide) (by decide) (by decide) (by decide) (by decide) (by decide) s hsm d (by omega) hd2 S
  have hs := r3StC (⟨#[110]⟩ : ByteArray) (by decide) (sEq_ne (by decide)) (by decide) (by decide) (by decide) (by decide) (by decide) (by decide) s hsm hnn ih1 ih2 ih3 d h0 hd2 _ hF hL S
  rw [whole_gen s d h0 true false false false false false false false false false false false false (by rw [hop]; decide) (by rw [hop]; rfl) (by rw [hop]; rfl) (by rw [hop]; rfl) (by rw [hop]; rfl) (by rw [hop]; rfl) (by rw [hop]; rfl) (by rw [hop]; rfl) (by rw [hop]; rfl) (by rw [hop]; rfl) (by rw [hop]; decide) (by rw [hop]; rfl)] at hs
  exact hs
set_option maxRecDepth 100000 in
theorem r3k6 (s : St) (hop : s.op = 6) (hsm : StSm s) (hnn : ∀ x ∈ s.exprs, ExNn x) (ih1 : ∀ x ∈ s.body, RS x) (ih2 : ∀ x ∈ s.els, RS x) (ih3 : ∀ a ∈ s.arms, ∀ x ∈ a.body, RS x) (d : Int) (h0 : 1 ≤ d) (hd2 : d ≤ 1000) (S : ASt) : ADet Tryz.prog 147 [stmV s, I d] S (B (s.whole d)) S := by
  have hF : ∀ S, ADet Tryz.prog 161 [U s.op] S (Sg (⟨#[101, 66, 69]⟩ : ByteArray)) S := fun S => by
    have := stFC s.op (by omega) (by omega) S
    rw [show stF s.op = (⟨#[101, 66, 69]⟩ : ByteArray) by rw [hop]; rfl] at this
    exact this
  have hL := fun S => labKD (⟨#[101, 66, 69]⟩ : ByteArray) (by decide) (by decide) (by decide) (by decide) (by decide) (by decide) (by decide) (by decide) s hsm d (by omega) hd2 S
  have hs := r3StD (⟨#[101, 66, 69]⟩ : ByteArray) (by decide) (sEq_ne (by decide)) (by decide) (by decide) (by decide) (by decide) (by decide) (by decide) s hsm hnn ih1 ih2 ih3 d h0 hd2 _ hF hL S
  rw [whole_gen s d h0 false false false false false false false true false false true true false (by rw [hop]; decide) (by rw [hop]; rfl) (by rw [hop]; rfl) (by rw [hop]; rfl) (by rw [hop]; rfl) (by rw [hop]; rfl) (by rw [hop]; rfl) (by rw [hop]; rfl) (by rw [hop]; rfl) (by rw [hop]; rfl) (by rw [hop]; decide) (by rw [hop]; rfl)] at hs
  exact hs
set_option maxRecDepth 100000 in
theorem r3k7 (s : St) (hop : s.op = 7) (hsm : StSm s) (hnn : ∀ x ∈ s.exprs, ExNn x) (ih1 : ∀ x ∈ s.body, RS x) (ih2 : ∀ x ∈ s.els, RS x) (ih3 : ∀ a ∈ s.arms, ∀ x ∈ a.body, RS x) (d : Int) (h0 : 1 ≤ d) (hd2 : d ≤ 1000) (S : ASt) : ADet Tryz.prog 147 [stmV s, I d] S (B (s.whole d)) S := by
  have hF : ∀ S, ADet Tryz.prog 161 [U s.op] S (Sg (⟨#[101, 66]⟩ : ByteArray)) S := fun S => by
    have := stFC s.op (by omega) (by omega) S
    rw [show stF s.op = (⟨#[101, 66]⟩ : ByteArray) by rw [hop]; rfl] at this
    exact this
  have hL := fun S => labKD (⟨#[101, 66]⟩ : ByteArray) (by decide) (by decide) (by decide) (by decide) (by decide) (by decide) (by decide) (by decide) s hsm d (by omega) hd2 S
  have hs := r3StE (⟨#[101, 66]⟩ : ByteArray) (by decide) (sEq_ne (by decide)) (by decide) (by decide) (by decide) (by decide) (by decide) (by decide) s hsm hnn ih1 ih2 ih3 d h0 hd2 _ hF hL S
  rw [whole_gen s d h0 false false false false false false false true false false true false false (by rw [hop]; decide) (by rw [hop]; rfl) (by rw [hop]; rfl) (by rw [hop]; rfl) (by rw [hop]; rfl) (by rw [hop]; rfl) (by rw [hop]; rfl) (by rw [hop]; rfl) (by rw [hop]; rfl) (by rw [hop]; rfl) (by rw [hop]; decide) (by rw [hop]; rfl)] at hs
  exact hs
set_option maxRecDepth 100000 in
theorem r3k8 (s : St) (hop : s.op = 8) (hsm : StSm s) (hnn : ∀ x ∈ s.exprs, ExNn x) (ih1 : ∀ x ∈ s.body, RS x) (ih2 : ∀ x ∈ s.els, RS x) (ih3 : ∀ a ∈ s.arms, ∀ x ∈ a.body, RS x) (d : Int) (h0 : 1 ≤ d) (hd2 : d ≤ 1000) (S : ASt) : ADet Tryz.prog 147 [stmV s, I d] S (B (s.whole d)) S := by
  have hF : ∀ S, ADet Tryz.prog 161 [U s.op] S (Sg (⟨#[110, 121, 65]⟩ : ByteArray)) S := fun S => by
    have := stFC s.op (by omega) (by omega) S
    rw [show stF s.op = (⟨#[110, 121, 65]⟩ : ByteArray) by rw [hop]; rfl] at this
    exact this
  have hL := fun S => labKE (⟨#[110, 121, 65]⟩ : ByteArray) (by decide) (by decide) (by decide) (by decide) (by decide) (by decide) (by decide) (by decide) s hsm d (by omega) hd2 S
  have hs := r3StF (⟨#[110, 121, 65]⟩ : ByteArray) (by decide) (sEq_ne (by decide)) (by decide) (by decide) (by decide) (by decide) (by decide) (by decide) s hsm hnn ih1 ih2 ih3 d h0 hd2 _ hF hL S
  rw [whole_gen s d h0 true false false true false false false false false false false false true (by rw [hop]; decide) (by rw [hop]; rfl) (by rw [hop]; rfl) (by rw [hop]; rfl) (by rw [hop]; rfl) (by rw [hop]; rfl) (by rw [hop]; rfl) (by rw [hop]; rfl) (by rw [hop]; rfl) (by rw [hop]; rfl) (by rw [hop]; decide) (by rw [hop]; rfl)] at hs
  exact hs
set_option maxRecDepth 100000 in
theorem r3k9 (s : St) (hop : s.op = 9) (hsm : StSm s) (hnn : ∀ x ∈ s.exprs, ExNn x) (ih1 : ∀ x ∈ s.body, RS x) (ih2 : ∀ x ∈ s.els, RS x) (ih3 : ∀ a ∈ s.arms, ∀ x ∈ a.body, RS x) (d : Int) (h0 : 1 ≤ d) (hd2 : d ≤ 1000) (S : ASt) : ADet Tryz.prog 147 [stmV s, I d] S (B (s.whole d)) S := by
  have hF : ∀ S, ADet Tryz.prog 161 [U s.op] S (Sg (⟨#[66]⟩ : ByteArray)) S := fun S => by
    have := stFC s.op (by omega) (by omega) S
    rw [show stF s.op = (⟨#[66]⟩ : ByteArray) by rw [hop]; rfl] at this
    exact this
  have hL := fun S => labKD (⟨#[66]⟩ : ByteArray) (by decide) (by decide) (by decide) (by decide) (by decide) (by decide) (by decide) (by decide) s hsm d (by omega) hd2 S
  have hs := r3StG (⟨#[66]⟩ : ByteArray) (by decide) (sEq_ne (by decide)) (by decide) (by decide) (by decide) (by decide) (by decide) (by decide) s hsm hnn ih1 ih2 ih3 d h0 hd2 _ hF hL S
  rw [whole_gen s d h0 false false false false false false false false false false true false false (by rw [hop]; decide) (by rw [hop]; rfl) (by rw [hop]; rfl) (by rw [hop]; rfl) (by rw [hop]; rfl) (by rw [hop]; rfl) (by rw [hop]; rfl) (by rw [hop]; rfl) (by rw [hop]; rfl) (by rw [hop]; rfl) (by rw [hop]; decide) (by rw [hop]; rfl)] at hs
  exact hs
set_option maxRecDepth 100000 in
theorem r3k10 (s : St) (hop : s.op = 10) (hsm : StSm s) (hnn : ∀ x ∈ s.exprs, ExNn x) (ih1 : ∀ x ∈ s.body, RS x) (ih2 : ∀ x ∈ s.els, RS x) (ih3 : ∀ a ∈ s.arms, ∀ x ∈ a.body, RS x) (d : Int) (h0 : 1 ≤ d) (hd2 : d ≤ 1000) (S : ASt) : ADet Tryz.prog 147 [stmV s, I d] S (B (s.whole d)) S := by
  have hF : ∀ S, ADet Tryz.prog 161 [U s.op] S (Sg (⟨#[78, 120, 66]⟩ : ByteArray)) S := fun S => by
    have := stFC s.op (by omega) (by omega) S
    rw [show stF s.op = (⟨#[78, 120, 66]⟩ : ByteArray) by rw [hop]; rfl] at this
    exact this
  have hL := fun S => labKF (⟨#[78, 120, 66]⟩ : ByteArray) (by decide) (by decide) (by decide) (by decide) (by decide) (by decide) (by decide) (by decide) s hsm d (by omega) hd2 S
  have hs := r3StH (⟨#[78, 120, 66]⟩ : ByteArray) (by decide) (sEq_ne (by decide)) (by decide) (by decide) (by decide) (by decide) (by decide) (by decide) s hsm hnn ih1 ih2 ih3 d h0 hd2 _ hF hL S
  rw [whole_gen s d h0 false false false false true false false false false true true false false (by rw [hop]; decide) (by rw [hop]; rfl) (by rw [hop]; rfl) (by rw [hop]; rfl) (by rw [hop]; rfl) (by rw [hop]; rfl) (by rw [hop]; rfl) (by rw [hop]; rfl) (by rw [hop]; rfl) (by rw [hop]; rfl) (by rw [hop]; decide) (by rw [hop]; rfl)] at hs
  exact hs
set_option maxRecDepth 100000 in
theorem r3k11 (s : St) (hop : s.op = 11) (hsm : StSm s) (hnn : ∀ x ∈ s.exprs, ExNn x) (ih1 : ∀ x ∈ s.body, RS x) (ih2 : ∀ x ∈ s.els, RS x) (ih3 : ∀ a ∈ s.arms, ∀ x ∈ a.body, RS x) (d : Int) (h0 : 1 ≤ d) (hd2 : d ≤ 1000) (S : ASt) : ADet Tryz.prog 147 [stmV s, I d] S (B (s.whole d)) S := by
  have hF : ∀ S, ADet Tryz.prog 161 [U s.op] S (Sg (⟨#[112, 110, 66]⟩ : ByteArray)) S := fun S => by
    have := stFC s.op (by omega) (by omega) S
    rw [show stF s.op = (⟨#[112, 110, 66]⟩ : ByteArray) by rw [hop]; rfl] at this
    exact this
  have hL := fun S => labKG (⟨#[112, 110, 66]⟩ : ByteArray) (by decide) (by decide) (by decide) (by decide) (by decide) (by decide) (by decide) (by decide) s hsm d (by omega) hd2 S
  have hs := r3StG (⟨#[112, 110, 66]⟩ : ByteArray) (by decide) (sEq_ne (by decide)) (by decide) (by decide) (by decide) (by decide) (by decide) (by decide) s hsm hnn ih1 ih2 ih3 d h0 hd2 _ hF hL S
  rw [whole_gen s d h0 true false false false false false true false false false true false false (by rw [hop]; decide) (by rw [hop]; rfl) (by rw [hop]; rfl) (by rw [hop]; rfl) (by rw [hop]; rfl) (by rw [hop]; rfl) (by rw [hop]; rfl) (by rw [hop]; rfl) (by rw [hop]; rfl) (by rw [hop]; rfl) (by rw [hop]; decide) (by rw [hop]; rfl)] at hs
  exact hs
set_option maxRecDepth 100000 in
theorem r3k12 (s : St) (hop : s.op = 12) (hsm : StSm s) (hnn : ∀ x ∈ s.exprs, ExNn x) (ih1 : ∀ x ∈ s.body, RS x) (ih2 : ∀ x ∈ s.els, RS x) (ih3 : ∀ a ∈ s.arms, ∀ x ∈ a.body, RS x) (d : Int) (h0 : 1 ≤ d) (hd2 : d ≤ 1000) (S : ASt) : ADet Tryz.prog 147 [stmV s, I d] S (B (s.whole d)) S := by
  have hF : ∀ S, ADet Tryz.prog 161 [U s.op] S (Sg (⟨#[84, 110, 115]⟩ : ByteArray)) S := fun S => by
    have := stFC s.op (by omega) (by omega) S
    rw [show stF s.op = (⟨#[84, 110, 115]⟩ : ByteArray) by rw [hop]; rfl] at this
    exact this
  have hL := fun S => labKH (⟨#[84, 110, 115]⟩ : ByteArray) (by decide) (by decide) (by decide) (by decide) (by decide) (by decide) (by decide) (by decide) s hsm d (by omega) hd2 S
  have hs := r3StC (⟨#[84, 110, 115]⟩ : ByteArray) (by decide) (sEq_ne (by decide)) (by decide) (by decide) (by decide) (by decide) (by decide) (by decide) s hsm hnn ih1 ih2 ih3 d h0 hd2 _ hF hL S
  rw [whole_gen s d h0 true false true false false true false false false false false false false (by rw [hop]; decide) (by rw [hop]; rfl) (by rw [hop]; rfl) (by rw [hop]; rfl) (by rw [hop]; rfl) (by rw [hop]; rfl) (by rw [hop]; rfl) (by rw [hop]; rfl) (by rw [hop]; rfl) (by rw [hop]; rfl) (by rw [hop]; decide) (by rw [hop]; rfl)] at hs
  exact hs
set_option maxRecDepth 100000 in
theorem r3k13 (s : St) (hop : s.op = 13) (hsm : StSm s) (hnn : ∀ x ∈ s.exprs, ExNn x) (ih1 : ∀ x ∈ s.body, RS x) (ih2 : ∀ x ∈ s.els, RS x) (ih3 : ∀ a ∈ s.arms, ∀ x ∈ a.body, RS x) (d : Int) (h0 : 1 ≤ d) (hd2 : d ≤ 1000) (S : ASt) : ADet Tryz.prog 147 [stmV s, I d] S (B (s.whole d)) S := by
  have hF : ∀ S, ADet Tryz.prog 161 [U s.op] S (Sg (⟨#[66]⟩ : ByteArray)) S := fun S => by
    have := stFC s.op (by omega) (by omega) S
    rw [show stF s.op = (⟨#[66]⟩ : ByteArray) by rw [hop]; rfl] at this
    exact this
  have hL := fun S => labKD (⟨#[66]⟩ : ByteArray) (by decide) (by decide) (by decide) (by decide) (by decide) (by decide) (by decide) (by decide) s hsm d (by omega) hd2 S
  have hs := r3StG (⟨#[66]⟩ : ByteArray) (by decide) (sEq_ne (by decide)) (by decide) (by decide) (by decide) (by decide) (by decide) (by decide) s hsm hnn ih1 ih2 ih3 d h0 hd2 _ hF hL S
  rw [whole_gen s d h0 false false false false false false false false false false true false false (by rw [hop]; decide) (by rw [hop]; rfl) (by rw [hop]; rfl) (by rw [hop]; rfl) (by rw [hop]; rfl) (by rw [hop]; rfl) (by rw [hop]; rfl) (by rw [hop]; rfl) (by rw [hop]; rfl) (by rw [hop]; rfl) (by rw [hop]; decide) (by rw [hop]; rfl)] at hs
  exact hs
set_option maxRecDepth 100000 in
set_option maxHeartbeats 1000000 in
theorem r3k0 (s : St) (hop : ¬ (1 ≤ s.op ∧ s.op ≤ 13)) (hb : 0 ≤ s.op ∧ s.op ≤ 255) (d : Int) (S : ASt) : ADet Tryz.prog 147 [stmV s, I d] S (B (s.whole d)) S := by
  have e : s.whole d = false := by
    rw [stWhole_eq]
    have : fmOk s.op = false := by unfold fmOk; rw [Bool.and_eq_false_iff, decide_eq_false_iff_not, decide_eq_false_iff_not]; omega
    simp [stHead, this]
  have hf : stF s.op = emS := by
    unfold stF
    repeat rw [if_neg (by omega)]
  have hF := fun S => stFC s.op hb.1 hb.2 S
  rw [hf] at hF
  rw [e]
  refine ADet.intro mixed Tryz.call147 Tryz.func147 rfl ?_
  simp [Tryz.ntmps147]
  refine ⟨_, _, hF _, ?_⟩
  by_cases h1 : d < 1
  · simp [h1]
  · simp [h1, sEq_self]
set_option maxRecDepth 100000 in
set_option maxHeartbeats 1000000 in
theorem r3kd (s : St) (hb : 0 ≤ s.op ∧ s.op ≤ 255) (d : Int) (h : d < 1) (S : ASt) : ADet Tryz.prog 147 [stmV s, I d] S (B (s.whole d)) S := by
  have e : s.whole d = false := by
    rw [stWhole_eq]
    have : decide (1 ≤ d) = false := decide_eq_false (by omega)
    rw [this, Bool.false_and]
  have hF := fun S => stFC s.op hb.1 hb.2 S
  rw [e]
  refine ADet.intro mixed Tryz.call147 Tryz.func147 rfl ?_
  simp [Tryz.ntmps147]
  refine ⟨_, _, hF _, ?_⟩
  simp [h]
theorem r3StmtC : ∀ (s : St), StSm s → StNn s → RS s := by
  refine St.ind fun s ih1 ih2 ih3 hsm hnn d S hd1 hd2 => ?_
  obtain ⟨hop, hnx, hnb, hne, hna⟩ := (stNn_iff s).1 hnn
  have hsm' := hsm
  obtain ⟨_, _, _, _, _, _, _, _, _, _, hbs, hes, has, hab⟩ := hsm'
  have i1 : ∀ x ∈ s.body, RS x := fun x hx => ih1 x hx (hbs x hx) (hnb x hx)
  have i2 : ∀ x ∈ s.els, RS x := fun x hx => ih2 x hx (hes x hx) (hne x hx)
  have i3 : ∀ a ∈ s.arms, ∀ x ∈ a.body, RS x := fun a ha x hx => ih3 a ha x hx (hab a ha x hx) (hna a ha x hx)
  rcases Int.lt_or_le d 1 with h0 | h0
  · exact r3kd s hop d h0 S
  by_cases h1 : s.op = 1
  · exact r3k1 s h1 hsm hnx i1 i2 i3 d h0 hd2 S
  by_cases h2 : s.op = 2
  · exact r3k2 s h2 hsm hnx i1 i2 i3 d h0 hd2 S
  by_cases h3 : s.op = 3
  · exact r3k3 s h3 hsm hnx i1 i2 i3 d h0 hd2 S
  by_cases h4 : s.op = 4
  · exact r3k4 s h4 hsm hnx i1 i2 i3 d h0 hd2 S
  by_cases h5 : s.op = 5
  · exact r3k5 s h5 hsm hnx i1 i2 i3 d h0 hd2 S
  by_cases h6 : s.op = 6
  · exact r3k6 s h6 hsm hnx i1 i2 i3 d h0 hd2 S
  by_cases h7 : s.op = 7
  · exact r3k7 s h7 hsm hnx i1 i2 i3 d h0 hd2 S
  by_cases h8 : s.op = 8
  · exact r3k8 s h8 hsm hnx i1 i2 i3 d h0 hd2 S
  by_cases h9 : s.op = 9
  · exact r3k9 s h9 hsm hnx i1 i2 i3 d h0 hd2 S
  by_cases h10 : s.op = 10
  · exact r3k10 s h10 hsm hnx i1 i2 i3 d h0 hd2 S
  by_cases h11 : s.op = 11
  · exact r3k11 s h11 hsm hnx i1 i2 i3 d h0 hd2 S
  by_cases h12 : s.op = 12
  · exact r3k12 s h12 hsm hnx i1 i2 i3 d h0 hd2 S
  by_cases h13 : s.op = 13
  · exact r3k13 s h13 hsm hnx i1 i2 i3 d h0 hd2 S
  exact r3k0 s (by omega) hop d S
end Go.Proofs.YtldglgdejmljnaaGreatDoor
