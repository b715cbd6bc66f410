/- A part of the proof. The statement is proved in the claim's last text. -/
import Derived.Test.YtfbpibkpmcceaaaGreatDoorZNLb
import Derived.Test.YtfbpibkpmcceaaaGreatDoorZNTa
import Derived.Test.YtfbpibkpmcceaaaGreatDoorZNTb
import Derived.Test.YtfbpibkpmcceaaaGreatDoorZNTc
import Derived.Test.YtfbpibkpmcceaaaGreatDoorZMWp
import Derived.Test.YtfbpibkpmcceaaaGreatDoorZMWs
set_option linter.unusedVariables false
set_option linter.unusedSimpArgs false
set_option maxRecDepth 100000
set_option maxHeartbeats 32000000
namespace Go.Proofs.YtfbpibkpmcceaaaGreatDoor
open Go.RowKit
attribute [local simp] List.replicate List.range List.range.loop resA resOne retA
theorem allUp_eq {α : Type} (p : α → Bool) (l : List α) (m : Int) : allUp p l m = (decide ((l.length : Int) ≤ m) && l.all p):=by
 by_cases h : (l.length : Int) ≤ m
 ·rw [allUp_all h]; simp [h]
 ·simp [allUp,h]
theorem zero_no {t : Ty} {d : Int} (h : zeroTyB t = true) : t.whole d = false:=by
 unfold zeroTyB at h
 simp only [Bool.and_eq_true,beq_iff_eq] at h
 rw [whole_eq]
 have : decide (1 ≤ t.kind) = false:=by rw [decide_eq_false_iff_not]; omega
 rw [this,Bool.false_and,Bool.and_false]
theorem nameB_em : nameB emS = false:=by decide
theorem noPl_no {x : Pl} (h : noPlB x = true) : x.whole = false:=by
 unfold noPlB at h
 simp only [Bool.and_eq_true] at h
 have : x.name = emS:=by
  have:=h.1
  unfold sEq at this
  exact toList_inj (by simpa using this)
 unfold Pl.whole
 rw [this,nameB_em,Bool.false_and]
theorem whole_gen (st : St) (d : Int) (h0 : 1 ≤ d) (n t s y N T p e l x B E A : Bool) (hok : fmOk st.op = true) (hN : (if n then nameB st.name else if t then typeB st.name else sEq st.name emS) = fmN st.op st.name) (hS : (if s then nameB st.second else if y then typeB st.second else sEq st.second emS) = fmS st.op st.second)
  (hT : fmTyped st.op = T) (hP : fmPlaced st.op = p) (hB : fmBody st.op = B) (hE : fmElse st.op = E) (hA : fmArms st.op = A) (hM : fmNames st.op = if N then 6 else 0) (hX : fmExprs st.op st.names.length = if (e || l) = true then (1 : Int) else if x = true then (st.names.length : Int) else (0 : Int)) (hl : fmLent st.op = !e ∨ ((e || l) = false ∧ x = false))
  (hc : countB st.op st.int = if T then decide (1 ≤ st.int) && decide (st.int ≤ 8) else st.int == 0) : stR e l x B E A (labR n t s y N T p st d) st d = st.whole d:=by
 have hz1:=@zero_no st.type (d - 1)
 have hz2:=@noPl_no st.place
 by_cases hln : ¬ (st.exprs.length : Int) = fmExprs st.op st.names.length
 ·have hle:=hln
  rw [stWhole_eq]
  have h1 : decide ((st.exprs.length : Int) = fmExprs st.op st.names.length) = false:=decide_eq_false hle
  unfold stR stHead
  rw [← hX,h1]
  simp
 have hle:=Decidable.not_not.1 hln
 have h1 : decide ((st.exprs.length : Int) = fmExprs st.op st.names.length) = true:=decide_eq_true hle
 rw [stWhole_eq]
 unfold stR stHead labR exsB
 rw [← hX,h1,hN,hS,hok,hT,hP,hB,hE,hA,hc,allUp_eq,allUp_eq,allUp_eq,hM,decide_eq_true h0]
 have hal : st.exprs.all (okE e d) = st.exprs.all (fun e=>(fmLent st.op || !lentOp e.op) && e.whole (d - 1)):=by
  rcases hl with hl | ⟨hl1,hl2⟩
  ·rw [hl]
   congr 1
   funext z
   unfold okE
   cases e <;> cases lentOp z.op <;> rfl
  ·have : st.exprs.length = 0:=by rw [hX,hl1,hl2] at hle; simpa using hle
   rw [List.eq_nil_of_length_eq_zero this]; rfl
 rw [hal]
 have h6 : ((N || decide (st.names.length = 0)) && decide (st.names.length ≤ 6)) = true → decide ((st.exprs.length : Int) ≤ 6) = true:=fun h=>by
  simp only [Bool.and_eq_true,decide_eq_true_eq] at h
  rw [decide_eq_true_eq,hle,hX]
  split
  ·omega
  ·split <;> omega
 have hnm : decide ((st.names.length : Int) ≤ if N = true then 6 else 0) = ((N || decide (st.names.length = 0)) && decide (st.names.length ≤ 6)):=by
  rw [Bool.eq_iff_iff]
  simp only [Bool.and_eq_true,Bool.or_eq_true,decide_eq_true_eq]
  cases N with
  | true=>simp only [if_true,true_or,true_and]; omega
  | false=>simp only [Bool.false_eq_true,if_false,false_or]; omega
 have har : decide ((st.arms.length : Int) ≤ 6) = decide (st.arms.length ≤ 6):=by
  rw [Bool.eq_iff_iff]; simp only [decide_eq_true_eq]; omega
 rw [hnm,har]
 generalize ((N || decide (st.names.length = 0)) && decide (st.names.length ≤ 6)) = b1 at *
 generalize decide ((st.exprs.length : Int) ≤ 6) = b2 at *
 generalize st.names.all nameB = b3
 generalize fmN st.op st.name = b4
 generalize fmS st.op st.second = b5
 generalize st.type.whole (d - 1) = b6 at *
 generalize zeroTyB st.type = b7 at *
 generalize st.place.whole = b8 at *
 generalize noPlB st.place = b9 at *
 generalize (B || decide (st.body.length = 0)) = c1
 generalize (E || decide (st.els.length = 0)) = c2
 generalize (A || decide (st.arms.length = 0)) = c3
 generalize decide (st.arms.length ≤ 6) = c4
 generalize (st.exprs.all fun e=>(fmLent st.op || !lentOp e.op) && e.whole (d - 1)) = c5
 generalize (st.arms.all fun a=>a.whole (d - 1)) = c6
 generalize (st.body.all fun x=>x.whole (d - 1)) = c7
 generalize (st.els.all fun x=>x.whole (d - 1)) = c8
 generalize decide (1 ≤ st.int) = c9
 generalize decide (st.int ≤ 8) = c10
 generalize (st.int == 0) = c11
 cases b1
 ·cases T <;> simp
 ·have h6:=h6 rfl
  subst h6
  cases T <;> cases p <;> cases b6 <;> cases b7 <;> cases b8 <;> cases b9 <;> simp at hz1 hz2 ⊢ <;> (cases b4 <;> cases b5 <;> cases b3 <;> cases c9 <;> cases c10 <;> cases c11 <;> simp <;> (cases c1 <;> cases c2 <;> cases c3 <;> cases c4 <;> cases c5 <;> cases c6 <;> cases c7 <;> cases c8 <;> rfl))
theorem r3k1 (s : St) (hop : s.op = 1) (hsm : StSm s) (hnn : ∀ x ∈ s.exprs,ExNn x) (ih1 : ∀ x ∈ s.body,R3S x) (ih2 : ∀ x ∈ s.els,R3S x) (ih3 : ∀ a ∈ s.arms,∀ x ∈ a.body,R3S x) (d : Int) (h0 : 1 ≤ d) (hd2 : d ≤ 1000) (S : ASt) : ADet Tryz.prog 153 [stmV s,I d] S (B (s.whole d)) S:=by
 have hF : ∀ S,ADet Tryz.prog 184 [U s.op] S (Sg (⟨#[110,108]⟩ : ByteArray)) S:=fun S=>by
  have:=stFC s.op (by omega) (by omega) S
  rw [show stF s.op = (⟨#[110,108]⟩ : ByteArray) by rw [hop]; rfl] at this
  exact this
 have hL:=fun S=>labKA (⟨#[110,108]⟩ : ByteArray) (by decide) (by decide) (by decide) (by decide) (by decide) (by decide) (by decide) (by decide) s hsm d (by omega) hd2 S
 have hs:=r3StA (⟨#[110,108]⟩ : ByteArray) (by decide) (sEq_ne (by decide)) (by decide) (by decide) (by decide) (by decide) (by decide) (by decide) s hsm hnn ih1 ih2 ih3 d h0 hd2 _ hF hL S
 rw [whole_gen s d h0 true false false false false false false false true false false false false (by rw [hop]; decide) (by rw [hop]; rfl) (by rw [hop]; rfl) (by rw [hop]; rfl) (by rw [hop]; rfl) (by rw [hop]; rfl) (by rw [hop]; rfl) (by rw [hop]; rfl) (by rw [hop]; rfl) (by rw [hop]; rfl) (by rw [hop]; decide) (by rw [hop]; rfl)] at hs
 exact hs
theorem r3k2 (s : St) (hop : s.op = 2) (hsm : StSm s) (hnn : ∀ x ∈ s.exprs,ExNn x) (ih1 : ∀ x ∈ s.body,R3S x) (ih2 : ∀ x ∈ s.els,R3S x) (ih3 : ∀ a ∈ s.arms,∀ x ∈ a.body,R3S x) (d : Int) (h0 : 1 ≤ d) (hd2 : d ≤ 1000) (S : ASt) : ADet Tryz.prog 153 [stmV s,I d] S (B (s.whole d)) S:=by
 have hF : ∀ S,ADet Tryz.prog 184 [U s.op] S (Sg (⟨#[116,78,101]⟩ : ByteArray)) S:=fun S=>by
  have:=stFC s.op (by omega) (by omega) S
  rw [show stF s.op = (⟨#[116,78,101]⟩ : ByteArray) by rw [hop]; rfl] at this
  exact this
 have hL:=fun S=>labKB (⟨#[116,78,101]⟩ : ByteArray) (by decide) (by decide) (by decide) (by decide) (by decide) (by decide) (by decide) (by decide) s hsm d (by omega) hd2 S
 have hs:=r3StB (⟨#[116,78,101]⟩ : ByteArray) (by decide) (sEq_ne (by decide)) (by decide) (by decide) (by decide) (by decide) (by decide) (by decide) s hsm hnn ih1 ih2 ih3 d h0 hd2 _ hF hL S
 rw [whole_gen s d h0 false true false false true false false true false false false false false (by rw [hop]; decide) (by rw [hop]; rfl) (by rw [hop]; rfl) (by rw [hop]; rfl) (by rw [hop]; rfl) (by rw [hop]; rfl) (by rw [hop]; rfl) (by rw [hop]; rfl) (by rw [hop]; rfl) (by rw [hop]; rfl) (by rw [hop]; decide) (by rw [hop]; rfl)] at hs
 exact hs
theorem r3k3 (s : St) (hop : s.op = 3) (hsm : StSm s) (hnn : ∀ x ∈ s.exprs,ExNn x) (ih1 : ∀ x ∈ s.body,R3S x) (ih2 : ∀ x ∈ s.els,R3S x) (ih3 : ∀ a ∈ s.arms,∀ x ∈ a.body,R3S x) (d : Int) (h0 : 1 ≤ d) (hd2 : d ≤ 1000) (S : ASt) : ADet Tryz.prog 153 [stmV s,I d] S (B (s.whole d)) S:=by
 have hF : ∀ S,ADet Tryz.prog 184 [U s.op] S (Sg (⟨#[112,101]⟩ : ByteArray)) S:=fun S=>by
  have:=stFC s.op (by omega) (by omega) S
  rw [show stF s.op = (⟨#[112,101]⟩ : ByteArray) by rw [hop]; rfl] at this
  exact this
 have hL:=fun S=>labKC (⟨#[112,101]⟩ : ByteArray) (by decide) (by decide) (by decide) (by decide) (by decide) (by decide) (by decide) (by decide) s hsm d (by omega) hd2 S
 have hs:=r3StB (⟨#[112,101]⟩ : ByteArray) (by decide) (sEq_ne (by decide)) (by decide) (by decide) (by decide) (by decide) (by decide) (by decide) s hsm hnn ih1 ih2 ih3 d h0 hd2 _ hF hL S
 rw [whole_gen s d h0 false false false false false false true true false false false false false (by rw [hop]; decide) (by rw [hop]; rfl) (by rw [hop]; rfl) (by rw [hop]; rfl) (by rw [hop]; rfl) (by rw [hop]; rfl) (by rw [hop]; rfl) (by rw [hop]; rfl) (by rw [hop]; rfl) (by rw [hop]; rfl) (by rw [hop]; decide) (by rw [hop]; rfl)] at hs
 exact hs
theorem r3k4 (s : St) (hop : s.op = 4) (hsm : StSm s) (hnn : ∀ x ∈ s.exprs,ExNn x) (ih1 : ∀ x ∈ s.body,R3S x) (ih2 : ∀ x ∈ s.els,R3S x) (ih3 : ∀ a ∈ s.arms,∀ x ∈ a.body,R3S x) (d : Int) (h0 : 1 ≤ d) (hd2 : d ≤ 1000) (S : ASt) : ADet Tryz.prog 153 [stmV s,I d] S (B (s.whole d)) S:=by
 have hF : ∀ S,ADet Tryz.prog 184 [U s.op] S (Sg (⟨#[101]⟩ : ByteArray)) S:=fun S=>by
  have:=stFC s.op (by omega) (by omega) S
  rw [show stF s.op = (⟨#[101]⟩ : ByteArray) by rw [hop]; rfl] at this
  exact this
 have hL:=fun S=>labKD (⟨#[101]⟩ : ByteArray) (by decide) (by decide) (by decide) (by decide) (by decide) (by decide) (by decide) (by decide) s hsm d (by omega) hd2 S
 have hs:=r3StB (⟨#[101]⟩ : ByteArray) (by decide) (sEq_ne (by decide)) (by decide) (by decide) (by decide) (by decide) (by decide) (by decide) s hsm hnn ih1 ih2 ih3 d h0 hd2 _ hF hL S
 rw [whole_gen s d h0 false false false false false false false true false false false false false (by rw [hop]; decide) (by rw [hop]; rfl) (by rw [hop]; rfl) (by rw [hop]; rfl) (by rw [hop]; rfl) (by rw [hop]; rfl) (by rw [hop]; rfl) (by rw [hop]; rfl) (by rw [hop]; rfl) (by rw [hop]; rfl) (by rw [hop]; decide) (by rw [hop]; rfl)] at hs
 exact hs
theorem r3k5 (s : St) (hop : s.op = 5) (hsm : StSm s) (hnn : ∀ x ∈ s.exprs,ExNn x) (ih1 : ∀ x ∈ s.body,R3S x) (ih2 : ∀ x ∈ s.els,R3S x) (ih3 : ∀ a ∈ s.arms,∀ x ∈ a.body,R3S x) (d : Int) (h0 : 1 ≤ d) (hd2 : d ≤ 1000) (S : ASt) : ADet Tryz.prog 153 [stmV s,I d] S (B (s.whole d)) S:=by
 have hF : ∀ S,ADet Tryz.prog 184 [U s.op] S (Sg (⟨#[110]⟩ : ByteArray)) S:=fun S=>by
  have:=stFC s.op (by omega) (by omega) S
  rw [show stF s.op = (⟨#[110]⟩ : ByteArray) by rw [hop]; rfl] at this
  exact this
 have hL:=fun S=>labKA (⟨#[110]⟩ : ByteArray) (by decide) (by decide) (by decide) (by decide) (by decide) (by decide) (by decide) (by decide) s hsm d (by omega) hd2 S
 have hs:=r3StC (⟨#[110]⟩ : ByteArray) (by decide) (sEq_ne (by decide)) (by decide) (by decide) (by decide) (by decide) (by decide) (by decide) s hsm hnn ih1 ih2 ih3 d h0 hd2 _ hF hL S
 rw [whole_gen s d h0 true false false false false false false false false false false false false (by rw [hop]; decide) (by rw [hop]; rfl) (by rw [hop]; rfl) (by rw [hop]; rfl) (by rw [hop]; rfl) (by rw [hop]; rfl) (by rw [hop]; rfl) (by rw [hop]; rfl) (by rw [hop]; rfl) (by rw [hop]; rfl) (by rw [hop]; decide) (by rw [hop]; rfl)] at hs
 exact hs
theorem r3k6 (s : St) (hop : s.op = 6) (hsm : StSm s) (hnn : ∀ x ∈ s.exprs,ExNn x) (ih1 : ∀ x ∈ s.body,R3S x) (ih2 : ∀ x ∈ s.els,R3S x) (ih3 : ∀ a ∈ s.arms,∀ x ∈ a.body,R3S x) (d : Int) (h0 : 1 ≤ d) (hd2 : d ≤ 1000) (S : ASt) : ADet Tryz.prog 153 [stmV s,I d] S (B (s.whole d)) S:=by
 have hF : ∀ S,ADet Tryz.prog 184 [U s.op] S (Sg (⟨#[101,66,69]⟩ : ByteArray)) S:=fun S=>by
  have:=stFC s.op (by omega) (by omega) S
  rw [show stF s.op = (⟨#[101,66,69]⟩ : ByteArray) by rw [hop]; rfl] at this
  exact this
 have hL:=fun S=>labKD (⟨#[101,66,69]⟩ : ByteArray) (by decide) (by decide) (by decide) (by decide) (by decide) (by decide) (by decide) (by decide) s hsm d (by omega) hd2 S
 have hs:=r3StD (⟨#[101,66,69]⟩ : ByteArray) (by decide) (sEq_ne (by decide)) (by decide) (by decide) (by decide) (by decide) (by decide) (by decide) s hsm hnn ih1 ih2 ih3 d h0 hd2 _ hF hL S
 rw [whole_gen s d h0 false false false false false false false true false false true true false (by rw [hop]; decide) (by rw [hop]; rfl) (by rw [hop]; rfl) (by rw [hop]; rfl) (by rw [hop]; rfl) (by rw [hop]; rfl) (by rw [hop]; rfl) (by rw [hop]; rfl) (by rw [hop]; rfl) (by rw [hop]; rfl) (by rw [hop]; decide) (by rw [hop]; rfl)] at hs
 exact hs
theorem r3k7 (s : St) (hop : s.op = 7) (hsm : StSm s) (hnn : ∀ x ∈ s.exprs,ExNn x) (ih1 : ∀ x ∈ s.body,R3S x) (ih2 : ∀ x ∈ s.els,R3S x) (ih3 : ∀ a ∈ s.arms,∀ x ∈ a.body,R3S x) (d : Int) (h0 : 1 ≤ d) (hd2 : d ≤ 1000) (S : ASt) : ADet Tryz.prog 153 [stmV s,I d] S (B (s.whole d)) S:=by
 have hF : ∀ S,ADet Tryz.prog 184 [U s.op] S (Sg (⟨#[101,66]⟩ : ByteArray)) S:=fun S=>by
  have:=stFC s.op (by omega) (by omega) S
  rw [show stF s.op = (⟨#[101,66]⟩ : ByteArray) by rw [hop]; rfl] at this
  exact this
 have hL:=fun S=>labKD (⟨#[101,66]⟩ : ByteArray) (by decide) (by decide) (by decide) (by decide) (by decide) (by decide) (by decide) (by decide) s hsm d (by omega) hd2 S
 have hs:=r3StE (⟨#[101,66]⟩ : ByteArray) (by decide) (sEq_ne (by decide)) (by decide) (by decide) (by decide) (by decide) (by decide) (by decide) s hsm hnn ih1 ih2 ih3 d h0 hd2 _ hF hL S
 rw [whole_gen s d h0 false false false false false false false true false false true false false (by rw [hop]; decide) (by rw [hop]; rfl) (by rw [hop]; rfl) (by rw [hop]; rfl) (by rw [hop]; rfl) (by rw [hop]; rfl) (by rw [hop]; rfl) (by rw [hop]; rfl) (by rw [hop]; rfl) (by rw [hop]; rfl) (by rw [hop]; decide) (by rw [hop]; rfl)] at hs
 exact hs
theorem r3k8 (s : St) (hop : s.op = 8) (hsm : StSm s) (hnn : ∀ x ∈ s.exprs,ExNn x) (ih1 : ∀ x ∈ s.body,R3S x) (ih2 : ∀ x ∈ s.els,R3S x) (ih3 : ∀ a ∈ s.arms,∀ x ∈ a.body,R3S x) (d : Int) (h0 : 1 ≤ d) (hd2 : d ≤ 1000) (S : ASt) : ADet Tryz.prog 153 [stmV s,I d] S (B (s.whole d)) S:=by
 have hF : ∀ S,ADet Tryz.prog 184 [U s.op] S (Sg (⟨#[110,121,65]⟩ : ByteArray)) S:=fun S=>by
  have:=stFC s.op (by omega) (by omega) S
  rw [show stF s.op = (⟨#[110,121,65]⟩ : ByteArray) by rw [hop]; rfl] at this
  exact this
 have hL:=fun S=>labKE (⟨#[110,121,65]⟩ : ByteArray) (by decide) (by decide) (by decide) (by decide) (by decide) (by decide) (by decide) (by decide) s hsm d (by omega) hd2 S
 have hs:=r3StF (⟨#[110,121,65]⟩ : ByteArray) (by decide) (sEq_ne (by decide)) (by decide) (by decide) (by decide) (by decide) (by decide) (by decide) s hsm hnn ih1 ih2 ih3 d h0 hd2 _ hF hL S
 rw [whole_gen s d h0 true false false true false false false false false false false false true (by rw [hop]; decide) (by rw [hop]; rfl) (by rw [hop]; rfl) (by rw [hop]; rfl) (by rw [hop]; rfl) (by rw [hop]; rfl) (by rw [hop]; rfl) (by rw [hop]; rfl) (by rw [hop]; rfl) (by rw [hop]; rfl) (by rw [hop]; decide) (by rw [hop]; rfl)] at hs
 exact hs
theorem r3k9 (s : St) (hop : s.op = 9) (hsm : StSm s) (hnn : ∀ x ∈ s.exprs,ExNn x) (ih1 : ∀ x ∈ s.body,R3S x) (ih2 : ∀ x ∈ s.els,R3S x) (ih3 : ∀ a ∈ s.arms,∀ x ∈ a.body,R3S x) (d : Int) (h0 : 1 ≤ d) (hd2 : d ≤ 1000) (S : ASt) : ADet Tryz.prog 153 [stmV s,I d] S (B (s.whole d)) S:=by
 have hF : ∀ S,ADet Tryz.prog 184 [U s.op] S (Sg (⟨#[66]⟩ : ByteArray)) S:=fun S=>by
  have:=stFC s.op (by omega) (by omega) S
  rw [show stF s.op = (⟨#[66]⟩ : ByteArray) by rw [hop]; rfl] at this
  exact this
 have hL:=fun S=>labKD (⟨#[66]⟩ : ByteArray) (by decide) (by decide) (by decide) (by decide) (by decide) (by decide) (by decide) (by decide) s hsm d (by omega) hd2 S
 have hs:=r3StG (⟨#[66]⟩ : ByteArray) (by decide) (sEq_ne (by decide)) (by decide) (by decide) (by decide) (by decide) (by decide) (by decide) s hsm hnn ih1 ih2 ih3 d h0 hd2 _ hF hL S
 rw [whole_gen s d h0 false false false false false false false false false false true false false (by rw [hop]; decide) (by rw [hop]; rfl) (by rw [hop]; rfl) (by rw [hop]; rfl) (by rw [hop]; rfl) (by rw [hop]; rfl) (by rw [hop]; rfl) (by rw [hop]; rfl) (by rw [hop]; rfl) (by rw [hop]; rfl) (by rw [hop]; decide) (by rw [hop]; rfl)] at hs
 exact hs
theorem r3k10 (s : St) (hop : s.op = 10) (hsm : StSm s) (hnn : ∀ x ∈ s.exprs,ExNn x) (ih1 : ∀ x ∈ s.body,R3S x) (ih2 : ∀ x ∈ s.els,R3S x) (ih3 : ∀ a ∈ s.arms,∀ x ∈ a.body,R3S x) (d : Int) (h0 : 1 ≤ d) (hd2 : d ≤ 1000) (S : ASt) : ADet Tryz.prog 153 [stmV s,I d] S (B (s.whole d)) S:=by
 have hF : ∀ S,ADet Tryz.prog 184 [U s.op] S (Sg (⟨#[78,120,66]⟩ : ByteArray)) S:=fun S=>by
  have:=stFC s.op (by omega) (by omega) S
  rw [show stF s.op = (⟨#[78,120,66]⟩ : ByteArray) by rw [hop]; rfl] at this
  exact this
 have hL:=fun S=>labKF (⟨#[78,120,66]⟩ : ByteArray) (by decide) (by decide) (by decide) (by decide) (by decide) (by decide) (by decide) (by decide) s hsm d (by omega) hd2 S
 have hs:=r3StH (⟨#[78,120,66]⟩ : ByteArray) (by decide) (sEq_ne (by decide)) (by decide) (by decide) (by decide) (by decide) (by decide) (by decide) s hsm hnn ih1 ih2 ih3 d h0 hd2 _ hF hL S
 rw [whole_gen s d h0 false false false false true false false false false true true false false (by rw [hop]; decide) (by rw [hop]; rfl) (by rw [hop]; rfl) (by rw [hop]; rfl) (by rw [hop]; rfl) (by rw [hop]; rfl) (by rw [hop]; rfl) (by rw [hop]; rfl) (by rw [hop]; rfl) (by rw [hop]; rfl) (by rw [hop]; decide) (by rw [hop]; rfl)] at hs
 exact hs
theorem r3k11 (s : St) (hop : s.op = 11) (hsm : StSm s) (hnn : ∀ x ∈ s.exprs,ExNn x) (ih1 : ∀ x ∈ s.body,R3S x) (ih2 : ∀ x ∈ s.els,R3S x) (ih3 : ∀ a ∈ s.arms,∀ x ∈ a.body,R3S x) (d : Int) (h0 : 1 ≤ d) (hd2 : d ≤ 1000) (S : ASt) : ADet Tryz.prog 153 [stmV s,I d] S (B (s.whole d)) S:=by
 have hF : ∀ S,ADet Tryz.prog 184 [U s.op] S (Sg (⟨#[112,110,66]⟩ : ByteArray)) S:=fun S=>by
  have:=stFC s.op (by omega) (by omega) S
  rw [show stF s.op = (⟨#[112,110,66]⟩ : ByteArray) by rw [hop]; rfl] at this
  exact this
 have hL:=fun S=>labKG (⟨#[112,110,66]⟩ : ByteArray) (by decide) (by decide) (by decide) (by decide) (by decide) (by decide) (by decide) (by decide) s hsm d (by omega) hd2 S
 have hs:=r3StG (⟨#[112,110,66]⟩ : ByteArray) (by decide) (sEq_ne (by decide)) (by decide) (by decide) (by decide) (by decide) (by decide) (by decide) s hsm hnn ih1 ih2 ih3 d h0 hd2 _ hF hL S
 rw [whole_gen s d h0 true false false false false false true false false false true false false (by rw [hop]; decide) (by rw [hop]; rfl) (by rw [hop]; rfl) (by rw [hop]; rfl) (by rw [hop]; rfl) (by rw [hop]; rfl) (by rw [hop]; rfl) (by rw [hop]; rfl) (by rw [hop]; rfl) (by rw [hop]; rfl) (by rw [hop]; decide) (by rw [hop]; rfl)] at hs
 exact hs
theorem r3k12 (s : St) (hop : s.op = 12) (hsm : StSm s) (hnn : ∀ x ∈ s.exprs,ExNn x) (ih1 : ∀ x ∈ s.body,R3S x) (ih2 : ∀ x ∈ s.els,R3S x) (ih3 : ∀ a ∈ s.arms,∀ x ∈ a.body,R3S x) (d : Int) (h0 : 1 ≤ d) (hd2 : d ≤ 1000) (S : ASt) : ADet Tryz.prog 153 [stmV s,I d] S (B (s.whole d)) S:=by
 have hF : ∀ S,ADet Tryz.prog 184 [U s.op] S (Sg (⟨#[84,110,115]⟩ : ByteArray)) S:=fun S=>by
  have:=stFC s.op (by omega) (by omega) S
  rw [show stF s.op = (⟨#[84,110,115]⟩ : ByteArray) by rw [hop]; rfl] at this
  exact this
 have hL:=fun S=>labKH (⟨#[84,110,115]⟩ : ByteArray) (by decide) (by decide) (by decide) (by decide) (by decide) (by decide) (by decide) (by decide) s hsm d (by omega) hd2 S
 have hs:=r3StC (⟨#[84,110,115]⟩ : ByteArray) (by decide) (sEq_ne (by decide)) (by decide) (by decide) (by decide) (by decide) (by decide) (by decide) s hsm hnn ih1 ih2 ih3 d h0 hd2 _ hF hL S
 rw [whole_gen s d h0 true false true false false true false false false false false false false (by rw [hop]; decide) (by rw [hop]; rfl) (by rw [hop]; rfl) (by rw [hop]; rfl) (by rw [hop]; rfl) (by rw [hop]; rfl) (by rw [hop]; rfl) (by rw [hop]; rfl) (by rw [hop]; rfl) (by rw [hop]; rfl) (by rw [hop]; decide) (by rw [hop]; rfl)] at hs
 exact hs
theorem r3k13 (s : St) (hop : s.op = 13) (hsm : StSm s) (hnn : ∀ x ∈ s.exprs,ExNn x) (ih1 : ∀ x ∈ s.body,R3S x) (ih2 : ∀ x ∈ s.els,R3S x) (ih3 : ∀ a ∈ s.arms,∀ x ∈ a.body,R3S x) (d : Int) (h0 : 1 ≤ d) (hd2 : d ≤ 1000) (S : ASt) : ADet Tryz.prog 153 [stmV s,I d] S (B (s.whole d)) S:=by
 have hF : ∀ S,ADet Tryz.prog 184 [U s.op] S (Sg (⟨#[66]⟩ : ByteArray)) S:=fun S=>by
  have:=stFC s.op (by omega) (by omega) S
  rw [show stF s.op = (⟨#[66]⟩ : ByteArray) by rw [hop]; rfl] at this
  exact this
 have hL:=fun S=>labKD (⟨#[66]⟩ : ByteArray) (by decide) (by decide) (by decide) (by decide) (by decide) (by decide) (by decide) (by decide) s hsm d (by omega) hd2 S
 have hs:=r3StG (⟨#[66]⟩ : ByteArray) (by decide) (sEq_ne (by decide)) (by decide) (by decide) (by decide) (by decide) (by decide) (by decide) s hsm hnn ih1 ih2 ih3 d h0 hd2 _ hF hL S
 rw [whole_gen s d h0 false false false false false false false false false false true false false (by rw [hop]; decide) (by rw [hop]; rfl) (by rw [hop]; rfl) (by rw [hop]; rfl) (by rw [hop]; rfl) (by rw [hop]; rfl) (by rw [hop]; rfl) (by rw [hop]; rfl) (by rw [hop]; rfl) (by rw [hop]; rfl) (by rw [hop]; decide) (by rw [hop]; rfl)] at hs
 exact hs
theorem r3k0 (s : St) (hop : ¬ (1 ≤ s.op ∧ s.op ≤ 13)) (hb : 0 ≤ s.op ∧ s.op ≤ 255) (d : Int) (S : ASt) : ADet Tryz.prog 153 [stmV s,I d] S (B (s.whole d)) S:=by
 have e : s.whole d = false:=by
  rw [stWhole_eq]
  have : fmOk s.op = false:=by unfold fmOk; rw [Bool.and_eq_false_iff,decide_eq_false_iff_not,decide_eq_false_iff_not]; omega
  simp [stHead,this]
 have hf : stF s.op = emS:=by
  unfold stF
  repeat rw [if_neg (by omega)]
 have hF:=fun S=>stFC s.op hb.1 hb.2 S
 rw [hf] at hF
 rw [e]
 refine ADet.intro mixed Tryz.call153 Tryz.func153 rfl ?_
 simp [Tryz.ntmps153]
 refine ⟨_,_,hF _,?_⟩
 by_cases h1 : d < 1
 ·simp [h1]
 ·simp [h1,sEq_self]
theorem r3kd (s : St) (hb : 0 ≤ s.op ∧ s.op ≤ 255) (d : Int) (h : d < 1) (S : ASt) : ADet Tryz.prog 153 [stmV s,I d] S (B (s.whole d)) S:=by
 have e : s.whole d = false:=by
  rw [stWhole_eq]
  have : decide (1 ≤ d) = false:=decide_eq_false (by omega)
  rw [this,Bool.false_and]
 have hF:=fun S=>stFC s.op hb.1 hb.2 S
 rw [e]
 refine ADet.intro mixed Tryz.call153 Tryz.func153 rfl ?_
 simp [Tryz.ntmps153]
 refine ⟨_,_,hF _,?_⟩
 simp [h]
theorem r3StmtC : ∀ (s : St),StSm s → StNn s → R3S s:=by
 refine St.ind fun s ih1 ih2 ih3 hsm hnn d S hd1 hd2=>?_
 obtain ⟨hop,hnx,hnb,hne,hna⟩:=(stNn_iff s).1 hnn
 have hsm':=hsm
 obtain ⟨_,_,_,_,_,_,_,_,_,_,hbs,hes,has,hab⟩:=hsm'
 have i1 : ∀ x ∈ s.body,R3S x:=fun x hx=>ih1 x hx (hbs x hx) (hnb x hx)
 have i2 : ∀ x ∈ s.els,R3S x:=fun x hx=>ih2 x hx (hes x hx) (hne x hx)
 have i3 : ∀ a ∈ s.arms,∀ x ∈ a.body,R3S x:=fun a ha x hx=>ih3 a ha x hx (hab a ha x hx) (hna a ha x hx)
 rcases Int.lt_or_le d 1 with h0 | h0
 ·exact r3kd s hop d h0 S
 by_cases h1 : s.op = 1
 ·exact r3k1 s h1 hsm hnx i1 i2 i3 d h0 hd2 S
 by_cases h2 : s.op = 2
 ·exact r3k2 s h2 hsm hnx i1 i2 i3 d h0 hd2 S
 by_cases h3 : s.op = 3
 ·exact r3k3 s h3 hsm hnx i1 i2 i3 d h0 hd2 S
 by_cases h4 : s.op = 4
 ·exact r3k4 s h4 hsm hnx i1 i2 i3 d h0 hd2 S
 by_cases h5 : s.op = 5
 ·exact r3k5 s h5 hsm hnx i1 i2 i3 d h0 hd2 S
 by_cases h6 : s.op = 6
 ·exact r3k6 s h6 hsm hnx i1 i2 i3 d h0 hd2 S
 by_cases h7 : s.op = 7
 ·exact r3k7 s h7 hsm hnx i1 i2 i3 d h0 hd2 S
 by_cases h8 : s.op = 8
 ·exact r3k8 s h8 hsm hnx i1 i2 i3 d h0 hd2 S
 by_cases h9 : s.op = 9
 ·exact r3k9 s h9 hsm hnx i1 i2 i3 d h0 hd2 S
 by_cases h10 : s.op = 10
 ·exact r3k10 s h10 hsm hnx i1 i2 i3 d h0 hd2 S
 by_cases h11 : s.op = 11
 ·exact r3k11 s h11 hsm hnx i1 i2 i3 d h0 hd2 S
 by_cases h12 : s.op = 12
 ·exact r3k12 s h12 hsm hnx i1 i2 i3 d h0 hd2 S
 by_cases h13 : s.op = 13
 ·exact r3k13 s h13 hsm hnx i1 i2 i3 d h0 hd2 S
 exact r3k0 s (by omega) hop d S
end Go.Proofs.YtfbpibkpmcceaaaGreatDoor
namespace Go.Proofs.YtfbpibkpmcceaaaGreatDoor
open Go.RowKit
attribute [local simp] List.replicate List.range List.range.loop resA resOne retA AV.cuts AV.cut AObj.cut trim wkR wkT wkL wkN wkNR wkNL wkM wkMR wkML
def RI (x : It) : Prop:=∀ (d : Int) (S : ASt),0 ≤ d → d ≤ 1000 → ADet Tryz.prog 63 [itV x,I d] S (B (x.whole d)) S
theorem itemR1 (x : It) (hsm : ItSm x) (hnn : ItNn x) (hk : x.kind = 1) : RI x:=by
 intro d S hd1 hd2
 obtain ⟨hn,hfs,hty,hbs,hex⟩:=hsm
 have gY:=fun S=>rtypeC x.name (sm_max hn) S
 have gN:=fun S=>rnameC x.name (sm_max hn) S
 have gZ:=fun S=>r3ZeroTyC x.result S
 have gX:=fun S=>r3ZeroExC x.ret S
 have gT:=fun S=>rTypeC x.result hty (d - 1) S (by omega) (by omega)
 have gL:=fun S=>rLentC x.ret S
 have gE:=fun S=>rExprC x.ret hex hnn.1 (d - 1) S (by omega) (by omega)
 have gB:=fun S=>r3StmtsC x.body (fun s hs=>r3StmtC s (hbs.2 s hs) (hnn.2 s hs)) hbs.1 (d - 1) (by omega) (by omega) S
 have hlen : x.fields.length ≤ maxLen:=sm_max hfs.1
 have hwd:=wrd d (by omega)
 have hw : x.whole d = (decide (x.fields.length ≤ 6) && (x.fields.all (fieldB 1 d) && (typeB x.name && (zeroTyB x.result && (decide (x.body.length = 0) && zeroExB x.ret))))):=by
  unfold It.whole
  rw [if_pos (by omega),allUp_eq,hk]
  have h6 : decide ((x.fields.length : Int) ≤ 6) = decide (x.fields.length ≤ 6):=by rw [Bool.eq_iff_iff]; simp only [decide_eq_true_eq]; omega
  rw [h6]
  generalize typeB x.name = b1
  generalize zeroTyB x.result = b2
  generalize decide (x.body.length = 0) = b3
  generalize zeroExB x.ret = b4
  generalize decide (x.fields.length ≤ 6) = b5
  generalize x.fields.all (fieldB 1 d) = b6
  cases b1 <;> cases b2 <;> cases b3 <;> cases b4 <;> cases b5 <;> cases b6 <;> rfl
 generalize hR : x.whole d = R at *
 refine ADet.intro mixed Tryz.call63 Tryz.func63 rfl ?_
 by_cases h6 : ¬ x.fields.length ≤ 6
 ·have h6' : (6 : Int) < x.fields.length:=by omega
  have h6n : ¬ (x.fields.length : Int) ≤ 6:=by omega
  have e : R = false:=by rw [hw,decide_eq_false h6,Bool.false_and]
  simp [Tryz.ntmps63,hk,h6',h6n,e]
 have h6:=Decidable.not_not.1 h6
 have h6' : ¬ (6 : Int) < x.fields.length:=by omega
 have h6n : (x.fields.length : Int) ≤ 6:=by omega
 rw [decide_eq_true h6,Bool.true_and] at hw
 simp [Tryz.ntmps63,hk,h6',h6n]
 refine awp_loop (fun q : Nat=>q ≤ x.fields.length ∧ ∀ i (hi : i < x.fields.length),i < q → fieldB 1 d x.fields[i] = true) (fun q=>([.any,I d,.ptr 0 0 0,.any,.any,I q] ++ List.replicate 112 .any)) (fun q=>[.cells [U 1,Sg x.name,.p (.sl 4 (x.fields.map Fi.enc)),U x.result.kind,Sg x.result.name,.p (.sl 3 (x.result.args.map Ty.enc)),.p (.sl 15 (x.body.map St.enc)),U x.ret.op,I x.ret.int,Sg x.ret.name,Sg x.ret.second,Sg x.ret.place.name,.p (strs x.ret.place.path),.p (.sl 8 (x.ret.args.map Ex.enc)),I x.ret.pos,I x.pos] 47] :: S) (fun q=>x.fields.length - q) 0 ⟨Nat.zero_le _,fun i hi h=>by omega⟩ ?_ ?_ ?_
 ·simp
 ·simp
 rintro q ⟨hq,hall⟩
 by_cases hlt : q < x.fields.length
 ·have hnx : ∀ f,x.fields[q] = f → fieldB 1 d f = true → ∀ i (hi : i < x.fields.length),i < q + 1 → fieldB 1 d x.fields[i] = true:=fun f hs hb i hi h=>by
   rcases Nat.lt_or_ge i q with h' | h'
   ·exact hall i hi h'
   ·obtain rfl : i = q:=by omega
    rw [hs]; exact hb
  have hno : ∀ f,x.fields[q] = f → fieldB 1 d f = false → R = false:=fun f hs hb=>by
   have : x.fields.all (fieldB 1 d) = false:=by
    rw [List.all_eq_false]
    exact ⟨f,by rw [← hs]; exact List.getElem_mem hlt,by rw [hb]; simp⟩
   rw [hw,this,Bool.false_and]
  have hsf:=hfs.2 _ (List.getElem_mem hlt)
  generalize hxq : x.fields[q] = f at *
  have g1:=fun S=>rnameC f.name (sm_max hsf.1) S
  have g2:=fun S=>r3ZeroTyC f.type S
  have g3:=fun S=>rTypeC f.type hsf.2 (d - 1) S (by omega) (by omega)
  have hfb : fieldB 1 d f = (nameB f.name && (f.type.whole (d - 1))):=by unfold fieldB; simp
  simp [hlt,hxq,Fi.enc]
  refine ⟨_,_,g1 _,?_⟩
  cases h1 : nameB f.name with
  | false =>
   have e:=hno f rfl (by rw [hfb,h1,Bool.false_and])
   simp [e]
  | true =>
   simp [hwd]
   refine ⟨_,_,g3 _,?_⟩
   cases h3 : f.type.whole (d - 1) with
   | false =>
    have e:=hno f rfl (by rw [hfb,h1,h3]; rfl)
    simp [e]
   | true =>
    have e:=hnx f rfl (by rw [hfb,h1,h3]; rfl)
    simp
    exact ⟨q + 1,⟨hlt,e⟩,by omega,wrap_succ hlt⟩
 have ha : x.fields.all (fieldB 1 d) = true:=by
  rw [List.all_eq_true]
  intro f hf
  obtain ⟨i,hi,rfl⟩:=List.mem_iff_getElem.1 hf
  exact hall i hi (by omega)
 rw [ha,Bool.true_and] at hw
 rw [hw]
 simp [hlt]
 refine ⟨_,_,gY _,?_⟩
 generalize typeB x.name = c1
 cases c1 with
 | false=>simp
 | true =>
  simp
  refine ⟨_,_,gZ _,?_⟩
  generalize zeroTyB x.result = c2
  cases c2 with
  | false=>simp
  | true =>
   by_cases hb : x.body = []
   ·simp [hb]
    refine ⟨_,_,gX _,?_⟩
    simp
   ·simp [hb]
theorem itemR2 (x : It) (hsm : ItSm x) (hnn : ItNn x) (hk : x.kind = 2) : RI x:=by
 intro d S hd1 hd2
 obtain ⟨hn,hfs,hty,hbs,hex⟩:=hsm
 have gY:=fun S=>rtypeC x.name (sm_max hn) S
 have gN:=fun S=>rnameC x.name (sm_max hn) S
 have gZ:=fun S=>r3ZeroTyC x.result S
 have gX:=fun S=>r3ZeroExC x.ret S
 have gT:=fun S=>rTypeC x.result hty (d - 1) S (by omega) (by omega)
 have gL:=fun S=>rLentC x.ret S
 have gE:=fun S=>rExprC x.ret hex hnn.1 (d - 1) S (by omega) (by omega)
 have gB:=fun S=>r3StmtsC x.body (fun s hs=>r3StmtC s (hbs.2 s hs) (hnn.2 s hs)) hbs.1 (d - 1) (by omega) (by omega) S
 have hlen : x.fields.length ≤ maxLen:=sm_max hfs.1
 have hwd:=wrd d (by omega)
 have hw : x.whole d = (decide (x.fields.length ≤ 6) && (x.fields.all (fieldB 2 d) && (typeB x.name && (zeroTyB x.result && (decide (x.body.length = 0) && zeroExB x.ret))))):=by
  unfold It.whole
  rw [if_pos (by omega),allUp_eq,hk]
  have h6 : decide ((x.fields.length : Int) ≤ 6) = decide (x.fields.length ≤ 6):=by rw [Bool.eq_iff_iff]; simp only [decide_eq_true_eq]; omega
  rw [h6]
  generalize typeB x.name = b1
  generalize zeroTyB x.result = b2
  generalize decide (x.body.length = 0) = b3
  generalize zeroExB x.ret = b4
  generalize decide (x.fields.length ≤ 6) = b5
  generalize x.fields.all (fieldB 2 d) = b6
  cases b1 <;> cases b2 <;> cases b3 <;> cases b4 <;> cases b5 <;> cases b6 <;> rfl
 generalize hR : x.whole d = R at *
 refine ADet.intro mixed Tryz.call63 Tryz.func63 rfl ?_
 by_cases h6 : ¬ x.fields.length ≤ 6
 ·have h6' : (6 : Int) < x.fields.length:=by omega
  have h6n : ¬ (x.fields.length : Int) ≤ 6:=by omega
  have e : R = false:=by rw [hw,decide_eq_false h6,Bool.false_and]
  simp [Tryz.ntmps63,hk,h6',h6n,e]
 have h6:=Decidable.not_not.1 h6
 have h6' : ¬ (6 : Int) < x.fields.length:=by omega
 have h6n : (x.fields.length : Int) ≤ 6:=by omega
 rw [decide_eq_true h6,Bool.true_and] at hw
 simp [Tryz.ntmps63,hk,h6',h6n]
 refine awp_loop (fun q : Nat=>q ≤ x.fields.length ∧ ∀ i (hi : i < x.fields.length),i < q → fieldB 2 d x.fields[i] = true) (fun q=>([.any,I d,.ptr 0 0 0,.any,.any,I q] ++ List.replicate 112 .any)) (fun q=>[.cells [U 2,Sg x.name,.p (.sl 4 (x.fields.map Fi.enc)),U x.result.kind,Sg x.result.name,.p (.sl 3 (x.result.args.map Ty.enc)),.p (.sl 15 (x.body.map St.enc)),U x.ret.op,I x.ret.int,Sg x.ret.name,Sg x.ret.second,Sg x.ret.place.name,.p (strs x.ret.place.path),.p (.sl 8 (x.ret.args.map Ex.enc)),I x.ret.pos,I x.pos] 47] :: S) (fun q=>x.fields.length - q) 0 ⟨Nat.zero_le _,fun i hi h=>by omega⟩ ?_ ?_ ?_
 ·simp
 ·simp
 rintro q ⟨hq,hall⟩
 by_cases hlt : q < x.fields.length
 ·have hnx : ∀ f,x.fields[q] = f → fieldB 2 d f = true → ∀ i (hi : i < x.fields.length),i < q + 1 → fieldB 2 d x.fields[i] = true:=fun f hs hb i hi h=>by
   rcases Nat.lt_or_ge i q with h' | h'
   ·exact hall i hi h'
   ·obtain rfl : i = q:=by omega
    rw [hs]; exact hb
  have hno : ∀ f,x.fields[q] = f → fieldB 2 d f = false → R = false:=fun f hs hb=>by
   have : x.fields.all (fieldB 2 d) = false:=by
    rw [List.all_eq_false]
    exact ⟨f,by rw [← hs]; exact List.getElem_mem hlt,by rw [hb]; simp⟩
   rw [hw,this,Bool.false_and]
  have hsf:=hfs.2 _ (List.getElem_mem hlt)
  generalize hxq : x.fields[q] = f at *
  have g1:=fun S=>rtypeC f.name (sm_max hsf.1) S
  have g2:=fun S=>r3ZeroTyC f.type S
  have g3:=fun S=>rTypeC f.type hsf.2 (d - 1) S (by omega) (by omega)
  have hfb : fieldB 2 d f = (typeB f.name && (zeroTyB f.type || f.type.whole (d - 1))):=by unfold fieldB; simp
  simp [hlt,hxq,Fi.enc]
  refine ⟨_,_,g1 _,?_⟩
  cases h1 : typeB f.name with
  | false =>
   have e:=hno f rfl (by rw [hfb,h1,Bool.false_and])
   simp [e]
  | true =>
   simp
   refine ⟨_,_,g2 _,?_⟩
   cases h2 : zeroTyB f.type with
   | true =>
    have e:=hnx f rfl (by rw [hfb,h1,h2]; rfl)
    simp
    exact ⟨q + 1,⟨hlt,e⟩,by omega,wrap_succ hlt⟩
   | false =>
    simp [hwd]
    refine ⟨_,_,g3 _,?_⟩
    cases h3 : f.type.whole (d - 1) with
    | false =>
     have e:=hno f rfl (by rw [hfb,h1,h2,h3]; rfl)
     simp [e]
    | true =>
     have e:=hnx f rfl (by rw [hfb,h1,h2,h3]; rfl)
     simp
     exact ⟨q + 1,⟨hlt,e⟩,by omega,wrap_succ hlt⟩
 have ha : x.fields.all (fieldB 2 d) = true:=by
  rw [List.all_eq_true]
  intro f hf
  obtain ⟨i,hi,rfl⟩:=List.mem_iff_getElem.1 hf
  exact hall i hi (by omega)
 rw [ha,Bool.true_and] at hw
 rw [hw]
 simp [hlt]
 refine ⟨_,_,gY _,?_⟩
 generalize typeB x.name = c1
 cases c1 with
 | false=>simp
 | true =>
  simp
  refine ⟨_,_,gZ _,?_⟩
  generalize zeroTyB x.result = c2
  cases c2 with
  | false=>simp
  | true =>
   by_cases hb : x.body = []
   ·simp [hb]
    refine ⟨_,_,gX _,?_⟩
    simp
   ·simp [hb]
theorem itemR3 (x : It) (hsm : ItSm x) (hnn : ItNn x) (hk : x.kind = 3) : RI x:=by
 intro d S hd1 hd2
 obtain ⟨hn,hfs,hty,hbs,hex⟩:=hsm
 have gY:=fun S=>rtypeC x.name (sm_max hn) S
 have gN:=fun S=>rnameC x.name (sm_max hn) S
 have gZ:=fun S=>r3ZeroTyC x.result S
 have gX:=fun S=>r3ZeroExC x.ret S
 have gT:=fun S=>rTypeC x.result hty (d - 1) S (by omega) (by omega)
 have gL:=fun S=>rLentC x.ret S
 have gE:=fun S=>rExprC x.ret hex hnn.1 (d - 1) S (by omega) (by omega)
 have gB:=fun S=>r3StmtsC x.body (fun s hs=>r3StmtC s (hbs.2 s hs) (hnn.2 s hs)) hbs.1 (d - 1) (by omega) (by omega) S
 have hlen : x.fields.length ≤ maxLen:=sm_max hfs.1
 have hwd:=wrd d (by omega)
 have hw : x.whole d = (decide (x.fields.length ≤ 6) && (x.fields.all (fieldB 3 d) && (nameB x.name && (x.result.whole (d - 1) && (!lentOp x.ret.op && (x.ret.whole (d - 1) && x.body.all fun s=>s.whole (d - 1))))))):=by
  unfold It.whole
  rw [if_neg (by omega),if_pos hk,allUp_eq]
  have h6 : decide ((x.fields.length : Int) ≤ 6) = decide (x.fields.length ≤ 6):=by rw [Bool.eq_iff_iff]; simp only [decide_eq_true_eq]; omega
  rw [h6]
  cases nameB x.name <;> cases decide (x.fields.length ≤ 6) <;> cases x.fields.all (fieldB 3 d) <;> simp
 generalize hR : x.whole d = R at *
 refine ADet.intro mixed Tryz.call63 Tryz.func63 rfl ?_
 by_cases h6 : ¬ x.fields.length ≤ 6
 ·have h6' : (6 : Int) < x.fields.length:=by omega
  have h6n : ¬ (x.fields.length : Int) ≤ 6:=by omega
  have e : R = false:=by rw [hw,decide_eq_false h6,Bool.false_and]
  simp [Tryz.ntmps63,hk,h6',h6n,e]
 have h6:=Decidable.not_not.1 h6
 have h6' : ¬ (6 : Int) < x.fields.length:=by omega
 have h6n : (x.fields.length : Int) ≤ 6:=by omega
 rw [decide_eq_true h6,Bool.true_and] at hw
 simp [Tryz.ntmps63,hk,h6',h6n]
 refine awp_loop (fun q : Nat=>q ≤ x.fields.length ∧ ∀ i (hi : i < x.fields.length),i < q → fieldB 3 d x.fields[i] = true) (fun q=>([.any,I d,.ptr 0 0 0,.any,.any,I q] ++ List.replicate 112 .any)) (fun q=>[.cells [U 3,Sg x.name,.p (.sl 4 (x.fields.map Fi.enc)),U x.result.kind,Sg x.result.name,.p (.sl 3 (x.result.args.map Ty.enc)),.p (.sl 15 (x.body.map St.enc)),U x.ret.op,I x.ret.int,Sg x.ret.name,Sg x.ret.second,Sg x.ret.place.name,.p (strs x.ret.place.path),.p (.sl 8 (x.ret.args.map Ex.enc)),I x.ret.pos,I x.pos] 47] :: S) (fun q=>x.fields.length - q) 0 ⟨Nat.zero_le _,fun i hi h=>by omega⟩ ?_ ?_ ?_
 ·simp
 ·simp
 rintro q ⟨hq,hall⟩
 by_cases hlt : q < x.fields.length
 ·have hnx : ∀ f,x.fields[q] = f → fieldB 3 d f = true → ∀ i (hi : i < x.fields.length),i < q + 1 → fieldB 3 d x.fields[i] = true:=fun f hs hb i hi h=>by
   rcases Nat.lt_or_ge i q with h' | h'
   ·exact hall i hi h'
   ·obtain rfl : i = q:=by omega
    rw [hs]; exact hb
  have hno : ∀ f,x.fields[q] = f → fieldB 3 d f = false → R = false:=fun f hs hb=>by
   have : x.fields.all (fieldB 3 d) = false:=by
    rw [List.all_eq_false]
    exact ⟨f,by rw [← hs]; exact List.getElem_mem hlt,by rw [hb]; simp⟩
   rw [hw,this,Bool.false_and]
  have hsf:=hfs.2 _ (List.getElem_mem hlt)
  generalize hxq : x.fields[q] = f at *
  have g1:=fun S=>rnameC f.name (sm_max hsf.1) S
  have g2:=fun S=>r3ZeroTyC f.type S
  have g3:=fun S=>rTypeC f.type hsf.2 (d - 1) S (by omega) (by omega)
  have hfb : fieldB 3 d f = (nameB f.name && (f.type.whole (d - 1))):=by unfold fieldB; simp
  simp [hlt,hxq,Fi.enc]
  refine ⟨_,_,g1 _,?_⟩
  cases h1 : nameB f.name with
  | false =>
   have e:=hno f rfl (by rw [hfb,h1,Bool.false_and])
   simp [e]
  | true =>
   simp [hwd]
   refine ⟨_,_,g3 _,?_⟩
   cases h3 : f.type.whole (d - 1) with
   | false =>
    have e:=hno f rfl (by rw [hfb,h1,h3]; rfl)
    simp [e]
   | true =>
    have e:=hnx f rfl (by rw [hfb,h1,h3]; rfl)
    simp
    exact ⟨q + 1,⟨hlt,e⟩,by omega,wrap_succ hlt⟩
 have ha : x.fields.all (fieldB 3 d) = true:=by
  rw [List.all_eq_true]
  intro f hf
  obtain ⟨i,hi,rfl⟩:=List.mem_iff_getElem.1 hf
  exact hall i hi (by omega)
 rw [ha,Bool.true_and] at hw
 rw [hw]
 simp [hlt]
 refine ⟨_,_,gN _,?_⟩
 generalize nameB x.name = c1
 cases c1 with
 | false=>simp
 | true =>
  simp [hwd]
  refine ⟨_,_,gT _,?_⟩
  generalize x.result.whole (d - 1) = c2
  cases c2 with
  | false=>simp
  | true =>
   simp
   refine ⟨_,_,gL _,?_⟩
   generalize lentOp x.ret.op = c3
   cases c3 with
   | true=>simp
   | false =>
    simp [hwd]
    refine ⟨_,_,gE _,?_⟩
    generalize x.ret.whole (d - 1) = c4
    cases c4 with
    | false=>simp
    | true =>
     simp [hwd]
     refine ⟨_,_,gB _,?_⟩
     simp
theorem itemR0 (x : It) (hk : ¬ (x.kind = 1 ∨ x.kind = 2 ∨ x.kind = 3)) : RI x:=by
 intro d S hd1 hd2
 have e : x.whole d = false:=by unfold It.whole; rw [if_neg (by omega),if_neg (by omega)]
 rw [e]
 refine ADet.intro mixed Tryz.call63 Tryz.func63 rfl ?_
 rcases Int.lt_or_le x.kind 1 with h | h
 ·simp [Tryz.ntmps63,h]
 ·have h1 : ¬ x.kind < 1:=by omega
  have h3 : 3 < x.kind:=by omega
  simp [Tryz.ntmps63,h1,h3]
theorem itemR3w (x : It) (hsm : ItSm x) (hnn : ItNn x) : RI x:=by
 by_cases h1 : x.kind = 1
 ·exact itemR1 x hsm hnn h1
 by_cases h2 : x.kind = 2
 ·exact itemR2 x hsm hnn h2
 by_cases h3 : x.kind = 3
 ·exact itemR3 x hsm hnn h3
 exact itemR0 x (by omega)
theorem r3WholeC (p : List It) (hsm : PrSm p) (hnn : ∀ x ∈ p,ItNn x) (S : ASt) : ADet Tryz.prog 34 [.agg [.p (prog p)]] S (B (prWhole p)) S:=by
 have hlen : p.length ≤ maxLen:=sm_max hsm.1
 have hw : prWhole p = (decide ((p.length : Int) ≤ 30) && p.all fun x=>x.whole 39):=allUp_eq _ _ _
 generalize hR : prWhole p = R at *
 refine ADet.intro mixed Tryz.call34 Tryz.func34 rfl ?_
 by_cases h6 : ¬ p.length ≤ 30
 ·have h6' : (30 : Int) < p.length:=by omega
  have h6n : ¬ (p.length : Int) ≤ 30:=by omega
  have e : R = false:=by rw [hw,decide_eq_false (by omega),Bool.false_and]
  simp [Tryz.ntmps34,prog,h6',h6n,e]
 have h6:=Decidable.not_not.1 h6
 have h6' : ¬ (30 : Int) < p.length:=by omega
 have h6n : (p.length : Int) ≤ 30:=by omega
 rw [decide_eq_true (by omega),Bool.true_and] at hw
 simp [Tryz.ntmps34,prog,h6',h6n]
 refine awp_loop (fun q : Nat=>q ≤ p.length ∧ ∀ i (hi : i < p.length),i < q → p[i].whole 39 = true) (fun q=>([.any,.ptr 0 0 0,.any,I q] ++ List.replicate 18 .any)) (fun q=>[.cells [.p (.sl 16 (p.map It.enc))] 24] :: S) (fun q=>p.length - q) 0 ⟨Nat.zero_le _,fun i hi h=>by omega⟩ ?_ ?_ ?_
 ·simp
 ·simp
 rintro q ⟨hq,hall⟩
 by_cases hlt : q < p.length
 ·have hnx : ∀ f,p[q] = f → f.whole 39 = true → ∀ i (hi : i < p.length),i < q + 1 → p[i].whole 39 = true:=fun f hs hb i hi h=>by
   rcases Nat.lt_or_ge i q with h' | h'
   ·exact hall i hi h'
   ·obtain rfl : i = q:=by omega
    rw [hs]; exact hb
  have hno : ∀ f,p[q] = f → f.whole 39 = false → R = false:=fun f hs hb=>by
   rw [hw,List.all_eq_false]
   exact ⟨f,by rw [← hs]; exact List.getElem_mem hlt,by rw [hb]; simp⟩
  have g:=itemR3w _ (hsm.2 _ (List.getElem_mem hlt)) (hnn _ (List.getElem_mem hlt))
  generalize hxq : p[q] = x at *
  have g:=fun S=>g 39 S (by omega) (by omega)
  simp [hlt,hxq,It.enc,strs]
  refine ⟨_,_,g _,?_⟩
  cases h1 : x.whole 39 with
  | false =>
   have e:=hno x rfl h1
   simp [e]
  | true =>
   simp
   exact ⟨q + 1,⟨hlt,hnx x rfl h1⟩,by omega,wrap_succ hlt⟩
 ·have e : R = true:=by
   rw [hw,List.all_eq_true]
   intro f hf
   obtain ⟨i,hi,rfl⟩:=List.mem_iff_getElem.1 hf
   exact hall i hi (by omega)
  simp [hlt,e]
end Go.Proofs.YtfbpibkpmcceaaaGreatDoor
