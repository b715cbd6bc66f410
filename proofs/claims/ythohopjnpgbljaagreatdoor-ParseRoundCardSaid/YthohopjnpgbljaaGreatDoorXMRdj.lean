/- A part of the proof. The statement is proved in the claim's last text. -/
import Derived.Test.YthohopjnpgbljaaGreatDoorXMRde
set_option linter.unusedVariables false
set_option linter.unusedSimpArgs false
set_option maxRecDepth 100000
set_option maxHeartbeats 32000000
namespace Go.Proofs.YthohopjnpgbljaaGreatDoor
open Go.RowKit
end Go.Proofs.YthohopjnpgbljaaGreatDoor
namespace Go.Proofs.YthohopjnpgbljaaGreatDoor
open Go.RowKit
structure StF (s : St) : Prop where
 op : 1 ≤ s.op ∧ s.op ≤ 13
 cnt : countB s.op s.int = true
 nm : fmN s.op s.name = true
 sd : fmS s.op s.second = true
 len : (s.exprs.length : Int) = fmExprs s.op s.names.length
 ns : (∀ x ∈ s.names,nameB x = true) ∧ (s.names.length : Int) ≤ fmNames s.op
 ty : fmTyped s.op = true → ∃ d,s.type.whole d = true
 ty0 : fmTyped s.op = false → s.type = zeroT
 pl : fmPlaced s.op = true → s.place.whole = true
 pl0 : fmPlaced s.op = false → s.place = zeroPl
 b0 : fmBody s.op = false → s.body = []
 e0 : fmElse s.op = false → s.els = []
 a0 : fmArms s.op = false → s.arms = []
 es : ∀ e ∈ s.exprs,(fmLent s.op = true ∨ lentOp e.op = false) ∧ ∃ d,e.whole d = true
 bw : ∀ x ∈ s.body,∃ d,x.whole d = true
 ew : ∀ x ∈ s.els,∃ d,x.whole d = true
 ar : s.arms.length ≤ 6 ∧ ∀ a ∈ s.arms,typeB a.variant = true ∧ (a.name = emS ∨ nameB a.name = true) ∧ ∀ x ∈ a.body,∃ d,x.whole d = true
def One (l : List Tok) (n : Nat) (s0 : RS) (st : St) (s1 : RS) : Prop :=
 stepQ l n (strongQ l n 6) (innerQ l n []) s0 = some (some st,s1) ∨ (stepQ l n (strongQ l n 6) (innerQ l n []) s0 = some (none,s0) ∧ ∃ e s2,strongQ l n 6 s0 = some (e,s2) ∧ isP l s2 (⟨#[125]⟩ : ByteArray) 0 = false ∧ s1 = mustP l s2 [(⟨#[59]⟩ : ByteArray)] ∧ st = (st0 4 emS emS [e] [] []).at (placeP l s0))
def stHeads : List ByteArray:=[(⟨#[108,101,116]⟩ : ByteArray),(⟨#[100,114,111,112]⟩ : ByteArray),(⟨#[105,102]⟩ : ByteArray),(⟨#[119,104,105,108,101]⟩ : ByteArray),(⟨#[109,97,116,99,104]⟩ : ByteArray),(⟨#[115,99,111,112,101]⟩ : ByteArray),(⟨#[115,112,97,119,110]⟩ : ByteArray),(⟨#[108,111,99,107]⟩ : ByteArray),(⟨#[99,104,97,110]⟩ : ByteArray),(⟨#[123]⟩ : ByteArray)]
def StHd (t : ByteArray) : Prop:=kindT t = 2 ∨ kindT t = 3 ∨ kindT t = 4 ∨ inL t headL = true ∨ inL t stHeads = true
theorem StHd.ne {t u : ByteArray} (h : StHd t) (hk : kindT u ≠ 2 ∧ kindT u ≠ 3 ∧ kindT u ≠ 4) (hu : headL.all (fun t=>!sEq t u) = true) (hv : stHeads.all (fun t=>!sEq t u) = true) : sEq t u = false:=by
 rcases h with h1 | h1 | h1 | h1 | h1
 ·exact ne_kind (by omega)
 ·exact ne_kind (by omega)
 ·exact ne_kind (by omega)
 ·exact headL_ok _ _ hu h1
 ·exact headL_ok _ _ hv h1
theorem StHd.els {t : ByteArray} (h : StHd t) : sEq t (⟨#[101,108,115,101]⟩ : ByteArray) = false:=h.ne (by rw [show kindT (⟨#[101,108,115,101]⟩ : ByteArray) = 1 by kernel_rfl]; omega) (by kernel_rfl) (by kernel_rfl)
end Go.Proofs.YthohopjnpgbljaaGreatDoor
namespace Go.Proofs.YthohopjnpgbljaaGreatDoor
open Go.RowKit
section
variable {l : List Tok} {n : Nat} {ex : RS → Option (Ex × RS)} {inner : Blk} {s0 s1 : RS} {st : St} {t : ByteArray} {ts : List ByteArray}
theorem word_none (hno : startsK.all (fun u=>!sEq t u) = true) (s : RS) : wordQ l n ex inner t s = none:=by
 have h:=fun u (hu : u ∈ startsK)=>List.all_eq_true.1 hno u hu
 unfold startsK at h
 simp only [List.mem_cons,List.not_mem_nil,or_false,Bool.not_eq_true',forall_eq_or_imp,forall_eq] at h
 obtain ⟨k1,k2,k3,k4,k5,k6,k7,k8,k9,k10⟩:=h
 unfold wordQ
 rw [k1,k2,k3,k4,k5,k6,k7,k8,k9,k10]
 rfl
theorem step_none (h0 : AtR l s0 (t :: ts)) (hno : startsK.all (fun u=>!sEq t u) = true) : stepQ l n ex inner s0 = assignQ l n ex s0:=by
 obtain ⟨x,hx,hxt,_⟩:=h0.get
 unfold stepQ firstQ
 rw [if_neg (by rw [h0.ok]; simp),hx]
 simp only
 rw [hxt,word_none hno]
end
theorem no_start {t : ByteArray} (h : kindT t = 2 ∨ kindT t = 3 ∨ kindT t = 4 ∨ inL t headL = true) : startsK.all (fun u=>!sEq t u) = true:=by
 rw [List.all_eq_true]
 intro u hu
 have hk : kindT u ≠ 2 ∧ kindT u ≠ 3 ∧ kindT u ≠ 4:=by
  have:=List.all_eq_true.1 (show (startsK.all fun u=>kindT u == 1 || kindT u == 5) = true by kernel_rfl) u hu
  simp only [Bool.or_eq_true,beq_iff_eq] at this
  omega
 have hh : headL.all (fun t=>!sEq t u) = true:=List.all_eq_true.1 (show (startsK.all fun u=>headL.all fun t=>!sEq t u) = true by kernel_rfl) u hu
 have : sEq t u = false:=by
  rcases h with h1 | h1 | h1 | h1
  ·exact ne_kind (by omega)
  ·exact ne_kind (by omega)
  ·exact ne_kind (by omega)
  ·exact headL_ok _ _ hh h1
 rw [this]; rfl
section
variable {l : List Tok} (hk : Kinds l) {s : St} (hF : StF s) {n : Nat} {r : List ByteArray} {s0 : RS}
include hk in
include hk in
include hk in
end
end Go.Proofs.YthohopjnpgbljaaGreatDoor
namespace Go.Proofs.YthohopjnpgbljaaGreatDoor
open Go.RowKit
theorem ex_place : ∀ (e : Ex),(∃ d,e.whole d = true) → ∀ t ts,e.tk = t :: ts → kindT t = 2 → (∃ us,ts = (⟨#[40]⟩ : ByteArray) :: us) ∨ ∃ (x : Pl) (rest : List ByteArray),x.whole = true ∧ e.tk = x.tk ++ rest ∧ x.name = t ∧ ∀ h hs,rest = h :: hs → sEq h (⟨#[61]⟩ : ByteArray) = false ∧ sEq h (⟨#[46]⟩ : ByteArray) = false ∧ sEq h (⟨#[40]⟩ : ByteArray) = false:=by
 intro e
 induction e using Ex.ind with
 | h e ih =>
 rintro ⟨d,hd⟩ t ts ht hkt
 have hF:=ex_facts hd
 have hop:=hF.op
 have htk:=exTk_eq e
 unfold exTk1 at htk
 have hbad : ∀ {v : ByteArray} {vs : List ByteArray},e.tk = v :: vs → kindT v ≠ 2 → False:=fun {v vs} h1 h2=>by
  rw [h1] at ht
  cases ht
  exact h2 hkt
 by_cases hs : signI e.op < 7
 ·have h717:=sign_not7.1 hs
  by_cases hb : binB e.op
  ·obtain ⟨a,b,hab⟩:=bin_args hF hb
   obtain ⟨s,q1,q2,q3,q4,q5,q6⟩:=bin_str hb
   have htb:=bin_tk hb hab
   have ham : a ∈ e.args:=by rw [hab]; simp
   generalize (if signI e.op = 3 then 4 else signI e.op) = least at htb
   unfold parTk at htb
   by_cases hp : signI a.op < least
   ·rw [if_pos hp] at htb
    exact (hbad htb (by rw [show kindT (⟨#[40]⟩ : ByteArray) = 5 by kernel_rfl]; decide)).elim
   ·rw [if_neg hp] at htb
    obtain ⟨ta,tsa,hta,_⟩:=ex_head a (hF.args a ham).2
    rw [hta] at htb
    have e1 : t = ta:=by rw [htb] at ht; cases ht; rfl
    subst e1
    have hsg : sEq (signB e.op) (⟨#[61]⟩ : ByteArray) = false ∧ sEq (signB e.op) (⟨#[46]⟩ : ByteArray) = false ∧ sEq (signB e.op) (⟨#[40]⟩ : ByteArray) = false:=by
     rcases hb with h | h | h | h | h | h | h | h | h <;> rw [h] <;> exact ⟨by kernel_rfl,by kernel_rfl,by kernel_rfl⟩
    rcases ih a ham (hF.args a ham).2 t tsa hta hkt with ⟨us,h1⟩ | ⟨x,rest,h1,h2,h3,h4⟩
    ·refine .inl ⟨us ++ signB e.op :: (if signI b.op < signI e.op + 1 then (⟨#[40]⟩ : ByteArray) :: (b.tk ++ [(⟨#[41]⟩ : ByteArray)]) else b.tk),?_⟩
     rw [htb] at ht
     cases ht
     rw [h1]; rfl
    ·refine .inr ⟨x,rest ++ signB e.op :: (if signI b.op < signI e.op + 1 then (⟨#[40]⟩ : ByteArray) :: (b.tk ++ [(⟨#[41]⟩ : ByteArray)]) else b.tk),h1,?_,h3,fun h hs he=>?_⟩
     ·rw [htb,← hta,h2,List.append_assoc]
     ·cases rest with
      | nil=>cases he; exact hsg
      | cons c cs=>cases he; exact h4 _ _ rfl
  ·rw [if_pos hs] at htk
   have h78 : e.op = 7 ∨ e.op = 8:=by unfold binB at hb; omega
   obtain ⟨a,ha⟩:=one_arg hF.low hF.high (by rcases h78 with h | h <;> rw [h] <;> rfl) (by rcases h78 with h | h <;> rw [h] <;> rfl)
   rw [ha] at htk
   refine (hbad htk ?_).elim
   rcases h78 with h | h <;> rw [h]
   ·rw [show kindT (signB 7) = 5 by kernel_rfl]; decide
   ·rw [show kindT (signB 8) = 1 by kernel_rfl]; decide
 ·rw [if_neg hs] at htk
  have hl:=hF.lab
  have hp:=hF.pl
  unfold labB at hl
  simp only [Bool.and_eq_true] at hl
  by_cases h1 : e.op = 1
  ·rw [if_pos h1] at htk
   have hi : 0 ≤ e.int:=by have:=hl.2; rw [if_pos h1] at this; simpa using this
   exact (hbad htk (by rw [itoa_kind hi]; decide)).elim
  rw [if_neg h1] at htk
  by_cases h2 : e.op = 2
  ·rw [if_pos h2] at htk
   refine (hbad htk ?_).elim
   split
   ·rw [show kindT (⟨#[102,97,108,115,101]⟩ : ByteArray) = 1 by kernel_rfl]; decide
   ·rw [show kindT (⟨#[116,114,117,101]⟩ : ByteArray) = 1 by kernel_rfl]; decide
  rw [if_neg h2] at htk
  by_cases h3 : e.op = 3
  ·rw [if_pos h3] at htk
   exact (hbad htk (by rw [show kindT (⟨#[40]⟩ : ByteArray) = 5 by kernel_rfl]; decide)).elim
  rw [if_neg h3] at htk
  by_cases h4 : e.op = 4
  ·rw [if_pos h4] at htk
   refine .inr ⟨e.place,[],a_place hp (by rw [h4]; rfl),by rw [List.append_nil]; exact htk,?_,fun h hs he=>by cases he⟩
   rw [ht] at htk
   have : t = e.place.name:=by unfold Pl.tk at htk; exact (List.cons.inj htk).1
   exact this.symm
  rw [if_neg h4] at htk
  by_cases h5 : e.op = 5
  ·rw [if_pos h5] at htk
   exact (hbad htk (by rw [show kindT (⟨#[38]⟩ : ByteArray) = 5 by kernel_rfl]; decide)).elim
  rw [if_neg h5] at htk
  by_cases h6 : e.op = 6
  ·rw [if_pos h6] at htk
   exact (hbad htk (by rw [show kindT (⟨#[38]⟩ : ByteArray) = 5 by kernel_rfl]; decide)).elim
  rw [if_neg h6] at htk
  by_cases h18 : e.op = 18
  ·rw [if_pos h18,ht] at htk
   exact .inl ⟨_,(List.cons.inj htk).2⟩
  rw [if_neg h18] at htk
  by_cases h19 : e.op = 19
  ·rw [if_pos h19] at htk
   have hty : typeB e.name = true:=by have:=hl.1.1; rwa [if_neg h18,if_pos (.inl h19)] at this
   exact (hbad htk (by rw [kind_type hty]; decide)).elim
  rw [if_neg h19] at htk
  by_cases h20 : e.op = 20
  ·rw [if_pos h20] at htk
   have hty : typeB e.name = true:=by have:=hl.1.1; rwa [if_neg h18,if_pos (.inr h20)] at this
   exact (hbad htk (by rw [kind_type hty]; decide)).elim
  rw [if_neg h20] at htk
  exact (hbad htk (by rw [word_kind]; decide)).elim
section
variable {l : List Tok} {s : St} {n : Nat} {r : List ByteArray} {s0 : RS}
end
end Go.Proofs.YthohopjnpgbljaaGreatDoor
