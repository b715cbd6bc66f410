/- 8 texts of this proof, one behind the other: CR4F CR4G CR4H CR4I CR4J Itoa CPr CPs. The statement is proved in the claim's last text. -/
import Derived.Test.YtldglgdejmljnaaGreatDoorMRc
import Derived.Test.YtldglgdejmljnaaGreatDoorMSh
import Derived.Lib.ItoaMem
import Derived.Deep.RegionHeld3
import Derived.Laws.IdiomStrings
namespace Go.Proofs.YtldglgdejmljnaaGreatDoor
open Go.RowKit
set_option linter.unusedVariables false
set_option linter.unusedSimpArgs false

/-- the reference prints a number -/
def PrintOK : Prop := ∀ (v : Int) (S : ASt), -9223372036854775808 ≤ v → v ≤ 9223372036854775807 → ADet Tryz.prog 32 [I v] S (Sg (itoaB v)) S
set_option maxRecDepth 100000 in
set_option maxHeartbeats 4000000 in
theorem r4_plain (hP : PrintOK) (e : Ex) (d0 : Int) (hw : e.whole d0 = true) (hr : ExRg e) (hsm : e.place.path.length ≤ 20000 ∧ e.args.length ≤ 20000) (h7 : ¬ signI e.op < 7) (hop : e.op < 21) (hl : ∀ x ∈ e.args, R4 x) (hb : tl e.tk ≤ 2000000000) : R4 e := by
  obtain ⟨⟨ho1, ho2⟩, hlab, ⟨hsl, hsm1⟩, hpl, _⟩ := ex_split hw
  obtain ⟨⟨hi1, hi2⟩, _⟩ := (exRg_iff e).1 hr
  have hn7 : ¬ (7 ≤ e.op ∧ e.op ≤ 17) := fun h => h7 (sign_7.2 h)
  have htk := exTk_plain h7
  intro S
  have hlt := len_tl e.tk
  refine ADet.intro mixed Tryz.call12 Tryz.func12 rfl ?_
  simp [List.replicate, List.range, List.range.loop, Tryz.ntmps12]
  refine ⟨_, _, strengthC e.op _, ?_⟩
  have h7' : 7 ≤ signI e.op := by omega
  by_cases hop1 : e.op = 1
  · simp only [hop1, if_true] at htk
    rw [htk]
    simp [List.replicate, List.range, List.range.loop, hop1, h7, h7']
    refine ⟨_, _, hP e.int _ hi1 hi2, ?_⟩
    simp [List.replicate, List.range, List.range.loop, resA, resOne, retA, strs]
  by_cases hop2 : e.op = 2
  · simp [hop2] at htk
    rw [htk]
    simp [labB, hop2] at hlab
    rcases hlab.2 with hi | hi
    · simp [List.replicate, List.range, List.range.loop, resA, resOne, retA, hop2, hi, strs, h7, h7']
    · simp [List.replicate, List.range, List.range.loop, resA, resOne, retA, hop2, hi, strs, h7, h7']
  by_cases hop3 : e.op = 3
  · simp [hop3] at htk
    rw [htk]
    simp [List.replicate, List.range, List.range.loop, resA, resOne, retA, hop3, strs, h7, h7']
  by_cases hop4 : e.op = 4
  · simp [hop4] at htk
    rw [htk]
    simp [List.replicate, List.range, List.range.loop, hop4, h7, h7']
    refine ⟨_, _, r4PlaceC e.place hsm.1 _, ?_⟩
    simp [List.replicate, List.range, List.range.loop, resA, resOne, retA]
  by_cases hop5 : e.op = 5
  · simp [hop5] at htk
    rw [htk] at hb hlt ⊢
    simp only [List.length_cons] at hlt
    have e1 : 1 + e.place.tk.length ≤ 4294967296 := by omega
    have e2 : e.place.tk.length ≤ 4294967295 := by omega
    have e3 : 1 + e.place.tk.length = e.place.tk.length + 1 := by omega
    simp [List.replicate, List.range, List.range.loop, hop5, h7, h7']
    refine ⟨_, _, r4PlaceC e.place hsm.1 _, ?_⟩
    simp [List.replicate, List.range, List.range.loop, resA, resOne, retA, hop5, strs, e1, e2, e3]
  by_cases hop6 : e.op = 6
  · simp [hop6] at htk
    rw [htk] at hb hlt ⊢
    simp only [List.length_cons] at hlt
    have e1 : 2 + e.place.tk.length ≤ 4294967296 := by omega
    have e2 : e.place.tk.length ≤ 4294967294 := by omega
    simp [List.replicate, List.range, List.range.loop, hop6, h7, h7']
    refine ⟨_, _, r4PlaceC e.place hsm.1 _, ?_⟩
    simp [List.replicate, List.range, List.range.loop, resA, resOne, retA, hop6, strs, e1, e2]
  by_cases hop18 : e.op = 18
  · simp [hop18] at htk
    rw [htk] at hb hlt ⊢
    simp only [tl_cons, tl_nil, tl_append] at hb
    simp only [List.length_cons, List.length_append, List.length_nil] at hlt
    have hcm := len_tl (commas (e.args.map Ex.tk))
    have hA := fun S => args4C e.args hl hsm.2 (by omega) (⟨#[40]⟩ : ByteArray) (⟨#[41]⟩ : ByteArray) S
    generalize hcq : commas (e.args.map Ex.tk) = cm at *
    have e1 : 1 + (cm.length + 2) ≤ 4294967296 := by omega
    have e2 : 1 + (cm.length + 1 + 1) ≤ 4294967296 := by omega
    have e3 : cm.length + 1 + 1 ≤ 4294967295 := by omega
    have e4 : cm.length ≤ 4294967293 := by omega
    simp [List.replicate, List.range, List.range.loop, hop18, h7, h7']
    refine ⟨_, _, hA _, ?_⟩
    simp [List.replicate, List.range, List.range.loop, resA, resOne, retA, hop18, strs, e1, e2, e3, e4]
  by_cases hop19 : e.op = 19
  · simp [hop19] at htk
    rw [htk] at hb hlt ⊢
    simp only [tl_cons, tl_nil, tl_append] at hb
    simp [placedB, hop19, shP] at hpl
    have hcm := len_tl (commas (givenTk e.place.path (e.args.map Ex.tk)))
    have hA := fun S => given4C e.place.path e.args hpl.2.1 hl hsm.2 (by omega) S
    generalize hcq : commas (givenTk e.place.path (e.args.map Ex.tk)) = cm at *
    have e1 : 2 + cm.length ≤ 4294967296 := by omega
    have e2 : 2 + cm.length + 1 ≤ 4294967296 := by omega
    have e3 : cm.length ≤ 4294967294 := by omega
    have e4 : cm.length ≤ 4294967293 := by omega
    have e5 : 2 + cm.length = cm.length + 1 + 1 := by omega
    simp [List.replicate, List.range, List.range.loop, hop19, h7, h7']
    refine ⟨_, _, hA _, ?_⟩
    simp [List.replicate, List.range, List.range.loop, resA, resOne, retA, hop19, strs, e1, e2, e3, e4, e5]
  have hop20 : e.op = 20 := by omega
  simp [hop20] at htk
  rw [htk] at hb hlt ⊢
  have h1 : (e.args.length : Int) ≤ 1 := by simpa [shM, hop20] using hsm1
  rcases hargs : e.args with _ | ⟨x, l⟩
  · simp [List.replicate, List.range, List.range.loop, resA, resOne, retA, hop20, hargs, strs, h7, h7']
  · have hl0 : l = [] := List.eq_nil_of_length_eq_zero (by rw [hargs] at h1; simp at h1; omega)
    subst hl0
    have hx := hl x (by rw [hargs]; simp)
    simp only [hargs, tl_cons, tl_nil, tl_append] at hb
    have hcm := len_tl x.tk
    have hA := fun S => args4C [x] (by simpa using hx) (by simp) (by simp [commas]; omega) (⟨#[40]⟩ : ByteArray) (⟨#[41]⟩ : ByteArray) S
    simp [commas] at hA
    have e1 : 3 + (x.tk.length + 1 + 1) ≤ 4294967296 := by omega
    have e2 : 3 + (x.tk.length + 2) ≤ 4294967296 := by omega
    have e3 : x.tk.length + 1 + 1 ≤ 4294967293 := by omega
    have e4 : x.tk.length ≤ 4294967291 := by omega
    simp [List.replicate, List.range, List.range.loop, hop20, hargs, h7, h7']
    refine ⟨_, _, hA _, ?_⟩
    simp [List.replicate, List.range, List.range.loop, resA, resOne, retA, hop20, hargs, strs, e1, e2, e3, e4]
end Go.Proofs.YtldglgdejmljnaaGreatDoor

namespace Go.Proofs.YtldglgdejmljnaaGreatDoor
open Go.RowKit
set_option linter.unusedVariables false
set_option linter.unusedSimpArgs false

set_option maxRecDepth 100000 in
set_option maxHeartbeats 4000000 in
theorem r4_sign (e : Ex) (d0 : Int) (hw : e.whole d0 = true) (h7 : signI e.op < 7) (hl : ∀ x ∈ e.args, R4 x) (hb : tl e.tk ≤ 2000000000) : R4 e := by
  obtain ⟨⟨ho1, ho2⟩, hlab, ⟨hsl, hsm⟩, hpl, _⟩ := ex_split hw
  have hs0 := signI_nn e.op
  have w1 : IntKind.i64.wrap (signI e.op + 1) = signI e.op + 1 := IntWalk.i64_in _ (by omega)
  obtain ⟨g1, g2⟩ := sign_7.1 h7
  have k1 : (e.op == 1) = false := by rw [beq_eq_false_iff_ne]; omega
  have k2 : (e.op == 2) = false := by rw [beq_eq_false_iff_ne]; omega
  have k3 : (e.op == 3) = false := by rw [beq_eq_false_iff_ne]; omega
  have k4 : (e.op == 4) = false := by rw [beq_eq_false_iff_ne]; omega
  have k5 : (e.op == 5) = false := by rw [beq_eq_false_iff_ne]; omega
  have k6 : (e.op == 6) = false := by rw [beq_eq_false_iff_ne]; omega
  have k18 : (e.op == 18) = false := by rw [beq_eq_false_iff_ne]; omega
  have k19 : (e.op == 19) = false := by rw [beq_eq_false_iff_ne]; omega
  have k20 : (e.op == 20) = false := by rw [beq_eq_false_iff_ne]; omega
  have hwd : wordR e.op = signB e.op := by unfold wordR; rw [if_pos ⟨g1, g2⟩]
  have hW := fun S => rWordC e.op (Or.inl ⟨g1, g2⟩) S
  rw [hwd] at hW
  intro S
  refine ADet.intro mixed Tryz.call12 Tryz.func12 rfl ?_
  simp [List.replicate, List.range, List.range.loop, Tryz.ntmps12]
  refine ⟨_, _, strengthC e.op _, ?_⟩
  by_cases hu : e.op = 7 ∨ e.op = 8
  · obtain ⟨x, ha⟩ : ∃ x, e.args = [x] := by
      have h1 : shL e.op = 1 := by rcases hu with h | h <;> simp [shL, h]
      have h2 : shM e.op = 1 := by rcases hu with h | h <;> simp [shM, h]
      exact List.length_eq_one_iff.1 (by omega)
    have hx := hl x (by rw [ha]; simp)
    rw [exTk_one h7 ha] at hb ⊢
    simp only [tl_cons] at hb
    have hpx := len_tl (parTk x.op (signI e.op) x.tk)
    have hs := fun S => sideC x hx (signI e.op) (by
      have : tl x.tk ≤ tl (parTk x.op (signI e.op) x.tk) := by unfold parTk; split <;> first | omega | (simp only [tl_cons, tl_append, tl_nil]; omega)
      omega) S
    generalize parTk x.op (signI e.op) x.tk = px at *
    have e1 : 1 + px.length ≤ 4294967296 := by omega
    have e2 : px.length ≤ 4294967295 := by omega
    have e3 : 1 + px.length = px.length + 1 := by omega
    simp (config := { maxSteps := 300000 }) [List.replicate, List.range, List.range.loop, k1, k2, k3, k4, k5, k6, k18, k19, k20, h7, ha]
    refine ⟨_, _, hW _, ?_⟩
    simp (config := { maxSteps := 300000 }) [List.replicate, List.range, List.range.loop, k1, k2, k3, k4, k5, k6, k18, k19, k20, h7, ha, exEnc]
    refine ⟨_, _, hs _, ?_⟩
    simp (config := { maxSteps := 300000 }) [List.replicate, List.range, List.range.loop, resA, resOne, retA, k1, k2, k3, k4, k5, k6, k18, k19, k20, h7, ha, strs, e1, e2, e3]
  · obtain ⟨x, y, ha⟩ : ∃ x y, e.args = [x, y] := by
      have h1 : shL e.op = 2 := by unfold shL; rw [if_neg (by omega), if_pos (by omega)]
      have h2 : shM e.op = 2 := by unfold shM; rw [if_neg (by omega), if_neg (by omega), if_pos (by omega)]
      have h3 : e.args.length = 2 := by omega
      cases hq : e.args with
      | nil => rw [hq] at h3; simp at h3
      | cons x l =>
        cases l with
        | nil => rw [hq] at h3; simp at h3
        | cons y l =>
          cases l with
          | nil => exact ⟨x, y, rfl⟩
          | cons z l => rw [hq] at h3; simp at h3
    have hx := hl x (by rw [ha]; simp)
    have hy := hl y (by rw [ha]; simp)
    rw [exTk_two h7 ha] at hb ⊢
    simp only [tl_cons, tl_append] at hb
    have hpx := len_tl (parTk x.op (if signI e.op = 3 then 4 else signI e.op) x.tk)
    have hpy := len_tl (parTk y.op (signI e.op + 1) y.tk)
    have hsx := fun S => sideC x hx (if signI e.op = 3 then 4 else signI e.op) (by
      have : tl x.tk ≤ tl (parTk x.op (if signI e.op = 3 then 4 else signI e.op) x.tk) := by
        generalize (if signI e.op = 3 then 4 else signI e.op) = k
        unfold parTk; split <;> first | omega | (simp only [tl_cons, tl_append, tl_nil]; omega)
      omega) S
    have hsy := fun S => sideC y hy (signI e.op + 1) (by
      have : tl y.tk ≤ tl (parTk y.op (signI e.op + 1) y.tk) := by unfold parTk; split <;> first | omega | (simp only [tl_cons, tl_append, tl_nil]; omega)
      omega) S
    generalize hpxg : parTk x.op (if signI e.op = 3 then 4 else signI e.op) x.tk = px at *
    generalize hpyg : parTk y.op (signI e.op + 1) y.tk = py at *
    have e1 : px.length + 1 ≤ 4294967296 := by omega
    have e2 : px.length + 1 + py.length ≤ 4294967296 := by omega
    have e3 : px.length ≤ 4294967295 := by omega
    have e4 : px.length ≤ 4294967296 := by omega
    have e5 : px.length + (py.length + 1) = px.length + 1 + py.length := by omega
    by_cases h3 : signI e.op = 3
    · rw [if_pos h3] at hsx
      rw [h3] at hsy
      have w3 : IntKind.i64.wrap (3 + 1) = 4 := by decide
      simp (config := { maxSteps := 300000 }) [List.replicate, List.range, List.range.loop, k1, k2, k3, k4, k5, k6, k18, k19, k20, h3, ha, exEnc]
      refine ⟨_, _, hsx _, ?_⟩
      simp (config := { maxSteps := 300000 }) [List.replicate, List.range, List.range.loop, h3, ha, exEnc, e1, e2, e3, e4, strs]
      refine ⟨_, _, hW _, ?_⟩
      simp (config := { maxSteps := 300000 }) [List.replicate, List.range, List.range.loop, h3, ha, exEnc, e1, e2, e3, e4, strs]
      refine ⟨_, _, hsy _, ?_⟩
      simp (config := { maxSteps := 300000 }) [List.replicate, List.range, List.range.loop, resA, resOne, retA, h3, ha, exEnc, e1, e2, e3, e4, e5, strs]
    · rw [if_neg h3] at hsx
      simp (config := { maxSteps := 300000 }) [List.replicate, List.range, List.range.loop, k1, k2, k3, k4, k5, k6, k18, k19, k20, h7, h3, ha, exEnc]
      refine ⟨_, _, hsx _, ?_⟩
      simp (config := { maxSteps := 300000 }) [List.replicate, List.range, List.range.loop, h3, ha, exEnc, e1, e2, e3, e4, strs]
      refine ⟨_, _, hW _, ?_⟩
      simp (config := { maxSteps := 300000 }) [List.replicate, List.range, List.range.loop, h3, ha, exEnc, e1, e2, e3, e4, strs, w1]
      refine ⟨_, _, hsy _, ?_⟩
      simp (config := { maxSteps := 300000 }) [List.replicate, List.range, List.range.loop, resA, resOne, retA, h3, ha, exEnc, e1, e2, e3, e4, e5, strs]
end Go.Proofs.YtldglgdejmljnaaGreatDoor

namespace Go.Proofs.YtldglgdejmljnaaGreatDoor
open Go.RowKit
set_option linter.unusedVariables false
set_option linter.unusedSimpArgs false

def opS : ByteArray := (⟨#[40]⟩ : ByteArray)
def coS : ByteArray := (⟨#[44]⟩ : ByteArray)
set_option maxRecDepth 100000 in
set_option maxHeartbeats 4000000 in
theorem r4_called (e : Ex) (d0 : Int) (hw : e.whole d0 = true) (hsz : e.place.path.length ≤ 20000) (hop : 21 ≤ e.op) (hl : ∀ x ∈ e.args, R4 x) (hb : tl e.tk ≤ 2000000000) : R4 e := by
  obtain ⟨⟨ho1, ho2⟩, hlab, ⟨hsl, hsm⟩, hpl, _⟩ := ex_split hw
  have h7 : ¬ signI e.op < 7 := by rw [sign_7]; omega
  have htk : e.tk = wordL e.op :: (⟨#[40]⟩ : ByteArray) :: ((if sEq e.place.name emS then [] else e.place.tk ++ (if e.args.length = 0 then [] else [(⟨#[44]⟩ : ByteArray)])) ++ (commas (e.args.map Ex.tk) ++ [(⟨#[41]⟩ : ByteArray)])) := by
    rw [exTk_eq]
    unfold exTk1
    rw [if_neg h7, if_neg (by omega), if_neg (by omega), if_neg (by omega), if_neg (by omega), if_neg (by omega), if_neg (by omega), if_neg (by omega), if_neg (by omega), if_neg (by omega)]
    simp [Function.comp_def]
  have k1 : (e.op == 1) = false := by rw [beq_eq_false_iff_ne]; omega
  have k2 : (e.op == 2) = false := by rw [beq_eq_false_iff_ne]; omega
  have k3 : (e.op == 3) = false := by rw [beq_eq_false_iff_ne]; omega
  have k4 : (e.op == 4) = false := by rw [beq_eq_false_iff_ne]; omega
  have k5 : (e.op == 5) = false := by rw [beq_eq_false_iff_ne]; omega
  have k6 : (e.op == 6) = false := by rw [beq_eq_false_iff_ne]; omega
  have k18 : (e.op == 18) = false := by rw [beq_eq_false_iff_ne]; omega
  have k19 : (e.op == 19) = false := by rw [beq_eq_false_iff_ne]; omega
  have k20 : (e.op == 20) = false := by rw [beq_eq_false_iff_ne]; omega
  have hwd : wordR e.op = wordL e.op := by unfold wordR; rw [if_neg (by omega)]
  have hW := fun S => rWordC e.op (Or.inr ⟨hop, ho2⟩) S
  rw [hwd] at hW
  have hone : e.args = [] ∨ ∃ x, e.args = [x] := by
    have h2 : shM e.op ≤ 1 := by
      unfold shM
      repeat' split
      all_goals omega
    cases hq : e.args with
    | nil => exact Or.inl rfl
    | cons x l =>
      cases l with
      | nil => exact Or.inr ⟨x, rfl⟩
      | cons y l => rw [hq] at hsm; simp at hsm; omega
  intro S
  rw [htk] at hb ⊢
  simp only [tl_cons, tl_append, tl_nil] at hb
  have hlp := len_tl e.place.tk
  refine ADet.intro mixed Tryz.call12 Tryz.func12 rfl ?_
  simp [List.replicate, List.range, List.range.loop, Tryz.ntmps12]
  refine ⟨_, _, strengthC e.op _, ?_⟩
  cases hnm : sEq e.place.name emS with
  | true =>
    rcases hone with ha | ⟨x, ha⟩
    · skip
      have e1 : 2 + 0 ≤ 4294967296 := by omega
      have e2 : 2 + 0 + 1 ≤ 4294967296 := by omega
      have e3 : 2 + 0 + 1 + 0 ≤ 4294967296 := by omega
      have e4 : 2 + 0 + 1 + 0 + 1 ≤ 4294967296 := by omega
      have e5 : 2 + 0 + 0 + 1 ≤ 4294967296 := by omega
      have e6 : 2 + 0 ≤ 4294967296 := by omega
      have e7 : 2 + 0 + 1 ≤ 4294967296 := by omega
      have e8 : 0 ≤ 4294967293 := by omega
      have e9 : 0 ≤ 4294967294 := by omega
      have e10 : 2 + 0 = 0 + 1 + 1 := by omega
      have e11 : 0 ≤ 4294967293 := by omega
      have e12 : 2 + 0 = 0 + 1 + 1 := by omega
      have e13 : 0 + 1 + 1 + 1 + 0 = 0 + (0 + 1) + 1 + 1 := by omega
      have e14 : 0 + (0 + 1) ≤ 4294967293 := by omega
      have e15 : 0 + 1 + 1 + 1 + 0 ≤ 4294967296 := by omega
      have e16 : 0 + 1 + 1 + 1 + 0 ≤ 4294967295 := by omega
      simp (config := { maxSteps := 300000 }) [List.replicate, List.range, List.range.loop, k1, k2, k3, k4, k5, k6, k18, k19, k20, h7, ha]
      refine ⟨_, _, hW _, ?_⟩
      simp (config := { maxSteps := 300000 }) [List.replicate, List.range, List.range.loop, k1, k2, k3, k4, k5, k6, k18, k19, k20, h7, ha, hnm]
      refine awp_loop (fun q : Nat => q = 0) (fun q => [.any, .ptr 0 0 0, .any, .any, .osl 1 (([wordL e.op, opS]).map fun s => [pS s]) 0 2, .any, I q, .any, .any, .any, .any, .any, .any, .any, .any, .any, .any, .any, .any, .any, .any, .any, .any, .any, .any, .any, .any, .any, .any, .any, .any, .any, .any, .any, .any, .any, .any, .any, .any, .any, .any, .any, .any, .any, .any, .any, .any, .any, .any, .any, .any, .any, .any, .any, .any, .any, .any, .any, .any, .any, .any, .any, .any, .any, .any, .any, .any, .any, .any, .any, .any, .any, .any, .any, .any, .any, .any, .any, .any, .any, .any, .any, .any, .any, .any, .any, .any, .any, .any, .any, .any, .any, .any, .any, .any, .any, .any, .any, .any, .any, .any, .any, .any, .any, .any, .any, .any, .any, .any, .any, .any, .any, .any, .any, .any, .any, .any, .any, .any, .any, .any, .any, .any, .any, .any, .any, .any, .any, .any, .any, .any, .any, .any, .any, .any, .any, .any, .any, .any, .any, .any, .any, .any, .any, .any, .any, .any, .any, .any, .any, .any, .any, .any, .any, .any, .any, .any, .any, .any, .any, .any, .any, .any, .any, .any, .any, .any, .any, .any, .any, .any, .any, .any, .any, .any, .any, .any, .any, .any, .any, .any, .any, .any, .any, .any, .any, .any, .any, .any, .any, .any, .any, .any, .any, .any, .any, .any, .any, .any, .any, .any, .any, .any, .any, .any, .any, .any, .any, .any, .any, .any, .any, .any, .any, .any, .any]) (fun q => [.cells [U e.op, I e.int, Sg e.name, Sg e.second, Sg e.place.name, .p (strs e.place.path), .p (.sl 8 (e.args.map Ex.enc)), I e.pos] 30, .tok 9 1 2, .tok 9 1 (2)] :: S) (fun q => 0) 0 rfl ?_ ?_ ?_
      · simp [AV.cuts, AV.cut, AObj.cut, trim, wkR, wkT, wkL, wkN, wkNR, wkNL, strs, opS, coS]
      · simp [AV.cuts, AV.cut, AObj.cut, trim, wkR, wkT, wkL, wkN, wkNR, wkNL, ha, strs]
      rintro q rfl
      simp (config := { maxSteps := 300000 }) [List.replicate, List.range, List.range.loop, AV.cuts, AV.cut, AObj.cut, trim, wkR, wkT, wkL, wkN, wkNR, wkNL, resA, resOne, retA, opS, coS, ha, strs, commas, hnm, e10, e11, e12, e13, e14, e15, e16, e8, e9]
    · have hx := hl x (by rw [ha]; simp)
      have hlx := len_tl x.tk
      simp only [ha, commas, List.map_cons, List.map_nil, tl_append, tl_cons, tl_nil] at hb
      skip
      have e1 : 2 + 0 ≤ 4294967296 := by omega
      have e2 : 2 + 0 + 1 ≤ 4294967296 := by omega
      have e3 : 2 + 0 + 1 + x.tk.length ≤ 4294967296 := by omega
      have e4 : 2 + 0 + 1 + x.tk.length + 1 ≤ 4294967296 := by omega
      have e5 : 2 + 0 + x.tk.length + 1 ≤ 4294967296 := by omega
      have e6 : 2 + x.tk.length ≤ 4294967296 := by omega
      have e7 : 2 + x.tk.length + 1 ≤ 4294967296 := by omega
      have e8 : 0 ≤ 4294967293 := by omega
      have e9 : 0 ≤ 4294967294 := by omega
      have e10 : 2 + x.tk.length = x.tk.length + 1 + 1 := by omega
      have e11 : x.tk.length ≤ 4294967293 := by omega
      have e12 : 2 + 0 = 0 + 1 + 1 := by omega
      have e13 : 0 + 1 + 1 + 1 + x.tk.length = 0 + (x.tk.length + 1) + 1 + 1 := by omega
      have e14 : 0 + (x.tk.length + 1) ≤ 4294967293 := by omega
      have e15 : 0 + 1 + 1 + 1 + x.tk.length ≤ 4294967296 := by omega
      have e16 : 0 + 1 + 1 + 1 + x.tk.length ≤ 4294967295 := by omega
      simp (config := { maxSteps := 300000 }) [List.replicate, List.range, List.range.loop, k1, k2, k3, k4, k5, k6, k18, k19, k20, h7, ha]
      refine ⟨_, _, hW _, ?_⟩
      simp (config := { maxSteps := 300000 }) [List.replicate, List.range, List.range.loop, k1, k2, k3, k4, k5, k6, k18, k19, k20, h7, ha, hnm]
      refine awp_loop (fun q : Nat => q ≤ 1) (fun q => [.any, .ptr 0 0 0, .any, .any, .osl 1 (([wordL e.op, opS] ++ (if q = 0 then [] else x.tk)).map fun s => [pS s]) 0 2, .any, I q, .any, .any, .any, .any, .any, .any, .any, .any, .any, .any, .any, .any, .any, .any, .any, .any, .any, .any, .any, .any, .any, .any, .any, .any, .any, .any, .any, .any, .any, .any, .any, .any, .any, .any, .any, .any, .any, .any, .any, .any, .any, .any, .any, .any, .any, .any, .any, .any, .any, .any, .any, .any, .any, .any, .any, .any, .any, .any, .any, .any, .any, .any, .any, .any, .any, .any, .any, .any, .any, .any, .any, .any, .any, .any, .any, .any, .any, .any, .any, .any, .any, .any, .any, .any, .any, .any, .any, .any, .any, .any, .any, .any, .any, .any, .any, .any, .any, .any, .any, .any, .any, .any, .any, .any, .any, .any, .any, .any, .any, .any, .any, .any, .any, .any, .any, .any, .any, .any, .any, .any, .any, .any, .any, .any, .any, .any, .any, .any, .any, .any, .any, .any, .any, .any, .any, .any, .any, .any, .any, .any, .any, .any, .any, .any, .any, .any, .any, .any, .any, .any, .any, .any, .any, .any, .any, .any, .any, .any, .any, .any, .any, .any, .any, .any, .any, .any, .any, .any, .any, .any, .any, .any, .any, .any, .any, .any, .any, .any, .any, .any, .any, .any, .any, .any, .any, .any, .any, .any, .any, .any, .any, .any, .any, .any, .any, .any, .any, .any, .any, .any, .any, .any, .any, .any, .any, .any, .any, .any, .any]) (fun q => [.cells [U e.op, I e.int, Sg e.name, Sg e.second, Sg e.place.name, .p (strs e.place.path), .p (.sl 8 (e.args.map Ex.enc)), I e.pos] 30, .tok 9 1 2, .tok 9 1 (2 + (if q = 0 then 0 else x.tk.length))] :: S) (fun q => 1 - q) 0 (by omega) ?_ ?_ ?_
      · simp [AV.cuts, AV.cut, AObj.cut, trim, wkR, wkT, wkL, wkN, wkNR, wkNL, strs, opS, coS]
      · simp [AV.cuts, AV.cut, AObj.cut, trim, wkR, wkT, wkL, wkN, wkNR, wkNL, ha, strs]
      intro q hq
      rcases q with _ | q
      · simp (config := { maxSteps := 300000 }) [List.replicate, List.range, List.range.loop, AV.cuts, AV.cut, AObj.cut, trim, wkR, wkT, wkL, wkN, wkNR, wkNL, resA, resOne, retA, opS, coS, ha, exEnc]
        refine ⟨_, _, hx _, ?_⟩
        simp (config := { maxSteps := 300000 }) [List.replicate, List.range, List.range.loop, AV.cuts, AV.cut, AObj.cut, trim, wkR, wkT, wkL, wkN, wkNR, wkNL, resA, resOne, retA, opS, coS, ha, strs, e1, e2, e3, e4, e5, e6, e7, e8, e9, e15, e16]
        exact ⟨1, by omega, by omega, by (simp [opS, coS]) <;> decide, by simp⟩
      · obtain rfl : q = 0 := by omega
        simp (config := { maxSteps := 300000 }) [List.replicate, List.range, List.range.loop, AV.cuts, AV.cut, AObj.cut, trim, wkR, wkT, wkL, wkN, wkNR, wkNL, resA, resOne, retA, opS, coS, ha, strs, commas, hnm, e10, e11, e12, e13, e14, e15, e16, e8, e9]
  | false =>
    simp only [hnm, Bool.false_eq_true, if_false, tl_append] at hb
    rcases hone with ha | ⟨x, ha⟩
    · skip
      have e1 : 2 + e.place.tk.length ≤ 4294967296 := by omega
      have e2 : 2 + e.place.tk.length + 1 ≤ 4294967296 := by omega
      have e3 : 2 + e.place.tk.length + 1 + 0 ≤ 4294967296 := by omega
      have e4 : 2 + e.place.tk.length + 1 + 0 + 1 ≤ 4294967296 := by omega
      have e5 : 2 + e.place.tk.length + 0 + 1 ≤ 4294967296 := by omega
      have e6 : 2 + 0 ≤ 4294967296 := by omega
      have e7 : 2 + 0 + 1 ≤ 4294967296 := by omega
      have e8 : e.place.tk.length ≤ 4294967293 := by omega
      have e9 : e.place.tk.length ≤ 4294967294 := by omega
      have e10 : 2 + 0 = 0 + 1 + 1 := by omega
      have e11 : 0 ≤ 4294967293 := by omega
      have e12 : 2 + e.place.tk.length = e.place.tk.length + 1 + 1 := by omega
      have e13 : e.place.tk.length + 1 + 1 + 1 + 0 = e.place.tk.length + (0 + 1) + 1 + 1 := by omega
      have e14 : e.place.tk.length + (0 + 1) ≤ 4294967293 := by omega
      have e15 : e.place.tk.length + 1 + 1 + 1 + 0 ≤ 4294967296 := by omega
      have e16 : e.place.tk.length + 1 + 1 + 1 + 0 ≤ 4294967295 := by omega
      simp (config := { maxSteps := 300000 }) [List.replicate, List.range, List.range.loop, k1, k2, k3, k4, k5, k6, k18, k19, k20, h7, ha]
      refine ⟨_, _, hW _, ?_⟩
      simp (config := { maxSteps := 300000 }) [List.replicate, List.range, List.range.loop, k1, k2, k3, k4, k5, k6, k18, k19, k20, h7, ha, hnm]
      refine ⟨_, _, r4PlaceC e.place hsz _, ?_⟩
      simp (config := { maxSteps := 300000 }) [List.replicate, List.range, List.range.loop, k1, k2, k3, k4, k5, k6, k18, k19, k20, h7, ha, hnm, strs, e1, e2, e3, e4, e5, e6, e7, e8, e9]
      refine awp_loop (fun q : Nat => q = 0) (fun q => [.any, .ptr 0 0 0, .any, .any, .osl 1 ((wordL e.op :: opS :: e.place.tk).map fun s => [pS s]) 0 2, .any, I q, .any, .any, .any, .any, .any, .any, .any, .any, .any, .any, .any, .any, .any, .any, .any, .any, .any, .any, .any, .any, .any, .any, .any, .any, .any, .any, .any, .any, .any, .any, .any, .any, .any, .any, .any, .any, .any, .any, .any, .any, .any, .any, .any, .any, .any, .any, .any, .any, .any, .any, .any, .any, .any, .any, .any, .any, .any, .any, .any, .any, .any, .any, .any, .any, .any, .any, .any, .any, .any, .any, .any, .any, .any, .any, .any, .any, .any, .any, .any, .any, .any, .any, .any, .any, .any, .any, .any, .any, .any, .any, .any, .any, .any, .any, .any, .any, .any, .any, .any, .any, .any, .any, .any, .any, .any, .any, .any, .any, .any, .any, .any, .any, .any, .any, .any, .any, .any, .any, .any, .any, .any, .any, .any, .any, .any, .any, .any, .any, .any, .any, .any, .any, .any, .any, .any, .any, .any, .any, .any, .any, .any, .any, .any, .any, .any, .any, .any, .any, .any, .any, .any, .any, .any, .any, .any, .any, .any, .any, .any, .any, .any, .any, .any, .any, .any, .any, .any, .any, .any, .any, .any, .any, .any, .any, .any, .any, .any, .any, .any, .any, .any, .any, .any, .any, .any, .any, .any, .any, .any, .any, .any, .any, .any, .any, .any, .any, .any, .any, .any, .any, .any, .any, .any, .any, .any, .any, .any, .any, .any]) (fun q => [.cells [U e.op, I e.int, Sg e.name, Sg e.second, Sg e.place.name, .p (strs e.place.path), .p (.sl 8 (e.args.map Ex.enc)), I e.pos] 30, .tok 9 1 2, .tok 9 1 (2 + e.place.tk.length)] :: S) (fun q => 0) 0 rfl ?_ ?_ ?_
      · simp [AV.cuts, AV.cut, AObj.cut, trim, wkR, wkT, wkL, wkN, wkNR, wkNL, strs, opS, coS]
      · simp [AV.cuts, AV.cut, AObj.cut, trim, wkR, wkT, wkL, wkN, wkNR, wkNL, ha, strs]
      rintro q rfl
      simp (config := { maxSteps := 300000 }) [List.replicate, List.range, List.range.loop, AV.cuts, AV.cut, AObj.cut, trim, wkR, wkT, wkL, wkN, wkNR, wkNL, resA, resOne, retA, opS, coS, ha, strs, commas, hnm, e10, e11, e12, e13, e14, e15, e16, e8, e9]
    · have hx := hl x (by rw [ha]; simp)
      have hlx := len_tl x.tk
      simp only [ha, commas, List.map_cons, List.map_nil, tl_append, tl_cons, tl_nil] at hb
      skip
      have e1 : 2 + e.place.tk.length ≤ 4294967296 := by omega
      have e2 : 2 + e.place.tk.length + 1 ≤ 4294967296 := by omega
      have e3 : 2 + e.place.tk.length + 1 + x.tk.length ≤ 4294967296 := by omega
      have e4 : 2 + e.place.tk.length + 1 + x.tk.length + 1 ≤ 4294967296 := by omega
      have e5 : 2 + e.place.tk.length + x.tk.length + 1 ≤ 4294967296 := by omega
      have e6 : 2 + x.tk.length ≤ 4294967296 := by omega
      have e7 : 2 + x.tk.length + 1 ≤ 4294967296 := by omega
      have e8 : e.place.tk.length ≤ 4294967293 := by omega
      have e9 : e.place.tk.length ≤ 4294967294 := by omega
      have e10 : 2 + x.tk.length = x.tk.length + 1 + 1 := by omega
      have e11 : x.tk.length ≤ 4294967293 := by omega
      have e12 : 2 + e.place.tk.length = e.place.tk.length + 1 + 1 := by omega
      have e13 : e.place.tk.length + 1 + 1 + 1 + x.tk.length = e.place.tk.length + (x.tk.length + 1) + 1 + 1 := by omega
      have e14 : e.place.tk.length + (x.tk.length + 1) ≤ 4294967293 := by omega
      have e15 : e.place.tk.length + 1 + 1 + 1 + x.tk.length ≤ 4294967296 := by omega
      have e16 : e.place.tk.length + 1 + 1 + 1 + x.tk.length ≤ 4294967295 := by omega
      simp (config := { maxSteps := 300000 }) [List.replicate, List.range, List.range.loop, k1, k2, k3, k4, k5, k6, k18, k19, k20, h7, ha]
      refine ⟨_, _, hW _, ?_⟩
      simp (config := { maxSteps := 300000 }) [List.replicate, List.range, List.range.loop, k1, k2, k3, k4, k5, k6, k18, k19, k20, h7, ha, hnm]
      refine ⟨_, _, r4PlaceC e.place hsz _, ?_⟩
      simp (config := { maxSteps := 300000 }) [List.replicate, List.range, List.range.loop, k1, k2, k3, k4, k5, k6, k18, k19, k20, h7, ha, hnm, strs, e12, e8, e9]
      refine awp_loop (fun q : Nat => q ≤ 1) (fun q => [.any, .ptr 0 0 0, .any, .any, .osl 1 (((wordL e.op :: opS :: (e.place.tk ++ [coS])) ++ (if q = 0 then [] else x.tk)).map fun s => [pS s]) 0 2, .any, I q, .any, .any, .any, .any, .any, .any, .any, .any, .any, .any, .any, .any, .any, .any, .any, .any, .any, .any, .any, .any, .any, .any, .any, .any, .any, .any, .any, .any, .any, .any, .any, .any, .any, .any, .any, .any, .any, .any, .any, .any, .any, .any, .any, .any, .any, .any, .any, .any, .any, .any, .any, .any, .any, .any, .any, .any, .any, .any, .any, .any, .any, .any, .any, .any, .any, .any, .any, .any, .any, .any, .any, .any, .any, .any, .any, .any, .any, .any, .any, .any, .any, .any, .any, .any, .any, .any, .any, .any, .any, .any, .any, .any, .any, .any, .any, .any, .any, .any, .any, .any, .any, .any, .any, .any, .any, .any, .any, .any, .any, .any, .any, .any, .any, .any, .any, .any, .any, .any, .any, .any, .any, .any, .any, .any, .any, .any, .any, .any, .any, .any, .any, .any, .any, .any, .any, .any, .any, .any, .any, .any, .any, .any, .any, .any, .any, .any, .any, .any, .any, .any, .any, .any, .any, .any, .any, .any, .any, .any, .any, .any, .any, .any, .any, .any, .any, .any, .any, .any, .any, .any, .any, .any, .any, .any, .any, .any, .any, .any, .any, .any, .any, .any, .any, .any, .any, .any, .any, .any, .any, .any, .any, .any, .any, .any, .any, .any, .any, .any, .any, .any, .any, .any, .any, .any, .any, .any, .any, .any, .any]) (fun q => [.cells [U e.op, I e.int, Sg e.name, Sg e.second, Sg e.place.name, .p (strs e.place.path), .p (.sl 8 (e.args.map Ex.enc)), I e.pos] 30, .tok 9 1 2, .tok 9 1 (e.place.tk.length + 1 + 1 + 1 + (if q = 0 then 0 else x.tk.length)), .tok 9 1 1] :: S) (fun q => 1 - q) 0 (by omega) ?_ ?_ ?_
      · simp [AV.cuts, AV.cut, AObj.cut, trim, wkR, wkT, wkL, wkN, wkNR, wkNL, strs, opS, coS]
      · simp [AV.cuts, AV.cut, AObj.cut, trim, wkR, wkT, wkL, wkN, wkNR, wkNL, ha, strs]
      intro q hq
      rcases q with _ | q
      · simp (config := { maxSteps := 300000 }) [List.replicate, List.range, List.range.loop, AV.cuts, AV.cut, AObj.cut, trim, wkR, wkT, wkL, wkN, wkNR, wkNL, resA, resOne, retA, opS, coS, ha, exEnc]
        refine ⟨_, _, hx _, ?_⟩
        simp (config := { maxSteps := 300000 }) [List.replicate, List.range, List.range.loop, AV.cuts, AV.cut, AObj.cut, trim, wkR, wkT, wkL, wkN, wkNR, wkNL, resA, resOne, retA, opS, coS, ha, strs, e1, e2, e3, e4, e5, e6, e7, e8, e9, e15, e16]
        exact ⟨1, by omega, by omega, by (simp [opS, coS]) <;> decide, by simp⟩
      · obtain rfl : q = 0 := by omega
        simp (config := { maxSteps := 300000 }) [List.replicate, List.range, List.range.loop, AV.cuts, AV.cut, AObj.cut, trim, wkR, wkT, wkL, wkN, wkNR, wkNL, resA, resOne, retA, opS, coS, ha, strs, commas, hnm, e10, e11, e12, e13, e14, e15, e16, e8, e9]
end Go.Proofs.YtldglgdejmljnaaGreatDoor

namespace Go.Proofs.YtldglgdejmljnaaGreatDoor
open Go.RowKit
set_option linter.unusedVariables false
set_option linter.unusedSimpArgs false

/-- the tokens of an expression, and of all in it, are not too long -/
inductive ExTl : Ex → Prop
  | mk (e : Ex) : tl e.tk ≤ 2000000000 → (∀ x ∈ e.args, ExTl x) → ExTl e
theorem r4ExprC (hP : PrintOK) : ∀ (e : Ex) (d0 : Int), e.whole d0 = true → ExSm e → ExRg e → ExTl e → R4 e := by
  refine Ex.ind fun e ih d0 hw hsm hr ht => ?_
  have hsub := (ex_split hw).2.2.2.2
  have hr2 := ((exRg_iff e).1 hr).2
  have hop := (ex_split hw).1
  cases ht with
  | mk _ hb hts =>
  cases hsm with
  | mk _ hn hs2 hpl hsz ha =>
  have hl : ∀ x ∈ e.args, R4 x := fun x hx => ih x hx _ (hsub x hx) (ha x hx) (hr2 x hx) (hts x hx)
  by_cases h7 : signI e.op < 7
  · exact r4_sign e d0 hw h7 hl hb
  by_cases h21 : e.op < 21
  · exact r4_plain hP e d0 hw hr ⟨hpl.2.1, hsz⟩ h7 h21 hl hb
  · exact r4_called e d0 hw hpl.2.1 (by omega) hl hb
theorem ex_tls : ∀ (e : Ex) (n : Int), ExRg e → -10 ≤ n → n ≤ 20000 → 0 ≤ e.room n → ExTl e := by
  refine Ex.ind fun e ih n hr h1 h2 h0 => ?_
  have ht := ex_tl e hr n h0
  have h := h0
  rw [exRoom_eq] at h
  have hp := fold_pos h
  have hq := pl_pos hp
  have b := nameRoom_in hq
  have a := nameRoom_in (by omega : 0 ≤ nameRoom e.name.size n)
  have c := cst_pl e.place _ (by omega : (-10 : Int) ≤ nameRoom e.second.size (nameRoom e.name.size n)) (by omega)
  have f := fold_in e.args _ (fun x hx m a b => cst_ex x m (by omega) b) c.1 (by omega) h
  exact .mk e (by omega) fun x hx => by
    obtain ⟨m, m1, m2, m3⟩ := f.2.2 x hx
    exact ih x hx m (((exRg_iff e).1 hr).2 x hx) (by omega) (by omega) m3
end Go.Proofs.YtldglgdejmljnaaGreatDoor

namespace Go.Proofs.YtldglgdejmljnaaGreatDoor
open Go.RowKit
set_option linter.unusedVariables false
set_option linter.unusedSimpArgs false

theorem putT_line (l : List ByteArray) : ∀ (p : Pg), p.line = true → (putT l p).bytes = l.foldl (fun b t => b ++ (⟨#[32]⟩ : ByteArray) ++ t) p.bytes := by
  induction l with
  | nil => intro p _; rfl
  | cons s l ih =>
    intro p hp
    obtain ⟨u, b, k⟩ := p
    simp only at hp
    subst hp
    rw [putT_cons, ih _ (by rfl), List.foldl_cons]
    rfl
theorem textOf_line (l : List ByteArray) : textOf l = lineB l := by
  unfold textOf
  cases l with
  | nil => rfl
  | cons s l =>
    rw [putT_cons, putT_line l _ (by rfl)]
    show l.foldl _ (emS ++ s) = _
    rw [em_append]
    rfl
end Go.Proofs.YtldglgdejmljnaaGreatDoor

namespace Go.Proofs.YtldglgdejmljnaaGreatDoor
open Go.RowKit
set_option linter.unusedVariables false
set_option linter.unusedSimpArgs false

theorem tdiv_neg10 {a : Int} (h : a ≤ 0) : a.tdiv 10 = -(((a.natAbs / 10 : Nat)) : Int) ∧ a.tmod 10 = -((a.natAbs % 10 : Nat) : Int) := by
  obtain ⟨k, hk⟩ : ∃ k : Nat, a = -(k : Int) := ⟨a.natAbs, by omega⟩
  subst hk
  rw [Int.neg_tdiv, Int.neg_tmod]
  simp only [Int.natAbs_neg, Int.natAbs_natCast]
  exact ⟨rfl, rfl⟩
theorem tdiv_pos10 {a : Int} (h : 0 ≤ a) : a.tdiv 10 = ((a.natAbs / 10 : Nat) : Int) ∧ a.tmod 10 = ((a.natAbs % 10 : Nat) : Int) := by
  obtain ⟨k, hk⟩ : ∃ k : Nat, a = (k : Int) := ⟨a.natAbs, by omega⟩
  subst hk
  simp only [Int.natAbs_natCast]
  exact ⟨rfl, rfl⟩
theorem itoa_one {a : Int} (h0 : 0 ≤ a) (h1 : a < 10) : itoaB a = ⟨#[UInt8.ofNat (48 + a).toNat]⟩ := by
  unfold itoaB Lib.itoa
  rw [if_neg (by omega), Lib.decDigits, dif_pos (by omega)]
  have : (48 + a).toNat = 48 + a.toNat := by omega
  rw [this]
theorem itoa_oneN {a : Int} (h0 : a < 0) (h1 : -10 < a) : itoaB a = (⟨#[45]⟩ : ByteArray) ++ ⟨#[UInt8.ofNat (48 - a).toNat]⟩ := by
  unfold itoaB Lib.itoa
  rw [if_pos h0, Lib.decDigits, dif_pos (by omega)]
  have : (48 - a).toNat = 48 + a.natAbs := by omega
  rw [this]
  apply ByteArray.ext
  simp
theorem itoa_more {a : Int} (h0 : 10 ≤ a) : itoaB a = itoaB (a.tdiv 10) ++ (⟨#[UInt8.ofNat (48 + a.tmod 10).toNat]⟩ : ByteArray) := by
  obtain ⟨e1, e2⟩ := tdiv_pos10 (a := a) (by omega)
  rw [e1, e2]
  unfold itoaB Lib.itoa
  rw [if_neg (by omega), if_neg (by omega), Lib.decDigits, dif_neg (by omega)]
  have g1 : a.toNat = a.natAbs := by omega
  have g2 : ((a.natAbs / 10 : Nat) : Int).toNat = a.natAbs / 10 := by omega
  have g3 : (48 + ((a.natAbs % 10 : Nat) : Int)).toNat = 48 + a.natAbs % 10 := by omega
  rw [g1, g2, g3]
  apply ByteArray.ext
  simp
theorem itoa_moreN {a : Int} (h0 : a ≤ -10) : itoaB a = itoaB (a.tdiv 10) ++ (⟨#[UInt8.ofNat (48 - a.tmod 10).toNat]⟩ : ByteArray) := by
  obtain ⟨e1, e2⟩ := tdiv_neg10 (a := a) (by omega)
  rw [e1, e2]
  unfold itoaB Lib.itoa
  rw [if_pos (by omega), if_pos (by omega), Lib.decDigits, dif_neg (by omega)]
  have g2 : (-((a.natAbs / 10 : Nat) : Int)).natAbs = a.natAbs / 10 := by omega
  have g3 : (48 - -((a.natAbs % 10 : Nat) : Int)).toNat = 48 + a.natAbs % 10 := by omega
  rw [g2, g3]
  apply ByteArray.ext
  simp
end Go.Proofs.YtldglgdejmljnaaGreatDoor

namespace Go.Proofs.YtldglgdejmljnaaGreatDoor
open Go.RowKit
set_option linter.unusedVariables false
set_option linter.unusedSimpArgs false

theorem conv1 (w : World) (b : Nat) (n : Int) (h0 : 0 ≤ n) (h1 : n < 256) (hc : w.cell? ⟨b, 0, none⟩ = some (.int .u8 n)) : (convert 57 9 (.slice (some ⟨b, 0, none⟩) 1 1)).run Tryz.prog w = .ok (.string ⟨#[UInt8.ofNat n.toNat]⟩) w := by
  have h := run_convert_bytes_back (P := Tryz.prog) w 57 9 5 ⟨b, 0, none⟩ 1 [UInt8.ofNat n.toNat] Tryz.underlying57 Tryz.underlying5 Tryz.underlying9 (fun j hj => by
    obtain rfl : j = 0 := by simpa using hj
    have hn : ((UInt8.ofNat n.toNat).toNat : Int) = n := by simp; omega
    simp only [List.getElem_cons_zero, hn]
    simpa [Addr.add] using hc)
  simpa using h
theorem cell_new (w : World) (v : Value) (t : TypeId) : (w.alloc (Obj.cells #[v] t)).cell? ⟨w.heap.size, 0, none⟩ = some v := by
  unfold World.cell?
  simp only [heap_alloc_new]
  rfl
set_option maxRecDepth 100000 in
set_option maxHeartbeats 4000000 in
theorem print_one (a : Int) (w : World) (h0 : -10 < a) (h1 : a < 10) : Calls Tryz.prog 32 #[.int .i64 a] w fun e w' => e = .returned (.string (itoaB a)) ∧ Below w.heap.size w w' := by
  by_cases hn : a < 0
  · have h0' : a > -10 := h0
    rw [itoa_oneN hn h0]
    go_enter Tryz.func32, Tryz.ntmps32
    go_wp2
    rw [conv1 _ w.heap.size (48 - a) (by omega) (by omega) (cell_new _ _ _)]
    simp only [Result.andThen]
    rw [Oper.upon_value]
    go_wp2
    go_ret
    exact ⟨rfl, (Below.refl _ _).alloc (Nat.le_refl _) _⟩
  · rw [itoa_one (by omega) h1]
    go_enter Tryz.func32, Tryz.ntmps32
    go_wp2
    rw [conv1 _ w.heap.size (48 + a) (by omega) (by omega) (cell_new _ _ _)]
    simp only [Result.andThen]
    rw [Oper.upon_value]
    go_wp2
    go_ret
    exact ⟨rfl, (Below.refl _ _).alloc (Nat.le_refl _) _⟩
end Go.Proofs.YtldglgdejmljnaaGreatDoor

namespace Go.Proofs.YtldglgdejmljnaaGreatDoor
open Go.RowKit
theorem conv2 (w : World) (n : Int) (h0 : 0 ≤ n) (h1 : n < 256) : (convert 57 9 (.slice (some ⟨w.heap.size, 0, none⟩) 1 1)).run Tryz.prog (w.alloc (Obj.cells #[.int .u8 n] 5)) = .ok (.string ⟨#[UInt8.ofNat n.toNat]⟩) (w.alloc (Obj.cells #[.int .u8 n] 5)) := conv1 _ _ _ h0 h1 (cell_new _ _ _)
attribute [local go_sem ↓] conv2
set_option maxRecDepth 100000 in
set_option maxHeartbeats 2000000 in
theorem print_moreN (a : Int) (w : World) (ha0 : -9223372036854775808 ≤ a) (h0 : a ≤ -10) (ih : ∀ w : World, Calls Tryz.prog 32 #[.int .i64 (a.tdiv 10)] w fun e w' => e = .returned (.string (itoaB (a.tdiv 10))) ∧ Below w.heap.size w w') : Calls Tryz.prog 32 #[.int .i64 a] w fun e w' => e = .returned (.string (itoaB a)) ∧ Below w.heap.size w w' := by
  obtain ⟨e1, e2⟩ := tdiv_neg10 (a := a) (by omega)
  have q1 : IntKind.i64.wrap (a.tdiv 10) = a.tdiv 10 := IntWalk.i64_in _ (by omega)
  have q4 : 0 ≤ 48 - a.tmod 10 := by omega
  have q5 : 48 - a.tmod 10 < 256 := by omega
  have q2 : IntKind.i64.wrap (48 - a.tmod 10) = 48 - a.tmod 10 := IntWalk.i64_in _ (by omega)
  have q3 : IntKind.u8.wrap (48 - a.tmod 10) = 48 - a.tmod 10 := IntWalk.u8_in _ (by omega)
  have q6 : a < 0 := by omega
  have q7 : ¬ a > -10 := by omega
  have hsz := itoaB_size (a.tdiv 10) (by omega) (by omega)
  rw [itoa_moreN h0]
  generalize itoaB (a.tdiv 10) = sd at *
  clear e1 e2
  go_enter Tryz.func32, Tryz.ntmps32
  go_wp2
  go_region_with (first | (go_at_call 32; refine (ih _).mono ?_; rintro e w' ⟨rfl, hb⟩; try (have hcell := (hb.cell (p := ⟨_, 0, none⟩) (by simp)).trans (cell_new _ _ _))) | (rw [conv1 _ _ _ q4 q5 (by first | exact cell_new _ _ _ | assumption)]; simp only [Result.andThen]; rw [Oper.upon_value]))
  all_goals go_wp2
  all_goals go_ret
  all_goals first
    | exact ⟨rfl, ((Below.refl w.heap.size w).drew.trans hb).alloc hb.size _⟩
    | exact ⟨rfl, ((Below.refl w.heap.size w).drew.alloc (Nat.le_refl _) _).trans (hb.mono (by simp))⟩
set_option maxRecDepth 100000 in
set_option maxHeartbeats 2000000 in
theorem print_more (a : Int) (w : World) (ha0 : a ≤ 9223372036854775807) (h0 : 10 ≤ a) (ih : ∀ w : World, Calls Tryz.prog 32 #[.int .i64 (a.tdiv 10)] w fun e w' => e = .returned (.string (itoaB (a.tdiv 10))) ∧ Below w.heap.size w w') : Calls Tryz.prog 32 #[.int .i64 a] w fun e w' => e = .returned (.string (itoaB a)) ∧ Below w.heap.size w w' := by
  obtain ⟨e1, e2⟩ := tdiv_pos10 (a := a) (by omega)
  have q1 : IntKind.i64.wrap (a.tdiv 10) = a.tdiv 10 := IntWalk.i64_in _ (by omega)
  have q4 : 0 ≤ 48 + a % 10 := by omega
  have q5 : 48 + a % 10 < 256 := by omega
  have q2 : IntKind.i64.wrap (48 + a % 10) = 48 + a % 10 := IntWalk.i64_in _ (by omega)
  have q3 : IntKind.u8.wrap (48 + a % 10) = 48 + a % 10 := IntWalk.u8_in _ (by omega)
  have e3 : a.tmod 10 = a % 10 := Int.tmod_eq_emod_of_nonneg (by omega)
  have p2 : IntKind.i64.wrap (48 + a.tmod 10) = 48 + a % 10 := by rw [e3]; exact q2
  have p3 : IntKind.u8.wrap (48 + a.tmod 10) = 48 + a % 10 := by rw [e3]; exact q3
  have q6 : ¬ a < 0 := by omega
  have q7 : ¬ a < 10 := by omega
  have hsz := itoaB_size (a.tdiv 10) (by omega) (by omega)
  rw [itoa_more h0, show a.tmod 10 = a % 10 from Int.tmod_eq_emod_of_nonneg (by omega)]
  generalize itoaB (a.tdiv 10) = sd at *
  clear e1 e2
  go_enter Tryz.func32, Tryz.ntmps32
  go_wp2
  go_region_with (first | (go_at_call 32; refine (ih _).mono ?_; rintro e w' ⟨rfl, hb⟩; try (have hcell := (hb.cell (p := ⟨_, 0, none⟩) (by simp)).trans (cell_new _ _ _))) | (rw [conv1 _ _ _ q4 q5 (by first | exact cell_new _ _ _ | assumption)]; simp only [Result.andThen]; rw [Oper.upon_value]))
  all_goals go_wp2
  all_goals go_ret
  all_goals first
    | exact ⟨rfl, ((Below.refl w.heap.size w).drew.trans hb).alloc hb.size _⟩
    | exact ⟨rfl, ((Below.refl w.heap.size w).drew.alloc (Nat.le_refl _) _).trans (hb.mono (by simp))⟩

theorem printK (n : Nat) : ∀ (a : Int) (w : World), -9223372036854775808 ≤ a → a ≤ 9223372036854775807 → a.natAbs = n → Calls Tryz.prog 32 #[.int .i64 a] w fun e w' => e = .returned (.string (itoaB a)) ∧ Below w.heap.size w w' := by
  induction n using Nat.strongRecOn with
  | ind n ih =>
  intro a w ha0 ha1 ha
  by_cases h0 : a ≤ -10
  · obtain ⟨e1, e2⟩ := tdiv_neg10 (a := a) (by omega)
    exact print_moreN a w ha0 h0 fun w => ih (a.tdiv 10).natAbs (by omega) _ w (by omega) (by omega) rfl
  by_cases h1 : 10 ≤ a
  · obtain ⟨e1, e2⟩ := tdiv_pos10 (a := a) (by omega)
    exact print_more a w ha1 h1 fun w => ih (a.tdiv 10).natAbs (by omega) _ w (by omega) (by omega) rfl
  exact print_one a w (by omega) (by omega)
theorem printOK : PrintOK := fun v S h0 h1 => ADet.of_calls (x := .string (itoaB v)) rfl Tryz.call32 fun Pr φ xs w hxs hR => by
  rw [rl_vals (l := [.int .i64 v]) hxs]
  exact printK _ v w h0 h1 rfl
end Go.Proofs.YtldglgdejmljnaaGreatDoor
