/- 2 texts of this proof, one behind the other: BGreatT TaL. The statement is proved in the claim's last text. -/
import Derived.Test.YtdnekbmnbblhgaaGreatDoorMRoom
import Derived.Test.YtdnekbmnbblhgaaGreatDoorMWp
import Derived.Test.YtdnekbmnbblhgaaGreatDoorMTi
import Derived.Test.YtdnekbmnbblhgaaGreatDoorMPh
import Derived.Test.YtdnekbmnbblhgaaGreatDoorMLt
namespace Go.Proofs.YtdnekbmnbblhgaaGreatDoor
open Go.RowKit
attribute [local simp] List.replicate List.range List.range.loop resA resOne retA
set_option linter.unusedVariables false
set_option linter.unusedSimpArgs false

set_option maxRecDepth 100000 in
set_option maxHeartbeats 1000000 in
theorem greatTypeC (t : Ty) (S : ASt) : ADet Tryz.prog 12 [tyV t] S (B (decide (t.room 20000 < 0))) S := by
  refine ADet.intro mixed Tryz.call12 Tryz.func12 rfl ?_
  simp [Tryz.ntmps12]
  refine ⟨_, _, typeC t _ 0 1 20000 (by simp [get2_zero, rm]) (by omega) (by omega), ?_⟩
  simp [rm]
end Go.Proofs.YtdnekbmnbblhgaaGreatDoor

namespace Go.Proofs.YtdnekbmnbblhgaaGreatDoor
open Go.RowKit
attribute [local simp] List.replicate List.range List.range.loop resA resOne retA AV.cuts AV.cut AObj.cut trim wkR wkT wkL wkN wkNR wkNL
set_option linter.unusedVariables false
set_option linter.unusedSimpArgs false

/-- how many faults of a sort a text has, as far as it is told -/
def countF (n : Nat) (s : ByteArray) (e : Int) : Option Nat :=
  match parseF n s with
  | none => none
  | some p => if itsDeep0 p ≤ 40 ∧ great p = false then
      match checkT p n with
      | none => none
      | some fs => if fs.length ≤ 1000 then some (fs.countP fun f => f.1 == e) else none
    else none
theorem countP_snoc {α : Type} (f : α → Bool) (l : List α) {q : Nat} (h : q < l.length) : (l.take (q + 1)).countP f = (l.take q).countP f + if f l[q] then 1 else 0 := by
  rw [List.take_succ_eq_append_getElem h, List.countP_append]; simp
set_option maxRecDepth 100000 in
set_option maxHeartbeats 2000000 in
theorem countC (n : Nat) (hn : n ≤ 100000) (s : ByteArray) (e : Int) (k : Nat) (h : countF n s e = some k) (S : ASt) : ADet Tryz.prog 33 [Sg s, I e] S (I k) S := by
  unfold countF at h
  split at h
  · cases h
  rename_i p hp
  split at h
  case isFalse => cases h
  rename_i hd
  split at h
  · cases h
  rename_i fs hfs
  split at h
  case isFalse => cases h
  rename_i hl
  cases h
  have pC := fun S => ADet.lessT (.cons (.refl _) (.cons (.p (.nil 2)) (.refl _))) (programC n hn s p hp hd.1 S)
  have cC := fun S => checkC p n (pr_sm hd.2) fs hfs (by omega) S
  refine ADet.intro mixed Tryz.call33 Tryz.func33 rfl ?_
  simp [Tryz.ntmps33]
  refine ⟨_, _, pC _, ?_⟩
  simp
  refine ⟨_, _, cC _, ?_⟩
  simp
  refine awp_loop (fun q : Nat => q ≤ fs.length) (fun q => ([.any, I e, .any, .any, .any, .ptr 0 0 0, .any, I ((fs.take q).countP fun f => f.1 == e), .p (.sl 2 (fs.map fltE)), I q] ++ List.replicate 26 .any)) (fun q => [.cells [.p (prog p)] 24] :: S) (fun q => fs.length - q) 0 (Nat.zero_le _) ?_ ?_ ?_
  · simp
  · simp
  intro q hq
  by_cases hlt : q < fs.length
  · have hlt' : (q : Int) < (fs.length : Int) := by omega
    have hT := countP_snoc (fun f : Flt => f.1 == e) fs hlt
    have hle := List.countP_le_length (p := fun f : Flt => f.1 == e) (l := fs.take q)
    rw [List.length_take] at hle
    have hw : IntKind.i64.wrap (((fs.take q).countP fun f => f.1 == e : Nat) + 1 : Int) = (((fs.take q).countP fun f => f.1 == e) + 1 : Nat) := by
      rw [IntWalk.i64_in _ (by omega)]; omega
    have hwq := wrap_succ hlt (by unfold maxLen; omega)
    generalize hf : fs[q] = f at *
    generalize hm : (fs.take q).countP (fun f => f.1 == e) = m at *
    by_cases hfe : f.1 = e
    · have hT : (fs.take (q + 1)).countP (fun f => f.1 == e) = m + 1 := by rw [hT, if_pos (by simpa using hfe)]
      simp [hlt, hlt', hf, fltE, hfe, hw]
      exact ⟨q + 1, hlt, by omega, by rw [hT]; omega, hwq⟩
    · have hT : (fs.take (q + 1)).countP (fun f => f.1 == e) = m := by rw [hT, if_neg (by simpa using hfe)]; rfl
      simp [hlt, hlt', hf, fltE, hfe]
      exact ⟨q + 1, hlt, by omega, by rw [hT], hwq⟩
  · have : q = fs.length := by omega
    subst this
    simp
theorem cl1 : countF 300 (⟨#[115, 116, 114, 117, 99, 116, 32, 83, 32, 123, 32, 97, 58, 32, 105, 110, 116, 44, 32, 98, 58, 32, 66, 111, 120, 60, 83, 62, 32, 125]⟩ : ByteArray) 71 = some 0 := by kernel_rfl
theorem cl2 : countF 300 (⟨#[115, 116, 114, 117, 99, 116, 32, 83, 32, 123, 32, 97, 58, 32, 83, 32, 125]⟩ : ByteArray) 71 = some 1 := by kernel_rfl
theorem cl3 : countF 300 (⟨#[101, 110, 117, 109, 32, 69, 32, 123, 32, 65, 44, 32, 66, 40, 69, 41, 32, 125]⟩ : ByteArray) 71 = some 1 := by kernel_rfl
theorem cl4 : countF 300 (⟨#[115, 116, 114, 117, 99, 116, 32, 83, 32, 123, 32, 97, 58, 32, 84, 32, 125, 32, 115, 116, 114, 117, 99, 116, 32, 84, 32, 123, 32, 98, 58, 32, 83, 32, 125]⟩ : ByteArray) 71 = some 2 := by kernel_rfl
theorem cl5 : countF 300 (⟨#[115, 116, 114, 117, 99, 116, 32, 83, 32, 123, 32, 97, 58, 32, 38, 105, 110, 116, 32, 125]⟩ : ByteArray) 70 = some 1 := by kernel_rfl
theorem cl6 : countF 300 (⟨#[115, 116, 114, 117, 99, 116, 32, 83, 32, 123, 32, 97, 58, 32, 67, 101, 108, 108, 60, 83, 62, 32, 125]⟩ : ByteArray) 70 = some 1 := by kernel_rfl
theorem cl7 : countF 300 (⟨#[115, 116, 114, 117, 99, 116, 32, 83, 32, 123, 32, 97, 58, 32, 66, 111, 120, 60, 38, 105, 110, 116, 62, 32, 125]⟩ : ByteArray) 70 = some 1 := by kernel_rfl
theorem cl8 : countF 300 (⟨#[102, 110, 32, 102, 40, 97, 58, 32, 38, 109, 117, 116, 32, 38, 105, 110, 116, 41, 32, 45, 62, 32, 105, 110, 116, 32, 123, 32, 48, 32, 125]⟩ : ByteArray) 70 = some 0 := by kernel_rfl
theorem cl9 : countF 300 (⟨#[102, 110, 32, 102, 40, 41, 32, 45, 62, 32, 38, 105, 110, 116, 32, 123, 32, 97, 32, 125]⟩ : ByteArray) 70 = some 1 := by kernel_rfl
set_option maxRecDepth 100000 in
set_option maxHeartbeats 2000000 in
theorem awake07C (S : ASt) : ADet Tryz.prog 11 [] S (B true) S := by
  refine ADet.intro mixed Tryz.call11 Tryz.func11 rfl ?_
  simp [Tryz.ntmps11]
  refine ⟨_, _, countC 300 (by omega) _ _ _ cl1 _, ?_⟩
  simp
  refine ⟨_, _, countC 300 (by omega) _ _ _ cl2 _, ?_⟩
  simp
  refine ⟨_, _, countC 300 (by omega) _ _ _ cl3 _, ?_⟩
  simp
  refine ⟨_, _, countC 300 (by omega) _ _ _ cl4 _, ?_⟩
  simp
  refine ⟨_, _, countC 300 (by omega) _ _ _ cl5 _, ?_⟩
  simp
  refine ⟨_, _, countC 300 (by omega) _ _ _ cl6 _, ?_⟩
  simp
  refine ⟨_, _, countC 300 (by omega) _ _ _ cl7 _, ?_⟩
  simp
  refine ⟨_, _, countC 300 (by omega) _ _ _ cl8 _, ?_⟩
  simp
  refine ⟨_, _, countC 300 (by omega) _ _ _ cl9 _, ?_⟩
  simp
set_option maxRecDepth 100000 in
set_option maxHeartbeats 1000000 in
theorem freeC : ∀ (t : Ty) (S : ASt), ADet Tryz.prog 15 [tyV t] S (B t.owned) S := by
  refine Ty.ind fun t ih S => ?_
  refine ADet.okA Tryz.call15 0 2 rfl rfl fun hok => ?_
  have hlen := okl hok
  have hse := owned_eq t
  refine ADet.intro mixed Tryz.call15 Tryz.func15 rfl ?_
  simp [Tryz.ntmps15]
  refine awp_loop (fun q : Nat => q ≤ t.args.length ∧ ∀ i (hi : i < t.args.length), i < q → t.args[i].owned = true) (fun q => ([.any, .ptr 0 0 0, .any, I q] ++ List.replicate 22 .any)) (fun q => [.cells [U t.kind, Sg t.name, .p (.sl 3 (t.args.map Ty.enc))] 36] :: S) (fun q => t.args.length - q) 0 ⟨Nat.zero_le _, fun i hi h => by omega⟩ ?_ ?_ ?_
  · simp
  · simp
  rintro q ⟨hq, hall⟩
  by_cases hlt : q < t.args.length
  · have hx := ih _ (List.getElem_mem hlt)
    have hlt' : (q : Int) < (t.args.length : Int) := by omega
    have hno : t.args[q].owned = false → t.owned = false := fun h => by
      rw [hse]
      have : t.args.all Ty.owned = false := List.all_eq_false.2 ⟨_, List.getElem_mem hlt, by simp [h]⟩
      simp [this]
    have hyes : t.args[q].owned = true → ∀ i (hi : i < t.args.length), i < q + 1 → t.args[i].owned = true := fun h i hi hiq => by
      rcases Nat.lt_or_ge i q with h' | h'
      · exact hall i hi h'
      · obtain rfl : i = q := by omega
        exact h
    generalize he : t.args[q] = x at *
    simp [hlt, hlt', he, tyEnc]
    refine ⟨_, _, hx _, ?_⟩
    cases hs : x.owned with
    | false =>
      have := hno hs
      simp [this]
    | true =>
      simp
      exact ⟨q + 1, ⟨hlt, hyes hs⟩, by omega, wrap_succ hlt⟩
  · have hlt' : ¬ (q : Int) < (t.args.length : Int) := by omega
    have hal : t.args.all Ty.owned = true := by
      rw [List.all_eq_true]
      intro x hx
      obtain ⟨i, hi, rfl⟩ := List.getElem_of_mem hx
      exact hall i hi (by omega)
    rw [hal, Bool.and_true] at hse
    by_cases h1 : t.kind = 13
    · simp [hlt', h1, hse]
    · have h1' : (t.kind != 13) = true := by simpa using h1
      by_cases h2 : t.kind = 14
      · simp [hlt', h2, hse]
      · have h2' : (t.kind != 14) = true := by simpa using h2
        simp [hlt', h1', h2', h1, h2, hse]
/-- may a whole type stand? -/
def Ty.mayStand (t : Ty) : Bool := t.whole 40 && t.stands
set_option maxRecDepth 100000 in
theorem wholeTyC (t : Ty) (hsm : TySm t) (S : ASt) : ADet Tryz.prog 14 [tyV t] S (B (t.whole 40)) S := by
  have wC := fun S => wholeTypeC t hsm 40 S (by omega) (by omega)
  refine ADet.intro mixed Tryz.call14 Tryz.func14 rfl ?_
  simp [Tryz.ntmps14]
  refine ⟨_, _, wC _, ?_⟩
  simp
set_option maxRecDepth 100000 in
theorem standsTopC (t : Ty) (hsm : TySm t) (S : ASt) : ADet Tryz.prog 13 [tyV t] S (B t.mayStand) S := by
  have wC := fun S => wholeTyC t hsm S
  unfold Ty.mayStand
  refine ADet.intro mixed Tryz.call13 Tryz.func13 rfl ?_
  simp [Tryz.ntmps13]
  refine ⟨_, _, wC _, ?_⟩
  cases hw : t.whole 40 with
  | false => simp
  | true =>
    simp
    refine ⟨_, _, standsC t _, ?_⟩
    simp
end Go.Proofs.YtdnekbmnbblhgaaGreatDoor
