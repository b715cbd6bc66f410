/- 2 texts of this proof, one behind the other: CWhUA CWhUB. The statement is proved in the claim's last text. -/
import Derived.Test.YtlnoacoanfhdcaaGreatDoorMWs
import Derived.Test.YtlnoacoanfhdcaaGreatDoorMLt
namespace Go.Proofs.YtlnoacoanfhdcaaGreatDoor
open Go.RowKit
attribute [local simp] List.replicate List.range List.range.loop resA resOne retA awpS_nil awpS_cons nextS_eq
set_option linter.unusedVariables false
set_option linter.unusedSimpArgs false

set_option maxRecDepth 100000 in
set_option maxHeartbeats 16000000 in
theorem wholeStmtA (s : St) (hsm : StSm s) (ih1 : ∀ x ∈ s.body, WSC x) (ih2 : ∀ x ∈ s.els, WSC x) (ih3 : ∀ a ∈ s.arms, ∀ x ∈ a.body, WSC x) (d : Int) (S : ASt) (hd1 : -1 ≤ d) (hd2 : d ≤ 1000) (h0 : 1 ≤ d) (ho : fmOk s.op = true)
    (fT : fmTyped s.op = true) (fP : fmPlaced s.op = false) (fB : fmBody s.op = false) (fE : fmElse s.op = false) (fA : fmArms s.op = false) : ADet Tryz.prog 64 [stmV s, I d] S (B (s.whole d)) S := by
  obtain ⟨_, hn, hs2, hnm, hty, hpl, hex, hb, hel, har, hbs, hes, has, hab⟩ := hsm
  have hfn : fmNames s.op ≤ 6 := by unfold fmNames; split <;> omega
  have g1 := fun S => fnNC s.op s.name hn S
  have g2 := fun S => fnSC s.op s.second hs2 S
  have g3 := fun S => all_string nameB s.names (fmNames s.op) (by omega) 59 [] [] S (fun x hx L => nameC1 x (sm_max (hnm.2 x hx)) _)
  have g4 := fun S h => wholeTypeC s.type hty (d - 1) S h (by omega)
  have g5 := fun S => zeroTyC s.type S
  have g6 := fun S => wholePlaceC s.place hpl S
  have g7 := fun S => noPlaceC s.place S
  have hd : -1 ≤ d - 1 := by omega
  have x1 := fun S h k => allExprs s.op s.names.length s.exprs (fun x hx => wholeExprC x (hex.2 x hx)) d hd hd2 S 0 2 1 h k
  have x2 := fun S h => allStmts s.body ih1 hb d hd hd2 S 0 1 h
  have x3 := fun S h => allStmts s.els ih2 hel d hd hd2 S 0 1 h
  have x4 := fun S h k => allArms s.arms has ih3 d hd hd2 S 0 3 1 h k
  have h0' : ¬ d < 1 := by omega
  refine ADet.intro mixed Tryz.call64 Tryz.func64 rfl ?_
  simp [Tryz.ntmps64]
  refine ⟨_, _, formOfC s _, ?_⟩
  simp [h0, h0', ho, fT, fP, fB, fE, fA, fmV]
  refine ⟨_, _, countedC s _, ?_⟩
  rcases (Bool.eq_false_or_eq_true (countB s.op s.int)).symm with hc | hc
  · have e : s.whole d = false := by rw [stWhole_eq]; simp [stHead, h0, h0', ho, fT, fP, fB, fE, fA, hc]
    simp (config := { maxSteps := 2000000 }) [h0, h0', ho, fT, fP, fB, fE, fA, hc, fmV, e]
  simp [h0, h0', ho, fT, fP, fB, fE, fA, hc, fmV]
  refine ⟨_, _, g1 _, ?_⟩
  rcases (Bool.eq_false_or_eq_true (fmN s.op s.name)).symm with h1 | h1
  · have e : s.whole d = false := by rw [stWhole_eq]; simp [stHead, h0, h0', ho, fT, fP, fB, fE, fA, hc, h1]
    simp (config := { maxSteps := 2000000 }) [h0, h0', ho, fT, fP, fB, fE, fA, hc, h1, fmV, e]
  simp [h0, h0', ho, fT, fP, fB, fE, fA, hc, h1, fmV]
  refine ⟨_, _, g2 _, ?_⟩
  rcases (Bool.eq_false_or_eq_true (fmS s.op s.second)).symm with h2 | h2
  · have e : s.whole d = false := by rw [stWhole_eq]; simp [stHead, h0, h0', ho, fT, fP, fB, fE, fA, hc, h1, h2]
    simp (config := { maxSteps := 2000000 }) [h0, h0', ho, fT, fP, fB, fE, fA, hc, h1, h2, fmV, e]
  by_cases hln : ¬ (s.exprs.length : Int) = fmExprs s.op s.names.length
  · have hle' : ((s.exprs.length : Int) != fmExprs s.op s.names.length) = true := by simp [hln]
    have e : s.whole d = false := by rw [stWhole_eq]; simp [stHead, h0, h0', ho, fT, fP, fB, fE, fA, hc, h1, h2, hle', hln]
    simp (config := { maxSteps := 2000000 }) [h0, h0', ho, fT, fP, fB, fE, fA, hc, h1, h2, hle', hln, fmV, e]
  have hle := Decidable.not_not.1 hln
  have hle' : ((s.exprs.length : Int) != fmExprs s.op s.names.length) = false := by simp [hle]
  simp [h0, h0', ho, fT, fP, fB, fE, fA, hc, h1, h2, hle', fmV]
  refine ⟨_, _, g3 _, ?_⟩
  rcases (Bool.eq_false_or_eq_true (allUp nameB s.names (fmNames s.op))).symm with h3 | h3
  · have e : s.whole d = false := by rw [stWhole_eq]; simp [stHead, h0, h0', ho, fT, fP, fB, fE, fA, hc, h1, h2, hle', h3]
    simp (config := { maxSteps := 2000000 }) [h0, h0', ho, fT, fP, fB, fE, fA, hc, h1, h2, hle', h3, fmV, e]
  simp [h0, h0', ho, fT, fP, fB, fE, fA, hc, h1, h2, hle', h3, fmV]
  refine awp_drawS [(1, 6), (21, 24)] (by kernel_rfl) (by kernel_rfl) (by decide) ?_
  simp (config := { maxSteps := 2000000 }) [h0, h0', ho, fT, fP, fB, fE, fA, hc, h1, h2, hle', h3, fmV, wrd d (by omega)]
  refine ⟨_, g4 _ (by omega), ?_⟩
  rcases (Bool.eq_false_or_eq_true (s.type.whole (d - 1))).symm with ht | ht
  · have e : s.whole d = false := by rw [stWhole_eq]; simp [stHead, h0, h0', ho, fT, fP, fB, fE, fA, hc, h1, h2, hle', h3, ht]
    simp (config := { maxSteps := 2000000 }) [h0, h0', ho, fT, fP, fB, fE, fA, hc, h1, h2, hle', h3, ht, fmV, e]
  simp (config := { maxSteps := 2000000 }) [h0, h0', ho, fT, fP, fB, fE, fA, hc, h1, h2, hle', h3, ht, fmV]
  refine ⟨_, g6 _, ?_⟩
  rcases (Bool.eq_false_or_eq_true (s.place.whole)) with hw | hw
  · have e : s.whole d = false := by rw [stWhole_eq]; simp [stHead, h0, h0', ho, fT, fP, fB, fE, fA, hc, h1, h2, hle', h3, ht, hw]
    simp (config := { maxSteps := 2000000 }) [h0, h0', ho, fT, fP, fB, fE, fA, hc, h1, h2, hle', h3, ht, hw, fmV, e]
  simp (config := { maxSteps := 2000000 }) [h0, h0', ho, fT, fP, fB, fE, fA, hc, h1, h2, hle', h3, ht, hw, fmV]
  refine ⟨_, g7 _, ?_⟩
  rcases (Bool.eq_false_or_eq_true (noPlB s.place)).symm with hn0 | hn0
  · have e : s.whole d = false := by rw [stWhole_eq]; simp [stHead, h0, h0', ho, fT, fP, fB, fE, fA, hc, h1, h2, hle', h3, ht, hw, hn0]
    simp (config := { maxSteps := 2000000 }) [h0, h0', ho, fT, fP, fB, fE, fA, hc, h1, h2, hle', h3, ht, hw, hn0, fmV, e]
  rcases (Nat.eq_zero_or_pos s.body.length).symm with lb | lbz
  · have lb' : ¬ s.body.length = 0 := by omega
    have lb'' : s.body ≠ [] := fun e => lb' (by rw [e]; rfl)
    have e : s.whole d = false := by rw [stWhole_eq]; simp [stHead, h0, h0', ho, fT, fP, fB, fE, fA, hc, h1, h2, hle', h3, ht, hw, hn0, lb, lb', lb'']
    simp (config := { maxSteps := 2000000 }) [h0, h0', ho, fT, fP, fB, fE, fA, hc, h1, h2, hle', h3, ht, hw, hn0, lb, lb', lb'', fmV, e]
  have lb : ¬ 0 < s.body.length := by omega
  rcases (Nat.eq_zero_or_pos s.els.length).symm with le | lez
  · have le' : ¬ s.els.length = 0 := by omega
    have le'' : s.els ≠ [] := fun e => le' (by rw [e]; rfl)
    have e : s.whole d = false := by rw [stWhole_eq]; simp [stHead, h0, h0', ho, fT, fP, fB, fE, fA, hc, h1, h2, hle', h3, ht, hw, hn0, lb, le, le', le'']
    simp (config := { maxSteps := 2000000 }) [h0, h0', ho, fT, fP, fB, fE, fA, hc, h1, h2, hle', h3, ht, hw, hn0, lb, le, le', le'', fmV, e]
  have le : ¬ 0 < s.els.length := by omega
  rcases (Nat.eq_zero_or_pos s.arms.length).symm with la | laz
  · have la' : ¬ s.arms.length = 0 := by omega
    have la'' : s.arms ≠ [] := fun e => la' (by rw [e]; rfl)
    have e : s.whole d = false := by rw [stWhole_eq]; simp [stHead, h0, h0', ho, fT, fP, fB, fE, fA, hc, h1, h2, hle', h3, ht, hw, hn0, lb, le, la, la', la'']
    simp (config := { maxSteps := 2000000 }) [h0, h0', ho, fT, fP, fB, fE, fA, hc, h1, h2, hle', h3, ht, hw, hn0, lb, le, la, la', la'', fmV, e]
  have la : ¬ 0 < s.arms.length := by omega
  have e : s.whole d = (exsB s.op s.exprs d && (s.body.all (fun t => t.whole (d - 1)) && (s.els.all (fun t => t.whole (d - 1)) && allUp (fun a => a.whole (d - 1)) s.arms 6))) := by
    rw [stWhole_eq]; simp only [stHead, ho, hc, h1, h2, hle, h3, ht, hw, hn0, fT, fP, fB, fE, fA, lbz, lez, laz, decide_true, Bool.true_and, Bool.true_or, Bool.false_or, beq_self_eq_true, h0]
  rw [e]
  simp (config := { maxSteps := 2000000 }) [h0, h0', ho, fT, fP, fB, fE, fA, hc, h1, h2, hle', h3, ht, hw, hn0, lb, le, la, fmV]
  refine ⟨_, _, x1 _ (by simp [get2_zero, fmV, fT, fP, fB, fE, fA]) rfl, ?_⟩
  cases k1 : exsB s.op s.exprs d with
  | false => simp [k1]
  | true =>
    simp [k1]
    refine ⟨_, _, x2 _ rfl, ?_⟩
    generalize s.body.all (fun t => t.whole (d - 1)) = b2
    cases b2 with
    | false => simp
    | true =>
      simp
      refine ⟨_, _, x3 _ rfl, ?_⟩
      generalize s.els.all (fun t => t.whole (d - 1)) = b3
      cases b3 with
      | false => simp
      | true =>
        simp
        refine ⟨_, _, x4 _ rfl rfl, ?_⟩
        simp
end Go.Proofs.YtlnoacoanfhdcaaGreatDoor

namespace Go.Proofs.YtlnoacoanfhdcaaGreatDoor
open Go.RowKit
attribute [local simp] List.replicate List.range List.range.loop resA resOne retA awpS_nil awpS_cons nextS_eq
set_option linter.unusedVariables false
set_option linter.unusedSimpArgs false

set_option maxRecDepth 100000 in
set_option maxHeartbeats 16000000 in
theorem wholeStmtB (s : St) (hsm : StSm s) (ih1 : ∀ x ∈ s.body, WSC x) (ih2 : ∀ x ∈ s.els, WSC x) (ih3 : ∀ a ∈ s.arms, ∀ x ∈ a.body, WSC x) (d : Int) (S : ASt) (hd1 : -1 ≤ d) (hd2 : d ≤ 1000) (h0 : 1 ≤ d) (ho : fmOk s.op = true)
    (fT : fmTyped s.op = false) (fP : fmPlaced s.op = true) (fB : fmBody s.op = false) (fE : fmElse s.op = false) (fA : fmArms s.op = false) : ADet Tryz.prog 64 [stmV s, I d] S (B (s.whole d)) S := by
  obtain ⟨_, hn, hs2, hnm, hty, hpl, hex, hb, hel, har, hbs, hes, has, hab⟩ := hsm
  have hfn : fmNames s.op ≤ 6 := by unfold fmNames; split <;> omega
  have g1 := fun S => fnNC s.op s.name hn S
  have g2 := fun S => fnSC s.op s.second hs2 S
  have g3 := fun S => all_string nameB s.names (fmNames s.op) (by omega) 59 [] [] S (fun x hx L => nameC1 x (sm_max (hnm.2 x hx)) _)
  have g4 := fun S h => wholeTypeC s.type hty (d - 1) S h (by omega)
  have g5 := fun S => zeroTyC s.type S
  have g6 := fun S => wholePlaceC s.place hpl S
  have g7 := fun S => noPlaceC s.place S
  have hd : -1 ≤ d - 1 := by omega
  have x1 := fun S h k => allExprs s.op s.names.length s.exprs (fun x hx => wholeExprC x (hex.2 x hx)) d hd hd2 S 0 2 1 h k
  have x2 := fun S h => allStmts s.body ih1 hb d hd hd2 S 0 1 h
  have x3 := fun S h => allStmts s.els ih2 hel d hd hd2 S 0 1 h
  have x4 := fun S h k => allArms s.arms has ih3 d hd hd2 S 0 3 1 h k
  have h0' : ¬ d < 1 := by omega
  refine ADet.intro mixed Tryz.call64 Tryz.func64 rfl ?_
  simp [Tryz.ntmps64]
  refine ⟨_, _, formOfC s _, ?_⟩
  simp [h0, h0', ho, fT, fP, fB, fE, fA, fmV]
  refine ⟨_, _, countedC s _, ?_⟩
  rcases (Bool.eq_false_or_eq_true (countB s.op s.int)).symm with hc | hc
  · have e : s.whole d = false := by rw [stWhole_eq]; simp [stHead, h0, h0', ho, fT, fP, fB, fE, fA, hc]
    simp (config := { maxSteps := 2000000 }) [h0, h0', ho, fT, fP, fB, fE, fA, hc, fmV, e]
  simp [h0, h0', ho, fT, fP, fB, fE, fA, hc, fmV]
  refine ⟨_, _, g1 _, ?_⟩
  rcases (Bool.eq_false_or_eq_true (fmN s.op s.name)).symm with h1 | h1
  · have e : s.whole d = false := by rw [stWhole_eq]; simp [stHead, h0, h0', ho, fT, fP, fB, fE, fA, hc, h1]
    simp (config := { maxSteps := 2000000 }) [h0, h0', ho, fT, fP, fB, fE, fA, hc, h1, fmV, e]
  simp [h0, h0', ho, fT, fP, fB, fE, fA, hc, h1, fmV]
  refine ⟨_, _, g2 _, ?_⟩
  rcases (Bool.eq_false_or_eq_true (fmS s.op s.second)).symm with h2 | h2
  · have e : s.whole d = false := by rw [stWhole_eq]; simp [stHead, h0, h0', ho, fT, fP, fB, fE, fA, hc, h1, h2]
    simp (config := { maxSteps := 2000000 }) [h0, h0', ho, fT, fP, fB, fE, fA, hc, h1, h2, fmV, e]
  by_cases hln : ¬ (s.exprs.length : Int) = fmExprs s.op s.names.length
  · have hle' : ((s.exprs.length : Int) != fmExprs s.op s.names.length) = true := by simp [hln]
    have e : s.whole d = false := by rw [stWhole_eq]; simp [stHead, h0, h0', ho, fT, fP, fB, fE, fA, hc, h1, h2, hle', hln]
    simp (config := { maxSteps := 2000000 }) [h0, h0', ho, fT, fP, fB, fE, fA, hc, h1, h2, hle', hln, fmV, e]
  have hle := Decidable.not_not.1 hln
  have hle' : ((s.exprs.length : Int) != fmExprs s.op s.names.length) = false := by simp [hle]
  simp [h0, h0', ho, fT, fP, fB, fE, fA, hc, h1, h2, hle', fmV]
  refine ⟨_, _, g3 _, ?_⟩
  rcases (Bool.eq_false_or_eq_true (allUp nameB s.names (fmNames s.op))).symm with h3 | h3
  · have e : s.whole d = false := by rw [stWhole_eq]; simp [stHead, h0, h0', ho, fT, fP, fB, fE, fA, hc, h1, h2, hle', h3]
    simp (config := { maxSteps := 2000000 }) [h0, h0', ho, fT, fP, fB, fE, fA, hc, h1, h2, hle', h3, fmV, e]
  simp [h0, h0', ho, fT, fP, fB, fE, fA, hc, h1, h2, hle', h3, fmV]
  refine awp_drawS [(1, 6), (21, 24)] (by kernel_rfl) (by kernel_rfl) (by decide) ?_
  simp (config := { maxSteps := 2000000 }) [h0, h0', ho, fT, fP, fB, fE, fA, hc, h1, h2, hle', h3, fmV, wrd d (by omega)]
  refine ⟨_, g4 _ (by omega), ?_⟩
  rcases (Bool.eq_false_or_eq_true (s.type.whole (d - 1))) with ht | ht
  · have e : s.whole d = false := by rw [stWhole_eq]; simp [stHead, h0, h0', ho, fT, fP, fB, fE, fA, hc, h1, h2, hle', h3, ht]
    simp (config := { maxSteps := 2000000 }) [h0, h0', ho, fT, fP, fB, fE, fA, hc, h1, h2, hle', h3, ht, fmV, e]
  simp (config := { maxSteps := 2000000 }) [h0, h0', ho, fT, fP, fB, fE, fA, hc, h1, h2, hle', h3, ht, fmV]
  refine ⟨_, g5 _, ?_⟩
  rcases (Bool.eq_false_or_eq_true (zeroTyB s.type)).symm with hz | hz
  · have e : s.whole d = false := by rw [stWhole_eq]; simp [stHead, h0, h0', ho, fT, fP, fB, fE, fA, hc, h1, h2, hle', h3, ht, hz]
    simp (config := { maxSteps := 2000000 }) [h0, h0', ho, fT, fP, fB, fE, fA, hc, h1, h2, hle', h3, ht, hz, fmV, e]
  simp (config := { maxSteps := 2000000 }) [h0, h0', ho, fT, fP, fB, fE, fA, hc, h1, h2, hle', h3, ht, hz, fmV]
  refine ⟨_, g6 _, ?_⟩
  rcases (Bool.eq_false_or_eq_true (s.place.whole)).symm with hw | hw
  · have e : s.whole d = false := by rw [stWhole_eq]; simp [stHead, h0, h0', ho, fT, fP, fB, fE, fA, hc, h1, h2, hle', h3, ht, hz, hw]
    simp (config := { maxSteps := 2000000 }) [h0, h0', ho, fT, fP, fB, fE, fA, hc, h1, h2, hle', h3, ht, hz, hw, fmV, e]
  rcases (Nat.eq_zero_or_pos s.body.length).symm with lb | lbz
  · have lb' : ¬ s.body.length = 0 := by omega
    have lb'' : s.body ≠ [] := fun e => lb' (by rw [e]; rfl)
    have e : s.whole d = false := by rw [stWhole_eq]; simp [stHead, h0, h0', ho, fT, fP, fB, fE, fA, hc, h1, h2, hle', h3, ht, hz, hw, lb, lb', lb'']
    simp (config := { maxSteps := 2000000 }) [h0, h0', ho, fT, fP, fB, fE, fA, hc, h1, h2, hle', h3, ht, hz, hw, lb, lb', lb'', fmV, e]
  have lb : ¬ 0 < s.body.length := by omega
  rcases (Nat.eq_zero_or_pos s.els.length).symm with le | lez
  · have le' : ¬ s.els.length = 0 := by omega
    have le'' : s.els ≠ [] := fun e => le' (by rw [e]; rfl)
    have e : s.whole d = false := by rw [stWhole_eq]; simp [stHead, h0, h0', ho, fT, fP, fB, fE, fA, hc, h1, h2, hle', h3, ht, hz, hw, lb, le, le', le'']
    simp (config := { maxSteps := 2000000 }) [h0, h0', ho, fT, fP, fB, fE, fA, hc, h1, h2, hle', h3, ht, hz, hw, lb, le, le', le'', fmV, e]
  have le : ¬ 0 < s.els.length := by omega
  rcases (Nat.eq_zero_or_pos s.arms.length).symm with la | laz
  · have la' : ¬ s.arms.length = 0 := by omega
    have la'' : s.arms ≠ [] := fun e => la' (by rw [e]; rfl)
    have e : s.whole d = false := by rw [stWhole_eq]; simp [stHead, h0, h0', ho, fT, fP, fB, fE, fA, hc, h1, h2, hle', h3, ht, hz, hw, lb, le, la, la', la'']
    simp (config := { maxSteps := 2000000 }) [h0, h0', ho, fT, fP, fB, fE, fA, hc, h1, h2, hle', h3, ht, hz, hw, lb, le, la, la', la'', fmV, e]
  have la : ¬ 0 < s.arms.length := by omega
  have e : s.whole d = (exsB s.op s.exprs d && (s.body.all (fun t => t.whole (d - 1)) && (s.els.all (fun t => t.whole (d - 1)) && allUp (fun a => a.whole (d - 1)) s.arms 6))) := by
    rw [stWhole_eq]; simp only [stHead, ho, hc, h1, h2, hle, h3, ht, hz, hw, fT, fP, fB, fE, fA, lbz, lez, laz, decide_true, Bool.true_and, Bool.true_or, Bool.false_or, beq_self_eq_true, h0]
  rw [e]
  simp (config := { maxSteps := 2000000 }) [h0, h0', ho, fT, fP, fB, fE, fA, hc, h1, h2, hle', h3, ht, hz, hw, lb, le, la, fmV]
  refine ⟨_, _, x1 _ (by simp [get2_zero, fmV, fT, fP, fB, fE, fA]) rfl, ?_⟩
  cases k1 : exsB s.op s.exprs d with
  | false => simp [k1]
  | true =>
    simp [k1]
    refine ⟨_, _, x2 _ rfl, ?_⟩
    generalize s.body.all (fun t => t.whole (d - 1)) = b2
    cases b2 with
    | false => simp
    | true =>
      simp
      refine ⟨_, _, x3 _ rfl, ?_⟩
      generalize s.els.all (fun t => t.whole (d - 1)) = b3
      cases b3 with
      | false => simp
      | true =>
        simp
        refine ⟨_, _, x4 _ rfl rfl, ?_⟩
        simp
end Go.Proofs.YtlnoacoanfhdcaaGreatDoor
