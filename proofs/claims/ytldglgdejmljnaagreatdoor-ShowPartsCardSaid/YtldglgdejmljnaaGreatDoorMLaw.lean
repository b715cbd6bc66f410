/- weftwaylaw04.ShowParts in the logic over abstract values: what a type, a place, an expression shows is what the document says. The row is in a text of its own. -/
import Derived.Test.YtldglgdejmljnaaGreatDoorMRoom
import Derived.Test.YtldglgdejmljnaaGreatDoorMSh
import Derived.Test.YtldglgdejmljnaaGreatDoorMXf
import Derived.Test.YtldglgdejmljnaaGreatDoorMRd
namespace Go.Proofs.YtldglgdejmljnaaGreatDoor
open Go.RowKit
set_option linter.unusedVariables false
set_option linter.unusedSimpArgs false

set_option maxRecDepth 100000 in
set_option maxHeartbeats 1000000 in
theorem greatTypeC (t : Ty) (S : ASt) : ADet Tryz.prog 5 [tyV t] S (B (decide (t.room 20000 < 0))) S := by
  refine ADet.intro mixed Tryz.call5 Tryz.func5 rfl ?_
  simp [List.replicate, List.range, List.range.loop, Tryz.ntmps5]
  refine ⟨_, _, typeC t _ 0 1 20000 (by simp [get2_zero, rm]) (by omega) (by omega), ?_⟩
  simp [List.replicate, List.range, List.range.loop, resA, resOne, retA, rm]
set_option maxRecDepth 100000 in
set_option maxHeartbeats 1000000 in
theorem greatExprC (e : Ex) (S : ASt) : ADet Tryz.prog 6 [exV e] S (B (decide (e.room 20000 < 0))) S := by
  refine ADet.intro mixed Tryz.call6 Tryz.func6 rfl ?_
  simp [List.replicate, List.range, List.range.loop, Tryz.ntmps6]
  refine ⟨_, _, exprC e _ 0 1 20000 (by simp [get2_zero, rm]) (by omega) (by omega), ?_⟩
  simp [List.replicate, List.range, List.range.loop, resA, resOne, retA, rm]

theorem place_room {e : Ex} (h : 0 ≤ e.room 20000) : ∃ n, n ≤ 20000 ∧ 0 ≤ e.place.room n := by
  rw [exRoom_eq] at h
  have a := fold_pos h
  refine ⟨_, ?_, a⟩
  have b := names_pos (by unfold Pl.room at a; exact a)
  have c := nameRoom_in b
  have d := nameRoom_in (k := e.second.size) (n := nameRoom e.name.size 20000) (by omega)
  have f := nameRoom_in (k := e.name.size) (n := 20000) (by omega)
  omega

def kindS (t : Ty) : ByteArray := if t.whole 40 then textOf t.tk else emS
def exprS (e : Ex) : ByteArray := if exWhole1 e then textOf e.tk else emS
def placeS (x : Pl) : ByteArray := if x.whole then textOf x.tk else emS

set_option maxRecDepth 100000 in
set_option maxHeartbeats 4000000 in
theorem showPartsC (t : Ty) (e : Ex) (hrg : ExRg e) (hnn : ExNn e) (S : ASt) : ADet Tryz.prog 3 [tyV t, exV e] S (B true) S := by
  refine ADet.intro mixed Tryz.call3 Tryz.func3 rfl ?_
  simp [List.replicate, List.range, List.range.loop, Tryz.ntmps3]
  refine ⟨_, _, greatTypeC t _, ?_⟩
  by_cases h1 : t.room 20000 < 0
  · simp [List.replicate, List.range, List.range.loop, resA, resOne, retA, h1]
  simp [List.replicate, List.range, List.range.loop, h1]
  refine ⟨_, _, greatExprC e _, ?_⟩
  by_cases h2 : e.room 20000 < 0
  · simp [List.replicate, List.range, List.range.loop, resA, resOne, retA, h2]
  simp [List.replicate, List.range, List.range.loop, h2]
  have h1' : 0 ≤ t.room 20000 := by omega
  have h2' : 0 ≤ e.room 20000 := by omega
  obtain ⟨pn, hp1, hp2⟩ := place_room h2'
  have hts : TySm t := ty_sm t 20000 (by omega) (by omega) h1'
  have hes : ExSm e := ex_sm e 20000 (by omega) (by omega) h2'
  have hps : PlSm e.place := pl_sm hp1 hp2
  have htl : tl t.tk ≤ 1000000 := by have := ty_tl t 20000 h1'; omega
  have hel : tl e.tk ≤ 1000000 := by have := ex_tl e hrg 20000 h2'; omega
  have hpl : tl e.place.tk ≤ 1000000 := by have := (pl_tl hp2).1; omega
  have hetl : ExTl e := ex_tls e 20000 hrg (by omega) (by omega) h2'
  have ht0 := len_tl t.tk
  have he0 := len_tl e.tk
  have hp0 := len_tl e.place.tk
  have sT := fun S => showTypeC t hts (by omega) S
  have sE := fun S => showExprC e hes hrg (by omega) S
  have sP := fun S => showPlaceC e.place hps (by omega) S
  have hpn : e.place.path.length ≤ 20000 := hps.2.1
  refine ⟨_, _, rTypeC t hts 40 _ (by omega) (by omega), ?_⟩
  cases hw : t.whole 40 with
  | true =>
    have cT := r4TypeC t 40 hw (by omega)
    have lT := fun S => lineC t.tk (by omega) (by omega) S
    rw [← textOf_line] at lT
    simp only [hw, if_true] at sT
    simp [List.replicate, List.range, List.range.loop]
    refine ⟨_, _, cT _, ?_⟩
    simp [List.replicate, List.range, List.range.loop]
    refine ⟨_, _, lT _, ?_⟩
    simp [List.replicate, List.range, List.range.loop]
    refine ⟨_, _, rLentC e _, ?_⟩
    cases hl : lentOp e.op with
    | true =>
      simp only [exWhole1, hl, Bool.not_true, Bool.false_and, Bool.false_eq_true, if_false] at sE
      simp [List.replicate, List.range, List.range.loop]
      refine ⟨_, _, rPlaceC e.place hps _, ?_⟩
      cases hp : e.place.whole with
      | true =>
        have cP := fun S => r4PlaceC e.place hpn S
        have lP := fun S => lineC e.place.tk (by omega) (by omega) S
        rw [← textOf_line] at lP
        simp only [hp, if_true] at sP
        simp [List.replicate, List.range, List.range.loop]
        refine ⟨_, _, cP _, ?_⟩
        simp [List.replicate, List.range, List.range.loop]
        refine ⟨_, _, lP _, ?_⟩
        simp [List.replicate, List.range, List.range.loop]
        refine ⟨_, _, sT _, ?_⟩
        simp [List.replicate, List.range, List.range.loop, sEq_self]
        refine ⟨_, _, sE _, ?_⟩
        simp [List.replicate, List.range, List.range.loop, sEq_self]
        refine ⟨_, _, sP _, ?_⟩
        simp [List.replicate, List.range, List.range.loop, resA, resOne, retA, sEq_self]
      | false =>
        simp only [hp, Bool.false_eq_true, if_false] at sP
        simp [List.replicate, List.range, List.range.loop]
        refine ⟨_, _, sT _, ?_⟩
        simp [List.replicate, List.range, List.range.loop, sEq_self]
        refine ⟨_, _, sE _, ?_⟩
        simp [List.replicate, List.range, List.range.loop, sEq_self]
        refine ⟨_, _, sP _, ?_⟩
        simp [List.replicate, List.range, List.range.loop, resA, resOne, retA, sEq_self]
    | false =>
      simp [List.replicate, List.range, List.range.loop]
      refine ⟨_, _, rExprC e hes hnn 40 _ (by omega) (by omega), ?_⟩
      cases hx : e.whole 40 with
      | true =>
        have cE := r4ExprC printOK e 40 hx hes hrg hetl
        have lE := fun S => lineC e.tk (by omega) (by omega) S
        rw [← textOf_line] at lE
        simp only [exWhole1, hl, hx, Bool.not_false, Bool.true_and, if_true] at sE
        simp [List.replicate, List.range, List.range.loop]
        refine ⟨_, _, cE _, ?_⟩
        simp [List.replicate, List.range, List.range.loop]
        refine ⟨_, _, lE _, ?_⟩
        simp [List.replicate, List.range, List.range.loop]
        refine ⟨_, _, rPlaceC e.place hps _, ?_⟩
        cases hp : e.place.whole with
        | true =>
          have cP := fun S => r4PlaceC e.place hpn S
          have lP := fun S => lineC e.place.tk (by omega) (by omega) S
          rw [← textOf_line] at lP
          simp only [hp, if_true] at sP
          simp [List.replicate, List.range, List.range.loop]
          refine ⟨_, _, cP _, ?_⟩
          simp [List.replicate, List.range, List.range.loop]
          refine ⟨_, _, lP _, ?_⟩
          simp [List.replicate, List.range, List.range.loop]
          refine ⟨_, _, sT _, ?_⟩
          simp [List.replicate, List.range, List.range.loop, sEq_self]
          refine ⟨_, _, sE _, ?_⟩
          simp [List.replicate, List.range, List.range.loop, sEq_self]
          refine ⟨_, _, sP _, ?_⟩
          simp [List.replicate, List.range, List.range.loop, resA, resOne, retA, sEq_self]
        | false =>
          simp only [hp, Bool.false_eq_true, if_false] at sP
          simp [List.replicate, List.range, List.range.loop]
          refine ⟨_, _, sT _, ?_⟩
          simp [List.replicate, List.range, List.range.loop, sEq_self]
          refine ⟨_, _, sE _, ?_⟩
          simp [List.replicate, List.range, List.range.loop, sEq_self]
          refine ⟨_, _, sP _, ?_⟩
          simp [List.replicate, List.range, List.range.loop, resA, resOne, retA, sEq_self]
      | false =>
        simp only [exWhole1, hl, hx, Bool.not_false, Bool.and_false, Bool.false_eq_true, if_false] at sE
        simp [List.replicate, List.range, List.range.loop]
        refine ⟨_, _, rPlaceC e.place hps _, ?_⟩
        cases hp : e.place.whole with
        | true =>
          have cP := fun S => r4PlaceC e.place hpn S
          have lP := fun S => lineC e.place.tk (by omega) (by omega) S
          rw [← textOf_line] at lP
          simp only [hp, if_true] at sP
          simp [List.replicate, List.range, List.range.loop]
          refine ⟨_, _, cP _, ?_⟩
          simp [List.replicate, List.range, List.range.loop]
          refine ⟨_, _, lP _, ?_⟩
          simp [List.replicate, List.range, List.range.loop]
          refine ⟨_, _, sT _, ?_⟩
          simp [List.replicate, List.range, List.range.loop, sEq_self]
          refine ⟨_, _, sE _, ?_⟩
          simp [List.replicate, List.range, List.range.loop, sEq_self]
          refine ⟨_, _, sP _, ?_⟩
          simp [List.replicate, List.range, List.range.loop, resA, resOne, retA, sEq_self]
        | false =>
          simp only [hp, Bool.false_eq_true, if_false] at sP
          simp [List.replicate, List.range, List.range.loop]
          refine ⟨_, _, sT _, ?_⟩
          simp [List.replicate, List.range, List.range.loop, sEq_self]
          refine ⟨_, _, sE _, ?_⟩
          simp [List.replicate, List.range, List.range.loop, sEq_self]
          refine ⟨_, _, sP _, ?_⟩
          simp [List.replicate, List.range, List.range.loop, resA, resOne, retA, sEq_self]
  | false =>
    simp only [hw, Bool.false_eq_true, if_false] at sT
    simp [List.replicate, List.range, List.range.loop]
    refine ⟨_, _, rLentC e _, ?_⟩
    cases hl : lentOp e.op with
    | true =>
      simp only [exWhole1, hl, Bool.not_true, Bool.false_and, Bool.false_eq_true, if_false] at sE
      simp [List.replicate, List.range, List.range.loop]
      refine ⟨_, _, rPlaceC e.place hps _, ?_⟩
      cases hp : e.place.whole with
      | true =>
        have cP := fun S => r4PlaceC e.place hpn S
        have lP := fun S => lineC e.place.tk (by omega) (by omega) S
        rw [← textOf_line] at lP
        simp only [hp, if_true] at sP
        simp [List.replicate, List.range, List.range.loop]
        refine ⟨_, _, cP _, ?_⟩
        simp [List.replicate, List.range, List.range.loop]
        refine ⟨_, _, lP _, ?_⟩
        simp [List.replicate, List.range, List.range.loop]
        refine ⟨_, _, sT _, ?_⟩
        simp [List.replicate, List.range, List.range.loop, sEq_self]
        refine ⟨_, _, sE _, ?_⟩
        simp [List.replicate, List.range, List.range.loop, sEq_self]
        refine ⟨_, _, sP _, ?_⟩
        simp [List.replicate, List.range, List.range.loop, resA, resOne, retA, sEq_self]
      | false =>
        simp only [hp, Bool.false_eq_true, if_false] at sP
        simp [List.replicate, List.range, List.range.loop]
        refine ⟨_, _, sT _, ?_⟩
        simp [List.replicate, List.range, List.range.loop, sEq_self]
        refine ⟨_, _, sE _, ?_⟩
        simp [List.replicate, List.range, List.range.loop, sEq_self]
        refine ⟨_, _, sP _, ?_⟩
        simp [List.replicate, List.range, List.range.loop, resA, resOne, retA, sEq_self]
    | false =>
      simp [List.replicate, List.range, List.range.loop]
      refine ⟨_, _, rExprC e hes hnn 40 _ (by omega) (by omega), ?_⟩
      cases hx : e.whole 40 with
      | true =>
        have cE := r4ExprC printOK e 40 hx hes hrg hetl
        have lE := fun S => lineC e.tk (by omega) (by omega) S
        rw [← textOf_line] at lE
        simp only [exWhole1, hl, hx, Bool.not_false, Bool.true_and, if_true] at sE
        simp [List.replicate, List.range, List.range.loop]
        refine ⟨_, _, cE _, ?_⟩
        simp [List.replicate, List.range, List.range.loop]
        refine ⟨_, _, lE _, ?_⟩
        simp [List.replicate, List.range, List.range.loop]
        refine ⟨_, _, rPlaceC e.place hps _, ?_⟩
        cases hp : e.place.whole with
        | true =>
          have cP := fun S => r4PlaceC e.place hpn S
          have lP := fun S => lineC e.place.tk (by omega) (by omega) S
          rw [← textOf_line] at lP
          simp only [hp, if_true] at sP
          simp [List.replicate, List.range, List.range.loop]
          refine ⟨_, _, cP _, ?_⟩
          simp [List.replicate, List.range, List.range.loop]
          refine ⟨_, _, lP _, ?_⟩
          simp [List.replicate, List.range, List.range.loop]
          refine ⟨_, _, sT _, ?_⟩
          simp [List.replicate, List.range, List.range.loop, sEq_self]
          refine ⟨_, _, sE _, ?_⟩
          simp [List.replicate, List.range, List.range.loop, sEq_self]
          refine ⟨_, _, sP _, ?_⟩
          simp [List.replicate, List.range, List.range.loop, resA, resOne, retA, sEq_self]
        | false =>
          simp only [hp, Bool.false_eq_true, if_false] at sP
          simp [List.replicate, List.range, List.range.loop]
          refine ⟨_, _, sT _, ?_⟩
          simp [List.replicate, List.range, List.range.loop, sEq_self]
          refine ⟨_, _, sE _, ?_⟩
          simp [List.replicate, List.range, List.range.loop, sEq_self]
          refine ⟨_, _, sP _, ?_⟩
          simp [List.replicate, List.range, List.range.loop, resA, resOne, retA, sEq_self]
      | false =>
        simp only [exWhole1, hl, hx, Bool.not_false, Bool.and_false, Bool.false_eq_true, if_false] at sE
        simp [List.replicate, List.range, List.range.loop]
        refine ⟨_, _, rPlaceC e.place hps _, ?_⟩
        cases hp : e.place.whole with
        | true =>
          have cP := fun S => r4PlaceC e.place hpn S
          have lP := fun S => lineC e.place.tk (by omega) (by omega) S
          rw [← textOf_line] at lP
          simp only [hp, if_true] at sP
          simp [List.replicate, List.range, List.range.loop]
          refine ⟨_, _, cP _, ?_⟩
          simp [List.replicate, List.range, List.range.loop]
          refine ⟨_, _, lP _, ?_⟩
          simp [List.replicate, List.range, List.range.loop]
          refine ⟨_, _, sT _, ?_⟩
          simp [List.replicate, List.range, List.range.loop, sEq_self]
          refine ⟨_, _, sE _, ?_⟩
          simp [List.replicate, List.range, List.range.loop, sEq_self]
          refine ⟨_, _, sP _, ?_⟩
          simp [List.replicate, List.range, List.range.loop, resA, resOne, retA, sEq_self]
        | false =>
          simp only [hp, Bool.false_eq_true, if_false] at sP
          simp [List.replicate, List.range, List.range.loop]
          refine ⟨_, _, sT _, ?_⟩
          simp [List.replicate, List.range, List.range.loop, sEq_self]
          refine ⟨_, _, sE _, ?_⟩
          simp [List.replicate, List.range, List.range.loop, sEq_self]
          refine ⟨_, _, sP _, ?_⟩
          simp [List.replicate, List.range, List.range.loop, resA, resOne, retA, sEq_self]
end Go.Proofs.YtldglgdejmljnaaGreatDoor
