/- weftwaylaw08.awake in the logic over abstract values: the chapter's examples. No statement is proved here. -/
import Derived.Test.YtnblhbpfgdjnkaaGreatDoorMTy
import Derived.Test.YtnblhbpfgdjnkaaGreatDoorMPh
namespace Go.Proofs.YtnblhbpfgdjnkaaGreatDoor
open Go.RowKit
attribute [local simp] List.replicate List.range List.range.loop resA resOne retA virtL virtO virt_get markL markO markR_get rowA List.contains_cons List.contains_nil List.find? nextD_eq awpD_nil awpD_cons LCp LCl refL
set_option linter.unusedVariables false
set_option linter.unusedSimpArgs false

/-- the example's program -/
def exP : List It := [⟨1, (⟨#[83]⟩ : ByteArray), [⟨(⟨#[97]⟩ : ByteArray), .mk 1 emS []⟩, ⟨(⟨#[98]⟩ : ByteArray), .mk 5 emS [.mk 4 (⟨#[83]⟩ : ByteArray) []]⟩], .mk 0 emS [], [], .mk 0 0 emS emS ⟨emS, []⟩ [] 0, 0⟩]
abbrev tInt : Ty := .mk 1 emS []
abbrev tS : Ty := .mk 4 (⟨#[83]⟩ : ByteArray) []
theorem mk_kind8 (k : Int) (s : ByteArray) (l : List Ty) : (Ty.mk k s l).kind = k := rfl
theorem mk_name8 (k : Int) (s : ByteArray) (l : List Ty) : (Ty.mk k s l).name = s := rfl
theorem mk_args8 (k : Int) (s : ByteArray) (l : List Ty) : (Ty.mk k s l).args = l := rfl
theorem exP_parse : parseF 300 (⟨#[115, 116, 114, 117, 99, 116, 32, 83, 32, 123, 32, 97, 58, 32, 105, 110, 116, 44, 32, 98, 58, 32, 66, 111, 120, 60, 83, 62, 32, 125]⟩ : ByteArray) = some exP := by kernel_rfl
theorem exP_deep : itsDeep0 exP ≤ 40 := by decide +kernel
theorem exP_sm : PrSm exP := pr_sm (by decide +kernel)
theorem tInt_sm : TySm tInt := .mk _ (by show (0 : Nat) ≤ 20000; omega) (by show (0 : Nat) ≤ 20000; omega) (fun x hx => by cases hx)
theorem tS_sm : TySm tS := .mk _ (by show (1 : Nat) ≤ 20000; omega) (by show (0 : Nat) ≤ 20000; omega) (fun x hx => by cases hx)
theorem wrap_sm (k : Int) {t : Ty} (h : TySm t) : TySm (.mk k emS [t]) := .mk _ (by show (0 : Nat) ≤ 20000; omega) (by show (1 : Nat) ≤ 20000; omega) fun x hx => by
  simp [Ty.args] at hx; subst hx; exact h
theorem w1 : walkT exP tS [(⟨#[97]⟩ : ByteArray)] = some (tInt, true) := by kernel_rfl
theorem w2 : walkT exP tS [(⟨#[98]⟩ : ByteArray)] = some (.mk 5 emS [tS], true) := by kernel_rfl
theorem w3 : walkT exP tS [(⟨#[99]⟩ : ByteArray)] = none := by kernel_rfl
theorem w4 : walkT exP (.mk 9 emS [tS]) [(⟨#[42]⟩ : ByteArray)] = none := by kernel_rfl
theorem w5 : walkT exP tS [(⟨#[98]⟩ : ByteArray), (⟨#[42]⟩ : ByteArray), (⟨#[97]⟩ : ByteArray)] = some (tInt, true) := by kernel_rfl
theorem w6 : walkT exP (.mk 13 emS [tS]) [(⟨#[42]⟩ : ByteArray), (⟨#[97]⟩ : ByteArray)] = some (tInt, false) := by kernel_rfl
theorem tS_le : LeA (.agg [U 4, Sg (⟨#[83]⟩ : ByteArray), nilS]) (tyV tS) := .agg (.cons (.refl _) (.cons (.refl _) (.cons (.p (.nil 3)) (.refl _))))
theorem tInt_le : LeA (.agg [U 1, Sg emS, nilS]) (tyV tInt) := .agg (.cons (.refl _) (.cons (.refl _) (.cons (.p (.nil 3)) (.refl _))))
set_option maxRecDepth 100000 in
set_option maxHeartbeats 32000000 in
theorem awake08C (S : ASt) : ADet Tryz.prog 11 [] S (B true) S := by
  have pC := fun S => ADet.lessT (.cons (.refl _) (.cons (.p (.nil 2)) (.refl _))) (programC 300 (by omega) _ exP exP_parse exP_deep S)
  have s1 := fun S => ADet.sub (.cons (.refl _) (.cons tS_le (.refl _))) (tyStepC exP exP_sm tS tS_sm (⟨#[97]⟩ : ByteArray) S)
  have s2 := fun S => ADet.sub (.cons (.refl _) (.cons tS_le (.refl _))) (tyStepC exP exP_sm tS tS_sm (⟨#[98]⟩ : ByteArray) S)
  have s3 := fun S => ADet.sub (.cons (.refl _) (.cons tS_le (.refl _))) (tyStepC exP exP_sm tS tS_sm (⟨#[99]⟩ : ByteArray) S)
  have s4 := fun S => tyStepC exP exP_sm (.mk 9 emS [tS]) (wrap_sm 9 tS_sm) (⟨#[42]⟩ : ByteArray) S
  have s5 := fun S => walkC exP exP_sm tS tS_sm [(⟨#[98]⟩ : ByteArray), (⟨#[42]⟩ : ByteArray), (⟨#[97]⟩ : ByteArray)] S
  have s6 := fun S => walkC exP exP_sm (.mk 13 emS [tS]) (wrap_sm 13 tS_sm) [(⟨#[42]⟩ : ByteArray), (⟨#[97]⟩ : ByteArray)] S
  have wS := fun k S => ADet.sub (.cons (.refl _) (.cons tS_le (.refl _))) (wrap08C k tS S)
  have wI := fun k S => ADet.sub (.cons (.refl _) (.cons tInt_le (.refl _))) (wrap08C k tInt S)
  have wW := fun S => wrap08C 5 (.mk 13 emS [tS]) S
  have cI := fun S => ADet.sub (.cons tInt_le (.refl _)) (tyCopiedC tInt S)
  have cS := fun S => ADet.sub (.cons tS_le (.refl _)) (tyCopiedC tS S)
  have cM := fun S => tyCopiedC (.mk 14 emS [tInt]) S
  have cR := fun S => tyCopiedC (.mk 13 emS [tS]) S
  have oS := fun S => ADet.sub (.cons tS_le (.refl _)) (tyOwnedC tS S)
  have oB := fun S => tyOwnedC (.mk 5 emS [.mk 13 emS [tS]]) S
  have e1 : tInt.copied = true := by decide
  have e2 : tS.copied = false := by decide
  have e3 : (Ty.mk 14 emS [tInt]).copied = false := by decide
  have e4 : (Ty.mk 13 emS [tS]).copied = true := by decide
  have e5 : tS.owned = true := by decide
  have e6 : (Ty.mk 5 emS [.mk 13 emS [tS]]).owned = false := by decide
  simp only [w1, w2, w3, w4, w5, w6, e1, e2, e3, e4, e5, e6, walkR, strs, List.map_cons, List.map_nil, tyV, mk_kind8, mk_name8, mk_args8, tyEnc] at s1 s2 s3 s4 s5 s6 wS wI wW cI cS cM cR oS oB
  have s5' := fun (d i : Nat) S => ADet.sub (.cons (.refl _) (.cons tS_le (.cons (.osl (d := d) (i := i) (.refl _)) (.refl _)))) (s5 S)
  have s6' := fun (d i : Nat) S => ADet.sub (.cons (.refl _) (.cons (.refl _) (.cons (.osl (d := d) (i := i) (.refl _)) (.refl _)))) (s6 S)
  refine ADet.intro mixed Tryz.call11 Tryz.func11 rfl ?_
  simp [Tryz.ntmps11]
  refine ⟨_, _, pC _, ?_⟩
  simp
  refine ⟨_, _, s1 _, ?_⟩
  simp
  refine ⟨_, _, s2 _, ?_⟩
  simp
  refine ⟨_, _, s3 _, ?_⟩
  simp
  refine awp_drawL [(7, 8, 11)] [(0, 2)] (by kernel_rfl) (by kernel_rfl) (by kernel_rfl) (by simp) ?_
  simp
  refine ⟨_, _, wS _ _, ?_⟩
  simp
  refine ⟨_, _, s4 _, ?_⟩
  simp
  refine ⟨_, _, s5' _ _ _, ?_⟩
  simp
  refine awp_drawRL [3] [(9, 10, 16)] [(0, 2), (3, 2)] (by kernel_rfl) (by kernel_rfl) (by kernel_rfl) (by simp) ?_
  simp
  refine ⟨_, _, wS _ _, ?_⟩
  simp
  refine ⟨_, _, s6 _, ?_⟩
  simp
  refine ⟨_, _, cI _, ?_⟩
  simp
  refine ⟨_, _, wI _ _, ?_⟩
  simp
  refine ⟨_, _, cM _, ?_⟩
  simp
  refine ⟨_, _, wS _ _, ?_⟩
  simp
  refine ⟨_, _, cR _, ?_⟩
  simp
  refine ⟨_, _, cS _, ?_⟩
  simp
  refine ⟨_, _, oS _, ?_⟩
  simp
  refine ⟨_, _, wS _ _, ?_⟩
  simp
  refine ⟨_, _, wW _, ?_⟩
  simp
  refine ⟨_, _, oB _, ?_⟩
  simp
end Go.Proofs.YtnblhbpfgdjnkaaGreatDoor
