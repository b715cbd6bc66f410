/- weftwaylaw09.awake in the logic over abstract values: the chapter's examples. No statement is proved here. -/
import Derived.Test.YtnblhbpfgdjnkaaGreatDoorAuE
import Derived.Test.YtnblhbpfgdjnkaaGreatDoorMPh
namespace Go.Proofs.YtnblhbpfgdjnkaaGreatDoor
open Go.RowKit
attribute [local simp] List.replicate List.range List.range.loop resA resOne retA virtL virtO virt_get markL markO markR_get rowA awpI_nil awpI_cons List.forall_mem_cons List.contains_cons List.contains_nil List.find? nextD_eq awpD_nil awpD_cons LCp LCl refL
set_option linter.unusedVariables false
set_option linter.unusedSimpArgs false
abbrev i9 : Ty := .mk 1 emS []
abbrev n9 (s : ByteArray) : Ty := .mk 4 s []
abbrev w9 (k : Int) (t : Ty) : Ty := .mk k emS [t]
/-- the example's program -/
def exQ : List It := [⟨1, (⟨#[76]⟩ : ByteArray), [⟨(⟨#[97]⟩ : ByteArray), i9⟩, ⟨(⟨#[98]⟩ : ByteArray), w9 5 (n9 (⟨#[76]⟩ : ByteArray))⟩], .mk 0 emS [], [], .mk 0 0 emS emS ⟨emS, []⟩ [] 0, 0⟩, ⟨1, (⟨#[65]⟩ : ByteArray), [⟨(⟨#[97]⟩ : ByteArray), w9 5 (n9 (⟨#[77]⟩ : ByteArray))⟩], .mk 0 emS [], [], .mk 0 0 emS emS ⟨emS, []⟩ [] 0, 31⟩, ⟨1, (⟨#[77]⟩ : ByteArray), [⟨(⟨#[98]⟩ : ByteArray), w9 8 (n9 (⟨#[65]⟩ : ByteArray))⟩, ⟨(⟨#[99]⟩ : ByteArray), w9 6 i9⟩], .mk 0 emS [], [], .mk 0 0 emS emS ⟨emS, []⟩ [] 0, 54⟩]
theorem exQ_parse : parseF 300 (⟨#[115, 116, 114, 117, 99, 116, 32, 76, 32, 123, 32, 97, 58, 32, 105, 110, 116, 44, 32, 98, 58, 32, 66, 111, 120, 60, 76, 62, 32, 125, 32, 115, 116, 114, 117, 99, 116, 32, 65, 32, 123, 32, 97, 58, 32, 66, 111, 120, 60, 77, 62, 32, 125, 32, 115, 116, 114, 117, 99, 116, 32, 77, 32, 123, 32, 98, 58, 32, 65, 114, 99, 60, 65, 62, 44, 32, 99, 58, 32, 67, 101, 108, 108, 60, 105, 110, 116, 62, 32, 125]⟩ : ByteArray) = some exQ := by kernel_rfl
theorem exQ_deep : itsDeep0 exQ ≤ 40 := by decide +kernel
theorem exQ_sm : PrSm exQ := pr_sm (by decide +kernel)
theorem i9_sm : TySm i9 := .mk _ (by show (0 : Nat) ≤ 20000; omega) (by show (0 : Nat) ≤ 20000; omega) (fun x hx => by cases hx)
theorem w9_sm (k : Int) {t : Ty} (h : TySm t) : TySm (w9 k t) := .mk _ (by show (0 : Nat) ≤ 20000; omega) (by show (1 : Nat) ≤ 20000; omega) fun x hx => by
  simp [Ty.args] at hx; subst hx; exact h
theorem n9_sm (c : UInt8) : TySm (n9 ⟨#[c]⟩) := .mk _ (by show (1 : Nat) ≤ 20000; omega) (by show (0 : Nat) ≤ 20000; omega) (fun x hx => by cases hx)
theorem mk_kind9 (k : Int) (s : ByteArray) (l : List Ty) : (Ty.mk k s l).kind = k := rfl
theorem mk_name9 (k : Int) (s : ByteArray) (l : List Ty) : (Ty.mk k s l).name = s := rfl
theorem mk_args9 (k : Int) (s : ByteArray) (l : List Ty) : (Ty.mk k s l).args = l := rfl
set_option maxRecDepth 100000 in
set_option maxHeartbeats 32000000 in
theorem awake09C (S : ASt) : ADet Tryz.prog 22 [] S (B true) S := by
  have pC := fun S => ADet.lessT (.cons (.refl _) (.cons (.p (.nil 2)) (.refl _))) (programC 300 (by omega) _ exQ exQ_parse exQ_deep S)
  have li : LeA (.agg [U 1, Sg emS, nilS]) (tyV i9) := .agg (.cons (.refl _) (.cons (.refl _) (.cons (.p (.nil 3)) (.refl _))))
  have ln : ∀ s, LeA (.agg [U 4, Sg s, nilS]) (tyV (n9 s)) := fun s => .agg (.cons (.refl _) (.cons (.refl _) (.cons (.p (.nil 3)) (.refl _))))
  have wI := fun k S => ADet.sub (.cons (.refl _) (.cons li (.refl _))) (wrap09C k i9 S)
  have wW := fun k t S => wrap09C k t S
  have c6 := w9_sm 6 i9_sm
  have a1 := fun S => as09C exQ exQ_sm (w9 5 i9) (w9_sm 5 i9_sm) 60 true true (by kernel_rfl) (by kernel_rfl) S
  have a2 := fun S => as09C exQ exQ_sm (w9 6 i9) c6 60 true false (by kernel_rfl) (by kernel_rfl) S
  have a3 := fun S => as09C exQ exQ_sm (w9 7 i9) (w9_sm 7 i9_sm) 60 false false (by kernel_rfl) (by kernel_rfl) S
  have a4 := fun S => as09C exQ exQ_sm (w9 8 (w9 6 i9)) (w9_sm 8 c6) 60 false false (by kernel_rfl) (by kernel_rfl) S
  have a5 := fun S => as09C exQ exQ_sm (w9 8 (w9 9 (w9 6 i9))) (w9_sm 8 (w9_sm 9 c6)) 60 true true (by kernel_rfl) (by kernel_rfl) S
  have a6 := fun S => as09C exQ exQ_sm (w9 9 (w9 7 i9)) (w9_sm 9 (w9_sm 7 i9_sm)) 60 false false (by kernel_rfl) (by kernel_rfl) S
  have a7 := fun S => as09C exQ exQ_sm (w9 13 (w9 6 i9)) (w9_sm 13 c6) 60 false false (by kernel_rfl) (by kernel_rfl) S
  have a8 := fun S => as09C exQ exQ_sm (w9 14 (w9 6 i9)) (w9_sm 14 c6) 60 true false (by kernel_rfl) (by kernel_rfl) S
  have a9 := fun S => ADet.sub (.cons (.refl _) (.cons (ln _) (.refl _))) (as09C exQ exQ_sm (n9 (⟨#[76]⟩ : ByteArray)) (n9_sm _) 60 true true (by kernel_rfl) (by kernel_rfl) S)
  have a10 := fun S => as09C exQ exQ_sm (w9 11 (w9 6 i9)) (w9_sm 11 c6) 60 true true (by kernel_rfl) (by kernel_rfl) S
  have a11 := fun S => ADet.sub (.cons (.refl _) (.cons (ln _) (.refl _))) (as09C exQ exQ_sm (n9 (⟨#[65]⟩ : ByteArray)) (n9_sm _) 60 false false (by kernel_rfl) (by kernel_rfl) S)
  have a12 := fun S => ADet.sub (.cons (.refl _) (.cons (ln _) (.refl _))) (as09C exQ exQ_sm (n9 (⟨#[77]⟩ : ByteArray)) (n9_sm _) 60 false false (by kernel_rfl) (by kernel_rfl) S)
  have wC := fun S => wW 9 (w9 6 i9) S
  have w8 := fun S => wW 8 (w9 6 i9) S
  have w89 := fun S => wW 8 (w9 9 (w9 6 i9)) S
  have w97 := fun S => wW 9 (w9 7 i9) S
  have w13 := fun k S => wW k (w9 6 i9) S
  simp only [tyV, mk_kind9, mk_name9, mk_args9, tyEnc, List.map_cons, List.map_nil] at wI wC w8 w89 w97 w13 a1 a2 a3 a4 a5 a6 a7 a8 a9 a10 a11 a12
  clear wW
  refine ADet.intro mixed Tryz.call22 Tryz.func22 rfl ?_
  simp [Tryz.ntmps22]
  refine ⟨_, _, pC _, ?_⟩
  simp
  refine ⟨_, _, wI _ _, ?_⟩
  simp
  refine awp_draw [(4, 6), (17, 19), (24, 26), (31, 33), (31, 34), (39, 41), (39, 42)] (by kernel_rfl) (by kernel_rfl) ?_
  simp
  refine ⟨_, _, wI _ _, ?_⟩
  simp
  refine ⟨_, _, a1 _, ?_⟩
  simp
  refine ⟨_, _, a2 _, ?_⟩
  simp
  refine ⟨_, _, wI _ _, ?_⟩
  simp
  refine ⟨_, _, a3 _, ?_⟩
  simp
  refine ⟨_, _, w8 _, ?_⟩
  simp
  refine ⟨_, _, a4 _, ?_⟩
  simp
  refine ⟨_, _, wC _, ?_⟩
  simp
  refine ⟨_, _, w89 _, ?_⟩
  simp
  refine ⟨_, _, a5 _, ?_⟩
  simp
  refine ⟨_, _, wI _ _, ?_⟩
  simp
  refine ⟨_, _, w97 _, ?_⟩
  simp
  refine ⟨_, _, a6 _, ?_⟩
  simp
  refine awp_draw [(0, 2), (6, 8), (19, 21)] (by kernel_rfl) (by kernel_rfl) ?_
  simp
  refine ⟨_, _, w13 _ _, ?_⟩
  simp
  refine ⟨_, _, a7 _, ?_⟩
  simp
  refine ⟨_, _, w13 _ _, ?_⟩
  simp
  refine ⟨_, _, a8 _, ?_⟩
  simp
  refine ⟨_, _, a9 _, ?_⟩
  simp
  refine ⟨_, _, w13 _ _, ?_⟩
  simp
  refine ⟨_, _, a10 _, ?_⟩
  simp
  refine ⟨_, _, a11 _, ?_⟩
  simp
  refine ⟨_, _, a12 _, ?_⟩
  simp
end Go.Proofs.YtnblhbpfgdjnkaaGreatDoor
