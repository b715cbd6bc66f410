/- 5 texts of this proof, one behind the other: TyP TyA TyB BGreatT TyL. The statement is proved in the claim's last text. -/
import Derived.Test.YtnblhbpfgdjnkaaGreatDoorTTa
import Derived.Test.YtnblhbpfgdjnkaaGreatDoorTRoom
import Derived.Test.YtnblhbpfgdjnkaaGreatDoorTTi
import Derived.Test.YtnblhbpfgdjnkaaGreatDoorTCp
import Derived.Test.YtnblhbpfgdjnkaaGreatDoorTLt
import Derived.Test.YtnblhbpfgdjnkaaGreatDoorTWp
namespace Go.Proofs.YtnblhbpfgdjnkaaGreatDoor
open Go.RowKit
set_option linter.unusedVariables false

def fieldsT (p : List It) (nm : ByteArray) : Option (List Fi) :=
  match firstIt p nm with
  | some x => if x.kind = 1 ∨ x.kind = 2 then some x.fields else none
  | none => none
def struct1T (p : List It) (nm : ByteArray) : Option (List Fi) :=
  match firstIt p nm with
  | some x => if x.kind = 1 then some x.fields else none
  | none => none
def fieldT1 (l : List Fi) (s : ByteArray) : Option (Ty × Bool) := (l.find? fun f => sEq f.name s).map fun f => (f.type, false)
def ptrT (closed : Bool) (t : Ty) (s : ByteArray) : Option (Ty × Bool) :=
  if sEq s starS = true then (t.args.head?).map fun u => (u, closed) else none
def stepT (p : List It) (t : Ty) (s : ByteArray) : Option (Ty × Bool) :=
  if t.kind = 4 then fieldT1 ((struct1T p t.name).getD []) s
  else if t.kind = 7 ∨ t.kind = 8 ∨ t.kind = 13 then ptrT true t s
  else if t.kind = 5 ∨ t.kind = 14 then ptrT false t s
  else none
def walkF (p : List It) : List ByteArray → Ty → Bool → Option (Ty × Bool)
  | [], t, w => some (t, w)
  | s :: l, t, w =>
    match stepT p t s with
    | none => none
    | some (u, c) => walkF p l u (w && !c)
def walkT (p : List It) (t : Ty) (l : List ByteArray) : Option (Ty × Bool) := if t.whole 40 = true then walkF p l t true else none
theorem first_sm {p : List It} (h : PrSm p) {nm : ByteArray} {x : It} (hx : firstIt p nm = some x) : ItSm x := h.2 x (List.mem_of_find?_eq_some hx)
end Go.Proofs.YtnblhbpfgdjnkaaGreatDoor

namespace Go.Proofs.YtnblhbpfgdjnkaaGreatDoor
open Go.RowKit
attribute [local simp] List.replicate List.range List.range.loop resA resOne retA AV.cuts AV.cut AObj.cut trim wkR wkT wkL wkN wkNR wkNL wkM wkMR wkML
set_option linter.unusedVariables false
set_option linter.unusedSimpArgs false

def fiO : Option (List Fi) → AV
  | some l => .p (.sl 4 (l.map Fi.enc))
  | none => nilS
set_option maxRecDepth 100000 in
set_option maxHeartbeats 8000000 in
theorem tabFieldsC (p : List It) (hp : PrSm p) (nm : ByteArray) (S : ASt) : ADet Tryz.prog 48 [.agg [.p (prog p)], Sg nm] S (.tup [fiO (fieldsT p nm), B (fieldsT p nm).isSome]) S := by
  have fC := fun S => firstC p nm S
  unfold firstR at fC
  unfold fieldsT
  refine ADet.intro mixed Tryz.call48 Tryz.func48 rfl ?_
  simp [Tryz.ntmps48]
  refine ⟨_, _, fC _, ?_⟩
  cases hx : firstIt p nm with
  | none => simp [fiO]
  | some x =>
    have cC := fun S => copyPC [x] ⟨by simp, fun y hy => by simp at hy; subst hy; exact first_sm hp hx⟩ S
    simp only [prog, List.map_cons, List.map_nil, It.enc] at cC
    have hsub := fun (d i : Nat) S => ADet.sub (.cons (.agg (.cons (.osl (d := d) (i := i) (.refl _)) (.refl _))) (.refl _)) (cC S)
    by_cases h1 : x.kind = 1
    · simp [h1]
      rw [h1] at hsub
      refine ⟨_, _, hsub _ _ _, ?_⟩
      simp [fiO]
    · have h1' : (x.kind != 1) = true := by simpa using h1
      by_cases h2 : x.kind = 2
      · simp [h2]
        rw [h2] at hsub
        refine ⟨_, _, hsub _ _ _, ?_⟩
        simp [fiO]
      · have h2' : (x.kind != 2) = true := by simpa using h2
        simp [h1, h2, h1', h2', fiO]
/-- a type's zero value -/
abbrev tyZ : AV := .agg [U 0, Sg emS, nilS]
def stepR : Option (Ty × Bool) → AV
  | some (u, c) => .tup [tyV u, B c, B true]
  | none => .tup [tyZ, B false, B false]
end Go.Proofs.YtnblhbpfgdjnkaaGreatDoor

namespace Go.Proofs.YtnblhbpfgdjnkaaGreatDoor
open Go.RowKit
attribute [local simp] List.replicate List.range List.range.loop resA resOne retA AV.cuts AV.cut AObj.cut trim wkR wkT wkL wkN wkNR wkNL wkM wkMR wkML virtL virtO virt_get markL markO markR_get rowA awpI_nil awpI_cons List.forall_mem_cons List.contains_cons List.contains_nil List.find? nextD_eq awpD_nil awpD_cons LCp LCl refL
set_option linter.unusedVariables false
set_option linter.unusedSimpArgs false

/-- what Walk and way have laid, while a way is gone -/
def wayL (p : List It) (l : List ByteArray) (u : Ty) (w : Bool) (tw : Ty) : List AObj := [.cells [.p (prog p)] 24, .cells [U u.kind, Sg u.name, .p (.sl 3 (u.args.map Ty.enc))] 27, .cells [U 0, Sg emS, nilS] 27, .cells [B false] 4, .cells [B false] 4, .cells [B w] 4,
  .cells [.p (prog p)] 24, .cells [U tw.kind, Sg tw.name, .p (.sl 3 (tw.args.map Ty.enc))] 27, .cells [.p (strs l)] 28]
/-- where a way was left, that leads nowhere -/
def walkLast (p : List It) : List ByteArray → Ty → Bool → Ty × Bool
  | [], t, w => (t, w)
  | s :: l, t, w =>
    match stepT p t s with
    | none => (t, w)
    | some (u, c) => walkLast p l u (w && !c)
def jOf : Option (Ty × Bool) → Option Code
  | some _ => none
  | none => some .ret
def walkR : Option (Ty × Bool) → AV
  | some (u, w) => .tup [tyV u, B w, B true]
  | none => .tup [tyZ, B false, B false]
end Go.Proofs.YtnblhbpfgdjnkaaGreatDoor

namespace Go.Proofs.YtnblhbpfgdjnkaaGreatDoor
open Go.RowKit
attribute [local simp] List.replicate List.range List.range.loop resA resOne retA
set_option linter.unusedVariables false
set_option linter.unusedSimpArgs false

set_option maxRecDepth 100000 in
set_option maxHeartbeats 1000000 in
theorem greatTypeC (t : Ty) (S : ASt) : ADet Tryz.prog 16 [tyV t] S (B (decide (t.room 20000 < 0))) S := by
  refine ADet.intro mixed Tryz.call16 Tryz.func16 rfl ?_
  simp [Tryz.ntmps16]
  refine ⟨_, _, typeC t _ 0 1 20000 (by simp [get2_zero, rm]) (by omega) (by omega), ?_⟩
  simp [rm]
end Go.Proofs.YtnblhbpfgdjnkaaGreatDoor

namespace Go.Proofs.YtnblhbpfgdjnkaaGreatDoor
open Go.RowKit
attribute [local simp] List.replicate List.range List.range.loop resA resOne retA AV.cuts AV.cut AObj.cut trim wkR wkT wkL wkN wkNR wkNL wkM wkMR wkML
set_option linter.unusedVariables false
set_option linter.unusedSimpArgs false

def Ty.copied (t : Ty) : Bool := decide (t.kind = 1 ∨ t.kind = 2 ∨ t.kind = 3 ∨ t.kind = 13)
/-- is it more than is gone through? -/
def long08 (p : List It) (t : Ty) (l : List ByteArray) : Bool := great p || (decide (t.room 20000 < 0) || (decide (100 < l.length) || l.any fun s => decide (200 < s.size)))
end Go.Proofs.YtnblhbpfgdjnkaaGreatDoor
