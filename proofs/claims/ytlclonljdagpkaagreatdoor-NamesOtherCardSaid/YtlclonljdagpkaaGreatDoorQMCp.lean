/- A part of the proof. The statement is proved in the claim's last text. -/
import Derived.Test.YtlclonljdagpkaaGreatDoorQMRoom
import Derived.Test.YtlclonljdagpkaaGreatDoorQMWp
set_option linter.unusedVariables false
set_option linter.unusedSimpArgs false
set_option maxRecDepth 100000
set_option maxHeartbeats 32000000
namespace Go.Proofs.YtlclonljdagpkaaGreatDoor
open Go.RowKit
theorem zEB {α β : Type} (f : α -> β) (l : List α) {q : Nat} (h : q < l.length) : (l.map f).take q ++ [f l[q]] = (l.map f).take (q + 1):=by
 rw [List.take_succ_eq_append_getElem (by simpa using h)]; simp
end Go.Proofs.YtlclonljdagpkaaGreatDoor
namespace Go.Proofs.YtlclonljdagpkaaGreatDoor
open Go.RowKit
attribute [local simp] List.replicate List.range List.range.loop resA zR retA AV.cuts AV.cut AObj.cut trim wkR wkT wkL wkN wkNR wkNL wkM wkMR wkML zAi zAZ zY zAj zAb zQ rowA zf zT List.forall_mem_cons List.contains_cons List.contains_nil List.find? ze zd zS LCp LCl refL
abbrev exsV (l : List Ex) : AV:=.p (.sl 8 (l.map Ex.enc))
abbrev stsV (l : List St) : AV:=.p (.sl 15 (l.map St.enc))
abbrev fisV (l : List Fi) : AV:=.p (.sl 4 (l.map Fi.enc))
def SmeE (l : List Ex) : Prop:=∀ S,ADet Tryz.prog 93 [exsV l,exsV l,B true] S (B true) S
def SmeS (l : List St) : Prop:=∀ S,ADet Tryz.prog 36 [stsV l,stsV l,B true] S (B true) S
end Go.Proofs.YtlclonljdagpkaaGreatDoor
