/- A part of the proof. The statement is proved in the claim's last text. -/
import Derived.Test.YtfbpibkpmcceaaaGreatDoorYMRoom
import Derived.Test.YtfbpibkpmcceaaaGreatDoorYMWp
set_option linter.unusedVariables false
set_option linter.unusedSimpArgs false
set_option maxRecDepth 100000
set_option maxHeartbeats 32000000
namespace Go.Proofs.YtfbpibkpmcceaaaGreatDoor
open Go.RowKit
attribute [local simp] List.replicate List.range List.range.loop resA resOne retA AV.cuts AV.cut AObj.cut trim wkR wkT wkL wkN wkNR wkNL wkM wkMR wkML virtL virtO virt_get markL markO markR_get rowA awpI_nil awpI_cons List.forall_mem_cons List.contains_cons List.contains_nil List.find? nextD_eq awpD_nil awpD_cons LCp LCl refL
theorem take_row {α β : Type} (f : α → β) (l : List α) {q : Nat} (h : q < l.length) : (l.map f).take q ++ [f l[q]] = (l.map f).take (q + 1):=by
 rw [List.take_succ_eq_append_getElem (by simpa using h)]; simp
def CpC (l : List St) : Prop:=∀ S,ADet Tryz.prog 32 [.p (.sl 15 (l.map St.enc)),B true] S (.p (.sl 15 (l.map St.enc))) S
abbrev stW (s : St) (n x a : AV) : List AV:=[U s.op,Sg s.name,Sg s.second,n,U s.type.kind,Sg s.type.name,.p (.sl 3 (s.type.args.map Ty.enc)),I s.int,Sg s.place.name,.p (strs s.place.path),x,.p (.sl 15 (s.body.map St.enc)),.p (.sl 15 (s.els.map St.enc)),a,I s.pos]
abbrev itW (x : It) (f : AV) (t : Ty) (b : AV) (e : Ex) : List AV:=[U x.kind,Sg x.name,f,U t.kind,Sg t.name,.p (.sl 3 (t.args.map Ty.enc)),b,U e.op,I e.int,Sg e.name,Sg e.second,Sg e.place.name,.p (strs e.place.path),.p (.sl 8 (e.args.map Ex.enc)),I e.pos,I x.pos]
abbrev exsV (l : List Ex) : AV:=.p (.sl 8 (l.map Ex.enc))
abbrev stsV (l : List St) : AV:=.p (.sl 15 (l.map St.enc))
abbrev fisV (l : List Fi) : AV:=.p (.sl 4 (l.map Fi.enc))
def SmeE (l : List Ex) : Prop:=∀ S,ADet Tryz.prog 72 [exsV l,exsV l,B true] S (B true) S
def SmeS (l : List St) : Prop:=∀ S,ADet Tryz.prog 49 [stsV l,stsV l,B true] S (B true) S
end Go.Proofs.YtfbpibkpmcceaaaGreatDoor
