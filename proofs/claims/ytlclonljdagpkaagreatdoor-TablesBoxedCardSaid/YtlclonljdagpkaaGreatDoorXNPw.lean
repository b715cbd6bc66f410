/- A part of the proof. The statement is proved in the claim's last text. -/
import Derived.Test.YtlclonljdagpkaaGreatDoorXNPu
set_option linter.unusedVariables false
set_option linter.unusedSimpArgs false
set_option maxRecDepth 100000
set_option maxHeartbeats 32000000
namespace Go.Proofs.YtlclonljdagpkaaGreatDoor
open Go.RowKit
attribute [local simp] List.replicate List.range List.range.loop resA resOne retA AV.cuts AV.cut AObj.cut trim wkR wkT wkL wkN wkNR wkNL wkM wkMR wkML virtL virtO virt_get markL markO markR_get rowA awpI_nil awpI_cons List.forall_mem_cons List.contains_cons List.contains_nil List.find? nextD_eq awpD_nil awpD_cons LCp LCl refL
def SgOk (l : List Tok) (k : Nat) (rd : RS → Option (Ex × RS)) : Prop:=∀ s e s',s.at_ ≤ l.length → rd s = some (e,s') → RdC 214 [I k] l s s' (exV e) ∧ s'.at_ ≤ l.length
structure XQ where
 e : Ex
 q : PV
 rw : List (List PV)
abbrev XQ.row (x : XQ) : List PV:=[pU x.e.op,pI x.e.int,pS x.e.name,pS x.e.second,pS x.e.place.name,x.q,.sl 8 x.rw,pI x.e.pos]
abbrev XQ.av (x : XQ) : List AV:=[U x.e.op,I x.e.int,Sg x.e.name,Sg x.e.second,Sg x.e.place.name,.p x.q,.p (.sl 8 x.rw),I x.e.pos]
def XQ.ok (x : XQ) : Prop:=LeP x.q (strs x.e.place.path) ∧ LeRows x.rw (x.e.args.map Ex.enc)
def XQ.of (e : Ex) : XQ:=⟨e,strs e.place.path,e.args.map Ex.enc⟩
def XQ.two (x : XQ) (op : Int) (r : Ex) (pos : Int) : XQ:=⟨ex0 op 0 emS [x.e,r] pos,.v (.slice none 0 0),[x.row,r.enc]⟩
def signsE (l : List Tok) (rd : RS → Option (Ex × RS)) (k : Nat) : Nat → XQ → RS → Option (XQ × RS)
 | 0,_,_=>none
 | n + 1,x,s =>
  if s.bad = true then some (x,s)
  else match l[s.at_]? with
   | none=>some (x,s)
   | some t=>match findK t.text (signsK k) with
    | none=>some (x,s)
    | some op=>match rd ⟨s.at_ + 1,s.bad,s.full⟩ with
     | none=>none
     | some (r,s1)=>if k = 3 then some (x.two op r t.pos,s1) else signsE l rd k n (x.two op r t.pos) s1
end Go.Proofs.YtlclonljdagpkaaGreatDoor
