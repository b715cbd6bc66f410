/- A part of the proof. The statement is proved in the claim's last text. -/
import Derived.Test.YtlclonljdagpkaaGreatDoorXNQh
import Derived.Test.YtlclonljdagpkaaGreatDoorXNPt
set_option linter.unusedVariables false
set_option linter.unusedSimpArgs false
set_option maxRecDepth 100000
set_option maxHeartbeats 32000000
namespace Go.Proofs.YtlclonljdagpkaaGreatDoor
open Go.RowKit
attribute [local simp] List.replicate List.range List.range.loop resA resOne retA virtL virtO virt_get markL markO markR_get rowA awpI_nil awpI_cons List.forall_mem_cons List.contains_cons List.contains_nil List.find? nextD_eq awpD_nil awpD_cons LCp LCl refL
abbrev stP (st : St) (pos : Int) : AV:=.agg [U st.op,Sg st.name,Sg st.second,.p (strs st.names),U st.type.kind,Sg st.type.name,.p (.sl 3 (st.type.args.map Ty.enc)),I st.int,Sg st.place.name,.p (strs st.place.path),.p (.sl 8 (st.exprs.map Ex.enc)),.p (.sl 15 (st.body.map St.enc)),.p (.sl 15 (st.els.map St.enc)),.p (.sl 3 (st.arms.map Ar.enc)),I pos]
def WordF (w : ByteArray) (K : Nat) : Prop:=∀ d i : Nat,∃ j,mapFind .string (.string w) ((startK d i).map fun x=>(.string x.1,.fn (.func x.2) [.ptr d i 0] [])) 0 = some (some (j,.fn (.func K) [.ptr d i 0] []))
def AssignR (l : List Tok) (s s' : RS) : Option St → Prop
 | some st=>RdC 161 [] l s s' (.tup [.agg (stU st),B true])
 | none=>s' = s ∧ ∃ nm q pos,RdC 161 [] l s s (.tup [stAs nm (.p q) pos,B false])
def FirstR (l : List Tok) (s s' : RS) : Option St → Prop
 | some st=>RdC 160 [] l s s' (.tup [.agg (stU st),B true])
 | none=>s' = s ∧ RdC 160 [] l s s (.tup [stZ,B false])
def KOk (l : List Tok) (K : Nat) (rd : RS → Option (St × RS)) : Prop:=∀ s st s',s.at_ ≤ l.length → rd s = some (st,s') → RdC K [] l s s' (.agg (stU st)) ∧ s'.at_ ≤ l.length
end Go.Proofs.YtlclonljdagpkaaGreatDoor
namespace Go.Proofs.YtlclonljdagpkaaGreatDoor
open Go.RowKit
attribute [local simp] List.replicate List.range List.range.loop resA resOne retA AV.cuts AV.cut AObj.cut trim wkR wkT wkL wkN wkNR wkNL wkM wkMR wkML
def StepR (l : List Tok) (s s' : RS) : Option St → Prop
 | some st=>RdC 160 [] l s s' (.tup [.agg (stU st),B true]) ∨ (RdC 160 [] l s s (.tup [stZ,B false]) ∧ RdC 161 [] l s s' (.tup [.agg (stU st),B true]))
 | none=>s' = s ∧ RdC 160 [] l s s (.tup [stZ,B false]) ∧ ∃ nm q pos,RdC 161 [] l s s (.tup [stAs nm (.p q) pos,B false])
structure XS where
 acc : List St
 rw : List (List PV)
def XS.ok (x : XS) : Prop:=LeRows x.rw (x.acc.map St.enc)
abbrev nilQv : PV:=.v (.slice none 0 0)
abbrev rowE (e : Ex) (pos : Int) : List PV:=[pU 4,pS emS,pS emS,nilQv,pU 0,pS emS,nilQv,pI 0,pS emS,nilQv,.sl 8 [e.enc],nilQv,nilQv,nilQv,pI pos]
def XS.add (x : XS) (st : St) : XS:=⟨x.acc ++ [st],x.rw ++ [st.enc]⟩
def XS.addE (x : XS) (e : Ex) (pos : Int) : XS:=⟨x.acc ++ [(st0 4 emS emS [e] [] []).at pos],x.rw ++ [rowE e pos]⟩
theorem leRows_len {a b : List (List PV)} (h : LeRows a b) : a.length = b.length:=by
 induction a generalizing b with
 | nil=>cases h; rfl
 | cons x a ih =>
  cases h with
  | refl=>rfl
  | cons h1 h2=>rw [List.length_cons,List.length_cons,ih h2]
theorem XS.len {x : XS} (h : x.ok) : x.rw.length = x.acc.length:=by rw [leRows_len h,List.length_map]
def innerE (l : List Tok) : Nat → XS → RS → Option (XS × RS)
 | 0,_,_=>none
 | n + 1,x,s =>
  if s.bad = true then some (x,s)
  else if isP l s (⟨#[125]⟩ : ByteArray) 0 = true then some (x,mayP l s (⟨#[125]⟩ : ByteArray))
  else match stepQ l n (strongQ l n 6) (innerQ l n []) s with
   | none=>none
   | some (some st,s1)=>innerE l n (x.add st) s1
   | some (none,s1)=>match strongQ l n 6 s1 with
    | none=>none
    | some (e,s2)=>innerE l n (x.addE e (placeP l s1)) (mustP l s2 [(⟨#[59]⟩ : ByteArray)])
abbrev anyS : AObj:=.cells [.any,.any,.any,.any,.any,.any,.any,.any,.any,.any,.any,.any,.any,.any,.any] 45
end Go.Proofs.YtlclonljdagpkaaGreatDoor
namespace Go.Proofs.YtlclonljdagpkaaGreatDoor
open Go.RowKit
attribute [local simp] List.replicate List.range List.range.loop resA resOne retA AV.cuts AV.cut AObj.cut trim wkR wkT wkL wkN wkNR wkNL wkM wkMR wkML virtL virtO virt_get markL markO markR_get rowA awpI_nil awpI_cons List.forall_mem_cons List.contains_cons List.contains_nil List.find? nextD_eq awpD_nil awpD_cons LCp LCl refL
def bodyE (l : List Tok) : Nat → XS → RS → Option (Option (XS × Ex) × RS)
 | 0,_,_=>none
 | n + 1,x,s =>
  if s.bad = true then some (none,s)
  else match stepQ l n (strongQ l n 6) (innerQ l n []) s with
   | none=>none
   | some (some st,s1)=>bodyE l n (x.add st) s1
   | some (none,s1)=>match strongQ l n 6 s1 with
    | none=>none
    | some (e,s2)=>if isP l s2 (⟨#[125]⟩ : ByteArray) 0 = true then some (some (x,e),s2) else bodyE l n (x.addE e (placeP l s1)) (mustP l s2 [(⟨#[59]⟩ : ByteArray)])
def bodyA : Option (XS × Ex) → List AV
 | none=>[nilS,exZ]
 | some (x,e)=>[.p (.sl 15 x.rw),exV e]
def BodyOk (b : List St) (e : Ex) : Option (XS × Ex) → Prop
 | none=>b = [] ∧ e = zeroX
 | some (x,e1)=>x.ok ∧ x.acc = b ∧ e1 = e
end Go.Proofs.YtlclonljdagpkaaGreatDoor
