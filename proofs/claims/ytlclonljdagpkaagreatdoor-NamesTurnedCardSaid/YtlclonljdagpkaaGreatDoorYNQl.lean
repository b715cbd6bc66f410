/- A part of the proof. The statement is proved in the claim's last text. -/
import Derived.Test.YtlclonljdagpkaaGreatDoorYMNp
import Derived.Test.YtlclonljdagpkaaGreatDoorYNQk
set_option linter.unusedVariables false
set_option linter.unusedSimpArgs false
set_option maxRecDepth 100000
set_option maxHeartbeats 32000000
namespace Go.Proofs.YtlclonljdagpkaaGreatDoor
open Go.RowKit
theorem ite_y {c : Prop} (h : c) {α : Type} {d : Decidable c} (a b : α) : @ite α c d a b = a:=if_pos h
theorem ite_n {c : Prop} (h : ¬ c) {α : Type} {d : Decidable c} (a b : α) : @ite α c d a b = b:=if_neg h
theorem stNmk (p : List It) (op : Int) (name second : ByteArray) (names : List ByteArray) (ty : Ty) (int : Int) (pl : Pl) (es : List Ex) (b el : List St) (ar : List Ar) (pos : Int) (σ : Nf) : (St.mk op name second names ty int pl es b el ar pos).nm p σ =
  if op = 1 then Nf.mkS [name] pos (σ.add (es.flatMap (Ex.nm p σ.made)))
  else if op = 2 then Nf.mkS names pos ((σ.add (es.flatMap (Ex.nm p σ.made))).add (wrongL (takeB p name names.length) 60 pos))
  else if op = 3 then ((σ.add (es.flatMap (Ex.nm p σ.made))).add (wrongL (mIs σ.made pl.name) 60 pos),[])
  else if op = 5 then ((σ.add (es.flatMap (Ex.nm p σ.made))).add (wrongL (mIs σ.made name) 60 pos),[])
  else if op = 12 then Nf.mkS [name,second] pos ((σ.add (es.flatMap (Ex.nm p σ.made))).add (ty.nm p pos))
  else if op = 8 then (ar.foldl (fun σ a=>a.nm p pos σ) ((σ.add (es.flatMap (Ex.nm p σ.made))).add (wrongL (mIs σ.made name && matchN p second (ar.map armF)) 60 pos)),[])
  else if op = 10 then
   (⟨σ.made,σ.count,σ.opn,(spawnN p b pos names ((σ.fl ++ es.flatMap (Ex.nm p σ.made)) ++ wrongL (decide (0 < σ.opn)) 61 pos)).fl ++ wrongL (decide ((spawnN p b pos names ((σ.fl ++ es.flatMap (Ex.nm p σ.made)) ++ wrongL (decide (0 < σ.opn)) 61 pos)).count ≤ 60)) 4 pos⟩,[])
  else if op = 9 then
   ((fun (g : Nf)=>(⟨g.made,g.count,g.opn - 1,g.fl⟩ : Nf)) (blockN p b pos [] ⟨σ.made,σ.count,σ.opn + 1,σ.fl ++ es.flatMap (Ex.nm p σ.made)⟩),[])
  else if op = 11 then (blockN p b pos [name] ((σ.add (es.flatMap (Ex.nm p σ.made))).add (wrongL (mIs σ.made pl.name) 60 pos)),[])
  else (blockN p el pos [] (blockN p b pos [] (σ.add (es.flatMap (Ex.nm p σ.made)))),[]):=stNm p (St.mk op name second names ty int pl es b el ar pos) σ
def zG (g : Int → Int) (f : Flt) : Flt:=(f.1,g f.2)
def Nf.atm (g : Int → Int) (σ : Nf) : Nf:=⟨σ.made,σ.count,σ.opn,σ.fl.map (zG g)⟩
section
variable (g : Int → Int) (p : List It)
abbrev pG : List It:=p.map (It.atm g)
def StA (s : St) : Prop:=∀ σ : Nf,(s.atm g).nm (pG g p) (σ.atm g) = ((s.nm p σ).1.atm g,(s.nm p σ).2)
end
end Go.Proofs.YtlclonljdagpkaaGreatDoor
namespace Go.Proofs.YtlclonljdagpkaaGreatDoor
open Go.RowKit
section
variable (g : Int → Int)
end
mutual
def insideB (a : Int) : Ex → Bool
 | .mk _ _ _ _ _ l pos=>insidesB a l || pos == a
def insidesB (a : Int) : List Ex → Bool
 | []=>false
 | e :: l=>insideB a e || insidesB a l
end
mutual
def withinB (a : Int) : St → Bool
 | .mk _ _ _ _ _ _ _ es b el ar pos=>es.any (insideB a) || (withinA a ar || (pos == a || (withinsB a b || withinsB a el)))
def withinsB (a : Int) : List St → Bool
 | []=>false
 | s :: l=>withinB a s || withinsB a l
def withinA (a : Int) : List (ArOf St) → Bool
 | []=>false
 | ⟨_,_,b⟩ :: l=>withinsB a b || withinA a l
end
def placedIt (a : Int) (x : It) : Bool:=x.pos == a || (x.body.any (withinB a) || insideB a x.ret)
def placedP (p : List It) (a : Int) : Bool:=p.any (placedIt a)
section
variable {g : Int → Int}
end
end Go.Proofs.YtlclonljdagpkaaGreatDoor
