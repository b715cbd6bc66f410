/- A part of the proof. The statement is proved in the claim's last text. -/
import Derived.Test.YtlclonljdagpkaaGreatDoorQMNp
import Derived.Test.YtlclonljdagpkaaGreatDoorQNQk
set_option linter.unusedVariables false
set_option linter.unusedSimpArgs false
set_option maxRecDepth 100000
set_option maxHeartbeats 32000000
namespace Go.Proofs.YtlclonljdagpkaaGreatDoor
open Go.RowKit
theorem zBq {c : Prop} (h : c) {α : Type} {d : Decidable c} (a b : α) : @ite α c d a b = a:=if_pos h
theorem zBl {c : Prop} (h : ¬ c) {α : Type} {d : Decidable c} (a b : α) : @ite α c d a b = b:=if_neg h
theorem zJG (p : List It) (op : Int) (name second : ByteArray) (names : List ByteArray) (ty : Ty) (int : Int) (pl : Pl) (es : List Ex) (b el : List St) (ar : List Ar) (pos : Int) (σ : Nf) : (St.mk op name second names ty int pl es b el ar pos).nm p σ =
  if op = 1 then Nf.mkS [name] pos (σ.add (es.flatMap (Ex.nm p σ.made)))
  else if op = 2 then Nf.mkS names pos ((σ.add (es.flatMap (Ex.nm p σ.made))).add (zI (zIu p name names.length) 60 pos))
  else if op = 3 then ((σ.add (es.flatMap (Ex.nm p σ.made))).add (zI (mIs σ.made pl.name) 60 pos),[])
  else if op = 5 then ((σ.add (es.flatMap (Ex.nm p σ.made))).add (zI (mIs σ.made name) 60 pos),[])
  else if op = 12 then Nf.mkS [name,second] pos ((σ.add (es.flatMap (Ex.nm p σ.made))).add (ty.nm p pos))
  else if op = 8 then (ar.foldl (fun σ a=>a.nm p pos σ) ((σ.add (es.flatMap (Ex.nm p σ.made))).add (zI (mIs σ.made name && zDn p second (ar.map armF)) 60 pos)),[])
  else if op = 10 then
   (⟨σ.made,σ.count,σ.opn,(zBQ p b pos names ((σ.fl ++ es.flatMap (Ex.nm p σ.made)) ++ zI (decide (0 < σ.opn)) 61 pos)).fl ++ zI (decide ((zBQ p b pos names ((σ.fl ++ es.flatMap (Ex.nm p σ.made)) ++ zI (decide (0 < σ.opn)) 61 pos)).count <= 60)) 4 pos⟩,[])
  else if op = 9 then
   ((fun (g : Nf)=>(⟨g.made,g.count,g.opn - 1,g.fl⟩ : Nf)) (zy p b pos [] ⟨σ.made,σ.count,σ.opn + 1,σ.fl ++ es.flatMap (Ex.nm p σ.made)⟩),[])
  else if op = 11 then (zy p b pos [name] ((σ.add (es.flatMap (Ex.nm p σ.made))).add (zI (mIs σ.made pl.name) 60 pos)),[])
  else (zy p el pos [] (zy p b pos [] (σ.add (es.flatMap (Ex.nm p σ.made)))),[]):=stNm p (St.mk op name second names ty int pl es b el ar pos) σ
def zG (g : Int -> Int) (f : Flt) : Flt:=(f.1,g f.2)
def Nf.atm (g : Int -> Int) (σ : Nf) : Nf:=⟨σ.made,σ.count,σ.opn,σ.fl.map (zG g)⟩
section
variable (g : Int -> Int) (p : List It)
abbrev pG : List It:=p.map (It.atm g)
def StA (s : St) : Prop:=∀ σ : Nf,(s.atm g).nm (pG g p) (σ.atm g) = ((s.nm p σ).1.atm g,(s.nm p σ).2)
end
end Go.Proofs.YtlclonljdagpkaaGreatDoor
namespace Go.Proofs.YtlclonljdagpkaaGreatDoor
open Go.RowKit
section
variable (g : Int -> Int)
end
mutual
def zLf (a : Int) : Ex -> Bool
 | .mk _ _ _ _ _ l pos=>zMq a l || pos == a
def zMq (a : Int) : List Ex -> Bool
 | []=>false
 | e :: l=>zLf a e || zMq a l
end
mutual
def zQy (a : Int) : St -> Bool
 | .mk _ _ _ _ _ _ _ es b el ar pos=>es.any (zLf a) || (zQz a ar || (pos == a || (zGG a b || zGG a el)))
def zGG (a : Int) : List St -> Bool
 | []=>false
 | s :: l=>zQy a s || zGG a l
def zQz (a : Int) : List (ArOf St) -> Bool
 | []=>false
 | ⟨_,_,b⟩ :: l=>zGG a b || zQz a l
end
def zTd (a : Int) (x : It) : Bool:=x.pos == a || (x.body.any (zQy a) || zLf a x.ret)
def zZy (p : List It) (a : Int) : Bool:=p.any (zTd a)
section
variable {g : Int -> Int}
end
end Go.Proofs.YtlclonljdagpkaaGreatDoor
