/- A part of the proof. -/
import Derived.Test.YtdflkegnmmkkoaaGreatDoorWMNp
import Derived.Test.YtdflkegnmmkkoaaGreatDoorWNQk
set_option linter.unusedVariables false
set_option linter.unusedSimpArgs false
set_option maxRecDepth 100000
set_option maxHeartbeats 32000000
namespace Go.Proofs.YtdflkegnmmkkoaaGreatDoor
open Go.RowKit
theorem zKM{c:Prop}(h:c){α:Type}{d:Decidable c}(a b:α): @ite α c d a b=a:=if_pos h
theorem zKN{c:Prop}(h:¬c){α:Type}{d:Decidable c}(a b:α): @ite α c d a b=b:=if_neg h
theorem zVG(p:List It)(op:Int)(name second:BA)(names:List BA)(ty:Ty)(int:Int)(pl:Pl)(es:List Ex)(b el:List St)(ar:List Ar)(pos:Int)(σ:Nf):(St.mk op name second names ty int pl es b el ar pos).nm p σ=
  if op=1 then Nf.mkS [name] pos (σ.add (es.flatMap (Ex.nm p σ.made)))
  else if op=2 then Nf.mkS names pos ((σ.add (es.flatMap (Ex.nm p σ.made))).add (zI (zH6 p name names.length) 60 pos))
  else if op=3 then((σ.add (es.flatMap (Ex.nm p σ.made))).add (zI (mIs σ.made pl.name) 60 pos),[])
  else if op=5 then((σ.add (es.flatMap (Ex.nm p σ.made))).add (zI (mIs σ.made name) 60 pos),[])
  else if op=12 then Nf.mkS [name,second] pos ((σ.add (es.flatMap (Ex.nm p σ.made))).add (ty.nm p pos))
  else if op=8 then(ar.foldl (fun σ a=>a.nm p pos σ) ((σ.add (es.flatMap (Ex.nm p σ.made))).add (zI (mIs σ.made name&&zEe p second (ar.map armF)) 60 pos)),[])
  else if op=10 then
   (⟨σ.made,σ.count,σ.opn,(zCa p b pos names ((σ.fl++es.flatMap (Ex.nm p σ.made))++zI (decide (0<σ.opn)) 61 pos)).fl++zI (decide ((zCa p b pos names ((σ.fl++es.flatMap (Ex.nm p σ.made))++zI (decide (0<σ.opn)) 61 pos)).count<=60)) 4 pos⟩,[])
  else if op=9 then
   ((fun(g:Nf)=>(⟨g.made,g.count,g.opn-1,g.fl⟩:Nf)) (zAB p b pos [] ⟨σ.made,σ.count,σ.opn+1,σ.fl++es.flatMap (Ex.nm p σ.made)⟩),[])
  else if op=11 then(zAB p b pos [name] ((σ.add (es.flatMap (Ex.nm p σ.made))).add (zI (mIs σ.made pl.name) 60 pos)),[])
  else(zAB p el pos [] (zAB p b pos [] (σ.add (es.flatMap (Ex.nm p σ.made)))),[]):=stNm p (St.mk op name second names ty int pl es b el ar pos) σ
def zG(g:Int->Int)(f:Flt):Flt:=(f.1,g f.2)
def Nf.atm(g:Int->Int)(σ:Nf):Nf:=⟨σ.made,σ.count,σ.opn,σ.fl.map (zG g)⟩
section
variable(g:Int->Int)(p:List It)
end
end Go.Proofs.YtdflkegnmmkkoaaGreatDoor
namespace Go.Proofs.YtdflkegnmmkkoaaGreatDoor
open Go.RowKit
section
variable(g:Int->Int)
end
section
variable{g:Int->Int}
end
end Go.Proofs.YtdflkegnmmkkoaaGreatDoor
