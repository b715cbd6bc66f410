/- A part of the proof. -/
import Derived.Test.YtdflkegnmmkkoaaGreatDoorXMLb
import Derived.Test.YtdflkegnmmkkoaaGreatDoorRows
set_option linter.unusedVariables false
set_option linter.unusedSimpArgs false
set_option maxRecDepth 100000
set_option maxHeartbeats 32000000
namespace Go.Proofs.YtdflkegnmmkkoaaGreatDoor
open Go.RowKit
variable{P:Program}{S:ASt}{fr:List AV}
set_option maxRecDepth 100000
theorem zXc:Tryz.prog.cellsOf 1=1:=by kernel_rfl
theorem zZ1:zAx Tryz.prog 1=some [Value.nilFunc]:=by kernel_rfl
theorem zXd:Tryz.prog.cellsOf 2=1:=by kernel_rfl
theorem zcI:(Tryz.prog.info? 2).isSome=true:=by kernel_rfl
theorem zXe:Tryz.prog.cellsOf 3=1:=by kernel_rfl
theorem zZ2:zAx Tryz.prog 3=some [Value.int IntKind.i64 0]:=by kernel_rfl
theorem zcJ:(Tryz.prog.info? 3).isSome=true:=by kernel_rfl
theorem zXf:Tryz.prog.cellsOf 4=1:=by kernel_rfl
theorem zZ3:zAx Tryz.prog 4=some [Value.bool false]:=by kernel_rfl
theorem zcK:(Tryz.prog.info? 4).isSome=true:=by kernel_rfl
theorem zXg:Tryz.prog.cellsOf 5=1:=by kernel_rfl
theorem zcL:(Tryz.prog.info? 5).isSome=true:=by kernel_rfl
theorem zXh:Tryz.prog.cellsOf 9=1:=by kernel_rfl
theorem zZ4:zAx Tryz.prog 9=some [Value.string {data:=#[]}]:=by kernel_rfl
theorem zcM:(Tryz.prog.info? 9).isSome=true:=by kernel_rfl
theorem zUA:Tryz.prog.cellsOf 22=1:=by kernel_rfl
theorem zZ5:(Tryz.prog.info? 22).isSome=true:=by kernel_rfl
theorem zXi:zAB Tryz.prog 22=45:=by kernel_rfl
theorem zZ6:zEg Tryz.prog 22 45 16=true:=by kernel_rfl
theorem zUB:Tryz.prog.cellsOf 24=1:=by kernel_rfl
theorem zXj:zAx Tryz.prog 24=some [Value.slice none 0 0]:=by kernel_rfl
theorem zZ7:(Tryz.prog.info? 24).isSome=true:=by kernel_rfl
theorem zUC:Tryz.prog.cellsOf 27=1:=by kernel_rfl
theorem zXk:zAx Tryz.prog 27=some [Value.slice none 0 0]:=by kernel_rfl
theorem zZ8:(Tryz.prog.info? 27).isSome=true:=by kernel_rfl
theorem zXl:zAB Tryz.prog 27=32:=by kernel_rfl
theorem zZ9:zEg Tryz.prog 27 32 2=true:=by kernel_rfl
theorem zUD:Tryz.prog.cellsOf 30=1:=by kernel_rfl
theorem zaA:(Tryz.prog.info? 30).isSome=true:=by kernel_rfl
theorem zUE:Tryz.prog.cellsOf 32=2:=by kernel_rfl
theorem zXm:zAx Tryz.prog 32=some [Value.int IntKind.i64 0,Value.int IntKind.i64 0]:=by kernel_rfl
theorem zaB:(Tryz.prog.info? 32).isSome=true:=by kernel_rfl
theorem zUF:Tryz.prog.cellsOf 33=1:=by kernel_rfl
theorem zaC:(Tryz.prog.info? 33).isSome=true:=by kernel_rfl
theorem zXn:zAB Tryz.prog 33=60:=by kernel_rfl
theorem zaD:zEg Tryz.prog 33 60 4=true:=by kernel_rfl
theorem zUG:Tryz.prog.cellsOf 34=1:=by kernel_rfl
theorem zaE:(Tryz.prog.info? 34).isSome=true:=by kernel_rfl
theorem zXo:zAB Tryz.prog 34=36:=by kernel_rfl
theorem zaF:zEg Tryz.prog 34 36 3=true:=by kernel_rfl
theorem zUH:Tryz.prog.cellsOf 36=3:=by kernel_rfl
theorem zXp:zAx Tryz.prog 36=some [Value.int IntKind.u8 0,Value.string {data:=#[]},Value.slice none 0 0]:=by kernel_rfl
theorem zaG:(Tryz.prog.info? 36).isSome=true:=by kernel_rfl
theorem zUI:Tryz.prog.cellsOf 37=1:=by kernel_rfl
theorem zXq:zAx Tryz.prog 37=some [Value.slice none 0 0]:=by kernel_rfl
theorem zaH:(Tryz.prog.info? 37).isSome=true:=by kernel_rfl
theorem zXr:zAB Tryz.prog 37=49:=by kernel_rfl
theorem zaI:zEg Tryz.prog 37 49 15=true:=by kernel_rfl
theorem zUJ:Tryz.prog.cellsOf 38=1:=by kernel_rfl
theorem zaJ:(Tryz.prog.info? 38).isSome=true:=by kernel_rfl
theorem zXs:zAB Tryz.prog 38=9:=by kernel_rfl
theorem zaK:zEg Tryz.prog 38 9 1=true:=by kernel_rfl
theorem zUK:Tryz.prog.cellsOf 40=2:=by kernel_rfl
theorem zXt:zAx Tryz.prog 40=some [Value.string {data:=#[]},Value.slice none 0 0]:=by kernel_rfl
theorem zaL:(Tryz.prog.info? 40).isSome=true:=by kernel_rfl
theorem zUL:Tryz.prog.cellsOf 41=1:=by kernel_rfl
theorem zaM:(Tryz.prog.info? 41).isSome=true:=by kernel_rfl
theorem zXu:zAB Tryz.prog 41=43:=by kernel_rfl
theorem zaN:zEg Tryz.prog 41 43 8=true:=by kernel_rfl
theorem zUM:Tryz.prog.cellsOf 43=8:=by kernel_rfl
theorem zXv:zAx Tryz.prog 43=some [Value.int IntKind.u8 0,Value.int IntKind.i64 0,Value.string {data:=#[]},Value.string {data:=#[]},Value.string {data:=#[]},Value.slice none 0 0,Value.slice none 0 0,Value.int IntKind.i64 0]:=by kernel_rfl
theorem zaO:(Tryz.prog.info? 43).isSome=true:=by kernel_rfl
theorem zUN:Tryz.prog.cellsOf 45=16:=by kernel_rfl
theorem zXw:zAx Tryz.prog 45=some [Value.int IntKind.u8 0,Value.string {data:=#[]},Value.slice none 0 0,Value.int IntKind.u8 0,Value.string {data:=#[]},Value.slice none 0 0,Value.slice none 0 0,Value.int IntKind.u8 0,Value.int IntKind.i64 0,Value.string {data:=#[]},Value.string {data:=#[]},Value.string {data:=#[]},Value.slice none 0 0,Value.slice none 0 0,Value.int IntKind.i64 0,Value.int IntKind.i64 0]:=by kernel_rfl
theorem zUO:Tryz.prog.cellsOf 47=1:=by kernel_rfl
theorem zaP:(Tryz.prog.info? 47).isSome=true:=by kernel_rfl
theorem zXx:zAB Tryz.prog 47=94:=by kernel_rfl
theorem zaQ:zEg Tryz.prog 47 94 3=true:=by kernel_rfl
theorem zUP:Tryz.prog.cellsOf 49=15:=by kernel_rfl
theorem zXy:zAx Tryz.prog 49=some [Value.int IntKind.u8 0,Value.string {data:=#[]},Value.string {data:=#[]},Value.slice none 0 0,Value.int IntKind.u8 0,Value.string {data:=#[]},Value.slice none 0 0,Value.int IntKind.i64 0,Value.string {data:=#[]},Value.slice none 0 0,Value.slice none 0 0,Value.slice none 0 0,Value.slice none 0 0,Value.slice none 0 0,Value.int IntKind.i64 0]:=by kernel_rfl
theorem zUQ:Tryz.prog.cellsOf 60=4:=by kernel_rfl
theorem zXz:zAx Tryz.prog 60=some [Value.string {data:=#[]},Value.int IntKind.u8 0,Value.string {data:=#[]},Value.slice none 0 0]:=by kernel_rfl
theorem zUR:Tryz.prog.cellsOf 68=1:=by kernel_rfl
theorem zX0:zAx Tryz.prog 68=some [Value.int IntKind.i64 0]:=by kernel_rfl
theorem zUS:Tryz.prog.cellsOf 74=1:=by kernel_rfl
theorem zX1:zAx Tryz.prog 74=some [Value.pointer none]:=by kernel_rfl
theorem zUT:Tryz.prog.cellsOf 76=2:=by kernel_rfl
theorem zX2:zAx Tryz.prog 76=some [Value.slice none 0 0,Value.slice none 0 0]:=by kernel_rfl
theorem zUU:Tryz.prog.cellsOf 82=1:=by kernel_rfl
theorem zUV:Tryz.prog.cellsOf 86=1:=by kernel_rfl
theorem zaR:(Tryz.prog.info? 86).isSome=true:=by kernel_rfl
theorem zUW:Tryz.prog.cellsOf 94=3:=by kernel_rfl
theorem zX3:zAx Tryz.prog 94=some [Value.string {data:=#[]},Value.string {data:=#[]},Value.slice none 0 0]:=by kernel_rfl
theorem zUX:Tryz.prog.cellsOf 95=1:=by kernel_rfl
theorem zaS:(Tryz.prog.info? 95).isSome=true:=by kernel_rfl
theorem zUY:Tryz.prog.cellsOf 96=1:=by kernel_rfl
theorem zaT:(Tryz.prog.info? 96).isSome=true:=by kernel_rfl
theorem zUZ:Tryz.prog.cellsOf 98=3:=by kernel_rfl
theorem zX4:zAx Tryz.prog 98=some [Value.map none,Value.map none,Value.slice none 0 0]:=by kernel_rfl
theorem zX5:zAB Tryz.prog 99=4:=by kernel_rfl
theorem zaU:zEg Tryz.prog 99 4 1=true:=by kernel_rfl
theorem zRD:Tryz.prog.cellsOf 103=1:=by kernel_rfl
theorem zUa:zAx Tryz.prog 103=some [Value.pointer none]:=by kernel_rfl
theorem zRE:Tryz.prog.cellsOf 106=1:=by kernel_rfl
theorem zUb:zAx Tryz.prog 106=some [Value.bool false]:=by kernel_rfl
theorem zRF:Tryz.prog.cellsOf 107=1:=by kernel_rfl
theorem zX6:(Tryz.prog.info? 107).isSome=true:=by kernel_rfl
theorem zRG:Tryz.prog.cellsOf 109=4:=by kernel_rfl
theorem zUc:zAx Tryz.prog 109=some [Value.pointer none,Value.map none,Value.int IntKind.i64 0,Value.int IntKind.i64 0]:=by kernel_rfl
theorem zRH:Tryz.prog.cellsOf 113=1:=by kernel_rfl
theorem zUd:zAx Tryz.prog 113=some [Value.slice none 0 0]:=by kernel_rfl
theorem zRI:Tryz.prog.cellsOf 116=2:=by kernel_rfl
theorem zUe:zAx Tryz.prog 116=some [Value.int IntKind.i64 0,Value.int IntKind.i64 0]:=by kernel_rfl
theorem zRJ:Tryz.prog.cellsOf 124=2:=by kernel_rfl
theorem zUf:zAx Tryz.prog 124=some [Value.int IntKind.u8 0,Value.int IntKind.u8 0]:=by kernel_rfl
theorem zX7:(Tryz.prog.info? 124).isSome=true:=by kernel_rfl
theorem zRK:Tryz.prog.cellsOf 125=22:=by kernel_rfl
theorem zUg:zAx Tryz.prog 125=some [Value.int IntKind.u8 0,Value.int IntKind.u8 0,Value.int IntKind.u8 0,Value.int IntKind.u8 0,Value.int IntKind.u8 0,Value.int IntKind.u8 0,Value.int IntKind.u8 0,Value.int IntKind.u8 0,Value.int IntKind.u8 0,Value.int IntKind.u8 0,Value.int IntKind.u8 0,Value.int IntKind.u8 0,Value.int IntKind.u8 0,Value.int IntKind.u8 0,Value.int IntKind.u8 0,Value.int IntKind.u8 0,Value.int IntKind.u8 0,Value.int IntKind.u8 0,Value.int IntKind.u8 0,Value.int IntKind.u8 0,Value.int IntKind.u8 0,Value.int IntKind.u8 0]:=by kernel_rfl
theorem zRL:Tryz.prog.cellsOf 132=1:=by kernel_rfl
theorem zUh:zAx Tryz.prog 132=some [Value.nilFunc]:=by kernel_rfl
theorem zRM:Tryz.prog.cellsOf 133=1:=by kernel_rfl
theorem zUi:zAx Tryz.prog 133=some [Value.nilFunc]:=by kernel_rfl
theorem zRN:Tryz.prog.cellsOf 134=1:=by kernel_rfl
theorem zUj:zAx Tryz.prog 134=some [Value.nilFunc]:=by kernel_rfl
theorem zRO:Tryz.prog.cellsOf 137=1:=by kernel_rfl
theorem zUk:zAx Tryz.prog 137=some [Value.nilFunc]:=by kernel_rfl
theorem zRP:Tryz.prog.cellsOf 140=1:=by kernel_rfl
theorem zUl:zAx Tryz.prog 140=some [Value.nilFunc]:=by kernel_rfl
theorem zRQ:Tryz.prog.cellsOf 142=1:=by kernel_rfl
theorem zUm:zAx Tryz.prog 142=some [Value.nilFunc]:=by kernel_rfl
theorem zRR:Tryz.prog.cellsOf 148=3:=by kernel_rfl
theorem zUn:zAx Tryz.prog 148=some [Value.bool false,Value.int IntKind.i64 0,Value.int IntKind.i64 0]:=by kernel_rfl
theorem zRS:Tryz.prog.cellsOf 158=1:=by kernel_rfl
theorem zX8:(Tryz.prog.info? 158).isSome=true:=by kernel_rfl
theorem zUo:zAB Tryz.prog 158=167:=by kernel_rfl
theorem zX9:zEg Tryz.prog 158 167 3=true:=by kernel_rfl
theorem zRT:Tryz.prog.cellsOf 164=4:=by kernel_rfl
theorem zUp:zAx Tryz.prog 164=some [Value.slice none 0 0,Value.int IntKind.i64 0,Value.bool false,Value.bool false]:=by kernel_rfl
theorem zRU:Tryz.prog.cellsOf 167=3:=by kernel_rfl
theorem zUq:zAx Tryz.prog 167=some [Value.int IntKind.u8 0,Value.string {data:=#[]},Value.int IntKind.i64 0]:=by kernel_rfl
theorem zRV:Tryz.prog.cellsOf 171=1:=by kernel_rfl
theorem zUr:zAx Tryz.prog 171=some [Value.nilFunc]:=by kernel_rfl
theorem zRW:Tryz.prog.cellsOf 173=1:=by kernel_rfl
theorem zUs:zAx Tryz.prog 173=some [Value.map none]:=by kernel_rfl
theorem zUt:zAB Tryz.prog 174=1:=by kernel_rfl
theorem zYA:zEg Tryz.prog 174 1 1=true:=by kernel_rfl
theorem zRX:Tryz.prog.cellsOf 184=5:=by kernel_rfl
theorem zUu:zAx Tryz.prog 184=some [Value.int IntKind.u8 0,Value.string {data:=#[]},Value.slice none 0 0,Value.bool false,Value.bool false]:=by kernel_rfl
theorem zRY:Tryz.prog.cellsOf 202=1:=by kernel_rfl
theorem zUv:zAx Tryz.prog 202=some [Value.nilFunc]:=by kernel_rfl
theorem zRZ:Tryz.prog.cellsOf 220=1:=by kernel_rfl
theorem zUw:zAx Tryz.prog 220=some [Value.map none]:=by kernel_rfl
theorem zRa:Tryz.prog.cellsOf 231=10:=by kernel_rfl
theorem zUx:zAx Tryz.prog 231=some [Value.int IntKind.i64 0,Value.int IntKind.i64 0,Value.bool false,Value.bool false,Value.bool false,Value.bool false,Value.bool false,Value.bool false,Value.nilFunc,Value.nilFunc]:=by kernel_rfl
theorem zRb:Tryz.prog.cellsOf 241=1:=by kernel_rfl
theorem zYB:(Tryz.prog.info? 241).isSome=true:=by kernel_rfl
theorem zRc:Tryz.prog.cellsOf 243=2:=by kernel_rfl
theorem zUy:zAx Tryz.prog 243=some [Value.bool false,Value.int IntKind.u64 0]:=by kernel_rfl
theorem zUz:zHx Tryz.prog 45=some (.agg [.p (.v (Value.int IntKind.u8 0)),.p (.v (Value.string {data:=#[]})),.p (.v (Value.slice none 0 0)),.p (.v (Value.int IntKind.u8 0)),.p (.v (Value.string {data:=#[]})),.p (.v (Value.slice none 0 0)),.p (.v (Value.slice none 0 0)),.p (.v (Value.int IntKind.u8 0)),.p (.v (Value.int IntKind.i64 0)),.p (.v (Value.string {data:=#[]})),.p (.v (Value.string {data:=#[]})),.p (.v (Value.string {data:=#[]})),.p (.v (Value.slice none 0 0)),.p (.v (Value.slice none 0 0)),.p (.v (Value.int IntKind.i64 0)),.p (.v (Value.int IntKind.i64 0))]):=by kernel_rfl
theorem zRd:zHx Tryz.prog 106=some (.agg [.p (.v (Value.bool false))]):=by kernel_rfl
theorem zYC:zHx Tryz.prog 3=some (.p (.v (Value.int IntKind.i64 0))):=by kernel_rfl
theorem zYD:zHx Tryz.prog 5=some (.p (.v (Value.int IntKind.u8 0))):=by kernel_rfl
theorem zRe:zHx Tryz.prog 247=some (.p (.v (Value.nilFunc))):=by kernel_rfl
attribute [simp] zXc zZ1 zXd zcI zXe zZ2 zcJ zXf zZ3 zcK zXg zcL zXh zZ4 zcM zUA zZ5 zXi zZ6 zUB zXj zZ7 zUC zXk zZ8 zXl zZ9 zUD zaA zUE zXm zaB zUF zaC zXn zaD zUG zaE zXo zaF zUH zXp zaG zUI zXq zaH zXr zaI zUJ zaJ zXs zaK zUK zXt zaL zUL zaM zXu zaN zUM zXv zaO zUN zXw zUO zaP zXx zaQ zUP zXy zUQ zXz zUR zX0 zUS zX1 zUT zX2 zUU zUV zaR zUW zX3 zUX zaS zUY zaT zUZ zX4 zX5 zaU zRD zUa zRE zUb zRF zX6 zRG zUc zRH zUd zRI zUe zRJ zUf zX7 zRK zUg zRL zUh zRM zUi zRN zUj zRO zUk zRP zUl zRQ zUm zRR zUn zRS zX8 zUo zX9 zRT zUp zRU zUq zRV zUr zRW zUs zUt zYA zRX zUu zRY zUv zRZ zUw zRa zUx zRb zYB zRc zUy zUz zRd zYC zYD zRe
theorem mixed:Tryz.prog.follows .mixedOrders=true:=by kernel_rfl
mutual
inductive LeP:PV->PV->Prop
 |refl (p:PV):LeP p p
 |nil (k:Nat):LeP (.v (.slice none 0 0)) (.sl k [])
 |sl {k:Nat} {rows rows':List (List PV)}:LeRows rows rows'->LeP (.sl k rows) (.sl k rows')
inductive LeRow:List PV->List PV->Prop
 |refl (l:List PV):LeRow l l
 |cons {p p':PV} {l l':List PV}:LeP p p'->LeRow l l'->LeRow (p::l) (p'::l')
inductive LeRows:List (List PV)->List (List PV)->Prop
 |refl (l:List (List PV)):LeRows l l
 |cons {p p':List PV} {l l':List (List PV)}:LeRow p p'->LeRows l l'->LeRows (p::l) (p'::l')
end
theorem LeP.ok{p p':PV}(h:LeP p p'):∀{Pr:Prot} {x:Value},RP Pr p x->RP Pr p' x:=by
 refine LeP.rec (motive_1:=fun p p' _=>∀{Pr:Prot} {x:Value},RP Pr p x->RP Pr p' x)
  (motive_2:=fun l l' _=>l.length=l'.length/\∀(j:Nat) (p':PV),l'[j]? =some p'->∃p,l[j]? =some p/\∀{Pr:Prot} {x:Value},RP Pr p x->RP Pr p' x)
  (motive_3:=fun l l' _=>l.length=l'.length/\∀(r:Nat) (Xe:List PV),l'[r]? =some Xe->∃row,l[r]? =some row/\row.length=Xe.length/\∀(j:Nat) (p':PV),Xe[j]? =some p'->∃p,row[j]? =some p/\∀{Pr:Prot} {x:Value},RP Pr p x->RP Pr p' x)
  ?_ ?_ ?_ ?_ ?_ ?_ ?_ h
 .intro p Pr x h;exact h
 .intro k Pr x h
  cases h with
  |v h=>exact .slemp k none 0 (Nat.zero_le _)
 .intro k rows rows' _ ⟨hl,ih⟩ Pr x h
  cases h with
  |slemp _ A cap hc=>
   obtain rfl:rows'=[]:=List.eq_nil_of_length_eq_zero hl.symm
   exact .slemp _ A _ hc
  |sl vs h1 h2 h3 h4 h5=>
   rw[hl]at h1 ⊢;refine .sl vs h1 h2 (fun r Xe hr=>?_) (fun r Xe j p' hr hj=>?_) (fun r Xe j p' hr hj=>?_)
   .obtain⟨row,k1,k2,_⟩:=ih r Xe hr
    rw[<-k2];exact h3 r row k1
   .obtain⟨row,k1,k2,k3⟩:=ih r Xe hr
    obtain⟨p,k4,k5⟩:=k3 j p' hj
    exact h4 r row j p k1 k4
   obtain⟨row,k1,k2,k3⟩:=ih r Xe hr
   obtain⟨p,k4,k5⟩:=k3 j p' hj
   exact k5 (h5 r row j p k1 k4)
 .intro l;exact⟨rfl,fun j p h=>⟨p,h,fun h=>h⟩⟩
 .intro p p' l l' _ _ Sb ⟨hl,Lb⟩
  refine⟨by simp[hl],fun j q hq=>?_⟩
  cases j with
  |zero=>simp at hq;subst hq;exact⟨p,rfl,Sb⟩
  |succ j=>simpa using Lb j q (by simpa using hq)
 .intro l;exact⟨rfl,fun r row h=>⟨row,h,rfl,fun j p h=>⟨p,h,fun h=>h⟩⟩⟩
 intro p p' l l' _ _ ⟨Za,Sb⟩ ⟨hl,Lb⟩
 refine⟨by simp[hl],fun j q hq=>?_⟩
 cases j with
 |zero=>simp at hq;subst hq;exact⟨p,rfl,Za,Sb⟩
 |succ j=>simpa using Lb j q (by simpa using hq)
mutual
inductive LeA:AV->AV->Prop
 |refl (v:AV):LeA v v
 |any (v:AV):LeA v .any
 |p {q q':PV}:LeP q q'->LeA (.p q) (.p q')
 |osl {k d i:Nat} {rows rows':List (List PV)}:LeRows rows rows'->LeA (.osl k rows d i) (.p (.sl k rows'))
 |agg {cs cs':List AV}:LeAs cs cs'->LeA (.agg cs) (.agg cs')
inductive LeAs:List AV->List AV->Prop
 |refl (l:List AV):LeAs l l
 |cons {v v':AV} {l l':List AV}:LeA v v'->LeAs l l'->LeAs (v::l) (v'::l')
end
theorem zEE{Pr:Prot}{φ:Fi2}:(∀{v v':AV},LeA v v'->∀{x:Value},RA Pr φ v x->RA Pr φ v' x)/\(∀{l l':List AV},LeAs l l'->l.length=l'.length/\∀(j:Nat) (v':AV),l'[j]? =some v'->∃v,l[j]? =some v/\∀{x:Value},RA Pr φ v x->RA Pr φ v' x):=by
 have key:∀{v v':AV} (h:LeA v v') {x:Value},RA Pr φ v x->RA Pr φ v' x:=by
  intro v v' h
  refine LeA.rec (motive_1:=fun v v' _=>∀{x:Value},RA Pr φ v x->RA Pr φ v' x)
   (motive_2:=fun l l' _=>l.length=l'.length/\∀(j:Nat) (v':AV),l'[j]? =some v'->∃v,l[j]? =some v/\∀{x:Value},RA Pr φ v x->RA Pr φ v' x) ?_ ?_ ?_ ?_ ?_ ?_ ?_ h
  .intro v x h;exact h
  .intro v x h;exact .any x
  .intro q q' hq x h
   cases h with
   |p h=>exact .p (hq.ok h)
  .intro k d i rows rows' hr x h
   exact .p ((LeP.sl hr).ok h.sl)
  .intro cs cs' _ ⟨hl,ih⟩ x h
   cases h with
   |agg h1 h2=>
    refine .agg (hl ▸ h1) fun j c y hc hy=>?_
    obtain⟨v,k1,k2⟩:=ih j c hc
    exact k2 (h2 j v y k1 hy)
  .intro l;exact⟨rfl,fun j v h=>⟨v,h,fun h=>h⟩⟩
  intro v v' l l' _ _ Sb ⟨hl,Lb⟩
  refine⟨by simp[hl],fun j q hq=>?_⟩
  cases j with
  |zero=>simp at hq;subst hq;exact⟨v,rfl,Sb⟩
  |succ j=>simpa using Lb j q (by simpa using hq)
 refine⟨key,fun {l l'} h=>?_⟩
 have hA:LeA (.agg l) (.agg l'):=.agg h
 refine LeAs.rec (motive_1:=fun v v' _=>True)
  (motive_2:=fun l l' _=>l.length=l'.length/\∀(j:Nat) (v':AV),l'[j]? =some v'->∃v,l[j]? =some v/\∀{x:Value},RA Pr φ v x->RA Pr φ v' x) ?_ ?_ ?_ ?_ ?_ ?_ ?_ h
 .intros;trivial
 .intros;trivial
 .intros;trivial
 .intros;trivial
 .intros;trivial
 .intro l;exact⟨rfl,fun j v h=>⟨v,h,fun h=>h⟩⟩
 intro v v' l l' hv _ _ ⟨hl,Lb⟩
 refine⟨by simp[hl],fun j q hq=>?_⟩
 cases j with
 |zero=>simp at hq;subst hq;exact⟨v,rfl,key hv⟩
 |succ j=>simpa using Lb j q (by simpa using hq)
theorem ADet.sub{F:FuncId}{xs Gd:List AV}{S S':ASt}{r:AV}(ta:LeAs xs Gd)(h:ADet P F Gd S r S'):ADet P F xs S r S':=
 ⟨h.1,fun Pr φ ys w da hR hne=>by
  obtain⟨hl,hk⟩:=(zEE (Pr:=Pr) (φ:=φ)).2 ta
  exact h.2 Pr φ ys w ⟨hl ▸ da.1,fun j c x hc hx=>by
   obtain⟨v,k1,k2⟩:=hk j c hc
   exact k2 (da.2 j v x k1 hx)⟩ hR hne⟩
theorem ADet.less{F:FuncId}{xs:List AV}{S S':ASt}{r r':AV}(ta:LeA r r')(h:ADet P F xs S r S'):ADet P F xs S r' S':=
 ⟨h.1,fun Pr φ ys w da hR hne=>(h.2 Pr φ ys w da hR hne).mono fun e w' hp=>by
  obtain⟨x,Pr',φ',h1,h2,h3,h4⟩:=hp
  exact⟨x,Pr',φ',h1,h2,h3,(zEE (Pr:=Pr') (φ:=φ')).1 ta h4⟩⟩
def awpS(P:Program)(ops:Array Oper)(K:List AV->ASt->Prop)(S:ASt):List Oper->List AV->Prop
 | [],fr=>K fr S
 |o::os,fr=>
  match zBs ops o fr with
  |some true=>
   match zC0 o fr with
   |some (F,args)=>∃r,ADet P F args S r S/\awpS P ops K S os (putA fr o.dst r)
   |none=>
    match evL P o fr S with
    |some (v,_)=>awpS P ops K S os (putA fr o.dst v)
    |none=>
     match zD8 P o fr S with
     |some (v,S')=>S'=S/\awpS P ops K S os (putA fr o.dst v)
     |none=>False
  |some false=>awpS P ops K S os (putA fr o.dst .un)
  |none=>False
def zaV(P:Program)(ops:Array Oper)(K:List AV->ASt->Prop)(S:ASt)(os:List Oper)(fr:List AV)(dst:Option Nat)(r:AV):Prop:=awpS P ops K S os (putA fr dst r)
@[reducible] def CallS (P : Program) (F : Nat) (args : List AV) (S : ASt) (K : AV -> Prop) : Prop:=∃ r,ADet P F args S r S /\ K r
theorem zKH{ops:Array Oper}{K:List AV->ASt->Prop}(os:List Oper)(dst:Option Nat)(r:AV):zaV P ops K S os fr dst r=awpS P ops K S os (putA fr dst r):=rfl
theorem zKI{ops:Array Oper}{K:List AV->ASt->Prop}:awpS P ops K S [] fr=K fr S:=by rw[awpS]
theorem zIA{ops:Array Oper}{K:List AV->ASt->Prop}(o:Oper)(os:List Oper):awpS P ops K S (o::os) fr=(match zBs ops o fr with
  |some true=>
   match zC0 o fr with
   |some (F,args)=>CallS P F args S (zaV P ops K S os fr o.dst)
   |none=>
    match evL P o fr S with
    |some (v,_)=>awpS P ops K S os (putA fr o.dst v)
    |none=>
     match zD8 P o fr S with
     |some (v,S')=>S'=S/\awpS P ops K S os (putA fr o.dst v)
     |none=>False
  |some false=>awpS P ops K S os (putA fr o.dst .un)
  |none=>False):=by rw[awpS]<;>rfl
theorem zNr{α:Type}{l:List α}{x d:α}(h:∀y∈l,y=x){j:Nat}(hj:j<l.length):l.getD j d=x:=by
 rw[List.getD,List.getElem?_eq_getElem hj];exact h _ (List.getElem_mem hj)
theorem zLO{Ss:List ASt}{S:ASt}(h:∀T∈Ss,T=S){i m:Nat}(hm:m+1<Ss.length):∀ls:List (Nat × Nat × Nat),LCl Ss i m ls
 | []=>trivial
 |(j,d,k)::ls=>⟨fun _=>by rw[zNr h hm,zNr h (by omega)],zLO h hm ls⟩
theorem zLP{Ss:List ASt}{S:ASt}(h:∀T∈Ss,T=S){ls:List (Nat × Nat × Nat)}:∀ib:List (Nat × Nat),(∀p∈ib,p.2+1<Ss.length)->LCp Ss ls ib
 | [],_=>trivial
 |(i,m)::ib,hp=>⟨zLO h (hp (i,m) (by simp)) ls,zLP h ib fun p hm=>hp p (by simp[hm])⟩
theorem zLQ{P:Program}{ops:Array Oper}{ib:List (Nat × Nat)}{K:List AV->ASt->Prop}{S:ASt}(n:Nat)(hp:∀p∈ib,p.2<n):∀(os:List Oper) (i:Nat) (fr:List AV) (Vs:List AV) (Ss:List ASt) (ls:List (Nat × Nat × Nat)),Ss.length=i+1->(∀T∈Ss,T=S)->i+os.length=n->
  awpS P ops K S os fr->awpD P ops ib K os i fr S Vs Ss ls
 | [],i,fr,Vs,Ss,ls,h1,h2,h3,h=>by
  rw[awpS]at h;rw[awpD]
  exact⟨zLP h2 ib fun p hm=>by have:=hp p hm;simp at h3;omega,h⟩
 |o::os,i,fr,Vs,Ss,ls,h1,h2,h3,h=>by
  have g1:(Ss++[S]).length=(i+1)+1:=by simp[h1]
  have g2:∀T∈Ss++[S],T=S:=fun T hT=>by
   rcases List.mem_append.1 hT with h|h
   .exact h2 T h
   simpa using h
  have g3:i+1+os.length=n:=by simp at h3;omega
  rw[awpS]at h;rw[awpD];split
  .rename_i hw
   rw[hw]at h;simp only at h;split
   .rename_i F args hc
    rw[hc]at h
    obtain⟨r,k1,k2⟩:=h
    exact⟨r,S,k1,zLQ n hp os (i+1) _ _ _ _ g1 g2 g3 k2⟩
   rename_i hc
   rw[hc]at h;simp only at h;split
   .rename_i v ref he
    rw[he]at h;exact zLQ n hp os (i+1) _ _ _ _ g1 g2 g3 h
   rename_i he
   rw[he]at h;simp only at h;split
   .rename_i v S' hs
    rw[hs]at h
    obtain⟨rfl,h⟩:=h
    exact zLQ n hp os (i+1) _ _ _ _ g1 g2 g3 h
   rename_i hs
   rw[hs]at h;exact h.elim
  .rename_i hw
   rw[hw]at h;exact zLQ n hp os (i+1) _ _ _ _ g1 g2 g3 h
  rename_i hw
  rw[hw]at h;exact h.elim
theorem zDG{ops:Array Oper}{id:Nat}{Q:Exit->List AV->ASt->Prop}(ib:List (Nat × Nat))(Ca:zLH ops=true)(We:zJV ops=ib)(hr:(ib.all fun p=>decide (p.2<ops.size))=true)(h:awpS P ops (Q .normal) S ops.toList fr):awp P (.region id ops true) fr S Q:=
 zA ib Ca We (zLQ ops.size (fun p hp=>by simpa using List.all_eq_true.1 hr p hp) ops.toList 0 fr [] [S] [] rfl (fun T hT=>by simpa using hT) (by simp) h)
theorem zU0(a b:Bool)(x y:Operand):zJ Tryz.prog (do eqGuard .neq 4 x y (.bool a) (.bool b);binOp .neq 4 (.bool a) (.bool b):Sem Value)=some (.bool (a !=b)):=by
 cases a<;>cases b<;>kernel_rfl
theorem zBh{α β:Type}(f:α->β)(s:Sem α)(a:α)(h:zJ P s=some a):zJ P (f<$>s)=some (f a):=by
 induction s with
 |pure b=>simp[zJ]at h;subst h;rfl
 |program k ih=>exact ih P (by simpa [zJ]using h)
 |mark m k ih=>exact ih (by simpa [zJ]using h)
 |_=>simp[zJ]at h
theorem zRf{o:Oper}{x y:Operand}{k:TypeId}(a b:Bool)(ho:o.op= .binOp .neq 4 x y k)(hx:evA fr x=B a)(hy:evA fr y=B b):genP Tryz.prog o fr=some (B (a !=b)):=by
 obtain⟨dst,op,ty,pos,after,guard⟩:=o
 simp only at ho;subst ho
 have h1:(zGh (.binOp .neq 4 x y k)&&zN fr (Op.operands (.binOp .neq 4 x y k)).toList)=true:=by
  show(true&&zN fr [x,y])=true
  rw[Bool.true_and,zN,zN,zN,hx,hy];rfl
 have h2:zJ Tryz.prog (execOp (fun z=>(zAu (evA fr z)).getD undef) ⟨dst,.binOp .neq 4 x y k,ty,pos,after,guard⟩)=some (.value (.bool (a !=b))):=by
  have e1:(zAu (evA fr x)).getD undef= .bool a:=by rw[hx];rfl
  have e2:(zAu (evA fr y)).getD undef= .bool b:=by rw[hy];rfl
  unfold execOp;simp only[e1,e2];exact zBh _ _ _ (zU0 a b x y)
 unfold genP;simp only;rw[if_pos h1,h2];rfl
noncomputable def genK (o:Oper) (fr:List AV):Option AV:=genP Tryz.prog o fr
@[simp] theorem genP_neq (dst : Option Tmp) (x y : Operand) (k ty : TypeId) (pos : String) (after : Array Edge) (guard : Option (Nat × Bool)) (fr : List AV) :
  genP Tryz.prog ⟨dst,.binOp .neq 4 x y k,ty,pos,after,guard⟩ fr=(match evA fr x,evA fr y with| .p (.v (.bool a)),.p (.v (.bool b))=>some (B (a !=b))|_,_=>genK ⟨dst,.binOp .neq 4 x y k,ty,pos,after,guard⟩ fr):=by
 split
 .rename_i a b hx hy
  exact zRf a b rfl hx hy
 rfl
def zMb(P:Program)(rs:List ResultVar)(r:AV)(S':ASt):Exit->List AV->ASt->Prop:=fun e fr S1=>
 (e= .normal\/e= .ret)/\∃vs,resA P fr S1 rs=some vs/\retA vs=r/\S1=S'
theorem zO7(P:Program)(rs:List ResultVar)(r:AV)(e:Exit)(fr:List AV)(S S1:ASt):zMb P rs r S e fr S1=((e= .normal\/e= .ret)/\∃vs,resA P fr S1 rs=some vs/\retA vs=r/\S1=S):=by rw[zMb]
attribute [simp] zO7
theorem ADet.flat{K:FuncId}{args:List AV}{S S':ASt}{r:AV}{fn:Func}{c:Code}(hm:P.follows .mixedOrders=true)(hK:∀xs w,(callFunc K xs).run P w= .ok (.enter K xs) w)(hf:P.funcs[K]? =some fn)(hb:fn.body=some c)
  (h:awp P c (args++List.replicate (fn.ntmps-args.length) .un) S (zMb P fn.results.toList r S')):ADet P K args S r S':=by
 refine⟨hK,fun Pr φ xs w da hR hne=>?_⟩
 refine calls_of_wp hf hb ?_
 have ub:RF Pr φ (args++List.replicate (fn.ntmps-args.length) .un) {tmps:=xs++Array.replicate (fn.ntmps-xs.size) undef,defers:=[]}:=by
  refine⟨by simp[da.1],fun t v x hv hx=>?_⟩
  rcases Nat.lt_or_ge t args.length with ht|ht
  .rw[List.getElem?_append_left ht]at hv
   simp only at hx;rw[Array.getElem?_append_left (by rw[<-da.1];exact ht)]at hx
   exact da.2 t v x hv hx
  rw[List.getElem?_append_right ht]at hv
  simp only at hx;rw[Array.getElem?_append_right (by rw[<-da.1];exact ht)]at hx
  rw[List.getElem?_replicate]at hv;rw[Array.getElem?_replicate]at hx;split at hv
  .split at hx
   .cases hv;cases hx;exact .un
   cases hx
  cases hv
 refine wp_mono (zDa hm c _ Pr φ _ _ S w ub hR hne h) fun e a' w' hp=>?_
 obtain⟨ja,S1,Pr',φ',⟨he,vs,h1,h2,h3⟩,h4,h5,h6,h7⟩:=hp
 obtain⟨x,hx,ua⟩:=zCp (P:=P) (fn:=fn) h4 h5 h1
 subst h3;rw[h2]at hx
 have key:a'.defers=[]/\∃v,(results fn a'.tmps).run P w'= .ok v w'/\∃x Pr' φ',Ending.returned v= .returned x/\Stp Pr φ w Pr' φ' w'/\Rel Pr' φ' S1 w'/\RA Pr' φ' r x:=
  ⟨h7,x,ua,x,Pr',φ',rfl,h6,h5,hx⟩
 rcases he with rfl|rfl
 .exact key
 exact key
theorem ADet.after{K:FuncId}{args:List AV}{S S' Ml:ASt}{r:AV}(hw:wkT S' Ml)(h:ADet P K args S r S'):ADet P K args S r Ml:=
 ⟨h.1,fun Pr φ xs w da hR hne=>(h.2 Pr φ xs w da hR hne).mono fun e w' hp=>by
  obtain⟨x,Pr',φ',h1,h2,h3,h4⟩:=hp
  exact⟨x,Pr',φ',h1,h2,zEZ h3 (zEb hw),h4⟩⟩
theorem zU1(a b:Bool)(x y:Operand):zJ Tryz.prog (do eqGuard .eql 4 x y (.bool a) (.bool b);binOp .eql 4 (.bool a) (.bool b):Sem Value)=some (.bool (a==b)):=by
 cases a<;>cases b<;>kernel_rfl
theorem zRg{o:Oper}{x y:Operand}{k:TypeId}(a b:Bool)(ho:o.op= .binOp .eql 4 x y k)(hx:evA fr x=B a)(hy:evA fr y=B b):genP Tryz.prog o fr=some (B (a==b)):=by
 obtain⟨dst,op,ty,pos,after,guard⟩:=o
 simp only at ho;subst ho
 have h1:(zGh (.binOp .eql 4 x y k)&&zN fr (Op.operands (.binOp .eql 4 x y k)).toList)=true:=by
  show(true&&zN fr [x,y])=true
  rw[Bool.true_and,zN,zN,zN,hx,hy];rfl
 have h2:zJ Tryz.prog (execOp (fun z=>(zAu (evA fr z)).getD undef) ⟨dst,.binOp .eql 4 x y k,ty,pos,after,guard⟩)=some (.value (.bool (a==b))):=by
  have e1:(zAu (evA fr x)).getD undef= .bool a:=by rw[hx];rfl
  have e2:(zAu (evA fr y)).getD undef= .bool b:=by rw[hy];rfl
  unfold execOp;simp only[e1,e2];exact zBh _ _ _ (zU1 a b x y)
 unfold genP;simp only;rw[if_pos h1,h2];rfl
@[simp] theorem genP_eql (dst : Option Tmp) (x y : Operand) (k ty : TypeId) (pos : String) (after : Array Edge) (guard : Option (Nat × Bool)) (fr : List AV) :
  genP Tryz.prog ⟨dst,.binOp .eql 4 x y k,ty,pos,after,guard⟩ fr=(match evA fr x,evA fr y with| .p (.v (.bool a)),.p (.v (.bool b))=>some (B (a==b))|_,_=>genK ⟨dst,.binOp .eql 4 x y k,ty,pos,after,guard⟩ fr):=by
 split
 .rename_i a b hx hy
  exact zRg a b rfl hx hy
 rfl
theorem zB2{α:Type}(S:List (List α))(d:Nat){i j:Nat}(o:α)(h:i≠j):get2 (set2 S d i o) d j=get2 S d j:=by
 unfold get2 set2
 rcases Nat.lt_or_ge d S.length with hd|hd
 .rw[List.getElem?_set_self hd,List.getElem?_eq_getElem hd]
  simp only[Option.bind_some];rw[List.getElem?_set_ne h];simp[List.getD,hd]
 rw[List.set_eq_of_length_le hd]
theorem zLR{α:Type}(S:List (List α))(d:Nat){i j:Nat}(a b:α)(h:i≠j):set2 (set2 S d j a) d i b=set2 (set2 S d i b) d j a:=by
 unfold set2
 rcases Nat.lt_or_ge d S.length with hd|hd
 .simp[List.getD,hd,List.set_comm _ _ h]
 simp[List.set_eq_of_length_le hd]
end Go.Proofs.YtdflkegnmmkkoaaGreatDoor
