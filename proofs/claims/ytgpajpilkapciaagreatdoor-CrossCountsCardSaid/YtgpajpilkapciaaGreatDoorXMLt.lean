/- A part of the proof. -/
import Derived.Test.YtgpajpilkapciaaGreatDoorXMLb
import Derived.Test.YtgpajpilkapciaaGreatDoorRows
set_option linter.unusedVariables false
set_option linter.unusedSimpArgs false
set_option maxRecDepth 100000
set_option maxHeartbeats 32000000
namespace Go.Proofs.YtgpajpilkapciaaGreatDoor
open Go.RowKit
variable{P:Program}{S:ASt}{fr:List AV}
set_option maxRecDepth 100000
theorem zVr:Tryz.prog.cellsOf 1=1:=by kernel_rfl
theorem zX5:zAh Tryz.prog 1=some [Value.nilFunc]:=by kernel_rfl
theorem zVs:Tryz.prog.cellsOf 2=1:=by kernel_rfl
theorem zZ1:(Tryz.prog.info? 2).isSome=true:=by kernel_rfl
theorem zVt:Tryz.prog.cellsOf 3=1:=by kernel_rfl
theorem zZ2:(Tryz.prog.info? 3).isSome=true:=by kernel_rfl
theorem zVu:Tryz.prog.cellsOf 4=1:=by kernel_rfl
theorem zX6:zAh Tryz.prog 4=some [Value.bool false]:=by kernel_rfl
theorem zZ3:(Tryz.prog.info? 4).isSome=true:=by kernel_rfl
theorem zVv:Tryz.prog.cellsOf 5=1:=by kernel_rfl
theorem zX7:zAh Tryz.prog 5=some [Value.int IntKind.u8 0]:=by kernel_rfl
theorem zZ4:(Tryz.prog.info? 5).isSome=true:=by kernel_rfl
theorem zVw:Tryz.prog.cellsOf 9=1:=by kernel_rfl
theorem zX8:zAh Tryz.prog 9=some [Value.string {data:=#[]}]:=by kernel_rfl
theorem zZ5:(Tryz.prog.info? 9).isSome=true:=by kernel_rfl
theorem zSc:Tryz.prog.cellsOf 25=1:=by kernel_rfl
theorem zX9:(Tryz.prog.info? 25).isSome=true:=by kernel_rfl
theorem zVx:z7 Tryz.prog 25=44:=by kernel_rfl
theorem zYA:zD9 Tryz.prog 25 44 16=true:=by kernel_rfl
theorem zSd:Tryz.prog.cellsOf 27=1:=by kernel_rfl
theorem zVy:zAh Tryz.prog 27=some [Value.slice none 0 0]:=by kernel_rfl
theorem zYB:(Tryz.prog.info? 27).isSome=true:=by kernel_rfl
theorem zSe:Tryz.prog.cellsOf 32=1:=by kernel_rfl
theorem zYC:(Tryz.prog.info? 32).isSome=true:=by kernel_rfl
theorem zVz:z7 Tryz.prog 32=79:=by kernel_rfl
theorem zYD:zD9 Tryz.prog 32 79 4=true:=by kernel_rfl
theorem zSf:Tryz.prog.cellsOf 33=1:=by kernel_rfl
theorem zYE:(Tryz.prog.info? 33).isSome=true:=by kernel_rfl
theorem zV0:z7 Tryz.prog 33=35:=by kernel_rfl
theorem zYF:zD9 Tryz.prog 33 35 3=true:=by kernel_rfl
theorem zSg:Tryz.prog.cellsOf 35=3:=by kernel_rfl
theorem zV1:zAh Tryz.prog 35=some [Value.int IntKind.u8 0,Value.string {data:=#[]},Value.slice none 0 0]:=by kernel_rfl
theorem zYG:(Tryz.prog.info? 35).isSome=true:=by kernel_rfl
theorem zSh:Tryz.prog.cellsOf 36=1:=by kernel_rfl
theorem zV2:zAh Tryz.prog 36=some [Value.slice none 0 0]:=by kernel_rfl
theorem zYH:(Tryz.prog.info? 36).isSome=true:=by kernel_rfl
theorem zV3:z7 Tryz.prog 36=57:=by kernel_rfl
theorem zYI:zD9 Tryz.prog 36 57 15=true:=by kernel_rfl
theorem zSi:Tryz.prog.cellsOf 37=1:=by kernel_rfl
theorem zYJ:(Tryz.prog.info? 37).isSome=true:=by kernel_rfl
theorem zSj:Tryz.prog.cellsOf 39=2:=by kernel_rfl
theorem zV4:zAh Tryz.prog 39=some [Value.string {data:=#[]},Value.slice none 0 0]:=by kernel_rfl
theorem zYK:(Tryz.prog.info? 39).isSome=true:=by kernel_rfl
theorem zSk:Tryz.prog.cellsOf 40=1:=by kernel_rfl
theorem zYL:(Tryz.prog.info? 40).isSome=true:=by kernel_rfl
theorem zV5:z7 Tryz.prog 40=42:=by kernel_rfl
theorem zYM:zD9 Tryz.prog 40 42 8=true:=by kernel_rfl
theorem zSl:Tryz.prog.cellsOf 42=8:=by kernel_rfl
theorem zV6:zAh Tryz.prog 42=some [Value.int IntKind.u8 0,Value.int IntKind.i64 0,Value.string {data:=#[]},Value.string {data:=#[]},Value.string {data:=#[]},Value.slice none 0 0,Value.slice none 0 0,Value.int IntKind.i64 0]:=by kernel_rfl
theorem zYN:(Tryz.prog.info? 42).isSome=true:=by kernel_rfl
theorem zSm:Tryz.prog.cellsOf 44=16:=by kernel_rfl
theorem zV7:zAh Tryz.prog 44=some [Value.int IntKind.u8 0,Value.string {data:=#[]},Value.slice none 0 0,Value.int IntKind.u8 0,Value.string {data:=#[]},Value.slice none 0 0,Value.slice none 0 0,Value.int IntKind.u8 0,Value.int IntKind.i64 0,Value.string {data:=#[]},Value.string {data:=#[]},Value.string {data:=#[]},Value.slice none 0 0,Value.slice none 0 0,Value.int IntKind.i64 0,Value.int IntKind.i64 0]:=by kernel_rfl
theorem zSn:Tryz.prog.cellsOf 45=1:=by kernel_rfl
theorem zYO:(Tryz.prog.info? 45).isSome=true:=by kernel_rfl
theorem zV8:z7 Tryz.prog 45=51:=by kernel_rfl
theorem zYP:zD9 Tryz.prog 45 51 4=true:=by kernel_rfl
theorem zSo:Tryz.prog.cellsOf 47=1:=by kernel_rfl
theorem zV9:zAh Tryz.prog 47=some [Value.slice none 0 0]:=by kernel_rfl
theorem zYQ:(Tryz.prog.info? 47).isSome=true:=by kernel_rfl
theorem zWA:z7 Tryz.prog 47=54:=by kernel_rfl
theorem zYR:zD9 Tryz.prog 47 54 2=true:=by kernel_rfl
theorem zSp:Tryz.prog.cellsOf 51=4:=by kernel_rfl
theorem zWB:zAh Tryz.prog 51=some [Value.int IntKind.u8 0,Value.string {data:=#[]},Value.slice none 0 0,Value.int IntKind.i64 0]:=by kernel_rfl
theorem zSq:Tryz.prog.cellsOf 52=1:=by kernel_rfl
theorem zYS:(Tryz.prog.info? 52).isSome=true:=by kernel_rfl
theorem zSr:Tryz.prog.cellsOf 54=2:=by kernel_rfl
theorem zWC:zAh Tryz.prog 54=some [Value.int IntKind.i64 0,Value.int IntKind.i64 0]:=by kernel_rfl
theorem zYT:(Tryz.prog.info? 54).isSome=true:=by kernel_rfl
theorem zSs:Tryz.prog.cellsOf 55=1:=by kernel_rfl
theorem zYU:(Tryz.prog.info? 55).isSome=true:=by kernel_rfl
theorem zWD:z7 Tryz.prog 55=67:=by kernel_rfl
theorem zYV:zD9 Tryz.prog 55 67 3=true:=by kernel_rfl
theorem zSt:Tryz.prog.cellsOf 57=15:=by kernel_rfl
theorem zWE:zAh Tryz.prog 57=some [Value.int IntKind.u8 0,Value.string {data:=#[]},Value.string {data:=#[]},Value.slice none 0 0,Value.int IntKind.u8 0,Value.string {data:=#[]},Value.slice none 0 0,Value.int IntKind.i64 0,Value.string {data:=#[]},Value.slice none 0 0,Value.slice none 0 0,Value.slice none 0 0,Value.slice none 0 0,Value.slice none 0 0,Value.int IntKind.i64 0]:=by kernel_rfl
theorem zSu:Tryz.prog.cellsOf 60=1:=by kernel_rfl
theorem zWF:zAh Tryz.prog 60=some [Value.int IntKind.i64 0]:=by kernel_rfl
theorem zSv:Tryz.prog.cellsOf 67=3:=by kernel_rfl
theorem zWG:zAh Tryz.prog 67=some [Value.string {data:=#[]},Value.string {data:=#[]},Value.slice none 0 0]:=by kernel_rfl
theorem zSw:Tryz.prog.cellsOf 69=1:=by kernel_rfl
theorem zYW:(Tryz.prog.info? 69).isSome=true:=by kernel_rfl
theorem zWH:z7 Tryz.prog 69=74:=by kernel_rfl
theorem zYX:zD9 Tryz.prog 69 74 2=true:=by kernel_rfl
theorem zSx:Tryz.prog.cellsOf 71=3:=by kernel_rfl
theorem zWI:zAh Tryz.prog 71=some [Value.slice none 0 0,Value.slice none 0 0,Value.slice none 0 0]:=by kernel_rfl
theorem zSy:Tryz.prog.cellsOf 74=2:=by kernel_rfl
theorem zWJ:zAh Tryz.prog 74=some [Value.slice none 0 0,Value.slice none 0 0]:=by kernel_rfl
theorem zSz:Tryz.prog.cellsOf 77=4:=by kernel_rfl
theorem zWK:zAh Tryz.prog 77=some [Value.int IntKind.u8 0,Value.string {data:=#[]},Value.slice none 0 0,Value.bool false]:=by kernel_rfl
theorem zS0:Tryz.prog.cellsOf 79=4:=by kernel_rfl
theorem zWL:zAh Tryz.prog 79=some [Value.string {data:=#[]},Value.int IntKind.u8 0,Value.string {data:=#[]},Value.slice none 0 0]:=by kernel_rfl
theorem zS1:Tryz.prog.cellsOf 82=1:=by kernel_rfl
theorem zYY:(Tryz.prog.info? 82).isSome=true:=by kernel_rfl
theorem zS2:Tryz.prog.cellsOf 83=1:=by kernel_rfl
theorem zYZ:(Tryz.prog.info? 83).isSome=true:=by kernel_rfl
theorem zS3:Tryz.prog.cellsOf 85=3:=by kernel_rfl
theorem zWM:zAh Tryz.prog 85=some [Value.map none,Value.map none,Value.slice none 0 0]:=by kernel_rfl
theorem zWN:z7 Tryz.prog 86=4:=by kernel_rfl
theorem zYa:zD9 Tryz.prog 86 4 1=true:=by kernel_rfl
theorem zS4:Tryz.prog.cellsOf 91=1:=by kernel_rfl
theorem zWO:zAh Tryz.prog 91=some [Value.pointer none]:=by kernel_rfl
theorem zS5:Tryz.prog.cellsOf 94=1:=by kernel_rfl
theorem zWP:zAh Tryz.prog 94=some [Value.bool false]:=by kernel_rfl
theorem zS6:Tryz.prog.cellsOf 95=1:=by kernel_rfl
theorem zYb:(Tryz.prog.info? 95).isSome=true:=by kernel_rfl
theorem zS7:Tryz.prog.cellsOf 97=4:=by kernel_rfl
theorem zWQ:zAh Tryz.prog 97=some [Value.pointer none,Value.map none,Value.int IntKind.i64 0,Value.int IntKind.i64 0]:=by kernel_rfl
theorem zPo:Tryz.prog.cellsOf 101=1:=by kernel_rfl
theorem zS8:zAh Tryz.prog 101=some [Value.slice none 0 0]:=by kernel_rfl
theorem zPp:Tryz.prog.cellsOf 104=1:=by kernel_rfl
theorem zS9:zAh Tryz.prog 104=some [Value.pointer none]:=by kernel_rfl
theorem zPq:Tryz.prog.cellsOf 106=2:=by kernel_rfl
theorem zTA:zAh Tryz.prog 106=some [Value.slice none 0 0,Value.slice none 0 0]:=by kernel_rfl
theorem zPr:Tryz.prog.cellsOf 112=1:=by kernel_rfl
theorem zTB:zAh Tryz.prog 112=some [Value.map none]:=by kernel_rfl
theorem zPs:Tryz.prog.cellsOf 113=1:=by kernel_rfl
theorem zTC:zAh Tryz.prog 113=some [Value.nilFunc]:=by kernel_rfl
theorem zPt:Tryz.prog.cellsOf 115=2:=by kernel_rfl
theorem zTD:zAh Tryz.prog 115=some [Value.string {data:=#[]},Value.bool false]:=by kernel_rfl
theorem zPu:Tryz.prog.cellsOf 121=1:=by kernel_rfl
theorem zTE:zAh Tryz.prog 121=some [Value.nilFunc]:=by kernel_rfl
theorem zPv:Tryz.prog.cellsOf 123=1:=by kernel_rfl
theorem zTF:zAh Tryz.prog 123=some [Value.map none]:=by kernel_rfl
theorem zTG:z7 Tryz.prog 124=1:=by kernel_rfl
theorem zWR:zD9 Tryz.prog 124 1 1=true:=by kernel_rfl
theorem zPw:Tryz.prog.cellsOf 130=2:=by kernel_rfl
theorem zTH:zAh Tryz.prog 130=some [Value.int IntKind.i64 0,Value.int IntKind.i64 0]:=by kernel_rfl
theorem zPx:Tryz.prog.cellsOf 141=2:=by kernel_rfl
theorem zTI:zAh Tryz.prog 141=some [Value.int IntKind.u8 0,Value.int IntKind.u8 0]:=by kernel_rfl
theorem zWS:(Tryz.prog.info? 141).isSome=true:=by kernel_rfl
theorem zPy:Tryz.prog.cellsOf 142=22:=by kernel_rfl
theorem zTJ:zAh Tryz.prog 142=some [Value.int IntKind.u8 0,Value.int IntKind.u8 0,Value.int IntKind.u8 0,Value.int IntKind.u8 0,Value.int IntKind.u8 0,Value.int IntKind.u8 0,Value.int IntKind.u8 0,Value.int IntKind.u8 0,Value.int IntKind.u8 0,Value.int IntKind.u8 0,Value.int IntKind.u8 0,Value.int IntKind.u8 0,Value.int IntKind.u8 0,Value.int IntKind.u8 0,Value.int IntKind.u8 0,Value.int IntKind.u8 0,Value.int IntKind.u8 0,Value.int IntKind.u8 0,Value.int IntKind.u8 0,Value.int IntKind.u8 0,Value.int IntKind.u8 0,Value.int IntKind.u8 0]:=by kernel_rfl
theorem zPz:Tryz.prog.cellsOf 150=2:=by kernel_rfl
theorem zTK:zAh Tryz.prog 150=some [Value.bool false,Value.bool false]:=by kernel_rfl
theorem zP0:Tryz.prog.cellsOf 152=1:=by kernel_rfl
theorem zWT:(Tryz.prog.info? 152).isSome=true:=by kernel_rfl
theorem zP1:Tryz.prog.cellsOf 160=1:=by kernel_rfl
theorem zTL:zAh Tryz.prog 160=some [Value.nilFunc]:=by kernel_rfl
theorem zP2:Tryz.prog.cellsOf 184=3:=by kernel_rfl
theorem zTM:zAh Tryz.prog 184=some [Value.bool false,Value.int IntKind.i64 0,Value.int IntKind.i64 0]:=by kernel_rfl
theorem zP3:Tryz.prog.cellsOf 190=10:=by kernel_rfl
theorem zTN:zAh Tryz.prog 190=some [Value.int IntKind.i64 0,Value.int IntKind.i64 0,Value.bool false,Value.bool false,Value.bool false,Value.bool false,Value.bool false,Value.bool false,Value.nilFunc,Value.nilFunc]:=by kernel_rfl
theorem zP4:Tryz.prog.cellsOf 200=1:=by kernel_rfl
theorem zP5:Tryz.prog.cellsOf 205=5:=by kernel_rfl
theorem zTO:zAh Tryz.prog 205=some [Value.int IntKind.u8 0,Value.string {data:=#[]},Value.slice none 0 0,Value.bool false,Value.bool false]:=by kernel_rfl
theorem zP6:Tryz.prog.cellsOf 206=1:=by kernel_rfl
theorem zTP:zAh Tryz.prog 206=some [Value.nilFunc]:=by kernel_rfl
theorem zP7:Tryz.prog.cellsOf 210=1:=by kernel_rfl
theorem zTQ:zAh Tryz.prog 210=some [Value.nilFunc]:=by kernel_rfl
theorem zP8:Tryz.prog.cellsOf 211=1:=by kernel_rfl
theorem zTR:zAh Tryz.prog 211=some [Value.nilFunc]:=by kernel_rfl
theorem zP9:Tryz.prog.cellsOf 214=1:=by kernel_rfl
theorem zTS:zAh Tryz.prog 214=some [Value.nilFunc]:=by kernel_rfl
theorem zQA:Tryz.prog.cellsOf 217=1:=by kernel_rfl
theorem zTT:zAh Tryz.prog 217=some [Value.nilFunc]:=by kernel_rfl
theorem zQB:Tryz.prog.cellsOf 219=1:=by kernel_rfl
theorem zTU:zAh Tryz.prog 219=some [Value.nilFunc]:=by kernel_rfl
theorem zTV:zJM Tryz.prog 44=some (.agg [.p (.v (Value.int IntKind.u8 0)),.p (.v (Value.string {data:=#[]})),.p (.v (Value.slice none 0 0)),.p (.v (Value.int IntKind.u8 0)),.p (.v (Value.string {data:=#[]})),.p (.v (Value.slice none 0 0)),.p (.v (Value.slice none 0 0)),.p (.v (Value.int IntKind.u8 0)),.p (.v (Value.int IntKind.i64 0)),.p (.v (Value.string {data:=#[]})),.p (.v (Value.string {data:=#[]})),.p (.v (Value.string {data:=#[]})),.p (.v (Value.slice none 0 0)),.p (.v (Value.slice none 0 0)),.p (.v (Value.int IntKind.i64 0)),.p (.v (Value.int IntKind.i64 0))]):=by kernel_rfl
theorem zTW:zJM Tryz.prog 94=some (.agg [.p (.v (Value.bool false))]):=by kernel_rfl
theorem zWU:zJM Tryz.prog 3=some (.p (.v (Value.int IntKind.i64 0))):=by kernel_rfl
theorem zTX:keyS Tryz.prog 115=some (TypeDesc.string,TypeDesc.bool):=by kernel_rfl
attribute [simp] zVr zX5 zVs zZ1 zVt zZ2 zVu zX6 zZ3 zVv zX7 zZ4 zVw zX8 zZ5 zSc zX9 zVx zYA zSd zVy zYB zSe zYC zVz zYD zSf zYE zV0 zYF zSg zV1 zYG zSh zV2 zYH zV3 zYI zSi zYJ zSj zV4 zYK zSk zYL zV5 zYM zSl zV6 zYN zSm zV7 zSn zYO zV8 zYP zSo zV9 zYQ zWA zYR zSp zWB zSq zYS zSr zWC zYT zSs zYU zWD zYV zSt zWE zSu zWF zSv zWG zSw zYW zWH zYX zSx zWI zSy zWJ zSz zWK zS0 zWL zS1 zYY zS2 zYZ zS3 zWM zWN zYa zS4 zWO zS5 zWP zS6 zYb zS7 zWQ zPo zS8 zPp zS9 zPq zTA zPr zTB zPs zTC zPt zTD zPu zTE zPv zTF zTG zWR zPw zTH zPx zTI zWS zPy zTJ zPz zTK zP0 zWT zP1 zTL zP2 zTM zP3 zTN zP4 zP5 zTO zP6 zTP zP7 zTQ zP8 zTR zP9 zTS zQA zTT zQB zTU zTV zTW zWU zTX
theorem mixed:Tryz.prog.follows .mixedOrders=true:=by kernel_rfl
mutual
inductive LeP:PV->PV->Prop
 |refl (p:PV):LeP p p
 |nil (k:Nat):LeP (.v (.slice none 0 0)) (.sl k [])
 |sl {k:Nat} {rows rows':List (List PV)}:LeRows rows rows'->LeP (.sl k rows) (.sl k rows')
 |fsl (k:Nat) (rows:List (List PV)):LeP (.fsl k rows) (.sl k rows)
inductive LeRow:List PV->List PV->Prop
 |refl (l:List PV):LeRow l l
 |cons {p p':PV} {l l':List PV}:LeP p p'->LeRow l l'->LeRow (p::l) (p'::l')
inductive LeRows:List (List PV)->List (List PV)->Prop
 |refl (l:List (List PV)):LeRows l l
 |cons {p p':List PV} {l l':List (List PV)}:LeRow p p'->LeRows l l'->LeRows (p::l) (p'::l')
end
theorem LeP.ok{p p':PV}(h:LeP p p'):∀{Pr:Prot} {x:Value},RP Pr p x->RP Pr p' x:=by
 refine LeP.rec (motive_1:=fun p p' _=>∀{Pr:Prot} {x:Value},RP Pr p x->RP Pr p' x)
  (motive_2:=fun l l' _=>l.length=l'.length/\∀(j:Nat) (p':PV),l'[j]? =some p'->∃p,l[j]? =some p/\∀{Pr:Prot} {x:Value},RP Pr p x->RP Pr p' x)
  (motive_3:=fun l l' _=>l.length=l'.length/\∀(r:Nat) (Xe:List PV),l'[r]? =some Xe->∃row,l[r]? =some row/\row.length=Xe.length/\∀(j:Nat) (p':PV),Xe[j]? =some p'->∃p,row[j]? =some p/\∀{Pr:Prot} {x:Value},RP Pr p x->RP Pr p' x)
  ?_ ?_ ?_ ?_ ?_ ?_ ?_ ?_ h
 .intro p Pr x h;exact h
 .intro k Pr x h
  cases h with
  |v h=>exact .slemp k none 0 (Nat.zero_le _)
 .intro k rows rows' _ ⟨hl,ih⟩ Pr x h
  cases h with
  |slemp _ A cap hc=>
   obtain rfl:rows'=[]:=List.eq_nil_of_length_eq_zero hl.symm
   exact .slemp _ A _ hc
  |sl vs h1 h2 h3 h4 h5=>
   rw[hl]at h1 ⊢;refine .sl vs h1 h2 (fun r Xe hr=>?_) (fun r Xe j p' hr hj=>?_) (fun r Xe j p' hr hj=>?_)
   .obtain⟨row,k1,k2,_⟩:=ih r Xe hr
    rw[<-k2];exact h3 r row k1
   .obtain⟨row,k1,k2,k3⟩:=ih r Xe hr
    obtain⟨p,k4,k5⟩:=k3 j p' hj
    exact h4 r row j p k1 k4
   obtain⟨row,k1,k2,k3⟩:=ih r Xe hr
   obtain⟨p,k4,k5⟩:=k3 j p' hj
   exact k5 (h5 r row j p k1 k4)
 .intro k rows Pr x h;exact h.unf
 .intro l;exact⟨rfl,fun j p h=>⟨p,h,fun h=>h⟩⟩
 .intro p p' l l' _ _ Ob ⟨hl,Nb⟩
  refine⟨by simp[hl],fun j q hq=>?_⟩
  cases j with
  |zero=>simp at hq;subst hq;exact⟨p,rfl,Ob⟩
  |succ j=>simpa using Nb j q (by simpa using hq)
 .intro l;exact⟨rfl,fun r row h=>⟨row,h,rfl,fun j p h=>⟨p,h,fun h=>h⟩⟩⟩
 intro p p' l l' _ _ ⟨te,Ob⟩ ⟨hl,Nb⟩
 refine⟨by simp[hl],fun j q hq=>?_⟩
 cases j with
 |zero=>simp at hq;subst hq;exact⟨p,rfl,te,Ob⟩
 |succ j=>simpa using Nb j q (by simpa using hq)
mutual
inductive LeA:AV->AV->Prop
 |refl (v:AV):LeA v v
 |any (v:AV):LeA v .any
 |p {q q':PV}:LeP q q'->LeA (.p q) (.p q')
 |osl {k d i:Nat} {rows rows':List (List PV)}:LeRows rows rows'->LeA (.osl k rows d i) (.p (.sl k rows'))
 |agg {cs cs':List AV}:LeAs cs cs'->LeA (.agg cs) (.agg cs')
inductive LeAs:List AV->List AV->Prop
 |refl (l:List AV):LeAs l l
 |cons {v v':AV} {l l':List AV}:LeA v v'->LeAs l l'->LeAs (v::l) (v'::l')
end
theorem zCr{Pr:Prot}{φ:Fi2}:(∀{v v':AV},LeA v v'->∀{x:Value},RA Pr φ v x->RA Pr φ v' x)/\(∀{l l':List AV},LeAs l l'->l.length=l'.length/\∀(j:Nat) (v':AV),l'[j]? =some v'->∃v,l[j]? =some v/\∀{x:Value},RA Pr φ v x->RA Pr φ v' x):=by
 have key:∀{v v':AV} (h:LeA v v') {x:Value},RA Pr φ v x->RA Pr φ v' x:=by
  intro v v' h
  refine LeA.rec (motive_1:=fun v v' _=>∀{x:Value},RA Pr φ v x->RA Pr φ v' x)
   (motive_2:=fun l l' _=>l.length=l'.length/\∀(j:Nat) (v':AV),l'[j]? =some v'->∃v,l[j]? =some v/\∀{x:Value},RA Pr φ v x->RA Pr φ v' x) ?_ ?_ ?_ ?_ ?_ ?_ ?_ h
  .intro v x h;exact h
  .intro v x h;exact .any x
  .intro q q' hq x h
   cases h with
   |p h=>exact .p (hq.ok h)
  .intro k d i rows rows' hr x h
   exact .p ((LeP.sl hr).ok h.sl)
  .intro cs cs' _ ⟨hl,ih⟩ x h
   cases h with
   |agg h1 h2=>
    refine .agg (hl ▸ h1) fun j c y hc hy=>?_
    obtain⟨v,k1,k2⟩:=ih j c hc
    exact k2 (h2 j v y k1 hy)
  .intro l;exact⟨rfl,fun j v h=>⟨v,h,fun h=>h⟩⟩
  intro v v' l l' _ _ Ob ⟨hl,Nb⟩
  refine⟨by simp[hl],fun j q hq=>?_⟩
  cases j with
  |zero=>simp at hq;subst hq;exact⟨v,rfl,Ob⟩
  |succ j=>simpa using Nb j q (by simpa using hq)
 refine⟨key,fun {l l'} h=>?_⟩
 have hA:LeA (.agg l) (.agg l'):=.agg h
 refine LeAs.rec (motive_1:=fun v v' _=>True)
  (motive_2:=fun l l' _=>l.length=l'.length/\∀(j:Nat) (v':AV),l'[j]? =some v'->∃v,l[j]? =some v/\∀{x:Value},RA Pr φ v x->RA Pr φ v' x) ?_ ?_ ?_ ?_ ?_ ?_ ?_ h
 .intros;trivial
 .intros;trivial
 .intros;trivial
 .intros;trivial
 .intros;trivial
 .intro l;exact⟨rfl,fun j v h=>⟨v,h,fun h=>h⟩⟩
 intro v v' l l' hv _ _ ⟨hl,Nb⟩
 refine⟨by simp[hl],fun j q hq=>?_⟩
 cases j with
 |zero=>simp at hq;subst hq;exact⟨v,rfl,key hv⟩
 |succ j=>simpa using Nb j q (by simpa using hq)
theorem ADet.sub{F:FuncId}{xs Cd:List AV}{S S':ASt}{r:AV}(ta:LeAs xs Cd)(h:ADet P F Cd S r S'):ADet P F xs S r S':=
 ⟨h.1,fun Pr φ ys w ea hR hne=>by
  obtain⟨hl,hk⟩:=(zCr (Pr:=Pr) (φ:=φ)).2 ta
  exact h.2 Pr φ ys w ⟨hl ▸ ea.1,fun j c x hc hx=>by
   obtain⟨v,k1,k2⟩:=hk j c hc
   exact k2 (ea.2 j v x k1 hx)⟩ hR hne⟩
theorem ADet.less{F:FuncId}{xs:List AV}{S S':ASt}{r r':AV}(ta:LeA r r')(h:ADet P F xs S r S'):ADet P F xs S r' S':=
 ⟨h.1,fun Pr φ ys w ea hR hne=>(h.2 Pr φ ys w ea hR hne).mono fun e w' hp=>by
  obtain⟨x,Pr',φ',h1,h2,h3,h4⟩:=hp
  exact⟨x,Pr',φ',h1,h2,h3,(zCr (Pr:=Pr') (φ:=φ')).1 ta h4⟩⟩
def awpS(P:Program)(ops:Array Oper)(K:List AV->ASt->Prop)(S:ASt):List Oper->List AV->Prop
 | [],fr=>K fr S
 |o::os,fr=>
  match zBU ops o fr with
  |some true=>
   match zCd o fr with
   |some (F,args)=>∃r,ADet P F args S r S/\awpS P ops K S os (putA fr o.dst r)
   |none=>
    match evL P o fr S with
    |some (v,_)=>awpS P ops K S os (putA fr o.dst v)
    |none=>
     match zDM P o fr S with
     |some (v,S')=>S'=S/\awpS P ops K S os (putA fr o.dst v)
     |none=>False
  |some false=>awpS P ops K S os (putA fr o.dst .un)
  |none=>False
def zYc(P:Program)(ops:Array Oper)(K:List AV->ASt->Prop)(S:ASt)(os:List Oper)(fr:List AV)(dst:Option Nat)(r:AV):Prop:=awpS P ops K S os (putA fr dst r)
@[reducible] def CallS (P : Program) (F : Nat) (args : List AV) (S : ASt) (K : AV -> Prop) : Prop:=∃ r,ADet P F args S r S /\ K r
theorem zJU{ops:Array Oper}{K:List AV->ASt->Prop}(os:List Oper)(dst:Option Nat)(r:AV):zYc P ops K S os fr dst r=awpS P ops K S os (putA fr dst r):=rfl
theorem zJV{ops:Array Oper}{K:List AV->ASt->Prop}:awpS P ops K S [] fr=K fr S:=by rw[awpS]
theorem zHc{ops:Array Oper}{K:List AV->ASt->Prop}(o:Oper)(os:List Oper):awpS P ops K S (o::os) fr=(match zBU ops o fr with
  |some true=>
   match zCd o fr with
   |some (F,args)=>CallS P F args S (zYc P ops K S os fr o.dst)
   |none=>
    match evL P o fr S with
    |some (v,_)=>awpS P ops K S os (putA fr o.dst v)
    |none=>
     match zDM P o fr S with
     |some (v,S')=>S'=S/\awpS P ops K S os (putA fr o.dst v)
     |none=>False
  |some false=>awpS P ops K S os (putA fr o.dst .un)
  |none=>False):=by rw[awpS]<;>rfl
theorem zM3{α:Type}{l:List α}{x d:α}(h:∀y∈l,y=x){j:Nat}(hj:j<l.length):l.getD j d=x:=by
 rw[List.getD,List.getElem?_eq_getElem hj];exact h _ (List.getElem_mem hj)
theorem zKZ{Ss:List ASt}{S:ASt}(h:∀T∈Ss,T=S){i m:Nat}(hm:m+1<Ss.length):∀ls:List (Nat × Nat × Nat),LCl Ss i m ls
 | []=>trivial
 |(j,d,k)::ls=>⟨fun _=>by rw[zM3 h hm,zM3 h (by omega)],zKZ h hm ls⟩
theorem zKa{Ss:List ASt}{S:ASt}(h:∀T∈Ss,T=S){ls:List (Nat × Nat × Nat)}:∀Wa:List (Nat × Nat),(∀p∈Wa,p.2+1<Ss.length)->LCp Ss ls Wa
 | [],_=>trivial
 |(i,m)::Wa,hp=>⟨zKZ h (hp (i,m) (by simp)) ls,zKa h Wa fun p hm=>hp p (by simp[hm])⟩
theorem zKb{P:Program}{ops:Array Oper}{Wa:List (Nat × Nat)}{K:List AV->ASt->Prop}{S:ASt}(n:Nat)(hp:∀p∈Wa,p.2<n):∀(os:List Oper) (i:Nat) (fr:List AV) (Vs:List AV) (Ss:List ASt) (ls:List (Nat × Nat × Nat)),Ss.length=i+1->(∀T∈Ss,T=S)->i+os.length=n->
  awpS P ops K S os fr->awpD P ops Wa K os i fr S Vs Ss ls
 | [],i,fr,Vs,Ss,ls,h1,h2,h3,h=>by
  rw[awpS]at h;rw[awpD]
  exact⟨zKa h2 Wa fun p hm=>by have:=hp p hm;simp at h3;omega,h⟩
 |o::os,i,fr,Vs,Ss,ls,h1,h2,h3,h=>by
  have g1:(Ss++[S]).length=(i+1)+1:=by simp[h1]
  have g2:∀T∈Ss++[S],T=S:=fun T hT=>by
   rcases List.mem_append.1 hT with h|h
   .exact h2 T h
   simpa using h
  have g3:i+1+os.length=n:=by simp at h3;omega
  rw[awpS]at h;rw[awpD];split
  .rename_i hw
   rw[hw]at h;simp only at h;split
   .rename_i F args hc
    rw[hc]at h
    obtain⟨r,k1,k2⟩:=h
    exact⟨r,S,k1,zKb n hp os (i+1) _ _ _ _ g1 g2 g3 k2⟩
   rename_i hc
   rw[hc]at h;simp only at h;split
   .rename_i v ref he
    rw[he]at h;exact zKb n hp os (i+1) _ _ _ _ g1 g2 g3 h
   rename_i he
   rw[he]at h;simp only at h;split
   .rename_i v S' hs
    rw[hs]at h
    obtain⟨rfl,h⟩:=h
    exact zKb n hp os (i+1) _ _ _ _ g1 g2 g3 h
   rename_i hs
   rw[hs]at h;exact h.elim
  .rename_i hw
   rw[hw]at h;exact zKb n hp os (i+1) _ _ _ _ g1 g2 g3 h
  rename_i hw
  rw[hw]at h;exact h.elim
theorem zC0{ops:Array Oper}{id:Nat}{Q:Exit->List AV->ASt->Prop}(Wa:List (Nat × Nat))(Aa:zKR ops=true)(We:zIg ops=Wa)(hr:(Wa.all fun p=>decide (p.2<ops.size))=true)(h:awpS P ops (Q .normal) S ops.toList fr):awp P (.region id ops true) fr S Q:=
 zD Wa Aa We (zKb ops.size (fun p hp=>by simpa using List.all_eq_true.1 hr p hp) ops.toList 0 fr [] [S] [] rfl (fun T hT=>by simpa using hT) (by simp) h)
theorem zTY(a b:Bool)(x y:Operand):zT Tryz.prog (do eqGuard .neq 4 x y (.bool a) (.bool b);binOp .neq 4 (.bool a) (.bool b):Sem Value)=some (.bool (a !=b)):=by
 cases a<;>cases b<;>kernel_rfl
theorem zBp{α β:Type}(f:α->β)(s:Sem α)(a:α)(h:zT P s=some a):zT P (f<$>s)=some (f a):=by
 induction s with
 |pure b=>simp[zT]at h;subst h;rfl
 |program k ih=>exact ih P (by simpa [zT]using h)
 |mark m k ih=>exact ih (by simpa [zT]using h)
 |_=>simp[zT]at h
theorem zQC{o:Oper}{x y:Operand}{k:TypeId}(a b:Bool)(ho:o.op= .binOp .neq 4 x y k)(hx:evA fr x=B a)(hy:evA fr y=B b):genP Tryz.prog o fr=some (B (a !=b)):=by
 obtain⟨dst,op,ty,pos,after,guard⟩:=o
 simp only at ho;subst ho
 have h1:(zGo (.binOp .neq 4 x y k)&&zR fr (Op.operands (.binOp .neq 4 x y k)).toList)=true:=by
  show(true&&zR fr [x,y])=true
  rw[Bool.true_and,zR,zR,zR,hx,hy];rfl
 have h2:zT Tryz.prog (execOp (fun z=>(zBM (evA fr z)).getD undef) ⟨dst,.binOp .neq 4 x y k,ty,pos,after,guard⟩)=some (.value (.bool (a !=b))):=by
  have e1:(zBM (evA fr x)).getD undef= .bool a:=by rw[hx];rfl
  have e2:(zBM (evA fr y)).getD undef= .bool b:=by rw[hy];rfl
  unfold execOp;simp only[e1,e2];exact zBp _ _ _ (zTY a b x y)
 unfold genP;simp only;rw[if_pos h1,h2];rfl
noncomputable def genK (o:Oper) (fr:List AV):Option AV:=genP Tryz.prog o fr
@[simp] theorem genP_neq (dst : Option Tmp) (x y : Operand) (k ty : TypeId) (pos : String) (after : Array Edge) (guard : Option (Nat × Bool)) (fr : List AV) :
  genP Tryz.prog ⟨dst,.binOp .neq 4 x y k,ty,pos,after,guard⟩ fr=(match evA fr x,evA fr y with| .p (.v (.bool a)),.p (.v (.bool b))=>some (B (a !=b))|_,_=>genK ⟨dst,.binOp .neq 4 x y k,ty,pos,after,guard⟩ fr):=by
 split
 .rename_i a b hx hy
  exact zQC a b rfl hx hy
 rfl
def zLx(P:Program)(rs:List ResultVar)(r:AV)(S':ASt):Exit->List AV->ASt->Prop:=fun e fr S1=>
 (e= .normal\/e= .ret)/\∃vs,resA P fr S1 rs=some vs/\retA vs=r/\S1=S'
theorem zOH(P:Program)(rs:List ResultVar)(r:AV)(e:Exit)(fr:List AV)(S S1:ASt):zLx P rs r S e fr S1=((e= .normal\/e= .ret)/\∃vs,resA P fr S1 rs=some vs/\retA vs=r/\S1=S):=by rw[zLx]
attribute [simp] zOH
theorem ADet.flat{K:FuncId}{args:List AV}{S S':ASt}{r:AV}{fn:Func}{c:Code}(hm:P.follows .mixedOrders=true)(hK:∀xs w,(callFunc K xs).run P w= .ok (.enter K xs) w)(hf:P.funcs[K]? =some fn)(hb:fn.body=some c)
  (h:awp P c (args++List.replicate (fn.ntmps-args.length) .un) S (zLx P fn.results.toList r S')):ADet P K args S r S':=by
 refine⟨hK,fun Pr φ xs w ea hR hne=>?_⟩
 refine calls_of_wp hf hb ?_
 have eb:RF Pr φ (args++List.replicate (fn.ntmps-args.length) .un) {tmps:=xs++Array.replicate (fn.ntmps-xs.size) undef,defers:=[]}:=by
  refine⟨by simp[ea.1],fun t v x hv hx=>?_⟩
  rcases Nat.lt_or_ge t args.length with ht|ht
  .rw[List.getElem?_append_left ht]at hv
   simp only at hx;rw[Array.getElem?_append_left (by rw[<-ea.1];exact ht)]at hx
   exact ea.2 t v x hv hx
  rw[List.getElem?_append_right ht]at hv
  simp only at hx;rw[Array.getElem?_append_right (by rw[<-ea.1];exact ht)]at hx
  rw[List.getElem?_replicate]at hv;rw[Array.getElem?_replicate]at hx;split at hv
  .split at hx
   .cases hv;cases hx;exact .un
   cases hx
  cases hv
 refine wp_mono (zCx hm c _ Pr φ _ _ S w eb hR hne h) fun e a' w' hp=>?_
 obtain⟨ia,S1,Pr',φ',⟨he,vs,h1,h2,h3⟩,h4,h5,h6,h7⟩:=hp
 obtain⟨x,hx,ua⟩:=zCE (P:=P) (fn:=fn) h4 h5 h1
 subst h3;rw[h2]at hx
 have key:a'.defers=[]/\∃v,(results fn a'.tmps).run P w'= .ok v w'/\∃x Pr' φ',Ending.returned v= .returned x/\Stp Pr φ w Pr' φ' w'/\Rel Pr' φ' S1 w'/\RA Pr' φ' r x:=
  ⟨h7,x,ua,x,Pr',φ',rfl,h6,h5,hx⟩
 rcases he with rfl|rfl
 .exact key
 exact key
theorem ADet.after{K:FuncId}{args:List AV}{S S' Hl:ASt}{r:AV}(hw:wkT S' Hl)(h:ADet P K args S r S'):ADet P K args S r Hl:=
 ⟨h.1,fun Pr φ xs w ea hR hne=>(h.2 Pr φ xs w ea hR hne).mono fun e w' hp=>by
  obtain⟨x,Pr',φ',h1,h2,h3,h4⟩:=hp
  exact⟨x,Pr',φ',h1,h2,zEA h3 (zEC hw),h4⟩⟩
theorem zTZ(a b:Bool)(x y:Operand):zT Tryz.prog (do eqGuard .eql 4 x y (.bool a) (.bool b);binOp .eql 4 (.bool a) (.bool b):Sem Value)=some (.bool (a==b)):=by
 cases a<;>cases b<;>kernel_rfl
theorem zQD{o:Oper}{x y:Operand}{k:TypeId}(a b:Bool)(ho:o.op= .binOp .eql 4 x y k)(hx:evA fr x=B a)(hy:evA fr y=B b):genP Tryz.prog o fr=some (B (a==b)):=by
 obtain⟨dst,op,ty,pos,after,guard⟩:=o
 simp only at ho;subst ho
 have h1:(zGo (.binOp .eql 4 x y k)&&zR fr (Op.operands (.binOp .eql 4 x y k)).toList)=true:=by
  show(true&&zR fr [x,y])=true
  rw[Bool.true_and,zR,zR,zR,hx,hy];rfl
 have h2:zT Tryz.prog (execOp (fun z=>(zBM (evA fr z)).getD undef) ⟨dst,.binOp .eql 4 x y k,ty,pos,after,guard⟩)=some (.value (.bool (a==b))):=by
  have e1:(zBM (evA fr x)).getD undef= .bool a:=by rw[hx];rfl
  have e2:(zBM (evA fr y)).getD undef= .bool b:=by rw[hy];rfl
  unfold execOp;simp only[e1,e2];exact zBp _ _ _ (zTZ a b x y)
 unfold genP;simp only;rw[if_pos h1,h2];rfl
@[simp] theorem genP_eql (dst : Option Tmp) (x y : Operand) (k ty : TypeId) (pos : String) (after : Array Edge) (guard : Option (Nat × Bool)) (fr : List AV) :
  genP Tryz.prog ⟨dst,.binOp .eql 4 x y k,ty,pos,after,guard⟩ fr=(match evA fr x,evA fr y with| .p (.v (.bool a)),.p (.v (.bool b))=>some (B (a==b))|_,_=>genK ⟨dst,.binOp .eql 4 x y k,ty,pos,after,guard⟩ fr):=by
 split
 .rename_i a b hx hy
  exact zQD a b rfl hx hy
 rfl
theorem zBq{α:Type}(S:List (List α))(d:Nat){i j:Nat}(o:α)(h:i≠j):get2 (set2 S d i o) d j=get2 S d j:=by
 unfold get2 set2
 rcases Nat.lt_or_ge d S.length with hd|hd
 .rw[List.getElem?_set_self hd,List.getElem?_eq_getElem hd]
  simp only[Option.bind_some];rw[List.getElem?_set_ne h];simp[List.getD,hd]
 rw[List.set_eq_of_length_le hd]
theorem zKc{α:Type}(S:List (List α))(d:Nat){i j:Nat}(a b:α)(h:i≠j):set2 (set2 S d j a) d i b=set2 (set2 S d i b) d j a:=by
 unfold set2
 rcases Nat.lt_or_ge d S.length with hd|hd
 .simp[List.getD,hd,List.set_comm _ _ h]
 simp[List.set_eq_of_length_le hd]
end Go.Proofs.YtgpajpilkapciaaGreatDoor
