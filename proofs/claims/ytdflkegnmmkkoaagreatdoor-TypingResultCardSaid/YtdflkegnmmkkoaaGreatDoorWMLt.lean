/- A part of the proof. -/
import Derived.Test.YtdflkegnmmkkoaaGreatDoorWMLb
import Derived.Test.YtdflkegnmmkkoaaGreatDoorRows
set_option linter.unusedVariables false
set_option linter.unusedSimpArgs false
set_option maxRecDepth 100000
set_option maxHeartbeats 32000000
namespace Go.Proofs.YtdflkegnmmkkoaaGreatDoor
open Go.RowKit
variable{P:Program}{S:ASt}{fr:List AV}
set_option maxRecDepth 100000
theorem zWt:Tryz.prog.cellsOf 1=1:=by kernel_rfl
theorem zZH:zAv Tryz.prog 1=some [Value.nilFunc]:=by kernel_rfl
theorem zWu:Tryz.prog.cellsOf 2=1:=by kernel_rfl
theorem zbY:(Tryz.prog.info? 2).isSome=true:=by kernel_rfl
theorem zWv:Tryz.prog.cellsOf 3=1:=by kernel_rfl
theorem zZI:zAv Tryz.prog 3=some [Value.int IntKind.i64 0]:=by kernel_rfl
theorem zbZ:(Tryz.prog.info? 3).isSome=true:=by kernel_rfl
theorem zWw:Tryz.prog.cellsOf 4=1:=by kernel_rfl
theorem zZJ:zAv Tryz.prog 4=some [Value.bool false]:=by kernel_rfl
theorem zba:(Tryz.prog.info? 4).isSome=true:=by kernel_rfl
theorem zWx:Tryz.prog.cellsOf 5=1:=by kernel_rfl
theorem zbb:(Tryz.prog.info? 5).isSome=true:=by kernel_rfl
theorem zWy:Tryz.prog.cellsOf 9=1:=by kernel_rfl
theorem zZK:zAv Tryz.prog 9=some [Value.string {data:=#[]}]:=by kernel_rfl
theorem zbc:(Tryz.prog.info? 9).isSome=true:=by kernel_rfl
theorem zTb:Tryz.prog.cellsOf 22=1:=by kernel_rfl
theorem zZL:(Tryz.prog.info? 22).isSome=true:=by kernel_rfl
theorem zWz:z8 Tryz.prog 22=45:=by kernel_rfl
theorem zZM:zER Tryz.prog 22 45 16=true:=by kernel_rfl
theorem zTc:Tryz.prog.cellsOf 24=1:=by kernel_rfl
theorem zW0:zAv Tryz.prog 24=some [Value.slice none 0 0]:=by kernel_rfl
theorem zZN:(Tryz.prog.info? 24).isSome=true:=by kernel_rfl
theorem zTd:Tryz.prog.cellsOf 27=1:=by kernel_rfl
theorem zW1:zAv Tryz.prog 27=some [Value.slice none 0 0]:=by kernel_rfl
theorem zZO:(Tryz.prog.info? 27).isSome=true:=by kernel_rfl
theorem zW2:z8 Tryz.prog 27=32:=by kernel_rfl
theorem zZP:zER Tryz.prog 27 32 2=true:=by kernel_rfl
theorem zTe:Tryz.prog.cellsOf 30=1:=by kernel_rfl
theorem zZQ:(Tryz.prog.info? 30).isSome=true:=by kernel_rfl
theorem zTf:Tryz.prog.cellsOf 32=2:=by kernel_rfl
theorem zW3:zAv Tryz.prog 32=some [Value.int IntKind.i64 0,Value.int IntKind.i64 0]:=by kernel_rfl
theorem zZR:(Tryz.prog.info? 32).isSome=true:=by kernel_rfl
theorem zTg:Tryz.prog.cellsOf 33=1:=by kernel_rfl
theorem zZS:(Tryz.prog.info? 33).isSome=true:=by kernel_rfl
theorem zW4:z8 Tryz.prog 33=60:=by kernel_rfl
theorem zZT:zER Tryz.prog 33 60 4=true:=by kernel_rfl
theorem zTh:Tryz.prog.cellsOf 34=1:=by kernel_rfl
theorem zZU:(Tryz.prog.info? 34).isSome=true:=by kernel_rfl
theorem zW5:z8 Tryz.prog 34=36:=by kernel_rfl
theorem zZV:zER Tryz.prog 34 36 3=true:=by kernel_rfl
theorem zTi:Tryz.prog.cellsOf 36=3:=by kernel_rfl
theorem zW6:zAv Tryz.prog 36=some [Value.int IntKind.u8 0,Value.string {data:=#[]},Value.slice none 0 0]:=by kernel_rfl
theorem zZW:(Tryz.prog.info? 36).isSome=true:=by kernel_rfl
theorem zTj:Tryz.prog.cellsOf 37=1:=by kernel_rfl
theorem zW7:zAv Tryz.prog 37=some [Value.slice none 0 0]:=by kernel_rfl
theorem zZX:(Tryz.prog.info? 37).isSome=true:=by kernel_rfl
theorem zW8:z8 Tryz.prog 37=49:=by kernel_rfl
theorem zZY:zER Tryz.prog 37 49 15=true:=by kernel_rfl
theorem zTk:Tryz.prog.cellsOf 38=1:=by kernel_rfl
theorem zZZ:(Tryz.prog.info? 38).isSome=true:=by kernel_rfl
theorem zW9:z8 Tryz.prog 38=9:=by kernel_rfl
theorem zZa:zER Tryz.prog 38 9 1=true:=by kernel_rfl
theorem zTl:Tryz.prog.cellsOf 40=2:=by kernel_rfl
theorem zXA:zAv Tryz.prog 40=some [Value.string {data:=#[]},Value.slice none 0 0]:=by kernel_rfl
theorem zZb:(Tryz.prog.info? 40).isSome=true:=by kernel_rfl
theorem zTm:Tryz.prog.cellsOf 41=1:=by kernel_rfl
theorem zZc:(Tryz.prog.info? 41).isSome=true:=by kernel_rfl
theorem zXB:z8 Tryz.prog 41=43:=by kernel_rfl
theorem zZd:zER Tryz.prog 41 43 8=true:=by kernel_rfl
theorem zTn:Tryz.prog.cellsOf 43=8:=by kernel_rfl
theorem zXC:zAv Tryz.prog 43=some [Value.int IntKind.u8 0,Value.int IntKind.i64 0,Value.string {data:=#[]},Value.string {data:=#[]},Value.string {data:=#[]},Value.slice none 0 0,Value.slice none 0 0,Value.int IntKind.i64 0]:=by kernel_rfl
theorem zZe:(Tryz.prog.info? 43).isSome=true:=by kernel_rfl
theorem zTo:Tryz.prog.cellsOf 45=16:=by kernel_rfl
theorem zXD:zAv Tryz.prog 45=some [Value.int IntKind.u8 0,Value.string {data:=#[]},Value.slice none 0 0,Value.int IntKind.u8 0,Value.string {data:=#[]},Value.slice none 0 0,Value.slice none 0 0,Value.int IntKind.u8 0,Value.int IntKind.i64 0,Value.string {data:=#[]},Value.string {data:=#[]},Value.string {data:=#[]},Value.slice none 0 0,Value.slice none 0 0,Value.int IntKind.i64 0,Value.int IntKind.i64 0]:=by kernel_rfl
theorem zTp:Tryz.prog.cellsOf 47=1:=by kernel_rfl
theorem zZf:(Tryz.prog.info? 47).isSome=true:=by kernel_rfl
theorem zXE:z8 Tryz.prog 47=94:=by kernel_rfl
theorem zZg:zER Tryz.prog 47 94 3=true:=by kernel_rfl
theorem zTq:Tryz.prog.cellsOf 49=15:=by kernel_rfl
theorem zXF:zAv Tryz.prog 49=some [Value.int IntKind.u8 0,Value.string {data:=#[]},Value.string {data:=#[]},Value.slice none 0 0,Value.int IntKind.u8 0,Value.string {data:=#[]},Value.slice none 0 0,Value.int IntKind.i64 0,Value.string {data:=#[]},Value.slice none 0 0,Value.slice none 0 0,Value.slice none 0 0,Value.slice none 0 0,Value.slice none 0 0,Value.int IntKind.i64 0]:=by kernel_rfl
theorem zTr:Tryz.prog.cellsOf 60=4:=by kernel_rfl
theorem zXG:zAv Tryz.prog 60=some [Value.string {data:=#[]},Value.int IntKind.u8 0,Value.string {data:=#[]},Value.slice none 0 0]:=by kernel_rfl
theorem zTs:Tryz.prog.cellsOf 68=1:=by kernel_rfl
theorem zXH:zAv Tryz.prog 68=some [Value.int IntKind.i64 0]:=by kernel_rfl
theorem zTt:Tryz.prog.cellsOf 74=1:=by kernel_rfl
theorem zXI:zAv Tryz.prog 74=some [Value.pointer none]:=by kernel_rfl
theorem zTu:Tryz.prog.cellsOf 76=2:=by kernel_rfl
theorem zXJ:zAv Tryz.prog 76=some [Value.slice none 0 0,Value.slice none 0 0]:=by kernel_rfl
theorem zTv:Tryz.prog.cellsOf 82=1:=by kernel_rfl
theorem zTw:Tryz.prog.cellsOf 86=1:=by kernel_rfl
theorem zZh:(Tryz.prog.info? 86).isSome=true:=by kernel_rfl
theorem zTx:Tryz.prog.cellsOf 94=3:=by kernel_rfl
theorem zXK:zAv Tryz.prog 94=some [Value.string {data:=#[]},Value.string {data:=#[]},Value.slice none 0 0]:=by kernel_rfl
theorem zTz:Tryz.prog.cellsOf 95=1:=by kernel_rfl
theorem zZi:(Tryz.prog.info? 95).isSome=true:=by kernel_rfl
theorem zT0:Tryz.prog.cellsOf 96=1:=by kernel_rfl
theorem zZj:(Tryz.prog.info? 96).isSome=true:=by kernel_rfl
theorem zT1:Tryz.prog.cellsOf 98=3:=by kernel_rfl
theorem zXL:zAv Tryz.prog 98=some [Value.map none,Value.map none,Value.slice none 0 0]:=by kernel_rfl
theorem zXM:z8 Tryz.prog 99=4:=by kernel_rfl
theorem zZk:zER Tryz.prog 99 4 1=true:=by kernel_rfl
theorem zQv:Tryz.prog.cellsOf 103=1:=by kernel_rfl
theorem zT2:zAv Tryz.prog 103=some [Value.pointer none]:=by kernel_rfl
theorem zQw:Tryz.prog.cellsOf 106=1:=by kernel_rfl
theorem zT3:zAv Tryz.prog 106=some [Value.bool false]:=by kernel_rfl
theorem zQx:Tryz.prog.cellsOf 107=1:=by kernel_rfl
theorem zXN:(Tryz.prog.info? 107).isSome=true:=by kernel_rfl
theorem zQy:Tryz.prog.cellsOf 109=4:=by kernel_rfl
theorem zT4:zAv Tryz.prog 109=some [Value.pointer none,Value.map none,Value.int IntKind.i64 0,Value.int IntKind.i64 0]:=by kernel_rfl
theorem zQz:Tryz.prog.cellsOf 113=1:=by kernel_rfl
theorem zT5:zAv Tryz.prog 113=some [Value.slice none 0 0]:=by kernel_rfl
theorem zQ0:Tryz.prog.cellsOf 116=2:=by kernel_rfl
theorem zT6:zAv Tryz.prog 116=some [Value.int IntKind.i64 0,Value.int IntKind.i64 0]:=by kernel_rfl
theorem zQ1:Tryz.prog.cellsOf 124=2:=by kernel_rfl
theorem zT7:zAv Tryz.prog 124=some [Value.int IntKind.u8 0,Value.int IntKind.u8 0]:=by kernel_rfl
theorem zXO:(Tryz.prog.info? 124).isSome=true:=by kernel_rfl
theorem zQ2:Tryz.prog.cellsOf 125=22:=by kernel_rfl
theorem zT8:zAv Tryz.prog 125=some [Value.int IntKind.u8 0,Value.int IntKind.u8 0,Value.int IntKind.u8 0,Value.int IntKind.u8 0,Value.int IntKind.u8 0,Value.int IntKind.u8 0,Value.int IntKind.u8 0,Value.int IntKind.u8 0,Value.int IntKind.u8 0,Value.int IntKind.u8 0,Value.int IntKind.u8 0,Value.int IntKind.u8 0,Value.int IntKind.u8 0,Value.int IntKind.u8 0,Value.int IntKind.u8 0,Value.int IntKind.u8 0,Value.int IntKind.u8 0,Value.int IntKind.u8 0,Value.int IntKind.u8 0,Value.int IntKind.u8 0,Value.int IntKind.u8 0,Value.int IntKind.u8 0]:=by kernel_rfl
theorem zQ3:Tryz.prog.cellsOf 132=1:=by kernel_rfl
theorem zT9:zAv Tryz.prog 132=some [Value.nilFunc]:=by kernel_rfl
theorem zQ4:Tryz.prog.cellsOf 133=1:=by kernel_rfl
theorem zUA:zAv Tryz.prog 133=some [Value.nilFunc]:=by kernel_rfl
theorem zQ5:Tryz.prog.cellsOf 134=1:=by kernel_rfl
theorem zUB:zAv Tryz.prog 134=some [Value.nilFunc]:=by kernel_rfl
theorem zQ6:Tryz.prog.cellsOf 137=1:=by kernel_rfl
theorem zUC:zAv Tryz.prog 137=some [Value.nilFunc]:=by kernel_rfl
theorem zQ7:Tryz.prog.cellsOf 140=1:=by kernel_rfl
theorem zUD:zAv Tryz.prog 140=some [Value.nilFunc]:=by kernel_rfl
theorem zQ8:Tryz.prog.cellsOf 142=1:=by kernel_rfl
theorem zUE:zAv Tryz.prog 142=some [Value.nilFunc]:=by kernel_rfl
theorem zQ9:Tryz.prog.cellsOf 148=3:=by kernel_rfl
theorem zUF:zAv Tryz.prog 148=some [Value.bool false,Value.int IntKind.i64 0,Value.int IntKind.i64 0]:=by kernel_rfl
theorem zRA:Tryz.prog.cellsOf 158=1:=by kernel_rfl
theorem zXP:(Tryz.prog.info? 158).isSome=true:=by kernel_rfl
theorem zUG:z8 Tryz.prog 158=167:=by kernel_rfl
theorem zXQ:zER Tryz.prog 158 167 3=true:=by kernel_rfl
theorem zRB:Tryz.prog.cellsOf 164=4:=by kernel_rfl
theorem zUH:zAv Tryz.prog 164=some [Value.slice none 0 0,Value.int IntKind.i64 0,Value.bool false,Value.bool false]:=by kernel_rfl
theorem zRC:Tryz.prog.cellsOf 167=3:=by kernel_rfl
theorem zUI:zAv Tryz.prog 167=some [Value.int IntKind.u8 0,Value.string {data:=#[]},Value.int IntKind.i64 0]:=by kernel_rfl
theorem zRD:Tryz.prog.cellsOf 171=1:=by kernel_rfl
theorem zUJ:zAv Tryz.prog 171=some [Value.nilFunc]:=by kernel_rfl
theorem zRE:Tryz.prog.cellsOf 173=1:=by kernel_rfl
theorem zUK:zAv Tryz.prog 173=some [Value.map none]:=by kernel_rfl
theorem zUL:z8 Tryz.prog 174=1:=by kernel_rfl
theorem zXR:zER Tryz.prog 174 1 1=true:=by kernel_rfl
theorem zRF:Tryz.prog.cellsOf 184=5:=by kernel_rfl
theorem zUM:zAv Tryz.prog 184=some [Value.int IntKind.u8 0,Value.string {data:=#[]},Value.slice none 0 0,Value.bool false,Value.bool false]:=by kernel_rfl
theorem zRG:Tryz.prog.cellsOf 202=1:=by kernel_rfl
theorem zUN:zAv Tryz.prog 202=some [Value.nilFunc]:=by kernel_rfl
theorem zRH:Tryz.prog.cellsOf 220=1:=by kernel_rfl
theorem zUO:zAv Tryz.prog 220=some [Value.map none]:=by kernel_rfl
theorem zRI:Tryz.prog.cellsOf 231=10:=by kernel_rfl
theorem zUP:zAv Tryz.prog 231=some [Value.int IntKind.i64 0,Value.int IntKind.i64 0,Value.bool false,Value.bool false,Value.bool false,Value.bool false,Value.bool false,Value.bool false,Value.nilFunc,Value.nilFunc]:=by kernel_rfl
theorem zRJ:Tryz.prog.cellsOf 241=1:=by kernel_rfl
theorem zXS:(Tryz.prog.info? 241).isSome=true:=by kernel_rfl
theorem zRK:Tryz.prog.cellsOf 243=2:=by kernel_rfl
theorem zUQ:zAv Tryz.prog 243=some [Value.bool false,Value.int IntKind.u64 0]:=by kernel_rfl
theorem zUR:zHb Tryz.prog 45=some (.agg [.p (.v (Value.int IntKind.u8 0)),.p (.v (Value.string {data:=#[]})),.p (.v (Value.slice none 0 0)),.p (.v (Value.int IntKind.u8 0)),.p (.v (Value.string {data:=#[]})),.p (.v (Value.slice none 0 0)),.p (.v (Value.slice none 0 0)),.p (.v (Value.int IntKind.u8 0)),.p (.v (Value.int IntKind.i64 0)),.p (.v (Value.string {data:=#[]})),.p (.v (Value.string {data:=#[]})),.p (.v (Value.string {data:=#[]})),.p (.v (Value.slice none 0 0)),.p (.v (Value.slice none 0 0)),.p (.v (Value.int IntKind.i64 0)),.p (.v (Value.int IntKind.i64 0))]):=by kernel_rfl
theorem zRL:zHb Tryz.prog 106=some (.agg [.p (.v (Value.bool false))]):=by kernel_rfl
theorem zXT:zHb Tryz.prog 3=some (.p (.v (Value.int IntKind.i64 0))):=by kernel_rfl
theorem zXU:zHb Tryz.prog 5=some (.p (.v (Value.int IntKind.u8 0))):=by kernel_rfl
theorem zRM:zHb Tryz.prog 247=some (.p (.v (Value.nilFunc))):=by kernel_rfl
attribute [simp] zWt zZH zWu zbY zWv zZI zbZ zWw zZJ zba zWx zbb zWy zZK zbc zTb zZL zWz zZM zTc zW0 zZN zTd zW1 zZO zW2 zZP zTe zZQ zTf zW3 zZR zTg zZS zW4 zZT zTh zZU zW5 zZV zTi zW6 zZW zTj zW7 zZX zW8 zZY zTk zZZ zW9 zZa zTl zXA zZb zTm zZc zXB zZd zTn zXC zZe zTo zXD zTp zZf zXE zZg zTq zXF zTr zXG zTs zXH zTt zXI zTu zXJ zTv zTw zZh zTx zXK zTz zZi zT0 zZj zT1 zXL zXM zZk zQv zT2 zQw zT3 zQx zXN zQy zT4 zQz zT5 zQ0 zT6 zQ1 zT7 zXO zQ2 zT8 zQ3 zT9 zQ4 zUA zQ5 zUB zQ6 zUC zQ7 zUD zQ8 zUE zQ9 zUF zRA zXP zUG zXQ zRB zUH zRC zUI zRD zUJ zRE zUK zUL zXR zRF zUM zRG zUN zRH zUO zRI zUP zRJ zXS zRK zUQ zUR zRL zXT zXU zRM
theorem mixed:Tryz.prog.follows .mixedOrders=true:=by kernel_rfl
mutual
inductive LeP:PV->PV->Prop
 |refl (p:PV):LeP p p
 |nil (k:Nat):LeP (.v (.slice none 0 0)) (.sl k [])
 |sl {k:Nat} {rows rows':List (List PV)}:LeRows rows rows'->LeP (.sl k rows) (.sl k rows')
inductive LeRow:List PV->List PV->Prop
 |refl (l:List PV):LeRow l l
 |cons {p p':PV} {l l':List PV}:LeP p p'->LeRow l l'->LeRow (p::l) (p'::l')
inductive LeRows:List (List PV)->List (List PV)->Prop
 |refl (l:List (List PV)):LeRows l l
 |cons {p p':List PV} {l l':List (List PV)}:LeRow p p'->LeRows l l'->LeRows (p::l) (p'::l')
end
theorem LeP.ok{p p':PV}(h:LeP p p'):∀{Pr:Prot} {x:Value},RP Pr p x->RP Pr p' x:=by
 refine LeP.rec (motive_1:=fun p p' _=>∀{Pr:Prot} {x:Value},RP Pr p x->RP Pr p' x)
  (motive_2:=fun l l' _=>l.length=l'.length/\∀(j:Nat) (p':PV),l'[j]? =some p'->∃p,l[j]? =some p/\∀{Pr:Prot} {x:Value},RP Pr p x->RP Pr p' x)
  (motive_3:=fun l l' _=>l.length=l'.length/\∀(r:Nat) (df:List PV),l'[r]? =some df->∃row,l[r]? =some row/\row.length=df.length/\∀(j:Nat) (p':PV),df[j]? =some p'->∃p,row[j]? =some p/\∀{Pr:Prot} {x:Value},RP Pr p x->RP Pr p' x)
  ?_ ?_ ?_ ?_ ?_ ?_ ?_ h
 .intro p Pr x h;exact h
 .intro k Pr x h
  cases h with
  |v h=>exact .slemp k none 0 (Nat.zero_le _)
 .intro k rows rows' _ ⟨hl,ih⟩ Pr x h
  cases h with
  |slemp _ A cap hc=>
   obtain rfl:rows'=[]:=List.eq_nil_of_length_eq_zero hl.symm
   exact .slemp _ A _ hc
  |sl vs h1 h2 h3 h4 h5=>
   rw[hl]at h1 ⊢;refine .sl vs h1 h2 (fun r df hr=>?_) (fun r df j p' hr hj=>?_) (fun r df j p' hr hj=>?_)
   .obtain⟨row,k1,k2,_⟩:=ih r df hr
    rw[<-k2];exact h3 r row k1
   .obtain⟨row,k1,k2,k3⟩:=ih r df hr
    obtain⟨p,k4,k5⟩:=k3 j p' hj
    exact h4 r row j p k1 k4
   obtain⟨row,k1,k2,k3⟩:=ih r df hr
   obtain⟨p,k4,k5⟩:=k3 j p' hj
   exact k5 (h5 r row j p k1 k4)
 .intro l;exact⟨rfl,fun j p h=>⟨p,h,fun h=>h⟩⟩
 .intro p p' l l' _ _ Ub ⟨hl,Mb⟩
  refine⟨by simp[hl],fun j q hq=>?_⟩
  cases j with
  |zero=>simp at hq;subst hq;exact⟨p,rfl,Ub⟩
  |succ j=>simpa using Mb j q (by simpa using hq)
 .intro l;exact⟨rfl,fun r row h=>⟨row,h,rfl,fun j p h=>⟨p,h,fun h=>h⟩⟩⟩
 intro p p' l l' _ _ ⟨ab,Ub⟩ ⟨hl,Mb⟩
 refine⟨by simp[hl],fun j q hq=>?_⟩
 cases j with
 |zero=>simp at hq;subst hq;exact⟨p,rfl,ab,Ub⟩
 |succ j=>simpa using Mb j q (by simpa using hq)
mutual
inductive LeA:AV->AV->Prop
 |refl (v:AV):LeA v v
 |any (v:AV):LeA v .any
 |p {q q':PV}:LeP q q'->LeA (.p q) (.p q')
 |osl {k d i:Nat} {rows rows':List (List PV)}:LeRows rows rows'->LeA (.osl k rows d i) (.p (.sl k rows'))
 |agg {cs cs':List AV}:LeAs cs cs'->LeA (.agg cs) (.agg cs')
inductive LeAs:List AV->List AV->Prop
 |refl (l:List AV):LeAs l l
 |cons {v v':AV} {l l':List AV}:LeA v v'->LeAs l l'->LeAs (v::l) (v'::l')
end
theorem zDz{Pr:Prot}{φ:Fi2}:(∀{v v':AV},LeA v v'->∀{x:Value},RA Pr φ v x->RA Pr φ v' x)/\(∀{l l':List AV},LeAs l l'->l.length=l'.length/\∀(j:Nat) (v':AV),l'[j]? =some v'->∃v,l[j]? =some v/\∀{x:Value},RA Pr φ v x->RA Pr φ v' x):=by
 have key:∀{v v':AV} (h:LeA v v') {x:Value},RA Pr φ v x->RA Pr φ v' x:=by
  intro v v' h
  refine LeA.rec (motive_1:=fun v v' _=>∀{x:Value},RA Pr φ v x->RA Pr φ v' x)
   (motive_2:=fun l l' _=>l.length=l'.length/\∀(j:Nat) (v':AV),l'[j]? =some v'->∃v,l[j]? =some v/\∀{x:Value},RA Pr φ v x->RA Pr φ v' x) ?_ ?_ ?_ ?_ ?_ ?_ ?_ h
  .intro v x h;exact h
  .intro v x h;exact .any x
  .intro q q' hq x h
   cases h with
   |p h=>exact .p (hq.ok h)
  .intro k d i rows rows' hr x h
   exact .p ((LeP.sl hr).ok h.sl)
  .intro cs cs' _ ⟨hl,ih⟩ x h
   cases h with
   |agg h1 h2=>
    refine .agg (hl ▸ h1) fun j c y hc hy=>?_
    obtain⟨v,k1,k2⟩:=ih j c hc
    exact k2 (h2 j v y k1 hy)
  .intro l;exact⟨rfl,fun j v h=>⟨v,h,fun h=>h⟩⟩
  intro v v' l l' _ _ Ub ⟨hl,Mb⟩
  refine⟨by simp[hl],fun j q hq=>?_⟩
  cases j with
  |zero=>simp at hq;subst hq;exact⟨v,rfl,Ub⟩
  |succ j=>simpa using Mb j q (by simpa using hq)
 refine⟨key,fun {l l'} h=>?_⟩
 have hA:LeA (.agg l) (.agg l'):=.agg h
 refine LeAs.rec (motive_1:=fun v v' _=>True)
  (motive_2:=fun l l' _=>l.length=l'.length/\∀(j:Nat) (v':AV),l'[j]? =some v'->∃v,l[j]? =some v/\∀{x:Value},RA Pr φ v x->RA Pr φ v' x) ?_ ?_ ?_ ?_ ?_ ?_ ?_ h
 .intros;trivial
 .intros;trivial
 .intros;trivial
 .intros;trivial
 .intros;trivial
 .intro l;exact⟨rfl,fun j v h=>⟨v,h,fun h=>h⟩⟩
 intro v v' l l' hv _ _ ⟨hl,Mb⟩
 refine⟨by simp[hl],fun j q hq=>?_⟩
 cases j with
 |zero=>simp at hq;subst hq;exact⟨v,rfl,key hv⟩
 |succ j=>simpa using Mb j q (by simpa using hq)
theorem ADet.sub{F:FuncId}{xs Kd:List AV}{S S':ASt}{r:AV}(oa:LeAs xs Kd)(h:ADet P F Kd S r S'):ADet P F xs S r S':=
 ⟨h.1,fun Pr φ ys w da hR hne=>by
  obtain⟨hl,hk⟩:=(zDz (Pr:=Pr) (φ:=φ)).2 oa
  exact h.2 Pr φ ys w ⟨hl ▸ da.1,fun j c x hc hx=>by
   obtain⟨v,k1,k2⟩:=hk j c hc
   exact k2 (da.2 j v x k1 hx)⟩ hR hne⟩
theorem ADet.less{F:FuncId}{xs:List AV}{S S':ASt}{r r':AV}(oa:LeA r r')(h:ADet P F xs S r S'):ADet P F xs S r' S':=
 ⟨h.1,fun Pr φ ys w da hR hne=>(h.2 Pr φ ys w da hR hne).mono fun e w' hp=>by
  obtain⟨x,Pr',φ',h1,h2,h3,h4⟩:=hp
  exact⟨x,Pr',φ',h1,h2,h3,(zDz (Pr:=Pr') (φ:=φ')).1 oa h4⟩⟩
def awpS(P:Program)(ops:Array Oper)(K:List AV->ASt->Prop)(S:ASt):List Oper->List AV->Prop
 | [],fr=>K fr S
 |o::os,fr=>
  match zBk ops o fr with
  |some true=>
   match zCl o fr with
   |some (F,args)=>∃r,ADet P F args S r S/\awpS P ops K S os (putA fr o.dst r)
   |none=>
    match evL P o fr S with
    |some (v,_)=>awpS P ops K S os (putA fr o.dst v)
    |none=>
     match zDu P o fr S with
     |some (v,S')=>S'=S/\awpS P ops K S os (putA fr o.dst v)
     |none=>False
  |some false=>awpS P ops K S os (putA fr o.dst .un)
  |none=>False
def zZl(P:Program)(ops:Array Oper)(K:List AV->ASt->Prop)(S:ASt)(os:List Oper)(fr:List AV)(dst:Option Nat)(r:AV):Prop:=awpS P ops K S os (putA fr dst r)
@[reducible] def CallS (P : Program) (F : Nat) (args : List AV) (S : ASt) (K : AV -> Prop) : Prop:=∃ r,ADet P F args S r S /\ K r
theorem zJw{ops:Array Oper}{K:List AV->ASt->Prop}(os:List Oper)(dst:Option Nat)(r:AV):zZl P ops K S os fr dst r=awpS P ops K S os (putA fr dst r):=rfl
theorem zJx{ops:Array Oper}{K:List AV->ASt->Prop}:awpS P ops K S [] fr=K fr S:=by rw[awpS]
theorem zHo{ops:Array Oper}{K:List AV->ASt->Prop}(o:Oper)(os:List Oper):awpS P ops K S (o::os) fr=(match zBk ops o fr with
  |some true=>
   match zCl o fr with
   |some (F,args)=>CallS P F args S (zZl P ops K S os fr o.dst)
   |none=>
    match evL P o fr S with
    |some (v,_)=>awpS P ops K S os (putA fr o.dst v)
    |none=>
     match zDu P o fr S with
     |some (v,S')=>S'=S/\awpS P ops K S os (putA fr o.dst v)
     |none=>False
  |some false=>awpS P ops K S os (putA fr o.dst .un)
  |none=>False):=by rw[awpS]<;>rfl
theorem zNg{α:Type}{l:List α}{x d:α}(h:∀y∈l,y=x){j:Nat}(hj:j<l.length):l.getD j d=x:=by
 rw[List.getD,List.getElem?_eq_getElem hj];exact h _ (List.getElem_mem hj)
theorem zK9{Ss:List ASt}{S:ASt}(h:∀T∈Ss,T=S){i m:Nat}(hm:m+1<Ss.length):∀ls:List (Nat × Nat × Nat),LCl Ss i m ls
 | []=>trivial
 |(j,d,k)::ls=>⟨fun _=>by rw[zNg h hm,zNg h (by omega)],zK9 h hm ls⟩
theorem zLA{Ss:List ASt}{S:ASt}(h:∀T∈Ss,T=S){ls:List (Nat × Nat × Nat)}:∀jb:List (Nat × Nat),(∀p∈jb,p.2+1<Ss.length)->LCp Ss ls jb
 | [],_=>trivial
 |(i,m)::jb,hp=>⟨zK9 h (hp (i,m) (by simp)) ls,zLA h jb fun p hm=>hp p (by simp[hm])⟩
theorem zLB{P:Program}{ops:Array Oper}{jb:List (Nat × Nat)}{K:List AV->ASt->Prop}{S:ASt}(n:Nat)(hp:∀p∈jb,p.2<n):∀(os:List Oper) (i:Nat) (fr:List AV) (Vs:List AV) (Ss:List ASt) (ls:List (Nat × Nat × Nat)),Ss.length=i+1->(∀T∈Ss,T=S)->i+os.length=n->
  awpS P ops K S os fr->awpD P ops jb K os i fr S Vs Ss ls
 | [],i,fr,Vs,Ss,ls,h1,h2,h3,h=>by
  rw[awpS]at h;rw[awpD]
  exact⟨zLA h2 jb fun p hm=>by have:=hp p hm;simp at h3;omega,h⟩
 |o::os,i,fr,Vs,Ss,ls,h1,h2,h3,h=>by
  have g1:(Ss++[S]).length=(i+1)+1:=by simp[h1]
  have g2:∀T∈Ss++[S],T=S:=fun T hT=>by
   rcases List.mem_append.1 hT with h|h
   .exact h2 T h
   simpa using h
  have g3:i+1+os.length=n:=by simp at h3;omega
  rw[awpS]at h;rw[awpD];split
  .rename_i hw
   rw[hw]at h;simp only at h;split
   .rename_i F args hc
    rw[hc]at h
    obtain⟨r,k1,k2⟩:=h
    exact⟨r,S,k1,zLB n hp os (i+1) _ _ _ _ g1 g2 g3 k2⟩
   rename_i hc
   rw[hc]at h;simp only at h;split
   .rename_i v ref he
    rw[he]at h;exact zLB n hp os (i+1) _ _ _ _ g1 g2 g3 h
   rename_i he
   rw[he]at h;simp only at h;split
   .rename_i v S' hs
    rw[hs]at h
    obtain⟨rfl,h⟩:=h
    exact zLB n hp os (i+1) _ _ _ _ g1 g2 g3 h
   rename_i hs
   rw[hs]at h;exact h.elim
  .rename_i hw
   rw[hw]at h;exact zLB n hp os (i+1) _ _ _ _ g1 g2 g3 h
  rename_i hw
  rw[hw]at h;exact h.elim
theorem zC8{ops:Array Oper}{id:Nat}{Q:Exit->List AV->ASt->Prop}(jb:List (Nat × Nat))(Ca:zK2 ops=true)(bf:zI8 ops=jb)(hr:(jb.all fun p=>decide (p.2<ops.size))=true)(h:awpS P ops (Q .normal) S ops.toList fr):awp P (.region id ops true) fr S Q:=
 zB jb Ca bf (zLB ops.size (fun p hp=>by simpa using List.all_eq_true.1 hr p hp) ops.toList 0 fr [] [S] [] rfl (fun T hT=>by simpa using hT) (by simp) h)
theorem zUS(a b:Bool)(x y:Operand):zd Tryz.prog (do eqGuard .neq 4 x y (.bool a) (.bool b);binOp .neq 4 (.bool a) (.bool b):Sem Value)=some (.bool (a !=b)):=by
 cases a<;>cases b<;>kernel_rfl
theorem zCK{α β:Type}(f:α->β)(s:Sem α)(a:α)(h:zd P s=some a):zd P (f<$>s)=some (f a):=by
 induction s with
 |pure b=>simp[zd]at h;subst h;rfl
 |program k ih=>exact ih P (by simpa [zd]using h)
 |mark m k ih=>exact ih (by simpa [zd]using h)
 |_=>simp[zd]at h
theorem zRN{o:Oper}{x y:Operand}{k:TypeId}(a b:Bool)(ho:o.op= .binOp .neq 4 x y k)(hx:evA fr x=B a)(hy:evA fr y=B b):genP Tryz.prog o fr=some (B (a !=b)):=by
 obtain⟨dst,op,ty,pos,after,guard⟩:=o
 simp only at ho;subst ho
 have h1:(zHW (.binOp .neq 4 x y k)&&zZ fr (Op.operands (.binOp .neq 4 x y k)).toList)=true:=by
  show(true&&zZ fr [x,y])=true
  rw[Bool.true_and,zZ,zZ,zZ,hx,hy];rfl
 have h2:zd Tryz.prog (execOp (fun z=>(zBj (evA fr z)).getD undef) ⟨dst,.binOp .neq 4 x y k,ty,pos,after,guard⟩)=some (.value (.bool (a !=b))):=by
  have e1:(zBj (evA fr x)).getD undef= .bool a:=by rw[hx];rfl
  have e2:(zBj (evA fr y)).getD undef= .bool b:=by rw[hy];rfl
  unfold execOp;simp only[e1,e2];exact zCK _ _ _ (zUS a b x y)
 unfold genP;simp only;rw[if_pos h1,h2];rfl
noncomputable def genK (o:Oper) (fr:List AV):Option AV:=genP Tryz.prog o fr
@[simp] theorem genP_neq (dst : Option Tmp) (x y : Operand) (k ty : TypeId) (pos : String) (after : Array Edge) (guard : Option (Nat × Bool)) (fr : List AV) :
  genP Tryz.prog ⟨dst,.binOp .neq 4 x y k,ty,pos,after,guard⟩ fr=(match evA fr x,evA fr y with| .p (.v (.bool a)),.p (.v (.bool b))=>some (B (a !=b))|_,_=>genK ⟨dst,.binOp .neq 4 x y k,ty,pos,after,guard⟩ fr):=by
 split
 .rename_i a b hx hy
  exact zRN a b rfl hx hy
 rfl
def zMO(P:Program)(rs:List ResultVar)(r:AV)(S':ASt):Exit->List AV->ASt->Prop:=fun e fr S1=>
 (e= .normal\/e= .ret)/\∃vs,resA P fr S1 rs=some vs/\retA vs=r/\S1=S'
theorem zOt(P:Program)(rs:List ResultVar)(r:AV)(e:Exit)(fr:List AV)(S S1:ASt):zMO P rs r S e fr S1=((e= .normal\/e= .ret)/\∃vs,resA P fr S1 rs=some vs/\retA vs=r/\S1=S):=by rw[zMO]
attribute [simp] zOt
theorem ADet.flat{K:FuncId}{args:List AV}{S S':ASt}{r:AV}{fn:Func}{c:Code}(hm:P.follows .mixedOrders=true)(hK:∀xs w,(callFunc K xs).run P w= .ok (.enter K xs) w)(hf:P.funcs[K]? =some fn)(hb:fn.body=some c)
  (h:awp P c (args++List.replicate (fn.ntmps-args.length) .un) S (zMO P fn.results.toList r S')):ADet P K args S r S':=by
 refine⟨hK,fun Pr φ xs w da hR hne=>?_⟩
 refine calls_of_wp hf hb ?_
 have nb:RF Pr φ (args++List.replicate (fn.ntmps-args.length) .un) {tmps:=xs++Array.replicate (fn.ntmps-xs.size) undef,defers:=[]}:=by
  refine⟨by simp[da.1],fun t v x hv hx=>?_⟩
  rcases Nat.lt_or_ge t args.length with ht|ht
  .rw[List.getElem?_append_left ht]at hv
   simp only at hx;rw[Array.getElem?_append_left (by rw[<-da.1];exact ht)]at hx
   exact da.2 t v x hv hx
  rw[List.getElem?_append_right ht]at hv
  simp only at hx;rw[Array.getElem?_append_right (by rw[<-da.1];exact ht)]at hx
  rw[List.getElem?_replicate]at hv;rw[Array.getElem?_replicate]at hx;split at hv
  .split at hx
   .cases hv;cases hx;exact .un
   cases hx
  cases hv
 refine wp_mono (zCx hm c _ Pr φ _ _ S w nb hR hne h) fun e a' w' hp=>?_
 obtain⟨ja,S1,Pr',φ',⟨he,vs,h1,h2,h3⟩,h4,h5,h6,h7⟩:=hp
 obtain⟨x,hx,ta⟩:=zB3 (P:=P) (fn:=fn) h4 h5 h1
 subst h3;rw[h2]at hx
 have key:a'.defers=[]/\∃v,(results fn a'.tmps).run P w'= .ok v w'/\∃x Pr' φ',Ending.returned v= .returned x/\Stp Pr φ w Pr' φ' w'/\Rel Pr' φ' S1 w'/\RA Pr' φ' r x:=
  ⟨h7,x,ta,x,Pr',φ',rfl,h6,h5,hx⟩
 rcases he with rfl|rfl
 .exact key
 exact key
theorem ADet.after{K:FuncId}{args:List AV}{S S' Rl:ASt}{r:AV}(hw:wkT S' Rl)(h:ADet P K args S r S'):ADet P K args S r Rl:=
 ⟨h.1,fun Pr φ xs w da hR hne=>(h.2 Pr φ xs w da hR hne).mono fun e w' hp=>by
  obtain⟨x,Pr',φ',h1,h2,h3,h4⟩:=hp
  exact⟨x,Pr',φ',h1,h2,zEH h3 (zEN hw),h4⟩⟩
theorem zUT(a b:Bool)(x y:Operand):zd Tryz.prog (do eqGuard .eql 4 x y (.bool a) (.bool b);binOp .eql 4 (.bool a) (.bool b):Sem Value)=some (.bool (a==b)):=by
 cases a<;>cases b<;>kernel_rfl
theorem zRO{o:Oper}{x y:Operand}{k:TypeId}(a b:Bool)(ho:o.op= .binOp .eql 4 x y k)(hx:evA fr x=B a)(hy:evA fr y=B b):genP Tryz.prog o fr=some (B (a==b)):=by
 obtain⟨dst,op,ty,pos,after,guard⟩:=o
 simp only at ho;subst ho
 have h1:(zHW (.binOp .eql 4 x y k)&&zZ fr (Op.operands (.binOp .eql 4 x y k)).toList)=true:=by
  show(true&&zZ fr [x,y])=true
  rw[Bool.true_and,zZ,zZ,zZ,hx,hy];rfl
 have h2:zd Tryz.prog (execOp (fun z=>(zBj (evA fr z)).getD undef) ⟨dst,.binOp .eql 4 x y k,ty,pos,after,guard⟩)=some (.value (.bool (a==b))):=by
  have e1:(zBj (evA fr x)).getD undef= .bool a:=by rw[hx];rfl
  have e2:(zBj (evA fr y)).getD undef= .bool b:=by rw[hy];rfl
  unfold execOp;simp only[e1,e2];exact zCK _ _ _ (zUT a b x y)
 unfold genP;simp only;rw[if_pos h1,h2];rfl
@[simp] theorem genP_eql (dst : Option Tmp) (x y : Operand) (k ty : TypeId) (pos : String) (after : Array Edge) (guard : Option (Nat × Bool)) (fr : List AV) :
  genP Tryz.prog ⟨dst,.binOp .eql 4 x y k,ty,pos,after,guard⟩ fr=(match evA fr x,evA fr y with| .p (.v (.bool a)),.p (.v (.bool b))=>some (B (a==b))|_,_=>genK ⟨dst,.binOp .eql 4 x y k,ty,pos,after,guard⟩ fr):=by
 split
 .rename_i a b hx hy
  exact zRO a b rfl hx hy
 rfl
theorem zBv{α:Type}(S:List (List α))(d:Nat){i j:Nat}(o:α)(h:i≠j):get2 (set2 S d i o) d j=get2 S d j:=by
 unfold get2 set2
 rcases Nat.lt_or_ge d S.length with hd|hd
 .rw[List.getElem?_set_self hd,List.getElem?_eq_getElem hd]
  simp only[Option.bind_some];rw[List.getElem?_set_ne h];simp[List.getD,hd]
 rw[List.set_eq_of_length_le hd]
theorem zLC{α:Type}(S:List (List α))(d:Nat){i j:Nat}(a b:α)(h:i≠j):set2 (set2 S d j a) d i b=set2 (set2 S d i b) d j a:=by
 unfold set2
 rcases Nat.lt_or_ge d S.length with hd|hd
 .simp[List.getD,hd,List.set_comm _ _ h]
 simp[List.set_eq_of_length_le hd]
end Go.Proofs.YtdflkegnmmkkoaaGreatDoor
