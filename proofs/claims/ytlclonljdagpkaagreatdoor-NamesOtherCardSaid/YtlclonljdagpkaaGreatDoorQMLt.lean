/- A part of the proof. The statement is proved in the claim's last text. -/
import Derived.Test.YtlclonljdagpkaaGreatDoorQMLb
import Derived.Test.YtlclonljdagpkaaGreatDoorRows
set_option linter.unusedVariables false
set_option linter.unusedSimpArgs false
set_option maxRecDepth 100000
set_option maxHeartbeats 32000000
namespace Go.Proofs.YtlclonljdagpkaaGreatDoor
open Go.RowKit
set_option maxRecDepth 100000
theorem zUt : Tryz.prog.cellsOf 1 = 1:=by kernel_rfl
theorem zXC : zAr Tryz.prog 1 = some [Value.nilFunc]:=by kernel_rfl
theorem zUu : Tryz.prog.cellsOf 2 = 1:=by kernel_rfl
theorem zZK : (Tryz.prog.info? 2).isSome = true:=by kernel_rfl
theorem zUv : Tryz.prog.cellsOf 3 = 1:=by kernel_rfl
theorem zXD : zAr Tryz.prog 3 = some [Value.int IntKind.i64 0]:=by kernel_rfl
theorem zZL : (Tryz.prog.info? 3).isSome = true:=by kernel_rfl
theorem zUw : Tryz.prog.cellsOf 4 = 1:=by kernel_rfl
theorem zXE : zAr Tryz.prog 4 = some [Value.bool false]:=by kernel_rfl
theorem zZM : (Tryz.prog.info? 4).isSome = true:=by kernel_rfl
theorem zUx : Tryz.prog.cellsOf 5 = 1:=by kernel_rfl
theorem zZN : (Tryz.prog.info? 5).isSome = true:=by kernel_rfl
theorem zUy : Tryz.prog.cellsOf 9 = 1:=by kernel_rfl
theorem zXF : zAr Tryz.prog 9 = some [Value.string { data:=#[] }]:=by kernel_rfl
theorem zZO : (Tryz.prog.info? 9).isSome = true:=by kernel_rfl
theorem zRx : Tryz.prog.cellsOf 22 = 1:=by kernel_rfl
theorem zXG : (Tryz.prog.info? 22).isSome = true:=by kernel_rfl
theorem zUz : zu Tryz.prog 22 = 42:=by kernel_rfl
theorem zXH : zDY Tryz.prog 22 42 16 = true:=by kernel_rfl
theorem zRy : Tryz.prog.cellsOf 24 = 1:=by kernel_rfl
theorem zU0 : zAr Tryz.prog 24 = some [Value.slice none 0 0]:=by kernel_rfl
theorem zRz : Tryz.prog.cellsOf 25 = 1:=by kernel_rfl
theorem zXI : (Tryz.prog.info? 25).isSome = true:=by kernel_rfl
theorem zU1 : zu Tryz.prog 25 = 48:=by kernel_rfl
theorem zXJ : zDY Tryz.prog 25 48 2 = true:=by kernel_rfl
theorem zR0 : Tryz.prog.cellsOf 30 = 1:=by kernel_rfl
theorem zXK : (Tryz.prog.info? 30).isSome = true:=by kernel_rfl
theorem zU2 : zu Tryz.prog 30 = 55:=by kernel_rfl
theorem zXL : zDY Tryz.prog 30 55 4 = true:=by kernel_rfl
theorem zR1 : Tryz.prog.cellsOf 31 = 1:=by kernel_rfl
theorem zXM : (Tryz.prog.info? 31).isSome = true:=by kernel_rfl
theorem zU3 : zu Tryz.prog 31 = 33:=by kernel_rfl
theorem zXN : zDY Tryz.prog 31 33 3 = true:=by kernel_rfl
theorem zR2 : Tryz.prog.cellsOf 33 = 3:=by kernel_rfl
theorem zU4 : zAr Tryz.prog 33 = some [Value.int IntKind.u8 0,Value.string { data:=#[] },Value.slice none 0 0]:=by kernel_rfl
theorem zXO : (Tryz.prog.info? 33).isSome = true:=by kernel_rfl
theorem zR3 : Tryz.prog.cellsOf 34 = 1:=by kernel_rfl
theorem zU5 : zAr Tryz.prog 34 = some [Value.slice none 0 0]:=by kernel_rfl
theorem zXP : (Tryz.prog.info? 34).isSome = true:=by kernel_rfl
theorem zU6 : zu Tryz.prog 34 = 45:=by kernel_rfl
theorem zXQ : zDY Tryz.prog 34 45 15 = true:=by kernel_rfl
theorem zR4 : Tryz.prog.cellsOf 35 = 1:=by kernel_rfl
theorem zXR : (Tryz.prog.info? 35).isSome = true:=by kernel_rfl
theorem zU7 : zu Tryz.prog 35 = 9:=by kernel_rfl
theorem zXS : zDY Tryz.prog 35 9 1 = true:=by kernel_rfl
theorem zR5 : Tryz.prog.cellsOf 37 = 2:=by kernel_rfl
theorem zU8 : zAr Tryz.prog 37 = some [Value.string { data:=#[] },Value.slice none 0 0]:=by kernel_rfl
theorem zXT : (Tryz.prog.info? 37).isSome = true:=by kernel_rfl
theorem zR6 : Tryz.prog.cellsOf 38 = 1:=by kernel_rfl
theorem zXU : (Tryz.prog.info? 38).isSome = true:=by kernel_rfl
theorem zU9 : zu Tryz.prog 38 = 40:=by kernel_rfl
theorem zXV : zDY Tryz.prog 38 40 8 = true:=by kernel_rfl
theorem zR7 : Tryz.prog.cellsOf 40 = 8:=by kernel_rfl
theorem zVA : zAr Tryz.prog 40 = some [Value.int IntKind.u8 0,Value.int IntKind.i64 0,Value.string { data:=#[] },Value.string { data:=#[] },Value.string { data:=#[] },Value.slice none 0 0,Value.slice none 0 0,Value.int IntKind.i64 0]:=by kernel_rfl
theorem zXW : (Tryz.prog.info? 40).isSome = true:=by kernel_rfl
theorem zR8 : Tryz.prog.cellsOf 42 = 16:=by kernel_rfl
theorem zVB : zAr Tryz.prog 42 = some [Value.int IntKind.u8 0,Value.string { data:=#[] },Value.slice none 0 0,Value.int IntKind.u8 0,Value.string { data:=#[] },Value.slice none 0 0,Value.slice none 0 0,Value.int IntKind.u8 0,Value.int IntKind.i64 0,Value.string { data:=#[] },Value.string { data:=#[] },Value.string { data:=#[] },Value.slice none 0 0,Value.slice none 0 0,Value.int IntKind.i64 0,Value.int IntKind.i64 0]:=by kernel_rfl
theorem zR9 : Tryz.prog.cellsOf 43 = 1:=by kernel_rfl
theorem zXX : (Tryz.prog.info? 43).isSome = true:=by kernel_rfl
theorem zVC : zu Tryz.prog 43 = 111:=by kernel_rfl
theorem zXY : zDY Tryz.prog 43 111 3 = true:=by kernel_rfl
theorem zSA : Tryz.prog.cellsOf 45 = 15:=by kernel_rfl
theorem zVD : zAr Tryz.prog 45 = some [Value.int IntKind.u8 0,Value.string { data:=#[] },Value.string { data:=#[] },Value.slice none 0 0,Value.int IntKind.u8 0,Value.string { data:=#[] },Value.slice none 0 0,Value.int IntKind.i64 0,Value.string { data:=#[] },Value.slice none 0 0,Value.slice none 0 0,Value.slice none 0 0,Value.slice none 0 0,Value.slice none 0 0,Value.int IntKind.i64 0]:=by kernel_rfl
theorem zSB : Tryz.prog.cellsOf 46 = 1:=by kernel_rfl
theorem zXZ : (Tryz.prog.info? 46).isSome = true:=by kernel_rfl
theorem zSC : Tryz.prog.cellsOf 48 = 2:=by kernel_rfl
theorem zVE : zAr Tryz.prog 48 = some [Value.int IntKind.i64 0,Value.int IntKind.i64 0]:=by kernel_rfl
theorem zSD : Tryz.prog.cellsOf 49 = 1:=by kernel_rfl
theorem zXa : (Tryz.prog.info? 49).isSome = true:=by kernel_rfl
theorem zSE : Tryz.prog.cellsOf 55 = 4:=by kernel_rfl
theorem zVF : zAr Tryz.prog 55 = some [Value.string { data:=#[] },Value.int IntKind.u8 0,Value.string { data:=#[] },Value.slice none 0 0]:=by kernel_rfl
theorem zSF : Tryz.prog.cellsOf 76 = 1:=by kernel_rfl
theorem zXb : (Tryz.prog.info? 76).isSome = true:=by kernel_rfl
theorem zVG : zu Tryz.prog 76 = 83:=by kernel_rfl
theorem zXc : zDY Tryz.prog 76 83 3 = true:=by kernel_rfl
theorem zSG : Tryz.prog.cellsOf 82 = 4:=by kernel_rfl
theorem zVH : zAr Tryz.prog 82 = some [Value.slice none 0 0,Value.int IntKind.i64 0,Value.bool false,Value.bool false]:=by kernel_rfl
theorem zSH : Tryz.prog.cellsOf 83 = 3:=by kernel_rfl
theorem zVI : zAr Tryz.prog 83 = some [Value.int IntKind.u8 0,Value.string { data:=#[] },Value.int IntKind.i64 0]:=by kernel_rfl
theorem zSI : Tryz.prog.cellsOf 91 = 1:=by kernel_rfl
theorem zVJ : zAr Tryz.prog 91 = some [Value.int IntKind.i64 0]:=by kernel_rfl
theorem zPK : Tryz.prog.cellsOf 102 = 1:=by kernel_rfl
theorem zPL : Tryz.prog.cellsOf 111 = 3:=by kernel_rfl
theorem zSJ : zAr Tryz.prog 111 = some [Value.string { data:=#[] },Value.string { data:=#[] },Value.slice none 0 0]:=by kernel_rfl
theorem zPM : Tryz.prog.cellsOf 112 = 1:=by kernel_rfl
theorem zVK : (Tryz.prog.info? 112).isSome = true:=by kernel_rfl
theorem zPN : Tryz.prog.cellsOf 113 = 1:=by kernel_rfl
theorem zVL : (Tryz.prog.info? 113).isSome = true:=by kernel_rfl
theorem zPO : Tryz.prog.cellsOf 115 = 3:=by kernel_rfl
theorem zSK : zAr Tryz.prog 115 = some [Value.map none,Value.map none,Value.slice none 0 0]:=by kernel_rfl
theorem zSL : zu Tryz.prog 116 = 4:=by kernel_rfl
theorem zVM : zDY Tryz.prog 116 4 1 = true:=by kernel_rfl
theorem zPP : Tryz.prog.cellsOf 120 = 1:=by kernel_rfl
theorem zSM : zAr Tryz.prog 120 = some [Value.pointer none]:=by kernel_rfl
theorem zPQ : Tryz.prog.cellsOf 123 = 1:=by kernel_rfl
theorem zSN : zAr Tryz.prog 123 = some [Value.bool false]:=by kernel_rfl
theorem zPR : Tryz.prog.cellsOf 124 = 1:=by kernel_rfl
theorem zVN : (Tryz.prog.info? 124).isSome = true:=by kernel_rfl
theorem zPS : Tryz.prog.cellsOf 126 = 4:=by kernel_rfl
theorem zSO : zAr Tryz.prog 126 = some [Value.pointer none,Value.map none,Value.int IntKind.i64 0,Value.int IntKind.i64 0]:=by kernel_rfl
theorem zPT : Tryz.prog.cellsOf 161 = 1:=by kernel_rfl
theorem zSP : zAr Tryz.prog 161 = some [Value.nilFunc]:=by kernel_rfl
theorem zPU : Tryz.prog.cellsOf 163 = 1:=by kernel_rfl
theorem zSQ : zAr Tryz.prog 163 = some [Value.nilFunc]:=by kernel_rfl
theorem zPV : Tryz.prog.cellsOf 164 = 1:=by kernel_rfl
theorem zSR : zAr Tryz.prog 164 = some [Value.nilFunc]:=by kernel_rfl
theorem zPW : Tryz.prog.cellsOf 165 = 1:=by kernel_rfl
theorem zSS : zAr Tryz.prog 165 = some [Value.nilFunc]:=by kernel_rfl
theorem zPX : Tryz.prog.cellsOf 168 = 1:=by kernel_rfl
theorem zST : zAr Tryz.prog 168 = some [Value.nilFunc]:=by kernel_rfl
theorem zPY : Tryz.prog.cellsOf 171 = 1:=by kernel_rfl
theorem zSU : zAr Tryz.prog 171 = some [Value.nilFunc]:=by kernel_rfl
theorem zPZ : Tryz.prog.cellsOf 173 = 1:=by kernel_rfl
theorem zSV : zAr Tryz.prog 173 = some [Value.nilFunc]:=by kernel_rfl
theorem zSW : zu Tryz.prog 180 = 1:=by kernel_rfl
theorem zVO : zDY Tryz.prog 180 1 1 = true:=by kernel_rfl
theorem zPa : Tryz.prog.cellsOf 198 = 1:=by kernel_rfl
theorem zSX : zAr Tryz.prog 198 = some [Value.map none]:=by kernel_rfl
theorem zPb : Tryz.prog.cellsOf 207 = 3:=by kernel_rfl
theorem zSY : zAr Tryz.prog 207 = some [Value.bool false,Value.int IntKind.i64 0,Value.int IntKind.i64 0]:=by kernel_rfl
theorem zPc : Tryz.prog.cellsOf 213 = 10:=by kernel_rfl
theorem zSZ : zAr Tryz.prog 213 = some [Value.int IntKind.i64 0,Value.int IntKind.i64 0,Value.bool false,Value.bool false,Value.bool false,Value.bool false,Value.bool false,Value.bool false,Value.nilFunc,Value.nilFunc]:=by kernel_rfl
theorem zPd : Tryz.prog.cellsOf 241 = 1:=by kernel_rfl
theorem zVP : (Tryz.prog.info? 241).isSome = true:=by kernel_rfl
theorem zPe : Tryz.prog.cellsOf 243 = 2:=by kernel_rfl
theorem zSa : zAr Tryz.prog 243 = some [Value.bool false,Value.int IntKind.u64 0]:=by kernel_rfl
theorem zSb : zu Tryz.prog 266 = 269:=by kernel_rfl
theorem zVQ : zDY Tryz.prog 266 269 9 = true:=by kernel_rfl
theorem zPf : Tryz.prog.cellsOf 269 = 9:=by kernel_rfl
theorem zSc : zAr Tryz.prog 269 = some [Value.string { data:=#[] },Value.int IntKind.u8 0,Value.int IntKind.i64 0,Value.string { data:=#[] },Value.string { data:=#[] },Value.string { data:=#[] },Value.slice none 0 0,Value.slice none 0 0,Value.int IntKind.i64 0]:=by kernel_rfl
theorem zSd : zGT Tryz.prog 42 = some (.agg [.p (.v (Value.int IntKind.u8 0)),.p (.v (Value.string { data:=#[] })),.p (.v (Value.slice none 0 0)),.p (.v (Value.int IntKind.u8 0)),.p (.v (Value.string { data:=#[] })),.p (.v (Value.slice none 0 0)),.p (.v (Value.slice none 0 0)),.p (.v (Value.int IntKind.u8 0)),.p (.v (Value.int IntKind.i64 0)),.p (.v (Value.string { data:=#[] })),.p (.v (Value.string { data:=#[] })),.p (.v (Value.string { data:=#[] })),.p (.v (Value.slice none 0 0)),.p (.v (Value.slice none 0 0)),.p (.v (Value.int IntKind.i64 0)),.p (.v (Value.int IntKind.i64 0))]):=by kernel_rfl
theorem zPg : zGT Tryz.prog 123 = some (.agg [.p (.v (Value.bool false))]):=by kernel_rfl
theorem zVR : zGT Tryz.prog 3 = some (.p (.v (Value.int IntKind.i64 0))):=by kernel_rfl
theorem zVS : zGT Tryz.prog 5 = some (.p (.v (Value.int IntKind.u8 0))):=by kernel_rfl
theorem zPh : zGT Tryz.prog 247 = some (.p (.v (Value.nilFunc))):=by kernel_rfl
attribute [simp] zUt zXC zUu zZK zUv zXD zZL zUw zXE zZM zUx zZN zUy zXF zZO zRx zXG zUz zXH zRy zU0 zRz zXI zU1 zXJ zR0 zXK zU2 zXL zR1 zXM zU3 zXN zR2 zU4 zXO zR3 zU5 zXP zU6 zXQ zR4 zXR zU7 zXS zR5 zU8 zXT zR6 zXU zU9 zXV zR7 zVA zXW zR8 zVB zR9 zXX zVC zXY zSA zVD zSB zXZ zSC zVE zSD zXa zSE zVF zSF zXb zVG zXc zSG zVH zSH zVI zSI zVJ zPK zPL zSJ zPM zVK zPN zVL zPO zSK zSL zVM zPP zSM zPQ zSN zPR zVN zPS zSO zPT zSP zPU zSQ zPV zSR zPW zSS zPX zST zPY zSU zPZ zSV zSW zVO zPa zSX zPb zSY zPc zSZ zPd zVP zPe zSa zSb zVQ zPf zSc zSd zPg zVR zVS zPh
theorem mixed : Tryz.prog.follows .mixedOrders = true:=by kernel_rfl
end Go.Proofs.YtlclonljdagpkaaGreatDoor
namespace Go.Proofs.YtlclonljdagpkaaGreatDoor
open Go.RowKit
mutual
inductive LeP : PV -> PV -> Prop
 | refl (p : PV) : LeP p p
 | nil (k : Nat) : LeP (.v (.slice none 0 0)) (.sl k [])
 | sl {k : Nat} {rows rows' : List (List PV)} : LeRows rows rows' -> LeP (.sl k rows) (.sl k rows')
inductive LeRow : List PV -> List PV -> Prop
 | refl (l : List PV) : LeRow l l
 | cons {p p' : PV} {l l' : List PV} : LeP p p' -> LeRow l l' -> LeRow (p :: l) (p' :: l')
inductive LeRows : List (List PV) -> List (List PV) -> Prop
 | refl (l : List (List PV)) : LeRows l l
 | cons {p p' : List PV} {l l' : List (List PV)} : LeRow p p' -> LeRows l l' -> LeRows (p :: l) (p' :: l')
end
theorem LeP.ok {p p' : PV} (h : LeP p p') : ∀ {Pr : Prot} {x : Value},RP Pr p x -> RP Pr p' x:=by
 refine LeP.rec (motive_1:=fun p p' _=>∀ {Pr : Prot} {x : Value},RP Pr p x -> RP Pr p' x)
  (motive_2:=fun l l' _=>l.length = l'.length /\ ∀ (j : Nat) (p' : PV),l'[j]? = some p' -> ∃ p,l[j]? = some p /\ ∀ {Pr : Prot} {x : Value},RP Pr p x -> RP Pr p' x)
  (motive_3:=fun l l' _=>l.length = l'.length /\ ∀ (r : Nat) (row' : List PV),l'[r]? = some row' -> ∃ row,l[r]? = some row /\ row.length = row'.length /\ ∀ (j : Nat) (p' : PV),row'[j]? = some p' -> ∃ p,row[j]? = some p /\ ∀ {Pr : Prot} {x : Value},RP Pr p x -> RP Pr p' x)
  ?_ ?_ ?_ ?_ ?_ ?_ ?_ h
 .intro p Pr x h; exact h
 .intro k Pr x h
  cases h with
  | v h=>exact .slemp k none 0 (Nat.zero_le _)
 .intro k rows rows' _ ⟨hl,ih⟩ Pr x h
  cases h with
  | slemp _ A cap hc =>
   obtain rfl : rows' = []:=List.eq_nil_of_length_eq_zero hl.symm
   exact .slemp _ A _ hc
  | sl vs h1 h2 h3 h4 h5 =>
   rw [hl] at h1 ⊢;refine .sl vs h1 h2 (fun r row' hr=>?_) (fun r row' j p' hr hj=>?_) (fun r row' j p' hr hj=>?_)
   .obtain ⟨row,k1,k2,_⟩:=ih r row' hr
    rw [<- k2]; exact h3 r row k1
   .obtain ⟨row,k1,k2,k3⟩:=ih r row' hr
    obtain ⟨p,k4,k5⟩:=k3 j p' hj
    exact h4 r row j p k1 k4
   .obtain ⟨row,k1,k2,k3⟩:=ih r row' hr
    obtain ⟨p,k4,k5⟩:=k3 j p' hj
    exact k5 (h5 r row j p k1 k4)
 .intro l; exact ⟨rfl,fun j p h=>⟨p,h,fun h=>h⟩⟩
 .intro p p' l l' _ _ ih1 ⟨hl,ih2⟩
  refine ⟨by simp [hl],fun j q hq=>?_⟩
  cases j with
  | zero=>simp at hq; subst hq; exact ⟨p,rfl,ih1⟩
  | succ j=>simpa using ih2 j q (by simpa using hq)
 .intro l; exact ⟨rfl,fun r row h=>⟨row,h,rfl,fun j p h=>⟨p,h,fun h=>h⟩⟩⟩
 .intro p p' l l' _ _ ⟨hl1,ih1⟩ ⟨hl,ih2⟩
  refine ⟨by simp [hl],fun j q hq=>?_⟩
  cases j with
  | zero=>simp at hq; subst hq; exact ⟨p,rfl,hl1,ih1⟩
  | succ j=>simpa using ih2 j q (by simpa using hq)
mutual
inductive LeA : AV -> AV -> Prop
 | refl (v : AV) : LeA v v
 | any (v : AV) : LeA v .any
 | p {q q' : PV} : LeP q q' -> LeA (.p q) (.p q')
 | osl {k d i : Nat} {rows rows' : List (List PV)} : LeRows rows rows' -> LeA (.osl k rows d i) (.p (.sl k rows'))
 | agg {cs cs' : List AV} : LeAs cs cs' -> LeA (.agg cs) (.agg cs')
inductive LeAs : List AV -> List AV -> Prop
 | refl (l : List AV) : LeAs l l
 | cons {v v' : AV} {l l' : List AV} : LeA v v' -> LeAs l l' -> LeAs (v :: l) (v' :: l')
end
theorem zF4 {Pr : Prot} {φ : Fi2} : (∀ {v v' : AV},LeA v v' -> ∀ {x : Value},RA Pr φ v x -> RA Pr φ v' x) /\ (∀ {l l' : List AV},LeAs l l' -> l.length = l'.length /\ ∀ (j : Nat) (v' : AV),l'[j]? = some v' -> ∃ v,l[j]? = some v /\ ∀ {x : Value},RA Pr φ v x -> RA Pr φ v' x):=by
 have key : ∀ {v v' : AV} (h : LeA v v') {x : Value},RA Pr φ v x -> RA Pr φ v' x:=by
  intro v v' h
  refine LeA.rec (motive_1:=fun v v' _=>∀ {x : Value},RA Pr φ v x -> RA Pr φ v' x)
   (motive_2:=fun l l' _=>l.length = l'.length /\ ∀ (j : Nat) (v' : AV),l'[j]? = some v' -> ∃ v,l[j]? = some v /\ ∀ {x : Value},RA Pr φ v x -> RA Pr φ v' x) ?_ ?_ ?_ ?_ ?_ ?_ ?_ h
  .intro v x h; exact h
  .intro v x h; exact .any x
  .intro q q' hq x h
   cases h with
   | p h=>exact .p (hq.ok h)
  .intro k d i rows rows' hr x h
   exact .p ((LeP.sl hr).ok h.sl)
  .intro cs cs' _ ⟨hl,ih⟩ x h
   cases h with
   | agg h1 h2 =>
    refine .agg (hl ▸ h1) fun j c y hc hy=>?_
    obtain ⟨v,k1,k2⟩:=ih j c hc
    exact k2 (h2 j v y k1 hy)
  .intro l; exact ⟨rfl,fun j v h=>⟨v,h,fun h=>h⟩⟩
  .intro v v' l l' _ _ ih1 ⟨hl,ih2⟩
   refine ⟨by simp [hl],fun j q hq=>?_⟩
   cases j with
   | zero=>simp at hq; subst hq; exact ⟨v,rfl,ih1⟩
   | succ j=>simpa using ih2 j q (by simpa using hq)
 refine ⟨key,fun {l l'} h=>?_⟩
 have hA : LeA (.agg l) (.agg l'):=.agg h
 refine LeAs.rec (motive_1:=fun v v' _=>True)
  (motive_2:=fun l l' _=>l.length = l'.length /\ ∀ (j : Nat) (v' : AV),l'[j]? = some v' -> ∃ v,l[j]? = some v /\ ∀ {x : Value},RA Pr φ v x -> RA Pr φ v' x) ?_ ?_ ?_ ?_ ?_ ?_ ?_ h
 .intros; trivial
 .intros; trivial
 .intros; trivial
 .intros; trivial
 .intros; trivial
 .intro l; exact ⟨rfl,fun j v h=>⟨v,h,fun h=>h⟩⟩
 .intro v v' l l' hv _ _ ⟨hl,ih2⟩
  refine ⟨by simp [hl],fun j q hq=>?_⟩
  cases j with
  | zero=>simp at hq; subst hq; exact ⟨v,rfl,key hv⟩
  | succ j=>simpa using ih2 j q (by simpa using hq)
theorem ADet.sub {P : Program} {F : FuncId} {xs xs' : List AV} {S S' : ASt} {r : AV} (hle : LeAs xs xs') (h : ADet P F xs' S r S') : ADet P F xs S r S' :=
 ⟨h.1,fun Pr φ ys w hargs hR hne=>by
  obtain ⟨hl,hk⟩:=(zF4 (Pr:=Pr) (φ:=φ)).2 hle
  exact h.2 Pr φ ys w ⟨hl ▸ hargs.1,fun j c x hc hx=>by
   obtain ⟨v,k1,k2⟩:=hk j c hc
   exact k2 (hargs.2 j v x k1 hx)⟩ hR hne⟩
theorem ADet.less {P : Program} {F : FuncId} {xs : List AV} {S S' : ASt} {r r' : AV} (hle : LeA r r') (h : ADet P F xs S r S') : ADet P F xs S r' S' :=
 ⟨h.1,fun Pr φ ys w hargs hR hne=>(h.2 Pr φ ys w hargs hR hne).mono fun e w' hp=>by
  obtain ⟨x,Pr',φ',h1,h2,h3,h4⟩:=hp
  exact ⟨x,Pr',φ',h1,h2,h3,(zF4 (Pr:=Pr') (φ:=φ')).1 hle h4⟩⟩
end Go.Proofs.YtlclonljdagpkaaGreatDoor
namespace Go.Proofs.YtlclonljdagpkaaGreatDoor
open Go.RowKit
def zZP (P : Program) (rs : List ResultVar) (E : TypeId) (k : Nat) (rows : List (List PV)) (S' : ASt) : Exit -> List AV -> ASt -> Prop:=fun e fr S1 =>
 (e = .normal \/ e = .ret) /\ ∃ vs j,resA P fr S1 rs = some vs /\ retA vs = .osl k rows 0 j /\ get2 S1 0 j = some (.tok E k rows.length) /\ S1.tail = S'
end Go.Proofs.YtlclonljdagpkaaGreatDoor
namespace Go.Proofs.YtlclonljdagpkaaGreatDoor
open Go.RowKit
def awpS (P : Program) (ops : Array Oper) (K : List AV -> ASt -> Prop) (S : ASt) : List Oper -> List AV -> Prop
 | [],fr=>K fr S
 | o :: os,fr =>
  match zBO ops o fr with
  | some true =>
   match zCe o fr with
   | some (F,args)=>∃ r,ADet P F args S r S /\ awpS P ops K S os (putA fr o.dst r)
   | none =>
    match evL P o fr S with
    | some (v,_)=>awpS P ops K S os (putA fr o.dst v)
    | none =>
     match zDa P o fr S with
     | some (v,S')=>S' = S /\ awpS P ops K S os (putA fr o.dst v)
     | none=>False
  | some false=>awpS P ops K S os (putA fr o.dst .un)
  | none=>False
def zXd (P : Program) (ops : Array Oper) (K : List AV -> ASt -> Prop) (S : ASt) (os : List Oper) (fr : List AV) (dst : Option Nat) (r : AV) : Prop:=awpS P ops K S os (putA fr dst r)
@[reducible] def CallS (P : Program) (F : Nat) (args : List AV) (S : ASt) (K : AV -> Prop) : Prop:=∃ r,ADet P F args S r S /\ K r
theorem zIh {P : Program} {ops : Array Oper} {K : List AV -> ASt -> Prop} {S : ASt} (os : List Oper) {fr : List AV} (dst : Option Nat) (r : AV) : zXd P ops K S os fr dst r = awpS P ops K S os (putA fr dst r):=rfl
theorem zIi {P : Program} {ops : Array Oper} {K : List AV -> ASt -> Prop} {S : ASt} {fr : List AV} : awpS P ops K S [] fr = K fr S:=by rw [awpS]
theorem zGj {P : Program} {ops : Array Oper} {K : List AV -> ASt -> Prop} {S : ASt} (o : Oper) (os : List Oper) {fr : List AV} : awpS P ops K S (o :: os) fr = (match zBO ops o fr with
  | some true =>
   match zCe o fr with
   | some (F,args)=>CallS P F args S (zXd P ops K S os fr o.dst)
   | none =>
    match evL P o fr S with
    | some (v,_)=>awpS P ops K S os (putA fr o.dst v)
    | none =>
     match zDa P o fr S with
     | some (v,S')=>S' = S /\ awpS P ops K S os (putA fr o.dst v)
     | none=>False
  | some false=>awpS P ops K S os (putA fr o.dst .un)
  | none=>False):=by rw [awpS] <;> rfl
theorem zMD {α : Type} {l : List α} {x d : α} (h : ∀ y ∈ l,y = x) {j : Nat} (hj : j < l.length) : l.getD j d = x:=by
 rw [List.getD,List.getElem?_eq_getElem hj];exact h _ (List.getElem_mem hj)
theorem zJm {Ss : List ASt} {S : ASt} (h : ∀ T ∈ Ss,T = S) {i m : Nat} (hm : m + 1 < Ss.length) : ∀ ls : List (Nat × Nat × Nat),LCl Ss i m ls
 | []=>trivial
 | (j,d,k) :: ls=>⟨fun _=>by rw [zMD h hm,zMD h (by omega)],zJm h hm ls⟩
theorem zJn {Ss : List ASt} {S : ASt} (h : ∀ T ∈ Ss,T = S) {ls : List (Nat × Nat × Nat)} : ∀ prs : List (Nat × Nat),(∀ p ∈ prs,p.2 + 1 < Ss.length) -> LCp Ss ls prs
 | [],_=>trivial
 | (i,m) :: prs,hp=>⟨zJm h (hp (i,m) (by simp)) ls,zJn h prs fun p hm=>hp p (by simp [hm])⟩
theorem zJo {P : Program} {ops : Array Oper} {prs : List (Nat × Nat)} {K : List AV -> ASt -> Prop} {S : ASt} (n : Nat) (hp : ∀ p ∈ prs,p.2 < n) : ∀ (os : List Oper) (i : Nat) (fr : List AV) (Vs : List AV) (Ss : List ASt) (ls : List (Nat × Nat × Nat)),Ss.length = i + 1 -> (∀ T ∈ Ss,T = S) -> i + os.length = n ->
  awpS P ops K S os fr -> awpD P ops prs K os i fr S Vs Ss ls
 | [],i,fr,Vs,Ss,ls,h1,h2,h3,h=>by
  rw [awpS] at h;rw [awpD]
  exact ⟨zJn h2 prs fun p hm=>by have:=hp p hm; simp at h3; omega,h⟩
 | o :: os,i,fr,Vs,Ss,ls,h1,h2,h3,h=>by
  have g1 : (Ss ++ [S]).length = (i + 1) + 1:=by simp [h1]
  have g2 : ∀ T ∈ Ss ++ [S],T = S:=fun T hT=>by
   rcases List.mem_append.1 hT with h | h
   .exact h2 T h
   .simpa using h
  have g3 : i + 1 + os.length = n:=by simp at h3; omega
  rw [awpS] at h;rw [awpD];split
  .rename_i hw
   rw [hw] at h;simp only at h;split
   .rename_i F args hc
    rw [hc] at h
    obtain ⟨r,k1,k2⟩:=h
    exact ⟨r,S,k1,zJo n hp os (i + 1) _ _ _ _ g1 g2 g3 k2⟩
   .rename_i hc
    rw [hc] at h;simp only at h;split
    .rename_i v ref he
     rw [he] at h;exact zJo n hp os (i + 1) _ _ _ _ g1 g2 g3 h
    .rename_i he
     rw [he] at h;simp only at h;split
     .rename_i v S' hs
      rw [hs] at h
      obtain ⟨rfl,h⟩:=h
      exact zJo n hp os (i + 1) _ _ _ _ g1 g2 g3 h
     .rename_i hs
      rw [hs] at h;exact h.elim
  .rename_i hw
   rw [hw] at h;exact zJo n hp os (i + 1) _ _ _ _ g1 g2 g3 h
  .rename_i hw
   rw [hw] at h;exact h.elim
theorem zCF {P : Program} {ops : Array Oper} {id : Nat} {fr : List AV} {S : ASt} {Q : Exit -> List AV -> ASt -> Prop} (prs : List (Nat × Nat)) (hst : zJd ops = true) (hprs : zHt ops = prs) (hr : (prs.all fun p=>decide (p.2 < ops.size)) = true) (h : awpS P ops (Q .normal) S ops.toList fr) : awp P (.region id ops true) fr S Q :=
 zA prs hst hprs (zJo ops.size (fun p hp=>by simpa using List.all_eq_true.1 hr p hp) ops.toList 0 fr [] [S] [] rfl (fun T hT=>by simpa using hT) (by simp) h)
end Go.Proofs.YtlclonljdagpkaaGreatDoor
namespace Go.Proofs.YtlclonljdagpkaaGreatDoor
open Go.RowKit
theorem zSe (a b : Bool) (x y : Operand) : zl Tryz.prog (do eqGuard .neq 4 x y (.bool a) (.bool b); binOp .neq 4 (.bool a) (.bool b) : Sem Value) = some (.bool (a != b)):=by
 cases a <;> cases b <;> kernel_rfl
theorem zC6 {P : Program} {α β : Type} (f : α -> β) (s : Sem α) (a : α) (h : zl P s = some a) : zl P (f <$> s) = some (f a):=by
 induction s with
 | pure b=>simp [zl] at h; subst h; rfl
 | program k ih=>exact ih P (by simpa [zl] using h)
 | mark m k ih=>exact ih (by simpa [zl] using h)
 | _=>simp [zl] at h
theorem zPi {fr : List AV} {o : Oper} {x y : Operand} {k : TypeId} (a b : Bool) (ho : o.op = .binOp .neq 4 x y k) (hx : evA fr x = B a) (hy : evA fr y = B b) : genP Tryz.prog o fr = some (B (a != b)):=by
 obtain ⟨dst,op,ty,pos,after,guard⟩:=o
 simp only at ho;subst ho
 have h1 : (zKn (.binOp .neq 4 x y k) && zt fr (Op.operands (.binOp .neq 4 x y k)).toList) = true:=by
  show (true && zt fr [x,y]) = true
  rw [Bool.true_and,zt,zt,zt,hx,hy];rfl
 have h2 : zl Tryz.prog (execOp (fun z=>(zBw (evA fr z)).getD undef) ⟨dst,.binOp .neq 4 x y k,ty,pos,after,guard⟩) = some (.value (.bool (a != b))):=by
  have e1 : (zBw (evA fr x)).getD undef = .bool a:=by rw [hx]; rfl
  have e2 : (zBw (evA fr y)).getD undef = .bool b:=by rw [hy]; rfl
  unfold execOp;simp only [e1,e2];exact zC6 _ _ _ (zSe a b x y)
 unfold genP;simp only;rw [if_pos h1,h2];rfl
noncomputable def genK (o : Oper) (fr : List AV) : Option AV:=genP Tryz.prog o fr
@[simp] theorem genP_neq (dst : Option Tmp) (x y : Operand) (k ty : TypeId) (pos : String) (after : Array Edge) (guard : Option (Nat × Bool)) (fr : List AV) :
  genP Tryz.prog ⟨dst,.binOp .neq 4 x y k,ty,pos,after,guard⟩ fr = (match evA fr x,evA fr y with | .p (.v (.bool a)),.p (.v (.bool b))=>some (B (a != b)) | _,_=>genK ⟨dst,.binOp .neq 4 x y k,ty,pos,after,guard⟩ fr):=by
 split
 .rename_i a b hx hy
  exact zPi a b rfl hx hy
 .rfl
end Go.Proofs.YtlclonljdagpkaaGreatDoor
namespace Go.Proofs.YtlclonljdagpkaaGreatDoor
open Go.RowKit
def zK0 (P : Program) (rs : List ResultVar) (r : AV) (S' : ASt) : Exit -> List AV -> ASt -> Prop:=fun e fr S1 =>
 (e = .normal \/ e = .ret) /\ ∃ vs,resA P fr S1 rs = some vs /\ retA vs = r /\ S1 = S'
theorem zNM (P : Program) (rs : List ResultVar) (r : AV) (e : Exit) (fr : List AV) (S S1 : ASt) : zK0 P rs r S e fr S1 = ((e = .normal \/ e = .ret) /\ ∃ vs,resA P fr S1 rs = some vs /\ retA vs = r /\ S1 = S):=by rw [zK0]
attribute [simp] zNM
theorem ADet.flat {P : Program} {K : FuncId} {args : List AV} {S S' : ASt} {r : AV} {fn : Func} {c : Code} (hm : P.follows .mixedOrders = true) (hK : ∀ xs w,(callFunc K xs).run P w = .ok (.enter K xs) w) (hf : P.funcs[K]? = some fn) (hb : fn.body = some c)
  (h : awp P c (args ++ List.replicate (fn.ntmps - args.length) .un) S (zK0 P fn.results.toList r S')) : ADet P K args S r S':=by
 refine ⟨hK,fun Pr φ xs w hargs hR hne=>?_⟩
 refine calls_of_wp hf hb ?_
 have hfr : RF Pr φ (args ++ List.replicate (fn.ntmps - args.length) .un) { tmps:=xs ++ Array.replicate (fn.ntmps - xs.size) undef,defers:=[] }:=by
  refine ⟨by simp [hargs.1],fun t v x hv hx=>?_⟩
  rcases Nat.lt_or_ge t args.length with ht | ht
  .rw [List.getElem?_append_left ht] at hv
   simp only at hx;rw [Array.getElem?_append_left (by rw [<- hargs.1]; exact ht)] at hx
   exact hargs.2 t v x hv hx
  .rw [List.getElem?_append_right ht] at hv
   simp only at hx;rw [Array.getElem?_append_right (by rw [<- hargs.1]; exact ht)] at hx
   rw [List.getElem?_replicate] at hv;rw [Array.getElem?_replicate] at hx;split at hv
   .split at hx
    .cases hv; cases hx; exact .un
    .cases hx
   .cases hv
 refine wp_mono (zCD hm c _ Pr φ _ _ S w hfr hR hne h) fun e a' w' hp=>?_
 obtain ⟨fr',S1,Pr',φ',⟨he,vs,h1,h2,h3⟩,h4,h5,h6,h7⟩:=hp
 obtain ⟨x,hx,hrun⟩:=zB8 (P:=P) (fn:=fn) h4 h5 h1
 subst h3;rw [h2] at hx
 have key : a'.defers = [] /\ ∃ v,(results fn a'.tmps).run P w' = .ok v w' /\ ∃ x Pr' φ',Ending.returned v = .returned x /\ Stp Pr φ w Pr' φ' w' /\ Rel Pr' φ' S1 w' /\ RA Pr' φ' r x :=
  ⟨h7,x,hrun,x,Pr',φ',rfl,h6,h5,hx⟩
 rcases he with rfl | rfl
 .exact key
 .exact key
theorem ADet.after {P : Program} {K : FuncId} {args : List AV} {S S' S'' : ASt} {r : AV} (hw : wkT S' S'') (h : ADet P K args S r S') : ADet P K args S r S'' :=
 ⟨h.1,fun Pr φ xs w hargs hR hne=>(h.2 Pr φ xs w hargs hR hne).mono fun e w' hp=>by
  obtain ⟨x,Pr',φ',h1,h2,h3,h4⟩:=hp
  exact ⟨x,Pr',φ',h1,h2,zEO h3 (zFf hw),h4⟩⟩
end Go.Proofs.YtlclonljdagpkaaGreatDoor
namespace Go.Proofs.YtlclonljdagpkaaGreatDoor
open Go.RowKit
theorem zSf (a b : Bool) (x y : Operand) : zl Tryz.prog (do eqGuard .eql 4 x y (.bool a) (.bool b); binOp .eql 4 (.bool a) (.bool b) : Sem Value) = some (.bool (a == b)):=by
 cases a <;> cases b <;> kernel_rfl
theorem zPj {fr : List AV} {o : Oper} {x y : Operand} {k : TypeId} (a b : Bool) (ho : o.op = .binOp .eql 4 x y k) (hx : evA fr x = B a) (hy : evA fr y = B b) : genP Tryz.prog o fr = some (B (a == b)):=by
 obtain ⟨dst,op,ty,pos,after,guard⟩:=o
 simp only at ho;subst ho
 have h1 : (zKn (.binOp .eql 4 x y k) && zt fr (Op.operands (.binOp .eql 4 x y k)).toList) = true:=by
  show (true && zt fr [x,y]) = true
  rw [Bool.true_and,zt,zt,zt,hx,hy];rfl
 have h2 : zl Tryz.prog (execOp (fun z=>(zBw (evA fr z)).getD undef) ⟨dst,.binOp .eql 4 x y k,ty,pos,after,guard⟩) = some (.value (.bool (a == b))):=by
  have e1 : (zBw (evA fr x)).getD undef = .bool a:=by rw [hx]; rfl
  have e2 : (zBw (evA fr y)).getD undef = .bool b:=by rw [hy]; rfl
  unfold execOp;simp only [e1,e2];exact zC6 _ _ _ (zSf a b x y)
 unfold genP;simp only;rw [if_pos h1,h2];rfl
@[simp] theorem genP_eql (dst : Option Tmp) (x y : Operand) (k ty : TypeId) (pos : String) (after : Array Edge) (guard : Option (Nat × Bool)) (fr : List AV) :
  genP Tryz.prog ⟨dst,.binOp .eql 4 x y k,ty,pos,after,guard⟩ fr = (match evA fr x,evA fr y with | .p (.v (.bool a)),.p (.v (.bool b))=>some (B (a == b)) | _,_=>genK ⟨dst,.binOp .eql 4 x y k,ty,pos,after,guard⟩ fr):=by
 split
 .rename_i a b hx hy
  exact zPj a b rfl hx hy
 .rfl
end Go.Proofs.YtlclonljdagpkaaGreatDoor
namespace Go.Proofs.YtlclonljdagpkaaGreatDoor
open Go.RowKit
theorem zDg {α : Type} (S : List (List α)) (d : Nat) {i j : Nat} (o : α) (h : i ≠ j) : get2 (set2 S d i o) d j = get2 S d j:=by
 unfold get2 set2
 rcases Nat.lt_or_ge d S.length with hd | hd
 .rw [List.getElem?_set_self hd,List.getElem?_eq_getElem hd]
  simp only [Option.bind_some];rw [List.getElem?_set_ne h];simp [List.getD,hd]
 .rw [List.set_eq_of_length_le hd]
end Go.Proofs.YtlclonljdagpkaaGreatDoor
