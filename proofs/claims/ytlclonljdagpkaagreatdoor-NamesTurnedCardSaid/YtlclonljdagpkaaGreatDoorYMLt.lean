/- A part of the proof. The statement is proved in the claim's last text. -/
import Derived.Test.YtlclonljdagpkaaGreatDoorYMLb
import Derived.Test.YtlclonljdagpkaaGreatDoorRows
set_option linter.unusedVariables false
set_option linter.unusedSimpArgs false
set_option maxRecDepth 100000
set_option maxHeartbeats 32000000
namespace Go.Proofs.YtlclonljdagpkaaGreatDoor
open Go.RowKit
set_option maxRecDepth 100000
theorem cells_1 : Tryz.prog.cellsOf 1 = 1:=by kernel_rfl
theorem zero_1 : zeroA Tryz.prog 1 = some [Value.nilFunc]:=by kernel_rfl
theorem cells_2 : Tryz.prog.cellsOf 2 = 1:=by kernel_rfl
theorem inf_2 : (Tryz.prog.info? 2).isSome = true:=by kernel_rfl
theorem cells_3 : Tryz.prog.cellsOf 3 = 1:=by kernel_rfl
theorem zero_3 : zeroA Tryz.prog 3 = some [Value.int IntKind.i64 0]:=by kernel_rfl
theorem inf_3 : (Tryz.prog.info? 3).isSome = true:=by kernel_rfl
theorem cells_4 : Tryz.prog.cellsOf 4 = 1:=by kernel_rfl
theorem zero_4 : zeroA Tryz.prog 4 = some [Value.bool false]:=by kernel_rfl
theorem inf_4 : (Tryz.prog.info? 4).isSome = true:=by kernel_rfl
theorem cells_5 : Tryz.prog.cellsOf 5 = 1:=by kernel_rfl
theorem inf_5 : (Tryz.prog.info? 5).isSome = true:=by kernel_rfl
theorem cells_9 : Tryz.prog.cellsOf 9 = 1:=by kernel_rfl
theorem zero_9 : zeroA Tryz.prog 9 = some [Value.string { data:=#[] }]:=by kernel_rfl
theorem inf_9 : (Tryz.prog.info? 9).isSome = true:=by kernel_rfl
theorem cells_22 : Tryz.prog.cellsOf 22 = 1:=by kernel_rfl
theorem inf_22 : (Tryz.prog.info? 22).isSome = true:=by kernel_rfl
theorem elem_22 : elemOfT Tryz.prog 22 = 42:=by kernel_rfl
theorem app_22 : appOk Tryz.prog 22 42 16 = true:=by kernel_rfl
theorem cells_24 : Tryz.prog.cellsOf 24 = 1:=by kernel_rfl
theorem zero_24 : zeroA Tryz.prog 24 = some [Value.slice none 0 0]:=by kernel_rfl
theorem cells_25 : Tryz.prog.cellsOf 25 = 1:=by kernel_rfl
theorem inf_25 : (Tryz.prog.info? 25).isSome = true:=by kernel_rfl
theorem elem_25 : elemOfT Tryz.prog 25 = 48:=by kernel_rfl
theorem app_25 : appOk Tryz.prog 25 48 2 = true:=by kernel_rfl
theorem cells_30 : Tryz.prog.cellsOf 30 = 1:=by kernel_rfl
theorem inf_30 : (Tryz.prog.info? 30).isSome = true:=by kernel_rfl
theorem elem_30 : elemOfT Tryz.prog 30 = 55:=by kernel_rfl
theorem app_30 : appOk Tryz.prog 30 55 4 = true:=by kernel_rfl
theorem cells_31 : Tryz.prog.cellsOf 31 = 1:=by kernel_rfl
theorem inf_31 : (Tryz.prog.info? 31).isSome = true:=by kernel_rfl
theorem elem_31 : elemOfT Tryz.prog 31 = 33:=by kernel_rfl
theorem app_31 : appOk Tryz.prog 31 33 3 = true:=by kernel_rfl
theorem cells_33 : Tryz.prog.cellsOf 33 = 3:=by kernel_rfl
theorem zero_33 : zeroA Tryz.prog 33 = some [Value.int IntKind.u8 0,Value.string { data:=#[] },Value.slice none 0 0]:=by kernel_rfl
theorem inf_33 : (Tryz.prog.info? 33).isSome = true:=by kernel_rfl
theorem cells_34 : Tryz.prog.cellsOf 34 = 1:=by kernel_rfl
theorem zero_34 : zeroA Tryz.prog 34 = some [Value.slice none 0 0]:=by kernel_rfl
theorem inf_34 : (Tryz.prog.info? 34).isSome = true:=by kernel_rfl
theorem elem_34 : elemOfT Tryz.prog 34 = 45:=by kernel_rfl
theorem app_34 : appOk Tryz.prog 34 45 15 = true:=by kernel_rfl
theorem cells_35 : Tryz.prog.cellsOf 35 = 1:=by kernel_rfl
theorem inf_35 : (Tryz.prog.info? 35).isSome = true:=by kernel_rfl
theorem elem_35 : elemOfT Tryz.prog 35 = 9:=by kernel_rfl
theorem app_35 : appOk Tryz.prog 35 9 1 = true:=by kernel_rfl
theorem cells_37 : Tryz.prog.cellsOf 37 = 2:=by kernel_rfl
theorem zero_37 : zeroA Tryz.prog 37 = some [Value.string { data:=#[] },Value.slice none 0 0]:=by kernel_rfl
theorem inf_37 : (Tryz.prog.info? 37).isSome = true:=by kernel_rfl
theorem cells_38 : Tryz.prog.cellsOf 38 = 1:=by kernel_rfl
theorem inf_38 : (Tryz.prog.info? 38).isSome = true:=by kernel_rfl
theorem elem_38 : elemOfT Tryz.prog 38 = 40:=by kernel_rfl
theorem app_38 : appOk Tryz.prog 38 40 8 = true:=by kernel_rfl
theorem cells_40 : Tryz.prog.cellsOf 40 = 8:=by kernel_rfl
theorem zero_40 : zeroA Tryz.prog 40 = some [Value.int IntKind.u8 0,Value.int IntKind.i64 0,Value.string { data:=#[] },Value.string { data:=#[] },Value.string { data:=#[] },Value.slice none 0 0,Value.slice none 0 0,Value.int IntKind.i64 0]:=by kernel_rfl
theorem inf_40 : (Tryz.prog.info? 40).isSome = true:=by kernel_rfl
theorem cells_42 : Tryz.prog.cellsOf 42 = 16:=by kernel_rfl
theorem zero_42 : zeroA Tryz.prog 42 = some [Value.int IntKind.u8 0,Value.string { data:=#[] },Value.slice none 0 0,Value.int IntKind.u8 0,Value.string { data:=#[] },Value.slice none 0 0,Value.slice none 0 0,Value.int IntKind.u8 0,Value.int IntKind.i64 0,Value.string { data:=#[] },Value.string { data:=#[] },Value.string { data:=#[] },Value.slice none 0 0,Value.slice none 0 0,Value.int IntKind.i64 0,Value.int IntKind.i64 0]:=by kernel_rfl
theorem cells_43 : Tryz.prog.cellsOf 43 = 1:=by kernel_rfl
theorem inf_43 : (Tryz.prog.info? 43).isSome = true:=by kernel_rfl
theorem elem_43 : elemOfT Tryz.prog 43 = 111:=by kernel_rfl
theorem app_43 : appOk Tryz.prog 43 111 3 = true:=by kernel_rfl
theorem cells_45 : Tryz.prog.cellsOf 45 = 15:=by kernel_rfl
theorem zero_45 : zeroA Tryz.prog 45 = some [Value.int IntKind.u8 0,Value.string { data:=#[] },Value.string { data:=#[] },Value.slice none 0 0,Value.int IntKind.u8 0,Value.string { data:=#[] },Value.slice none 0 0,Value.int IntKind.i64 0,Value.string { data:=#[] },Value.slice none 0 0,Value.slice none 0 0,Value.slice none 0 0,Value.slice none 0 0,Value.slice none 0 0,Value.int IntKind.i64 0]:=by kernel_rfl
theorem cells_46 : Tryz.prog.cellsOf 46 = 1:=by kernel_rfl
theorem inf_46 : (Tryz.prog.info? 46).isSome = true:=by kernel_rfl
theorem cells_48 : Tryz.prog.cellsOf 48 = 2:=by kernel_rfl
theorem zero_48 : zeroA Tryz.prog 48 = some [Value.int IntKind.i64 0,Value.int IntKind.i64 0]:=by kernel_rfl
theorem cells_49 : Tryz.prog.cellsOf 49 = 1:=by kernel_rfl
theorem inf_49 : (Tryz.prog.info? 49).isSome = true:=by kernel_rfl
theorem cells_55 : Tryz.prog.cellsOf 55 = 4:=by kernel_rfl
theorem zero_55 : zeroA Tryz.prog 55 = some [Value.string { data:=#[] },Value.int IntKind.u8 0,Value.string { data:=#[] },Value.slice none 0 0]:=by kernel_rfl
theorem cells_76 : Tryz.prog.cellsOf 76 = 1:=by kernel_rfl
theorem inf_76 : (Tryz.prog.info? 76).isSome = true:=by kernel_rfl
theorem elem_76 : elemOfT Tryz.prog 76 = 83:=by kernel_rfl
theorem app_76 : appOk Tryz.prog 76 83 3 = true:=by kernel_rfl
theorem cells_82 : Tryz.prog.cellsOf 82 = 4:=by kernel_rfl
theorem zero_82 : zeroA Tryz.prog 82 = some [Value.slice none 0 0,Value.int IntKind.i64 0,Value.bool false,Value.bool false]:=by kernel_rfl
theorem cells_83 : Tryz.prog.cellsOf 83 = 3:=by kernel_rfl
theorem zero_83 : zeroA Tryz.prog 83 = some [Value.int IntKind.u8 0,Value.string { data:=#[] },Value.int IntKind.i64 0]:=by kernel_rfl
theorem cells_91 : Tryz.prog.cellsOf 91 = 1:=by kernel_rfl
theorem zero_91 : zeroA Tryz.prog 91 = some [Value.int IntKind.i64 0]:=by kernel_rfl
theorem cells_102 : Tryz.prog.cellsOf 102 = 1:=by kernel_rfl
theorem cells_111 : Tryz.prog.cellsOf 111 = 3:=by kernel_rfl
theorem zero_111 : zeroA Tryz.prog 111 = some [Value.string { data:=#[] },Value.string { data:=#[] },Value.slice none 0 0]:=by kernel_rfl
theorem cells_112 : Tryz.prog.cellsOf 112 = 1:=by kernel_rfl
theorem inf_112 : (Tryz.prog.info? 112).isSome = true:=by kernel_rfl
theorem cells_113 : Tryz.prog.cellsOf 113 = 1:=by kernel_rfl
theorem inf_113 : (Tryz.prog.info? 113).isSome = true:=by kernel_rfl
theorem cells_115 : Tryz.prog.cellsOf 115 = 3:=by kernel_rfl
theorem zero_115 : zeroA Tryz.prog 115 = some [Value.map none,Value.map none,Value.slice none 0 0]:=by kernel_rfl
theorem elem_116 : elemOfT Tryz.prog 116 = 4:=by kernel_rfl
theorem app_116 : appOk Tryz.prog 116 4 1 = true:=by kernel_rfl
theorem cells_120 : Tryz.prog.cellsOf 120 = 1:=by kernel_rfl
theorem zero_120 : zeroA Tryz.prog 120 = some [Value.pointer none]:=by kernel_rfl
theorem cells_123 : Tryz.prog.cellsOf 123 = 1:=by kernel_rfl
theorem zero_123 : zeroA Tryz.prog 123 = some [Value.bool false]:=by kernel_rfl
theorem cells_124 : Tryz.prog.cellsOf 124 = 1:=by kernel_rfl
theorem inf_124 : (Tryz.prog.info? 124).isSome = true:=by kernel_rfl
theorem cells_126 : Tryz.prog.cellsOf 126 = 4:=by kernel_rfl
theorem zero_126 : zeroA Tryz.prog 126 = some [Value.pointer none,Value.map none,Value.int IntKind.i64 0,Value.int IntKind.i64 0]:=by kernel_rfl
theorem cells_161 : Tryz.prog.cellsOf 161 = 1:=by kernel_rfl
theorem zero_161 : zeroA Tryz.prog 161 = some [Value.nilFunc]:=by kernel_rfl
theorem cells_163 : Tryz.prog.cellsOf 163 = 1:=by kernel_rfl
theorem zero_163 : zeroA Tryz.prog 163 = some [Value.nilFunc]:=by kernel_rfl
theorem cells_164 : Tryz.prog.cellsOf 164 = 1:=by kernel_rfl
theorem zero_164 : zeroA Tryz.prog 164 = some [Value.nilFunc]:=by kernel_rfl
theorem cells_165 : Tryz.prog.cellsOf 165 = 1:=by kernel_rfl
theorem zero_165 : zeroA Tryz.prog 165 = some [Value.nilFunc]:=by kernel_rfl
theorem cells_168 : Tryz.prog.cellsOf 168 = 1:=by kernel_rfl
theorem zero_168 : zeroA Tryz.prog 168 = some [Value.nilFunc]:=by kernel_rfl
theorem cells_171 : Tryz.prog.cellsOf 171 = 1:=by kernel_rfl
theorem zero_171 : zeroA Tryz.prog 171 = some [Value.nilFunc]:=by kernel_rfl
theorem cells_173 : Tryz.prog.cellsOf 173 = 1:=by kernel_rfl
theorem zero_173 : zeroA Tryz.prog 173 = some [Value.nilFunc]:=by kernel_rfl
theorem elem_180 : elemOfT Tryz.prog 180 = 1:=by kernel_rfl
theorem app_180 : appOk Tryz.prog 180 1 1 = true:=by kernel_rfl
theorem cells_198 : Tryz.prog.cellsOf 198 = 1:=by kernel_rfl
theorem zero_198 : zeroA Tryz.prog 198 = some [Value.map none]:=by kernel_rfl
theorem cells_207 : Tryz.prog.cellsOf 207 = 3:=by kernel_rfl
theorem zero_207 : zeroA Tryz.prog 207 = some [Value.bool false,Value.int IntKind.i64 0,Value.int IntKind.i64 0]:=by kernel_rfl
theorem cells_213 : Tryz.prog.cellsOf 213 = 10:=by kernel_rfl
theorem zero_213 : zeroA Tryz.prog 213 = some [Value.int IntKind.i64 0,Value.int IntKind.i64 0,Value.bool false,Value.bool false,Value.bool false,Value.bool false,Value.bool false,Value.bool false,Value.nilFunc,Value.nilFunc]:=by kernel_rfl
theorem cells_241 : Tryz.prog.cellsOf 241 = 1:=by kernel_rfl
theorem inf_241 : (Tryz.prog.info? 241).isSome = true:=by kernel_rfl
theorem cells_243 : Tryz.prog.cellsOf 243 = 2:=by kernel_rfl
theorem zero_243 : zeroA Tryz.prog 243 = some [Value.bool false,Value.int IntKind.u64 0]:=by kernel_rfl
theorem elem_266 : elemOfT Tryz.prog 266 = 269:=by kernel_rfl
theorem app_266 : appOk Tryz.prog 266 269 9 = true:=by kernel_rfl
theorem cells_269 : Tryz.prog.cellsOf 269 = 9:=by kernel_rfl
theorem zero_269 : zeroA Tryz.prog 269 = some [Value.string { data:=#[] },Value.int IntKind.u8 0,Value.int IntKind.i64 0,Value.string { data:=#[] },Value.string { data:=#[] },Value.string { data:=#[] },Value.slice none 0 0,Value.slice none 0 0,Value.int IntKind.i64 0]:=by kernel_rfl
theorem zerov_42 : zeroV Tryz.prog 42 = some (.agg [.p (.v (Value.int IntKind.u8 0)),.p (.v (Value.string { data:=#[] })),.p (.v (Value.slice none 0 0)),.p (.v (Value.int IntKind.u8 0)),.p (.v (Value.string { data:=#[] })),.p (.v (Value.slice none 0 0)),.p (.v (Value.slice none 0 0)),.p (.v (Value.int IntKind.u8 0)),.p (.v (Value.int IntKind.i64 0)),.p (.v (Value.string { data:=#[] })),.p (.v (Value.string { data:=#[] })),.p (.v (Value.string { data:=#[] })),.p (.v (Value.slice none 0 0)),.p (.v (Value.slice none 0 0)),.p (.v (Value.int IntKind.i64 0)),.p (.v (Value.int IntKind.i64 0))]):=by kernel_rfl
theorem zerov_123 : zeroV Tryz.prog 123 = some (.agg [.p (.v (Value.bool false))]):=by kernel_rfl
theorem zerov_3 : zeroV Tryz.prog 3 = some (.p (.v (Value.int IntKind.i64 0))):=by kernel_rfl
theorem zerov_5 : zeroV Tryz.prog 5 = some (.p (.v (Value.int IntKind.u8 0))):=by kernel_rfl
theorem zerov_247 : zeroV Tryz.prog 247 = some (.p (.v (Value.nilFunc))):=by kernel_rfl
attribute [simp] cells_1 zero_1 cells_2 inf_2 cells_3 zero_3 inf_3 cells_4 zero_4 inf_4 cells_5 inf_5 cells_9 zero_9 inf_9 cells_22 inf_22 elem_22 app_22 cells_24 zero_24 cells_25 inf_25 elem_25 app_25 cells_30 inf_30 elem_30 app_30 cells_31 inf_31 elem_31 app_31 cells_33 zero_33 inf_33 cells_34 zero_34 inf_34 elem_34 app_34 cells_35 inf_35 elem_35 app_35 cells_37 zero_37 inf_37 cells_38 inf_38 elem_38 app_38 cells_40 zero_40 inf_40 cells_42 zero_42 cells_43 inf_43 elem_43 app_43 cells_45 zero_45 cells_46 inf_46 cells_48 zero_48 cells_49 inf_49 cells_55 zero_55 cells_76 inf_76 elem_76 app_76 cells_82 zero_82 cells_83 zero_83 cells_91 zero_91 cells_102 cells_111 zero_111 cells_112 inf_112 cells_113 inf_113 cells_115 zero_115 elem_116 app_116 cells_120 zero_120 cells_123 zero_123 cells_124 inf_124 cells_126 zero_126 cells_161 zero_161 cells_163 zero_163 cells_164 zero_164 cells_165 zero_165 cells_168 zero_168 cells_171 zero_171 cells_173 zero_173 elem_180 app_180 cells_198 zero_198 cells_207 zero_207 cells_213 zero_213 cells_241 inf_241 cells_243 zero_243 elem_266 app_266 cells_269 zero_269 zerov_42 zerov_123 zerov_3 zerov_5 zerov_247
theorem mixed : Tryz.prog.follows .mixedOrders = true:=by kernel_rfl
end Go.Proofs.YtlclonljdagpkaaGreatDoor
namespace Go.Proofs.YtlclonljdagpkaaGreatDoor
open Go.RowKit
mutual
inductive LeP : PV → PV → Prop
 | refl (p : PV) : LeP p p
 | nil (k : Nat) : LeP (.v (.slice none 0 0)) (.sl k [])
 | sl {k : Nat} {rows rows' : List (List PV)} : LeRows rows rows' → LeP (.sl k rows) (.sl k rows')
inductive LeRow : List PV → List PV → Prop
 | refl (l : List PV) : LeRow l l
 | cons {p p' : PV} {l l' : List PV} : LeP p p' → LeRow l l' → LeRow (p :: l) (p' :: l')
inductive LeRows : List (List PV) → List (List PV) → Prop
 | refl (l : List (List PV)) : LeRows l l
 | cons {p p' : List PV} {l l' : List (List PV)} : LeRow p p' → LeRows l l' → LeRows (p :: l) (p' :: l')
end
theorem LeP.ok {p p' : PV} (h : LeP p p') : ∀ {Pr : Prot} {x : Value},RP Pr p x → RP Pr p' x:=by
 refine LeP.rec (motive_1:=fun p p' _=>∀ {Pr : Prot} {x : Value},RP Pr p x → RP Pr p' x)
  (motive_2:=fun l l' _=>l.length = l'.length ∧ ∀ (j : Nat) (p' : PV),l'[j]? = some p' → ∃ p,l[j]? = some p ∧ ∀ {Pr : Prot} {x : Value},RP Pr p x → RP Pr p' x)
  (motive_3:=fun l l' _=>l.length = l'.length ∧ ∀ (r : Nat) (row' : List PV),l'[r]? = some row' → ∃ row,l[r]? = some row ∧ row.length = row'.length ∧ ∀ (j : Nat) (p' : PV),row'[j]? = some p' → ∃ p,row[j]? = some p ∧ ∀ {Pr : Prot} {x : Value},RP Pr p x → RP Pr p' x)
  ?_ ?_ ?_ ?_ ?_ ?_ ?_ h
 ·intro p Pr x h; exact h
 ·intro k Pr x h
  cases h with
  | v h=>exact .slemp k none 0 (Nat.zero_le _)
 ·intro k rows rows' _ ⟨hl,ih⟩ Pr x h
  cases h with
  | slemp _ A cap hc =>
   obtain rfl : rows' = []:=List.eq_nil_of_length_eq_zero hl.symm
   exact .slemp _ A _ hc
  | sl vs h1 h2 h3 h4 h5 =>
   rw [hl] at h1 ⊢
   refine .sl vs h1 h2 (fun r row' hr=>?_) (fun r row' j p' hr hj=>?_) (fun r row' j p' hr hj=>?_)
   ·obtain ⟨row,k1,k2,_⟩:=ih r row' hr
    rw [← k2]; exact h3 r row k1
   ·obtain ⟨row,k1,k2,k3⟩:=ih r row' hr
    obtain ⟨p,k4,k5⟩:=k3 j p' hj
    exact h4 r row j p k1 k4
   ·obtain ⟨row,k1,k2,k3⟩:=ih r row' hr
    obtain ⟨p,k4,k5⟩:=k3 j p' hj
    exact k5 (h5 r row j p k1 k4)
 ·intro l; exact ⟨rfl,fun j p h=>⟨p,h,fun h=>h⟩⟩
 ·intro p p' l l' _ _ ih1 ⟨hl,ih2⟩
  refine ⟨by simp [hl],fun j q hq=>?_⟩
  cases j with
  | zero=>simp at hq; subst hq; exact ⟨p,rfl,ih1⟩
  | succ j=>simpa using ih2 j q (by simpa using hq)
 ·intro l; exact ⟨rfl,fun r row h=>⟨row,h,rfl,fun j p h=>⟨p,h,fun h=>h⟩⟩⟩
 ·intro p p' l l' _ _ ⟨hl1,ih1⟩ ⟨hl,ih2⟩
  refine ⟨by simp [hl],fun j q hq=>?_⟩
  cases j with
  | zero=>simp at hq; subst hq; exact ⟨p,rfl,hl1,ih1⟩
  | succ j=>simpa using ih2 j q (by simpa using hq)
mutual
inductive LeA : AV → AV → Prop
 | refl (v : AV) : LeA v v
 | any (v : AV) : LeA v .any
 | p {q q' : PV} : LeP q q' → LeA (.p q) (.p q')
 | osl {k d i : Nat} {rows rows' : List (List PV)} : LeRows rows rows' → LeA (.osl k rows d i) (.p (.sl k rows'))
 | agg {cs cs' : List AV} : LeAs cs cs' → LeA (.agg cs) (.agg cs')
inductive LeAs : List AV → List AV → Prop
 | refl (l : List AV) : LeAs l l
 | cons {v v' : AV} {l l' : List AV} : LeA v v' → LeAs l l' → LeAs (v :: l) (v' :: l')
end
theorem leA_both {Pr : Prot} {φ : Fi2} : (∀ {v v' : AV},LeA v v' → ∀ {x : Value},RA Pr φ v x → RA Pr φ v' x) ∧ (∀ {l l' : List AV},LeAs l l' → l.length = l'.length ∧ ∀ (j : Nat) (v' : AV),l'[j]? = some v' → ∃ v,l[j]? = some v ∧ ∀ {x : Value},RA Pr φ v x → RA Pr φ v' x):=by
 have key : ∀ {v v' : AV} (h : LeA v v') {x : Value},RA Pr φ v x → RA Pr φ v' x:=by
  intro v v' h
  refine LeA.rec (motive_1:=fun v v' _=>∀ {x : Value},RA Pr φ v x → RA Pr φ v' x)
   (motive_2:=fun l l' _=>l.length = l'.length ∧ ∀ (j : Nat) (v' : AV),l'[j]? = some v' → ∃ v,l[j]? = some v ∧ ∀ {x : Value},RA Pr φ v x → RA Pr φ v' x) ?_ ?_ ?_ ?_ ?_ ?_ ?_ h
  ·intro v x h; exact h
  ·intro v x h; exact .any x
  ·intro q q' hq x h
   cases h with
   | p h=>exact .p (hq.ok h)
  ·intro k d i rows rows' hr x h
   exact .p ((LeP.sl hr).ok h.sl)
  ·intro cs cs' _ ⟨hl,ih⟩ x h
   cases h with
   | agg h1 h2 =>
    refine .agg (hl ▸ h1) fun j c y hc hy=>?_
    obtain ⟨v,k1,k2⟩:=ih j c hc
    exact k2 (h2 j v y k1 hy)
  ·intro l; exact ⟨rfl,fun j v h=>⟨v,h,fun h=>h⟩⟩
  ·intro v v' l l' _ _ ih1 ⟨hl,ih2⟩
   refine ⟨by simp [hl],fun j q hq=>?_⟩
   cases j with
   | zero=>simp at hq; subst hq; exact ⟨v,rfl,ih1⟩
   | succ j=>simpa using ih2 j q (by simpa using hq)
 refine ⟨key,fun {l l'} h=>?_⟩
 have hA : LeA (.agg l) (.agg l'):=.agg h
 refine LeAs.rec (motive_1:=fun v v' _=>True)
  (motive_2:=fun l l' _=>l.length = l'.length ∧ ∀ (j : Nat) (v' : AV),l'[j]? = some v' → ∃ v,l[j]? = some v ∧ ∀ {x : Value},RA Pr φ v x → RA Pr φ v' x) ?_ ?_ ?_ ?_ ?_ ?_ ?_ h
 ·intros; trivial
 ·intros; trivial
 ·intros; trivial
 ·intros; trivial
 ·intros; trivial
 ·intro l; exact ⟨rfl,fun j v h=>⟨v,h,fun h=>h⟩⟩
 ·intro v v' l l' hv _ _ ⟨hl,ih2⟩
  refine ⟨by simp [hl],fun j q hq=>?_⟩
  cases j with
  | zero=>simp at hq; subst hq; exact ⟨v,rfl,key hv⟩
  | succ j=>simpa using ih2 j q (by simpa using hq)
theorem ADet.sub {P : Program} {F : FuncId} {xs xs' : List AV} {S S' : ASt} {r : AV} (hle : LeAs xs xs') (h : ADet P F xs' S r S') : ADet P F xs S r S' :=
 ⟨h.1,fun Pr φ ys w hargs hR hne=>by
  obtain ⟨hl,hk⟩:=(leA_both (Pr:=Pr) (φ:=φ)).2 hle
  exact h.2 Pr φ ys w ⟨hl ▸ hargs.1,fun j c x hc hx=>by
   obtain ⟨v,k1,k2⟩:=hk j c hc
   exact k2 (hargs.2 j v x k1 hx)⟩ hR hne⟩
theorem ADet.less {P : Program} {F : FuncId} {xs : List AV} {S S' : ASt} {r r' : AV} (hle : LeA r r') (h : ADet P F xs S r S') : ADet P F xs S r' S' :=
 ⟨h.1,fun Pr φ ys w hargs hR hne=>(h.2 Pr φ ys w hargs hR hne).mono fun e w' hp=>by
  obtain ⟨x,Pr',φ',h1,h2,h3,h4⟩:=hp
  exact ⟨x,Pr',φ',h1,h2,h3,(leA_both (Pr:=Pr') (φ:=φ')).1 hle h4⟩⟩
end Go.Proofs.YtlclonljdagpkaaGreatDoor
namespace Go.Proofs.YtlclonljdagpkaaGreatDoor
open Go.RowKit
def RetGift (P : Program) (rs : List ResultVar) (E : TypeId) (k : Nat) (rows : List (List PV)) (S' : ASt) : Exit → List AV → ASt → Prop:=fun e fr S1 =>
 (e = .normal ∨ e = .ret) ∧ ∃ vs j,resA P fr S1 rs = some vs ∧ retA vs = .osl k rows 0 j ∧ get2 S1 0 j = some (.tok E k rows.length) ∧ S1.tail = S'
end Go.Proofs.YtlclonljdagpkaaGreatDoor
namespace Go.Proofs.YtlclonljdagpkaaGreatDoor
open Go.RowKit
def awpS (P : Program) (ops : Array Oper) (K : List AV → ASt → Prop) (S : ASt) : List Oper → List AV → Prop
 | [],fr=>K fr S
 | o :: os,fr =>
  match wantA ops o fr with
  | some true =>
   match callA o fr with
   | some (F,args)=>∃ r,ADet P F args S r S ∧ awpS P ops K S os (putA fr o.dst r)
   | none =>
    match evL P o fr S with
    | some (v,_)=>awpS P ops K S os (putA fr o.dst v)
    | none =>
     match stepF P o fr S with
     | some (v,S')=>S' = S ∧ awpS P ops K S os (putA fr o.dst v)
     | none=>False
  | some false=>awpS P ops K S os (putA fr o.dst .un)
  | none=>False
def NextS (P : Program) (ops : Array Oper) (K : List AV → ASt → Prop) (S : ASt) (os : List Oper) (fr : List AV) (dst : Option Nat) (r : AV) : Prop:=awpS P ops K S os (putA fr dst r)
@[reducible] def CallS (P : Program) (F : Nat) (args : List AV) (S : ASt) (K : AV → Prop) : Prop:=∃ r,ADet P F args S r S ∧ K r
theorem nextS_eq {P : Program} {ops : Array Oper} {K : List AV → ASt → Prop} {S : ASt} (os : List Oper) {fr : List AV} (dst : Option Nat) (r : AV) : NextS P ops K S os fr dst r = awpS P ops K S os (putA fr dst r):=rfl
theorem awpS_nil {P : Program} {ops : Array Oper} {K : List AV → ASt → Prop} {S : ASt} {fr : List AV} : awpS P ops K S [] fr = K fr S:=by rw [awpS]
theorem awpS_cons {P : Program} {ops : Array Oper} {K : List AV → ASt → Prop} {S : ASt} (o : Oper) (os : List Oper) {fr : List AV} : awpS P ops K S (o :: os) fr = (match wantA ops o fr with
  | some true =>
   match callA o fr with
   | some (F,args)=>CallS P F args S (NextS P ops K S os fr o.dst)
   | none =>
    match evL P o fr S with
    | some (v,_)=>awpS P ops K S os (putA fr o.dst v)
    | none =>
     match stepF P o fr S with
     | some (v,S')=>S' = S ∧ awpS P ops K S os (putA fr o.dst v)
     | none=>False
  | some false=>awpS P ops K S os (putA fr o.dst .un)
  | none=>False):=by rw [awpS] <;> rfl
theorem getD_all {α : Type} {l : List α} {x d : α} (h : ∀ y ∈ l,y = x) {j : Nat} (hj : j < l.length) : l.getD j d = x:=by
 rw [List.getD,List.getElem?_eq_getElem hj]
 exact h _ (List.getElem_mem hj)
theorem lcl_const {Ss : List ASt} {S : ASt} (h : ∀ T ∈ Ss,T = S) {i m : Nat} (hm : m + 1 < Ss.length) : ∀ ls : List (Nat × Nat × Nat),LCl Ss i m ls
 | []=>trivial
 | (j,d,k) :: ls=>⟨fun _=>by rw [getD_all h hm,getD_all h (by omega)],lcl_const h hm ls⟩
theorem lcp_const {Ss : List ASt} {S : ASt} (h : ∀ T ∈ Ss,T = S) {ls : List (Nat × Nat × Nat)} : ∀ prs : List (Nat × Nat),(∀ p ∈ prs,p.2 + 1 < Ss.length) → LCp Ss ls prs
 | [],_=>trivial
 | (i,m) :: prs,hp=>⟨lcl_const h (hp (i,m) (by simp)) ls,lcp_const h prs fun p hm=>hp p (by simp [hm])⟩
theorem awpS_D {P : Program} {ops : Array Oper} {prs : List (Nat × Nat)} {K : List AV → ASt → Prop} {S : ASt} (n : Nat) (hp : ∀ p ∈ prs,p.2 < n) : ∀ (os : List Oper) (i : Nat) (fr : List AV) (Vs : List AV) (Ss : List ASt) (ls : List (Nat × Nat × Nat)),Ss.length = i + 1 → (∀ T ∈ Ss,T = S) → i + os.length = n →
  awpS P ops K S os fr → awpD P ops prs K os i fr S Vs Ss ls
 | [],i,fr,Vs,Ss,ls,h1,h2,h3,h=>by
  rw [awpS] at h
  rw [awpD]
  exact ⟨lcp_const h2 prs fun p hm=>by have:=hp p hm; simp at h3; omega,h⟩
 | o :: os,i,fr,Vs,Ss,ls,h1,h2,h3,h=>by
  have g1 : (Ss ++ [S]).length = (i + 1) + 1:=by simp [h1]
  have g2 : ∀ T ∈ Ss ++ [S],T = S:=fun T hT=>by
   rcases List.mem_append.1 hT with h | h
   ·exact h2 T h
   ·simpa using h
  have g3 : i + 1 + os.length = n:=by simp at h3; omega
  rw [awpS] at h
  rw [awpD]
  split
  ·rename_i hw
   rw [hw] at h
   simp only at h
   split
   ·rename_i F args hc
    rw [hc] at h
    obtain ⟨r,k1,k2⟩:=h
    exact ⟨r,S,k1,awpS_D n hp os (i + 1) _ _ _ _ g1 g2 g3 k2⟩
   ·rename_i hc
    rw [hc] at h
    simp only at h
    split
    ·rename_i v ref he
     rw [he] at h
     exact awpS_D n hp os (i + 1) _ _ _ _ g1 g2 g3 h
    ·rename_i he
     rw [he] at h
     simp only at h
     split
     ·rename_i v S' hs
      rw [hs] at h
      obtain ⟨rfl,h⟩:=h
      exact awpS_D n hp os (i + 1) _ _ _ _ g1 g2 g3 h
     ·rename_i hs
      rw [hs] at h
      exact h.elim
  ·rename_i hw
   rw [hw] at h
   exact awpS_D n hp os (i + 1) _ _ _ _ g1 g2 g3 h
  ·rename_i hw
   rw [hw] at h
   exact h.elim
theorem awp_drawS {P : Program} {ops : Array Oper} {id : Nat} {fr : List AV} {S : ASt} {Q : Exit → List AV → ASt → Prop} (prs : List (Nat × Nat)) (hst : statD ops = true) (hprs : needLC ops = prs) (hr : (prs.all fun p=>decide (p.2 < ops.size)) = true) (h : awpS P ops (Q .normal) S ops.toList fr) : awp P (.region id ops true) fr S Q :=
 awp_draw prs hst hprs (awpS_D ops.size (fun p hp=>by simpa using List.all_eq_true.1 hr p hp) ops.toList 0 fr [] [S] [] rfl (fun T hT=>by simpa using hT) (by simp) h)
end Go.Proofs.YtlclonljdagpkaaGreatDoor
namespace Go.Proofs.YtlclonljdagpkaaGreatDoor
open Go.RowKit
theorem run_bneq (a b : Bool) (x y : Operand) : pureRun Tryz.prog (do eqGuard .neq 4 x y (.bool a) (.bool b); binOp .neq 4 (.bool a) (.bool b) : Sem Value) = some (.bool (a != b)):=by
 cases a <;> cases b <;> kernel_rfl
theorem pureRun_map {P : Program} {α β : Type} (f : α → β) (s : Sem α) (a : α) (h : pureRun P s = some a) : pureRun P (f <$> s) = some (f a):=by
 induction s with
 | pure b=>simp [pureRun] at h; subst h; rfl
 | program k ih=>exact ih P (by simpa [pureRun] using h)
 | mark m k ih=>exact ih (by simpa [pureRun] using h)
 | _=>simp [pureRun] at h
theorem genP_bneq {fr : List AV} {o : Oper} {x y : Operand} {k : TypeId} (a b : Bool) (ho : o.op = .binOp .neq 4 x y k) (hx : evA fr x = B a) (hy : evA fr y = B b) : genP Tryz.prog o fr = some (B (a != b)):=by
 obtain ⟨dst,op,ty,pos,after,guard⟩:=o
 simp only at ho
 subst ho
 have h1 : (noSel (.binOp .neq 4 x y k) && allAtoms fr (Op.operands (.binOp .neq 4 x y k)).toList) = true:=by
  show (true && allAtoms fr [x,y]) = true
  rw [Bool.true_and,allAtoms,allAtoms,allAtoms,hx,hy]
  rfl
 have h2 : pureRun Tryz.prog (execOp (fun z=>(atomV (evA fr z)).getD undef) ⟨dst,.binOp .neq 4 x y k,ty,pos,after,guard⟩) = some (.value (.bool (a != b))):=by
  have e1 : (atomV (evA fr x)).getD undef = .bool a:=by rw [hx]; rfl
  have e2 : (atomV (evA fr y)).getD undef = .bool b:=by rw [hy]; rfl
  unfold execOp
  simp only [e1,e2]
  exact pureRun_map _ _ _ (run_bneq a b x y)
 unfold genP
 simp only
 rw [if_pos h1,h2]
 rfl
noncomputable def genK (o : Oper) (fr : List AV) : Option AV:=genP Tryz.prog o fr
@[simp] theorem genP_neq (dst : Option Tmp) (x y : Operand) (k ty : TypeId) (pos : String) (after : Array Edge) (guard : Option (Nat × Bool)) (fr : List AV) :
  genP Tryz.prog ⟨dst,.binOp .neq 4 x y k,ty,pos,after,guard⟩ fr = (match evA fr x,evA fr y with | .p (.v (.bool a)),.p (.v (.bool b))=>some (B (a != b)) | _,_=>genK ⟨dst,.binOp .neq 4 x y k,ty,pos,after,guard⟩ fr):=by
 split
 ·rename_i a b hx hy
  exact genP_bneq a b rfl hx hy
 ·rfl
end Go.Proofs.YtlclonljdagpkaaGreatDoor
namespace Go.Proofs.YtlclonljdagpkaaGreatDoor
open Go.RowKit
def RetFlat (P : Program) (rs : List ResultVar) (r : AV) (S' : ASt) : Exit → List AV → ASt → Prop:=fun e fr S1 =>
 (e = .normal ∨ e = .ret) ∧ ∃ vs,resA P fr S1 rs = some vs ∧ retA vs = r ∧ S1 = S'
theorem retFlat_eq (P : Program) (rs : List ResultVar) (r : AV) (e : Exit) (fr : List AV) (S S1 : ASt) : RetFlat P rs r S e fr S1 = ((e = .normal ∨ e = .ret) ∧ ∃ vs,resA P fr S1 rs = some vs ∧ retA vs = r ∧ S1 = S):=by rw [RetFlat]
attribute [simp] retFlat_eq
theorem ADet.flat {P : Program} {K : FuncId} {args : List AV} {S S' : ASt} {r : AV} {fn : Func} {c : Code} (hm : P.follows .mixedOrders = true) (hK : ∀ xs w,(callFunc K xs).run P w = .ok (.enter K xs) w) (hf : P.funcs[K]? = some fn) (hb : fn.body = some c)
  (h : awp P c (args ++ List.replicate (fn.ntmps - args.length) .un) S (RetFlat P fn.results.toList r S')) : ADet P K args S r S':=by
 refine ⟨hK,fun Pr φ xs w hargs hR hne=>?_⟩
 refine calls_of_wp hf hb ?_
 have hfr : RF Pr φ (args ++ List.replicate (fn.ntmps - args.length) .un) { tmps:=xs ++ Array.replicate (fn.ntmps - xs.size) undef,defers:=[] }:=by
  refine ⟨by simp [hargs.1],fun t v x hv hx=>?_⟩
  rcases Nat.lt_or_ge t args.length with ht | ht
  ·rw [List.getElem?_append_left ht] at hv
   simp only at hx
   rw [Array.getElem?_append_left (by rw [← hargs.1]; exact ht)] at hx
   exact hargs.2 t v x hv hx
  ·rw [List.getElem?_append_right ht] at hv
   simp only at hx
   rw [Array.getElem?_append_right (by rw [← hargs.1]; exact ht)] at hx
   rw [List.getElem?_replicate] at hv
   rw [Array.getElem?_replicate] at hx
   split at hv
   ·split at hx
    ·cases hv; cases hx; exact .un
    ·cases hx
   ·cases hv
 refine wp_mono (awp_ok hm c _ Pr φ _ _ S w hfr hR hne h) fun e a' w' hp=>?_
 obtain ⟨fr',S1,Pr',φ',⟨he,vs,h1,h2,h3⟩,h4,h5,h6,h7⟩:=hp
 obtain ⟨x,hx,hrun⟩:=results_ok (P:=P) (fn:=fn) h4 h5 h1
 subst h3
 rw [h2] at hx
 have key : a'.defers = [] ∧ ∃ v,(results fn a'.tmps).run P w' = .ok v w' ∧ ∃ x Pr' φ',Ending.returned v = .returned x ∧ Stp Pr φ w Pr' φ' w' ∧ Rel Pr' φ' S1 w' ∧ RA Pr' φ' r x :=
  ⟨h7,x,hrun,x,Pr',φ',rfl,h6,h5,hx⟩
 rcases he with rfl | rfl
 ·exact key
 ·exact key
theorem ADet.after {P : Program} {K : FuncId} {args : List AV} {S S' S'' : ASt} {r : AV} (hw : wkT S' S'') (h : ADet P K args S r S') : ADet P K args S r S'' :=
 ⟨h.1,fun Pr φ xs w hargs hR hne=>(h.2 Pr φ xs w hargs hR hne).mono fun e w' hp=>by
  obtain ⟨x,Pr',φ',h1,h2,h3,h4⟩:=hp
  exact ⟨x,Pr',φ',h1,h2,rel_wk h3 (wkT_ok hw),h4⟩⟩
end Go.Proofs.YtlclonljdagpkaaGreatDoor
namespace Go.Proofs.YtlclonljdagpkaaGreatDoor
open Go.RowKit
theorem run_beql (a b : Bool) (x y : Operand) : pureRun Tryz.prog (do eqGuard .eql 4 x y (.bool a) (.bool b); binOp .eql 4 (.bool a) (.bool b) : Sem Value) = some (.bool (a == b)):=by
 cases a <;> cases b <;> kernel_rfl
theorem genP_beql {fr : List AV} {o : Oper} {x y : Operand} {k : TypeId} (a b : Bool) (ho : o.op = .binOp .eql 4 x y k) (hx : evA fr x = B a) (hy : evA fr y = B b) : genP Tryz.prog o fr = some (B (a == b)):=by
 obtain ⟨dst,op,ty,pos,after,guard⟩:=o
 simp only at ho
 subst ho
 have h1 : (noSel (.binOp .eql 4 x y k) && allAtoms fr (Op.operands (.binOp .eql 4 x y k)).toList) = true:=by
  show (true && allAtoms fr [x,y]) = true
  rw [Bool.true_and,allAtoms,allAtoms,allAtoms,hx,hy]
  rfl
 have h2 : pureRun Tryz.prog (execOp (fun z=>(atomV (evA fr z)).getD undef) ⟨dst,.binOp .eql 4 x y k,ty,pos,after,guard⟩) = some (.value (.bool (a == b))):=by
  have e1 : (atomV (evA fr x)).getD undef = .bool a:=by rw [hx]; rfl
  have e2 : (atomV (evA fr y)).getD undef = .bool b:=by rw [hy]; rfl
  unfold execOp
  simp only [e1,e2]
  exact pureRun_map _ _ _ (run_beql a b x y)
 unfold genP
 simp only
 rw [if_pos h1,h2]
 rfl
@[simp] theorem genP_eql (dst : Option Tmp) (x y : Operand) (k ty : TypeId) (pos : String) (after : Array Edge) (guard : Option (Nat × Bool)) (fr : List AV) :
  genP Tryz.prog ⟨dst,.binOp .eql 4 x y k,ty,pos,after,guard⟩ fr = (match evA fr x,evA fr y with | .p (.v (.bool a)),.p (.v (.bool b))=>some (B (a == b)) | _,_=>genK ⟨dst,.binOp .eql 4 x y k,ty,pos,after,guard⟩ fr):=by
 split
 ·rename_i a b hx hy
  exact genP_beql a b rfl hx hy
 ·rfl
end Go.Proofs.YtlclonljdagpkaaGreatDoor
namespace Go.Proofs.YtlclonljdagpkaaGreatDoor
open Go.RowKit
theorem get2_set2_ne {α : Type} (S : List (List α)) (d : Nat) {i j : Nat} (o : α) (h : i ≠ j) : get2 (set2 S d i o) d j = get2 S d j:=by
 unfold get2 set2
 rcases Nat.lt_or_ge d S.length with hd | hd
 ·rw [List.getElem?_set_self hd,List.getElem?_eq_getElem hd]
  simp only [Option.bind_some]
  rw [List.getElem?_set_ne h]
  simp [List.getD,hd]
 ·rw [List.set_eq_of_length_le hd]
end Go.Proofs.YtlclonljdagpkaaGreatDoor
