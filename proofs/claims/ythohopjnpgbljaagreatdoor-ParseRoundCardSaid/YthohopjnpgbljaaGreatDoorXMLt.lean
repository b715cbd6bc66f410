/- A part of the proof. The statement is proved in the claim's last text. -/
import Derived.Test.YthohopjnpgbljaaGreatDoorXMLb
import Derived.Test.YthohopjnpgbljaaGreatDoorRows
set_option linter.unusedVariables false
set_option linter.unusedSimpArgs false
set_option maxRecDepth 100000
set_option maxHeartbeats 32000000
namespace Go.Proofs.YthohopjnpgbljaaGreatDoor
open Go.RowKit
set_option maxRecDepth 100000
theorem cells_2 : Tryz.prog.cellsOf 2 = 1:=by kernel_rfl
theorem inf_2 : (Tryz.prog.info? 2).isSome = true:=by kernel_rfl
theorem cells_3 : Tryz.prog.cellsOf 3 = 1:=by kernel_rfl
theorem zero_3 : zeroA Tryz.prog 3 = some [Value.int IntKind.i64 0]:=by kernel_rfl
theorem inf_3 : (Tryz.prog.info? 3).isSome = true:=by kernel_rfl
theorem cells_4 : Tryz.prog.cellsOf 4 = 1:=by kernel_rfl
theorem inf_4 : (Tryz.prog.info? 4).isSome = true:=by kernel_rfl
theorem cells_5 : Tryz.prog.cellsOf 5 = 1:=by kernel_rfl
theorem zero_5 : zeroA Tryz.prog 5 = some [Value.int IntKind.u8 0]:=by kernel_rfl
theorem inf_5 : (Tryz.prog.info? 5).isSome = true:=by kernel_rfl
theorem cells_9 : Tryz.prog.cellsOf 9 = 1:=by kernel_rfl
theorem zero_9 : zeroA Tryz.prog 9 = some [Value.string { data:=#[] }]:=by kernel_rfl
theorem inf_9 : (Tryz.prog.info? 9).isSome = true:=by kernel_rfl
theorem cells_22 : Tryz.prog.cellsOf 22 = 1:=by kernel_rfl
theorem inf_22 : (Tryz.prog.info? 22).isSome = true:=by kernel_rfl
theorem elem_22 : elemOfT Tryz.prog 22 = 9:=by kernel_rfl
theorem app_22 : appOk Tryz.prog 22 9 1 = true:=by kernel_rfl
theorem cells_24 : Tryz.prog.cellsOf 24 = 2:=by kernel_rfl
theorem zero_24 : zeroA Tryz.prog 24 = some [Value.string { data:=#[] },Value.slice none 0 0]:=by kernel_rfl
theorem inf_24 : (Tryz.prog.info? 24).isSome = true:=by kernel_rfl
theorem cells_25 : Tryz.prog.cellsOf 25 = 1:=by kernel_rfl
theorem inf_25 : (Tryz.prog.info? 25).isSome = true:=by kernel_rfl
theorem elem_25 : elemOfT Tryz.prog 25 = 27:=by kernel_rfl
theorem app_25 : appOk Tryz.prog 25 27 8 = true:=by kernel_rfl
theorem cells_27 : Tryz.prog.cellsOf 27 = 8:=by kernel_rfl
theorem zero_27 : zeroA Tryz.prog 27 = some [Value.int IntKind.u8 0,Value.int IntKind.i64 0,Value.string { data:=#[] },Value.string { data:=#[] },Value.string { data:=#[] },Value.slice none 0 0,Value.slice none 0 0,Value.int IntKind.i64 0]:=by kernel_rfl
theorem inf_27 : (Tryz.prog.info? 27).isSome = true:=by kernel_rfl
theorem cells_32 : Tryz.prog.cellsOf 32 = 1:=by kernel_rfl
theorem inf_32 : (Tryz.prog.info? 32).isSome = true:=by kernel_rfl
theorem elem_32 : elemOfT Tryz.prog 32 = 45:=by kernel_rfl
theorem app_32 : appOk Tryz.prog 32 45 16 = true:=by kernel_rfl
theorem cells_34 : Tryz.prog.cellsOf 34 = 1:=by kernel_rfl
theorem zero_34 : zeroA Tryz.prog 34 = some [Value.slice none 0 0]:=by kernel_rfl
theorem cells_39 : Tryz.prog.cellsOf 39 = 1:=by kernel_rfl
theorem inf_39 : (Tryz.prog.info? 39).isSome = true:=by kernel_rfl
theorem elem_39 : elemOfT Tryz.prog 39 = 93:=by kernel_rfl
theorem app_39 : appOk Tryz.prog 39 93 4 = true:=by kernel_rfl
theorem cells_40 : Tryz.prog.cellsOf 40 = 1:=by kernel_rfl
theorem inf_40 : (Tryz.prog.info? 40).isSome = true:=by kernel_rfl
theorem cells_42 : Tryz.prog.cellsOf 42 = 3:=by kernel_rfl
theorem zero_42 : zeroA Tryz.prog 42 = some [Value.int IntKind.u8 0,Value.string { data:=#[] },Value.slice none 0 0]:=by kernel_rfl
theorem inf_42 : (Tryz.prog.info? 42).isSome = true:=by kernel_rfl
theorem cells_43 : Tryz.prog.cellsOf 43 = 1:=by kernel_rfl
theorem zero_43 : zeroA Tryz.prog 43 = some [Value.slice none 0 0]:=by kernel_rfl
theorem inf_43 : (Tryz.prog.info? 43).isSome = true:=by kernel_rfl
theorem elem_43 : elemOfT Tryz.prog 43 = 102:=by kernel_rfl
theorem app_43 : appOk Tryz.prog 43 102 15 = true:=by kernel_rfl
theorem cells_45 : Tryz.prog.cellsOf 45 = 16:=by kernel_rfl
theorem zero_45 : zeroA Tryz.prog 45 = some [Value.int IntKind.u8 0,Value.string { data:=#[] },Value.slice none 0 0,Value.int IntKind.u8 0,Value.string { data:=#[] },Value.slice none 0 0,Value.slice none 0 0,Value.int IntKind.u8 0,Value.int IntKind.i64 0,Value.string { data:=#[] },Value.string { data:=#[] },Value.string { data:=#[] },Value.slice none 0 0,Value.slice none 0 0,Value.int IntKind.i64 0,Value.int IntKind.i64 0]:=by kernel_rfl
theorem cells_47 : Tryz.prog.cellsOf 47 = 1:=by kernel_rfl
theorem inf_47 : (Tryz.prog.info? 47).isSome = true:=by kernel_rfl
theorem cells_52 : Tryz.prog.cellsOf 52 = 1:=by kernel_rfl
theorem zero_52 : zeroA Tryz.prog 52 = some [Value.int IntKind.i64 0]:=by kernel_rfl
theorem cells_55 : Tryz.prog.cellsOf 55 = 1:=by kernel_rfl
theorem cells_58 : Tryz.prog.cellsOf 58 = 1:=by kernel_rfl
theorem inf_58 : (Tryz.prog.info? 58).isSome = true:=by kernel_rfl
theorem elem_58 : elemOfT Tryz.prog 58 = 67:=by kernel_rfl
theorem app_58 : appOk Tryz.prog 58 67 3 = true:=by kernel_rfl
theorem cells_64 : Tryz.prog.cellsOf 64 = 4:=by kernel_rfl
theorem zero_64 : zeroA Tryz.prog 64 = some [Value.slice none 0 0,Value.int IntKind.i64 0,Value.bool false,Value.bool false]:=by kernel_rfl
theorem cells_67 : Tryz.prog.cellsOf 67 = 3:=by kernel_rfl
theorem zero_67 : zeroA Tryz.prog 67 = some [Value.int IntKind.u8 0,Value.string { data:=#[] },Value.int IntKind.i64 0]:=by kernel_rfl
theorem cells_70 : Tryz.prog.cellsOf 70 = 2:=by kernel_rfl
theorem zero_70 : zeroA Tryz.prog 70 = some [Value.int IntKind.i64 0,Value.int IntKind.i64 0]:=by kernel_rfl
theorem cells_76 : Tryz.prog.cellsOf 76 = 1:=by kernel_rfl
theorem elem_76 : elemOfT Tryz.prog 76 = 5:=by kernel_rfl
theorem app_76 : appOk Tryz.prog 76 5 1 = true:=by kernel_rfl
theorem cells_78 : Tryz.prog.cellsOf 78 = 2:=by kernel_rfl
theorem cells_80 : Tryz.prog.cellsOf 80 = 3:=by kernel_rfl
theorem inf_80 : (Tryz.prog.info? 80).isSome = true:=by kernel_rfl
theorem cells_82 : Tryz.prog.cellsOf 82 = 3:=by kernel_rfl
theorem zero_82 : zeroA Tryz.prog 82 = some [Value.pointer none,Value.slice none 0 0,Value.bool false]:=by kernel_rfl
theorem cells_85 : Tryz.prog.cellsOf 85 = 2:=by kernel_rfl
theorem zero_85 : zeroA Tryz.prog 85 = some [Value.string { data:=#[] },Value.int IntKind.i64 0]:=by kernel_rfl
theorem cells_93 : Tryz.prog.cellsOf 93 = 4:=by kernel_rfl
theorem zero_93 : zeroA Tryz.prog 93 = some [Value.string { data:=#[] },Value.int IntKind.u8 0,Value.string { data:=#[] },Value.slice none 0 0]:=by kernel_rfl
theorem cells_100 : Tryz.prog.cellsOf 100 = 1:=by kernel_rfl
theorem inf_100 : (Tryz.prog.info? 100).isSome = true:=by kernel_rfl
theorem elem_100 : elemOfT Tryz.prog 100 = 162:=by kernel_rfl
theorem app_100 : appOk Tryz.prog 100 162 3 = true:=by kernel_rfl
theorem cells_102 : Tryz.prog.cellsOf 102 = 15:=by kernel_rfl
theorem zero_102 : zeroA Tryz.prog 102 = some [Value.int IntKind.u8 0,Value.string { data:=#[] },Value.string { data:=#[] },Value.slice none 0 0,Value.int IntKind.u8 0,Value.string { data:=#[] },Value.slice none 0 0,Value.int IntKind.i64 0,Value.string { data:=#[] },Value.slice none 0 0,Value.slice none 0 0,Value.slice none 0 0,Value.slice none 0 0,Value.slice none 0 0,Value.int IntKind.i64 0]:=by kernel_rfl
theorem cells_108 : Tryz.prog.cellsOf 108 = 3:=by kernel_rfl
theorem zero_108 : zeroA Tryz.prog 108 = some [Value.bool false,Value.int IntKind.i64 0,Value.int IntKind.i64 0]:=by kernel_rfl
theorem cells_132 : Tryz.prog.cellsOf 132 = 1:=by kernel_rfl
theorem zero_132 : zeroA Tryz.prog 132 = some [Value.map none]:=by kernel_rfl
theorem cells_147 : Tryz.prog.cellsOf 147 = 1:=by kernel_rfl
theorem inf_147 : (Tryz.prog.info? 147).isSome = true:=by kernel_rfl
theorem cells_149 : Tryz.prog.cellsOf 149 = 2:=by kernel_rfl
theorem zero_149 : zeroA Tryz.prog 149 = some [Value.bool false,Value.int IntKind.u64 0]:=by kernel_rfl
theorem cells_162 : Tryz.prog.cellsOf 162 = 3:=by kernel_rfl
theorem zero_162 : zeroA Tryz.prog 162 = some [Value.string { data:=#[] },Value.string { data:=#[] },Value.slice none 0 0]:=by kernel_rfl
theorem elem_189 : elemOfT Tryz.prog 189 = 192:=by kernel_rfl
theorem app_189 : appOk Tryz.prog 189 192 9 = true:=by kernel_rfl
theorem cells_192 : Tryz.prog.cellsOf 192 = 9:=by kernel_rfl
theorem zero_192 : zeroA Tryz.prog 192 = some [Value.string { data:=#[] },Value.int IntKind.u8 0,Value.int IntKind.i64 0,Value.string { data:=#[] },Value.string { data:=#[] },Value.string { data:=#[] },Value.slice none 0 0,Value.slice none 0 0,Value.int IntKind.i64 0]:=by kernel_rfl
theorem zerov_5 : zeroV Tryz.prog 5 = some (.p (.v (Value.int IntKind.u8 0))):=by kernel_rfl
theorem zerov_153 : zeroV Tryz.prog 153 = some (.p (.v (Value.nilFunc))):=by kernel_rfl
attribute [simp] cells_2 inf_2 cells_3 zero_3 inf_3 cells_4 inf_4 cells_5 zero_5 inf_5 cells_9 zero_9 inf_9 cells_22 inf_22 elem_22 app_22 cells_24 zero_24 inf_24 cells_25 inf_25 elem_25 app_25 cells_27 zero_27 inf_27 cells_32 inf_32 elem_32 app_32 cells_34 zero_34 cells_39 inf_39 elem_39 app_39 cells_40 inf_40 cells_42 zero_42 inf_42 cells_43 zero_43 inf_43 elem_43 app_43 cells_45 zero_45 cells_47 inf_47 cells_52 zero_52 cells_55 cells_58 inf_58 elem_58 app_58 cells_64 zero_64 cells_67 zero_67 cells_70 zero_70 cells_76 elem_76 app_76 cells_78 cells_80 inf_80 cells_82 zero_82 cells_85 zero_85 cells_93 zero_93 cells_100 inf_100 elem_100 app_100 cells_102 zero_102 cells_108 zero_108 cells_132 zero_132 cells_147 inf_147 cells_149 zero_149 cells_162 zero_162 elem_189 app_189 cells_192 zero_192 zerov_5 zerov_153
theorem mixed : Tryz.prog.follows .mixedOrders = true:=by kernel_rfl
end Go.Proofs.YthohopjnpgbljaaGreatDoor
namespace Go.Proofs.YthohopjnpgbljaaGreatDoor
open Go.RowKit
mutual
inductive LeP : PV → PV → Prop
 | refl (p : PV) : LeP p p
 | nil (k : Nat) : LeP (.v (.slice none 0 0)) (.sl k [])
 | sl {k : Nat} {rows rows' : List (List PV)} : LeRows rows rows' → LeP (.sl k rows) (.sl k rows')
 | fsl (k : Nat) (rows : List (List PV)) : LeP (.fsl k rows) (.sl k rows)
inductive LeRow : List PV → List PV → Prop
 | refl (l : List PV) : LeRow l l
 | cons {p p' : PV} {l l' : List PV} : LeP p p' → LeRow l l' → LeRow (p :: l) (p' :: l')
inductive LeRows : List (List PV) → List (List PV) → Prop
 | refl (l : List (List PV)) : LeRows l l
 | cons {p p' : List PV} {l l' : List (List PV)} : LeRow p p' → LeRows l l' → LeRows (p :: l) (p' :: l')
end
theorem LeP.ok {p p' : PV} (h : LeP p p') : ∀ {Pr : Prot} {x : Value},RP Pr p x → RP Pr p' x:=by
 refine LeP.rec (motive_1:=fun p p' _=>∀ {Pr : Prot} {x : Value},RP Pr p x → RP Pr p' x)
  (motive_2:=fun l l' _=>l.length = l'.length ∧ ∀ (j : Nat) (p' : PV),l'[j]? = some p' → ∃ p,l[j]? = some p ∧ ∀ {Pr : Prot} {x : Value},RP Pr p x → RP Pr p' x)
  (motive_3:=fun l l' _=>l.length = l'.length ∧ ∀ (r : Nat) (row' : List PV),l'[r]? = some row' → ∃ row,l[r]? = some row ∧ row.length = row'.length ∧ ∀ (j : Nat) (p' : PV),row'[j]? = some p' → ∃ p,row[j]? = some p ∧ ∀ {Pr : Prot} {x : Value},RP Pr p x → RP Pr p' x)
  ?_ ?_ ?_ ?_ ?_ ?_ ?_ ?_ h
 ·intro p Pr x h; exact h
 ·intro k Pr x h
  cases h with
  | v h=>exact .slemp k none 0 (Nat.zero_le _)
 ·intro k rows rows' _ ⟨hl,ih⟩ Pr x h
  cases h with
  | slemp _ A cap hc =>
   obtain rfl : rows' = []:=List.eq_nil_of_length_eq_zero hl.symm
   exact .slemp _ A _ hc
  | sl vs h1 h2 h3 h4 h5 =>
   rw [hl] at h1 ⊢
   refine .sl vs h1 h2 (fun r row' hr=>?_) (fun r row' j p' hr hj=>?_) (fun r row' j p' hr hj=>?_)
   ·obtain ⟨row,k1,k2,_⟩:=ih r row' hr
    rw [← k2]; exact h3 r row k1
   ·obtain ⟨row,k1,k2,k3⟩:=ih r row' hr
    obtain ⟨p,k4,k5⟩:=k3 j p' hj
    exact h4 r row j p k1 k4
   ·obtain ⟨row,k1,k2,k3⟩:=ih r row' hr
    obtain ⟨p,k4,k5⟩:=k3 j p' hj
    exact k5 (h5 r row j p k1 k4)
 ·intro k rows Pr x h; exact h.unf
 ·intro l; exact ⟨rfl,fun j p h=>⟨p,h,fun h=>h⟩⟩
 ·intro p p' l l' _ _ ih1 ⟨hl,ih2⟩
  refine ⟨by simp [hl],fun j q hq=>?_⟩
  cases j with
  | zero=>simp at hq; subst hq; exact ⟨p,rfl,ih1⟩
  | succ j=>simpa using ih2 j q (by simpa using hq)
 ·intro l; exact ⟨rfl,fun r row h=>⟨row,h,rfl,fun j p h=>⟨p,h,fun h=>h⟩⟩⟩
 ·intro p p' l l' _ _ ⟨hl1,ih1⟩ ⟨hl,ih2⟩
  refine ⟨by simp [hl],fun j q hq=>?_⟩
  cases j with
  | zero=>simp at hq; subst hq; exact ⟨p,rfl,hl1,ih1⟩
  | succ j=>simpa using ih2 j q (by simpa using hq)
mutual
inductive LeA : AV → AV → Prop
 | refl (v : AV) : LeA v v
 | any (v : AV) : LeA v .any
 | p {q q' : PV} : LeP q q' → LeA (.p q) (.p q')
 | osl {k d i : Nat} {rows rows' : List (List PV)} : LeRows rows rows' → LeA (.osl k rows d i) (.p (.sl k rows'))
 | agg {cs cs' : List AV} : LeAs cs cs' → LeA (.agg cs) (.agg cs')
inductive LeAs : List AV → List AV → Prop
 | refl (l : List AV) : LeAs l l
 | cons {v v' : AV} {l l' : List AV} : LeA v v' → LeAs l l' → LeAs (v :: l) (v' :: l')
end
theorem leA_both {Pr : Prot} {φ : Fi2} : (∀ {v v' : AV},LeA v v' → ∀ {x : Value},RA Pr φ v x → RA Pr φ v' x) ∧ (∀ {l l' : List AV},LeAs l l' → l.length = l'.length ∧ ∀ (j : Nat) (v' : AV),l'[j]? = some v' → ∃ v,l[j]? = some v ∧ ∀ {x : Value},RA Pr φ v x → RA Pr φ v' x):=by
 have key : ∀ {v v' : AV} (h : LeA v v') {x : Value},RA Pr φ v x → RA Pr φ v' x:=by
  intro v v' h
  refine LeA.rec (motive_1:=fun v v' _=>∀ {x : Value},RA Pr φ v x → RA Pr φ v' x)
   (motive_2:=fun l l' _=>l.length = l'.length ∧ ∀ (j : Nat) (v' : AV),l'[j]? = some v' → ∃ v,l[j]? = some v ∧ ∀ {x : Value},RA Pr φ v x → RA Pr φ v' x) ?_ ?_ ?_ ?_ ?_ ?_ ?_ h
  ·intro v x h; exact h
  ·intro v x h; exact .any x
  ·intro q q' hq x h
   cases h with
   | p h=>exact .p (hq.ok h)
  ·intro k d i rows rows' hr x h
   exact .p ((LeP.sl hr).ok h.sl)
  ·intro cs cs' _ ⟨hl,ih⟩ x h
   cases h with
   | agg h1 h2 =>
    refine .agg (hl ▸ h1) fun j c y hc hy=>?_
    obtain ⟨v,k1,k2⟩:=ih j c hc
    exact k2 (h2 j v y k1 hy)
  ·intro l; exact ⟨rfl,fun j v h=>⟨v,h,fun h=>h⟩⟩
  ·intro v v' l l' _ _ ih1 ⟨hl,ih2⟩
   refine ⟨by simp [hl],fun j q hq=>?_⟩
   cases j with
   | zero=>simp at hq; subst hq; exact ⟨v,rfl,ih1⟩
   | succ j=>simpa using ih2 j q (by simpa using hq)
 refine ⟨key,fun {l l'} h=>?_⟩
 have hA : LeA (.agg l) (.agg l'):=.agg h
 refine LeAs.rec (motive_1:=fun v v' _=>True)
  (motive_2:=fun l l' _=>l.length = l'.length ∧ ∀ (j : Nat) (v' : AV),l'[j]? = some v' → ∃ v,l[j]? = some v ∧ ∀ {x : Value},RA Pr φ v x → RA Pr φ v' x) ?_ ?_ ?_ ?_ ?_ ?_ ?_ h
 ·intros; trivial
 ·intros; trivial
 ·intros; trivial
 ·intros; trivial
 ·intros; trivial
 ·intro l; exact ⟨rfl,fun j v h=>⟨v,h,fun h=>h⟩⟩
 ·intro v v' l l' hv _ _ ⟨hl,ih2⟩
  refine ⟨by simp [hl],fun j q hq=>?_⟩
  cases j with
  | zero=>simp at hq; subst hq; exact ⟨v,rfl,key hv⟩
  | succ j=>simpa using ih2 j q (by simpa using hq)
theorem ADet.sub {P : Program} {F : FuncId} {xs xs' : List AV} {S S' : ASt} {r : AV} (hle : LeAs xs xs') (h : ADet P F xs' S r S') : ADet P F xs S r S' :=
 ⟨h.1,fun Pr φ ys w hargs hR hne=>by
  obtain ⟨hl,hk⟩:=(leA_both (Pr:=Pr) (φ:=φ)).2 hle
  exact h.2 Pr φ ys w ⟨hl ▸ hargs.1,fun j c x hc hx=>by
   obtain ⟨v,k1,k2⟩:=hk j c hc
   exact k2 (hargs.2 j v x k1 hx)⟩ hR hne⟩
theorem ADet.less {P : Program} {F : FuncId} {xs : List AV} {S S' : ASt} {r r' : AV} (hle : LeA r r') (h : ADet P F xs S r S') : ADet P F xs S r' S' :=
 ⟨h.1,fun Pr φ ys w hargs hR hne=>(h.2 Pr φ ys w hargs hR hne).mono fun e w' hp=>by
  obtain ⟨x,Pr',φ',h1,h2,h3,h4⟩:=hp
  exact ⟨x,Pr',φ',h1,h2,h3,(leA_both (Pr:=Pr') (φ:=φ')).1 hle h4⟩⟩
end Go.Proofs.YthohopjnpgbljaaGreatDoor
namespace Go.Proofs.YthohopjnpgbljaaGreatDoor
open Go.RowKit
end Go.Proofs.YthohopjnpgbljaaGreatDoor
namespace Go.Proofs.YthohopjnpgbljaaGreatDoor
open Go.RowKit
def awpS (P : Program) (ops : Array Oper) (K : List AV → ASt → Prop) (S : ASt) : List Oper → List AV → Prop
 | [],fr=>K fr S
 | o :: os,fr =>
  match wantA ops o fr with
  | some true =>
   match callA o fr with
   | some (F,args)=>∃ r,ADet P F args S r S ∧ awpS P ops K S os (putA fr o.dst r)
   | none =>
    match evL P o fr S with
    | some (v,_)=>awpS P ops K S os (putA fr o.dst v)
    | none =>
     match stepF P o fr S with
     | some (v,S')=>S' = S ∧ awpS P ops K S os (putA fr o.dst v)
     | none=>False
  | some false=>awpS P ops K S os (putA fr o.dst .un)
  | none=>False
def NextS (P : Program) (ops : Array Oper) (K : List AV → ASt → Prop) (S : ASt) (os : List Oper) (fr : List AV) (dst : Option Nat) (r : AV) : Prop:=awpS P ops K S os (putA fr dst r)
@[reducible] def CallS (P : Program) (F : Nat) (args : List AV) (S : ASt) (K : AV → Prop) : Prop:=∃ r,ADet P F args S r S ∧ K r
theorem nextS_eq {P : Program} {ops : Array Oper} {K : List AV → ASt → Prop} {S : ASt} (os : List Oper) {fr : List AV} (dst : Option Nat) (r : AV) : NextS P ops K S os fr dst r = awpS P ops K S os (putA fr dst r):=rfl
theorem awpS_nil {P : Program} {ops : Array Oper} {K : List AV → ASt → Prop} {S : ASt} {fr : List AV} : awpS P ops K S [] fr = K fr S:=by rw [awpS]
theorem awpS_cons {P : Program} {ops : Array Oper} {K : List AV → ASt → Prop} {S : ASt} (o : Oper) (os : List Oper) {fr : List AV} : awpS P ops K S (o :: os) fr = (match wantA ops o fr with
  | some true =>
   match callA o fr with
   | some (F,args)=>CallS P F args S (NextS P ops K S os fr o.dst)
   | none =>
    match evL P o fr S with
    | some (v,_)=>awpS P ops K S os (putA fr o.dst v)
    | none =>
     match stepF P o fr S with
     | some (v,S')=>S' = S ∧ awpS P ops K S os (putA fr o.dst v)
     | none=>False
  | some false=>awpS P ops K S os (putA fr o.dst .un)
  | none=>False):=by rw [awpS] <;> rfl
end Go.Proofs.YthohopjnpgbljaaGreatDoor
namespace Go.Proofs.YthohopjnpgbljaaGreatDoor
open Go.RowKit
theorem run_bneq (a b : Bool) (x y : Operand) : pureRun Tryz.prog (do eqGuard .neq 4 x y (.bool a) (.bool b); binOp .neq 4 (.bool a) (.bool b) : Sem Value) = some (.bool (a != b)):=by
 cases a <;> cases b <;> kernel_rfl
theorem pureRun_map {P : Program} {α β : Type} (f : α → β) (s : Sem α) (a : α) (h : pureRun P s = some a) : pureRun P (f <$> s) = some (f a):=by
 induction s with
 | pure b=>simp [pureRun] at h; subst h; rfl
 | program k ih=>exact ih P (by simpa [pureRun] using h)
 | mark m k ih=>exact ih (by simpa [pureRun] using h)
 | _=>simp [pureRun] at h
theorem genP_bneq {fr : List AV} {o : Oper} {x y : Operand} {k : TypeId} (a b : Bool) (ho : o.op = .binOp .neq 4 x y k) (hx : evA fr x = B a) (hy : evA fr y = B b) : genP Tryz.prog o fr = some (B (a != b)):=by
 obtain ⟨dst,op,ty,pos,after,guard⟩:=o
 simp only at ho
 subst ho
 have h1 : (noSel (.binOp .neq 4 x y k) && allAtoms fr (Op.operands (.binOp .neq 4 x y k)).toList) = true:=by
  show (true && allAtoms fr [x,y]) = true
  rw [Bool.true_and,allAtoms,allAtoms,allAtoms,hx,hy]
  rfl
 have h2 : pureRun Tryz.prog (execOp (fun z=>(atomV (evA fr z)).getD undef) ⟨dst,.binOp .neq 4 x y k,ty,pos,after,guard⟩) = some (.value (.bool (a != b))):=by
  have e1 : (atomV (evA fr x)).getD undef = .bool a:=by rw [hx]; rfl
  have e2 : (atomV (evA fr y)).getD undef = .bool b:=by rw [hy]; rfl
  unfold execOp
  simp only [e1,e2]
  exact pureRun_map _ _ _ (run_bneq a b x y)
 unfold genP
 simp only
 rw [if_pos h1,h2]
 rfl
noncomputable def genK (o : Oper) (fr : List AV) : Option AV:=genP Tryz.prog o fr
@[simp] theorem genP_neq (dst : Option Tmp) (x y : Operand) (k ty : TypeId) (pos : String) (after : Array Edge) (guard : Option (Nat × Bool)) (fr : List AV) :
  genP Tryz.prog ⟨dst,.binOp .neq 4 x y k,ty,pos,after,guard⟩ fr = (match evA fr x,evA fr y with | .p (.v (.bool a)),.p (.v (.bool b))=>some (B (a != b)) | _,_=>genK ⟨dst,.binOp .neq 4 x y k,ty,pos,after,guard⟩ fr):=by
 split
 ·rename_i a b hx hy
  exact genP_bneq a b rfl hx hy
 ·rfl
end Go.Proofs.YthohopjnpgbljaaGreatDoor
namespace Go.Proofs.YthohopjnpgbljaaGreatDoor
open Go.RowKit
def RetFlat (P : Program) (rs : List ResultVar) (r : AV) (S' : ASt) : Exit → List AV → ASt → Prop:=fun e fr S1 =>
 (e = .normal ∨ e = .ret) ∧ ∃ vs,resA P fr S1 rs = some vs ∧ retA vs = r ∧ S1 = S'
theorem retFlat_eq (P : Program) (rs : List ResultVar) (r : AV) (e : Exit) (fr : List AV) (S S1 : ASt) : RetFlat P rs r S e fr S1 = ((e = .normal ∨ e = .ret) ∧ ∃ vs,resA P fr S1 rs = some vs ∧ retA vs = r ∧ S1 = S):=by rw [RetFlat]
attribute [simp] retFlat_eq
theorem ADet.flat {P : Program} {K : FuncId} {args : List AV} {S S' : ASt} {r : AV} {fn : Func} {c : Code} (hm : P.follows .mixedOrders = true) (hK : ∀ xs w,(callFunc K xs).run P w = .ok (.enter K xs) w) (hf : P.funcs[K]? = some fn) (hb : fn.body = some c)
  (h : awp P c (args ++ List.replicate (fn.ntmps - args.length) .un) S (RetFlat P fn.results.toList r S')) : ADet P K args S r S':=by
 refine ⟨hK,fun Pr φ xs w hargs hR hne=>?_⟩
 refine calls_of_wp hf hb ?_
 have hfr : RF Pr φ (args ++ List.replicate (fn.ntmps - args.length) .un) { tmps:=xs ++ Array.replicate (fn.ntmps - xs.size) undef,defers:=[] }:=by
  refine ⟨by simp [hargs.1],fun t v x hv hx=>?_⟩
  rcases Nat.lt_or_ge t args.length with ht | ht
  ·rw [List.getElem?_append_left ht] at hv
   simp only at hx
   rw [Array.getElem?_append_left (by rw [← hargs.1]; exact ht)] at hx
   exact hargs.2 t v x hv hx
  ·rw [List.getElem?_append_right ht] at hv
   simp only at hx
   rw [Array.getElem?_append_right (by rw [← hargs.1]; exact ht)] at hx
   rw [List.getElem?_replicate] at hv
   rw [Array.getElem?_replicate] at hx
   split at hv
   ·split at hx
    ·cases hv; cases hx; exact .un
    ·cases hx
   ·cases hv
 refine wp_mono (awp_ok hm c _ Pr φ _ _ S w hfr hR hne h) fun e a' w' hp=>?_
 obtain ⟨fr',S1,Pr',φ',⟨he,vs,h1,h2,h3⟩,h4,h5,h6,h7⟩:=hp
 obtain ⟨x,hx,hrun⟩:=results_ok (P:=P) (fn:=fn) h4 h5 h1
 subst h3
 rw [h2] at hx
 have key : a'.defers = [] ∧ ∃ v,(results fn a'.tmps).run P w' = .ok v w' ∧ ∃ x Pr' φ',Ending.returned v = .returned x ∧ Stp Pr φ w Pr' φ' w' ∧ Rel Pr' φ' S1 w' ∧ RA Pr' φ' r x :=
  ⟨h7,x,hrun,x,Pr',φ',rfl,h6,h5,hx⟩
 rcases he with rfl | rfl
 ·exact key
 ·exact key
theorem ADet.after {P : Program} {K : FuncId} {args : List AV} {S S' S'' : ASt} {r : AV} (hw : wkT S' S'') (h : ADet P K args S r S') : ADet P K args S r S'' :=
 ⟨h.1,fun Pr φ xs w hargs hR hne=>(h.2 Pr φ xs w hargs hR hne).mono fun e w' hp=>by
  obtain ⟨x,Pr',φ',h1,h2,h3,h4⟩:=hp
  exact ⟨x,Pr',φ',h1,h2,rel_wk h3 (wkT_ok hw),h4⟩⟩
end Go.Proofs.YthohopjnpgbljaaGreatDoor
namespace Go.Proofs.YthohopjnpgbljaaGreatDoor
open Go.RowKit
theorem get2_set2_ne {α : Type} (S : List (List α)) (d : Nat) {i j : Nat} (o : α) (h : i ≠ j) : get2 (set2 S d i o) d j = get2 S d j:=by
 unfold get2 set2
 rcases Nat.lt_or_ge d S.length with hd | hd
 ·rw [List.getElem?_set_self hd,List.getElem?_eq_getElem hd]
  simp only [Option.bind_some]
  rw [List.getElem?_set_ne h]
  simp [List.getD,hd]
 ·rw [List.set_eq_of_length_le hd]
theorem set2_comm {α : Type} (S : List (List α)) (d : Nat) {i j : Nat} (a b : α) (h : i ≠ j) : set2 (set2 S d j a) d i b = set2 (set2 S d i b) d j a:=by
 unfold set2
 rcases Nat.lt_or_ge d S.length with hd | hd
 ·simp [List.getD,hd,List.set_comm _ _ h]
 ·simp [List.set_eq_of_length_le hd]
theorem take_snoc {α : Type} (l : List α) {q : Nat} (h : q < l.length) : l.take (q + 1) = l.take q ++ [l[q]]:=List.take_succ_eq_append_getElem h
end Go.Proofs.YthohopjnpgbljaaGreatDoor
