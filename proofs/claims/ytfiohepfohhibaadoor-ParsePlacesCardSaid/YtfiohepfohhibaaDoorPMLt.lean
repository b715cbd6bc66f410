/- A part of the proof. The statement is proved in the claim's last text. -/
import Derived.Test.YtfiohepfohhibaaDoorPMLb
import Derived.Test.YtfiohepfohhibaaDoorRows
set_option linter.unusedVariables false
set_option linter.unusedSimpArgs false
set_option maxRecDepth 100000
set_option maxHeartbeats 32000000
namespace Go.Proofs.YtfiohepfohhibaaDoor
open Go.RowKit
set_option maxRecDepth 100000
theorem cells_2 : Tryd.prog.cellsOf 2 = 1:=by kernel_rfl
theorem inf_2 : (Tryd.prog.info? 2).isSome = true:=by kernel_rfl
theorem cells_3 : Tryd.prog.cellsOf 3 = 1:=by kernel_rfl
theorem zero_3 : zeroA Tryd.prog 3 = some [Value.int IntKind.i64 0]:=by kernel_rfl
theorem inf_3 : (Tryd.prog.info? 3).isSome = true:=by kernel_rfl
theorem cells_4 : Tryd.prog.cellsOf 4 = 1:=by kernel_rfl
theorem inf_4 : (Tryd.prog.info? 4).isSome = true:=by kernel_rfl
theorem cells_5 : Tryd.prog.cellsOf 5 = 1:=by kernel_rfl
theorem inf_5 : (Tryd.prog.info? 5).isSome = true:=by kernel_rfl
theorem cells_9 : Tryd.prog.cellsOf 9 = 1:=by kernel_rfl
theorem zero_9 : zeroA Tryd.prog 9 = some [Value.string { data:=#[] }]:=by kernel_rfl
theorem inf_9 : (Tryd.prog.info? 9).isSome = true:=by kernel_rfl
theorem cells_23 : Tryd.prog.cellsOf 23 = 1:=by kernel_rfl
theorem inf_23 : (Tryd.prog.info? 23).isSome = true:=by kernel_rfl
theorem elem_23 : elemOfT Tryd.prog 23 = 48:=by kernel_rfl
theorem app_23 : appOk Tryd.prog 23 48 16 = true:=by kernel_rfl
theorem cells_25 : Tryd.prog.cellsOf 25 = 1:=by kernel_rfl
theorem zero_25 : zeroA Tryd.prog 25 = some [Value.slice none 0 0]:=by kernel_rfl
theorem cells_29 : Tryd.prog.cellsOf 29 = 1:=by kernel_rfl
theorem inf_29 : (Tryd.prog.info? 29).isSome = true:=by kernel_rfl
theorem elem_29 : elemOfT Tryd.prog 29 = 59:=by kernel_rfl
theorem app_29 : appOk Tryd.prog 29 59 3 = true:=by kernel_rfl
theorem cells_30 : Tryd.prog.cellsOf 30 = 1:=by kernel_rfl
theorem inf_30 : (Tryd.prog.info? 30).isSome = true:=by kernel_rfl
theorem cells_34 : Tryd.prog.cellsOf 34 = 2:=by kernel_rfl
theorem zero_34 : zeroA Tryd.prog 34 = some [Value.int IntKind.i64 0,Value.int IntKind.i64 0]:=by kernel_rfl
theorem cells_36 : Tryd.prog.cellsOf 36 = 1:=by kernel_rfl
theorem inf_36 : (Tryd.prog.info? 36).isSome = true:=by kernel_rfl
theorem elem_36 : elemOfT Tryd.prog 36 = 73:=by kernel_rfl
theorem app_36 : appOk Tryd.prog 36 73 4 = true:=by kernel_rfl
theorem cells_37 : Tryd.prog.cellsOf 37 = 1:=by kernel_rfl
theorem inf_37 : (Tryd.prog.info? 37).isSome = true:=by kernel_rfl
theorem cells_39 : Tryd.prog.cellsOf 39 = 3:=by kernel_rfl
theorem zero_39 : zeroA Tryd.prog 39 = some [Value.int IntKind.u8 0,Value.string { data:=#[] },Value.slice none 0 0]:=by kernel_rfl
theorem inf_39 : (Tryd.prog.info? 39).isSome = true:=by kernel_rfl
theorem cells_40 : Tryd.prog.cellsOf 40 = 1:=by kernel_rfl
theorem zero_40 : zeroA Tryd.prog 40 = some [Value.slice none 0 0]:=by kernel_rfl
theorem inf_40 : (Tryd.prog.info? 40).isSome = true:=by kernel_rfl
theorem elem_40 : elemOfT Tryd.prog 40 = 65:=by kernel_rfl
theorem app_40 : appOk Tryd.prog 40 65 15 = true:=by kernel_rfl
theorem cells_41 : Tryd.prog.cellsOf 41 = 1:=by kernel_rfl
theorem inf_41 : (Tryd.prog.info? 41).isSome = true:=by kernel_rfl
theorem elem_41 : elemOfT Tryd.prog 41 = 9:=by kernel_rfl
theorem app_41 : appOk Tryd.prog 41 9 1 = true:=by kernel_rfl
theorem cells_43 : Tryd.prog.cellsOf 43 = 2:=by kernel_rfl
theorem zero_43 : zeroA Tryd.prog 43 = some [Value.string { data:=#[] },Value.slice none 0 0]:=by kernel_rfl
theorem inf_43 : (Tryd.prog.info? 43).isSome = true:=by kernel_rfl
theorem cells_44 : Tryd.prog.cellsOf 44 = 1:=by kernel_rfl
theorem inf_44 : (Tryd.prog.info? 44).isSome = true:=by kernel_rfl
theorem elem_44 : elemOfT Tryd.prog 44 = 46:=by kernel_rfl
theorem app_44 : appOk Tryd.prog 44 46 8 = true:=by kernel_rfl
theorem cells_46 : Tryd.prog.cellsOf 46 = 8:=by kernel_rfl
theorem zero_46 : zeroA Tryd.prog 46 = some [Value.int IntKind.u8 0,Value.int IntKind.i64 0,Value.string { data:=#[] },Value.string { data:=#[] },Value.string { data:=#[] },Value.slice none 0 0,Value.slice none 0 0,Value.int IntKind.i64 0]:=by kernel_rfl
theorem inf_46 : (Tryd.prog.info? 46).isSome = true:=by kernel_rfl
theorem cells_48 : Tryd.prog.cellsOf 48 = 16:=by kernel_rfl
theorem zero_48 : zeroA Tryd.prog 48 = some [Value.int IntKind.u8 0,Value.string { data:=#[] },Value.slice none 0 0,Value.int IntKind.u8 0,Value.string { data:=#[] },Value.slice none 0 0,Value.slice none 0 0,Value.int IntKind.u8 0,Value.int IntKind.i64 0,Value.string { data:=#[] },Value.string { data:=#[] },Value.string { data:=#[] },Value.slice none 0 0,Value.slice none 0 0,Value.int IntKind.i64 0,Value.int IntKind.i64 0]:=by kernel_rfl
theorem cells_56 : Tryd.prog.cellsOf 56 = 4:=by kernel_rfl
theorem zero_56 : zeroA Tryd.prog 56 = some [Value.slice none 0 0,Value.int IntKind.i64 0,Value.bool false,Value.bool false]:=by kernel_rfl
theorem cells_59 : Tryd.prog.cellsOf 59 = 3:=by kernel_rfl
theorem zero_59 : zeroA Tryd.prog 59 = some [Value.int IntKind.u8 0,Value.string { data:=#[] },Value.int IntKind.i64 0]:=by kernel_rfl
theorem cells_63 : Tryd.prog.cellsOf 63 = 1:=by kernel_rfl
theorem inf_63 : (Tryd.prog.info? 63).isSome = true:=by kernel_rfl
theorem elem_63 : elemOfT Tryd.prog 63 = 67:=by kernel_rfl
theorem app_63 : appOk Tryd.prog 63 67 3 = true:=by kernel_rfl
theorem cells_65 : Tryd.prog.cellsOf 65 = 15:=by kernel_rfl
theorem zero_65 : zeroA Tryd.prog 65 = some [Value.int IntKind.u8 0,Value.string { data:=#[] },Value.string { data:=#[] },Value.slice none 0 0,Value.int IntKind.u8 0,Value.string { data:=#[] },Value.slice none 0 0,Value.int IntKind.i64 0,Value.string { data:=#[] },Value.slice none 0 0,Value.slice none 0 0,Value.slice none 0 0,Value.slice none 0 0,Value.slice none 0 0,Value.int IntKind.i64 0]:=by kernel_rfl
theorem cells_67 : Tryd.prog.cellsOf 67 = 3:=by kernel_rfl
theorem zero_67 : zeroA Tryd.prog 67 = some [Value.string { data:=#[] },Value.string { data:=#[] },Value.slice none 0 0]:=by kernel_rfl
theorem cells_73 : Tryd.prog.cellsOf 73 = 4:=by kernel_rfl
theorem zero_73 : zeroA Tryd.prog 73 = some [Value.string { data:=#[] },Value.int IntKind.u8 0,Value.string { data:=#[] },Value.slice none 0 0]:=by kernel_rfl
theorem cells_89 : Tryd.prog.cellsOf 89 = 1:=by kernel_rfl
theorem zero_89 : zeroA Tryd.prog 89 = some [Value.map none]:=by kernel_rfl
theorem cells_101 : Tryd.prog.cellsOf 101 = 1:=by kernel_rfl
theorem inf_101 : (Tryd.prog.info? 101).isSome = true:=by kernel_rfl
theorem cells_103 : Tryd.prog.cellsOf 103 = 2:=by kernel_rfl
theorem zero_103 : zeroA Tryd.prog 103 = some [Value.bool false,Value.int IntKind.u64 0]:=by kernel_rfl
theorem elem_129 : elemOfT Tryd.prog 129 = 132:=by kernel_rfl
theorem app_129 : appOk Tryd.prog 129 132 9 = true:=by kernel_rfl
theorem cells_132 : Tryd.prog.cellsOf 132 = 9:=by kernel_rfl
theorem zero_132 : zeroA Tryd.prog 132 = some [Value.string { data:=#[] },Value.int IntKind.u8 0,Value.int IntKind.i64 0,Value.string { data:=#[] },Value.string { data:=#[] },Value.string { data:=#[] },Value.slice none 0 0,Value.slice none 0 0,Value.int IntKind.i64 0]:=by kernel_rfl
theorem zerov_5 : zeroV Tryd.prog 5 = some (.p (.v (Value.int IntKind.u8 0))):=by kernel_rfl
theorem zerov_107 : zeroV Tryd.prog 107 = some (.p (.v (Value.nilFunc))):=by kernel_rfl
attribute [simp] cells_2 inf_2 cells_3 zero_3 inf_3 cells_4 inf_4 cells_5 inf_5 cells_9 zero_9 inf_9 cells_23 inf_23 elem_23 app_23 cells_25 zero_25 cells_29 inf_29 elem_29 app_29 cells_30 inf_30 cells_34 zero_34 cells_36 inf_36 elem_36 app_36 cells_37 inf_37 cells_39 zero_39 inf_39 cells_40 zero_40 inf_40 elem_40 app_40 cells_41 inf_41 elem_41 app_41 cells_43 zero_43 inf_43 cells_44 inf_44 elem_44 app_44 cells_46 zero_46 inf_46 cells_48 zero_48 cells_56 zero_56 cells_59 zero_59 cells_63 inf_63 elem_63 app_63 cells_65 zero_65 cells_67 zero_67 cells_73 zero_73 cells_89 zero_89 cells_101 inf_101 cells_103 zero_103 elem_129 app_129 cells_132 zero_132 zerov_5 zerov_107
theorem mixed : Tryd.prog.follows .mixedOrders = true:=by kernel_rfl
end Go.Proofs.YtfiohepfohhibaaDoor
namespace Go.Proofs.YtfiohepfohhibaaDoor
open Go.RowKit
mutual
inductive LeP : PV → PV → Prop
 | refl (p : PV) : LeP p p
 | nil (k : Nat) : LeP (.v (.slice none 0 0)) (.sl k [])
 | sl {k : Nat} {rows rows' : List (List PV)} : LeRows rows rows' → LeP (.sl k rows) (.sl k rows')
 | fsl (k : Nat) (rows : List (List PV)) : LeP (.fsl k rows) (.sl k rows)
inductive LeRow : List PV → List PV → Prop
 | refl (l : List PV) : LeRow l l
 | cons {p p' : PV} {l l' : List PV} : LeP p p' → LeRow l l' → LeRow (p :: l) (p' :: l')
inductive LeRows : List (List PV) → List (List PV) → Prop
 | refl (l : List (List PV)) : LeRows l l
 | cons {p p' : List PV} {l l' : List (List PV)} : LeRow p p' → LeRows l l' → LeRows (p :: l) (p' :: l')
end
theorem LeP.ok {p p' : PV} (h : LeP p p') : ∀ {Pr : Prot} {x : Value},RP Pr p x → RP Pr p' x:=by
 refine LeP.rec (motive_1:=fun p p' _=>∀ {Pr : Prot} {x : Value},RP Pr p x → RP Pr p' x)
  (motive_2:=fun l l' _=>l.length = l'.length ∧ ∀ (j : Nat) (p' : PV),l'[j]? = some p' → ∃ p,l[j]? = some p ∧ ∀ {Pr : Prot} {x : Value},RP Pr p x → RP Pr p' x)
  (motive_3:=fun l l' _=>l.length = l'.length ∧ ∀ (r : Nat) (row' : List PV),l'[r]? = some row' → ∃ row,l[r]? = some row ∧ row.length = row'.length ∧ ∀ (j : Nat) (p' : PV),row'[j]? = some p' → ∃ p,row[j]? = some p ∧ ∀ {Pr : Prot} {x : Value},RP Pr p x → RP Pr p' x)
  ?_ ?_ ?_ ?_ ?_ ?_ ?_ ?_ h
 ·intro p Pr x h; exact h
 ·intro k Pr x h
  cases h with
  | v h=>exact .slemp k none 0 (Nat.zero_le _)
 ·intro k rows rows' _ ⟨hl,ih⟩ Pr x h
  cases h with
  | slemp _ A cap hc =>
   obtain rfl : rows' = []:=List.eq_nil_of_length_eq_zero hl.symm
   exact .slemp _ A _ hc
  | sl vs h1 h2 h3 h4 h5 =>
   rw [hl] at h1 ⊢
   refine .sl vs h1 h2 (fun r row' hr=>?_) (fun r row' j p' hr hj=>?_) (fun r row' j p' hr hj=>?_)
   ·obtain ⟨row,k1,k2,_⟩:=ih r row' hr
    rw [← k2]; exact h3 r row k1
   ·obtain ⟨row,k1,k2,k3⟩:=ih r row' hr
    obtain ⟨p,k4,k5⟩:=k3 j p' hj
    exact h4 r row j p k1 k4
   ·obtain ⟨row,k1,k2,k3⟩:=ih r row' hr
    obtain ⟨p,k4,k5⟩:=k3 j p' hj
    exact k5 (h5 r row j p k1 k4)
 ·intro k rows Pr x h; exact h.unf
 ·intro l; exact ⟨rfl,fun j p h=>⟨p,h,fun h=>h⟩⟩
 ·intro p p' l l' _ _ ih1 ⟨hl,ih2⟩
  refine ⟨by simp [hl],fun j q hq=>?_⟩
  cases j with
  | zero=>simp at hq; subst hq; exact ⟨p,rfl,ih1⟩
  | succ j=>simpa using ih2 j q (by simpa using hq)
 ·intro l; exact ⟨rfl,fun r row h=>⟨row,h,rfl,fun j p h=>⟨p,h,fun h=>h⟩⟩⟩
 ·intro p p' l l' _ _ ⟨hl1,ih1⟩ ⟨hl,ih2⟩
  refine ⟨by simp [hl],fun j q hq=>?_⟩
  cases j with
  | zero=>simp at hq; subst hq; exact ⟨p,rfl,hl1,ih1⟩
  | succ j=>simpa using ih2 j q (by simpa using hq)
mutual
inductive LeA : AV → AV → Prop
 | refl (v : AV) : LeA v v
 | any (v : AV) : LeA v .any
 | p {q q' : PV} : LeP q q' → LeA (.p q) (.p q')
 | osl {k d i : Nat} {rows rows' : List (List PV)} : LeRows rows rows' → LeA (.osl k rows d i) (.p (.sl k rows'))
 | agg {cs cs' : List AV} : LeAs cs cs' → LeA (.agg cs) (.agg cs')
inductive LeAs : List AV → List AV → Prop
 | refl (l : List AV) : LeAs l l
 | cons {v v' : AV} {l l' : List AV} : LeA v v' → LeAs l l' → LeAs (v :: l) (v' :: l')
end
theorem leA_both {Pr : Prot} {φ : Fi2} : (∀ {v v' : AV},LeA v v' → ∀ {x : Value},RA Pr φ v x → RA Pr φ v' x) ∧ (∀ {l l' : List AV},LeAs l l' → l.length = l'.length ∧ ∀ (j : Nat) (v' : AV),l'[j]? = some v' → ∃ v,l[j]? = some v ∧ ∀ {x : Value},RA Pr φ v x → RA Pr φ v' x):=by
 have key : ∀ {v v' : AV} (h : LeA v v') {x : Value},RA Pr φ v x → RA Pr φ v' x:=by
  intro v v' h
  refine LeA.rec (motive_1:=fun v v' _=>∀ {x : Value},RA Pr φ v x → RA Pr φ v' x)
   (motive_2:=fun l l' _=>l.length = l'.length ∧ ∀ (j : Nat) (v' : AV),l'[j]? = some v' → ∃ v,l[j]? = some v ∧ ∀ {x : Value},RA Pr φ v x → RA Pr φ v' x) ?_ ?_ ?_ ?_ ?_ ?_ ?_ h
  ·intro v x h; exact h
  ·intro v x h; exact .any x
  ·intro q q' hq x h
   cases h with
   | p h=>exact .p (hq.ok h)
  ·intro k d i rows rows' hr x h
   exact .p ((LeP.sl hr).ok h.sl)
  ·intro cs cs' _ ⟨hl,ih⟩ x h
   cases h with
   | agg h1 h2 =>
    refine .agg (hl ▸ h1) fun j c y hc hy=>?_
    obtain ⟨v,k1,k2⟩:=ih j c hc
    exact k2 (h2 j v y k1 hy)
  ·intro l; exact ⟨rfl,fun j v h=>⟨v,h,fun h=>h⟩⟩
  ·intro v v' l l' _ _ ih1 ⟨hl,ih2⟩
   refine ⟨by simp [hl],fun j q hq=>?_⟩
   cases j with
   | zero=>simp at hq; subst hq; exact ⟨v,rfl,ih1⟩
   | succ j=>simpa using ih2 j q (by simpa using hq)
 refine ⟨key,fun {l l'} h=>?_⟩
 have hA : LeA (.agg l) (.agg l'):=.agg h
 refine LeAs.rec (motive_1:=fun v v' _=>True)
  (motive_2:=fun l l' _=>l.length = l'.length ∧ ∀ (j : Nat) (v' : AV),l'[j]? = some v' → ∃ v,l[j]? = some v ∧ ∀ {x : Value},RA Pr φ v x → RA Pr φ v' x) ?_ ?_ ?_ ?_ ?_ ?_ ?_ h
 ·intros; trivial
 ·intros; trivial
 ·intros; trivial
 ·intros; trivial
 ·intros; trivial
 ·intro l; exact ⟨rfl,fun j v h=>⟨v,h,fun h=>h⟩⟩
 ·intro v v' l l' hv _ _ ⟨hl,ih2⟩
  refine ⟨by simp [hl],fun j q hq=>?_⟩
  cases j with
  | zero=>simp at hq; subst hq; exact ⟨v,rfl,key hv⟩
  | succ j=>simpa using ih2 j q (by simpa using hq)
theorem ADet.sub {P : Program} {F : FuncId} {xs xs' : List AV} {S S' : ASt} {r : AV} (hle : LeAs xs xs') (h : ADet P F xs' S r S') : ADet P F xs S r S' :=
 ⟨h.1,fun Pr φ ys w hargs hR hne=>by
  obtain ⟨hl,hk⟩:=(leA_both (Pr:=Pr) (φ:=φ)).2 hle
  exact h.2 Pr φ ys w ⟨hl ▸ hargs.1,fun j c x hc hx=>by
   obtain ⟨v,k1,k2⟩:=hk j c hc
   exact k2 (hargs.2 j v x k1 hx)⟩ hR hne⟩
theorem ADet.less {P : Program} {F : FuncId} {xs : List AV} {S S' : ASt} {r r' : AV} (hle : LeA r r') (h : ADet P F xs S r S') : ADet P F xs S r' S' :=
 ⟨h.1,fun Pr φ ys w hargs hR hne=>(h.2 Pr φ ys w hargs hR hne).mono fun e w' hp=>by
  obtain ⟨x,Pr',φ',h1,h2,h3,h4⟩:=hp
  exact ⟨x,Pr',φ',h1,h2,h3,(leA_both (Pr:=Pr') (φ:=φ')).1 hle h4⟩⟩
end Go.Proofs.YtfiohepfohhibaaDoor
namespace Go.Proofs.YtfiohepfohhibaaDoor
open Go.RowKit
end Go.Proofs.YtfiohepfohhibaaDoor
namespace Go.Proofs.YtfiohepfohhibaaDoor
open Go.RowKit
def awpS (P : Program) (ops : Array Oper) (K : List AV → ASt → Prop) (S : ASt) : List Oper → List AV → Prop
 | [],fr=>K fr S
 | o :: os,fr =>
  match wantA ops o fr with
  | some true =>
   match callA o fr with
   | some (F,args)=>∃ r,ADet P F args S r S ∧ awpS P ops K S os (putA fr o.dst r)
   | none =>
    match evL P o fr S with
    | some (v,_)=>awpS P ops K S os (putA fr o.dst v)
    | none =>
     match stepF P o fr S with
     | some (v,S')=>S' = S ∧ awpS P ops K S os (putA fr o.dst v)
     | none=>False
  | some false=>awpS P ops K S os (putA fr o.dst .un)
  | none=>False
def NextS (P : Program) (ops : Array Oper) (K : List AV → ASt → Prop) (S : ASt) (os : List Oper) (fr : List AV) (dst : Option Nat) (r : AV) : Prop:=awpS P ops K S os (putA fr dst r)
@[reducible] def CallS (P : Program) (F : Nat) (args : List AV) (S : ASt) (K : AV → Prop) : Prop:=∃ r,ADet P F args S r S ∧ K r
theorem nextS_eq {P : Program} {ops : Array Oper} {K : List AV → ASt → Prop} {S : ASt} (os : List Oper) {fr : List AV} (dst : Option Nat) (r : AV) : NextS P ops K S os fr dst r = awpS P ops K S os (putA fr dst r):=rfl
theorem awpS_nil {P : Program} {ops : Array Oper} {K : List AV → ASt → Prop} {S : ASt} {fr : List AV} : awpS P ops K S [] fr = K fr S:=by rw [awpS]
theorem awpS_cons {P : Program} {ops : Array Oper} {K : List AV → ASt → Prop} {S : ASt} (o : Oper) (os : List Oper) {fr : List AV} : awpS P ops K S (o :: os) fr = (match wantA ops o fr with
  | some true =>
   match callA o fr with
   | some (F,args)=>CallS P F args S (NextS P ops K S os fr o.dst)
   | none =>
    match evL P o fr S with
    | some (v,_)=>awpS P ops K S os (putA fr o.dst v)
    | none =>
     match stepF P o fr S with
     | some (v,S')=>S' = S ∧ awpS P ops K S os (putA fr o.dst v)
     | none=>False
  | some false=>awpS P ops K S os (putA fr o.dst .un)
  | none=>False):=by rw [awpS] <;> rfl
end Go.Proofs.YtfiohepfohhibaaDoor
namespace Go.Proofs.YtfiohepfohhibaaDoor
open Go.RowKit
theorem run_bneq (a b : Bool) (x y : Operand) : pureRun Tryd.prog (do eqGuard .neq 4 x y (.bool a) (.bool b); binOp .neq 4 (.bool a) (.bool b) : Sem Value) = some (.bool (a != b)):=by
 cases a <;> cases b <;> kernel_rfl
theorem pureRun_map {P : Program} {α β : Type} (f : α → β) (s : Sem α) (a : α) (h : pureRun P s = some a) : pureRun P (f <$> s) = some (f a):=by
 induction s with
 | pure b=>simp [pureRun] at h; subst h; rfl
 | program k ih=>exact ih P (by simpa [pureRun] using h)
 | mark m k ih=>exact ih (by simpa [pureRun] using h)
 | _=>simp [pureRun] at h
theorem genP_bneq {fr : List AV} {o : Oper} {x y : Operand} {k : TypeId} (a b : Bool) (ho : o.op = .binOp .neq 4 x y k) (hx : evA fr x = B a) (hy : evA fr y = B b) : genP Tryd.prog o fr = some (B (a != b)):=by
 obtain ⟨dst,op,ty,pos,after,guard⟩:=o
 simp only at ho
 subst ho
 have h1 : (noSel (.binOp .neq 4 x y k) && allAtoms fr (Op.operands (.binOp .neq 4 x y k)).toList) = true:=by
  show (true && allAtoms fr [x,y]) = true
  rw [Bool.true_and,allAtoms,allAtoms,allAtoms,hx,hy]
  rfl
 have h2 : pureRun Tryd.prog (execOp (fun z=>(atomV (evA fr z)).getD undef) ⟨dst,.binOp .neq 4 x y k,ty,pos,after,guard⟩) = some (.value (.bool (a != b))):=by
  have e1 : (atomV (evA fr x)).getD undef = .bool a:=by rw [hx]; rfl
  have e2 : (atomV (evA fr y)).getD undef = .bool b:=by rw [hy]; rfl
  unfold execOp
  simp only [e1,e2]
  exact pureRun_map _ _ _ (run_bneq a b x y)
 unfold genP
 simp only
 rw [if_pos h1,h2]
 rfl
noncomputable def genK (o : Oper) (fr : List AV) : Option AV:=genP Tryd.prog o fr
@[simp] theorem genP_neq (dst : Option Tmp) (x y : Operand) (k ty : TypeId) (pos : String) (after : Array Edge) (guard : Option (Nat × Bool)) (fr : List AV) :
  genP Tryd.prog ⟨dst,.binOp .neq 4 x y k,ty,pos,after,guard⟩ fr = (match evA fr x,evA fr y with | .p (.v (.bool a)),.p (.v (.bool b))=>some (B (a != b)) | _,_=>genK ⟨dst,.binOp .neq 4 x y k,ty,pos,after,guard⟩ fr):=by
 split
 ·rename_i a b hx hy
  exact genP_bneq a b rfl hx hy
 ·rfl
end Go.Proofs.YtfiohepfohhibaaDoor
namespace Go.Proofs.YtfiohepfohhibaaDoor
open Go.RowKit
def RetFlat (P : Program) (rs : List ResultVar) (r : AV) (S' : ASt) : Exit → List AV → ASt → Prop:=fun e fr S1 =>
 (e = .normal ∨ e = .ret) ∧ ∃ vs,resA P fr S1 rs = some vs ∧ retA vs = r ∧ S1 = S'
theorem retFlat_eq (P : Program) (rs : List ResultVar) (r : AV) (e : Exit) (fr : List AV) (S S1 : ASt) : RetFlat P rs r S e fr S1 = ((e = .normal ∨ e = .ret) ∧ ∃ vs,resA P fr S1 rs = some vs ∧ retA vs = r ∧ S1 = S):=by rw [RetFlat]
attribute [simp] retFlat_eq
theorem ADet.flat {P : Program} {K : FuncId} {args : List AV} {S S' : ASt} {r : AV} {fn : Func} {c : Code} (hm : P.follows .mixedOrders = true) (hK : ∀ xs w,(callFunc K xs).run P w = .ok (.enter K xs) w) (hf : P.funcs[K]? = some fn) (hb : fn.body = some c)
  (h : awp P c (args ++ List.replicate (fn.ntmps - args.length) .un) S (RetFlat P fn.results.toList r S')) : ADet P K args S r S':=by
 refine ⟨hK,fun Pr φ xs w hargs hR hne=>?_⟩
 refine calls_of_wp hf hb ?_
 have hfr : RF Pr φ (args ++ List.replicate (fn.ntmps - args.length) .un) { tmps:=xs ++ Array.replicate (fn.ntmps - xs.size) undef,defers:=[] }:=by
  refine ⟨by simp [hargs.1],fun t v x hv hx=>?_⟩
  rcases Nat.lt_or_ge t args.length with ht | ht
  ·rw [List.getElem?_append_left ht] at hv
   simp only at hx
   rw [Array.getElem?_append_left (by rw [← hargs.1]; exact ht)] at hx
   exact hargs.2 t v x hv hx
  ·rw [List.getElem?_append_right ht] at hv
   simp only at hx
   rw [Array.getElem?_append_right (by rw [← hargs.1]; exact ht)] at hx
   rw [List.getElem?_replicate] at hv
   rw [Array.getElem?_replicate] at hx
   split at hv
   ·split at hx
    ·cases hv; cases hx; exact .un
    ·cases hx
   ·cases hv
 refine wp_mono (awp_ok hm c _ Pr φ _ _ S w hfr hR hne h) fun e a' w' hp=>?_
 obtain ⟨fr',S1,Pr',φ',⟨he,vs,h1,h2,h3⟩,h4,h5,h6,h7⟩:=hp
 obtain ⟨x,hx,hrun⟩:=results_ok (P:=P) (fn:=fn) h4 h5 h1
 subst h3
 rw [h2] at hx
 have key : a'.defers = [] ∧ ∃ v,(results fn a'.tmps).run P w' = .ok v w' ∧ ∃ x Pr' φ',Ending.returned v = .returned x ∧ Stp Pr φ w Pr' φ' w' ∧ Rel Pr' φ' S1 w' ∧ RA Pr' φ' r x :=
  ⟨h7,x,hrun,x,Pr',φ',rfl,h6,h5,hx⟩
 rcases he with rfl | rfl
 ·exact key
 ·exact key
theorem ADet.after {P : Program} {K : FuncId} {args : List AV} {S S' S'' : ASt} {r : AV} (hw : wkT S' S'') (h : ADet P K args S r S') : ADet P K args S r S'' :=
 ⟨h.1,fun Pr φ xs w hargs hR hne=>(h.2 Pr φ xs w hargs hR hne).mono fun e w' hp=>by
  obtain ⟨x,Pr',φ',h1,h2,h3,h4⟩:=hp
  exact ⟨x,Pr',φ',h1,h2,rel_wk h3 (wkT_ok hw),h4⟩⟩
end Go.Proofs.YtfiohepfohhibaaDoor
