/- The tokens of statements, items, programs, in plain words. No statement is proved here. -/
import Derived.Test.YtldglgdejmljnaaGreatDoorMPg
import Derived.Test.YtldglgdejmljnaaGreatDoorMRc
namespace Go.Proofs.YtldglgdejmljnaaGreatDoor
open Go.RowKit
set_option linter.unusedVariables false

/-- tokens in braces -/
def braceTk (b : List ByteArray) : List ByteArray := (⟨#[123]⟩ : ByteArray) :: (b ++ [(⟨#[125]⟩ : ByteArray)])
/-- what stands ahead of a statement's expressions, and behind them -/
def headTk (op int : Int) (name second : ByteArray) (names : List ByteArray) (ty : Ty) (pl : Pl) (ar : List ByteArray) : List ByteArray :=
  if op = 1 then [(⟨#[108, 101, 116]⟩ : ByteArray), name, (⟨#[61]⟩ : ByteArray)]
  else if op = 2 then (⟨#[108, 101, 116]⟩ : ByteArray) :: name :: (⟨#[123]⟩ : ByteArray) :: (commas (names.map fun s => [s]) ++ [(⟨#[125]⟩ : ByteArray), (⟨#[61]⟩ : ByteArray)])
  else if op = 3 then pl.tk ++ [(⟨#[61]⟩ : ByteArray)]
  else if op = 5 then [(⟨#[100, 114, 111, 112]⟩ : ByteArray), name, (⟨#[59]⟩ : ByteArray)]
  else if op = 6 then [(⟨#[105, 102]⟩ : ByteArray)]
  else if op = 7 then [(⟨#[119, 104, 105, 108, 101]⟩ : ByteArray)]
  else if op = 8 then (⟨#[109, 97, 116, 99, 104]⟩ : ByteArray) :: name :: (⟨#[58]⟩ : ByteArray) :: second :: (⟨#[123]⟩ : ByteArray) :: (ar ++ [(⟨#[125]⟩ : ByteArray)])
  else if op = 9 then [(⟨#[115, 99, 111, 112, 101]⟩ : ByteArray)]
  else if op = 11 then (⟨#[108, 111, 99, 107]⟩ : ByteArray) :: (pl.tk ++ [(⟨#[97, 115]⟩ : ByteArray), name])
  else if op = 12 then (⟨#[99, 104, 97, 110]⟩ : ByteArray) :: (⟨#[60]⟩ : ByteArray) :: (ty.tk ++ [(⟨#[62]⟩ : ByteArray), (⟨#[40]⟩ : ByteArray), itoaB int, (⟨#[41]⟩ : ByteArray), (⟨#[97, 115]⟩ : ByteArray), name, (⟨#[44]⟩ : ByteArray), second, (⟨#[59]⟩ : ByteArray)])
  else []
def restTk (op : Int) (b : List ByteArray) (nel : Nat) (el : List ByteArray) : List ByteArray :=
  if op = 1 ∨ op = 2 ∨ op = 3 ∨ op = 4 then [(⟨#[59]⟩ : ByteArray)]
  else if op = 6 ∨ op = 7 ∨ op = 9 ∨ op = 11 ∨ op = 13 then braceTk b ++ (if nel = 0 then [] else (⟨#[101, 108, 115, 101]⟩ : ByteArray) :: braceTk el)
  else []
def stTk1 (op int : Int) (name second : ByteArray) (names : List ByteArray) (ty : Ty) (pl : Pl) (es : List (List ByteArray)) (b : List ByteArray) (nel : Nat) (el ar : List ByteArray) : List ByteArray :=
  if op = 10 then (⟨#[115, 112, 97, 119, 110]⟩ : ByteArray) :: (⟨#[40]⟩ : ByteArray) :: (commas (givenTk names es) ++ (⟨#[41]⟩ : ByteArray) :: braceTk b)
  else headTk op int name second names ty pl ar ++ (es.flatten ++ restTk op b nel el)
def armTk (v n : ByteArray) (b : List ByteArray) : List ByteArray := v :: ((if sEq n emS then [] else [(⟨#[40]⟩ : ByteArray), n, (⟨#[41]⟩ : ByteArray)]) ++ (⟨#[61, 62]⟩ : ByteArray) :: braceTk b)
mutual
def St.tk : St → List ByteArray
  | .mk op name second names ty int pl es b el ar _ => stTk1 op int name second names ty pl (es.map Ex.tk) (St.tks b) el.length (St.tks el) (Ar.tks ar)
def St.tks : List St → List ByteArray
  | [] => []
  | s :: l => s.tk ++ St.tks l
def Ar.tks : List (ArOf St) → List ByteArray
  | [] => []
  | ⟨v, n, b⟩ :: l => armTk v n (St.tks b) ++ Ar.tks l
end
def Ar.tk (a : Ar) : List ByteArray := armTk a.variant a.name (St.tks a.body)
theorem stTks (l : List St) : St.tks l = l.flatMap St.tk := by
  induction l with
  | nil => rfl
  | cons s l ih => simp [St.tks, ih]
theorem arTks (l : List Ar) : Ar.tks l = l.flatMap Ar.tk := by
  induction l with
  | nil => rfl
  | cons a l ih => obtain ⟨v, n, b⟩ := a; simp [Ar.tks, Ar.tk, ih]
theorem stTk_eq (s : St) : s.tk = stTk1 s.op s.int s.name s.second s.names s.type s.place (s.exprs.map Ex.tk) (s.body.flatMap St.tk) s.els.length (s.els.flatMap St.tk) (s.arms.flatMap Ar.tk) := by
  cases s; simp only [St.tk, stTks, arTks]; rfl
theorem arTk_eq (a : Ar) : a.tk = armTk a.variant a.name (a.body.flatMap St.tk) := by unfold Ar.tk; rw [stTks]
def fieldTk (f : Fi) : List ByteArray := f.name :: (⟨#[58]⟩ : ByteArray) :: f.type.tk
def varTk (f : Fi) : List ByteArray := f.name :: (if f.type.kind = 0 then [] else (⟨#[40]⟩ : ByteArray) :: (f.type.tk ++ [(⟨#[41]⟩ : ByteArray)]))
def It.tk (x : It) : List ByteArray :=
  if x.kind = 1 then (⟨#[115, 116, 114, 117, 99, 116]⟩ : ByteArray) :: x.name :: (⟨#[123]⟩ : ByteArray) :: (commas (x.fields.map fieldTk) ++ [(⟨#[125]⟩ : ByteArray)])
  else if x.kind = 2 then (⟨#[101, 110, 117, 109]⟩ : ByteArray) :: x.name :: (⟨#[123]⟩ : ByteArray) :: (commas (x.fields.map varTk) ++ [(⟨#[125]⟩ : ByteArray)])
  else (⟨#[102, 110]⟩ : ByteArray) :: x.name :: (⟨#[40]⟩ : ByteArray) :: (commas (x.fields.map fieldTk) ++ (⟨#[41]⟩ : ByteArray) :: (⟨#[45, 62]⟩ : ByteArray) :: (x.result.tk ++ (⟨#[123]⟩ : ByteArray) :: (x.body.flatMap St.tk ++ (x.ret.tk ++ [(⟨#[125]⟩ : ByteArray)]))))
/-- a line, with its end -/
def itemB (x : It) : ByteArray := lineB x.tk ++ ⟨#[10]⟩
def progB (p : List It) : ByteArray := p.foldl (fun b x => b ++ itemB x) emS
end Go.Proofs.YtldglgdejmljnaaGreatDoor
