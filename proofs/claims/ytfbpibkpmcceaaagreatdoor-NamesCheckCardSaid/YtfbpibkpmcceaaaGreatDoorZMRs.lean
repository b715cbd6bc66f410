/- A part of the proof. The statement is proved in the claim's last text. -/
import Derived.Test.YtfbpibkpmcceaaaGreatDoorZMXi
import Derived.Test.YtfbpibkpmcceaaaGreatDoorZMWs
set_option linter.unusedVariables false
set_option linter.unusedSimpArgs false
set_option maxRecDepth 100000
set_option maxHeartbeats 32000000
namespace Go.Proofs.YtfbpibkpmcceaaaGreatDoor
open Go.RowKit
attribute [local simp] List.replicate List.range List.range.loop resA resOne retA
def stF (op : Int) : ByteArray:=if op = 1 then (⟨#[110,108]⟩ : ByteArray) else if op = 2 then (⟨#[116,78,101]⟩ : ByteArray) else if op = 3 then (⟨#[112,101]⟩ : ByteArray) else if op = 4 then (⟨#[101]⟩ : ByteArray) else if op = 5 then (⟨#[110]⟩ : ByteArray) else if op = 6 then (⟨#[101,66,69]⟩ : ByteArray) else if op = 7 then (⟨#[101,66]⟩ : ByteArray) else if op = 8 then (⟨#[110,121,65]⟩ : ByteArray) else if op = 9 then (⟨#[66]⟩ : ByteArray) else if op = 10 then (⟨#[78,120,66]⟩ : ByteArray) else if op = 11 then (⟨#[112,110,66]⟩ : ByteArray) else if op = 12 then (⟨#[84,110,115]⟩ : ByteArray) else if op = 13 then (⟨#[66]⟩ : ByteArray) else emS
theorem stFC (op : Int) (h0 : 0 ≤ op) (h1 : op ≤ 255) (S : ASt) : ADet Tryz.prog 184 [U op] S (Sg (stF op)) S:=by
 refine ADet.intro mixed Tryz.call184 Tryz.func184 rfl ?_
 have w1 : IntKind.i64.wrap op = op:=IntWalk.i64_in _ (by omega)
 by_cases hge : 14 ≤ op
 ·have hf : stF op = emS:=by
   unfold stF
   repeat rw [if_neg (by omega)]
  simp [Tryz.ntmps184,w1,hge,hf]
 by_cases hop0 : op = 0
 ·simp [Tryz.ntmps184,hop0,stF,show IntKind.i64.wrap 0 = 0 by decide]
 by_cases hop1 : op = 1
 ·simp [Tryz.ntmps184,hop1,stF,show IntKind.i64.wrap 1 = 1 by decide]
 by_cases hop2 : op = 2
 ·simp [Tryz.ntmps184,hop2,stF,show IntKind.i64.wrap 2 = 2 by decide]
 by_cases hop3 : op = 3
 ·simp [Tryz.ntmps184,hop3,stF,show IntKind.i64.wrap 3 = 3 by decide]
 by_cases hop4 : op = 4
 ·simp [Tryz.ntmps184,hop4,stF,show IntKind.i64.wrap 4 = 4 by decide]
 by_cases hop5 : op = 5
 ·simp [Tryz.ntmps184,hop5,stF,show IntKind.i64.wrap 5 = 5 by decide]
 by_cases hop6 : op = 6
 ·simp [Tryz.ntmps184,hop6,stF,show IntKind.i64.wrap 6 = 6 by decide]
 by_cases hop7 : op = 7
 ·simp [Tryz.ntmps184,hop7,stF,show IntKind.i64.wrap 7 = 7 by decide]
 by_cases hop8 : op = 8
 ·simp [Tryz.ntmps184,hop8,stF,show IntKind.i64.wrap 8 = 8 by decide]
 by_cases hop9 : op = 9
 ·simp [Tryz.ntmps184,hop9,stF,show IntKind.i64.wrap 9 = 9 by decide]
 by_cases hop10 : op = 10
 ·simp [Tryz.ntmps184,hop10,stF,show IntKind.i64.wrap 10 = 10 by decide]
 by_cases hop11 : op = 11
 ·simp [Tryz.ntmps184,hop11,stF,show IntKind.i64.wrap 11 = 11 by decide]
 by_cases hop12 : op = 12
 ·simp [Tryz.ntmps184,hop12,stF,show IntKind.i64.wrap 12 = 12 by decide]
 by_cases hop13 : op = 13
 ·simp [Tryz.ntmps184,hop13,stF,show IntKind.i64.wrap 13 = 13 by decide]
 omega
theorem r3ZeroTyC (t : Ty) (S : ASt) : ADet Tryz.prog 102 [tyV t] S (B (zeroTyB t)) S:=by
 refine ADet.intro mixed Tryz.call102 Tryz.func102 rfl ?_
 unfold zeroTyB
 cases hk : (t.kind == 0) with
 | false=>simp [Tryz.ntmps102,hk]
 | true =>
  cases hs : sEq t.name emS with
  | false=>simp [Tryz.ntmps102,hk,hs]
  | true=>simp [Tryz.ntmps102,hk,hs]
theorem r3ZeroExC (e : Ex) (S : ASt) : ADet Tryz.prog 105 [exV e] S (B (zeroExB e)) S:=by
 unfold zeroExB
 refine ADet.intro mixed Tryz.call105 Tryz.func105 rfl ?_
 cases h1 : (e.op == 0) with
 | false=>simp [Tryz.ntmps105,h1]
 | true =>
  cases h2 : (e.int == 0) with
  | false=>simp [Tryz.ntmps105,h1,h2]
  | true =>
   cases h3 : sEq e.name emS with
   | false=>simp [Tryz.ntmps105,h1,h2,h3]
   | true =>
    cases h4 : sEq e.second emS with
    | false=>simp [Tryz.ntmps105,h1,h2,h3,h4]
    | true =>
     cases h5 : sEq e.place.name emS with
     | false=>simp [Tryz.ntmps105,h1,h2,h3,h4,h5]
     | true =>
      by_cases h6 : e.place.path = []
      ·simp [Tryz.ntmps105,h1,h2,h3,h4,h5,h6,strs]
      ·simp [Tryz.ntmps105,h1,h2,h3,h4,h5,h6,strs]
def labR (n t s y N T p : Bool) (st : St) (d : Int) : Bool :=
 (if n then nameB st.name else if t then typeB st.name else sEq st.name emS) && ((if s then nameB st.second else if y then typeB st.second else sEq st.second emS) && (((N || decide (st.names.length = 0)) && decide (st.names.length ≤ 6)) && (st.names.all nameB &&
  ((if T then decide (1 ≤ st.int) && (decide (st.int ≤ 8) && st.type.whole (d - 1)) else (st.int == 0) && zeroTyB st.type) && (if p then st.place.whole else noPlB st.place)))))
end Go.Proofs.YtfbpibkpmcceaaaGreatDoor
