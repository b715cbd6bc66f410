/- A part of the proof. The statement is proved in the claim's last text. -/
import Derived.Test.YtfbpibkpmcceaaaGreatDoorZMR3
import Derived.Test.YtfbpibkpmcceaaaGreatDoorZMWp
import Derived.Test.YtfbpibkpmcceaaaGreatDoorZMLx
set_option linter.unusedVariables false
set_option linter.unusedSimpArgs false
set_option maxRecDepth 100000
set_option maxHeartbeats 32000000
namespace Go.Proofs.YtfbpibkpmcceaaaGreatDoor
open Go.RowKit
attribute [local simp] List.replicate List.range List.range.loop resA resOne retA
def formS (op : Int) : ByteArray :=
 if op = 1 then (⟨#[105,48]⟩ : ByteArray) else if op = 2 then (⟨#[98,48]⟩ : ByteArray) else if op = 3 then (⟨#[48]⟩ : ByteArray) else if op = 4 ∨ op = 5 ∨ op = 6 ∨ op = 24 ∨ op = 28 ∨ op = 32 ∨ op = 36 then (⟨#[112,48]⟩ : ByteArray) else if 9 ≤ op ∧ op ≤ 17 then (⟨#[50]⟩ : ByteArray) else if op = 18 then (⟨#[110,54]⟩ : ByteArray) else if op = 19 then (⟨#[116,102,54]⟩ : ByteArray) else if op = 20 then (⟨#[116,118,57]⟩ : ByteArray) else if op = 25 ∨ op = 33 ∨ op = 34 ∨ op = 35 then (⟨#[112,49]⟩ : ByteArray) else if 1 ≤ op ∧ op ≤ 36 then (⟨#[49]⟩ : ByteArray) else emS
theorem formC (op : Int) (h0 : 0 ≤ op) (h1 : op ≤ 255) (S : ASt) : ADet Tryz.prog 148 [U op] S (Sg (formS op)) S:=by
 refine ADet.intro mixed Tryz.call148 Tryz.func148 rfl ?_
 have w1 : IntKind.i64.wrap op = op:=IntWalk.i64_in _ (by omega)
 by_cases hge : 37 ≤ op
 ·have hf : formS op = emS:=by
   unfold formS
   rw [if_neg (by omega),if_neg (by omega),if_neg (by omega),if_neg (by omega),if_neg (by omega),if_neg (by omega),if_neg (by omega),if_neg (by omega),if_neg (by omega),if_neg (by omega)]
  simp [Tryz.ntmps148,w1,hge,hf]
 by_cases hop0 : op = 0
 ·simp [Tryz.ntmps148,hop0,formS,show IntKind.i64.wrap 0 = 0 by decide]
 by_cases hop1 : op = 1
 ·simp [Tryz.ntmps148,hop1,formS,show IntKind.i64.wrap 1 = 1 by decide]
 by_cases hop2 : op = 2
 ·simp [Tryz.ntmps148,hop2,formS,show IntKind.i64.wrap 2 = 2 by decide]
 by_cases hop3 : op = 3
 ·simp [Tryz.ntmps148,hop3,formS,show IntKind.i64.wrap 3 = 3 by decide]
 by_cases hop4 : op = 4
 ·simp [Tryz.ntmps148,hop4,formS,show IntKind.i64.wrap 4 = 4 by decide]
 by_cases hop5 : op = 5
 ·simp [Tryz.ntmps148,hop5,formS,show IntKind.i64.wrap 5 = 5 by decide]
 by_cases hop6 : op = 6
 ·simp [Tryz.ntmps148,hop6,formS,show IntKind.i64.wrap 6 = 6 by decide]
 by_cases hop7 : op = 7
 ·simp [Tryz.ntmps148,hop7,formS,show IntKind.i64.wrap 7 = 7 by decide]
 by_cases hop8 : op = 8
 ·simp [Tryz.ntmps148,hop8,formS,show IntKind.i64.wrap 8 = 8 by decide]
 by_cases hop9 : op = 9
 ·simp [Tryz.ntmps148,hop9,formS,show IntKind.i64.wrap 9 = 9 by decide]
 by_cases hop10 : op = 10
 ·simp [Tryz.ntmps148,hop10,formS,show IntKind.i64.wrap 10 = 10 by decide]
 by_cases hop11 : op = 11
 ·simp [Tryz.ntmps148,hop11,formS,show IntKind.i64.wrap 11 = 11 by decide]
 by_cases hop12 : op = 12
 ·simp [Tryz.ntmps148,hop12,formS,show IntKind.i64.wrap 12 = 12 by decide]
 by_cases hop13 : op = 13
 ·simp [Tryz.ntmps148,hop13,formS,show IntKind.i64.wrap 13 = 13 by decide]
 by_cases hop14 : op = 14
 ·simp [Tryz.ntmps148,hop14,formS,show IntKind.i64.wrap 14 = 14 by decide]
 by_cases hop15 : op = 15
 ·simp [Tryz.ntmps148,hop15,formS,show IntKind.i64.wrap 15 = 15 by decide]
 by_cases hop16 : op = 16
 ·simp [Tryz.ntmps148,hop16,formS,show IntKind.i64.wrap 16 = 16 by decide]
 by_cases hop17 : op = 17
 ·simp [Tryz.ntmps148,hop17,formS,show IntKind.i64.wrap 17 = 17 by decide]
 by_cases hop18 : op = 18
 ·simp [Tryz.ntmps148,hop18,formS,show IntKind.i64.wrap 18 = 18 by decide]
 by_cases hop19 : op = 19
 ·simp [Tryz.ntmps148,hop19,formS,show IntKind.i64.wrap 19 = 19 by decide]
 by_cases hop20 : op = 20
 ·simp [Tryz.ntmps148,hop20,formS,show IntKind.i64.wrap 20 = 20 by decide]
 by_cases hop21 : op = 21
 ·simp [Tryz.ntmps148,hop21,formS,show IntKind.i64.wrap 21 = 21 by decide]
 by_cases hop22 : op = 22
 ·simp [Tryz.ntmps148,hop22,formS,show IntKind.i64.wrap 22 = 22 by decide]
 by_cases hop23 : op = 23
 ·simp [Tryz.ntmps148,hop23,formS,show IntKind.i64.wrap 23 = 23 by decide]
 by_cases hop24 : op = 24
 ·simp [Tryz.ntmps148,hop24,formS,show IntKind.i64.wrap 24 = 24 by decide]
 by_cases hop25 : op = 25
 ·simp [Tryz.ntmps148,hop25,formS,show IntKind.i64.wrap 25 = 25 by decide]
 by_cases hop26 : op = 26
 ·simp [Tryz.ntmps148,hop26,formS,show IntKind.i64.wrap 26 = 26 by decide]
 by_cases hop27 : op = 27
 ·simp [Tryz.ntmps148,hop27,formS,show IntKind.i64.wrap 27 = 27 by decide]
 by_cases hop28 : op = 28
 ·simp [Tryz.ntmps148,hop28,formS,show IntKind.i64.wrap 28 = 28 by decide]
 by_cases hop29 : op = 29
 ·simp [Tryz.ntmps148,hop29,formS,show IntKind.i64.wrap 29 = 29 by decide]
 by_cases hop30 : op = 30
 ·simp [Tryz.ntmps148,hop30,formS,show IntKind.i64.wrap 30 = 30 by decide]
 by_cases hop31 : op = 31
 ·simp [Tryz.ntmps148,hop31,formS,show IntKind.i64.wrap 31 = 31 by decide]
 by_cases hop32 : op = 32
 ·simp [Tryz.ntmps148,hop32,formS,show IntKind.i64.wrap 32 = 32 by decide]
 by_cases hop33 : op = 33
 ·simp [Tryz.ntmps148,hop33,formS,show IntKind.i64.wrap 33 = 33 by decide]
 by_cases hop34 : op = 34
 ·simp [Tryz.ntmps148,hop34,formS,show IntKind.i64.wrap 34 = 34 by decide]
 by_cases hop35 : op = 35
 ·simp [Tryz.ntmps148,hop35,formS,show IntKind.i64.wrap 35 = 35 by decide]
 by_cases hop36 : op = 36
 ·simp [Tryz.ntmps148,hop36,formS,show IntKind.i64.wrap 36 = 36 by decide]
 omega
end Go.Proofs.YtfbpibkpmcceaaaGreatDoor
namespace Go.Proofs.YtfbpibkpmcceaaaGreatDoor
open Go.RowKit
attribute [local simp] List.replicate List.range List.range.loop resA resOne retA AV.cuts AV.cut AObj.cut trim wkR wkT wkL wkN wkNR wkNL wkM wkMR wkML
def manyB (f : ByteArray) (n : Int) : Bool :=
 if f = (⟨#[110,54]⟩ : ByteArray) ∨ f = (⟨#[116,102,54]⟩ : ByteArray) then decide (n ≤ 6) else if f = (⟨#[116,118,57]⟩ : ByteArray) then decide (n ≤ 1) else if f = (⟨#[49]⟩ : ByteArray) ∨ f = (⟨#[112,49]⟩ : ByteArray) then n == 1 else if f = (⟨#[50]⟩ : ByteArray) then n == 2 else n == 0
theorem many_i0 (n : Int) (S : ASt) : ADet Tryz.prog 149 [Sg (⟨#[105,48]⟩ : ByteArray),I n] S (B (n == 0)) S:=by
 refine ADet.intro mixed Tryz.call149 Tryz.func149 rfl ?_
 have hs : ((⟨#[105,48]⟩ : ByteArray) : ByteArray).size = 2:=rfl
 have w1 : IntKind.i64.wrap 1 = 1:=by decide
 simp [Tryz.ntmps149,hs,w1,show IntKind.u8.wrap 0 = 0 by decide,show IntKind.i64.wrap 0 = 0 by decide]
theorem many_b0 (n : Int) (S : ASt) : ADet Tryz.prog 149 [Sg (⟨#[98,48]⟩ : ByteArray),I n] S (B (n == 0)) S:=by
 refine ADet.intro mixed Tryz.call149 Tryz.func149 rfl ?_
 have hs : ((⟨#[98,48]⟩ : ByteArray) : ByteArray).size = 2:=rfl
 have w1 : IntKind.i64.wrap 1 = 1:=by decide
 simp [Tryz.ntmps149,hs,w1,show IntKind.u8.wrap 0 = 0 by decide,show IntKind.i64.wrap 0 = 0 by decide]
theorem many_0 (n : Int) (S : ASt) : ADet Tryz.prog 149 [Sg (⟨#[48]⟩ : ByteArray),I n] S (B (n == 0)) S:=by
 refine ADet.intro mixed Tryz.call149 Tryz.func149 rfl ?_
 have hs : ((⟨#[48]⟩ : ByteArray) : ByteArray).size = 1:=rfl
 have w1 : IntKind.i64.wrap 0 = 0:=by decide
 simp [Tryz.ntmps149,hs,w1,show IntKind.u8.wrap 0 = 0 by decide,show IntKind.i64.wrap 0 = 0 by decide]
theorem many_p0 (n : Int) (S : ASt) : ADet Tryz.prog 149 [Sg (⟨#[112,48]⟩ : ByteArray),I n] S (B (n == 0)) S:=by
 refine ADet.intro mixed Tryz.call149 Tryz.func149 rfl ?_
 have hs : ((⟨#[112,48]⟩ : ByteArray) : ByteArray).size = 2:=rfl
 have w1 : IntKind.i64.wrap 1 = 1:=by decide
 simp [Tryz.ntmps149,hs,w1,show IntKind.u8.wrap 0 = 0 by decide,show IntKind.i64.wrap 0 = 0 by decide]
theorem many_1 (n : Int) (S : ASt) : ADet Tryz.prog 149 [Sg (⟨#[49]⟩ : ByteArray),I n] S (B (n == 1)) S:=by
 refine ADet.intro mixed Tryz.call149 Tryz.func149 rfl ?_
 have hs : ((⟨#[49]⟩ : ByteArray) : ByteArray).size = 1:=rfl
 have w1 : IntKind.i64.wrap 0 = 0:=by decide
 simp [Tryz.ntmps149,hs,w1,show IntKind.u8.wrap 1 = 1 by decide,show IntKind.i64.wrap 1 = 1 by decide]
theorem many_2 (n : Int) (S : ASt) : ADet Tryz.prog 149 [Sg (⟨#[50]⟩ : ByteArray),I n] S (B (n == 2)) S:=by
 refine ADet.intro mixed Tryz.call149 Tryz.func149 rfl ?_
 have hs : ((⟨#[50]⟩ : ByteArray) : ByteArray).size = 1:=rfl
 have w1 : IntKind.i64.wrap 0 = 0:=by decide
 simp [Tryz.ntmps149,hs,w1,show IntKind.u8.wrap 2 = 2 by decide,show IntKind.i64.wrap 2 = 2 by decide]
theorem many_p1 (n : Int) (S : ASt) : ADet Tryz.prog 149 [Sg (⟨#[112,49]⟩ : ByteArray),I n] S (B (n == 1)) S:=by
 refine ADet.intro mixed Tryz.call149 Tryz.func149 rfl ?_
 have hs : ((⟨#[112,49]⟩ : ByteArray) : ByteArray).size = 2:=rfl
 have w1 : IntKind.i64.wrap 1 = 1:=by decide
 simp [Tryz.ntmps149,hs,w1,show IntKind.u8.wrap 1 = 1 by decide,show IntKind.i64.wrap 1 = 1 by decide]
theorem many_n6 (n : Int) (S : ASt) : ADet Tryz.prog 149 [Sg (⟨#[110,54]⟩ : ByteArray),I n] S (B (decide (n ≤ 6))) S:=by
 refine ADet.intro mixed Tryz.call149 Tryz.func149 rfl ?_
 have hs : ((⟨#[110,54]⟩ : ByteArray) : ByteArray).size = 2:=rfl
 have w1 : IntKind.i64.wrap 1 = 1:=by decide
 simp [Tryz.ntmps149,hs,w1,show IntKind.u8.wrap 6 = 6 by decide,show IntKind.i64.wrap 6 = 6 by decide]
theorem many_tf6 (n : Int) (S : ASt) : ADet Tryz.prog 149 [Sg (⟨#[116,102,54]⟩ : ByteArray),I n] S (B (decide (n ≤ 6))) S:=by
 refine ADet.intro mixed Tryz.call149 Tryz.func149 rfl ?_
 have hs : ((⟨#[116,102,54]⟩ : ByteArray) : ByteArray).size = 3:=rfl
 have w1 : IntKind.i64.wrap 2 = 2:=by decide
 simp [Tryz.ntmps149,hs,w1,show IntKind.u8.wrap 6 = 6 by decide,show IntKind.i64.wrap 6 = 6 by decide]
theorem many_tv9 (n : Int) (S : ASt) : ADet Tryz.prog 149 [Sg (⟨#[116,118,57]⟩ : ByteArray),I n] S (B (decide (n ≤ 1))) S:=by
 refine ADet.intro mixed Tryz.call149 Tryz.func149 rfl ?_
 have hs : ((⟨#[116,118,57]⟩ : ByteArray) : ByteArray).size = 3:=rfl
 have w1 : IntKind.i64.wrap 2 = 2:=by decide
 simp [Tryz.ntmps149,hs,w1,show IntKind.u8.wrap 9 = 9 by decide,show IntKind.i64.wrap 9 = 9 by decide]
theorem rFieldsC (e : Ex) (hp : PlSm e.place) (S : ASt) : ADet Tryz.prog 152 [exV e] S (B (sEq e.place.name emS && (decide (e.place.path.length = e.args.length) && e.place.path.all nameB))) S:=by
 have hlen : e.place.path.length ≤ maxLen:=sm_max hp.2.1
 refine ADet.intro mixed Tryz.call152 Tryz.func152 rfl ?_
 cases hn : sEq e.place.name emS with
 | false=>simp [Tryz.ntmps152,hn,strs]
 | true =>
  by_cases hl : e.place.path.length = e.args.length
  ·have hl' : ((e.place.path.length : Int) != (e.args.length : Int)) = false:=by simp [hl]
   simp [Tryz.ntmps152,hn,strs,hl']
   refine awp_loop (fun q : Nat=>q ≤ e.place.path.length ∧ ∀ i (hi : i < e.place.path.length),i < q → nameB e.place.path[i] = true) (fun q=>([.any,.ptr 0 0 0,.any,I q] ++ List.replicate 30 .any)) (fun q=>[.cells [U e.op,I e.int,Sg e.name,Sg e.second,Sg e.place.name,.p (.sl 1 (e.place.path.map fun s=>[pS s])),.p (.sl 8 (e.args.map Ex.enc)),I e.pos] 45] :: S) (fun q=>e.place.path.length - q) 0 ⟨Nat.zero_le _,fun i hi h=>by omega⟩ ?_ ?_ ?_
   ·simp
   ·simp
   rintro q ⟨hq,hall⟩
   by_cases hlt : q < e.place.path.length
   ·have hsz:=hp.2.2 e.place.path[q] (List.getElem_mem hlt)
    generalize hs : e.place.path[q] = s at *
    simp [hlt,hs]
    refine ⟨_,_,rnameC s (sm_max hsz) _,?_⟩
    cases hnm : nameB s with
    | false =>
     have : e.place.path.all nameB = false:=List.all_eq_false.2 ⟨s,by rw [← hs]; exact List.getElem_mem hlt,by simp [hnm]⟩
     simp [hnm,this,hl]
    | true =>
     simp [hnm]
     exact ⟨q + 1,⟨hlt,fun i hi h=>by
      rcases Nat.lt_or_ge i q with h' | h'
      ·exact hall i hi h'
      ·obtain rfl : i = q:=by omega
       rw [hs]; exact hnm⟩,by omega,wrap_succ hlt⟩
   ·have : e.place.path.all nameB = true:=by
     rw [List.all_eq_true]
     intro s hs
     obtain ⟨i,hi,rfl⟩:=List.getElem_of_mem hs
     exact hall i hi (by omega)
    have hlt2 : ¬ q < e.args.length:=by omega
    simp [hlt,hlt2,this,hl]
  ·have hl' : ((e.place.path.length : Int) != (e.args.length : Int)) = true:=by simp; omega
   simp [Tryz.ntmps152,hn,strs,hl',hl]
end Go.Proofs.YtfbpibkpmcceaaaGreatDoor
namespace Go.Proofs.YtfbpibkpmcceaaaGreatDoor
open Go.RowKit
theorem hv_i0_i : hasB (⟨#[105,48]⟩ : ByteArray) 105 = true:=by decide
theorem hv_i0_b : hasB (⟨#[105,48]⟩ : ByteArray) 98 = false:=by decide
theorem hv_i0_p : hasB (⟨#[105,48]⟩ : ByteArray) 112 = false:=by decide
theorem hv_i0_f : hasB (⟨#[105,48]⟩ : ByteArray) 102 = false:=by decide
theorem hv_i0_n : hasB (⟨#[105,48]⟩ : ByteArray) 110 = false:=by decide
theorem hv_i0_t : hasB (⟨#[105,48]⟩ : ByteArray) 116 = false:=by decide
theorem hv_i0_v : hasB (⟨#[105,48]⟩ : ByteArray) 118 = false:=by decide
theorem hv_b0_i : hasB (⟨#[98,48]⟩ : ByteArray) 105 = false:=by decide
theorem hv_b0_b : hasB (⟨#[98,48]⟩ : ByteArray) 98 = true:=by decide
theorem hv_b0_p : hasB (⟨#[98,48]⟩ : ByteArray) 112 = false:=by decide
theorem hv_b0_f : hasB (⟨#[98,48]⟩ : ByteArray) 102 = false:=by decide
theorem hv_b0_n : hasB (⟨#[98,48]⟩ : ByteArray) 110 = false:=by decide
theorem hv_b0_t : hasB (⟨#[98,48]⟩ : ByteArray) 116 = false:=by decide
theorem hv_b0_v : hasB (⟨#[98,48]⟩ : ByteArray) 118 = false:=by decide
theorem hv_0_i : hasB (⟨#[48]⟩ : ByteArray) 105 = false:=by decide
theorem hv_0_b : hasB (⟨#[48]⟩ : ByteArray) 98 = false:=by decide
theorem hv_0_p : hasB (⟨#[48]⟩ : ByteArray) 112 = false:=by decide
theorem hv_0_f : hasB (⟨#[48]⟩ : ByteArray) 102 = false:=by decide
theorem hv_0_n : hasB (⟨#[48]⟩ : ByteArray) 110 = false:=by decide
theorem hv_0_t : hasB (⟨#[48]⟩ : ByteArray) 116 = false:=by decide
theorem hv_0_v : hasB (⟨#[48]⟩ : ByteArray) 118 = false:=by decide
theorem hv_p0_i : hasB (⟨#[112,48]⟩ : ByteArray) 105 = false:=by decide
theorem hv_p0_b : hasB (⟨#[112,48]⟩ : ByteArray) 98 = false:=by decide
theorem hv_p0_p : hasB (⟨#[112,48]⟩ : ByteArray) 112 = true:=by decide
theorem hv_p0_f : hasB (⟨#[112,48]⟩ : ByteArray) 102 = false:=by decide
theorem hv_p0_n : hasB (⟨#[112,48]⟩ : ByteArray) 110 = false:=by decide
theorem hv_p0_t : hasB (⟨#[112,48]⟩ : ByteArray) 116 = false:=by decide
theorem hv_p0_v : hasB (⟨#[112,48]⟩ : ByteArray) 118 = false:=by decide
theorem hv_1_i : hasB (⟨#[49]⟩ : ByteArray) 105 = false:=by decide
theorem hv_1_b : hasB (⟨#[49]⟩ : ByteArray) 98 = false:=by decide
theorem hv_1_p : hasB (⟨#[49]⟩ : ByteArray) 112 = false:=by decide
theorem hv_1_f : hasB (⟨#[49]⟩ : ByteArray) 102 = false:=by decide
theorem hv_1_n : hasB (⟨#[49]⟩ : ByteArray) 110 = false:=by decide
theorem hv_1_t : hasB (⟨#[49]⟩ : ByteArray) 116 = false:=by decide
theorem hv_1_v : hasB (⟨#[49]⟩ : ByteArray) 118 = false:=by decide
theorem hv_2_i : hasB (⟨#[50]⟩ : ByteArray) 105 = false:=by decide
theorem hv_2_b : hasB (⟨#[50]⟩ : ByteArray) 98 = false:=by decide
theorem hv_2_p : hasB (⟨#[50]⟩ : ByteArray) 112 = false:=by decide
theorem hv_2_f : hasB (⟨#[50]⟩ : ByteArray) 102 = false:=by decide
theorem hv_2_n : hasB (⟨#[50]⟩ : ByteArray) 110 = false:=by decide
theorem hv_2_t : hasB (⟨#[50]⟩ : ByteArray) 116 = false:=by decide
theorem hv_2_v : hasB (⟨#[50]⟩ : ByteArray) 118 = false:=by decide
theorem hv_p1_i : hasB (⟨#[112,49]⟩ : ByteArray) 105 = false:=by decide
theorem hv_p1_b : hasB (⟨#[112,49]⟩ : ByteArray) 98 = false:=by decide
theorem hv_p1_p : hasB (⟨#[112,49]⟩ : ByteArray) 112 = true:=by decide
theorem hv_p1_f : hasB (⟨#[112,49]⟩ : ByteArray) 102 = false:=by decide
theorem hv_p1_n : hasB (⟨#[112,49]⟩ : ByteArray) 110 = false:=by decide
theorem hv_p1_t : hasB (⟨#[112,49]⟩ : ByteArray) 116 = false:=by decide
theorem hv_p1_v : hasB (⟨#[112,49]⟩ : ByteArray) 118 = false:=by decide
theorem hv_n6_i : hasB (⟨#[110,54]⟩ : ByteArray) 105 = false:=by decide
theorem hv_n6_b : hasB (⟨#[110,54]⟩ : ByteArray) 98 = false:=by decide
theorem hv_n6_p : hasB (⟨#[110,54]⟩ : ByteArray) 112 = false:=by decide
theorem hv_n6_f : hasB (⟨#[110,54]⟩ : ByteArray) 102 = false:=by decide
theorem hv_n6_n : hasB (⟨#[110,54]⟩ : ByteArray) 110 = true:=by decide
theorem hv_n6_t : hasB (⟨#[110,54]⟩ : ByteArray) 116 = false:=by decide
theorem hv_n6_v : hasB (⟨#[110,54]⟩ : ByteArray) 118 = false:=by decide
theorem hv_tf6_i : hasB (⟨#[116,102,54]⟩ : ByteArray) 105 = false:=by decide
theorem hv_tf6_b : hasB (⟨#[116,102,54]⟩ : ByteArray) 98 = false:=by decide
theorem hv_tf6_p : hasB (⟨#[116,102,54]⟩ : ByteArray) 112 = false:=by decide
theorem hv_tf6_f : hasB (⟨#[116,102,54]⟩ : ByteArray) 102 = true:=by decide
theorem hv_tf6_n : hasB (⟨#[116,102,54]⟩ : ByteArray) 110 = false:=by decide
theorem hv_tf6_t : hasB (⟨#[116,102,54]⟩ : ByteArray) 116 = true:=by decide
theorem hv_tf6_v : hasB (⟨#[116,102,54]⟩ : ByteArray) 118 = false:=by decide
theorem hv_tv9_i : hasB (⟨#[116,118,57]⟩ : ByteArray) 105 = false:=by decide
theorem hv_tv9_b : hasB (⟨#[116,118,57]⟩ : ByteArray) 98 = false:=by decide
theorem hv_tv9_p : hasB (⟨#[116,118,57]⟩ : ByteArray) 112 = false:=by decide
theorem hv_tv9_f : hasB (⟨#[116,118,57]⟩ : ByteArray) 102 = false:=by decide
theorem hv_tv9_n : hasB (⟨#[116,118,57]⟩ : ByteArray) 110 = false:=by decide
theorem hv_tv9_t : hasB (⟨#[116,118,57]⟩ : ByteArray) 116 = true:=by decide
theorem hv_tv9_v : hasB (⟨#[116,118,57]⟩ : ByteArray) 118 = true:=by decide
def RE (e : Ex) : Prop:=∀ (d : Int) (S : ASt),-1 ≤ d → d ≤ 1000 → ADet Tryz.prog 107 [exV e,I d] S (B (e.whole d)) S
end Go.Proofs.YtfbpibkpmcceaaaGreatDoor
