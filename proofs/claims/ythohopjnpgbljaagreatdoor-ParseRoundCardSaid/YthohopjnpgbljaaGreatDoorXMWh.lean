/- A part of the proof. The statement is proved in the claim's last text. -/
import Derived.Test.YthohopjnpgbljaaGreatDoorXMWp
import Derived.Test.YthohopjnpgbljaaGreatDoorXMLx
set_option linter.unusedVariables false
set_option linter.unusedSimpArgs false
set_option maxRecDepth 100000
set_option maxHeartbeats 32000000
namespace Go.Proofs.YthohopjnpgbljaaGreatDoor
open Go.RowKit
theorem name_any (s : ByteArray) (hs : s.size ≤ maxLen) (w : World) (h : Tab w) :
  Calls Tryz.prog 69 #[.string s] w fun e w'=>e = .returned (.bool (nameB s)) ∧ Below w.heap.size w w':=by
 have Hn:=Lib.hid (named_any lowerB 65 #[] s hs Tryz.call65 (fun b w=>lower_any b w) w h)
 clear h
 unfold nameB
 go_enter Tryz.func69,Tryz.ntmps69
 go_wp2_with (go_at_call 94; refine Hn.out.mono ?_; rintro e w1 ⟨rfl,hb⟩)
 go_ret
 exact ⟨rfl,hb⟩
theorem g_space : Tryz.prog.globalNamed "strings.asciiSpace" = some 2:=by kernel_rfl
theorem space_in : ((2 : Nat),Lib.asciiSpaceTab.map fun z=>Value.int .u8 z) ∈ tabList:=by simp [tabList]
theorem rl_str {Pr : Prot} {φ : Fi2} {s : ByteArray} {xs : Array Value} (h : RL Pr φ [Sg s] xs) : xs = #[.string s]:=rl_vals (l:=[.string s]) h
theorem nameC1 (s : ByteArray) (hs : s.size ≤ maxLen) (S : ASt) : ADet Tryz.prog 69 [Sg s] S (B (nameB s)) S :=
 ADet.of_calls rfl Tryz.call69 fun Pr φ xs w hargs hR=>by
  obtain rfl:=rl_str hargs
  exact name_any s hs w (tab_is hR g_space space_in)
theorem typeC1 (s : ByteArray) (hs : s.size ≤ maxLen) (S : ASt) : ADet Tryz.prog 70 [Sg s] S (B (typeB s)) S :=
 ADet.of_calls rfl Tryz.call70 fun Pr φ xs w hargs hR=>by
  obtain rfl:=rl_str hargs
  exact type_any s hs w (tab_is hR g_space space_in)
end Go.Proofs.YthohopjnpgbljaaGreatDoor
namespace Go.Proofs.YthohopjnpgbljaaGreatDoor
open Go.RowKit
theorem sm_max {n : Nat} (h : n ≤ 20000) : n ≤ maxLen:=by unfold maxLen; omega
theorem wrd (d : Int) (h : -1000 ≤ d ∧ d ≤ 1000) : IntKind.i64.wrap (d - 1) = d - 1:=IntWalk.i64_in _ (by omega)
end Go.Proofs.YthohopjnpgbljaaGreatDoor
namespace Go.Proofs.YthohopjnpgbljaaGreatDoor
open Go.RowKit
attribute [local simp] List.replicate List.range List.range.loop resA resOne retA
theorem stepBC (s : ByteArray) (h : s.size ≤ 20000) (S : ASt) : ADet Tryz.prog 103 [Sg s] S (B (stepB s)) S:=by
 refine ADet.intro mixed Tryz.call103 Tryz.func103 rfl ?_
 unfold stepB
 cases hs : sEq s starS with
 | true=>simp [Tryz.ntmps103,hs]
 | false =>
  simp [Tryz.ntmps103,hs]
  refine ⟨_,_,nameC1 s (sm_max h) _,?_⟩
  simp [hs]
theorem wholePlaceC (x : Pl) (h : PlSm x) (S : ASt) : ADet Tryz.prog 83 [plV x] S (B x.whole) S:=by
 refine ADet.intro mixed Tryz.call83 Tryz.func83 rfl ?_
 unfold Pl.whole
 simp [Tryz.ntmps83]
 refine ⟨_,_,nameC1 x.name (sm_max h.1) _,?_⟩
 cases hs : nameB x.name with
 | false=>simp [hs]
 | true =>
  simp [hs]
  refine ⟨_,_,all_string stepB x.path 40 (by omega) 103 [] [] _ (fun s hs L=>stepBC s (h.2.2 s hs) _),?_⟩
  simp [hs]
theorem lentC (e : Ex) (S : ASt) : ADet Tryz.prog 26 [exV e] S (B (lentOp e.op)) S:=by
 refine ADet.intro mixed Tryz.call26 Tryz.func26 rfl ?_
 unfold lentOp
 by_cases h5 : e.op = 5
 ·simp [Tryz.ntmps26,h5]
 ·have : (e.op == 5) = false:=by simp [h5]
  simp [Tryz.ntmps26,this]
theorem shapeC (op : Int) (S : ASt) : ADet Tryz.prog 48 [U op] S (.tup [.agg [B (shP op),I (shL op),I (shM op)],B (shO op)]) S:=by
 refine ADet.intro mixed Tryz.call48 Tryz.func48 rfl ?_
 by_cases hop1 : op = 1
 ·simp [Tryz.ntmps48,hop1,shP,shL,shM,shO]
 by_cases hop2 : op = 2
 ·simp [Tryz.ntmps48,hop2,shP,shL,shM,shO]
 by_cases hop3 : op = 3
 ·simp [Tryz.ntmps48,hop3,shP,shL,shM,shO]
 by_cases hop4 : op = 4
 ·simp [Tryz.ntmps48,hop4,shP,shL,shM,shO]
 by_cases hop5 : op = 5
 ·simp [Tryz.ntmps48,hop5,shP,shL,shM,shO]
 by_cases hop6 : op = 6
 ·simp [Tryz.ntmps48,hop6,shP,shL,shM,shO]
 by_cases hop9 : op = 9
 ·simp [Tryz.ntmps48,hop9,shP,shL,shM,shO]
 by_cases hop10 : op = 10
 ·simp [Tryz.ntmps48,hop10,shP,shL,shM,shO]
 by_cases hop11 : op = 11
 ·simp [Tryz.ntmps48,hop11,shP,shL,shM,shO]
 by_cases hop12 : op = 12
 ·simp [Tryz.ntmps48,hop12,shP,shL,shM,shO]
 by_cases hop13 : op = 13
 ·simp [Tryz.ntmps48,hop13,shP,shL,shM,shO]
 by_cases hop14 : op = 14
 ·simp [Tryz.ntmps48,hop14,shP,shL,shM,shO]
 by_cases hop15 : op = 15
 ·simp [Tryz.ntmps48,hop15,shP,shL,shM,shO]
 by_cases hop16 : op = 16
 ·simp [Tryz.ntmps48,hop16,shP,shL,shM,shO]
 by_cases hop17 : op = 17
 ·simp [Tryz.ntmps48,hop17,shP,shL,shM,shO]
 by_cases hop18 : op = 18
 ·simp [Tryz.ntmps48,hop18,shP,shL,shM,shO]
 by_cases hop19 : op = 19
 ·simp [Tryz.ntmps48,hop19,shP,shL,shM,shO]
 by_cases hop20 : op = 20
 ·simp [Tryz.ntmps48,hop20,shP,shL,shM,shO]
 by_cases hop24 : op = 24
 ·simp [Tryz.ntmps48,hop24,shP,shL,shM,shO]
 by_cases hop25 : op = 25
 ·simp [Tryz.ntmps48,hop25,shP,shL,shM,shO]
 by_cases hop28 : op = 28
 ·simp [Tryz.ntmps48,hop28,shP,shL,shM,shO]
 by_cases hop32 : op = 32
 ·simp [Tryz.ntmps48,hop32,shP,shL,shM,shO]
 by_cases hop33 : op = 33
 ·simp [Tryz.ntmps48,hop33,shP,shL,shM,shO]
 by_cases hop34 : op = 34
 ·simp [Tryz.ntmps48,hop34,shP,shL,shM,shO]
 by_cases hop35 : op = 35
 ·simp [Tryz.ntmps48,hop35,shP,shL,shM,shO]
 by_cases hop36 : op = 36
 ·simp [Tryz.ntmps48,hop36,shP,shL,shM,shO]
 have hm : ¬ (9 ≤ op ∧ op ≤ 17):=by omega
 by_cases h1 : 1 ≤ op
 ·simp [Tryz.ntmps48,hop1,hop2,hop3,hop4,hop5,hop6,hop9,hop10,hop11,hop12,hop13,hop14,hop15,hop16,hop17,hop18,hop19,hop20,hop24,hop25,hop28,hop32,hop33,hop34,hop35,hop36,shP,shL,shM,shO,hm,h1]
 ·simp [Tryz.ntmps48,hop1,hop2,hop3,hop4,hop5,hop6,hop9,hop10,hop11,hop12,hop13,hop14,hop15,hop16,hop17,hop18,hop19,hop20,hop24,hop25,hop28,hop32,hop33,hop34,hop35,hop36,shP,shL,shM,shO,hm,h1]
theorem noPlaceC (x : Pl) (S : ASt) : ADet Tryz.prog 85 [plV x] S (B (noPlB x)) S:=by
 refine ADet.intro mixed Tryz.call85 Tryz.func85 rfl ?_
 unfold noPlB
 cases hs : sEq x.name emS with
 | false=>simp [Tryz.ntmps85,hs,strs]
 | true=>simp [Tryz.ntmps85,hs,strs]
end Go.Proofs.YthohopjnpgbljaaGreatDoor
namespace Go.Proofs.YthohopjnpgbljaaGreatDoor
open Go.RowKit
attribute [local simp] List.replicate List.range List.range.loop resA resOne retA virtL virtO virt_get markL markO markR_get rowA awpI_nil awpI_cons List.forall_mem_cons List.contains_cons List.contains_nil List.find? nextD_eq awpD_nil awpD_cons LCp LCl refL
theorem labelledC (e : Ex) (h1 : e.name.size ≤ 20000) (h2 : e.second.size ≤ 20000) (S : ASt) : ADet Tryz.prog 49 [exV e] S (B (labB e.op e.int e.name e.second)) S:=by
 refine ADet.intro mixed Tryz.call49 Tryz.func49 rfl ?_
 unfold labB
 have g1:=fun S=>nameC1 e.name (sm_max h1) S
 have g2:=fun S=>typeC1 e.name (sm_max h1) S
 have g3:=fun S=>typeC1 e.second (sm_max h2) S
 simp [Tryz.ntmps49]
 refine awp_draw [] (by kernel_rfl) (by kernel_rfl) ?_
 by_cases hop1 : e.op = 1
 ·simp [hop1]
  cases hn : sEq e.name emS <;> cases hs : sEq e.second emS <;> simp [hn,hs]
 by_cases hop2 : e.op = 2
 ·cases h0 : (e.int == 0)
  ·simp [hop2,h0]
   cases hn : sEq e.name emS <;> cases hs : sEq e.second emS <;> simp [hn,hs,h0]
  ·simp [hop2,h0]
   cases hn : sEq e.name emS <;> cases hs : sEq e.second emS <;> simp [hn,hs,h0]
 by_cases hop18 : e.op = 18
 ·simp [hop18]
  refine ⟨_,_,g1 _,?_⟩
  cases hn : nameB e.name <;> cases hs : sEq e.second emS <;> simp [hn,hs]
 by_cases hop19 : e.op = 19
 ·simp [hop19]
  refine ⟨_,_,g2 _,?_⟩
  cases hn : typeB e.name <;> cases hs : sEq e.second emS <;> simp [hn,hs]
 by_cases hop20 : e.op = 20
 ·simp [hop20]
  refine awp_draw [(4,2)] (by kernel_rfl) (by kernel_rfl) ?_
  simp
  refine ⟨_,_,g2 _,?_⟩
  simp
  refine ⟨_,_,g3 _,?_⟩
  simp
  cases hn : typeB e.name <;> cases hs : typeB e.second <;> simp [hn,hs]
 simp [hop1,hop2,hop18,hop19,hop20]
 cases hn : sEq e.name emS <;> cases hs : sEq e.second emS <;> simp [hn,hs]
theorem placedC (e : Ex) (hp : PlSm e.place) (is : Bool) (S : ASt) : ADet Tryz.prog 50 [exV e,B is] S (B (placedB e.op e.place e.args.length is)) S:=by
 refine ADet.intro mixed Tryz.call50 Tryz.func50 rfl ?_
 unfold placedB
 cases is with
 | true =>
  simp [Tryz.ntmps50]
  refine ⟨_,_,wholePlaceC e.place hp _,?_⟩
  simp
 | false =>
  by_cases hop19 : e.op = 19
  ·have hal:=fun S=>all_string nameB e.place.path 6 (by omega) 69 [] [] S (fun s hs L=>nameC1 s (sm_max (hp.2.2 s hs)) _)
   simp only [strs] at hal
   cases hs : sEq e.place.name emS with
   | false=>simp [Tryz.ntmps50,hop19,hs]
   | true =>
    by_cases hl : e.place.path.length = e.args.length
    ·have hl' : ((e.place.path.length : Int) == (e.args.length : Int)) = true:=by simp [hl]
     simp [Tryz.ntmps50,hop19,hs,strs,hl']
     refine ⟨_,_,hal _,?_⟩
     simp [hop19,hs,hl]
    ·have hl' : ((e.place.path.length : Int) == (e.args.length : Int)) = false:=by simp; omega
     simp [Tryz.ntmps50,hop19,hs,strs,hl',hl]
  ·simp [Tryz.ntmps50,hop19]
   refine ⟨_,_,noPlaceC e.place _,?_⟩
   simp [hop19]
def WEC (e : Ex) : Prop:=∀ (d : Int) (S : ASt),-1 ≤ d → d ≤ 1000 → ADet Tryz.prog 27 [exV e,I d] S (B (e.whole d)) S
theorem wholeExpr1C (e x : Ex) (hx : WEC x) (d : Int) (h0 : -1 ≤ d - 1) (h1 : d ≤ 1000) (L0 L : List AObj) (S : ASt) (i j : Nat) (hi : L0[i]? = some (.cells [U e.op,I e.int,Sg e.name,Sg e.second,Sg e.place.name,.p (strs e.place.path),.p (.sl 8 (e.args.map Ex.enc)),I e.pos] 27)) (hj : L0[j]? = some (.cells [I d] 3)) :
  ADet Tryz.prog 52 [exV x,.ptr 1 i 0,.ptr 1 j 0] (L :: L0 :: S) (B (((e.op == 18) || !lentOp x.op) && x.whole (d - 1))) (L :: L0 :: S):=by
 refine ADet.intro mixed Tryz.call52 Tryz.func52 rfl ?_
 have g:=fun S=>hx (d - 1) S (by omega) (by omega)
 by_cases hop : e.op = 18
 ·simp [Tryz.ntmps52,hi,hj,hop,wrd d (by omega)]
  refine ⟨_,_,g _,?_⟩
  simp [hop]
 ·have hop' : (e.op == 18) = false:=by simp [hop]
  simp [Tryz.ntmps52,hi,hj,hop']
  refine ⟨_,_,lentC x _,?_⟩
  cases hl : lentOp x.op with
  | true=>simp [hl,hop']
  | false =>
   simp [hl,hop',hi,hj,wrd d (by omega)]
   refine ⟨_,_,g _,?_⟩
   simp [hl,hop']
theorem wholeExprC : ∀ (e : Ex),ExSm e → WEC e:=by
 refine Ex.ind fun e ih hsm d S hd1 hd2=>?_
 obtain ⟨_,hn,hs2,hpl,hsz,hsm⟩:=hsm
 rw [exWhole_eq]
 unfold exHead
 refine ADet.okA Tryz.call27 0 6 rfl rfl fun hok=>?_
 have hlen:=okl hok
 have hsm6 : shM e.op ≤ 6:=by
  unfold shM
  repeat' split
  all_goals omega
 have hal : ∀ (L0 : List AObj) (i j : Nat),L0[i]? = some (.cells [U e.op,I e.int,Sg e.name,Sg e.second,Sg e.place.name,.p (strs e.place.path),.p (.sl 8 (e.args.map Ex.enc)),I e.pos] 27) → L0[j]? = some (.cells [I d] 3) → 0 < d → ADet Tryz.prog 51 [.p (.sl 8 (e.args.map Ex.enc)),I (shM e.op),.fn (.func 52) [] [.ptr 0 i 0,.ptr 0 j 0]] (L0 :: S) (B (allUp (fun x=>((e.op == 18) || !lentOp x.op) && x.whole (d - 1)) e.args (shM e.op))) (L0 :: S):=fun L0 i j hi hj hd =>
  all_Expr _ e.args (shM e.op) (by omega) _ [] [.ptr 0 i 0,.ptr 0 j 0] _ fun x hx L=>by
   simp only [AV.ups,AV.up,List.nil_append]
   exact wholeExpr1C e x (ih x hx (hsm x hx)) d (by omega) hd2 L0 L S i j hi hj
 refine ADet.intro mixed Tryz.call27 Tryz.func27 rfl ?_
 simp [Tryz.ntmps27]
 refine ⟨_,_,shapeC e.op _,?_⟩
 by_cases h0 : 1 ≤ d
 ·have h0' : ¬ d < 1:=by omega
  cases ho : shO e.op with
  | false=>simp [h0,h0',ho]
  | true =>
   simp [h0,h0',ho]
   refine ⟨_,_,labelledC e hn hs2 _,?_⟩
   cases hl : labB e.op e.int e.name e.second with
   | false=>simp [h0,h0',ho,hl]
   | true =>
    by_cases hsl : shL e.op ≤ e.args.length
    ·have hsl' : ¬ (e.args.length : Int) < shL e.op:=by omega
     simp [h0,h0',ho,hl,hsl,hsl']
     refine ⟨_,_,placedC e hpl (shP e.op) _,?_⟩
     cases hp : placedB e.op e.place e.args.length (shP e.op) with
     | false=>simp [h0,h0',ho,hl,hsl,hsl',hp]
     | true =>
      simp [h0,h0',ho,hl,hsl,hsl',hp]
      refine ⟨_,_,hal _ 0 1 rfl rfl (by omega),?_⟩
      simp [h0,h0',ho,hl,hsl,hsl',hp]
    ·have hsl' : (e.args.length : Int) < shL e.op:=by omega
     simp [h0,h0',ho,hl,hsl,hsl']
 ·have h0' : d < 1:=by omega
  simp [h0,h0']
theorem wholeExpr40 (e : Ex) (h : ExSm e) (S : ASt) : ADet Tryz.prog 14 [exV e] S (B (exWhole1 e)) S:=by
 refine ADet.intro mixed Tryz.call14 Tryz.func14 rfl ?_
 unfold exWhole1
 simp [Tryz.ntmps14]
 refine ⟨_,_,lentC e _,?_⟩
 cases hl : lentOp e.op with
 | true=>simp [hl]
 | false =>
  simp [hl]
  refine ⟨_,_,wholeExprC e h 40 _ (by omega) (by omega),?_⟩
  simp [hl]
end Go.Proofs.YthohopjnpgbljaaGreatDoor
