/- A part of the proof. The statement is proved in the claim's last text. -/
import Derived.Test.YtlclonljdagpkaaGreatDoorQMWp
import Derived.Test.YtlclonljdagpkaaGreatDoorQMLx
set_option linter.unusedVariables false
set_option linter.unusedSimpArgs false
set_option maxRecDepth 100000
set_option maxHeartbeats 32000000
namespace Go.Proofs.YtlclonljdagpkaaGreatDoor
open Go.RowKit
theorem zSq (s : ByteArray) (hs : s.size <= maxLen) (w : World) (h : Tab w) :
  Calls Tryz.prog 103 #[.string s] w fun e w'=>e = .returned (.bool (zAX s)) /\ Below w.heap.size w w':=by
 have Hn:=Lib.hid (zJz zDP 148 #[] s hs Tryz.call148 (fun b w=>zGr b w) w h)
 clear h;unfold zAX
 go_enter Tryz.func103,Tryz.ntmps103
 go_wp2_with (go_at_call 167; refine Hn.out.mono ?_; rintro e w1 ⟨rfl,hb⟩)
 go_ret
 exact ⟨rfl,hb⟩
theorem zK5 : Tryz.prog.globalNamed "strings.asciiSpace" = some 1:=by kernel_rfl
theorem zIt : ((1 : Nat),Lib.asciiSpaceTab.map fun z=>Value.int .u8 z) ∈ zFJ:=by simp [zFJ]
theorem zP2 {Pr : Prot} {φ : Fi2} {s : ByteArray} {xs : Array Value} (h : RL Pr φ [Sg s] xs) : xs = #[.string s]:=zFO (l:=[.string s]) h
theorem zBP (s : ByteArray) (hs : s.size <= maxLen) (S : ASt) : ADet Tryz.prog 103 [Sg s] S (B (zAX s)) S :=
 ADet.of_calls rfl Tryz.call103 fun Pr φ xs w hargs hR=>by
  obtain rfl:=zP2 hargs
  exact zSq s hs w (zP0 hR zK5 zIt)
theorem zCl (s : ByteArray) (hs : s.size <= maxLen) (S : ASt) : ADet Tryz.prog 102 [Sg s] S (B (zBg s)) S :=
 ADet.of_calls rfl Tryz.call102 fun Pr φ xs w hargs hR=>by
  obtain rfl:=zP2 hargs
  exact zSk s hs w (zP0 hR zK5 zIt)
end Go.Proofs.YtlclonljdagpkaaGreatDoor
namespace Go.Proofs.YtlclonljdagpkaaGreatDoor
open Go.RowKit
attribute [local simp] List.replicate List.range List.range.loop resA zR retA zAi zAZ zY zAj zAb zQ rowA zf zT List.forall_mem_cons List.contains_cons List.contains_nil List.find? ze zd zS LCp LCl refL
theorem zAg {n : Nat} (h : n <= 20000) : n <= maxLen:=by unfold maxLen; omega
theorem wrd (d : Int) (h : -1000 <= d /\ d <= 1000) : IntKind.i64.wrap (d - 1) = d - 1:=IntWalk.i64_in _ (by omega)
def WTC (t : Ty) : Prop:=∀ (d : Int) (S : ASt),-1 <= d -> d <= 1000 -> ADet Tryz.prog 100 [tyV t,I d] S (B (t.whole d)) S
theorem zK6 (x : Ty) (hx : WTC x) (d : Int) (h0 : -1 <= d - 1) (h1 : d <= 1000) (L0 L : List AObj) (S : ASt) (j : Nat) (hj : L0[j]? = some (.cells [I d] 3)) : ADet Tryz.prog 164 [tyV x,.ptr 1 j 0] (L :: L0 :: S) (B (x.whole (d - 1))) (L :: L0 :: S):=by
 refine ADet.intro mixed Tryz.call164 Tryz.func164 rfl ?_;simp [Tryz.ntmps164,hj,wrd d (by omega)]
 refine ⟨_,_,hx (d - 1) _ (by omega) (by omega),?_⟩
 simp
theorem zAk : ∀ (t : Ty),TySm t -> WTC t:=by
 refine Ty.ind fun t ih hsm d S hd1 hd2=>?_
 obtain ⟨_,hn,hsz,hsm⟩:=hsm
 have hal : ∀ (L0 : List AObj) (j : Nat),L0[j]? = some (.cells [I d] 3) -> 0 < d -> ADet Tryz.prog 163 [.p (.sl 3 (t.args.map Ty.enc)),I 1,.fn (.func 164) [] [.ptr 0 j 0]] (L0 :: S) (B (z5 (fun x=>x.whole (d - 1)) t.args 1)) (L0 :: S):=fun L0 j hj hd =>
  zSo _ t.args 1 (by omega) _ [] [.ptr 0 j 0] _ fun x hx L=>by
   simp only [AV.ups,AV.up,List.nil_append];exact zK6 x (ih x hx (hsm x hx)) d (by omega) hd2 L0 L S j hj
 have hty:=fun S=>zCl t.name (zAg hn) S
 have hnil : ∀ (p : Ty -> Bool),z5 p [] 1 = true:=fun p=>by simp [z5]
 have hone : ∀ (p : Ty -> Bool),t.args.length = 1 -> z5 p t.args 1 = t.args.all p:=fun p h=>zCi (by omega)
 rw [zSm];refine ADet.intro mixed Tryz.call100 Tryz.func100 rfl ?_
 by_cases hop1 : t.kind = 1
 .by_cases h0 : 0 < d
  .cases hnm : sEq t.name emS
   .simp [Tryz.ntmps100,hop1,hnm]
    refine zA [] (by kernel_rfl) (by kernel_rfl) ?_
    simp [hop1,h0,hnm,zm]
   .by_cases hl : t.args = []
    .simp [Tryz.ntmps100,hop1,hnm]
     refine zA [] (by kernel_rfl) (by kernel_rfl) ?_
     simp [hop1,h0,hnm,hl,zm]
     have hal':=hal
     simp only [hl,List.map_nil] at hal';refine ⟨_,_,hal' _ 1 rfl h0,?_⟩;simp [hop1,h0,hnm,hl,zm,hnil]
    .simp [Tryz.ntmps100,hop1,hnm]
     refine zA [] (by kernel_rfl) (by kernel_rfl) ?_
     simp [hop1,h0,hnm,hl,zm]
  .simp [Tryz.ntmps100,hop1]
   refine zA [] (by kernel_rfl) (by kernel_rfl) ?_
   simp [hop1,h0,zm]
 by_cases hop2 : t.kind = 2
 .by_cases h0 : 0 < d
  .cases hnm : sEq t.name emS
   .simp [Tryz.ntmps100,hop2,hnm]
    refine zA [] (by kernel_rfl) (by kernel_rfl) ?_
    simp [hop2,h0,hnm,zm]
   .by_cases hl : t.args = []
    .simp [Tryz.ntmps100,hop2,hnm]
     refine zA [] (by kernel_rfl) (by kernel_rfl) ?_
     simp [hop2,h0,hnm,hl,zm]
     have hal':=hal
     simp only [hl,List.map_nil] at hal';refine ⟨_,_,hal' _ 1 rfl h0,?_⟩;simp [hop2,h0,hnm,hl,zm,hnil]
    .simp [Tryz.ntmps100,hop2,hnm]
     refine zA [] (by kernel_rfl) (by kernel_rfl) ?_
     simp [hop2,h0,hnm,hl,zm]
  .simp [Tryz.ntmps100,hop2]
   refine zA [] (by kernel_rfl) (by kernel_rfl) ?_
   simp [hop2,h0,zm]
 by_cases hop3 : t.kind = 3
 .by_cases h0 : 0 < d
  .cases hnm : sEq t.name emS
   .simp [Tryz.ntmps100,hop3,hnm]
    refine zA [] (by kernel_rfl) (by kernel_rfl) ?_
    simp [hop3,h0,hnm,zm]
   .by_cases hl : t.args = []
    .simp [Tryz.ntmps100,hop3,hnm]
     refine zA [] (by kernel_rfl) (by kernel_rfl) ?_
     simp [hop3,h0,hnm,hl,zm]
     have hal':=hal
     simp only [hl,List.map_nil] at hal';refine ⟨_,_,hal' _ 1 rfl h0,?_⟩;simp [hop3,h0,hnm,hl,zm,hnil]
    .simp [Tryz.ntmps100,hop3,hnm]
     refine zA [] (by kernel_rfl) (by kernel_rfl) ?_
     simp [hop3,h0,hnm,hl,zm]
  .simp [Tryz.ntmps100,hop3]
   refine zA [] (by kernel_rfl) (by kernel_rfl) ?_
   simp [hop3,h0,zm]
 by_cases hop10 : t.kind = 10
 .by_cases h0 : 0 < d
  .cases hnm : sEq t.name emS
   .simp [Tryz.ntmps100,hop10,hnm]
    refine zA [] (by kernel_rfl) (by kernel_rfl) ?_
    simp [hop10,h0,hnm,zm]
   .by_cases hl : t.args = []
    .simp [Tryz.ntmps100,hop10,hnm]
     refine zA [] (by kernel_rfl) (by kernel_rfl) ?_
     simp [hop10,h0,hnm,hl,zm]
     have hal':=hal
     simp only [hl,List.map_nil] at hal';refine ⟨_,_,hal' _ 1 rfl h0,?_⟩;simp [hop10,h0,hnm,hl,zm,hnil]
    .simp [Tryz.ntmps100,hop10,hnm]
     refine zA [] (by kernel_rfl) (by kernel_rfl) ?_
     simp [hop10,h0,hnm,hl,zm]
  .simp [Tryz.ntmps100,hop10]
   refine zA [] (by kernel_rfl) (by kernel_rfl) ?_
   simp [hop10,h0,zm]
 skip
 by_cases hop4 : t.kind = 4
 .simp [Tryz.ntmps100,hop4]
  refine zA [] (by kernel_rfl) (by kernel_rfl) ?_
  simp [hop4,zm];refine ⟨_,_,hty _,?_⟩
  by_cases h0 : 0 < d
  .cases hnm : zBg t.name
   .simp [hop4,h0,hnm]
   .by_cases hl : t.args = []
    .simp [hop4,h0,hnm,hl]
     have hal':=hal
     simp only [hl,List.map_nil] at hal';refine ⟨_,_,hal' _ 1 rfl h0,?_⟩;simp [hop4,h0,hnm,hl,hnil]
    .simp [hop4,h0,hnm,hl]
  .simp [hop4,h0]
 have hpl : zm t.kind = false:=by simp [zm]; omega
 by_cases h0 : 0 < d
 .by_cases h1 : 1 <= t.kind
  .by_cases h2 : t.kind <= 14
   .cases hnm : sEq t.name emS
    .skip
     simp [Tryz.ntmps100,hop1,hop2,hop3,hop4,hop10,hpl];refine zA [] (by kernel_rfl) (by kernel_rfl) ?_
     simp [hop1,hop2,hop3,hop4,hop10,hpl,h0,h1,h2,hnm]
    .by_cases hl : t.args.length = 1
     .skip
      simp [Tryz.ntmps100,hop1,hop2,hop3,hop4,hop10,hpl];refine zA [] (by kernel_rfl) (by kernel_rfl) ?_
      simp [hop1,hop2,hop3,hop4,hop10,hpl,h0,h1,h2,hnm,hl];refine ⟨_,_,hal _ 1 rfl h0,?_⟩;simp [hop1,hop2,hop3,hop4,hop10,hpl,h0,h1,h2,hnm,hl,hone]
     .skip
      simp [Tryz.ntmps100,hop1,hop2,hop3,hop4,hop10,hpl];refine zA [] (by kernel_rfl) (by kernel_rfl) ?_
      simp [hop1,hop2,hop3,hop4,hop10,hpl,h0,h1,h2,hnm,hl]
   .skip
    simp [Tryz.ntmps100,hop1,hop2,hop3,hop4,hop10,hpl];refine zA [] (by kernel_rfl) (by kernel_rfl) ?_
    simp [hop1,hop2,hop3,hop4,hop10,hpl,h0,h1,h2]
  .skip
   simp [Tryz.ntmps100,hop1,hop2,hop3,hop4,hop10,hpl];refine zA [] (by kernel_rfl) (by kernel_rfl) ?_
   simp [hop1,hop2,hop3,hop4,hop10,hpl,h0,h1]
 .skip
  simp [Tryz.ntmps100,hop1,hop2,hop3,hop4,hop10,hpl];refine zA [] (by kernel_rfl) (by kernel_rfl) ?_
  simp [hop1,hop2,hop3,hop4,hop10,hpl,h0]
end Go.Proofs.YtlclonljdagpkaaGreatDoor
namespace Go.Proofs.YtlclonljdagpkaaGreatDoor
open Go.RowKit
attribute [local simp] List.replicate List.range List.range.loop resA zR retA
theorem zXt (s : ByteArray) (h : s.size <= 20000) (S : ASt) : ADet Tryz.prog 217 [Sg s] S (B (zSn s)) S:=by
 refine ADet.intro mixed Tryz.call217 Tryz.func217 rfl ?_;unfold zSn
 cases hs : sEq s zXq with
 | true=>simp [Tryz.ntmps217,hs]
 | false =>
  simp [Tryz.ntmps217,hs];refine ⟨_,_,zBP s (zAg h) _,?_⟩;simp [hs]
theorem zBE (x : Pl) (h : PlSm x) (S : ASt) : ADet Tryz.prog 176 [plV x] S (B x.whole) S:=by
 refine ADet.intro mixed Tryz.call176 Tryz.func176 rfl ?_;unfold Pl.whole;simp [Tryz.ntmps176];refine ⟨_,_,zBP x.name (zAg h.1) _,?_⟩
 cases hs : zAX x.name with
 | false=>simp [hs]
 | true =>
  simp [hs];refine ⟨_,_,zBI zSn x.path 40 (by omega) 217 [] [] _ (fun s hs L=>zXt s (h.2.2 s hs) _),?_⟩
  simp [hs]
theorem zNT (e : Ex) (S : ASt) : ADet Tryz.prog 104 [exV e] S (B (zA6 e.op)) S:=by
 refine ADet.intro mixed Tryz.call104 Tryz.func104 rfl ?_;unfold zA6
 by_cases h5 : e.op = 5
 .simp [Tryz.ntmps104,h5]
 .have : (e.op == 5) = false:=by simp [h5]
  simp [Tryz.ntmps104,this]
theorem zXu (op : Int) (S : ASt) : ADet Tryz.prog 168 [U op] S (.tup [.agg [B (shP op),I (shL op),I (shM op)],B (shO op)]) S:=by
 refine ADet.intro mixed Tryz.call168 Tryz.func168 rfl ?_
 by_cases hop1 : op = 1
 .simp [Tryz.ntmps168,hop1,shP,shL,shM,shO]
 by_cases hop2 : op = 2
 .simp [Tryz.ntmps168,hop2,shP,shL,shM,shO]
 by_cases hop3 : op = 3
 .simp [Tryz.ntmps168,hop3,shP,shL,shM,shO]
 by_cases hop4 : op = 4
 .simp [Tryz.ntmps168,hop4,shP,shL,shM,shO]
 by_cases hop5 : op = 5
 .simp [Tryz.ntmps168,hop5,shP,shL,shM,shO]
 by_cases hop6 : op = 6
 .simp [Tryz.ntmps168,hop6,shP,shL,shM,shO]
 by_cases hop9 : op = 9
 .simp [Tryz.ntmps168,hop9,shP,shL,shM,shO]
 by_cases hop10 : op = 10
 .simp [Tryz.ntmps168,hop10,shP,shL,shM,shO]
 by_cases hop11 : op = 11
 .simp [Tryz.ntmps168,hop11,shP,shL,shM,shO]
 by_cases hop12 : op = 12
 .simp [Tryz.ntmps168,hop12,shP,shL,shM,shO]
 by_cases hop13 : op = 13
 .simp [Tryz.ntmps168,hop13,shP,shL,shM,shO]
 by_cases hop14 : op = 14
 .simp [Tryz.ntmps168,hop14,shP,shL,shM,shO]
 by_cases hop15 : op = 15
 .simp [Tryz.ntmps168,hop15,shP,shL,shM,shO]
 by_cases hop16 : op = 16
 .simp [Tryz.ntmps168,hop16,shP,shL,shM,shO]
 by_cases hop17 : op = 17
 .simp [Tryz.ntmps168,hop17,shP,shL,shM,shO]
 by_cases hop18 : op = 18
 .simp [Tryz.ntmps168,hop18,shP,shL,shM,shO]
 by_cases hop19 : op = 19
 .simp [Tryz.ntmps168,hop19,shP,shL,shM,shO]
 by_cases hop20 : op = 20
 .simp [Tryz.ntmps168,hop20,shP,shL,shM,shO]
 by_cases hop24 : op = 24
 .simp [Tryz.ntmps168,hop24,shP,shL,shM,shO]
 by_cases hop25 : op = 25
 .simp [Tryz.ntmps168,hop25,shP,shL,shM,shO]
 by_cases hop28 : op = 28
 .simp [Tryz.ntmps168,hop28,shP,shL,shM,shO]
 by_cases hop32 : op = 32
 .simp [Tryz.ntmps168,hop32,shP,shL,shM,shO]
 by_cases hop33 : op = 33
 .simp [Tryz.ntmps168,hop33,shP,shL,shM,shO]
 by_cases hop34 : op = 34
 .simp [Tryz.ntmps168,hop34,shP,shL,shM,shO]
 by_cases hop35 : op = 35
 .simp [Tryz.ntmps168,hop35,shP,shL,shM,shO]
 by_cases hop36 : op = 36
 .simp [Tryz.ntmps168,hop36,shP,shL,shM,shO]
 have hm : ¬ (9 <= op /\ op <= 17):=by omega
 by_cases h1 : 1 <= op
 .simp [Tryz.ntmps168,hop1,hop2,hop3,hop4,hop5,hop6,hop9,hop10,hop11,hop12,hop13,hop14,hop15,hop16,hop17,hop18,hop19,hop20,hop24,hop25,hop28,hop32,hop33,hop34,hop35,hop36,shP,shL,shM,shO,hm,h1]
 .simp [Tryz.ntmps168,hop1,hop2,hop3,hop4,hop5,hop6,hop9,hop10,hop11,hop12,hop13,hop14,hop15,hop16,hop17,hop18,hop19,hop20,hop24,hop25,hop28,hop32,hop33,hop34,hop35,hop36,shP,shL,shM,shO,hm,h1]
theorem zCS (x : Pl) (S : ASt) : ADet Tryz.prog 177 [plV x] S (B (zFN x)) S:=by
 refine ADet.intro mixed Tryz.call177 Tryz.func177 rfl ?_;unfold zFN
 cases hs : sEq x.name emS with
 | false=>simp [Tryz.ntmps177,hs,strs]
 | true=>simp [Tryz.ntmps177,hs,strs]
end Go.Proofs.YtlclonljdagpkaaGreatDoor
namespace Go.Proofs.YtlclonljdagpkaaGreatDoor
open Go.RowKit
attribute [local simp] List.replicate List.range List.range.loop resA zR retA zAi zAZ zY zAj zAb zQ rowA zf zT List.forall_mem_cons List.contains_cons List.contains_nil List.find? ze zd zS LCp LCl refL
theorem zP3 (e : Ex) (h1 : e.name.size <= 20000) (h2 : e.second.size <= 20000) (S : ASt) : ADet Tryz.prog 169 [exV e] S (B (labB e.op e.int e.name e.second)) S:=by
 refine ADet.intro mixed Tryz.call169 Tryz.func169 rfl ?_;unfold labB
 have g1:=fun S=>zBP e.name (zAg h1) S
 have g2:=fun S=>zCl e.name (zAg h1) S
 have g3:=fun S=>zCl e.second (zAg h2) S
 simp [Tryz.ntmps169];refine zA [] (by kernel_rfl) (by kernel_rfl) ?_
 by_cases hop1 : e.op = 1
 .simp [hop1]
  cases hn : sEq e.name emS <;> cases hs : sEq e.second emS <;> simp [hn,hs]
 by_cases hop2 : e.op = 2
 .cases h0 : (e.int == 0)
  .simp [hop2,h0]
   cases hn : sEq e.name emS <;> cases hs : sEq e.second emS <;> simp [hn,hs,h0]
  .simp [hop2,h0]
   cases hn : sEq e.name emS <;> cases hs : sEq e.second emS <;> simp [hn,hs,h0]
 by_cases hop18 : e.op = 18
 .simp [hop18]
  refine ⟨_,_,g1 _,?_⟩;cases hn : zAX e.name <;> cases hs : sEq e.second emS <;> simp [hn,hs]
 by_cases hop19 : e.op = 19
 .simp [hop19]
  refine ⟨_,_,g2 _,?_⟩;cases hn : zBg e.name <;> cases hs : sEq e.second emS <;> simp [hn,hs]
 by_cases hop20 : e.op = 20
 .simp [hop20]
  refine zA [(4,2)] (by kernel_rfl) (by kernel_rfl) ?_
  simp;refine ⟨_,_,g2 _,?_⟩;simp;refine ⟨_,_,g3 _,?_⟩;simp;cases hn : zBg e.name <;> cases hs : zBg e.second <;> simp [hn,hs]
 simp [hop1,hop2,hop18,hop19,hop20];cases hn : sEq e.name emS <;> cases hs : sEq e.second emS <;> simp [hn,hs]
theorem zVe (e : Ex) (hp : PlSm e.place) (is : Bool) (S : ASt) : ADet Tryz.prog 170 [exV e,B is] S (B (zDl e.op e.place e.args.length is)) S:=by
 refine ADet.intro mixed Tryz.call170 Tryz.func170 rfl ?_;unfold zDl
 cases is with
 | true =>
  simp [Tryz.ntmps170];refine ⟨_,_,zBE e.place hp _,?_⟩
  simp
 | false =>
  by_cases hop19 : e.op = 19
  .have hal:=fun S=>zBI zAX e.place.path 6 (by omega) 103 [] [] S (fun s hs L=>zBP s (zAg (hp.2.2 s hs)) _)
   simp only [strs] at hal
   cases hs : sEq e.place.name emS with
   | false=>simp [Tryz.ntmps170,hop19,hs]
   | true =>
    by_cases hl : e.place.path.length = e.args.length
    .have hl' : ((e.place.path.length : Int) == (e.args.length : Int)) = true:=by simp [hl]
     simp [Tryz.ntmps170,hop19,hs,strs,hl'];refine ⟨_,_,hal _,?_⟩;simp [hop19,hs,hl]
    .have hl' : ((e.place.path.length : Int) == (e.args.length : Int)) = false:=by simp; omega
     simp [Tryz.ntmps170,hop19,hs,strs,hl',hl]
  .simp [Tryz.ntmps170,hop19]
   refine ⟨_,_,zCS e.place _,?_⟩;simp [hop19]
def WEC (e : Ex) : Prop:=∀ (d : Int) (S : ASt),-1 <= d -> d <= 1000 -> ADet Tryz.prog 105 [exV e,I d] S (B (e.whole d)) S
theorem zK7 (e x : Ex) (hx : WEC x) (d : Int) (h0 : -1 <= d - 1) (h1 : d <= 1000) (L0 L : List AObj) (S : ASt) (i j : Nat) (hi : L0[i]? = some (.cells [U e.op,I e.int,Sg e.name,Sg e.second,Sg e.place.name,.p (strs e.place.path),.p (.sl 8 (e.args.map Ex.enc)),I e.pos] 40)) (hj : L0[j]? = some (.cells [I d] 3)) :
  ADet Tryz.prog 172 [exV x,.ptr 1 i 0,.ptr 1 j 0] (L :: L0 :: S) (B (((e.op == 18) || !zA6 x.op) && x.whole (d - 1))) (L :: L0 :: S):=by
 refine ADet.intro mixed Tryz.call172 Tryz.func172 rfl ?_
 have g:=fun S=>hx (d - 1) S (by omega) (by omega)
 by_cases hop : e.op = 18
 .simp [Tryz.ntmps172,hi,hj,hop,wrd d (by omega)]
  refine ⟨_,_,g _,?_⟩;simp [hop]
 .have hop' : (e.op == 18) = false:=by simp [hop]
  simp [Tryz.ntmps172,hi,hj,hop'];refine ⟨_,_,zNT x _,?_⟩
  cases hl : zA6 x.op with
  | true=>simp [hl,hop']
  | false =>
   simp [hl,hop',hi,hj,wrd d (by omega)]
   refine ⟨_,_,g _,?_⟩;simp [hl,hop']
theorem zAx : ∀ (e : Ex),ExSm e -> WEC e:=by
 refine Ex.ind fun e ih hsm d S hd1 hd2=>?_
 obtain ⟨_,hn,hs2,hpl,hsz,hsm⟩:=hsm
 rw [zCj];unfold zH4;refine ADet.okA Tryz.call105 0 6 rfl rfl fun hok=>?_
 have hlen:=okl hok
 have hsm6 : shM e.op <= 6:=by
  unfold shM
  repeat' split
  all_goals omega
 have hal : ∀ (L0 : List AObj) (i j : Nat),L0[i]? = some (.cells [U e.op,I e.int,Sg e.name,Sg e.second,Sg e.place.name,.p (strs e.place.path),.p (.sl 8 (e.args.map Ex.enc)),I e.pos] 40) -> L0[j]? = some (.cells [I d] 3) -> 0 < d -> ADet Tryz.prog 171 [.p (.sl 8 (e.args.map Ex.enc)),I (shM e.op),.fn (.func 172) [] [.ptr 0 i 0,.ptr 0 j 0]] (L0 :: S) (B (z5 (fun x=>((e.op == 18) || !zA6 x.op) && x.whole (d - 1)) e.args (shM e.op))) (L0 :: S):=fun L0 i j hi hj hd =>
  zML _ e.args (shM e.op) (by omega) _ [] [.ptr 0 i 0,.ptr 0 j 0] _ fun x hx L=>by
   simp only [AV.ups,AV.up,List.nil_append];exact zK7 e x (ih x hx (hsm x hx)) d (by omega) hd2 L0 L S i j hi hj
 refine ADet.intro mixed Tryz.call105 Tryz.func105 rfl ?_;simp [Tryz.ntmps105];refine ⟨_,_,zXu e.op _,?_⟩
 by_cases h0 : 1 <= d
 .have h0' : ¬ d < 1:=by omega
  cases ho : shO e.op with
  | false=>simp [h0,h0',ho]
  | true =>
   simp [h0,h0',ho];refine ⟨_,_,zP3 e hn hs2 _,?_⟩
   cases hl : labB e.op e.int e.name e.second with
   | false=>simp [h0,h0',ho,hl]
   | true =>
    by_cases hsl : shL e.op <= e.args.length
    .have hsl' : ¬ (e.args.length : Int) < shL e.op:=by omega
     simp [h0,h0',ho,hl,hsl,hsl'];refine ⟨_,_,zVe e hpl (shP e.op) _,?_⟩
     cases hp : zDl e.op e.place e.args.length (shP e.op) with
     | false=>simp [h0,h0',ho,hl,hsl,hsl',hp]
     | true =>
      simp [h0,h0',ho,hl,hsl,hsl',hp];refine ⟨_,_,hal _ 0 1 rfl rfl (by omega),?_⟩
      simp [h0,h0',ho,hl,hsl,hsl',hp]
    .have hsl' : (e.args.length : Int) < shL e.op:=by omega
     simp [h0,h0',ho,hl,hsl,hsl']
 .have h0' : d < 1:=by omega
  simp [h0,h0']
end Go.Proofs.YtlclonljdagpkaaGreatDoor
