/- 2 texts of this proof, one behind the other: CAw4 CAw5. The statement is proved in the claim's last text. -/
import Derived.Test.YtlnoacoanfhdcaaGreatDoorMLt
import Derived.Test.YtlnoacoanfhdcaaGreatDoorMSi
import Derived.Test.YtlnoacoanfhdcaaGreatDoorMSp
namespace Go.Proofs.YtlnoacoanfhdcaaGreatDoor
open Go.RowKit
attribute [local simp] List.replicate List.range List.range.loop resA resOne retA
set_option linter.unusedVariables false
set_option linter.unusedSimpArgs false

/-! ### Expressions that are put together -/
def useE (s : ByteArray) : Ex := .mk 4 0 emS emS ⟨s, []⟩ [] 0
def twoE (op : Int) (a b : Ex) : Ex := .mk op 0 emS emS ⟨emS, []⟩ [a, b] 0
def oneE (op : Int) (a : Ex) : Ex := .mk op 0 emS emS ⟨emS, []⟩ [a] 0
def intE (n : Int) : Ex := .mk 1 n emS emS ⟨emS, []⟩ [] 0
set_option maxRecDepth 100000 in
theorem useC (s : ByteArray) (S : ASt) : ADet Tryz.prog 10 [Sg s] S (.agg [U 4, I 0, Sg emS, Sg emS, Sg s, nilS, nilS, I 0]) S := by
  refine ADet.intro mixed Tryz.call10 Tryz.func10 rfl ?_
  simp [Tryz.ntmps10]
set_option maxRecDepth 100000 in
set_option maxHeartbeats 1000000 in
theorem twoC (op : Int) (a0 a1 a2 a3 a4 a5 a6 a7 b0 b1 b2 b3 b4 b5 b6 b7 : PV) (S : ASt) : ADet Tryz.prog 12 [U op, .agg [.p a0, .p a1, .p a2, .p a3, .p a4, .p a5, .p a6, .p a7], .agg [.p b0, .p b1, .p b2, .p b3, .p b4, .p b5, .p b6, .p b7]] S
    (.agg [U op, I 0, Sg emS, Sg emS, Sg emS, nilS, .p (.sl 8 [[a0, a1, a2, a3, a4, a5, a6, a7], [b0, b1, b2, b3, b4, b5, b6, b7]]), I 0]) S := by
  refine ADet.intro mixed Tryz.call12 Tryz.func12 rfl ?_
  simp [Tryz.ntmps12]

/-! ### The examples -/
def exOkB (e : Ex) : Bool := decide (0 ≤ e.room 20000)
/-- a small expression's text -/
theorem exLit {args : List AV} (e : Ex) (t : ByteArray) (hle : LeAs args [exV e]) (hr : ExRg e) (hroom : 0 ≤ e.room 20000) (ht : (if exWhole1 e then textOf e.tk else emS) = t) (S : ASt) : ADet Tryz.prog 11 args S (Sg t) S := by
  subst ht
  have hes : ExSm e := ex_sm e 20000 (by omega) (by omega) hroom
  have hel : tl e.tk ≤ 1000000 := by have := ex_tl e hr 20000 hroom; omega
  exact ADet.sub hle (showExprC e hes hr (by omega) S)
end Go.Proofs.YtlnoacoanfhdcaaGreatDoor

namespace Go.Proofs.YtlnoacoanfhdcaaGreatDoor
open Go.RowKit
attribute [local simp] List.replicate List.range List.range.loop resA resOne retA virtL virtO virt_get markL markO markR_get rowA awpI_nil awpI_cons List.forall_mem_cons List.contains_cons List.contains_nil List.find? nextD_eq awpD_nil awpD_cons LCp LCl refL
set_option linter.unusedVariables false
set_option linter.unusedSimpArgs false

def smallP : List It := [⟨3, (⟨#[109, 97, 105, 110]⟩ : ByteArray), [], .mk 1 emS [], [], intE 0, 0⟩]
def negE : Ex := oneE 7 (oneE 7 (intE 1))
def subE1 : Ex := twoE 10 (useE (⟨#[97]⟩ : ByteArray)) (twoE 10 (useE (⟨#[98]⟩ : ByteArray)) (intE 1))
def subE2 : Ex := twoE 10 (twoE 10 (useE (⟨#[97]⟩ : ByteArray)) (useE (⟨#[98]⟩ : ByteArray))) (intE 1)
def eqE : Ex := twoE 15 (oneE 8 (useE (⟨#[97]⟩ : ByteArray))) (useE (⟨#[98]⟩ : ByteArray))
def lentT : Ty := .mk 5 emS [.mk 14 emS [.mk 1 emS []]]
def wayP : Pl := ⟨(⟨#[120]⟩ : ByteArray), [(⟨#[97]⟩ : ByteArray), (⟨#[42]⟩ : ByteArray)]⟩
def zeroE : Ex := .mk 0 0 emS emS ⟨emS, []⟩ [] 0
theorem aw_small : (if prWhole smallP then progB smallP else emS) = (⟨#[102, 110, 32, 109, 97, 105, 110, 32, 40, 32, 41, 32, 45, 62, 32, 105, 110, 116, 32, 123, 32, 48, 32, 125, 10]⟩ : ByteArray) := by kernel_rfl
theorem aw_neg : (if exWhole1 negE then textOf negE.tk else emS) = (⟨#[45, 32, 45, 32, 49]⟩ : ByteArray) := by kernel_rfl
theorem aw_sub1 : (if exWhole1 subE1 then textOf subE1.tk else emS) = (⟨#[97, 32, 45, 32, 40, 32, 98, 32, 45, 32, 49, 32, 41]⟩ : ByteArray) := by kernel_rfl
theorem aw_sub2 : (if exWhole1 subE2 then textOf subE2.tk else emS) = (⟨#[97, 32, 45, 32, 98, 32, 45, 32, 49]⟩ : ByteArray) := by kernel_rfl
theorem aw_eq : (if exWhole1 eqE then textOf eqE.tk else emS) = (⟨#[40, 32, 110, 111, 116, 32, 97, 32, 41, 32, 61, 61, 32, 98]⟩ : ByteArray) := by kernel_rfl
theorem aw_lent : (if lentT.whole 40 then textOf lentT.tk else emS) = (⟨#[66, 111, 120, 32, 60, 32, 38, 32, 109, 117, 116, 32, 105, 110, 116, 32, 62]⟩ : ByteArray) := by kernel_rfl
theorem aw_way : (if wayP.whole then textOf wayP.tk else emS) = (⟨#[120, 32, 46, 32, 97, 32, 46, 32, 42]⟩ : ByteArray) := by kernel_rfl
theorem aw_zero : (if exWhole1 zeroE then textOf zeroE.tk else emS) = emS := by kernel_rfl

theorem exRgB {e : Ex} (h : ∀ x ∈ e.args, ExRg x) (h1 : -9223372036854775808 ≤ e.int) (h2 : e.int ≤ 9223372036854775807) : ExRg e := (exRg_iff e).2 ⟨⟨h1, h2⟩, h⟩
theorem rgUse (s : ByteArray) : ExRg (useE s) := exRgB (by simp [useE, Ex.args]) (by simp [useE, Ex.int]) (by simp [useE, Ex.int])
theorem rgInt {n : Int} (h1 : -9223372036854775808 ≤ n) (h2 : n ≤ 9223372036854775807) : ExRg (intE n) := exRgB (by simp [intE, Ex.args]) h1 h2
theorem rgTwo {op : Int} {a b : Ex} (ha : ExRg a) (hb : ExRg b) : ExRg (twoE op a b) := exRgB (by simp only [twoE, Ex.args, List.mem_cons, List.not_mem_nil, or_false]; rintro x (rfl | rfl) <;> assumption) (by simp [twoE, Ex.int]) (by simp [twoE, Ex.int])
theorem rgOne {op : Int} {a : Ex} (ha : ExRg a) : ExRg (oneE op a) := exRgB (by simp only [oneE, Ex.args, List.mem_cons, List.not_mem_nil, or_false]; rintro x rfl; assumption) (by simp [oneE, Ex.int]) (by simp [oneE, Ex.int])
theorem room_neg : 0 ≤ negE.room 20000 := by decide +kernel
theorem room_sub1 : 0 ≤ subE1.room 20000 := by decide +kernel
theorem room_sub2 : 0 ≤ subE2.room 20000 := by decide +kernel
theorem room_eqE : 0 ≤ eqE.room 20000 := by decide +kernel
theorem room_zero : 0 ≤ zeroE.room 20000 := by decide +kernel
theorem room_lent : 0 ≤ lentT.room 20000 := by decide +kernel
theorem room_way : 0 ≤ wayP.room 20000 := by decide +kernel
theorem great_small : great smallP = false := by decide +kernel
theorem tyLit {args : List AV} (t : Ty) (s : ByteArray) (hle : LeAs args [tyV t]) (hroom : 0 ≤ t.room 20000) (ht : (if t.whole 40 then textOf t.tk else emS) = s) (S : ASt) : ADet Tryz.prog 13 args S (Sg s) S := by
  subst ht
  have hl : tl t.tk ≤ 1000000 := by have := ty_tl t 20000 hroom; omega
  exact ADet.sub hle (showTypeC t (ty_sm t 20000 (by omega) (by omega) hroom) (by omega) S)
theorem plLit {args : List AV} (x : Pl) (s : ByteArray) (hle : LeAs args [plV x]) (hroom : 0 ≤ x.room 20000) (ht : (if x.whole then textOf x.tk else emS) = s) (S : ASt) : ADet Tryz.prog 14 args S (Sg s) S := by
  subst ht
  have hl : tl x.tk ≤ 1000000 := by have := (pl_tl hroom).1; omega
  exact ADet.sub hle (showPlaceC x (pl_sm (by omega) hroom) (by omega) S)
theorem prLit {args : List AV} (p : List It) (s : ByteArray) (hle : LeAs args [.agg [.p (prog p)]]) (hr : ∀ x ∈ p, ItRg x) (hg : great p = false) (ht : (if prWhole p then progB p else emS) = s) (S : ASt) : ADet Tryz.prog 6 args S (Sg s) S := by
  subst ht
  have hl := (pr_tls hr hg).2
  exact ADet.sub hle (showProgramC p (pr_sm hg) hr (by omega) S)
theorem rg_small : ∀ x ∈ smallP, ItRg x := by
  simp only [smallP, List.mem_cons, List.not_mem_nil, or_false]
  rintro x rfl
  exact ⟨rgInt (by decide) (by decide), by simp⟩
set_option maxRecDepth 100000 in
set_option maxHeartbeats 8000000 in
theorem awakeC (S : ASt) : ADet Tryz.prog 4 [] S (B true) S := by
  refine ADet.intro mixed Tryz.call4 Tryz.func4 rfl ?_
  simp [Tryz.ntmps4]
  refine ⟨_, _, useC _ _, ?_⟩
  simp
  refine awp_draw [(6, 4), (6, 5), (16, 13), (16, 14), (16, 15), (27, 28)] (by kernel_rfl) (by kernel_rfl) ?_
  simp (maxSteps := 10000000) 
  refine ⟨_, _, prLit smallP _ (by repeat' constructor) rg_small great_small aw_small _, ?_⟩
  simp (maxSteps := 10000000) 
  refine ⟨_, _, useC _ _, ?_⟩
  simp (maxSteps := 10000000) 
  refine ⟨_, _, useC _ _, ?_⟩
  simp (maxSteps := 10000000) 
  refine ⟨_, _, twoC _ _ _ _ _ _ _ _ _ _ _ _ _ _ _ _ _ _, ?_⟩
  simp (maxSteps := 10000000) 
  refine ⟨_, _, twoC _ _ _ _ _ _ _ _ _ _ _ _ _ _ _ _ _ _, ?_⟩
  simp (maxSteps := 10000000) 
  refine ⟨_, _, exLit subE1 _ (by repeat' constructor) (rgTwo (rgUse _) (rgTwo (rgUse _) (rgInt (by decide) (by decide)))) room_sub1 aw_sub1 _, ?_⟩
  simp (maxSteps := 10000000) 
  refine ⟨_, _, useC _ _, ?_⟩
  simp (maxSteps := 10000000) 
  refine ⟨_, _, useC _ _, ?_⟩
  simp (maxSteps := 10000000) 
  refine ⟨_, _, twoC _ _ _ _ _ _ _ _ _ _ _ _ _ _ _ _ _ _, ?_⟩
  simp (maxSteps := 10000000) 
  refine ⟨_, _, twoC _ _ _ _ _ _ _ _ _ _ _ _ _ _ _ _ _ _, ?_⟩
  simp (maxSteps := 10000000) 
  refine ⟨_, _, exLit subE2 _ (by repeat' constructor) (rgTwo (rgTwo (rgUse _) (rgUse _)) (rgInt (by decide) (by decide))) room_sub2 aw_sub2 _, ?_⟩
  simp (maxSteps := 10000000) 
  refine ⟨_, _, exLit negE _ (by repeat' constructor) (rgOne (rgOne (rgInt (by decide) (by decide)))) room_neg aw_neg _, ?_⟩
  simp (maxSteps := 10000000) 
  refine ⟨_, _, useC _ _, ?_⟩
  simp (maxSteps := 10000000) 
  refine ⟨_, _, ADet.sub (.cons (.refl _) (.cons (.agg (.cons (.refl _) (.cons (.refl _) (.cons (.refl _) (.cons (.refl _) (.cons (.refl _) (.cons (.refl _) (.cons (.osl (.refl _)) (.refl _))))))))) (.refl _))) (twoC _ _ _ _ _ _ _ _ _ _ _ _ _ _ _ _ _ _), ?_⟩
  simp (maxSteps := 10000000) 
  refine ⟨_, _, exLit eqE _ (by repeat' constructor) (rgTwo (rgOne (rgUse _)) (rgUse _)) room_eqE aw_eq _, ?_⟩
  simp (maxSteps := 10000000) 
  refine ⟨_, _, tyLit lentT _ (by repeat' constructor) room_lent aw_lent _, ?_⟩
  simp (maxSteps := 10000000) 
  refine ⟨_, _, plLit wayP _ (by repeat' constructor) room_way aw_way _, ?_⟩
  simp (maxSteps := 10000000) 
  refine ⟨_, _, exLit zeroE _ (by repeat' constructor) (exRgB (by simp [zeroE, Ex.args]) (by decide) (by decide)) room_zero aw_zero _, ?_⟩
  simp (maxSteps := 10000000) 
end Go.Proofs.YtlnoacoanfhdcaaGreatDoor
