/- What is whole: statements, the small parts: tree's functions in the logic over abstract values. No statement is proved here. -/
import Derived.Test.YtlnoacoanfhdcaaGreatDoorMWh
namespace Go.Proofs.YtlnoacoanfhdcaaGreatDoor
open Go.RowKit
attribute [local simp] List.replicate List.range List.range.loop resA resOne retA virtL virtO virt_get markL markO markR_get rowA awpI_nil awpI_cons List.forall_mem_cons List.contains_cons List.contains_nil List.find? nextD_eq awpD_nil awpD_cons LCp LCl refL
set_option linter.unusedVariables false
set_option linter.unusedSimpArgs false

set_option maxRecDepth 100000 in
theorem noneC (s : ByteArray) (S : ASt) : ADet Tryz.prog 126 [Sg s] S (B (sEq s emS)) S := by
  refine ADet.intro mixed Tryz.call126 Tryz.func126 rfl ?_
  simp [Tryz.ntmps126]
def fnN (op : Int) : Nat := if op = 1 ∨ op = 5 ∨ op = 8 ∨ op = 11 ∨ op = 12 then 59 else if op = 2 then 58 else 126
def fnS (op : Int) : Nat := if op = 8 then 58 else if op = 12 then 59 else 126
theorem fnNC (op : Int) (s : ByteArray) (h : s.size ≤ 20000) (S : ASt) : ADet Tryz.prog (fnN op) [Sg s] S (B (fmN op s)) S := by
  unfold fnN fmN
  split
  · exact nameC1 s (sm_max h) S
  · split
    · exact typeC1 s (sm_max h) S
    · exact noneC s S
theorem fnSC (op : Int) (s : ByteArray) (h : s.size ≤ 20000) (S : ASt) : ADet Tryz.prog (fnS op) [Sg s] S (B (fmS op s)) S := by
  unfold fnS fmS
  split
  · exact typeC1 s (sm_max h) S
  · split
    · exact nameC1 s (sm_max h) S
    · exact noneC s S
set_option maxRecDepth 100000 in
set_option maxHeartbeats 1000000 in
theorem zeroTyC (t : Ty) (S : ASt) : ADet Tryz.prog 56 [tyV t] S (B (zeroTyB t)) S := by
  refine ADet.intro mixed Tryz.call56 Tryz.func56 rfl ?_
  unfold zeroTyB
  cases hk : (t.kind == 0) with
  | false => simp [Tryz.ntmps56, hk]
  | true =>
    cases hs : sEq t.name emS with
    | false => simp [Tryz.ntmps56, hk, hs]
    | true => simp [Tryz.ntmps56, hk, hs]
set_option maxRecDepth 100000 in
set_option maxHeartbeats 1000000 in
theorem countedC (s : St) (S : ASt) : ADet Tryz.prog 103 [stmV s] S (B (countB s.op s.int)) S := by
  refine ADet.intro mixed Tryz.call103 Tryz.func103 rfl ?_
  unfold countB
  by_cases hop : s.op = 12
  · have t : (s.op == 12) = true := by rw [hop]; rfl
    by_cases h1 : 1 ≤ s.int
    · simp [Tryz.ntmps103, t, hop, h1]
    · simp [Tryz.ntmps103, t, hop, h1]
  · have t : (s.op == 12) = false := by rw [beq_eq_false_iff_ne]; exact hop
    simp [Tryz.ntmps103, t, hop]
/-- what a statement may have -/
def fmV (op : Int) (n : Nat) : List AV := [I (fmNames op), I (fmExprs op n), B (fmTyped op), B (fmPlaced op), B (fmBody op), B (fmElse op), B (fmArms op), B (fmLent op), .fn (.func (fnN op)) [] [], .fn (.func (fnS op)) [] []]
set_option maxRecDepth 100000 in
set_option maxHeartbeats 8000000 in
theorem formOfC (s : St) (S : ASt) : ADet Tryz.prog 102 [stmV s] S (.tup [.agg (fmV s.op s.names.length), B (fmOk s.op)]) S := by
  refine ADet.intro mixed Tryz.call102 Tryz.func102 rfl ?_
  by_cases hop1 : s.op = 1
  · simp [Tryz.ntmps102, hop1, fmV, fmNames, fmExprs, fmTyped, fmPlaced, fmBody, fmElse, fmArms, fmLent, fmOk, fnN, fnS]
  by_cases hop2 : s.op = 2
  · simp [Tryz.ntmps102, hop2, fmV, fmNames, fmExprs, fmTyped, fmPlaced, fmBody, fmElse, fmArms, fmLent, fmOk, fnN, fnS]
  by_cases hop3 : s.op = 3
  · simp [Tryz.ntmps102, hop3, fmV, fmNames, fmExprs, fmTyped, fmPlaced, fmBody, fmElse, fmArms, fmLent, fmOk, fnN, fnS]
  by_cases hop4 : s.op = 4
  · simp [Tryz.ntmps102, hop4, fmV, fmNames, fmExprs, fmTyped, fmPlaced, fmBody, fmElse, fmArms, fmLent, fmOk, fnN, fnS]
  by_cases hop5 : s.op = 5
  · simp [Tryz.ntmps102, hop5, fmV, fmNames, fmExprs, fmTyped, fmPlaced, fmBody, fmElse, fmArms, fmLent, fmOk, fnN, fnS]
  by_cases hop6 : s.op = 6
  · simp [Tryz.ntmps102, hop6, fmV, fmNames, fmExprs, fmTyped, fmPlaced, fmBody, fmElse, fmArms, fmLent, fmOk, fnN, fnS]
  by_cases hop7 : s.op = 7
  · simp [Tryz.ntmps102, hop7, fmV, fmNames, fmExprs, fmTyped, fmPlaced, fmBody, fmElse, fmArms, fmLent, fmOk, fnN, fnS]
  by_cases hop8 : s.op = 8
  · simp [Tryz.ntmps102, hop8, fmV, fmNames, fmExprs, fmTyped, fmPlaced, fmBody, fmElse, fmArms, fmLent, fmOk, fnN, fnS]
  by_cases hop9 : s.op = 9
  · simp [Tryz.ntmps102, hop9, fmV, fmNames, fmExprs, fmTyped, fmPlaced, fmBody, fmElse, fmArms, fmLent, fmOk, fnN, fnS]
  by_cases hop11 : s.op = 11
  · simp [Tryz.ntmps102, hop11, fmV, fmNames, fmExprs, fmTyped, fmPlaced, fmBody, fmElse, fmArms, fmLent, fmOk, fnN, fnS]
  by_cases hop12 : s.op = 12
  · simp [Tryz.ntmps102, hop12, fmV, fmNames, fmExprs, fmTyped, fmPlaced, fmBody, fmElse, fmArms, fmLent, fmOk, fnN, fnS]
  by_cases hop13 : s.op = 13
  · simp [Tryz.ntmps102, hop13, fmV, fmNames, fmExprs, fmTyped, fmPlaced, fmBody, fmElse, fmArms, fmLent, fmOk, fnN, fnS]
  skip
  by_cases hop10 : s.op = 10
  · simp [Tryz.ntmps102, hop10]
    refine awp_draw [(1, 4)] (by kernel_rfl) (by kernel_rfl) ?_
    simp [hop10, fmV, fmNames, fmExprs, fmTyped, fmPlaced, fmBody, fmElse, fmArms, fmLent, fmOk, fnN, fnS, strs]
  have ho : fmOk s.op = false := by
    unfold fmOk
    rw [Bool.and_eq_false_iff, decide_eq_false_iff_not, decide_eq_false_iff_not]
    omega
  simp [Tryz.ntmps102, hop1, hop2, hop3, hop4, hop5, hop6, hop7, hop8, hop9, hop10, hop11, hop12, hop13, fmV, fmNames, fmExprs, fmTyped, fmPlaced, fmBody, fmElse, fmArms, fmLent, ho, fnN, fnS]

def WSC (s : St) : Prop := ∀ (d : Int) (S : ASt), -1 ≤ d → d ≤ 1000 → ADet Tryz.prog 64 [stmV s, I d] S (B (s.whole d)) S
set_option maxRecDepth 100000 in
set_option maxHeartbeats 1000000 in
theorem wholeStmt1C (x : St) (hx : WSC x) (d : Int) (h0 : -1 ≤ d - 1) (h1 : d ≤ 1000) (S : ASt) (n j : Nat) (hj : get2 S n j = some (.cells [I d] 3)) : ADet Tryz.prog 105 [stmV x, .ptr n j 0] S (B (x.whole (d - 1))) S := by
  refine ADet.intro mixed Tryz.call105 Tryz.func105 rfl ?_
  simp [Tryz.ntmps105, hj, wrd d (by omega)]
  refine ⟨_, _, hx (d - 1) _ (by omega) (by omega), ?_⟩
  simp
theorem allStmts (l : List St) (hx : ∀ x ∈ l, WSC x) (hm : l.length ≤ 20000) (d : Int) (h0 : -1 ≤ d - 1) (h1 : d ≤ 1000) (S : ASt) (n j : Nat) (hj : get2 S n j = some (.cells [I d] 3)) :
    ADet Tryz.prog 62 [.p (.sl 15 (l.map St.enc)), I l.length, .fn (.func 105) [] [.ptr n j 0]] S (B (l.all fun x => x.whole (d - 1))) S := by
  have := all_Stmt (fun x => x.whole (d - 1)) l l.length (by omega) 105 [] [.ptr n j 0] S fun x hm L => by
    simp only [AV.ups, AV.up, List.nil_append]
    exact wholeStmt1C x (hx x hm) d h0 h1 (L :: S) (n + 1) j hj
  rw [allUp_all (Int.le_refl _)] at this
  exact this
set_option maxRecDepth 100000 in
set_option maxHeartbeats 1000000 in
theorem wholeStmt2C (op : Int) (k : Nat) (x : Ex) (hx : WEC x) (d : Int) (h0 : -1 ≤ d - 1) (h1 : d ≤ 1000) (S : ASt) (n i j : Nat) (hi : get2 S n i = some (.cells (fmV op k) 148)) (hj : get2 S n j = some (.cells [I d] 3)) :
    ADet Tryz.prog 106 [exV x, .ptr n i 0, .ptr n j 0] S (B ((fmLent op || !lentOp x.op) && x.whole (d - 1))) S := by
  refine ADet.intro mixed Tryz.call106 Tryz.func106 rfl ?_
  have g := fun S => hx (d - 1) S (by omega) (by omega)
  cases hf : fmLent op with
  | true =>
    simp [Tryz.ntmps106, hi, hj, fmV, hf, wrd d (by omega)]
    refine ⟨_, _, g _, ?_⟩
    simp
  | false =>
    simp [Tryz.ntmps106, hi, hj, fmV, hf]
    refine ⟨_, _, lentC x _, ?_⟩
    cases hl : lentOp x.op with
    | true => simp [hl]
    | false =>
      simp [hl, hi, hj, fmV, hf, wrd d (by omega)]
      refine ⟨_, _, g _, ?_⟩
      simp
theorem allExprs (op : Int) (k : Nat) (l : List Ex) (hx : ∀ x ∈ l, WEC x) (d : Int) (h0 : -1 ≤ d - 1) (h1 : d ≤ 1000) (S : ASt) (n i j : Nat) (hi : get2 S n i = some (.cells (fmV op k) 148)) (hj : get2 S n j = some (.cells [I d] 3)) :
    ADet Tryz.prog 100 [.p (.sl 8 (l.map Ex.enc)), I 6, .fn (.func 106) [] [.ptr n i 0, .ptr n j 0]] S (B (exsB op l d)) S :=
  all_Expr (fun x => (fmLent op || !lentOp x.op) && x.whole (d - 1)) l 6 (by omega) 106 [] [.ptr n i 0, .ptr n j 0] S fun x hm L => by
    simp only [AV.ups, AV.up, List.nil_append]
    exact wholeStmt2C op k x (hx x hm) d h0 h1 (L :: S) (n + 1) i j hi hj
set_option maxRecDepth 100000 in
set_option maxHeartbeats 1000000 in
theorem wholeStmt3C (a : Ar) (hv : a.variant.size ≤ 20000) (hn : a.name.size ≤ 20000) (hm : a.body.length ≤ 20000) (hx : ∀ x ∈ a.body, WSC x) (d : Int) (h0 : -1 ≤ d - 1) (h1 : d ≤ 1000) (S : ASt) (n w j : Nat) (hw : get2 S n w = some (.cells [.fn (.func 105) [] [.ptr 0 j 0]] 105)) (hj : get2 S n j = some (.cells [I d] 3)) :
    ADet Tryz.prog 108 [arV a, .ptr n w 0] S (B (a.whole (d - 1))) S := by
  refine ADet.intro mixed Tryz.call108 Tryz.func108 rfl ?_
  unfold Ar.whole
  have g1 := fun S => typeC1 a.variant (sm_max hv) S
  have g2 := fun S => nameC1 a.name (sm_max hn) S
  have g3 := fun L => allStmts a.body hx hm d h0 h1 (L :: S) (n + 1) j hj
  simp [Tryz.ntmps108]
  refine ⟨_, _, g1 _, ?_⟩
  cases ht : typeB a.variant with
  | false => simp [ht]
  | true =>
    cases he : sEq a.name emS with
    | true =>
      simp [ht, he, hw]
      refine ⟨_, _, g3 _, ?_⟩
      simp
    | false =>
      simp [ht, he]
      refine ⟨_, _, g2 _, ?_⟩
      cases hb : nameB a.name with
      | false => simp [hb]
      | true =>
        simp [hb, hw]
        refine ⟨_, _, g3 _, ?_⟩
        simp
theorem allArms (l : List Ar) (hs : ∀ a ∈ l, a.variant.size ≤ 20000 ∧ a.name.size ≤ 20000 ∧ a.body.length ≤ 20000) (hx : ∀ a ∈ l, ∀ x ∈ a.body, WSC x) (d : Int) (h0 : -1 ≤ d - 1) (h1 : d ≤ 1000) (S : ASt) (n w j : Nat) (hw : get2 S n w = some (.cells [.fn (.func 105) [] [.ptr 0 j 0]] 105)) (hj : get2 S n j = some (.cells [I d] 3)) :
    ADet Tryz.prog 107 [.p (.sl 3 (l.map Ar.enc)), I 6, .fn (.func 108) [] [.ptr n w 0]] S (B (allUp (fun a => a.whole (d - 1)) l 6)) S :=
  all_Arm (fun a => a.whole (d - 1)) l 6 (by omega) 108 [] [.ptr n w 0] S fun x hm L => by
    simp only [AV.ups, AV.up, List.nil_append]
    exact wholeStmt3C x (hs x hm).1 (hs x hm).2.1 (hs x hm).2.2 (hx x hm) d h0 h1 (L :: S) (n + 1) w j hw hj
end Go.Proofs.YtlnoacoanfhdcaaGreatDoor
