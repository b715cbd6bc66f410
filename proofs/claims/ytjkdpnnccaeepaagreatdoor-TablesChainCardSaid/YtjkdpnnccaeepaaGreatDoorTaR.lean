/- weftwaylaw07.TablesChain in the logic over abstract values. Its row is in a text of its own. -/
import Derived.Test.YtjkdpnnccaeepaaGreatDoorMTl
import Derived.Test.YtjkdpnnccaeepaaGreatDoorTaT1
import Derived.Test.YtjkdpnnccaeepaaGreatDoorAlLf
namespace Go.Proofs.YtjkdpnnccaeepaaGreatDoor
open Go.RowKit
attribute [local simp] List.replicate List.range List.range.loop resA resOne retA AV.cuts AV.cut AObj.cut trim wkR wkT wkL wkN wkNR wkNL wkM wkMR wkML
set_option linter.unusedVariables false
set_option linter.unusedSimpArgs false
theorem atoms_mapQ (l : List Value) : atomsAV (l.map fun v => .p (.v v)) = some l := by
  induction l with
  | nil => rfl
  | cons v l ih => simp [atomsAV, atomAV, ih]
theorem genP_aggQ {T : TypeId} {o : Oper} {fr : List AV} {x y : Operand} {k : TypeId} (cx cy : List Value) (b : Bool) (ho : o.op = .binOp .neq T x y k) (hx : evA fr x = .agg (cx.map fun v => .p (.v v))) (hy : evA fr y = .agg (cy.map fun v => .p (.v v)))
    (hrun : pureRun Tryz.prog (do eqGuard .neq T x y (.agg cx.toArray) (.agg cy.toArray); binOp .neq T (.agg cx.toArray) (.agg cy.toArray) : Sem Value) = some (.bool b)) : genP Tryz.prog o fr = some (B b) := by
  obtain ⟨dst, op, ty, pos, after, guard⟩ := o
  simp only at ho
  subst ho
  have v1 : atomV (evA fr x) = some (.agg cx.toArray) := by rw [hx]; simp [atomV, atoms_mapQ]
  have v2 : atomV (evA fr y) = some (.agg cy.toArray) := by rw [hy]; simp [atomV, atoms_mapQ]
  have h1 : (noSel (.binOp .neq T x y k) && allAtoms fr (Op.operands (.binOp .neq T x y k)).toList) = true := by
    show (true && allAtoms fr [x, y]) = true
    rw [Bool.true_and, allAtoms, allAtoms, allAtoms, v1, v2]
    rfl
  have h2 : pureRun Tryz.prog (execOp (fun z => (atomV (evA fr z)).getD undef) ⟨dst, .binOp .neq T x y k, ty, pos, after, guard⟩) = some (.value (.bool b)) := by
    have e1 : (atomV (evA fr x)).getD undef = .agg cx.toArray := by rw [v1]; rfl
    have e2 : (atomV (evA fr y)).getD undef = .agg cy.toArray := by rw [v2]; rfl
    unfold execOp
    simp only [e1, e2]
    exact pureRun_map _ _ _ hrun
  unfold genP
  simp only
  rw [if_pos h1, h2]
  rfl
theorem neq_run (x y : Operand) : ∀ j : Nat, j < 20 → pureRun Tryz.prog (do eqGuard .neq 46 x y (.agg #[.int .i64 71, .int .i64 (j : Int)]) (.agg #[.int .i64 71, .int .i64 (j : Int)]); binOp .neq 46 (.agg #[.int .i64 71, .int .i64 (j : Int)]) (.agg #[.int .i64 71, .int .i64 (j : Int)]) : Sem Value) = some (.bool false)
  | 0, _ => show pureRun Tryz.prog (do eqGuard .neq 46 x y (.agg #[.int .i64 71, .int .i64 0]) (.agg #[.int .i64 71, .int .i64 0]); binOp .neq 46 (.agg #[.int .i64 71, .int .i64 0]) (.agg #[.int .i64 71, .int .i64 0]) : Sem Value) = some (.bool false) by kernel_rfl
  | 1, _ => show pureRun Tryz.prog (do eqGuard .neq 46 x y (.agg #[.int .i64 71, .int .i64 1]) (.agg #[.int .i64 71, .int .i64 1]); binOp .neq 46 (.agg #[.int .i64 71, .int .i64 1]) (.agg #[.int .i64 71, .int .i64 1]) : Sem Value) = some (.bool false) by kernel_rfl
  | 2, _ => show pureRun Tryz.prog (do eqGuard .neq 46 x y (.agg #[.int .i64 71, .int .i64 2]) (.agg #[.int .i64 71, .int .i64 2]); binOp .neq 46 (.agg #[.int .i64 71, .int .i64 2]) (.agg #[.int .i64 71, .int .i64 2]) : Sem Value) = some (.bool false) by kernel_rfl
  | 3, _ => show pureRun Tryz.prog (do eqGuard .neq 46 x y (.agg #[.int .i64 71, .int .i64 3]) (.agg #[.int .i64 71, .int .i64 3]); binOp .neq 46 (.agg #[.int .i64 71, .int .i64 3]) (.agg #[.int .i64 71, .int .i64 3]) : Sem Value) = some (.bool false) by kernel_rfl
  | 4, _ => show pureRun Tryz.prog (do eqGuard .neq 46 x y (.agg #[.int .i64 71, .int .i64 4]) (.agg #[.int .i64 71, .int .i64 4]); binOp .neq 46 (.agg #[.int .i64 71, .int .i64 4]) (.agg #[.int .i64 71, .int .i64 4]) : Sem Value) = some (.bool false) by kernel_rfl
  | 5, _ => show pureRun Tryz.prog (do eqGuard .neq 46 x y (.agg #[.int .i64 71, .int .i64 5]) (.agg #[.int .i64 71, .int .i64 5]); binOp .neq 46 (.agg #[.int .i64 71, .int .i64 5]) (.agg #[.int .i64 71, .int .i64 5]) : Sem Value) = some (.bool false) by kernel_rfl
  | 6, _ => show pureRun Tryz.prog (do eqGuard .neq 46 x y (.agg #[.int .i64 71, .int .i64 6]) (.agg #[.int .i64 71, .int .i64 6]); binOp .neq 46 (.agg #[.int .i64 71, .int .i64 6]) (.agg #[.int .i64 71, .int .i64 6]) : Sem Value) = some (.bool false) by kernel_rfl
  | 7, _ => show pureRun Tryz.prog (do eqGuard .neq 46 x y (.agg #[.int .i64 71, .int .i64 7]) (.agg #[.int .i64 71, .int .i64 7]); binOp .neq 46 (.agg #[.int .i64 71, .int .i64 7]) (.agg #[.int .i64 71, .int .i64 7]) : Sem Value) = some (.bool false) by kernel_rfl
  | 8, _ => show pureRun Tryz.prog (do eqGuard .neq 46 x y (.agg #[.int .i64 71, .int .i64 8]) (.agg #[.int .i64 71, .int .i64 8]); binOp .neq 46 (.agg #[.int .i64 71, .int .i64 8]) (.agg #[.int .i64 71, .int .i64 8]) : Sem Value) = some (.bool false) by kernel_rfl
  | 9, _ => show pureRun Tryz.prog (do eqGuard .neq 46 x y (.agg #[.int .i64 71, .int .i64 9]) (.agg #[.int .i64 71, .int .i64 9]); binOp .neq 46 (.agg #[.int .i64 71, .int .i64 9]) (.agg #[.int .i64 71, .int .i64 9]) : Sem Value) = some (.bool false) by kernel_rfl
  | 10, _ => show pureRun Tryz.prog (do eqGuard .neq 46 x y (.agg #[.int .i64 71, .int .i64 10]) (.agg #[.int .i64 71, .int .i64 10]); binOp .neq 46 (.agg #[.int .i64 71, .int .i64 10]) (.agg #[.int .i64 71, .int .i64 10]) : Sem Value) = some (.bool false) by kernel_rfl
  | 11, _ => show pureRun Tryz.prog (do eqGuard .neq 46 x y (.agg #[.int .i64 71, .int .i64 11]) (.agg #[.int .i64 71, .int .i64 11]); binOp .neq 46 (.agg #[.int .i64 71, .int .i64 11]) (.agg #[.int .i64 71, .int .i64 11]) : Sem Value) = some (.bool false) by kernel_rfl
  | 12, _ => show pureRun Tryz.prog (do eqGuard .neq 46 x y (.agg #[.int .i64 71, .int .i64 12]) (.agg #[.int .i64 71, .int .i64 12]); binOp .neq 46 (.agg #[.int .i64 71, .int .i64 12]) (.agg #[.int .i64 71, .int .i64 12]) : Sem Value) = some (.bool false) by kernel_rfl
  | 13, _ => show pureRun Tryz.prog (do eqGuard .neq 46 x y (.agg #[.int .i64 71, .int .i64 13]) (.agg #[.int .i64 71, .int .i64 13]); binOp .neq 46 (.agg #[.int .i64 71, .int .i64 13]) (.agg #[.int .i64 71, .int .i64 13]) : Sem Value) = some (.bool false) by kernel_rfl
  | 14, _ => show pureRun Tryz.prog (do eqGuard .neq 46 x y (.agg #[.int .i64 71, .int .i64 14]) (.agg #[.int .i64 71, .int .i64 14]); binOp .neq 46 (.agg #[.int .i64 71, .int .i64 14]) (.agg #[.int .i64 71, .int .i64 14]) : Sem Value) = some (.bool false) by kernel_rfl
  | 15, _ => show pureRun Tryz.prog (do eqGuard .neq 46 x y (.agg #[.int .i64 71, .int .i64 15]) (.agg #[.int .i64 71, .int .i64 15]); binOp .neq 46 (.agg #[.int .i64 71, .int .i64 15]) (.agg #[.int .i64 71, .int .i64 15]) : Sem Value) = some (.bool false) by kernel_rfl
  | 16, _ => show pureRun Tryz.prog (do eqGuard .neq 46 x y (.agg #[.int .i64 71, .int .i64 16]) (.agg #[.int .i64 71, .int .i64 16]); binOp .neq 46 (.agg #[.int .i64 71, .int .i64 16]) (.agg #[.int .i64 71, .int .i64 16]) : Sem Value) = some (.bool false) by kernel_rfl
  | 17, _ => show pureRun Tryz.prog (do eqGuard .neq 46 x y (.agg #[.int .i64 71, .int .i64 17]) (.agg #[.int .i64 71, .int .i64 17]); binOp .neq 46 (.agg #[.int .i64 71, .int .i64 17]) (.agg #[.int .i64 71, .int .i64 17]) : Sem Value) = some (.bool false) by kernel_rfl
  | 18, _ => show pureRun Tryz.prog (do eqGuard .neq 46 x y (.agg #[.int .i64 71, .int .i64 18]) (.agg #[.int .i64 71, .int .i64 18]); binOp .neq 46 (.agg #[.int .i64 71, .int .i64 18]) (.agg #[.int .i64 71, .int .i64 18]) : Sem Value) = some (.bool false) by kernel_rfl
  | 19, _ => show pureRun Tryz.prog (do eqGuard .neq 46 x y (.agg #[.int .i64 71, .int .i64 19]) (.agg #[.int .i64 71, .int .i64 19]); binOp .neq 46 (.agg #[.int .i64 71, .int .i64 19]) (.agg #[.int .i64 71, .int .i64 19]) : Sem Value) = some (.bool false) by kernel_rfl
  | _ + 20, h => absurd h (by omega)
theorem flt_neq (j : Nat) (hj : j < 20) (dst : Option Tmp) (x y : Operand) (k ty : TypeId) (pos : String) (after : Array Edge) (guard : Option (Nat × Bool)) (fr : List AV) (hx : evA fr x = .agg [I 71, I j]) (hy : evA fr y = .agg [I 71, I j]) : genP Tryz.prog ⟨dst, .binOp .neq 46 x y k, ty, pos, after, guard⟩ fr = some (B false) := by
  exact genP_aggQ [.int .i64 71, .int .i64 j] [.int .i64 71, .int .i64 j] false rfl hx hy (neq_run x y j hj)
theorem deadS_one (A : List AObj) : deadS (A :: [[]]) = List.replicate A.length .dead :: [[]] := rfl
set_option maxRecDepth 100000 in
set_option maxHeartbeats 32000000 in
theorem chainC (N : Int) : ADet Tryz.prog 3 [I N] [[]] (B true) [[]] := by
  refine ADet.intro mixed Tryz.call3 Tryz.func3 rfl ?_
  simp [Tryz.ntmps3]
  refine ⟨_, _, awake07C _, ?_⟩
  by_cases h1 : N < 1
  · simp [h1]
  by_cases h2 : (20 : Int) < N
  · simp [h1, h2]
  obtain ⟨n, rfl⟩ : ∃ n : Nat, N = (n : Int) := ⟨N.toNat, by omega⟩
  have hn1 : 1 ≤ n := by omega
  have hn20 : n ≤ 20 := by omega
  simp [h1, h2]
  refine awp_loopR 41 16 (by decide) [.cells [.rsl 0 1 0 16] 25] (loopIQ n) (fun x => ([I n, .any, .any, .ptr 0 0 0, I x.1] ++ List.replicate 73 .any)) (loopGQ [[]]) (fun x => n - x.1) (fun x => 2 + 5 * x.1) (0, []) ?_ ?_ ?_ ?_ ?_ ?_
  · exact ⟨Nat.zero_le _, rfl, fun o ho => by simp at ho, fun j hj => by omega⟩
  · intro x _
    simp [loopGQ, top]
  · simp
  · simp
  · rfl
  rintro ⟨i, ex⟩ ⟨hi, hexl, hcut, hrow⟩
  simp only at hi hexl hcut hrow
  by_cases hlt : i < n
  · have hlt' : (i : Int) < (n : Int) := by omega
    have hwr := wrap_succ hlt (by unfold maxLen; omega)
    have hw1 : IntKind.i64.wrap (97 + (i : Int)) = 97 + (i : Int) := IntWalk.i64_in _ (by omega)
    have hw3 : IntKind.i64.wrap (97 + (i : Int) + 1) = 97 + (i : Int) + 1 := IntWalk.i64_in _ (by omega)
    have hx2 : IntKind.u8.wrap (97 + (i : Int)) = 97 + (i : Int) := IntWalk.u8_in _ (by omega)
    have hw4 : IntKind.u8.wrap (97 + (i : Int) + 1) = 97 + (i : Int) + 1 := IntWalk.u8_in _ (by omega)
    have hb1 : (0 : Int) ≤ 97 + (i : Int) + 1 := by omega
    have hb2 : 97 + (i : Int) + 1 < 256 := by omega
    have hb3 : (97 + (i : Int) + 1).toNat = 97 + (i + 1) := by omega
    have hx3 : (0 : Int) ≤ 97 + (i : Int) := by omega
    have hx4 : 97 + (i : Int) < 256 := by omega
    have hx5 : (97 + (i : Int)).toNat = 97 + i := by omega
    have hs1 : ∀ m : Nat, (⟨#[83]⟩ : ByteArray).size + (⟨#[97 + UInt8.ofNat m]⟩ : ByteArray).size ≤ maxLen := fun m => by show 1 + 1 ≤ maxLen; unfold maxLen; omega
    have hs2 : ∀ m : Nat, (⟨#[83]⟩ : ByteArray) ++ (⟨#[97 + UInt8.ofNat m]⟩ : ByteArray) = nmQ m := fun m => by unfold nmQ; rw [UInt8.ofNat_add]; rfl
    have hs3 : (⟨#[83]⟩ : ByteArray).size + (⟨#[97 + (UInt8.ofNat i + 1)]⟩ : ByteArray).size ≤ maxLen := by show 1 + 1 ≤ maxLen; unfold maxLen; omega
    have hs4 : (⟨#[83]⟩ : ByteArray) ++ (⟨#[97 + (UInt8.ofNat i + 1)]⟩ : ByteArray) = nmQ (i + 1) := by unfold nmQ; rw [UInt8.ofNat_add, UInt8.ofNat_add]; rfl
    have hi32 : i ≤ 4294967295 := by omega
    generalize hM : 5 * i = M at *
    have hM1 : ∀ c, (M + c < M) = False := fun c => by simp
    simp [loopGQ, hlt, hlt', hwr, hw1, hw3, hx2, hw4, hb1, hb2, hb3, hx3, hx4, hx5, hs1, hs2, hs3, hs4, hi32, hexl, List.getElem?_append, hM1, -trim, -wkT]
    subst hM
    refine ⟨i + 1, ex ++ [.dead, .dead, .dead, .row 31 4 1 (fiQA (i + 1)), .dead], ⟨hlt, ?_, ?_, ?_⟩, by omega, by simp, ⟨wk_endQ rfl hexl rfl hcut ?_, rfl⟩⟩
    · simp [hexl]; omega
    · intro o ho m
      rcases List.mem_append.1 ho with h | h
      · exact hcut o h m
      · simp only [List.mem_cons, List.not_mem_nil, or_false] at h
        rcases h with rfl | rfl | rfl | rfl | rfl
        · exact trivial
        · exact trivial
        · exact trivial
        · simp [AObj.cut, wkL, AV.cuts, AV.cut, wkR, fiQA, Fi.enc]
        · exact trivial
    · intro j hj
      simp only at hj ⊢
      rcases Nat.lt_or_ge j i with h | h
      · rw [List.getElem?_append_left (by omega)]
        exact hrow j h
      · obtain rfl : j = i := by omega
        rw [List.getElem?_append_right (by omega), hexl]
        simp
    · simp [AObj.cut, wkL, AV.cuts, AV.cut, wkR, fiQA, fiQ, Fi.enc, Ty.kind, Ty.name, Ty.args]
  · have hin : i = n := by omega
    subst hin
    obtain ⟨m, rfl⟩ : ∃ m, i = m + 1 := ⟨i - 1, by omega⟩
    have kC0 : ADet Tryz.prog 5 [.agg [.p (prog (chQ nxO (m + 1)))]] [[]] (.p (.sl 2 [])) [[]] := checkC (chQ nxO (m + 1)) 60 (chQ_sm hn20) [] (chain_open hn1 hn20) (by simp) [[]]
    have kC1 := checkC (chQ (nxS (m + 1)) (m + 1)) 60 (chQ_sm hn20) _ (chain_shut hn1 hn20) (by simp only [List.length_map, List.length_range]; omega) [[]]
    have hl0 : LentL ((AObj.cells [.rsl 0 1 (m + 1) 16] 25 :: .row 41 16 (m + 1) (itsQA (m + 1)) :: ex) :: [[]]) [.agg [.rsl 0 1 (m + 1) 16]] [.agg [.p (prog (chQ nxO (m + 1)))]] :=
      .cons (LentA.agg (l := [(.rsl 0 1 (m + 1) 16, prog (chQ nxO (m + 1)))]) fun c hc => by
        rw [List.mem_singleton.1 hc]
        exact lentQ (E := 41) (E2 := 31) rfl fun j hj => hrow j hj) .nil
    have hg2 : (itsQA (m + 1))[m * 16 + 2]? = some (.rsl 0 (5 * m + 5) 1 4) := by rw [Nat.mul_comm, itsQA_get (m + 1) (Nat.lt_succ_self m) (by omega)]; rfl
    have hfm := hrow m (Nat.lt_succ_self m)
    have hwm : IntKind.i64.wrap (m : Int) = (m : Int) := IntWalk.i64_in _ (by omega)
    simp [loopGQ]
    refine ⟨_, _, ADet.lendE kC0 hl0, ?_⟩
    have hlt1 : (m : Int) < (m : Int) + 1 := by omega
    simp [hg2, hfm, hwm, hlt1, fiQA, fiQ, Fi.enc, Ty.kind, Ty.name, Ty.args]
    have hl1 : LentL ((AObj.cells [.rsl 0 1 (m + 1) 16] 25 :: .row 41 16 (m + 1) (itsQA (m + 1)) :: ex.set (5 * m + 3) (.row 31 4 1 [Sg ⟨#[97]⟩, U 4, .p (.v (.string ⟨#[83, 97]⟩)), nilQ])) :: [[]]) [.agg [.rsl 0 1 (m + 1) 16]] [.agg [.p (prog (chQ (nxS (m + 1)) (m + 1)))]] :=
      .cons (LentA.agg (l := [(.rsl 0 1 (m + 1) 16, prog (chQ (nxS (m + 1)) (m + 1)))]) fun c hc => by
        rw [List.mem_singleton.1 hc]
        refine lentQ (E := 41) (E2 := 31) rfl fun j hj => ?_
        show (ex.set (5 * m + 3) _)[5 * j + 3]? = _
        by_cases hjm : j = m
        · subst hjm
          rw [List.getElem?_set_self (by omega)]
          unfold nxS
          rw [if_pos rfl]
          rfl
        · rw [List.getElem?_set_ne (by omega), hrow j hj]
          unfold nxS
          rw [if_neg (by omega)]) .nil
    have lC := ADet.lendAll kC1 hl1
    rw [deadS_one] at lC
    have hDl : (List.replicate (AObj.cells [.rsl 0 1 (m + 1) 16] 25 :: .row 41 16 (m + 1) (itsQA (m + 1)) :: ex.set (5 * m + 3) (.row 31 4 1 [Sg ⟨#[97]⟩, U 4, .p (.v (.string ⟨#[83, 97]⟩)), nilQ])).length AObj.dead).length = 2 + 5 * (m + 1) := by
      rw [List.length_replicate, List.length_cons, List.length_cons, List.length_set, hexl]; omega
    have hDk : ∀ o ∈ (List.replicate (AObj.cells [.rsl 0 1 (m + 1) 16] 25 :: .row 41 16 (m + 1) (itsQA (m + 1)) :: ex.set (5 * m + 3) (.row 31 4 1 [Sg ⟨#[97]⟩, U 4, .p (.v (.string ⟨#[83, 97]⟩)), nilQ])).length AObj.dead), wkL [o.cut (2 + 5 * (m + 1))] [o] := fun o ho => by rw [List.eq_of_mem_replicate ho]; trivial
    generalize List.replicate _ AObj.dead = D at *
    have hrl : (((List.range (m + 1)).map fun j : Nat => ((71 : Int), (j : Int))).map fltE).length = m + 1 := by simp only [List.length_map, List.length_range]
    have hrj : ∀ j, j < m + 1 → (((List.range (m + 1)).map fun j : Nat => ((71 : Int), (j : Int))).map fltE)[j]? = some [pI 71, pI j] := fun j hj => by
      rw [List.getElem?_map, List.getElem?_map, List.getElem?_range hj]
      rfl
    generalize (((List.range (m + 1)).map fun j : Nat => ((71 : Int), (j : Int))).map fltE) = rows at *
    refine ⟨_, _, lC, ?_⟩
    simp
    refine awp_loopN (fun j : Nat => j ≤ m + 1) (fun j => ([I ((m : Int) + 1), .any, .any, .any, .any, .any, .p (.sl 2 rows), I j] ++ List.replicate 70 .any)) (fun _ => D :: [[]]) (fun j => m + 1 - j) (fun _ => 2 + 5 * (m + 1)) 0 (Nat.zero_le _) (fun x _ => Nat.le_of_eq hDl) ?_ ⟨wkL_selfs hDk, rfl⟩ ?_
    · simp
    intro j hj
    by_cases hjt : j < m + 1
    · have hjt' : (j : Int) < (m : Int) + 1 := by omega
      have hjr := wrap_succ hjt (by unfold maxLen; omega)
      have hn := flt_neq j (by omega)
      have hrj := hrj j hjt
      simp [hrl, hrj, hjt', hn, -trim, -wkT]
      exact ⟨j + 1, hjt, by omega, hjr, wkT_self hDl hDk⟩
    · have hjt' : ¬ (j : Int) < (m : Int) + 1 := by omega
      simp [hrl, hjt']
end Go.Proofs.YtjkdpnnccaeepaaGreatDoor
