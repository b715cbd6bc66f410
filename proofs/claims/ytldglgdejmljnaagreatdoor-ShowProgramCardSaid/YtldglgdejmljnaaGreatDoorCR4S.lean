/- The reference's tokens: lists of statements, what stands ahead of a statement (printed by a program of my own). No statement is proved here. -/
import Derived.Test.YtldglgdejmljnaaGreatDoorMRd
import Derived.Test.YtldglgdejmljnaaGreatDoorCSpL
import Derived.Test.YtldglgdejmljnaaGreatDoorCShS
import Derived.Test.YtldglgdejmljnaaGreatDoorAlGift
namespace Go.Proofs.YtldglgdejmljnaaGreatDoor
open Go.RowKit
attribute [local simp] List.replicate List.range List.range.loop resA resOne retA AV.cuts AV.cut AObj.cut trim wkR wkT wkL wkN wkNR wkNL
set_option linter.unusedVariables false
set_option linter.unusedSimpArgs false

/-- the reference writes the same tokens -/
def R4S (s : St) : Prop := ∀ S, ADet Tryz.prog 124 [stmV s] S (.p (strs s.tk)) S
abbrev rowsT (l : List ByteArray) : List (List PV) := l.map fun s => [pS s]
set_option maxRecDepth 100000 in
set_option maxHeartbeats 2000000 in
theorem r4StmtsC (l : List St) (hl : ∀ s ∈ l, R4S s) (hn : l.length ≤ 20000) (hb : tl (l.flatMap St.tk) ≤ 3000000000) (S : ASt) : ADet Tryz.prog 89 [.p (.sl 15 (l.map St.enc))] S (.p (strs (l.flatMap St.tk))) S := by
  have hlen : l.length ≤ maxLen := sm_max hn
  obtain ⟨F, hF⟩ : ∃ F : Nat → List ByteArray, ∀ q, F q = (l.take q).flatMap St.tk := ⟨_, fun _ => rfl⟩
  have h0 : F 0 = [] := by rw [hF]; rfl
  have hz : F l.length = l.flatMap St.tk := by rw [hF, List.take_length]
  have hT : ∀ q (h : q < l.length), F (q + 1) = F q ++ l[q].tk := fun q h => by rw [hF, hF]; exact take_flat_snoc St.tk l h
  have hsz : ∀ q, tl (F q) ≤ tl (l.flatMap St.tk) := fun q => by rw [hF]; exact tl_take_flat St.tk l q
  rw [← hz] at hb hsz ⊢
  unfold strs
  refine ADet.intro mixed Tryz.call89 Tryz.func89 rfl ?_
  simp [Tryz.ntmps89]
  refine awp_loopG 9 1 (by decide) [] (fun q : Nat => q ≤ l.length) (fun q => ([.p (.sl 15 (l.map St.enc)), .any, .any, .osl 1 ((F q).map fun s => [pS s]) 0 0, I q] ++ List.replicate 14 .any)) (fun q => [.tok 9 1 (F q).length] :: S) (fun q => l.length - q) 0 (Nat.zero_le _) ?_ ?_ ?_ ?_
  · simp [h0]
  · simp [h0]
  · simp [h0]
  intro q hq
  by_cases hlt : q < l.length
  · have hT := hT q hlt
    have hsz := hsz (q + 1)
    have hln := len_tl (F (q + 1))
    have hx := hl _ (List.getElem_mem hlt)
    rw [hT] at hsz hln
    rw [List.length_append] at hln
    generalize hxq : l[q] = x at *
    have e1 : (F q).length + x.tk.length ≤ 4294967296 := by omega
    simp [hlt, hxq, stEnc]
    refine ⟨_, _, hx _, ?_⟩
    simp [strs, e1]
    exact ⟨q + 1, hlt, by omega, ⟨by rw [hT]; simp, wrap_succ hlt⟩, by rw [hT]; simp⟩
  · have : q = l.length := by omega
    subst this
    simp
set_option maxRecDepth 100000 in
set_option maxHeartbeats 2000000 in
theorem r4BlockC (l : List St) (hl : ∀ s ∈ l, R4S s) (hn : l.length ≤ 20000) (hb : tl (l.flatMap St.tk) ≤ 3000000000) (S : ASt) : ADet Tryz.prog 149 [.p (.sl 15 (l.map St.enc))] S (.p (strs (braceTk (l.flatMap St.tk)))) S := by
  have hs := fun S => r4StmtsC l hl hn hb S
  have hln := len_tl (l.flatMap St.tk)
  unfold braceTk
  generalize l.flatMap St.tk = b at *
  have e1 : 1 + b.length ≤ 4294967296 := by omega
  have e2 : 1 + b.length = b.length + 1 := by omega
  have e3 : b.length ≤ 4294967294 := by omega
  have e4 : b.length + 1 + 1 ≤ 4294967296 := by omega
  have e5 : b.length ≤ 4294967295 := by omega
  refine ADet.intro mixed Tryz.call149 Tryz.func149 rfl ?_
  simp [Tryz.ntmps149]
  refine ⟨_, _, hs _, ?_⟩
  simp [strs, e1, e2, e3, e4, e5]
set_option maxRecDepth 100000 in
set_option maxHeartbeats 2000000 in
theorem r4NamesC (l : List ByteArray) (hn : l.length ≤ 20000) (S : ASt) : ADet Tryz.prog 163 [.p (strs l)] S (.p (tss (l.map fun s => [s]))) S := by
  have hlen : l.length ≤ maxLen := sm_max hn
  obtain ⟨F, hF⟩ : ∃ F : Nat → List (List PV), ∀ q, F q = (l.take q).map fun s => [strs [s]] := ⟨_, fun _ => rfl⟩
  have h0 : F 0 = [] := by rw [hF]; rfl
  have hz : tss (l.map fun s => [s]) = .sl 1 (F l.length) := by rw [hF, List.take_length]; simp [tss, Function.comp_def]
  have hT : ∀ q (h : q < l.length), F (q + 1) = F q ++ [[strs [l[q]]]] := fun q h => by rw [hF, hF, take_snoc _ h, List.map_append]; rfl
  have hL : ∀ q, q ≤ l.length → (F q).length = q := fun q h => by rw [hF, List.length_map, List.length_take]; omega
  rw [hz]
  unfold strs at hT ⊢
  refine ADet.intro mixed Tryz.call163 Tryz.func163 rfl ?_
  simp [Tryz.ntmps163]
  refine awp_loopG 25 1 (by decide) [] (fun q : Nat => q ≤ l.length) (fun q => ([.p (.sl 1 (l.map fun s => [pS s])), .any, .any, .osl 1 (F q) 0 0, I q] ++ List.replicate 15 .any)) (fun q => [.tok 25 1 q] :: S) (fun q => l.length - q) 0 (Nat.zero_le _) ?_ ?_ ?_ ?_
  · simp [h0]
  · simp [h0]
  · rfl
  intro q hq
  have hLq := hL q hq
  by_cases hlt : q < l.length
  · have hT := hT q hlt
    generalize hxq : l[q] = x at *
    have e1 : q + 1 ≤ 4294967296 := by omega
    simp [hlt, hxq, hLq, e1]
    exact ⟨q + 1, hlt, by omega, ⟨by rw [hT]; first | done | rfl | simp, wrap_succ hlt⟩, rfl⟩
  · have : q = l.length := by omega
    subst this
    simp
set_option maxRecDepth 100000 in
set_option maxHeartbeats 2000000 in
theorem r4Head1 (s : St) (hop : s.op = 1) (L : List AObj) (R : ASt) : ADet Tryz.prog 148 [stmV s] (L :: R) (.osl 1 (rowsT [(⟨#[108, 101, 116]⟩ : ByteArray), s.name, (⟨#[61]⟩ : ByteArray)]) 0 L.length) ((L ++ [.tok 9 1 (rowsT [(⟨#[108, 101, 116]⟩ : ByteArray), s.name, (⟨#[61]⟩ : ByteArray)]).length]) :: R) := by
  have T : ∀ m : Int, (s.op == m) = ((1 : Int) == m) := fun m => by rw [hop]
  refine ADet.gift mixed Tryz.call148 Tryz.func148 rfl ?_
  simp [Tryz.ntmps148, RetGift, T]
set_option maxRecDepth 100000 in
set_option maxHeartbeats 2000000 in
theorem r4Head2 (s : St) (hop : s.op = 2) (hn : s.names.length ≤ 20000) (hb : tl (commas (s.names.map fun s => [s])) ≤ 3000000000) (L : List AObj) (R : ASt) : ADet Tryz.prog 148 [stmV s] (L :: R) (.osl 1 (rowsT ((⟨#[108, 101, 116]⟩ : ByteArray) :: s.name :: (⟨#[123]⟩ : ByteArray) :: (commas (s.names.map fun s => [s]) ++ [(⟨#[125]⟩ : ByteArray), (⟨#[61]⟩ : ByteArray)]))) 0 L.length) ((L ++ [.tok 9 1 (rowsT ((⟨#[108, 101, 116]⟩ : ByteArray) :: s.name :: (⟨#[123]⟩ : ByteArray) :: (commas (s.names.map fun s => [s]) ++ [(⟨#[125]⟩ : ByteArray), (⟨#[61]⟩ : ByteArray)]))).length]) :: R) := by
  have T : ∀ m : Int, (s.op == m) = ((2 : Int) == m) := fun m => by rw [hop]
  have hj := fun S => joinedC (s.names.map fun s => [s]) (by simpa using hn) (by omega) S
  have hcl := len_tl (commas (s.names.map fun s => [s]))
  generalize hcm : commas (s.names.map fun s => [s]) = cm at *
  have e1 : 3 + cm.length = cm.length + 1 + 1 + 1 := by omega
  have e2 : cm.length ≤ 4294967293 := by omega
  have e3 : cm.length ≤ 4294967291 := by omega
  have e4 : cm.length + 1 + 1 + 1 + 2 ≤ 4294967296 := by omega
  have e5 : cm.length + 1 + 1 + 1 ≤ 4294967296 := by omega
  have e6 : cm.length + 2 + 1 + 1 + 1 = cm.length + 1 + 1 + 1 + 2 := by omega
  have e7 : cm.length + (1 + 1) + 1 + 1 + 1 = cm.length + 1 + 1 + 1 + 2 := by omega
  refine ADet.gift mixed Tryz.call148 Tryz.func148 rfl ?_
  simp [Tryz.ntmps148, T]
  refine ⟨_, _, r4NamesC s.names hn _, ?_⟩
  simp [T]
  refine ⟨_, _, hj _, ?_⟩
  simp [RetGift, T, strs, e1, e2, e3, e4, e5, e6, e7]
set_option maxRecDepth 100000 in
set_option maxHeartbeats 2000000 in
theorem r4Head3 (s : St) (hop : s.op = 3) (hp : s.place.path.length ≤ 20000) (L : List AObj) (R : ASt) : ADet Tryz.prog 148 [stmV s] (L :: R) (.osl 1 (rowsT (s.place.tk ++ [(⟨#[61]⟩ : ByteArray)])) 0 L.length) ((L ++ [.tok 9 1 (rowsT (s.place.tk ++ [(⟨#[61]⟩ : ByteArray)])).length]) :: R) := by
  have T : ∀ m : Int, (s.op == m) = ((3 : Int) == m) := fun m => by rw [hop]
  have hpl : s.place.tk.length ≤ 40001 := by
    unfold Pl.tk
    have : ∀ l : List ByteArray, (pathTk l).length = 2 * l.length := fun l => by
      induction l with
      | nil => rfl
      | cons a l ih => simp only [pathTk, List.length_cons, ih]; omega
    rw [List.length_cons, this]; omega
  have hpc := fun S => r4PlaceC s.place hp S
  generalize s.place.tk = pt at *
  have e1 : pt.length + 1 ≤ 4294967296 := by omega
  have e2 : pt.length ≤ 4294967296 := by omega
  have e3 : pt.length ≤ 4294967295 := by omega
  refine ADet.gift mixed Tryz.call148 Tryz.func148 rfl ?_
  simp [Tryz.ntmps148, T]
  refine ⟨_, _, hpc _, ?_⟩
  simp [RetGift, T, strs, e1, e2, e3]
set_option maxRecDepth 100000 in
set_option maxHeartbeats 2000000 in
theorem r4Head6 (s : St) (hop : s.op = 6) (L : List AObj) (R : ASt) : ADet Tryz.prog 148 [stmV s] (L :: R) (.osl 1 (rowsT [(⟨#[105, 102]⟩ : ByteArray)]) 0 L.length) ((L ++ [.tok 9 1 (rowsT [(⟨#[105, 102]⟩ : ByteArray)]).length]) :: R) := by
  have T : ∀ m : Int, (s.op == m) = ((6 : Int) == m) := fun m => by rw [hop]
  refine ADet.gift mixed Tryz.call148 Tryz.func148 rfl ?_
  simp [Tryz.ntmps148, RetGift, T]
set_option maxRecDepth 100000 in
set_option maxHeartbeats 2000000 in
theorem r4Head7 (s : St) (hop : s.op = 7) (L : List AObj) (R : ASt) : ADet Tryz.prog 148 [stmV s] (L :: R) (.osl 1 (rowsT [(⟨#[119, 104, 105, 108, 101]⟩ : ByteArray)]) 0 L.length) ((L ++ [.tok 9 1 (rowsT [(⟨#[119, 104, 105, 108, 101]⟩ : ByteArray)]).length]) :: R) := by
  have T : ∀ m : Int, (s.op == m) = ((7 : Int) == m) := fun m => by rw [hop]
  refine ADet.gift mixed Tryz.call148 Tryz.func148 rfl ?_
  simp [Tryz.ntmps148, RetGift, T]
set_option maxRecDepth 100000 in
set_option maxHeartbeats 2000000 in
theorem r4HeadN (s : St) (h1 : s.op ≠ 1) (h2 : s.op ≠ 2) (h3 : s.op ≠ 3) (h6 : s.op ≠ 6) (h7 : s.op ≠ 7) (S : ASt) : ADet Tryz.prog 148 [stmV s] S nilS S := by
  have t1 : (s.op == 1) = false := by rw [beq_eq_false_iff_ne]; exact h1
  have t2 : (s.op == 2) = false := by rw [beq_eq_false_iff_ne]; exact h2
  have t3 : (s.op == 3) = false := by rw [beq_eq_false_iff_ne]; exact h3
  have t6 : (s.op == 6) = false := by rw [beq_eq_false_iff_ne]; exact h6
  have t7 : (s.op == 7) = false := by rw [beq_eq_false_iff_ne]; exact h7
  refine ADet.intro mixed Tryz.call148 Tryz.func148 rfl ?_
  simp [Tryz.ntmps148, t1, t2, t3, t6, t7]
set_option maxRecDepth 100000 in
set_option maxHeartbeats 2000000 in
theorem r4SpawnC (s : St) (hop : s.op = 10) (hnl : s.names.length = s.exprs.length) (hl : ∀ e ∈ s.exprs, R4 e) (hn : s.exprs.length ≤ 20000) (hs : ∀ x ∈ s.body, R4S x) (hbn : s.body.length ≤ 20000) (hb : tl s.tk ≤ 3000000000) (S : ASt) : ADet Tryz.prog 150 [stmV s] S (.p (strs s.tk)) S := by
  have htk : s.tk = (⟨#[115, 112, 97, 119, 110]⟩ : ByteArray) :: (⟨#[40]⟩ : ByteArray) :: (commas (givenTk s.names (s.exprs.map Ex.tk)) ++ (⟨#[41]⟩ : ByteArray) :: braceTk (s.body.flatMap St.tk)) := by
    rw [stTk_eq]; unfold stTk1; rw [if_pos hop]
  have hln := len_tl s.tk
  rw [htk] at hb hln ⊢
  simp only [tl_cons, tl_append, tl_nil, tl_brace] at hb
  have hB := fun S => r4BlockC s.body hs hbn (by omega) S
  have hG := fun S => given4C s.names s.exprs hnl hl hn (by omega) S
  generalize commas (givenTk s.names (s.exprs.map Ex.tk)) = cm at *
  have hlb := len_tl (braceTk (s.body.flatMap St.tk))
  rw [tl_brace] at hlb
  generalize braceTk (s.body.flatMap St.tk) = bt at *
  have hlc := len_tl cm
  have e1 : 2 + cm.length = cm.length + 1 + 1 := by omega
  have e2 : cm.length ≤ 4294967294 := by omega
  have e3 : cm.length ≤ 4294967293 := by omega
  have e4 : cm.length + 1 + 1 + 1 + bt.length ≤ 4294967296 := by omega
  have e5 : cm.length + 1 + 1 + bt.length + 1 ≤ 4294967296 := by omega
  refine ADet.intro mixed Tryz.call150 Tryz.func150 rfl ?_
  simp [Tryz.ntmps150]
  refine ⟨_, _, hG _, ?_⟩
  simp [strs, e1, e2, e3, e4, e5]
  refine ⟨_, _, hB _, ?_⟩
  simp [strs, e1, e2, e3, e4, e5]
end Go.Proofs.YtldglgdejmljnaaGreatDoor
