/- 4 texts of this proof, one behind the other: CR4 CR4L CR4T CR4E. The statement is proved in the claim's last text. -/
import Derived.Test.YtldglgdejmljnaaGreatDoorMPg
import Derived.Test.YtldglgdejmljnaaGreatDoorMWh
namespace Go.Proofs.YtldglgdejmljnaaGreatDoor
open Go.RowKit
set_option linter.unusedVariables false
set_option linter.unusedSimpArgs false

theorem len_tl (l : List ByteArray) : l.length ≤ tl l := by
  induction l with
  | nil => exact Nat.le_refl _
  | cons s l ih => rw [tl_cons, List.length_cons]; omega
set_option maxRecDepth 100000 in
set_option maxHeartbeats 4000000 in
theorem strengthC (op : Int) (S : ASt) : ADet Tryz.prog 31 [U op] S (I (signI op)) S := by
  refine ADet.intro mixed Tryz.call31 Tryz.func31 rfl ?_
  by_cases hop7 : op = 7
  · simp [List.replicate, List.range, List.range.loop, resA, resOne, retA, Tryz.ntmps31, hop7, signI]
  by_cases hop8 : op = 8
  · simp [List.replicate, List.range, List.range.loop, resA, resOne, retA, Tryz.ntmps31, hop8, signI]
  by_cases hop9 : op = 9
  · simp [List.replicate, List.range, List.range.loop, resA, resOne, retA, Tryz.ntmps31, hop9, signI]
  by_cases hop10 : op = 10
  · simp [List.replicate, List.range, List.range.loop, resA, resOne, retA, Tryz.ntmps31, hop10, signI]
  by_cases hop11 : op = 11
  · simp [List.replicate, List.range, List.range.loop, resA, resOne, retA, Tryz.ntmps31, hop11, signI]
  by_cases hop12 : op = 12
  · simp [List.replicate, List.range, List.range.loop, resA, resOne, retA, Tryz.ntmps31, hop12, signI]
  by_cases hop13 : op = 13
  · simp [List.replicate, List.range, List.range.loop, resA, resOne, retA, Tryz.ntmps31, hop13, signI]
  by_cases hop14 : op = 14
  · simp [List.replicate, List.range, List.range.loop, resA, resOne, retA, Tryz.ntmps31, hop14, signI]
  by_cases hop15 : op = 15
  · simp [List.replicate, List.range, List.range.loop, resA, resOne, retA, Tryz.ntmps31, hop15, signI]
  by_cases hop16 : op = 16
  · simp [List.replicate, List.range, List.range.loop, resA, resOne, retA, Tryz.ntmps31, hop16, signI]
  by_cases hop17 : op = 17
  · simp [List.replicate, List.range, List.range.loop, resA, resOne, retA, Tryz.ntmps31, hop17, signI]
  simp [List.replicate, List.range, List.range.loop, resA, resOne, retA, Tryz.ntmps31, hop7, hop8, hop9, hop10, hop11, hop12, hop13, hop14, hop15, hop16, hop17, signI]
def wordR (op : Int) : ByteArray := if 7 ≤ op ∧ op ≤ 17 then signB op else wordL op
set_option maxRecDepth 100000 in
set_option maxHeartbeats 8000000 in
theorem rWordC (op : Int) (h : (7 ≤ op ∧ op ≤ 17) ∨ (21 ≤ op ∧ op ≤ 36)) (S : ASt) : ADet Tryz.prog 35 [U op] S (Sg (wordR op)) S := by
  refine ADet.intro mixed Tryz.call35 Tryz.func35 rfl ?_
  by_cases hop7 : op = 7
  · simp [List.replicate, List.range, List.range.loop, resA, resOne, retA, Tryz.ntmps35, hop7, wordR, signB, wordL]
  by_cases hop8 : op = 8
  · simp [List.replicate, List.range, List.range.loop, resA, resOne, retA, Tryz.ntmps35, hop8, wordR, signB, wordL]
  by_cases hop9 : op = 9
  · simp [List.replicate, List.range, List.range.loop, resA, resOne, retA, Tryz.ntmps35, hop9, wordR, signB, wordL]
  by_cases hop10 : op = 10
  · simp [List.replicate, List.range, List.range.loop, resA, resOne, retA, Tryz.ntmps35, hop10, wordR, signB, wordL]
  by_cases hop11 : op = 11
  · simp [List.replicate, List.range, List.range.loop, resA, resOne, retA, Tryz.ntmps35, hop11, wordR, signB, wordL]
  by_cases hop12 : op = 12
  · simp [List.replicate, List.range, List.range.loop, resA, resOne, retA, Tryz.ntmps35, hop12, wordR, signB, wordL]
  by_cases hop13 : op = 13
  · simp [List.replicate, List.range, List.range.loop, resA, resOne, retA, Tryz.ntmps35, hop13, wordR, signB, wordL]
  by_cases hop14 : op = 14
  · simp [List.replicate, List.range, List.range.loop, resA, resOne, retA, Tryz.ntmps35, hop14, wordR, signB, wordL]
  by_cases hop15 : op = 15
  · simp [List.replicate, List.range, List.range.loop, resA, resOne, retA, Tryz.ntmps35, hop15, wordR, signB, wordL]
  by_cases hop16 : op = 16
  · simp [List.replicate, List.range, List.range.loop, resA, resOne, retA, Tryz.ntmps35, hop16, wordR, signB, wordL]
  by_cases hop17 : op = 17
  · simp [List.replicate, List.range, List.range.loop, resA, resOne, retA, Tryz.ntmps35, hop17, wordR, signB, wordL]
  by_cases hop21 : op = 21
  · simp [List.replicate, List.range, List.range.loop, resA, resOne, retA, Tryz.ntmps35, hop21, wordR, signB, wordL]
  by_cases hop22 : op = 22
  · simp [List.replicate, List.range, List.range.loop, resA, resOne, retA, Tryz.ntmps35, hop22, wordR, signB, wordL]
  by_cases hop23 : op = 23
  · simp [List.replicate, List.range, List.range.loop, resA, resOne, retA, Tryz.ntmps35, hop23, wordR, signB, wordL]
  by_cases hop24 : op = 24
  · simp [List.replicate, List.range, List.range.loop, resA, resOne, retA, Tryz.ntmps35, hop24, wordR, signB, wordL]
  by_cases hop25 : op = 25
  · simp [List.replicate, List.range, List.range.loop, resA, resOne, retA, Tryz.ntmps35, hop25, wordR, signB, wordL]
  by_cases hop26 : op = 26
  · simp [List.replicate, List.range, List.range.loop, resA, resOne, retA, Tryz.ntmps35, hop26, wordR, signB, wordL]
  by_cases hop27 : op = 27
  · simp [List.replicate, List.range, List.range.loop, resA, resOne, retA, Tryz.ntmps35, hop27, wordR, signB, wordL]
  by_cases hop28 : op = 28
  · simp [List.replicate, List.range, List.range.loop, resA, resOne, retA, Tryz.ntmps35, hop28, wordR, signB, wordL]
  by_cases hop29 : op = 29
  · simp [List.replicate, List.range, List.range.loop, resA, resOne, retA, Tryz.ntmps35, hop29, wordR, signB, wordL]
  by_cases hop30 : op = 30
  · simp [List.replicate, List.range, List.range.loop, resA, resOne, retA, Tryz.ntmps35, hop30, wordR, signB, wordL]
  by_cases hop31 : op = 31
  · simp [List.replicate, List.range, List.range.loop, resA, resOne, retA, Tryz.ntmps35, hop31, wordR, signB, wordL]
  by_cases hop32 : op = 32
  · simp [List.replicate, List.range, List.range.loop, resA, resOne, retA, Tryz.ntmps35, hop32, wordR, signB, wordL]
  by_cases hop33 : op = 33
  · simp [List.replicate, List.range, List.range.loop, resA, resOne, retA, Tryz.ntmps35, hop33, wordR, signB, wordL]
  by_cases hop34 : op = 34
  · simp [List.replicate, List.range, List.range.loop, resA, resOne, retA, Tryz.ntmps35, hop34, wordR, signB, wordL]
  by_cases hop35 : op = 35
  · simp [List.replicate, List.range, List.range.loop, resA, resOne, retA, Tryz.ntmps35, hop35, wordR, signB, wordL]
  by_cases hop36 : op = 36
  · simp [List.replicate, List.range, List.range.loop, resA, resOne, retA, Tryz.ntmps35, hop36, wordR, signB, wordL]
  omega

end Go.Proofs.YtldglgdejmljnaaGreatDoor

namespace Go.Proofs.YtldglgdejmljnaaGreatDoor
open Go.RowKit
set_option linter.unusedVariables false
set_option linter.unusedSimpArgs false

/-! ### Lists of tokens -/
def tss (ts : List (List ByteArray)) : PV := .sl 1 (ts.map fun t => [strs t])
set_option maxRecDepth 100000 in
set_option maxHeartbeats 4000000 in
theorem joinedC (ts : List (List ByteArray)) (hn : ts.length ≤ 20000) (hb : tl (commas ts) ≤ 4000000000) (S : ASt) : ADet Tryz.prog 65 [.p (tss ts)] S (.p (strs (commas ts))) S := by
  have hlen : ts.length ≤ maxLen := sm_max hn
  unfold tss
  refine ADet.intro mixed Tryz.call65 Tryz.func65 rfl ?_
  simp [List.replicate, List.range, List.range.loop, Tryz.ntmps65]
  refine awp_loopG 9 1 (by decide) [] (fun q : Nat => q ≤ ts.length) (fun q => [.p (.sl 1 (ts.map fun t => [strs t])), .any, .any, .osl 1 ((commas (ts.take q)).map fun s => [pS s]) 0 0, I q, .any, .any, .any, .any, .any, .any, .any, .any, .any, .any, .any, .any, .any, .any, .any, .any, .any, .any]) (fun q => [.tok 9 1 (commas (ts.take q)).length] :: S) (fun q => ts.length - q) 0 (Nat.zero_le _) ?_ ?_ ?_ ?_
  · simp [AV.cuts, AV.cut, AObj.cut, trim, wkR, wkT, wkL, wkN, wkNR, wkNL, commas]
  · simp [AV.cuts, AV.cut, AObj.cut, trim, wkR, wkT, wkL, wkN, wkNR, wkNL]
  · simp [commas]
  intro q hq
  by_cases hlt : q < ts.length
  · have hT : commas (ts.take (q + 1)) = commas (ts.take q) ++ ((if q = 0 then [] else [(⟨#[44]⟩ : ByteArray)]) ++ ts[q]) := by
      rw [List.take_succ_eq_append_getElem hlt, commas_snoc]
      have : (ts.take q).length = q := by simp; omega
      rw [this]
    have hsz := tl_commas_take ts (q + 1)
    have hln := len_tl (commas (ts.take (q + 1)))
    rw [hT] at hsz hln
    rw [List.length_append, List.length_append] at hln
    generalize ht : ts[q] = t at *
    generalize hcq : commas (ts.take q) = cq at *
    rcases Nat.eq_zero_or_pos q with h0 | h0
    · have h00 : ¬ 0 < q := by omega
      simp only [h0, if_true, List.length_nil] at hln
      have e1 : cq.length + t.length ≤ 4294967296 := by simp only [h0, if_true] at hsz; omega
      simp [List.replicate, List.range, List.range.loop, AV.cuts, AV.cut, AObj.cut, trim, wkR, wkT, wkL, wkN, wkNR, wkNL, resA, resOne, retA, hlt, ht, h00, strs, e1]
      exact ⟨q + 1, hlt, by omega, ⟨by rw [hT, if_pos h0]; simp, wrap_succ hlt⟩, by rw [hT, if_pos h0]; simp⟩
    · have hne : ¬ q = 0 := by omega
      simp only [hne, if_false, List.length_singleton] at hln hsz
      have e1 : cq.length + 1 ≤ 4294967296 := by omega
      have e2 : cq.length + 1 + t.length ≤ 4294967296 := by omega
      simp [List.replicate, List.range, List.range.loop, AV.cuts, AV.cut, AObj.cut, trim, wkR, wkT, wkL, wkN, wkNR, wkNL, resA, resOne, retA, hlt, ht, h0, strs, e1, e2]
      exact ⟨q + 1, hlt, by omega, ⟨by rw [hT, if_neg hne]; simp, wrap_succ hlt⟩, by rw [hT, if_neg hne]; simp; omega⟩
  · have : ts.take q = ts := List.take_of_length_le (by omega)
    simp [List.replicate, List.range, List.range.loop, AV.cuts, AV.cut, AObj.cut, trim, wkR, wkT, wkL, wkN, wkNR, wkNL, resA, resOne, retA, hlt, this, strs]

/-! ### Lines -/
def lineB : List ByteArray → ByteArray
  | [] => emS
  | s :: l => l.foldl (fun b t => b ++ (⟨#[32]⟩ : ByteArray) ++ t) s
theorem em_append (b : ByteArray) : emS ++ b = b := by
  apply ByteArray.ext
  simp
theorem lineB_snoc (l : List ByteArray) (t : ByteArray) : lineB (l ++ [t]) = if l.length = 0 then t else lineB l ++ (⟨#[32]⟩ : ByteArray) ++ t := by
  cases l with
  | nil => rfl
  | cons s l => simp [lineB, List.foldl_append]
theorem bytesOf_bytesR (b : ByteArray) : bytesOf (bytesR b) = some b.data.toList := by
  unfold bytesR
  generalize b.data.toList = l
  induction l with
  | nil => rfl
  | cons c l ih =>
    have h : (0 : Int) ≤ (c.toNat : Int) ∧ (c.toNat : Int) < 256 := by have := c.toNat_lt; omega
    have e : UInt8.ofNat (c.toNat : Int).toNat = c := by simp
    simp only [List.map_cons, bytesOf, ih, if_pos h, Option.map_some, e]
theorem lineB_tl : ∀ l : List ByteArray, (lineB l).size ≤ tl l
  | [] => Nat.le_refl _
  | s :: l => by
    have key : ∀ (l : List ByteArray) (b : ByteArray), (l.foldl (fun b t => b ++ (⟨#[32]⟩ : ByteArray) ++ t) b).size ≤ b.size + tl l := fun l => by
      induction l with
      | nil => intro b; exact Nat.le_refl _
      | cons t l ih =>
        intro b
        have := ih (b ++ (⟨#[32]⟩ : ByteArray) ++ t)
        have hs : (⟨#[32]⟩ : ByteArray).size = 1 := rfl
        rw [ByteArray.size_append, ByteArray.size_append, hs] at this
        rw [List.foldl_cons, tl_cons]; omega
    have := key l s
    rw [tl_cons]; simp only [lineB]; omega
set_option maxRecDepth 100000 in
set_option maxHeartbeats 4000000 in
theorem lineC (l : List ByteArray) (hn : l.length ≤ 2000000) (hb : tl l ≤ 4000000000) (S : ASt) : ADet Tryz.prog 8 [.p (strs l)] S (Sg (lineB l)) S := by
  have hlen : l.length ≤ maxLen := by unfold maxLen; omega
  unfold strs
  refine ADet.intro mixed Tryz.call8 Tryz.func8 rfl ?_
  simp [List.replicate, List.range, List.range.loop, Tryz.ntmps8]
  refine awp_loopG 5 1 (by decide) [] (fun q : Nat => q ≤ l.length) (fun q => [.p (.sl 1 (l.map fun s => [pS s])), .any, .any, .osl 1 (bytesR (lineB (l.take q))) 0 0, I q, .any, .any, .any, .any, .any, .any, .any, .any, .any, .any, .any, .any, .any, .any, .any, .any, .any, .any, .any]) (fun q => [.tok 5 1 (lineB (l.take q)).size] :: S) (fun q => l.length - q) 0 (Nat.zero_le _) ?_ ?_ ?_ ?_
  · simp [AV.cuts, AV.cut, AObj.cut, trim, wkR, wkT, wkL, wkN, wkNR, wkNL, lineB, bytesR]
  · simp [AV.cuts, AV.cut, AObj.cut, trim, wkR, wkT, wkL, wkN, wkNR, wkNL]
  · rfl
  intro q hq
  by_cases hlt : q < l.length
  · have hT : lineB (l.take (q + 1)) = if q = 0 then l[q] else lineB (l.take q) ++ (⟨#[32]⟩ : ByteArray) ++ l[q] := by
      rw [List.take_succ_eq_append_getElem hlt, lineB_snoc]
      have : (l.take q).length = q := by simp; omega
      rw [this]
    have hsz := lineB_tl (l.take (q + 1))
    have htt : tl (l.take (q + 1)) ≤ tl l := by
      conv => rhs; rw [← List.take_append_drop (q + 1) l, tl_append]
      omega
    rw [hT] at hsz
    generalize hs : l[q] = s at *
    rcases Nat.eq_zero_or_pos q with h0 | h0
    · have h00 : ¬ 0 < q := by omega
      have hcq : lineB (l.take q) = emS := by rw [h0]; rfl
      rw [if_pos h0] at hsz hT
      have e1 : s.size ≤ 4294967296 := by omega
      have hbe : bytesR emS = [] := rfl
      have hse : emS.size = 0 := rfl
      simp [List.replicate, List.range, List.range.loop, AV.cuts, AV.cut, AObj.cut, trim, wkR, wkT, wkL, wkN, wkNR, wkNL, resA, resOne, retA, hlt, hs, h00, hcq, appS, bytesR_len, e1, hbe, hse]
      exact ⟨q + 1, hlt, by omega, ⟨by rw [hT], wrap_succ hlt⟩, by rw [hT]⟩
    · have hne : ¬ q = 0 := by omega
      rw [if_neg hne] at hsz hT
      have hs1 : (⟨#[32]⟩ : ByteArray).size = 1 := rfl
      rw [ByteArray.size_append, ByteArray.size_append, hs1] at hsz
      generalize lineB (l.take q) = b at *
      have e1 : b.size + 1 ≤ 4294967296 := by omega
      have e2 : b.size + 1 + s.size ≤ 4294967296 := by omega
      have hr : bytesR (⟨#[32]⟩ : ByteArray) = [[.v (.int .u8 32)]] := rfl
      simp [List.replicate, List.range, List.range.loop, AV.cuts, AV.cut, AObj.cut, trim, wkR, wkT, wkL, wkN, wkNR, wkNL, resA, resOne, retA, hlt, hs, h0, appS, bytesR_len, e1, e2]
      exact ⟨q + 1, hlt, by omega, ⟨by rw [hT, bytesR_append, bytesR_append, hr]; simp, wrap_succ hlt⟩, by rw [hT, ByteArray.size_append, ByteArray.size_append, hs1]⟩
  · have : l.take q = l := List.take_of_length_le (by omega)
    simp [List.replicate, List.range, List.range.loop, AV.cuts, AV.cut, AObj.cut, trim, wkR, wkT, wkL, wkN, wkNR, wkNL, resA, resOne, retA, hlt, this, bytesOf_bytesR]
end Go.Proofs.YtldglgdejmljnaaGreatDoor

namespace Go.Proofs.YtldglgdejmljnaaGreatDoor
open Go.RowKit
set_option linter.unusedVariables false
set_option linter.unusedSimpArgs false

set_option maxRecDepth 100000 in
set_option maxHeartbeats 4000000 in
theorem r4TypeC : ∀ (t : Ty) (d0 : Int), t.whole d0 = true → tl t.tk ≤ 4000000000 → ∀ S, ADet Tryz.prog 9 [tyV t] S (.p (strs t.tk)) S := by
  refine Ty.ind fun t ih d0 hw hb S => ?_
  have hlt := len_tl t.tk
  rw [tyTk_eq] at hb hlt ⊢
  refine ADet.intro mixed Tryz.call9 Tryz.func9 rfl ?_
  rcases ty_cases hw with ⟨hk, ha⟩ | ⟨hk, ha⟩ | ⟨h5, h14, h10, x, ha, hx⟩
  · skip
    by_cases hop1 : t.kind = 1
    · simp [List.replicate, List.range, List.range.loop, resA, resOne, retA, Tryz.ntmps9, hop1, ha, strs, kindW, kindL]
    by_cases hop2 : t.kind = 2
    · simp [List.replicate, List.range, List.range.loop, resA, resOne, retA, Tryz.ntmps9, hop2, ha, strs, kindW, kindL]
    by_cases hop3 : t.kind = 3
    · simp [List.replicate, List.range, List.range.loop, resA, resOne, retA, Tryz.ntmps9, hop3, ha, strs, kindW, kindL]
    by_cases hop10 : t.kind = 10
    · simp [List.replicate, List.range, List.range.loop, resA, resOne, retA, Tryz.ntmps9, hop10, ha, strs, kindW, kindL]
    omega
  · simp [List.replicate, List.range, List.range.loop, resA, resOne, retA, Tryz.ntmps9, hk, ha, strs]
  have htkh : Ty.tkh t.args = x.tk := by rw [ha]; rfl
  rw [htkh] at hb hlt ⊢
  have hxb : tl x.tk ≤ 4000000000 := by
    revert hb
    repeat' split
    all_goals first
      | (simp only [tl_cons, tl_append, tl_nil]; omega)
      | (rename_i hh; rw [ha] at hh; simp at hh)
  have hih := ih x (by rw [ha]; simp) _ hx hxb
  have hxl := len_tl x.tk
  have e1 : 1 + x.tk.length ≤ 4294967296 := by omega
  have e2 : 2 + x.tk.length ≤ 4294967296 := by omega
  have e3 : 2 + x.tk.length + 1 ≤ 4294967296 := by omega
  have e4 : x.tk.length ≤ 4294967293 := by omega
  have e6 : x.tk.length ≤ 4294967294 := by omega
  have e7 : x.tk.length ≤ 4294967295 := by omega
  have e5 : 2 + x.tk.length = x.tk.length + 1 + 1 := by omega
  by_cases hop13 : t.kind = 13
  · simp [List.replicate, List.range, List.range.loop, Tryz.ntmps9, hop13, ha, tyEnc]
    refine ⟨_, _, hih _, ?_⟩
    simp [List.replicate, List.range, List.range.loop, resA, resOne, retA, hop13, ha, strs, e1]
  by_cases hop14 : t.kind = 14
  · simp [List.replicate, List.range, List.range.loop, Tryz.ntmps9, hop14, ha, tyEnc]
    refine ⟨_, _, hih _, ?_⟩
    simp [List.replicate, List.range, List.range.loop, resA, resOne, retA, hop14, ha, strs, e2]
  by_cases hop5 : t.kind = 5
  · simp [List.replicate, List.range, List.range.loop, Tryz.ntmps9, hop5, ha, tyEnc]
    refine ⟨_, _, hih _, ?_⟩
    simp [List.replicate, List.range, List.range.loop, resA, resOne, retA, hop5, ha, strs, e4, e5, e6, e7, kindW, kindL]
  by_cases hop6 : t.kind = 6
  · simp [List.replicate, List.range, List.range.loop, Tryz.ntmps9, hop6, ha, tyEnc]
    refine ⟨_, _, hih _, ?_⟩
    simp [List.replicate, List.range, List.range.loop, resA, resOne, retA, hop6, ha, strs, e4, e5, e6, e7, kindW, kindL]
  by_cases hop7 : t.kind = 7
  · simp [List.replicate, List.range, List.range.loop, Tryz.ntmps9, hop7, ha, tyEnc]
    refine ⟨_, _, hih _, ?_⟩
    simp [List.replicate, List.range, List.range.loop, resA, resOne, retA, hop7, ha, strs, e4, e5, e6, e7, kindW, kindL]
  by_cases hop8 : t.kind = 8
  · simp [List.replicate, List.range, List.range.loop, Tryz.ntmps9, hop8, ha, tyEnc]
    refine ⟨_, _, hih _, ?_⟩
    simp [List.replicate, List.range, List.range.loop, resA, resOne, retA, hop8, ha, strs, e4, e5, e6, e7, kindW, kindL]
  by_cases hop9 : t.kind = 9
  · simp [List.replicate, List.range, List.range.loop, Tryz.ntmps9, hop9, ha, tyEnc]
    refine ⟨_, _, hih _, ?_⟩
    simp [List.replicate, List.range, List.range.loop, resA, resOne, retA, hop9, ha, strs, e4, e5, e6, e7, kindW, kindL]
  by_cases hop11 : t.kind = 11
  · simp [List.replicate, List.range, List.range.loop, Tryz.ntmps9, hop11, ha, tyEnc]
    refine ⟨_, _, hih _, ?_⟩
    simp [List.replicate, List.range, List.range.loop, resA, resOne, retA, hop11, ha, strs, e4, e5, e6, e7, kindW, kindL]
  by_cases hop12 : t.kind = 12
  · simp [List.replicate, List.range, List.range.loop, Tryz.ntmps9, hop12, ha, tyEnc]
    refine ⟨_, _, hih _, ?_⟩
    simp [List.replicate, List.range, List.range.loop, resA, resOne, retA, hop12, ha, strs, e4, e5, e6, e7, kindW, kindL]
  omega

theorem pathTk_len (l : List ByteArray) : (pathTk l).length = 2 * l.length := by
  induction l with
  | nil => rfl
  | cons s l ih => simp only [pathTk, List.length_cons, ih]; omega
set_option maxRecDepth 100000 in
set_option maxHeartbeats 4000000 in
theorem r4PlaceC (x : Pl) (hp : x.path.length ≤ 20000) (S : ASt) : ADet Tryz.prog 14 [plV x] S (.p (strs x.tk)) S := by
  have hlen : x.path.length ≤ maxLen := sm_max hp
  refine ADet.intro mixed Tryz.call14 Tryz.func14 rfl ?_
  simp [List.replicate, List.range, List.range.loop, Tryz.ntmps14, strs]
  refine awp_loop (fun q : Nat => q ≤ x.path.length) (fun q => [.any, .ptr 0 0 0, .any, .osl 1 ((x.name :: pathTk (x.path.take q)).map fun s => [pS s]) 0 1, I q, .any, .any, .any, .any, .any, .any, .any, .any, .any, .any, .any, .any, .any, .any, .any, .any, .any, .any, .any]) (fun q => [.cells [Sg x.name, .p (.sl 1 (x.path.map fun s => [pS s]))] 27, .tok 9 1 (1 + 2 * q)] :: S) (fun q => x.path.length - q) 0 (Nat.zero_le _) ?_ ?_ ?_
  · simp [AV.cuts, AV.cut, AObj.cut, trim, wkR, wkT, wkL, wkN, wkNR, wkNL, pathTk]
  · simp [AV.cuts, AV.cut, AObj.cut, trim, wkR, wkT, wkL, wkN, wkNR, wkNL]
  rintro q hq
  by_cases hlt : q < x.path.length
  · have hT : pathTk (x.path.take (q + 1)) = pathTk (x.path.take q) ++ [(⟨#[46]⟩ : ByteArray), x.path[q]] := by rw [take_snoc _ hlt, pathTk_append]; rfl
    have hl : (pathTk (x.path.take q)).length = 2 * q := by rw [pathTk_len, List.length_take]; omega
    generalize hs : x.path[q] = s at *
    have e1 : 1 + 2 * q = 2 * q + 1 := by omega
    have e2 : 2 * q + 1 + 2 ≤ 4294967296 := by omega
    simp [List.replicate, List.range, List.range.loop, AV.cuts, AV.cut, AObj.cut, trim, wkR, wkT, wkL, wkN, wkNR, wkNL, resA, resOne, retA, hlt, hs, hl, e1, e2]
    exact ⟨q + 1, hlt, by omega, ⟨by rw [hT]; simp, wrap_succ hlt⟩, by omega⟩
  · have : x.path.take q = x.path := List.take_of_length_le (by omega)
    simp [List.replicate, List.range, List.range.loop, AV.cuts, AV.cut, AObj.cut, trim, wkR, wkT, wkL, wkN, wkNR, wkNL, resA, resOne, retA, hlt, this, Pl.tk, strs]

end Go.Proofs.YtldglgdejmljnaaGreatDoor

namespace Go.Proofs.YtldglgdejmljnaaGreatDoor
open Go.RowKit
set_option linter.unusedVariables false
set_option linter.unusedSimpArgs false

/-- the reference writes the same tokens -/
def R4 (e : Ex) : Prop := ∀ S, ADet Tryz.prog 12 [exV e] S (.p (strs e.tk)) S
set_option maxRecDepth 100000 in
set_option maxHeartbeats 1000000 in
theorem sideC (e : Ex) (he : R4 e) (least : Int) (hb : tl e.tk ≤ 3000000000) (S : ASt) : ADet Tryz.prog 36 [exV e, I least] S (.p (strs (parTk e.op least e.tk))) S := by
  refine ADet.intro mixed Tryz.call36 Tryz.func36 rfl ?_
  have hl := len_tl e.tk
  have e1 : 1 + e.tk.length ≤ 4294967296 := by omega
  have e2 : 1 + e.tk.length = e.tk.length + 1 := by omega
  have e3 : e.tk.length ≤ 4294967294 := by omega
  have e4 : e.tk.length + 1 + 1 ≤ 4294967296 := by omega
  have e5 : e.tk.length ≤ 4294967295 := by omega
  simp [List.replicate, List.range, List.range.loop, Tryz.ntmps36]
  refine ⟨_, _, strengthC e.op _, ?_⟩
  unfold parTk
  by_cases h : signI e.op < least
  · have h' : ¬ least ≤ signI e.op := by omega
    simp [List.replicate, List.range, List.range.loop, h, h']
    refine ⟨_, _, he _, ?_⟩
    simp [List.replicate, List.range, List.range.loop, resA, resOne, retA, h, h', strs, e1, e2, e3, e4, e5]
  · have h' : least ≤ signI e.op := by omega
    simp [List.replicate, List.range, List.range.loop, h, h']
    refine ⟨_, _, he _, ?_⟩
    simp [List.replicate, List.range, List.range.loop, resA, resOne, retA, h, h']
set_option maxRecDepth 100000 in
set_option maxHeartbeats 4000000 in
theorem args4C (l : List Ex) (hl : ∀ e ∈ l, R4 e) (hn : l.length ≤ 20000) (hb : tl (commas (l.map Ex.tk)) ≤ 3000000000) (op en : ByteArray) (S : ASt) : ADet Tryz.prog 33 [.p (.sl 8 (l.map Ex.enc)), Sg op, Sg en] S (.p (strs (op :: (commas (l.map Ex.tk) ++ [en])))) S := by
  have hlen : l.length ≤ maxLen := sm_max hn
  have hj := fun S => joinedC (l.map Ex.tk) (by simpa using hn) (by omega) S
  have hcl := len_tl (commas (l.map Ex.tk))
  generalize hcm : commas (l.map Ex.tk) = cm at *
  have e1 : 1 + cm.length ≤ 4294967296 := by omega
  have e2 : 1 + cm.length = cm.length + 1 := by omega
  have e3 : cm.length ≤ 4294967294 := by omega
  have e4 : cm.length + 1 + 1 ≤ 4294967296 := by omega
  have e6 : cm.length ≤ 4294967295 := by omega
  refine ADet.intro mixed Tryz.call33 Tryz.func33 rfl ?_
  simp [List.replicate, List.range, List.range.loop, Tryz.ntmps33]
  refine awp_loopG 25 1 (by decide) [] (fun q : Nat => q ≤ l.length) (fun q => [.p (.sl 8 (l.map Ex.enc)), Sg op, Sg en, .any, .any, .any, .any, .osl 1 (((l.map Ex.tk).take q).map fun t => [strs t]) 0 0, I q, .any, .any, .any, .any, .any, .any, .any, .any, .any, .any, .any, .any, .any, .any, .any, .any, .any, .any, .any, .any, .any, .any, .any, .any, .any, .any]) (fun q => [.tok 25 1 q] :: S) (fun q => l.length - q) 0 (Nat.zero_le _) ?_ ?_ ?_ ?_
  · simp [AV.cuts, AV.cut, AObj.cut, trim, wkR, wkT, wkL, wkN, wkNR, wkNL]
  · simp [AV.cuts, AV.cut, AObj.cut, trim, wkR, wkT, wkL, wkN, wkNR, wkNL]
  · rfl
  intro q hq
  by_cases hlt : q < l.length
  · have hT : (l.map Ex.tk).take (q + 1) = (l.map Ex.tk).take q ++ [l[q].tk] := by rw [List.take_succ_eq_append_getElem (by simpa using hlt)]; simp
    have hT2 : (l.map ((fun t => [strs t]) ∘ Ex.tk)).take (q + 1) = (l.map ((fun t => [strs t]) ∘ Ex.tk)).take q ++ [[strs l[q].tk]] := by rw [List.take_succ_eq_append_getElem (by simpa using hlt)]; simp
    have hx := hl _ (List.getElem_mem hlt)
    generalize hxq : l[q] = x at *
    have hmin : min q l.length = q := by omega
    have e5 : q + 1 ≤ 4294967296 := by omega
    simp [List.replicate, List.range, List.range.loop, AV.cuts, AV.cut, AObj.cut, trim, wkR, wkT, wkL, wkN, wkNR, wkNL, resA, resOne, retA, hlt, hxq, exEnc]
    refine ⟨_, _, hx _, ?_⟩
    simp [List.replicate, List.range, List.range.loop, AV.cuts, AV.cut, AObj.cut, trim, wkR, wkT, wkL, wkN, wkNR, wkNL, resA, resOne, retA, hmin, e5]
    exact ⟨q + 1, hlt, by omega, ⟨by first | rw [hT2] | (simp only [List.map_take, List.map_map]; rw [hT2]) | (rw [hT]; simp), wrap_succ hlt⟩, rfl⟩
  · have hq2 : q = l.length := by omega
    have : (l.map Ex.tk).take q = l.map Ex.tk := List.take_of_length_le (by simp; omega)
    simp [List.replicate, List.range, List.range.loop, AV.cuts, AV.cut, AObj.cut, trim, wkR, wkT, wkL, wkN, wkNR, wkNL, resA, resOne, retA, hlt, this]
    refine ⟨_, _, ADet.toP (as1 := []) (as2 := []) (q := tss (l.map Ex.tk)) (by simp [AV.toP, tss]) (hj _), ?_⟩
    simp [List.replicate, List.range, List.range.loop, AV.cuts, AV.cut, AObj.cut, trim, wkR, wkT, wkL, wkN, wkNR, wkNL, resA, resOne, retA, strs, e1, e2, e3, e4, e6]
set_option maxRecDepth 100000 in
set_option maxHeartbeats 4000000 in
theorem given4C (ns : List ByteArray) (l : List Ex) (hnl : ns.length = l.length) (hl : ∀ e ∈ l, R4 e) (hn : l.length ≤ 20000) (hb : tl (commas (givenTk ns (l.map Ex.tk))) ≤ 3000000000) (S : ASt) : ADet Tryz.prog 34 [.p (strs ns), .p (.sl 8 (l.map Ex.enc))] S (.p (strs (commas (givenTk ns (l.map Ex.tk))))) S := by
  have hlen : ns.length ≤ maxLen := by rw [hnl]; exact sm_max hn
  have hgl := givenTk_len ns (l.map Ex.tk) (by simpa using hnl)
  have hga := givenTk_at ns (l.map Ex.tk) (by simpa using hnl)
  generalize hts : givenTk ns (l.map Ex.tk) = ts at *
  unfold strs
  refine ADet.intro mixed Tryz.call34 Tryz.func34 rfl ?_
  simp [List.replicate, List.range, List.range.loop, Tryz.ntmps34]
  refine awp_loopG 9 1 (by decide) [] (fun q : Nat => q ≤ ns.length) (fun q => [.p (.sl 1 (ns.map fun s => [pS s])), .p (.sl 8 (l.map Ex.enc)), .any, .any, .any, .osl 1 ((commas (ts.take q)).map fun s => [pS s]) 0 0, I q, .any, .any, .any, .any, .any, .any, .any, .any, .any, .any, .any, .any, .any, .any, .any, .any, .any, .any, .any, .any, .any, .any, .any, .any, .any, .any]) (fun q => [.tok 9 1 (commas (ts.take q)).length] :: S) (fun q => ns.length - q) 0 (Nat.zero_le _) ?_ ?_ ?_ ?_
  · simp [AV.cuts, AV.cut, AObj.cut, trim, wkR, wkT, wkL, wkN, wkNR, wkNL, commas]
  · simp [AV.cuts, AV.cut, AObj.cut, trim, wkR, wkT, wkL, wkN, wkNR, wkNL]
  · simp [commas]
  intro q hq
  by_cases hlt : q < ns.length
  · have hlt2 : q < ts.length := by omega
    have hlt3 : q < l.length := by omega
    have hx := hl _ (List.getElem_mem hlt3)
    have hga2 : ts[q] = ns[q] :: (⟨#[61]⟩ : ByteArray) :: l[q].tk := by rw [hga q hlt hlt2]; simp
    have hT : commas (ts.take (q + 1)) = commas (ts.take q) ++ ((if q = 0 then [] else [(⟨#[44]⟩ : ByteArray)]) ++ ts[q]) := by
      rw [List.take_succ_eq_append_getElem hlt2, commas_snoc]
      have : (ts.take q).length = q := by simp; omega
      rw [this]
    have hsz := tl_commas_take ts (q + 1)
    have hln := len_tl (commas (ts.take (q + 1)))
    rw [hT, hga2] at hsz hln
    rw [hga2] at hT
    rw [List.length_append, List.length_append] at hln
    generalize hnq : ns[q] = nq at *
    generalize hxq : l[q] = x at *
    generalize hcq : commas (ts.take q) = cq at *
    simp only [List.length_cons] at hln
    rcases Nat.eq_zero_or_pos q with h0 | h0
    · have h00 : ¬ 0 < q := by omega
      simp only [h0, if_true, List.length_nil] at hln
      rw [if_pos h0] at hsz hT
      have e1 : cq.length + 2 ≤ 4294967296 := by omega
      have e2 : cq.length + 2 + x.tk.length ≤ 4294967296 := by omega
      simp [List.replicate, List.range, List.range.loop, AV.cuts, AV.cut, AObj.cut, trim, wkR, wkT, wkL, wkN, wkNR, wkNL, resA, resOne, retA, hlt, hlt3, hnq, hxq, h00, e1, exEnc]
      refine ⟨_, _, hx _, ?_⟩
      simp [List.replicate, List.range, List.range.loop, AV.cuts, AV.cut, AObj.cut, trim, wkR, wkT, wkL, wkN, wkNR, wkNL, resA, resOne, retA, strs, e2]
      exact ⟨q + 1, hlt, by omega, ⟨by rw [hT]; simp, wrap_succ hlt⟩, by rw [hT]; simp; omega⟩
    · have hne : ¬ q = 0 := by omega
      simp only [hne, if_false, List.length_singleton] at hln hsz
      rw [if_neg hne] at hT
      have e1 : cq.length + 1 ≤ 4294967296 := by omega
      have e2 : cq.length + 1 + 2 ≤ 4294967296 := by omega
      have e3 : cq.length + 1 + 2 + x.tk.length ≤ 4294967296 := by omega
      simp [List.replicate, List.range, List.range.loop, AV.cuts, AV.cut, AObj.cut, trim, wkR, wkT, wkL, wkN, wkNR, wkNL, resA, resOne, retA, hlt, hlt3, hnq, hxq, h0, e1, e2, exEnc]
      refine ⟨_, _, hx _, ?_⟩
      simp [List.replicate, List.range, List.range.loop, AV.cuts, AV.cut, AObj.cut, trim, wkR, wkT, wkL, wkN, wkNR, wkNL, resA, resOne, retA, strs, e3]
      exact ⟨q + 1, hlt, by omega, ⟨by rw [hT]; simp, wrap_succ hlt⟩, by rw [hT]; simp; omega⟩
  · have : ts.take q = ts := List.take_of_length_le (by omega)
    simp [List.replicate, List.range, List.range.loop, AV.cuts, AV.cut, AObj.cut, trim, wkR, wkT, wkL, wkN, wkNR, wkNL, resA, resOne, retA, hlt, this]
end Go.Proofs.YtldglgdejmljnaaGreatDoor
