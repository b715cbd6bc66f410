/- weftwaylaw04.ShowSides in the logic over abstract values. The row is in a text of its own. -/
import Derived.Test.YtdhefienajlohaaGreatDoorCLwW
namespace Go.Proofs.YtdhefienajlohaaGreatDoor
open Go.RowKit
attribute [local simp] List.replicate List.range List.range.loop resA resOne retA virtL virtO virt_get List.find? nextD_eq awpD_nil awpD_cons LCp LCl refL
set_option linter.unusedVariables false
set_option linter.unusedSimpArgs false

theorem twoE_tk (op : Int) (a b : Ex) (h7 : signI op < 7) : (twoE op a b).tk = parTk a.op (if signI op = 3 then 4 else signI op) a.tk ++ signB op :: parTk b.op (signI op + 1) b.tk := by
  rw [exTk_eq]
  show exTk1 op 0 emS emS ⟨emS, []⟩ [(a.op, a.tk), (b.op, b.tk)] = _
  unfold exTk1
  rw [if_pos h7]
theorem parTk_ne {o k : Int} {l : List ByteArray} (h : l ≠ []) : parTk o k l ≠ [] := by
  unfold parTk; split
  · simp
  · exact h
def parS (o k : Int) (s : ByteArray) : ByteArray := if signI o < k then (⟨#[40, 32]⟩ : ByteArray) ++ s ++ (⟨#[32, 41]⟩ : ByteArray) else s
theorem parTk_text {o k : Int} {l : List ByteArray} (h : l ≠ []) : lineB (parTk o k l) = parS o k (lineB l) := by
  unfold parTk parS
  split
  · show lineB ([(⟨#[40]⟩ : ByteArray)] ++ (l ++ [(⟨#[41]⟩ : ByteArray)])) = _
    rw [lineB_append _ _ (by simp) (by simp), lineB_append _ _ h (by simp)]
    generalize lineB l = x
    apply ByteArray.ext
    apply Array.ext'
    simp [lineB]
  · rfl
theorem two_text {op : Int} {a b : Ex} (h7 : signI op < 7) (h3 : signI op ≠ 3) (ha : a.tk ≠ []) (hb : b.tk ≠ []) : textOf (twoE op a b).tk = parS a.op (signI op) (textOf a.tk) ++ ((⟨#[32]⟩ : ByteArray) ++ signB op ++ (⟨#[32]⟩ : ByteArray)) ++ parS b.op (signI op + 1) (textOf b.tk) := by
  rw [textOf_line, textOf_line, textOf_line, twoE_tk _ _ _ h7, if_neg h3]
  show lineB (parTk a.op (signI op) a.tk ++ ([signB op] ++ parTk b.op (signI op + 1) b.tk)) = _
  rw [lineB_append _ _ (parTk_ne ha) (by simp), lineB_append _ _ (by simp) (parTk_ne hb), parTk_text ha, parTk_text hb]
  show _ ++ _ ++ (signB op ++ _ ++ _) = _
  simp only [app_assoc]
theorem twoE_whole (op : Int) (h : 9 ≤ op ∧ op ≤ 17) (a b : Ex) : exWhole1 (twoE op a b) = ((!lentOp a.op && a.whole 39) && (!lentOp b.op && b.whole 39)) := by
  unfold exWhole1
  rw [exWhole_eq, allUp_and]
  have h1 : lentOp op = false := by simp [lentOp]; omega
  have h2 : shO op = true := by simp [shO]; omega
  have h3 : labB op 0 emS emS = true := by unfold labB; rw [if_neg (by omega), if_neg (by omega), if_neg (by omega), if_neg (by omega), if_neg (by omega)]; simp
  have h4 : shL op = 2 := by unfold shL; rw [if_neg (by omega), if_pos h]
  have h5 : shM op = 2 := by unfold shM; rw [if_neg (by omega), if_neg (by omega), if_pos h]
  have h6 : shP op = false := by simp [shP]; omega
  have h7 : (op == 18) = false := by simp; omega
  have h8 : op ≠ 19 := by omega
  simp [twoE, Ex.op, Ex.int, Ex.name, Ex.second, Ex.place, Ex.args, exHead, h1, h2, h3, h4, h5, h6, h7, h8, placedB, noPlB]
theorem sides_ex (a b : Ex) : exprS (twoE 9 a b) = emS ∨ (exprS (twoE 9 a b) = parS a.op 4 (exprS a) ++ (⟨#[32, 43, 32]⟩ : ByteArray) ++ parS b.op 5 (exprS b) ∧ exprS (twoE 11 a b) = parS a.op 5 (exprS a) ++ (⟨#[32, 42, 32]⟩ : ByteArray) ++ parS b.op 6 (exprS b)) := by
  unfold exprS
  rw [twoE_whole 9 (by omega), twoE_whole 11 (by omega)]
  cases hw : ((!lentOp a.op && a.whole 39) && (!lentOp b.op && b.whole 39)) with
  | false => exact .inl (by simp)
  | true =>
    simp only [Bool.and_eq_true, Bool.not_eq_true'] at hw
    obtain ⟨⟨a1, a2⟩, b1, b2⟩ := hw
    have a3 := exWhole_mono a 39 40 (by omega) a2
    have b3 := exWhole_mono b 39 40 (by omega) b2
    have a4 : exWhole1 a = true := by simp [exWhole1, a1, a3]
    have b4 : exWhole1 b = true := by simp [exWhole1, b1, b3]
    have a5 := tk_ne (ex_text a3)
    have b5 := tk_ne (ex_text b3)
    simp only [a4, b4, if_true]
    exact .inr ⟨two_text (op := 9) (by decide) (by decide) a5 b5, two_text (op := 11) (by decide) (by decide) a5 b5⟩
theorem parS_size (o k : Int) (s : ByteArray) : (parS o k s).size ≤ s.size + 4 := by
  unfold parS
  have z1 : (⟨#[40, 32]⟩ : ByteArray).size = 2 := rfl
  have z2 : (⟨#[32, 41]⟩ : ByteArray).size = 2 := rfl
  split
  · rw [ByteArray.size_append, ByteArray.size_append]; omega
  · omega

set_option maxRecDepth 100000 in
set_option maxHeartbeats 8000000 in
theorem showSidesC (a b : Ex) (ha : ExRg a) (hb : ExRg b) (S : ASt) : ADet Tryz.prog 5 [exV a, exV b] S (B true) S := by
  refine ADet.intro mixed Tryz.call5 Tryz.func5 rfl ?_
  simp [Tryz.ntmps5]
  refine ⟨_, _, awakeC _, ?_⟩
  simp
  refine ⟨_, _, greatExprC a _, ?_⟩
  by_cases h1 : a.room 20000 < 0
  · simp [h1]
  simp [h1]
  refine ⟨_, _, greatExprC b _, ?_⟩
  by_cases h2 : b.room 20000 < 0
  · simp [h2]
  simp [h2]
  have h1' : 0 ≤ a.room 20000 := by omega
  have h2' : 0 ≤ b.room 20000 := by omega
  have has : ExSm a := ex_sm a 20000 (by omega) (by omega) h1'
  have hbs : ExSm b := ex_sm b 20000 (by omega) (by omega) h2'
  have hal : tl a.tk ≤ 1000000 := by have := ex_tl a ha 20000 h1'; omega
  have hbl : tl b.tk ≤ 1000000 := by have := ex_tl b hb 20000 h2'; omega
  have hk1 := exprS_size a
  have hk2 := exprS_size b
  have he0 : emS.size ≤ 20000 := by decide
  have htw : ∀ op, 9 ≤ op → op ≤ 17 → tl (twoE op a b).tk ≤ 4294967296 := fun op h9 h17 => by
    have h7 : signI op < 7 := by
      unfold signI
      repeat' split
      all_goals omega
    rw [twoE_tk _ _ _ h7, tl_append, tl_cons]
    have q1 := parTk_tl a.op (if signI op = 3 then 4 else signI op) a.tk
    have q2 := parTk_tl b.op (signI op + 1) b.tk
    have q3 := signB_size op
    omega
  have sA : ∀ S, ADet Tryz.prog 14 [exV a] S (Sg (exprS a)) S := fun S => showExprC a has ha (by omega) S
  have sB : ∀ S, ADet Tryz.prog 14 [exV b] S (Sg (exprS b)) S := fun S => showExprC b hbs hb (by omega) S
  have sX : ∀ op, 9 ≤ op → op ≤ 17 → ∀ S, ADet Tryz.prog 14 [.agg [U op, I 0, Sg emS, Sg emS, Sg emS, nilS, .p (.sl 8 [[pU a.op, pI a.int, pS a.name, pS a.second, pS a.place.name, strs a.place.path, .sl 8 (a.args.map Ex.enc), pI a.pos], [pU b.op, pI b.int, pS b.name, pS b.second, pS b.place.name, strs b.place.path, .sl 8 (b.args.map Ex.enc), pI b.pos]]), I 0]] S (Sg (exprS (twoE op a b))) S := fun op h9 h17 S =>
    ADet.sub (.cons (.agg (.cons (.refl _) (.cons (.refl _) (.cons (.refl _) (.cons (.refl _) (.cons (.refl _) (.cons (.p (.nil 1)) (.cons (by rw [← exEnc, ← exEnc]; exact .refl _) (.refl _))))))))) (.refl _)) (showExprC (twoE op a b) (.mk _ he0 he0 ⟨he0, by simp [twoE, Ex.place, NmSm]⟩ (by simp [twoE, Ex.args]) (by simp [twoE, Ex.args]; exact ⟨has, hbs⟩)) ((exRg_iff _).2 ⟨by simp [twoE, Ex.int], by simp [twoE, Ex.args]; exact ⟨ha, hb⟩⟩) (htw op h9 h17) S)
  have sX9 := sX 9 (by omega) (by omega)
  have sX11 := sX 11 (by omega) (by omega)
  have hX := sides_ex a b
  generalize exprS a = s at *
  generalize exprS b = t at *
  generalize exprS (twoE 9 a b) = sum at *
  generalize exprS (twoE 11 a b) = product at *
  refine awp_draw [(2, 1)] (by kernel_rfl) (by kernel_rfl) ?_
  simp
  refine ⟨_, _, sA _, ?_⟩
  simp
  refine ⟨_, _, sB _, ?_⟩
  simp
  refine awp_draw [(4, 2), (4, 3), (5, 2), (5, 3)] (by kernel_rfl) (by kernel_rfl) ?_
  simp
  refine ⟨_, _, twoC _ _ _ _ _ _ _ _ _ _ _ _ _ _ _ _ _ _, ?_⟩
  simp
  refine ⟨_, _, sX9 _, ?_⟩
  simp
  refine ⟨_, _, twoC _ _ _ _ _ _ _ _ _ _ _ _ _ _ _ _ _ _, ?_⟩
  simp
  refine ⟨_, _, sX11 _, ?_⟩
  simp
  cases c1 : sEq s emS with
  | true => simp [c1]
  | false =>
  cases c2 : sEq t emS with
  | true => simp [c1, c2]
  | false =>
  cases c3 : sEq sum emS with
  | true => simp [c1, c2, c3]
  | false =>
  obtain ⟨hs, hp⟩ := hX.resolve_left (fun e => by rw [e] at c3; simp at c3)
  have w4 := fun S => weakC a 4 (by omega) S
  have w5 := fun S => weakC b 5 (by omega) S
  have w5' := fun S => weakC a 5 (by omega) S
  have w6 := fun S => weakC b 6 (by omega) S
  have z1 : (⟨#[40, 32]⟩ : ByteArray).size = 2 := rfl
  have z2 : (⟨#[32, 41]⟩ : ByteArray).size = 2 := rfl
  have z3 : (⟨#[32, 43, 32]⟩ : ByteArray).size = 3 := rfl
  have z4 : (⟨#[32, 42, 32]⟩ : ByteArray).size = 3 := rfl
  have b1 : ((⟨#[40, 32]⟩ : ByteArray)).size + s.size ≤ maxLen := by unfold maxLen; omega
  have b2 : ((⟨#[40, 32]⟩ : ByteArray)).size + s.size + ((⟨#[32, 41]⟩ : ByteArray)).size ≤ maxLen := by unfold maxLen; omega
  have b3 : ((⟨#[40, 32]⟩ : ByteArray)).size + t.size ≤ maxLen := by unfold maxLen; omega
  have b4 : ((⟨#[40, 32]⟩ : ByteArray)).size + t.size + ((⟨#[32, 41]⟩ : ByteArray)).size ≤ maxLen := by unfold maxLen; omega
  have p1 := parS_size a.op 4 s
  have p2 := parS_size b.op 5 t
  have p3 := parS_size a.op 5 s
  have p4 := parS_size b.op 6 t
  have b5 : (parS a.op 4 s).size + ((⟨#[32, 43, 32]⟩ : ByteArray)).size ≤ maxLen := by unfold maxLen; omega
  have b6 : (parS a.op 4 s ++ (⟨#[32, 43, 32]⟩ : ByteArray)).size + (parS b.op 5 t).size ≤ maxLen := by unfold maxLen; rw [ByteArray.size_append]; omega
  have b7 : (parS a.op 5 s).size + ((⟨#[32, 42, 32]⟩ : ByteArray)).size ≤ maxLen := by unfold maxLen; omega
  have b8 : (parS a.op 5 s ++ (⟨#[32, 42, 32]⟩ : ByteArray)).size + (parS b.op 6 t).size ≤ maxLen := by unfold maxLen; rw [ByteArray.size_append]; omega
  simp [c1, c2, c3]
  refine ⟨_, _, w4 _, ?_⟩
  by_cases k1 : signI a.op < 4 <;> by_cases k2 : signI b.op < 5 <;> by_cases k3 : signI a.op < 5 <;> by_cases k4 : signI b.op < 6
  all_goals first | (exfalso; omega) | skip
  all_goals simp only [parS, k1, k2, k3, k4, if_true, if_false, ByteArray.size_append] at hs hp b5 b6 b7 b8
  all_goals simp [k1, b1, b2]
  all_goals refine ⟨_, _, w5 _, ?_⟩
  all_goals simp [k2, b3, b4]
  all_goals refine ⟨_, _, w5' _, ?_⟩
  all_goals simp [k3, b1, b2]
  all_goals refine ⟨_, _, w6 _, ?_⟩
  all_goals simp [k4, b3, b4, b5, b6, b7, b8, ← hs, ← hp]
end Go.Proofs.YtdhefienajlohaaGreatDoor
