/- weftwaylaw04.ShowWraps in the logic over abstract values. The row is in a text of its own. -/
import Derived.Test.YtdhefienajlohaaGreatDoorMAw
import Derived.Test.YtdhefienajlohaaGreatDoorMAw
namespace Go.Proofs.YtdhefienajlohaaGreatDoor
open Go.RowKit
attribute [local simp] List.replicate List.range List.range.loop resA resOne retA virtL virtO virt_get List.find? nextD_eq awpD_nil awpD_cons LCp LCl refL
set_option linter.unusedVariables false
set_option linter.unusedSimpArgs false

def boxT (t : Ty) : Ty := .mk 5 emS [t]
def mutT (t : Ty) : Ty := .mk 14 emS [t]
def boxE (e : Ex) : Ex := .mk 21 0 emS emS ⟨emS, []⟩ [e] 0
def kindS (t : Ty) : ByteArray := if t.whole 40 then textOf t.tk else emS
def exprS (e : Ex) : ByteArray := if exWhole1 e then textOf e.tk else emS
theorem tk_ne {l : List ByteArray} (h : 0 < (textOf l).size) : l ≠ [] := by
  rintro rfl
  exact absurd h (by decide)
theorem box_text {t : Ty} (h : t.tk ≠ []) : textOf (boxT t).tk = (⟨#[66, 111, 120, 32, 60, 32]⟩ : ByteArray) ++ textOf t.tk ++ (⟨#[32, 62]⟩ : ByteArray) := by
  rw [textOf_line, textOf_line]
  show lineB ([(⟨#[66, 111, 120]⟩ : ByteArray), (⟨#[60]⟩ : ByteArray)] ++ (t.tk ++ [(⟨#[62]⟩ : ByteArray)])) = _
  rw [lineB_append _ _ (by simp) (by simp), lineB_append _ _ h (by simp)]
  generalize lineB t.tk = x
  apply ByteArray.ext
  apply Array.ext'
  simp [lineB]
theorem mut_text {t : Ty} (h : t.tk ≠ []) : textOf (mutT t).tk = (⟨#[38, 32, 109, 117, 116, 32]⟩ : ByteArray) ++ textOf t.tk := by
  rw [textOf_line, textOf_line]
  show lineB ([(⟨#[38]⟩ : ByteArray), (⟨#[109, 117, 116]⟩ : ByteArray)] ++ t.tk) = _
  rw [lineB_append _ _ (by simp) h]
  generalize lineB t.tk = x
  apply ByteArray.ext
  apply Array.ext'
  simp [lineB]
theorem boxE_tk (e : Ex) : (boxE e).tk = [(⟨#[98, 111, 120]⟩ : ByteArray), (⟨#[40]⟩ : ByteArray)] ++ (e.tk ++ [(⟨#[41]⟩ : ByteArray)]) := by
  rw [exTk_eq]
  simp [boxE, Ex.op, Ex.args, Ex.place, exTk1, signI, wordL, commas]
theorem boxE_text {e : Ex} (h : e.tk ≠ []) : textOf (boxE e).tk = (⟨#[98, 111, 120, 32, 40, 32]⟩ : ByteArray) ++ textOf e.tk ++ (⟨#[32, 41]⟩ : ByteArray) := by
  rw [textOf_line, textOf_line, boxE_tk]
  rw [lineB_append _ _ (by simp) (by simp), lineB_append _ _ h (by simp)]
  generalize lineB e.tk = x
  apply ByteArray.ext
  apply Array.ext'
  simp [lineB]
theorem boxT_whole (t : Ty) (d : Int) (hd : 0 < d) : (boxT t).whole d = t.whole (d - 1) := by
  rw [whole_eq]
  simp [boxT, Ty.kind, Ty.name, Ty.args, plainKind, hd]
theorem mutT_whole (t : Ty) (d : Int) (hd : 0 < d) : (mutT t).whole d = t.whole (d - 1) := by
  rw [whole_eq]
  simp [mutT, Ty.kind, Ty.name, Ty.args, plainKind, hd]
theorem boxE_whole (e : Ex) : exWhole1 (boxE e) = (!lentOp e.op && e.whole 39) := by
  unfold exWhole1
  rw [exWhole_eq, allUp_and]
  simp [boxE, Ex.op, Ex.int, Ex.name, Ex.second, Ex.place, Ex.args, exHead, lentOp, shO, labB, shL, shP, shM, placedB, noPlB]
theorem wraps_ty (t : Ty) : (kindS t = emS ∧ kindS (boxT t) = emS) ∨ (0 < (kindS t).size ∧ kindS (boxT t) = emS) ∨ (0 < (kindS t).size ∧ kindS (boxT t) = (⟨#[66, 111, 120, 32, 60, 32]⟩ : ByteArray) ++ kindS t ++ (⟨#[32, 62]⟩ : ByteArray) ∧ kindS (mutT t) = (⟨#[38, 32, 109, 117, 116, 32]⟩ : ByteArray) ++ kindS t) := by
  unfold kindS
  rw [boxT_whole _ _ (by omega), mutT_whole _ _ (by omega)]
  cases h39 : t.whole 39 with
  | true =>
    have h40 := tyWhole_mono t 39 40 (by omega) h39
    have hp := ty_text h40
    simp only [h40, show (40 : Int) - 1 = 39 from rfl, h39, if_true]
    exact .inr (.inr ⟨hp, box_text (tk_ne hp), mut_text (tk_ne hp)⟩)
  | false =>
    simp only [show (40 : Int) - 1 = 39 from rfl, h39, Bool.false_eq_true, if_false]
    cases h40 : t.whole 40 with
    | true => exact .inr (.inl ⟨by simpa using ty_text h40, by simp⟩)
    | false => exact .inl ⟨by simp, by simp⟩
theorem wraps_ex (e : Ex) : (exprS e = emS ∧ exprS (boxE e) = emS) ∨ (0 < (exprS e).size ∧ exprS (boxE e) = emS) ∨ (0 < (exprS e).size ∧ exprS (boxE e) = (⟨#[98, 111, 120, 32, 40, 32]⟩ : ByteArray) ++ exprS e ++ (⟨#[32, 41]⟩ : ByteArray)) := by
  unfold exprS
  rw [boxE_whole]
  cases hl : lentOp e.op with
  | true => exact .inl ⟨by simp [exWhole1, hl], by simp⟩
  | false =>
    cases h39 : e.whole 39 with
    | true =>
      have h40 := exWhole_mono e 39 40 (by omega) h39
      have hp := ex_text h40
      have hw : exWhole1 e = true := by simp [exWhole1, hl, h40]
      simp only [hw, if_true, Bool.not_false, Bool.true_and]
      exact .inr (.inr ⟨hp, boxE_text (tk_ne hp)⟩)
    | false =>
      simp only [Bool.not_false, Bool.true_and, Bool.false_eq_true, if_false]
      cases h40 : e.whole 40 with
      | true =>
        have hw : exWhole1 e = true := by simp [exWhole1, hl, h40]
        exact .inr (.inl ⟨by rw [if_pos hw]; exact ex_text h40, by simp⟩)
      | false =>
        have hw : exWhole1 e = false := by simp [exWhole1, hl, h40]
        exact .inl ⟨by simp [hw], by simp⟩
theorem kindS_size (t : Ty) : (kindS t).size ≤ tl t.tk := by
  unfold kindS
  split
  · rw [textOf_line]; exact lineB_tl _
  · exact Nat.zero_le _
theorem exprS_size (e : Ex) : (exprS e).size ≤ tl e.tk := by
  unfold exprS
  split
  · rw [textOf_line]; exact lineB_tl _
  · exact Nat.zero_le _

set_option maxRecDepth 100000 in
set_option maxHeartbeats 4000000 in
theorem showWrapsC (t : Ty) (e : Ex) (hrg : ExRg e) (S : ASt) : ADet Tryz.prog 4 [tyV t, exV e] S (B true) S := by
  refine ADet.intro mixed Tryz.call4 Tryz.func4 rfl ?_
  simp [Tryz.ntmps4]
  refine ⟨_, _, awakeC _, ?_⟩
  simp
  refine ⟨_, _, greatTypeC t _, ?_⟩
  by_cases h1 : t.room 20000 < 0
  · simp [h1]
  simp [h1]
  refine ⟨_, _, greatExprC e _, ?_⟩
  by_cases h2 : e.room 20000 < 0
  · simp [h2]
  simp [h2]
  have h1' : 0 ≤ t.room 20000 := by omega
  have h2' : 0 ≤ e.room 20000 := by omega
  have hts : TySm t := ty_sm t 20000 (by omega) (by omega) h1'
  have hes : ExSm e := ex_sm e 20000 (by omega) (by omega) h2'
  have htl : tl t.tk ≤ 1000000 := by have := ty_tl t 20000 h1'; omega
  have hel : tl e.tk ≤ 1000000 := by have := ex_tl e hrg 20000 h2'; omega
  have hk1 := kindS_size t
  have hk2 := exprS_size e
  have sT : ∀ S, ADet Tryz.prog 13 [tyV t] S (Sg (kindS t)) S := fun S => showTypeC t hts (by omega) S
  have sE : ∀ S, ADet Tryz.prog 14 [exV e] S (Sg (exprS e)) S := fun S => showExprC e hes hrg (by omega) S
  have hbt : tl (boxT t).tk ≤ 4294967296 := by
    have : (boxT t).tk = [(⟨#[66, 111, 120]⟩ : ByteArray), (⟨#[60]⟩ : ByteArray)] ++ (t.tk ++ [(⟨#[62]⟩ : ByteArray)]) := rfl
    rw [this, tl_append, tl_append]
    have h1 : tl [(⟨#[66, 111, 120]⟩ : ByteArray), (⟨#[60]⟩ : ByteArray)] = 6 := rfl
    have h2 : tl [(⟨#[62]⟩ : ByteArray)] = 2 := rfl
    omega
  have hmt : tl (mutT t).tk ≤ 4294967296 := by
    have : (mutT t).tk = [(⟨#[38]⟩ : ByteArray), (⟨#[109, 117, 116]⟩ : ByteArray)] ++ t.tk := rfl
    rw [this, tl_append]
    have h1 : tl [(⟨#[38]⟩ : ByteArray), (⟨#[109, 117, 116]⟩ : ByteArray)] = 6 := rfl
    omega
  have hbe : tl (boxE e).tk ≤ 4294967296 := by
    rw [boxE_tk, tl_append, tl_append]
    have h1 : tl [(⟨#[98, 111, 120]⟩ : ByteArray), (⟨#[40]⟩ : ByteArray)] = 6 := rfl
    have h2 : tl [(⟨#[41]⟩ : ByteArray)] = 2 := rfl
    omega
  have he0 : emS.size ≤ 20000 := by decide
  have sB : ∀ S i, ADet Tryz.prog 13 [.agg [U 5, Sg emS, .osl 3 [[pU t.kind, pS t.name, .sl 3 (t.args.map Ty.enc)]] 0 i]] S (Sg (kindS (boxT t))) S := fun S i =>
    ADet.sub (.cons (.agg (.cons (.refl _) (.cons (.refl _) (.cons (by rw [← tyEnc]; exact .osl (.refl _)) (.refl _))))) (.refl _)) (showTypeC (boxT t) (.mk _ he0 (by simp [boxT, Ty.args]) (by simp [boxT, Ty.args]; exact hts)) hbt S)
  have sR : ∀ S i, ADet Tryz.prog 13 [.agg [U 14, Sg emS, .osl 3 [[pU t.kind, pS t.name, .sl 3 (t.args.map Ty.enc)]] 0 i]] S (Sg (kindS (mutT t))) S := fun S i =>
    ADet.sub (.cons (.agg (.cons (.refl _) (.cons (.refl _) (.cons (by rw [← tyEnc]; exact .osl (.refl _)) (.refl _))))) (.refl _)) (showTypeC (mutT t) (.mk _ he0 (by simp [mutT, Ty.args]) (by simp [mutT, Ty.args]; exact hts)) hmt S)
  have sX : ∀ S i, ADet Tryz.prog 14 [.agg [U 21, I 0, Sg emS, Sg emS, Sg emS, nilS, .osl 8 [[pU e.op, pI e.int, pS e.name, pS e.second, pS e.place.name, strs e.place.path, .sl 8 (e.args.map Ex.enc), pI e.pos]] 0 i, I 0]] S (Sg (exprS (boxE e))) S := fun S i =>
    ADet.sub (.cons (.agg (.cons (.refl _) (.cons (.refl _) (.cons (.refl _) (.cons (.refl _) (.cons (.refl _) (.cons (.p (.nil 1)) (.cons (by rw [← exEnc]; exact .osl (.refl _)) (.refl _))))))))) (.refl _)) (showExprC (boxE e) (.mk _ he0 he0 ⟨he0, by simp [boxE, Ex.place, NmSm]⟩ (by simp [boxE, Ex.args]) (by simp [boxE, Ex.args]; exact hes)) ((exRg_iff _).2 ⟨by simp [boxE, Ex.int], by simp [boxE, Ex.args]; exact hrg⟩) hbe S)
  have hT := wraps_ty t
  have hE := wraps_ex e
  generalize kindS t = s at *
  generalize kindS (boxT t) = box at *
  generalize kindS (mutT t) = ref at *
  generalize exprS e = u at *
  generalize exprS (boxE e) = boxed at *
  refine awp_draw [(2, 1)] (by kernel_rfl) (by kernel_rfl) ?_
  simp
  refine ⟨_, _, sT _, ?_⟩
  simp
  refine ⟨_, _, sE _, ?_⟩
  simp
  refine ⟨_, _, sB _ _, ?_⟩
  simp
  refine ⟨_, _, sR _ _, ?_⟩
  simp
  refine ⟨_, _, sX _ _, ?_⟩
  have z1 : (⟨#[66, 111, 120, 32, 60, 32]⟩ : ByteArray).size = 6 := rfl
  have z2 : (⟨#[38, 32, 109, 117, 116, 32]⟩ : ByteArray).size = 6 := rfl
  have z3 : (⟨#[98, 111, 120, 32, 40, 32]⟩ : ByteArray).size = 6 := rfl
  have z4 : (⟨#[32, 62]⟩ : ByteArray).size = 2 := rfl
  have z5 : (⟨#[32, 41]⟩ : ByteArray).size = 2 := rfl
  have b1 : ((⟨#[66, 111, 120, 32, 60, 32]⟩ : ByteArray)).size + s.size ≤ maxLen := by unfold maxLen; omega
  have b2 : ((⟨#[66, 111, 120, 32, 60, 32]⟩ : ByteArray)).size + s.size + ((⟨#[32, 62]⟩ : ByteArray)).size ≤ maxLen := by unfold maxLen; omega
  have b3 : ((⟨#[38, 32, 109, 117, 116, 32]⟩ : ByteArray)).size + s.size ≤ maxLen := by unfold maxLen; omega
  have b4 : ((⟨#[98, 111, 120, 32, 40, 32]⟩ : ByteArray)).size + u.size ≤ maxLen := by unfold maxLen; omega
  have b5 : ((⟨#[98, 111, 120, 32, 40, 32]⟩ : ByteArray)).size + u.size + ((⟨#[32, 41]⟩ : ByteArray)).size ≤ maxLen := by unfold maxLen; omega
  have hne : sEq emS ((⟨#[98, 111, 120, 32, 40, 32]⟩ : ByteArray) ++ u ++ (⟨#[32, 41]⟩ : ByteArray)) = false := sEq_ne fun e => by
    have := (em_size _).1 e.symm
    rw [ByteArray.size_append] at this; omega
  have hne2 : sEq ((⟨#[66, 111, 120, 32, 60, 32]⟩ : ByteArray) ++ s ++ (⟨#[32, 62]⟩ : ByteArray)) emS = false := sEq_em_size (by rw [ByteArray.size_append]; omega)
  rcases hT with ⟨rfl, rfl⟩ | ⟨hs, rfl⟩ | ⟨hs, rfl, rfl⟩
  · rcases hE with ⟨rfl, rfl⟩ | ⟨hu, rfl⟩ | ⟨hu, rfl⟩
    · simp
    · have hu' := sEq_em_size hu
      simp [hu', hne, b4, b5]
    · have hu' := sEq_em_size hu
      simp [hu', b4, b5]
  · have hs' := sEq_em_size hs
    rcases hE with ⟨rfl, rfl⟩ | ⟨hu, rfl⟩ | ⟨hu, rfl⟩
    · simp [hs']
    · have hu' := sEq_em_size hu
      simp [hu', hs', hne, b4, b5]
    · have hu' := sEq_em_size hu
      simp [hu', hs', b4, b5]
  · have hs' := sEq_em_size hs
    rcases hE with ⟨rfl, rfl⟩ | ⟨hu, rfl⟩ | ⟨hu, rfl⟩
    · simp [hs', hne2, b1, b2, b3]
    · have hu' := sEq_em_size hu
      simp [hu', hs', hne2, hne, b1, b2, b3, b4, b5]
    · have hu' := sEq_em_size hu
      simp [hu', hs', hne2, b1, b2, b3, b4, b5]
end Go.Proofs.YtdhefienajlohaaGreatDoor
