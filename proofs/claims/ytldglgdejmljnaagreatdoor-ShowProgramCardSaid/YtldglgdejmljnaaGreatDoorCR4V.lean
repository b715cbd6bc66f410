/- The reference's tokens: any statement, any item, the text of a program. No statement is proved here. -/
import Derived.Test.YtldglgdejmljnaaGreatDoorCR4U
namespace Go.Proofs.YtldglgdejmljnaaGreatDoor
open Go.RowKit
set_option linter.unusedVariables false
set_option linter.unusedSimpArgs false

/-- every statement within a statement is short -/
def StTl : St → Prop
  | .mk op name second names ty int pl es b el ar pos => tl (St.tk (.mk op name second names ty int pl es b el ar pos)) ≤ 1000000 ∧ (∀ e ∈ es, ExTl e) ∧ StTls b ∧ StTls el ∧ ArTls ar
where
  StTls : List St → Prop
  | [] => True
  | s :: l => StTl s ∧ StTls l
  ArTls : List (ArOf St) → Prop
  | [] => True
  | ⟨v, n, b⟩ :: l => StTls b ∧ ArTls l
theorem stTls_iff (l : List St) : StTl.StTls l ↔ ∀ e ∈ l, StTl e := by
  induction l with
  | nil => simp [StTl.StTls]
  | cons e l ih => simp [StTl.StTls, ih]
theorem arTls_iff (l : List Ar) : StTl.ArTls l ↔ ∀ a ∈ l, ∀ e ∈ a.body, StTl e := by
  induction l with
  | nil => simp [StTl.ArTls]
  | cons a l ih => obtain ⟨v, n, b⟩ := a; simp [StTl.ArTls, ih, stTls_iff]
theorem stTl_iff (s : St) : StTl s ↔ tl s.tk ≤ 1000000 ∧ (∀ e ∈ s.exprs, ExTl e) ∧ (∀ x ∈ s.body, StTl x) ∧ (∀ x ∈ s.els, StTl x) ∧ ∀ a ∈ s.arms, ∀ x ∈ a.body, StTl x := by
  cases s with | mk op name second names ty int pl es b el ar pos => simp only [StTl, stTls_iff, arTls_iff]; rfl
theorem one_ex {s : St} {n : Nat} (h : s.exprs.length = 1) : ∃ x, s.exprs = [x] := List.length_eq_one_iff.1 h
theorem r4StmtC : ∀ (s : St) (d0 : Int), s.whole d0 = true → StSm s → StRg s → StTl s → R4S s := by
  refine St.ind fun s ih1 ih2 ih3 d0 hw hsm hr ht => ?_
  obtain ⟨⟨ho1, ho2⟩, hc, ⟨hn, hxl, hnl, hal⟩, hty, hxw, hbw, hew, haw⟩ := st_split hw
  obtain ⟨⟨hi1, hi2⟩, hxr, hbr, her, har⟩ := (stRg_iff s).1 hr
  obtain ⟨ht0, htx, htb, hte, hta⟩ := (stTl_iff s).1 ht
  obtain ⟨_, hn0, hs2, hnm, htys, hpl, hex, hb, hel, har2, hbs, hes, has, hab⟩ := hsm
  have hb0 : tl s.tk ≤ 3000000000 := by omega
  have hx : ∀ e ∈ s.exprs, R4 e := fun e he => r4ExprC printOK e _ (hxw e he) (hex.2 e he) (hxr e he) (htx e he)
  have hs : ∀ x ∈ s.body, R4S x := fun x hx => ih1 x hx _ (hbw x hx) (hbs x hx) (hbr x hx) (htb x hx)
  have hee : ∀ x ∈ s.els, R4S x := fun x hx => ih2 x hx _ (hew x hx) (hes x hx) (her x hx) (hte x hx)
  have ha : ∀ a ∈ s.arms, ∀ x ∈ a.body, R4S x := fun a ha x hx => ih3 a ha x hx _ (haw a ha x hx) (hab a ha x hx) (har a ha x hx) (hta a ha x hx)
  have hels : s.op ≠ 6 → s.els = [] := fun h => by
    rw [stWhole_eq] at hw
    simp only [Bool.and_eq_true, Bool.or_eq_true, decide_eq_true_eq] at hw
    have h6 : fmElse s.op = false := by unfold fmElse; rw [beq_eq_false_iff_ne]; exact h
    rcases hw.2.2.2.1 with h1 | h1
    · rw [h6] at h1; cases h1
    · exact List.eq_nil_of_length_eq_zero h1
  have e1 : (s.op = 1 ∨ s.op = 2 ∨ s.op = 3 ∨ s.op = 4 ∨ s.op = 6 ∨ s.op = 7) → ∃ x, s.exprs = [x] ∧ R4 x := fun h => by
    have : s.exprs.length = 1 := by
      have h10 : ¬ s.op = 10 := by omega
      have : fmExprs s.op s.names.length = 1 := by unfold fmExprs; rw [if_neg h10, if_pos h]
      omega
    obtain ⟨x, hxs⟩ := List.length_eq_one_iff.1 this
    exact ⟨x, hxs, hx x (by rw [hxs]; simp)⟩
  have e0 : ¬ s.op = 10 → ¬ (s.op = 1 ∨ s.op = 2 ∨ s.op = 3 ∨ s.op = 4 ∨ s.op = 6 ∨ s.op = 7) → s.exprs = [] := fun h10 h => by
    have : fmExprs s.op s.names.length = 0 := by unfold fmExprs; rw [if_neg h10, if_neg h]
    exact List.eq_nil_of_length_eq_zero (by omega)
  by_cases o1 : s.op = 1
  · obtain ⟨x, hxs, hr⟩ := e1 (by omega); exact r4Stmt1 s o1 x hxs hr hb0
  by_cases o2 : s.op = 2
  · obtain ⟨x, hxs, hr⟩ := e1 (by omega); exact r4Stmt2 s o2 x hxs hr (by omega) hb0
  by_cases o3 : s.op = 3
  · obtain ⟨x, hxs, hr⟩ := e1 (by omega); exact r4Stmt3 s o3 x hxs hr hpl.2.1 hb0
  by_cases o4 : s.op = 4
  · obtain ⟨x, hxs, hr⟩ := e1 (by omega); exact r4Stmt4 s o4 x hxs hr hb0
  by_cases o6 : s.op = 6
  · obtain ⟨x, hxs, hr⟩ := e1 (by omega)
    by_cases hel0 : s.els = []
    · exact r4Stmt6 s o6 x hxs hr hs hb hel0 hb0
    · exact r4Stmt60 s o6 x hxs hr hs hb hee hel hel0 hb0
  by_cases o7 : s.op = 7
  · obtain ⟨x, hxs, hr⟩ := e1 (by omega); exact r4Stmt7 s o7 x hxs hr hs hb (hels o6) hb0
  by_cases o10 : s.op = 10
  · refine r4Stmt10 s o10 (fun S => r4SpawnC s o10 ?_ hx hex.1 hs hb hb0 S) hb0
    have : fmExprs s.op s.names.length = s.names.length := by unfold fmExprs; rw [if_pos o10]
    omega
  have hex0 := e0 o10 (by omega)
  by_cases o5 : s.op = 5
  · exact r4Stmt5 s o5 hex0 hb0
  by_cases o8 : s.op = 8
  · exact r4Stmt8 s o8 hex0 ha (fun a h => (has a h).2.2) har2 hb0
  by_cases o9 : s.op = 9
  · exact r4Stmt9 s o9 hex0 hs hb (hels o6) hb0
  by_cases o11 : s.op = 11
  · exact r4Stmt11 s o11 hex0 hs hb (hels o6) hpl.2.1 hb0
  by_cases o12 : s.op = 12
  · have hw12 := hty o12
    have htk : tl s.type.tk ≤ 1000000 := by
      have : s.tk = ((⟨#[99, 104, 97, 110]⟩ : ByteArray) :: (⟨#[60]⟩ : ByteArray) :: (s.type.tk ++ [(⟨#[62]⟩ : ByteArray), (⟨#[40]⟩ : ByteArray), itoaB s.int, (⟨#[41]⟩ : ByteArray), (⟨#[97, 115]⟩ : ByteArray), s.name, (⟨#[44]⟩ : ByteArray), s.second, (⟨#[59]⟩ : ByteArray)])) ++ (s.exprs.flatMap Ex.tk ++ restTk s.op (s.body.flatMap St.tk) s.els.length (s.els.flatMap St.tk)) := by
        rw [stTk_eq]; unfold stTk1 headTk; rw [List.flatMap_def (f := Ex.tk)]; simp [o12]
      rw [this] at ht0
      simp only [tl_cons, tl_append] at ht0
      omega
    exact r4Stmt12 s o12 hex0 (fun S => r4TypeC s.type _ hw12 (by omega) S) hi1 hi2 hb0
  have o13 : s.op = 13 := by omega
  exact r4Stmt13 s o13 hex0 hs hb (hels o6) hb0
end Go.Proofs.YtldglgdejmljnaaGreatDoor
