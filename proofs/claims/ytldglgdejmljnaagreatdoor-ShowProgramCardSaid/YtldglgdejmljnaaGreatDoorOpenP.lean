/- From the reading of a law's arguments to the plain trees: statements, items, programs; what is read keeps its bounds. No statement is proved here. -/
import Derived.Test.YtldglgdejmljnaaGreatDoorMOpen
import Derived.Test.YtldglgdejmljnaaGreatDoorCSpL
import Derived.Test.YtldglgdejmljnaaGreatDoorCR3W
namespace Go.Proofs.YtldglgdejmljnaaGreatDoor
open Go.ChangeShapes Go.WideShapes Go.ChangeAt Go.RowKit
set_option linter.unusedVariables false

section
variable {H : Type} {enc : TypeId × Value → H} {w : World} {sp : Nat → Bool}
theorem readable_Program : Tryz.prog.readableRec 46 = true ∧ 46 < Tryz.prog.types.size := ⟨by kernel_rfl, of_decide_eq_true (by kernel_rfl)⟩
theorem cells_Stmt : Tryz.prog.cellsOf 109 = 15 := by kernel_rfl
theorem cells_Arm : Tryz.prog.cellsOf 112 = 3 := by kernel_rfl
theorem cells_Field : Tryz.prog.cellsOf 106 = 4 := by kernel_rfl
theorem cells_Item : Tryz.prog.cellsOf 74 = 16 := by kernel_rfl
theorem cells_Program : Tryz.prog.cellsOf 46 = 1 := by kernel_rfl
theorem cells_Stmts : Tryz.prog.cellsOf 72 = 1 := by kernel_rfl
theorem cells_Arms : Tryz.prog.cellsOf 107 = 1 := by kernel_rfl
theorem cells_Fields : Tryz.prog.cellsOf 71 = 1 := by kernel_rfl
theorem cells_Items : Tryz.prog.cellsOf 44 = 1 := by kernel_rfl

theorem opens_Arm {N : Nat} (ih : ∀ m, m < N → Opens enc Tryz.prog w sp m 109 15 (StIn w Any)) : ∀ M, M ≤ N → Opens enc Tryz.prog w sp M 112 3 (ArIn w Any) := by
  intro M hM fuel hf f x hx hfr
  obtain ⟨n, hn, hfd⟩ := opens_fields Tryz.underlying112 hx hfr
  obtain ⟨y0, a0, b0⟩ := hfd 0 _ rfl 9 0 1 rfl rfl cells_string (by omega)
  obtain ⟨y1, a1, b1⟩ := hfd 1 _ rfl 9 1 1 rfl rfl cells_string (by omega)
  obtain ⟨y2, a2, b2⟩ := hfd 2 _ rfl 72 2 1 rfl rfl cells_Stmts (by omega)
  obtain ⟨s, s1, s2⟩ := opens_str (N := n) Tryz.underlying9 n (Nat.le_refl _) (fun j => f (0 + j)) y0 a0 b0
  obtain ⟨r, r1, r2⟩ := opens_str (N := n) Tryz.underlying9 n (Nat.le_refl _) (fun j => f (1 + j)) y1 a1 b1
  cases n with
  | zero => simp [DataW.trod] at a0
  | succ n =>
    obtain ⟨l, hl⟩ := opens_slice (N := n) Tryz.underlying72 cells_Stmt (by omega) (ih n (by omega)) (n + 1) (Nat.le_refl _) (fun j => f (2 + j)) y2 a2 b2
    exact ⟨⟨s, r, l⟩, ⟨s1, s2, r1, r2⟩, hl⟩
theorem opens_Stmt : ∀ N, Opens enc Tryz.prog w sp N 109 15 (StIn w Any) := by
  intro N
  induction N using Nat.strongRecOn with
  | _ N ih =>
    intro fuel hf f x hx hfr
    obtain ⟨n, hn, hfd⟩ := opens_fields Tryz.underlying109 hx hfr
    obtain ⟨y0, a0, b0⟩ := hfd 0 _ rfl 5 0 1 rfl rfl cells_u8 (by omega)
    obtain ⟨y1, a1, b1⟩ := hfd 1 _ rfl 9 1 1 rfl rfl cells_string (by omega)
    obtain ⟨y2, a2, b2⟩ := hfd 2 _ rfl 9 2 1 rfl rfl cells_string (by omega)
    obtain ⟨y3, a3, b3⟩ := hfd 3 _ rfl 25 3 1 rfl rfl cells_strs (by omega)
    obtain ⟨y4, a4, b4⟩ := hfd 4 _ rfl 24 4 3 rfl rfl cells_Type (by omega)
    obtain ⟨y5, a5, b5⟩ := hfd 5 _ rfl 2 7 1 rfl rfl cells_i64 (by omega)
    obtain ⟨y6, a6, b6⟩ := hfd 6 _ rfl 27 8 2 rfl rfl cells_Place (by omega)
    obtain ⟨y7, a7, b7⟩ := hfd 7 _ rfl 28 10 1 rfl rfl cells_Exprs (by omega)
    obtain ⟨y8, a8, b8⟩ := hfd 8 _ rfl 72 11 1 rfl rfl cells_Stmts (by omega)
    obtain ⟨y9, a9, b9⟩ := hfd 9 _ rfl 72 12 1 rfl rfl cells_Stmts (by omega)
    obtain ⟨y10, a10, b10⟩ := hfd 10 _ rfl 107 13 1 rfl rfl cells_Arms (by omega)
    obtain ⟨y11, a11, b11⟩ := hfd 11 _ rfl 3 14 1 rfl rfl cells_int (by omega)
    obtain ⟨k, k1, k2, k3⟩ := opens_u8 (N := n) Tryz.underlying5 n (Nat.le_refl _) (fun j => f (0 + j)) y0 a0 b0
    obtain ⟨s, s1, s2⟩ := opens_str (N := n) Tryz.underlying9 n (Nat.le_refl _) (fun j => f (1 + j)) y1 a1 b1
    obtain ⟨r, r1, r2⟩ := opens_str (N := n) Tryz.underlying9 n (Nat.le_refl _) (fun j => f (2 + j)) y2 a2 b2
    obtain ⟨t, ht⟩ := opens_Type (enc := enc) (w := w) (sp := sp) n n (Nat.le_refl _) (fun j => f (4 + j)) y4 a4 b4
    obtain ⟨i, i1, i2⟩ := opens_i64 (N := n) Tryz.underlying2 n (Nat.le_refl _) (fun j => f (7 + j)) y5 a5 b5
    obtain ⟨pl, hpl⟩ := opens_Place (enc := enc) (w := w) (sp := sp) n n (Nat.le_refl _) (fun j => f (8 + j)) y6 a6 b6
    obtain ⟨q, q1, q2⟩ := opens_i64 (N := n) Tryz.underlying3 n (Nat.le_refl _) (fun j => f (14 + j)) y11 a11 b11
    cases n with
    | zero => simp [DataW.trod] at a0
    | succ n =>
      obtain ⟨nm, hnm⟩ := opens_slice (N := n) (R := RdStr) Tryz.underlying25 cells_string (by omega) (opens_str (N := n) Tryz.underlying9) (n + 1) (Nat.le_refl _) (fun j => f (3 + j)) y3 a3 b3
      obtain ⟨es, hes⟩ := opens_slice (N := n) Tryz.underlying28 cells_Expr (by omega) (opens_Expr n) (n + 1) (Nat.le_refl _) (fun j => f (10 + j)) y7 a7 b7
      obtain ⟨bd, hbd⟩ := opens_slice (N := n) Tryz.underlying72 cells_Stmt (by omega) (ih n (by omega)) (n + 1) (Nat.le_refl _) (fun j => f (11 + j)) y8 a8 b8
      obtain ⟨el, hel⟩ := opens_slice (N := n) Tryz.underlying72 cells_Stmt (by omega) (ih n (by omega)) (n + 1) (Nat.le_refl _) (fun j => f (12 + j)) y9 a9 b9
      obtain ⟨ar, har⟩ := opens_slice (N := n) Tryz.underlying107 cells_Arm (by omega) (opens_Arm (fun m hm => ih m (by omega)) n (Nat.le_refl _)) (n + 1) (Nat.le_refl _) (fun j => f (13 + j)) y10 a10 b10
      exact ⟨.mk k s r nm t i pl es bd el ar q, StIn.iff.2 ⟨⟨k1, ⟨k2, k3⟩, s1, s2, r1, r2, hnm, ht, i1, i2, hpl, hes, q1, q2⟩, hbd, hel, har⟩⟩
theorem opens_Field : ∀ N, Opens enc Tryz.prog w sp N 106 4 (FiIn w Any) := by
  intro N fuel hf f x hx hfr
  obtain ⟨n, hn, hfd⟩ := opens_fields Tryz.underlying106 hx hfr
  obtain ⟨y0, a0, b0⟩ := hfd 0 _ rfl 9 0 1 rfl rfl cells_string (by omega)
  obtain ⟨y1, a1, b1⟩ := hfd 1 _ rfl 24 1 3 rfl rfl cells_Type (by omega)
  obtain ⟨s, s1, s2⟩ := opens_str (N := n) Tryz.underlying9 n (Nat.le_refl _) (fun j => f (0 + j)) y0 a0 b0
  obtain ⟨t, ht⟩ := opens_Type (enc := enc) (w := w) (sp := sp) n n (Nat.le_refl _) (fun j => f (1 + j)) y1 a1 b1
  exact ⟨⟨s, t⟩, s1, s2, ht⟩
theorem opens_Item : ∀ N, Opens enc Tryz.prog w sp N 74 16 (ItIn w Any) := by
  intro N fuel hf f x hx hfr
  obtain ⟨n, hn, hfd⟩ := opens_fields Tryz.underlying74 hx hfr
  obtain ⟨y0, a0, b0⟩ := hfd 0 _ rfl 5 0 1 rfl rfl cells_u8 (by omega)
  obtain ⟨y1, a1, b1⟩ := hfd 1 _ rfl 9 1 1 rfl rfl cells_string (by omega)
  obtain ⟨y2, a2, b2⟩ := hfd 2 _ rfl 71 2 1 rfl rfl cells_Fields (by omega)
  obtain ⟨y3, a3, b3⟩ := hfd 3 _ rfl 24 3 3 rfl rfl cells_Type (by omega)
  obtain ⟨y4, a4, b4⟩ := hfd 4 _ rfl 72 6 1 rfl rfl cells_Stmts (by omega)
  obtain ⟨y5, a5, b5⟩ := hfd 5 _ rfl 30 7 8 rfl rfl cells_Expr (by omega)
  obtain ⟨y6, a6, b6⟩ := hfd 6 _ rfl 3 15 1 rfl rfl cells_int (by omega)
  obtain ⟨k, k1, k2, k3⟩ := opens_u8 (N := n) Tryz.underlying5 n (Nat.le_refl _) (fun j => f (0 + j)) y0 a0 b0
  obtain ⟨s, s1, s2⟩ := opens_str (N := n) Tryz.underlying9 n (Nat.le_refl _) (fun j => f (1 + j)) y1 a1 b1
  obtain ⟨t, ht⟩ := opens_Type (enc := enc) (w := w) (sp := sp) n n (Nat.le_refl _) (fun j => f (3 + j)) y3 a3 b3
  obtain ⟨e, he⟩ := opens_Expr (enc := enc) (w := w) (sp := sp) n n (Nat.le_refl _) (fun j => f (7 + j)) y5 a5 b5
  obtain ⟨q, q1, q2⟩ := opens_i64 (N := n) Tryz.underlying3 n (Nat.le_refl _) (fun j => f (15 + j)) y6 a6 b6
  cases n with
  | zero => simp [DataW.trod] at a0
  | succ n =>
    obtain ⟨fs, hfs⟩ := opens_slice (N := n) Tryz.underlying71 cells_Field (by omega) (opens_Field n) (n + 1) (Nat.le_refl _) (fun j => f (2 + j)) y2 a2 b2
    obtain ⟨bd, hbd⟩ := opens_slice (N := n) Tryz.underlying72 cells_Stmt (by omega) (opens_Stmt n) (n + 1) (Nat.le_refl _) (fun j => f (6 + j)) y4 a4 b4
    exact ⟨⟨k, s, fs, t, bd, e, q⟩, k1, ⟨k2, k3⟩, s1, s2, hfs, ht, hbd, he, q1, q2⟩
theorem opens_Program : ∀ N, Opens enc Tryz.prog w sp N 46 1 (fun p f => PrIn w Any p (f 0)) := by
  intro N fuel hf f x hx hfr
  obtain ⟨n, hn, hfd⟩ := opens_fields Tryz.underlying46 hx hfr
  obtain ⟨y0, a0, b0⟩ := hfd 0 _ rfl 44 0 1 rfl rfl cells_Items (by omega)
  cases n with
  | zero => simp [DataW.trod] at a0
  | succ n =>
    obtain ⟨l, hl⟩ := opens_slice (N := n) Tryz.underlying44 cells_Item (by omega) (opens_Item n) (n + 1) (Nat.le_refl _) (fun j => f (0 + j)) y0 a0 b0
    exact ⟨l, hl⟩
end

theorem stRg_of {w : World} {S : Nat → Prop} : ∀ (s : St) (f : Nat → Value), StIn w S s f → StRg s := by
  refine St.ind fun s ih1 ih2 ih3 f h => ?_
  obtain ⟨⟨_, _, _, _, _, _, _, _, _, hi, _, hx, _, _⟩, hb, he, ha⟩ := StIn.iff.1 h
  refine (stRg_iff s).2 ⟨hi, fun e hm => ?_, fun x hm => ?_, fun x hm => ?_, fun a hm x hx => ?_⟩
  · obtain ⟨g, hg⟩ := rd_mem hx hm
    exact exRg_of e g hg
  · obtain ⟨g, hg⟩ := rd_mem hb hm
    exact ih1 x hm g hg
  · obtain ⟨g, hg⟩ := rd_mem he hm
    exact ih2 x hm g hg
  · obtain ⟨g, hg⟩ := rd_mem ha hm
    obtain ⟨g', hg'⟩ := rd_mem hg.2 hx
    exact ih3 a hm x hx g' hg'
theorem stNn_of {w : World} {S : Nat → Prop} : ∀ (s : St) (f : Nat → Value), StIn w S s f → StNn s := by
  refine St.ind fun s ih1 ih2 ih3 f h => ?_
  obtain ⟨⟨_, hk, _, _, _, _, _, _, _, _, _, hx, _, _⟩, hb, he, ha⟩ := StIn.iff.1 h
  refine (stNn_iff s).2 ⟨hk, fun e hm => ?_, fun x hm => ?_, fun x hm => ?_, fun a hm x hx => ?_⟩
  · obtain ⟨g, hg⟩ := rd_mem hx hm
    exact exNn_of e g hg
  · obtain ⟨g, hg⟩ := rd_mem hb hm
    exact ih1 x hm g hg
  · obtain ⟨g, hg⟩ := rd_mem he hm
    exact ih2 x hm g hg
  · obtain ⟨g, hg⟩ := rd_mem ha hm
    obtain ⟨g', hg'⟩ := rd_mem hg.2 hx
    exact ih3 a hm x hx g' hg'
theorem itRg_of {w : World} {S : Nat → Prop} {p : List It} {v : Value} (h : PrIn w S p v) : ∀ x ∈ p, ItRg x := fun x hm => by
  obtain ⟨g, hg⟩ := rd_mem h hm
  obtain ⟨_, _, _, _, _, _, hb, hr, _, _⟩ := hg
  exact ⟨exRg_of _ _ hr, fun s hs => by
    obtain ⟨g', hg'⟩ := rd_mem hb hs
    exact stRg_of s g' hg'⟩
theorem itNn_of {w : World} {S : Nat → Prop} {p : List It} {v : Value} (h : PrIn w S p v) : ∀ x ∈ p, ItNn x := fun x hm => by
  obtain ⟨g, hg⟩ := rd_mem h hm
  obtain ⟨_, _, _, _, _, _, hb, hr, _, _⟩ := hg
  exact ⟨exNn_of _ _ hr, fun s hs => by
    obtain ⟨g', hg'⟩ := rd_mem hb hs
    exact stNn_of s g' hg'⟩
end Go.Proofs.YtldglgdejmljnaaGreatDoor
