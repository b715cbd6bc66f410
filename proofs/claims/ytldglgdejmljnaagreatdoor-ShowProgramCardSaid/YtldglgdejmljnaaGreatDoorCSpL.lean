/- How long the text of statements, items, programs is, at most, by their room. No statement is proved here. -/
import Derived.Test.YtldglgdejmljnaaGreatDoorCSpP
import Derived.Test.YtldglgdejmljnaaGreatDoorMSh
import Derived.Test.YtldglgdejmljnaaGreatDoorMRd
namespace Go.Proofs.YtldglgdejmljnaaGreatDoor
open Go.RowKit
set_option linter.unusedVariables false
set_option linter.unusedSimpArgs false

/-- every number in a statement is one of 64 bits -/
def StRg : St → Prop
  | .mk op name second names ty int pl es b el ar _ => (-9223372036854775808 ≤ int ∧ int ≤ 9223372036854775807) ∧ (∀ e ∈ es, ExRg e) ∧ StRgs b ∧ StRgs el ∧ ArRgs ar
where
  StRgs : List St → Prop
  | [] => True
  | s :: l => StRg s ∧ StRgs l
  ArRgs : List (ArOf St) → Prop
  | [] => True
  | ⟨v, n, b⟩ :: l => StRgs b ∧ ArRgs l
theorem stRgs_iff (l : List St) : StRg.StRgs l ↔ ∀ e ∈ l, StRg e := by
  induction l with
  | nil => simp [StRg.StRgs]
  | cons e l ih => simp [StRg.StRgs, ih]
theorem arRgs_iff (l : List Ar) : StRg.ArRgs l ↔ ∀ a ∈ l, ∀ e ∈ a.body, StRg e := by
  induction l with
  | nil => simp [StRg.ArRgs]
  | cons a l ih => obtain ⟨v, n, b⟩ := a; simp [StRg.ArRgs, ih, stRgs_iff]
theorem stRg_iff (s : St) : StRg s ↔ (-9223372036854775808 ≤ s.int ∧ s.int ≤ 9223372036854775807) ∧ (∀ e ∈ s.exprs, ExRg e) ∧ (∀ x ∈ s.body, StRg x) ∧ (∀ x ∈ s.els, StRg x) ∧ ∀ a ∈ s.arms, ∀ x ∈ a.body, StRg x := by
  cases s with | mk op name second names ty int pl es b el ar pos => simp only [StRg, stRgs_iff, arRgs_iff]; rfl
def ItRg (x : It) : Prop := ExRg x.ret ∧ ∀ s ∈ x.body, StRg s

theorem zs2 : (⟨#[108, 101, 116]⟩ : ByteArray).size = 3 ∧ (⟨#[100, 114, 111, 112]⟩ : ByteArray).size = 4 ∧ (⟨#[59]⟩ : ByteArray).size = 1 ∧ (⟨#[105, 102]⟩ : ByteArray).size = 2 ∧ (⟨#[119, 104, 105, 108, 101]⟩ : ByteArray).size = 5 ∧ (⟨#[109, 97, 116, 99, 104]⟩ : ByteArray).size = 5 ∧ (⟨#[58]⟩ : ByteArray).size = 1 ∧ (⟨#[115, 99, 111, 112, 101]⟩ : ByteArray).size = 5 ∧ (⟨#[108, 111, 99, 107]⟩ : ByteArray).size = 4 ∧ (⟨#[97, 115]⟩ : ByteArray).size = 2 ∧ (⟨#[99, 104, 97, 110]⟩ : ByteArray).size = 4 ∧ (⟨#[101, 108, 115, 101]⟩ : ByteArray).size = 4 ∧ (⟨#[115, 112, 97, 119, 110]⟩ : ByteArray).size = 5 ∧ (⟨#[61, 62]⟩ : ByteArray).size = 2 ∧ (⟨#[115, 116, 114, 117, 99, 116]⟩ : ByteArray).size = 6 ∧ (⟨#[101, 110, 117, 109]⟩ : ByteArray).size = 4 ∧ (⟨#[102, 110]⟩ : ByteArray).size = 2 ∧ (⟨#[45, 62]⟩ : ByteArray).size = 2 := ⟨rfl, rfl, rfl, rfl, rfl, rfl, rfl, rfl, rfl, rfl, rfl, rfl, rfl, rfl, rfl, rfl, rfl, rfl⟩
theorem tl_brace (b : List ByteArray) : tl (braceTk b) = tl b + 4 := by
  obtain ⟨z1, z2, z3, z4, z5, z6, z7, z8, z9, z10, z11⟩ := z1
  unfold braceTk
  simp only [tl_cons, tl_append, tl_nil, z10, z11]; omega
theorem tl_flatMap {α : Type} (f : α → List ByteArray) (l : List α) : tl (l.flatMap f) = tsum (fun x => tl (f x)) l := by
  induction l with
  | nil => rfl
  | cons x l ih => simp [tl_append, tsum, ih]
theorem tl_flatten (l : List (List ByteArray)) : tl l.flatten = tsum tl l := by
  induction l with
  | nil => rfl
  | cons x l ih => simp [tl_append, tsum, ih]
theorem namesTk_tl (l : List ByteArray) : tl (commas (l.map fun s => [s])) ≤ tsum (fun s => 3 * (s.size + 5)) l := by
  refine Nat.le_trans (tl_commas _) ?_
  rw [tsum_map]
  exact tsum_le _ fun s _ => by simp only [tl_cons, tl_nil]; omega
theorem ty_pos {t : Ty} {n : Int} (h : 0 ≤ t.room n) : 0 ≤ n := by
  rw [tyRoom_eq] at h
  have a := nameRoom_in (fold_pos h)
  omega
set_option maxHeartbeats 2000000 in
/-- a statement's text, by the lengths of its parts -/
theorem stTk1_tl (op int : Int) (hi1 : -9223372036854775808 ≤ int) (hi2 : int ≤ 9223372036854775807) (name second : ByteArray) (names : List ByteArray) (ty : Ty) (pl : Pl) (es : List (List ByteArray)) (b : List ByteArray) (nel : Nat) (el ar : List ByteArray) :
    tl (stTk1 op int name second names ty pl es b nel el ar) ≤ name.size + second.size + tsum (fun s => 3 * (s.size + 5)) names + tl ty.tk + tl pl.tk + tsum (fun a => tl a) es + tl b + tl el + tl ar + 50 := by
  have hz := itoaB_size int hi1 hi2
  obtain ⟨z1, z2, z3, z4, z5, z6, z7, z8, z9, z10, z11⟩ := z1
  obtain ⟨y1, y2, y3, y4, y5, y6, y7, y8, y9, y10, y11, y12, y13, _⟩ := zs2
  have hn := namesTk_tl names
  have hg : tl (commas (givenTk names es)) ≤ tsum (fun s => 3 * (s.size + 5)) names + tsum tl es := Nat.le_trans (tl_commas _) (given_tl _ _)
  have hh : tl (headTk op int name second names ty pl ar) ≤ name.size + second.size + tsum (fun s => 3 * (s.size + 5)) names + tl ty.tk + tl pl.tk + tl ar + (if op = 12 then 45 else 25) := by
    unfold headTk
    repeat' split
    all_goals (simp only [tl_cons, tl_nil, tl_append, z1, z2, z3, z4, z5, z6, z7, z8, z9, z10, z11, y1, y2, y3, y4, y5, y6, y7, y8, y9, y10, y11, y12, y13]; omega)
  have hr : tl (restTk op b nel el) ≤ tl b + tl el + (if op = 12 then 0 else 15) := by
    by_cases h12 : op = 12
    · unfold restTk
      rw [if_neg (by omega), if_neg (by omega), if_pos h12, tl_nil]; omega
    rw [if_neg h12]
    unfold restTk
    split
    · simp only [tl_cons, tl_nil, y3]; omega
    · split
      · split
        · simp only [tl_append, tl_brace, tl_nil]; omega
        · simp only [tl_append, tl_brace, tl_cons, y12]; omega
      · simp only [tl_nil]; omega
  unfold stTk1
  have e : (fun a => tl a) = tl := rfl
  rw [e]
  split
  · simp only [tl_cons, tl_append, tl_brace, y13, z5, z6]; omega
  · simp only [tl_append, tl_flatten]
    by_cases h12 : op = 12
    · rw [if_pos h12] at hh hr; omega
    · rw [if_neg h12] at hh hr; omega
theorem st_tl : ∀ (s : St), StRg s → ∀ n, 0 ≤ s.room n → (tl s.tk : Int) ≤ 3 * (n - s.room n) := by
  refine St.ind fun s ih1 ih2 ih3 hr n h => ?_
  obtain ⟨⟨hi1, hi2⟩, hre, hrb, hrl, hra⟩ := (stRg_iff s).1 hr
  rw [stRoom_eq] at h ⊢
  have hx : 0 ≤ roomFold Ex.room s.exprs (s.room1 n) := by
    rcases Int.lt_or_le (roomFold Ex.room s.exprs (s.room1 n)) 0 with h0 | h0
    · rw [if_pos h0] at h; exact h
    · exact h0
  rw [if_neg (by omega)] at h ⊢
  have h3 := fold_pos h
  have h2 := fold_pos h3
  have h1 := fold_pos hx
  have e1 := fold_ts (t := fun x => tl x.tk) s.exprs (fun x hx' m hm => by have := ex_tl x (hre x hx') m hm; omega) _ hx
  have e2 := fold_ts (t := fun x => tl x.tk) s.body (fun x hx' m hm => ih1 x hx' (hrb x hx') m hm) _ h2
  have e3 := fold_ts (t := fun x => tl x.tk) s.els (fun x hx' m hm => ih2 x hx' (hrl x hx') m hm) _ h3
  have e4 := fold_ts (t := fun a : Ar => tl a.tk) s.arms (fun a ha m hm => by
    rw [arRoom_eq] at hm ⊢
    have k1 := fold_pos hm
    obtain ⟨k2, k3⟩ := nameRoom_in k1
    have k4 : 0 ≤ nameRoom a.variant.size m := by omega
    obtain ⟨k5, k6⟩ := nameRoom_in k4
    have k7 := fold_ts (t := fun x => tl x.tk) a.body (fun x hx' m hm => ih3 a ha x hx' (hra a ha x hx') m hm) _ hm
    obtain ⟨z1, z2, z3, z4, z5, z6, z7, z8, z9, z10, z11⟩ := z1
    obtain ⟨y1, y2, y3, y4, y5, y6, y7, y8, y9, y10, y11, y12, y13, y14, _⟩ := zs2
    rw [arTk_eq]
    unfold armTk
    rw [← tl_flatMap] at k7
    split
    · simp only [tl_cons, tl_append, tl_brace, tl_nil, y14]; push_cast at k7 ⊢; omega
    · simp only [tl_cons, tl_append, tl_brace, tl_nil, y14, z5, z6]; push_cast at k7 ⊢; omega) _ h
  rw [← tl_flatMap] at e2 e3 e4
  have hs := stTk1_tl s.op s.int hi1 hi2 s.name s.second s.names s.type s.place (s.exprs.map Ex.tk) (s.body.flatMap St.tk) s.els.length (s.els.flatMap St.tk) (s.arms.flatMap Ar.tk)
  rw [tsum_map] at hs
  rw [stTk_eq]
  unfold St.room1 at h1 e1 hx e2 e3 e4 ⊢
  obtain ⟨p1, p2⟩ := pl_tl h1
  have t1 := ty_pos (pl_pos h1)
  have t2 := ty_tl s.type _ (pl_pos h1)
  have n1 := names_ts t1
  have n2 := names_pos t1
  obtain ⟨n3, n4⟩ := nameRoom_in n2
  have n5 : 0 ≤ nameRoom s.name.size n := by omega
  obtain ⟨n6, n7⟩ := nameRoom_in n5
  omega
end Go.Proofs.YtldglgdejmljnaaGreatDoor
