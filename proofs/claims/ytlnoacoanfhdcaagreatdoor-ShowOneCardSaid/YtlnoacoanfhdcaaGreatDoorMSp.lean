/- 3 texts of this proof, one behind the other: CSpP CSpL CSpM. The statement is proved in the claim's last text. -/
import Derived.Test.YtlnoacoanfhdcaaGreatDoorMPg
import Derived.Test.YtlnoacoanfhdcaaGreatDoorMSh
namespace Go.Proofs.YtlnoacoanfhdcaaGreatDoor
open Go.RowKit
set_option linter.unusedVariables false

/-- tokens in braces -/
def braceTk (b : List ByteArray) : List ByteArray := (⟨#[123]⟩ : ByteArray) :: (b ++ [(⟨#[125]⟩ : ByteArray)])
/-- what stands ahead of a statement's expressions, and behind them -/
def headTk (op int : Int) (name second : ByteArray) (names : List ByteArray) (ty : Ty) (pl : Pl) (ar : List ByteArray) : List ByteArray :=
  if op = 1 then [(⟨#[108, 101, 116]⟩ : ByteArray), name, (⟨#[61]⟩ : ByteArray)]
  else if op = 2 then (⟨#[108, 101, 116]⟩ : ByteArray) :: name :: (⟨#[123]⟩ : ByteArray) :: (commas (names.map fun s => [s]) ++ [(⟨#[125]⟩ : ByteArray), (⟨#[61]⟩ : ByteArray)])
  else if op = 3 then pl.tk ++ [(⟨#[61]⟩ : ByteArray)]
  else if op = 5 then [(⟨#[100, 114, 111, 112]⟩ : ByteArray), name, (⟨#[59]⟩ : ByteArray)]
  else if op = 6 then [(⟨#[105, 102]⟩ : ByteArray)]
  else if op = 7 then [(⟨#[119, 104, 105, 108, 101]⟩ : ByteArray)]
  else if op = 8 then (⟨#[109, 97, 116, 99, 104]⟩ : ByteArray) :: name :: (⟨#[58]⟩ : ByteArray) :: second :: (⟨#[123]⟩ : ByteArray) :: (ar ++ [(⟨#[125]⟩ : ByteArray)])
  else if op = 9 then [(⟨#[115, 99, 111, 112, 101]⟩ : ByteArray)]
  else if op = 11 then (⟨#[108, 111, 99, 107]⟩ : ByteArray) :: (pl.tk ++ [(⟨#[97, 115]⟩ : ByteArray), name])
  else if op = 12 then (⟨#[99, 104, 97, 110]⟩ : ByteArray) :: (⟨#[60]⟩ : ByteArray) :: (ty.tk ++ [(⟨#[62]⟩ : ByteArray), (⟨#[40]⟩ : ByteArray), itoaB int, (⟨#[41]⟩ : ByteArray), (⟨#[97, 115]⟩ : ByteArray), name, (⟨#[44]⟩ : ByteArray), second, (⟨#[59]⟩ : ByteArray)])
  else []
def restTk (op : Int) (b : List ByteArray) (nel : Nat) (el : List ByteArray) : List ByteArray :=
  if op = 1 ∨ op = 2 ∨ op = 3 ∨ op = 4 then [(⟨#[59]⟩ : ByteArray)]
  else if op = 6 ∨ op = 7 ∨ op = 9 ∨ op = 11 ∨ op = 13 then braceTk b ++ (if nel = 0 then [] else (⟨#[101, 108, 115, 101]⟩ : ByteArray) :: braceTk el)
  else []
def stTk1 (op int : Int) (name second : ByteArray) (names : List ByteArray) (ty : Ty) (pl : Pl) (es : List (List ByteArray)) (b : List ByteArray) (nel : Nat) (el ar : List ByteArray) : List ByteArray :=
  if op = 10 then (⟨#[115, 112, 97, 119, 110]⟩ : ByteArray) :: (⟨#[40]⟩ : ByteArray) :: (commas (givenTk names es) ++ (⟨#[41]⟩ : ByteArray) :: braceTk b)
  else headTk op int name second names ty pl ar ++ (es.flatten ++ restTk op b nel el)
def armTk (v n : ByteArray) (b : List ByteArray) : List ByteArray := v :: ((if sEq n emS then [] else [(⟨#[40]⟩ : ByteArray), n, (⟨#[41]⟩ : ByteArray)]) ++ (⟨#[61, 62]⟩ : ByteArray) :: braceTk b)
mutual
def St.tk : St → List ByteArray
  | .mk op name second names ty int pl es b el ar _ => stTk1 op int name second names ty pl (es.map Ex.tk) (St.tks b) el.length (St.tks el) (Ar.tks ar)
def St.tks : List St → List ByteArray
  | [] => []
  | s :: l => s.tk ++ St.tks l
def Ar.tks : List (ArOf St) → List ByteArray
  | [] => []
  | ⟨v, n, b⟩ :: l => armTk v n (St.tks b) ++ Ar.tks l
end
def Ar.tk (a : Ar) : List ByteArray := armTk a.variant a.name (St.tks a.body)
theorem stTks (l : List St) : St.tks l = l.flatMap St.tk := by
  induction l with
  | nil => rfl
  | cons s l ih => simp [St.tks, ih]
theorem arTks (l : List Ar) : Ar.tks l = l.flatMap Ar.tk := by
  induction l with
  | nil => rfl
  | cons a l ih => obtain ⟨v, n, b⟩ := a; simp [Ar.tks, Ar.tk, ih]
theorem stTk_eq (s : St) : s.tk = stTk1 s.op s.int s.name s.second s.names s.type s.place (s.exprs.map Ex.tk) (s.body.flatMap St.tk) s.els.length (s.els.flatMap St.tk) (s.arms.flatMap Ar.tk) := by
  cases s; simp only [St.tk, stTks, arTks]; rfl
theorem arTk_eq (a : Ar) : a.tk = armTk a.variant a.name (a.body.flatMap St.tk) := by unfold Ar.tk; rw [stTks]
def fieldTk (f : Fi) : List ByteArray := f.name :: (⟨#[58]⟩ : ByteArray) :: f.type.tk
def varTk (f : Fi) : List ByteArray := f.name :: (if f.type.kind = 0 then [] else (⟨#[40]⟩ : ByteArray) :: (f.type.tk ++ [(⟨#[41]⟩ : ByteArray)]))
def It.tk (x : It) : List ByteArray :=
  if x.kind = 1 then (⟨#[115, 116, 114, 117, 99, 116]⟩ : ByteArray) :: x.name :: (⟨#[123]⟩ : ByteArray) :: (commas (x.fields.map fieldTk) ++ [(⟨#[125]⟩ : ByteArray)])
  else if x.kind = 2 then (⟨#[101, 110, 117, 109]⟩ : ByteArray) :: x.name :: (⟨#[123]⟩ : ByteArray) :: (commas (x.fields.map varTk) ++ [(⟨#[125]⟩ : ByteArray)])
  else (⟨#[102, 110]⟩ : ByteArray) :: x.name :: (⟨#[40]⟩ : ByteArray) :: (commas (x.fields.map fieldTk) ++ (⟨#[41]⟩ : ByteArray) :: (⟨#[45, 62]⟩ : ByteArray) :: (x.result.tk ++ (⟨#[123]⟩ : ByteArray) :: (x.body.flatMap St.tk ++ (x.ret.tk ++ [(⟨#[125]⟩ : ByteArray)]))))
/-- a line, with its end -/
def itemB (x : It) : ByteArray := lineB x.tk ++ ⟨#[10]⟩
def progB (p : List It) : ByteArray := p.foldl (fun b x => b ++ itemB x) emS
end Go.Proofs.YtlnoacoanfhdcaaGreatDoor

namespace Go.Proofs.YtlnoacoanfhdcaaGreatDoor
open Go.RowKit
set_option linter.unusedVariables false
set_option linter.unusedSimpArgs false

theorem zs2 : (⟨#[108, 101, 116]⟩ : ByteArray).size = 3 ∧ (⟨#[100, 114, 111, 112]⟩ : ByteArray).size = 4 ∧ (⟨#[59]⟩ : ByteArray).size = 1 ∧ (⟨#[105, 102]⟩ : ByteArray).size = 2 ∧ (⟨#[119, 104, 105, 108, 101]⟩ : ByteArray).size = 5 ∧ (⟨#[109, 97, 116, 99, 104]⟩ : ByteArray).size = 5 ∧ (⟨#[58]⟩ : ByteArray).size = 1 ∧ (⟨#[115, 99, 111, 112, 101]⟩ : ByteArray).size = 5 ∧ (⟨#[108, 111, 99, 107]⟩ : ByteArray).size = 4 ∧ (⟨#[97, 115]⟩ : ByteArray).size = 2 ∧ (⟨#[99, 104, 97, 110]⟩ : ByteArray).size = 4 ∧ (⟨#[101, 108, 115, 101]⟩ : ByteArray).size = 4 ∧ (⟨#[115, 112, 97, 119, 110]⟩ : ByteArray).size = 5 ∧ (⟨#[61, 62]⟩ : ByteArray).size = 2 ∧ (⟨#[115, 116, 114, 117, 99, 116]⟩ : ByteArray).size = 6 ∧ (⟨#[101, 110, 117, 109]⟩ : ByteArray).size = 4 ∧ (⟨#[102, 110]⟩ : ByteArray).size = 2 ∧ (⟨#[45, 62]⟩ : ByteArray).size = 2 := ⟨rfl, rfl, rfl, rfl, rfl, rfl, rfl, rfl, rfl, rfl, rfl, rfl, rfl, rfl, rfl, rfl, rfl, rfl⟩
theorem tl_brace (b : List ByteArray) : tl (braceTk b) = tl b + 4 := by
  obtain ⟨z1, z2, z3, z4, z5, z6, z7, z8, z9, z10, z11⟩ := z1
  unfold braceTk
  simp only [tl_cons, tl_append, tl_nil, z10, z11]; omega
theorem tl_flatMap {α : Type} (f : α → List ByteArray) (l : List α) : tl (l.flatMap f) = tsum (fun x => tl (f x)) l := by
  induction l with
  | nil => rfl
  | cons x l ih => simp [tl_append, tsum, ih]
theorem tl_flatten (l : List (List ByteArray)) : tl l.flatten = tsum tl l := by
  induction l with
  | nil => rfl
  | cons x l ih => simp [tl_append, tsum, ih]
theorem namesTk_tl (l : List ByteArray) : tl (commas (l.map fun s => [s])) ≤ tsum (fun s => 3 * (s.size + 5)) l := by
  refine Nat.le_trans (tl_commas _) ?_
  rw [tsum_map]
  exact tsum_le _ fun s _ => by simp only [tl_cons, tl_nil]; omega
theorem ty_pos {t : Ty} {n : Int} (h : 0 ≤ t.room n) : 0 ≤ n := by
  rw [tyRoom_eq] at h
  have a := nameRoom_in (fold_pos h)
  omega
set_option maxHeartbeats 2000000 in
/-- a statement's text, by the lengths of its parts -/
theorem stTk1_tl (op int : Int) (hi1 : -9223372036854775808 ≤ int) (hi2 : int ≤ 9223372036854775807) (name second : ByteArray) (names : List ByteArray) (ty : Ty) (pl : Pl) (es : List (List ByteArray)) (b : List ByteArray) (nel : Nat) (el ar : List ByteArray) :
    tl (stTk1 op int name second names ty pl es b nel el ar) ≤ name.size + second.size + tsum (fun s => 3 * (s.size + 5)) names + tl ty.tk + tl pl.tk + tsum (fun a => tl a) es + tl b + tl el + tl ar + 50 := by
  have hz := itoaB_size int hi1 hi2
  obtain ⟨z1, z2, z3, z4, z5, z6, z7, z8, z9, z10, z11⟩ := z1
  obtain ⟨y1, y2, y3, y4, y5, y6, y7, y8, y9, y10, y11, y12, y13, _⟩ := zs2
  have hn := namesTk_tl names
  have hg : tl (commas (givenTk names es)) ≤ tsum (fun s => 3 * (s.size + 5)) names + tsum tl es := Nat.le_trans (tl_commas _) (given_tl _ _)
  have hh : tl (headTk op int name second names ty pl ar) ≤ name.size + second.size + tsum (fun s => 3 * (s.size + 5)) names + tl ty.tk + tl pl.tk + tl ar + (if op = 12 then 45 else 25) := by
    unfold headTk
    repeat' split
    all_goals (simp only [tl_cons, tl_nil, tl_append, z1, z2, z3, z4, z5, z6, z7, z8, z9, z10, z11, y1, y2, y3, y4, y5, y6, y7, y8, y9, y10, y11, y12, y13]; omega)
  have hr : tl (restTk op b nel el) ≤ tl b + tl el + (if op = 12 then 0 else 15) := by
    by_cases h12 : op = 12
    · unfold restTk
      rw [if_neg (by omega), if_neg (by omega), if_pos h12, tl_nil]; omega
    rw [if_neg h12]
    unfold restTk
    split
    · simp only [tl_cons, tl_nil, y3]; omega
    · split
      · split
        · simp only [tl_append, tl_brace, tl_nil]; omega
        · simp only [tl_append, tl_brace, tl_cons, y12]; omega
      · simp only [tl_nil]; omega
  unfold stTk1
  have e : (fun a => tl a) = tl := rfl
  rw [e]
  split
  · simp only [tl_cons, tl_append, tl_brace, y13, z5, z6]; omega
  · simp only [tl_append, tl_flatten]
    by_cases h12 : op = 12
    · rw [if_pos h12] at hh hr; omega
    · rw [if_neg h12] at hh hr; omega
theorem st_tl : ∀ (s : St), StRg s → ∀ n, 0 ≤ s.room n → (tl s.tk : Int) ≤ 3 * (n - s.room n) := by
  refine St.ind fun s ih1 ih2 ih3 hr n h => ?_
  obtain ⟨⟨hi1, hi2⟩, hre, hrb, hrl, hra⟩ := (stRg_iff s).1 hr
  rw [stRoom_eq] at h ⊢
  have hx : 0 ≤ roomFold Ex.room s.exprs (s.room1 n) := by
    rcases Int.lt_or_le (roomFold Ex.room s.exprs (s.room1 n)) 0 with h0 | h0
    · rw [if_pos h0] at h; exact h
    · exact h0
  rw [if_neg (by omega)] at h ⊢
  have h3 := fold_pos h
  have h2 := fold_pos h3
  have h1 := fold_pos hx
  have e1 := fold_ts (t := fun x => tl x.tk) s.exprs (fun x hx' m hm => by have := ex_tl x (hre x hx') m hm; omega) _ hx
  have e2 := fold_ts (t := fun x => tl x.tk) s.body (fun x hx' m hm => ih1 x hx' (hrb x hx') m hm) _ h2
  have e3 := fold_ts (t := fun x => tl x.tk) s.els (fun x hx' m hm => ih2 x hx' (hrl x hx') m hm) _ h3
  have e4 := fold_ts (t := fun a : Ar => tl a.tk) s.arms (fun a ha m hm => by
    rw [arRoom_eq] at hm ⊢
    have k1 := fold_pos hm
    obtain ⟨k2, k3⟩ := nameRoom_in k1
    have k4 : 0 ≤ nameRoom a.variant.size m := by omega
    obtain ⟨k5, k6⟩ := nameRoom_in k4
    have k7 := fold_ts (t := fun x => tl x.tk) a.body (fun x hx' m hm => ih3 a ha x hx' (hra a ha x hx') m hm) _ hm
    obtain ⟨z1, z2, z3, z4, z5, z6, z7, z8, z9, z10, z11⟩ := z1
    obtain ⟨y1, y2, y3, y4, y5, y6, y7, y8, y9, y10, y11, y12, y13, y14, _⟩ := zs2
    rw [arTk_eq]
    unfold armTk
    rw [← tl_flatMap] at k7
    split
    · simp only [tl_cons, tl_append, tl_brace, tl_nil, y14]; push_cast at k7 ⊢; omega
    · simp only [tl_cons, tl_append, tl_brace, tl_nil, y14, z5, z6]; push_cast at k7 ⊢; omega) _ h
  rw [← tl_flatMap] at e2 e3 e4
  have hs := stTk1_tl s.op s.int hi1 hi2 s.name s.second s.names s.type s.place (s.exprs.map Ex.tk) (s.body.flatMap St.tk) s.els.length (s.els.flatMap St.tk) (s.arms.flatMap Ar.tk)
  rw [tsum_map] at hs
  rw [stTk_eq]
  unfold St.room1 at h1 e1 hx e2 e3 e4 ⊢
  obtain ⟨p1, p2⟩ := pl_tl h1
  have t1 := ty_pos (pl_pos h1)
  have t2 := ty_tl s.type _ (pl_pos h1)
  have n1 := names_ts t1
  have n2 := names_pos t1
  obtain ⟨n3, n4⟩ := nameRoom_in n2
  have n5 : 0 ≤ nameRoom s.name.size n := by omega
  obtain ⟨n6, n7⟩ := nameRoom_in n5
  omega
/-- every statement within a statement is short -/
def StTl : St → Prop
  | .mk op name second names ty int pl es b el ar pos => tl (St.tk (.mk op name second names ty int pl es b el ar pos)) ≤ 1000000 ∧ (∀ e ∈ es, ExTl e) ∧ StTls b ∧ StTls el ∧ ArTls ar
where
  StTls : List St → Prop
  | [] => True
  | s :: l => StTl s ∧ StTls l
  ArTls : List (ArOf St) → Prop
  | [] => True
  | ⟨v, n, b⟩ :: l => StTls b ∧ ArTls l
theorem stTls_iff (l : List St) : StTl.StTls l ↔ ∀ e ∈ l, StTl e := by
  induction l with
  | nil => simp [StTl.StTls]
  | cons e l ih => simp [StTl.StTls, ih]
theorem arTls_iff (l : List Ar) : StTl.ArTls l ↔ ∀ a ∈ l, ∀ e ∈ a.body, StTl e := by
  induction l with
  | nil => simp [StTl.ArTls]
  | cons a l ih => obtain ⟨v, n, b⟩ := a; simp [StTl.ArTls, ih, stTls_iff]
theorem stTl_iff (s : St) : StTl s ↔ tl s.tk ≤ 1000000 ∧ (∀ e ∈ s.exprs, ExTl e) ∧ (∀ x ∈ s.body, StTl x) ∧ (∀ x ∈ s.els, StTl x) ∧ ∀ a ∈ s.arms, ∀ x ∈ a.body, StTl x := by
  cases s with | mk op name second names ty int pl es b el ar pos => simp only [StTl, stTls_iff, arTls_iff]; rfl
/-- all in an item is short -/
def ItTl (x : It) : Prop := tl x.tk ≤ 1000000 ∧ ExTl x.ret ∧ (∀ s ∈ x.body, StTl s)
end Go.Proofs.YtlnoacoanfhdcaaGreatDoor

namespace Go.Proofs.YtlnoacoanfhdcaaGreatDoor
open Go.RowKit
set_option linter.unusedVariables false
set_option linter.unusedSimpArgs false

theorem ex_tlm {l : List Ex} (hr : ∀ e ∈ l, ExRg e) {n : Int} (h1 : -6 ≤ n) (h2 : n ≤ 20000) (h : 0 ≤ roomFold Ex.room l n) : ∀ e ∈ l, ExTl e := fun e he => by
  have f := fold_in l n (fun x _ m a b => cst_ex x m (by omega) b) h1 (by omega) h
  obtain ⟨m, m1, m2, m3⟩ := f.2.2 e he
  exact ex_tls e m (hr e he) (by omega) (by omega) m3
theorem st_tls : ∀ (s : St) (n : Int), StRg s → -10 ≤ n → n ≤ 20000 → 0 ≤ s.room n → StTl s := by
  refine St.ind fun s ih1 ih2 ih3 n hr h1 h2 h => ?_
  have ht := st_tl s hr n h
  obtain ⟨_, hre, hrb, hrl, hra⟩ := (stRg_iff s).1 hr
  have h0 := h
  rw [stRoom_eq] at h
  split at h
  · omega
  rename_i hx
  have a := st1_le s n h1 (by omega)
  have hx : 0 ≤ roomFold Ex.room s.exprs (s.room1 n) := by omega
  have b1 := exs_le s.exprs (s.room1 n) a.1 (by omega)
  have c1 := sts_le s.body _ b1.1 (by omega)
  have d1 := sts_le s.els _ c1.1 (by omega)
  have fA := fold_in s.arms _ (fun x _ m a b => cst_ar x m a b) d1.1 (by omega) h
  have hE := fold_pos h
  have fE := fold_in s.els _ (fun x _ m a b => cst_st x m (by omega) b) c1.1 (by omega) hE
  have hB := fold_pos hE
  have fB := fold_in s.body _ (fun x _ m a b => cst_st x m (by omega) b) b1.1 (by omega) hB
  refine (stTl_iff s).2 ⟨by omega, ex_tlm hre a.1 (by omega) hx, fun x hx => ?_, fun x hx => ?_, fun x hx y hy => ?_⟩
  · obtain ⟨m, m1, m2, m3⟩ := fB.2.2 x hx
    exact ih1 x hx m (hrb x hx) (by omega) (by omega) m3
  · obtain ⟨m, m1, m2, m3⟩ := fE.2.2 x hx
    exact ih2 x hx m (hrl x hx) (by omega) (by omega) m3
  · obtain ⟨m, m1, m2, m3⟩ := fA.2.2 x hx
    rw [arRoom_eq] at m3
    have k2 := nameRoom_in (fold_pos m3)
    have k1 := nameRoom_in (by omega : 0 ≤ nameRoom x.variant.size m)
    have f := fold_in x.body _ (fun x _ m a b => cst_st x m (by omega) b) (by omega) (by omega) m3
    obtain ⟨m', n1, n2, n3⟩ := f.2.2 y hy
    exact ih3 x hx y hy m' (hra x hx y hy) (by omega) (by omega) n3
theorem fields_tl {l : List Fi} {n : Int} (f : Fi → List ByteArray) (hf : ∀ x, tl (f x) ≤ x.name.size + tl x.type.tk + 5) (h : 0 ≤ roomFold Fi.room l n) : (tl (commas (l.map f)) : Int) ≤ 3 * (n - roomFold Fi.room l n) := by
  have a := fold_ts (g := Fi.room) (t := fun x => tl (f x) + 2) l (fun x _ m hm => by
    unfold Fi.room at hm ⊢
    have t1 := ty_tl x.type _ hm
    have t2 := nameRoom_in (ty_pos hm)
    have t3 := hf x
    omega) n h
  have b := tl_commas (l.map f)
  rw [tsum_map] at b
  omega
theorem fieldTk_tl (x : Fi) : tl (fieldTk x) ≤ x.name.size + tl x.type.tk + 5 := by
  have z : ((⟨#[58]⟩ : ByteArray) : ByteArray).size = 1 := rfl
  unfold fieldTk
  simp only [tl_cons, z]; omega
theorem varTk_tl (x : Fi) : tl (varTk x) ≤ x.name.size + tl x.type.tk + 5 := by
  have z5 : ((⟨#[40]⟩ : ByteArray) : ByteArray).size = 1 := rfl
  have z6 : ((⟨#[41]⟩ : ByteArray) : ByteArray).size = 1 := rfl
  unfold varTk
  split
  · simp only [tl_cons, tl_nil]; omega
  · simp only [tl_cons, tl_append, tl_nil, z5, z6]; omega
theorem it_tl (x : It) (hr : ItRg x) (n : Int) (h : 0 ≤ x.room n) : (tl x.tk + 1 : Int) ≤ 3 * (n - x.room n) := by
  unfold It.room at h ⊢
  have h0 : 0 ≤ roomFold St.room x.body (x.result.room (roomFold Fi.room x.fields (nameRoom x.name.size n))) := by
    have := h
    rw [exRoom_eq] at this
    have := pl_pos (fold_pos this)
    have a := nameRoom_in this
    have b := nameRoom_in (by omega : 0 ≤ nameRoom x.ret.name.size (roomFold St.room x.body (x.result.room (roomFold Fi.room x.fields (nameRoom x.name.size n)))))
    omega
  have h1 := fold_pos h0
  have h2 := ty_pos h1
  have h3 := fold_pos h2
  have h4 := nameRoom_in h3
  have e1 := ex_tl x.ret hr.1 _ h
  have e2 := fold_ts (t := fun s => tl s.tk) x.body (fun s hs m hm => st_tl s (hr.2 s hs) m hm) _ h0
  have e3 := ty_tl x.result _ h1
  have e4 := fields_tl fieldTk fieldTk_tl h2
  have e5 := fields_tl varTk varTk_tl h2
  rw [← tl_flatMap] at e2
  obtain ⟨z1, z2, z3, z4, z5, z6, z7, z8, z9, z10, z11⟩ := z1
  obtain ⟨y1, y2, y3, y4, y5, y6, y7, y8, y9, y10, y11, y12, y13, y14, y15, y16, y17, y18⟩ := zs2
  unfold It.tk
  split
  · simp only [tl_cons, tl_append, tl_nil, y15, z10, z11]; push_cast; omega
  · split
    · simp only [tl_cons, tl_append, tl_nil, y16, z10, z11]; push_cast; omega
    · simp only [tl_cons, tl_append, tl_nil, y17, y18, z5, z6, z10, z11]; push_cast; omega
theorem it_tls (x : It) (hr : ItRg x) (n : Int) (h1 : -6 ≤ n) (h2 : n ≤ 20000) (h : 0 ≤ x.room n) : ItTl x := by
  have ht := it_tl x hr n h
  have hl := cst_it x n h1 (by omega)
  unfold It.room at h
  have a := nameRoom_cost x.name.size n (by omega)
  have b := fold_le x.fields _ (fun x _ m a b => cst_fi x m a b) (by omega : (-6 : Int) ≤ nameRoom x.name.size n) (by omega)
  have c := cst_ty x.result _ (by omega : (-10 : Int) ≤ roomFold Fi.room x.fields (nameRoom x.name.size n)) (by omega)
  have d := sts_le x.body _ c.1 (by omega)
  have e3 : 0 ≤ roomFold St.room x.body (x.result.room (roomFold Fi.room x.fields (nameRoom x.name.size n))) := by
    have := h
    rw [exRoom_eq] at this
    have := pl_pos (fold_pos this)
    have a := nameRoom_in this
    have b := nameRoom_in (by omega : 0 ≤ nameRoom x.ret.name.size (roomFold St.room x.body (x.result.room (roomFold Fi.room x.fields (nameRoom x.name.size n)))))
    omega
  have f := fold_in x.body _ (fun x _ m a b => cst_st x m (by omega) b) c.1 (by omega) e3
  refine ⟨by omega, ex_tls x.ret _ hr.1 (by omega) (by omega) h, fun s hs => ?_⟩
  obtain ⟨m, m1, m2, m3⟩ := f.2.2 s hs
  exact st_tls s m (hr.2 s hs) (by omega) (by omega) m3
theorem pr_tls {p : List It} (hr : ∀ x ∈ p, ItRg x) (h : great p = false) : (∀ x ∈ p, ItTl x) ∧ tsum (fun x => tl x.tk + 1) p ≤ 100000 := by
  have h : 0 ≤ roomFold It.room p 20000 := by simpa [great] using h
  have f := fold_in p 20000 (fun x hx m a b => cst_it x m a b) (by omega) (by omega) h
  refine ⟨fun x hx => ?_, ?_⟩
  · obtain ⟨n, h1, h2, h3⟩ := f.2.2 x hx
    exact it_tls x (hr x hx) n (by omega) (by omega) h3
  · have := fold_ts (t := fun x => tl x.tk + 1) p (fun x hx m hm => by have := it_tl x (hr x hx) m hm; push_cast; omega) 20000 h
    omega
end Go.Proofs.YtlnoacoanfhdcaaGreatDoor
