/- All in a program that is not great is short. No statement is proved here. -/
import Derived.Test.YtldglgdejmljnaaGreatDoorCSpL
import Derived.Test.YtldglgdejmljnaaGreatDoorCR4X
namespace Go.Proofs.YtldglgdejmljnaaGreatDoor
open Go.RowKit
set_option linter.unusedVariables false
set_option linter.unusedSimpArgs false

theorem ex_tlm {l : List Ex} (hr : ∀ e ∈ l, ExRg e) {n : Int} (h1 : -6 ≤ n) (h2 : n ≤ 20000) (h : 0 ≤ roomFold Ex.room l n) : ∀ e ∈ l, ExTl e := fun e he => by
  have f := fold_in l n (fun x _ m a b => cst_ex x m (by omega) b) h1 (by omega) h
  obtain ⟨m, m1, m2, m3⟩ := f.2.2 e he
  exact ex_tls e m (hr e he) (by omega) (by omega) m3
theorem st_tls : ∀ (s : St) (n : Int), StRg s → -10 ≤ n → n ≤ 20000 → 0 ≤ s.room n → StTl s := by
  refine St.ind fun s ih1 ih2 ih3 n hr h1 h2 h => ?_
  have ht := st_tl s hr n h
  obtain ⟨_, hre, hrb, hrl, hra⟩ := (stRg_iff s).1 hr
  have h0 := h
  rw [stRoom_eq] at h
  split at h
  · omega
  rename_i hx
  have a := st1_le s n h1 (by omega)
  have hx : 0 ≤ roomFold Ex.room s.exprs (s.room1 n) := by omega
  have b1 := exs_le s.exprs (s.room1 n) a.1 (by omega)
  have c1 := sts_le s.body _ b1.1 (by omega)
  have d1 := sts_le s.els _ c1.1 (by omega)
  have fA := fold_in s.arms _ (fun x _ m a b => cst_ar x m a b) d1.1 (by omega) h
  have hE := fold_pos h
  have fE := fold_in s.els _ (fun x _ m a b => cst_st x m (by omega) b) c1.1 (by omega) hE
  have hB := fold_pos hE
  have fB := fold_in s.body _ (fun x _ m a b => cst_st x m (by omega) b) b1.1 (by omega) hB
  refine (stTl_iff s).2 ⟨by omega, ex_tlm hre a.1 (by omega) hx, fun x hx => ?_, fun x hx => ?_, fun x hx y hy => ?_⟩
  · obtain ⟨m, m1, m2, m3⟩ := fB.2.2 x hx
    exact ih1 x hx m (hrb x hx) (by omega) (by omega) m3
  · obtain ⟨m, m1, m2, m3⟩ := fE.2.2 x hx
    exact ih2 x hx m (hrl x hx) (by omega) (by omega) m3
  · obtain ⟨m, m1, m2, m3⟩ := fA.2.2 x hx
    rw [arRoom_eq] at m3
    have k2 := nameRoom_in (fold_pos m3)
    have k1 := nameRoom_in (by omega : 0 ≤ nameRoom x.variant.size m)
    have f := fold_in x.body _ (fun x _ m a b => cst_st x m (by omega) b) (by omega) (by omega) m3
    obtain ⟨m', n1, n2, n3⟩ := f.2.2 y hy
    exact ih3 x hx y hy m' (hra x hx y hy) (by omega) (by omega) n3
theorem fields_tl {l : List Fi} {n : Int} (f : Fi → List ByteArray) (hf : ∀ x, tl (f x) ≤ x.name.size + tl x.type.tk + 5) (h : 0 ≤ roomFold Fi.room l n) : (tl (commas (l.map f)) : Int) ≤ 3 * (n - roomFold Fi.room l n) := by
  have a := fold_ts (g := Fi.room) (t := fun x => tl (f x) + 2) l (fun x _ m hm => by
    unfold Fi.room at hm ⊢
    have t1 := ty_tl x.type _ hm
    have t2 := nameRoom_in (ty_pos hm)
    have t3 := hf x
    omega) n h
  have b := tl_commas (l.map f)
  rw [tsum_map] at b
  omega
theorem fieldTk_tl (x : Fi) : tl (fieldTk x) ≤ x.name.size + tl x.type.tk + 5 := by
  have z : ((⟨#[58]⟩ : ByteArray) : ByteArray).size = 1 := rfl
  unfold fieldTk
  simp only [tl_cons, z]; omega
theorem varTk_tl (x : Fi) : tl (varTk x) ≤ x.name.size + tl x.type.tk + 5 := by
  have z5 : ((⟨#[40]⟩ : ByteArray) : ByteArray).size = 1 := rfl
  have z6 : ((⟨#[41]⟩ : ByteArray) : ByteArray).size = 1 := rfl
  unfold varTk
  split
  · simp only [tl_cons, tl_nil]; omega
  · simp only [tl_cons, tl_append, tl_nil, z5, z6]; omega
theorem it_tl (x : It) (hr : ItRg x) (n : Int) (h : 0 ≤ x.room n) : (tl x.tk + 1 : Int) ≤ 3 * (n - x.room n) := by
  unfold It.room at h ⊢
  have h0 : 0 ≤ roomFold St.room x.body (x.result.room (roomFold Fi.room x.fields (nameRoom x.name.size n))) := by
    have := h
    rw [exRoom_eq] at this
    have := pl_pos (fold_pos this)
    have a := nameRoom_in this
    have b := nameRoom_in (by omega : 0 ≤ nameRoom x.ret.name.size (roomFold St.room x.body (x.result.room (roomFold Fi.room x.fields (nameRoom x.name.size n)))))
    omega
  have h1 := fold_pos h0
  have h2 := ty_pos h1
  have h3 := fold_pos h2
  have h4 := nameRoom_in h3
  have e1 := ex_tl x.ret hr.1 _ h
  have e2 := fold_ts (t := fun s => tl s.tk) x.body (fun s hs m hm => st_tl s (hr.2 s hs) m hm) _ h0
  have e3 := ty_tl x.result _ h1
  have e4 := fields_tl fieldTk fieldTk_tl h2
  have e5 := fields_tl varTk varTk_tl h2
  rw [← tl_flatMap] at e2
  obtain ⟨z1, z2, z3, z4, z5, z6, z7, z8, z9, z10, z11⟩ := z1
  obtain ⟨y1, y2, y3, y4, y5, y6, y7, y8, y9, y10, y11, y12, y13, y14, y15, y16, y17, y18⟩ := zs2
  unfold It.tk
  split
  · simp only [tl_cons, tl_append, tl_nil, y15, z10, z11]; push_cast; omega
  · split
    · simp only [tl_cons, tl_append, tl_nil, y16, z10, z11]; push_cast; omega
    · simp only [tl_cons, tl_append, tl_nil, y17, y18, z5, z6, z10, z11]; push_cast; omega
theorem it_tls (x : It) (hr : ItRg x) (n : Int) (h1 : -6 ≤ n) (h2 : n ≤ 20000) (h : 0 ≤ x.room n) : ItTl x := by
  have ht := it_tl x hr n h
  have hl := cst_it x n h1 (by omega)
  unfold It.room at h
  have a := nameRoom_cost x.name.size n (by omega)
  have b := fold_le x.fields _ (fun x _ m a b => cst_fi x m a b) (by omega : (-6 : Int) ≤ nameRoom x.name.size n) (by omega)
  have c := cst_ty x.result _ (by omega : (-10 : Int) ≤ roomFold Fi.room x.fields (nameRoom x.name.size n)) (by omega)
  have d := sts_le x.body _ c.1 (by omega)
  have e3 : 0 ≤ roomFold St.room x.body (x.result.room (roomFold Fi.room x.fields (nameRoom x.name.size n))) := by
    have := h
    rw [exRoom_eq] at this
    have := pl_pos (fold_pos this)
    have a := nameRoom_in this
    have b := nameRoom_in (by omega : 0 ≤ nameRoom x.ret.name.size (roomFold St.room x.body (x.result.room (roomFold Fi.room x.fields (nameRoom x.name.size n)))))
    omega
  have f := fold_in x.body _ (fun x _ m a b => cst_st x m (by omega) b) c.1 (by omega) e3
  refine ⟨by omega, ex_tls x.ret _ hr.1 (by omega) (by omega) h, fun s hs => ?_⟩
  obtain ⟨m, m1, m2, m3⟩ := f.2.2 s hs
  exact st_tls s m (hr.2 s hs) (by omega) (by omega) m3
theorem pr_tls {p : List It} (hr : ∀ x ∈ p, ItRg x) (h : great p = false) : (∀ x ∈ p, ItTl x) ∧ tsum (fun x => tl x.tk + 1) p ≤ 100000 := by
  have h : 0 ≤ roomFold It.room p 20000 := by simpa [great] using h
  have f := fold_in p 20000 (fun x hx m a b => cst_it x m a b) (by omega) (by omega) h
  refine ⟨fun x hx => ?_, ?_⟩
  · obtain ⟨n, h1, h2, h3⟩ := f.2.2 x hx
    exact it_tls x (hr x hx) n (by omega) (by omega) h3
  · have := fold_ts (t := fun x => tl x.tk + 1) p (fun x hx m hm => by have := it_tl x (hr x hx) m hm; push_cast; omega) 20000 h
    omega
end Go.Proofs.YtldglgdejmljnaaGreatDoor
