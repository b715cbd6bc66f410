/- Lists that a call makes: a slice of its own that is appended to, element by element. No statement is proved here. -/
import Derived.Test.YtkgpkbclfncnfaaBase
import Derived.Deep.AppendLies
namespace Go.Proofs.Ytkgpkbclfncnfaa
open Go.RowKit
set_option linter.unusedVariables false

/-- how a thing of one kind reads in memory -/
structure Shp (α : Type) where
  size : Nat
  R : World → (Nat → Prop) → α → (Nat → Value) → Prop
  pos : 0 < size
  mono : ∀ {w w' : World} {S S' : Nat → Prop} {x : α} {f : Nat → Value}, R w S x f → Keeps S w w' → (∀ b, S b → S' b) → R w' S' x f
  lt : ∀ {w : World} {S : Nat → Prop} {x : α} {f : Nat → Value}, R w S x f → R w (fun b => S b ∧ b < w.heap.size) x f
  one : ∀ {w : World} {S : Nat → Prop} {x : α} {f : Nat → Value}, R w S x f → ∀ j, j < size → (f j).oneCell' = true

theorem RdSl.lt {α : Type} {w : World} {S : Nat → Prop} {size : Nat} {R R' : α → (Nat → Value) → Prop} (hs : 0 < size) {l : List α} {v : Value} (h : RdSl w S size R l v) (hR : ∀ x ∈ l, ∀ f, R x f → R' x f) : RdSl w (fun b => S b ∧ b < w.heap.size) size R' l v := by
  obtain ⟨A, cap, h1, h2, h3, h4, h5⟩ := h
  refine ⟨A, cap, h1, h2, h3, h4, fun i x hx => ?_⟩
  obtain ⟨b, off, hA, hb, f, hf, hc⟩ := h5 i x hx
  exact ⟨b, off, hA, ⟨hb, lt_of_cell (hc 0 hs).1⟩, f, hR _ (List.mem_of_getElem? hx) _ hf, hc⟩
theorem RdTy.lt {w : World} {S : Nat → Prop} : ∀ (n : Nat) (t : Ty) (f : Nat → Value), RdTy w S n t f → RdTy w (fun b => S b ∧ b < w.heap.size) n t f
  | 0, _, _, h => h.elim
  | n + 1, t, f, ⟨h0, h1, h2, h3, h4, h5⟩ => ⟨h0, h1, h2, h3, h4, h5.lt (by omega) (fun x _ f h => RdTy.lt n x f h)⟩
theorem TyIn.lt {w : World} {S : Nat → Prop} {t : Ty} {f : Nat → Value} (h : TyIn w S t f) : TyIn w (fun b => S b ∧ b < w.heap.size) t f := h.imp fun n h => RdTy.lt n t f h
theorem PlIn.lt {w : World} {S : Nat → Prop} {t : Pl} {f : Nat → Value} (h : PlIn w S t f) : PlIn w (fun b => S b ∧ b < w.heap.size) t f := ⟨h.1, h.2.1, h.2.2.lt (by omega) fun _ _ _ h => h⟩
theorem ExHead.lt {w : World} {S : Nat → Prop} {t : Ex} {f : Nat → Value} (h : ExHead w S t f) : ExHead w (fun b => S b ∧ b < w.heap.size) t f := by
  obtain ⟨a, b, c, d, e, g, h, i, j, k, l⟩ := h
  exact ⟨a, b, c, d, e, g, h, i, j.lt, k, l⟩
theorem RdEx.lt {w : World} {S : Nat → Prop} : ∀ (n : Nat) (t : Ex) (f : Nat → Value), RdEx w S n t f → RdEx w (fun b => S b ∧ b < w.heap.size) n t f
  | 0, _, _, h => h.elim
  | n + 1, t, f, ⟨h0, h5⟩ => ⟨h0.lt, h5.lt (by omega) (fun x _ f h => RdEx.lt n x f h)⟩
theorem ExIn.lt {w : World} {S : Nat → Prop} {t : Ex} {f : Nat → Value} (h : ExIn w S t f) : ExIn w (fun b => S b ∧ b < w.heap.size) t f := h.imp fun n h => RdEx.lt n t f h
theorem StHead.lt {w : World} {S : Nat → Prop} {t : St} {f : Nat → Value} (h : StHead w S t f) : StHead w (fun b => S b ∧ b < w.heap.size) t f := by
  obtain ⟨a, b, c, d, e, g, h, i, j, k, l, m, n, o⟩ := h
  exact ⟨a, b, c, d, e, g, h.lt (by omega) fun _ _ _ h => h, i.lt, j, k, l.lt, m.lt (by omega) fun _ _ _ h => h.lt, n, o⟩
theorem RdSt.lt {w : World} {S : Nat → Prop} : ∀ (n : Nat) (t : St) (f : Nat → Value), RdSt w S n t f → RdSt w (fun b => S b ∧ b < w.heap.size) n t f
  | 0, _, _, h => h.elim
  | n + 1, t, f, ⟨h0, h1, h2, h3⟩ => ⟨h0.lt, h1.lt (by omega) (fun x _ f h => RdSt.lt n x f h), h2.lt (by omega) (fun x _ f h => RdSt.lt n x f h),
      h3.lt (by omega) fun a _ g h => ⟨h.1, h.2.lt (by omega) (fun x _ f h => RdSt.lt n x f h)⟩⟩
theorem StIn.lt {w : World} {S : Nat → Prop} {t : St} {f : Nat → Value} (h : StIn w S t f) : StIn w (fun b => S b ∧ b < w.heap.size) t f := h.imp fun n h => RdSt.lt n t f h
theorem ArIn.lt {w : World} {S : Nat → Prop} {t : Ar} {f : Nat → Value} (h : ArIn w S t f) : ArIn w (fun b => S b ∧ b < w.heap.size) t f := ⟨h.1, h.2.lt (by omega) fun _ _ _ h => h.lt⟩
theorem FiIn.lt {w : World} {S : Nat → Prop} {t : Fi} {f : Nat → Value} (h : FiIn w S t f) : FiIn w (fun b => S b ∧ b < w.heap.size) t f := ⟨h.1, h.2.1, h.2.2.lt⟩
theorem ItIn.lt {w : World} {S : Nat → Prop} {t : It} {f : Nat → Value} (h : ItIn w S t f) : ItIn w (fun b => S b ∧ b < w.heap.size) t f := by
  obtain ⟨a, b, c, d, e, g, h, i, j, k⟩ := h
  exact ⟨a, b, c, d, e.lt (by omega) fun _ _ _ h => h.lt, g.lt, h.lt (by omega) fun _ _ _ h => h.lt, i.lt, j, k⟩

def shTy : Shp Ty := ⟨3, TyIn, by omega, fun h k s => h.mono k s, fun h => h.lt, fun h => h.one⟩
def shPl : Shp Pl := ⟨2, PlIn, by omega, fun h k s => h.mono k s, fun h => h.lt, fun h => h.one⟩
def shEx : Shp Ex := ⟨8, ExIn, by omega, fun h k s => h.mono k s, fun h => h.lt, fun h => h.one⟩
def shSt : Shp St := ⟨15, StIn, by omega, fun h k s => h.mono k s, fun h => h.lt, fun h => h.one⟩
def shAr : Shp Ar := ⟨3, ArIn, by omega, fun h k s => h.mono k s, fun h => h.lt, fun h => h.one⟩
def shFi : Shp Fi := ⟨4, FiIn, by omega, fun h k s => h.mono k s, fun h => h.lt, fun h => h.one⟩
def shIt : Shp It := ⟨16, ItIn, by omega, fun h k s => h.mono k s, fun h => h.lt, fun h => h.one⟩
def shStr : Shp ByteArray := ⟨1, fun _ _ => RdStr, by omega, fun h _ _ => h, fun h => h, fun h j hj => by
  obtain rfl : j = 0 := by omega
  rw [h.1]; rfl⟩

/-- the slice v, which the call that made it (with blocks from B on) still owns, reads as a list; what its elements lead to lies in other blocks -/
def Made {α : Type} (sh : Shp α) (w : World) (B : Nat) (e : TypeId) (l : List α) (n : Nat) (v : Value) : Prop :=
  l.length = n ∧ ∃ xs, w.ownsRow B e sh.size v n xs ∧ ∀ i x, l[i]? = some x → ∃ f, sh.R w (fun b => B ≤ b ∧ v.ownBlock ≠ some b) x f ∧ ∀ j, j < sh.size → xs[i * sh.size + j]? = some (f j)

theorem Made.nil {α : Type} (sh : Shp α) (w : World) (B : Nat) (e : TypeId) : Made sh w B e [] 0 (.slice none 0 0) := ⟨rfl, [], World.ownsRow_nil _ _ _ _, fun i x h => by simp at h⟩

theorem Made.kept {α : Type} {sh : Shp α} {w w' : World} {B : Nat} {e : TypeId} {l : List α} {n : Nat} {v : Value} (h : Made sh w B e l n v) {row : Option Nat} (hg : w.grownBy w' row) (hrow : ∀ k, row = some k → k < B) : Made sh w' B e l n v := by
  obtain ⟨hl, xs, h1, h2⟩ := h
  have hne : v.ownBlock = none ∨ v.ownBlock ≠ row := by
    cases hv : v.ownBlock with
    | none => exact .inl rfl
    | some k => exact .inr fun hr => by have := hrow k hr.symm; have := (h1.lt k hv).1; omega
  refine ⟨hl, xs, h1.kept hg hne, fun i x hx => ?_⟩
  obtain ⟨f, hf, hc⟩ := h2 i x hx
  refine ⟨f, sh.mono hf (fun b hb o u hu => ?_) (fun _ h => h), hc⟩
  have hb1 : some b ≠ row := fun h => by have := hrow b h.symm; have := hb.1; omega
  exact ⟨(World.cell?_of_block (a := ⟨b, o, none⟩) (hg.block b (lt_of_cell hu) hb1)).trans hu, World.frozen?_of_block (a := ⟨b, o, none⟩) (hg.block b (lt_of_cell hu) hb1)⟩

theorem grown_of_below {w w' : World} (h : Below w.heap.size w w') : w.grownBy w' none := ⟨h.os, h.tape, h.output, h.size, fun k hk _ => h.block k hk⟩
theorem grown_set (w : World) (p : Addr) (u : Value) : w.grownBy (w.setCell p u) (some p.block) := ⟨rfl, rfl, rfl, by simp [World.setCell], fun k _ hk => Below.heap_setCell _ _ _ _ (fun h => hk (by rw [h]))⟩
theorem Made.below {α : Type} {sh : Shp α} {w w' : World} {B : Nat} {e : TypeId} {l : List α} {n : Nat} {v : Value} (h : Made sh w B e l n v) (hb : Below w.heap.size w w') : Made sh w' B e l n v := h.kept (grown_of_below hb) fun k hk => by cases hk
theorem Made.set {α : Type} {sh : Shp α} {w : World} {B : Nat} {e : TypeId} {l : List α} {n : Nat} {v : Value} (h : Made sh w B e l n v) {p : Addr} (hp : p.block < B) (u : Value) : Made sh (w.setCell p u) B e l n v := h.kept (grown_set w p u) fun k hk => by cases hk; exact hp

/-- the slice as it reads -/
theorem Made.rd {α : Type} {sh : Shp α} {w : World} {B : Nat} {e : TypeId} {l : List α} {n : Nat} {v : Value} (h : Made sh w B e l n v) : RdSl w (fun b => B ≤ b) sh.size (sh.R w (fun b => B ≤ b)) l v := by
  obtain ⟨rfl, xs, h1, h2⟩ := h
  rcases h1.2 with ⟨rfl, hn⟩ | ⟨g, cap, cur, rfl, hb, hg, hn, hc, hs, ht⟩
  · have : l = [] := List.eq_nil_of_length_eq_zero hn
    subst this
    exact ⟨none, 0, rfl, Nat.le_refl _, by simp [maxLen], fun _ => rfl, fun i x h => by simp at h⟩
  · refine ⟨some ⟨g, 0, none⟩, cap, rfl, hn, hc, (fun h => by cases h), fun i x hx => ?_⟩
    obtain ⟨f, hf, hcell⟩ := h2 i x hx
    refine ⟨g, 0, rfl, hb, f, sh.mono hf (Keeps.refl _ _) (fun b h => h.1), fun j hj => ⟨?_, frozen_blk hg _⟩⟩
    rw [cell_blk hg]
    have h3 := hcell j hj
    rw [← ht] at h3
    have hlt := (List.getElem?_eq_some_iff.1 h3).1
    rw [List.length_take] at hlt
    rw [List.getElem?_take_of_lt (by omega)] at h3
    rw [Nat.zero_add, ← h3, Array.getElem?_toList]

/-- one element more: x was read in w1, where the slice lay; in 'w1.alloc o' it was appended -/
theorem Made.push {α : Type} {sh : Shp α} {w1 w2 : World} {B H0 : Nat} {e : TypeId} {l : List α} {v : Value} {x : α} {f : Nat → Value} {o : Obj} {g cap : Nat} {n : Nat} {xs news : List Value} (hl : l.length = n) (h1 : w1.ownsRow B e sh.size v n xs) (h2 : ∀ i x, l[i]? = some x → ∃ f, sh.R w1 (fun b => B ≤ b ∧ v.ownBlock ≠ some b) x f ∧ ∀ j, j < sh.size → xs[i * sh.size + j]? = some (f j)) (hx : sh.R w1 (fun b => H0 ≤ b) x f) (hB : B ≤ H0)
    (hv : ∀ k, v.ownBlock = some k → k < H0) (hnl : news.length = sh.size) (hnews : ∀ j, j < sh.size → news[j]? = some (f j))
    (hown : w2.ownsRow B e sh.size (.slice (some ⟨g, 0, none⟩) (n + 1) cap) (n + 1) (xs ++ news)) (hgrow : (w1.alloc o).grownBy w2 v.ownBlock) (hat : v.ownBlock = some g ∨ g = w1.heap.size + 1) :
    Made sh w2 B e (l ++ [x]) (n + 1) (.slice (some ⟨g, 0, none⟩) (n + 1) cap) := by
  subst hl
  have hkeep : ∀ b, b < w1.heap.size → v.ownBlock ≠ some b → ∀ o', w2.cell? ⟨b, o', none⟩ = w1.cell? ⟨b, o', none⟩ ∧ w2.frozen? ⟨b, o', none⟩ = w1.frozen? ⟨b, o', none⟩ := by
    intro b hb hne o'
    have e1 := (hgrow.block b (by simp; omega) (fun h => hne h.symm)).trans (Below.heap_alloc w1 o b hb)
    exact ⟨World.cell?_of_block (a := ⟨b, o', none⟩) e1, World.frozen?_of_block (a := ⟨b, o', none⟩) e1⟩
  have hgne : ∀ b, b < w1.heap.size → v.ownBlock ≠ some b → g ≠ b := by
    intro b hb hne h
    rcases hat with hat | hat
    · exact hne (by rw [hat, h])
    · omega
  refine ⟨by simp, xs ++ news, hown, fun i y hy => ?_⟩
  rcases Nat.lt_or_ge i l.length with hi | hi
  · rw [List.getElem?_append_left hi] at hy
    obtain ⟨f', hf', hc'⟩ := h2 i y hy
    refine ⟨f', sh.mono (sh.lt hf') (fun b hb o' u hu => ?_) (fun b hb => ⟨hb.1.1, ?_⟩), fun j hj => ?_⟩
    · exact ⟨(hkeep b hb.2 hb.1.2 o').1.trans hu, (hkeep b hb.2 hb.1.2 o').2⟩
    · intro he
      exact hgne b hb.2 hb.1.2 (by simpa [Value.ownBlock] using he)
    · have h3 := hc' j hj
      have := (List.getElem?_eq_some_iff.1 h3).1
      rw [List.getElem?_append_left (by omega)]
      exact h3
  · have hlt := (List.getElem?_eq_some_iff.1 hy).1
    simp at hlt
    obtain rfl : i = l.length := by omega
    rw [List.getElem?_append_right (Nat.le_refl _)] at hy
    simp at hy
    subst hy
    have hne : ∀ b, H0 ≤ b → v.ownBlock ≠ some b := fun b hb h => by have := hv b h; omega
    refine ⟨f, sh.mono (sh.lt hx) (fun b hb o' u hu => ?_) (fun b hb => ⟨by have := hb.1; omega, ?_⟩), fun j hj => ?_⟩
    · exact ⟨(hkeep b hb.2 (hne b hb.1) o').1.trans hu, (hkeep b hb.2 (hne b hb.1) o').2⟩
    · intro he
      exact hgne b hb.2 (hne b hb.1) (by simpa [Value.ownBlock] using he)
    · rw [List.getElem?_append_right (by rw [h1.1]; omega), h1.1, show l.length * sh.size + j - l.length * sh.size = j by omega]
      exact hnews j hj

theorem Made.form {α : Type} {sh : Shp α} {w : World} {B : Nat} {e : TypeId} {l : List α} {n : Nat} {v : Value} (h : Made sh w B e l n v) : ∃ A cap, v = .slice A n cap := by
  obtain ⟨hl, xs, h1, _⟩ := h
  rcases h1.2 with ⟨rfl, rfl⟩ | ⟨g, cap, cur, rfl, _⟩
  · exact ⟨none, 0, rfl⟩
  · exact ⟨_, _, rfl⟩
theorem Made.own {α : Type} {sh : Shp α} {w : World} {B : Nat} {e : TypeId} {l : List α} {n : Nat} {v : Value} (h : Made sh w B e l n v) : ∀ k, v.ownBlock = some k → B ≤ k ∧ k < w.heap.size := by
  obtain ⟨hl, xs, h1, _⟩ := h
  exact h1.lt
theorem blks2 (w : World) (o1 o2 : Obj) : ((w.alloc o1).alloc o2).heap[w.heap.size]? = some o1 ∧ ((w.alloc o1).alloc o2).heap[w.heap.size + 1]? = some o2 :=
  ⟨blk_alloc (blk_new _ _) _, by simpa using blk_new (w.alloc o1) o2⟩
theorem blks3 (w : World) (o1 o2 o3 : Obj) : (((w.alloc o1).alloc o2).alloc o3).heap[w.heap.size]? = some o1 ∧ (((w.alloc o1).alloc o2).alloc o3).heap[w.heap.size + 1]? = some o2 ∧ (((w.alloc o1).alloc o2).alloc o3).heap[w.heap.size + 2]? = some o3 :=
  ⟨blk_alloc (blks2 w o1 o2).1 _, blk_alloc (blks2 w o1 o2).2 _, by simpa using blk_new ((w.alloc o1).alloc o2) o3⟩
theorem below_new {B : Nat} {w w1 : World} (h : Below B w w1) (hB : B ≤ w1.heap.size) (o : Obj) : Below B w (w1.alloc o) ∧ B ≤ (w1.alloc o).heap.size := ⟨h.alloc hB o, by simp; omega⟩
theorem ones (n : Nat) (k : Nat → Value) (h : ∀ j, j < n → (k j).oneCell' = true) : ∀ u ∈ (List.range n).map k, u.oneCell' = true := by
  intro u hu
  obtain ⟨j, hj, rfl⟩ := List.mem_map.1 hu
  exact h j (List.mem_range.1 hj)
theorem ones_get (n : Nat) (k : Nat → Value) (j : Nat) (h : j < n) : ((List.range n).map k)[j]? = some (k j) := by
  simp [List.getElem?_range h]
theorem set_get {w : World} {b o : Nat} {u : Value} (h : (w.cell? ⟨b, o, none⟩).isSome = true) : (w.setCell ⟨b, o, none⟩ u).cell? ⟨b, o, none⟩ = some u := by
  unfold World.cell? at h ⊢
  cases hh : w.heap[b]? with
  | none => simp [hh] at h
  | some ob =>
    simp only [hh] at h
    cases ob with
    | cells c t fr =>
      simp only [World.setCell, Array.getElem?_modify, hh]
      simp at h
      simp [h]
    | _ => simp at h
theorem take_step {α : Type} {l : List α} {q : Nat} (hq : q < l.length) : l.take (q + 1) = l.take q ++ [l[q]] := by
  rw [List.take_add_one, List.getElem?_eq_getElem hq]; rfl
theorem keepB {B : Nat} {w w1 : World} (hb : Below B w w1) {b o : Nat} {v : Value} (hlt : b < B) (h : w.cell? ⟨b, o, none⟩ = some v) : w1.cell? ⟨b, o, none⟩ = some v := (hb.cell (p := ⟨b, o, none⟩) hlt).trans h
theorem keepF {B : Nat} {w w1 : World} (hb : Below B w w1) {b o : Nat} {x : Bool} (hlt : b < B) (h : w.frozen? ⟨b, o, none⟩ = x) : w1.frozen? ⟨b, o, none⟩ = x := (hb.frozen (p := ⟨b, o, none⟩) hlt).trans h
theorem below_grown {B : Nat} {w w1 w2 : World} {row : Option Nat} (h : Below B w w1) (hg : w1.grownBy w2 row) (hB : B ≤ w1.heap.size) (hr : ∀ k, row = some k → B ≤ k) : Below B w w2 := h.grown hg hB hr
end Go.Proofs.Ytkgpkbclfncnfaa
