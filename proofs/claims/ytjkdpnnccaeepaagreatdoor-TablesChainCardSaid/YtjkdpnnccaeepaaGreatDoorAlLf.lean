/- A logic over abstract values: what is one's own is lent to a call that yields data; from then on it stays as it is. No statement is proved here. -/
import Derived.Test.YtjkdpnnccaeepaaGreatDoorAlLd
namespace Go.Proofs.YtjkdpnnccaeepaaGreatDoor
open Go.RowKit
set_option linter.unusedVariables false

/-- an empty list is read wherever it lies -/
theorem ADet.lendE {P : Program} {K : FuncId} {args args' : List AV} {S : ASt} {k : Nat} (h : ADet P K args' [[]] (.p (.sl k [])) [[]]) (hl : LentL S args args') : ADet P K args S (.p (.sl k [])) S :=
  ⟨h.1, fun Pr φ xs w hargs hR hne => by
    have hrl := hl.rl hR
    refine (ADet.calls (Pr := allOf w) h (xs := xs) (w := w) ⟨hrl.1 ▸ hargs.1, fun j c y hc hy => hrl.2 j c y hc fun a ha => hargs.2 j a y ha hy⟩ (fun b o v h => h) (tabs_all hR)).mono fun e w' hp => ?_
    obtain ⟨y, Pr', rfl, _, ⟨φ', hy⟩, hb⟩ := hp
    obtain ⟨s, r⟩ := stp_below hR hb
    refine ⟨y, Pr, φ, rfl, s, r, ?_⟩
    cases hy with
    | p hy =>
      cases hy with
      | slemp _ A cap hc => exact .p (.slemp k A cap hc)
      | sl vs h1 h2 => exact .p (.slemp k _ _ h2)⟩

/-- the cells that stay, and those of one's own -/
noncomputable def ownPr (Pr : Prot) (φ : Fi2) (w : World) : Prot := fun b o => open Classical in if (∃ d i e, get2 φ d i = some e ∧ e.blk = some b) then w.cell? ⟨b, o, none⟩ else Pr b o
theorem ownPr_in {Pr : Prot} {φ : Fi2} {w : World} {b o : Nat} (h : ∃ d i e, get2 φ d i = some e ∧ e.blk = some b) : ownPr Pr φ w b o = w.cell? ⟨b, o, none⟩ := by
  unfold ownPr; rw [if_pos h]
theorem ownPr_out {Pr : Prot} {φ : Fi2} {w : World} {b o : Nat} (h : ¬ ∃ d i e, get2 φ d i = some e ∧ e.blk = some b) : ownPr Pr φ w b o = Pr b o := by
  unfold ownPr; rw [if_neg h]
theorem ownPr_cell {Pr : Prot} {φ : Fi2} {S : ASt} {w : World} (hR : Rel Pr φ S w) (b o : Nat) (v : Value) (h : ownPr Pr φ w b o = some v) : w.cell? ⟨b, o, none⟩ = some v := by
  unfold ownPr at h
  split at h
  · exact h
  · exact hR.pr b o v h
theorem ownPr_le {Pr : Prot} {φ : Fi2} {S : ASt} {w : World} (hR : Rel Pr φ S w) : Pr.le (ownPr Pr φ w) := fun b o v h => by
  by_cases hb : ∃ d i e, get2 φ d i = some e ∧ e.blk = some b
  · rw [ownPr_in hb]; exact hR.pr b o v h
  · rw [ownPr_out hb]; exact h
theorem Lent.rpO {S : ASt} {Pr : Prot} {φ : Fi2} {w : World} (hR : Rel Pr φ S w) {v : AV} {q : PV} (h : Lent S v q) : ∀ {x : Value}, RA Pr φ v x → RP (ownPr Pr φ w) q x := by
  induction h with
  | p q =>
    intro x hx
    cases hx with
    | p h => exact h.mono (ownPr_le hR)
  | nil k =>
    intro x hx
    have := atomAV_ok hx rfl
    subst this
    exact .slemp k none 0 (Nat.zero_le _)
  | osl k rows d i => intro x hx; exact hx.sl.mono (ownPr_le hR)
  | @rsl d i n k E cs rows cf hS hl hw hc _ ih =>
    intro x hx
    obtain ⟨e', hE, htok, hen, hek, hk0, hcl, hrest⟩ := hR.obj d i _ hS
    generalize hkk : k = k' at hx
    cases hx with
    | rnil a b c =>
      have h0 : rows = [] := List.eq_nil_of_length_eq_zero hl
      subst h0
      exact .slemp _ none 0 (Nat.zero_le _)
    | @rsl _ _ _ g cap e a1 a2 a3 a4 a5 a6 a7 =>
      rw [hE] at a1; cases a1
      obtain ⟨hblk, hcap⟩ := a5 hen.symm
      obtain ⟨h0, _⟩ | ⟨g', xs, hg', hheap, hsz, hn0, hnc, hcm, hcs, hun⟩ := hrest
      · omega
      rw [hblk] at hg'; cases hg'
      subst hcap
      have hcell : ∀ o, ownPr Pr φ w g o = xs[o]? := fun o => by rw [ownPr_in ⟨d, i, e', hE, hblk⟩]; exact cell_blk hheap o
      subst hl
      have key : ∀ (r : Nat) (row : List PV) (j : Nat) (p : PV), rows[r]? = some row → row[j]? = some p → ownPr Pr φ w g (0 + r * k + j) = some (xs.getD (r * k + j) undef) ∧ RP (ownPr Pr φ w) p (xs.getD (r * k + j) undef) := fun r row j p hr hj => by
        have h1 := hc r row j p hr hj
        have hlt : r * k + j < xs.size := by
          have := (List.getElem?_eq_some_iff.1 h1).1
          have h3 : rows.length * k ≤ e'.cap * k := Nat.mul_le_mul_right _ hnc
          omega
        have hx : xs[r * k + j]? = some xs[r * k + j] := Array.getElem?_eq_getElem hlt
        have hd : xs.getD (r * k + j) undef = xs[r * k + j] := by simp [hlt]
        rw [Nat.zero_add, hcell, hd]
        exact ⟨hx, ih r row j p hr hj (hcs _ _ _ h1 hx).up⟩
      rw [← hkk]
      exact .sl (off := 0) (fun r j => xs.getD (r * k + j) undef) a6 a7 hw (fun r row j p hr hj => (key r row j p hr hj).1) (fun r row j p hr hj => (key r row j p hr hj).2)
  | @asl d i n k t cs rows cf hS hl hw hc _ ih =>
    intro x hx
    obtain ⟨e', hE, htok, g', xs, hg', hheap, hcl, hcs, hun⟩ := hR.obj d i _ hS
    cases hx with
    | asl h1 h2 h3 h4 =>
      rw [hE] at h1; cases h1
      rw [h3] at hg'; cases hg'
      subst hl
      have key : ∀ (r : Nat) (row : List PV) (j : Nat) (p : PV), rows[r]? = some row → row[j]? = some p → ownPr Pr φ w _ (0 + r * k + j) = some (xs.getD (r * k + j) undef) ∧ RP (ownPr Pr φ w) p (xs.getD (r * k + j) undef) := fun r row j p hr hj => by
        have h1 := hc r row j p hr hj
        have hlt : r * k + j < xs.size := by
          have := (List.getElem?_eq_some_iff.1 h1).1
          omega
        have hx : xs[r * k + j]? = some xs[r * k + j] := Array.getElem?_eq_getElem hlt
        have hd : xs.getD (r * k + j) undef = xs[r * k + j] := by simp [hlt]
        rw [Nat.zero_add, show ownPr Pr φ w _ _ = xs[r * k + j]? from by rw [ownPr_in ⟨d, i, e', hE, h3⟩]; exact cell_blk hheap _, hd]
        exact ⟨hx, ih r row j p hr hj (hcs _ _ _ h1 hx).up⟩
      exact .sl (off := 0) (fun r j => xs.getD (r * k + j) undef) (Nat.le_refl _) h4 hw (fun r row j p hr hj => (key r row j p hr hj).1) (fun r row j p hr hj => (key r row j p hr hj).2)
theorem LentA.raO {S : ASt} {Pr : Prot} {φ : Fi2} {w : World} (hR : Rel Pr φ S w) {v v' : AV} (h : LentA S v v') {x : Value} (hx : RA Pr φ v x) : RA (ownPr Pr φ w) [[]] v' x := by
  cases h with
  | p h => exact .p (h.rpO hR hx)
  | @agg l h =>
    cases hx with
    | agg h1 h2 =>
      refine .agg (by simpa using h1) fun j c x hc hx => ?_
      rw [List.getElem?_map] at hc
      obtain ⟨q, hq, rfl⟩ := Option.map_eq_some_iff.1 hc
      exact .p ((h q (List.mem_of_getElem? hq)).rpO hR (h2 j q.1 x (by rw [List.getElem?_map, hq]; rfl) hx))
theorem LentL.rlO {S : ASt} {Pr : Prot} {φ : Fi2} {w : World} (hR : Rel Pr φ S w) {al bl : List AV} (h : LentL S al bl) : al.length = bl.length ∧ ∀ (j : Nat) (b : AV) (x : Value), bl[j]? = some b → (∀ a, al[j]? = some a → RA Pr φ a x) → RA (ownPr Pr φ w) [[]] b x := by
  induction h with
  | nil => exact ⟨rfl, fun j b x h => by simp at h⟩
  | cons h1 _ ih =>
    refine ⟨by simp [ih.1], fun j b x hb ha => ?_⟩
    cases j with
    | zero => simp at hb; subst hb; exact h1.raO hR (ha _ rfl)
    | succ j => exact ih.2 j b x (by simpa using hb) fun a h => ha a (by simpa using h)
/-- all objects are given up -/
def deadS (S : ASt) : ASt := S.map fun L => List.replicate L.length .dead
theorem deadS_get {S : ASt} {d i : Nat} {o : AObj} (h : get2 (deadS S) d i = some o) : o = .dead := by
  unfold get2 deadS at h
  obtain ⟨L, h1, h2⟩ := Option.bind_eq_some_iff.1 h
  rw [List.getElem?_map] at h1
  obtain ⟨L0, _, rfl⟩ := Option.map_eq_some_iff.1 h1
  exact (List.eq_of_mem_replicate (List.mem_of_getElem? h2))
/-- a call that yields data: what was lent to it is data from then on -/
theorem ADet.lendAll {P : Program} {K : FuncId} {args args' : List AV} {S : ASt} {q : PV} (h : ADet P K args' [[]] (.p q) [[]]) (hl : LentL S args args') : ADet P K args S (.p q) (deadS S) :=
  ⟨h.1, fun Pr φ xs w hargs hR hne => by
    have hrl := hl.rlO hR
    have no : ∀ {d i : Nat} {e : Ent}, get2 ([[]] : Fi2) d i = some e → False := fun {d i e} h => by
      cases d with
      | zero => simp [get2] at h
      | succ d => simp [get2] at h
    have htb0 : TabsP (ownPr Pr φ w) [[]] w := fun g cs hm => by
      obtain ⟨h0, h1, h2, _⟩ := hR.tb g cs hm
      exact ⟨h0, fun j x hx => ownPr_le hR _ _ _ (h1 j x hx), h2, fun d i e he => (no he).elim⟩
    have hR0 : Rel (ownPr Pr φ w) [[]] [[]] w := ⟨fun d i o ho => by
      cases d with
      | zero => simp [get2] at ho
      | succ d => simp [get2] at ho, fun d i e d' i' e' g h1 => (no h1).elim, fun d i e g h1 => (no h1).elim, ownPr_cell hR, htb0, rfl⟩
    refine (h.2 (ownPr Pr φ w) [[]] xs w ⟨hrl.1 ▸ hargs.1, fun j c y hc hy => hrl.2 j c y hc fun a ha => hargs.2 j a y ha hy⟩ hR0 (by simp)).mono fun e w' hp => ?_
    obtain ⟨x, Pr', φ', rfl, hs, hr, hx⟩ := hp
    have hblk : ∀ g, g < w.heap.size → w'.heap[g]? = w.heap[g]? := fun g hg => hs.fr.block g hg fun d i e he => (no he).elim
    refine ⟨x, Pr', φ, rfl, ⟨Prot.le_trans (ownPr_le hR) hs.pl, Fle.refl _, fun d i e g he hg => .inl ⟨d, i, e, he, hg⟩, ⟨hs.fr.os, hs.fr.tape, hs.fr.output, hs.fr.size, fun g hg _ => hblk g hg⟩, rfl, fun g o h0 h2 => ?_⟩, ⟨fun d i o ho => ?_, hR.dis, fun d i e g h1 h2 => Nat.lt_of_lt_of_le (hR.lt d i e g h1 h2) hs.fr.size, hr.pr, fun g cs hm => ?_, ?_⟩, ?_⟩
    · by_cases hb : ∃ d i e, get2 φ d i = some e ∧ e.blk = some g
      · exact .inl hb
      · rcases hs.pn g o (by rw [ownPr_out hb]; exact h0) h2 with ⟨d, i, e, he, _⟩ | h3
        · exact (no he).elim
        · exact .inr h3
    · have hd := deadS_get ho
      subst hd
      have hlen : (deadS S).map List.length = S.map List.length := by
        unfold deadS
        rw [List.map_map]
        refine List.map_congr_left fun L _ => ?_
        simp
      obtain ⟨L, h1, h2⟩ := Option.bind_eq_some_iff.1 (show ((deadS S)[d]?).bind (·[i]?) = _ from ho)
      have hL : ((deadS S).map List.length)[d]? = some L.length := by rw [List.getElem?_map, h1]; rfl
      rw [hlen, ← hR.shape, List.getElem?_map] at hL
      obtain ⟨l0, h3, h4⟩ := Option.map_eq_some_iff.1 hL
      have hi : i < l0.length := by rw [h4]; exact (List.getElem?_eq_some_iff.1 h2).1
      exact ⟨l0[i], by unfold get2; rw [h3, Option.bind_some, List.getElem?_eq_getElem hi], trivial⟩
    · obtain ⟨h0, h1, ⟨t, fz, h2⟩, h3⟩ := hR.tb g cs hm
      exact ⟨h0, fun j x hx => hs.pl _ _ _ (ownPr_le hR _ _ _ (h1 j x hx)), ⟨t, fz, by rw [hblk g (blk_lt h2)]; exact h2⟩, h3⟩
    · unfold deadS
      rw [List.map_map, hR.shape]
      refine List.map_congr_left fun L _ => ?_
      simp
    · cases hx with
      | p hx => exact .p hx⟩
end Go.Proofs.YtjkdpnnccaeepaaGreatDoor
