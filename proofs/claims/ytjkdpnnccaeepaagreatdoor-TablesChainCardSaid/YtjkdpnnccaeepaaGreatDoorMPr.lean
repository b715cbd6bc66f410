/- 3 texts of this proof, one behind the other: PaR PaS PaTa. The statement is proved in the claim's last text. -/
import Derived.Test.YtjkdpnnccaeepaaGreatDoorMPa
import Derived.Test.YtjkdpnnccaeepaaGreatDoorMLt
import Derived.Test.YtjkdpnnccaeepaaGreatDoorMLx
import Derived.Laws.ResultCell
namespace Go.Proofs.YtjkdpnnccaeepaaGreatDoor
open Go.RowKit
attribute [local simp] List.replicate List.range List.range.loop resA resOne retA virtL virtO virt_get markL markO markR_get rowA awpI_nil awpI_cons List.forall_mem_cons List.contains_cons List.contains_nil List.find? nextD_eq awpD_nil awpD_cons LCp LCl refL
set_option linter.unusedVariables false
set_option linter.unusedSimpArgs false

abbrev rdO (l : List Tok) (s : RS) : AObj := .cells [.p (.sl 3 (l.map Tok.enc)), I s.at_, B s.bad, B s.full] 77
structure RAt (S : ASt) (d i : Nat) (l : List Tok) (s : RS) : Prop where
  o : get2 S d i = some (rdO l s)
  le : s.at_ ≤ l.length
  n : l.length ≤ 1500
theorem RAt.push {S : ASt} {d i : Nat} {l : List Tok} {s : RS} (h : RAt S d i l s) (L : List AObj) : RAt (L :: S) (d + 1) i l s := ⟨h.o, h.le, h.n⟩
theorem RAt.upd {S : ASt} {d i : Nat} {l : List Tok} {s : RS} (h : RAt S d i l s) (s' : RS) (hl : s'.at_ ≤ l.length) : RAt (set2 S d i (rdO l s')) d i l s' := ⟨by rw [get2_set2, h.o]; rfl, hl, h.n⟩
theorem RAt.same {S : ASt} {d i : Nat} {l : List Tok} {s : RS} (h : RAt S d i l s) : set2 S d i (rdO l s) = S := set2_same h.o
theorem wrap_nat {a b : Nat} (h : a + b ≤ maxLen) : IntKind.i64.wrap ((a : Int) + (b : Int)) = ((a + b : Nat) : Int) := by
  unfold maxLen at h
  rw [IntWalk.i64_in _ (by omega)]; omega

set_option maxRecDepth 100000 in
set_option maxHeartbeats 2000000 in
theorem rAtC {S : ASt} {d i : Nat} {l : List Tok} {s : RS} (h : RAt S d i l s) : ADet Tryz.prog 43 [.ptr d i 0] S (I (placeP l s)) S := by
  have ho := h.o
  have hle := h.le
  refine ADet.intro mixed Tryz.call43 Tryz.func43 rfl ?_
  simp [Tryz.ntmps43]
  refine awp_draw [] (by kernel_rfl) (by kernel_rfl) ?_
  unfold placeP
  by_cases hlt : s.at_ < l.length
  · have hlt' : (s.at_ : Int) < (l.length : Int) := by omega
    obtain ⟨t, ht⟩ : ∃ t, l[s.at_]? = some t := ⟨_, List.getElem?_eq_getElem hlt⟩
    simp [ho, hlt', hlt]
    refine awp_draw [] (by kernel_rfl) (by kernel_rfl) ?_
    simp [ho, hlt', hlt, ht, Tok.enc]
  · have hlt' : ¬ (s.at_ : Int) < (l.length : Int) := by omega
    have hn : l[s.at_]? = none := List.getElem?_eq_none (by omega)
    simp [ho, hlt', hlt, hn]
set_option maxRecDepth 100000 in
set_option maxHeartbeats 2000000 in
theorem isC {S : ASt} {d i : Nat} {l : List Tok} {s : RS} (h : RAt S d i l s) (t : ByteArray) (k : Nat) (hk : k ≤ 1) : ADet Tryz.prog 84 [.ptr d i 0, Sg t, I k] S (B (isP l s t k)) S := by
  have ho := h.o
  have hle := h.le
  have hn := h.n
  have hw : IntKind.i64.wrap ((s.at_ : Int) + (k : Int)) = ((s.at_ + k : Nat) : Int) := wrap_nat (by unfold maxLen; omega)
  obtain ⟨Q, hQ⟩ : ∃ Q, Q = s.at_ + k := ⟨_, rfl⟩
  rw [← hQ] at hw
  refine ADet.intro mixed Tryz.call84 Tryz.func84 rfl ?_
  simp [Tryz.ntmps84]
  refine awp_draw [] (by kernel_rfl) (by kernel_rfl) ?_
  unfold isP
  rw [← hQ]
  cases hb : s.bad with
  | true => simp [ho, hb]
  | false =>
    by_cases hlt : Q < l.length
    · have hlt' : (Q : Int) < (l.length : Int) := by omega
      obtain ⟨x, ht⟩ : ∃ t, l[Q]? = some t := ⟨_, List.getElem?_eq_getElem hlt⟩
      simp [ho, hb, hw, hlt', hlt, ht, Tok.enc]
    · have hlt' : ¬ (Q : Int) < (l.length : Int) := by omega
      have hn : l[Q]? = none := List.getElem?_eq_none (by omega)
      simp [ho, hb, hw, hlt', hlt, hn]
theorem isP_lt {l : List Tok} {s : RS} {t : ByteArray} {k : Nat} (h : isP l s t k = true) : s.at_ + k < l.length := by
  unfold isP at h
  rcases Nat.lt_or_ge (s.at_ + k) l.length with hl | hl
  · exact hl
  · rw [List.getElem?_eq_none hl] at h; simp at h
theorem mayP_le {l : List Tok} {s : RS} (t : ByteArray) (h : s.at_ ≤ l.length) : (mayP l s t).at_ ≤ l.length := by
  unfold mayP
  split
  · rename_i hi; have := isP_lt hi; show s.at_ + 1 ≤ _; omega
  · exact h
set_option maxRecDepth 100000 in
set_option maxHeartbeats 2000000 in
theorem mayC {S : ASt} {d i : Nat} {l : List Tok} {s : RS} (h : RAt S d i l s) (t : ByteArray) : ADet Tryz.prog 44 [.ptr d i 0, Sg t] S (B (isP l s t 0)) (set2 S d i (rdO l (mayP l s t))) := by
  have ho := h.o
  have hle := h.le
  have hn := h.n
  have hw : IntKind.i64.wrap ((s.at_ : Int) + 1) = ((s.at_ + 1 : Nat) : Int) := wrap_nat (b := 1) (by unfold maxLen; omega)
  refine ADet.intro mixed Tryz.call44 Tryz.func44 rfl ?_
  simp [Tryz.ntmps44]
  refine ⟨_, _, isC (h.push _) t 0 (by omega), ?_⟩
  unfold mayP
  cases hi : isP l s t 0 with
  | true =>
    simp [ho, hw]
    rfl
  | false =>
    have := h.same
    simp [ho]
    exact this.symm
end Go.Proofs.YtjkdpnnccaeepaaGreatDoor

namespace Go.Proofs.YtjkdpnnccaeepaaGreatDoor
open Go.RowKit
attribute [local simp] List.replicate List.range List.range.loop resA resOne retA AV.cuts AV.cut AObj.cut trim wkR wkT wkL wkN wkNR wkNL wkM wkMR wkML virtL virtO virt_get markL markO markR_get rowA awpI_nil awpI_cons List.forall_mem_cons List.contains_cons List.contains_nil List.find? nextD_eq awpD_nil awpD_cons LCp LCl refL
set_option linter.unusedVariables false
set_option linter.unusedSimpArgs false

/-- a call on the reader: what is gone over, what is told -/
def RdC (F : Nat) (args : List AV) (l : List Tok) (s s' : RS) (r : AV) : Prop := ∀ (S : ASt) (d i : Nat), RAt S d i l s → ADet Tryz.prog F (.ptr d i 0 :: args) S r (set2 S d i (rdO l s'))
theorem RdC.at {F : Nat} {args : List AV} {l : List Tok} {s s1 s2 : RS} {r : AV} (hw : RdC F args l s1 s2 r) {S : ASt} {d i : Nat} (h : RAt S d i l s) (h1 : s1.at_ ≤ l.length) (L : List AObj) :
    ADet Tryz.prog F (.ptr (d + 1) i 0 :: args) (L :: set2 S d i (rdO l s1)) r (L :: set2 S d i (rdO l s2)) := by
  have := hw _ _ i ((h.upd s1 h1).push L)
  rw [set2_suc, set2_set2] at this
  exact this
theorem RdC.intro {F : Nat} {args : List AV} {l : List Tok} {s s' : RS} {r : AV} (hw : ∀ (S : ASt) (d i : Nat), RAt S d i l s → ADet Tryz.prog F (.ptr d i 0 :: args) (set2 S d i (rdO l s)) r (set2 S d i (rdO l s'))) : RdC F args l s s' r := fun S d i h => by
  have := hw S d i h
  rw [h.same] at this
  exact this
theorem mayW {l : List Tok} (s : RS) (t : ByteArray) : RdC 44 [Sg t] l s (mayP l s t) (B (isP l s t 0)) := fun S d i h => mayC h t
theorem mustP_le {l : List Tok} : ∀ (ts : List ByteArray) (s : RS), s.at_ ≤ l.length → (mustP l s ts).at_ ≤ l.length
  | [], s, h => h
  | t :: ts, s, h => mustP_le ts _ (mayP_le t h)
set_option maxRecDepth 100000 in
set_option maxHeartbeats 2000000 in
theorem mustW {l : List Tok} (s : RS) (ts : List ByteArray) (hts : ts.length ≤ 10) (hs : s.at_ ≤ l.length) : RdC 46 [.p (.sl 1 (ts.map fun t => [pS t]))] l s (mustP l s ts) .un := RdC.intro fun S d i h => by
  refine ADet.intro mixed Tryz.call46 Tryz.func46 rfl ?_
  simp [Tryz.ntmps46]
  refine awp_loop (fun a : Nat × RS => a.1 ≤ ts.length ∧ a.2.at_ ≤ l.length ∧ mustP l a.2 (ts.drop a.1) = mustP l s ts) (fun a => [.ptr (d + 1) i 0, .any, .any, .any, .any, .any, .p (.sl 1 (ts.map fun t => [pS t])), I ts.length, I a.1, .any, .any, .any, .any, .any, .any, .any, .any, .any, .any, .any]) (fun a => [] :: set2 S d i (rdO l a.2)) (fun a => ts.length - a.1) (0, s) ⟨Nat.zero_le _, hs, rfl⟩ ?_ ?_ ?_
  · simp
  · simp
  rintro ⟨q, s1⟩ ⟨hq, h1, hm⟩
  simp only at hq h1 hm
  by_cases hlt : q < ts.length
  · have hlt' : (q : Int) < (ts.length : Int) := by omega
    obtain ⟨t, ht⟩ : ∃ t, ts[q]? = some t := ⟨_, List.getElem?_eq_getElem hlt⟩
    have hd : ts.drop q = t :: ts.drop (q + 1) := by
      rw [List.drop_eq_getElem_cons hlt]
      congr 1
      exact Option.some.inj ((List.getElem?_eq_getElem hlt).symm.trans ht)
    rw [hd] at hm
    have mC := fun L => (mayW s1 t).at h h1 L
    have ho := (h.upd (mayP l s1 t) (mayP_le t h1)).o
    have hfin : set2 (set2 S d i (rdO l (mayP l s1 t))) d i (rdO l ⟨(mayP l s1 t).at_, !isP l s1 t 0, s1.full⟩) = set2 S d i (rdO l ⟨(mayP l s1 t).at_, !isP l s1 t 0, s1.full⟩) := set2_set2 _ _ _ _ _
    have hfull : (mayP l s1 t).full = s1.full := by unfold mayP; split <;> rfl
    simp [hlt', ht]
    refine ⟨_, _, mC _, ?_⟩
    simp [ho]
    exact ⟨q + 1, ⟨(mayP l s1 t).at_, !isP l s1 t 0, s1.full⟩, ⟨by omega, mayP_le t h1, hm⟩, by omega, wrap_succ hlt (by unfold maxLen; omega), by rw [hfull]⟩
  · have hlt' : ¬ (q : Int) < (ts.length : Int) := by omega
    have hd : ts.drop q = [] := List.drop_of_length_le (by omega)
    rw [hd] at hm
    have hm : s1 = mustP l s ts := hm
    simp [hlt', hm]
set_option maxRecDepth 100000 in
set_option maxHeartbeats 2000000 in
theorem takeW {l : List Tok} (s : RS) (k : Int) : RdC 85 [U k] l s (takeP l s k) (Sg (takeT l s k)) := fun S d i h => by
  have ho := h.o
  have hle := h.le
  have hn := h.n
  have hw : IntKind.i64.wrap ((s.at_ : Int) + 1) = ((s.at_ + 1 : Nat) : Int) := wrap_nat (b := 1) (by unfold maxLen; omega)
  refine ADet.intro mixed Tryz.call85 Tryz.func85 rfl ?_
  simp [Tryz.ntmps85]
  refine awp_draw [] (by kernel_rfl) (by kernel_rfl) ?_
  unfold takeP takeT handP
  cases hb : s.bad with
  | true => 
    simp [ho, hb]
  | false =>
    by_cases hlt : s.at_ < l.length
    · have hlt' : (s.at_ : Int) < (l.length : Int) := by omega
      have hlt2 : ¬ (l.length : Int) ≤ (s.at_ : Int) := by omega
      obtain ⟨x, ht⟩ : ∃ t, l[s.at_]? = some t := ⟨_, List.getElem?_eq_getElem hlt⟩
      by_cases hk : x.kind = k
      · have hw2 : IntKind.i64.wrap (s.at_ : Int) = (s.at_ : Int) := IntWalk.i64_in _ (by omega)
        simp [ho, hb, hlt', hlt2, ht, Tok.enc, hk, hw]
        refine awp_draw [] (by kernel_rfl) (by kernel_rfl) ?_
        simp [ho, hb, hlt', hlt2, ht, Tok.enc, hk, hw, hw2]
        rfl
      · simp [ho, hb, hlt', hlt2, ht, Tok.enc, hk]
    · have hlt' : (l.length : Int) ≤ (s.at_ : Int) := by omega
      have hn : l[s.at_]? = none := List.getElem?_eq_none (by omega)
      simp [ho, hb, hlt', hlt, hn]
end Go.Proofs.YtjkdpnnccaeepaaGreatDoor

namespace Go.Proofs.YtjkdpnnccaeepaaGreatDoor
open Go.RowKit
attribute [local simp] List.replicate List.range List.range.loop resA resOne retA
set_option linter.unusedVariables false
set_option linter.unusedSimpArgs false

theorem nameRW {l : List Tok} (s : RS) : RdC 50 [] l s (takeP l s 2) (Sg (takeT l s 2)) := fun S d i h => by
  refine ADet.intro mixed Tryz.call50 Tryz.func50 rfl ?_
  simp [Tryz.ntmps50]
  refine ⟨_, _, takeW s 2 _ _ _ (h.push _), ?_⟩
  simp
theorem namedW {l : List Tok} (s : RS) : RdC 45 [] l s (takeP l s 3) (Sg (takeT l s 3)) := fun S d i h => by
  refine ADet.intro mixed Tryz.call45 Tryz.func45 rfl ?_
  simp [Tryz.ntmps45]
  refine ⟨_, _, takeW s 3 _ _ _ (h.push _), ?_⟩
  simp
theorem fewW {l : List Tok} (s : RS) (n : Nat) : RdC 86 [I n, I 6] l s (fewP s n) .un := fun S d i h => by
  have ho := h.o
  refine ADet.intro mixed Tryz.call86 Tryz.func86 rfl ?_
  simp [Tryz.ntmps86]
  unfold fewP
  by_cases h6 : 6 < n
  · have h6' : (6 : Int) < (n : Int) := by omega
    cases hf : s.full <;> simp [ho, hf, h6, h6']
  · have h6' : ¬ (6 : Int) < (n : Int) := by omega
    cases hf : s.full <;> simp [ho, hf, h6, h6']
theorem mapFind_nil (d : TypeDesc) (k : Value) (i : Nat) : mapFind d k [] i = some none := rfl
theorem mapFind_str (s t : ByteArray) (v : AV) (es : List (Value × AV)) (i : Nat) : mapFind .string (.string s) ((.string t, v) :: es) i = if sEq s t = true then some (some (i, v)) else mapFind .string (.string s) es (i + 1) := by
  have h : Instr.sameNow .string (.string s) (.string t) = some (sEq s t) := by
    show some (s.data == t.data) = _
    congr 1
    rw [Bool.eq_iff_iff, sEq_iff, beq_iff_eq]
    exact ⟨fun h => ByteArray.ext h, fun h => by rw [h]⟩
  rw [mapFind, h]
  cases sEq s t <;> rfl
def mapK (l : List (ByteArray × Int)) : AObj := .map (l.map fun x => (.string x.1, U x.2))
theorem find_mapK (s : ByteArray) : ∀ (l : List (ByteArray × Int)) (i : Nat), ∃ j, mapFind .string (.string s) (l.map fun x => (.string x.1, U x.2)) i = some ((findK s l).map fun k => (j, U k))
  | [], i => ⟨0, rfl⟩
  | (t, k) :: l, i => by
    rw [List.map_cons, mapFind_str, findK]
    cases sEq s t with
    | true => exact ⟨i, rfl⟩
    | false => exact find_mapK s l (i + 1)
set_option maxRecDepth 100000 in
theorem pwordsC (L : List AObj) (S : ASt) : ADet Tryz.prog 87 [] (L :: S) (.mp 0 L.length) ((L ++ [mapK wordK]) :: S) := by
  refine ADet.flat mixed Tryz.call87 Tryz.func87 rfl ?_
  simp [Tryz.ntmps87, mapFind_nil, mapFind_str, mapK, wordK, sEq_ne]
set_option maxRecDepth 100000 in
theorem pwrapsC (L : List AObj) (S : ASt) : ADet Tryz.prog 88 [] (L :: S) (.mp 0 L.length) ((L ++ [mapK wrapK]) :: S) := by
  refine ADet.flat mixed Tryz.call88 Tryz.func88 rfl ?_
  simp [Tryz.ntmps88, mapFind_nil, mapFind_str, mapK, wrapK, sEq_ne]
/-- a type, as a value -/
abbrev tyA (t : Ty) : AV := .agg [U t.kind, Sg t.name, .p (.sl 3 (t.args.map Ty.enc))]
theorem RdC.less {F : Nat} {args : List AV} {l : List Tok} {s s' : RS} {r r' : AV} (hle : LeA r r') (h : RdC F args l s s' r) : RdC F args l s s' r' := fun S d i hR => ADet.less hle (h S d i hR)
theorem handP_false {l : List Tok} {s : RS} {k : Int} (h : handP l s k = false) : s.bad = true ∨ (s.bad = false ∧ ¬ (s.at_ : Int) < (l.length : Int)) ∨ (s.bad = false ∧ (s.at_ : Int) < (l.length : Int) ∧ ∃ x, l[s.at_]? = some x ∧ ¬ x.kind = k) := by
  unfold handP at h
  cases hb : s.bad with
  | true => exact .inl rfl
  | false =>
    cases hx : l[s.at_]? with
    | none =>
      have := List.getElem?_eq_none_iff.1 hx
      exact .inr (.inl ⟨rfl, by omega⟩)
    | some x =>
      have := (List.getElem?_eq_some_iff.1 hx).1
      rw [hb, hx] at h
      exact .inr (.inr ⟨rfl, by omega, x, rfl, by simpa using h⟩)
theorem handP_true {l : List Tok} {s : RS} {k : Int} (h : handP l s k = true) : s.bad = false ∧ (s.at_ : Int) < (l.length : Int) ∧ ∃ x, l[s.at_]? = some x ∧ x.kind = k := by
  unfold handP at h
  simp only [Bool.and_eq_true, Bool.not_eq_true'] at h
  cases hx : l[s.at_]? with
  | none => rw [hx] at h; simp at h
  | some x =>
    have := (List.getElem?_eq_some_iff.1 hx).1
    rw [hx] at h
    exact ⟨h.1, by omega, x, rfl, by simpa using h.2⟩
theorem takeP_le {l : List Tok} {s : RS} (k : Int) (h : s.at_ ≤ l.length) : (takeP l s k).at_ ≤ l.length := by
  unfold takeP
  split
  · rename_i hh
    obtain ⟨_, hlt, _⟩ := handP_true hh
    show s.at_ + 1 ≤ _; omega
  · exact h
theorem kindP_le : ∀ (n : Nat) (l : List Tok) (s : RS) (t : Ty) (s' : RS), s.at_ ≤ l.length → kindP l n s = some (t, s') → s'.at_ ≤ l.length
  | 0, l, s, t, s', _, h => by simp [kindP] at h
  | n + 1, l, s, t, s', hs, h => by
    unfold kindP at h
    split at h
    · obtain ⟨⟨t1, s1⟩, hk, he⟩ := Option.map_eq_some_iff.1 h
      cases he
      exact kindP_le n l _ t1 _ (mayP_le _ (mayP_le _ hs)) hk
    split at h
    · cases h; exact takeP_le 3 hs
    split at h
    · cases h; exact takeP_le 1 hs
    split at h
    · cases h; exact hs
    · obtain ⟨⟨t1, s1⟩, hk, he⟩ := Option.map_eq_some_iff.1 h
      cases he
      exact mustP_le _ _ (kindP_le n l _ t1 _ (mustP_le _ _ (takeP_le 1 hs)) hk)
end Go.Proofs.YtjkdpnnccaeepaaGreatDoor
