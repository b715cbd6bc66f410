/- The faults that tables.Check notes: statements. No statement is proved here. -/
import Derived.Test.YtnblhbpfgdjnkaaGreatDoorMTi
import Derived.Test.YtnblhbpfgdjnkaaGreatDoorMLt
namespace Go.Proofs.YtnblhbpfgdjnkaaGreatDoor
open Go.RowKit
attribute [local simp] List.replicate List.range List.range.loop resA resOne retA AV.cuts AV.cut AObj.cut trim wkR wkT wkL wkN wkNR wkNL virtL virtO virt_get markL markO markR_get List.contains_cons List.contains_nil List.find? nextD_eq awpD_nil awpD_cons LCp LCl refL
set_option linter.unusedVariables false
set_option linter.unusedSimpArgs false

def fltE (f : Flt) : List PV := [pI f.1, pI f.2]
def lkO (l : List Flt) : AObj := .cells [.osl 2 (l.map fltE) 0 2] 81
def ltO (l : List Flt) : AObj := .tok 78 2 l.length
structure LkAt (S : ASt) (d : Nat) (l : List Flt) : Prop where
  o : get2 S d 1 = some (lkO l)
  t : get2 S d 2 = some (ltO l)
def updL (S : ASt) (d : Nat) (l : List Flt) : ASt := set2 (set2 S d 1 (lkO l)) d 2 (ltO l)
theorem LkAt.push {S : ASt} {d : Nat} {l : List Flt} (h : LkAt S d l) (L : List AObj) : LkAt (L :: S) (d + 1) l := ⟨h.o, h.t⟩
theorem LkAt.upd {S : ASt} {d : Nat} {l : List Flt} (h : LkAt S d l) (q : List Flt) : LkAt (updL S d q) d q := by
  refine ⟨?_, ?_⟩
  · unfold updL
    rw [get2_set2_ne _ _ _ (by omega), get2_set2, h.o]; rfl
  · unfold updL
    rw [get2_set2, get2_set2_ne _ _ _ (by omega), h.t]; rfl
theorem updL_updL (S : ASt) (d : Nat) (p q : List Flt) : updL (updL S d p) d q = updL S d q := by
  unfold updL
  rw [set2_comm (i := 1) (j := 2) _ _ _ _ (by omega), set2_set2, set2_set2]
theorem updL_suc (L : List AObj) (S : ASt) (d : Nat) (p : List Flt) : updL (L :: S) (d + 1) p = L :: updL S d p := by
  unfold updL; rw [set2_suc, set2_suc]
theorem LkAt.same {S : ASt} {d : Nat} {l : List Flt} (h : LkAt S d l) : updL S d l = S := by
  unfold updL
  rw [set2_same h.o, set2_same h.t]
/-- a call on the list of faults -/
def LkC (F : Nat) (args : List AV) (l l' : List Flt) : Prop := ∀ (S : ASt) (d : Nat), LkAt S d l → ADet Tryz.prog F (.ptr d 1 0 :: args) S .un (updL S d l')
theorem LkC.at {F : Nat} {args : List AV} {l l1 l2 : List Flt} (hw : LkC F args l1 l2) {S : ASt} {d : Nat} (h : LkAt S d l) (L : List AObj) : ADet Tryz.prog F (.ptr (d + 1) 1 0 :: args) (L :: updL S d l1) .un (L :: updL S d l2) := by
  have := hw _ _ ((h.upd l1).push L)
  rw [updL_suc, updL_updL] at this
  exact this
theorem LkC.intro {F : Nat} {args : List AV} {l l' : List Flt} (hw : ∀ (S : ASt) (d : Nat), LkAt S d l → ADet Tryz.prog F (.ptr d 1 0 :: args) (updL S d l) .un (updL S d l')) : LkC F args l l' := fun S d h => by
  have := hw S d h
  rw [h.same] at this
  exact this
theorem updL_app {S : ASt} {d : Nat} (l : List Flt) (x : Flt) : set2 (set2 (updL S d l) d 2 (ltO (l ++ [x]))) d 1 (lkO (l ++ [x])) = updL S d (l ++ [x]) := by
  unfold updL
  rw [set2_set2, set2_comm _ d (j := 2) (i := 1) _ _ (by omega), set2_set2]
set_option maxRecDepth 100000 in
set_option maxHeartbeats 1000000 in
theorem wrongW (holds : Bool) (e a : Int) (l : List Flt) (hl : l.length + 1 ≤ 4294967296) : LkC 41 [B holds, I e, I a] l (l ++ wrongL holds e a) := LkC.intro fun S d h => by
  have ho := (h.upd l).o
  have ht := (h.upd l).t
  unfold wrongL
  refine ADet.intro mixed Tryz.call41 Tryz.func41 rfl ?_
  cases holds with
  | true => simp [Tryz.ntmps41]
  | false =>
    have hu := updL_app (S := S) (d := d) l (e, a)
    simp only [lkO, ltO, updL, List.map_append, List.map_cons, List.map_nil, fltE, List.length_append, List.length_cons, List.length_nil] at ho ht hu
    have ho0 := h.o
    have ht0 := h.t
    simp only [lkO, ltO] at ho0 ht0
    have n1 := fun (T : ASt) o => get2_set2_ne T d (i := 2) (j := 1) o (by omega)
    have n2 := fun (T : ASt) o => get2_set2_ne T d (i := 1) (j := 2) o (by omega)
    simp [Tryz.ntmps41, ho0, ht0, n1, n2, hl, updL, lkO, ltO]
    simpa [fltE] using hu
theorem tabss_flat (l : List St) : St.tabss l = l.flatMap St.tabs := by
  induction l with
  | nil => rfl
  | cons s l ih => rw [St.tabss, ih]; rfl
theorem arTabss_flat (l : List Ar) : Ar.tabss l = l.flatMap fun a => St.tabss a.body := by
  induction l with
  | nil => rfl
  | cons a l ih => obtain ⟨v, n, b⟩ := a; rw [Ar.tabss, ih]; rfl
theorem stTabs (s : St) : s.tabs = wrongL ((s.op != 12) || (s.type.stands && s.type.owned)) 70 s.pos ++ (St.tabss s.body ++ (St.tabss s.els ++ s.arms.flatMap fun a => St.tabss a.body)) := by
  cases s; rw [St.tabs, arTabss_flat]; rfl
theorem tabss_snoc (l : List St) {q : Nat} (h : q < l.length) : St.tabss (l.take (q + 1)) = St.tabss (l.take q) ++ l[q].tabs := by
  rw [tabss_flat, tabss_flat, List.take_succ_eq_append_getElem h, List.flatMap_append]; simp
theorem take_flat_le {α β : Type} (f : α → List β) (l : List α) (q : Nat) : ((l.take q).flatMap f).length ≤ (l.flatMap f).length := by
  have : l.flatMap f = (l.take q).flatMap f ++ (l.drop q).flatMap f := by rw [← List.flatMap_append, List.take_append_drop]
  rw [this, List.length_append]; omega
def SsC (ss : List St) : Prop := ∀ l, l.length + (St.tabss ss).length ≤ 4000000000 → LkC 44 [.p (.sl 15 (ss.map St.enc))] l (l ++ St.tabss ss)
set_option maxRecDepth 100000 in
set_option maxHeartbeats 8000000 in
theorem stmtsL (ss : List St) (hq : ∀ s ∈ ss, SsC s.body ∧ SsC s.els ∧ ∀ a ∈ s.arms, SsC a.body) : SsC ss := by
  intro l hl
  refine LkC.intro fun S d h => ?_
  refine ADet.okP Tryz.call44 1 rfl fun hok => ?_
  have hlen := okl hok
  obtain ⟨F, hF⟩ : ∃ F : Nat → List Flt, F = fun q => l ++ St.tabss (ss.take q) := ⟨_, rfl⟩
  have hF0 : F 0 = l := by rw [hF]; simp [St.tabss]
  have hFn : F ss.length = l ++ St.tabss ss := by rw [hF]; simp
  have hFb : ∀ q, (F q).length ≤ 4000000000 := fun q => by
    rw [hF]
    have := take_flat_le St.tabs ss q
    rw [← tabss_flat, ← tabss_flat] at this
    simp only [List.length_append]; omega
  have hFs : ∀ q (h : q < ss.length), F (q + 1) = F q ++ ss[q].tabs := fun q h => by rw [hF]; simp only [tabss_snoc _ h, List.append_assoc]
  clear hF
  rw [← hFn]
  refine ADet.intro mixed Tryz.call44 Tryz.func44 rfl ?_
  simp [Tryz.ntmps44]
  refine awp_loop (fun q : Nat => q ≤ ss.length) (fun q => ([.ptr (d + 1) 1 0, .any, .any, .any, .any, .any, .any, .any, .p (.sl 15 (ss.map St.enc)), I ss.length, I q] ++ List.replicate 41 .any)) (fun q => [] :: updL S d (F q)) (fun q => ss.length - q) 0 (Nat.zero_le _) ?_ ?_ ?_
  · simp
  · simp [hF0]
  intro q hq1
  by_cases hlt : q < ss.length
  · have hlt' : (q : Int) < (ss.length : Int) := by omega
    obtain ⟨qb, qe, qa⟩ := hq _ (List.getElem_mem hlt)
    have hF1 := hFs q hlt
    have hb1 := hFb (q + 1)
    have hoks : PVok (.sl 3 (ss[q].arms.map Ar.enc)) := (st_ok hok (List.getElem_mem hlt)).2.2.2.2.2.2
    have hlena := okl hoks
    have hw := wrap_succ hlt
    have hmu : ss.length - (q + 1) < ss.length - q := by omega
    generalize he : ss[q] = s at *
    rw [stTabs] at hF1
    obtain ⟨hold, hh⟩ : ∃ b, b = ((s.op != 12) || (s.type.stands && s.type.owned)) := ⟨_, rfl⟩
    rw [← hh] at hF1
    obtain ⟨W1, hW1⟩ : ∃ W, W = F q ++ wrongL hold 70 s.pos := ⟨_, rfl⟩
    obtain ⟨W2, hW2⟩ : ∃ W, W = W1 ++ St.tabss s.body := ⟨_, rfl⟩
    obtain ⟨W3, hW3⟩ : ∃ W, W = W2 ++ St.tabss s.els := ⟨_, rfl⟩
    obtain ⟨G, hG⟩ : ∃ G : Nat → List Flt, G = fun k => W3 ++ (s.arms.take k).flatMap fun a => St.tabss a.body := ⟨_, rfl⟩
    have hG0 : G 0 = W3 := by rw [hG]; simp
    have hGn : G s.arms.length = F (q + 1) := by rw [hG, hF1, hW3, hW2, hW1]; simp
    have hGs : ∀ k (h : k < s.arms.length), G (k + 1) = G k ++ St.tabss s.arms[k].body := fun k h => by
      rw [hG]; simp only [List.take_succ_eq_append_getElem h, List.flatMap_append, List.append_assoc]; simp
    have hGb : ∀ k, k ≤ s.arms.length → (G k).length ≤ 4000000000 := fun k hk => by
      have := take_flat_le (fun a : Ar => St.tabss a.body) s.arms k
      rw [← hGn] at hb1
      rw [hG] at hb1 ⊢
      simp only [List.length_append, List.take_length] at hb1 ⊢
      omega
    have hb3 : W3.length ≤ 4000000000 := by rw [← hG0]; exact hGb 0 (Nat.zero_le _)
    have hb2 : W2.length + (St.tabss s.els).length ≤ 4000000000 := by rw [hW3, List.length_append] at hb3; exact hb3
    have hb21 : W1.length + (St.tabss s.body).length ≤ 4000000000 := by rw [hW2, List.length_append] at hb2; omega
    have wC := fun L => (wrongW hold 70 s.pos (F q) (by have := hFb q; omega)).at h L
    have bC := fun L => (qb W1 hb21).at h L
    have eC := fun L => (qe W2 hb2).at h L
    rw [← hW2] at bC
    rw [← hW3] at eC
    rw [← hW1] at wC
    have rest : ∀ {fr' : List AV} {Q : Exit → List AV → ASt → Prop}, True := fun {_ _} => trivial
    clear hW1 hW2 hW3 hF1 hFs
    by_cases h12 : s.op = 12
    · cases hs : s.type.stands with
      | false =>
        have : hold = false := by rw [hh, h12, hs]; rfl
        subst this
        simp [hlt, hlt', he, stEnc]
        refine awp_draw [(15, 7), (15, 11)] (by kernel_rfl) (by kernel_rfl) ?_
        simp [h12]
        refine ⟨_, _, standsC s.type _, ?_⟩
        rw [hs]
        simp
        refine ⟨_, _, wC _, ?_⟩
        simp
        refine ⟨_, _, bC _, ?_⟩
        simp
        refine ⟨_, _, eC _, ?_⟩
        simp
        refine awp_loop (fun k : Nat => k ≤ s.arms.length) (fun k => ([.ptr (d + 1) 1 0, .any, .any, .any, .any, .any, .any, .any, .p (.sl 15 (ss.map St.enc)), I ss.length, I q] ++ (List.replicate 29 .any ++ [.p (.sl 3 (s.arms.map Ar.enc)), I s.arms.length, I k, .any, .any, .any, .any, .any, .any, .any, .any, .any]))) (fun k => [.cells (stU s) 118] :: updL S d (G k)) (fun k => s.arms.length - k) 0 (Nat.zero_le _) ?_ ?_ ?_
        · simp
        · simp [hG0, h12]
        intro k hk1
        by_cases hkt : k < s.arms.length
        · have hkt' : (k : Int) < (s.arms.length : Int) := by omega
          have hG1 := hGs k hkt
          have hgb := hGb (k + 1) hkt
          have aC0 := qa _ (List.getElem_mem hkt) (G k) (by rw [hG1, List.length_append] at hgb; exact hgb)
          have aC := fun L => aC0.at h L
          rw [← hG1] at aC
          have hwk := wrap_succ hkt
          generalize hae : s.arms[k] = a at *
          simp [hkt, hkt', hae, Ar.enc]
          refine ⟨_, _, aC _, ?_⟩
          simp
          exact ⟨k + 1, hkt, by omega, hwk, rfl⟩
        · have hke : k = s.arms.length := by omega
          subst hke
          simp
          exact ⟨q + 1, hlt, hmu, hw, by rw [hGn]⟩
      | true =>
        have : hold = s.type.owned := by rw [hh, h12, hs]; rfl
        subst this
        simp [hlt, hlt', he, stEnc]
        refine awp_draw [(15, 7), (15, 11)] (by kernel_rfl) (by kernel_rfl) ?_
        simp [h12]
        refine ⟨_, _, standsC s.type _, ?_⟩
        rw [hs]
        simp
        refine ⟨_, _, ownedC s.type _, ?_⟩
        simp
        refine ⟨_, _, wC _, ?_⟩
        simp
        refine ⟨_, _, bC _, ?_⟩
        simp
        refine ⟨_, _, eC _, ?_⟩
        simp
        refine awp_loop (fun k : Nat => k ≤ s.arms.length) (fun k => ([.ptr (d + 1) 1 0, .any, .any, .any, .any, .any, .any, .any, .p (.sl 15 (ss.map St.enc)), I ss.length, I q] ++ (List.replicate 29 .any ++ [.p (.sl 3 (s.arms.map Ar.enc)), I s.arms.length, I k, .any, .any, .any, .any, .any, .any, .any, .any, .any]))) (fun k => [.cells (stU s) 118] :: updL S d (G k)) (fun k => s.arms.length - k) 0 (Nat.zero_le _) ?_ ?_ ?_
        · simp
        · simp [hG0, h12]
        intro k hk1
        by_cases hkt : k < s.arms.length
        · have hkt' : (k : Int) < (s.arms.length : Int) := by omega
          have hG1 := hGs k hkt
          have hgb := hGb (k + 1) hkt
          have aC0 := qa _ (List.getElem_mem hkt) (G k) (by rw [hG1, List.length_append] at hgb; exact hgb)
          have aC := fun L => aC0.at h L
          rw [← hG1] at aC
          have hwk := wrap_succ hkt
          generalize hae : s.arms[k] = a at *
          simp [hkt, hkt', hae, Ar.enc]
          refine ⟨_, _, aC _, ?_⟩
          simp
          exact ⟨k + 1, hkt, by omega, hwk, rfl⟩
        · have hke : k = s.arms.length := by omega
          subst hke
          simp
          exact ⟨q + 1, hlt, hmu, hw, by rw [hGn]⟩
    · have h12' : (s.op != 12) = true := by simpa using h12
      have : hold = true := by rw [hh, h12']; rfl
      subst this
      simp [hlt, hlt', he, stEnc]
      refine awp_draw [(15, 7), (15, 11)] (by kernel_rfl) (by kernel_rfl) ?_
      simp [h12']
      refine ⟨_, _, wC _, ?_⟩
      simp
      refine ⟨_, _, bC _, ?_⟩
      simp
      refine ⟨_, _, eC _, ?_⟩
      simp
      refine awp_loop (fun k : Nat => k ≤ s.arms.length) (fun k => ([.ptr (d + 1) 1 0, .any, .any, .any, .any, .any, .any, .any, .p (.sl 15 (ss.map St.enc)), I ss.length, I q] ++ (List.replicate 29 .any ++ [.p (.sl 3 (s.arms.map Ar.enc)), I s.arms.length, I k, .any, .any, .any, .any, .any, .any, .any, .any, .any]))) (fun k => [.cells (stU s) 118] :: updL S d (G k)) (fun k => s.arms.length - k) 0 (Nat.zero_le _) ?_ ?_ ?_
      · simp
      · simp [hG0]
      intro k hk1
      by_cases hkt : k < s.arms.length
      · have hkt' : (k : Int) < (s.arms.length : Int) := by omega
        have hG1 := hGs k hkt
        have hgb := hGb (k + 1) hkt
        have aC0 := qa _ (List.getElem_mem hkt) (G k) (by rw [hG1, List.length_append] at hgb; exact hgb)
        have aC := fun L => aC0.at h L
        rw [← hG1] at aC
        have hwk := wrap_succ hkt
        generalize hae : s.arms[k] = a at *
        simp [hkt, hkt', hae, Ar.enc]
        refine ⟨_, _, aC _, ?_⟩
        simp
        exact ⟨k + 1, hkt, by omega, hwk, rfl⟩
      · have hke : k = s.arms.length := by omega
        subst hke
        simp
        exact ⟨q + 1, hlt, hmu, hw, by rw [hGn]⟩
  · have : q = ss.length := by omega
    subst this
    simp
theorem ssC_all : ∀ ss : List St, SsC ss := by
  have key : ∀ s : St, SsC s.body ∧ SsC s.els ∧ ∀ a ∈ s.arms, SsC a.body :=
    St.ind fun s ihb ihe iha => ⟨stmtsL _ ihb, stmtsL _ ihe, fun a ha => stmtsL _ (iha a ha)⟩
  exact fun ss => stmtsL ss fun s _ => key s
end Go.Proofs.YtnblhbpfgdjnkaaGreatDoor
