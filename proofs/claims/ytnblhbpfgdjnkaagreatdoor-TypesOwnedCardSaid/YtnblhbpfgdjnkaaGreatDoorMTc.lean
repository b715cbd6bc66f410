/- tables.Check in the logic over abstract values. No statement is proved here. -/
import Derived.Test.YtnblhbpfgdjnkaaGreatDoorMTs
import Derived.Test.YtnblhbpfgdjnkaaGreatDoorMWi
namespace Go.Proofs.YtnblhbpfgdjnkaaGreatDoor
open Go.RowKit
attribute [local simp] List.replicate List.range List.range.loop resA resOne retA AV.cuts AV.cut AObj.cut trim wkR wkT wkL wkN wkNR wkNL virtL virtO virt_get markL markO markR_get List.contains_cons List.contains_nil List.find? nextD_eq awpD_nil awpD_cons LCp LCl refL
set_option linter.unusedVariables false
set_option linter.unusedSimpArgs false

def It.tabsD (p : List It) (n : Nat) (x : It) : List Flt := (x.tabs p n).getD []
theorem itsTabs_all {p : List It} {n : Nat} : ∀ {l : List It} {fs : List Flt}, itsTabs p n l = some fs → fs = l.flatMap (It.tabsD p n) ∧ ∀ x ∈ l, x.tabs p n = some (x.tabsD p n)
  | [], fs, h => by cases h; exact ⟨rfl, fun x hx => by cases hx⟩
  | x :: l, fs, h => by
    unfold itsTabs at h
    cases h1 : x.tabs p n with
    | none => rw [h1] at h; cases h
    | some a =>
      cases h2 : itsTabs p n l with
      | none => rw [h1, h2] at h; cases h
      | some b =>
        rw [h1, h2] at h
        cases h
        obtain ⟨e, hall⟩ := itsTabs_all h2
        refine ⟨?_, fun y hy => ?_⟩
        · rw [List.flatMap_cons, ← e]
          simp [It.tabsD, h1]
        · rcases List.mem_cons.1 hy with rfl | hy
          · simp [It.tabsD, h1]
          · exact hall y hy
theorem updL_zero (a : AObj) (M : List AObj) (S : ASt) (l l' : List Flt) : updL ((a :: lkO l :: ltO l :: M) :: S) 0 l' = (a :: lkO l' :: ltO l' :: M) :: S := rfl
theorem LkC.zero {F : Nat} {args : List AV} {l l' : List Flt} (hw : LkC F args l l') (a : AObj) (M : List AObj) (S : ASt) : ADet Tryz.prog F (.ptr 0 1 0 :: args) ((a :: lkO l :: ltO l :: M) :: S) .un ((a :: lkO l' :: ltO l' :: M) :: S) := hw _ 0 ⟨rfl, rfl⟩
def fieldT (x : It) (f : Fi) : List Flt := wrongL (f.type.stands && ((x.kind == 3) || f.type.owned)) 70 x.pos
set_option maxRecDepth 100000 in
set_option maxHeartbeats 16000000 in
theorem checkC (p : List It) (n : Nat) (hsm : PrSm p) (fs : List Flt) (h : checkT p n = some fs) (hb : fs.length ≤ 4000000000) (S : ASt) : ADet Tryz.prog 20 [.agg [.p (prog p)]] S (.p (.sl 2 (fs.map fltE))) S := by
  refine ADet.okA Tryz.call20 0 0 rfl rfl fun hok => ?_
  have hlen := okl hok
  have wC := fun S => wholeProgC p hsm S
  refine ADet.intro mixed Tryz.call20 Tryz.func20 rfl ?_
  simp [Tryz.ntmps20]
  refine ⟨_, _, wC _, ?_⟩
  unfold checkT at h
  cases hw : prWhole p with
  | false =>
    rw [hw] at h
    simp at h
    subst h
    simp [fltE]
  | true =>
  rw [hw] at h
  simp only [if_true] at h
  obtain ⟨hfs, hall⟩ := itsTabs_all h
  obtain ⟨F, hF⟩ : ∃ F : Nat → List Flt, F = fun q => (p.take q).flatMap (It.tabsD p n) := ⟨_, rfl⟩
  have hF0 : F 0 = [] := by rw [hF]; simp
  have hFn : F p.length = fs := by rw [hF, hfs]; simp
  have hFb : ∀ q, (F q).length ≤ 4000000000 := fun q => by
    rw [hF]
    have := take_flat_le (It.tabsD p n) p q
    rw [← hfs] at this
    show ((p.take q).flatMap (It.tabsD p n)).length ≤ _
    omega
  have hFs : ∀ q (h : q < p.length), F (q + 1) = F q ++ p[q].tabsD p n := fun q h => by
    rw [hF]; simp only [List.take_succ_eq_append_getElem h, List.flatMap_append]; simp
  clear hF hfs h
  rw [← hFn]
  simp [prog]
  refine awp_loopG 78 2 (by decide) [.cells [.p (.sl 16 (p.map It.enc))] 24, .cells [.osl 2 [] 0 2] 81] (fun q : Nat => q ≤ p.length) (fun q => ([.any, .ptr 0 0 0, .any, .ptr 0 1 0] ++ (List.replicate 12 .any ++ ([.p (.sl 16 (p.map It.enc)), I p.length, I q] ++ List.replicate 62 .any)))) (fun q => [.cells [.p (.sl 16 (p.map It.enc))] 24, lkO (F q), ltO (F q)] :: S) (fun q => p.length - q) 0 (Nat.zero_le _) ?_ ?_ ?_ ?_
  · simp
  · simp
  · rw [hF0]; rfl
  intro q hq1
  by_cases hlt : q < p.length
  · have hlt' : (q : Int) < (p.length : Int) := by omega
    have hF1 := hFs q hlt
    have hb1 := hFb (q + 1)
    have hx := hall _ (List.getElem_mem hlt)
    have hokx := it_ok (p := p) (by simpa [prog] using hok) (List.getElem_mem hlt)
    have hlenf := okl hokx.1
    have hwq := wrap_succ hlt
    have hmu : p.length - (q + 1) < p.length - q := by omega
    generalize he : p[q] = x at *
    obtain ⟨W0, hW0⟩ : ∃ W, W = F q ++ x.fields.flatMap (fieldT x) := ⟨_, rfl⟩
    obtain ⟨W1, hW1⟩ : ∃ W, W = W0 ++ wrongL (x.result.stands && x.result.owned) 70 x.pos := ⟨_, rfl⟩
    obtain ⟨W2, hW2⟩ : ∃ W, W = W1 ++ St.tabss x.body := ⟨_, rfl⟩
    obtain ⟨lb, hlb, hW3⟩ : ∃ lb : Bool, (x.kind = 3 ∧ lb = true ∨ x.kind ≠ 3 ∧ ∃ g, foundF p x.name n x.fields [] = some (!lb, g)) ∧ F (q + 1) = W2 ++ wrongL lb 71 x.pos := by
      unfold It.tabs at hx
      dsimp only at hx
      by_cases h3 : x.kind = 3
      · rw [if_pos h3] at hx
        refine ⟨true, .inl ⟨h3, rfl⟩, ?_⟩
        rw [hF1, ← Option.some.inj hx, hW2, hW1, hW0, show wrongL true 71 x.pos = [] from rfl, List.append_nil]
        simp only [List.append_assoc]
        rfl
      · rw [if_neg h3] at hx
        obtain ⟨⟨b, g⟩, hfo, hx⟩ := Option.map_eq_some_iff.1 hx
        refine ⟨!b, .inr ⟨h3, g, by rw [hfo]; simp⟩, ?_⟩
        rw [hF1, ← hx, hW2, hW1, hW0]
        simp only [List.append_assoc]
        rfl
    have hb2 : W2.length + 1 ≤ 4294967296 := by rw [hW3, List.length_append] at hb1; omega
    have hb12 : W1.length + (St.tabss x.body).length ≤ 4000000000 := by rw [hW3, hW2, List.length_append, List.length_append] at hb1; omega
    have hb01 : W0.length + 1 ≤ 4294967296 := by rw [hW1, List.length_append] at hb12; omega
    obtain ⟨G, hG⟩ : ∃ G : Nat → List Flt, G = fun k => F q ++ (x.fields.take k).flatMap (fieldT x) := ⟨_, rfl⟩
    have hG0 : G 0 = F q := by rw [hG]; simp
    have hGn : G x.fields.length = W0 := by rw [hG, hW0]; simp
    have hGs : ∀ k (h : k < x.fields.length), G (k + 1) = G k ++ fieldT x x.fields[k] := fun k h => by
      rw [hG]; simp only [List.take_succ_eq_append_getElem h, List.flatMap_append, List.append_assoc]; simp
    have hGb : ∀ k, (G k).length + 1 ≤ 4294967296 := fun k => by
      have h1 := take_flat_le (fieldT x) x.fields k
      have h2 : (W0).length ≤ 4000000000 := by rw [hW1, List.length_append] at hb12; omega
      rw [hW0, List.length_append] at h2
      rw [hG]
      simp only [List.length_append]
      omega
    have sC := fun M => (ssC_all x.body W1 hb12).zero (.cells [.p (.sl 16 (p.map It.enc))] 24) M S
    have lC := fun M => (wrongW lb 71 x.pos W2 hb2).zero (.cells [.p (.sl 16 (p.map It.enc))] 24) M S
    have rC := fun b M => (wrongW b 70 x.pos W0 hb01).zero (.cells [.p (.sl 16 (p.map It.enc))] 24) M S
    rw [← hW2] at sC
    rw [← hW3] at lC
    clear hG hF1 hFs hx
    simp [hlt, hlt', he, It.enc]
    refine awp_loop (fun k : Nat => k ≤ x.fields.length) (fun k => ([.any, .ptr 0 0 0, .any, .ptr 0 1 0, .any, .ptr 0 3 0, .any, .any, .any, .any, .any, .any, .any, .any, .any, .any, .p (.sl 16 (p.map It.enc)), I p.length, I q, .any, .any, .any, .any, .p (.sl 4 (x.fields.map Fi.enc)), I x.fields.length, I k] ++ List.replicate 55 .any)) (fun k => [.cells [.p (.sl 16 (p.map It.enc))] 24, lkO (G k), ltO (G k), .cells (itU x) 54] :: S) (fun k => x.fields.length - k) 0 (Nat.zero_le _) ?_ ?_ ?_
    · simp
    · simp [hG0, ltO, lkO]
    intro k hk1
    by_cases hkt : k < x.fields.length
    · have hkt' : (k : Int) < (x.fields.length : Int) := by omega
      have hG1 := hGs k hkt
      have hwk := wrap_succ hkt
      have fC := fun b M => (wrongW b 70 x.pos (G k) (hGb k)).zero (.cells [.p (.sl 16 (p.map It.enc))] 24) M S
      generalize hfe : x.fields[k] = f at *
      unfold fieldT at hG1
      simp [hkt, hkt', hfe, Fi.enc]
      refine awp_draw [(15, 3), (15, 11)] (by kernel_rfl) (by kernel_rfl) ?_
      simp
      refine ⟨_, _, standsC f.type _, ?_⟩
      cases hs : f.type.stands with
      | false =>
        rw [hs, Bool.false_and] at hG1
        simp
        refine ⟨_, _, fC false _, ?_⟩
        simp
        exact ⟨k + 1, hkt, by omega, hwk, by rw [hG1]; simp [ltO, lkO]⟩
      | true =>
        rw [hs, Bool.true_and] at hG1
        by_cases h3 : x.kind = 3
        · rw [h3] at hG1
          simp [h3]
          refine ⟨_, _, fC true _, ?_⟩
          simp
          exact ⟨k + 1, hkt, by omega, hwk, by rw [hG1]; simp [ltO, lkO, h3]⟩
        · have h3' : (x.kind == 3) = false := by simpa using h3
          rw [h3', Bool.false_or] at hG1
          simp [h3']
          refine ⟨_, _, ownedC f.type _, ?_⟩
          simp
          refine ⟨_, _, fC _ _, ?_⟩
          simp
          exact ⟨k + 1, hkt, by omega, hwk, by rw [hG1]; simp [ltO, lkO]⟩
    · have hke : k = x.fields.length := by omega
      subst hke
      have iC : ∀ g, foundF p x.name n x.fields [] = some (!lb, g) → ∀ S, ADet Tryz.prog 45 [.agg [.p (prog p)], itV x] S (B (!lb)) S := fun g hg S => itselfC p x n _ g hg S
      have fin : ∀ b, b = (x.result.stands && x.result.owned) → W1 = W0 ++ wrongL b 70 x.pos := fun b hb => by rw [hb]; exact hW1
      rw [hGn]
      simp
      refine awp_draw [(10, 3), (10, 7)] (by kernel_rfl) (by kernel_rfl) ?_
      simp
      refine ⟨_, _, standsC x.result _, ?_⟩
      cases hs : x.result.stands with
      | false =>
        have hw1 := fin false (by rw [hs]; rfl)
        have rC := fun M => rC false M
        rw [← hw1] at rC
        simp
        refine ⟨_, _, rC _, ?_⟩
        simp
        refine ⟨_, _, sC _, ?_⟩
        simp
        refine awp_draw [(11, 7)] (by kernel_rfl) (by kernel_rfl) ?_
        rcases hlb with ⟨h3, hl⟩ | ⟨h3, g, hg⟩
        · rw [hl] at lC
          simp [h3]
          refine ⟨_, _, lC _, ?_⟩
          simp
          exact ⟨q + 1, hlt, hmu, hwq, by simp [ltO, lkO]⟩
        · have h3' : (x.kind == 3) = false := by simpa using h3
          simp [h3']
          refine ⟨_, _, iC g hg _, ?_⟩
          simp
          refine ⟨_, _, lC _, ?_⟩
          simp
          exact ⟨q + 1, hlt, hmu, hwq, by simp [ltO, lkO]⟩
      | true =>
        have hw1 := fin x.result.owned (by rw [hs]; rfl)
        have rC := fun M => rC x.result.owned M
        rw [← hw1] at rC
        simp
        refine ⟨_, _, ownedC x.result _, ?_⟩
        simp
        refine ⟨_, _, rC _, ?_⟩
        simp
        refine ⟨_, _, sC _, ?_⟩
        simp
        refine awp_draw [(11, 7)] (by kernel_rfl) (by kernel_rfl) ?_
        rcases hlb with ⟨h3, hl⟩ | ⟨h3, g, hg⟩
        · rw [hl] at lC
          simp [h3]
          refine ⟨_, _, lC _, ?_⟩
          simp
          exact ⟨q + 1, hlt, hmu, hwq, by simp [ltO, lkO]⟩
        · have h3' : (x.kind == 3) = false := by simpa using h3
          simp [h3']
          refine ⟨_, _, iC g hg _, ?_⟩
          simp
          refine ⟨_, _, lC _, ?_⟩
          simp
          exact ⟨q + 1, hlt, hmu, hwq, by simp [ltO, lkO]⟩
  · have : q = p.length := by omega
    subst this
    simp [lkO]
end Go.Proofs.YtnblhbpfgdjnkaaGreatDoor
