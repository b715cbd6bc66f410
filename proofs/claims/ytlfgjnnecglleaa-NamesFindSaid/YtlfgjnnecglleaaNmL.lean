/- weftwaylaw06.NamesFind in the logic over abstract values. Its row is in a text of its own. -/
import Derived.Test.YtlfgjnnecglleaaNmH
namespace Go.Proofs.Ytlfgjnnecglleaa
open Go.RowKit
attribute [local simp] List.replicate List.range List.range.loop resA resOne retA AV.cuts AV.cut AObj.cut trim wkR wkT wkL wkN wkNR wkNL wkM wkMR wkML virtL virtO virt_get markL markO markR_get rowA awpI_nil awpI_cons List.forall_mem_cons List.contains_cons List.contains_nil List.find? nextD_eq awpD_nil awpD_cons LCp LCl refL
set_option linter.unusedVariables false
set_option linter.unusedSimpArgs false
def zIt : It := ⟨0, ⟨#[]⟩, [], .mk 0 ⟨#[]⟩ [], [], .mk 0 0 ⟨#[]⟩ ⟨#[]⟩ ⟨⟨#[]⟩, []⟩ [] 0, 0⟩
theorem wkT_tail {A B C X Y : List AObj} {S : ASt} (hX : X = A ++ B) (hY : Y = A ++ C) (hA : ∀ o ∈ A, wkL [o] [o]) (h : wkL B C) : wkT (X :: S) (Y :: S) := by
  subst hX hY
  exact ⟨wk_tail hA h, rfl⟩
/-- an item of zeros, its lists empty ones -/
abbrev zItB : List AV := [U 0, Sg ⟨#[]⟩, .p (.sl 4 []), U 0, Sg ⟨#[]⟩, .p (.v (.slice none 0 0)), .p (.sl 15 []), U 0, I 0, Sg ⟨#[]⟩, Sg ⟨#[]⟩, Sg ⟨#[]⟩, .p (.v (.slice none 0 0)), .p (.v (.slice none 0 0)), I 0, I 0]
theorem ADet.lessTuN {P : Program} {F : FuncId} {xs : List AV} {S S' : ASt} {l l' : List AV} (hle : LeAs l l') (h : ADet P F xs S (.tup l) S') : ADet P F xs S (.tup l') S' :=
  ⟨h.1, fun Pr φ ys w hargs hR hne => (h.2 Pr φ ys w hargs hR hne).mono fun e w' hp => by
    obtain ⟨x, Pr', φ', h1, h2, h3, h4⟩ := hp
    refine ⟨x, Pr', φ', h1, h2, h3, ?_⟩
    cases h4 with
    | tup k1 k2 =>
      obtain ⟨hl, hk⟩ := (leA_both (Pr := Pr') (φ := φ')).2 hle
      exact .tup (hl ▸ k1) fun j c y hc hy => by
        obtain ⟨v, m1, m2⟩ := hk j c hc
        exact m2 (k2 j v y m1 hy)⟩
set_option maxRecDepth 100000 in
set_option maxHeartbeats 32000000 in
theorem nfMiss (p : List It) (k : Int) (s : ByteArray) (S : ASt) (hg : great p = false) (hl : ¬ (1000 : Int) < (s.size : Int)) (hp : PrSm p) (hno : ∀ x ∈ p, hitF k s x = false)
    (fC0 : ADet Try.prog 6 [.agg [.p (prog p)], U k, Sg s] ([.cells [.p (prog p)] 24, .cells [.p (prog p)] 24] :: S) (.tup [.agg zItA, B false]) (([.cells [.p (prog p)] 24, .cells [.p (prog p)] 24] ++ List.replicate (14 + 6 * p.length) .dead) :: S)) : ADet Try.prog 3 [.agg [.p (prog p)], U k, Sg s] S (B true) S := by
  have fC := ADet.lessTuN (l' := [.agg zItB, B false]) (.cons (.agg (.cons (.refl _) (.cons (.refl _) (.cons (.p (.nil 4)) (.cons (.refl _) (.cons (.refl _) (.cons (.refl _) (.cons (.p (.nil 15)) (.refl _))))))))) (.refl _)) fC0
  clear fC0
  have sC := fun S => sameC p S
  have cC := fun S => copiedC p hp S
  have gC := fun S => greatC S p
  have hlp : p.length ≤ 20000 := hp.1
  have hw0 : IntKind.i64.wrap ((p.length : Int) - 1) = (p.length : Int) - 1 := IntWalk.i64_in _ (by omega)
  rw [hg] at gC
  refine ADet.intro mixed Try.call3 Try.func3 rfl ?_
  simp [Try.ntmps3]
  refine ⟨_, _, gC _, ?_⟩
  simp [hl]
  refine ⟨_, _, cC _, ?_⟩
  simp
  refine ⟨_, _, fC, ?_⟩
  have hDl : (List.replicate (14 + 6 * p.length) AObj.dead).length = 14 + 6 * p.length := by simp only [List.length_replicate]
  have hDk : ∀ o ∈ List.replicate (14 + 6 * p.length) AObj.dead, wkL [o.cut (14 + 6 * p.length + 3)] [o] := fun o ho => by rw [List.eq_of_mem_replicate ho]; trivial
  generalize List.replicate (14 + 6 * p.length) AObj.dead = D at *
  simp [hDl, hw0]
  have hkA : ∀ o ∈ (AObj.cells [.p (prog p)] 24 :: .cells [.p (prog p)] 24 :: (D ++ [AObj.cells zItB 39])), wkL [o.cut (14 + 6 * p.length + 3)] [o] := fun o ho => by
    simp only [List.mem_cons, List.mem_append, List.not_mem_nil, or_false] at ho
    rcases ho with rfl | rfl | ho | rfl
    · exact ⟨⟨rfl, wkR_refl _⟩, trivial⟩
    · exact ⟨⟨rfl, wkR_refl _⟩, trivial⟩
    · exact hDk o ho
    · exact ⟨⟨rfl, wkR_refl _⟩, trivial⟩
  have hAl : ((AObj.cells [.p (prog p)] 24 :: .cells [.p (prog p)] 24 :: (D ++ [AObj.cells zItB 39])) : List AObj).length = 14 + 6 * p.length + 3 := by simp [hDl]
  have hself : wkT (trim (14 + 6 * p.length + 3) ((AObj.cells [.p (prog p)] 24 :: .cells [.p (prog p)] 24 :: (D ++ [AObj.cells zItB 39])) :: S)) ((AObj.cells [.p (prog p)] 24 :: .cells [.p (prog p)] 24 :: (D ++ [AObj.cells zItB 39])) :: S) := wkT_self hAl hkA
  refine awp_loopN (fun x : Nat × Int => x.1 ≤ p.length ∧ x.2 = -1) (fun x => ([.any, U k, Sg s, .ptr 0 0 0, .any, .any, .any, .ptr 0 1 0, .ptr 0 (14 + 6 * p.length + 1 + 1) 0, B false, I x.2, I ((x.1 : Int) - 1)] ++ List.replicate 105 .any)) (fun _ => (AObj.cells [.p (prog p)] 24 :: .cells [.p (prog p)] 24 :: (D ++ [AObj.cells zItB 39])) :: S) (fun x => x.1) (fun _ => 14 + 6 * p.length + 3) (p.length, -1) ⟨Nat.le_refl _, rfl⟩ (fun x _ => Nat.le_of_eq hAl) ?_ ⟨wkL_selfs hkA, rfl⟩ ?_
  · simp
    try omega
  rintro ⟨m, r⟩ ⟨hm, hr⟩
  simp only at hm hr
  by_cases hm0 : 0 < m
  · obtain ⟨j, rfl⟩ : ∃ j, m = j + 1 := ⟨m - 1, by omega⟩
    have hjl : j < p.length := by omega
    have hwj : IntKind.i64.wrap ((j : Int) - 1) = (j : Int) - 1 := IntWalk.i64_in _ (by omega)
    have hN0 : 0 < 14 + 6 * p.length + 3 := by omega
    have hN1 : 1 < 14 + 6 * p.length + 3 := by omega
    have hN2 : 14 + 6 * p.length + 1 + 1 < 14 + 6 * p.length + 3 := by omega
    have hy := hno _ (List.getElem_mem hjl)
    generalize he : p[j] = y at *
    unfold hitF at hy
    by_cases hk : y.kind = k
    · have hs : sEq y.name s = false := by simpa [hk] using hy
      simp [hjl, hwj, prog, he, It.enc, hk, hs, hN0, hN1, hN2, -trim, -wkT]
      exact ⟨j, -1, ⟨by omega, rfl⟩, by omega, ⟨hr, rfl⟩, hself⟩
    · have hk' : (y.kind == k) = false := by simpa using hk
      simp [hjl, hwj, prog, he, It.enc, hk', hN0, hN1, hN2, -trim, -wkT]
      exact ⟨j, -1, ⟨by omega, rfl⟩, by omega, ⟨hr, rfl⟩, hself⟩
  · obtain rfl : m = 0 := by omega
    subst hr
    simp [hDl, List.getElem?_append, -trim, -wkT]
    have zC := fun S => sameC [zIt] S
    have zP : prog [zIt] = .sl 16 [[pU 0, pS ⟨#[]⟩, .sl 4 [], pU 0, pS ⟨#[]⟩, .sl 3 [], .sl 15 [], pU 0, pI 0, pS ⟨#[]⟩, pS ⟨#[]⟩, pS ⟨#[]⟩, .sl 1 [], .sl 8 [], pI 0, pI 0]] := rfl
    rw [zP] at zC
    refine ⟨_, _, ADet.sub ?_ (zC _), ?_⟩
    · repeat' constructor
    simp [hDl, List.getElem?_append, -trim, -wkT]
    refine awp_drawO [10] [] [(6, 3), (9, 3), (10, 3)] (by kernel_rfl) (by kernel_rfl) ?_
    simp (maxSteps := 1000000) [ownL, ownO, ownR_get, hDl, List.getElem?_append, -trim, -wkT]
    have hN0 : 0 < 14 + 6 * p.length + 3 := by omega
    have hN1 : 1 < 14 + 6 * p.length + 3 := by omega
    have hN2 : 14 + 6 * p.length + 1 + 1 < 14 + 6 * p.length + 3 := by omega
    have hself2 : ∀ B, wkT (trim (14 + 6 * p.length + 3) (((AObj.cells [.p (prog p)] 24 :: .cells [.p (prog p)] 24 :: (D ++ [AObj.cells zItB 39])) ++ B) :: S)) ((AObj.cells [.p (prog p)] 24 :: .cells [.p (prog p)] 24 :: (D ++ [AObj.cells zItB 39])) :: S) := fun B => by
      have := wk_keep (A := (AObj.cells [.p (prog p)] 24 :: .cells [.p (prog p)] 24 :: (D ++ [AObj.cells zItB 39]))) (B := B) (by rw [hAl]; exact hkA)
      rw [hAl] at this
      exact ⟨this, rfl⟩
    refine awp_loopN (fun _ : Unit => True) (fun _ => ([.any, .any, .any, .ptr 0 0 0, .any, .any, .any, .ptr 0 1 0, .ptr 0 (14 + 6 * p.length + 1 + 1) 0, .any, .any, .any, I 0] ++ List.replicate 104 .any)) (fun _ => ((AObj.cells [.p (prog p)] 24 :: .cells [.p (prog p)] 24 :: (D ++ [AObj.cells zItB 39])) ++ [.dead, .dead]) :: S) (fun _ => 0) (fun _ => 14 + 6 * p.length + 5) () trivial (fun x _ => by simp [hDl]) ?_ ?_ ?_
    · simp
      try omega
    · exact wkT_tail (A := (AObj.cells [.p (prog p)] 24 :: .cells [.p (prog p)] 24 :: (D ++ [AObj.cells zItB 39]))) (B := [AObj.tok 39 16 1, AObj.tok 39 16 1]) (C := [.dead, .dead]) (by simp) (by simp) (fun o ho => wkL_self (hkA o ho)) trivial
    intro _ _
    simp [hDl, List.getElem?_append, -trim, -wkT]
    refine awp_loopN (fun _ : Unit => True) (fun _ => ([.any, .any, .any, .ptr 0 0 0, .any, .any, .any, .ptr 0 1 0, .ptr 0 (14 + 6 * p.length + 1 + 1) 0, .any, .any, .any, .any, I 0] ++ List.replicate 103 .any)) (fun _ => ((AObj.cells [.p (prog p)] 24 :: .cells [.p (prog p)] 24 :: (D ++ [AObj.cells zItB 39])) ++ [.dead, .dead]) :: S) (fun _ => 0) (fun _ => 14 + 6 * p.length + 5) () trivial (fun x _ => by simp [hDl]) ?_ ?_ ?_
    · simp
      try omega
    · exact wkT_tail (A := (AObj.cells [.p (prog p)] 24 :: .cells [.p (prog p)] 24 :: (D ++ [AObj.cells zItB 39]))) (C := [.dead, .dead]) (B := [.dead, .dead]) (by simp) (by simp) (fun o ho => wkL_self (hkA o ho)) trivial
    intro _ _
    simp [hDl, List.getElem?_append, -trim, -wkT]
    refine ⟨_, _, sC _, ?_⟩
    simp
end Go.Proofs.Ytlfgjnnecglleaa
