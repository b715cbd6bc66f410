/- weftwaylaw06.NamesFind where a first item is found, in the logic over abstract values. Its row is in a text of its own. -/
import Derived.Test.YtlfgjnnecglleaaNmF
import Derived.Test.YtlfgjnnecglleaaMCr
import Derived.Test.YtlfgjnnecglleaaMRoom
import Derived.Test.YtlfgjnnecglleaaMSm
import Derived.Test.YtlfgjnnecglleaaMSm
namespace Go.Proofs.Ytlfgjnnecglleaa
open Go.RowKit
attribute [local simp] List.replicate List.range List.range.loop resA resOne retA AV.cuts AV.cut AObj.cut trim wkR wkT wkL wkN wkNR wkNL wkM wkMR wkML virtL virtO virt_get markL markO markR_get rowA awpI_nil awpI_cons List.forall_mem_cons List.contains_cons List.contains_nil List.find? nextD_eq awpD_nil awpD_cons LCp LCl refL
set_option linter.unusedVariables false
set_option linter.unusedSimpArgs false
theorem wk_tail : ∀ {A B C : List AObj}, (∀ o ∈ A, wkL [o] [o]) → wkL B C → wkL (A ++ B) (A ++ C)
  | [], B, C, _, h => h
  | o :: A, B, C, hA, h => wkL_cons (hA o (by simp)) (wk_tail (fun o ho => hA o (List.mem_cons_of_mem _ ho)) h)
theorem rowC_len {α : Type} {enc : α → List PV} {k : Nat} (h : ∀ x, (enc x).length = k) : ∀ {l : List α}, (rowC enc l).length = k * l.length
  | [] => rfl
  | x :: l => by
    have := rowC_len h (l := l)
    unfold rowC at *
    simp only [List.map_cons, List.flatten_cons, List.length_append, List.length_map, h, this, List.length_cons]
    rw [Nat.mul_succ, Nat.add_comm]
theorem lent_rowC {α : Type} {S : ASt} {a k : Nat} {E : TypeId} {enc : α → List PV} {l : List α} (h : get2 S 0 a = some (.row E k l.length (rowC enc l))) (hk : ∀ x, (enc x).length = k) : Lent S (.rsl 0 a l.length k) (.sl k (l.map enc)) := by
  refine Lent.row (css := l.map fun x => (enc x).map AV.p) h (by simp) (by simp) fun r cs row hcs hrow => ?_
  rw [List.getElem?_map] at hcs hrow
  obtain ⟨x, hx, rfl⟩ := Option.map_eq_some_iff.1 hcs
  rw [hx] at hrow
  cases hrow
  refine ⟨by simp [hk], hk x, fun j c q hc hq => ?_⟩
  rw [List.getElem?_map, hq] at hc
  cases hc
  exact .p q
theorem lent_one {S : ASt} {d i k : Nat} {t : TypeId} {cs : List AV} {row : List PV} (h : get2 S d i = some (.cells cs t)) (hk : cs.length = k) (hr : row.length = k) (hc : ∀ (j : Nat) (c : AV) (q : PV), cs[j]? = some c → row[j]? = some q → Lent S (c.up d) q) : Lent S (.asl d i 1 k) (.sl k [row]) := by
  have key : ∀ (r : Nat) (row' : List PV) (j : Nat) (q : PV), [row][r]? = some row' → row'[j]? = some q → r = 0 ∧ row[j]? = some q ∧ j < cs.length := fun r row' j q h1 h2 => by
    cases r with
    | succ r => simp at h1
    | zero =>
      simp at h1
      subst h1
      exact ⟨rfl, h2, by have := (List.getElem?_eq_some_iff.1 h2).1; omega⟩
  refine .asl (fun o => cs.getD o .any) h rfl (fun r row' hr' => ?_) (fun r row' j q h1 h2 => ?_) fun r row' j q h1 h2 => ?_
  · cases r with
    | succ r => simp at hr'
    | zero => simp at hr'; subst hr'; exact hr
  · obtain ⟨rfl, h3, h4⟩ := key r row' j q h1 h2
    simp [List.getD, h4]
  · obtain ⟨rfl, h3, h4⟩ := key r row' j q h1 h2
    rw [Nat.zero_mul, Nat.zero_add, List.getD, List.getElem?_eq_getElem h4]
    exact hc j _ q (List.getElem?_eq_getElem h4) h3
theorem lent_item {S : ASt} {x : It} {a b i : Nat} {t E E2 : TypeId} (h : get2 S 0 i = some (.cells (itRC x a b) t)) (ha : get2 S 0 a = some (.row E 4 x.fields.length (rowC Fi.enc x.fields))) (hb : get2 S 0 b = some (.row E2 15 x.body.length (rowC St.enc x.body))) : Lent S (.asl 0 i 1 16) (.sl 16 [x.enc]) := by
  refine lent_one h rfl rfl fun j c q hc hq => ?_
  match j, hc, hq with
  | 0, hc, hq => cases hc; cases hq; exact .p _
  | 1, hc, hq => cases hc; cases hq; exact .p _
  | 2, hc, hq => cases hc; cases hq; exact lent_rowC ha fun _ => rfl
  | 3, hc, hq => cases hc; cases hq; exact .p _
  | 4, hc, hq => cases hc; cases hq; exact .p _
  | 5, hc, hq => cases hc; cases hq; exact .p _
  | 6, hc, hq => cases hc; cases hq; exact lent_rowC hb fun s => by rw [stEnc]; rfl
  | 7, hc, hq => cases hc; cases hq; exact .p _
  | 8, hc, hq => cases hc; cases hq; exact .p _
  | 9, hc, hq => cases hc; cases hq; exact .p _
  | 10, hc, hq => cases hc; cases hq; exact .p _
  | 11, hc, hq => cases hc; cases hq; exact .p _
  | 12, hc, hq => cases hc; cases hq; exact .p _
  | 13, hc, hq => cases hc; cases hq; exact .p _
  | 14, hc, hq => cases hc; cases hq; exact .p _
  | 15, hc, hq => cases hc; cases hq; exact .p _
  | _ + 16, hc, hq => simp [itRC] at hc
/-- the objects while what was told is spoilt -/
structure NmS (x : It) (p : List It) (N ix a b : Nat) (A : List AObj) : Prop where
  len : A.length = N
  ne : a ≠ b ∧ a ≠ ix ∧ b ≠ ix ∧ 2 ≤ a ∧ 2 ≤ b ∧ a < N ∧ b < N
  keep : ∀ o ∈ A, wkL [o.cut N] [o]
  c0 : A[0]? = some (.cells [.p (prog p)] 24)
  c1 : A[1]? = some (.cells [.p (prog p)] 24)
  cx : A[ix]? = some (.cells (itRC x a b) 39)
  fa : ∃ cs, A[a]? = some (.row 44 4 x.fields.length cs) ∧ cs.length = 4 * x.fields.length ∧ ∀ c ∈ cs, ∃ q, c = .p q
  fb : ∃ cs, A[b]? = some (.row 47 15 x.body.length cs) ∧ cs.length = 15 * x.body.length ∧ ∀ c ∈ cs, ∃ q, c = .p q
theorem row_cut {N : Nat} {E : TypeId} {k n : Nat} {cs : List AV} (h : ∀ c ∈ cs, ∃ q, c = .p q) : wkL [AObj.cut N (.row E k n cs)] [.row E k n cs] := by
  have : AV.cuts N cs = cs := by
    rw [cuts_map]
    conv => rhs; rw [← List.map_id cs]
    exact List.map_congr_left fun c hc => by obtain ⟨q, rfl⟩ := h c hc; rfl
  show wkL [AObj.row E k n (AV.cuts N cs)] _
  rw [this]
  exact ⟨⟨⟨rfl, rfl, rfl⟩, wkR_refl _⟩, trivial⟩
theorem set_p {cs : List AV} {i : Nat} {q : PV} (h : ∀ c ∈ cs, ∃ q, c = .p q) : ∀ c ∈ cs.set i (.p q), ∃ q, c = .p q := fun c hc => by
  rcases List.mem_or_eq_of_mem_set hc with h1 | rfl
  · exact h c h1
  · exact ⟨q, rfl⟩
theorem NmS.setA {x : It} {p : List It} {N ix a b : Nat} {A : List AObj} {cs : List AV} (h : NmS x p N ix a b A) (hl : cs.length = 4 * x.fields.length) (hp : ∀ c ∈ cs, ∃ q, c = .p q) : NmS x p N ix a b (A.set a (.row 44 4 x.fields.length cs)) := by
  obtain ⟨n1, n2, n3, n4, n5, n6, n7⟩ := h.ne
  refine ⟨by simp [h.len], h.ne, fun o ho => ?_, ?_, ?_, ?_, ⟨cs, ?_, hl, hp⟩, ?_⟩
  · rcases List.mem_or_eq_of_mem_set ho with h1 | rfl
    · exact h.keep o h1
    · exact row_cut hp
  · rw [List.getElem?_set_ne (by omega)]; exact h.c0
  · rw [List.getElem?_set_ne (by omega)]; exact h.c1
  · rw [List.getElem?_set_ne n2]; exact h.cx
  · rw [List.getElem?_set_self (by rw [h.len]; exact n6)]
  · rw [List.getElem?_set_ne n1]; exact h.fb
theorem NmS.setB {x : It} {p : List It} {N ix a b : Nat} {A : List AObj} {cs : List AV} (h : NmS x p N ix a b A) (hl : cs.length = 15 * x.body.length) (hp : ∀ c ∈ cs, ∃ q, c = .p q) : NmS x p N ix a b (A.set b (.row 47 15 x.body.length cs)) := by
  obtain ⟨n1, n2, n3, n4, n5, n6, n7⟩ := h.ne
  refine ⟨by simp [h.len], h.ne, fun o ho => ?_, ?_, ?_, ?_, ?_, ⟨cs, ?_, hl, hp⟩⟩
  · rcases List.mem_or_eq_of_mem_set ho with h1 | rfl
    · exact h.keep o h1
    · exact row_cut hp
  · rw [List.getElem?_set_ne (by omega)]; exact h.c0
  · rw [List.getElem?_set_ne (by omega)]; exact h.c1
  · rw [List.getElem?_set_ne n3]; exact h.cx
  · rw [List.getElem?_set_ne (Ne.symm n1)]; exact h.fa
  · rw [List.getElem?_set_self (by rw [h.len]; exact n7)]
theorem lendSame {x : It} {a b i : Nat} {A : List AObj} {S : ASt} {t E E2 : TypeId} (h : A[i]? = some (.cells (itRC x a b) t)) (ha : A[a]? = some (.row E 4 x.fields.length (rowC Fi.enc x.fields))) (hb : A[b]? = some (.row E2 15 x.body.length (rowC St.enc x.body))) :
    ADet Try.prog 7 [.agg [.asl 0 i 1 16], .agg [.p (prog [x])], B true] (A :: S) (B true) (A :: S) :=
  ADet.lend rfl (sameC [x] [[]]) (.cons (LentA.agg (l := [(.asl 0 i 1 16, prog [x])]) fun c hc => by
      rw [List.mem_singleton.1 hc]
      exact lent_item h ha hb)
    (.cons (LentA.agg (l := [(.p (prog [x]), prog [x])]) fun c hc => by
      rw [List.mem_singleton.1 hc]
      exact .p _)
    (.cons (.p (.p _)) .nil)))
set_option maxRecDepth 100000 in
set_option maxHeartbeats 32000000 in
theorem nfHit (p : List It) (k : Int) (s : ByteArray) (S : ASt) (hg : great p = false) (hl : ¬ (1000 : Int) < (s.size : Int)) (hp : PrSm p) (q : Nat) (hq : q < p.length) (x : It) (hx : p[q] = x) (hit : hitF k s x = true) (hlow : ∀ j (h : j < p.length), j < q → hitF k s p[j] = false)
    (D : List AObj) (M a b : Nat) (hDl : D.length = M) (hab : a ≠ b) (haM : a < M) (hbM : b < M) (hDk : ∀ o ∈ D, ∀ N, M ≤ N → wkL [o.cut (N + 2)] [o]) (hDa : D[a]? = some (.row 44 4 x.fields.length (rowC Fi.enc x.fields))) (hDb : D[b]? = some (.row 47 15 x.body.length (rowC St.enc x.body)))
    (fC : ADet Try.prog 6 [.agg [.p (prog p)], U k, Sg s] ([.cells [.p (prog p)] 24, .cells [.p (prog p)] 24] :: S) (.tup [.agg (itRC x (a + 2) (b + 2)), B true]) (([.cells [.p (prog p)] 24, .cells [.p (prog p)] 24] ++ D) :: S)) : ADet Try.prog 3 [.agg [.p (prog p)], U k, Sg s] S (B true) S := by
  have sC := fun S => sameC p S
  have cC := fun S => copiedC p hp S
  have gC := fun S => greatC S p
  have hlp : p.length ≤ 20000 := hp.1
  have hw0 : IntKind.i64.wrap ((p.length : Int) - 1) = (p.length : Int) - 1 := IntWalk.i64_in _ (by omega)
  have hxs := hp.2 x (by rw [← hx]; exact List.getElem_mem hq)
  have hnf : x.fields.length ≤ 20000 := hxs.2.1.1
  have hnb : x.body.length ≤ 20000 := hxs.2.2.2.1.1
  have hkA : ∀ N, M + 1 ≤ N → ∀ o ∈ (AObj.cells [.p (prog p)] 24 :: .cells [.p (prog p)] 24 :: (D ++ [AObj.cells (itRC x (a + 2) (b + 2)) 39])), wkL [o.cut (N + 2)] [o] := fun N hN o ho => by
    simp only [List.mem_cons, List.mem_append, List.not_mem_nil, or_false] at ho
    rcases ho with rfl | rfl | ho | rfl
    · exact ⟨⟨rfl, wkR_refl _⟩, trivial⟩
    · exact ⟨⟨rfl, wkR_refl _⟩, trivial⟩
    · exact hDk o ho N (by omega)
    · show wkL [AObj.cells (AV.cuts _ (itRC x (a + 2) (b + 2))) _] _
      rw [itRC_cut (by omega) (by omega)]
      exact ⟨⟨rfl, wkR_refl _⟩, trivial⟩
  have hAl : ((AObj.cells [.p (prog p)] 24 :: .cells [.p (prog p)] 24 :: (D ++ [AObj.cells (itRC x (a + 2) (b + 2)) 39])) : List AObj).length = M + 1 + 2 := by simp [hDl]
  rw [hg] at gC
  refine ADet.intro mixed Try.call3 Try.func3 rfl ?_
  simp [Try.ntmps3]
  refine ⟨_, _, gC _, ?_⟩
  simp [hl]
  refine ⟨_, _, cC _, ?_⟩
  simp
  refine ⟨_, _, fC, ?_⟩
  simp [hDl, hw0, itRC]
  have hself : wkT (trim (M + 1 + 2) ((AObj.cells [.p (prog p)] 24 :: .cells [.p (prog p)] 24 :: (D ++ [AObj.cells (itRC x (a + 2) (b + 2)) 39])) :: S)) ((AObj.cells [.p (prog p)] 24 :: .cells [.p (prog p)] 24 :: (D ++ [AObj.cells (itRC x (a + 2) (b + 2)) 39])) :: S) := wkT_self hAl (hkA (M + 1) (Nat.le_refl _))
  have hN0 : 0 < M + 1 + 2 := by omega
  have hN1 : 1 < M + 1 + 2 := by omega
  have hN2 : M + 1 + 1 < M + 1 + 2 := by omega
  refine awp_loopN (fun y : Nat × Int => y.1 ≤ p.length ∧ (y.1 ≤ q → y.2 = q)) (fun y => ([.any, U k, Sg s, .ptr 0 0 0, .any, .any, .any, .ptr 0 1 0, .ptr 0 (M + 1 + 1) 0, B true, I y.2, I ((y.1 : Int) - 1)] ++ List.replicate 105 .any)) (fun _ => (AObj.cells [.p (prog p)] 24 :: .cells [.p (prog p)] 24 :: (D ++ [AObj.cells (itRC x (a + 2) (b + 2)) 39])) :: S) (fun y => y.1) (fun _ => M + 1 + 2) (p.length, -1) ⟨Nat.le_refl _, fun h => absurd h (by simp only; omega)⟩ (fun y _ => Nat.le_of_eq hAl) ?_ ⟨wkL_selfs (hkA (M + 1) (Nat.le_refl _)), rfl⟩ ?_
  · simp
    try omega
  rintro ⟨m, r⟩ ⟨hm, hr⟩
  simp only at hm hr
  by_cases hm0 : 0 < m
  · obtain ⟨j, rfl⟩ : ∃ j, m = j + 1 := ⟨m - 1, by omega⟩
    have hjl : j < p.length := by omega
    have hwj : IntKind.i64.wrap ((j : Int) - 1) = (j : Int) - 1 := IntWalk.i64_in _ (by omega)
    have hlow' : j < q → hitF k s p[j] = false := hlow j hjl
    have hhit' : j = q → hitF k s p[j] = true := fun h => by subst h; rw [hx]; exact hit
    generalize he : p[j] = y at *
    unfold hitF at hlow' hhit'
    by_cases hk : y.kind = k
    · cases hs : sEq y.name s with
      | false =>
        have hjq : j ≠ q := fun h => by have := hhit' h; simp [hk, hs] at this
        simp [hjl, hwj, prog, he, It.enc, hk, hs, hN0, hN1, hN2, -trim, -wkT]
        exact ⟨j, r, ⟨by omega, fun h => hr (by omega)⟩, by omega, ⟨rfl, rfl⟩, hself⟩
      | true =>
        have hjq : ¬ j < q := fun h => by have := hlow' h; simp [hk, hs] at this
        simp [hjl, hwj, prog, he, It.enc, hk, hs, hN0, hN1, hN2, -trim, -wkT]
        exact ⟨j, j, ⟨by omega, fun h => by omega⟩, by omega, ⟨rfl, rfl⟩, hself⟩
    · have hk' : (y.kind == k) = false := by simpa using hk
      have hjq : j ≠ q := fun h => by have := hhit' h; simp [hk'] at this
      simp [hjl, hwj, prog, he, It.enc, hk', hN0, hN1, hN2, -trim, -wkT]
      exact ⟨j, r, ⟨by omega, fun h => hr (by omega)⟩, by omega, ⟨rfl, rfl⟩, hself⟩
  · obtain rfl : m = 0 := by omega
    have hr := hr (Nat.zero_le _)
    subst hr
    have hq0 : (0 : Int) ≤ (q : Int) := by omega
    simp [hDl, hq0, List.getElem?_append, -trim, -wkT]
    refine awp_drawO [10] [] [(6, 3), (9, 3), (10, 3)] (by kernel_rfl) (by kernel_rfl) ?_
    simp (maxSteps := 2000000) [ownL, ownO, ownR_get, hDl, itRC, prog, hq, hx, It.enc, List.getElem?_append, -trim, -wkT]
    refine ⟨_, _, lendSame (x := x) (a := a + 2) (b := b + 2) (t := 39) (E := 44) (E2 := 47) ?h ?ha ?hb, ?_⟩
    · simp [hDl, List.getElem?_append, itRC]
    · simp only [List.getElem?_cons_succ]
      rw [List.getElem?_append_left (by omega)]
      exact hDa
    · simp only [List.getElem?_cons_succ]
      rw [List.getElem?_append_left (by omega)]
      exact hDb
    simp (maxSteps := 2000000) [ownL, ownO, ownR_get, hDl, List.getElem?_append, -trim, -wkT]
    have hI0 : NmS x p (M + 4) (M + 1 + 1) (a + 2) (b + 2) (AObj.cells [.p (prog p)] 24 :: .cells [.p (prog p)] 24 :: (D ++ [AObj.cells (itRC x (a + 2) (b + 2)) 39, .dead])) := by
      refine ⟨by simp [hDl], ⟨by omega, by omega, by omega, by omega, by omega, by omega, by omega⟩, fun o ho => ?_, rfl, rfl, ?_, ⟨rowC Fi.enc x.fields, ?_, ?_, ?_⟩, ⟨rowC St.enc x.body, ?_, ?_, ?_⟩⟩
      · have : o ∈ (AObj.cells [.p (prog p)] 24 :: .cells [.p (prog p)] 24 :: (D ++ [AObj.cells (itRC x (a + 2) (b + 2)) 39])) ∨ o = .dead := by
          simp only [List.mem_cons, List.mem_append, List.not_mem_nil, or_false] at ho ⊢
          rcases ho with h | h | h | h | h
          · exact .inl (.inl h)
          · exact .inl (.inr (.inl h))
          · exact .inl (.inr (.inr (.inl h)))
          · exact .inl (.inr (.inr (.inr h)))
          · exact .inr h
        rcases this with h | rfl
        · exact hkA (M + 2) (by omega) o h
        · trivial
      · simp [hDl, List.getElem?_append]
      · simp only [List.getElem?_cons_succ]
        rw [List.getElem?_append_left (by omega)]
        exact hDa
      · exact rowC_len (enc := Fi.enc) (k := 4) (fun _ => rfl)
      · exact rowC_p
      · simp only [List.getElem?_cons_succ]
        rw [List.getElem?_append_left (by omega)]
        exact hDb
      · exact rowC_len (enc := St.enc) (k := 15) (fun s => by rw [stEnc]; rfl)
      · exact rowC_p
    generalize hAv : (AObj.cells [.p (prog p)] 24 :: .cells [.p (prog p)] 24 :: (D ++ [AObj.cells (itRC x (a + 2) (b + 2)) 39, .dead])) = Av0 at hI0
    refine awp_loopN (fun y : Nat × List AObj => y.1 ≤ x.fields.length ∧ NmS x p (M + 4) (M + 1 + 1) (a + 2) (b + 2) y.2) (fun y => ([.any, .any, .any, .ptr 0 0 0, .any, .any, .any, .ptr 0 1 0, .ptr 0 (M + 1 + 1) 0, .any, .any, .any, I y.1] ++ List.replicate 104 .any)) (fun y => y.2 :: S) (fun y => x.fields.length - y.1) (fun _ => M + 4) (0, Av0) ⟨Nat.zero_le _, hI0⟩ (fun _ _ => Nat.le_of_eq hI0.len) ?_ ?_ ?_
    · simp
      try omega
    · subst hAv
      exact ⟨wkL_cons (wkL_self (hkA (M + 1) (Nat.le_refl _) _ (List.mem_cons_self ..))) (wkL_cons (wkL_self (hkA (M + 1) (Nat.le_refl _) _ (List.mem_cons_of_mem _ (List.mem_cons_self ..)))) (wk_tail (A := D) (fun o ho => wkL_self (hkA (M + 1) (Nat.le_refl _) _ (List.mem_cons_of_mem _ (List.mem_cons_of_mem _ (List.mem_append_left _ ho))))) (wkL_cons (wkL_self (hkA (M + 1) (Nat.le_refl _) _ (List.mem_cons_of_mem _ (List.mem_cons_of_mem _ (List.mem_append_right _ (List.mem_singleton.2 rfl)))))) trivial))), rfl⟩
    clear hI0 hAv Av0
    rintro ⟨j, Av⟩ ⟨hj, hA⟩
    simp only at hj hA
    have h0 := hA.c0
    have h1 := hA.c1
    have hx := hA.cx
    have hAl := hA.len
    simp only [itRC] at hx
    obtain ⟨cs, hcs, hcl, hcp⟩ := hA.fa
    by_cases hjn : j < x.fields.length
    · have hjn' : (j : Int) < (x.fields.length : Int) := by omega
      have hw := wrap_succ hjn (by unfold maxLen; omega)
      have hb1 : j * 4 + 1 ≤ cs.length := by omega
      simp [h0, h1, hx, hcs, hjn, hjn', hw, hb1, -trim, -wkT]
      have hA' := hA.setA (cs := cs.set (j * 4) (.p (.v (Value.string ⟨#[115, 112, 111, 105, 108, 116]⟩)))) (by rw [List.length_set]; exact hcl) (set_p hcp)
      exact ⟨j + 1, _, ⟨hjn, hA'⟩, by omega, rfl, wkT_self hA'.len hA'.keep⟩
    · have hjn' : ¬ (j : Int) < (x.fields.length : Int) := by omega
      simp [h0, h1, hx, hcs, hjn, hjn', -trim, -wkT]
      refine awp_loopN (fun y : Nat × List AObj => y.1 ≤ x.body.length ∧ NmS x p (M + 4) (M + 1 + 1) (a + 2) (b + 2) y.2) (fun y => ([.any, .any, .any, .ptr 0 0 0, .any, .any, .any, .ptr 0 1 0, .ptr 0 (M + 1 + 1) 0, .any, .any, .any, .any, I y.1] ++ List.replicate 103 .any)) (fun y => y.2 :: S) (fun y => x.body.length - y.1) (fun _ => M + 4) (0, Av) ⟨Nat.zero_le _, hA⟩ (fun _ _ => Nat.le_of_eq hA.len) ?_ ⟨wkL_selfs hA.keep, rfl⟩ ?_
      · simp
        try omega
      clear hA hcs hcl hcp h0 h1 hx hAl Av cs hj hjn hjn' j
      rintro ⟨j, Av⟩ ⟨hj, hA⟩
      simp only at hj hA
      have h0 := hA.c0
      have h1 := hA.c1
      have hx := hA.cx
      have hAl := hA.len
      simp only [itRC] at hx
      obtain ⟨cs, hcs, hcl, hcp⟩ := hA.fb
      by_cases hjn : j < x.body.length
      · have hjn' : (j : Int) < (x.body.length : Int) := by omega
        have hw := wrap_succ hjn (by unfold maxLen; omega)
        have hb1 : j * 15 + 1 ≤ cs.length := by omega
        simp [h0, h1, hx, hcs, hjn, hjn', hw, hb1, -trim, -wkT]
        have hA' := hA.setB (cs := cs.set (j * 15) (.p (.v (Value.int .u8 99)))) (by rw [List.length_set]; exact hcl) (set_p hcp)
        exact ⟨j + 1, _, ⟨hjn, hA'⟩, by omega, rfl, wkT_self hA'.len hA'.keep⟩
      · have hjn' : ¬ (j : Int) < (x.body.length : Int) := by omega
        simp [h0, h1, hx, hcs, hjn, hjn', -trim, -wkT]
        refine ⟨_, _, sC _, ?_⟩
        simp
end Go.Proofs.Ytlfgjnnecglleaa
