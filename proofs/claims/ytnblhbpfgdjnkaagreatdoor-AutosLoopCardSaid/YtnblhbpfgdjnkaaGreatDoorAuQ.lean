/- weftwaylaw09.AutosLoop in the logic over abstract values. Its row is in a text of its own. -/
import Derived.Test.YtnblhbpfgdjnkaaGreatDoorAuF
import Derived.Test.YtnblhbpfgdjnkaaGreatDoorAuO
import Derived.Test.YtnblhbpfgdjnkaaGreatDoorAuS
import Derived.Test.YtnblhbpfgdjnkaaGreatDoorAlOw
import Derived.Test.YtnblhbpfgdjnkaaGreatDoorAlRem
namespace Go.Proofs.YtnblhbpfgdjnkaaGreatDoor
open Go.RowKit
attribute [local simp] List.replicate List.range List.range.loop resA resOne retA AV.cuts AV.cut AObj.cut trim wkR wkT wkL wkN wkNR wkNL wkM wkMR wkML virtL virtO virt_get markL markO markR_get rowA awpI_nil awpI_cons List.forall_mem_cons List.contains_cons List.contains_nil List.find? nextD_eq awpD_nil awpD_cons LCp LCl refL
set_option linter.unusedVariables false
set_option linter.unusedSimpArgs false
section
variable {ks : Nat → Int} {n a : Nat} {k : Int} {t : Nat} {A : List AObj}
theorem lendAs (hk : ∀ j, ks j = 5 ∨ ks j = 8) (hk2 : k = 6 ∨ k = 7) (hn : n ≤ 20) (h : StA ks n a k t A) (ht : t < 2) (i : Nat) {x y : Bool} (hx : answerF (chP (fsT ks n a k t) n) 2600 (namedT i) false = some x) (hy : answerF (chP (fsT ks n a k t) n) 2600 (namedT i) true = some y) (B2 : List AObj) (S : ASt) :
    ADet Tryz.prog 26 [.agg [.rsl 0 1 n 16], .agg [U 4, Sg (nmL i), nilA1], B x, B y] ((A ++ B2) :: S) (B true) ((A ++ B2) :: S) :=
  ADet.lend rfl (as09C _ (chP_sm hn _ (fsT_cases ks n a hk2 t)) _ (named_sm i) 2600 x y hx hy [[]])
    (.cons (LentA.agg (l := [(.rsl 0 1 n 16, prog (chP (fsT ks n a k t) n))]) fun c hc => by rw [List.mem_singleton.1 hc]; exact h.lent ht B2 S)
    (.cons (LentA.agg (l := [(U 4, .v (.int .u8 4)), (Sg (nmL i), .v (.string (nmL i))), (nilA1, .sl 3 [])]) fun c hc => by
      simp only [List.mem_cons, List.not_mem_nil, or_false] at hc
      rcases hc with rfl | rfl | rfl
      · exact .p _
      · exact .p _
      · exact .nil _)
    (.cons (.p (.p _)) (.cons (.p (.p _)) .nil))))
theorem lendSync (hk : ∀ j, ks j = 5 ∨ ks j = 8) (hk2 : k = 6 ∨ k = 7) (hn : n ≤ 20) (h : StA ks n a k t A) (ht : t < 2) (i : Nat) {y : Bool} (hy : answerF (chP (fsT ks n a k t) n) 2600 (namedT i) true = some y) (B2 : List AObj) (S : ASt) :
    ADet Tryz.prog 27 [.agg [.rsl 0 1 n 16], .agg [U 4, Sg (nmL i), nilA1]] ((A ++ B2) :: S) (B y) ((A ++ B2) :: S) :=
  ADet.lend rfl (syncC _ (chP_sm hn _ (fsT_cases ks n a hk2 t)) _ (named_sm i) 2600 y hy [[]])
    (.cons (LentA.agg (l := [(.rsl 0 1 n 16, prog (chP (fsT ks n a k t) n))]) fun c hc => by rw [List.mem_singleton.1 hc]; exact h.lent ht B2 S)
    (.cons (LentA.agg (l := [(U 4, .v (.int .u8 4)), (Sg (nmL i), .v (.string (nmL i))), (nilA1, .sl 3 [])]) fun c hc => by
      simp only [List.mem_cons, List.not_mem_nil, or_false] at hc
      rcases hc with rfl | rfl | rfl
      · exact .p _
      · exact .p _
      · exact .nil _) .nil))
end
set_option maxRecDepth 100000 in
set_option maxHeartbeats 32000000 in
theorem autosLoopC (l : List Int) (hl : ∀ k ∈ l, 0 ≤ k ∧ k ≤ 255) (hlen : l.length ≤ maxLen) (a : Int) (rc : Bool) (S : ASt) : ADet Tryz.prog 8 [.p (bys l), I a, B rc] S (B true) S := by
  refine ADet.intro mixed Tryz.call8 Tryz.func8 rfl ?_
  simp [Tryz.ntmps8]
  refine ⟨_, _, awake09C _, ?_⟩
  by_cases h1 : (l.length : Int) < 1
  · simp [bys, h1]
  by_cases h2 : (20 : Int) < (l.length : Int)
  · simp [bys, h1, h2]
  by_cases h3 : a < 0
  · simp [bys, h1, h2, h3]
  by_cases h4 : (l.length : Int) ≤ a
  · simp [bys, h1, h2, h3, h4]
  simp [bys, h1, h2, h3, h4]
  refine awp_loopR 54 16 (by decide) [.cells [.rsl 0 1 0 16] 24] (loopI l) (fun x => ([.p (bys l), I a, B rc, .any, .any, .any, .any, I l.length, .ptr 0 0 0, I x.1] ++ List.replicate 133 .any)) (loopG S) (fun x => l.length - x.1) (fun x => 2 + 5 * x.1) (0, []) ?_ ?_ ?_ ?_ ?_ ?_
  · exact ⟨Nat.zero_le _, rfl, fun o ho => by simp at ho, fun j hj => by omega⟩
  · intro x _
    simp [loopG, top]
  · simp [bys]
  · simp
  · rfl
  rintro ⟨i, ex⟩ ⟨hi, hexl, hcut, hrow⟩
  simp only at hi hexl hcut hrow
  by_cases hlt : i < l.length
  · have hlt' : (i : Int) < (l.length : Int) := by omega
    have hwr := wrap_succ hlt
    have hn20 : l.length ≤ 20 := by omega
    obtain ⟨m, hm, hmod⟩ : ∃ m, m = (i + 1) % l.length ∧ m < 20 := ⟨_, rfl, by have := Nat.mod_lt (i + 1) (show 0 < l.length by omega); omega⟩
    have ht : ((i : Int) + 1).tmod (l.length : Int) = (m : Int) := by rw [hm]; rfl
    have hw1 : IntKind.i64.wrap (97 + (m : Int)) = 97 + (m : Int) := IntWalk.i64_in _ (by omega)
    have hw2 : IntKind.u8.wrap (97 + (m : Int)) = 97 + (m : Int) := IntWalk.u8_in _ (by omega)
    have hb1 : (0 : Int) ≤ 97 + (m : Int) := by omega
    have hb2 : 97 + (m : Int) < 256 := by omega
    have hb3 : (97 + (m : Int)).toNat = 97 + m := by omega
    have hne : ¬ l = [] := fun h => by rw [h] at hlt; simp at hlt
    have hs1 : ∀ m : Nat, (⟨#[83]⟩ : ByteArray).size + (⟨#[97 + UInt8.ofNat m]⟩ : ByteArray).size ≤ maxLen := fun m => by show 1 + 1 ≤ maxLen; unfold maxLen; omega
    have hs2 : ∀ m : Nat, (⟨#[83]⟩ : ByteArray) ++ (⟨#[97 + UInt8.ofNat m]⟩ : ByteArray) = nmL m := fun m => by unfold nmL; rw [UInt8.ofNat_add]; rfl
    have hi32 : i ≤ 4294967295 := by omega
    have hx1 : IntKind.i64.wrap (97 + (i : Int)) = 97 + (i : Int) := IntWalk.i64_in _ (by omega)
    have hx2 : IntKind.u8.wrap (97 + (i : Int)) = 97 + (i : Int) := IntWalk.u8_in _ (by omega)
    have hx3 : (0 : Int) ≤ 97 + (i : Int) := by omega
    have hx4 : 97 + (i : Int) < 256 := by omega
    have hx5 : (97 + (i : Int)).toNat = 97 + i := by omega
    have hkr := hl _ (List.getElem_mem hlt)
    generalize hk : l[i] = k at *
    simp [loopG, bys, hlt, hlt', hwr, ht, hw1, hw2, hb1, hb2, hb3, hne, hexl, hs1, hs2]
    have hkq : (k.tmod 2 = 0 ∧ lk l i = 5) ∨ (k.tmod 2 = 1 ∧ lk l i = 8) := by
      have hg : l.getD i 0 = k := by rw [List.getD, List.getElem?_eq_getElem hlt, hk]; rfl
      have ht2 : k.tmod 2 = k % 2 := Int.tmod_eq_emod_of_nonneg hkr.1
      unfold lk
      rw [hg, ht2]
      rcases Int.emod_two_eq k with h | h
      · exact .inl ⟨h, by rw [if_pos h]⟩
      · exact .inr ⟨h, by rw [if_neg (by omega)]⟩
    have wC := fun S => ADet.sub (.cons (.refl _) (.cons (.agg (.cons (.refl _) (.cons (.refl _) (.cons (.p (.nil 3)) (.refl _))))) (.refl _))) (wrap09C (lk l i) (namedT m) S)
    have hM0 : 5 * (i + 1) = 5 * i + 5 := by omega
    have hsucc := itsC_succ i
    have hnew : chF (lk l) l.length i = ⟨(⟨#[97]⟩ : ByteArray), .mk (lk l i) emS [namedT m]⟩ := by unfold chF linkT; rw [← hm]
    generalize hM : 5 * i = M at *
    have hM1 : ∀ c, (M + c < M) = False := fun c => by simp
    rcases hkq with ⟨hq1, hq2⟩ | ⟨hq1, hq2⟩
    · rw [hq2] at wC
      refine awp_drawO [5] [19] [(1, 17), (1, 19), (1, 21), (4, 17), (4, 19), (5, 17), (5, 19), (6, 17), (6, 19)] (by kernel_rfl) (by kernel_rfl) ?_
      simp [ownL, ownO, bys, hlt, hlt', hwr, hw1, hw2, hb1, hb2, hb3, hne, hexl, hs1, hs2, hk, hq1, hx1, hx2, hx3, hx4, hx5, List.getElem?_append, hM1]
      refine ⟨_, _, wC _, ?_⟩
      simp [ownL, ownO, bys, hlt, hlt', hwr, hexl, hi32, List.getElem?_append, hM1, Ty.kind, Ty.name, Ty.args, namedT, -trim, -wkT]
      subst hM
      refine ⟨i + 1, ex ++ [.dead, .dead, .dead, .row 56 4 1 (fiC (chF (lk l) l.length i)), .dead], ⟨hlt, ?_, ?_, ?_⟩, by omega, by simp, ⟨wk_end rfl hexl rfl hcut ?_, rfl⟩⟩
      · simp [hexl]; omega
      · intro o ho m
        rcases List.mem_append.1 ho with h | h
        · exact hcut o h m
        · simp only [List.mem_cons, List.not_mem_nil, or_false] at h
          rcases h with rfl | rfl | rfl | rfl | rfl
          · exact trivial
          · exact trivial
          · exact trivial
          · rw [hnew]; simp [AObj.cut, wkL, AV.cuts, AV.cut, wkR, fiC, Fi.enc]
          · exact trivial
      · intro j hj
        simp only at hj ⊢
        rcases Nat.lt_or_ge j i with h | h
        · rw [List.getElem?_append_left (by omega)]
          exact hrow j h
        · obtain rfl : j = i := by omega
          rw [List.getElem?_append_right (by omega), hexl]
          simp
      · rw [hnew]; simp [AObj.cut, wkL, AV.cuts, AV.cut, wkR, fiC, Fi.enc, hq2, Ty.kind, Ty.name, Ty.args, namedT, tyEnc]
    · rw [hq2] at wC
      refine awp_drawO [5] [19] [(1, 17), (1, 19), (1, 21), (4, 17), (4, 19), (5, 17), (5, 19), (6, 17), (6, 19)] (by kernel_rfl) (by kernel_rfl) ?_
      simp [ownL, ownO, bys, hlt, hlt', hwr, hw1, hw2, hb1, hb2, hb3, hne, hexl, hs1, hs2, hk, hq1, hx1, hx2, hx3, hx4, hx5, List.getElem?_append, hM1]
      refine ⟨_, _, wC _, ?_⟩
      simp [ownL, ownO, bys, hlt, hlt', hwr, hexl, hi32, List.getElem?_append, hM1, Ty.kind, Ty.name, Ty.args, namedT, -trim, -wkT]
      subst hM
      refine ⟨i + 1, ex ++ [.dead, .dead, .dead, .row 56 4 1 (fiC (chF (lk l) l.length i)), .dead], ⟨hlt, ?_, ?_, ?_⟩, by omega, by simp, ⟨wk_end rfl hexl rfl hcut ?_, rfl⟩⟩
      · simp [hexl]; omega
      · intro o ho m
        rcases List.mem_append.1 ho with h | h
        · exact hcut o h m
        · simp only [List.mem_cons, List.not_mem_nil, or_false] at h
          rcases h with rfl | rfl | rfl | rfl | rfl
          · exact trivial
          · exact trivial
          · exact trivial
          · rw [hnew]; simp [AObj.cut, wkL, AV.cuts, AV.cut, wkR, fiC, Fi.enc]
          · exact trivial
      · intro j hj
        simp only at hj ⊢
        rcases Nat.lt_or_ge j i with h | h
        · rw [List.getElem?_append_left (by omega)]
          exact hrow j h
        · obtain rfl : j = i := by omega
          rw [List.getElem?_append_right (by omega), hexl]
          simp
      · rw [hnew]; simp [AObj.cut, wkL, AV.cuts, AV.cut, wkR, fiC, Fi.enc, hq2, Ty.kind, Ty.name, Ty.args, namedT, tyEnc]
  · have hin : i = l.length := by omega
    subst hin
    obtain ⟨A, rfl⟩ : ∃ A : Nat, a = (A : Int) := ⟨a.toNat, by omega⟩
    have hA : A < l.length := by omega
    have hn20 : l.length ≤ 20 := by omega
    have hst0 : ∀ k, StA (lk l) l.length A k 0 _ := fun k => StA.start k hexl hcut hrow
    have hk2 : (if rc = true then (7 : Int) else 6) = 6 ∨ (if rc = true then (7 : Int) else 6) = 7 := by split <;> simp
    generalize hkk : (if rc = true then (7 : Int) else 6) = k at *
    simp [loopG]
    generalize hN : l.length = n at *
    generalize hA0 : (AObj.cells [.rsl 0 1 n 16] 24 :: .row 54 16 n (itsC n) :: ex) = A0 at *
    refine awp_loopN (fun x : Nat × List AObj => x.1 ≤ 2 ∧ x.2.length = 2 + 5 * n ∧ (x.1 < 2 → StA (lk l) n A k x.1 x.2)) (fun x => ([.any, I A, B rc, .any, .any, .any, .any, I n, .ptr 0 0 0, .any, .any, .any, I x.1] ++ List.replicate 130 .any)) (fun x => x.2 :: S) (fun x => 2 - x.1) (fun _ => 2 + 5 * n) (0, A0) ⟨by omega, (hst0 k).len, fun _ => hst0 k⟩ (fun x _ => Nat.le_of_eq (hst0 k).len) ?_ ⟨wkL_selfs (hst0 k).keep, rfl⟩ ?_
    · simp
    rintro ⟨t, Av⟩ ⟨ht, hAl, hSt⟩
    simp only at ht hAl hSt
    by_cases ht2 : t < 2
    · have ht2' : (t : Int) < 2 := by omega
      have st := hSt ht2
      simp [ht2, ht2']
      refine awp_loopN (fun j : Nat => j ≤ n) (fun j => ([.any, I A, B rc, .any, .any, .any, .any, I n, .ptr 0 0 0, .any, .any, .any, I t, I j] ++ List.replicate 129 .any)) (fun _ => Av :: S) (fun j => n - j) (fun _ => 2 + 5 * n) 0 (Nat.zero_le _) (fun x _ => Nat.le_of_eq hAl) ?_ ⟨wkL_selfs st.keep, rfl⟩ ?_
      · simp
      intro j hj
      by_cases hjn : j < n
      · have hjn' : (j : Int) < (n : Int) := by omega
        have hjr := wrap_succ hjn
        have hA0g : ∀ h : 0 < Av.length, Av[0]'h = _ := fun h => Option.some.inj ((List.getElem?_eq_getElem h).symm.trans st.c0)
        have hA1g : ∀ h : 1 < Av.length, Av[1]'h = _ := fun h => Option.some.inj ((List.getElem?_eq_getElem h).symm.trans st.c1)
        have hg1 : (itsT t n A)[j * 16 + 1]? = some (Sg (nmL j)) := by rw [Nat.mul_comm, itsT_get t n A hjn (by omega)]; rfl
        have hkeep : ∀ B2, wkT (trim (2 + 5 * n) ((Av ++ B2) :: S)) (Av :: S) := fun B2 => by
          have := wk_keep (A := Av) (B := B2) (by rw [hAl]; exact st.keep)
          rw [hAl] at this
          exact ⟨this, rfl⟩
        have hN0 : 0 < 2 + 5 * n := by omega
        have hN1 : 1 < 2 + 5 * n := by omega
        have hks := lk_or l
        rcases (by omega : t = 0 ∨ t = 1) with rfl | rfl
        · have aC := fun B2 => lendAs hks hk2 hn20 st (by omega) j (x := true) (y := true) (loop_yes hks hn20 hjn false) (loop_yes hks hn20 hjn true) B2 S
          simp [hjn, hjn', hjr, hA0g, hA1g, hg1, hAl, List.getElem?_append, hN0, hN1, -trim, -wkT]
          refine ⟨_, _, aC _, ?_⟩
          simp [hjn, hjn', hjr, hA0g, hA1g, hg1, hAl, List.getElem?_append, hN0, hN1, -trim, -wkT]
          exact ⟨j + 1, hjn, by omega, by simp, hkeep _⟩
        · cases rc with
          | true =>
            have hk7 : k = 7 := hkk.symm
            have aC := fun B2 => lendAs hks hk2 hn20 st (by omega) j (x := false) (y := false) (loop_no hks hk2 hn20 hA (by rw [hk7]; rfl) hjn) (loop_no hks hk2 hn20 hA (by rw [hk7]; rfl) hjn) B2 S
            simp [hjn, hjn', hjr, hA0g, hA1g, hg1, hAl, List.getElem?_append, hN0, hN1, -trim, -wkT]
            refine ⟨_, _, aC _, ?_⟩
            simp [hjn, hjn', hjr, hA0g, hA1g, hg1, hAl, List.getElem?_append, hN0, hN1, -trim, -wkT]
            exact ⟨j + 1, hjn, by omega, by simp, hkeep _⟩
          | false =>
            have hk6 : k = 6 := hkk.symm
            have yC := fun B2 => lendSync hks hk2 hn20 st (by omega) j (y := false) (loop_no hks hk2 hn20 hA (by rw [hk6]; rfl) hjn) B2 S
            simp [hjn, hjn', hjr, hA0g, hA1g, hg1, hAl, List.getElem?_append, hN0, hN1, -trim, -wkT]
            refine ⟨_, _, yC _, ?_⟩
            simp [hjn, hjn', hjr, hA0g, hA1g, hg1, hAl, List.getElem?_append, hN0, hN1, -trim, -wkT]
            exact ⟨j + 1, hjn, by omega, by simp, hkeep _⟩
      · have hjn' : ¬ (j : Int) < (n : Int) := by omega
        have hA0g : ∀ h : 0 < Av.length, Av[0]'h = _ := fun h => Option.some.inj ((List.getElem?_eq_getElem h).symm.trans st.c0)
        have hA1g : ∀ h : 1 < Av.length, Av[1]'h = _ := fun h => Option.some.inj ((List.getElem?_eq_getElem h).symm.trans st.c1)
        have hAfg : ∀ h : 5 * A + 5 < Av.length, Av[5 * A + 5]'h = _ := fun h => Option.some.inj ((List.getElem?_eq_getElem h).symm.trans (st.fi A hA))
        have hcA : cntT t A A = t + 1 := by unfold cntT; rw [if_pos rfl]
        rw [hcA] at hAfg
        have hg2 : (itsT t n A)[A * 16 + 2]? = some (.rsl 0 (5 * A + 5) (t + 1) 4) := by rw [Nat.mul_comm, itsT_get t n A hA (by omega), hcA]; rfl
        have hN0 : 0 < 2 + 5 * n := by omega
        have hN1 : 1 < 2 + 5 * n := by omega
        have hN5 : 5 * A + 5 < 2 + 5 * n := by omega
        have hA' : (A : Int) < (n : Int) := by omega
        have htr := wrap_succ ht2 (by unfold maxLen; omega)
        have ht32 : t + 1 + 1 ≤ 4294967296 := by omega
        have hsl := itsT_len t n A
        have hoff : A * 16 + 2 + 1 ≤ 16 * n := by omega
        have wC := fun S => ADet.sub (.cons (.refl _) (.cons (.agg (.cons (.refl _) (.cons (.refl _) (.cons (.p (.nil 3)) (.refl _))))) (.refl _))) (wrap09C k (.mk 1 emS []) S)
        cases rc with
        | true =>
          have hk7 : k = 7 := hkk.symm
          rw [hk7] at wC
          simp [hjn, hjn', -trim, -wkT]
          refine awp_drawO [13] [] [(1, 11), (1, 14), (4, 11), (8, 11)] (by kernel_rfl) (by kernel_rfl) ?_
          simp [ownL, ownO, hA0g, hA1g, hAfg, hg2, hAl, hN0, hN1, hN5, hA', List.getElem?_append, -trim, -wkT]
          refine ⟨_, _, wC _, ?_⟩
          simp [ownL, ownO, hA0g, hA1g, hAfg, hg2, hAl, hN0, hN1, hN5, hA', ht32, hsl, hoff, htr, List.getElem?_append, List.getElem?_set, Ty.kind, Ty.name, Ty.args, -trim, -wkT]
          subst hk7
          rcases (by omega : t = 0 ∨ t = 1) with rfl | rfl
          · have st1 := st.next hA
            have e := itsT_set (t := 0) hA
            rw [Nat.mul_comm 16 A] at e
            exact ⟨1, _, ⟨by omega, st1.len, fun _ => st1⟩, by omega, by simp, wkT_eq (congrArg (fun z => (Av.set (5 * A + 5) (.row 56 4 2 (fiCs (fsT (lk l) n A 7 0 A) ++ fiC (moreF 7)))).set 1 (.row 54 16 n z)) e) st1.len st1.keep⟩
          · exact ⟨2, List.replicate (2 + 5 * n) .dead, ⟨by omega, by simp, fun h => absurd h (by omega)⟩, by omega, by simp, wkT_dead (by simp [hAl])⟩
        | false =>
          have hk6 : k = 6 := hkk.symm
          rw [hk6] at wC
          simp [hjn, hjn', -trim, -wkT]
          refine awp_drawO [13] [] [(1, 11), (1, 14), (4, 11), (8, 11)] (by kernel_rfl) (by kernel_rfl) ?_
          simp [ownL, ownO, hA0g, hA1g, hAfg, hg2, hAl, hN0, hN1, hN5, hA', List.getElem?_append, -trim, -wkT]
          refine ⟨_, _, wC _, ?_⟩
          simp [ownL, ownO, hA0g, hA1g, hAfg, hg2, hAl, hN0, hN1, hN5, hA', ht32, hsl, hoff, htr, List.getElem?_append, List.getElem?_set, Ty.kind, Ty.name, Ty.args, -trim, -wkT]
          subst hk6
          rcases (by omega : t = 0 ∨ t = 1) with rfl | rfl
          · have st1 := st.next hA
            have e := itsT_set (t := 0) hA
            rw [Nat.mul_comm 16 A] at e
            exact ⟨1, _, ⟨by omega, st1.len, fun _ => st1⟩, by omega, by simp, wkT_eq (congrArg (fun z => (Av.set (5 * A + 5) (.row 56 4 2 (fiCs (fsT (lk l) n A 6 0 A) ++ fiC (moreF 6)))).set 1 (.row 54 16 n z)) e) st1.len st1.keep⟩
          · exact ⟨2, List.replicate (2 + 5 * n) .dead, ⟨by omega, by simp, fun h => absurd h (by omega)⟩, by omega, by simp, wkT_dead (by simp [hAl])⟩
    · have ht2' : ¬ (t : Int) < 2 := by omega
      simp [ht2']
end Go.Proofs.YtnblhbpfgdjnkaaGreatDoor
