/- 2 texts of this proof, one behind the other: CWhV CWhI. The statement is proved in the claim's last text. -/
import Derived.Test.YtlnoacoanfhdcaaGreatDoorMUa
import Derived.Test.YtlnoacoanfhdcaaGreatDoorMUb
import Derived.Test.YtlnoacoanfhdcaaGreatDoorMUc
namespace Go.Proofs.YtlnoacoanfhdcaaGreatDoor
open Go.RowKit
attribute [local simp] List.replicate List.range List.range.loop resA resOne retA
set_option linter.unusedVariables false
set_option linter.unusedSimpArgs false

/-- the kinds of statements, by what they have: a type, a place, a body, another one, arms -/
theorem fm_cls (op : Int) (h : fmOk op = true) : (fmTyped op = true ∧ fmPlaced op = false ∧ fmBody op = false ∧ fmElse op = false ∧ fmArms op = false) ∨ (fmTyped op = false ∧ fmPlaced op = true ∧ fmBody op = false ∧ fmElse op = false ∧ fmArms op = false) ∨
    (fmTyped op = false ∧ fmPlaced op = true ∧ fmBody op = true ∧ fmElse op = false ∧ fmArms op = false) ∨ (fmTyped op = false ∧ fmPlaced op = false ∧ fmBody op = true ∧ fmElse op = true ∧ fmArms op = false) ∨
    (fmTyped op = false ∧ fmPlaced op = false ∧ fmBody op = false ∧ fmElse op = false ∧ fmArms op = true) ∨ (fmTyped op = false ∧ fmPlaced op = false ∧ fmBody op = true ∧ fmElse op = false ∧ fmArms op = false) ∨
    (fmTyped op = false ∧ fmPlaced op = false ∧ fmBody op = false ∧ fmElse op = false ∧ fmArms op = false) := by
  unfold fmOk at h
  simp only [Bool.and_eq_true, decide_eq_true_eq] at h
  have hop : op = 1 ∨ op = 2 ∨ op = 3 ∨ op = 4 ∨ op = 5 ∨ op = 6 ∨ op = 7 ∨ op = 8 ∨ op = 9 ∨ op = 10 ∨ op = 11 ∨ op = 12 ∨ op = 13 := by omega
  rcases hop with rfl | rfl | rfl | rfl | rfl | rfl | rfl | rfl | rfl | rfl | rfl | rfl | rfl <;> decide
set_option maxRecDepth 100000 in
set_option maxHeartbeats 1000000 in
theorem wholeStmt0 (s : St) (d : Int) (S : ASt) (h : ¬ 1 ≤ d ∨ fmOk s.op = false) : ADet Tryz.prog 64 [stmV s, I d] S (B (s.whole d)) S := by
  have e : s.whole d = false := by
    rw [stWhole_eq]
    rcases h with h | h <;> simp [stHead, h]
  rw [e]
  refine ADet.intro mixed Tryz.call64 Tryz.func64 rfl ?_
  simp [Tryz.ntmps64]
  refine ⟨_, _, formOfC s _, ?_⟩
  by_cases h0 : d < 1
  · simp [h0, fmV]
  · have ho : fmOk s.op = false := h.resolve_left (by omega)
    simp [h0, ho, fmV]
theorem wholeStC : ∀ (s : St), StSm s → WSC s := by
  refine St.ind fun s ih1 ih2 ih3 hsm d S hd1 hd2 => ?_
  have hsm' := hsm
  obtain ⟨_, _, _, _, _, _, _, _, _, _, hbs, hes, has, hab⟩ := hsm'
  have i1 : ∀ x ∈ s.body, WSC x := fun x hx => ih1 x hx (hbs x hx)
  have i2 : ∀ x ∈ s.els, WSC x := fun x hx => ih2 x hx (hes x hx)
  have i3 : ∀ a ∈ s.arms, ∀ x ∈ a.body, WSC x := fun a ha x hx => ih3 a ha x hx (hab a ha x hx)
  by_cases h0 : 1 ≤ d
  · cases ho : fmOk s.op with
    | false => exact wholeStmt0 s d S (.inr ho)
    | true =>
      rcases fm_cls s.op ho with ⟨a, b, c, e, f⟩ | ⟨a, b, c, e, f⟩ | ⟨a, b, c, e, f⟩ | ⟨a, b, c, e, f⟩ | ⟨a, b, c, e, f⟩ | ⟨a, b, c, e, f⟩ | ⟨a, b, c, e, f⟩
      · exact wholeStmtA s hsm i1 i2 i3 d S hd1 hd2 h0 ho a b c e f
      · exact wholeStmtB s hsm i1 i2 i3 d S hd1 hd2 h0 ho a b c e f
      · exact wholeStmtC s hsm i1 i2 i3 d S hd1 hd2 h0 ho a b c e f
      · exact wholeStmtD s hsm i1 i2 i3 d S hd1 hd2 h0 ho a b c e f
      · exact wholeStmtE s hsm i1 i2 i3 d S hd1 hd2 h0 ho a b c e f
      · exact wholeStmtF s hsm i1 i2 i3 d S hd1 hd2 h0 ho a b c e f
      · exact wholeStmtG s hsm i1 i2 i3 d S hd1 hd2 h0 ho a b c e f
  · exact wholeStmt0 s d S (.inl h0)
end Go.Proofs.YtlnoacoanfhdcaaGreatDoor

namespace Go.Proofs.YtlnoacoanfhdcaaGreatDoor
open Go.RowKit
attribute [local simp] List.replicate List.range List.range.loop resA resOne retA AV.cuts AV.cut AObj.cut trim wkR wkT wkL wkN wkNR wkNL wkM wkMR wkML
set_option linter.unusedVariables false
set_option linter.unusedSimpArgs false

/-! ### The zero expression -/
/-- where a list is asked that is empty, none may be handed -/
theorem ADet.nilP {P : Program} {F : FuncId} {as1 as2 : List AV} {k : Nat} {S S' : ASt} {r : AV} (h : ADet P F (as1 ++ .p (.sl k []) :: as2) S r S') : ADet P F (as1 ++ nilS :: as2) S r S' := by
  refine ⟨h.1, fun Pr φ xs w hargs hR hne => h.2 Pr φ xs w ⟨by rw [← hargs.1]; simp, fun j c x hc hx => ?_⟩ hR hne⟩
  rcases Nat.lt_trichotomy j as1.length with hj | hj | hj
  · rw [List.getElem?_append_left hj] at hc
    exact hargs.2 j c x (by rw [List.getElem?_append_left hj]; exact hc) hx
  · subst hj
    rw [List.getElem?_append_right (Nat.le_refl _), Nat.sub_self] at hc
    cases hc
    have h0 := hargs.2 as1.length nilS x (by simp) hx
    cases h0 with
    | p h0 =>
      cases h0 with
      | v _ => exact .p (.slemp k none 0 (Nat.zero_le _))
  · have hj' : as1.length ≤ j := by omega
    obtain ⟨k', hk⟩ : ∃ k', j - as1.length = k' + 1 := ⟨j - as1.length - 1, by omega⟩
    rw [List.getElem?_append_right hj', hk] at hc
    exact hargs.2 j c x (by rw [List.getElem?_append_right hj', hk]; exact hc) hx
set_option maxRecDepth 100000 in
set_option maxHeartbeats 1000000 in
theorem eqNames1 (l : List ByteArray) (S : ASt) : ADet Tryz.prog 109 [.p (strs l), .p (.sl 1 [])] S (B (decide (l.length = 0))) S := by
  refine ADet.intro mixed Tryz.call109 Tryz.func109 rfl ?_
  rcases l with _ | ⟨s, l⟩
  · simp [Tryz.ntmps109, strs]
    refine awp_loop (fun q : Nat => q = 0) (fun q => (List.replicate 12 .any ++ ([I 0, I 0] ++ List.replicate 12 .any))) (fun q => [] :: S) (fun q => 0) 0 rfl ?_ ?_ ?_
    · simp
    · simp
    rintro q rfl
    simp
  · have h1 : ((l.length : Int) + 1 != 0) = true := by simp; omega
    simp [Tryz.ntmps109, strs, h1]
theorem eqNames0 (l : List ByteArray) (S : ASt) : ADet Tryz.prog 109 [.p (strs l), nilS] S (B (decide (l.length = 0))) S :=
  ADet.nilP (as1 := [.p (strs l)]) (as2 := []) (eqNames1 l S)
set_option maxRecDepth 100000 in
set_option maxHeartbeats 1000000 in
theorem eqExprs1 (l : List Ex) (S : ASt) : ADet Tryz.prog 67 [.p (.sl 8 (l.map Ex.enc)), .p (.sl 8 []), .fn (.func 29) [] []] S (B (decide (l.length = 0))) S := by
  refine ADet.intro mixed Tryz.call67 Tryz.func67 rfl ?_
  rcases l with _ | ⟨s, l⟩
  · simp [Tryz.ntmps67]
    refine awp_loop (fun q : Nat => q = 0) (fun q => (List.replicate 16 .any ++ ([I 0, I 0] ++ List.replicate 14 .any))) (fun q => [] :: S) (fun q => 0) 0 rfl ?_ ?_ ?_
    · simp
    · simp
    rintro q rfl
    simp
  · have h1 : ((l.length : Int) + 1 != 0) = true := by simp; omega
    simp [Tryz.ntmps67, h1]
theorem eqExprs0 (l : List Ex) (S : ASt) : ADet Tryz.prog 67 [.p (.sl 8 (l.map Ex.enc)), nilS, .fn (.func 29) [] []] S (B (decide (l.length = 0))) S :=
  ADet.nilP (as1 := [.p (.sl 8 (l.map Ex.enc))]) (as2 := [.fn (.func 29) [] []]) (eqExprs1 l S)
set_option maxRecDepth 100000 in
set_option maxHeartbeats 1000000 in
theorem samePlace0 (x : Pl) (S : ASt) : ADet Tryz.prog 66 [plV x, .agg [Sg emS, nilS]] S (B (sEq x.name emS && decide (x.path.length = 0))) S := by
  refine ADet.intro mixed Tryz.call66 Tryz.func66 rfl ?_
  cases hs : sEq x.name emS with
  | false => simp [Tryz.ntmps66, hs]
  | true =>
    simp [Tryz.ntmps66, hs]
    refine ⟨_, _, eqNames0 x.path _, ?_⟩
    simp
set_option maxRecDepth 100000 in
set_option maxHeartbeats 2000000 in
theorem sameZero (e : Ex) (S : ASt) : ADet Tryz.prog 29 [exV e, .agg [U 0, I 0, Sg emS, Sg emS, Sg emS, nilS, nilS, I 0]] S (B (zeroExB e)) S := by
  have hS := fun S => samePlace0 e.place S
  have hR : zeroExB e = ((e.op == 0) && ((e.int == 0) && (sEq e.name emS && (sEq e.second emS && ((sEq e.place.name emS && decide (e.place.path.length = 0)) && decide (e.args.length = 0)))))) := rfl
  generalize zeroExB e = R at *
  generalize (sEq e.place.name emS && decide (e.place.path.length = 0)) = b5 at *
  refine ADet.intro mixed Tryz.call29 Tryz.func29 rfl ?_
  rcases (Bool.eq_false_or_eq_true (e.op == 0)).symm with h1 | h1
  · have e0 : R = false := by rw [hR, h1]; rfl
    simp [Tryz.ntmps29, h1, e0]
  rcases (Bool.eq_false_or_eq_true (e.int == 0)).symm with h2 | h2
  · have e0 : R = false := by rw [hR, h1, h2]; rfl
    simp [Tryz.ntmps29, h1, h2, e0]
  rcases (Bool.eq_false_or_eq_true (sEq e.name emS)).symm with h3 | h3
  · have e0 : R = false := by rw [hR, h1, h2, h3]; rfl
    simp [Tryz.ntmps29, h1, h2, h3, e0]
  rcases (Bool.eq_false_or_eq_true (sEq e.second emS)).symm with h4 | h4
  · have e0 : R = false := by rw [hR, h1, h2, h3, h4]; rfl
    simp [Tryz.ntmps29, h1, h2, h3, h4, e0]
  rw [h1, h2, h3, h4, Bool.true_and, Bool.true_and, Bool.true_and, Bool.true_and] at hR
  simp [Tryz.ntmps29, h1, h2, h3, h4]
  refine ⟨_, _, hS _, ?_⟩
  cases b5 with
  | false =>
    have e0 : R = false := by rw [hR, Bool.false_and]
    simp [e0]
  | true =>
    rw [Bool.true_and] at hR
    rw [hR]
    simp
    refine ⟨_, _, eqExprs0 e.args _, ?_⟩
    simp

/-! ### Fields -/
def nfK (k : Int) : Nat := if k = 2 then 58 else 59
theorem nfC (k : Int) (s : ByteArray) (h : s.size ≤ 20000) (S : ASt) : ADet Tryz.prog (nfK k) [Sg s] S (B (if k = 2 then typeB s else nameB s)) S := by
  unfold nfK
  split
  · exact typeC1 s (sm_max h) S
  · exact nameC1 s (sm_max h) S
set_option maxRecDepth 100000 in
set_option maxHeartbeats 2000000 in
theorem wholeItem11C (k : Int) (f : Fi) (hf : FiSm f) (d : Int) (h0 : -1 ≤ d - 1) (h1 : d ≤ 1000) (S : ASt) (n i1 i2 m j : Nat) (k1 : get2 S n i1 = some (.cells [.fn (.func (nfK k)) [] []] 97)) (k2 : get2 S n i2 = some (.cells [B (k == 2)] 4)) (k3 : get2 S m j = some (.cells [I d] 3)) :
    ADet Tryz.prog 55 [fiV f, .ptr n i1 0, .ptr n i2 0, .ptr m j 0] S (B (fieldB k d f)) S := by
  have g1 := fun S => nfC k f.name hf.1 S
  have g2 := fun S => zeroTyC f.type S
  have g3 := fun S => wholeTypeC f.type hf.2 (d - 1) S (by omega) (by omega)
  unfold fieldB
  generalize (if k = 2 then typeB f.name else nameB f.name) = b1 at *
  generalize (k == 2) = b2 at *
  refine ADet.intro mixed Tryz.call55 Tryz.func55 rfl ?_
  simp [Tryz.ntmps55, k1]
  refine ⟨_, _, g1 _, ?_⟩
  cases b1 with
  | false => simp [k2]
  | true =>
    cases b2 with
    | false =>
      simp [k2, k3, wrd d (by omega)]
      refine ⟨_, _, g3 _, ?_⟩
      simp
    | true =>
      simp [k2]
      refine ⟨_, _, g2 _, ?_⟩
      cases hz : zeroTyB f.type with
      | true => simp
      | false =>
        simp [k3, wrd d (by omega)]
        refine ⟨_, _, g3 _, ?_⟩
        simp
set_option maxRecDepth 100000 in
set_option maxHeartbeats 2000000 in
theorem wholeItem1C (k : Int) (x : It) (hf : FisSm x.fields) (d : Int) (h0 : -1 ≤ d - 1) (h1 : d ≤ 1000) (S : ASt) (n i j : Nat) (hi : get2 S n i = some (.cells (itU x) 42)) (hj : get2 S n j = some (.cells [I d] 3)) :
    ADet Tryz.prog 53 [.fn (.func (nfK k)) [] [], B (k == 2), .ptr n i 0, .ptr n j 0] S (B (allUp (fieldB k d) x.fields 6)) S := by
  have hal := all_Field (fieldB k d) x.fields 6 (by omega) 55 [] [.ptr 0 0 0, .ptr 0 1 0, .ptr (n + 1) j 0] ([.cells [.fn (.func (nfK k)) [] []] 97, .cells [B (k == 2)] 4] :: S) fun f hm L => by
    simp only [AV.ups, AV.up, List.nil_append]
    exact wholeItem11C k f (hf.2 f hm) d h0 h1 _ 1 0 1 (n + 2) j rfl rfl hj
  generalize (k == 2) = b2 at *
  refine ADet.intro mixed Tryz.call53 Tryz.func53 rfl ?_
  simp [Tryz.ntmps53, hi]
  refine ⟨_, _, hal, ?_⟩
  simp
set_option maxRecDepth 100000 in
set_option maxHeartbeats 1000000 in
theorem wholeItem2C (x : St) (hx : WSC x) (d : Int) (h0 : -1 ≤ d - 1) (h1 : d ≤ 1000) (S : ASt) (n j : Nat) (hj : get2 S n j = some (.cells [I d] 3)) : ADet Tryz.prog 63 [stmV x, .ptr n j 0] S (B (x.whole (d - 1))) S := by
  refine ADet.intro mixed Tryz.call63 Tryz.func63 rfl ?_
  simp [Tryz.ntmps63, hj, wrd d (by omega)]
  refine ⟨_, _, hx (d - 1) _ (by omega) (by omega), ?_⟩
  simp
theorem allStmts2 (l : List St) (hx : ∀ x ∈ l, WSC x) (hm : l.length ≤ 20000) (d : Int) (h0 : -1 ≤ d - 1) (h1 : d ≤ 1000) (S : ASt) (n j : Nat) (hj : get2 S n j = some (.cells [I d] 3)) :
    ADet Tryz.prog 62 [.p (.sl 15 (l.map St.enc)), I l.length, .fn (.func 63) [] [.ptr n j 0]] S (B (l.all fun x => x.whole (d - 1))) S := by
  have := all_Stmt (fun x => x.whole (d - 1)) l l.length (by omega) 63 [] [.ptr n j 0] S fun x hm L => by
    simp only [AV.ups, AV.up, List.nil_append]
    exact wholeItem2C x (hx x hm) d h0 h1 (L :: S) (n + 1) j hj
  rw [allUp_all (Int.le_refl _)] at this
  exact this
def WIC (x : It) : Prop := ∀ (d : Int) (S : ASt), 0 ≤ d → d ≤ 1000 → ADet Tryz.prog 25 [itV x, I d] S (B (x.whole d)) S
set_option maxRecDepth 100000 in
set_option maxHeartbeats 16000000 in
theorem wholeItemK1 (x : It) (hsm : ItSm x) (hk : x.kind = 1) : WIC x := by
  intro d S hd1 hd2
  obtain ⟨hn, hfs, hty, hbs, hex⟩ := hsm
  have gZ := fun S => zeroTyC x.result S
  have gS := fun S => sameZero x.ret S
  have gY := fun S => typeC1 x.name (sm_max hn) S
  have gN := fun S => nameC1 x.name (sm_max hn) S
  have gT := fun S => wholeTypeC x.result hty (d - 1) S (by omega) (by omega)
  have gL := fun S => lentC x.ret S
  have gE := fun S => wholeExprC x.ret hex (d - 1) S (by omega) (by omega)
  have gB := fun S h => allStmts2 x.body (fun s hs => wholeStC s (hbs.2 s hs)) hbs.1 d (by omega) hd2 S 0 1 h
  have gF := fun S h1 h2 => wholeItem1C 1 x hfs d (by omega) hd2 S 0 0 1 h1 h2
  have T : ∀ m : Int, (x.kind == m) = ((1 : Int) == m) := fun m => by rw [hk]
  have hw : x.whole d = ((zeroTyB x.result && (decide (x.body.length = 0) && (zeroExB x.ret && typeB x.name))) && allUp (fieldB 1 d) x.fields 6) := by
    unfold It.whole; rw [if_pos (by omega), hk]
  refine ADet.intro mixed Tryz.call25 Tryz.func25 rfl ?_
  simp [Tryz.ntmps25]
  refine ⟨_, _, gZ _, ?_⟩
  cases hz : zeroTyB x.result with
  | false =>
    simp only [hz, Bool.false_and] at hw
    simp [T, hz, hw]
  | true =>
    by_cases hbl : x.body.length = 0
    · have hbz : (x.body.length = 0) = True := eq_true hbl
      simp [hz, hbz]
      refine ⟨_, _, gS _, ?_⟩
      cases hs : zeroExB x.ret with
      | false =>
        simp only [hz, hs, Bool.false_and, Bool.and_false] at hw
        simp [T, hs, hw]
      | true =>
        simp
        refine ⟨_, _, gY _, ?_⟩
        cases hy : typeB x.name with
        | false =>
          simp only [hz, hs, hy, Bool.false_and, Bool.and_false] at hw
          simp [T, hy, hw]
        | true =>
          simp only [hz, hbl, hs, hy, decide_true, Bool.true_and] at hw
          simp [T, hy]
          refine ⟨_, _, gF _ rfl rfl, ?_⟩
          simp [hw]
    · have hbz : (x.body.length = 0) = False := eq_false hbl
      simp only [hz, hbl, decide_false, Bool.false_and, Bool.and_false] at hw
      simp [T, hz, hbz, hw]
set_option maxRecDepth 100000 in
set_option maxHeartbeats 16000000 in
theorem wholeItemK2 (x : It) (hsm : ItSm x) (hk : x.kind = 2) : WIC x := by
  intro d S hd1 hd2
  obtain ⟨hn, hfs, hty, hbs, hex⟩ := hsm
  have gZ := fun S => zeroTyC x.result S
  have gS := fun S => sameZero x.ret S
  have gY := fun S => typeC1 x.name (sm_max hn) S
  have gN := fun S => nameC1 x.name (sm_max hn) S
  have gT := fun S => wholeTypeC x.result hty (d - 1) S (by omega) (by omega)
  have gL := fun S => lentC x.ret S
  have gE := fun S => wholeExprC x.ret hex (d - 1) S (by omega) (by omega)
  have gB := fun S h => allStmts2 x.body (fun s hs => wholeStC s (hbs.2 s hs)) hbs.1 d (by omega) hd2 S 0 1 h
  have gF := fun S h1 h2 => wholeItem1C 2 x hfs d (by omega) hd2 S 0 0 1 h1 h2
  have T : ∀ m : Int, (x.kind == m) = ((2 : Int) == m) := fun m => by rw [hk]
  have hw : x.whole d = ((zeroTyB x.result && (decide (x.body.length = 0) && (zeroExB x.ret && typeB x.name))) && allUp (fieldB 2 d) x.fields 6) := by
    unfold It.whole; rw [if_pos (by omega), hk]
  refine ADet.intro mixed Tryz.call25 Tryz.func25 rfl ?_
  simp [Tryz.ntmps25]
  refine ⟨_, _, gZ _, ?_⟩
  cases hz : zeroTyB x.result with
  | false =>
    simp only [hz, Bool.false_and] at hw
    simp [T, hz, hw]
  | true =>
    by_cases hbl : x.body.length = 0
    · have hbz : (x.body.length = 0) = True := eq_true hbl
      simp [hz, hbz]
      refine ⟨_, _, gS _, ?_⟩
      cases hs : zeroExB x.ret with
      | false =>
        simp only [hz, hs, Bool.false_and, Bool.and_false] at hw
        simp [T, hs, hw]
      | true =>
        simp
        refine ⟨_, _, gY _, ?_⟩
        cases hy : typeB x.name with
        | false =>
          simp only [hz, hs, hy, Bool.false_and, Bool.and_false] at hw
          simp [T, hy, hw]
        | true =>
          simp only [hz, hbl, hs, hy, decide_true, Bool.true_and] at hw
          simp [T, hy]
          refine ⟨_, _, gF _ rfl rfl, ?_⟩
          simp [hw]
    · have hbz : (x.body.length = 0) = False := eq_false hbl
      simp only [hz, hbl, decide_false, Bool.false_and, Bool.and_false] at hw
      simp [T, hz, hbz, hw]
set_option maxRecDepth 100000 in
set_option maxHeartbeats 16000000 in
theorem wholeItemK3 (x : It) (hsm : ItSm x) (hk : x.kind = 3) : WIC x := by
  intro d S hd1 hd2
  obtain ⟨hn, hfs, hty, hbs, hex⟩ := hsm
  have gZ := fun S => zeroTyC x.result S
  have gS := fun S => sameZero x.ret S
  have gY := fun S => typeC1 x.name (sm_max hn) S
  have gN := fun S => nameC1 x.name (sm_max hn) S
  have gT := fun S => wholeTypeC x.result hty (d - 1) S (by omega) (by omega)
  have gL := fun S => lentC x.ret S
  have gE := fun S => wholeExprC x.ret hex (d - 1) S (by omega) (by omega)
  have gB := fun S h => allStmts2 x.body (fun s hs => wholeStC s (hbs.2 s hs)) hbs.1 d (by omega) hd2 S 0 1 h
  have gF := fun S h1 h2 => wholeItem1C 3 x hfs d (by omega) hd2 S 0 0 1 h1 h2
  have T : ∀ m : Int, (x.kind == m) = ((3 : Int) == m) := fun m => by rw [hk]
  have hw : x.whole d = (nameB x.name && (allUp (fieldB 3 d) x.fields 6 && (x.result.whole (d - 1) && (!lentOp x.ret.op && (x.ret.whole (d - 1) && x.body.all fun s => s.whole (d - 1)))))) := by
    unfold It.whole; rw [if_neg (by omega), if_pos hk]
  refine ADet.intro mixed Tryz.call25 Tryz.func25 rfl ?_
  simp [Tryz.ntmps25]
  refine ⟨_, _, gZ _, ?_⟩
  cases hz : zeroTyB x.result with
  | false =>
    simp [T, hz]
    refine ⟨_, _, gN _, ?_⟩
    rw [hw]
    generalize nameB x.name = c1
    cases c1 with
    | false => simp
    | true =>
      simp
      refine ⟨_, _, gF _ rfl rfl, ?_⟩
      generalize allUp (fieldB 3 d) x.fields 6 = c2
      cases c2 with
      | false => simp
      | true =>
        simp [wrd d (by omega)]
        refine ⟨_, _, gT _, ?_⟩
        generalize x.result.whole (d - 1) = c3
        cases c3 with
        | false => simp
        | true =>
          simp
          refine ⟨_, _, gL _, ?_⟩
          generalize lentOp x.ret.op = c4
          cases c4 with
          | true => simp
          | false =>
            simp [wrd d (by omega)]
            refine ⟨_, _, gE _, ?_⟩
            generalize x.ret.whole (d - 1) = c5
            cases c5 with
            | false => simp
            | true =>
              simp
              refine ⟨_, _, gB _ rfl, ?_⟩
              simp
  | true =>
    by_cases hbl : x.body.length = 0
    · have hbz : (x.body.length = 0) = True := eq_true hbl
      simp [hz, hbz]
      refine ⟨_, _, gS _, ?_⟩
      cases hs : zeroExB x.ret with
      | false =>
        simp [T, hs]
        refine ⟨_, _, gN _, ?_⟩
        rw [hw]
        generalize nameB x.name = c1
        cases c1 with
        | false => simp
        | true =>
          simp
          refine ⟨_, _, gF _ rfl rfl, ?_⟩
          generalize allUp (fieldB 3 d) x.fields 6 = c2
          cases c2 with
          | false => simp
          | true =>
            simp [wrd d (by omega)]
            refine ⟨_, _, gT _, ?_⟩
            generalize x.result.whole (d - 1) = c3
            cases c3 with
            | false => simp
            | true =>
              simp
              refine ⟨_, _, gL _, ?_⟩
              generalize lentOp x.ret.op = c4
              cases c4 with
              | true => simp
              | false =>
                simp [wrd d (by omega)]
                refine ⟨_, _, gE _, ?_⟩
                generalize x.ret.whole (d - 1) = c5
                cases c5 with
                | false => simp
                | true =>
                  simp
                  refine ⟨_, _, gB _ rfl, ?_⟩
                  simp
      | true =>
        simp
        refine ⟨_, _, gY _, ?_⟩
        cases hy : typeB x.name with
        | false =>
          simp [T, hy]
          refine ⟨_, _, gN _, ?_⟩
          rw [hw]
          generalize nameB x.name = c1
          cases c1 with
          | false => simp
          | true =>
            simp
            refine ⟨_, _, gF _ rfl rfl, ?_⟩
            generalize allUp (fieldB 3 d) x.fields 6 = c2
            cases c2 with
            | false => simp
            | true =>
              simp [wrd d (by omega)]
              refine ⟨_, _, gT _, ?_⟩
              generalize x.result.whole (d - 1) = c3
              cases c3 with
              | false => simp
              | true =>
                simp
                refine ⟨_, _, gL _, ?_⟩
                generalize lentOp x.ret.op = c4
                cases c4 with
                | true => simp
                | false =>
                  simp [wrd d (by omega)]
                  refine ⟨_, _, gE _, ?_⟩
                  generalize x.ret.whole (d - 1) = c5
                  cases c5 with
                  | false => simp
                  | true =>
                    simp
                    refine ⟨_, _, gB _ rfl, ?_⟩
                    simp
        | true =>
          simp [T, hy]
          refine ⟨_, _, gN _, ?_⟩
          rw [hw]
          generalize nameB x.name = c1
          cases c1 with
          | false => simp
          | true =>
            simp
            refine ⟨_, _, gF _ rfl rfl, ?_⟩
            generalize allUp (fieldB 3 d) x.fields 6 = c2
            cases c2 with
            | false => simp
            | true =>
              simp [wrd d (by omega)]
              refine ⟨_, _, gT _, ?_⟩
              generalize x.result.whole (d - 1) = c3
              cases c3 with
              | false => simp
              | true =>
                simp
                refine ⟨_, _, gL _, ?_⟩
                generalize lentOp x.ret.op = c4
                cases c4 with
                | true => simp
                | false =>
                  simp [wrd d (by omega)]
                  refine ⟨_, _, gE _, ?_⟩
                  generalize x.ret.whole (d - 1) = c5
                  cases c5 with
                  | false => simp
                  | true =>
                    simp
                    refine ⟨_, _, gB _ rfl, ?_⟩
                    simp
    · have hbz : (x.body.length = 0) = False := eq_false hbl
      simp [T, hz, hbz]
      refine ⟨_, _, gN _, ?_⟩
      rw [hw]
      generalize nameB x.name = c1
      cases c1 with
      | false => simp
      | true =>
        simp
        refine ⟨_, _, gF _ rfl rfl, ?_⟩
        generalize allUp (fieldB 3 d) x.fields 6 = c2
        cases c2 with
        | false => simp
        | true =>
          simp [wrd d (by omega)]
          refine ⟨_, _, gT _, ?_⟩
          generalize x.result.whole (d - 1) = c3
          cases c3 with
          | false => simp
          | true =>
            simp
            refine ⟨_, _, gL _, ?_⟩
            generalize lentOp x.ret.op = c4
            cases c4 with
            | true => simp
            | false =>
              simp [wrd d (by omega)]
              refine ⟨_, _, gE _, ?_⟩
              generalize x.ret.whole (d - 1) = c5
              cases c5 with
              | false => simp
              | true =>
                simp
                refine ⟨_, _, gB _ rfl, ?_⟩
                simp
set_option maxRecDepth 100000 in
set_option maxHeartbeats 16000000 in
theorem wholeItemK0 (x : It) (hsm : ItSm x) (hk : ¬ (x.kind = 1 ∨ x.kind = 2 ∨ x.kind = 3)) : WIC x := by
  intro d S hd1 hd2
  obtain ⟨hn, hfs, hty, hbs, hex⟩ := hsm
  have gZ := fun S => zeroTyC x.result S
  have gS := fun S => sameZero x.ret S
  have gY := fun S => typeC1 x.name (sm_max hn) S
  have gN := fun S => nameC1 x.name (sm_max hn) S
  have gT := fun S => wholeTypeC x.result hty (d - 1) S (by omega) (by omega)
  have gL := fun S => lentC x.ret S
  have gE := fun S => wholeExprC x.ret hex (d - 1) S (by omega) (by omega)
  have gB := fun S h => allStmts2 x.body (fun s hs => wholeStC s (hbs.2 s hs)) hbs.1 d (by omega) hd2 S 0 1 h
  have T1 : (x.kind == 1) = false := by rw [beq_eq_false_iff_ne]; omega
  have T2 : (x.kind == 2) = false := by rw [beq_eq_false_iff_ne]; omega
  have T3 : (x.kind == 3) = false := by rw [beq_eq_false_iff_ne]; omega
  have hw : x.whole d = false := by
    unfold It.whole; rw [if_neg (by omega), if_neg (by omega)]
  refine ADet.intro mixed Tryz.call25 Tryz.func25 rfl ?_
  simp [Tryz.ntmps25]
  refine ⟨_, _, gZ _, ?_⟩
  cases hz : zeroTyB x.result with
  | false =>
    simp [T1, T2, T3, hz, hw]
  | true =>
    by_cases hbl : x.body.length = 0
    · have hbz : (x.body.length = 0) = True := eq_true hbl
      simp [hz, hbz]
      refine ⟨_, _, gS _, ?_⟩
      cases hs : zeroExB x.ret with
      | false =>
        simp [T1, T2, T3, hs, hw]
      | true =>
        simp
        refine ⟨_, _, gY _, ?_⟩
        cases hy : typeB x.name with
        | false =>
          simp [T1, T2, T3, hy, hw]
        | true =>
          simp [T1, T2, T3, hy, hw]
    · have hbz : (x.body.length = 0) = False := eq_false hbl
      simp [T1, T2, T3, hz, hbz, hw]
theorem wholeItemC (x : It) (hsm : ItSm x) : WIC x := by
  by_cases h1 : x.kind = 1
  · exact wholeItemK1 x hsm h1
  by_cases h2 : x.kind = 2
  · exact wholeItemK2 x hsm h2
  by_cases h3 : x.kind = 3
  · exact wholeItemK3 x hsm h3
  exact wholeItemK0 x hsm (by omega)
set_option maxRecDepth 100000 in
theorem whole1C (x : It) (hsm : ItSm x) (S : ASt) : ADet Tryz.prog 24 [itV x] S (B (x.whole 39)) S := by
  refine ADet.intro mixed Tryz.call24 Tryz.func24 rfl ?_
  simp [Tryz.ntmps24]
  refine ⟨_, _, wholeItemC x hsm 39 _ (by omega) (by omega), ?_⟩
  simp
set_option maxRecDepth 100000 in
theorem wholeProgC (p : List It) (hsm : PrSm p) (S : ASt) : ADet Tryz.prog 7 [.agg [.p (prog p)]] S (B (prWhole p)) S := by
  have hal := fun S => all_Item (fun x => x.whole 39) p 30 (by omega) 24 [] [] S fun x hm L => by
    simp only [AV.ups, List.nil_append]
    exact whole1C x (hsm.2 x hm) _
  refine ADet.intro mixed Tryz.call7 Tryz.func7 rfl ?_
  simp [Tryz.ntmps7, prog]
  refine ⟨_, _, hal _, ?_⟩
  simp [prWhole]
end Go.Proofs.YtlnoacoanfhdcaaGreatDoor
