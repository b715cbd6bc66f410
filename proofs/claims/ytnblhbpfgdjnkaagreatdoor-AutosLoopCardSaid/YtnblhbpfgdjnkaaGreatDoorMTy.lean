/- 5 texts of this proof, one behind the other: TyP TyA TyB BGreatT TyL. The statement is proved in the claim's last text. -/
import Derived.Test.YtnblhbpfgdjnkaaGreatDoorMTa
import Derived.Test.YtnblhbpfgdjnkaaGreatDoorMRoom
import Derived.Test.YtnblhbpfgdjnkaaGreatDoorMTi
import Derived.Test.YtnblhbpfgdjnkaaGreatDoorMCp
import Derived.Test.YtnblhbpfgdjnkaaGreatDoorMLt
import Derived.Test.YtnblhbpfgdjnkaaGreatDoorMWp
namespace Go.Proofs.YtnblhbpfgdjnkaaGreatDoor
open Go.RowKit
set_option linter.unusedVariables false

def fieldsT (p : List It) (nm : ByteArray) : Option (List Fi) :=
  match firstIt p nm with
  | some x => if x.kind = 1 ∨ x.kind = 2 then some x.fields else none
  | none => none
def struct1T (p : List It) (nm : ByteArray) : Option (List Fi) :=
  match firstIt p nm with
  | some x => if x.kind = 1 then some x.fields else none
  | none => none
def fieldT1 (l : List Fi) (s : ByteArray) : Option (Ty × Bool) := (l.find? fun f => sEq f.name s).map fun f => (f.type, false)
def ptrT (closed : Bool) (t : Ty) (s : ByteArray) : Option (Ty × Bool) :=
  if sEq s starS = true then (t.args.head?).map fun u => (u, closed) else none
def stepT (p : List It) (t : Ty) (s : ByteArray) : Option (Ty × Bool) :=
  if t.kind = 4 then fieldT1 ((struct1T p t.name).getD []) s
  else if t.kind = 7 ∨ t.kind = 8 ∨ t.kind = 13 then ptrT true t s
  else if t.kind = 5 ∨ t.kind = 14 then ptrT false t s
  else none
def walkF (p : List It) : List ByteArray → Ty → Bool → Option (Ty × Bool)
  | [], t, w => some (t, w)
  | s :: l, t, w =>
    match stepT p t s with
    | none => none
    | some (u, c) => walkF p l u (w && !c)
def walkT (p : List It) (t : Ty) (l : List ByteArray) : Option (Ty × Bool) := if t.whole 40 = true then walkF p l t true else none
theorem first_sm {p : List It} (h : PrSm p) {nm : ByteArray} {x : It} (hx : firstIt p nm = some x) : ItSm x := h.2 x (List.mem_of_find?_eq_some hx)
theorem struct1_sm {p : List It} (h : PrSm p) (nm : ByteArray) : FisSm ((struct1T p nm).getD []) := by
  unfold struct1T
  cases hx : firstIt p nm with
  | none => exact ⟨by simp, by simp⟩
  | some x =>
    simp only
    split
    · exact (first_sm h hx).2.1
    · exact ⟨by simp, by simp⟩
theorem step_sm {p : List It} (h : PrSm p) {t : Ty} (ht : TySm t) {s : ByteArray} {u : Ty} {c : Bool} (hs : stepT p t s = some (u, c)) : TySm u := by
  have hp : ∀ b, ptrT b t s = some (u, c) → TySm u := fun b hb => by
    unfold ptrT at hb
    split at hb
    · obtain ⟨v, hv, he⟩ := Option.map_eq_some_iff.1 hb
      cases he
      obtain ⟨_, _, _, h4⟩ := ht
      exact h4 _ (List.mem_of_head? hv)
    · cases hb
  unfold stepT at hs
  split at hs
  · unfold fieldT1 at hs
    obtain ⟨f, hf, he⟩ := Option.map_eq_some_iff.1 hs
    cases he
    exact ((struct1_sm h t.name).2 f (List.mem_of_find?_eq_some hf)).2
  · split at hs
    · exact hp _ hs
    · split at hs
      · exact hp _ hs
      · cases hs
theorem walkF_sm {p : List It} (h : PrSm p) : ∀ {l : List ByteArray} {t : Ty} {w : Bool} {u : Ty} {x : Bool}, TySm t → walkF p l t w = some (u, x) → TySm u
  | [], t, w, u, x, ht, hw => by cases hw; exact ht
  | s :: l, t, w, u, x, ht, hw => by
    unfold walkF at hw
    cases hs : stepT p t s with
    | none => rw [hs] at hw; cases hw
    | some r =>
      obtain ⟨v, c⟩ := r
      rw [hs] at hw
      exact walkF_sm h (step_sm h ht hs) hw
theorem walkF_append (p : List It) : ∀ (a b : List ByteArray) (t : Ty) (w : Bool), walkF p (a ++ b) t w = (walkF p a t w).bind fun r => walkF p b r.1 r.2
  | [], b, t, w => rfl
  | s :: a, b, t, w => by
    simp only [List.cons_append, walkF]
    cases stepT p t s with
    | none => rfl
    | some r => exact walkF_append p a b _ _
theorem walkF_w (p : List It) : ∀ (l : List ByteArray) (t : Ty) (w : Bool), walkF p l t w = (walkF p l t true).map fun r => (r.1, w && r.2)
  | [], t, w => by simp [walkF]
  | s :: l, t, w => by
    simp only [walkF]
    cases stepT p t s with
    | none => rfl
    | some r =>
      simp only
      rw [walkF_w p l r.1 (w && !r.2), walkF_w p l r.1 (true && !r.2), Option.map_map]
      congr 1
      funext z
      simp [Bool.and_assoc]
end Go.Proofs.YtnblhbpfgdjnkaaGreatDoor

namespace Go.Proofs.YtnblhbpfgdjnkaaGreatDoor
open Go.RowKit
attribute [local simp] List.replicate List.range List.range.loop resA resOne retA AV.cuts AV.cut AObj.cut trim wkR wkT wkL wkN wkNR wkNL wkM wkMR wkML
set_option linter.unusedVariables false
set_option linter.unusedSimpArgs false

def fiO : Option (List Fi) → AV
  | some l => .p (.sl 4 (l.map Fi.enc))
  | none => nilS
set_option maxRecDepth 100000 in
set_option maxHeartbeats 8000000 in
theorem tabFieldsC (p : List It) (hp : PrSm p) (nm : ByteArray) (S : ASt) : ADet Tryz.prog 48 [.agg [.p (prog p)], Sg nm] S (.tup [fiO (fieldsT p nm), B (fieldsT p nm).isSome]) S := by
  have fC := fun S => firstC p nm S
  unfold firstR at fC
  unfold fieldsT
  refine ADet.intro mixed Tryz.call48 Tryz.func48 rfl ?_
  simp [Tryz.ntmps48]
  refine ⟨_, _, fC _, ?_⟩
  cases hx : firstIt p nm with
  | none => simp [fiO]
  | some x =>
    have cC := fun S => copyPC [x] ⟨by simp, fun y hy => by simp at hy; subst hy; exact first_sm hp hx⟩ S
    simp only [prog, List.map_cons, List.map_nil, It.enc] at cC
    have hsub := fun (d i : Nat) S => ADet.sub (.cons (.agg (.cons (.osl (d := d) (i := i) (.refl _)) (.refl _))) (.refl _)) (cC S)
    by_cases h1 : x.kind = 1
    · simp [h1]
      rw [h1] at hsub
      refine ⟨_, _, hsub _ _ _, ?_⟩
      simp [fiO]
    · have h1' : (x.kind != 1) = true := by simpa using h1
      by_cases h2 : x.kind = 2
      · simp [h2]
        rw [h2] at hsub
        refine ⟨_, _, hsub _ _ _, ?_⟩
        simp [fiO]
      · have h2' : (x.kind != 2) = true := by simpa using h2
        simp [h1, h2, h1', h2', fiO]
set_option maxRecDepth 100000 in
set_option maxHeartbeats 8000000 in
theorem struct1C (p : List It) (hp : PrSm p) (nm : ByteArray) (S : ASt) : ADet Tryz.prog 108 [.agg [.p (prog p)], Sg nm] S (fiO (struct1T p nm)) S := by
  refine ADet.okA Tryz.call108 0 0 rfl rfl fun hok => ?_
  have hlen := okl hok
  have fC := fun S => tabFieldsC p hp nm S
  have iC : ∀ L : List AObj, get2 (L :: S) 0 1 = some (.cells [Sg nm] 9) → ADet Tryz.prog 122 [.p (.sl 16 (p.map It.enc)), .fn (.func 152) [] [.ptr 0 1 0]] (L :: S) (I (idxI (fun x : It => (decide (x.kind ≠ 3)) && sEq x.name nm) p)) (L :: S) := fun L hL =>
    idx_Item _ _ _ _ _ fun x hx M => by
      have hg : get2 (M :: L :: S) 1 1 = some (.cells [Sg nm] 9) := hL
      refine ADet.intro mixed Tryz.call152 Tryz.func152 rfl ?_
      by_cases h3 : x.kind = 3
      · simp [Tryz.ntmps152, h3]
      · have h3' : (x.kind != 3) = true := by simpa using h3
        simp only [get2_cons] at hg
        simp [Tryz.ntmps152, h3', h3, hL]
  unfold struct1T
  unfold fieldsT at fC
  refine ADet.intro mixed Tryz.call108 Tryz.func108 rfl ?_
  simp [Tryz.ntmps108, prog]
  refine ⟨_, _, iC _ rfl, ?_⟩
  unfold firstIt at *
  rcases idx_find (fun x : It => (decide (x.kind ≠ 3)) && sEq x.name nm) p with ⟨h1, h2⟩ | ⟨q, hq, h1, h2⟩
  · rw [h1, h2]
    simp [fiO]
  · rw [h1, h2]
    rw [h1] at fC
    have hq' : (q : Int) < (p.length : Int) := by omega
    have hq2 : ¬ (q : Int) < 0 := by omega
    simp only [prog] at fC
    generalize hxq : p[q] = x at *
    by_cases hk : x.kind = 1
    · simp only [hk, true_or, if_true, Option.isSome_some] at fC
      simp [hq, hq', hq2, It.enc, hxq, hk]
      refine ⟨_, _, fC _, ?_⟩
      simp [fiO]
    · have hk' : (x.kind != 1) = true := by simpa using hk
      simp [hq, hq', hq2, It.enc, hxq, hk, hk', fiO]
/-- a type's zero value -/
abbrev tyZ : AV := .agg [U 0, Sg emS, nilS]
def stepR : Option (Ty × Bool) → AV
  | some (u, c) => .tup [tyV u, B c, B true]
  | none => .tup [tyZ, B false, B false]
theorem find_snoc {l : List Fi} {s : ByteArray} {q : Nat} (h : ∀ i (hi : i < l.length), i < q → sEq l[i].name s = false) : (∀ (hq : q < l.length), sEq l[q].name s = true → l.find? (fun f => sEq f.name s) = some l[q]) ∧ (l.length ≤ q → l.find? (fun f => sEq f.name s) = none) := by
  refine ⟨fun hq hs => ?_, fun hq => ?_⟩
  · rw [List.find?_eq_some_iff_getElem]
    exact ⟨hs, q, hq, rfl, fun j hj => by simpa using h j (by omega) hj⟩
  · rw [List.find?_eq_none]
    intro x hx
    obtain ⟨i, hi, rfl⟩ := List.getElem_of_mem hx
    simp [h i hi (by omega)]
set_option maxRecDepth 100000 in
set_option maxHeartbeats 16000000 in
theorem stepC (p : List It) (hp : PrSm p) (t : Ty) (ht : TySm t) (s : ByteArray) (S : ASt) : ADet Tryz.prog 70 [.agg [.p (prog p)], tyV t, Sg s] S (stepR (stepT p t s)) S := by
  have hsm := struct1_sm hp t.name
  have uC : ∀ S, ADet Tryz.prog 108 [.agg [.p (prog p)], Sg t.name] S (.p (.sl 4 (((struct1T p t.name).getD []).map Fi.enc))) S := fun S => by
    have := struct1C p hp t.name S
    cases hst : struct1T p t.name with
    | none => rw [hst] at this; exact this.less (.p (.nil 4))
    | some l => rw [hst] at this; exact this
  generalize hl0 : (struct1T p t.name).getD [] = l at *
  have hlen : l.length ≤ 20000 := hsm.1
  have hlt0 : t.args.length ≤ 20000 := by obtain ⟨_, _, h, _⟩ := ht; exact h
  unfold stepT
  rw [hl0]
  refine ADet.intro mixed Tryz.call70 Tryz.func70 rfl ?_
  by_cases h4 : t.kind = 4
  · rw [if_pos h4]
    simp [Tryz.ntmps70, h4]
    refine ⟨_, _, uC _, ?_⟩
    simp
    refine awp_loop (fun q : Nat => q ≤ l.length ∧ ∀ i (hi : i < l.length), i < q → sEq l[i].name s = false) (fun q => ([.any, .any, Sg s, .any, .ptr 0 1 0, .any, .ptr 0 2 0] ++ (List.replicate 18 .any ++ ([.p (.sl 4 (l.map Fi.enc)), I l.length, I q] ++ List.replicate 24 .any)))) (fun q => [.cells [.p (prog p)] 24, .cells [U 4, Sg t.name, .p (.sl 3 (t.args.map Ty.enc))] 27, .cells [.any, .any, .any] 27] :: S) (fun q => l.length - q) 0 ⟨Nat.zero_le _, fun i hi h => by omega⟩ ?_ ?_ ?_
    · simp
    · simp
    rintro q ⟨hq, hall⟩
    obtain ⟨f1, f2⟩ := find_snoc hall
    by_cases hlt : q < l.length
    · have hlt' : (q : Int) < (l.length : Int) := by omega
      have f1 := f1 hlt
      have hw := wrap_succ hlt (by unfold maxLen; omega)
      have hnext : sEq l[q].name s = false → ∀ i (hi : i < l.length), i < q + 1 → sEq l[i].name s = false := fun h i hi hiq => by
        rcases Nat.lt_or_ge i q with h' | h'
        · exact hall i hi h'
        · obtain rfl : i = q := by omega
          exact h
      generalize he : l[q] = f at *
      cases hn : sEq f.name s with
      | true =>
        simp [hlt, hlt', he, Fi.enc, hn, fieldT1, f1 hn, stepR]
      | false =>
        simp [hlt, hlt', he, Fi.enc, hn]
        exact ⟨q + 1, ⟨hlt, hnext hn⟩, by omega, hw⟩
    · have hlt' : ¬ (q : Int) < (l.length : Int) := by omega
      simp [hlt', fieldT1, f2 (by omega), stepR]
  · rw [if_neg h4]
    have h4' : (t.kind == 4) = false := by simpa using h4
    have hst : sEq s ⟨#[42]⟩ = sEq s starS := rfl
    cases ha : t.args with
    | nil =>
      by_cases h7 : t.kind = 7
      · cases hs : sEq s starS <;> simp [Tryz.ntmps70, h7, ha, hst, hs, ptrT, stepR]
      · by_cases h8 : t.kind = 8
        · cases hs : sEq s starS <;> simp [Tryz.ntmps70, h8, ha, hst, hs, ptrT, stepR]
        · by_cases h13 : t.kind = 13
          · cases hs : sEq s starS <;> simp [Tryz.ntmps70, h13, ha, hst, hs, ptrT, stepR]
          · by_cases h5 : t.kind = 5
            · cases hs : sEq s starS <;> simp [Tryz.ntmps70, h5, ha, hst, hs, ptrT, stepR]
            · by_cases h14 : t.kind = 14
              · cases hs : sEq s starS <;> simp [Tryz.ntmps70, h14, ha, hst, hs, ptrT, stepR]
              · have h7' : (t.kind == 7) = false := by simpa using h7
                have h8' : (t.kind == 8) = false := by simpa using h8
                have h13' : (t.kind == 13) = false := by simpa using h13
                have h5' : (t.kind == 5) = false := by simpa using h5
                have h14' : (t.kind == 14) = false := by simpa using h14
                simp [Tryz.ntmps70, h4', h7', h8', h13', h5', h14', h7, h8, h13, h5, h14, ha, stepR]
    | cons u l =>
      have hl1 : (0 : Int) < (l.length : Int) + 1 := by omega
      by_cases h7 : t.kind = 7
      · cases hs : sEq s starS <;> simp [Tryz.ntmps70, h7, ha, hst, hs, ptrT, stepR, tyEnc, hl1]
      · by_cases h8 : t.kind = 8
        · cases hs : sEq s starS <;> simp [Tryz.ntmps70, h8, ha, hst, hs, ptrT, stepR, tyEnc, hl1]
        · by_cases h13 : t.kind = 13
          · cases hs : sEq s starS <;> simp [Tryz.ntmps70, h13, ha, hst, hs, ptrT, stepR, tyEnc, hl1]
          · by_cases h5 : t.kind = 5
            · cases hs : sEq s starS <;> simp [Tryz.ntmps70, h5, ha, hst, hs, ptrT, stepR, tyEnc, hl1]
            · by_cases h14 : t.kind = 14
              · cases hs : sEq s starS <;> simp [Tryz.ntmps70, h14, ha, hst, hs, ptrT, stepR, tyEnc, hl1]
              · have h7' : (t.kind == 7) = false := by simpa using h7
                have h8' : (t.kind == 8) = false := by simpa using h8
                have h13' : (t.kind == 13) = false := by simpa using h13
                have h5' : (t.kind == 5) = false := by simpa using h5
                have h14' : (t.kind == 14) = false := by simpa using h14
                simp [Tryz.ntmps70, h4', h7', h8', h13', h5', h14', h7, h8, h13, h5, h14, ha, stepR]
end Go.Proofs.YtnblhbpfgdjnkaaGreatDoor

namespace Go.Proofs.YtnblhbpfgdjnkaaGreatDoor
open Go.RowKit
attribute [local simp] List.replicate List.range List.range.loop resA resOne retA AV.cuts AV.cut AObj.cut trim wkR wkT wkL wkN wkNR wkNL wkM wkMR wkML virtL virtO virt_get markL markO markR_get rowA awpI_nil awpI_cons List.forall_mem_cons List.contains_cons List.contains_nil List.find? nextD_eq awpD_nil awpD_cons LCp LCl refL
set_option linter.unusedVariables false
set_option linter.unusedSimpArgs false

set_option maxRecDepth 100000 in
set_option maxHeartbeats 2000000 in
theorem twinC : ∀ (t : Ty), TySm t → ∀ (S : ASt), ADet Tryz.prog 37 [tyV t] S (tyV t) S := by
  refine Ty.ind fun t ih hsm S => ?_
  obtain ⟨_, _, hsz, hsm⟩ := hsm
  refine ADet.okA Tryz.call37 0 2 rfl rfl fun hok => ?_
  have hlen := okl hok
  refine ADet.intro mixed Tryz.call37 Tryz.func37 rfl ?_
  simp [Tryz.ntmps37]
  refine awp_loopG 27 3 (by decide) [.cells [U t.kind, Sg t.name, .p (.sl 3 (t.args.map Ty.enc))] 27, .cells [.any, .any, .any] 27] (fun q : Nat => q ≤ t.args.length) (fun q => ([.any, .ptr 0 0 0, .ptr 0 1 0, .osl 3 ((t.args.map Ty.enc).take q) 0 2, .any, .any, .any, .p (.sl 3 (t.args.map Ty.enc)), I t.args.length, I q] ++ List.replicate 12 .any)) (fun q => [.cells [U t.kind, Sg t.name, .p (.sl 3 (t.args.map Ty.enc))] 27, .cells [.any, .any, .any] 27, .tok 27 3 q] :: S) (fun q => t.args.length - q) 0 (Nat.zero_le _) ?_ ?_ ?_ ?_
  · simp
  · simp
  · rfl
  intro q hq
  by_cases hlt : q < t.args.length
  · have hlt' : (q : Int) < (t.args.length : Int) := by omega
    have hx := ih _ (List.getElem_mem hlt) (hsm _ (List.getElem_mem hlt))
    have hr := take_row Ty.enc t.args hlt
    have hle : q + 1 ≤ 4294967296 := by omega
    have hmin : min q t.args.length = q := by omega
    generalize hy : t.args[q] = x at *
    simp [hlt, hlt', hy, tyEnc]
    refine ⟨_, _, hx _, ?_⟩
    simp [hle, hmin]
    exact ⟨q + 1, hlt, by omega, ⟨by rw [← hr]; simp [tyEnc], wrap_succ hlt⟩, rfl⟩
  · have hlt' : ¬ (q : Int) < (t.args.length : Int) := by omega
    simp [hlt']
    exact List.take_of_length_le (by simp; omega)
set_option maxRecDepth 100000 in
set_option maxHeartbeats 2000000 in
theorem wayC (p : List It) (t : Ty) (l : List ByteArray) (a0 a1 a2 a3 a4 a5 : AObj) (S : ASt) : ADet Tryz.prog 36 [.agg [.p (prog p)], tyV t, .p (strs l)] ([a0, a1, a2, a3, a4, a5] :: S) (.fn (.func 69) [] [.ptr 0 8 0, .ptr 0 6 0, .ptr 0 7 0])
    ([a0, a1, a2, a3, a4, a5, .cells [.p (prog p)] 24, .cells [U t.kind, Sg t.name, .p (.sl 3 (t.args.map Ty.enc))] 27, .cells [.p (strs l)] 28] :: S) := by
  refine ADet.flat mixed Tryz.call36 Tryz.func36 rfl ?_
  simp [Tryz.ntmps36]
/-- what Walk and way have laid, while a way is gone -/
def wayL (p : List It) (l : List ByteArray) (u : Ty) (w : Bool) (tw : Ty) : List AObj := [.cells [.p (prog p)] 24, .cells [U u.kind, Sg u.name, .p (.sl 3 (u.args.map Ty.enc))] 27, .cells [U 0, Sg emS, nilS] 27, .cells [B false] 4, .cells [B false] 4, .cells [B w] 4,
  .cells [.p (prog p)] 24, .cells [U tw.kind, Sg tw.name, .p (.sl 3 (tw.args.map Ty.enc))] 27, .cells [.p (strs l)] 28]
/-- where a way was left, that leads nowhere -/
def walkLast (p : List It) : List ByteArray → Ty → Bool → Ty × Bool
  | [], t, w => (t, w)
  | s :: l, t, w =>
    match stepT p t s with
    | none => (t, w)
    | some (u, c) => walkLast p l u (w && !c)
theorem walkLast_some {p : List It} : ∀ {l : List ByteArray} {t : Ty} {w : Bool} {r : Ty × Bool}, walkF p l t w = some r → walkLast p l t w = r
  | [], t, w, r, h => by cases h; rfl
  | s :: l, t, w, r, h => by
    unfold walkF at h
    unfold walkLast
    cases hs : stepT p t s with
    | none => rw [hs] at h; cases h
    | some x => rw [hs] at h; exact walkLast_some h
def jOf : Option (Ty × Bool) → Option Code
  | some _ => none
  | none => some .ret
set_option maxRecDepth 100000 in
set_option maxHeartbeats 16000000 in
theorem wayItC (p : List It) (hp : PrSm p) (l : List ByteArray) (hlen : l.length ≤ maxLen) (t : Ty) (ht : TySm t) (w : Bool) (S : ASt) (lp : Nat) (R : Option Code → List AObj)
    (hY1 : ∀ (L : List AObj) (u u' : Ty) (w c : Bool) (tw : Ty), YDet Tryz.prog lp [.agg [U u'.kind, Sg u'.name, .p (.sl 3 (u'.args.map Ty.enc)), B c, B true]] (L :: R none :: wayL p l u w tw :: S) (B true) (L :: R none :: wayL p l u' (w && !c) tw :: S))
    (hY0 : ∀ (L : List AObj) (u : Ty) (w : Bool) (tw : Ty), YDet Tryz.prog lp [.agg [U 0, Sg emS, nilS, B false, B false]] (L :: R none :: wayL p l u w tw :: S) (B false) (L :: R (some .ret) :: wayL p l u w tw :: S)) :
    ADet Tryz.prog 69 [.fn (.yield lp) [] [], .ptr 1 8 0, .ptr 1 6 0, .ptr 1 7 0] (R none :: wayL p l t w t :: S) .un (R (jOf (walkF p l t w)) :: wayL p l (walkLast p l t w).1 (walkLast p l t w).2 (walkLast p l t w).1 :: S) := by
  refine ADet.introQ mixed Tryz.call69 Tryz.func69 rfl (by kernel_rfl) ?_
  simp [Tryz.ntmps69, wayL, strs]
  refine awq_loop (fun a : Nat × Ty × Bool => a.1 ≤ l.length ∧ TySm a.2.1 ∧ walkF p (l.drop a.1) a.2.1 a.2.2 = walkF p l t w ∧ walkLast p (l.drop a.1) a.2.1 a.2.2 = walkLast p l t w) (fun a => ([.fn (.yield lp) [] [], .ptr 2 8 0, .ptr 2 6 0, .ptr 2 7 0, .any, .any, .any, .any, .any, .any, .p (.sl 1 (l.map fun s => [pS s])), I l.length, I a.1] ++ List.replicate 20 .any)) (fun a => [] :: R none :: wayL p l a.2.1 a.2.2 a.2.1 :: S) (fun a => l.length - a.1) (0, t, w) ⟨Nat.zero_le _, ht, by simp, by simp⟩ ?_ ?_ ?_
  · simp
  · simp [wayL, strs]
  rintro ⟨q, u, x⟩ ⟨hq, hu, hF, hL⟩
  simp only at hq hu hF hL
  by_cases hlt : q < l.length
  · have hlt' : (q : Int) < (l.length : Int) := by omega
    have hd : l.drop q = l[q] :: l.drop (q + 1) := List.drop_eq_getElem_cons hlt
    have hw := wrap_succ hlt
    rw [hd] at hF hL
    generalize he : l[q] = s at *
    have sC := fun S => stepC p hp u hu s S
    have y1 := fun (L : List AObj) (u' : Ty) (c : Bool) => hY1 L u u' x c u
    have y0 := fun (L : List AObj) => hY0 L u x u
    simp only [wayL, strs] at y1 y0
    simp [hlt, hlt', he, wayL, strs]
    refine ⟨_, _, sC _, ?_⟩
    cases hst : stepT p u s with
    | none =>
      simp only [walkF, hst] at hF
      simp only [walkLast, hst] at hL
      simp [stepR]
      refine ⟨_, _, y0 _, ?_⟩
      rw [← hF, ← hL]
      simp [jOf]
    | some r =>
      obtain ⟨v, c⟩ := r
      simp only [walkF, hst] at hF
      simp only [walkLast, hst] at hL
      simp [stepR]
      have y1 := fun L => y1 L v c
      generalize (x && !c) = y at *
      refine ⟨_, _, y1 _, ?_⟩
      simp [-Bool.exists_bool]
      exact ⟨q + 1, v, y, ⟨hlt, step_sm hp hu hst, hF, hL⟩, by omega, by simp [hw]⟩
  · have hlt' : ¬ (q : Int) < (l.length : Int) := by omega
    rw [List.drop_of_length_le (by omega)] at hF hL
    simp only [walkF, walkLast] at hF hL
    rw [← hF, ← hL]
    simp [hlt', wayL, strs, jOf]
def walkR : Option (Ty × Bool) → AV
  | some (u, w) => .tup [tyV u, B w, B true]
  | none => .tup [tyZ, B false, B false]
set_option maxRecDepth 100000 in
set_option maxHeartbeats 16000000 in
theorem walkC (p : List It) (hp : PrSm p) (t : Ty) (ht : TySm t) (l : List ByteArray) (S : ASt) : ADet Tryz.prog 14 [.agg [.p (prog p)], tyV t, .p (strs l)] S (walkR (walkT p t l)) S := by
  have wC := fun S => wholeTypeC t ht 40 S (by omega) (by omega)
  unfold walkT
  refine ADet.okP Tryz.call14 2 rfl fun hok => ?_
  have hlen : l.length ≤ maxLen := okl (f := fun s => [pS s]) hok
  refine ADet.introQ mixed Tryz.call14 Tryz.func14 rfl (by kernel_rfl) ?_
  simp [Tryz.ntmps14]
  have wtC : ∀ S, ADet Tryz.prog 35 [tyV t] S (B (t.whole 40)) S := fun S => by
    refine ADet.intro mixed Tryz.call35 Tryz.func35 rfl ?_
    simp [Tryz.ntmps35]
    refine ⟨_, _, wC _, ?_⟩
    simp
  refine ⟨_, _, wtC _, ?_⟩
  cases hw : t.whole 40 with
  | false => simp [walkR]
  | true =>
  simp
  refine ⟨_, _, wayC p t l _ _ _ _ _ _ _, ?_⟩
  simp
  rw [awq]
  refine ⟨69, [.ptr 0 8 0, .ptr 0 6 0, .ptr 0 7 0], rfl, rfl, rfl, jOf (walkF p l t true), wayL p l (walkLast p l t true).1 (walkLast p l t true).2 (walkLast p l t true).1 :: S, fun lp R hY => ADet.less (.any _) (wayItC p hp l hlen t ht true S lp R (fun L u u' w c tw => ?_) fun L u w tw => ?_), ?_⟩
  · refine hY L [.agg [U u'.kind, Sg u'.name, .p (.sl 3 (u'.args.map Ty.enc)), B c, B true]] _ (wayL p l u w tw :: S) none (wayL p l u' (w && !c) tw :: S) rfl ⟨rfl, by simp, ?_⟩
    cases w <;> simp [wayL, setPs, ROk]
  · refine hY L [.agg [U 0, Sg emS, nilS, B false, B false]] _ (wayL p l u w tw :: S) (some .ret) (wayL p l u w tw :: S) rfl ⟨rfl, by simp, ?_⟩
    simp [wayL, setPs, ROk]
  · cases hF : walkF p l t true with
    | none => simp [jOf, JQ, wayL, walkR]
    | some r =>
      obtain ⟨u, x⟩ := r
      have hu := walkF_sm hp ht hF
      rw [walkLast_some hF]
      have tC := fun S => twinC u hu S
      simp [jOf, JQ, wayL]
      refine awq_of (c := .skip) (fun _ _ _ => trivial) (awp_draw [(2, 1), (2, 3)] (by kernel_rfl) (by kernel_rfl) ?_)
      simp
      refine ⟨_, _, tC _, ?_⟩
      simp [walkR]
set_option maxRecDepth 100000 in
set_option maxHeartbeats 4000000 in
theorem tyStepC (p : List It) (hp : PrSm p) (t : Ty) (ht : TySm t) (s : ByteArray) (S : ASt) : ADet Tryz.prog 19 [.agg [.p (prog p)], tyV t, Sg s] S (match walkT p t [s] with | some (u, _) => .tup [tyV u, B true] | none => .tup [tyZ, B false]) S := by
  have wC := fun S => walkC p hp t ht [s] S
  simp only [strs, List.map_cons, List.map_nil] at wC
  have hsub := fun (d i : Nat) S => ADet.sub (.cons (.refl _) (.cons (.refl _) (.cons (.osl (d := d) (i := i) (.refl _)) (.refl _)))) (wC S)
  refine ADet.intro mixed Tryz.call19 Tryz.func19 rfl ?_
  simp [Tryz.ntmps19]
  refine ⟨_, _, hsub _ _ _, ?_⟩
  cases walkT p t [s] with
  | none => simp [walkR]
  | some r =>
    obtain ⟨u, x⟩ := r
    simp [walkR]
end Go.Proofs.YtnblhbpfgdjnkaaGreatDoor

namespace Go.Proofs.YtnblhbpfgdjnkaaGreatDoor
open Go.RowKit
attribute [local simp] List.replicate List.range List.range.loop resA resOne retA
set_option linter.unusedVariables false
set_option linter.unusedSimpArgs false

set_option maxRecDepth 100000 in
set_option maxHeartbeats 1000000 in
theorem greatTypeC (t : Ty) (S : ASt) : ADet Tryz.prog 16 [tyV t] S (B (decide (t.room 20000 < 0))) S := by
  refine ADet.intro mixed Tryz.call16 Tryz.func16 rfl ?_
  simp [Tryz.ntmps16]
  refine ⟨_, _, typeC t _ 0 1 20000 (by simp [get2_zero, rm]) (by omega) (by omega), ?_⟩
  simp [rm]
end Go.Proofs.YtnblhbpfgdjnkaaGreatDoor

namespace Go.Proofs.YtnblhbpfgdjnkaaGreatDoor
open Go.RowKit
attribute [local simp] List.replicate List.range List.range.loop resA resOne retA AV.cuts AV.cut AObj.cut trim wkR wkT wkL wkN wkNR wkNL wkM wkMR wkML
set_option linter.unusedVariables false
set_option linter.unusedSimpArgs false

def Ty.copied (t : Ty) : Bool := decide (t.kind = 1 ∨ t.kind = 2 ∨ t.kind = 3 ∨ t.kind = 13)
set_option maxRecDepth 100000 in
set_option maxHeartbeats 2000000 in
theorem tyCopiedC (t : Ty) (S : ASt) : ADet Tryz.prog 32 [tyV t] S (B t.copied) S := by
  unfold Ty.copied
  refine ADet.intro mixed Tryz.call32 Tryz.func32 rfl ?_
  by_cases h1 : t.kind = 1
  · simp [Tryz.ntmps32, h1]
  · have h1' : (t.kind == 1) = false := by simpa using h1
    by_cases h2 : t.kind = 2
    · simp [Tryz.ntmps32, h2]
    · have h2' : (t.kind == 2) = false := by simpa using h2
      by_cases h3 : t.kind = 3
      · simp [Tryz.ntmps32, h3]
      · have h3' : (t.kind == 3) = false := by simpa using h3
        by_cases h4 : t.kind = 13
        · simp [Tryz.ntmps32, h4]
        · have h4' : (t.kind == 13) = false := by simpa using h4
          simp [Tryz.ntmps32, h1, h2, h3, h4, h1', h2', h3', h4']
set_option maxRecDepth 100000 in
set_option maxHeartbeats 2000000 in
theorem tyOwnedC : ∀ (t : Ty) (S : ASt), ADet Tryz.prog 21 [tyV t] S (B t.owned) S := by
  refine Ty.ind fun t ih S => ?_
  have cC : ∀ S, ADet Tryz.prog 46 [.p (.sl 3 (t.args.map Ty.enc)), .fn (.func 47) [] []] S (B (t.args.any fun x => !x.owned)) S := fun S =>
    containsTypeC _ _ _ _ _ fun x hx L M => by
      refine ADet.intro mixed Tryz.call47 Tryz.func47 rfl ?_
      simp [Tryz.ntmps47]
      refine ⟨_, _, ih x hx _, ?_⟩
      simp
  have hall : (t.args.any fun x => !x.owned) = !(t.args.all Ty.owned) := by simp [List.all_eq_not_any_not]
  rw [hall] at cC
  rw [owned_eq]
  generalize t.args.all Ty.owned = b at *
  refine ADet.intro mixed Tryz.call21 Tryz.func21 rfl ?_
  by_cases h1 : t.kind = 13
  · simp [Tryz.ntmps21, h1]
  · have h1' : (t.kind == 13) = false := by simpa using h1
    by_cases h2 : t.kind = 14
    · simp [Tryz.ntmps21, h2]
    · have h2' : (t.kind == 14) = false := by simpa using h2
      simp [Tryz.ntmps21, h1', h2']
      refine ⟨_, _, cC _, ?_⟩
      simp [h1, h2]
set_option maxRecDepth 100000 in
theorem wrap08C (k : Int) (t : Ty) (S : ASt) : ADet Tryz.prog 18 [U k, tyV t] S (tyV (.mk k emS [t])) S := by
  refine ADet.intro mixed Tryz.call18 Tryz.func18 rfl ?_
  simp [Tryz.ntmps18, Ty.kind, Ty.name, Ty.args]
  rw [tyEnc]; rfl
/-- is it more than is gone through? -/
def long08 (p : List It) (t : Ty) (l : List ByteArray) : Bool := great p || (decide (t.room 20000 < 0) || (decide (100 < l.length) || l.any fun s => decide (200 < s.size)))
set_option maxRecDepth 100000 in
set_option maxHeartbeats 8000000 in
theorem long08C (p : List It) (t : Ty) (l : List ByteArray) (S : ASt) : ADet Tryz.prog 12 [.agg [.p (prog p)], tyV t, .p (strs l)] S (B (long08 p t l)) S := by
  refine ADet.okP Tryz.call12 2 rfl fun hok => ?_
  have hlen : l.length ≤ maxLen := okl (f := fun s => [pS s]) hok
  have gC := fun S => greatC S p
  have tC := fun S => greatTypeC t S
  unfold long08
  generalize great p = g at *
  generalize decide (t.room 20000 < 0) = gt at *
  refine ADet.intro mixed Tryz.call12 Tryz.func12 rfl ?_
  simp [Tryz.ntmps12, strs]
  refine ⟨_, _, gC _, ?_⟩
  cases g with
  | true => simp
  | false =>
  simp
  refine ⟨_, _, tC _, ?_⟩
  cases gt with
  | true => simp
  | false =>
  by_cases h100 : 100 < l.length
  · have h100' : (100 : Int) < (l.length : Int) := by omega
    simp [h100, h100']
  · have h100' : ¬ (100 : Int) < (l.length : Int) := by omega
    simp [h100, h100']
    refine awp_loop (fun q : Nat => q ≤ l.length ∧ ∀ i (hi : i < l.length), i < q → decide (200 < l[i].size) = false) (fun q => ([.any, .any, .p (.sl 1 (l.map fun s => [pS s])), .ptr 0 0 0, .ptr 0 1 0, .any, .any, I q] ++ List.replicate 23 .any)) (fun q => [.cells [.p (prog p)] 24, .cells [U t.kind, Sg t.name, .p (.sl 3 (t.args.map Ty.enc))] 27] :: S) (fun q => l.length - q) 0 ⟨Nat.zero_le _, fun i hi h => by omega⟩ ?_ ?_ ?_
    · simp
    · simp
    rintro q ⟨hq, hall⟩
    by_cases hlt : q < l.length
    · have hlt' : (q : Int) < (l.length : Int) := by omega
      have hw := wrap_succ hlt (by omega)
      have hyes : 200 < l[q].size → (l.any fun s => decide (200 < s.size)) = true := fun h => List.any_eq_true.2 ⟨_, List.getElem_mem hlt, by simpa using h⟩
      have hno : ¬ 200 < l[q].size → ∀ i (hi : i < l.length), i < q + 1 → decide (200 < l[i].size) = false := fun h i hi hiq => by
        rcases Nat.lt_or_ge i q with h' | h'
        · exact hall i hi h'
        · obtain rfl : i = q := by omega
          simpa using h
      generalize he : l[q] = s at *
      by_cases hs : 200 < s.size
      · have hs' : (200 : Int) < (s.size : Int) := by omega
        have := hyes hs
        simp only [List.any_eq_true, decide_eq_true_eq] at this
        simp [hlt, hlt', he, hs']
        exact this
      · have hs' : ¬ (200 : Int) < (s.size : Int) := by omega
        simp [hlt, hlt', he, hs']
        exact ⟨q + 1, ⟨hlt, fun i hi h => by simpa using hno hs i hi h⟩, by omega, hw⟩
    · have hlt' : ¬ (q : Int) < (l.length : Int) := by omega
      have hall' : (l.any fun s => decide (200 < s.size)) = false := by
        rw [List.any_eq_false]
        intro s hs
        obtain ⟨i, hi, rfl⟩ := List.getElem_of_mem hs
        simpa using hall i hi (by omega)
      rw [List.any_eq_false] at hall'
      simp [hlt']
      intro s hs
      simpa using hall' s hs
end Go.Proofs.YtnblhbpfgdjnkaaGreatDoor
