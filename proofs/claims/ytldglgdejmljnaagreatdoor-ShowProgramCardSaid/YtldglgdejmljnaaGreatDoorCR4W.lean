/- The reference's tokens: fields, items. No statement is proved here. -/
import Derived.Test.YtldglgdejmljnaaGreatDoorCR4V
namespace Go.Proofs.YtldglgdejmljnaaGreatDoor
open Go.RowKit
attribute [local simp] List.replicate List.range List.range.loop resA resOne retA AV.cuts AV.cut AObj.cut trim wkR wkT wkL wkN wkNR wkNL
set_option linter.unusedVariables false
set_option linter.unusedSimpArgs false

/-- the lists of tokens that stand so far -/
theorem pre_ts {α : Type} (f : α → List ByteArray) (l : List α) : ∃ F : Nat → List (List PV), F 0 = [] ∧ tss (l.map f) = .sl 1 (F l.length) ∧ (∀ q (h : q < l.length), F (q + 1) = F q ++ [[strs (f l[q])]]) ∧ ∀ q, q ≤ l.length → (F q).length = q :=
  ⟨fun q => (l.take q).map fun t => [strs (f t)], rfl, by
    show _ = PV.sl 1 ((l.take l.length).map _)
    rw [List.take_length]; simp [tss, Function.comp_def], fun q h => by
    show (l.take (q + 1)).map _ = _
    rw [take_snoc _ h, List.map_append]; rfl, fun q h => by rw [List.length_map, List.length_take]; omega⟩
set_option maxRecDepth 100000 in
set_option maxHeartbeats 4000000 in
theorem r4FieldsC (l : List Fi) (hn : l.length ≤ 20000) (hty : ∀ f ∈ l, ∀ S, ADet Tryz.prog 9 [tyV f.type] S (.p (strs f.type.tk)) S) (hb : tl (commas (l.map fieldTk)) ≤ 3000000000) (S : ASt) : ADet Tryz.prog 88 [.p (.sl 4 (l.map Fi.enc)), B false] S (.p (strs (commas (l.map fieldTk)))) S := by
  have hlen : l.length ≤ maxLen := sm_max hn
  have hj := fun S => joinedC (l.map fieldTk) (by simpa using hn) (by omega) S
  obtain ⟨F, h0, hz, hT, hL⟩ := pre_ts fieldTk l
  have hsm : ∀ q (h : q < l.length), tl (fieldTk l[q]) ≤ 3000000000 := fun q h => by
    have h2 : q < (l.map fieldTk).length := by simpa using h
    have := tl_commas_take (l.map fieldTk) (q + 1)
    rw [List.take_succ_eq_append_getElem h2, commas_snoc, tl_append, tl_append, List.getElem_map] at this
    omega
  rw [hz] at hj
  generalize commas (l.map fieldTk) = cm at *
  refine ADet.intro mixed Tryz.call88 Tryz.func88 rfl ?_
  simp [Tryz.ntmps88]
  refine awp_loopG 25 1 (by decide) [] (fun q : Nat => q ≤ l.length) (fun q => ([.p (.sl 4 (l.map Fi.enc)), B false, .any, .any, .any, .osl 1 (F q) 0 0, I q] ++ List.replicate 53 .any)) (fun q => [.tok 25 1 q] :: S) (fun q => l.length - q) 0 (Nat.zero_le _) ?_ ?_ ?_ ?_
  · simp [h0]
  · simp [h0]
  · rfl
  intro q hq
  have hLq := hL q hq
  by_cases hlt : q < l.length
  · have hT := hT q hlt
    have hx := hty _ (List.getElem_mem hlt)
    have hsq := hsm q hlt
    unfold fieldTk at hT hsq
    generalize hxq : l[q] = f at *
    simp only [tl_cons] at hsq
    have hln := len_tl f.type.tk
    generalize f.type.tk = tt at *
    simp [hlt, hxq, Fi.enc]
    refine ⟨_, _, hx _, ?_⟩
    simp [strs, hLq]
    repeat (rw [if_pos (by omega)]; (try simp [strs, hLq]))
    exact ⟨q + 1, hlt, by omega, ⟨by rw [hT]; simp [strs], wrap_succ hlt⟩, rfl⟩
  · have : q = l.length := by omega
    subst this
    simp
    refine ⟨_, _, ADet.toP (as1 := []) (as2 := []) (q := .sl 1 (F l.length)) (by simp [AV.toP]) (hj _), ?_⟩
    simp
set_option maxRecDepth 100000 in
set_option maxHeartbeats 4000000 in
theorem r4VariantsC (l : List Fi) (hn : l.length ≤ 20000) (hty : ∀ f ∈ l, f.type.kind ≠ 0 → ∀ S, ADet Tryz.prog 9 [tyV f.type] S (.p (strs f.type.tk)) S) (hb : tl (commas (l.map varTk)) ≤ 3000000000) (S : ASt) : ADet Tryz.prog 88 [.p (.sl 4 (l.map Fi.enc)), B true] S (.p (strs (commas (l.map varTk)))) S := by
  have hlen : l.length ≤ maxLen := sm_max hn
  have hj := fun S => joinedC (l.map varTk) (by simpa using hn) (by omega) S
  obtain ⟨F, h0, hz, hT, hL⟩ := pre_ts varTk l
  have hsm : ∀ q (h : q < l.length), tl (varTk l[q]) ≤ 3000000000 := fun q h => by
    have h2 : q < (l.map varTk).length := by simpa using h
    have := tl_commas_take (l.map varTk) (q + 1)
    rw [List.take_succ_eq_append_getElem h2, commas_snoc, tl_append, tl_append, List.getElem_map] at this
    omega
  rw [hz] at hj
  generalize commas (l.map varTk) = cm at *
  refine ADet.intro mixed Tryz.call88 Tryz.func88 rfl ?_
  simp [Tryz.ntmps88]
  refine awp_loopG 25 1 (by decide) [] (fun q : Nat => q ≤ l.length) (fun q => ([.p (.sl 4 (l.map Fi.enc)), B true, .any, .any, .any, .osl 1 (F q) 0 0, I q] ++ List.replicate 53 .any)) (fun q => [.tok 25 1 q] :: S) (fun q => l.length - q) 0 (Nat.zero_le _) ?_ ?_ ?_ ?_
  · simp [h0]
  · simp [h0]
  · rfl
  intro q hq
  have hLq := hL q hq
  by_cases hlt : q < l.length
  · have hT := hT q hlt
    have hx := hty _ (List.getElem_mem hlt)
    have hsq := hsm q hlt
    unfold varTk at hT hsq
    generalize hxq : l[q] = f at *
    by_cases hk : f.type.kind = 0
    · have t0 : (f.type.kind != 0) = false := by simp [hk]
      rw [if_pos hk] at hT
      simp [hlt, hxq, Fi.enc, t0, hLq]
      repeat (rw [if_pos (by omega)]; (try simp [strs, hLq]))
      exact ⟨q + 1, hlt, by omega, ⟨by rw [hT]; simp [strs], wrap_succ hlt⟩, rfl⟩
    · have t0 : (f.type.kind != 0) = true := by simp [hk]
      have hx := hx hk
      rw [if_neg hk] at hT hsq
      simp only [tl_cons, tl_append] at hsq
      have hln := len_tl f.type.tk
      generalize f.type.tk = tt at *
      simp [hlt, hxq, Fi.enc, t0]
      refine ⟨_, _, hx _, ?_⟩
      simp [strs, hLq]
      repeat (rw [if_pos (by omega)]; (try simp [strs, hLq]))
      exact ⟨q + 1, hlt, by omega, ⟨by rw [hT]; simp [strs], wrap_succ hlt⟩, rfl⟩
  · have : q = l.length := by omega
    subst this
    simp
    refine ⟨_, _, ADet.toP (as1 := []) (as2 := []) (q := .sl 1 (F l.length)) (by simp [AV.toP]) (hj _), ?_⟩
    simp

/-- the reference writes the same tokens of an item -/
def R4I (x : It) : Prop := ∀ S, ADet Tryz.prog 58 [itV x] S (.p (strs x.tk)) S
set_option maxRecDepth 100000 in
set_option maxHeartbeats 4000000 in
theorem r4Item1 (x : It) (hop : x.kind = 1) (hfs : ∀ S, ADet Tryz.prog 88 [.p (.sl 4 (x.fields.map Fi.enc)), B false] S (.p (strs (commas (x.fields.map fieldTk)))) S) (hb : tl x.tk ≤ 3000000000) : R4I x := by
  intro S
  have T : ∀ m : Int, (x.kind == m) = ((1 : Int) == m) := fun m => by rw [hop]
  have htk : x.tk = (⟨#[115, 116, 114, 117, 99, 116]⟩ : ByteArray) :: x.name :: (⟨#[123]⟩ : ByteArray) :: (commas (x.fields.map fieldTk) ++ [(⟨#[125]⟩ : ByteArray)]) := by unfold It.tk; rw [if_pos hop]
  have hln := len_tl x.tk
  rw [htk] at hb hln ⊢
  simp only [tl_cons, tl_append] at hb
  simp only [List.length_append, List.length_cons, List.length_nil] at hln
  simp only [tl_cons, tl_append, tl_nil] at hln
  generalize commas (x.fields.map fieldTk) = cm at *
  refine ADet.intro mixed Tryz.call58 Tryz.func58 rfl ?_
  simp [Tryz.ntmps58, T]
  refine ⟨_, _, hfs _, ?_⟩
  simp [strs, T]
  repeat (rw [if_pos (by omega)]; (try simp [strs, T]))
set_option maxRecDepth 100000 in
set_option maxHeartbeats 4000000 in
theorem r4Item2 (x : It) (hop : x.kind = 2) (hfs : ∀ S, ADet Tryz.prog 88 [.p (.sl 4 (x.fields.map Fi.enc)), B true] S (.p (strs (commas (x.fields.map varTk)))) S) (hb : tl x.tk ≤ 3000000000) : R4I x := by
  intro S
  have T : ∀ m : Int, (x.kind == m) = ((2 : Int) == m) := fun m => by rw [hop]
  have htk : x.tk = (⟨#[101, 110, 117, 109]⟩ : ByteArray) :: x.name :: (⟨#[123]⟩ : ByteArray) :: (commas (x.fields.map varTk) ++ [(⟨#[125]⟩ : ByteArray)]) := by unfold It.tk; rw [if_neg (by omega), if_pos hop]
  have hln := len_tl x.tk
  rw [htk] at hb hln ⊢
  simp only [tl_cons, tl_append] at hb
  simp only [List.length_append, List.length_cons, List.length_nil] at hln
  simp only [tl_cons, tl_append, tl_nil] at hln
  generalize commas (x.fields.map varTk) = cm at *
  refine ADet.intro mixed Tryz.call58 Tryz.func58 rfl ?_
  simp [Tryz.ntmps58, T]
  refine ⟨_, _, hfs _, ?_⟩
  simp [strs, T]
  repeat (rw [if_pos (by omega)]; (try simp [strs, T]))
set_option maxRecDepth 100000 in
set_option maxHeartbeats 4000000 in
theorem r4Item3 (x : It) (hop : x.kind = 3) (hfs : ∀ S, ADet Tryz.prog 88 [.p (.sl 4 (x.fields.map Fi.enc)), B false] S (.p (strs (commas (x.fields.map fieldTk)))) S) (hty : ∀ S, ADet Tryz.prog 9 [tyV x.result] S (.p (strs x.result.tk)) S)
    (hs : ∀ s ∈ x.body, R4S s) (hbn : x.body.length ≤ 20000) (hx : R4 x.ret) (hb : tl x.tk ≤ 3000000000) : R4I x := by
  intro S
  have T : ∀ m : Int, (x.kind == m) = ((3 : Int) == m) := fun m => by rw [hop]
  have htk : x.tk = (⟨#[102, 110]⟩ : ByteArray) :: x.name :: (⟨#[40]⟩ : ByteArray) :: (commas (x.fields.map fieldTk) ++ (⟨#[41]⟩ : ByteArray) :: (⟨#[45, 62]⟩ : ByteArray) :: (x.result.tk ++ (⟨#[123]⟩ : ByteArray) :: (x.body.flatMap St.tk ++ (x.ret.tk ++ [(⟨#[125]⟩ : ByteArray)])))) := by unfold It.tk; rw [if_neg (by omega), if_neg (by omega)]
  have hln := len_tl x.tk
  rw [htk] at hb hln ⊢
  simp only [tl_cons, tl_append] at hb
  simp only [List.length_append, List.length_cons, List.length_nil] at hln
  simp only [tl_cons, tl_append, tl_nil] at hln
  have hst := fun S => r4StmtsC x.body hs hbn (by omega) S
  generalize commas (x.fields.map fieldTk) = cm at *
  generalize x.body.flatMap St.tk = bt at *
  unfold R4 at hx
  generalize x.ret.tk = rt at *
  generalize x.result.tk = tt at *
  refine ADet.intro mixed Tryz.call58 Tryz.func58 rfl ?_
  simp [Tryz.ntmps58, T]
  refine ⟨_, _, hfs _, ?_⟩
  simp [strs, T]
  repeat (rw [if_pos (by omega)]; (try simp [strs, T]))
  refine ⟨_, _, hty _, ?_⟩
  simp [strs, T]
  repeat (rw [if_pos (by omega)]; (try simp [strs, T]))
  refine ⟨_, _, hst _, ?_⟩
  simp [strs, T]
  repeat (rw [if_pos (by omega)]; (try simp [strs, T]))
  refine ⟨_, _, hx _, ?_⟩
  simp [strs, T]
  repeat (rw [if_pos (by omega)]; (try simp [strs, T]))
end Go.Proofs.YtldglgdejmljnaaGreatDoor
