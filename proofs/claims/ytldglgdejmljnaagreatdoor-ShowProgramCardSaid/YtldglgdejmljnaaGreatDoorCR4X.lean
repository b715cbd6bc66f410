/- The reference's text of a program. No statement is proved here. -/
import Derived.Test.YtldglgdejmljnaaGreatDoorCR4W
import Derived.Test.YtldglgdejmljnaaGreatDoorCShI
namespace Go.Proofs.YtldglgdejmljnaaGreatDoor
open Go.RowKit
attribute [local simp] List.replicate List.range List.range.loop resA resOne retA AV.cuts AV.cut AObj.cut trim wkR wkT wkL wkN wkNR wkNL
set_option linter.unusedVariables false
set_option linter.unusedSimpArgs false

/-- all in an item is short -/
def ItTl (x : It) : Prop := tl x.tk ≤ 1000000 ∧ ExTl x.ret ∧ (∀ s ∈ x.body, StTl s)
theorem r4ItemC (x : It) (d0 : Int) (hw : x.whole d0 = true) (hsm : ItSm x) (hr : ItRg x) (ht : ItTl x) : R4I x := by
  obtain ⟨ht0, ht1, ht2⟩ := ht
  obtain ⟨s1, s2, s3, s4, s5⟩ := hsm
  have hb : tl x.tk ≤ 3000000000 := by omega
  have hcom : ∀ (f : Fi → List ByteArray) (q : Fi), q ∈ x.fields → tl (f q) ≤ tl (commas (x.fields.map f)) := fun f q hq => by
    obtain ⟨i, hi, rfl⟩ := List.mem_iff_getElem.1 hq
    have h2 : i < (x.fields.map f).length := by simpa using hi
    have := tl_commas_take (x.fields.map f) (i + 1)
    rw [List.take_succ_eq_append_getElem h2, commas_snoc, tl_append, tl_append, List.getElem_map] at this
    omega
  unfold It.whole at hw
  split at hw
  · rename_i hk
    simp only [Bool.and_eq_true] at hw
    have hf := allUp_mem hw.2
    rcases hk with hk | hk
    · have hcm : tl (commas (x.fields.map fieldTk)) ≤ 1000000 := by
        have htk : x.tk = (⟨#[115, 116, 114, 117, 99, 116]⟩ : ByteArray) :: x.name :: (⟨#[123]⟩ : ByteArray) :: (commas (x.fields.map fieldTk) ++ [(⟨#[125]⟩ : ByteArray)]) := by unfold It.tk; rw [if_pos hk]
        rw [htk] at ht0; simp only [tl_cons, tl_append] at ht0; omega
      rw [hk] at hf
      refine r4Item1 x hk (fun S => r4FieldsC x.fields s2.1 (fun f hm S => ?_) (by omega) S) hb
      have hwt := (fld_whole (hf f hm)).resolve_left fun e => by have := e.1; omega
      have hq := Nat.le_trans (hcom fieldTk f hm) hcm
      have hq2 : tl f.type.tk ≤ tl (fieldTk f) := by unfold fieldTk; simp only [tl_cons]; omega
      exact r4TypeC f.type _ hwt (by omega) S
    · have hcm : tl (commas (x.fields.map varTk)) ≤ 1000000 := by
        have htk : x.tk = (⟨#[101, 110, 117, 109]⟩ : ByteArray) :: x.name :: (⟨#[123]⟩ : ByteArray) :: (commas (x.fields.map varTk) ++ [(⟨#[125]⟩ : ByteArray)]) := by unfold It.tk; rw [if_neg (by omega), if_pos hk]
        rw [htk] at ht0; simp only [tl_cons, tl_append] at ht0; omega
      rw [hk] at hf
      refine r4Item2 x hk (fun S => r4VariantsC x.fields s2.1 (fun f hm hkk S => ?_) (by omega) S) hb
      have hwt := (fld_whole (hf f hm)).resolve_left fun e => hkk e.2
      have hq := Nat.le_trans (hcom varTk f hm) hcm
      have hq2 : tl f.type.tk ≤ tl (varTk f) := by unfold varTk; rw [if_neg hkk]; simp only [tl_cons, tl_append]; omega
      exact r4TypeC f.type _ hwt (by omega) S
  · split at hw
    · rename_i hk
      simp only [Bool.and_eq_true] at hw
      obtain ⟨_, hf, hres, _, hx, hbd⟩ := hw
      have hf := allUp_mem hf
      have htk : x.tk = (⟨#[102, 110]⟩ : ByteArray) :: x.name :: (⟨#[40]⟩ : ByteArray) :: (commas (x.fields.map fieldTk) ++ (⟨#[41]⟩ : ByteArray) :: (⟨#[45, 62]⟩ : ByteArray) :: (x.result.tk ++ (⟨#[123]⟩ : ByteArray) :: (x.body.flatMap St.tk ++ (x.ret.tk ++ [(⟨#[125]⟩ : ByteArray)])))) := by unfold It.tk; rw [if_neg (by omega), if_neg (by omega)]
      have ht3 := ht0
      rw [htk] at ht3
      simp only [tl_cons, tl_append] at ht3
      refine r4Item3 x hk (fun S => r4FieldsC x.fields s2.1 (fun f hm S => ?_) (by omega) S) (fun S => r4TypeC x.result _ hres (by omega) S) (fun s hs => r4StmtC s _ (List.all_eq_true.1 hbd s hs) (s4.2 s hs) (hr.2 s hs) (ht2 s hs)) s4.1 (r4ExprC printOK x.ret _ hx s5 hr.1 ht1) hb
      have hwt := (fld_whole (hf f hm)).resolve_left fun e => by have := e.1; omega
      have hq := Nat.le_trans (hcom fieldTk f hm) (show tl (commas (x.fields.map fieldTk)) ≤ 1000000 by omega)
      have hq2 : tl f.type.tk ≤ tl (fieldTk f) := by unfold fieldTk; simp only [tl_cons]; omega
      exact r4TypeC f.type _ hwt (by omega) S
    · cases hw

theorem progB_size (l : List It) : (progB l).size ≤ tsum (fun x => tl x.tk + 1) l := by
  rw [← pgs_bytes]; exact pgs_size l
theorem progB_snoc (l : List It) {q : Nat} (h : q < l.length) : progB (l.take (q + 1)) = progB (l.take q) ++ itemB l[q] := by
  unfold progB
  rw [take_snoc _ h, List.foldl_append]; rfl
set_option maxRecDepth 100000 in
set_option maxHeartbeats 4000000 in
theorem r4ProgramC (l : List It) (hW : ∀ S, ADet Tryz.prog 57 [.agg [.p (prog l)]] S (B (prWhole l)) S) (hl : prWhole l = true → ∀ x ∈ l, R4I x) (hn : l.length ≤ 20000) (hlt : ∀ x ∈ l, tl x.tk ≤ 1000000) (hb : tsum (fun x => tl x.tk + 1) l ≤ 3000000000) (S : ASt) : ADet Tryz.prog 21 [.agg [.p (prog l)]] S (Sg (if prWhole l then progB l else emS)) S := by
  have hlen : l.length ≤ maxLen := sm_max hn
  refine ADet.intro mixed Tryz.call21 Tryz.func21 rfl ?_
  simp [Tryz.ntmps21]
  refine ⟨_, _, hW _, ?_⟩
  cases hw : prWhole l with
  | false => simp
  | true =>
    have hl := hl hw
    simp [prog]
    refine awp_loopG 5 1 (by decide) [.cells [.p (.sl 16 (l.map It.enc))] 46] (fun q : Nat => q ≤ l.length) (fun q => ([.any, .ptr 0 0 0, .any, .osl 1 (bytesR (progB (l.take q))) 0 1, I q] ++ List.replicate 24 .any)) (fun q => [.cells [.p (.sl 16 (l.map It.enc))] 46, .tok 5 1 (progB (l.take q)).size] :: S) (fun q => l.length - q) 0 (Nat.zero_le _) ?_ ?_ ?_ ?_
    · simp [progB, bytesR]
    · simp
    · rfl
    intro q hq
    by_cases hlt2 : q < l.length
    · have hT := progB_snoc l hlt2
      have hsz := progB_size (l.take (q + 1))
      have htt := tsum_take (fun x : It => tl x.tk + 1) l (q + 1)
      have hx := hl _ (List.getElem_mem hlt2)
      have hxt := hlt _ (List.getElem_mem hlt2)
      rw [hT] at hsz
      generalize hxq : l[q] = x at *
      have hln := len_tl x.tk
      have hli := fun S => lineC x.tk (by omega) (by omega) S
      unfold R4I at hx
      unfold itemB at hT hsz
      have h1 : (⟨#[10]⟩ : ByteArray).size = 1 := rfl
      have hr10 : bytesR (⟨#[10]⟩ : ByteArray) = [[.v (.int .u8 10)]] := rfl
      rw [ByteArray.size_append, ByteArray.size_append, h1] at hsz
      generalize x.tk = tk at *
      generalize progB (l.take q) = b at *
      generalize lineB tk = c at *
      have e1 : b.size + c.size ≤ 4294967296 := by omega
      have e2 : b.size + c.size + 1 ≤ 4294967296 := by omega
      simp [hlt2, hxq, It.enc, strs]
      refine ⟨_, _, hx _, ?_⟩
      simp [strs]
      refine ⟨_, _, hli _, ?_⟩
      simp [appS, bytesR_len, e1, e2]
      exact ⟨q + 1, hlt2, by omega, ⟨by rw [hT, bytesR_append, bytesR_append, hr10]; try simp, wrap_succ hlt2⟩, by rw [hT, ByteArray.size_append, ByteArray.size_append, h1]; try omega⟩
    · have : l.take q = l := List.take_of_length_le (by omega)
      simp [hlt2, this, bytesOf_bytesR]
end Go.Proofs.YtldglgdejmljnaaGreatDoor
