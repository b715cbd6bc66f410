/- autos.asks's iterator in the logic over abstract values. No statement is proved here. -/
import Derived.Test.YtnblhbpfgdjnkaaGreatDoorAuA
namespace Go.Proofs.YtnblhbpfgdjnkaaGreatDoor
open Go.RowKit
attribute [local simp] List.replicate List.range List.range.loop resA resOne retA AV.cuts AV.cut AObj.cut trim wkR wkT wkL wkN wkNR wkNL wkM wkMR wkML
set_option linter.unusedVariables false
set_option linter.unusedSimpArgs false
theorem ADet.lessTu {P : Program} {F : FuncId} {xs : List AV} {S S' : ASt} {l l' : List AV} (hle : LeAs l l') (h : ADet P F xs S (.tup l) S') : ADet P F xs S (.tup l') S' :=
  ⟨h.1, fun Pr φ ys w hargs hR hne => (h.2 Pr φ ys w hargs hR hne).mono fun e w' hp => by
    obtain ⟨x, Pr', φ', h1, h2, h3, h4⟩ := hp
    refine ⟨x, Pr', φ', h1, h2, h3, ?_⟩
    cases h4 with
    | tup k1 k2 =>
      obtain ⟨hl, hk⟩ := (leA_both (Pr := Pr') (φ := φ')).2 hle
      exact .tup (hl ▸ k1) fun j c y hc hy => by
        obtain ⟨v, m1, m2⟩ := hk j c hc
        exact m2 (k2 j v y m1 hy)⟩
def jB : Bool → Option Code
  | true => some (.exit 0)
  | false => none
theorem fields_sm {p : List It} (h : PrSm p) (nm : ByteArray) : ((fieldsT p nm).getD []).length ≤ 20000 := by
  unfold fieldsT
  cases hx : firstIt p nm with
  | none => simp
  | some x =>
    simp only
    split
    · exact (first_sm h hx).2.1.1
    · simp
set_option maxRecDepth 100000 in
set_option maxHeartbeats 32000000 in
theorem asksItC (p : List It) (hp : PrSm p) (t : Ty) (ht : TySm t) (b : Bool) {α : Type} (f : Qn → α → Option (Bool × α)) (G : α → ASt) (i1 : Nat) (hq : ∀ a, get2 (G a) 0 i1 = some (.cells (qCs t b) 90)) (hpp : ∀ a, get2 (G a) 0 (i1 + 1) = some (.cells [.p (prog p)] 24)) (lp : Nat) (R : Option Code → List AObj)
    (hY : ∀ (L : List AObj) (u : Ty) (c : Bool) (a : α) (r : Bool × α), (u, c) ∈ asksL p t b → f (u, c) a = some r → YDet Tryz.prog lp [qV u c] (L :: R none :: G a) (B (!r.1)) (L :: R (jB r.1) :: G r.2))
    (a : α) (r : Bool × α) (hr : askAll f (asksL p t b) a = some r) :
    ADet Tryz.prog 126 [.fn (.yield lp) [] [], .ptr 1 i1 0, .ptr 1 (i1 + 1) 0] (R none :: G a) .un (R (jB r.1) :: G r.2) := by
  have hA : asksL p t b = _ := rfl
  unfold asksL at hr
  conv at hA => rhs; unfold asksL
  refine ADet.introQ mixed Tryz.call126 Tryz.func126 rfl (by kernel_rfl) ?_
  by_cases h4 : t.kind = 4
  · rw [if_pos h4] at hr hA
    obtain ⟨l, ok, fC, hlen, hA, hr⟩ : ∃ (l : List Fi) (ok : Bool), (∀ S, ADet Tryz.prog 48 [.agg [.p (prog p)], Sg t.name] S (.tup [.p (.sl 4 (l.map Fi.enc)), B ok]) S) ∧ l.length ≤ 20000 ∧ asksL p t b = l.map (fun g => (g.type, b)) ∧ askAll f (l.map fun g => (g.type, b)) a = some r := by
      have hs := fields_sm hp t.name
      have fC := fun S => tabFieldsC p hp t.name S
      cases hF : fieldsT p t.name with
      | none =>
        rw [hF] at fC hr hs hA
        exact ⟨[], false, fun S => ADet.lessTu (.cons (.p (.nil 4)) (.refl _)) (fC S), by simp, hA, hr⟩
      | some l =>
        rw [hF] at fC hr hs hA
        exact ⟨l, true, fC, hs, hA, hr⟩
    simp [Tryz.ntmps126, hq, hpp, h4]
    refine ⟨_, _, fC _, ?_⟩
    simp
    refine awq_loop (fun (x : Nat × α) => x.1 ≤ l.length ∧ askAll f ((l.drop x.1).map fun g => (g.type, b)) x.2 = some r) (fun x => ([.fn (.yield lp) [] [], .ptr 2 i1 0, .ptr 2 (i1 + 1) 0] ++ (List.replicate 20 .any ++ ([.p (.sl 4 (l.map Fi.enc)), I l.length, I x.1] ++ List.replicate 63 .any)))) (fun x => [] :: R none :: G x.2) (fun x => l.length - x.1) (0, a) ⟨Nat.zero_le _, by simpa using hr⟩ ?_ ?_ ?_
    · simp
    · simp
    rintro ⟨q, a'⟩ ⟨hq', hr'⟩
    simp only at hq' hr'
    by_cases hlt : q < l.length
    · have hlt' : (q : Int) < (l.length : Int) := by omega
      have hd : l.drop q = l[q] :: l.drop (q + 1) := List.drop_eq_getElem_cons hlt
      have hw := wrap_succ hlt (by unfold maxLen; omega)
      rw [hd] at hr'
      have hm : (l[q].type, b) ∈ asksL p t b := by rw [hA]; exact List.mem_map.2 ⟨l[q], List.getElem_mem hlt, rfl⟩
      generalize he : l[q] = g at *
      simp only [List.map_cons, askAll] at hr'
      cases hfq : f (g.type, b) a' with
      | none => rw [hfq] at hr'; cases hr'
      | some s =>
      obtain ⟨s1, a2⟩ := s
      have y := fun L => hY L g.type b a' _ hm hfq
      rw [hfq] at hr'
      simp [hlt, hlt', he, Fi.enc, hq, hpp]
      refine ⟨_, _, y _, ?_⟩
      cases s1 with
      | true =>
        cases hr'
        simp [jB]
      | false =>
        simp [jB, -Bool.exists_bool]
        exact ⟨q + 1, a2, ⟨hlt, by simpa using hr'⟩, by omega, by simp [hw]⟩
    · have hlt' : ¬ (q : Int) < (l.length : Int) := by omega
      rw [List.drop_of_length_le (by omega)] at hr'
      cases hr'
      simp [hlt', jB]
  · rw [if_neg h4] at hr hA
    have h4' : (t.kind == 4) = false := by simpa using h4
    have hlen : t.args.length ≤ 20000 := by obtain ⟨_, _, h, _⟩ := ht; exact h
    simp [Tryz.ntmps126, hq, hpp, h4']
    refine awq_loop (fun (x : Nat × α) => x.1 ≤ t.args.length ∧ askAll f ((t.args.drop x.1).flatMap (asksArg t.kind b)) x.2 = some r) (fun x => ([.fn (.yield lp) [] [], .ptr 2 i1 0, .ptr 2 (i1 + 1) 0] ++ (List.replicate 37 .any ++ ([.p (.sl 3 (t.args.map Ty.enc)), I t.args.length, I x.1] ++ List.replicate 46 .any)))) (fun x => [] :: R none :: G x.2) (fun x => t.args.length - x.1) (0, a) ⟨Nat.zero_le _, by simpa using hr⟩ ?_ ?_ ?_
    · simp
    · simp
    rintro ⟨q, a'⟩ ⟨hq', hr'⟩
    simp only at hq' hr'
    by_cases hlt : q < t.args.length
    · have hlt' : (q : Int) < (t.args.length : Int) := by omega
      have hd : t.args.drop q = t.args[q] :: t.args.drop (q + 1) := List.drop_eq_getElem_cons hlt
      have hw := wrap_succ hlt (by unfold maxLen; omega)
      rw [hd] at hr'
      have hm : ∀ (c : Bool), (t.args[q], c) ∈ asksArg t.kind b t.args[q] → (t.args[q], c) ∈ asksL p t b := fun c hc => by rw [hA]; exact List.mem_flatMap.2 ⟨_, List.getElem_mem hlt, hc⟩
      generalize he : t.args[q] = x at *
      simp only [List.flatMap_cons] at hr'
      by_cases h8 : t.kind = 8
      · have ha : asksArg t.kind b x = [(x, false), (x, true)] := by unfold asksArg; rw [if_pos h8]
        simp only [ha, List.cons_append, List.nil_append, askAll] at hr'
        cases hfq : f (x, false) a' with
        | none => rw [hfq] at hr'; cases hr'
        | some s =>
        obtain ⟨s1, a2⟩ := s
        have y := fun L => hY L x false a' _ (hm false (by rw [ha]; simp)) hfq
        rw [hfq] at hr'
        simp [hlt, hlt', he, tyEnc, hq, hpp, h8]
        refine ⟨_, _, y _, ?_⟩
        cases s1 with
        | true =>
          cases hr'
          simp [jB]
        | false =>
          simp only at hr'
          cases hfq2 : f (x, true) a2 with
          | none => rw [hfq2] at hr'; cases hr'
          | some s =>
          obtain ⟨s2, a3⟩ := s
          have y2 := fun L => hY L x true a2 _ (hm true (by rw [ha]; simp)) hfq2
          rw [hfq2] at hr'
          simp [jB]
          refine ⟨_, _, y2 _, ?_⟩
          cases s2 with
          | true =>
            cases hr'
            simp [jB]
          | false =>
            simp [jB, -Bool.exists_bool]
            exact ⟨q + 1, a3, ⟨hlt, by simpa [h8] using hr'⟩, by omega, by simp [hw]⟩
      have h8' : (t.kind == 8) = false := by simpa using h8
      by_cases h9 : t.kind = 9
      · have ha : asksArg t.kind b x = [(x, false)] := by unfold asksArg; rw [if_neg h8, if_pos (by omega)]
        simp only [ha, List.cons_append, List.nil_append, askAll] at hr'
        cases hfq : f (x, false) a' with
        | none => rw [hfq] at hr'; cases hr'
        | some s =>
        obtain ⟨s1, a2⟩ := s
        have y := fun L => hY L x false a' _ (hm false (by rw [ha]; simp)) hfq
        rw [hfq] at hr'
        simp [hlt, hlt', he, tyEnc, hq, hpp, h9]
        refine ⟨_, _, y _, ?_⟩
        cases s1 with
        | true =>
          cases hr'
          simp [jB]
        | false =>
          simp [jB, -Bool.exists_bool]
          exact ⟨q + 1, a2, ⟨hlt, by simpa [h9] using hr'⟩, by omega, by simp [hw]⟩
      have h9' : (t.kind == 9) = false := by simpa using h9
      by_cases h11 : t.kind = 11
      · have ha : asksArg t.kind b x = [(x, false)] := by unfold asksArg; rw [if_neg h8, if_pos (by omega)]
        simp only [ha, List.cons_append, List.nil_append, askAll] at hr'
        cases hfq : f (x, false) a' with
        | none => rw [hfq] at hr'; cases hr'
        | some s =>
        obtain ⟨s1, a2⟩ := s
        have y := fun L => hY L x false a' _ (hm false (by rw [ha]; simp)) hfq
        rw [hfq] at hr'
        simp [hlt, hlt', he, tyEnc, hq, hpp, h11]
        refine ⟨_, _, y _, ?_⟩
        cases s1 with
        | true =>
          cases hr'
          simp [jB]
        | false =>
          simp [jB, -Bool.exists_bool]
          exact ⟨q + 1, a2, ⟨hlt, by simpa [h11] using hr'⟩, by omega, by simp [hw]⟩
      have h11' : (t.kind == 11) = false := by simpa using h11
      by_cases h12 : t.kind = 12
      · have ha : asksArg t.kind b x = [(x, false)] := by unfold asksArg; rw [if_neg h8, if_pos (by omega)]
        simp only [ha, List.cons_append, List.nil_append, askAll] at hr'
        cases hfq : f (x, false) a' with
        | none => rw [hfq] at hr'; cases hr'
        | some s =>
        obtain ⟨s1, a2⟩ := s
        have y := fun L => hY L x false a' _ (hm false (by rw [ha]; simp)) hfq
        rw [hfq] at hr'
        simp [hlt, hlt', he, tyEnc, hq, hpp, h12]
        refine ⟨_, _, y _, ?_⟩
        cases s1 with
        | true =>
          cases hr'
          simp [jB]
        | false =>
          simp [jB, -Bool.exists_bool]
          exact ⟨q + 1, a2, ⟨hlt, by simpa [h12] using hr'⟩, by omega, by simp [hw]⟩
      have h12' : (t.kind == 12) = false := by simpa using h12
      by_cases h13 : t.kind = 13
      · have ha : asksArg t.kind b x = [(x, true)] := by unfold asksArg; rw [if_neg h8, if_neg (by omega), if_pos h13]
        simp only [ha, List.cons_append, List.nil_append, askAll] at hr'
        cases hfq : f (x, true) a' with
        | none => rw [hfq] at hr'; cases hr'
        | some s =>
        obtain ⟨s1, a2⟩ := s
        have y := fun L => hY L x true a' _ (hm true (by rw [ha]; simp)) hfq
        rw [hfq] at hr'
        simp [hlt, hlt', he, tyEnc, hq, hpp, h13]
        refine ⟨_, _, y _, ?_⟩
        cases s1 with
        | true =>
          cases hr'
          simp [jB]
        | false =>
          simp [jB, -Bool.exists_bool]
          exact ⟨q + 1, a2, ⟨hlt, by simpa [h13] using hr'⟩, by omega, by simp [hw]⟩
      have h13' : (t.kind == 13) = false := by simpa using h13
      · have ha : asksArg t.kind b x = [(x, b)] := by unfold asksArg; rw [if_neg h8, if_neg (by omega), if_neg h13]
        simp only [ha, List.cons_append, List.nil_append, askAll] at hr'
        cases hfq : f (x, b) a' with
        | none => rw [hfq] at hr'; cases hr'
        | some s =>
        obtain ⟨s1, a2⟩ := s
        have y := fun L => hY L x b a' _ (hm b (by rw [ha]; simp)) hfq
        rw [hfq] at hr'
        simp [hlt, hlt', he, tyEnc, hq, hpp, h8', h9', h11', h12', h13']
        refine ⟨_, _, y _, ?_⟩
        cases s1 with
        | true =>
          cases hr'
          simp [jB]
        | false =>
          simp [jB, -Bool.exists_bool]
          exact ⟨q + 1, a2, ⟨hlt, by simpa using hr'⟩, by omega, by simp [hw]⟩
    · have hlt' : ¬ (q : Int) < (t.args.length : Int) := by omega
      rw [List.drop_of_length_le (by omega)] at hr'
      cases hr'
      simp [hlt', jB]
end Go.Proofs.YtnblhbpfgdjnkaaGreatDoor
