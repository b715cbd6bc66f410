/- What is whole, by the reference: items, programs (printed by a program of my own). No statement is proved here. -/
import Derived.Test.YtldglgdejmljnaaGreatDoorCR3V
import Derived.Test.YtldglgdejmljnaaGreatDoorCWhS
namespace Go.Proofs.YtldglgdejmljnaaGreatDoor
open Go.RowKit
attribute [local simp] List.replicate List.range List.range.loop resA resOne retA AV.cuts AV.cut AObj.cut trim wkR wkT wkL wkN wkNR wkNL
set_option linter.unusedVariables false
set_option linter.unusedSimpArgs false

def ItNn (x : It) : Prop := ExNn x.ret ∧ ∀ s ∈ x.body, StNn s
def RI (x : It) : Prop := ∀ (d : Int) (S : ASt), 0 ≤ d → d ≤ 1000 → ADet Tryz.prog 87 [itV x, I d] S (B (x.whole d)) S
set_option maxRecDepth 100000 in
set_option maxHeartbeats 16000000 in
theorem itemR1 (x : It) (hsm : ItSm x) (hnn : ItNn x) (hk : x.kind = 1) : RI x := by
  intro d S hd1 hd2
  obtain ⟨hn, hfs, hty, hbs, hex⟩ := hsm
  have gY := fun S => rtypeC x.name (sm_max hn) S
  have gN := fun S => rnameC x.name (sm_max hn) S
  have gZ := fun S => r3ZeroTyC x.result S
  have gX := fun S => r3ZeroExC x.ret S
  have gT := fun S => rTypeC x.result hty (d - 1) S (by omega) (by omega)
  have gL := fun S => rLentC x.ret S
  have gE := fun S => rExprC x.ret hex hnn.1 (d - 1) S (by omega) (by omega)
  have gB := fun S => r3StmtsC x.body (fun s hs => r3StmtC s (hbs.2 s hs) (hnn.2 s hs)) hbs.1 (d - 1) (by omega) (by omega) S
  have hlen : x.fields.length ≤ maxLen := sm_max hfs.1
  have hwd := wrd d (by omega)
  have hw : x.whole d = (decide (x.fields.length ≤ 6) && (x.fields.all (fieldB 1 d) && (typeB x.name && (zeroTyB x.result && (decide (x.body.length = 0) && zeroExB x.ret))))) := by
    unfold It.whole
    rw [if_pos (by omega), allUp_eq, hk]
    have h6 : decide ((x.fields.length : Int) ≤ 6) = decide (x.fields.length ≤ 6) := by rw [Bool.eq_iff_iff]; simp only [decide_eq_true_eq]; omega
    rw [h6]
    generalize typeB x.name = b1
    generalize zeroTyB x.result = b2
    generalize decide (x.body.length = 0) = b3
    generalize zeroExB x.ret = b4
    generalize decide (x.fields.length ≤ 6) = b5
    generalize x.fields.all (fieldB 1 d) = b6
    cases b1 <;> cases b2 <;> cases b3 <;> cases b4 <;> cases b5 <;> cases b6 <;> rfl
  generalize hR : x.whole d = R at *
  refine ADet.intro mixed Tryz.call87 Tryz.func87 rfl ?_
  by_cases h6 : ¬ x.fields.length ≤ 6
  · have h6' : (6 : Int) < x.fields.length := by omega
    have h6n : ¬ (x.fields.length : Int) ≤ 6 := by omega
    have e : R = false := by rw [hw, decide_eq_false h6, Bool.false_and]
    simp [Tryz.ntmps87, hk, h6', h6n, e]
  have h6 := Decidable.not_not.1 h6
  have h6' : ¬ (6 : Int) < x.fields.length := by omega
  have h6n : (x.fields.length : Int) ≤ 6 := by omega
  rw [decide_eq_true h6, Bool.true_and] at hw
  simp [Tryz.ntmps87, hk, h6', h6n]
  refine awp_loop (fun q : Nat => q ≤ x.fields.length ∧ ∀ i (hi : i < x.fields.length), i < q → fieldB 1 d x.fields[i] = true) (fun q => ([.any, I d, .ptr 0 0 0, .any, .any, I q] ++ List.replicate 112 .any)) (fun q => [.cells [U 1, Sg x.name, .p (.sl 4 (x.fields.map Fi.enc)), U x.result.kind, Sg x.result.name, .p (.sl 3 (x.result.args.map Ty.enc)), .p (.sl 15 (x.body.map St.enc)), U x.ret.op, I x.ret.int, Sg x.ret.name, Sg x.ret.second, Sg x.ret.place.name, .p (strs x.ret.place.path), .p (.sl 8 (x.ret.args.map Ex.enc)), I x.ret.pos, I x.pos] 74] :: S) (fun q => x.fields.length - q) 0 ⟨Nat.zero_le _, fun i hi h => by omega⟩ ?_ ?_ ?_
  · simp
  · simp
  rintro q ⟨hq, hall⟩
  by_cases hlt : q < x.fields.length
  · have hnx : ∀ f, x.fields[q] = f → fieldB 1 d f = true → ∀ i (hi : i < x.fields.length), i < q + 1 → fieldB 1 d x.fields[i] = true := fun f hs hb i hi h => by
      rcases Nat.lt_or_ge i q with h' | h'
      · exact hall i hi h'
      · obtain rfl : i = q := by omega
        rw [hs]; exact hb
    have hno : ∀ f, x.fields[q] = f → fieldB 1 d f = false → R = false := fun f hs hb => by
      have : x.fields.all (fieldB 1 d) = false := by
        rw [List.all_eq_false]
        exact ⟨f, by rw [← hs]; exact List.getElem_mem hlt, by rw [hb]; simp⟩
      rw [hw, this, Bool.false_and]
    have hsf := hfs.2 _ (List.getElem_mem hlt)
    generalize hxq : x.fields[q] = f at *
    have g1 := fun S => rnameC f.name (sm_max hsf.1) S
    have g2 := fun S => r3ZeroTyC f.type S
    have g3 := fun S => rTypeC f.type hsf.2 (d - 1) S (by omega) (by omega)
    have hfb : fieldB 1 d f = (nameB f.name && (f.type.whole (d - 1))) := by unfold fieldB; simp
    simp [hlt, hxq, Fi.enc]
    refine ⟨_, _, g1 _, ?_⟩
    cases h1 : nameB f.name with
    | false =>
      have e := hno f rfl (by rw [hfb, h1, Bool.false_and])
      simp [e]
    | true =>
      simp [hwd]
      refine ⟨_, _, g3 _, ?_⟩
      cases h3 : f.type.whole (d - 1) with
      | false =>
        have e := hno f rfl (by rw [hfb, h1, h3]; rfl)
        simp [e]
      | true =>
        have e := hnx f rfl (by rw [hfb, h1, h3]; rfl)
        simp
        exact ⟨q + 1, ⟨hlt, e⟩, by omega, wrap_succ hlt⟩
  have ha : x.fields.all (fieldB 1 d) = true := by
    rw [List.all_eq_true]
    intro f hf
    obtain ⟨i, hi, rfl⟩ := List.mem_iff_getElem.1 hf
    exact hall i hi (by omega)
  rw [ha, Bool.true_and] at hw
  rw [hw]
  simp [hlt]
  refine ⟨_, _, gY _, ?_⟩
  generalize typeB x.name = c1
  cases c1 with
  | false => simp
  | true =>
    simp
    refine ⟨_, _, gZ _, ?_⟩
    generalize zeroTyB x.result = c2
    cases c2 with
    | false => simp
    | true =>
      by_cases hb : x.body = []
      · simp [hb]
        refine ⟨_, _, gX _, ?_⟩
        simp
      · simp [hb]
set_option maxRecDepth 100000 in
set_option maxHeartbeats 16000000 in
theorem itemR2 (x : It) (hsm : ItSm x) (hnn : ItNn x) (hk : x.kind = 2) : RI x := by
  intro d S hd1 hd2
  obtain ⟨hn, hfs, hty, hbs, hex⟩ := hsm
  have gY := fun S => rtypeC x.name (sm_max hn) S
  have gN := fun S => rnameC x.name (sm_max hn) S
  have gZ := fun S => r3ZeroTyC x.result S
  have gX := fun S => r3ZeroExC x.ret S
  have gT := fun S => rTypeC x.result hty (d - 1) S (by omega) (by omega)
  have gL := fun S => rLentC x.ret S
  have gE := fun S => rExprC x.ret hex hnn.1 (d - 1) S (by omega) (by omega)
  have gB := fun S => r3StmtsC x.body (fun s hs => r3StmtC s (hbs.2 s hs) (hnn.2 s hs)) hbs.1 (d - 1) (by omega) (by omega) S
  have hlen : x.fields.length ≤ maxLen := sm_max hfs.1
  have hwd := wrd d (by omega)
  have hw : x.whole d = (decide (x.fields.length ≤ 6) && (x.fields.all (fieldB 2 d) && (typeB x.name && (zeroTyB x.result && (decide (x.body.length = 0) && zeroExB x.ret))))) := by
    unfold It.whole
    rw [if_pos (by omega), allUp_eq, hk]
    have h6 : decide ((x.fields.length : Int) ≤ 6) = decide (x.fields.length ≤ 6) := by rw [Bool.eq_iff_iff]; simp only [decide_eq_true_eq]; omega
    rw [h6]
    generalize typeB x.name = b1
    generalize zeroTyB x.result = b2
    generalize decide (x.body.length = 0) = b3
    generalize zeroExB x.ret = b4
    generalize decide (x.fields.length ≤ 6) = b5
    generalize x.fields.all (fieldB 2 d) = b6
    cases b1 <;> cases b2 <;> cases b3 <;> cases b4 <;> cases b5 <;> cases b6 <;> rfl
  generalize hR : x.whole d = R at *
  refine ADet.intro mixed Tryz.call87 Tryz.func87 rfl ?_
  by_cases h6 : ¬ x.fields.length ≤ 6
  · have h6' : (6 : Int) < x.fields.length := by omega
    have h6n : ¬ (x.fields.length : Int) ≤ 6 := by omega
    have e : R = false := by rw [hw, decide_eq_false h6, Bool.false_and]
    simp [Tryz.ntmps87, hk, h6', h6n, e]
  have h6 := Decidable.not_not.1 h6
  have h6' : ¬ (6 : Int) < x.fields.length := by omega
  have h6n : (x.fields.length : Int) ≤ 6 := by omega
  rw [decide_eq_true h6, Bool.true_and] at hw
  simp [Tryz.ntmps87, hk, h6', h6n]
  refine awp_loop (fun q : Nat => q ≤ x.fields.length ∧ ∀ i (hi : i < x.fields.length), i < q → fieldB 2 d x.fields[i] = true) (fun q => ([.any, I d, .ptr 0 0 0, .any, .any, I q] ++ List.replicate 112 .any)) (fun q => [.cells [U 2, Sg x.name, .p (.sl 4 (x.fields.map Fi.enc)), U x.result.kind, Sg x.result.name, .p (.sl 3 (x.result.args.map Ty.enc)), .p (.sl 15 (x.body.map St.enc)), U x.ret.op, I x.ret.int, Sg x.ret.name, Sg x.ret.second, Sg x.ret.place.name, .p (strs x.ret.place.path), .p (.sl 8 (x.ret.args.map Ex.enc)), I x.ret.pos, I x.pos] 74] :: S) (fun q => x.fields.length - q) 0 ⟨Nat.zero_le _, fun i hi h => by omega⟩ ?_ ?_ ?_
  · simp
  · simp
  rintro q ⟨hq, hall⟩
  by_cases hlt : q < x.fields.length
  · have hnx : ∀ f, x.fields[q] = f → fieldB 2 d f = true → ∀ i (hi : i < x.fields.length), i < q + 1 → fieldB 2 d x.fields[i] = true := fun f hs hb i hi h => by
      rcases Nat.lt_or_ge i q with h' | h'
      · exact hall i hi h'
      · obtain rfl : i = q := by omega
        rw [hs]; exact hb
    have hno : ∀ f, x.fields[q] = f → fieldB 2 d f = false → R = false := fun f hs hb => by
      have : x.fields.all (fieldB 2 d) = false := by
        rw [List.all_eq_false]
        exact ⟨f, by rw [← hs]; exact List.getElem_mem hlt, by rw [hb]; simp⟩
      rw [hw, this, Bool.false_and]
    have hsf := hfs.2 _ (List.getElem_mem hlt)
    generalize hxq : x.fields[q] = f at *
    have g1 := fun S => rtypeC f.name (sm_max hsf.1) S
    have g2 := fun S => r3ZeroTyC f.type S
    have g3 := fun S => rTypeC f.type hsf.2 (d - 1) S (by omega) (by omega)
    have hfb : fieldB 2 d f = (typeB f.name && (zeroTyB f.type || f.type.whole (d - 1))) := by unfold fieldB; simp
    simp [hlt, hxq, Fi.enc]
    refine ⟨_, _, g1 _, ?_⟩
    cases h1 : typeB f.name with
    | false =>
      have e := hno f rfl (by rw [hfb, h1, Bool.false_and])
      simp [e]
    | true =>
      simp
      refine ⟨_, _, g2 _, ?_⟩
      cases h2 : zeroTyB f.type with
      | true =>
        have e := hnx f rfl (by rw [hfb, h1, h2]; rfl)
        simp
        exact ⟨q + 1, ⟨hlt, e⟩, by omega, wrap_succ hlt⟩
      | false =>
        simp [hwd]
        refine ⟨_, _, g3 _, ?_⟩
        cases h3 : f.type.whole (d - 1) with
        | false =>
          have e := hno f rfl (by rw [hfb, h1, h2, h3]; rfl)
          simp [e]
        | true =>
          have e := hnx f rfl (by rw [hfb, h1, h2, h3]; rfl)
          simp
          exact ⟨q + 1, ⟨hlt, e⟩, by omega, wrap_succ hlt⟩
  have ha : x.fields.all (fieldB 2 d) = true := by
    rw [List.all_eq_true]
    intro f hf
    obtain ⟨i, hi, rfl⟩ := List.mem_iff_getElem.1 hf
    exact hall i hi (by omega)
  rw [ha, Bool.true_and] at hw
  rw [hw]
  simp [hlt]
  refine ⟨_, _, gY _, ?_⟩
  generalize typeB x.name = c1
  cases c1 with
  | false => simp
  | true =>
    simp
    refine ⟨_, _, gZ _, ?_⟩
    generalize zeroTyB x.result = c2
    cases c2 with
    | false => simp
    | true =>
      by_cases hb : x.body = []
      · simp [hb]
        refine ⟨_, _, gX _, ?_⟩
        simp
      · simp [hb]
set_option maxRecDepth 100000 in
set_option maxHeartbeats 16000000 in
theorem itemR3 (x : It) (hsm : ItSm x) (hnn : ItNn x) (hk : x.kind = 3) : RI x := by
  intro d S hd1 hd2
  obtain ⟨hn, hfs, hty, hbs, hex⟩ := hsm
  have gY := fun S => rtypeC x.name (sm_max hn) S
  have gN := fun S => rnameC x.name (sm_max hn) S
  have gZ := fun S => r3ZeroTyC x.result S
  have gX := fun S => r3ZeroExC x.ret S
  have gT := fun S => rTypeC x.result hty (d - 1) S (by omega) (by omega)
  have gL := fun S => rLentC x.ret S
  have gE := fun S => rExprC x.ret hex hnn.1 (d - 1) S (by omega) (by omega)
  have gB := fun S => r3StmtsC x.body (fun s hs => r3StmtC s (hbs.2 s hs) (hnn.2 s hs)) hbs.1 (d - 1) (by omega) (by omega) S
  have hlen : x.fields.length ≤ maxLen := sm_max hfs.1
  have hwd := wrd d (by omega)
  have hw : x.whole d = (decide (x.fields.length ≤ 6) && (x.fields.all (fieldB 3 d) && (nameB x.name && (x.result.whole (d - 1) && (!lentOp x.ret.op && (x.ret.whole (d - 1) && x.body.all fun s => s.whole (d - 1))))))) := by
    unfold It.whole
    rw [if_neg (by omega), if_pos hk, allUp_eq]
    have h6 : decide ((x.fields.length : Int) ≤ 6) = decide (x.fields.length ≤ 6) := by rw [Bool.eq_iff_iff]; simp only [decide_eq_true_eq]; omega
    rw [h6]
    cases nameB x.name <;> cases decide (x.fields.length ≤ 6) <;> cases x.fields.all (fieldB 3 d) <;> simp
  generalize hR : x.whole d = R at *
  refine ADet.intro mixed Tryz.call87 Tryz.func87 rfl ?_
  by_cases h6 : ¬ x.fields.length ≤ 6
  · have h6' : (6 : Int) < x.fields.length := by omega
    have h6n : ¬ (x.fields.length : Int) ≤ 6 := by omega
    have e : R = false := by rw [hw, decide_eq_false h6, Bool.false_and]
    simp [Tryz.ntmps87, hk, h6', h6n, e]
  have h6 := Decidable.not_not.1 h6
  have h6' : ¬ (6 : Int) < x.fields.length := by omega
  have h6n : (x.fields.length : Int) ≤ 6 := by omega
  rw [decide_eq_true h6, Bool.true_and] at hw
  simp [Tryz.ntmps87, hk, h6', h6n]
  refine awp_loop (fun q : Nat => q ≤ x.fields.length ∧ ∀ i (hi : i < x.fields.length), i < q → fieldB 3 d x.fields[i] = true) (fun q => ([.any, I d, .ptr 0 0 0, .any, .any, I q] ++ List.replicate 112 .any)) (fun q => [.cells [U 3, Sg x.name, .p (.sl 4 (x.fields.map Fi.enc)), U x.result.kind, Sg x.result.name, .p (.sl 3 (x.result.args.map Ty.enc)), .p (.sl 15 (x.body.map St.enc)), U x.ret.op, I x.ret.int, Sg x.ret.name, Sg x.ret.second, Sg x.ret.place.name, .p (strs x.ret.place.path), .p (.sl 8 (x.ret.args.map Ex.enc)), I x.ret.pos, I x.pos] 74] :: S) (fun q => x.fields.length - q) 0 ⟨Nat.zero_le _, fun i hi h => by omega⟩ ?_ ?_ ?_
  · simp
  · simp
  rintro q ⟨hq, hall⟩
  by_cases hlt : q < x.fields.length
  · have hnx : ∀ f, x.fields[q] = f → fieldB 3 d f = true → ∀ i (hi : i < x.fields.length), i < q + 1 → fieldB 3 d x.fields[i] = true := fun f hs hb i hi h => by
      rcases Nat.lt_or_ge i q with h' | h'
      · exact hall i hi h'
      · obtain rfl : i = q := by omega
        rw [hs]; exact hb
    have hno : ∀ f, x.fields[q] = f → fieldB 3 d f = false → R = false := fun f hs hb => by
      have : x.fields.all (fieldB 3 d) = false := by
        rw [List.all_eq_false]
        exact ⟨f, by rw [← hs]; exact List.getElem_mem hlt, by rw [hb]; simp⟩
      rw [hw, this, Bool.false_and]
    have hsf := hfs.2 _ (List.getElem_mem hlt)
    generalize hxq : x.fields[q] = f at *
    have g1 := fun S => rnameC f.name (sm_max hsf.1) S
    have g2 := fun S => r3ZeroTyC f.type S
    have g3 := fun S => rTypeC f.type hsf.2 (d - 1) S (by omega) (by omega)
    have hfb : fieldB 3 d f = (nameB f.name && (f.type.whole (d - 1))) := by unfold fieldB; simp
    simp [hlt, hxq, Fi.enc]
    refine ⟨_, _, g1 _, ?_⟩
    cases h1 : nameB f.name with
    | false =>
      have e := hno f rfl (by rw [hfb, h1, Bool.false_and])
      simp [e]
    | true =>
      simp [hwd]
      refine ⟨_, _, g3 _, ?_⟩
      cases h3 : f.type.whole (d - 1) with
      | false =>
        have e := hno f rfl (by rw [hfb, h1, h3]; rfl)
        simp [e]
      | true =>
        have e := hnx f rfl (by rw [hfb, h1, h3]; rfl)
        simp
        exact ⟨q + 1, ⟨hlt, e⟩, by omega, wrap_succ hlt⟩
  have ha : x.fields.all (fieldB 3 d) = true := by
    rw [List.all_eq_true]
    intro f hf
    obtain ⟨i, hi, rfl⟩ := List.mem_iff_getElem.1 hf
    exact hall i hi (by omega)
  rw [ha, Bool.true_and] at hw
  rw [hw]
  simp [hlt]
  refine ⟨_, _, gN _, ?_⟩
  generalize nameB x.name = c1
  cases c1 with
  | false => simp
  | true =>
    simp [hwd]
    refine ⟨_, _, gT _, ?_⟩
    generalize x.result.whole (d - 1) = c2
    cases c2 with
    | false => simp
    | true =>
      simp
      refine ⟨_, _, gL _, ?_⟩
      generalize lentOp x.ret.op = c3
      cases c3 with
      | true => simp
      | false =>
        simp [hwd]
        refine ⟨_, _, gE _, ?_⟩
        generalize x.ret.whole (d - 1) = c4
        cases c4 with
        | false => simp
        | true =>
          simp [hwd]
          refine ⟨_, _, gB _, ?_⟩
          simp
set_option maxRecDepth 100000 in
set_option maxHeartbeats 4000000 in
theorem itemR0 (x : It) (hk : ¬ (x.kind = 1 ∨ x.kind = 2 ∨ x.kind = 3)) : RI x := by
  intro d S hd1 hd2
  have e : x.whole d = false := by unfold It.whole; rw [if_neg (by omega), if_neg (by omega)]
  rw [e]
  refine ADet.intro mixed Tryz.call87 Tryz.func87 rfl ?_
  rcases Int.lt_or_le x.kind 1 with h | h
  · simp [Tryz.ntmps87, h]
  · have h1 : ¬ x.kind < 1 := by omega
    have h3 : 3 < x.kind := by omega
    simp [Tryz.ntmps87, h1, h3]
theorem itemR (x : It) (hsm : ItSm x) (hnn : ItNn x) : RI x := by
  by_cases h1 : x.kind = 1
  · exact itemR1 x hsm hnn h1
  by_cases h2 : x.kind = 2
  · exact itemR2 x hsm hnn h2
  by_cases h3 : x.kind = 3
  · exact itemR3 x hsm hnn h3
  exact itemR0 x (by omega)
set_option maxRecDepth 100000 in
set_option maxHeartbeats 4000000 in
theorem r3WholeC (p : List It) (hsm : PrSm p) (hnn : ∀ x ∈ p, ItNn x) (S : ASt) : ADet Tryz.prog 57 [.agg [.p (prog p)]] S (B (prWhole p)) S := by
  have hlen : p.length ≤ maxLen := sm_max hsm.1
  have hw : prWhole p = (decide ((p.length : Int) ≤ 30) && p.all fun x => x.whole 39) := allUp_eq _ _ _
  generalize hR : prWhole p = R at *
  refine ADet.intro mixed Tryz.call57 Tryz.func57 rfl ?_
  by_cases h6 : ¬ p.length ≤ 30
  · have h6' : (30 : Int) < p.length := by omega
    have h6n : ¬ (p.length : Int) ≤ 30 := by omega
    have e : R = false := by rw [hw, decide_eq_false (by omega), Bool.false_and]
    simp [Tryz.ntmps57, prog, h6', h6n, e]
  have h6 := Decidable.not_not.1 h6
  have h6' : ¬ (30 : Int) < p.length := by omega
  have h6n : (p.length : Int) ≤ 30 := by omega
  rw [decide_eq_true (by omega), Bool.true_and] at hw
  simp [Tryz.ntmps57, prog, h6', h6n]
  refine awp_loop (fun q : Nat => q ≤ p.length ∧ ∀ i (hi : i < p.length), i < q → p[i].whole 39 = true) (fun q => ([.any, .ptr 0 0 0, .any, I q] ++ List.replicate 18 .any)) (fun q => [.cells [.p (.sl 16 (p.map It.enc))] 46] :: S) (fun q => p.length - q) 0 ⟨Nat.zero_le _, fun i hi h => by omega⟩ ?_ ?_ ?_
  · simp
  · simp
  rintro q ⟨hq, hall⟩
  by_cases hlt : q < p.length
  · have hnx : ∀ f, p[q] = f → f.whole 39 = true → ∀ i (hi : i < p.length), i < q + 1 → p[i].whole 39 = true := fun f hs hb i hi h => by
      rcases Nat.lt_or_ge i q with h' | h'
      · exact hall i hi h'
      · obtain rfl : i = q := by omega
        rw [hs]; exact hb
    have hno : ∀ f, p[q] = f → f.whole 39 = false → R = false := fun f hs hb => by
      rw [hw, List.all_eq_false]
      exact ⟨f, by rw [← hs]; exact List.getElem_mem hlt, by rw [hb]; simp⟩
    have g := itemR _ (hsm.2 _ (List.getElem_mem hlt)) (hnn _ (List.getElem_mem hlt))
    generalize hxq : p[q] = x at *
    have g := fun S => g 39 S (by omega) (by omega)
    simp [hlt, hxq, It.enc, strs]
    refine ⟨_, _, g _, ?_⟩
    cases h1 : x.whole 39 with
    | false =>
      have e := hno x rfl h1
      simp [e]
    | true =>
      simp
      exact ⟨q + 1, ⟨hlt, hnx x rfl h1⟩, by omega, wrap_succ hlt⟩
  · have e : R = true := by
      rw [hw, List.all_eq_true]
      intro f hf
      obtain ⟨i, hi, rfl⟩ := List.mem_iff_getElem.1 hf
      exact hall i hi (by omega)
    simp [hlt, e]
end Go.Proofs.YtldglgdejmljnaaGreatDoor
