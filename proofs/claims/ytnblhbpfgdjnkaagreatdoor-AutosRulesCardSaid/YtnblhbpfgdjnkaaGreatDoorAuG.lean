/- weftwaylaw09.AutosBoth in the logic over abstract values. Its row is in a text of its own. -/
import Derived.Test.YtnblhbpfgdjnkaaGreatDoorAuF
import Derived.Test.YtnblhbpfgdjnkaaGreatDoorTTy
import Derived.Test.YtnblhbpfgdjnkaaGreatDoorTWp
namespace Go.Proofs.YtnblhbpfgdjnkaaGreatDoor
open Go.RowKit
attribute [local simp] List.replicate List.range List.range.loop resA resOne retA AV.cuts AV.cut AObj.cut trim wkR wkT wkL wkN wkNR wkNL wkM wkMR wkML
set_option linter.unusedVariables false
set_option linter.unusedSimpArgs false
/-! ### In plain words -/
mutual
def Ty.plain9 : Ty → Bool
  | .mk k _ l => Ty.plain9s l && (decide (k ≠ 4) && (decide (k ≠ 13) && decide (k ≠ 14)))
def Ty.plain9s : List Ty → Bool
  | [] => true
  | t :: l => t.plain9 && Ty.plain9s l
end
theorem plain9s_all (l : List Ty) : Ty.plain9s l = l.all Ty.plain9 := by
  induction l with
  | nil => rfl
  | cons t l ih => simp [Ty.plain9s, ih]
theorem plain9_eq (t : Ty) : t.plain9 = (t.args.all Ty.plain9 && (decide (t.kind ≠ 4) && (decide (t.kind ≠ 13) && decide (t.kind ≠ 14)))) := by
  cases t; simp only [Ty.plain9, plain9s_all]; rfl
theorem both_of (p : List It) : ∀ (n : Nat) (t : Ty), t.whole n = true → t.plain9 = true → ∃ rs ry : Bool, (∀ a, forbF p (n + 1) (t, false) a = some (rs, a)) ∧ (∀ a, forbF p (n + 1) (t, true) a = some (ry, a)) ∧ (rs = true → ry = true)
  | 0, t, h, hp => by
    rw [whole_eq] at h
    simp at h
  | n + 1, t, h, hp => by
    have hp' := hp
    rw [plain9_eq] at hp'
    simp only [Bool.and_eq_true, List.all_eq_true, decide_eq_true_eq] at hp'
    obtain ⟨ha, h4, h13, h14⟩ := hp'
    have e : ∀ b a, forbF p (n + 1 + 1) (t, b) a = if neverQ t b = true then some (true, a) else askAll (forbF p (n + 1)) (t.args.flatMap (asksArg t.kind b)) a := fun b a => by
      rw [forbF, if_neg h4]
      unfold asksL
      rw [if_neg h4]
    rcases ty_cases h with ⟨hk, hl⟩ | ⟨hk, hl⟩ | ⟨_, _, _, x, hl, hx⟩
    · refine ⟨false, false, fun a => ?_, fun a => ?_, fun h => h⟩
      · have hn : neverQ t false = false := by unfold neverQ; simp; omega
        rw [e, hn, hl]; rfl
      · have hn : neverQ t true = false := by unfold neverQ; simp; omega
        rw [e, hn, hl]; rfl
    · exact absurd hk h4
    · have hx' : x.whole n = true := by
        have : ((n + 1 : Nat) : Int) - 1 = n := by omega
        rwa [this] at hx
      obtain ⟨rs, ry, h1, h2, h3⟩ := both_of p n x hx' (ha x (by rw [hl]; exact List.mem_singleton.2 rfl))
      by_cases h7 : t.kind = 7
      · refine ⟨true, true, fun a => ?_, fun a => ?_, fun h => h⟩
        · rw [e, if_pos (by unfold neverQ; simp [h7])]
        · rw [e, if_pos (by unfold neverQ; simp [h7])]
      have hn : neverQ t false = false := by unfold neverQ; simp [h7]
      have one : ∀ (b c : Bool) (r : Bool), neverQ t b = false → asksArg t.kind b x = [(x, c)] → (∀ a, forbF p (n + 1) (x, c) a = some (r, a)) → ∀ a, forbF p (n + 1 + 1) (t, b) a = some (r, a) := fun b c r hb hq hr a => by
        rw [e, hb, hl]
        simp only [Bool.false_eq_true, if_false, List.flatMap_cons, List.flatMap_nil, List.append_nil, hq, askAll, hr]
        cases r <;> rfl
      by_cases h6 : t.kind = 6
      · refine ⟨rs, true, one false false rs hn ?_ h1, fun a => ?_, fun _ => rfl⟩
        · unfold asksArg; rw [if_neg (by omega), if_neg (by omega), if_neg (by omega)]
        · rw [e, if_pos (by unfold neverQ; simp [h6])]
      have hn2 : neverQ t true = false := by unfold neverQ; simp [h7, h6]
      by_cases h8 : t.kind = 8
      · have hq : ∀ b, asksArg t.kind b x = [(x, false), (x, true)] := fun b => by unfold asksArg; rw [if_pos h8]
        have two : ∀ b, neverQ t b = false → ∀ a, forbF p (n + 1 + 1) (t, b) a = some (rs || ry, a) := fun b hb a => by
          rw [e, hb, hl]
          simp only [Bool.false_eq_true, if_false, List.flatMap_cons, List.flatMap_nil, List.append_nil, hq, askAll, h1, h2]
          cases rs <;> cases ry <;> rfl
        exact ⟨_, _, two false hn, two true hn2, fun h => h⟩
      by_cases h9 : t.kind = 9 ∨ t.kind = 11 ∨ t.kind = 12
      · have hq : ∀ b, asksArg t.kind b x = [(x, false)] := fun b => by unfold asksArg; rw [if_neg h8, if_pos h9]
        exact ⟨rs, rs, one false false rs hn (hq _) h1, one true false rs hn2 (hq _) h1, fun h => h⟩
      · have hq : ∀ b, asksArg t.kind b x = [(x, b)] := fun b => by unfold asksArg; rw [if_neg h8, if_neg h9, if_neg h13]
        exact ⟨rs, ry, one false false rs hn (hq _) h1, one true true ry hn2 (hq _) h2, h3⟩
theorem both_answer (p : List It) (t : Ty) (hp : t.plain9 = true) : ∃ rs ry : Bool, answerF p 41 t false = some rs ∧ answerF p 41 t true = some ry ∧ (ry = true → rs = true) := by
  unfold answerF
  cases hw : t.whole 40 with
  | false => exact ⟨false, false, rfl, rfl, fun h => h⟩
  | true =>
    obtain ⟨rs, ry, h1, h2, h3⟩ := both_of p 40 t hw hp
    refine ⟨!rs, !ry, by rw [if_pos rfl, h1]; rfl, by rw [if_pos rfl, h2]; rfl, fun h => ?_⟩
    cases rs with
    | false => rfl
    | true => rw [h3 rfl] at h; cases h
/-! ### The functions -/
set_option maxRecDepth 100000 in
set_option maxHeartbeats 8000000 in
theorem plain9C : ∀ (t : Ty) (S : ASt), ADet Tryz.prog 30 [tyV t] S (B t.plain9) S := by
  refine Ty.ind fun t ih S => ?_
  refine ADet.okA Tryz.call30 0 2 rfl rfl fun hok => ?_
  have hlen := okl hok
  rw [plain9_eq]
  refine ADet.intro mixed Tryz.call30 Tryz.func30 rfl ?_
  simp [Tryz.ntmps30]
  refine awp_loop (fun q : Nat => q ≤ t.args.length ∧ ∀ i (hi : i < t.args.length), i < q → t.args[i].plain9 = true) (fun q => ([.any, .ptr 0 0 0, .any, I q] ++ List.replicate 27 .any)) (fun q => [.cells [U t.kind, Sg t.name, .p (.sl 3 (t.args.map Ty.enc))] 27] :: S) (fun q => t.args.length - q) 0 ⟨Nat.zero_le _, fun i hi h => by omega⟩ ?_ ?_ ?_
  · simp
  · simp
  rintro q ⟨hq, hall⟩
  by_cases hlt : q < t.args.length
  · have hlt' : (q : Int) < (t.args.length : Int) := by omega
    have hw := wrap_succ hlt
    have iC := ih _ (List.getElem_mem hlt)
    have hin : t.args[q] ∈ t.args := List.getElem_mem hlt
    have hnext : t.args[q].plain9 = true → ∀ i (hi : i < t.args.length), i < q + 1 → t.args[i].plain9 = true := fun h i hi hiq => by
      rcases Nat.lt_or_ge i q with h' | h'
      · exact hall i hi h'
      · obtain rfl : i = q := by omega
        exact h
    generalize he : t.args[q] = x at *
    simp [hlt, hlt', he, tyEnc]
    refine ⟨_, _, iC _, ?_⟩
    cases hx : x.plain9 with
    | false =>
      have hf : t.args.all Ty.plain9 = false := by
        rw [List.all_eq_false]
        exact ⟨x, hin, by simp [hx]⟩
      simp [hf]
      try exact fun h => absurd (h x hin) (by simp [hx])
    | true =>
      simp
      exact ⟨q + 1, ⟨hlt, hnext hx⟩, by omega, hw⟩
  · have hlt' : ¬ (q : Int) < (t.args.length : Int) := by omega
    have ht : t.args.all Ty.plain9 = true := by
      rw [List.all_eq_true]
      intro x hx
      obtain ⟨i, hi, rfl⟩ := List.getElem_of_mem hx
      exact hall i hi (by omega)
    rw [ht]
    by_cases h4 : t.kind = 4
    · simp [hlt', h4]
    · have h4' : (t.kind != 4) = true := by simpa using h4
      by_cases h13 : t.kind = 13
      · simp [hlt', h4', h13]
      · have h13' : (t.kind != 13) = true := by simpa using h13
        by_cases h14 : t.kind = 14
        · simp [hlt', h4', h13', h14]
        · have h14' : (t.kind != 14) = true := by simpa using h14
          simp [hlt', h4, h4', h13, h13', h14, h14']
def great9 (p : List It) (t : Ty) : Bool := great p || (decide (t.room 20000 < 0) || decide (60 < p.length))
set_option maxRecDepth 100000 in
set_option maxHeartbeats 8000000 in
theorem great9C (p : List It) (t : Ty) (S : ASt) : ADet Tryz.prog 23 [.agg [.p (prog p)], tyV t] S (B (great9 p t)) S := by
  have gC := fun S => greatC S p
  have tC := fun S => greatTypeC t S
  unfold great9
  generalize great p = g at *
  generalize decide (t.room 20000 < 0) = gt at *
  refine ADet.intro mixed Tryz.call23 Tryz.func23 rfl ?_
  simp [Tryz.ntmps23]
  refine ⟨_, _, gC _, ?_⟩
  cases g with
  | true => simp
  | false =>
  simp
  refine ⟨_, _, tC _, ?_⟩
  cases gt with
  | true => simp
  | false =>
  by_cases hl : 60 < p.length
  · have hl' : (60 : Int) < (p.length : Int) := by omega
    simp [hl, hl', prog]
  · have hl' : ¬ (60 : Int) < (p.length : Int) := by omega
    simp [hl, hl', prog]
set_option maxRecDepth 100000 in
set_option maxHeartbeats 8000000 in
theorem autosBothC (p : List It) (t : Ty) (S : ASt) : ADet Tryz.prog 10 [.agg [.p (prog p)], tyV t] S (B true) S := by
  have gC := fun S => great9C p t S
  have lC := fun S => plain9C t S
  refine ADet.intro mixed Tryz.call10 Tryz.func10 rfl ?_
  simp [Tryz.ntmps10]
  refine ⟨_, _, awake09C _, ?_⟩
  simp
  refine ⟨_, _, gC _, ?_⟩
  cases hg : great9 p t with
  | true => simp
  | false =>
  have hg' := hg
  unfold great9 at hg'
  simp only [Bool.or_eq_false_iff, decide_eq_false_iff_not] at hg'
  have hp := pr_sm hg'.1
  have ht := ty_sm t 20000 (by omega) (by omega) (by omega)
  simp
  refine ⟨_, _, lC _, ?_⟩
  cases hl : t.plain9 with
  | false => simp
  | true =>
  obtain ⟨rs, ry, h1, h2, h3⟩ := both_answer p t hl
  have sC := fun S => sendC p hp t ht 41 rs h1 S
  have yC := fun S => syncC p hp t ht 41 ry h2 S
  simp
  refine ⟨_, _, yC _, ?_⟩
  cases ry with
  | false => simp
  | true =>
    rw [h3 rfl] at sC
    simp
    refine ⟨_, _, sC _, ?_⟩
    simp
end Go.Proofs.YtnblhbpfgdjnkaaGreatDoor
