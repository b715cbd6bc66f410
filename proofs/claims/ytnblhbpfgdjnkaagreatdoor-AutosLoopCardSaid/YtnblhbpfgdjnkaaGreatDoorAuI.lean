/- Send and Sync are always told: enough rounds. No statement is proved here. -/
import Derived.Test.YtnblhbpfgdjnkaaGreatDoorAuP
import Derived.Test.YtnblhbpfgdjnkaaGreatDoorMWp
namespace Go.Proofs.YtnblhbpfgdjnkaaGreatDoor
open Go.RowKit
set_option linter.unusedVariables false
set_option linter.unusedSimpArgs false
/-- items' names, with each truth, that were not asked -/
def cntQ (p : List It) (a : Asked) : Nat := (p.countP fun x => !(a.any fun e => sEq x.name e.1.1 && (e.1.2 == false))) + (p.countP fun x => !(a.any fun e => sEq x.name e.1.1 && (e.1.2 == true)))
def InvA (a : Asked) (C : Nat) : Prop := ∀ e ∈ a, 1 ≤ e.2 ∧ e.2 ≤ (C : Int)
abbrev KQ : Nat := 3298534883329
abbrev BQ : Nat := 1152921504606846976
theorem bump_any (s : ByteArray) (b : Bool) (x : ByteArray) (c : Bool) : ∀ (a : Asked), ((bumpA s b a).1.any fun e => sEq x e.1.1 && (e.1.2 == c)) = ((a.any fun e => sEq x e.1.1 && (e.1.2 == c)) || (sEq x s && (b == c)))
  | [] => by simp [bumpA]
  | ((s', b'), n) :: a => by
    have ih := bump_any s b x c a
    unfold bumpA
    split
    · rename_i h
      simp only [Bool.and_eq_true, beq_iff_eq] at h
      obtain ⟨h1, rfl⟩ := h
      have h1 := sEq_iff.1 h1
      subst h1
      simp only [List.any_cons]
      cases (sEq x s && (b == c)) <;> simp
    · simp only [List.any_cons, ih]
      cases (sEq x s' && (b' == c)) <;> simp
theorem bump_inv {s : ByteArray} {b : Bool} : ∀ {a : Asked} {C : Nat}, InvA a C → C < BQ → InvA (bumpA s b a).1 (C + 1) ∧ (1 < (bumpA s b a).2 ∨ ((bumpA s b a).2 = 1 ∧ (a.any fun e => sEq s e.1.1 && (e.1.2 == b)) = false))
  | [], C, h, hC => ⟨fun e he => by simp [bumpA] at he; subst he; simp; omega, .inr ⟨rfl, rfl⟩⟩
  | ((s', b'), n) :: a, C, h, hC => by
    have hn := h _ (List.mem_cons_self ..)
    have ht : InvA a C := fun e he => h e (List.mem_cons_of_mem _ he)
    obtain ⟨i1, i2⟩ := bump_inv (s := s) (b := b) ht hC
    simp only at hn
    have hw : IntKind.i64.wrap (n + 1) = n + 1 := by
      have : (n + 1) ≤ 2000000000000000000 := by unfold BQ at hC; omega
      unfold IntKind.wrap
      simp [IntKind.signed, IntKind.bits]
      omega
    unfold bumpA
    by_cases hk : (sEq s s' && (b == b')) = true
    · rw [if_pos hk]
      refine ⟨fun e he => ?_, .inl (by show 1 < IntKind.i64.wrap (n + 1); rw [hw]; omega)⟩
      rcases List.mem_cons.1 he with rfl | he
      · simp only [hw]; omega
      · have := ht e he; omega
    · rw [if_neg hk]
      refine ⟨fun e he => ?_, ?_⟩
      · rcases List.mem_cons.1 he with rfl | he
        · simp only; omega
        · exact i1 e he
      · rcases i2 with h1 | ⟨h1, h2⟩
        · exact .inl h1
        · refine .inr ⟨h1, ?_⟩
          have hk' : (sEq s s' && (b' == b)) = false := by
            have e1 : (b' == b) = (b == b') := by cases b <;> cases b' <;> rfl
            rw [e1]; simpa using hk
          simp only [List.any_cons, h2, hk', Bool.or_false]
theorem countP_lt2 {α : Type} {P Q : α → Bool} : ∀ {l : List α} {z : α}, (∀ x ∈ l, P x = true → Q x = true) → z ∈ l → Q z = true → P z = false → l.countP P + 1 ≤ l.countP Q
  | x :: l, z, h, hz, hQ, hP => by
    rw [List.countP_cons, List.countP_cons]
    have hm : l.countP P ≤ l.countP Q := List.countP_mono_left fun y hy => h y (List.mem_cons_of_mem _ hy)
    rcases List.mem_cons.1 hz with rfl | hz'
    · rw [hQ, hP]; simp; omega
    · have := countP_lt2 (fun y hy => h y (List.mem_cons_of_mem _ hy)) hz' hQ hP
      have hx := h x (List.mem_cons_self ..)
      cases hp : P x with
      | true => rw [hx hp]; simp; omega
      | false => simp; omega
theorem cntQ_le (p : List It) (s : ByteArray) (b : Bool) (a : Asked) : cntQ p (bumpA s b a).1 ≤ cntQ p a := by
  unfold cntQ
  have one : ∀ c : Bool, (p.countP fun x => !((bumpA s b a).1.any fun e => sEq x.name e.1.1 && (e.1.2 == c))) ≤ p.countP fun x => !(a.any fun e => sEq x.name e.1.1 && (e.1.2 == c)) := fun c =>
    List.countP_mono_left fun x hx h => by
      rw [bump_any] at h
      simp only [Bool.not_eq_true', Bool.or_eq_false_iff] at h ⊢
      exact h.1
  have h1 := one false
  have h2 := one true
  omega
theorem cntQ_lt {p : List It} {s : ByteArray} {b : Bool} {a : Asked} {z : It} (hz : firstIt p s = some z) (hn : (a.any fun e => sEq s e.1.1 && (e.1.2 == b)) = false) : cntQ p (bumpA s b a).1 + 1 ≤ cntQ p a := by
  have hm : z ∈ p := List.mem_of_find?_eq_some hz
  have hs := List.find?_some hz
  simp only [Bool.and_eq_true] at hs
  have hname : z.name = s := sEq_iff.1 hs.2
  have one : ∀ c : Bool, (p.countP fun x => !((bumpA s b a).1.any fun e => sEq x.name e.1.1 && (e.1.2 == c))) ≤ p.countP fun x => !(a.any fun e => sEq x.name e.1.1 && (e.1.2 == c)) := fun c =>
    List.countP_mono_left fun x hx h => by
      rw [bump_any] at h
      simp only [Bool.not_eq_true', Bool.or_eq_false_iff] at h ⊢
      exact h.1
  have lt : (p.countP fun x => !((bumpA s b a).1.any fun e => sEq x.name e.1.1 && (e.1.2 == b))) + 1 ≤ p.countP fun x => !(a.any fun e => sEq x.name e.1.1 && (e.1.2 == b)) := by
    refine countP_lt2 (fun x hx h => ?_) hm ?_ ?_
    · rw [bump_any] at h
      simp only [Bool.not_eq_true', Bool.or_eq_false_iff] at h ⊢
      exact h.1
    · rw [hname, hn]; rfl
    · rw [bump_any, hs.2]; simp
  unfold cntQ
  cases b with
  | false => have := one true; omega
  | true => have := one false; omega
def DQ (t : Ty) (d : Nat) : Prop := t.whole d = true ∨ (t.kind = 0 ∧ t.args = [])
theorem askAll_tot {p : List It} {f : Qn → Asked → Option (Bool × Asked)} {v w : Nat} : ∀ (qs : List Qn), (∀ q ∈ qs, ∀ (a : Asked) (C : Nat), cntQ p a ≤ v → InvA a C → C + 3298534883329 * cntQ p a + w ≤ 1152921504606846976 → ∃ r a' C', f q a = some (r, a') ∧ cntQ p a' ≤ cntQ p a ∧ InvA a' C' ∧ C' + 3298534883329 * cntQ p a' ≤ C + 3298534883329 * cntQ p a + w) →
    ∀ (a : Asked) (C : Nat), cntQ p a ≤ v → InvA a C → C + 3298534883329 * cntQ p a + qs.length * w ≤ 1152921504606846976 → ∃ r a' C', askAll f qs a = some (r, a') ∧ cntQ p a' ≤ cntQ p a ∧ InvA a' C' ∧ C' + 3298534883329 * cntQ p a' ≤ C + 3298534883329 * cntQ p a + qs.length * w
  | [], hf, a, C, h1, h2, h3 => ⟨false, a, C, rfl, Nat.le_refl _, h2, by simp⟩
  | q :: qs, hf, a, C, h1, h2, h3 => by
    have e : (q :: qs).length * w = qs.length * w + w := by rw [List.length_cons, Nat.add_mul, Nat.one_mul]
    rw [e] at h3 ⊢
    generalize hL : qs.length * w = L at *
    obtain ⟨r, a1, C1, k1, k2, k3, k4⟩ := hf q (List.mem_cons_self ..) a C h1 h2 (by omega)
    cases r with
    | true => exact ⟨true, a1, C1, by simp only [askAll, k1], k2, k3, by omega⟩
    | false =>
      obtain ⟨r, a', C', m1, m2, m3, m4⟩ := askAll_tot qs (fun x hx => hf x (List.mem_cons_of_mem _ hx)) a1 C1 (by omega) k3 (by rw [hL]; omega)
      exact ⟨r, a', C', by simp only [askAll, k1]; exact m1, by omega, m3, by rw [hL] at m4; omega⟩
theorem forb_tot (p : List It) (hp : ∀ x ∈ p, x.fields.length ≤ 6 ∧ ∀ g ∈ x.fields, DQ g.type 38) : ∀ (n : Nat) (t : Ty) (d : Nat) (b : Bool) (a : Asked) (C : Nat), DQ t d → d ≤ 40 → d + 1 + 42 * cntQ p a ≤ n → InvA a C → C + 3298534883329 * cntQ p a + 2 ^ d ≤ 1152921504606846976 →
    ∃ r a' C', forbF p n (t, b) a = some (r, a') ∧ cntQ p a' ≤ cntQ p a ∧ InvA a' C' ∧ C' + 3298534883329 * cntQ p a' ≤ C + 3298534883329 * cntQ p a + 2 ^ d := by
  intro n
  induction n with
  | zero => intro t d b a C h1 h2 h3; omega
  | succ n ih =>
    intro t d b a C hD hd hn hI hB
    have hw : 1 ≤ 2 ^ d := Nat.one_le_two_pow
    unfold forbF
    by_cases h4 : t.kind = 4
    · rw [if_pos h4]
      obtain ⟨i1, i2⟩ := bump_inv (s := t.name) (b := b) hI (by show C < 1152921504606846976; omega)
      have cl := cntQ_le p t.name b a
      generalize ha1 : (bumpA t.name b a).1 = a1 at *
      by_cases hc : 1 < (bumpA t.name b a).2
      · rw [if_pos hc]
        exact ⟨false, a1, C + 1, rfl, cl, i1, by omega⟩
      rw [if_neg hc]
      obtain ⟨_, hnew⟩ : (bumpA t.name b a).2 = 1 ∧ (a.any fun e => sEq t.name e.1.1 && (e.1.2 == b)) = false := i2.resolve_left hc
      have hA : asksL p t b = ((fieldsT p t.name).getD []).map fun f => (f.type, b) := by unfold asksL; rw [if_pos h4]
      rw [hA]
      cases hx : firstIt p t.name with
      | none =>
        have : fieldsT p t.name = none := by unfold fieldsT; rw [hx]
        rw [this]
        exact ⟨false, a1, C + 1, rfl, cl, i1, by omega⟩
      | some z =>
        have lt := cntQ_lt hx hnew
        rw [ha1] at lt
        have hz := hp z (List.mem_of_find?_eq_some hx)
        have hl : ((fieldsT p t.name).getD []).length ≤ 6 ∧ ∀ g ∈ (fieldsT p t.name).getD [], DQ g.type 38 := by
          unfold fieldsT
          rw [hx]
          simp only
          split
          · exact hz
          · exact ⟨by simp, fun g hg => by simp at hg⟩
        generalize (fieldsT p t.name).getD [] = l at *
        obtain ⟨r, a', C', m1, m2, m3, m4⟩ := askAll_tot (p := p) (f := forbF p n) (v := cntQ p a - 1) (w := 2 ^ 38) (l.map fun f => (f.type, b)) (fun q hq a2 C2 g1 g2 g3 => by
          obtain ⟨g, hg, rfl⟩ := List.mem_map.1 hq
          exact ih g.type 38 b a2 C2 (hl.2 g hg) (by omega) (by omega) g2 g3) a1 (C + 1) (by omega) i1 (by
            rw [List.length_map]
            have : l.length * 2 ^ 38 ≤ 6 * 2 ^ 38 := Nat.mul_le_mul_right _ hl.1
            have e : (6 * 2 ^ 38 : Nat) = 1649267441664 := by decide
            omega)
        refine ⟨r, a', C', m1, by omega, m3, ?_⟩
        rw [List.length_map] at m4
        have : l.length * 2 ^ 38 ≤ 6 * 2 ^ 38 := Nat.mul_le_mul_right _ hl.1
        have e : (6 * 2 ^ 38 : Nat) = 1649267441664 := by decide
        omega
    · rw [if_neg h4]
      by_cases hN : neverQ t b = true
      · rw [if_pos hN]
        exact ⟨true, a, C, rfl, Nat.le_refl _, hI, by omega⟩
      rw [if_neg hN]
      have hA : asksL p t b = t.args.flatMap (asksArg t.kind b) := by unfold asksL; rw [if_neg h4]
      rw [hA]
      have nil : t.args = [] → ∃ r a' C', askAll (forbF p n) (t.args.flatMap (asksArg t.kind b)) a = some (r, a') ∧ cntQ p a' ≤ cntQ p a ∧ InvA a' C' ∧ C' + 3298534883329 * cntQ p a' ≤ C + 3298534883329 * cntQ p a + 2 ^ d := fun h => by
        rw [h]
        exact ⟨false, a, C, rfl, Nat.le_refl _, hI, by omega⟩
      rcases hD with hD | hD
      · rcases ty_cases hD with h | h | ⟨_, _, _, x, hx, hxw⟩
        · exact nil h.2
        · exact nil h.2
        · have hd1 : 1 ≤ d := by
            have h1 := hD
            rw [whole_eq] at h1
            simp only [Bool.and_eq_true, decide_eq_true_eq] at h1
            omega
          obtain ⟨e, rfl⟩ : ∃ e, d = e + 1 := ⟨d - 1, by omega⟩
          have hxw' : x.whole (e : Nat) = true := by
            have : ((e + 1 : Nat) : Int) - 1 = (e : Int) := by omega
            rwa [this] at hxw
          have hq : (asksArg t.kind b x).length ≤ 2 ∧ ∀ q ∈ asksArg t.kind b x, q.1 = x := by
            unfold asksArg
            split
            · exact ⟨by simp, fun q hq => by simp at hq; rcases hq with rfl | rfl <;> rfl⟩
            · split
              · exact ⟨by simp, fun q hq => by simp at hq; subst hq; rfl⟩
              · split
                · exact ⟨by simp, fun q hq => by simp at hq; subst hq; rfl⟩
                · exact ⟨by simp, fun q hq => by simp at hq; subst hq; rfl⟩
          have e2 : (2 : Nat) ^ (e + 1) = 2 * 2 ^ e := by rw [Nat.pow_succ, Nat.mul_comm]
          rw [e2] at hB ⊢
          have hl : (asksArg t.kind b x).length * 2 ^ e ≤ 2 * 2 ^ e := Nat.mul_le_mul_right _ hq.1
          rw [hx, List.flatMap_cons, List.flatMap_nil, List.append_nil]
          generalize asksArg t.kind b x = qs at *
          obtain ⟨r, a', C', m1, m2, m3, m4⟩ := askAll_tot (p := p) (f := forbF p n) (v := cntQ p a) (w := 2 ^ e) qs (fun q hq' a2 C2 g1 g2 g3 => by
            obtain ⟨u, c⟩ := q
            have hu : u = x := hq.2 _ hq'
            subst hu
            exact ih u e c a2 C2 (.inl hxw') (by omega) (by omega) g2 g3) a C (Nat.le_refl _) hI (by omega)
          exact ⟨r, a', C', m1, m2, m3, by omega⟩
      · exact nil hD.2
end Go.Proofs.YtnblhbpfgdjnkaaGreatDoor
