/- 3 texts of this proof, one behind the other: SmA SmB SmC. The statement is proved in the claim's last text. -/
import Derived.Test.YtlnoacoanfhdcaaGreatDoorMWp
import Derived.Test.YtlnoacoanfhdcaaGreatDoorMCp
namespace Go.Proofs.YtlnoacoanfhdcaaGreatDoor
open Go.RowKit
attribute [local simp] List.replicate List.range List.range.loop resA resOne retA AV.cuts AV.cut AObj.cut trim wkR wkT wkL wkN wkNR wkNL wkM wkMR wkML
set_option linter.unusedVariables false
set_option linter.unusedSimpArgs false
set_option maxRecDepth 100000 in
set_option maxHeartbeats 8000000 in
theorem sameTypes {β : Type} (key : Ty → β) (K : Nat) (l m : List Ty) (S : ASt) (hc : ∀ x ∈ l, ∀ (y : Ty) (L : List AObj) (b : Bool), (b = true ↔ key x = key y) → ADet Tryz.prog K [tyV x, tyV y] (L :: S) (B b) (L :: S)) (b : Bool) (hb : b = true ↔ l.map key = m.map key) : ADet Tryz.prog 65 [.p (.sl 3 (l.map Ty.enc)), .p (.sl 3 (m.map Ty.enc)), .fn (.func K) [] []] S (B b) S := by
  refine ADet.okP Tryz.call65 0 rfl fun hok => ?_
  have hlen := okl hok
  refine ADet.intro mixed Tryz.call65 Tryz.func65 rfl ?_
  by_cases hl : l.length = m.length
  · simp [Tryz.ntmps65, hl]
    refine awp_loop (fun q : Nat => q ≤ m.length ∧ ∀ i (h : i < l.length) (h' : i < m.length), i < q → key l[i] = key m[i]) (fun q => ([.p (.sl 3 (l.map Ty.enc)), .p (.sl 3 (m.map Ty.enc)), .fn (.func K) [] []] ++ (List.replicate 12 .any ++ ([.p (.sl 3 (l.map Ty.enc)), I m.length, I q] ++ List.replicate 14 .any)))) (fun q => [] :: S) (fun q => m.length - q) 0 ⟨Nat.zero_le _, fun i h h' hi => by omega⟩ ?_ ?_ ?_
    · simp
    · simp
    rintro q ⟨hq, hall⟩
    by_cases hlt : q < m.length
    · have hlt' : (q : Int) < (m.length : Int) := by omega
      have hl1 : q < l.length := by omega
      have hw := wrap_succ hlt (by omega)
      have hc1 := hc l[q] (List.getElem_mem hl1) m[q]
      have hnext : key l[q] = key m[q] → ∀ i (h : i < l.length) (h' : i < m.length), i < q + 1 → key l[i] = key m[i] := fun he i h h' hi => by
        by_cases hiq : i = q
        · subst hiq; exact he
        · exact hall i h h' (by omega)
      have hne : key l[q] ≠ key m[q] → b = false := fun he => by
        cases b with
        | false => rfl
        | true =>
          have h1 := hb.1 rfl
          have h2 : (l.map key)[q]? = (m.map key)[q]? := by rw [h1]
          rw [List.getElem?_map, List.getElem?_map, List.getElem?_eq_getElem hl1, List.getElem?_eq_getElem hlt] at h2
          exact absurd (Option.some.inj h2) he
      clear hc
      generalize he1 : l[q] = x at *
      generalize he2 : m[q] = y at *
      by_cases hxy : key x = key y
      · have hc2 := fun L => hc1 L true (by simp [hxy])
        simp [hlt, hlt', hl1, he1, he2, tyEnc]
        refine ⟨_, _, hc2 _, ?_⟩
        simp
        exact ⟨q + 1, ⟨by omega, hnext hxy⟩, by omega, hw⟩
      · have hc2 := fun L => hc1 L false (by simp [hxy])
        simp [hlt, hlt', hl1, he1, he2, tyEnc]
        refine ⟨_, _, hc2 _, ?_⟩
        rw [hne hxy]
        simp
    · have hlt' : ¬ (q : Int) < (m.length : Int) := by omega
      have hbt : b = true := hb.2 (List.ext_getElem (by simp [hl]) fun i h h' => by
        rw [List.getElem_map, List.getElem_map]
        exact hall i (by simpa using h) (by simpa using h') (by simp at h'; omega))
      rw [hbt]
      simp [hlt']
  · have hl' : ¬ (l.length : Int) = (m.length : Int) := by omega
    have hbf : b = false := by
      cases b with
      | false => rfl
      | true => exact absurd (by simpa using congrArg List.length (hb.1 rfl)) hl
    rw [hbf]
    simp [Tryz.ntmps65, hl, hl']
set_option maxRecDepth 100000 in
set_option maxHeartbeats 8000000 in
theorem sameExprs {β : Type} (key : Ex → β) (K : Nat) (l m : List Ex) (S : ASt) (hc : ∀ x ∈ l, ∀ (y : Ex) (L : List AObj) (b : Bool), (b = true ↔ key x = key y) → ADet Tryz.prog K [exV x, exV y] (L :: S) (B b) (L :: S)) (b : Bool) (hb : b = true ↔ l.map key = m.map key) : ADet Tryz.prog 67 [.p (.sl 8 (l.map Ex.enc)), .p (.sl 8 (m.map Ex.enc)), .fn (.func K) [] []] S (B b) S := by
  refine ADet.okP Tryz.call67 0 rfl fun hok => ?_
  have hlen := okl hok
  refine ADet.intro mixed Tryz.call67 Tryz.func67 rfl ?_
  by_cases hl : l.length = m.length
  · simp [Tryz.ntmps67, hl]
    refine awp_loop (fun q : Nat => q ≤ m.length ∧ ∀ i (h : i < l.length) (h' : i < m.length), i < q → key l[i] = key m[i]) (fun q => ([.p (.sl 8 (l.map Ex.enc)), .p (.sl 8 (m.map Ex.enc)), .fn (.func K) [] []] ++ (List.replicate 12 .any ++ ([.p (.sl 8 (l.map Ex.enc)), I m.length, I q] ++ List.replicate 14 .any)))) (fun q => [] :: S) (fun q => m.length - q) 0 ⟨Nat.zero_le _, fun i h h' hi => by omega⟩ ?_ ?_ ?_
    · simp
    · simp
    rintro q ⟨hq, hall⟩
    by_cases hlt : q < m.length
    · have hlt' : (q : Int) < (m.length : Int) := by omega
      have hl1 : q < l.length := by omega
      have hw := wrap_succ hlt (by omega)
      have hc1 := hc l[q] (List.getElem_mem hl1) m[q]
      have hnext : key l[q] = key m[q] → ∀ i (h : i < l.length) (h' : i < m.length), i < q + 1 → key l[i] = key m[i] := fun he i h h' hi => by
        by_cases hiq : i = q
        · subst hiq; exact he
        · exact hall i h h' (by omega)
      have hne : key l[q] ≠ key m[q] → b = false := fun he => by
        cases b with
        | false => rfl
        | true =>
          have h1 := hb.1 rfl
          have h2 : (l.map key)[q]? = (m.map key)[q]? := by rw [h1]
          rw [List.getElem?_map, List.getElem?_map, List.getElem?_eq_getElem hl1, List.getElem?_eq_getElem hlt] at h2
          exact absurd (Option.some.inj h2) he
      clear hc
      generalize he1 : l[q] = x at *
      generalize he2 : m[q] = y at *
      by_cases hxy : key x = key y
      · have hc2 := fun L => hc1 L true (by simp [hxy])
        simp [hlt, hlt', hl1, he1, he2, exEnc]
        refine ⟨_, _, hc2 _, ?_⟩
        simp
        exact ⟨q + 1, ⟨by omega, hnext hxy⟩, by omega, hw⟩
      · have hc2 := fun L => hc1 L false (by simp [hxy])
        simp [hlt, hlt', hl1, he1, he2, exEnc]
        refine ⟨_, _, hc2 _, ?_⟩
        rw [hne hxy]
        simp
    · have hlt' : ¬ (q : Int) < (m.length : Int) := by omega
      have hbt : b = true := hb.2 (List.ext_getElem (by simp [hl]) fun i h h' => by
        rw [List.getElem_map, List.getElem_map]
        exact hall i (by simpa using h) (by simpa using h') (by simp at h'; omega))
      rw [hbt]
      simp [hlt']
  · have hl' : ¬ (l.length : Int) = (m.length : Int) := by omega
    have hbf : b = false := by
      cases b with
      | false => rfl
      | true => exact absurd (by simpa using congrArg List.length (hb.1 rfl)) hl
    rw [hbf]
    simp [Tryz.ntmps67, hl, hl']
set_option maxRecDepth 100000 in
set_option maxHeartbeats 8000000 in
theorem sameStmts {β : Type} (key : St → β) (K : Nat) (l m : List St) (S : ASt) (hc : ∀ x ∈ l, ∀ (y : St) (L : List AObj) (b : Bool), (b = true ↔ key x = key y) → ADet Tryz.prog K [stmV x, stmV y] (L :: S) (B b) (L :: S)) (b : Bool) (hb : b = true ↔ l.map key = m.map key) : ADet Tryz.prog 68 [.p (.sl 15 (l.map St.enc)), .p (.sl 15 (m.map St.enc)), .fn (.func K) [] []] S (B b) S := by
  refine ADet.okP Tryz.call68 0 rfl fun hok => ?_
  have hlen := okl hok
  refine ADet.intro mixed Tryz.call68 Tryz.func68 rfl ?_
  by_cases hl : l.length = m.length
  · simp [Tryz.ntmps68, hl]
    refine awp_loop (fun q : Nat => q ≤ m.length ∧ ∀ i (h : i < l.length) (h' : i < m.length), i < q → key l[i] = key m[i]) (fun q => ([.p (.sl 15 (l.map St.enc)), .p (.sl 15 (m.map St.enc)), .fn (.func K) [] []] ++ (List.replicate 12 .any ++ ([.p (.sl 15 (l.map St.enc)), I m.length, I q] ++ List.replicate 14 .any)))) (fun q => [] :: S) (fun q => m.length - q) 0 ⟨Nat.zero_le _, fun i h h' hi => by omega⟩ ?_ ?_ ?_
    · simp
    · simp
    rintro q ⟨hq, hall⟩
    by_cases hlt : q < m.length
    · have hlt' : (q : Int) < (m.length : Int) := by omega
      have hl1 : q < l.length := by omega
      have hw := wrap_succ hlt (by omega)
      have hc1 := hc l[q] (List.getElem_mem hl1) m[q]
      have hnext : key l[q] = key m[q] → ∀ i (h : i < l.length) (h' : i < m.length), i < q + 1 → key l[i] = key m[i] := fun he i h h' hi => by
        by_cases hiq : i = q
        · subst hiq; exact he
        · exact hall i h h' (by omega)
      have hne : key l[q] ≠ key m[q] → b = false := fun he => by
        cases b with
        | false => rfl
        | true =>
          have h1 := hb.1 rfl
          have h2 : (l.map key)[q]? = (m.map key)[q]? := by rw [h1]
          rw [List.getElem?_map, List.getElem?_map, List.getElem?_eq_getElem hl1, List.getElem?_eq_getElem hlt] at h2
          exact absurd (Option.some.inj h2) he
      clear hc
      generalize he1 : l[q] = x at *
      generalize he2 : m[q] = y at *
      by_cases hxy : key x = key y
      · have hc2 := fun L => hc1 L true (by simp [hxy])
        simp [hlt, hlt', hl1, he1, he2, stEnc]
        refine ⟨_, _, hc2 _, ?_⟩
        simp
        exact ⟨q + 1, ⟨by omega, hnext hxy⟩, by omega, hw⟩
      · have hc2 := fun L => hc1 L false (by simp [hxy])
        simp [hlt, hlt', hl1, he1, he2, stEnc]
        refine ⟨_, _, hc2 _, ?_⟩
        rw [hne hxy]
        simp
    · have hlt' : ¬ (q : Int) < (m.length : Int) := by omega
      have hbt : b = true := hb.2 (List.ext_getElem (by simp [hl]) fun i h h' => by
        rw [List.getElem_map, List.getElem_map]
        exact hall i (by simpa using h) (by simpa using h') (by simp at h'; omega))
      rw [hbt]
      simp [hlt']
  · have hl' : ¬ (l.length : Int) = (m.length : Int) := by omega
    have hbf : b = false := by
      cases b with
      | false => rfl
      | true => exact absurd (by simpa using congrArg List.length (hb.1 rfl)) hl
    rw [hbf]
    simp [Tryz.ntmps68, hl, hl']
set_option maxRecDepth 100000 in
set_option maxHeartbeats 8000000 in
theorem sameArms {β : Type} (key : Ar → β) (K : Nat) (l m : List Ar) (S : ASt) (hc : ∀ x ∈ l, ∀ (y : Ar) (L : List AObj) (b : Bool), (b = true ↔ key x = key y) → ADet Tryz.prog K [arV x, arV y] (L :: S) (B b) (L :: S)) (b : Bool) (hb : b = true ↔ l.map key = m.map key) : ADet Tryz.prog 110 [.p (.sl 3 (l.map Ar.enc)), .p (.sl 3 (m.map Ar.enc)), .fn (.func K) [] []] S (B b) S := by
  refine ADet.okP Tryz.call110 0 rfl fun hok => ?_
  have hlen := okl hok
  refine ADet.intro mixed Tryz.call110 Tryz.func110 rfl ?_
  by_cases hl : l.length = m.length
  · simp [Tryz.ntmps110, hl]
    refine awp_loop (fun q : Nat => q ≤ m.length ∧ ∀ i (h : i < l.length) (h' : i < m.length), i < q → key l[i] = key m[i]) (fun q => ([.p (.sl 3 (l.map Ar.enc)), .p (.sl 3 (m.map Ar.enc)), .fn (.func K) [] []] ++ (List.replicate 12 .any ++ ([.p (.sl 3 (l.map Ar.enc)), I m.length, I q] ++ List.replicate 14 .any)))) (fun q => [] :: S) (fun q => m.length - q) 0 ⟨Nat.zero_le _, fun i h h' hi => by omega⟩ ?_ ?_ ?_
    · simp
    · simp
    rintro q ⟨hq, hall⟩
    by_cases hlt : q < m.length
    · have hlt' : (q : Int) < (m.length : Int) := by omega
      have hl1 : q < l.length := by omega
      have hw := wrap_succ hlt (by omega)
      have hc1 := hc l[q] (List.getElem_mem hl1) m[q]
      have hnext : key l[q] = key m[q] → ∀ i (h : i < l.length) (h' : i < m.length), i < q + 1 → key l[i] = key m[i] := fun he i h h' hi => by
        by_cases hiq : i = q
        · subst hiq; exact he
        · exact hall i h h' (by omega)
      have hne : key l[q] ≠ key m[q] → b = false := fun he => by
        cases b with
        | false => rfl
        | true =>
          have h1 := hb.1 rfl
          have h2 : (l.map key)[q]? = (m.map key)[q]? := by rw [h1]
          rw [List.getElem?_map, List.getElem?_map, List.getElem?_eq_getElem hl1, List.getElem?_eq_getElem hlt] at h2
          exact absurd (Option.some.inj h2) he
      clear hc
      generalize he1 : l[q] = x at *
      generalize he2 : m[q] = y at *
      by_cases hxy : key x = key y
      · have hc2 := fun L => hc1 L true (by simp [hxy])
        simp [hlt, hlt', hl1, he1, he2, Ar.enc]
        refine ⟨_, _, hc2 _, ?_⟩
        simp
        exact ⟨q + 1, ⟨by omega, hnext hxy⟩, by omega, hw⟩
      · have hc2 := fun L => hc1 L false (by simp [hxy])
        simp [hlt, hlt', hl1, he1, he2, Ar.enc]
        refine ⟨_, _, hc2 _, ?_⟩
        rw [hne hxy]
        simp
    · have hlt' : ¬ (q : Int) < (m.length : Int) := by omega
      have hbt : b = true := hb.2 (List.ext_getElem (by simp [hl]) fun i h h' => by
        rw [List.getElem_map, List.getElem_map]
        exact hall i (by simpa using h) (by simpa using h') (by simp at h'; omega))
      rw [hbt]
      simp [hlt']
  · have hl' : ¬ (l.length : Int) = (m.length : Int) := by omega
    have hbf : b = false := by
      cases b with
      | false => rfl
      | true => exact absurd (by simpa using congrArg List.length (hb.1 rfl)) hl
    rw [hbf]
    simp [Tryz.ntmps110, hl, hl']
set_option maxRecDepth 100000 in
set_option maxHeartbeats 8000000 in
theorem sameItems {β : Type} (key : It → β) (K : Nat) (l m : List It) (S : ASt) (hc : ∀ x ∈ l, ∀ (y : It) (L : List AObj) (b : Bool), (b = true ↔ key x = key y) → ADet Tryz.prog K [itV x, itV y] (L :: S) (B b) (L :: S)) (b : Bool) (hb : b = true ↔ l.map key = m.map key) : ADet Tryz.prog 26 [.p (.sl 16 (l.map It.enc)), .p (.sl 16 (m.map It.enc)), .fn (.func K) [] []] S (B b) S := by
  refine ADet.okP Tryz.call26 0 rfl fun hok => ?_
  have hlen := okl hok
  refine ADet.intro mixed Tryz.call26 Tryz.func26 rfl ?_
  by_cases hl : l.length = m.length
  · simp [Tryz.ntmps26, hl]
    refine awp_loop (fun q : Nat => q ≤ m.length ∧ ∀ i (h : i < l.length) (h' : i < m.length), i < q → key l[i] = key m[i]) (fun q => ([.p (.sl 16 (l.map It.enc)), .p (.sl 16 (m.map It.enc)), .fn (.func K) [] []] ++ (List.replicate 12 .any ++ ([.p (.sl 16 (l.map It.enc)), I m.length, I q] ++ List.replicate 14 .any)))) (fun q => [] :: S) (fun q => m.length - q) 0 ⟨Nat.zero_le _, fun i h h' hi => by omega⟩ ?_ ?_ ?_
    · simp
    · simp
    rintro q ⟨hq, hall⟩
    by_cases hlt : q < m.length
    · have hlt' : (q : Int) < (m.length : Int) := by omega
      have hl1 : q < l.length := by omega
      have hw := wrap_succ hlt (by omega)
      have hc1 := hc l[q] (List.getElem_mem hl1) m[q]
      have hnext : key l[q] = key m[q] → ∀ i (h : i < l.length) (h' : i < m.length), i < q + 1 → key l[i] = key m[i] := fun he i h h' hi => by
        by_cases hiq : i = q
        · subst hiq; exact he
        · exact hall i h h' (by omega)
      have hne : key l[q] ≠ key m[q] → b = false := fun he => by
        cases b with
        | false => rfl
        | true =>
          have h1 := hb.1 rfl
          have h2 : (l.map key)[q]? = (m.map key)[q]? := by rw [h1]
          rw [List.getElem?_map, List.getElem?_map, List.getElem?_eq_getElem hl1, List.getElem?_eq_getElem hlt] at h2
          exact absurd (Option.some.inj h2) he
      clear hc
      generalize he1 : l[q] = x at *
      generalize he2 : m[q] = y at *
      by_cases hxy : key x = key y
      · have hc2 := fun L => hc1 L true (by simp [hxy])
        simp [hlt, hlt', hl1, he1, he2, It.enc]
        refine ⟨_, _, hc2 _, ?_⟩
        simp
        exact ⟨q + 1, ⟨by omega, hnext hxy⟩, by omega, hw⟩
      · have hc2 := fun L => hc1 L false (by simp [hxy])
        simp [hlt, hlt', hl1, he1, he2, It.enc]
        refine ⟨_, _, hc2 _, ?_⟩
        rw [hne hxy]
        simp
    · have hlt' : ¬ (q : Int) < (m.length : Int) := by omega
      have hbt : b = true := hb.2 (List.ext_getElem (by simp [hl]) fun i h h' => by
        rw [List.getElem_map, List.getElem_map]
        exact hall i (by simpa using h) (by simpa using h') (by simp at h'; omega))
      rw [hbt]
      simp [hlt']
  · have hl' : ¬ (l.length : Int) = (m.length : Int) := by omega
    have hbf : b = false := by
      cases b with
      | false => rfl
      | true => exact absurd (by simpa using congrArg List.length (hb.1 rfl)) hl
    rw [hbf]
    simp [Tryz.ntmps26, hl, hl']
set_option maxRecDepth 100000 in
set_option maxHeartbeats 8000000 in
theorem sameFields {β : Type} (key : Fi → β) (K : Nat) (l m : List Fi) (S : ASt) (hc : ∀ x ∈ l, ∀ (y : Fi) (L : List AObj) (b : Bool), (b = true ↔ key x = key y) → ADet Tryz.prog K [fiV x, fiV y] (L :: S) (B b) (L :: S)) (b : Bool) (hb : b = true ↔ l.map key = m.map key) : ADet Tryz.prog 31 [.p (.sl 4 (l.map Fi.enc)), .p (.sl 4 (m.map Fi.enc)), .fn (.func K) [] []] S (B b) S := by
  refine ADet.okP Tryz.call31 0 rfl fun hok => ?_
  have hlen := okl hok
  refine ADet.intro mixed Tryz.call31 Tryz.func31 rfl ?_
  by_cases hl : l.length = m.length
  · simp [Tryz.ntmps31, hl]
    refine awp_loop (fun q : Nat => q ≤ m.length ∧ ∀ i (h : i < l.length) (h' : i < m.length), i < q → key l[i] = key m[i]) (fun q => ([.p (.sl 4 (l.map Fi.enc)), .p (.sl 4 (m.map Fi.enc)), .fn (.func K) [] []] ++ (List.replicate 12 .any ++ ([.p (.sl 4 (l.map Fi.enc)), I m.length, I q] ++ List.replicate 14 .any)))) (fun q => [] :: S) (fun q => m.length - q) 0 ⟨Nat.zero_le _, fun i h h' hi => by omega⟩ ?_ ?_ ?_
    · simp
    · simp
    rintro q ⟨hq, hall⟩
    by_cases hlt : q < m.length
    · have hlt' : (q : Int) < (m.length : Int) := by omega
      have hl1 : q < l.length := by omega
      have hw := wrap_succ hlt (by omega)
      have hc1 := hc l[q] (List.getElem_mem hl1) m[q]
      have hnext : key l[q] = key m[q] → ∀ i (h : i < l.length) (h' : i < m.length), i < q + 1 → key l[i] = key m[i] := fun he i h h' hi => by
        by_cases hiq : i = q
        · subst hiq; exact he
        · exact hall i h h' (by omega)
      have hne : key l[q] ≠ key m[q] → b = false := fun he => by
        cases b with
        | false => rfl
        | true =>
          have h1 := hb.1 rfl
          have h2 : (l.map key)[q]? = (m.map key)[q]? := by rw [h1]
          rw [List.getElem?_map, List.getElem?_map, List.getElem?_eq_getElem hl1, List.getElem?_eq_getElem hlt] at h2
          exact absurd (Option.some.inj h2) he
      clear hc
      generalize he1 : l[q] = x at *
      generalize he2 : m[q] = y at *
      by_cases hxy : key x = key y
      · have hc2 := fun L => hc1 L true (by simp [hxy])
        simp [hlt, hlt', hl1, he1, he2, Fi.enc]
        refine ⟨_, _, hc2 _, ?_⟩
        simp
        exact ⟨q + 1, ⟨by omega, hnext hxy⟩, by omega, hw⟩
      · have hc2 := fun L => hc1 L false (by simp [hxy])
        simp [hlt, hlt', hl1, he1, he2, Fi.enc]
        refine ⟨_, _, hc2 _, ?_⟩
        rw [hne hxy]
        simp
    · have hlt' : ¬ (q : Int) < (m.length : Int) := by omega
      have hbt : b = true := hb.2 (List.ext_getElem (by simp [hl]) fun i h h' => by
        rw [List.getElem_map, List.getElem_map]
        exact hall i (by simpa using h) (by simpa using h') (by simp at h'; omega))
      rw [hbt]
      simp [hlt']
  · have hl' : ¬ (l.length : Int) = (m.length : Int) := by omega
    have hbf : b = false := by
      cases b with
      | false => rfl
      | true => exact absurd (by simpa using congrArg List.length (hb.1 rfl)) hl
    rw [hbf]
    simp [Tryz.ntmps31, hl, hl']
end Go.Proofs.YtlnoacoanfhdcaaGreatDoor

namespace Go.Proofs.YtlnoacoanfhdcaaGreatDoor
open Go.RowKit
attribute [local simp] List.replicate List.range List.range.loop resA resOne retA AV.cuts AV.cut AObj.cut trim wkR wkT wkL wkN wkNR wkNL wkM wkMR wkML virtL virtO virt_get markL markO markR_get rowA awpI_nil awpI_cons List.forall_mem_cons List.contains_cons List.contains_nil List.find? nextD_eq awpD_nil awpD_cons LCp LCl refL
set_option linter.unusedVariables false
set_option linter.unusedSimpArgs false
set_option maxRecDepth 100000 in
set_option maxHeartbeats 8000000 in
theorem sameStrs (l m : List ByteArray) (S : ASt) (b : Bool) (hb : b = true ↔ l = m) : ADet Tryz.prog 109 [.p (strs l), .p (strs m)] S (B b) S := by
  unfold strs
  refine ADet.okP Tryz.call109 0 rfl fun hok => ?_
  have hlen := okl hok
  refine ADet.intro mixed Tryz.call109 Tryz.func109 rfl ?_
  by_cases hl : l.length = m.length
  · simp [Tryz.ntmps109, hl]
    refine awp_loop (fun q : Nat => q ≤ m.length ∧ ∀ i (h : i < l.length) (h' : i < m.length), i < q → l[i] = m[i]) (fun q => ([.p (.sl 1 (l.map fun s => [pS s])), .p (.sl 1 (m.map fun s => [pS s])), .any, .any, .any, .any, .any, .any, .any, .any, .any, .any, I m.length, I q] ++ List.replicate 12 .any)) (fun q => [] :: S) (fun q => m.length - q) 0 ⟨Nat.zero_le _, fun i h h' hi => by omega⟩ ?_ ?_ ?_
    · simp
    · simp
    rintro q ⟨hq, hall⟩
    by_cases hlt : q < m.length
    · have hlt' : (q : Int) < (m.length : Int) := by omega
      have hl1 : q < l.length := by omega
      have hw := wrap_succ hlt (by omega)
      have hnext : l[q] = m[q] → ∀ i (h : i < l.length) (h' : i < m.length), i < q + 1 → l[i] = m[i] := fun he i h h' hi => by
        by_cases hiq : i = q
        · subst hiq; exact he
        · exact hall i h h' (by omega)
      have hne : l[q] ≠ m[q] → b = false := fun he => by
        cases b with
        | false => rfl
        | true =>
          have h1 := hb.1 rfl
          subst h1
          exact absurd rfl he
      generalize he1 : l[q] = x at *
      generalize he2 : m[q] = y at *
      by_cases hxy : x = y
      · have hs : sEq x y = true := sEq_iff.2 hxy
        simp [hlt, hlt']
        refine awp_draw [] (by kernel_rfl) (by kernel_rfl) ?_
        simp [hlt, hlt', hl1, he1, he2, hs]
        exact ⟨q + 1, ⟨by omega, hnext hxy⟩, by omega, hw⟩
      · have hs : sEq x y = false := sEq_ne hxy
        rw [hne hxy]
        simp [hlt, hlt']
        refine awp_draw [] (by kernel_rfl) (by kernel_rfl) ?_
        simp [hlt, hlt', hl1, he1, he2, hs]
    · have hlt' : ¬ (q : Int) < (m.length : Int) := by omega
      have hbt : b = true := hb.2 (List.ext_getElem hl fun i h h' => hall i h h' (by omega))
      rw [hbt]
      simp [hlt']
  · have hl' : ¬ (l.length : Int) = (m.length : Int) := by omega
    have hbf : b = false := by
      cases b with
      | false => rfl
      | true => exact absurd (congrArg List.length (hb.1 rfl)) hl
    rw [hbf]
    simp [Tryz.ntmps109, hl, hl']
/-- what a chain of tests tells -/
theorem iff_false {b : Bool} {p : Prop} (hb : b = true ↔ p) (h : ¬ p) : b = false := by
  cases b with
  | false => rfl
  | true => exact absurd (hb.1 rfl) h
theorem sub_iff (p : Prop) : ∃ c : Bool, c = true ↔ p := by
  by_cases h : p
  · exact ⟨true, by simp [h]⟩
  · exact ⟨false, by simp [h]⟩
set_option maxRecDepth 100000 in
set_option maxHeartbeats 8000000 in
theorem samePlaceC (x y : Pl) (S : ASt) (b : Bool) (hb : b = true ↔ x = y) : ADet Tryz.prog 66 [plV x, plV y] S (B b) S := by
  obtain ⟨c, hc⟩ := sub_iff (x.path = y.path)
  have pC := fun S => sameStrs x.path y.path S c hc
  refine ADet.intro mixed Tryz.call66 Tryz.func66 rfl ?_
  have hxy : x = y ↔ x.name = y.name ∧ x.path = y.path := by
    obtain ⟨a, p⟩ := x
    obtain ⟨d, q⟩ := y
    simp
  by_cases h1 : x.name = y.name
  · have hs : sEq x.name y.name = true := sEq_iff.2 h1
    obtain rfl : b = c := by
      rw [Bool.eq_iff_iff, hb, hc, hxy]
      exact ⟨fun h => h.2, fun h => ⟨h1, h⟩⟩
    simp [Tryz.ntmps66, hs]
    refine ⟨_, _, pC _, ?_⟩
    simp
  · have hs : sEq x.name y.name = false := sEq_ne h1
    rw [iff_false hb fun h => h1 (hxy.1 h).1]
    simp [Tryz.ntmps66, hs]
theorem ty_iff (t u : Ty) : t = u ↔ t.kind = u.kind ∧ t.name = u.name ∧ t.args.map id = u.args.map id := by
  obtain ⟨a, b, c⟩ := t
  obtain ⟨d, e, f⟩ := u
  simp [Ty.kind, Ty.name, Ty.args]
set_option maxRecDepth 100000 in
set_option maxHeartbeats 8000000 in
theorem sameTyC : ∀ (t u : Ty) (S : ASt) (b : Bool), (b = true ↔ t = u) → ADet Tryz.prog 28 [tyV t, tyV u] S (B b) S := by
  refine Ty.ind fun t ih u S b hb => ?_
  obtain ⟨c, hc⟩ := sub_iff (t.args.map id = u.args.map id)
  have eC := fun L => sameTypes id 28 t.args u.args (L :: S) (fun x hx y M b hb => ih x hx y _ b hb) c hc
  rw [ty_iff] at hb
  refine ADet.intro mixed Tryz.call28 Tryz.func28 rfl ?_
  by_cases h1 : t.kind = u.kind
  · by_cases h2 : t.name = u.name
    · have hs : sEq t.name u.name = true := sEq_iff.2 h2
      obtain rfl : b = c := by
        rw [Bool.eq_iff_iff, hb, hc]
        exact ⟨fun h => h.2.2, fun h => ⟨h1, h2, h⟩⟩
      simp [Tryz.ntmps28, h1, hs]
      refine ⟨_, _, eC _, ?_⟩
      simp
    · have hs : sEq t.name u.name = false := sEq_ne h2
      rw [iff_false hb fun h => h2 h.2.1]
      simp [Tryz.ntmps28, h1, hs]
  · have hk' : (t.kind == u.kind) = false := by simpa using h1
    rw [iff_false hb fun h => h1 h.1]
    simp [Tryz.ntmps28, hk']
theorem ex_iff (e f : Ex) : e.atm (fun _ => 0) = f.atm (fun _ => 0) ↔ e.op = f.op ∧ e.int = f.int ∧ e.name = f.name ∧ e.second = f.second ∧ e.place = f.place ∧ e.args.map (Ex.atm fun _ => 0) = f.args.map (Ex.atm fun _ => 0) := by
  rw [exAtm, exAtm]
  simp
set_option maxRecDepth 100000 in
set_option maxHeartbeats 16000000 in
theorem sameExC : ∀ (e f : Ex) (S : ASt) (b : Bool), (b = true ↔ e.atm (fun _ => 0) = f.atm (fun _ => 0)) → ADet Tryz.prog 29 [exV e, exV f] S (B b) S := by
  refine Ex.ind fun e ih f S b hb => ?_
  obtain ⟨c, hc⟩ := sub_iff (e.args.map (Ex.atm fun _ => 0) = f.args.map (Ex.atm fun _ => 0))
  obtain ⟨g, hg⟩ := sub_iff (e.place = f.place)
  have eC := fun L => sameExprs (Ex.atm fun _ => 0) 29 e.args f.args (L :: S) (fun x hx y M b hb => ih x hx y _ b hb) c hc
  have pC := fun S => samePlaceC e.place f.place S g hg
  rw [ex_iff] at hb
  refine ADet.intro mixed Tryz.call29 Tryz.func29 rfl ?_
  by_cases h1 : e.op = f.op
  case neg =>
    have k1 : (e.op == f.op) = false := by simpa using h1
    rw [iff_false hb fun h => h1 h.1]
    simp [Tryz.ntmps29, k1]
  by_cases h2 : e.int = f.int
  case neg =>
    have k2 : (e.int == f.int) = false := by simpa using h2
    rw [iff_false hb fun h => h2 h.2.1]
    simp [Tryz.ntmps29, h1, k2]
  by_cases h3 : e.name = f.name
  case neg =>
    have k3 : sEq e.name f.name = false := sEq_ne h3
    rw [iff_false hb fun h => h3 h.2.2.1]
    simp [Tryz.ntmps29, h1, h2, k3]
  have k3 : sEq e.name f.name = true := sEq_iff.2 h3
  by_cases h4 : e.second = f.second
  case neg =>
    have k4 : sEq e.second f.second = false := sEq_ne h4
    rw [iff_false hb fun h => h4 h.2.2.2.1]
    simp [Tryz.ntmps29, h1, h2, k3, k4]
  have k4 : sEq e.second f.second = true := sEq_iff.2 h4
  simp [Tryz.ntmps29, h1, h2, k3, k4]
  refine ⟨_, _, pC _, ?_⟩
  cases g with
  | false =>
    have h5 : ¬ e.place = f.place := fun h => by have := hg.2 h; cases this
    rw [iff_false hb fun h => h5 h.2.2.2.2.1]
    simp
  | true =>
    have h5 := hg.1 rfl
    obtain rfl : b = c := by
      rw [Bool.eq_iff_iff, hb, hc]
      exact ⟨fun h => h.2.2.2.2.2, fun h => ⟨h1, h2, h3, h4, h5, h⟩⟩
    simp
    refine ⟨_, _, eC _, ?_⟩
    simp
end Go.Proofs.YtlnoacoanfhdcaaGreatDoor

namespace Go.Proofs.YtlnoacoanfhdcaaGreatDoor
open Go.RowKit
attribute [local simp] List.replicate List.range List.range.loop resA resOne retA
set_option linter.unusedVariables false
set_option linter.unusedSimpArgs false
theorem st_iff (s t : St) : s.atm (fun _ => 0) = t.atm (fun _ => 0) ↔ s.op = t.op ∧ s.name = t.name ∧ s.second = t.second ∧ s.int = t.int ∧ s.names = t.names ∧ s.type = t.type ∧ s.place = t.place ∧ s.exprs.map (Ex.atm fun _ => 0) = t.exprs.map (Ex.atm fun _ => 0) ∧ s.body.map (St.atm fun _ => 0) = t.body.map (St.atm fun _ => 0) ∧ s.els.map (St.atm fun _ => 0) = t.els.map (St.atm fun _ => 0) ∧ s.arms.map (Ar.atm fun _ => 0) = t.arms.map (Ar.atm fun _ => 0) := by
  rw [stAtm, stAtm]
  simp only [St.mk.injEq]
  constructor
  · rintro ⟨a1, a2, a3, a4, a5, a6, a7, a8, a9, a10, a11, _⟩
    exact ⟨a1, a2, a3, a6, a4, a5, a7, a8, a9, a10, a11⟩
  · rintro ⟨a1, a2, a3, a6, a4, a5, a7, a8, a9, a10, a11⟩
    exact ⟨a1, a2, a3, a4, a5, a6, a7, a8, a9, a10, a11, trivial⟩
theorem ar_iff (x y : Ar) : x.atm (fun _ => 0) = y.atm (fun _ => 0) ↔ x.variant = y.variant ∧ x.name = y.name ∧ x.body.map (St.atm fun _ => 0) = y.body.map (St.atm fun _ => 0) := by
  unfold Ar.atm
  simp
theorem it_iff (x y : It) : x.atm (fun _ => 0) = y.atm (fun _ => 0) ↔ x.kind = y.kind ∧ x.name = y.name ∧ x.result = y.result ∧ x.ret.atm (fun _ => 0) = y.ret.atm (fun _ => 0) ∧ x.body.map (St.atm fun _ => 0) = y.body.map (St.atm fun _ => 0) ∧ x.fields.map id = y.fields.map id := by
  unfold It.atm
  simp only [It.mk.injEq, List.map_id]
  constructor
  · rintro ⟨a1, a2, a3, a4, a5, a6, _⟩
    exact ⟨a1, a2, a4, a6, a5, a3⟩
  · rintro ⟨a1, a2, a4, a6, a5, a3⟩
    exact ⟨a1, a2, a3, a4, a5, a6, trivial⟩
set_option maxRecDepth 100000 in
set_option maxHeartbeats 8000000 in
theorem sameStsC (l m : List St) (S : ASt) (hc : ∀ x ∈ l, ∀ (y : St) (S : ASt) (b : Bool), (b = true ↔ x.atm (fun _ => 0) = y.atm (fun _ => 0)) → ADet Tryz.prog 69 [stmV x, stmV y] S (B b) S) (b : Bool) (hb : b = true ↔ l.map (St.atm fun _ => 0) = m.map (St.atm fun _ => 0)) : ADet Tryz.prog 30 [.p (.sl 15 (l.map St.enc)), .p (.sl 15 (m.map St.enc))] S (B b) S := by
  have eC := fun L => sameStmts (St.atm fun _ => 0) 69 l m (L :: S) (fun x hx y M b hb => hc x hx y _ b hb) b hb
  refine ADet.intro mixed Tryz.call30 Tryz.func30 rfl ?_
  simp [Tryz.ntmps30]
  refine ⟨_, _, eC _, ?_⟩
  simp
set_option maxRecDepth 100000 in
set_option maxHeartbeats 8000000 in
theorem sameArC (x y : Ar) (S : ASt) (hc : ∀ z ∈ x.body, ∀ (y : St) (S : ASt) (b : Bool), (b = true ↔ z.atm (fun _ => 0) = y.atm (fun _ => 0)) → ADet Tryz.prog 69 [stmV z, stmV y] S (B b) S) (b : Bool) (hb : b = true ↔ x.atm (fun _ => 0) = y.atm (fun _ => 0)) : ADet Tryz.prog 111 [arV x, arV y] S (B b) S := by
  obtain ⟨c, hc1⟩ := sub_iff (x.body.map (St.atm fun _ => 0) = y.body.map (St.atm fun _ => 0))
  have eC := fun S => sameStsC x.body y.body S hc c hc1
  rw [ar_iff] at hb
  refine ADet.intro mixed Tryz.call111 Tryz.func111 rfl ?_
  by_cases h1 : x.variant = y.variant
  case neg =>
    have k1 : sEq x.variant y.variant = false := sEq_ne h1
    rw [iff_false hb fun h => h1 h.1]
    simp [Tryz.ntmps111, k1]
  have k1 : sEq x.variant y.variant = true := sEq_iff.2 h1
  by_cases h2 : x.name = y.name
  case neg =>
    have k2 : sEq x.name y.name = false := sEq_ne h2
    rw [iff_false hb fun h => h2 h.2.1]
    simp [Tryz.ntmps111, k1, k2]
  have k2 : sEq x.name y.name = true := sEq_iff.2 h2
  obtain rfl : b = c := by
    rw [Bool.eq_iff_iff, hb, hc1]
    exact ⟨fun h => h.2.2, fun h => ⟨h1, h2, h⟩⟩
  simp [Tryz.ntmps111, k1, k2]
  refine ⟨_, _, eC _, ?_⟩
  simp
set_option maxRecDepth 100000 in
set_option maxHeartbeats 32000000 in
theorem sameStC : ∀ (s t : St) (S : ASt) (b : Bool), (b = true ↔ s.atm (fun _ => 0) = t.atm (fun _ => 0)) → ADet Tryz.prog 69 [stmV s, stmV t] S (B b) S := by
  refine St.ind fun s i1 i2 i3 t S b hb => ?_
  obtain ⟨g1, q1⟩ := sub_iff (s.names = t.names)
  obtain ⟨g2, q2⟩ := sub_iff (s.type = t.type)
  obtain ⟨g4, q4⟩ := sub_iff (s.place = t.place)
  obtain ⟨g5, q5⟩ := sub_iff (s.exprs.map (Ex.atm fun _ => 0) = t.exprs.map (Ex.atm fun _ => 0))
  obtain ⟨g6, q6⟩ := sub_iff (s.body.map (St.atm fun _ => 0) = t.body.map (St.atm fun _ => 0))
  obtain ⟨g7, q7⟩ := sub_iff (s.els.map (St.atm fun _ => 0) = t.els.map (St.atm fun _ => 0))
  obtain ⟨g8, q8⟩ := sub_iff (s.arms.map (Ar.atm fun _ => 0) = t.arms.map (Ar.atm fun _ => 0))
  have c1 := fun S => sameStrs s.names t.names S g1 q1
  have c2 := fun S => sameTyC s.type t.type S g2 q2
  have c4 := fun S => samePlaceC s.place t.place S g4 q4
  have c5 := fun S => sameExprs (Ex.atm fun _ => 0) 29 s.exprs t.exprs S (fun x hx y M b hb => sameExC x y _ b hb) g5 q5
  have c6 := fun S => sameStsC s.body t.body S i1 g6 q6
  have c7 := fun S => sameStsC s.els t.els S i2 g7 q7
  have c8 := fun S => sameArms (Ar.atm fun _ => 0) 111 s.arms t.arms S (fun x hx y M b hb => sameArC x y _ (i3 x hx) b hb) g8 q8
  rw [st_iff] at hb
  refine ADet.intro mixed Tryz.call69 Tryz.func69 rfl ?_
  by_cases h1 : s.op = t.op
  case neg =>
    have k1 : (s.op == t.op) = false := by simpa using h1
    rw [iff_false hb fun h => h1 h.1]
    simp [Tryz.ntmps69, k1]
  by_cases h2 : s.name = t.name
  case neg =>
    have k2 : sEq s.name t.name = false := sEq_ne h2
    rw [iff_false hb fun h => h2 h.2.1]
    simp [Tryz.ntmps69, h1, k2]
  have k2 : sEq s.name t.name = true := sEq_iff.2 h2
  by_cases h3 : s.second = t.second
  case neg =>
    have k3 : sEq s.second t.second = false := sEq_ne h3
    rw [iff_false hb fun h => h3 h.2.2.1]
    simp [Tryz.ntmps69, h1, k2, k3]
  have k3 : sEq s.second t.second = true := sEq_iff.2 h3
  simp [Tryz.ntmps69, h1, k2, k3]
  refine ⟨_, _, c1 _, ?_⟩
  cases g1 with
  | false =>
    rw [iff_false hb fun h => by have := q1.2 h.2.2.2.2.1; cases this]
    simp
  | true =>
  simp
  refine ⟨_, _, c2 _, ?_⟩
  cases g2 with
  | false =>
    rw [iff_false hb fun h => by have := q2.2 h.2.2.2.2.2.1; cases this]
    simp
  | true =>
  by_cases h4 : s.int = t.int
  case neg =>
    have k4 : (s.int == t.int) = false := by simpa using h4
    rw [iff_false hb fun h => h4 h.2.2.2.1]
    simp [k4]
  simp [h4]
  refine ⟨_, _, c4 _, ?_⟩
  cases g4 with
  | false =>
    rw [iff_false hb fun h => by have := q4.2 h.2.2.2.2.2.2.1; cases this]
    simp
  | true =>
  simp
  refine ⟨_, _, c5 _, ?_⟩
  cases g5 with
  | false =>
    rw [iff_false hb fun h => by have := q5.2 h.2.2.2.2.2.2.2.1; cases this]
    simp
  | true =>
  simp
  refine ⟨_, _, c6 _, ?_⟩
  cases g6 with
  | false =>
    rw [iff_false hb fun h => by have := q6.2 h.2.2.2.2.2.2.2.2.1; cases this]
    simp
  | true =>
  simp
  refine ⟨_, _, c7 _, ?_⟩
  cases g7 with
  | false =>
    rw [iff_false hb fun h => by have := q7.2 h.2.2.2.2.2.2.2.2.2.1; cases this]
    simp
  | true =>
  obtain rfl : b = g8 := by
    rw [Bool.eq_iff_iff, hb, q8]
    exact ⟨fun h => h.2.2.2.2.2.2.2.2.2.2, fun h => ⟨h1, h2, h3, h4, q1.1 rfl, q2.1 rfl, q4.1 rfl, q5.1 rfl, q6.1 rfl, q7.1 rfl, h⟩⟩
  simp
  refine ⟨_, _, c8 _, ?_⟩
  simp
theorem fi_iff (x y : Fi) : x = y ↔ x.name = y.name ∧ x.type = y.type := by
  obtain ⟨a, b⟩ := x
  obtain ⟨c, d⟩ := y
  simp
set_option maxRecDepth 100000 in
set_option maxHeartbeats 8000000 in
theorem sameFiC (x y : Fi) (S : ASt) (b : Bool) (hb : b = true ↔ x = y) : ADet Tryz.prog 32 [fiV x, fiV y] S (B b) S := by
  obtain ⟨c, hc⟩ := sub_iff (x.type = y.type)
  have tC := fun S => sameTyC x.type y.type S c hc
  rw [fi_iff] at hb
  refine ADet.intro mixed Tryz.call32 Tryz.func32 rfl ?_
  by_cases h1 : x.name = y.name
  case neg =>
    have k1 : sEq x.name y.name = false := sEq_ne h1
    rw [iff_false hb fun h => h1 h.1]
    simp [Tryz.ntmps32, k1]
  have k1 : sEq x.name y.name = true := sEq_iff.2 h1
  obtain rfl : b = c := by
    rw [Bool.eq_iff_iff, hb, hc]
    exact ⟨fun h => h.2, fun h => ⟨h1, h⟩⟩
  simp [Tryz.ntmps32, k1]
  refine ⟨_, _, tC _, ?_⟩
  simp
set_option maxRecDepth 100000 in
set_option maxHeartbeats 16000000 in
theorem sameItC (x y : It) (S : ASt) (b : Bool) (hb : b = true ↔ x.atm (fun _ => 0) = y.atm (fun _ => 0)) : ADet Tryz.prog 27 [itV x, itV y] S (B b) S := by
  obtain ⟨g1, q1⟩ := sub_iff (x.result = y.result)
  obtain ⟨g2, q2⟩ := sub_iff (x.ret.atm (fun _ => 0) = y.ret.atm (fun _ => 0))
  obtain ⟨g3, q3⟩ := sub_iff (x.body.map (St.atm fun _ => 0) = y.body.map (St.atm fun _ => 0))
  obtain ⟨g4, q4⟩ := sub_iff (x.fields.map id = y.fields.map id)
  have c1 := fun S => sameTyC x.result y.result S g1 q1
  have c2 := fun S => sameExC x.ret y.ret S g2 q2
  have c3 := fun S => sameStsC x.body y.body S (fun z _ y S b hb => sameStC z y S b hb) g3 q3
  have c4 := fun S => sameFields id 32 x.fields y.fields S (fun x hx y M b hb => sameFiC x y _ b hb) g4 q4
  rw [it_iff] at hb
  refine ADet.intro mixed Tryz.call27 Tryz.func27 rfl ?_
  by_cases h1 : x.kind = y.kind
  case neg =>
    have k1 : (x.kind == y.kind) = false := by simpa using h1
    rw [iff_false hb fun h => h1 h.1]
    simp [Tryz.ntmps27, k1]
  by_cases h2 : x.name = y.name
  case neg =>
    have k2 : sEq x.name y.name = false := sEq_ne h2
    rw [iff_false hb fun h => h2 h.2.1]
    simp [Tryz.ntmps27, h1, k2]
  have k2 : sEq x.name y.name = true := sEq_iff.2 h2
  simp [Tryz.ntmps27, h1, k2]
  refine ⟨_, _, c1 _, ?_⟩
  cases g1 with
  | false =>
    rw [iff_false hb fun h => by have := q1.2 h.2.2.1; cases this]
    simp
  | true =>
  simp
  refine ⟨_, _, c2 _, ?_⟩
  cases g2 with
  | false =>
    rw [iff_false hb fun h => by have := q2.2 h.2.2.2.1; cases this]
    simp
  | true =>
  simp
  refine ⟨_, _, c3 _, ?_⟩
  cases g3 with
  | false =>
    rw [iff_false hb fun h => by have := q3.2 h.2.2.2.2.1; cases this]
    simp
  | true =>
  obtain rfl : b = g4 := by
    rw [Bool.eq_iff_iff, hb, q4]
    exact ⟨fun h => h.2.2.2.2.2, fun h => ⟨h1, h2, q1.1 rfl, q2.1 rfl, q3.1 rfl, h⟩⟩
  simp
  refine ⟨_, _, c4 _, ?_⟩
  simp
set_option maxRecDepth 100000 in
set_option maxHeartbeats 8000000 in
theorem sameProgC (p q : List It) (S : ASt) (b : Bool) (hb : b = true ↔ p.map (It.atm fun _ => 0) = q.map (It.atm fun _ => 0)) : ADet Tryz.prog 8 [.agg [.p (prog p)], .agg [.p (prog q)]] S (B b) S := by
  have eC := fun L => sameItems (It.atm fun _ => 0) 27 p q (L :: S) (fun x hx y M b hb => sameItC x y _ b hb) b hb
  refine ADet.intro mixed Tryz.call8 Tryz.func8 rfl ?_
  simp [Tryz.ntmps8, prog]
  refine ⟨_, _, eC _, ?_⟩
  simp
end Go.Proofs.YtlnoacoanfhdcaaGreatDoor
