/- The objects of weftwaylaw07.TablesChain, plain. No statement is proved here. -/
import Derived.Test.YtjkdpnnccaeepaaGreatDoorTaQ
import Derived.Test.YtjkdpnnccaeepaaGreatDoorAlWk
namespace Go.Proofs.YtjkdpnnccaeepaaGreatDoor
open Go.RowKit
set_option linter.unusedVariables false
set_option linter.unusedSimpArgs false
abbrev nilQ : AV := .p (.v (.slice none 0 0))
/-- an item's cells; its fields lie in a row of their own -/
def itQA (j o : Nat) : List AV := [U 1, Sg (nmQ j), .rsl 0 o 1 4, U 0, Sg emS, nilQ, nilQ, U 0, I 0, Sg emS, Sg emS, Sg emS, nilQ, nilQ, I 0, I j]
def itsQA (i : Nat) : List AV := ((List.range i).map fun j => itQA j (5 * j + 5)).flatten
def fiQA (j : Nat) : List AV := [Sg (⟨#[97]⟩ : ByteArray), U 4, Sg (nmQ j), nilQ]
theorem itsQA_succ (i : Nat) : itsQA (i + 1) = itsQA i ++ itQA i (5 * i + 5) := by
  unfold itsQA
  rw [List.range_succ, List.map_append, List.flatten_append]
  simp
def loopGQ (R : ASt) (x : Nat × List AObj) : ASt := (.cells [.rsl 0 1 x.1 16] 25 :: .row 41 16 x.1 (itsQA x.1) :: x.2) :: R
def loopIQ (n : Nat) (x : Nat × List AObj) : Prop := x.1 ≤ n ∧ x.2.length = 5 * x.1 ∧ (∀ o ∈ x.2, ∀ m, wkL [o.cut m] [o]) ∧ ∀ j, j < x.1 → x.2[5 * j + 3]? = some (.row 31 4 1 (fiQA (j + 1)))
theorem cuts_itsQA {N i : Nat} (h : 5 * i < N) : AV.cuts N (itsQA i) = itsQA i := by
  rw [cuts_map]
  conv => rhs; rw [← List.map_id (itsQA i)]
  refine List.map_congr_left fun c hc => ?_
  unfold itsQA at hc
  obtain ⟨cs, h1, h2⟩ := List.mem_flatten.1 hc
  obtain ⟨j, hj, rfl⟩ := List.mem_map.1 h1
  have hj' : j < i := List.mem_range.1 hj
  have hlt : 5 * j + 5 < N := by omega
  simp only [itQA, List.mem_cons, List.not_mem_nil, or_false] at h2
  rcases h2 with rfl | rfl | rfl | rfl | rfl | rfl | rfl | rfl | rfl | rfl | rfl | rfl | rfl | rfl | rfl | rfl <;> simp [AV.cut, hlt]
theorem wk_endQ {N i : Nat} {T E : TypeId} {ex B B' : List AObj} (hN : N = 2 + 5 * (i + 1)) (hex : ex.length = 5 * i) (hB : B.length = 5) (hcut : ∀ o ∈ ex, ∀ m, wkL [o.cut m] [o]) (hBB : wkL (B.map (AObj.cut N)) B') :
    wkL (List.map (AObj.cut N) (List.take N (.cells [.rsl 0 1 (i + 1) 16] T :: .row E 16 (i + 1) (itsQA i ++ itQA i (5 * i + 5)) :: (ex ++ B)))) (.cells [.rsl 0 1 (i + 1) 16] T :: .row E 16 (i + 1) (itsQA (i + 1)) :: (ex ++ B')) := by
  rw [List.take_of_length_le (by simp [hex, hB]; omega), ← itsQA_succ, List.map_cons, List.map_cons, List.map_append]
  have h1 : AObj.cut N (.cells [.rsl 0 1 (i + 1) 16] T) = .cells [.rsl 0 1 (i + 1) 16] T := by
    have : 1 < N := by omega
    simp [AObj.cut, AV.cuts, AV.cut, this]
  have h2 : AObj.cut N (.row E 16 (i + 1) (itsQA (i + 1))) = .row E 16 (i + 1) (itsQA (i + 1)) := by
    show AObj.row E 16 (i + 1) (AV.cuts N (itsQA (i + 1))) = _
    rw [cuts_itsQA (by omega)]
  rw [h1, h2]
  exact ⟨⟨rfl, wkR_refl _⟩, ⟨⟨⟨rfl, rfl, rfl⟩, wkR_refl _⟩, wkL_ex hBB ex hcut⟩⟩
theorem flat16Q {f : Nat → List AV} (h : ∀ j, (f j).length = 16) : ∀ (n j q : Nat), j < n → q < 16 → ((List.range n).map f).flatten[16 * j + q]? = (f j)[q]?
  | 0, j, q, hj, hq => by omega
  | n + 1, j, q, hj, hq => by
    have hlen : ∀ n, ((List.range n).map f).flatten.length = 16 * n := fun n => by
      induction n with
      | zero => rfl
      | succ n ih => rw [List.range_succ, List.map_append, List.flatten_append, List.length_append, ih]; simp [h]; omega
    rw [List.range_succ, List.map_append, List.flatten_append]
    rcases Nat.lt_or_ge j n with hjn | hjn
    · rw [List.getElem?_append_left (by rw [hlen]; omega)]
      exact flat16Q h n j q hjn hq
    · obtain rfl : j = n := by omega
      rw [List.getElem?_append_right (by rw [hlen]; omega), hlen]
      simp
theorem itsQA_get (n : Nat) {j q : Nat} (hj : j < n) (hq : q < 16) : (itsQA n)[16 * j + q]? = (itQA j (5 * j + 5))[q]? := flat16Q (f := fun j => itQA j (5 * j + 5)) (fun j => rfl) n j q hj hq
theorem lentQ {S : ASt} {nx : Nat → Nat} {n : Nat} {E E2 : TypeId} (h1 : get2 S 0 1 = some (.row E 16 n (itsQA n))) (h2 : ∀ j, j < n → get2 S 0 (5 * j + 5) = some (.row E2 4 1 (fiQA (nx j)))) : Lent S (.rsl 0 1 n 16) (prog (chQ nx n)) := by
  refine Lent.row h1 (by simp [chQ]) (by simp) fun r cs row hcs hrow => ?_
  unfold chQ at hrow
  rw [List.map_map, List.getElem?_map] at hrow
  rw [List.getElem?_map] at hcs
  obtain ⟨j, hj, rfl⟩ := Option.map_eq_some_iff.1 hcs
  rw [hj] at hrow
  cases hrow
  have hjn : j < n := List.mem_range.1 (List.mem_of_getElem? hj)
  refine ⟨rfl, rfl, fun q c p hc hp => ?_⟩
  have hl : Lent S (.rsl 0 (5 * j + 5) 1 4) (.sl 4 [(fiQ (nx j)).enc]) := by
    refine Lent.row (css := [fiQA (nx j)]) (by simpa using h2 j hjn) rfl rfl fun r cs row hcs hrow => ?_
    cases r with
    | succ r => simp at hcs
    | zero =>
      cases hcs
      cases hrow
      refine ⟨rfl, rfl, fun j c q hc hq => ?_⟩
      match j, hc, hq with
      | 0, hc, hq => cases hc; cases hq; exact .p _
      | 1, hc, hq => cases hc; cases hq; exact .p _
      | 2, hc, hq => cases hc; cases hq; exact .p _
      | 3, hc, hq => cases hc; cases hq; exact .nil _
      | _ + 4, hc, hq => simp [fiQA] at hc
  match q, hc, hp with
  | 0, hc, hp => cases hc; cases hp; exact .p _
  | 1, hc, hp => cases hc; cases hp; exact .p _
  | 2, hc, hp => cases hc; cases hp; exact hl
  | 3, hc, hp => cases hc; cases hp; exact .p _
  | 4, hc, hp => cases hc; cases hp; exact .p _
  | 5, hc, hp => cases hc; cases hp; exact .nil _
  | 6, hc, hp => cases hc; cases hp; exact .nil _
  | 7, hc, hp => cases hc; cases hp; exact .p _
  | 8, hc, hp => cases hc; cases hp; exact .p _
  | 9, hc, hp => cases hc; cases hp; exact .p _
  | 10, hc, hp => cases hc; cases hp; exact .p _
  | 11, hc, hp => cases hc; cases hp; exact .p _
  | 12, hc, hp => cases hc; cases hp; exact .nil _
  | 13, hc, hp => cases hc; cases hp; exact .nil _
  | 14, hc, hp => cases hc; cases hp; exact .p _
  | 15, hc, hp => cases hc; cases hp; exact .p _
  | _ + 16, hc, hp => simp [itQA] at hc
end Go.Proofs.YtjkdpnnccaeepaaGreatDoor
