/- Rows of structs, each having the next one, in plain words. No statement is proved here. -/
import Derived.Test.YtjkdpnnccaeepaaGreatDoorMTa
import Derived.Test.YtjkdpnnccaeepaaGreatDoorMPa
import Derived.Test.YtjkdpnnccaeepaaGreatDoorMWi
namespace Go.Proofs.YtjkdpnnccaeepaaGreatDoor
open Go.RowKit
set_option linter.unusedVariables false
set_option linter.unusedSimpArgs false
def nmQ (i : Nat) : ByteArray := ⟨#[83, UInt8.ofNat (97 + i)]⟩
def fiQ (j : Nat) : Fi := ⟨(⟨#[97]⟩ : ByteArray), .mk 4 (nmQ j) []⟩
def itQ (nx : Nat → Nat) (j : Nat) : It := ⟨1, nmQ j, [fiQ (nx j)], zeroT, [], zeroX, j⟩
def chQ (nx : Nat → Nat) (n : Nat) : List It := (List.range n).map (itQ nx)
def nxO (j : Nat) : Nat := j + 1
def nxS (n j : Nat) : Nat := if j + 1 = n then 0 else j + 1
theorem chain_open {n : Nat} (h1 : 1 ≤ n) (h2 : n ≤ 20) : checkT (chQ nxO n) 60 = some [] := by
  have h : (List.range 21).all (fun n => decide (n = 0) || decide (checkT (chQ nxO n) 60 = some [])) = true := by kernel_rfl
  have := List.all_eq_true.1 h n (List.mem_range.2 (by omega))
  simp only [Bool.or_eq_true, decide_eq_true_eq] at this
  rcases this with h | h
  · omega
  · exact h
theorem chain_shut {n : Nat} (h1 : 1 ≤ n) (h2 : n ≤ 20) : checkT (chQ (nxS n) n) 60 = some ((List.range n).map fun j : Nat => ((71 : Int), (j : Int))) := by
  have h : (List.range 21).all (fun n => decide (n = 0) || decide (checkT (chQ (nxS n) n) 60 = some ((List.range n).map fun j : Nat => ((71 : Int), (j : Int))))) = true := by kernel_rfl
  have := List.all_eq_true.1 h n (List.mem_range.2 (by omega))
  simp only [Bool.or_eq_true, decide_eq_true_eq] at this
  rcases this with h | h
  · omega
  · exact h
theorem chQ_sm {nx : Nat → Nat} {n : Nat} (hn : n ≤ 20) : PrSm (chQ nx n) := by
  refine ⟨by simp [chQ]; omega, fun x hx => ?_⟩
  obtain ⟨j, hj, rfl⟩ := List.mem_map.1 hx
  have z1 : TySm zeroT := .mk _ (show 0 ≤ 20000 by omega) (show 0 ≤ 20000 by omega) fun x hx => by cases hx
  have z2 : ExSm zeroX := .mk _ (show 0 ≤ 20000 by omega) (show 0 ≤ 20000 by omega) ⟨show 0 ≤ 20000 by omega, show 0 ≤ 20000 by omega, fun x hx => by cases hx⟩ (show 0 ≤ 20000 by omega) fun x hx => by cases hx
  have z3 : StsSm [] := ⟨show 0 ≤ 20000 by omega, fun x hx => by cases hx⟩
  have z4 : FiSm (fiQ (nx j)) := ⟨show 1 ≤ 20000 by omega, .mk _ (show 2 ≤ 20000 by omega) (show 0 ≤ 20000 by omega) fun x hx => by cases hx⟩
  refine ⟨show 2 ≤ 20000 by omega, ⟨show 1 ≤ 20000 by omega, fun g hg => ?_⟩, z1, z3, z2⟩
  rw [List.mem_singleton.1 hg]
  exact z4
end Go.Proofs.YtjkdpnnccaeepaaGreatDoor
