/- What is whole, by the reference: any expression. No statement is proved here. -/
import Derived.Test.YtldglgdejmljnaaGreatDoorMXa
import Derived.Test.YtldglgdejmljnaaGreatDoorMXb
import Derived.Test.YtldglgdejmljnaaGreatDoorMXc
import Derived.Test.YtldglgdejmljnaaGreatDoorMXd
import Derived.Test.YtldglgdejmljnaaGreatDoorMXe
namespace Go.Proofs.YtldglgdejmljnaaGreatDoor
open Go.RowKit
set_option linter.unusedVariables false
set_option linter.unusedSimpArgs false

/-- every kind of expression is a byte -/
def ExNn : Ex → Prop
  | .mk op int name second pl args pos => (0 ≤ op ∧ op ≤ 255) ∧ ExNns args
where ExNns : List Ex → Prop
  | [] => True
  | e :: l => ExNn e ∧ ExNns l
theorem exNns_iff (l : List Ex) : ExNn.ExNns l ↔ ∀ e ∈ l, ExNn e := by
  induction l with
  | nil => simp [ExNn.ExNns]
  | cons e l ih => simp [ExNn.ExNns, ih]
theorem exNn_iff (e : Ex) : ExNn e ↔ (0 ≤ e.op ∧ e.op ≤ 255) ∧ ∀ x ∈ e.args, ExNn x := by
  cases e with | mk op int name second pl args pos => rw [← exNns_iff]; simp only [ExNn]; rfl
theorem formS_out (op : Int) (h : ¬ (1 ≤ op ∧ op ≤ 36)) : formS op = emS := by
  unfold formS
  rw [if_neg (by omega), if_neg (by omega), if_neg (by omega), if_neg (by omega), if_neg (by omega), if_neg (by omega), if_neg (by omega), if_neg (by omega), if_neg (by omega), if_neg (by omega)]
theorem shO_out (op : Int) (h : ¬ (1 ≤ op ∧ op ≤ 36)) : shO op = false := by
  unfold shO
  simp
  omega
set_option maxRecDepth 100000 in
set_option maxHeartbeats 1000000 in
theorem re_out (e : Ex) (h : ¬ (1 ≤ e.op ∧ e.op ≤ 36)) (hnn : 0 ≤ e.op ∧ e.op ≤ 255) : RE e := by
  intro d S hd1 hd2
  have hR : e.whole d = false := by rw [exWhole_eq]; simp [exHead, shO_out _ h]
  rw [hR]
  refine ADet.intro mixed Tryz.call11 Tryz.func11 rfl ?_
  simp [List.replicate, List.range, List.range.loop, Tryz.ntmps11]
  refine ⟨_, _, formC e.op hnn.1 hnn.2 _, ?_⟩
  rw [formS_out _ h]
  by_cases h0 : 1 ≤ d
  · have h0' : ¬ d < 1 := by omega
    simp [List.replicate, List.range, List.range.loop, resA, resOne, retA, h0, h0', sEq_self]
  · have h0' : d < 1 := by omega
    simp [List.replicate, List.range, List.range.loop, resA, resOne, retA, h0, h0', sEq_self]
theorem rExprC : ∀ (e : Ex), ExSm e → ExNn e → RE e := by
  refine Ex.ind fun e ih hsm hnn => ?_
  have hn2 := (exNn_iff e).1 hnn
  cases hsm with
  | mk _ hn hs2 hpl hsz ha =>
  have ih' : ∀ x ∈ e.args, RE x := fun x hx => ih x hx (ha x hx) (hn2.2 x hx)
  have hop := hn2.1
  by_cases k0 : 1 ≤ e.op ∧ e.op ≤ 36
  · by_cases k1 : e.op = 1
    · exact re_i0 e k1 ih' hn hs2 hpl hsz
    by_cases k2 : e.op = 2
    · exact re_b0 e k2 ih' hn hs2 hpl hsz
    by_cases k3 : e.op = 3
    · exact re_0 e k3 ih' hn hs2 hpl hsz
    by_cases k4 : (e.op = 4 ∨ e.op = 5 ∨ e.op = 6 ∨ e.op = 24 ∨ e.op = 28 ∨ e.op = 32 ∨ e.op = 36)
    · exact re_p0 e k4 ih' hn hs2 hpl hsz
    by_cases k5 : (9 ≤ e.op ∧ e.op ≤ 17)
    · exact re_2 e k5 ih' hn hs2 hpl hsz
    by_cases k6 : e.op = 18
    · exact re_n6 e k6 ih' hn hs2 hpl hsz
    by_cases k7 : e.op = 19
    · exact re_tf6 e k7 ih' hn hs2 hpl hsz
    by_cases k8 : e.op = 20
    · exact re_tv9 e k8 ih' hn hs2 hpl hsz
    by_cases k9 : (e.op = 25 ∨ e.op = 33 ∨ e.op = 34 ∨ e.op = 35)
    · exact re_p1 e k9 ih' hn hs2 hpl hsz
    · exact re_1 e (by omega) ih' hn hs2 hpl hsz
  · exact re_out e k0 hop
end Go.Proofs.YtldglgdejmljnaaGreatDoor
