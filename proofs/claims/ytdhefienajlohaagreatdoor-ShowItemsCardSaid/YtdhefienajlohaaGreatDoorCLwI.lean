/- weftwaylaw04.ShowItems in the logic over abstract values. The row is in a text of its own. -/
import Derived.Test.YtdhefienajlohaaGreatDoorMAw
import Derived.Test.YtdhefienajlohaaGreatDoorMAw
namespace Go.Proofs.YtdhefienajlohaaGreatDoor
open Go.RowKit
attribute [local simp] List.replicate List.range List.range.loop resA resOne retA virtL virtO virt_get List.find? nextD_eq awpD_nil awpD_cons LCp LCl refL
set_option linter.unusedVariables false
set_option linter.unusedSimpArgs false

theorem progB_append (p q : List It) : progB (p ++ q) = progB p ++ progB q := by
  have key : ∀ (q : List It) (a b : ByteArray), q.foldl (fun b x => b ++ itemB x) (a ++ b) = a ++ q.foldl (fun b x => b ++ itemB x) b := fun q => by
    induction q with
    | nil => intro a b; rfl
    | cons x q ih => intro a b; simp only [List.foldl_cons]; rw [ByteArray.append_assoc, ih]
  unfold progB
  rw [List.foldl_append]
  have := key q (p.foldl (fun b x => b ++ itemB x) emS) emS
  rwa [show emS = ByteArray.empty from rfl, ByteArray.append_empty] at this
theorem prWhole_append {p q : List It} (hp : prWhole p = true) (hq : prWhole q = true) (h1 : p.length ≤ 15) (h2 : q.length ≤ 15) : prWhole (p ++ q) = true := by
  have a := allUp_mem hp
  have b := allUp_mem hq
  unfold prWhole
  rw [allUp_and]
  simp only [Bool.and_eq_true, decide_eq_true_eq, List.all_eq_true]
  refine ⟨by rw [List.length_append]; omega, fun x hx => ?_⟩
  rcases List.mem_append.1 hx with h | h
  · exact a x h
  · exact b x h
theorem tsum_append {α : Type} (t : α → Nat) (p q : List α) : tsum t (p ++ q) = tsum t p + tsum t q := by
  induction p with
  | nil => simp [tsum]
  | cons x p ih => simp [tsum, ih]; omega

set_option maxRecDepth 100000 in
set_option maxHeartbeats 8000000 in
theorem showItemsC (p q : List It) (hp : ∀ x ∈ p, ItRg x) (hq : ∀ x ∈ q, ItRg x) (S : ASt) : ADet Tryz.prog 3 [.agg [.p (prog p)], .agg [.p (prog q)]] S (B true) S := by
  refine ADet.intro mixed Tryz.call3 Tryz.func3 rfl ?_
  simp [Tryz.ntmps3]
  refine ⟨_, _, awakeC _, ?_⟩
  simp
  refine ⟨_, _, greatC _ p, ?_⟩
  cases g1 : great p with
  | true => simp
  | false =>
  simp
  refine ⟨_, _, greatC _ q, ?_⟩
  cases g2 : great q with
  | true => simp
  | false =>
  have hsp := pr_sm g1
  have hsq := pr_sm g2
  obtain ⟨htp, hbp⟩ := pr_tls hp g1
  obtain ⟨htq, hbq⟩ := pr_tls hq g2
  have wP := fun S => wholeProgC p hsp S
  have wQ := fun S => wholeProgC q hsq S
  have sP := fun S => showProgramC p hsp hp (by omega) S
  have sQ := fun S => showProgramC q hsq hq (by omega) S
  by_cases l1 : p.length ≤ 15
  case neg =>
    have l1' : (15 : Int) < (p.length : Int) := by omega
    simp [prog, l1, l1']
  by_cases l2 : q.length ≤ 15
  case neg =>
    have l1' : ¬ (15 : Int) < (p.length : Int) := by omega
    have l2' : (15 : Int) < (q.length : Int) := by omega
    simp [prog, l1', l2']
  have l1' : ¬ (15 : Int) < (p.length : Int) := by omega
  have l2' : ¬ (15 : Int) < (q.length : Int) := by omega
  simp [prog, l1', l2']
  refine ⟨_, _, wP _, ?_⟩
  cases w1 : prWhole p with
  | false => simp
  | true =>
  simp
  refine ⟨_, _, wQ _, ?_⟩
  cases w2 : prWhole q with
  | false => simp
  | true =>
  have hsa : PrSm (p ++ q) := ⟨by rw [List.length_append]; omega, fun x hx => by
    rcases List.mem_append.1 hx with h | h
    · exact hsp.2 x h
    · exact hsq.2 x h⟩
  have hra : ∀ x ∈ p ++ q, ItRg x := fun x hx => by
    rcases List.mem_append.1 hx with h | h
    · exact hp x h
    · exact hq x h
  have sA := fun S => showProgramC (p ++ q) hsa hra (by rw [tsum_append]; omega) S
  rw [prWhole_append w1 w2 l1 l2, if_pos rfl, progB_append] at sA
  rw [w1, if_pos rfl] at sP
  rw [w2, if_pos rfl] at sQ
  have z1 := progB_size p
  have z2 := progB_size q
  have b1 : (progB p).size + (progB q).size ≤ maxLen := by unfold maxLen; omega
  have e1 : p.length ≤ 4294967296 := by omega
  have e2 : p.length + q.length ≤ 4294967296 := by omega
  simp [e1, e2]
  refine awp_draw [(2, 1), (4, 1), (4, 3)] (by kernel_rfl) (by kernel_rfl) ?_
  simp
  refine ⟨_, _, ADet.sub (.cons (.agg (.cons (.osl (by rw [← List.map_append]; exact .refl _)) (.refl _))) (.refl _)) (sA _), ?_⟩
  simp
  refine ⟨_, _, sP _, ?_⟩
  simp
  refine ⟨_, _, sQ _, ?_⟩
  simp [b1]
end Go.Proofs.YtdhefienajlohaaGreatDoor
