/- weftwaylaw07.TablesFunctions in the logic over abstract values. The row is in a text of its own. -/
import Derived.Test.YtdnekbmnbblhgaaGreatDoorMTl
import Derived.Test.YtdnekbmnbblhgaaGreatDoorMWp
import Derived.Test.YtdnekbmnbblhgaaGreatDoorMOpen
namespace Go.Proofs.YtdnekbmnbblhgaaGreatDoor
open Go.RowKit
attribute [local simp] List.replicate List.range List.range.loop resA resOne retA
set_option linter.unusedVariables false
set_option linter.unusedSimpArgs false

/-- a function whose parameter, result, channel are of a type -/
def fnIt (t : Ty) : It := ⟨3, (⟨#[102]⟩ : ByteArray), [⟨(⟨#[97]⟩ : ByteArray), t⟩], t, [.mk 12 (⟨#[115]⟩ : ByteArray) (⟨#[114]⟩ : ByteArray) [] t 1 ⟨emS, []⟩ [] [] [] [] 9], .mk 3 0 emS emS ⟨emS, []⟩ [] 0, 0⟩
theorem fnProg (t : Ty) : prog [fnIt t] = .sl 16 [[pU 3, pS (⟨#[102]⟩ : ByteArray), .sl 4 [[pS (⟨#[97]⟩ : ByteArray), pU t.kind, pS t.name, .sl 3 (t.args.map Ty.enc)]], pU t.kind, pS t.name, .sl 3 (t.args.map Ty.enc),
    .sl 15 [[pU 12, pS (⟨#[115]⟩ : ByteArray), pS (⟨#[114]⟩ : ByteArray), .sl 1 [], pU t.kind, pS t.name, .sl 3 (t.args.map Ty.enc), pI 1, pS emS, .sl 1 [], .sl 8 [], .sl 15 [], .sl 15 [], .sl 3 [], pI 9]], pU 3, pI 0, pS emS, pS emS, pS emS, .sl 1 [], .sl 8 [], pI 0, pI 0]] := by
  simp only [prog, fnIt, List.map_cons, List.map_nil, It.enc, Fi.enc, stEnc, St.op, St.name, St.second, St.names, St.type, St.int, St.place, St.exprs, St.body, St.els, St.arms, St.pos, Ex.op, Ex.int, Ex.name, Ex.second, Ex.place, Ex.args, Ex.pos, strs]
theorem fnSm {t : Ty} (h : TySm t) : PrSm [fnIt t] := by
  have e0 : emS.size = 0 := rfl
  refine ⟨by simp, fun x hx => ?_⟩
  simp at hx
  subst hx
  refine ⟨(by decide : (1 : Nat) ≤ 20000), ⟨by simp [fnIt], fun f hf => ?_⟩, h, ⟨by simp [fnIt], fun s hs => ?_⟩, ?_⟩
  · simp [fnIt] at hf
    subst hf
    exact ⟨(by decide : (1 : Nat) ≤ 20000), h⟩
  · simp [fnIt] at hs
    subst hs
    refine .mk _ (by show (1 : Nat) ≤ 20000; omega) (by show (1 : Nat) ≤ 20000; omega) ⟨by simp [St.names], by simp [St.names]⟩ h ⟨by show (0 : Nat) ≤ 20000; omega, ⟨by simp [St.place], by simp [St.place]⟩⟩ ⟨by simp [St.exprs], by simp [St.exprs]⟩ (by simp [St.body]) (by simp [St.els]) (by simp [St.arms]) (by simp [St.body]) (by simp [St.els]) (by simp [St.arms]) (by simp [St.arms])
  · exact .mk _ (by show (0 : Nat) ≤ 20000; omega) (by show (0 : Nat) ≤ 20000; omega) ⟨by show (0 : Nat) ≤ 20000; omega, ⟨by simp [fnIt, Ex.place], by simp [fnIt, Ex.place]⟩⟩ (by simp [fnIt, Ex.args]) (by simp [fnIt, Ex.args])
theorem fnTab (t : Ty) (hm : t.stands = true) (hw : prWhole [fnIt t] = true) : checkT [fnIt t] 1 = some (if t.owned = true then [] else [(70, 0), (70, 9)]) := by
  unfold checkT
  rw [if_pos hw]
  cases ho : t.owned <;> simp [itsTabs, It.tabs, fnIt, wrongL, hm, ho, St.tabss, St.tabs, Ar.tabss]
theorem atoms_map (l : List Value) : atomsAV (l.map fun v => .p (.v v)) = some l := by
  induction l with
  | nil => rfl
  | cons v l ih => simp [atomsAV, atomAV, ih]
/-- two structs of atoms compared -/
theorem genP_agg {T : TypeId} {o : Oper} {fr : List AV} {x y : Operand} {k : TypeId} (cx cy : List Value) (b : Bool) (ho : o.op = .binOp .eql T x y k) (hx : evA fr x = .agg (cx.map fun v => .p (.v v))) (hy : evA fr y = .agg (cy.map fun v => .p (.v v)))
    (hrun : pureRun Tryz.prog (do eqGuard .eql T x y (.agg cx.toArray) (.agg cy.toArray); binOp .eql T (.agg cx.toArray) (.agg cy.toArray) : Sem Value) = some (.bool b)) : genP Tryz.prog o fr = some (B b) := by
  obtain ⟨dst, op, ty, pos, after, guard⟩ := o
  simp only at ho
  subst ho
  have v1 : atomV (evA fr x) = some (.agg cx.toArray) := by rw [hx]; simp [atomV, atoms_map]
  have v2 : atomV (evA fr y) = some (.agg cy.toArray) := by rw [hy]; simp [atomV, atoms_map]
  have h1 : (noSel (.binOp .eql T x y k) && allAtoms fr (Op.operands (.binOp .eql T x y k)).toList) = true := by
    show (true && allAtoms fr [x, y]) = true
    rw [Bool.true_and, allAtoms, allAtoms, allAtoms, v1, v2]
    rfl
  have h2 : pureRun Tryz.prog (execOp (fun z => (atomV (evA fr z)).getD undef) ⟨dst, .binOp .eql T x y k, ty, pos, after, guard⟩) = some (.value (.bool b)) := by
    have e1 : (atomV (evA fr x)).getD undef = .agg cx.toArray := by rw [v1]; rfl
    have e2 : (atomV (evA fr y)).getD undef = .agg cy.toArray := by rw [v2]; rfl
    unfold execOp
    simp only [e1, e2]
    exact pureRun_map _ _ _ hrun
  unfold genP
  simp only
  rw [if_pos h1, h2]
  rfl
theorem flt_eq0 (dst : Option Tmp) (x y : Operand) (k ty : TypeId) (pos : String) (after : Array Edge) (guard : Option (Nat × Bool)) (fr : List AV) (hx : evA fr x = .agg [I 70, I 0]) (hy : evA fr y = .agg [I 70, I 0]) : genP Tryz.prog ⟨dst, .binOp .eql 56 x y k, ty, pos, after, guard⟩ fr = some (B true) :=
  genP_agg [.int .i64 70, .int .i64 0] [.int .i64 70, .int .i64 0] true rfl hx hy (by kernel_rfl)
theorem flt_eq9 (dst : Option Tmp) (x y : Operand) (k ty : TypeId) (pos : String) (after : Array Edge) (guard : Option (Nat × Bool)) (fr : List AV) (hx : evA fr x = .agg [I 70, I 9]) (hy : evA fr y = .agg [I 70, I 9]) : genP Tryz.prog ⟨dst, .binOp .eql 56 x y k, ty, pos, after, guard⟩ fr = some (B true) :=
  genP_agg [.int .i64 70, .int .i64 9] [.int .i64 70, .int .i64 9] true rfl hx hy (by kernel_rfl)
set_option maxRecDepth 100000 in
set_option maxHeartbeats 16000000 in
theorem functionsC (t : Ty) (S : ASt) : ADet Tryz.prog 5 [tyV t] S (B true) S := by
  refine ADet.okA Tryz.call5 0 2 rfl rfl fun hok => ?_
  have hlen := okl hok
  refine ADet.intro mixed Tryz.call5 Tryz.func5 rfl ?_
  simp [Tryz.ntmps5]
  refine ⟨_, _, awake07C _, ?_⟩
  simp
  refine ⟨_, _, greatTypeC t _, ?_⟩
  by_cases hgr : t.room 20000 < 0
  · simp [hgr]
  have hsm : TySm t := ty_sm t 20000 (by omega) (by omega) (by omega)
  have tC := fun S => standsTopC t hsm S
  have fC := fun S => freeC t S
  have wC := fun S => wholeProgC [fnIt t] (fnSm hsm) S
  have kC := fun (hs : t.stands = true) (hw : prWhole [fnIt t] = true) S => checkC [fnIt t] 1 (fnSm hsm) _ (fnTab t hs hw) (by split <;> simp) S
  rw [fnProg] at wC
  simp only [fnProg] at kC
  simp [hgr]
  refine ⟨_, _, tC _, ?_⟩
  cases hm : t.mayStand with
  | false => simp
  | true =>
  have hs : t.stands = true := by
    unfold Ty.mayStand at hm
    rw [Bool.and_eq_true] at hm
    exact hm.2
  have kC := kC hs
  simp
  refine ⟨_, _, ADet.sub ?_ (wC _), ?_⟩
  · repeat' constructor
  cases hw : prWhole [fnIt t] with
  | false => simp
  | true =>
  have kC := kC hw
  generalize t.owned = o at *
  cases o with
  | true =>
    simp only [if_true, List.map_nil] at kC
    simp
    refine ⟨_, _, ADet.sub ?_ (kC _), ?_⟩
    · repeat' constructor
    simp
    refine ⟨_, _, fC _, ?_⟩
    simp
  | false =>
    simp only [Bool.false_eq_true, if_false, List.map_cons, List.map_nil, fltE] at kC
    simp
    refine ⟨_, _, ADet.sub ?_ (kC _), ?_⟩
    · repeat' constructor
    simp
    refine ⟨_, _, fC _, ?_⟩
    simp [flt_eq0, flt_eq9]
end Go.Proofs.YtdnekbmnbblhgaaGreatDoor
