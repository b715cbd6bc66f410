/- weftwaylaw06.NamesBlock: whatever the arguments are, the law returns true; no condition beyond the card's own. Its row, its tied card. -/
import Derived.Test.YtlclonljdagpkaaGreatDoorCards
import Derived.Test.YtlclonljdagpkaaGreatDoorTie
import Derived.Test.YtlclonljdagpkaaGreatDoorQMCard
import Derived.Test.YtlclonljdagpkaaGreatDoorQNtY
import Derived.WalkKit
import Derived.ProofKit
import Derived.OpenShut
import Derived.Deep.DeepHandedRow
import Derived.Deep.DeepWitnessRowRef
import Derived.Lib.LaidTab
set_option linter.unusedVariables false
set_option linter.unusedSimpArgs false
set_option maxRecDepth 100000
set_option maxHeartbeats 32000000
namespace Go.Proofs.YtlclonljdagpkaaGreatDoor
open Go.ChangeShapes Go.WideShapes Go.ChangeAt Go.RowKit
def zBu : Array Value:=#[.agg #[.slice none 0 0],.int .i64 0]
theorem zHY (os : Os) : laidMet Tryz.prog Rows.namesBlockRow.laid ((laidWorld os).forCall (fun _ _=>0) ⟨#[],zBu,[]⟩).memory :=
 laidMet_of_run' 10 (by kernel_rfl) (by kernel_rfl)
theorem zFx (os : Os) {H : Type} (enc : TypeId × Value -> H) : ∃ ds places,DataW.whole enc Tryz.prog ((laidWorld os).forCall (fun _ _=>0) ⟨#[],zBu,[]⟩).memory Tryz.f6.params.toList Rows.namesBlockSpec.vars false zBu.toList 8 = some (ds,[],places) :=
 ⟨[.agg [.nil],.lit (.int .i64 0)],[],by kernel_rfl⟩
theorem NamesBlock.lifted (os : Os) (started : os.Started) (H : Type) (enc : TypeId × Value -> H) (F : Stop.Interp) :
  ReturnsInHanded {} Tryz.checked os 6 .any ((OpenSpec.ofChange Rows.namesBlockSpec).preRow enc Tryz.prog Tryz.f6 Rows.namesBlockRow.domain false Rows.namesBlockRow.laid) (((OpenSpec.ofChange Rows.namesBlockSpec).at F).post enc Tryz.prog Tryz.f6 false true false false):=by
 obtain ⟨ds0,places,hx⟩:=zFx os enc
 refine returnsInHanded_of_row (C:=Tryz.checked) (s:=OpenSpec.ofChange Rows.namesBlockSpec) own started (by kernel_rfl) Tryz.func6
  (witness_row_atRef (enc:=enc) (C:=Tryz.checked) false (laidWorld os) zBu rfl (by kernel_rfl) (by kernel_rfl) (by kernel_rfl)
   (OpenSpec.preRow_of_cond 8 hx (by kernel_rfl) (fun k hk=>by cases hk) (by kernel_rfl) (zHY os))) ?_
 intro W base args ds gs before hval0 hW _ _ _ hL _ _
 have hval : ∀ (j : Nat) t v,Tryz.f6.params[j]? = some t -> args[j]? = some v -> Value.okWide Tryz.prog W .any base t v:=hval0
 have hW':=hW
 obtain ⟨p,q,hA0,hV,rfl,hfz,hnd⟩:=hW
 have hA : DataW.TrodAll enc Tryz.prog W 0 (fun _=>true) true Tryz.f6.params.toList args.toList ds p:=hA0
 rw [Tryz.params6] at hA hval
 obtain ⟨v0,vs0,d0,dd0,p0,q0,hargs0,rfl,rfl,h0,r0⟩:=trodAll_cons hA
 obtain ⟨v1,vs1,d1,dd1,p1,q1,hargs1,rfl,rfl,h1,r1⟩:=trodAll_cons r0
 obtain ⟨rfl,rfl,rfl⟩:=trodAll_nil r1
 subst hargs1
 obtain rfl : args = #[v0,v1]:=by cases args; simp_all
 obtain ⟨rfl,rfl⟩:=trodVars_none hV
 have hf0 : ∀ b o,MemPlace.cell b o ∈ p0 -> W.frozen? ⟨b,o,none⟩ = false:=fun b o hm=>hfz b o (by simp [hm])
 have hf1 : ∀ b o,MemPlace.cell b o ∈ p1 -> W.frozen? ⟨b,o,none⟩ = false:=fun b o hm=>hfz b o (by simp [hm])
 obtain ⟨x0,f0,rfl,h0'⟩:=zH8 Tryz.underlying24 zE1 zE2 (hval 0 24 v0 rfl rfl) h0 hf0
 obtain ⟨x1,rfl,rfl,rfl,_⟩:=open_int Tryz.underlying3 (hval 1 3 v1 rfl rfl) h1
 have a0:=(zT6 (φ:=[[]]) (n:=1) rfl (zN (zPJ h0') (zC5 _ _)))
 have a1:=(.p (.v rfl) : RA (zBf W) [[]] (I x1) (.int .i64 x1))
 have hd:=zLn x0 x1 [[]]
 refine (ADet.calls (Pr:=zBf W) hd (xs:=#[.agg ((List.range 1).map f0).toArray,.int .i64 x1]) ⟨rfl,fun j c x hc hx=>?_⟩ (fun b o v h=>h) (zMs hL)).mono fun e' W' ⟨x,Pr',hr,_,⟨φ',hx⟩,hb⟩=>?_
 .match j,hc,hx with
  | 0,hc,hx=>cases hc; cases hx; skip; exact a0
  | 1,hc,hx=>cases hc; cases hx; skip; exact a1
 .subst hr
  cases hx with | p hx=>cases hx with | v _ =>
  exact ⟨_,rfl,zMS zP9 (fun t ht=>by rw [Tryz.params6] at ht; simp at ht; rcases ht with rfl | rfl; exact zDR; exact (⟨by kernel_rfl,of_decide_eq_true (by kernel_rfl)⟩ : Tryz.prog.readableRec 3 = true /\ 3 < Tryz.prog.types.size)) hW' rfl rfl rfl Tryz.underlying4 hb⟩
theorem NamesBlock.said : Rows.NamesBlockSaid :=
 OpenClaim.holds_of_cond 6 Tryz.f6 rfl rfl rfl rfl rfl rfl rfl ⟨rfl,rfl,rfl,rfl,rfl⟩ rfl rfl rfl rfl rfl (by kernel_rfl) Tryz.func6 (by kernel_rfl)
  (of_decide_eq_true (by kernel_rfl)) (by unfold Func.isWrapper; first | (rw [if_pos (by decide +kernel)]; kernel_rfl) | (rw [if_neg (by decide +kernel)]; exact ⟨rfl,rfl⟩))
  (fun os started H enc _ F=>by rw [OpenClaim.pre_eq_preRow]; exact NamesBlock.lifted os started H enc F)
theorem NamesBlock.plain (f : FuncId) (fn : Func) (hf : Tryz.pinned.checked.prog.funcNamed "weftway/weftwaylaw06.NamesBlock" = some f) (hfn : Tryz.pinned.checked.prog.funcs[f]? = some fn) :
  false = Tryz.pinned.checked.prog.looks [] /\ ∀ (j : Nat) t,fn.params[j]? = some t -> Tryz.pinned.checked.prog.wantsStandIn t = false:=by
 obtain rfl : f = 6:=Option.some.inj ((show Tryz.prog.funcNamed "weftway/weftwaylaw06.NamesBlock" = some 6 by kernel_rfl).symm.trans hf) |>.symm
 obtain rfl : fn = Tryz.f6:=(Option.some.inj (Tryz.func6.symm.trans hfn)).symm
 refine ⟨by kernel_rfl,fun j t ht=>?_⟩
 rw [Tryz.params6] at ht
 have hm : t = 24 \/ t = 3:=by simpa using Array.mem_of_getElem? ht
 rcases hm with rfl | rfl
 .exact (show Tryz.prog.wantsStandIn 24 = false by kernel_rfl)
 .exact (show Tryz.prog.wantsStandIn 3 = false by kernel_rfl)
theorem NamesBlock.proved : Rows.NamesBlockCardSaid :=
 Claim7.holds_tied_plain_at .later [] _ _ _ _ NamesBlock.said (fun _ h=>by cases h) (by kernel_rfl) (fun _ h=>by cases h) namesBlock_row_tie rfl ⟨rfl,rfl⟩ (by kernel_rfl) rfl NamesBlock.plain (by kernel_rfl)
end Go.Proofs.YtlclonljdagpkaaGreatDoor
