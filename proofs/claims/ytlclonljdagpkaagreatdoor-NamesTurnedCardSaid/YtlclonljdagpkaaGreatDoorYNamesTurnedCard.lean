/- weftwaylaw06.NamesTurned: whatever the arguments are, the law returns true; no condition beyond the card's own. Its row, its tied card. -/
import Derived.Test.YtlclonljdagpkaaGreatDoorCards
import Derived.Test.YtlclonljdagpkaaGreatDoorTie
import Derived.Test.YtlclonljdagpkaaGreatDoorYMCard
import Derived.Test.YtlclonljdagpkaaGreatDoorYNtU
import Derived.WalkKit
import Derived.ProofKit
import Derived.OpenShut
import Derived.Deep.DeepHandedRow
import Derived.Deep.DeepWitnessRowRef
import Derived.Lib.LaidTab
set_option linter.unusedVariables false
set_option linter.unusedSimpArgs false
set_option maxRecDepth 100000
set_option maxHeartbeats 32000000
namespace Go.Proofs.YtlclonljdagpkaaGreatDoor
open Go.ChangeShapes Go.WideShapes Go.ChangeAt Go.RowKit
def namesTurnedArgs : Array Value:=#[.agg #[.slice none 0 0]]
theorem namesTurned_laid (os : Os) : laidMet Tryz.prog Rows.namesTurnedRow.laid ((laidWorld os).forCall (fun _ _=>0) ⟨#[],namesTurnedArgs,[]⟩).memory :=
 laidMet_of_run' 10 (by kernel_rfl) (by kernel_rfl)
theorem namesTurned_reads (os : Os) {H : Type} (enc : TypeId × Value → H) : ∃ ds places,DataW.whole enc Tryz.prog ((laidWorld os).forCall (fun _ _=>0) ⟨#[],namesTurnedArgs,[]⟩).memory Tryz.f7.params.toList Rows.namesTurnedSpec.vars false namesTurnedArgs.toList 8 = some (ds,[],places) :=
 ⟨[.agg [.nil]],[],by kernel_rfl⟩
theorem NamesTurned.lifted (os : Os) (started : os.Started) (H : Type) (enc : TypeId × Value → H) (F : Stop.Interp) :
  ReturnsInHanded {} Tryz.checked os 7 .any ((OpenSpec.ofChange Rows.namesTurnedSpec).preRow enc Tryz.prog Tryz.f7 Rows.namesTurnedRow.domain false Rows.namesTurnedRow.laid) (((OpenSpec.ofChange Rows.namesTurnedSpec).at F).post enc Tryz.prog Tryz.f7 false true false false):=by
 obtain ⟨ds0,places,hx⟩:=namesTurned_reads os enc
 refine returnsInHanded_of_row (C:=Tryz.checked) (s:=OpenSpec.ofChange Rows.namesTurnedSpec) own started (by kernel_rfl) Tryz.func7
  (witness_row_atRef (enc:=enc) (C:=Tryz.checked) false (laidWorld os) namesTurnedArgs rfl (by kernel_rfl) (by kernel_rfl) (by kernel_rfl)
   (OpenSpec.preRow_of_cond 8 hx (by kernel_rfl) (fun k hk=>by cases hk) (by kernel_rfl) (namesTurned_laid os))) ?_
 intro W base args ds gs before hval0 hW _ _ _ hL _ _
 have hval : ∀ (j : Nat) t v,Tryz.f7.params[j]? = some t → args[j]? = some v → Value.okWide Tryz.prog W .any base t v:=hval0
 have hW':=hW
 obtain ⟨p,q,hA0,hV,rfl,hfz,hnd⟩:=hW
 have hA : DataW.TrodAll enc Tryz.prog W 0 (fun _=>true) true Tryz.f7.params.toList args.toList ds p:=hA0
 rw [Tryz.params7] at hA hval
 obtain ⟨v0,vs0,d0,dd0,p0,q0,hargs0,rfl,rfl,h0,r0⟩:=trodAll_cons hA
 obtain ⟨rfl,rfl,rfl⟩:=trodAll_nil r0
 obtain rfl : args = #[v0]:=by cases args; simp_all
 obtain ⟨rfl,rfl⟩:=trodVars_none hV
 have hf0 : ∀ b o,MemPlace.cell b o ∈ p0 → W.frozen? ⟨b,o,none⟩ = false:=fun b o hm=>hfz b o (by simp [hm])
 obtain ⟨x0,f0,rfl,h0'⟩:=open_param Tryz.underlying24 cells_Program opens_Program (hval 0 24 v0 rfl rfl) h0 hf0
 have a0:=(ra_agg (φ:=[[]]) (n:=1) rfl (rdp_cons (rp_prog h0') (rdp_nil _ _)))
 have hd:=namesTurnedC x0 [[]]
 refine (ADet.calls (Pr:=allOf W) hd (xs:=#[.agg ((List.range 1).map f0).toArray]) ⟨rfl,fun j c x hc hx=>?_⟩ (fun b o v h=>h) (tabs_met hL)).mono fun e' W' ⟨x,Pr',hr,_,⟨φ',hx⟩,hb⟩=>?_
 ·match j,hc,hx with
  | 0,hc,hx=>cases hc; cases hx; skip; exact a0
 ·subst hr
  cases hx with | p hx=>cases hx with | v _ =>
  exact ⟨_,rfl,law_post laidOut (fun t ht=>by rw [Tryz.params7] at ht; simp at ht; subst ht; exact readable_Program) hW' rfl rfl rfl Tryz.underlying4 hb⟩
theorem NamesTurned.said : Rows.NamesTurnedSaid :=
 OpenClaim.holds_of_cond 7 Tryz.f7 rfl rfl rfl rfl rfl rfl rfl ⟨rfl,rfl,rfl,rfl,rfl⟩ rfl rfl rfl rfl rfl (by kernel_rfl) Tryz.func7 (by kernel_rfl)
  (of_decide_eq_true (by kernel_rfl)) (by unfold Func.isWrapper; first | (rw [if_pos (by decide +kernel)]; kernel_rfl) | (rw [if_neg (by decide +kernel)]; exact ⟨rfl,rfl⟩))
  (fun os started H enc _ F=>by rw [OpenClaim.pre_eq_preRow]; exact NamesTurned.lifted os started H enc F)
theorem NamesTurned.plain (f : FuncId) (fn : Func) (hf : Tryz.pinned.checked.prog.funcNamed "weftway/weftwaylaw06.NamesTurned" = some f) (hfn : Tryz.pinned.checked.prog.funcs[f]? = some fn) :
  false = Tryz.pinned.checked.prog.looks [] ∧ ∀ (j : Nat) t,fn.params[j]? = some t → Tryz.pinned.checked.prog.wantsStandIn t = false:=by
 obtain rfl : f = 7:=Option.some.inj ((show Tryz.prog.funcNamed "weftway/weftwaylaw06.NamesTurned" = some 7 by kernel_rfl).symm.trans hf) |>.symm
 obtain rfl : fn = Tryz.f7:=(Option.some.inj (Tryz.func7.symm.trans hfn)).symm
 refine ⟨by kernel_rfl,fun j t ht=>?_⟩
 rw [Tryz.params7] at ht
 obtain rfl : t = 24:=by simpa using Array.mem_of_getElem? ht
 exact (show Tryz.prog.wantsStandIn 24 = false by kernel_rfl)
theorem NamesTurned.proved : Rows.NamesTurnedCardSaid :=
 Claim7.holds_tied_plain_at .later [] _ _ _ _ NamesTurned.said (fun _ h=>by cases h) (by kernel_rfl) (fun _ h=>by cases h) namesTurned_row_tie rfl ⟨rfl,rfl⟩ (by kernel_rfl) rfl NamesTurned.plain (by kernel_rfl)
end Go.Proofs.YtlclonljdagpkaaGreatDoor
