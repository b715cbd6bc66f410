/- weftwaylaw06.NamesOther: whatever the arguments are, the law returns true; no condition beyond the card's own. Its row, its tied card. -/
import Derived.Test.YtlclonljdagpkaaGreatDoorCards
import Derived.Test.YtlclonljdagpkaaGreatDoorTie
import Derived.Test.YtlclonljdagpkaaGreatDoorQMCard
import Derived.Test.YtlclonljdagpkaaGreatDoorQNtX
import Derived.WalkKit
import Derived.ProofKit
import Derived.OpenShut
import Derived.Deep.DeepHandedRow
import Derived.Deep.DeepWitnessRowRef
import Derived.Lib.LaidTab
set_option linter.unusedVariables false
set_option linter.unusedSimpArgs false
set_option maxRecDepth 100000
set_option maxHeartbeats 32000000
namespace Go.Proofs.YtlclonljdagpkaaGreatDoor
open Go.ChangeShapes Go.WideShapes Go.ChangeAt Go.RowKit
def zBv : Array Value:=#[.agg #[.slice none 0 0],.int .i64 0,.string ⟨#[]⟩]
theorem zHZ (os : Os) : laidMet Tryz.prog Rows.namesOtherRow.laid ((laidWorld os).forCall (fun _ _=>0) ⟨#[],zBv,[]⟩).memory :=
 laidMet_of_run' 10 (by kernel_rfl) (by kernel_rfl)
theorem zFy (os : Os) {H : Type} (enc : TypeId × Value -> H) : ∃ ds places,DataW.whole enc Tryz.prog ((laidWorld os).forCall (fun _ _=>0) ⟨#[],zBv,[]⟩).memory Tryz.f5.params.toList Rows.namesOtherSpec.vars false zBv.toList 8 = some (ds,[],places) :=
 ⟨[.agg [.nil],.lit (.int .i64 0),.lit (.string [])],[],by kernel_rfl⟩
theorem NamesOther.lifted (os : Os) (started : os.Started) (H : Type) (enc : TypeId × Value -> H) (F : Stop.Interp) :
  ReturnsInHanded {} Tryz.checked os 5 .any ((OpenSpec.ofChange Rows.namesOtherSpec).preRow enc Tryz.prog Tryz.f5 Rows.namesOtherRow.domain false Rows.namesOtherRow.laid) (((OpenSpec.ofChange Rows.namesOtherSpec).at F).post enc Tryz.prog Tryz.f5 false true false false):=by
 obtain ⟨ds0,places,hx⟩:=zFy os enc
 refine returnsInHanded_of_row (C:=Tryz.checked) (s:=OpenSpec.ofChange Rows.namesOtherSpec) own started (by kernel_rfl) Tryz.func5
  (witness_row_atRef (enc:=enc) (C:=Tryz.checked) false (laidWorld os) zBv rfl (by kernel_rfl) (by kernel_rfl) (by kernel_rfl)
   (OpenSpec.preRow_of_cond 8 hx (by kernel_rfl) (fun k hk=>by cases hk) (by kernel_rfl) (zHZ os))) ?_
 intro W base args ds gs before hval0 hW _ _ _ hL _ _
 have hval : ∀ (j : Nat) t v,Tryz.f5.params[j]? = some t -> args[j]? = some v -> Value.okWide Tryz.prog W .any base t v:=hval0
 have hW':=hW
 obtain ⟨p,q,hA0,hV,rfl,hfz,hnd⟩:=hW
 have hA : DataW.TrodAll enc Tryz.prog W 0 (fun _=>true) true Tryz.f5.params.toList args.toList ds p:=hA0
 rw [Tryz.params5] at hA hval
 obtain ⟨v0,vs0,d0,dd0,p0,q0,hargs0,rfl,rfl,h0,r0⟩:=trodAll_cons hA
 obtain ⟨v1,vs1,d1,dd1,p1,q1,hargs1,rfl,rfl,h1,r1⟩:=trodAll_cons r0
 obtain ⟨v2,vs2,d2,dd2,p2,q2,hargs2,rfl,rfl,h2,r2⟩:=trodAll_cons r1
 obtain ⟨rfl,rfl,rfl⟩:=trodAll_nil r2
 subst hargs1;subst hargs2
 obtain rfl : args = #[v0,v1,v2]:=by cases args; simp_all
 obtain ⟨rfl,rfl⟩:=trodVars_none hV
 have hf0 : ∀ b o,MemPlace.cell b o ∈ p0 -> W.frozen? ⟨b,o,none⟩ = false:=fun b o hm=>hfz b o (by simp [hm])
 have hf1 : ∀ b o,MemPlace.cell b o ∈ p1 -> W.frozen? ⟨b,o,none⟩ = false:=fun b o hm=>hfz b o (by simp [hm])
 have hf2 : ∀ b o,MemPlace.cell b o ∈ p2 -> W.frozen? ⟨b,o,none⟩ = false:=fun b o hm=>hfz b o (by simp [hm])
 obtain ⟨x0,f0,rfl,h0'⟩:=zH8 Tryz.underlying24 zE1 zE2 (hval 0 24 v0 rfl rfl) h0 hf0
 obtain ⟨x1,rfl,rfl,rfl,_⟩:=open_int Tryz.underlying3 (hval 1 3 v1 rfl rfl) h1
 obtain ⟨x2,rfl,rfl,rfl,_⟩:=ChangeMaps.open_string Tryz.underlying9 (hval 2 9 v2 rfl rfl) h2
 have a0:=(zT6 (φ:=[[]]) (n:=1) rfl (zN (zPJ h0') (zC5 _ _)))
 have a1:=(.p (.v rfl) : RA (zBf W) [[]] (I x1) (.int .i64 x1))
 have a2:=(.p (.v rfl) : RA (zBf W) [[]] (Sg x2) (.string x2))
 have hd:=zLp x0 x1 x2 [[]]
 refine (ADet.calls (Pr:=zBf W) hd (xs:=#[.agg ((List.range 1).map f0).toArray,.int .i64 x1,.string x2]) ⟨rfl,fun j c x hc hx=>?_⟩ (fun b o v h=>h) (zMs hL)).mono fun e' W' ⟨x,Pr',hr,_,⟨φ',hx⟩,hb⟩=>?_
 .match j,hc,hx with
  | 0,hc,hx=>cases hc; cases hx; skip; exact a0
  | 1,hc,hx=>cases hc; cases hx; skip; exact a1
  | 2,hc,hx=>cases hc; cases hx; skip; exact a2
 .subst hr
  cases hx with | p hx=>cases hx with | v _ =>
  exact ⟨_,rfl,zMS zP9 (fun t ht=>by rw [Tryz.params5] at ht; simp at ht; rcases ht with rfl | rfl | rfl; exact zDR; exact (⟨by kernel_rfl,of_decide_eq_true (by kernel_rfl)⟩ : Tryz.prog.readableRec 3 = true /\ 3 < Tryz.prog.types.size); exact (⟨by kernel_rfl,of_decide_eq_true (by kernel_rfl)⟩ : Tryz.prog.readableRec 9 = true /\ 9 < Tryz.prog.types.size)) hW' rfl rfl rfl Tryz.underlying4 hb⟩
theorem NamesOther.said : Rows.NamesOtherSaid :=
 OpenClaim.holds_of_cond 5 Tryz.f5 rfl rfl rfl rfl rfl rfl rfl ⟨rfl,rfl,rfl,rfl,rfl⟩ rfl rfl rfl rfl rfl (by kernel_rfl) Tryz.func5 (by kernel_rfl)
  (of_decide_eq_true (by kernel_rfl)) (by unfold Func.isWrapper; first | (rw [if_pos (by decide +kernel)]; kernel_rfl) | (rw [if_neg (by decide +kernel)]; exact ⟨rfl,rfl⟩))
  (fun os started H enc _ F=>by rw [OpenClaim.pre_eq_preRow]; exact NamesOther.lifted os started H enc F)
theorem NamesOther.plain (f : FuncId) (fn : Func) (hf : Tryz.pinned.checked.prog.funcNamed "weftway/weftwaylaw06.NamesOther" = some f) (hfn : Tryz.pinned.checked.prog.funcs[f]? = some fn) :
  false = Tryz.pinned.checked.prog.looks [] /\ ∀ (j : Nat) t,fn.params[j]? = some t -> Tryz.pinned.checked.prog.wantsStandIn t = false:=by
 obtain rfl : f = 5:=Option.some.inj ((show Tryz.prog.funcNamed "weftway/weftwaylaw06.NamesOther" = some 5 by kernel_rfl).symm.trans hf) |>.symm
 obtain rfl : fn = Tryz.f5:=(Option.some.inj (Tryz.func5.symm.trans hfn)).symm
 refine ⟨by kernel_rfl,fun j t ht=>?_⟩
 rw [Tryz.params5] at ht
 have hm : t = 24 \/ t = 3 \/ t = 9:=by simpa using Array.mem_of_getElem? ht
 rcases hm with rfl | rfl | rfl
 .exact (show Tryz.prog.wantsStandIn 24 = false by kernel_rfl)
 .exact (show Tryz.prog.wantsStandIn 3 = false by kernel_rfl)
 .exact (show Tryz.prog.wantsStandIn 9 = false by kernel_rfl)
theorem NamesOther.proved : Rows.NamesOtherCardSaid :=
 Claim7.holds_tied_plain_at .later [] _ _ _ _ NamesOther.said (fun _ h=>by cases h) (by kernel_rfl) (fun _ h=>by cases h) namesOther_row_tie rfl ⟨rfl,rfl⟩ (by kernel_rfl) rfl NamesOther.plain (by kernel_rfl)
end Go.Proofs.YtlclonljdagpkaaGreatDoor
