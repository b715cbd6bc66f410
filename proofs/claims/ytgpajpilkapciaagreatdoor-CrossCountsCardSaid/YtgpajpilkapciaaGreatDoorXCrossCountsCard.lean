/- weftwaylaw15.CrossCounts: whatever the arguments are, the law returns true; no condition beyond the card's own. Its row, its tied card. -/
import Derived.Test.YtgpajpilkapciaaGreatDoorXNSa
import Derived.Test.YtgpajpilkapciaaGreatDoorXNCc
set_option linter.unusedVariables false
set_option linter.unusedSimpArgs false
set_option maxRecDepth 100000
set_option maxHeartbeats 32000000
namespace Go.Proofs.YtgpajpilkapciaaGreatDoor
open Go.ChangeShapes Go.WideShapes Go.ChangeAt Go.RowKit
def zCQ:Array Value:=#[.agg #[.slice none 0 0]]
theorem zGu(os:Os):laidMet Tryz.prog Rows.crossCountsRow.laid ((laidWorld os).forCall (fun _ _=>0) ⟨#[],zCQ,[]⟩).memory:=
 laidMet_of_run' 10 (by kernel_rfl) (by kernel_rfl)
theorem zGZ(os:Os){H:Type}(enc:TypeId × Value->H):∃ds me,DataW.whole enc Tryz.prog ((laidWorld os).forCall (fun _ _=>0) ⟨#[],zCQ,[]⟩).memory Tryz.f4.params.toList Rows.crossCountsSpec.vars false zCQ.toList 8=some (ds,[],me):=
 ⟨[.agg [.nil]],[],by kernel_rfl⟩
theorem CrossCounts.lifted(os:Os)(Zb:os.Started)(H:Type)(enc:TypeId × Value->H)(F:Stop.Interp):
  ReturnsInHanded {} Tryz.checked os 4 .any ((OpenSpec.ofChange Rows.crossCountsSpec).preRow enc Tryz.prog Tryz.f4 Rows.crossCountsRow.domain false Rows.crossCountsRow.laid) (((OpenSpec.ofChange Rows.crossCountsSpec).at F).post enc Tryz.prog Tryz.f4 false true false false):=by
 obtain⟨Wu,me,hx⟩:=zGZ os enc
 refine returnsInHanded_of_row (C:=Tryz.checked) (s:=OpenSpec.ofChange Rows.crossCountsSpec) own Zb (by kernel_rfl) Tryz.func4
  (witness_row_atRef (enc:=enc) (C:=Tryz.checked) false (laidWorld os) zCQ rfl (by kernel_rfl) (by kernel_rfl) (by kernel_rfl)
   (OpenSpec.preRow_of_cond 8 hx (by kernel_rfl) (fun k hk=>by cases hk) (by kernel_rfl) (zGu os))) ?_
 intro W Qk args ds gs mg ii hW _ _ _ hL _ _
 have tg:∀(j:Nat) t v,Tryz.f4.params[j]? =some t->args[j]? =some v->Value.okWide Tryz.prog W .any Qk t v:=ii
 have il:=hW
 obtain⟨p,q,jq,hV,rfl,Rm,fb⟩:=hW
 have hA:DataW.TrodAll enc Tryz.prog W 0 (fun _=>true) true Tryz.f4.params.toList args.toList ds p:=jq
 rw[Tryz.params4]at hA tg
 obtain⟨v0,Zm,d0,Xu,p0,q0,Rk,rfl,rfl,h0,r0⟩:=trodAll_cons hA
 obtain⟨rfl,rfl,rfl⟩:=trodAll_nil r0
 obtain rfl:args= #[v0]:=by cases args;simp_all
 obtain⟨rfl,rfl⟩:=trodVars_none hV
 have qn:∀b o,MemPlace.cell b o∈p0->W.frozen? ⟨b,o,none⟩=false:=fun b o hm=>Rm b o (by simp[hm])
 obtain⟨x0,f0,rfl,fa⟩:=zOo Tryz.underlying27 zJq zJr (tg 0 27 v0 rfl rfl) h0 qn
 have a0:=(zX4 (φ:=[[]]) (n:=1) rfl (zN (zVq fa) (zEJ _ _)))
 have hd:=zLh x0 [[]]
 refine(ADet.calls (Pr:=zCz W) hd (xs:=#[.agg ((List.range 1).map f0).toArray]) ⟨rfl,fun j c x hc hx=>?_⟩ (fun b o v h=>h) (zNZ hL)).mono fun e' W' ⟨x,Pr',hr,_,⟨φ',hx⟩,hb⟩=>?_
 .match j,hc,hx with
  |0,hc,hx=>cases hc;cases hx;skip;exact a0
 subst hr
 cases hx with|p hx=>cases hx with|v _=>
 exact⟨_,rfl,zNX zQ7 (fun t ht=>by rw[Tryz.params4]at ht;simp at ht;subst ht;exact zGs) il rfl rfl rfl Tryz.underlying4 hb⟩
theorem CrossCounts.said:Rows.CrossCountsSaid:=
 OpenClaim.holds_of_cond 4 Tryz.f4 rfl rfl rfl rfl rfl rfl rfl ⟨rfl,rfl,rfl,rfl,rfl⟩ rfl rfl rfl rfl rfl (by kernel_rfl) Tryz.func4 (by kernel_rfl)
  (of_decide_eq_true (by kernel_rfl)) (by unfold Func.isWrapper;first|(rw[if_pos (by decide+kernel)];kernel_rfl)|(rw[if_neg (by decide+kernel)];exact⟨rfl,rfl⟩))
  (fun os Zb H enc _ F=>by rw[OpenClaim.pre_eq_preRow];exact CrossCounts.lifted os Zb H enc F)
theorem CrossCounts.plain(f:FuncId)(fn:Func)(hf:Tryz.pinned.checked.prog.funcNamed "weftway/weftwaylaw15.CrossCounts" =some f)(ni:Tryz.pinned.checked.prog.funcs[f]? =some fn):
  true=Tryz.pinned.checked.prog.looks []/\∀(j:Nat) t,fn.params[j]? =some t->Tryz.pinned.checked.prog.wantsStandIn t=false:=by
 obtain rfl:f=4:=Option.some.inj ((show Tryz.prog.funcNamed "weftway/weftwaylaw15.CrossCounts" =some 4 by kernel_rfl).symm.trans hf) |>.symm
 obtain rfl:fn=Tryz.f4:=(Option.some.inj (Tryz.func4.symm.trans ni)).symm
 refine⟨by kernel_rfl,fun j t ht=>?_⟩
 rw[Tryz.params4]at ht
 obtain rfl:t=27:=by simpa using Array.mem_of_getElem? ht
 exact(show Tryz.prog.wantsStandIn 27=false by kernel_rfl)
theorem CrossCounts.proved:Rows.CrossCountsCardSaid:=
 Claim7.holds_tied_plain_at .later [] _ _ _ _ CrossCounts.said (fun _ h=>by cases h) (by kernel_rfl) (fun _ h=>by cases h) crossCounts_row_tie rfl ⟨rfl,rfl⟩ (by kernel_rfl) rfl CrossCounts.plain (by kernel_rfl)
end Go.Proofs.YtgpajpilkapciaaGreatDoor
