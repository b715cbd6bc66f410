/- weftwaylaw15.CrossShared: whatever the arguments are, the law returns true; no condition beyond the card's own. Its row, its tied card. -/
import Derived.Test.YtgpajpilkapciaaGreatDoorXNSa
import Derived.Test.YtgpajpilkapciaaGreatDoorXNCc
set_option linter.unusedVariables false
set_option linter.unusedSimpArgs false
set_option maxRecDepth 100000
set_option maxHeartbeats 32000000
namespace Go.Proofs.YtgpajpilkapciaaGreatDoor
open Go.ChangeShapes Go.WideShapes Go.ChangeAt Go.RowKit
def zCP:Array Value:=#[.int .u8 0,.int .u8 0,.int .i64 0]
theorem zGt(os:Os):laidMet Tryz.prog Rows.crossSharedRow.laid ((laidWorld os).forCall (fun _ _=>0) ⟨#[],zCP,[]⟩).memory:=
 laidMet_of_run' 10 (by kernel_rfl) (by kernel_rfl)
theorem zGY(os:Os){H:Type}(enc:TypeId × Value->H):∃ds me,DataW.whole enc Tryz.prog ((laidWorld os).forCall (fun _ _=>0) ⟨#[],zCP,[]⟩).memory Tryz.f3.params.toList Rows.crossSharedSpec.vars false zCP.toList 8=some (ds,[],me):=
 ⟨[.lit (.int .u8 0),.lit (.int .u8 0),.lit (.int .i64 0)],[],by kernel_rfl⟩
theorem CrossShared.lifted(os:Os)(Zb:os.Started)(H:Type)(enc:TypeId × Value->H)(F:Stop.Interp):
  ReturnsInHanded {} Tryz.checked os 3 .any ((OpenSpec.ofChange Rows.crossSharedSpec).preRow enc Tryz.prog Tryz.f3 Rows.crossSharedRow.domain false Rows.crossSharedRow.laid) (((OpenSpec.ofChange Rows.crossSharedSpec).at F).post enc Tryz.prog Tryz.f3 false true false false):=by
 obtain⟨Wu,me,hx⟩:=zGY os enc
 refine returnsInHanded_of_row (C:=Tryz.checked) (s:=OpenSpec.ofChange Rows.crossSharedSpec) own Zb (by kernel_rfl) Tryz.func3
  (witness_row_atRef (enc:=enc) (C:=Tryz.checked) false (laidWorld os) zCP rfl (by kernel_rfl) (by kernel_rfl) (by kernel_rfl)
   (OpenSpec.preRow_of_cond 8 hx (by kernel_rfl) (fun k hk=>by cases hk) (by kernel_rfl) (zGt os))) ?_
 intro W Qk args ds gs mg ii hW _ _ _ hL _ _
 have tg:∀(j:Nat) t v,Tryz.f3.params[j]? =some t->args[j]? =some v->Value.okWide Tryz.prog W .any Qk t v:=ii
 have il:=hW
 obtain⟨p,q,jq,hV,rfl,Rm,fb⟩:=hW
 have hA:DataW.TrodAll enc Tryz.prog W 0 (fun _=>true) true Tryz.f3.params.toList args.toList ds p:=jq
 rw[Tryz.params3]at hA tg
 obtain⟨v0,Zm,d0,Xu,p0,q0,Rk,rfl,rfl,h0,r0⟩:=trodAll_cons hA
 obtain⟨v1,Ev,d1,Fv,p1,q1,Sk,rfl,rfl,h1,r1⟩:=trodAll_cons r0
 obtain⟨v2,Gv,d2,Hv,p2,q2,Tk,rfl,rfl,h2,r2⟩:=trodAll_cons r1
 obtain⟨rfl,rfl,rfl⟩:=trodAll_nil r2
 subst Sk;subst Tk
 obtain rfl:args= #[v0,v1,v2]:=by cases args;simp_all
 obtain⟨rfl,rfl⟩:=trodVars_none hV
 have qn:∀b o,MemPlace.cell b o∈p0->W.frozen? ⟨b,o,none⟩=false:=fun b o hm=>Rm b o (by simp[hm])
 have Pf:∀b o,MemPlace.cell b o∈p1->W.frozen? ⟨b,o,none⟩=false:=fun b o hm=>Rm b o (by simp[hm])
 have Be:∀b o,MemPlace.cell b o∈p2->W.frozen? ⟨b,o,none⟩=false:=fun b o hm=>Rm b o (by simp[hm])
 obtain⟨x0,rfl,rfl,rfl,w0⟩:=open_int Tryz.underlying5 (tg 0 5 v0 rfl rfl) h0
 obtain⟨x1,rfl,rfl,rfl,w1⟩:=open_int Tryz.underlying5 (tg 1 5 v1 rfl rfl) h1
 obtain⟨x2,rfl,rfl,rfl,_⟩:=open_int Tryz.underlying3 (tg 2 3 v2 rfl rfl) h2
 have a0:=(.p (.v rfl):RA (zCz W) [[]] (U x0) (.int .u8 x0))
 have a1:=(.p (.v rfl):RA (zCz W) [[]] (U x1) (.int .u8 x1))
 have a2:=(.p (.v rfl):RA (zCz W) [[]] (I x2) (.int .i64 x2))
 have hd:=zLg x0 x1 x2 (zZv w0) (zZv w1) [[]]
 refine(ADet.calls (Pr:=zCz W) hd (xs:=#[.int .u8 x0,.int .u8 x1,.int .i64 x2]) ⟨rfl,fun j c x hc hx=>?_⟩ (fun b o v h=>h) (zNZ hL)).mono fun e' W' ⟨x,Pr',hr,_,⟨φ',hx⟩,hb⟩=>?_
 .match j,hc,hx with
  |0,hc,hx=>cases hc;cases hx;skip;exact a0
  |1,hc,hx=>cases hc;cases hx;skip;exact a1
  |2,hc,hx=>cases hc;cases hx;skip;exact a2
 subst hr
 cases hx with|p hx=>cases hx with|v _=>
 exact⟨_,rfl,zNX zQ7 (fun t ht=>by rw[Tryz.params3]at ht;simp at ht;rcases ht with rfl|rfl;exact(⟨by kernel_rfl,of_decide_eq_true (by kernel_rfl)⟩:Tryz.prog.readableRec 5=true/\5<Tryz.prog.types.size);exact(⟨by kernel_rfl,of_decide_eq_true (by kernel_rfl)⟩:Tryz.prog.readableRec 3=true/\3<Tryz.prog.types.size)) il rfl rfl rfl Tryz.underlying4 hb⟩
theorem CrossShared.said:Rows.CrossSharedSaid:=
 OpenClaim.holds_of_cond 3 Tryz.f3 rfl rfl rfl rfl rfl rfl rfl ⟨rfl,rfl,rfl,rfl,rfl⟩ rfl rfl rfl rfl rfl (by kernel_rfl) Tryz.func3 (by kernel_rfl)
  (of_decide_eq_true (by kernel_rfl)) (by unfold Func.isWrapper;first|(rw[if_pos (by decide+kernel)];kernel_rfl)|(rw[if_neg (by decide+kernel)];exact⟨rfl,rfl⟩))
  (fun os Zb H enc _ F=>by rw[OpenClaim.pre_eq_preRow];exact CrossShared.lifted os Zb H enc F)
theorem CrossShared.plain(f:FuncId)(fn:Func)(hf:Tryz.pinned.checked.prog.funcNamed "weftway/weftwaylaw15.CrossShared" =some f)(ni:Tryz.pinned.checked.prog.funcs[f]? =some fn):
  true=Tryz.pinned.checked.prog.looks []/\∀(j:Nat) t,fn.params[j]? =some t->Tryz.pinned.checked.prog.wantsStandIn t=false:=by
 obtain rfl:f=3:=Option.some.inj ((show Tryz.prog.funcNamed "weftway/weftwaylaw15.CrossShared" =some 3 by kernel_rfl).symm.trans hf) |>.symm
 obtain rfl:fn=Tryz.f3:=(Option.some.inj (Tryz.func3.symm.trans ni)).symm
 refine⟨by kernel_rfl,fun j t ht=>?_⟩
 rw[Tryz.params3]at ht
 have hm:t=5\/t=3:=by simpa using Array.mem_of_getElem? ht
 rcases hm with rfl|rfl
 .exact(show Tryz.prog.wantsStandIn 5=false by kernel_rfl)
 exact(show Tryz.prog.wantsStandIn 3=false by kernel_rfl)
theorem CrossShared.proved:Rows.CrossSharedCardSaid:=
 Claim7.holds_tied_plain_at .later [] _ _ _ _ CrossShared.said (fun _ h=>by cases h) (by kernel_rfl) (fun _ h=>by cases h) crossShared_row_tie rfl ⟨rfl,rfl⟩ (by kernel_rfl) rfl CrossShared.plain (by kernel_rfl)
end Go.Proofs.YtgpajpilkapciaaGreatDoor
