/- weftwaylaw10.TypingResult: whatever the arguments are, the law returns true; no condition beyond the card's own. Its row, its tied card. -/
import Derived.Test.YtdflkegnmmkkoaaGreatDoorWNVa
set_option linter.unusedVariables false
set_option linter.unusedSimpArgs false
set_option maxRecDepth 100000
set_option maxHeartbeats 32000000
namespace Go.Proofs.YtdflkegnmmkkoaaGreatDoor
open Go.ChangeShapes Go.WideShapes Go.ChangeAt Go.RowKit
def zCI:Array Value:=#[.agg #[.slice none 0 0],.int .i64 0]
theorem zGk(os:Os):laidMet Tryz.prog Rows.typingResultRow.laid ((laidWorld os).forCall (fun _ _=>0) ⟨#[],zCI,[]⟩).memory:=
 laidMet_of_run' 10 (by kernel_rfl) (by kernel_rfl)
theorem zGN(os:Os){H:Type}(enc:TypeId × Value->H):∃ds ti,DataW.whole enc Tryz.prog ((laidWorld os).forCall (fun _ _=>0) ⟨#[],zCI,[]⟩).memory Tryz.f4.params.toList Rows.typingResultSpec.vars false zCI.toList 8=some (ds,[],ti):=
 ⟨[.agg [.nil],.lit (.int .i64 0)],[],by kernel_rfl⟩
theorem TypingResult.lifted(os:Os)(nf:os.Started)(H:Type)(enc:TypeId × Value->H)(F:Stop.Interp):
  ReturnsInHanded {} Tryz.checked os 4 .any ((OpenSpec.ofChange Rows.typingResultSpec).preRow enc Tryz.prog Tryz.f4 Rows.typingResultRow.domain false Rows.typingResultRow.laid) (((OpenSpec.ofChange Rows.typingResultSpec).at F).post enc Tryz.prog Tryz.f4 false true false false):=by
 obtain⟨Vv,ti,hx⟩:=zGN os enc
 refine returnsInHanded_of_row (C:=Tryz.checked) (s:=OpenSpec.ofChange Rows.typingResultSpec) own nf (by kernel_rfl) Tryz.func4
  (witness_row_atRef (enc:=enc) (C:=Tryz.checked) false (laidWorld os) zCI rfl (by kernel_rfl) (by kernel_rfl) (by kernel_rfl)
   (OpenSpec.preRow_of_cond 8 hx (by kernel_rfl) (fun k hk=>by cases hk) (by kernel_rfl) (zGk os))) ?_
 intro W Aq args ds gs ki gn hW _ _ _ hL _ _
 have il:∀(j:Nat) t v,Tryz.f4.params[j]? =some t->args[j]? =some v->Value.okWide Tryz.prog W .any Aq t v:=gn
 have In:=hW
 obtain⟨p,q,tv,hV,rfl,ks,Ed⟩:=hW
 have hA:DataW.TrodAll enc Tryz.prog W 0 (fun _=>true) true Tryz.f4.params.toList args.toList ds p:=tv
 rw[Tryz.params4]at hA il
 obtain⟨v0,Fo,d0,Wv,p0,q0,Bq,rfl,rfl,h0,r0⟩:=trodAll_cons hA
 obtain⟨v1,Xv,d1,Yv,p1,q1,jl,rfl,rfl,h1,r1⟩:=trodAll_cons r0
 obtain⟨rfl,rfl,rfl⟩:=trodAll_nil r1
 subst jl
 obtain rfl:args= #[v0,v1]:=by cases args;simp_all
 obtain⟨rfl,rfl⟩:=trodVars_none hV
 have aq:∀b o,MemPlace.cell b o∈p0->W.frozen? ⟨b,o,none⟩=false:=fun b o hm=>ks b o (by simp[hm])
 have dg:∀b o,MemPlace.cell b o∈p1->W.frozen? ⟨b,o,none⟩=false:=fun b o hm=>ks b o (by simp[hm])
 obtain⟨x0,f0,rfl,ga⟩:=zPm Tryz.underlying24 zKS zKT (il 0 24 v0 rfl rfl) h0 aq
 obtain⟨x1,rfl,rfl,rfl,_⟩:=open_int Tryz.underlying3 (il 1 3 v1 rfl rfl) h1
 have a0:=(zZG (φ:=[[]]) (n:=1) rfl (zS (zWs ga) (zEW _ _)))
 have a1:=(.p (.v rfl):RA (zDh W) [[]] (I x1) (.int .i64 x1))
 have hd:=zKl x0 x1 [[]]
 refine(ADet.calls (Pr:=zDh W) hd (xs:=#[.agg ((List.range 1).map f0).toArray,.int .i64 x1]) ⟨rfl,fun j c x hc hx=>?_⟩ (fun b o v h=>h) (zVg hL)).mono fun e' W' ⟨x,Pr',hr,_,⟨φ',hx⟩,hb⟩=>?_
 .match j,hc,hx with
  |0,hc,hx=>cases hc;cases hx;skip;exact a0
  |1,hc,hx=>cases hc;cases hx;skip;exact a1
 subst hr
 cases hx with|p hx=>cases hx with|v _=>
 exact⟨_,rfl,zVR zX6 (fun t ht=>by rw[Tryz.params4]at ht;simp at ht;rcases ht with rfl|rfl;exact zG2;exact(⟨by kernel_rfl,of_decide_eq_true (by kernel_rfl)⟩:Tryz.prog.readableRec 3=true/\3<Tryz.prog.types.size)) In rfl rfl rfl Tryz.underlying4 hb⟩
theorem zF{a b:Bool}(x:a=true)(y:b=true):(a&&b)=true:=by rw[x,y];rfl
theorem zFj:joinedFacts Tryz.pinned.checked.prog 4 Tryz.f4 (OpenSpec.ofChange Rows.typingResultSpec).bare Rows.typingResultRow=true:=by
 unfold joinedFacts;refine zF (zF (zF (zF (zF (zF (zF (zF (zF (zF (zF (zF (zF (zF (zF (zF (zF (zF (zF (zF (zF (zF (zF (zF (zF (zF (zF (zF (zF (zF (zF ?_ ?_) ?_) ?_) ?_) ?_) ?_) ?_) ?_) ?_) ?_) ?_) ?_) ?_) ?_) ?_) ?_) ?_) ?_) ?_) ?_) ?_) ?_) ?_) ?_) ?_) ?_) ?_) ?_) ?_) ?_) ?_
 all_goals as_aux_lemma=>kernel_rfl
theorem TypingResult.said:Rows.TypingResultSaid:=
 OpenClaim.holds_of_cond 4 Tryz.f4 rfl rfl rfl rfl rfl rfl rfl ⟨rfl,rfl,rfl,rfl,rfl⟩ rfl rfl rfl rfl rfl (by kernel_rfl) Tryz.func4 zFj
  (of_decide_eq_true (by kernel_rfl)) (by unfold Func.isWrapper;first|(rw[if_pos (by decide+kernel)];kernel_rfl)|(rw[if_neg (by decide+kernel)];exact⟨rfl,rfl⟩))
  (fun os nf H enc _ F=>by rw[OpenClaim.pre_eq_preRow];exact TypingResult.lifted os nf H enc F)
theorem TypingResult.plain(f:FuncId)(fn:Func)(hf:Tryz.pinned.checked.prog.funcNamed "weftway/weftwaylaw10.TypingResult" =some f)(Pj:Tryz.pinned.checked.prog.funcs[f]? =some fn):
  true=Tryz.pinned.checked.prog.looks []/\∀(j:Nat) t,fn.params[j]? =some t->Tryz.pinned.checked.prog.wantsStandIn t=false:=by
 obtain rfl:f=4:=Option.some.inj ((show Tryz.prog.funcNamed "weftway/weftwaylaw10.TypingResult" =some 4 by kernel_rfl).symm.trans hf) |>.symm
 obtain rfl:fn=Tryz.f4:=(Option.some.inj (Tryz.func4.symm.trans Pj)).symm
 refine⟨by kernel_rfl,fun j t ht=>?_⟩
 rw[Tryz.params4]at ht
 have hm:t=24\/t=3:=by simpa using Array.mem_of_getElem? ht
 rcases hm with rfl|rfl
 .exact(show Tryz.prog.wantsStandIn 24=false by kernel_rfl)
 exact(show Tryz.prog.wantsStandIn 3=false by kernel_rfl)
theorem TypingResult.proved:Rows.TypingResultCardSaid:=
 Claim7.holds_tied_plain_at .later [] _ _ _ _ TypingResult.said (fun _ h=>by cases h) (by kernel_rfl) (fun _ h=>by cases h) typingResult_row_tie rfl ⟨rfl,rfl⟩ (by kernel_rfl) rfl TypingResult.plain (by kernel_rfl)
end Go.Proofs.YtdflkegnmmkkoaaGreatDoor
