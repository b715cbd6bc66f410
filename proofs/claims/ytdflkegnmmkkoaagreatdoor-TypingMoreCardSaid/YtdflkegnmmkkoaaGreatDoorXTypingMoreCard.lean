/- weftwaylaw10.TypingMore: whatever the arguments are, the law returns true; no condition beyond the card's own. Its row, its tied card. -/
import Derived.Test.YtdflkegnmmkkoaaGreatDoorXNVj
set_option linter.unusedVariables false
set_option linter.unusedSimpArgs false
set_option maxRecDepth 100000
set_option maxHeartbeats 32000000
namespace Go.Proofs.YtdflkegnmmkkoaaGreatDoor
open Go.ChangeShapes Go.WideShapes Go.ChangeAt Go.RowKit
def zCy:Array Value:=#[.agg #[.slice none 0 0]]
theorem zJB(os:Os):laidMet Tryz.prog Rows.typingMoreRow.laid ((laidWorld os).forCall (fun _ _=>0) ⟨#[],zCy,[]⟩).memory:=
 laidMet_of_run' 10 (by kernel_rfl) (by kernel_rfl)
theorem zHR(os:Os){H:Type}(enc:TypeId × Value->H):∃ds wi,DataW.whole enc Tryz.prog ((laidWorld os).forCall (fun _ _=>0) ⟨#[],zCy,[]⟩).memory Tryz.f3.params.toList Rows.typingMoreSpec.vars false zCy.toList 8=some (ds,[],wi):=
 ⟨[.agg [.nil]],[],by kernel_rfl⟩
theorem TypingMore.lifted(os:Os)(gf:os.Started)(H:Type)(enc:TypeId × Value->H)(F:Stop.Interp):
  ReturnsInHanded {} Tryz.checked os 3 .any ((OpenSpec.ofChange Rows.typingMoreSpec).preRow enc Tryz.prog Tryz.f3 Rows.typingMoreRow.domain false Rows.typingMoreRow.laid) (((OpenSpec.ofChange Rows.typingMoreSpec).at F).post enc Tryz.prog Tryz.f3 false true false false):=by
 obtain⟨lv,wi,hx⟩:=zHR os enc
 refine returnsInHanded_of_row (C:=Tryz.checked) (s:=OpenSpec.ofChange Rows.typingMoreSpec) own gf (by kernel_rfl) Tryz.func3
  (witness_row_atRef (enc:=enc) (C:=Tryz.checked) false (laidWorld os) zCy rfl (by kernel_rfl) (by kernel_rfl) (by kernel_rfl)
   (OpenSpec.preRow_of_cond 8 hx (by kernel_rfl) (fun k hk=>by cases hk) (by kernel_rfl) (zJB os))) ?_
 intro W vq args ds gs ki Xm hW _ _ _ hL _ _
 have Ym:∀(j:Nat) t v,Tryz.f3.params[j]? =some t->args[j]? =some v->Value.okWide Tryz.prog W .any vq t v:=Xm
 have Bn:=hW
 obtain⟨p,q,Ju,hV,rfl,Ku,Cd⟩:=hW
 have hA:DataW.TrodAll enc Tryz.prog W 0 (fun _=>true) true Tryz.f3.params.toList args.toList ds p:=Ju
 rw[Tryz.params3]at hA Ym
 obtain⟨v0,Co,d0,nv,p0,q0,wq,rfl,rfl,h0,r0⟩:=trodAll_cons hA
 obtain⟨rfl,rfl,rfl⟩:=trodAll_nil r0
 obtain rfl:args= #[v0]:=by cases args;simp_all
 obtain⟨rfl,rfl⟩:=trodVars_none hV
 have Kp:∀b o,MemPlace.cell b o∈p0->W.frozen? ⟨b,o,none⟩=false:=fun b o hm=>Ku b o (by simp[hm])
 obtain⟨x0,f0,rfl,ga⟩:=zPs Tryz.underlying24 zKi zKj (Ym 0 24 v0 rfl rfl) h0 Kp
 have a0:=(zZ0 (φ:=[[]]) (n:=1) rfl (zR (zXb ga) (zEk _ _)))
 have hd:=zNS x0 [[]]
 refine(ADet.calls (Pr:=zED W) hd (xs:=#[.agg ((List.range 1).map f0).toArray]) ⟨rfl,fun j c x hc hx=>?_⟩ (fun b o v h=>h) (zV2 hL)).mono fun e' W' ⟨x,Pr',hr,_,⟨φ',hx⟩,hb⟩=>?_
 .match j,hc,hx with
  |0,hc,hx=>cases hc;cases hx;skip;exact a0
 subst hr
 cases hx with|p hx=>cases hx with|v _=>
 exact⟨_,rfl,zVy zYs (fun t ht=>by rw[Tryz.params3]at ht;simp at ht;subst ht;exact zHP) Bn rfl rfl rfl Tryz.underlying4 hb⟩
theorem zI{a b:Bool}(x:a=true)(y:b=true):(a&&b)=true:=by rw[x,y];rfl
theorem zG3:joinedFacts Tryz.pinned.checked.prog 3 Tryz.f3 (OpenSpec.ofChange Rows.typingMoreSpec).bare Rows.typingMoreRow=true:=by
 unfold joinedFacts;refine zI (zI (zI (zI (zI (zI (zI (zI (zI (zI (zI (zI (zI (zI (zI (zI (zI (zI (zI (zI (zI (zI (zI (zI (zI (zI (zI (zI (zI (zI (zI ?_ ?_) ?_) ?_) ?_) ?_) ?_) ?_) ?_) ?_) ?_) ?_) ?_) ?_) ?_) ?_) ?_) ?_) ?_) ?_) ?_) ?_) ?_) ?_) ?_) ?_) ?_) ?_) ?_) ?_) ?_) ?_
 all_goals as_aux_lemma=>kernel_rfl
theorem TypingMore.said:Rows.TypingMoreSaid:=
 OpenClaim.holds_of_cond 3 Tryz.f3 rfl rfl rfl rfl rfl rfl rfl ⟨rfl,rfl,rfl,rfl,rfl⟩ rfl rfl rfl rfl rfl (by kernel_rfl) Tryz.func3 zG3
  (of_decide_eq_true (by kernel_rfl)) (by unfold Func.isWrapper;first|(rw[if_pos (by decide+kernel)];kernel_rfl)|(rw[if_neg (by decide+kernel)];exact⟨rfl,rfl⟩))
  (fun os gf H enc _ F=>by rw[OpenClaim.pre_eq_preRow];exact TypingMore.lifted os gf H enc F)
theorem TypingMore.plain(f:FuncId)(fn:Func)(hf:Tryz.pinned.checked.prog.funcNamed "weftway/weftwaylaw10.TypingMore" =some f)(Pj:Tryz.pinned.checked.prog.funcs[f]? =some fn):
  true=Tryz.pinned.checked.prog.looks []/\∀(j:Nat) t,fn.params[j]? =some t->Tryz.pinned.checked.prog.wantsStandIn t=false:=by
 obtain rfl:f=3:=Option.some.inj ((show Tryz.prog.funcNamed "weftway/weftwaylaw10.TypingMore" =some 3 by kernel_rfl).symm.trans hf) |>.symm
 obtain rfl:fn=Tryz.f3:=(Option.some.inj (Tryz.func3.symm.trans Pj)).symm
 refine⟨by kernel_rfl,fun j t ht=>?_⟩
 rw[Tryz.params3]at ht
 obtain rfl:t=24:=by simpa using Array.mem_of_getElem? ht
 exact(show Tryz.prog.wantsStandIn 24=false by kernel_rfl)
theorem TypingMore.proved:Rows.TypingMoreCardSaid:=
 Claim7.holds_tied_plain_at .later [] _ _ _ _ TypingMore.said (fun _ h=>by cases h) (by kernel_rfl) (fun _ h=>by cases h) typingMore_row_tie rfl ⟨rfl,rfl⟩ (by kernel_rfl) rfl TypingMore.plain (by kernel_rfl)
end Go.Proofs.YtdflkegnmmkkoaaGreatDoor
