/- weftwaylaw10.TypingWraps: whatever the arguments are, the law returns true; no condition beyond the card's own. Its row, its tied card. -/
import Derived.Test.YtdflkegnmmkkoaaGreatDoorYTtN
set_option linter.unusedVariables false
set_option linter.unusedSimpArgs false
set_option maxRecDepth 100000
set_option maxHeartbeats 32000000
namespace Go.Proofs.YtdflkegnmmkkoaaGreatDoor
open Go.ChangeShapes Go.WideShapes Go.ChangeAt Go.RowKit
def zCd:Array Value:=#[.agg #[.slice none 0 0],.slice none 0 0,.agg #[.int .u8 0,.int .i64 0,.string ⟨#[]⟩,.string ⟨#[]⟩,.string ⟨#[]⟩,.slice none 0 0,.slice none 0 0,.int .i64 0]]
theorem zHQ(os:Os):laidMet Tryz.prog Rows.typingWrapsRow.laid ((laidWorld os).forCall (fun _ _=>0) ⟨#[],zCd,[]⟩).memory:=
 laidMet_of_run' 10 (by kernel_rfl) (by kernel_rfl)
theorem zGz(os:Os){H:Type}(enc:TypeId × Value->H):∃ds Bc,DataW.whole enc Tryz.prog ((laidWorld os).forCall (fun _ _=>0) ⟨#[],zCd,[]⟩).memory Tryz.f5.params.toList Rows.typingWrapsSpec.vars false zCd.toList 8=some (ds,[],Bc):=
 ⟨[.agg [.nil],.nil,.agg [.lit (.int .u8 0),.lit (.int .i64 0),.lit (.string []),.lit (.string []),.agg [.lit (.string []),.nil],.nil,.lit (.int .i64 0)]],[],by kernel_rfl⟩
theorem TypingWraps.lifted(os:Os)(pb:os.Started)(H:Type)(enc:TypeId × Value->H)(F:Stop.Interp):
  ReturnsInHanded {} Tryz.checked os 5 .any ((OpenSpec.ofChange Rows.typingWrapsSpec).preRow enc Tryz.prog Tryz.f5 Rows.typingWrapsRow.domain false Rows.typingWrapsRow.laid) (((OpenSpec.ofChange Rows.typingWrapsSpec).at F).post enc Tryz.prog Tryz.f5 false true false false):=by
 obtain⟨Ir,Bc,hx⟩:=zGz os enc
 refine returnsInHanded_of_row (C:=Tryz.checked) (s:=OpenSpec.ofChange Rows.typingWrapsSpec) own pb (by kernel_rfl) Tryz.func5
  (witness_row_atRef (enc:=enc) (C:=Tryz.checked) false (laidWorld os) zCd rfl (by kernel_rfl) (by kernel_rfl) (by kernel_rfl)
   (OpenSpec.preRow_of_cond 8 hx (by kernel_rfl) (fun k hk=>by cases hk) (by kernel_rfl) (zHQ os))) ?_
 intro W xi args ds gs kf Rf hW _ _ _ hL _ _
 have ed:∀(j:Nat) t v,Tryz.f5.params[j]? =some t->args[j]? =some v->Value.okWide Tryz.prog W .any xi t v:=Rf
 have ik:=hW
 obtain⟨p,q,gn,hV,rfl,yi,Td⟩:=hW
 have hA:DataW.TrodAll enc Tryz.prog W 0 (fun _=>true) true Tryz.f5.params.toList args.toList ds p:=gn
 rw[Tryz.params5]at hA ed
 obtain⟨v0,om,d0,Jr,p0,q0,Ai,rfl,rfl,h0,r0⟩:=trodAll_cons hA
 obtain⟨v1,Kr,d1,Lr,p1,q1,we,rfl,rfl,h1,r1⟩:=trodAll_cons r0
 obtain⟨v2,Mr,d2,Nr,p2,q2,xe,rfl,rfl,h2,r2⟩:=trodAll_cons r1
 obtain⟨rfl,rfl,rfl⟩:=trodAll_nil r2
 subst we;subst xe
 obtain rfl:args= #[v0,v1,v2]:=by cases args;simp_all
 obtain⟨rfl,rfl⟩:=trodVars_none hV
 have kl:∀b o,MemPlace.cell b o∈p0->W.frozen? ⟨b,o,none⟩=false:=fun b o hm=>yi b o (by simp[hm])
 have Je:∀b o,MemPlace.cell b o∈p1->W.frozen? ⟨b,o,none⟩=false:=fun b o hm=>yi b o (by simp[hm])
 have Rd:∀b o,MemPlace.cell b o∈p2->W.frozen? ⟨b,o,none⟩=false:=fun b o hm=>yi b o (by simp[hm])
 obtain⟨x0,f0,rfl,ga⟩:=zC9 Tryz.underlying24 zEP zER (ed 0 24 v0 rfl rfl) h0 kl
 obtain⟨x1,Nc⟩:=zKm (ed 1 33 v1 rfl rfl) h1 Je
 obtain⟨x2,f2,rfl,Qe⟩:=zC9 Tryz.underlying43 zDA zDy (ed 2 43 v2 rfl rfl) h2 Rd
 have a0:=(zJR (φ:=[[]]) (n:=1) rfl (zN (zMU ga) (zDj _ _)))
 have a1:=(.p (zSv Nc):RA (zCx W) [[]] (.p (.sl 4 (x1.map Fi.enc))) v1)
 have a2:=(zJR (φ:=[[]]) (n:=8) (by rw[zf];rfl) (zQr x2 f2 Qe))
 have hd:=zMG x0 x1 x2 [[]]
 refine(ADet.calls (Pr:=zCx W) hd (xs:=#[.agg ((List.range 1).map f0).toArray,v1,.agg ((List.range 8).map f2).toArray]) ⟨rfl,fun j c x hc hx=>?_⟩ (fun b o v h=>h) (zKl hL)).mono fun e' W' ⟨x,Pr',hr,_,⟨φ',hx⟩,hb⟩=>?_
 .match j,hc,hx with
  |0,hc,hx=>cases hc;cases hx;skip;exact a0
  |1,hc,hx=>cases hc;cases hx;skip;exact a1
  |2,hc,hx=>cases hc;cases hx;rw[zf]at a2;exact a2
 subst hr
 cases hx with|p hx=>cases hx with|v _=>
 exact⟨_,rfl,zKa zM1 (fun t ht=>by rw[Tryz.params5]at ht;simp at ht;rcases ht with rfl|rfl|rfl;exact zC1;exact zEx;exact zEO) ik rfl rfl rfl Tryz.underlying4 hb⟩
theorem zI{a b:Bool}(x:a=true)(y:b=true):(a&&b)=true:=by rw[x,y];rfl
theorem zGc:joinedFacts Tryz.pinned.checked.prog 5 Tryz.f5 (OpenSpec.ofChange Rows.typingWrapsSpec).bare Rows.typingWrapsRow=true:=by
 unfold joinedFacts;refine zI (zI (zI (zI (zI (zI (zI (zI (zI (zI (zI (zI (zI (zI (zI (zI (zI (zI (zI (zI (zI (zI (zI (zI (zI (zI (zI (zI (zI (zI (zI ?_ ?_) ?_) ?_) ?_) ?_) ?_) ?_) ?_) ?_) ?_) ?_) ?_) ?_) ?_) ?_) ?_) ?_) ?_) ?_) ?_) ?_) ?_) ?_) ?_) ?_) ?_) ?_) ?_) ?_) ?_) ?_
 all_goals as_aux_lemma=>kernel_rfl
theorem TypingWraps.said:Rows.TypingWrapsSaid:=
 OpenClaim.holds_of_cond 5 Tryz.f5 rfl rfl rfl rfl rfl rfl rfl ⟨rfl,rfl,rfl,rfl,rfl⟩ rfl rfl rfl rfl rfl (by kernel_rfl) Tryz.func5 zGc
  (of_decide_eq_true (by kernel_rfl)) (by unfold Func.isWrapper;first|(rw[if_pos (by decide+kernel)];kernel_rfl)|(rw[if_neg (by decide+kernel)];exact⟨rfl,rfl⟩))
  (fun os pb H enc _ F=>by rw[OpenClaim.pre_eq_preRow];exact TypingWraps.lifted os pb H enc F)
theorem TypingWraps.plain(f:FuncId)(fn:Func)(hf:Tryz.pinned.checked.prog.funcNamed "weftway/weftwaylaw10.TypingWraps" =some f)(oh:Tryz.pinned.checked.prog.funcs[f]? =some fn):
  true=Tryz.pinned.checked.prog.looks []/\∀(j:Nat) t,fn.params[j]? =some t->Tryz.pinned.checked.prog.wantsStandIn t=false:=by
 obtain rfl:f=5:=Option.some.inj ((show Tryz.prog.funcNamed "weftway/weftwaylaw10.TypingWraps" =some 5 by kernel_rfl).symm.trans hf) |>.symm
 obtain rfl:fn=Tryz.f5:=(Option.some.inj (Tryz.func5.symm.trans oh)).symm
 refine⟨by kernel_rfl,fun j t ht=>?_⟩
 rw[Tryz.params5]at ht
 have hm:t=24\/t=33\/t=43:=by simpa using Array.mem_of_getElem? ht
 rcases hm with rfl|rfl|rfl
 .exact(show Tryz.prog.wantsStandIn 24=false by kernel_rfl)
 .exact(show Tryz.prog.wantsStandIn 33=false by kernel_rfl)
 exact(show Tryz.prog.wantsStandIn 43=false by kernel_rfl)
theorem TypingWraps.proved:Rows.TypingWrapsCardSaid:=
 Claim7.holds_tied_plain_at .later [] _ _ _ _ TypingWraps.said (fun _ h=>by cases h) (by kernel_rfl) (fun _ h=>by cases h) typingWraps_row_tie rfl ⟨rfl,rfl⟩ (by kernel_rfl) rfl TypingWraps.plain (by kernel_rfl)
end Go.Proofs.YtdflkegnmmkkoaaGreatDoor
