/- A part of the proof. The statement is proved in the claim's last text. -/
import Derived.Test.YtfbpibkpmcceaaaGreatDoorZMRs
set_option linter.unusedVariables false
set_option linter.unusedSimpArgs false
set_option maxRecDepth 100000
set_option maxHeartbeats 32000000
namespace Go.Proofs.YtfbpibkpmcceaaaGreatDoor
open Go.RowKit
attribute [local simp] List.replicate List.range List.range.loop resA resOne retA AV.cuts AV.cut AObj.cut trim wkR wkT wkL wkN wkNR wkNL wkM wkMR wkML
def R3S (s : St) : Prop:=∀ (d : Int) (S : ASt),-1 ≤ d → d ≤ 1000 → ADet Tryz.prog 153 [stmV s,I d] S (B (s.whole d)) S
def okE (e : Bool) (d : Int) (z : Ex) : Bool:=!(lentOp z.op && e) && z.whole (d - 1)
def stR (e l x B E A lab : Bool) (s : St) (d : Int) : Bool :=
 lab && (decide ((s.exprs.length : Int) = if (e || l) = true then (1 : Int) else if x = true then (s.names.length : Int) else (0 : Int)) && ((B || decide (s.body.length = 0)) && ((E || decide (s.els.length = 0)) && ((A || decide (s.arms.length = 0)) && (decide (s.arms.length ≤ 6) &&
  (s.exprs.all (okE e d) && (s.arms.all (fun a=>a.whole (d - 1)) && (s.body.all (fun x=>x.whole (d - 1)) && s.els.all fun x=>x.whole (d - 1)))))))))
theorem r3StmtsC (l : List St) (hl : ∀ s ∈ l,R3S s) (hn : l.length ≤ 20000) (d : Int) (hd1 : -1 ≤ d) (hd2 : d ≤ 1000) (S : ASt) : ADet Tryz.prog 108 [.p (.sl 15 (l.map St.enc)),I d] S (B (l.all fun x=>x.whole d)) S:=by
 have hlen : l.length ≤ maxLen:=sm_max hn
 generalize hR : (l.all fun x=>x.whole d) = R
 refine ADet.intro mixed Tryz.call108 Tryz.func108 rfl ?_
 simp [Tryz.ntmps108]
 refine awp_loop (fun q : Nat=>q ≤ l.length ∧ ∀ i (hi : i < l.length),i < q → l[i].whole d = true) (fun q=>([.p (.sl 15 (l.map St.enc)),I d,.any,.any,.any,I q] ++ List.replicate 13 .any)) (fun q=>[] :: S) (fun q=>l.length - q) 0 ⟨Nat.zero_le _,fun i hi h=>by omega⟩ ?_ ?_ ?_
 ·simp
 ·simp
 rintro q ⟨hq,hall⟩
 by_cases hlt : q < l.length
 ·have hnx : ∀ x,l[q] = x → x.whole d = true → ∀ i (hi : i < l.length),i < q + 1 → l[i].whole d = true:=fun x hs hb i hi h=>by
   rcases Nat.lt_or_ge i q with h' | h'
   ·exact hall i hi h'
   ·obtain rfl : i = q:=by omega
    rw [hs]; exact hb
  have hno : ∀ x,l[q] = x → x.whole d = false → R = false:=fun x hs hb=>by
   rw [← hR,List.all_eq_false]
   exact ⟨x,by rw [← hs]; exact List.getElem_mem hlt,by simp [hb]⟩
  have hx:=hl _ (List.getElem_mem hlt)
  generalize hxq : l[q] = x at *
  simp [hlt,hxq,stEnc]
  refine ⟨_,_,hx d _ hd1 hd2,?_⟩
  cases hb : x.whole d with
  | false =>
   have e:=hno x rfl hb
   simp [e]
  | true =>
   simp
   exact ⟨q + 1,⟨hlt,hnx x rfl hb⟩,by omega,wrap_succ hlt⟩
 ·have e : R = true:=by
   rw [← hR,List.all_eq_true]
   intro x hx
   obtain ⟨i,hi,rfl⟩:=List.mem_iff_getElem.1 hx
   exact hall i hi (by omega)
  simp [hlt,e]
end Go.Proofs.YtfbpibkpmcceaaaGreatDoor
