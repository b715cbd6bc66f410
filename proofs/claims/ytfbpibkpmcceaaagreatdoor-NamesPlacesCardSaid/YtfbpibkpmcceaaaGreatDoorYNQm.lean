/- A part of the proof. The statement is proved in the claim's last text. -/
import Derived.Test.YtfbpibkpmcceaaaGreatDoorYNQl
import Derived.Test.YtfbpibkpmcceaaaGreatDoorYMLt
set_option linter.unusedVariables false
set_option linter.unusedSimpArgs false
set_option maxRecDepth 100000
set_option maxHeartbeats 32000000
namespace Go.Proofs.YtfbpibkpmcceaaaGreatDoor
open Go.RowKit
attribute [local simp] List.replicate List.range List.range.loop resA resOne retA AV.cuts AV.cut AObj.cut trim wkR wkT wkL wkN wkNR wkNL wkM wkMR wkML
theorem any_none {α : Type} {f : α → Bool} {l : List α} (h : ∀ i (hi : i < l.length),i < l.length → f l[i] = false) : l.any f = false:=by
 rw [List.any_eq_false]
 intro x hx
 obtain ⟨i,hi,rfl⟩:=List.getElem_of_mem hx
 rw [h i hi hi]
 simp
theorem any_some {α : Type} {f : α → Bool} {l : List α} {q : Nat} (hq : q < l.length) (h : f l[q] = true) : l.any f = true:=List.any_eq_true.2 ⟨_,List.getElem_mem hq,h⟩
theorem insideC (a : Int) : ∀ (e : Ex),ExSm e → ∀ (S : ASt),ADet Tryz.prog 59 [exV e,I a] S (B (insideB a e)) S:=by
 refine Ex.ind fun e ih hsm S=>?_
 obtain ⟨_,_,_,_,hlen0,hsub⟩:=hsm
 have hlen : e.args.length ≤ maxLen:=by unfold maxLen; omega
 refine ADet.intro mixed Tryz.call59 Tryz.func59 rfl ?_
 simp [Tryz.ntmps59]
 refine awp_loop (fun q : Nat=>q ≤ e.args.length ∧ ∀ i (hi : i < e.args.length),i < q → insideB a e.args[i] = false) (fun q=>([.any,I a,.ptr 0 0 0,.any,B false,I q] ++ List.replicate 18 .any)) (fun q=>[.cells [U e.op,I e.int,Sg e.name,Sg e.second,Sg e.place.name,.p (strs e.place.path),.p (.sl 8 (e.args.map Ex.enc)),I e.pos] 45] :: S) (fun q=>e.args.length - q) 0 ⟨Nat.zero_le _,fun i hi h=>by omega⟩ ?_ ?_ ?_
 ·simp
 ·simp
 rintro q ⟨hq,hno⟩
 by_cases hlt : q < e.args.length
 ·have hlt' : (q : Int) < (e.args.length : Int):=by omega
  have hw:=wrap_succ hlt hlen
  have hmu : e.args.length - (q + 1) < e.args.length - q:=by omega
  have iC:=fun S=>ih _ (List.getElem_mem hlt) (hsub _ (List.getElem_mem hlt)) S
  have hs:=fun h=>any_some (f:=insideB a) hlt h
  have hn : insideB a e.args[q] = false → ∀ i (hi : i < e.args.length),i < q + 1 → insideB a e.args[i] = false:=fun h i hi h1=>by
   rcases Nat.lt_or_ge i q with h2 | h2
   ·exact hno i hi h2
   ·obtain rfl : i = q:=by omega
    exact h
  generalize hf : e.args[q] = x at *
  simp [hlt,hlt',hf,exEnc]
  refine ⟨_,_,iC _,?_⟩
  cases hx : insideB a x with
  | true =>
   have ht : insideB a e = true:=by rw [insideB_eq,hs hx]; rfl
   simp [ht]
  | false =>
   simp
   exact ⟨q + 1,⟨hlt,hn hx⟩,hmu,hw⟩
 ·have hlt' : ¬ (q : Int) < (e.args.length : Int):=by omega
  have hall : e.args.any (insideB a) = false:=any_none fun i hi _=>hno i hi (by omega)
  have he : insideB a e = (e.pos == a):=by rw [insideB_eq,hall]; rfl
  simp [hlt,hlt',he]
def anyW (a : Int) (l : List St) : Bool:=l.any (withinB a)
def CW (a : Int) (l : List St) : Prop:=∀ S : ASt,ADet Tryz.prog 58 [.p (.sl 15 (l.map St.enc)),I a] S (B (anyW a l)) S
theorem cw_of (a : Int) (l : List St) (hl : l.length ≤ 20000) (h : ∀ s ∈ l,StSm s ∧ CW a s.body ∧ CW a s.els ∧ ∀ r ∈ s.arms,CW a r.body) : CW a l:=fun S=>by
 have hlen : l.length ≤ maxLen:=by unfold maxLen; omega
 refine ADet.intro mixed Tryz.call58 Tryz.func58 rfl ?_
 simp [Tryz.ntmps58]
 refine awp_loop (fun q : Nat=>q ≤ l.length ∧ ∀ i (hi : i < l.length),i < q → withinB a l[i] = false) (fun q=>([.p (.sl 15 (l.map St.enc)),I a,.any,.any,B false,I q] ++ List.replicate 58 .any)) (fun q=>[] :: S) (fun q=>l.length - q) 0 ⟨Nat.zero_le _,fun i hi h=>by omega⟩ ?_ ?_ ?_
 ·simp
 ·simp
 rintro q ⟨hq,hno⟩
 by_cases hlt : q < l.length
 ·have hlt' : (q : Int) < (l.length : Int):=by omega
  have hw:=wrap_succ hlt hlen
  have hmu : l.length - (q + 1) < l.length - q:=by omega
  obtain ⟨hsm,hb,he,har⟩:=h _ (List.getElem_mem hlt)
  have hs:=fun h=>any_some (f:=withinB a) hlt h
  have hn : withinB a l[q] = false → ∀ i (hi : i < l.length),i < q + 1 → withinB a l[i] = false:=fun h i hi h1=>by
   rcases Nat.lt_or_ge i q with h2 | h2
   ·exact hno i hi h2
   ·obtain rfl : i = q:=by omega
    exact h
  generalize hf : l[q] = s at *
  obtain ⟨_,_,_,_,_,_,hex,_,_,ha0,_,_,_,_⟩:=hsm
  have hex1:=hex.1
  have hexl : s.exprs.length ≤ maxLen:=by unfold maxLen; omega
  have hal : s.arms.length ≤ maxLen:=by unfold maxLen; omega
  simp [hlt,hlt',hf,stEnc]
  refine awp_loop (fun k : Nat=>k ≤ s.exprs.length ∧ ∀ i (hi : i < s.exprs.length),i < k → insideB a s.exprs[i] = false) (fun k=>([.p (.sl 15 (l.map St.enc)),I a,.any,.any,B false,I q,.ptr 0 0 0,I k] ++ List.replicate 56 .any)) (fun k=>[.cells (stU s) 60] :: S) (fun k=>s.exprs.length - k) 0 ⟨Nat.zero_le _,fun i hi h=>by omega⟩ ?_ ?_ ?_
  ·simp
  ·simp
  rintro k ⟨hk,hnk⟩
  by_cases hlk : k < s.exprs.length
  ·have hlk' : (k : Int) < (s.exprs.length : Int):=by omega
   have hw3:=wrap_succ hlk hexl
   have hmu3 : s.exprs.length - (k + 1) < s.exprs.length - k:=by omega
   have iC:=fun S=>insideC a _ (hex.2 _ (List.getElem_mem hlk)) S
   have hsx:=fun h=>any_some (f:=insideB a) hlk h
   have hnx : insideB a s.exprs[k] = false → ∀ i (hi : i < s.exprs.length),i < k + 1 → insideB a s.exprs[i] = false:=fun h i hi h1=>by
    rcases Nat.lt_or_ge i k with h2 | h2
    ·exact hnk i hi h2
    ·obtain rfl : i = k:=by omega
     exact h
   generalize hfx : s.exprs[k] = x at *
   simp [hlk,hlk',hfx,exEnc]
   refine ⟨_,_,iC _,?_⟩
   cases hx : insideB a x with
   | true =>
    have : withinB a s = true:=by rw [withinB_eq,hsx hx]; rfl
    simp [(show anyW a l = true from hs this)]
   | false =>
    simp
    exact ⟨k + 1,⟨hlk,hnx hx⟩,hmu3,hw3⟩
  ·have hlk' : ¬ (k : Int) < (s.exprs.length : Int):=by omega
   have hall : s.exprs.any (insideB a) = false:=any_none fun i hi _=>hnk i hi (by omega)
   simp [hlk']
   refine awp_loop (fun k : Nat=>k ≤ s.arms.length ∧ ∀ i (hi : i < s.arms.length),i < k → anyW a s.arms[i].body = false) (fun k=>([.p (.sl 15 (l.map St.enc)),I a,.any,.any,B false,I q,.ptr 0 0 0,.any,I k] ++ List.replicate 55 .any)) (fun k=>[.cells (stU s) 60] :: S) (fun k=>s.arms.length - k) 0 ⟨Nat.zero_le _,fun i hi h=>by omega⟩ ?_ ?_ ?_
   ·simp
   ·simp
   clear hk hnk hlk hlk'
   rintro k ⟨hk,hnk⟩
   by_cases hlk : k < s.arms.length
   ·have hlk' : (k : Int) < (s.arms.length : Int):=by omega
    have hw3:=wrap_succ hlk hal
    have hmu3 : s.arms.length - (k + 1) < s.arms.length - k:=by omega
    have aC:=har _ (List.getElem_mem hlk)
    have hsx:=fun h=>any_some (f:=fun x : Ar=>anyW a x.body) hlk h
    have hnx : anyW a s.arms[k].body = false → ∀ i (hi : i < s.arms.length),i < k + 1 → anyW a s.arms[i].body = false:=fun h i hi h1=>by
     rcases Nat.lt_or_ge i k with h2 | h2
     ·exact hnk i hi h2
     ·obtain rfl : i = k:=by omega
      exact h
    generalize hfx : s.arms[k] = x at *
    simp [hlk,hlk',hfx,Ar.enc]
    refine ⟨_,_,aC _,?_⟩
    cases hx : anyW a x.body with
    | true =>
     have : withinB a s = true:=by rw [withinB_eq]; show (_ || (s.arms.any (fun x=>anyW a x.body) || _)) = true; rw [hsx hx]; simp
     simp [(show anyW a l = true from hs this)]
    | false =>
     simp
     exact ⟨k + 1,⟨hlk,hnx hx⟩,hmu3,hw3⟩
   ·have hlk' : ¬ (k : Int) < (s.arms.length : Int):=by omega
    have hall2 : s.arms.any (fun x=>anyW a x.body) = false:=any_none (f:=fun x : Ar=>anyW a x.body) fun i hi _=>hnk i hi (by omega)
    have hwe : withinB a s = (s.pos == a || (anyW a s.body || anyW a s.els)):=by rw [withinB_eq,hall]; show (false || (s.arms.any (fun x=>anyW a x.body) || _)) = _; rw [hall2]; rfl
    by_cases hp : s.pos = a
    ·have : withinB a s = true:=by rw [hwe]; simp [hp]
     simp [hlk',hp,(show anyW a l = true from hs this)]
    ·have hp' : (s.pos == a) = false:=by simpa using hp
     simp [hlk',hp,hp']
     refine ⟨_,_,hb _,?_⟩
     cases hbb : anyW a s.body with
     | true =>
      have : withinB a s = true:=by rw [hwe,hbb]; simp
      simp [(show anyW a l = true from hs this)]
     | false =>
      simp
      refine ⟨_,_,he _,?_⟩
      cases hee : anyW a s.els with
      | true =>
       have : withinB a s = true:=by rw [hwe,hee]; simp
       simp [(show anyW a l = true from hs this)]
      | false =>
       have hfin : withinB a s = false:=by rw [hwe,hbb,hee]; simp [hp]
       simp
       exact ⟨q + 1,⟨hlt,hn hfin⟩,hmu,hw⟩
 ·have hlt' : ¬ (q : Int) < (l.length : Int):=by omega
  have hall : anyW a l = false:=any_none fun i hi _=>hno i hi (by omega)
  simp [hlt,hlt',hall]
theorem cwAll (a : Int) : ∀ s : St,StSm s → CW a s.body ∧ CW a s.els ∧ ∀ r ∈ s.arms,CW a r.body:=by
 refine St.ind fun s i1 i2 i3 h=>?_
 obtain ⟨_,_,_,_,_,_,_,hb,hl,_,k1,k2,k3,k4⟩:=h
 exact ⟨cw_of a s.body hb fun x hx=>⟨k1 x hx,i1 x hx (k1 x hx)⟩,cw_of a s.els hl fun x hx=>⟨k2 x hx,i2 x hx (k2 x hx)⟩,fun r hr=>cw_of a r.body (k3 r hr).2.2 fun x hx=>⟨k4 r hr x hx,i3 r hr x hx (k4 r hr x hx)⟩⟩
theorem withinC (a : Int) (l : List St) (h : StsSm l) : CW a l:=cw_of a l h.1 fun s hs=>⟨h.2 s hs,cwAll a s (h.2 s hs)⟩
theorem placedPC (a : Int) (p : List It) (hp : PrSm p) (S : ASt) : ADet Tryz.prog 23 [.agg [.p (prog p)],I a] S (B (placedP p a)) S:=by
 obtain ⟨hlen0,hsm⟩:=hp
 have hlen : p.length ≤ maxLen:=by unfold maxLen; omega
 refine ADet.intro mixed Tryz.call23 Tryz.func23 rfl ?_
 simp [Tryz.ntmps23,prog]
 refine awp_loop (fun q : Nat=>q ≤ p.length ∧ ∀ i (hi : i < p.length),i < q → placedIt a p[i] = false) (fun q=>([.any,I a,.ptr 0 0 0,.any,B false,I q] ++ List.replicate 29 .any)) (fun q=>[.cells [.p (.sl 16 (p.map It.enc))] 24] :: S) (fun q=>p.length - q) 0 ⟨Nat.zero_le _,fun i hi h=>by omega⟩ ?_ ?_ ?_
 ·simp
 ·simp
 rintro q ⟨hq,hno⟩
 by_cases hlt : q < p.length
 ·have hlt' : (q : Int) < (p.length : Int):=by omega
  have hw:=wrap_succ hlt hlen
  have hmu : p.length - (q + 1) < p.length - q:=by omega
  obtain ⟨_,_,_,hbs,hrs⟩:=hsm _ (List.getElem_mem hlt)
  have bC:=withinC a _ hbs
  have rC:=fun S=>insideC a _ hrs S
  have hs:=fun h=>any_some (f:=placedIt a) hlt h
  have hn : placedIt a p[q] = false → ∀ i (hi : i < p.length),i < q + 1 → placedIt a p[i] = false:=fun h i hi h1=>by
   rcases Nat.lt_or_ge i q with h2 | h2
   ·exact hno i hi h2
   ·obtain rfl : i = q:=by omega
    exact h
  generalize hf : p[q] = x at *
  have hpe : placedIt a x = (x.pos == a || (anyW a x.body || insideB a x.ret)):=rfl
  by_cases hpp : x.pos = a
  ·have : placedIt a x = true:=by rw [hpe]; simp [hpp]
   simp [hlt,hlt',hf,It.enc,hpp,(show placedP p a = true from hs this)]
  ·have hpp' : (x.pos == a) = false:=by simpa using hpp
   simp [hlt,hlt',hf,It.enc,hpp,hpp']
   refine ⟨_,_,bC _,?_⟩
   cases hbb : anyW a x.body with
   | true =>
    have : placedIt a x = true:=by rw [hpe,hbb]; simp
    simp [(show placedP p a = true from hs this)]
   | false =>
    simp
    refine ⟨_,_,rC _,?_⟩
    cases hrr : insideB a x.ret with
    | true =>
     have : placedIt a x = true:=by rw [hpe,hrr]; simp
     simp [(show placedP p a = true from hs this)]
    | false =>
     have hfin : placedIt a x = false:=by rw [hpe,hbb,hrr]; simp [hpp]
     simp
     exact ⟨q + 1,⟨hlt,hn hfin⟩,hmu,hw⟩
 ·have hlt' : ¬ (q : Int) < (p.length : Int):=by omega
  have hall : placedP p a = false:=any_none fun i hi _=>hno i hi (by omega)
  simp [hlt,hlt',hall]
end Go.Proofs.YtfbpibkpmcceaaaGreatDoor
