/- A part of the proof. The statement is proved in the claim's last text. -/
import Derived.Test.YtfbpibkpmcceaaaGreatDoorZNTt
set_option linter.unusedVariables false
set_option linter.unusedSimpArgs false
set_option maxRecDepth 100000
set_option maxHeartbeats 32000000
namespace Go.Proofs.YtfbpibkpmcceaaaGreatDoor
open Go.RowKit
attribute [local simp] List.replicate List.range List.range.loop resA resOne retA AV.cuts AV.cut AObj.cut trim wkR wkT wkL wkN wkNR wkNL wkM wkMR wkML
theorem r3StG (f : ByteArray) (hf : f.size ≤ 20000) (hfe : sEq f emS = false) (c101 : hasB f 101 = false) (c108 : hasB f 108 = false) (c120 : hasB f 120 = false) (c66 : hasB f 66 = true) (c69 : hasB f 69 = false) (c65 : hasB f 65 = false)
  (s : St) (hsm : StSm s) (hnn : ∀ x ∈ s.exprs,ExNn x) (ih1 : ∀ x ∈ s.body,R3S x) (ih2 : ∀ x ∈ s.els,R3S x) (ih3 : ∀ a ∈ s.arms,∀ x ∈ a.body,R3S x) (d : Int) (h0 : 1 ≤ d) (hd2 : d ≤ 1000) (lab : Bool) (hF : ∀ S,ADet Tryz.prog 184 [U s.op] S (Sg f) S)
  (hL : ∀ S,ADet Tryz.prog 185 [stmV s,Sg f,I d] S (B lab) S) (S : ASt) : ADet Tryz.prog 153 [stmV s,I d] S (B (stR false false false true false false lab s d)) S:=by
 obtain ⟨_,hn0,hs2,hnm,hty,hpl,hex,hb,hel,har,hbs,hes,has,hab⟩:=hsm
 have hc:=fun (c : Int) S=>hasC f hf c S
 have x1:=fun S=>r3StmtsC s.body ih1 hb (d - 1) (by omega) (by omega) S
 have x2:=fun S=>r3StmtsC s.els ih2 hel (d - 1) (by omega) (by omega) S
 have hlenE : s.exprs.length ≤ maxLen:=sm_max hex.1
 have hlenA : s.arms.length ≤ maxLen:=sm_max har
 have hwd:=wrd d (by omega)
 have h0' : ¬ d < 1:=by omega
 generalize hR : stR false false false true false false lab s d = R
 refine ADet.intro mixed Tryz.call153 Tryz.func153 rfl ?_
 simp [Tryz.ntmps153]
 refine ⟨_,_,hF _,?_⟩
 simp [h0',hfe]
 refine ⟨_,_,hL _,?_⟩
 cases hlab : lab with
 | false =>
  have e : R = false:=by rw [← hR,hlab]; simp [stR]
  simp [e]
 | true =>
  simp
  refine ⟨_,_,hc 101 _,?_⟩
  simp [c101,c108,c120,c66,c69,c65]
  refine ⟨_,_,hc 108 _,?_⟩
  simp [c101,c108,c120,c66,c69,c65]
  refine ⟨_,_,hc 120 _,?_⟩
  by_cases hln : ¬ (s.exprs.length : Int) = 0
  ·have hle' : ((s.exprs.length : Int) != 0) = true:=by rw [bne_iff_ne]; exact hln
   have e : R = false:=by rw [← hR]; simp only [stR,Bool.or_false,Bool.or_true,Bool.false_eq_true,if_true,if_false,hln,decide_false,Bool.false_and,Bool.and_false]
   simp [c101,c108,c120,c66,c69,c65,strs,hle',e]
  have hle:=Decidable.not_not.1 hln
  have hle' : ((s.exprs.length : Int) != 0) = false:=by rw [bne_eq_false_iff_eq]; exact hle
  simp [c101,c108,c120,c66,c69,c65,strs,hle']
  refine ⟨_,_,hc 66 _,?_⟩
  simp [c101,c108,c120,c66,c69,c65,hle',strs]
  refine ⟨_,_,hc 69 _,?_⟩
  rcases (Nat.eq_zero_or_pos s.els.length).symm with le | lez
  ·have le' : ¬ s.els.length = 0:=by omega
   have le'' : s.els ≠ []:=fun e=>le' (by rw [e]; rfl)
   have e : R = false:=by rw [← hR]; simp [stR,hlab,hle,le,le',le'']
   simp [c101,c108,c120,c66,c69,c65,hle',strs,le,le',le'',e]
  have le : ¬ 0 < s.els.length:=by omega
  simp [c101,c108,c120,c66,c69,c65,hle',strs,le]
  refine ⟨_,_,hc 65 _,?_⟩
  rcases (Nat.eq_zero_or_pos s.arms.length).symm with la | laz
  ·have la' : ¬ s.arms.length = 0:=by omega
   have la'' : s.arms ≠ []:=fun e=>la' (by rw [e]; rfl)
   have e : R = false:=by rw [← hR]; simp [stR,hlab,hle,lez,la,la',la'']
   simp [c101,c108,c120,c66,c69,c65,hle',strs,le,la,la',la'',e]
  have la : ¬ 0 < s.arms.length:=by omega
  by_cases h6 : ¬ s.arms.length ≤ 6
  ·have h6' : (6 : Int) < s.arms.length:=by omega
   have h6n : ¬ (s.arms.length : Int) ≤ 6:=by omega
   have e : R = false:=by rw [← hR]; simp only [stR,h6,decide_false,Bool.false_and,Bool.and_false]
   simp [c101,c108,c120,c66,c69,c65,hle',strs,le,la,h6',h6n,e]
  have h6:=Decidable.not_not.1 h6
  have h6' : ¬ (6 : Int) < s.arms.length:=by omega
  have h6n : (s.arms.length : Int) ≤ 6:=by omega
  have e0 : R = (s.exprs.all (okE false d) && (s.arms.all (fun a=>a.whole (d - 1)) && (s.body.all (fun x=>x.whole (d - 1)) && s.els.all fun x=>x.whole (d - 1)))):=by
   rw [← hR]; simp only [stR,hlab,lez,laz,h6,Bool.or_false,Bool.or_true,Bool.true_or,Bool.false_or,Bool.false_eq_true,if_true,if_false,hle,eq_self_iff_true,Nat.zero_le,decide_true,Bool.true_and]
  simp [c101,c108,c120,c66,c69,c65,hle',strs,le,la,h6',h6n]
  refine awp_loop (fun q : Nat=>q ≤ s.exprs.length ∧ ∀ i (hi : i < s.exprs.length),i < q → okE false d s.exprs[i] = true) (fun q=>([.any,I d,.ptr 0 0 0,.any,.any,Sg f,.any,I q] ++ List.replicate 148 .any)) (fun q=>[.cells (stU s) 60] :: S) (fun q=>s.exprs.length - q) 0 ⟨Nat.zero_le _,fun i hi h=>by omega⟩ ?_ ?_ ?_
  ·simp
  ·simp [strs]
  rintro q ⟨hq,hall⟩
  by_cases hlt : q < s.exprs.length
  ·have hnx : ∀ x,s.exprs[q] = x → okE false d x = true → ∀ i (hi : i < s.exprs.length),i < q + 1 → okE false d s.exprs[i] = true:=fun x hs hb i hi h=>by
    rcases Nat.lt_or_ge i q with h' | h'
    ·exact hall i hi h'
    ·obtain rfl : i = q:=by omega
     rw [hs]; exact hb
   have hno : ∀ x,s.exprs[q] = x → okE false d x = false → R = false:=fun x hs hb=>by
    have : s.exprs.all (okE false d) = false:=by
     rw [List.all_eq_false]
     exact ⟨x,by rw [← hs]; exact List.getElem_mem hlt,by rw [hb]; simp⟩
    rw [e0,this,Bool.false_and]
   have hxs:=rExprC _ (hex.2 _ (List.getElem_mem hlt)) (hnn _ (List.getElem_mem hlt))
   have hxl:=fun S=>rLentC s.exprs[q] S
   generalize hxq : s.exprs[q] = x at *
   have g:=fun S=>hxs (d - 1) S (by omega) (by omega)
   simp [hlt,hxq,exEnc,strs]
   refine ⟨_,_,hxl _,?_⟩
   cases hlx : lentOp x.op with
   | true =>
    simp
    refine ⟨_,_,hc 101 _,?_⟩
    simp [c101,hlt,hxq,exEnc,strs,hwd]
    refine ⟨_,_,g _,?_⟩
    cases hw : x.whole (d - 1) with
    | false =>
     have e:=hno x rfl (by simp [okE,hlx,hw])
     simp [e]
    | true =>
     simp [strs]
     exact ⟨q + 1,⟨hlt,hnx x rfl (by simp [okE,hlx,hw])⟩,by omega,wrap_succ hlt⟩
   | false =>
    simp [hlt,hxq,exEnc,strs,hwd]
    refine ⟨_,_,g _,?_⟩
    cases hw : x.whole (d - 1) with
    | false =>
     have e:=hno x rfl (by simp [okE,hlx,hw])
     simp [e]
    | true =>
     simp [strs]
     exact ⟨q + 1,⟨hlt,hnx x rfl (by simp [okE,hlx,hw])⟩,by omega,wrap_succ hlt⟩
  have a1 : s.exprs.all (okE false d) = true:=by
   rw [List.all_eq_true]
   intro x hx
   obtain ⟨i,hi,rfl⟩:=List.mem_iff_getElem.1 hx
   exact hall i hi (by omega)
  rw [a1,Bool.true_and] at e0
  clear hall a1
  simp [hlt,strs]
  refine awp_loop (fun q : Nat=>q ≤ s.arms.length ∧ ∀ i (hi : i < s.arms.length),i < q → s.arms[i].whole (d - 1) = true) (fun q=>([.any,I d,.ptr 0 0 0,.any,.any,.any,.any,.any,I q] ++ List.replicate 147 .any)) (fun q=>[.cells (stU s) 60] :: S) (fun q=>s.arms.length - q) 0 ⟨Nat.zero_le _,fun i hi h=>by omega⟩ ?_ ?_ ?_
  ·simp
  ·simp [strs]
  rintro q ⟨hq,hall⟩
  by_cases hlt : q < s.arms.length
  ·have hnx : ∀ a,s.arms[q] = a → a.whole (d - 1) = true → ∀ i (hi : i < s.arms.length),i < q + 1 → s.arms[i].whole (d - 1) = true:=fun x hs hb i hi h=>by
    rcases Nat.lt_or_ge i q with h' | h'
    ·exact hall i hi h'
    ·obtain rfl : i = q:=by omega
     rw [hs]; exact hb
   have hno : ∀ a,s.arms[q] = a → a.whole (d - 1) = false → R = false:=fun x hs hb=>by
    have : s.arms.all (fun a=>a.whole (d - 1)) = false:=by
     rw [List.all_eq_false]
     exact ⟨x,by rw [← hs]; exact List.getElem_mem hlt,by rw [hb]; simp⟩
    rw [e0,this,Bool.false_and]
   have hsz:=has _ (List.getElem_mem hlt)
   have hbd:=ih3 _ (List.getElem_mem hlt)
   generalize hxq : s.arms[q] = a at *
   have g1:=fun S=>rtypeC a.variant (sm_max hsz.1) S
   have g2:=fun S=>rnameC a.name (sm_max hsz.2.1) S
   have g3:=fun S=>r3StmtsC a.body hbd hsz.2.2 (d - 1) (by omega) (by omega) S
   have hwa : a.whole (d - 1) = (typeB a.variant && ((sEq a.name emS || nameB a.name) && a.body.all fun t=>t.whole (d - 1))):=rfl
   simp [hlt,hxq,Ar.enc,strs]
   refine ⟨_,_,g1 _,?_⟩
   cases hv : typeB a.variant with
   | false =>
    have e:=hno a rfl (by rw [hwa,hv,Bool.false_and])
    simp [e]
   | true =>
    cases hn : sEq a.name emS with
    | true =>
     simp [hn,hwd]
     refine ⟨_,_,g3 _,?_⟩
     cases hw : a.body.all fun t=>t.whole (d - 1) with
     | false =>
      have e:=hno a rfl (by rw [hwa,hv,hn,hw]; rfl)
      simp [e]
     | true =>
      have e:=hnx a rfl (by rw [hwa,hv,hn,hw]; rfl)
      simp [strs]
      exact ⟨q + 1,⟨hlt,e⟩,by omega,wrap_succ hlt⟩
    | false =>
     simp [hn]
     refine ⟨_,_,g2 _,?_⟩
     cases hnb : nameB a.name with
     | false =>
      have e:=hno a rfl (by rw [hwa,hv,hn,hnb]; rfl)
      simp [e]
     | true =>
      simp [hwd]
      refine ⟨_,_,g3 _,?_⟩
      cases hw : a.body.all fun t=>t.whole (d - 1) with
      | false =>
       have e:=hno a rfl (by rw [hwa,hv,hn,hnb,hw]; rfl)
       simp [e]
      | true =>
       have e:=hnx a rfl (by rw [hwa,hv,hn,hnb,hw]; rfl)
       simp [strs]
       exact ⟨q + 1,⟨hlt,e⟩,by omega,wrap_succ hlt⟩
  have a2 : s.arms.all (fun a=>a.whole (d - 1)) = true:=by
   rw [List.all_eq_true]
   intro x hx
   obtain ⟨i,hi,rfl⟩:=List.mem_iff_getElem.1 hx
   exact hall i hi (by omega)
  rw [a2,Bool.true_and] at e0
  rw [e0]
  simp [hlt,hwd]
  refine ⟨_,_,x1 _,?_⟩
  generalize s.body.all (fun x=>x.whole (d - 1)) = b1
  cases b1 with
  | false=>simp
  | true =>
   simp [hwd]
   refine ⟨_,_,x2 _,?_⟩
   simp
theorem r3StH (f : ByteArray) (hf : f.size ≤ 20000) (hfe : sEq f emS = false) (c101 : hasB f 101 = false) (c108 : hasB f 108 = false) (c120 : hasB f 120 = true) (c66 : hasB f 66 = true) (c69 : hasB f 69 = false) (c65 : hasB f 65 = false)
  (s : St) (hsm : StSm s) (hnn : ∀ x ∈ s.exprs,ExNn x) (ih1 : ∀ x ∈ s.body,R3S x) (ih2 : ∀ x ∈ s.els,R3S x) (ih3 : ∀ a ∈ s.arms,∀ x ∈ a.body,R3S x) (d : Int) (h0 : 1 ≤ d) (hd2 : d ≤ 1000) (lab : Bool) (hF : ∀ S,ADet Tryz.prog 184 [U s.op] S (Sg f) S)
  (hL : ∀ S,ADet Tryz.prog 185 [stmV s,Sg f,I d] S (B lab) S) (S : ASt) : ADet Tryz.prog 153 [stmV s,I d] S (B (stR false false true true false false lab s d)) S:=by
 obtain ⟨_,hn0,hs2,hnm,hty,hpl,hex,hb,hel,har,hbs,hes,has,hab⟩:=hsm
 have hc:=fun (c : Int) S=>hasC f hf c S
 have x1:=fun S=>r3StmtsC s.body ih1 hb (d - 1) (by omega) (by omega) S
 have x2:=fun S=>r3StmtsC s.els ih2 hel (d - 1) (by omega) (by omega) S
 have hlenE : s.exprs.length ≤ maxLen:=sm_max hex.1
 have hlenA : s.arms.length ≤ maxLen:=sm_max har
 have hwd:=wrd d (by omega)
 have h0' : ¬ d < 1:=by omega
 generalize hR : stR false false true true false false lab s d = R
 refine ADet.intro mixed Tryz.call153 Tryz.func153 rfl ?_
 simp [Tryz.ntmps153]
 refine ⟨_,_,hF _,?_⟩
 simp [h0',hfe]
 refine ⟨_,_,hL _,?_⟩
 cases hlab : lab with
 | false =>
  have e : R = false:=by rw [← hR,hlab]; simp [stR]
  simp [e]
 | true =>
  simp
  refine ⟨_,_,hc 101 _,?_⟩
  simp [c101,c108,c120,c66,c69,c65]
  refine ⟨_,_,hc 108 _,?_⟩
  simp [c101,c108,c120,c66,c69,c65]
  refine ⟨_,_,hc 120 _,?_⟩
  by_cases hln : ¬ (s.exprs.length : Int) = (s.names.length : Int)
  ·have hle' : ((s.exprs.length : Int) != (s.names.length : Int)) = true:=by rw [bne_iff_ne]; exact hln
   have e : R = false:=by rw [← hR]; simp only [stR,Bool.or_false,Bool.or_true,Bool.false_eq_true,if_true,if_false,hln,decide_false,Bool.false_and,Bool.and_false]
   simp [c101,c108,c120,c66,c69,c65,strs,hle',e]
  have hle:=Decidable.not_not.1 hln
  have hle' : ((s.exprs.length : Int) != (s.names.length : Int)) = false:=by rw [bne_eq_false_iff_eq]; exact hle
  simp [c101,c108,c120,c66,c69,c65,strs,hle']
  refine ⟨_,_,hc 66 _,?_⟩
  simp [c101,c108,c120,c66,c69,c65,hle',strs]
  refine ⟨_,_,hc 69 _,?_⟩
  rcases (Nat.eq_zero_or_pos s.els.length).symm with le | lez
  ·have le' : ¬ s.els.length = 0:=by omega
   have le'' : s.els ≠ []:=fun e=>le' (by rw [e]; rfl)
   have e : R = false:=by rw [← hR]; simp [stR,hlab,hle,le,le',le'']
   simp [c101,c108,c120,c66,c69,c65,hle',strs,le,le',le'',e]
  have le : ¬ 0 < s.els.length:=by omega
  simp [c101,c108,c120,c66,c69,c65,hle',strs,le]
  refine ⟨_,_,hc 65 _,?_⟩
  rcases (Nat.eq_zero_or_pos s.arms.length).symm with la | laz
  ·have la' : ¬ s.arms.length = 0:=by omega
   have la'' : s.arms ≠ []:=fun e=>la' (by rw [e]; rfl)
   have e : R = false:=by rw [← hR]; simp [stR,hlab,hle,lez,la,la',la'']
   simp [c101,c108,c120,c66,c69,c65,hle',strs,le,la,la',la'',e]
  have la : ¬ 0 < s.arms.length:=by omega
  by_cases h6 : ¬ s.arms.length ≤ 6
  ·have h6' : (6 : Int) < s.arms.length:=by omega
   have h6n : ¬ (s.arms.length : Int) ≤ 6:=by omega
   have e : R = false:=by rw [← hR]; simp only [stR,h6,decide_false,Bool.false_and,Bool.and_false]
   simp [c101,c108,c120,c66,c69,c65,hle',strs,le,la,h6',h6n,e]
  have h6:=Decidable.not_not.1 h6
  have h6' : ¬ (6 : Int) < s.arms.length:=by omega
  have h6n : (s.arms.length : Int) ≤ 6:=by omega
  have e0 : R = (s.exprs.all (okE false d) && (s.arms.all (fun a=>a.whole (d - 1)) && (s.body.all (fun x=>x.whole (d - 1)) && s.els.all fun x=>x.whole (d - 1)))):=by
   rw [← hR]; simp only [stR,hlab,lez,laz,h6,Bool.or_false,Bool.or_true,Bool.true_or,Bool.false_or,Bool.false_eq_true,if_true,if_false,hle,eq_self_iff_true,Nat.zero_le,decide_true,Bool.true_and]
  simp [c101,c108,c120,c66,c69,c65,hle',strs,le,la,h6',h6n]
  refine awp_loop (fun q : Nat=>q ≤ s.exprs.length ∧ ∀ i (hi : i < s.exprs.length),i < q → okE false d s.exprs[i] = true) (fun q=>([.any,I d,.ptr 0 0 0,.any,.any,Sg f,.any,I q] ++ List.replicate 148 .any)) (fun q=>[.cells (stU s) 60] :: S) (fun q=>s.exprs.length - q) 0 ⟨Nat.zero_le _,fun i hi h=>by omega⟩ ?_ ?_ ?_
  ·simp
  ·simp [strs]
  rintro q ⟨hq,hall⟩
  by_cases hlt : q < s.exprs.length
  ·have hnx : ∀ x,s.exprs[q] = x → okE false d x = true → ∀ i (hi : i < s.exprs.length),i < q + 1 → okE false d s.exprs[i] = true:=fun x hs hb i hi h=>by
    rcases Nat.lt_or_ge i q with h' | h'
    ·exact hall i hi h'
    ·obtain rfl : i = q:=by omega
     rw [hs]; exact hb
   have hno : ∀ x,s.exprs[q] = x → okE false d x = false → R = false:=fun x hs hb=>by
    have : s.exprs.all (okE false d) = false:=by
     rw [List.all_eq_false]
     exact ⟨x,by rw [← hs]; exact List.getElem_mem hlt,by rw [hb]; simp⟩
    rw [e0,this,Bool.false_and]
   have hxs:=rExprC _ (hex.2 _ (List.getElem_mem hlt)) (hnn _ (List.getElem_mem hlt))
   have hxl:=fun S=>rLentC s.exprs[q] S
   generalize hxq : s.exprs[q] = x at *
   have g:=fun S=>hxs (d - 1) S (by omega) (by omega)
   simp [hlt,hxq,exEnc,strs]
   refine ⟨_,_,hxl _,?_⟩
   cases hlx : lentOp x.op with
   | true =>
    simp
    refine ⟨_,_,hc 101 _,?_⟩
    simp [c101,hlt,hxq,exEnc,strs,hwd]
    refine ⟨_,_,g _,?_⟩
    cases hw : x.whole (d - 1) with
    | false =>
     have e:=hno x rfl (by simp [okE,hlx,hw])
     simp [e]
    | true =>
     simp [strs]
     exact ⟨q + 1,⟨hlt,hnx x rfl (by simp [okE,hlx,hw])⟩,by omega,wrap_succ hlt⟩
   | false =>
    simp [hlt,hxq,exEnc,strs,hwd]
    refine ⟨_,_,g _,?_⟩
    cases hw : x.whole (d - 1) with
    | false =>
     have e:=hno x rfl (by simp [okE,hlx,hw])
     simp [e]
    | true =>
     simp [strs]
     exact ⟨q + 1,⟨hlt,hnx x rfl (by simp [okE,hlx,hw])⟩,by omega,wrap_succ hlt⟩
  have a1 : s.exprs.all (okE false d) = true:=by
   rw [List.all_eq_true]
   intro x hx
   obtain ⟨i,hi,rfl⟩:=List.mem_iff_getElem.1 hx
   exact hall i hi (by omega)
  rw [a1,Bool.true_and] at e0
  clear hall a1
  simp [hlt,strs]
  refine awp_loop (fun q : Nat=>q ≤ s.arms.length ∧ ∀ i (hi : i < s.arms.length),i < q → s.arms[i].whole (d - 1) = true) (fun q=>([.any,I d,.ptr 0 0 0,.any,.any,.any,.any,.any,I q] ++ List.replicate 147 .any)) (fun q=>[.cells (stU s) 60] :: S) (fun q=>s.arms.length - q) 0 ⟨Nat.zero_le _,fun i hi h=>by omega⟩ ?_ ?_ ?_
  ·simp
  ·simp [strs]
  rintro q ⟨hq,hall⟩
  by_cases hlt : q < s.arms.length
  ·have hnx : ∀ a,s.arms[q] = a → a.whole (d - 1) = true → ∀ i (hi : i < s.arms.length),i < q + 1 → s.arms[i].whole (d - 1) = true:=fun x hs hb i hi h=>by
    rcases Nat.lt_or_ge i q with h' | h'
    ·exact hall i hi h'
    ·obtain rfl : i = q:=by omega
     rw [hs]; exact hb
   have hno : ∀ a,s.arms[q] = a → a.whole (d - 1) = false → R = false:=fun x hs hb=>by
    have : s.arms.all (fun a=>a.whole (d - 1)) = false:=by
     rw [List.all_eq_false]
     exact ⟨x,by rw [← hs]; exact List.getElem_mem hlt,by rw [hb]; simp⟩
    rw [e0,this,Bool.false_and]
   have hsz:=has _ (List.getElem_mem hlt)
   have hbd:=ih3 _ (List.getElem_mem hlt)
   generalize hxq : s.arms[q] = a at *
   have g1:=fun S=>rtypeC a.variant (sm_max hsz.1) S
   have g2:=fun S=>rnameC a.name (sm_max hsz.2.1) S
   have g3:=fun S=>r3StmtsC a.body hbd hsz.2.2 (d - 1) (by omega) (by omega) S
   have hwa : a.whole (d - 1) = (typeB a.variant && ((sEq a.name emS || nameB a.name) && a.body.all fun t=>t.whole (d - 1))):=rfl
   simp [hlt,hxq,Ar.enc,strs]
   refine ⟨_,_,g1 _,?_⟩
   cases hv : typeB a.variant with
   | false =>
    have e:=hno a rfl (by rw [hwa,hv,Bool.false_and])
    simp [e]
   | true =>
    cases hn : sEq a.name emS with
    | true =>
     simp [hn,hwd]
     refine ⟨_,_,g3 _,?_⟩
     cases hw : a.body.all fun t=>t.whole (d - 1) with
     | false =>
      have e:=hno a rfl (by rw [hwa,hv,hn,hw]; rfl)
      simp [e]
     | true =>
      have e:=hnx a rfl (by rw [hwa,hv,hn,hw]; rfl)
      simp [strs]
      exact ⟨q + 1,⟨hlt,e⟩,by omega,wrap_succ hlt⟩
    | false =>
     simp [hn]
     refine ⟨_,_,g2 _,?_⟩
     cases hnb : nameB a.name with
     | false =>
      have e:=hno a rfl (by rw [hwa,hv,hn,hnb]; rfl)
      simp [e]
     | true =>
      simp [hwd]
      refine ⟨_,_,g3 _,?_⟩
      cases hw : a.body.all fun t=>t.whole (d - 1) with
      | false =>
       have e:=hno a rfl (by rw [hwa,hv,hn,hnb,hw]; rfl)
       simp [e]
      | true =>
       have e:=hnx a rfl (by rw [hwa,hv,hn,hnb,hw]; rfl)
       simp [strs]
       exact ⟨q + 1,⟨hlt,e⟩,by omega,wrap_succ hlt⟩
  have a2 : s.arms.all (fun a=>a.whole (d - 1)) = true:=by
   rw [List.all_eq_true]
   intro x hx
   obtain ⟨i,hi,rfl⟩:=List.mem_iff_getElem.1 hx
   exact hall i hi (by omega)
  rw [a2,Bool.true_and] at e0
  rw [e0]
  simp [hlt,hwd]
  refine ⟨_,_,x1 _,?_⟩
  generalize s.body.all (fun x=>x.whole (d - 1)) = b1
  cases b1 with
  | false=>simp
  | true =>
   simp [hwd]
   refine ⟨_,_,x2 _,?_⟩
   simp
end Go.Proofs.YtfbpibkpmcceaaaGreatDoor
