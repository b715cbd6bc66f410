/- A part of the proof. The statement is proved in the claim's last text. -/
import Derived.Test.YtlclonljdagpkaaGreatDoorXNQj
import Derived.Test.YtlclonljdagpkaaGreatDoorXTbL
import Derived.Test.YtlclonljdagpkaaGreatDoorXTbS
import Derived.Test.YtlclonljdagpkaaGreatDoorXMLe
import Derived.Test.YtlclonljdagpkaaGreatDoorXNRc
import Derived.Test.YtlclonljdagpkaaGreatDoorXAlLi
import Derived.Test.YtlclonljdagpkaaGreatDoorXNQn
set_option linter.unusedVariables false
set_option linter.unusedSimpArgs false
set_option maxRecDepth 100000
set_option maxHeartbeats 32000000
namespace Go.Proofs.YtlclonljdagpkaaGreatDoor
open Go.RowKit
attribute [local simp] List.replicate List.range List.range.loop resA resOne retA AV.cuts AV.cut AObj.cut trim wkR wkT wkL wkN wkNR wkNL wkM wkMR wkML virtL virtO virt_get markL markO markR_get rowA awpI_nil awpI_cons List.forall_mem_cons List.contains_cons List.contains_nil List.find? nextD_eq awpD_nil awpD_cons LCp LCl refL
theorem filt_get (g : Flt → Bool) : ∀ (a : List Flt) (i : Nat) (h : i < a.length),g a[i] = true → (a.filter g)[((a.take i).filter g).length]? = some a[i]
 | x :: a,0,_,hg=>by
  have hg' : g x = true:=hg
  simp [List.filter_cons,hg']
 | x :: a,i + 1,h,hg=>by
  have:=filt_get g a i (by simpa using h) (by simpa using hg)
  rw [List.take_succ_cons,List.filter_cons,List.filter_cons]
  cases hx : g x with
  | true=>simpa using this
  | false=>simpa using this
theorem filt_succ (g : Flt → Bool) (a : List Flt) (i : Nat) (h : i < a.length) : ((a.take (i + 1)).filter g).length = ((a.take i).filter g).length + if g a[i] = true then 1 else 0:=by
 rw [List.take_succ_eq_append_getElem h,List.filter_append,List.length_append]
 cases hg : g a[i] <;> simp [hg]
theorem boxFi_sm {k : Int} {f : Fi} (h : FiSm f) : FiSm (boxFi k f):=by
 unfold boxFi
 split
 ·refine ⟨h.1,.mk _ (show (0 : Nat) ≤ 20000 by omega) (show (1 : Nat) ≤ 20000 by omega) fun x hx=>?_⟩
  rw [List.mem_singleton.1 (show x ∈ [f.type] from hx)]
  exact h.2
 ·exact h
theorem box_sm {p : List It} (h : PrSm p) : PrSm (p.map boxIt):=⟨by rw [List.length_map]; exact h.1,fun y hy=>by
 obtain ⟨x,hx,rfl⟩:=List.mem_map.1 hy
 obtain ⟨h1,h2,h3,h4,h5⟩:=h.2 x hx
 refine ⟨h1,⟨by show (x.fields.map _).length ≤ _; rw [List.length_map]; exact h2.1,fun f hf=>?_⟩,h3,h4,h5⟩
 obtain ⟨g,hg,rfl⟩:=List.mem_map.1 (show f ∈ x.fields.map (boxFi x.kind) from hf)
 exact boxFi_sm (h2.2 g hg)⟩
theorem lent_box {p : List It} {rc : List AV} {fs : Nat → List Fi} {A : List AObj} (h : BxS p rc fs A) (hpart : ∀ (q : Nat) (h : q < p.length),(rc.drop (q * 16)).take 16 = itRC p[q] (12 + 6 * q + 4) (12 + 6 * q + 5)) (hd : ∀ j (h : j < p.length),fs j = (boxIt p[j]).fields) (R : ASt) : Lent (A :: R) (.rsl 0 12 p.length 16) (.sl 16 ((p.map boxIt).map It.enc)):=by
 refine Lent.items (show get2 (A :: R) 0 12 = _ from h.rw) (by simp) fun r hr=>?_
 have hr' : r < p.length:=by simpa using hr
 have hf:=h.fi r hr'
 have hs:=h.st r hr'
 rw [hpart r hr',List.getElem_map]
 rw [hd r hr'] at hf
 have l1 : Lent (A :: R) (.rsl 0 (12 + 6 * r + 4) p[r].fields.length 4) (.sl 4 ((boxIt p[r]).fields.map Fi.enc)):=Lent.rowP (show get2 (A :: R) 0 _ = _ from hf) (by show (p[r].fields.map _).length = _; rw [List.length_map]) fun _=>rfl
 have l2 : Lent (A :: R) (.rsl 0 (12 + 6 * r + 5) p[r].body.length 15) (.sl 15 (p[r].body.map St.enc)):=Lent.rowP (show get2 (A :: R) 0 _ = _ from hs) rfl fun x=>by rw [stEnc]; rfl
 generalize p[r] = x at l1 l2 ⊢
 exact .cons (.p _) (.cons (.p _) (.cons l1 (.cons (.p _) (.cons (.p _) (.cons (.p _) (.cons l2 (.cons (.p _) (.cons (.p _) (.cons (.p _) (.cons (.p _) (.cons (.p _) (.cons (.p _) (.cons (.p _) (.cons (.p _) (.cons (.p _) .nil)))))))))))))))
theorem set_same {α : Type} : ∀ {l : List α} {k : Nat} {a : α},l[k]? = some a → l.set k a = l
 | [],_,_,h=>by simp at h
 | x :: l,0,a,h=>by simp at h; rw [List.set_cons_zero,h]
 | x :: l,k + 1,a,h=>by rw [List.set_cons_succ,set_same (by simpa using h)]
theorem set3 {α : Type} {a b c d : α} : ∀ {cs : List α} {o : Nat} {b' c' d' : α},(cs.drop o).take 4 = [a,b,c,d] → ((cs.set (o + 1) b').set (o + 1 + 1) c').set (o + 1 + 1 + 1) d' = cs.take o ++ [a,b',c',d'] ++ cs.drop (o + 4)
 | x :: cs,o + 1,b',c',d',h=>by
  have:=set3 (cs:=cs) (o:=o) (b':=b') (c':=c') (d':=d') (by simpa using h)
  rw [show o + 1 + 1 = (o + 1) + 1 from rfl,List.set_cons_succ,show o + 1 + 1 + 1 = (o + 1 + 1) + 1 from rfl,List.set_cons_succ,List.set_cons_succ,this,show o + 1 + 4 = (o + 4) + 1 by omega]
  simp
 | [],_,_,_,_,h=>by simp at h
 | [w],0,_,_,_,h=>by simp at h
 | [w,x],0,_,_,_,h=>by simp at h
 | [w,x,y],0,_,_,_,h=>by simp at h
 | w :: x :: y :: z :: cs,0,b',c',d',h=>by
  simp at h
  obtain ⟨rfl,rfl,rfl,rfl⟩:=h
  rfl
theorem boxedC (p : List It) : ADet Tryz.prog 4 [.agg [.p (prog p)]] [[]] (B true) [[]]:=by
 have gC:=fun S=>greatC S p
 refine ADet.intro mixed Tryz.call4 Tryz.func4 rfl ?_
 simp [Tryz.ntmps4]
 refine ⟨_,_,awake07C _,?_⟩
 simp
 refine ⟨_,_,gC _,?_⟩
 cases hg : great p with
 | true=>simp
 | false =>
 have hp : PrSm p:=pr_sm hg
 have wC:=fun S=>wholeProgC p hp S
 simp
 refine ⟨_,_,wC _,?_⟩
 cases hw : prWhole p with
 | false=>simp
 | true =>
 have dC:=fun S=>depthAC p hp (by have:=pr_deep_le hw; omega) S
 simp
 refine ⟨_,_,dC _,?_⟩
 by_cases hd : (40 : Int) ≤ (itsDeep p : Int)
 ·simp [hd]
 have hlp : p.length ≤ 20000:=hp.1
 have hrl:=itsRC_len 12 p
 have hpart:=itsRC_part 12 p
 have hI0:=BxS.init p
 obtain ⟨f0,hf0⟩ : ∃ f0 : Nat → List Fi,(fun j=>(p.getD j ⟨0,emS,[],.mk 0 emS [],[],.mk 0 0 emS emS ⟨emS,[]⟩ [] 0,0⟩).fields) = f0:=⟨_,rfl⟩
 rw [hf0] at hI0
 have cC:=fun R=>copyR p hp [.cells [.p (prog p)] 24] R
 have hDl : (List.replicate 11 AObj.dead ++ prO 12 p).length = 12 + 6 * p.length:=by rw [List.length_append,prO_len,List.length_replicate]; omega
 have hf1 : ∀ j (h : j < p.length),f0 j = p[j].fields:=fun j h=>by subst hf0; simp [List.getD,h]
 simp only [List.length_singleton] at cC
 rw [show 1 + 11 = 12 from rfl] at cC
 generalize List.replicate 11 AObj.dead ++ prO 12 p = D at *
 simp [hd]
 refine ⟨_,_,cC _,?_⟩
 simp [hDl]
 have hAl0 : (AObj.cells [.p (prog p)] 24 :: (D ++ [AObj.cells [.rsl 0 12 p.length 16] 24])).length = 14 + 6 * p.length:=hI0.len
 have hAk0:=fun o ho=>hI0.keep o ho (14 + 6 * p.length) (Nat.le_refl _)
 generalize (AObj.cells [.p (prog p)] 24 :: (D ++ [AObj.cells [.rsl 0 12 p.length 16] 24])) = A0 at *
 generalize hrc : itsRC 12 p = rc at *
 refine awp_loopN (fun y : Nat × (Nat → List Fi) × List AObj=>y.1 ≤ p.length ∧ BxS p rc y.2.1 y.2.2 ∧ (∀ j (h : j < p.length),j < y.1 → y.2.1 j = (boxIt p[j]).fields) ∧ (∀ j (h : j < p.length),y.1 ≤ j → y.2.1 j = p[j].fields)) (fun y=>([.any,.ptr 0 0 0,.any,.ptr 0 (12 + 6 * p.length + 1) 0,I y.1] ++ List.replicate 104 .any)) (fun y=>y.2.2 :: [[]]) (fun y=>p.length - y.1) (fun _=>14 + 6 * p.length) (0,f0,A0) ⟨Nat.zero_le _,hI0,fun j _ h=>absurd h (by simp),fun j h _=>hf1 j h⟩ (fun _ _=>Nat.le_of_eq hAl0) ?_ ⟨wkL_selfs hAk0,rfl⟩ ?_
 ·simp
  try omega
 rintro ⟨i,fs,A⟩ ⟨hi,hA,hdone,htodo⟩
 simp only at hi hA hdone htodo
 have h0:=hA.c0
 have hq:=hA.cq
 have hr:=hA.rw
 have hAl:=hA.len
 have n0 : 0 < 14 + 6 * p.length:=by omega
 have n1 : 12 + 6 * p.length + 1 < 14 + 6 * p.length:=by omega
 have n2 : 12 < 14 + 6 * p.length:=by omega
 by_cases hin : i < p.length
 ·have hin' : (i : Int) < (p.length : Int):=by omega
  have hwi:=wrap_succ hin (by unfold maxLen; omega)
  have hp1:=hpart i hin
  have hq16 : i * 16 + 16 ≤ 16 * p.length:=by omega
  have hx3 : p[i].fields.length ≤ 20000:=(hp.2 _ (List.getElem_mem hin)).2.1.1
  have n3 : 12 + 6 * i + 4 < 14 + 6 * p.length:=by omega
  have hdi:=htodo i hin (Nat.le_refl _)
  obtain ⟨x,hxi⟩ : ∃ x,p[i] = x:=⟨_,rfl⟩
  rw [hxi] at hp1 hx3 hdi
  simp [h0,hq,hr,hin,hin',hrl,hq16,hp1,itRC,hAl,-trim,-wkT]
  have hxk : ∀ N,14 + 6 * p.length ≤ N → wkL [AObj.cut N (.cells (itRC x (12 + 6 * i + 4) (12 + 6 * i + 5)) 42)] [.cells (itRC x (12 + 6 * i + 4) (12 + 6 * i + 5)) 42]:=fun N hN=>by
   show wkL [AObj.cells (AV.cuts _ (itRC x _ _)) _] _
   rw [itRC_cut (by omega) (by omega)]
   exact ⟨⟨rfl,wkR_refl _⟩,trivial⟩
  have hAx : ∀ (B : List AObj),(∀ o ∈ B,∀ N,14 + 6 * p.length ≤ N → wkL [o.cut N] [o]) → ∀ N,14 + 6 * p.length ≤ N → ∀ o ∈ (B ++ [AObj.cells (itRC x (12 + 6 * i + 4) (12 + 6 * i + 5)) 42]),wkL [o.cut N] [o]:=fun B hB N hN o ho=>by
   rcases List.mem_append.1 ho with h | h
   ·exact hB o h N hN
   ·rw [List.mem_singleton.1 h]; exact hxk N hN
  refine awp_loopN (fun y : Nat × (Nat → List Fi) × List AObj=>y.1 ≤ x.fields.length ∧ BxS p rc y.2.1 y.2.2 ∧ y.2.1 i = boxTo x y.1 ∧ (∀ j (h : j < p.length),j < i → y.2.1 j = (boxIt p[j]).fields) ∧ (∀ j (h : j < p.length),i < j → y.2.1 j = p[j].fields)) (fun y=>([.any,.ptr 0 0 0,.any,.ptr 0 (12 + 6 * p.length + 1) 0,I i,.ptr 0 (14 + 6 * p.length) 0,I y.1] ++ List.replicate 102 .any)) (fun y=>(y.2.2 ++ [AObj.cells (itRC x (12 + 6 * i + 4) (12 + 6 * i + 5)) 42]) :: [[]]) (fun y=>x.fields.length - y.1) (fun _=>15 + 6 * p.length) (0,fs,A) ⟨Nat.zero_le _,hA,by rw [boxTo_zero]; exact hdi,hdone,fun j h hij=>htodo j h (by omega)⟩ (fun _ _=>Nat.le_of_eq (show (A ++ [_]).length = _ by rw [List.length_append,hAl,List.length_singleton]; omega)) ?_ ⟨wkL_selfs (hAx A hA.keep (14 + 6 * p.length) (Nat.le_refl _)),rfl⟩ ?_
  ·simp
   try omega
  clear h0 hq hr hAl hA hdone htodo hdi fs A
  rintro ⟨k,fs,A⟩ ⟨hk,hA,hfs,hdone,htodo⟩
  simp only at hk hA hfs hdone htodo
  have hAl:=hA.len
  have hfi0:=hA.fi i hin
  have hlf:=hA.fl i hin
  rw [hxi] at hfi0 hlf
  have h0:=app_get hA.c0 [AObj.cells (itRC x (12 + 6 * i + 4) (12 + 6 * i + 5)) 42]
  have hq:=app_get hA.cq [AObj.cells (itRC x (12 + 6 * i + 4) (12 + 6 * i + 5)) 42]
  have hr:=app_get hA.rw [AObj.cells (itRC x (12 + 6 * i + 4) (12 + 6 * i + 5)) 42]
  have hfi:=app_get hfi0 [AObj.cells (itRC x (12 + 6 * i + 4) (12 + 6 * i + 5)) 42]
  have hxx:=app_last (AObj.cells (itRC x (12 + 6 * i + 4) (12 + 6 * i + 5)) 42) hAl
  have hend : wkT (trim (15 + 6 * p.length) ((A ++ [AObj.cells (itRC x (12 + 6 * i + 4) (12 + 6 * i + 5)) 42]) :: [[]])) ((A ++ [AObj.cells (itRC x (12 + 6 * i + 4) (12 + 6 * i + 5)) 42]) :: [[]]):=wkT_self (by rw [List.length_append,hAl]; simp; omega) (hAx A hA.keep (15 + 6 * p.length) (by omega))
  generalize hB : A ++ [AObj.cells (itRC x (12 + 6 * i + 4) (12 + 6 * i + 5)) 42] = B at h0 hq hr hfi hxx ⊢
  rw [hB] at hend
  simp only [itRC] at hxx
  by_cases hkl : k < x.fields.length
  ·have hkl' : (k : Int) < (x.fields.length : Int):=by omega
   have hwk:=wrap_succ hkl (by unfold maxLen; omega)
   have hg:=boxTo_get x hkl
   rw [← hfs] at hg
   have hcp:=rowC_part Fi.enc 4 (fun _=>rfl) (fs i) k _ hg
   have hcs:=rowC_set Fi.enc 4 (fun _=>rfl) (fs i) k (boxFi x.kind x.fields[k]) (by omega)
   have hsu:=boxTo_succ x hkl
   rw [← hfs] at hsu
   generalize hf : x.fields[k] = f at *
   have hcl : (rowC Fi.enc (fs i)).length = 4 * x.fields.length:=by rw [← hlf]; exact rowC_lenB (enc:=Fi.enc) (k:=4) (fun _=>rfl)
   generalize hcc : rowC Fi.enc (fs i) = cs at *
   have hb4 : k * 4 + 1 + 3 ≤ cs.length:=by omega
   have hc1 : cs[k * 4 + 1]? = some (.p (pU f.type.kind)):=part_get hcp rfl
   have hc3 : (cs.drop (k * 4 + 1)).take 3 = [.p (pU f.type.kind),.p (pS f.type.name),.p (.sl 3 (f.type.args.map Ty.enc))]:=part_drop hcp
   by_cases h3 : x.kind = 3
   ·simp [h0,hq,hr,hfi,hxx,hkl,hkl',h3,-trim,-wkT]
    have hsame : fs i = boxTo x (k + 1):=by rw [hsu,show boxFi x.kind f = f from by unfold boxFi; rw [if_neg (by omega)],set_same hg]
    exact ⟨k + 1,fs,A,⟨hkl,hA,hsame,hdone,htodo⟩,by omega,⟨by omega,hwk⟩,by rw [hB]; exact hend⟩
   ·have h3' : (x.kind != 3) = true:=by simpa using h3
    by_cases h4 : f.type.kind = 4
    ·rw [h4] at hc1 hc3
     simp [ownR_get,h0,hq,hr,hfi,hxx,hkl,hkl',h3',hc1,-trim,-wkT]
     refine awp_drawO [9] [] [] (by kernel_rfl) (by kernel_rfl) ?_
     simp [ownL,ownO,ownR_get,h0,hq,hr,hfi,hxx,hkl,hkl',hc1,hc3,hb4,-trim,-wkT]
     have hbx : boxFi x.kind f = ⟨f.name,.mk 5 emS [f.type]⟩:=by unfold boxFi; rw [if_pos ⟨h3,h4⟩]
     have hcs2 : rowC Fi.enc ((fs i).set k (boxFi x.kind f)) = ((cs.set (k * 4 + 1) (.p (pU 5))).set (k * 4 + 1 + 1) (.p (pS emS))).set (k * 4 + 1 + 1 + 1) (.p (.sl 3 [[pU 4,pS f.type.name,.sl 3 (f.type.args.map Ty.enc)]])):=by
      rw [hcs,hbx]
      have hn : (cs.drop (k * 4)).take 4 = [.p (pS f.name),.p (pU f.type.kind),.p (pS f.type.name),.p (.sl 3 (f.type.args.map Ty.enc))]:=hcp
      rw [set3 hn,← h4]
      simp [Fi.enc,Ty.kind,Ty.name,Ty.args,tyEnc]
     refine ⟨k + 1,fun j=>if j = i then (fs i).set k (boxFi x.kind f) else fs j,A.set (12 + 6 * i + 4) (.row 55 4 p[i].fields.length (rowC Fi.enc ((fs i).set k (boxFi x.kind f)))),⟨hkl,hA.set hin _ (by rw [List.length_set,hlf,hxi]),?_,fun j h hji=>?_,fun j h hij=>?_⟩,by omega,⟨by omega,hwk⟩,?_⟩
     ·simp only [if_pos]; exact hsu.symm
     ·simp only [if_neg (show ¬ j = i by omega)]; exact hdone j h hji
     ·simp only [if_neg (show ¬ j = i by omega)]; exact htodo j h hij
     ·have hA2:=hA.set hin ((fs i).set k (boxFi x.kind f)) (by rw [List.length_set,hlf,hxi])
      have hk2:=hAx _ hA2.keep (15 + 6 * p.length) (by omega)
      refine wkT_eq ?_ (by rw [List.length_append,hA2.len]; simp; omega) hk2
      rw [← hB,hcs2,List.set_append_left _ _ (by rw [hAl]; omega)]
      simp only [hxi]
    ·have h4' : (f.type.kind == 4) = false:=by simpa using h4
     simp [ownR_get,h0,hq,hr,hfi,hxx,hkl,hkl',h3',hc1,h4',-trim,-wkT]
     have hsame : fs i = boxTo x (k + 1):=by rw [hsu,show boxFi x.kind f = f from by unfold boxFi; rw [if_neg (fun h=>h4 h.2)],set_same hg]
     exact ⟨k + 1,fs,A,⟨hkl,hA,hsame,hdone,htodo⟩,by omega,⟨by omega,hwk⟩,by rw [hB]; exact hend⟩
  ·have hkl' : ¬ (k : Int) < (x.fields.length : Int):=by omega
   simp [h0,hq,hr,hxx,hkl,hkl',-trim,-wkT]
   have hkx : k = x.fields.length:=by omega
   refine ⟨i + 1,fs,A,⟨hin,hA,fun j h hj=>?_,fun j h hj=>htodo j h (by omega)⟩,by omega,⟨by omega,hwi⟩,?_⟩
   ·by_cases hji : j = i
    ·subst hji; rw [hfs,boxTo_all x (by omega),hxi]
    ·exact hdone j h (by omega)
   ·have:=wk_keep (A:=A) (B:=[AObj.cells (itRC x (12 + 6 * i + 4) (12 + 6 * i + 5)) 42]) (by rw [hAl]; exact fun o ho=>hA.keep o ho _ (Nat.le_refl _))
    rw [hAl,hB] at this
    exact ⟨this,rfl⟩
 ·have hin' : ¬ (i : Int) < (p.length : Int):=by omega
  simp [h0,hq,hr,hin,hin',-trim,-wkT]
  obtain ⟨n,a,hc1,hc2⟩:=boxed_law p hp hw
  have hal:=check_len hg hc1
  have hbl : (a.filter not71).length ≤ a.length:=List.length_filter_le _ _
  have hlent:=lent_box hA (fun q h=>by rw [hpart q h]) (fun j h=>hdone j h (by omega)) [[]]
  have kC:=fun S=>checkC p n hp a hc1 (by omega) S
  have kQ0:=checkC (p.map boxIt) n (box_sm hp) (a.filter not71) hc2 (by omega) [[]]
  have kQ:=ADet.lendAll kQ0 (.cons (LentA.agg (l:=[(.rsl 0 12 p.length 16,.sl 16 ((p.map boxIt).map It.enc))]) (fun c hc=>by rw [List.mem_singleton.1 hc]; exact hlent)) .nil)
  have hfg:=filt_get not71 a
  have hfs:=filt_succ not71 a
  have hk0 : ((a.take 0).filter not71).length = 0:=rfl
  have hkn : ((a.take a.length).filter not71).length = (a.filter not71).length:=by rw [List.take_length]
  have hlA : a.length ≤ maxLen:=by unfold maxLen; omega
  generalize hbb : a.filter not71 = b at *
  obtain ⟨K,hK⟩ : ∃ K : Nat → Nat,K = fun i=>((a.take i).filter not71).length:=⟨_,rfl⟩
  have hK0 : K 0 = 0:=by rw [hK]; rfl
  have hKn : K a.length = b.length:=by rw [hK]; exact hkn
  have hKg : ∀ i (h : i < a.length),not71 a[i] = true → b[K i]? = some a[i]:=fun i h hg=>by rw [hK]; exact hfg i h hg
  have hKs : ∀ i (h : i < a.length),K (i + 1) = K i + if not71 a[i] = true then 1 else 0:=fun i h=>by rw [hK]; exact hfs i h
  clear hfg hfs hkn hk0
  refine awp_draw [(2,1)] (by kernel_rfl) (by kernel_rfl) ?_
  simp [h0,hq,-trim,-wkT]
  refine ⟨_,_,kC _,?_⟩
  simp [h0,hq,-trim,-wkT]
  refine ⟨_,_,kQ,?_⟩
  simp [deadS,-trim,-wkT]
  refine awp_loop (fun q : Nat=>q ≤ a.length) (fun q=>([.any,.any,.any,.any,.any,.any,.any,.p (.sl 2 (a.map fltE)),.p (.sl 2 (b.map fltE)),I (K q),I q] ++ List.replicate 98 .any)) (fun _=>List.replicate A.length .dead :: [[]]) (fun q=>a.length - q) 0 (Nat.zero_le _) ?_ ?_ ?_
  ·simp [hK0]
  ·exact ⟨wkD A.length,rfl⟩
  intro q hq
  by_cases hlt : q < a.length
  ·have hlt' : (q : Int) < (a.length : Int):=by omega
   have hwq:=wrap_succ hlt hlA
   have hmu : a.length - (q + 1) < a.length - q:=by omega
   have hKq:=hKs q hlt
   have hKg':=hKg q hlt
   generalize hf : a[q] = f at *
   by_cases h71 : f.1 = 71
   ·have hn : not71 f = false:=by unfold not71; rw [h71]; rfl
    have hKe : K (q + 1) = K q:=by rw [hKq,hn]; rfl
    simp [hlt,hlt',hf,fltE,h71,-trim,-wkT]
    exact ⟨q + 1,hlt,hmu,⟨by rw [hKe],hwq⟩,wkT_self (by simp) (fun o ho=>by rw [List.eq_of_mem_replicate ho]; trivial)⟩
   ·have hn : not71 f = true:=by unfold not71; simpa using h71
    have hKe : K (q + 1) = K q + 1:=by rw [hKq,hn]; rfl
    have hb:=hKg' hn
    have hKl : K q < b.length:=(List.getElem?_eq_some_iff.1 hb).1
    have hbk : b[K q] = f:=(List.getElem?_eq_some_iff.1 hb).2
    have hKl' : ¬ (b.length : Int) ≤ (K q : Int):=by omega
    have hwk : IntKind.i64.wrap ((K q : Int) + 1) = ((K q + 1 : Nat) : Int):=wrap_succ hKl (by unfold maxLen; omega)
    have hne:=neq_op f.1 f.2 f.1 f.2
    simp only [beq_self_eq_true,Bool.and_self,Bool.not_true] at hne
    have h71' : (f.1 == 71) = false:=by simpa using h71
    simp [hlt,hlt',hf,fltE,h71,h71',-trim,-wkT]
    refine awp_draw [] (by kernel_rfl) (by kernel_rfl) ?_
    simp [hlt,hlt',hf,fltE,hKl,hKl',hbk,hne,-trim,-wkT]
    exact ⟨q + 1,hlt,hmu,⟨by rw [hKe]; exact hwk,hwq⟩,wkT_self (by simp) (fun o ho=>by rw [List.eq_of_mem_replicate ho]; trivial)⟩
  ·have hlt' : ¬ (q : Int) < (a.length : Int):=by omega
   have hqe : q = a.length:=by omega
   subst hqe
   simp [hlt',hKn,-trim,-wkT]
end Go.Proofs.YtlclonljdagpkaaGreatDoor
