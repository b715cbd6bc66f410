/- A part of the proof. The statement is proved in the claim's last text. -/
import Derived.Test.YtfbpibkpmcceaaaGreatDoorYNQm
import Derived.Test.YtfbpibkpmcceaaaGreatDoorYNQn
import Derived.Test.YtfbpibkpmcceaaaGreatDoorYNPg
import Derived.Test.YtfbpibkpmcceaaaGreatDoorYNQk
import Derived.Test.YtfbpibkpmcceaaaGreatDoorYNQo
set_option linter.unusedVariables false
set_option linter.unusedSimpArgs false
set_option maxRecDepth 100000
set_option maxHeartbeats 32000000
namespace Go.Proofs.YtfbpibkpmcceaaaGreatDoor
open Go.RowKit
attribute [local simp] List.replicate List.range List.range.loop resA resOne retA AV.cuts AV.cut AObj.cut trim wkR wkT wkL wkN wkNR wkNL wkM wkMR wkML virtL virtO virt_get markL markO markR_get rowA awpI_nil awpI_cons List.forall_mem_cons List.contains_cons List.contains_nil List.find? nextD_eq awpD_nil awpD_cons LCp LCl refL
theorem checkB (p : List It) (hg : great p = false) : ∃ c : Nat,∀ (L : List AObj),wkL L L → ∀ (R : ASt),ADet Tryz.prog 11 [.agg [.p (prog p)]] (L :: R) (.rsl 0 (L.length + c) (checkN p).length 2) ((L ++ (List.replicate c .dead ++ [rwO (checkN p)])) :: R):=by
 cases hw : prWhole p with
 | true=>exact ⟨4,fun L hL R=>checkW p hg hw L hL R⟩
 | false=>exact ⟨1,fun L hL R=>checkZ p hg hw L hL R⟩
theorem fl_get : ∀ (l : List Flt) (i : Nat) (h : i < l.length),(rowC fltE l)[i * 2]? = some (I l[i].1) ∧ (rowC fltE l)[i * 2 + 1]? = some (I l[i].2)
 | e :: l,0,h=>⟨rfl,rfl⟩
 | e :: l,i + 1,h=>by
  have:=fl_get l i (by simpa using h)
  have e1 : (i + 1) * 2 = i * 2 + 1 + 1:=by omega
  have e2 : ∀ (x : Flt) (m : List Flt),rowC fltE (x :: m) = I x.1 :: I x.2 :: rowC fltE m:=fun _ _=>rfl
  rw [e2,e1]
  exact this
theorem namesPlacesO (hAw : ∀ S : ASt,ADet Tryz.prog 14 [] S (B true) S) (p : List It) (S : ASt) : ADet Tryz.prog 5 [.agg [.p (prog p)]] S (B true) S:=by
 refine ADet.intro mixed Tryz.call5 Tryz.func5 rfl ?_
 simp [Tryz.ntmps5]
 refine ⟨_,_,hAw _,?_⟩
 simp
 refine ⟨_,_,greatC _ p,?_⟩
 cases hg : great p with
 | true=>simp
 | false =>
  have hsm:=pr_sm hg
  have hg2 : great (p.map (It.atm noAt)) = false:=by rw [great_atm]; exact hg
  obtain ⟨c1,hC1⟩:=checkB p hg
  obtain ⟨c2,hC2⟩:=checkB _ hg2
  have eC:=fun S=>erasePC p hsm S
  have hpl:=check_placed p
  have her : checkN (p.map (It.atm noAt)) = (checkN p).map fun f=>(f.1,0):=check_erase p
  have hpC:=fun a S=>placedPC a p hsm S
  rw [her,List.length_map] at hC2
  have hle : (checkN p).length ≤ 20001:=by
   have h1:=itemsN_len p p 0 []
   have h2:=pr_nd hg
   have h3:=wrongN_len (mainB p mainS) 62 0
   unfold checkN
   split
   ·rw [List.length_append]
    simp only [List.length_nil] at h1
    omega
   ·simp
  generalize checkN p = F at *
  have hlF : F.length ≤ maxLen:=by unfold maxLen; omega
  simp
  refine awp_draw [(2,1)] (by kernel_rfl) (by kernel_rfl) ?_
  simp
  have hbk : wkL [AObj.cells [.p (prog p)] 24] [AObj.cells [.p (prog p)] 24]:=⟨⟨rfl,wkR_refl _⟩,trivial⟩
  refine ⟨_,_,hC1 [.cells [.p (prog p)] 24] hbk _,?_⟩
  simp [-trim,-wkT]
  refine ⟨_,_,eC _,?_⟩
  simp [-trim,-wkT]
  refine ⟨_,_,hC2 _ ?_ _,?_⟩
  ·refine ⟨⟨rfl,wkR_refl _⟩,?_⟩
   exact wkL_selfs (m:=0) fun o ho=>by
    rcases List.mem_append.1 ho with h | h
    ·rw [List.eq_of_mem_replicate h]; trivial
    ·rw [List.mem_singleton.1 h,rwO_cut]; exact ⟨⟨⟨rfl,rfl,rfl⟩,wkR_refl _⟩,trivial⟩
  simp [-trim,-wkT]
  obtain ⟨F0,hF0⟩ : ∃ F0 : List Flt,F0 = F.map fun f=>(f.1,0):=⟨_,rfl⟩
  have hl0 : F0.length = F.length:=by rw [hF0,List.length_map]
  rw [← hF0]
  obtain ⟨D1,hD1⟩ : ∃ D,D = List.replicate c1 AObj.dead:=⟨_,rfl⟩
  obtain ⟨D2,hD2⟩ : ∃ D,D = List.replicate c2 AObj.dead:=⟨_,rfl⟩
  have hd1 : D1.length = c1:=by rw [hD1,List.length_replicate]
  have hd2 : D2.length = c2:=by rw [hD2,List.length_replicate]
  rw [← hD1,← hD2]
  have hFk : ∀ (fl : List Flt) (m : Nat),wkL [(rwO fl).cut m] [rwO fl]:=fun fl m=>by rw [rwO_cut]; exact ⟨⟨⟨rfl,rfl,rfl⟩,wkR_refl _⟩,trivial⟩
  obtain ⟨M,hM⟩ : ∃ M,M = (AObj.cells [.p (prog p)] 24 :: (D1 ++ rwO F :: (D2 ++ [rwO F0]))):=⟨_,rfl⟩
  have hMk : ∀ o ∈ M,∀ m,wkL [o.cut m] [o]:=fun o ho m=>by
   rw [hM] at ho
   simp only [List.mem_cons,List.mem_append,List.not_mem_nil,or_false] at ho
   rcases ho with rfl | ho | rfl | ho | rfl
   ·exact ⟨⟨rfl,wkR_refl _⟩,trivial⟩
   ·rw [hD1] at ho; rw [List.eq_of_mem_replicate ho]; trivial
   ·exact hFk F m
   ·rw [hD2] at ho; rw [List.eq_of_mem_replicate ho]; trivial
   ·exact hFk F0 m
  have hM0 : M[0]? = some (.cells [.p (prog p)] 24):=by rw [hM]; rfl
  have hMa : M[1 + c1]? = some (.row 32 2 F.length (rowC fltE F)):=by
   rw [hM,Nat.add_comm,List.getElem?_cons_succ,List.getElem?_append_right (by omega),hd1,Nat.sub_self]; rfl
  have hMb : M[c1 + 1 + 1 + c2]? = some (.row 32 2 F.length (rowC fltE F0)):=by
   rw [hM,show c1 + 1 + 1 + c2 = (c1 + (c2 + 1)) + 1 by omega,List.getElem?_cons_succ,List.getElem?_append_right (by omega),hd1,show c1 + (c2 + 1) - c1 = c2 + 1 by omega,List.getElem?_cons_succ,List.getElem?_append_right (by omega),hd2,Nat.sub_self,← hl0]
   rfl
  have hA1:=(List.getElem?_eq_some_iff.1 hMa).1
  have hB1:=(List.getElem?_eq_some_iff.1 hMb).1
  have hMne : ¬ M = []:=fun h=>by rw [h] at hA1; simp at hA1
  rw [← hM]
  clear hM hC1 hC2
  refine awp_loop (fun q : Nat=>q ≤ F.length) (fun q=>([.any,.ptr 0 0 0,B false,.rsl 0 (1 + c1) F.length 2,.rsl 0 (c1 + 1 + 1 + c2) F.length 2,I q] ++ List.replicate 57 .any)) (fun _=>M :: S) (fun q=>F.length - q) 0 (Nat.zero_le _) ?_ ?_ ?_
  ·simp
  ·exact ⟨wkL_selfs (m:=0) fun o ho=>hMk o ho 0,rfl⟩
  intro q hq
  by_cases hlt : q < F.length
  ·have hlt' : (q : Int) < (F.length : Int):=by omega
   have hw:=wrap_succ hlt hlF
   have hmu : F.length - (q + 1) < F.length - q:=by omega
   obtain ⟨g1,g2⟩:=fl_get F q hlt
   obtain ⟨g3,g4⟩:=fl_get F0 q (by omega)
   have e0 : ∀ h,(F0[q]'h) = (F[q].1,0):=fun h=>by subst hF0; rw [List.getElem_map]
   rw [e0] at g3 g4
   have hpf:=hpl _ (List.getElem_mem hlt)
   have hr1:=fl_len F
   have hr2:=fl_len F0
   rw [hl0] at hr2
   have hb1 : q * 2 + 1 ≤ F.length * 2:=by omega
   have hb2 : q * 2 + 1 + 1 ≤ F.length * 2:=by omega
   have hb3 : q * 2 + 2 ≤ F.length * 2:=by omega
   have hb4 : q * 2 < F.length * 2:=by omega
   generalize hf : F[q] = f at *
   generalize rowC fltE F = r1 at *
   generalize rowC fltE F0 = r2 at *
   simp only at g3 g4
   have hself:=fun N (h : M.length = N)=>wkT_self (S:=S) h fun o ho=>hMk o ho N
   by_cases hz : f.2 = 0
   ·rw [hz] at g2
    simp [hlt,hlt',-trim,-wkT]
    refine awp_draw [] (by kernel_rfl) (by kernel_rfl) ?_
    simp [hlt,hlt',hMa,hMb,g1,g2,g3,g4,-trim,-wkT]
    exact ⟨q + 1,hlt,hmu,⟨hMne,hA1,hB1,hw⟩,hself _ rfl⟩
   ·have hz' : (f.2 != 0) = true:=by simpa using hz
    have hpt : placedP p f.2 = true:=by rcases hpf with h | h; exact absurd h hz; exact h
    have hpC2:=fun S=>hpC f.2 S
    rw [hpt] at hpC2
    simp [hlt,hlt',-trim,-wkT]
    refine awp_draw [] (by kernel_rfl) (by kernel_rfl) ?_
    simp [hlt,hlt',hM0,hMa,hMb,g1,g2,g3,g4,hz,hz',-trim,-wkT]
    refine ⟨_,_,hpC2 _,?_⟩
    simp [hM0,hMa,hMb,g1,g2,g3,g4,hz,hz',-trim,-wkT]
    exact ⟨q + 1,hlt,hmu,⟨hMne,hA1,hB1,hw⟩,hself _ rfl⟩
  ·have hlt' : ¬ (q : Int) < (F.length : Int):=by omega
   simp [hlt,hlt']
end Go.Proofs.YtfbpibkpmcceaaaGreatDoor
namespace Go.Proofs.YtfbpibkpmcceaaaGreatDoor
open Go.RowKit
theorem namesPlacesC (p : List It) (S : ASt) : ADet Tryz.prog 5 [.agg [.p (prog p)]] S (B true) S:=namesPlacesO awake06C p S
end Go.Proofs.YtfbpibkpmcceaaaGreatDoor
