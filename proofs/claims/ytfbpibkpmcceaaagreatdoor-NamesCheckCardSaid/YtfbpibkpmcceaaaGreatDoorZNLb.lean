/- A part of the proof. The statement is proved in the claim's last text. -/
import Derived.Test.YtfbpibkpmcceaaaGreatDoorZMRs
set_option linter.unusedVariables false
set_option linter.unusedSimpArgs false
set_option maxRecDepth 100000
set_option maxHeartbeats 32000000
namespace Go.Proofs.YtfbpibkpmcceaaaGreatDoor
open Go.RowKit
attribute [local simp] List.replicate List.range List.range.loop resA resOne retA AV.cuts AV.cut AObj.cut trim wkR wkT wkL wkN wkNR wkNL wkM wkMR wkML
theorem labKA (f : ByteArray) (hf : f.size ≤ 20000) (c110 : hasB f 110 = true) (c116 : hasB f 116 = false) (c115 : hasB f 115 = false) (c121 : hasB f 121 = false) (c78 : hasB f 78 = false) (c84 : hasB f 84 = false) (c112 : hasB f 112 = false)
  (s : St) (hsm : StSm s) (d : Int) (hd1 : -1 ≤ d - 1) (hd2 : d ≤ 1000) (S : ASt) : ADet Tryz.prog 185 [stmV s,Sg f,I d] S (B (labR true false false false false false false s d)) S:=by
 obtain ⟨_,hn0,hs2,hnm,hty,hpl,_,_,_,_,_,_,_,_⟩:=hsm
 have hc:=fun (c : Int) S=>hasC f hf c S
 have g1:=fun S=>rnameC s.name (sm_max hn0) S
 have g2:=fun S=>rtypeC s.name (sm_max hn0) S
 have g3:=fun S=>rnameC s.second (sm_max hs2) S
 have g4:=fun S=>rtypeC s.second (sm_max hs2) S
 have g5:=fun S=>rTypeC s.type hty (d - 1) S (by omega) (by omega)
 have g6:=fun S=>r3ZeroTyC s.type S
 have g7:=fun S=>rPlaceC s.place hpl S
 have hlen : s.names.length ≤ maxLen:=sm_max hnm.1
 have hwd:=wrd d (by omega)
 generalize hR : labR true false false false false false false s d = R
 refine ADet.intro mixed Tryz.call185 Tryz.func185 rfl ?_
 simp [Tryz.ntmps185]
 refine ⟨_,_,hc 110 _,?_⟩
 simp [c110,c116,c115,c121,c78,c84,c112]
 refine ⟨_,_,g1 _,?_⟩
 cases h1 : nameB s.name with
 | false =>
  have e : R = false:=by rw [← hR]; simp [labR,h1]
  simp [c110,c116,c115,c121,c78,c84,c112,h1,e]
 | true =>
  simp [c110,c116,c115,c121,c78,c84,c112,h1]
  refine ⟨_,_,hc 116 _,?_⟩
  simp [c110,c116,c115,c121,c78,c84,c112,h1]
  refine ⟨_,_,hc 110 _,?_⟩
  simp [c110,c116,c115,c121,c78,c84,c112,h1]
  refine ⟨_,_,hc 115 _,?_⟩
  simp [c110,c116,c115,c121,c78,c84,c112,h1]
  refine ⟨_,_,hc 121 _,?_⟩
  simp [c110,c116,c115,c121,c78,c84,c112,h1]
  refine ⟨_,_,hc 115 _,?_⟩
  simp [c110,c116,c115,c121,c78,c84,c112,h1]
  refine ⟨_,_,hc 121 _,?_⟩
  cases h2 : sEq s.second emS with
  | false =>
   have e : R = false:=by rw [← hR]; simp [labR,h1,h2]
   simp [c110,c116,c115,c121,c78,c84,c112,h1,h2,e]
  | true =>
   simp [c110,c116,c115,c121,c78,c84,c112,h1,h2]
   refine ⟨_,_,hc 78 _,?_⟩
   rcases (Nat.eq_zero_or_pos s.names.length).symm with h6 | h6z
   ·have h6' : ¬ s.names.length = 0:=by omega
    have h6'' : s.names ≠ []:=fun e=>h6' (by rw [e]; rfl)
    have e : R = false:=by rw [← hR]; simp [labR,h1,h2,h6,h6',h6'']
    simp [c110,c116,c115,c121,c78,c84,c112,h1,h2,strs,h6,h6',h6'',e]
   have hnl : s.names = []:=List.eq_nil_of_length_eq_zero h6z
   simp [c110,c116,c115,c121,c78,c84,c112,h1,h2,strs,hnl]
   refine awp_loop (fun q : Nat=>q = 0) (fun q=>([.any,Sg f,I d,.ptr 0 0 0,.any,.any,.any,I 0] ++ List.replicate 138 .any)) (fun q=>[.cells [U s.op,Sg s.name,Sg s.second,.p (.sl 1 []),U s.type.kind,Sg s.type.name,.p (.sl 3 (s.type.args.map Ty.enc)),I s.int,Sg s.place.name,.p (strs s.place.path),.p (.sl 8 (s.exprs.map Ex.enc)),.p (.sl 15 (s.body.map St.enc)),.p (.sl 15 (s.els.map St.enc)),.p (.sl 3 (s.arms.map Ar.enc)),I s.pos] 60] :: S) (fun q=>0) 0 rfl ?_ ?_ ?_
   ·simp
   ·simp [strs]
   rintro q rfl
   simp [strs]
   refine ⟨_,_,hc 84 _,?_⟩
   cases h3 : (s.int == 0) with
   | false =>
    have h3n : (s.int != 0) = true:=by simp only [bne,h3,Bool.not_false]
    have e : R = false:=by rw [← hR]; simp [labR,h1,h2,hnl,h3,h3n]
    simp [c110,c116,c115,c121,c78,c84,c112,h1,h2,strs,h3,h3n,e]
   | true =>
    have h3n : (s.int != 0) = false:=by simp only [bne,h3,Bool.not_true]
    simp [c110,c116,c115,c121,c78,c84,c112,h1,h2,strs,h3,h3n]
    refine ⟨_,_,g6 _,?_⟩
    cases h5 : zeroTyB s.type with
    | false =>
     have e : R = false:=by rw [← hR]; simp [labR,h1,h2,hnl,h3,h5]
     simp [c110,c116,c115,c121,c78,c84,c112,h1,h2,strs,h3,h3n,h5,e]
    | true =>
     simp [c110,c116,c115,c121,c78,c84,c112,h1,h2,strs,h3,h3n,h5]
     refine ⟨_,_,hc 112 _,?_⟩
     have e : R = (sEq s.place.name emS && decide (s.place.path.length = 0)):=by rw [← hR]; simp [labR,noPlB,h1,h2,hnl,h3,h5]
     rw [e]
     cases h7 : sEq s.place.name emS with
     | false=>simp [c110,c116,c115,c121,c78,c84,c112,h1,h2,strs,h3,h3n,h5,h7]
     | true=>simp [c110,c116,c115,c121,c78,c84,c112,h1,h2,strs,h3,h3n,h5,h7]
theorem labKB (f : ByteArray) (hf : f.size ≤ 20000) (c110 : hasB f 110 = false) (c116 : hasB f 116 = true) (c115 : hasB f 115 = false) (c121 : hasB f 121 = false) (c78 : hasB f 78 = true) (c84 : hasB f 84 = false) (c112 : hasB f 112 = false)
  (s : St) (hsm : StSm s) (d : Int) (hd1 : -1 ≤ d - 1) (hd2 : d ≤ 1000) (S : ASt) : ADet Tryz.prog 185 [stmV s,Sg f,I d] S (B (labR false true false false true false false s d)) S:=by
 obtain ⟨_,hn0,hs2,hnm,hty,hpl,_,_,_,_,_,_,_,_⟩:=hsm
 have hc:=fun (c : Int) S=>hasC f hf c S
 have g1:=fun S=>rnameC s.name (sm_max hn0) S
 have g2:=fun S=>rtypeC s.name (sm_max hn0) S
 have g3:=fun S=>rnameC s.second (sm_max hs2) S
 have g4:=fun S=>rtypeC s.second (sm_max hs2) S
 have g5:=fun S=>rTypeC s.type hty (d - 1) S (by omega) (by omega)
 have g6:=fun S=>r3ZeroTyC s.type S
 have g7:=fun S=>rPlaceC s.place hpl S
 have hlen : s.names.length ≤ maxLen:=sm_max hnm.1
 have hwd:=wrd d (by omega)
 generalize hR : labR false true false false true false false s d = R
 refine ADet.intro mixed Tryz.call185 Tryz.func185 rfl ?_
 simp [Tryz.ntmps185]
 refine ⟨_,_,hc 110 _,?_⟩
 simp [c110,c116,c115,c121,c78,c84,c112]
 refine ⟨_,_,hc 116 _,?_⟩
 simp [c110,c116,c115,c121,c78,c84,c112]
 refine ⟨_,_,g2 _,?_⟩
 cases h1 : typeB s.name with
 | false =>
  have e : R = false:=by rw [← hR]; simp [labR,h1]
  simp [c110,c116,c115,c121,c78,c84,c112,h1,e]
 | true =>
  simp [c110,c116,c115,c121,c78,c84,c112,h1]
  refine ⟨_,_,hc 110 _,?_⟩
  simp [c110,c116,c115,c121,c78,c84,c112,h1]
  refine ⟨_,_,hc 116 _,?_⟩
  simp [c110,c116,c115,c121,c78,c84,c112,h1]
  refine ⟨_,_,hc 115 _,?_⟩
  simp [c110,c116,c115,c121,c78,c84,c112,h1]
  refine ⟨_,_,hc 121 _,?_⟩
  simp [c110,c116,c115,c121,c78,c84,c112,h1]
  refine ⟨_,_,hc 115 _,?_⟩
  simp [c110,c116,c115,c121,c78,c84,c112,h1]
  refine ⟨_,_,hc 121 _,?_⟩
  cases h2 : sEq s.second emS with
  | false =>
   have e : R = false:=by rw [← hR]; simp [labR,h1,h2]
   simp [c110,c116,c115,c121,c78,c84,c112,h1,h2,e]
  | true =>
   simp [c110,c116,c115,c121,c78,c84,c112,h1,h2]
   refine ⟨_,_,hc 78 _,?_⟩
   by_cases h6 : ¬ s.names.length ≤ 6
   ·have h6' : (6 : Int) < s.names.length:=by omega
    have h6n : ¬ (s.names.length : Int) ≤ 6:=by omega
    have e : R = false:=by rw [← hR]; simp [labR,h1,h2,h6,h6',h6n]
    simp [c110,c116,c115,c121,c78,c84,c112,h1,h2,strs,h6,h6',h6n,e]
   have h6 : s.names.length ≤ 6:=Decidable.not_not.1 h6
   have h6' : ¬ (6 : Int) < s.names.length:=by omega
   have h6n : (s.names.length : Int) ≤ 6:=by omega
   simp [c110,c116,c115,c121,c78,c84,c112,h1,h2,strs,h6',h6n]
   refine awp_loop (fun q : Nat=>q ≤ s.names.length ∧ ∀ i (hi : i < s.names.length),i < q → nameB s.names[i] = true) (fun q=>([.any,Sg f,I d,.ptr 0 0 0,.any,.any,.any,I q] ++ List.replicate 138 .any)) (fun q=>[.cells (stU s) 60] :: S) (fun q=>s.names.length - q) 0 ⟨Nat.zero_le _,fun i hi h=>by omega⟩ ?_ ?_ ?_
   ·simp
   ·simp [strs]
   rintro q ⟨hq,hall⟩
   by_cases hlt : q < s.names.length
   ·have hnx : ∀ x,s.names[q] = x → nameB x = true → ∀ i (hi : i < s.names.length),i < q + 1 → nameB s.names[i] = true:=fun x hs hb i hi h=>by
     rcases Nat.lt_or_ge i q with h' | h'
     ·exact hall i hi h'
     ·obtain rfl : i = q:=by omega
      rw [hs]; exact hb
    have hno : ∀ x,s.names[q] = x → nameB x = false → s.names.all nameB = false:=fun x hs hb=>by
     rw [List.all_eq_false]
     exact ⟨x,by rw [← hs]; exact List.getElem_mem hlt,by simp [hb]⟩
    have hsz:=hnm.2 s.names[q] (List.getElem_mem hlt)
    generalize hx : s.names[q] = x at *
    simp [strs,hlt,hx]
    refine ⟨_,_,rnameC x (sm_max hsz) _,?_⟩
    cases hb : nameB x with
    | false =>
     have h0:=hno x rfl hb
     have e : R = false:=by rw [← hR]; simp only [labR,h0,Bool.false_and,Bool.and_false]
     simp [hb,e]
    | true =>
     simp [hb,strs]
     exact ⟨q + 1,⟨hlt,hnx x rfl hb⟩,by omega,wrap_succ hlt⟩
   have ha : s.names.all nameB = true:=by
    rw [List.all_eq_true]
    intro x hx
    obtain ⟨i,hi,rfl⟩:=List.mem_iff_getElem.1 hx
    exact hall i hi (by omega)
   simp [strs,hlt]
   refine ⟨_,_,hc 84 _,?_⟩
   cases h3 : (s.int == 0) with
   | false =>
    have h3n : (s.int != 0) = true:=by simp only [bne,h3,Bool.not_false]
    have e : R = false:=by rw [← hR]; simp [labR,h1,h2,ha,h6,h3,h3n]
    simp [c110,c116,c115,c121,c78,c84,c112,h1,h2,strs,h3,h3n,e]
   | true =>
    have h3n : (s.int != 0) = false:=by simp only [bne,h3,Bool.not_true]
    simp [c110,c116,c115,c121,c78,c84,c112,h1,h2,strs,h3,h3n]
    refine ⟨_,_,g6 _,?_⟩
    cases h5 : zeroTyB s.type with
    | false =>
     have e : R = false:=by rw [← hR]; simp [labR,h1,h2,ha,h6,h3,h5]
     simp [c110,c116,c115,c121,c78,c84,c112,h1,h2,strs,h3,h3n,h5,e]
    | true =>
     simp [c110,c116,c115,c121,c78,c84,c112,h1,h2,strs,h3,h3n,h5]
     refine ⟨_,_,hc 112 _,?_⟩
     have e : R = (sEq s.place.name emS && decide (s.place.path.length = 0)):=by rw [← hR]; simp [labR,noPlB,h1,h2,ha,h6,h3,h5]
     rw [e]
     cases h7 : sEq s.place.name emS with
     | false=>simp [c110,c116,c115,c121,c78,c84,c112,h1,h2,strs,h3,h3n,h5,h7]
     | true=>simp [c110,c116,c115,c121,c78,c84,c112,h1,h2,strs,h3,h3n,h5,h7]
theorem labKC (f : ByteArray) (hf : f.size ≤ 20000) (c110 : hasB f 110 = false) (c116 : hasB f 116 = false) (c115 : hasB f 115 = false) (c121 : hasB f 121 = false) (c78 : hasB f 78 = false) (c84 : hasB f 84 = false) (c112 : hasB f 112 = true)
  (s : St) (hsm : StSm s) (d : Int) (hd1 : -1 ≤ d - 1) (hd2 : d ≤ 1000) (S : ASt) : ADet Tryz.prog 185 [stmV s,Sg f,I d] S (B (labR false false false false false false true s d)) S:=by
 obtain ⟨_,hn0,hs2,hnm,hty,hpl,_,_,_,_,_,_,_,_⟩:=hsm
 have hc:=fun (c : Int) S=>hasC f hf c S
 have g1:=fun S=>rnameC s.name (sm_max hn0) S
 have g2:=fun S=>rtypeC s.name (sm_max hn0) S
 have g3:=fun S=>rnameC s.second (sm_max hs2) S
 have g4:=fun S=>rtypeC s.second (sm_max hs2) S
 have g5:=fun S=>rTypeC s.type hty (d - 1) S (by omega) (by omega)
 have g6:=fun S=>r3ZeroTyC s.type S
 have g7:=fun S=>rPlaceC s.place hpl S
 have hlen : s.names.length ≤ maxLen:=sm_max hnm.1
 have hwd:=wrd d (by omega)
 generalize hR : labR false false false false false false true s d = R
 refine ADet.intro mixed Tryz.call185 Tryz.func185 rfl ?_
 simp [Tryz.ntmps185]
 refine ⟨_,_,hc 110 _,?_⟩
 simp [c110,c116,c115,c121,c78,c84,c112]
 refine ⟨_,_,hc 116 _,?_⟩
 simp [c110,c116,c115,c121,c78,c84,c112]
 refine ⟨_,_,hc 110 _,?_⟩
 simp [c110,c116,c115,c121,c78,c84,c112]
 refine ⟨_,_,hc 116 _,?_⟩
 cases h1 : sEq s.name emS with
 | false =>
  have e : R = false:=by rw [← hR]; simp [labR,h1]
  simp [c110,c116,c115,c121,c78,c84,c112,h1,e]
 | true =>
  simp [c110,c116,c115,c121,c78,c84,c112,h1]
  refine ⟨_,_,hc 115 _,?_⟩
  simp [c110,c116,c115,c121,c78,c84,c112,h1]
  refine ⟨_,_,hc 121 _,?_⟩
  simp [c110,c116,c115,c121,c78,c84,c112,h1]
  refine ⟨_,_,hc 115 _,?_⟩
  simp [c110,c116,c115,c121,c78,c84,c112,h1]
  refine ⟨_,_,hc 121 _,?_⟩
  cases h2 : sEq s.second emS with
  | false =>
   have e : R = false:=by rw [← hR]; simp [labR,h1,h2]
   simp [c110,c116,c115,c121,c78,c84,c112,h1,h2,e]
  | true =>
   simp [c110,c116,c115,c121,c78,c84,c112,h1,h2]
   refine ⟨_,_,hc 78 _,?_⟩
   rcases (Nat.eq_zero_or_pos s.names.length).symm with h6 | h6z
   ·have h6' : ¬ s.names.length = 0:=by omega
    have h6'' : s.names ≠ []:=fun e=>h6' (by rw [e]; rfl)
    have e : R = false:=by rw [← hR]; simp [labR,h1,h2,h6,h6',h6'']
    simp [c110,c116,c115,c121,c78,c84,c112,h1,h2,strs,h6,h6',h6'',e]
   have hnl : s.names = []:=List.eq_nil_of_length_eq_zero h6z
   simp [c110,c116,c115,c121,c78,c84,c112,h1,h2,strs,hnl]
   refine awp_loop (fun q : Nat=>q = 0) (fun q=>([.any,Sg f,I d,.ptr 0 0 0,.any,.any,.any,I 0] ++ List.replicate 138 .any)) (fun q=>[.cells [U s.op,Sg s.name,Sg s.second,.p (.sl 1 []),U s.type.kind,Sg s.type.name,.p (.sl 3 (s.type.args.map Ty.enc)),I s.int,Sg s.place.name,.p (strs s.place.path),.p (.sl 8 (s.exprs.map Ex.enc)),.p (.sl 15 (s.body.map St.enc)),.p (.sl 15 (s.els.map St.enc)),.p (.sl 3 (s.arms.map Ar.enc)),I s.pos] 60] :: S) (fun q=>0) 0 rfl ?_ ?_ ?_
   ·simp
   ·simp [strs]
   rintro q rfl
   simp [strs]
   refine ⟨_,_,hc 84 _,?_⟩
   cases h3 : (s.int == 0) with
   | false =>
    have h3n : (s.int != 0) = true:=by simp only [bne,h3,Bool.not_false]
    have e : R = false:=by rw [← hR]; simp [labR,h1,h2,hnl,h3,h3n]
    simp [c110,c116,c115,c121,c78,c84,c112,h1,h2,strs,h3,h3n,e]
   | true =>
    have h3n : (s.int != 0) = false:=by simp only [bne,h3,Bool.not_true]
    simp [c110,c116,c115,c121,c78,c84,c112,h1,h2,strs,h3,h3n]
    refine ⟨_,_,g6 _,?_⟩
    cases h5 : zeroTyB s.type with
    | false =>
     have e : R = false:=by rw [← hR]; simp [labR,h1,h2,hnl,h3,h5]
     simp [c110,c116,c115,c121,c78,c84,c112,h1,h2,strs,h3,h3n,h5,e]
    | true =>
     simp [c110,c116,c115,c121,c78,c84,c112,h1,h2,strs,h3,h3n,h5]
     refine ⟨_,_,hc 112 _,?_⟩
     have e : R = s.place.whole:=by rw [← hR]; simp [labR,h1,h2,hnl,h3,h5]
     rw [e]
     simp [c110,c116,c115,c121,c78,c84,c112,h1,h2,strs,h3,h3n,h5]
     refine ⟨_,_,g7 _,?_⟩
     simp
theorem labKD (f : ByteArray) (hf : f.size ≤ 20000) (c110 : hasB f 110 = false) (c116 : hasB f 116 = false) (c115 : hasB f 115 = false) (c121 : hasB f 121 = false) (c78 : hasB f 78 = false) (c84 : hasB f 84 = false) (c112 : hasB f 112 = false)
  (s : St) (hsm : StSm s) (d : Int) (hd1 : -1 ≤ d - 1) (hd2 : d ≤ 1000) (S : ASt) : ADet Tryz.prog 185 [stmV s,Sg f,I d] S (B (labR false false false false false false false s d)) S:=by
 obtain ⟨_,hn0,hs2,hnm,hty,hpl,_,_,_,_,_,_,_,_⟩:=hsm
 have hc:=fun (c : Int) S=>hasC f hf c S
 have g1:=fun S=>rnameC s.name (sm_max hn0) S
 have g2:=fun S=>rtypeC s.name (sm_max hn0) S
 have g3:=fun S=>rnameC s.second (sm_max hs2) S
 have g4:=fun S=>rtypeC s.second (sm_max hs2) S
 have g5:=fun S=>rTypeC s.type hty (d - 1) S (by omega) (by omega)
 have g6:=fun S=>r3ZeroTyC s.type S
 have g7:=fun S=>rPlaceC s.place hpl S
 have hlen : s.names.length ≤ maxLen:=sm_max hnm.1
 have hwd:=wrd d (by omega)
 generalize hR : labR false false false false false false false s d = R
 refine ADet.intro mixed Tryz.call185 Tryz.func185 rfl ?_
 simp [Tryz.ntmps185]
 refine ⟨_,_,hc 110 _,?_⟩
 simp [c110,c116,c115,c121,c78,c84,c112]
 refine ⟨_,_,hc 116 _,?_⟩
 simp [c110,c116,c115,c121,c78,c84,c112]
 refine ⟨_,_,hc 110 _,?_⟩
 simp [c110,c116,c115,c121,c78,c84,c112]
 refine ⟨_,_,hc 116 _,?_⟩
 cases h1 : sEq s.name emS with
 | false =>
  have e : R = false:=by rw [← hR]; simp [labR,h1]
  simp [c110,c116,c115,c121,c78,c84,c112,h1,e]
 | true =>
  simp [c110,c116,c115,c121,c78,c84,c112,h1]
  refine ⟨_,_,hc 115 _,?_⟩
  simp [c110,c116,c115,c121,c78,c84,c112,h1]
  refine ⟨_,_,hc 121 _,?_⟩
  simp [c110,c116,c115,c121,c78,c84,c112,h1]
  refine ⟨_,_,hc 115 _,?_⟩
  simp [c110,c116,c115,c121,c78,c84,c112,h1]
  refine ⟨_,_,hc 121 _,?_⟩
  cases h2 : sEq s.second emS with
  | false =>
   have e : R = false:=by rw [← hR]; simp [labR,h1,h2]
   simp [c110,c116,c115,c121,c78,c84,c112,h1,h2,e]
  | true =>
   simp [c110,c116,c115,c121,c78,c84,c112,h1,h2]
   refine ⟨_,_,hc 78 _,?_⟩
   rcases (Nat.eq_zero_or_pos s.names.length).symm with h6 | h6z
   ·have h6' : ¬ s.names.length = 0:=by omega
    have h6'' : s.names ≠ []:=fun e=>h6' (by rw [e]; rfl)
    have e : R = false:=by rw [← hR]; simp [labR,h1,h2,h6,h6',h6'']
    simp [c110,c116,c115,c121,c78,c84,c112,h1,h2,strs,h6,h6',h6'',e]
   have hnl : s.names = []:=List.eq_nil_of_length_eq_zero h6z
   simp [c110,c116,c115,c121,c78,c84,c112,h1,h2,strs,hnl]
   refine awp_loop (fun q : Nat=>q = 0) (fun q=>([.any,Sg f,I d,.ptr 0 0 0,.any,.any,.any,I 0] ++ List.replicate 138 .any)) (fun q=>[.cells [U s.op,Sg s.name,Sg s.second,.p (.sl 1 []),U s.type.kind,Sg s.type.name,.p (.sl 3 (s.type.args.map Ty.enc)),I s.int,Sg s.place.name,.p (strs s.place.path),.p (.sl 8 (s.exprs.map Ex.enc)),.p (.sl 15 (s.body.map St.enc)),.p (.sl 15 (s.els.map St.enc)),.p (.sl 3 (s.arms.map Ar.enc)),I s.pos] 60] :: S) (fun q=>0) 0 rfl ?_ ?_ ?_
   ·simp
   ·simp [strs]
   rintro q rfl
   simp [strs]
   refine ⟨_,_,hc 84 _,?_⟩
   cases h3 : (s.int == 0) with
   | false =>
    have h3n : (s.int != 0) = true:=by simp only [bne,h3,Bool.not_false]
    have e : R = false:=by rw [← hR]; simp [labR,h1,h2,hnl,h3,h3n]
    simp [c110,c116,c115,c121,c78,c84,c112,h1,h2,strs,h3,h3n,e]
   | true =>
    have h3n : (s.int != 0) = false:=by simp only [bne,h3,Bool.not_true]
    simp [c110,c116,c115,c121,c78,c84,c112,h1,h2,strs,h3,h3n]
    refine ⟨_,_,g6 _,?_⟩
    cases h5 : zeroTyB s.type with
    | false =>
     have e : R = false:=by rw [← hR]; simp [labR,h1,h2,hnl,h3,h5]
     simp [c110,c116,c115,c121,c78,c84,c112,h1,h2,strs,h3,h3n,h5,e]
    | true =>
     simp [c110,c116,c115,c121,c78,c84,c112,h1,h2,strs,h3,h3n,h5]
     refine ⟨_,_,hc 112 _,?_⟩
     have e : R = (sEq s.place.name emS && decide (s.place.path.length = 0)):=by rw [← hR]; simp [labR,noPlB,h1,h2,hnl,h3,h5]
     rw [e]
     cases h7 : sEq s.place.name emS with
     | false=>simp [c110,c116,c115,c121,c78,c84,c112,h1,h2,strs,h3,h3n,h5,h7]
     | true=>simp [c110,c116,c115,c121,c78,c84,c112,h1,h2,strs,h3,h3n,h5,h7]
theorem labKE (f : ByteArray) (hf : f.size ≤ 20000) (c110 : hasB f 110 = true) (c116 : hasB f 116 = false) (c115 : hasB f 115 = false) (c121 : hasB f 121 = true) (c78 : hasB f 78 = false) (c84 : hasB f 84 = false) (c112 : hasB f 112 = false)
  (s : St) (hsm : StSm s) (d : Int) (hd1 : -1 ≤ d - 1) (hd2 : d ≤ 1000) (S : ASt) : ADet Tryz.prog 185 [stmV s,Sg f,I d] S (B (labR true false false true false false false s d)) S:=by
 obtain ⟨_,hn0,hs2,hnm,hty,hpl,_,_,_,_,_,_,_,_⟩:=hsm
 have hc:=fun (c : Int) S=>hasC f hf c S
 have g1:=fun S=>rnameC s.name (sm_max hn0) S
 have g2:=fun S=>rtypeC s.name (sm_max hn0) S
 have g3:=fun S=>rnameC s.second (sm_max hs2) S
 have g4:=fun S=>rtypeC s.second (sm_max hs2) S
 have g5:=fun S=>rTypeC s.type hty (d - 1) S (by omega) (by omega)
 have g6:=fun S=>r3ZeroTyC s.type S
 have g7:=fun S=>rPlaceC s.place hpl S
 have hlen : s.names.length ≤ maxLen:=sm_max hnm.1
 have hwd:=wrd d (by omega)
 generalize hR : labR true false false true false false false s d = R
 refine ADet.intro mixed Tryz.call185 Tryz.func185 rfl ?_
 simp [Tryz.ntmps185]
 refine ⟨_,_,hc 110 _,?_⟩
 simp [c110,c116,c115,c121,c78,c84,c112]
 refine ⟨_,_,g1 _,?_⟩
 cases h1 : nameB s.name with
 | false =>
  have e : R = false:=by rw [← hR]; simp [labR,h1]
  simp [c110,c116,c115,c121,c78,c84,c112,h1,e]
 | true =>
  simp [c110,c116,c115,c121,c78,c84,c112,h1]
  refine ⟨_,_,hc 116 _,?_⟩
  simp [c110,c116,c115,c121,c78,c84,c112,h1]
  refine ⟨_,_,hc 110 _,?_⟩
  simp [c110,c116,c115,c121,c78,c84,c112,h1]
  refine ⟨_,_,hc 115 _,?_⟩
  simp [c110,c116,c115,c121,c78,c84,c112,h1]
  refine ⟨_,_,hc 121 _,?_⟩
  simp [c110,c116,c115,c121,c78,c84,c112,h1]
  refine ⟨_,_,g4 _,?_⟩
  cases h2 : typeB s.second with
  | false =>
   have e : R = false:=by rw [← hR]; simp [labR,h1,h2]
   simp [c110,c116,c115,c121,c78,c84,c112,h1,h2,e]
  | true =>
   simp [c110,c116,c115,c121,c78,c84,c112,h1,h2]
   refine ⟨_,_,hc 115 _,?_⟩
   simp [c110,c116,c115,c121,c78,c84,c112,h1,h2]
   refine ⟨_,_,hc 121 _,?_⟩
   simp [c110,c116,c115,c121,c78,c84,c112,h1,h2]
   refine ⟨_,_,hc 78 _,?_⟩
   rcases (Nat.eq_zero_or_pos s.names.length).symm with h6 | h6z
   ·have h6' : ¬ s.names.length = 0:=by omega
    have h6'' : s.names ≠ []:=fun e=>h6' (by rw [e]; rfl)
    have e : R = false:=by rw [← hR]; simp [labR,h1,h2,h6,h6',h6'']
    simp [c110,c116,c115,c121,c78,c84,c112,h1,h2,strs,h6,h6',h6'',e]
   have hnl : s.names = []:=List.eq_nil_of_length_eq_zero h6z
   simp [c110,c116,c115,c121,c78,c84,c112,h1,h2,strs,hnl]
   refine awp_loop (fun q : Nat=>q = 0) (fun q=>([.any,Sg f,I d,.ptr 0 0 0,.any,.any,.any,I 0] ++ List.replicate 138 .any)) (fun q=>[.cells [U s.op,Sg s.name,Sg s.second,.p (.sl 1 []),U s.type.kind,Sg s.type.name,.p (.sl 3 (s.type.args.map Ty.enc)),I s.int,Sg s.place.name,.p (strs s.place.path),.p (.sl 8 (s.exprs.map Ex.enc)),.p (.sl 15 (s.body.map St.enc)),.p (.sl 15 (s.els.map St.enc)),.p (.sl 3 (s.arms.map Ar.enc)),I s.pos] 60] :: S) (fun q=>0) 0 rfl ?_ ?_ ?_
   ·simp
   ·simp [strs]
   rintro q rfl
   simp [strs]
   refine ⟨_,_,hc 84 _,?_⟩
   cases h3 : (s.int == 0) with
   | false =>
    have h3n : (s.int != 0) = true:=by simp only [bne,h3,Bool.not_false]
    have e : R = false:=by rw [← hR]; simp [labR,h1,h2,hnl,h3,h3n]
    simp [c110,c116,c115,c121,c78,c84,c112,h1,h2,strs,h3,h3n,e]
   | true =>
    have h3n : (s.int != 0) = false:=by simp only [bne,h3,Bool.not_true]
    simp [c110,c116,c115,c121,c78,c84,c112,h1,h2,strs,h3,h3n]
    refine ⟨_,_,g6 _,?_⟩
    cases h5 : zeroTyB s.type with
    | false =>
     have e : R = false:=by rw [← hR]; simp [labR,h1,h2,hnl,h3,h5]
     simp [c110,c116,c115,c121,c78,c84,c112,h1,h2,strs,h3,h3n,h5,e]
    | true =>
     simp [c110,c116,c115,c121,c78,c84,c112,h1,h2,strs,h3,h3n,h5]
     refine ⟨_,_,hc 112 _,?_⟩
     have e : R = (sEq s.place.name emS && decide (s.place.path.length = 0)):=by rw [← hR]; simp [labR,noPlB,h1,h2,hnl,h3,h5]
     rw [e]
     cases h7 : sEq s.place.name emS with
     | false=>simp [c110,c116,c115,c121,c78,c84,c112,h1,h2,strs,h3,h3n,h5,h7]
     | true=>simp [c110,c116,c115,c121,c78,c84,c112,h1,h2,strs,h3,h3n,h5,h7]
theorem labKF (f : ByteArray) (hf : f.size ≤ 20000) (c110 : hasB f 110 = false) (c116 : hasB f 116 = false) (c115 : hasB f 115 = false) (c121 : hasB f 121 = false) (c78 : hasB f 78 = true) (c84 : hasB f 84 = false) (c112 : hasB f 112 = false)
  (s : St) (hsm : StSm s) (d : Int) (hd1 : -1 ≤ d - 1) (hd2 : d ≤ 1000) (S : ASt) : ADet Tryz.prog 185 [stmV s,Sg f,I d] S (B (labR false false false false true false false s d)) S:=by
 obtain ⟨_,hn0,hs2,hnm,hty,hpl,_,_,_,_,_,_,_,_⟩:=hsm
 have hc:=fun (c : Int) S=>hasC f hf c S
 have g1:=fun S=>rnameC s.name (sm_max hn0) S
 have g2:=fun S=>rtypeC s.name (sm_max hn0) S
 have g3:=fun S=>rnameC s.second (sm_max hs2) S
 have g4:=fun S=>rtypeC s.second (sm_max hs2) S
 have g5:=fun S=>rTypeC s.type hty (d - 1) S (by omega) (by omega)
 have g6:=fun S=>r3ZeroTyC s.type S
 have g7:=fun S=>rPlaceC s.place hpl S
 have hlen : s.names.length ≤ maxLen:=sm_max hnm.1
 have hwd:=wrd d (by omega)
 generalize hR : labR false false false false true false false s d = R
 refine ADet.intro mixed Tryz.call185 Tryz.func185 rfl ?_
 simp [Tryz.ntmps185]
 refine ⟨_,_,hc 110 _,?_⟩
 simp [c110,c116,c115,c121,c78,c84,c112]
 refine ⟨_,_,hc 116 _,?_⟩
 simp [c110,c116,c115,c121,c78,c84,c112]
 refine ⟨_,_,hc 110 _,?_⟩
 simp [c110,c116,c115,c121,c78,c84,c112]
 refine ⟨_,_,hc 116 _,?_⟩
 cases h1 : sEq s.name emS with
 | false =>
  have e : R = false:=by rw [← hR]; simp [labR,h1]
  simp [c110,c116,c115,c121,c78,c84,c112,h1,e]
 | true =>
  simp [c110,c116,c115,c121,c78,c84,c112,h1]
  refine ⟨_,_,hc 115 _,?_⟩
  simp [c110,c116,c115,c121,c78,c84,c112,h1]
  refine ⟨_,_,hc 121 _,?_⟩
  simp [c110,c116,c115,c121,c78,c84,c112,h1]
  refine ⟨_,_,hc 115 _,?_⟩
  simp [c110,c116,c115,c121,c78,c84,c112,h1]
  refine ⟨_,_,hc 121 _,?_⟩
  cases h2 : sEq s.second emS with
  | false =>
   have e : R = false:=by rw [← hR]; simp [labR,h1,h2]
   simp [c110,c116,c115,c121,c78,c84,c112,h1,h2,e]
  | true =>
   simp [c110,c116,c115,c121,c78,c84,c112,h1,h2]
   refine ⟨_,_,hc 78 _,?_⟩
   by_cases h6 : ¬ s.names.length ≤ 6
   ·have h6' : (6 : Int) < s.names.length:=by omega
    have h6n : ¬ (s.names.length : Int) ≤ 6:=by omega
    have e : R = false:=by rw [← hR]; simp [labR,h1,h2,h6,h6',h6n]
    simp [c110,c116,c115,c121,c78,c84,c112,h1,h2,strs,h6,h6',h6n,e]
   have h6 : s.names.length ≤ 6:=Decidable.not_not.1 h6
   have h6' : ¬ (6 : Int) < s.names.length:=by omega
   have h6n : (s.names.length : Int) ≤ 6:=by omega
   simp [c110,c116,c115,c121,c78,c84,c112,h1,h2,strs,h6',h6n]
   refine awp_loop (fun q : Nat=>q ≤ s.names.length ∧ ∀ i (hi : i < s.names.length),i < q → nameB s.names[i] = true) (fun q=>([.any,Sg f,I d,.ptr 0 0 0,.any,.any,.any,I q] ++ List.replicate 138 .any)) (fun q=>[.cells (stU s) 60] :: S) (fun q=>s.names.length - q) 0 ⟨Nat.zero_le _,fun i hi h=>by omega⟩ ?_ ?_ ?_
   ·simp
   ·simp [strs]
   rintro q ⟨hq,hall⟩
   by_cases hlt : q < s.names.length
   ·have hnx : ∀ x,s.names[q] = x → nameB x = true → ∀ i (hi : i < s.names.length),i < q + 1 → nameB s.names[i] = true:=fun x hs hb i hi h=>by
     rcases Nat.lt_or_ge i q with h' | h'
     ·exact hall i hi h'
     ·obtain rfl : i = q:=by omega
      rw [hs]; exact hb
    have hno : ∀ x,s.names[q] = x → nameB x = false → s.names.all nameB = false:=fun x hs hb=>by
     rw [List.all_eq_false]
     exact ⟨x,by rw [← hs]; exact List.getElem_mem hlt,by simp [hb]⟩
    have hsz:=hnm.2 s.names[q] (List.getElem_mem hlt)
    generalize hx : s.names[q] = x at *
    simp [strs,hlt,hx]
    refine ⟨_,_,rnameC x (sm_max hsz) _,?_⟩
    cases hb : nameB x with
    | false =>
     have h0:=hno x rfl hb
     have e : R = false:=by rw [← hR]; simp only [labR,h0,Bool.false_and,Bool.and_false]
     simp [hb,e]
    | true =>
     simp [hb,strs]
     exact ⟨q + 1,⟨hlt,hnx x rfl hb⟩,by omega,wrap_succ hlt⟩
   have ha : s.names.all nameB = true:=by
    rw [List.all_eq_true]
    intro x hx
    obtain ⟨i,hi,rfl⟩:=List.mem_iff_getElem.1 hx
    exact hall i hi (by omega)
   simp [strs,hlt]
   refine ⟨_,_,hc 84 _,?_⟩
   cases h3 : (s.int == 0) with
   | false =>
    have h3n : (s.int != 0) = true:=by simp only [bne,h3,Bool.not_false]
    have e : R = false:=by rw [← hR]; simp [labR,h1,h2,ha,h6,h3,h3n]
    simp [c110,c116,c115,c121,c78,c84,c112,h1,h2,strs,h3,h3n,e]
   | true =>
    have h3n : (s.int != 0) = false:=by simp only [bne,h3,Bool.not_true]
    simp [c110,c116,c115,c121,c78,c84,c112,h1,h2,strs,h3,h3n]
    refine ⟨_,_,g6 _,?_⟩
    cases h5 : zeroTyB s.type with
    | false =>
     have e : R = false:=by rw [← hR]; simp [labR,h1,h2,ha,h6,h3,h5]
     simp [c110,c116,c115,c121,c78,c84,c112,h1,h2,strs,h3,h3n,h5,e]
    | true =>
     simp [c110,c116,c115,c121,c78,c84,c112,h1,h2,strs,h3,h3n,h5]
     refine ⟨_,_,hc 112 _,?_⟩
     have e : R = (sEq s.place.name emS && decide (s.place.path.length = 0)):=by rw [← hR]; simp [labR,noPlB,h1,h2,ha,h6,h3,h5]
     rw [e]
     cases h7 : sEq s.place.name emS with
     | false=>simp [c110,c116,c115,c121,c78,c84,c112,h1,h2,strs,h3,h3n,h5,h7]
     | true=>simp [c110,c116,c115,c121,c78,c84,c112,h1,h2,strs,h3,h3n,h5,h7]
theorem labKG (f : ByteArray) (hf : f.size ≤ 20000) (c110 : hasB f 110 = true) (c116 : hasB f 116 = false) (c115 : hasB f 115 = false) (c121 : hasB f 121 = false) (c78 : hasB f 78 = false) (c84 : hasB f 84 = false) (c112 : hasB f 112 = true)
  (s : St) (hsm : StSm s) (d : Int) (hd1 : -1 ≤ d - 1) (hd2 : d ≤ 1000) (S : ASt) : ADet Tryz.prog 185 [stmV s,Sg f,I d] S (B (labR true false false false false false true s d)) S:=by
 obtain ⟨_,hn0,hs2,hnm,hty,hpl,_,_,_,_,_,_,_,_⟩:=hsm
 have hc:=fun (c : Int) S=>hasC f hf c S
 have g1:=fun S=>rnameC s.name (sm_max hn0) S
 have g2:=fun S=>rtypeC s.name (sm_max hn0) S
 have g3:=fun S=>rnameC s.second (sm_max hs2) S
 have g4:=fun S=>rtypeC s.second (sm_max hs2) S
 have g5:=fun S=>rTypeC s.type hty (d - 1) S (by omega) (by omega)
 have g6:=fun S=>r3ZeroTyC s.type S
 have g7:=fun S=>rPlaceC s.place hpl S
 have hlen : s.names.length ≤ maxLen:=sm_max hnm.1
 have hwd:=wrd d (by omega)
 generalize hR : labR true false false false false false true s d = R
 refine ADet.intro mixed Tryz.call185 Tryz.func185 rfl ?_
 simp [Tryz.ntmps185]
 refine ⟨_,_,hc 110 _,?_⟩
 simp [c110,c116,c115,c121,c78,c84,c112]
 refine ⟨_,_,g1 _,?_⟩
 cases h1 : nameB s.name with
 | false =>
  have e : R = false:=by rw [← hR]; simp [labR,h1]
  simp [c110,c116,c115,c121,c78,c84,c112,h1,e]
 | true =>
  simp [c110,c116,c115,c121,c78,c84,c112,h1]
  refine ⟨_,_,hc 116 _,?_⟩
  simp [c110,c116,c115,c121,c78,c84,c112,h1]
  refine ⟨_,_,hc 110 _,?_⟩
  simp [c110,c116,c115,c121,c78,c84,c112,h1]
  refine ⟨_,_,hc 115 _,?_⟩
  simp [c110,c116,c115,c121,c78,c84,c112,h1]
  refine ⟨_,_,hc 121 _,?_⟩
  simp [c110,c116,c115,c121,c78,c84,c112,h1]
  refine ⟨_,_,hc 115 _,?_⟩
  simp [c110,c116,c115,c121,c78,c84,c112,h1]
  refine ⟨_,_,hc 121 _,?_⟩
  cases h2 : sEq s.second emS with
  | false =>
   have e : R = false:=by rw [← hR]; simp [labR,h1,h2]
   simp [c110,c116,c115,c121,c78,c84,c112,h1,h2,e]
  | true =>
   simp [c110,c116,c115,c121,c78,c84,c112,h1,h2]
   refine ⟨_,_,hc 78 _,?_⟩
   rcases (Nat.eq_zero_or_pos s.names.length).symm with h6 | h6z
   ·have h6' : ¬ s.names.length = 0:=by omega
    have h6'' : s.names ≠ []:=fun e=>h6' (by rw [e]; rfl)
    have e : R = false:=by rw [← hR]; simp [labR,h1,h2,h6,h6',h6'']
    simp [c110,c116,c115,c121,c78,c84,c112,h1,h2,strs,h6,h6',h6'',e]
   have hnl : s.names = []:=List.eq_nil_of_length_eq_zero h6z
   simp [c110,c116,c115,c121,c78,c84,c112,h1,h2,strs,hnl]
   refine awp_loop (fun q : Nat=>q = 0) (fun q=>([.any,Sg f,I d,.ptr 0 0 0,.any,.any,.any,I 0] ++ List.replicate 138 .any)) (fun q=>[.cells [U s.op,Sg s.name,Sg s.second,.p (.sl 1 []),U s.type.kind,Sg s.type.name,.p (.sl 3 (s.type.args.map Ty.enc)),I s.int,Sg s.place.name,.p (strs s.place.path),.p (.sl 8 (s.exprs.map Ex.enc)),.p (.sl 15 (s.body.map St.enc)),.p (.sl 15 (s.els.map St.enc)),.p (.sl 3 (s.arms.map Ar.enc)),I s.pos] 60] :: S) (fun q=>0) 0 rfl ?_ ?_ ?_
   ·simp
   ·simp [strs]
   rintro q rfl
   simp [strs]
   refine ⟨_,_,hc 84 _,?_⟩
   cases h3 : (s.int == 0) with
   | false =>
    have h3n : (s.int != 0) = true:=by simp only [bne,h3,Bool.not_false]
    have e : R = false:=by rw [← hR]; simp [labR,h1,h2,hnl,h3,h3n]
    simp [c110,c116,c115,c121,c78,c84,c112,h1,h2,strs,h3,h3n,e]
   | true =>
    have h3n : (s.int != 0) = false:=by simp only [bne,h3,Bool.not_true]
    simp [c110,c116,c115,c121,c78,c84,c112,h1,h2,strs,h3,h3n]
    refine ⟨_,_,g6 _,?_⟩
    cases h5 : zeroTyB s.type with
    | false =>
     have e : R = false:=by rw [← hR]; simp [labR,h1,h2,hnl,h3,h5]
     simp [c110,c116,c115,c121,c78,c84,c112,h1,h2,strs,h3,h3n,h5,e]
    | true =>
     simp [c110,c116,c115,c121,c78,c84,c112,h1,h2,strs,h3,h3n,h5]
     refine ⟨_,_,hc 112 _,?_⟩
     have e : R = s.place.whole:=by rw [← hR]; simp [labR,h1,h2,hnl,h3,h5]
     rw [e]
     simp [c110,c116,c115,c121,c78,c84,c112,h1,h2,strs,h3,h3n,h5]
     refine ⟨_,_,g7 _,?_⟩
     simp
theorem labKH (f : ByteArray) (hf : f.size ≤ 20000) (c110 : hasB f 110 = true) (c116 : hasB f 116 = false) (c115 : hasB f 115 = true) (c121 : hasB f 121 = false) (c78 : hasB f 78 = false) (c84 : hasB f 84 = true) (c112 : hasB f 112 = false)
  (s : St) (hsm : StSm s) (d : Int) (hd1 : -1 ≤ d - 1) (hd2 : d ≤ 1000) (S : ASt) : ADet Tryz.prog 185 [stmV s,Sg f,I d] S (B (labR true false true false false true false s d)) S:=by
 obtain ⟨_,hn0,hs2,hnm,hty,hpl,_,_,_,_,_,_,_,_⟩:=hsm
 have hc:=fun (c : Int) S=>hasC f hf c S
 have g1:=fun S=>rnameC s.name (sm_max hn0) S
 have g2:=fun S=>rtypeC s.name (sm_max hn0) S
 have g3:=fun S=>rnameC s.second (sm_max hs2) S
 have g4:=fun S=>rtypeC s.second (sm_max hs2) S
 have g5:=fun S=>rTypeC s.type hty (d - 1) S (by omega) (by omega)
 have g6:=fun S=>r3ZeroTyC s.type S
 have g7:=fun S=>rPlaceC s.place hpl S
 have hlen : s.names.length ≤ maxLen:=sm_max hnm.1
 have hwd:=wrd d (by omega)
 generalize hR : labR true false true false false true false s d = R
 refine ADet.intro mixed Tryz.call185 Tryz.func185 rfl ?_
 simp [Tryz.ntmps185]
 refine ⟨_,_,hc 110 _,?_⟩
 simp [c110,c116,c115,c121,c78,c84,c112]
 refine ⟨_,_,g1 _,?_⟩
 cases h1 : nameB s.name with
 | false =>
  have e : R = false:=by rw [← hR]; simp [labR,h1]
  simp [c110,c116,c115,c121,c78,c84,c112,h1,e]
 | true =>
  simp [c110,c116,c115,c121,c78,c84,c112,h1]
  refine ⟨_,_,hc 116 _,?_⟩
  simp [c110,c116,c115,c121,c78,c84,c112,h1]
  refine ⟨_,_,hc 110 _,?_⟩
  simp [c110,c116,c115,c121,c78,c84,c112,h1]
  refine ⟨_,_,hc 115 _,?_⟩
  simp [c110,c116,c115,c121,c78,c84,c112,h1]
  refine ⟨_,_,g3 _,?_⟩
  cases h2 : nameB s.second with
  | false =>
   have e : R = false:=by rw [← hR]; simp [labR,h1,h2]
   simp [c110,c116,c115,c121,c78,c84,c112,h1,h2,e]
  | true =>
   simp [c110,c116,c115,c121,c78,c84,c112,h1,h2]
   refine ⟨_,_,hc 121 _,?_⟩
   simp [c110,c116,c115,c121,c78,c84,c112,h1,h2]
   refine ⟨_,_,hc 115 _,?_⟩
   simp [c110,c116,c115,c121,c78,c84,c112,h1,h2]
   refine ⟨_,_,hc 78 _,?_⟩
   rcases (Nat.eq_zero_or_pos s.names.length).symm with h6 | h6z
   ·have h6' : ¬ s.names.length = 0:=by omega
    have h6'' : s.names ≠ []:=fun e=>h6' (by rw [e]; rfl)
    have e : R = false:=by rw [← hR]; simp [labR,h1,h2,h6,h6',h6'']
    simp [c110,c116,c115,c121,c78,c84,c112,h1,h2,strs,h6,h6',h6'',e]
   have hnl : s.names = []:=List.eq_nil_of_length_eq_zero h6z
   simp [c110,c116,c115,c121,c78,c84,c112,h1,h2,strs,hnl]
   refine awp_loop (fun q : Nat=>q = 0) (fun q=>([.any,Sg f,I d,.ptr 0 0 0,.any,.any,.any,I 0] ++ List.replicate 138 .any)) (fun q=>[.cells [U s.op,Sg s.name,Sg s.second,.p (.sl 1 []),U s.type.kind,Sg s.type.name,.p (.sl 3 (s.type.args.map Ty.enc)),I s.int,Sg s.place.name,.p (strs s.place.path),.p (.sl 8 (s.exprs.map Ex.enc)),.p (.sl 15 (s.body.map St.enc)),.p (.sl 15 (s.els.map St.enc)),.p (.sl 3 (s.arms.map Ar.enc)),I s.pos] 60] :: S) (fun q=>0) 0 rfl ?_ ?_ ?_
   ·simp
   ·simp [strs]
   rintro q rfl
   simp [strs]
   refine ⟨_,_,hc 84 _,?_⟩
   by_cases h3 : ¬ 1 ≤ s.int
   ·have h3' : s.int < 1:=by omega
    have e : R = false:=by rw [← hR]; simp [labR,h1,h2,hnl,h3,h3']
    simp [c110,c116,c115,c121,c78,c84,c112,h1,h2,strs,h3,h3',e]
   have h3 : 1 ≤ s.int:=Decidable.not_not.1 h3
   have h3' : ¬ s.int < 1:=by omega
   by_cases h4 : ¬ s.int ≤ 8
   ·have h4' : 8 < s.int:=by omega
    have e : R = false:=by rw [← hR]; simp [labR,h1,h2,hnl,h3,h4,h4']
    simp [c110,c116,c115,c121,c78,c84,c112,h1,h2,strs,h3',h4,h4',e]
   have h4 : s.int ≤ 8:=Decidable.not_not.1 h4
   have h4' : ¬ 8 < s.int:=by omega
   simp [c110,c116,c115,c121,c78,c84,c112,h1,h2,strs,h3',h4',hwd]
   refine ⟨_,_,g5 _,?_⟩
   cases h5 : s.type.whole (d - 1) with
   | false =>
    have e : R = false:=by rw [← hR]; simp [labR,h1,h2,hnl,h3,h4,h5]
    simp [c110,c116,c115,c121,c78,c84,c112,h1,h2,strs,h3',h4',h5,e]
   | true =>
    simp [c110,c116,c115,c121,c78,c84,c112,h1,h2,strs,h3',h4',h5]
    refine ⟨_,_,hc 112 _,?_⟩
    have e : R = (sEq s.place.name emS && decide (s.place.path.length = 0)):=by rw [← hR]; simp [labR,noPlB,h1,h2,hnl,h3,h4,h5]
    rw [e]
    cases h7 : sEq s.place.name emS with
    | false=>simp [c110,c116,c115,c121,c78,c84,c112,h1,h2,strs,h3',h4',h5,h7]
    | true=>simp [c110,c116,c115,c121,c78,c84,c112,h1,h2,strs,h3',h4',h5,h7]
end Go.Proofs.YtfbpibkpmcceaaaGreatDoor
