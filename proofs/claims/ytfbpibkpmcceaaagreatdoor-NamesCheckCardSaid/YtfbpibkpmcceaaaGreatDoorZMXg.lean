/- A part of the proof. The statement is proved in the claim's last text. -/
import Derived.Test.YtfbpibkpmcceaaaGreatDoorZMRa
set_option linter.unusedVariables false
set_option linter.unusedSimpArgs false
set_option maxRecDepth 100000
set_option maxHeartbeats 32000000
namespace Go.Proofs.YtfbpibkpmcceaaaGreatDoor
open Go.RowKit
attribute [local simp] List.replicate List.range List.range.loop resA resOne retA AV.cuts AV.cut AObj.cut trim wkR wkT wkL wkN wkNR wkNL wkM wkMR wkML
theorem re_1 (e : Ex) (hop : (e.op = 7 ∨ e.op = 8 ∨ e.op = 21 ∨ e.op = 22 ∨ e.op = 23 ∨ e.op = 26 ∨ e.op = 27 ∨ e.op = 29 ∨ e.op = 30 ∨ e.op = 31)) (ih : ∀ x ∈ e.args,RE x) (hn : e.name.size ≤ 20000) (hs2 : e.second.size ≤ 20000) (hpl : PlSm e.place) (hsz : e.args.length ≤ 20000) : RE e:=by
 intro d S hd1 hd2
 have hf : formS e.op = (⟨#[49]⟩ : ByteArray):=by
  unfold formS
  first
   | (rcases hop with h | h | h | h | h | h | h | h | h | h <;> simp [h]; done)
   | (rw [if_neg (by omega),if_neg (by omega),if_neg (by omega),if_neg (by omega),if_pos (by omega)])
   | (simp [hop]; done)
 have hnn : 0 ≤ e.op ∧ e.op ≤ 255:=by omega
 have hR : e.whole d = (decide (1 ≤ d) && (((e.args.length : Int) == 1) && ((e.int == 0) && ((sEq e.place.name emS && decide (e.place.path.length = 0)) && (sEq e.name emS && (sEq e.second emS && e.args.all fun t=>((e.op == 18) || !lentOp t.op) && t.whole (d - 1))))))):=by
  have g1 : shP e.op = false:=by rcases hop with h | h | h | h | h | h | h | h | h | h <;> simp [shP,h]
  have g2 : shL e.op = 1:=by rcases hop with h | h | h | h | h | h | h | h | h | h <;> simp [shL,h]
  have g3 : shM e.op = 1:=by rcases hop with h | h | h | h | h | h | h | h | h | h <;> simp [shM,h]
  have g4 : shO e.op = true:=by rcases hop with h | h | h | h | h | h | h | h | h | h <;> simp [shO,h]
  have k18 : ¬ e.op = 18:=by omega
  have k1920 : ¬ (e.op = 19 ∨ e.op = 20):=by omega
  have k20 : ¬ e.op = 20:=by omega
  have k1 : ¬ e.op = 1:=by omega
  have k2 : ¬ e.op = 2:=by omega
  have k19 : ¬ e.op = 19:=by omega
  have hq : (((e.args.length : Int) == 1)) = (decide ((1 : Int) ≤ (e.args.length : Int)) && decide ((e.args.length : Int) ≤ 1)):=by
   rw [Bool.eq_iff_iff]; simp <;> omega
  rw [exWhole_eq,hq]
  unfold exHead labB placedB
  rw [g1,g2,g3,g4,allUp_and _ e.args,if_neg k18,if_neg k1920,if_neg k20,if_neg k1,if_neg k2,if_neg (by decide),if_neg k19]
  unfold noPlB
  rw [Bool.eq_iff_iff]
  simp only [Bool.and_eq_true]
  constructor
  ·rintro ⟨h1,⟨_,⟨⟨hN,hS⟩,hI⟩,hl1,hP⟩,hl2,hall⟩
   exact ⟨h1,⟨hl1,hl2⟩,hI,hP,hN,hS,hall⟩
  ·rintro ⟨h1,⟨hl1,hl2⟩,hI,hP,hN,hS,hall⟩
   exact ⟨h1,⟨trivial,⟨⟨hN,hS⟩,hI⟩,hl1,hP⟩,hl2,hall⟩
 rw [hR]
 have hlen : e.args.length ≤ maxLen:=sm_max hsz
 refine ADet.intro mixed Tryz.call107 Tryz.func107 rfl ?_
 simp [Tryz.ntmps107]
 refine ⟨_,_,formC e.op hnn.1 hnn.2 _,?_⟩
 rw [hf]
 have hem : sEq (⟨#[49]⟩ : ByteArray) emS = false:=sEq_ne (by decide)
 by_cases h0 : 1 ≤ d
 ·have h0' : ¬ d < 1:=by omega
  simp [h0,h0',hem]
  refine ⟨_,_,many_1 _ _,?_⟩
  by_cases hm : (e.args.length = 1)
  ·have hmI : ((e.args.length : Int) == 1) = true:=by rw [beq_iff_eq]; omega
   have hme : (e.args.length = 1):=hm
   simp [h0,h0',hmI]
   refine ⟨_,_,hasC _ (by decide) 105 _,?_⟩
   simp [hv_1_i,hv_1_b,hv_1_p,hv_1_f,hv_1_n,hv_1_t,hv_1_v]
   refine ⟨_,_,hasC _ (by decide) 98 _,?_⟩
   cases hi : (e.int == 0) with
   | false =>
    have hj : (e.int != 0) = true:=by simp [bne,hi]
    simp [hv_1_i,hv_1_b,hv_1_p,hv_1_f,hv_1_n,hv_1_t,hv_1_v,h0,hmI,hi,hj]
   | true =>
    have hj : (e.int != 0) = false:=by simp [bne,hi]
    simp [hv_1_i,hv_1_b,hv_1_p,hv_1_f,hv_1_n,hv_1_t,hv_1_v,hj]
    refine ⟨_,_,hasC _ (by decide) 112 _,?_⟩
    simp [hv_1_i,hv_1_b,hv_1_p,hv_1_f,hv_1_n,hv_1_t,hv_1_v]
    refine ⟨_,_,hasC _ (by decide) 102 _,?_⟩
    cases hp1 : sEq e.place.name emS with
    | false=>simp [hv_1_i,hv_1_b,hv_1_p,hv_1_f,hv_1_n,hv_1_t,hv_1_v,h0,hmI,hi,hp1]
    | true =>
     by_cases hp2 : e.place.path.length = 0
     ·have hp3 : ¬ (0 : Int) < e.place.path.length:=by omega
      have hp4 : ¬ 0 < e.place.path.length:=by omega
      have hpe : e.place.path = []:=List.length_eq_zero_iff.1 hp2
      simp [hv_1_i,hv_1_b,hv_1_p,hv_1_f,hv_1_n,hv_1_t,hv_1_v,hp1,hp2,hp3,hp4,strs]
      refine ⟨_,_,hasC _ (by decide) 110 _,?_⟩
      simp [hv_1_i,hv_1_b,hv_1_p,hv_1_f,hv_1_n,hv_1_t,hv_1_v]
      refine ⟨_,_,hasC _ (by decide) 116 _,?_⟩
      simp [hv_1_i,hv_1_b,hv_1_p,hv_1_f,hv_1_n,hv_1_t,hv_1_v]
      refine ⟨_,_,hasC _ (by decide) 110 _,?_⟩
      simp [hv_1_i,hv_1_b,hv_1_p,hv_1_f,hv_1_n,hv_1_t,hv_1_v]
      refine ⟨_,_,hasC _ (by decide) 116 _,?_⟩
      cases hnm : sEq e.name emS with
      | false=>simp [hv_1_i,hv_1_b,hv_1_p,hv_1_f,hv_1_n,hv_1_t,hv_1_v,h0,hmI,hi,hp1,hp2,hnm]
      | true =>
       simp [hv_1_i,hv_1_b,hv_1_p,hv_1_f,hv_1_n,hv_1_t,hv_1_v,hnm]
       refine ⟨_,_,hasC _ (by decide) 118 _,?_⟩
       simp [hv_1_i,hv_1_b,hv_1_p,hv_1_f,hv_1_n,hv_1_t,hv_1_v]
       refine ⟨_,_,hasC _ (by decide) 118 _,?_⟩
       cases hsc : sEq e.second emS with
       | false=>simp [hv_1_i,hv_1_b,hv_1_p,hv_1_f,hv_1_n,hv_1_t,hv_1_v,h0,hmI,hi,hp1,hp2,hnm,hsc]
       | true =>
        simp [hv_1_i,hv_1_b,hv_1_p,hv_1_f,hv_1_n,hv_1_t,hv_1_v,hsc]
        have k18b : (e.op == 18) = false:=by simp; omega
        have ne18 : (e.op != 18) = true:=by simp [bne,k18b]
        refine awp_loop (fun q : Nat=>q ≤ e.args.length ∧ ∀ i (hi : i < e.args.length),i < q → (((e.op == 18) || !lentOp e.args[i].op) && e.args[i].whole (d - 1)) = true) (fun q=>([.any,I d,.ptr 0 0 0,.any,.any,.any,I q] ++ List.replicate 139 .any)) (fun q=>[.cells [U e.op,I e.int,Sg e.name,Sg e.second,Sg e.place.name,.p (strs e.place.path),.p (.sl 8 (e.args.map Ex.enc)),I e.pos] 45] :: S) (fun q=>e.args.length - q) 0 ⟨Nat.zero_le _,fun i hi h=>by omega⟩ ?_ ?_ ?_
        ·simp
        ·simp [strs]
        rintro q ⟨hq,hall⟩
        by_cases hlt : q < e.args.length
        ·have hx:=ih _ (List.getElem_mem hlt)
         have hbad : (((e.op == 18) || !lentOp e.args[q].op) && e.args[q].whole (d - 1)) = false → (e.args.all fun t=>((e.op == 18) || !lentOp t.op) && t.whole (d - 1)) = false:=fun h=>List.all_eq_false.2 ⟨_,List.getElem_mem hlt,by simp [h]⟩
         have hnext : (((e.op == 18) || !lentOp e.args[q].op) && e.args[q].whole (d - 1)) = true → ∀ i (hi : i < e.args.length),i < q + 1 → (((e.op == 18) || !lentOp e.args[i].op) && e.args[i].whole (d - 1)) = true:=fun hh i hi h=>by
          rcases Nat.lt_or_ge i q with h' | h'
          ·exact hall i hi h'
          ·obtain rfl : i = q:=by omega
           exact hh
         generalize hxq : e.args[q] = x at *
         simp [hlt,hxq,exEnc]
         refine ⟨_,_,rLentC x _,?_⟩
         cases hl : lentOp x.op with
         | true =>
          have hal:=hbad (by simp [k18b,hl])
          simp [hl,ne18,h0,hmI,hi,hp1,hp2,hnm,hsc,hal]
         | false =>
          simp [hl,ne18,hlt,hxq,exEnc,wrd d (by omega)]
          refine ⟨_,_,hx (d - 1) _ (by omega) (by omega),?_⟩
          cases hw : x.whole (d - 1) with
          | false =>
           have hal:=hbad (by simp [hw])
           simp [hw,h0,hmI,hi,hp1,hp2,hnm,hsc,hal]
          | true =>
           simp [hw]
           exact ⟨q + 1,⟨hlt,by simpa using hnext (by simp [hw,k18b,hl])⟩,by omega,wrap_succ hlt⟩
        ·have hal : (e.args.all fun t=>((e.op == 18) || !lentOp t.op) && t.whole (d - 1)) = true:=by
          rw [List.all_eq_true]
          intro t ht
          obtain ⟨i,hi,rfl⟩:=List.getElem_of_mem ht
          exact hall i hi (by omega)
         have hltm : ¬ q < 1:=by omega
         have hltz : (1 : Int) ≤ (q : Int):=by omega
         simp [hlt,hltm,hltz,h0,hmI,hi,hp1,hp2,hnm,hsc,hal,hme,hpe]
     ·have hp3 : (0 : Int) < e.place.path.length:=by omega
      have hp4 : 0 < e.place.path.length:=by omega
      have hpe : ¬ e.place.path = []:=fun h=>hp2 (List.length_eq_zero_iff.2 h)
      simp [hv_1_i,hv_1_b,hv_1_p,hv_1_f,hv_1_n,hv_1_t,hv_1_v,h0,hmI,hi,hp1,hp2,hp3,hp4,hpe,strs]
  ·have hmI : ((e.args.length : Int) == 1) = false:=by rw [beq_eq_false_iff_ne]; omega
   have hme : ¬ (e.args.length = 1):=hm
   simp [h0,h0',hmI,hme]
 ·have h0' : d < 1:=by omega
  simp [h0,h0',hem]
theorem re_2 (e : Ex) (hop : (9 ≤ e.op ∧ e.op ≤ 17)) (ih : ∀ x ∈ e.args,RE x) (hn : e.name.size ≤ 20000) (hs2 : e.second.size ≤ 20000) (hpl : PlSm e.place) (hsz : e.args.length ≤ 20000) : RE e:=by
 intro d S hd1 hd2
 have hf : formS e.op = (⟨#[50]⟩ : ByteArray):=by
  unfold formS
  first
   | (rw [if_neg (by omega),if_neg (by omega),if_neg (by omega),if_neg (by omega),if_pos (by omega)])
   | (simp [hop]; done)
 have hnn : 0 ≤ e.op ∧ e.op ≤ 255:=by omega
 have hR : e.whole d = (decide (1 ≤ d) && (((e.args.length : Int) == 2) && ((e.int == 0) && ((sEq e.place.name emS && decide (e.place.path.length = 0)) && (sEq e.name emS && (sEq e.second emS && e.args.all fun t=>((e.op == 18) || !lentOp t.op) && t.whole (d - 1))))))):=by
  have g1 : shP e.op = false:=by simp [shP]; omega
  have g2 : shL e.op = 2:=by unfold shL; rw [if_neg (by omega),if_pos (by omega)]
  have g3 : shM e.op = 2:=by unfold shM; rw [if_neg (by omega),if_neg (by omega),if_pos (by omega)]
  have g4 : shO e.op = true:=by simp [shO]; omega
  have k18 : ¬ e.op = 18:=by omega
  have k1920 : ¬ (e.op = 19 ∨ e.op = 20):=by omega
  have k20 : ¬ e.op = 20:=by omega
  have k1 : ¬ e.op = 1:=by omega
  have k2 : ¬ e.op = 2:=by omega
  have k19 : ¬ e.op = 19:=by omega
  have hq : (((e.args.length : Int) == 2)) = (decide ((2 : Int) ≤ (e.args.length : Int)) && decide ((e.args.length : Int) ≤ 2)):=by
   rw [Bool.eq_iff_iff]; simp <;> omega
  rw [exWhole_eq,hq]
  unfold exHead labB placedB
  rw [g1,g2,g3,g4,allUp_and _ e.args,if_neg k18,if_neg k1920,if_neg k20,if_neg k1,if_neg k2,if_neg (by decide),if_neg k19]
  unfold noPlB
  rw [Bool.eq_iff_iff]
  simp only [Bool.and_eq_true]
  constructor
  ·rintro ⟨h1,⟨_,⟨⟨hN,hS⟩,hI⟩,hl1,hP⟩,hl2,hall⟩
   exact ⟨h1,⟨hl1,hl2⟩,hI,hP,hN,hS,hall⟩
  ·rintro ⟨h1,⟨hl1,hl2⟩,hI,hP,hN,hS,hall⟩
   exact ⟨h1,⟨trivial,⟨⟨hN,hS⟩,hI⟩,hl1,hP⟩,hl2,hall⟩
 rw [hR]
 have hlen : e.args.length ≤ maxLen:=sm_max hsz
 refine ADet.intro mixed Tryz.call107 Tryz.func107 rfl ?_
 simp [Tryz.ntmps107]
 refine ⟨_,_,formC e.op hnn.1 hnn.2 _,?_⟩
 rw [hf]
 have hem : sEq (⟨#[50]⟩ : ByteArray) emS = false:=sEq_ne (by decide)
 by_cases h0 : 1 ≤ d
 ·have h0' : ¬ d < 1:=by omega
  simp [h0,h0',hem]
  refine ⟨_,_,many_2 _ _,?_⟩
  by_cases hm : (e.args.length = 2)
  ·have hmI : ((e.args.length : Int) == 2) = true:=by rw [beq_iff_eq]; omega
   have hme : (e.args.length = 2):=hm
   simp [h0,h0',hmI]
   refine ⟨_,_,hasC _ (by decide) 105 _,?_⟩
   simp [hv_2_i,hv_2_b,hv_2_p,hv_2_f,hv_2_n,hv_2_t,hv_2_v]
   refine ⟨_,_,hasC _ (by decide) 98 _,?_⟩
   cases hi : (e.int == 0) with
   | false =>
    have hj : (e.int != 0) = true:=by simp [bne,hi]
    simp [hv_2_i,hv_2_b,hv_2_p,hv_2_f,hv_2_n,hv_2_t,hv_2_v,h0,hmI,hi,hj]
   | true =>
    have hj : (e.int != 0) = false:=by simp [bne,hi]
    simp [hv_2_i,hv_2_b,hv_2_p,hv_2_f,hv_2_n,hv_2_t,hv_2_v,hj]
    refine ⟨_,_,hasC _ (by decide) 112 _,?_⟩
    simp [hv_2_i,hv_2_b,hv_2_p,hv_2_f,hv_2_n,hv_2_t,hv_2_v]
    refine ⟨_,_,hasC _ (by decide) 102 _,?_⟩
    cases hp1 : sEq e.place.name emS with
    | false=>simp [hv_2_i,hv_2_b,hv_2_p,hv_2_f,hv_2_n,hv_2_t,hv_2_v,h0,hmI,hi,hp1]
    | true =>
     by_cases hp2 : e.place.path.length = 0
     ·have hp3 : ¬ (0 : Int) < e.place.path.length:=by omega
      have hp4 : ¬ 0 < e.place.path.length:=by omega
      have hpe : e.place.path = []:=List.length_eq_zero_iff.1 hp2
      simp [hv_2_i,hv_2_b,hv_2_p,hv_2_f,hv_2_n,hv_2_t,hv_2_v,hp1,hp2,hp3,hp4,strs]
      refine ⟨_,_,hasC _ (by decide) 110 _,?_⟩
      simp [hv_2_i,hv_2_b,hv_2_p,hv_2_f,hv_2_n,hv_2_t,hv_2_v]
      refine ⟨_,_,hasC _ (by decide) 116 _,?_⟩
      simp [hv_2_i,hv_2_b,hv_2_p,hv_2_f,hv_2_n,hv_2_t,hv_2_v]
      refine ⟨_,_,hasC _ (by decide) 110 _,?_⟩
      simp [hv_2_i,hv_2_b,hv_2_p,hv_2_f,hv_2_n,hv_2_t,hv_2_v]
      refine ⟨_,_,hasC _ (by decide) 116 _,?_⟩
      cases hnm : sEq e.name emS with
      | false=>simp [hv_2_i,hv_2_b,hv_2_p,hv_2_f,hv_2_n,hv_2_t,hv_2_v,h0,hmI,hi,hp1,hp2,hnm]
      | true =>
       simp [hv_2_i,hv_2_b,hv_2_p,hv_2_f,hv_2_n,hv_2_t,hv_2_v,hnm]
       refine ⟨_,_,hasC _ (by decide) 118 _,?_⟩
       simp [hv_2_i,hv_2_b,hv_2_p,hv_2_f,hv_2_n,hv_2_t,hv_2_v]
       refine ⟨_,_,hasC _ (by decide) 118 _,?_⟩
       cases hsc : sEq e.second emS with
       | false=>simp [hv_2_i,hv_2_b,hv_2_p,hv_2_f,hv_2_n,hv_2_t,hv_2_v,h0,hmI,hi,hp1,hp2,hnm,hsc]
       | true =>
        simp [hv_2_i,hv_2_b,hv_2_p,hv_2_f,hv_2_n,hv_2_t,hv_2_v,hsc]
        have k18b : (e.op == 18) = false:=by simp; omega
        have ne18 : (e.op != 18) = true:=by simp [bne,k18b]
        refine awp_loop (fun q : Nat=>q ≤ e.args.length ∧ ∀ i (hi : i < e.args.length),i < q → (((e.op == 18) || !lentOp e.args[i].op) && e.args[i].whole (d - 1)) = true) (fun q=>([.any,I d,.ptr 0 0 0,.any,.any,.any,I q] ++ List.replicate 139 .any)) (fun q=>[.cells [U e.op,I e.int,Sg e.name,Sg e.second,Sg e.place.name,.p (strs e.place.path),.p (.sl 8 (e.args.map Ex.enc)),I e.pos] 45] :: S) (fun q=>e.args.length - q) 0 ⟨Nat.zero_le _,fun i hi h=>by omega⟩ ?_ ?_ ?_
        ·simp
        ·simp [strs]
        rintro q ⟨hq,hall⟩
        by_cases hlt : q < e.args.length
        ·have hx:=ih _ (List.getElem_mem hlt)
         have hbad : (((e.op == 18) || !lentOp e.args[q].op) && e.args[q].whole (d - 1)) = false → (e.args.all fun t=>((e.op == 18) || !lentOp t.op) && t.whole (d - 1)) = false:=fun h=>List.all_eq_false.2 ⟨_,List.getElem_mem hlt,by simp [h]⟩
         have hnext : (((e.op == 18) || !lentOp e.args[q].op) && e.args[q].whole (d - 1)) = true → ∀ i (hi : i < e.args.length),i < q + 1 → (((e.op == 18) || !lentOp e.args[i].op) && e.args[i].whole (d - 1)) = true:=fun hh i hi h=>by
          rcases Nat.lt_or_ge i q with h' | h'
          ·exact hall i hi h'
          ·obtain rfl : i = q:=by omega
           exact hh
         generalize hxq : e.args[q] = x at *
         simp [hlt,hxq,exEnc]
         refine ⟨_,_,rLentC x _,?_⟩
         cases hl : lentOp x.op with
         | true =>
          have hal:=hbad (by simp [k18b,hl])
          simp [hl,ne18,h0,hmI,hi,hp1,hp2,hnm,hsc,hal]
         | false =>
          simp [hl,ne18,hlt,hxq,exEnc,wrd d (by omega)]
          refine ⟨_,_,hx (d - 1) _ (by omega) (by omega),?_⟩
          cases hw : x.whole (d - 1) with
          | false =>
           have hal:=hbad (by simp [hw])
           simp [hw,h0,hmI,hi,hp1,hp2,hnm,hsc,hal]
          | true =>
           simp [hw]
           exact ⟨q + 1,⟨hlt,by simpa using hnext (by simp [hw,k18b,hl])⟩,by omega,wrap_succ hlt⟩
        ·have hal : (e.args.all fun t=>((e.op == 18) || !lentOp t.op) && t.whole (d - 1)) = true:=by
          rw [List.all_eq_true]
          intro t ht
          obtain ⟨i,hi,rfl⟩:=List.getElem_of_mem ht
          exact hall i hi (by omega)
         have hltm : ¬ q < 2:=by omega
         have hltz : (2 : Int) ≤ (q : Int):=by omega
         simp [hlt,hltm,hltz,h0,hmI,hi,hp1,hp2,hnm,hsc,hal,hme,hpe]
     ·have hp3 : (0 : Int) < e.place.path.length:=by omega
      have hp4 : 0 < e.place.path.length:=by omega
      have hpe : ¬ e.place.path = []:=fun h=>hp2 (List.length_eq_zero_iff.2 h)
      simp [hv_2_i,hv_2_b,hv_2_p,hv_2_f,hv_2_n,hv_2_t,hv_2_v,h0,hmI,hi,hp1,hp2,hp3,hp4,hpe,strs]
  ·have hmI : ((e.args.length : Int) == 2) = false:=by rw [beq_eq_false_iff_ne]; omega
   have hme : ¬ (e.args.length = 2):=hm
   simp [h0,h0',hmI,hme]
 ·have h0' : d < 1:=by omega
  simp [h0,h0',hem]
end Go.Proofs.YtfbpibkpmcceaaaGreatDoor
