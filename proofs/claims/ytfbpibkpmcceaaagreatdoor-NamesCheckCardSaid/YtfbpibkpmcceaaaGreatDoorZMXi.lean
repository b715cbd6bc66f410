/- A part of the proof. The statement is proved in the claim's last text. -/
import Derived.Test.YtfbpibkpmcceaaaGreatDoorZMRa
import Derived.Test.YtfbpibkpmcceaaaGreatDoorZMXf
import Derived.Test.YtfbpibkpmcceaaaGreatDoorZMXg
import Derived.Test.YtfbpibkpmcceaaaGreatDoorZMXh
import Derived.Test.YtfbpibkpmcceaaaGreatDoorZMWp
set_option linter.unusedVariables false
set_option linter.unusedSimpArgs false
set_option maxRecDepth 100000
set_option maxHeartbeats 32000000
namespace Go.Proofs.YtfbpibkpmcceaaaGreatDoor
open Go.RowKit
attribute [local simp] List.replicate List.range List.range.loop resA resOne retA AV.cuts AV.cut AObj.cut trim wkR wkT wkL wkN wkNR wkNL wkM wkMR wkML
theorem re_tf6 (e : Ex) (hop : e.op = 19) (ih : ∀ x ∈ e.args,RE x) (hn : e.name.size ≤ 20000) (hs2 : e.second.size ≤ 20000) (hpl : PlSm e.place) (hsz : e.args.length ≤ 20000) : RE e:=by
 intro d S hd1 hd2
 have hf : formS e.op = (⟨#[116,102,54]⟩ : ByteArray):=by
  unfold formS
  first
   | (rcases hop with h <;> simp [h]; done)
   | (rw [if_neg (by omega),if_neg (by omega),if_neg (by omega),if_neg (by omega),if_pos (by omega)])
   | (simp [hop]; done)
 have hnn : 0 ≤ e.op ∧ e.op ≤ 255:=by omega
 have hR : e.whole d = (decide (1 ≤ d) && (decide ((e.args.length : Int) ≤ 6) && ((e.int == 0) && ((sEq e.place.name emS && (decide (e.place.path.length = e.args.length) && e.place.path.all nameB)) && (typeB e.name && (sEq e.second emS && e.args.all fun t=>((e.op == 18) || !lentOp t.op) && t.whole (d - 1))))))):=by
  have g1 : shP e.op = false:=by have h:=hop; simp [shP,h]
  have g2 : shL e.op = 0:=by have h:=hop; simp [shL,h]
  have g3 : shM e.op = 6:=by have h:=hop; simp [shM,h]
  have g4 : shO e.op = true:=by have h:=hop; simp [shO,h]
  have k18 : ¬ e.op = 18:=by omega
  have k1920 : e.op = 19 ∨ e.op = 20:=by omega
  have k20 : ¬ e.op = 20:=by omega
  have k1 : ¬ e.op = 1:=by omega
  have k2 : ¬ e.op = 2:=by omega
  have hq : (decide ((e.args.length : Int) ≤ 6)) = (decide ((0 : Int) ≤ (e.args.length : Int)) && decide ((e.args.length : Int) ≤ 6)):=by
   rw [Bool.eq_iff_iff]; simp <;> omega
  rw [exWhole_eq,hq]
  unfold exHead labB placedB
  rw [g1,g2,g3,g4,allUp_and _ e.args,if_neg k18,if_pos k1920,if_neg k20,if_neg k1,if_neg k2,if_neg (by decide),if_pos hop]
  have e6 : ∀ q : Bool,((decide (e.place.path.length = e.args.length) && e.place.path.all nameB) && (decide ((0 : Int) ≤ (e.args.length : Int)) && decide ((e.args.length : Int) ≤ 6)) && q) = ((decide (e.place.path.length = e.args.length) && allUp nameB e.place.path 6) && (decide ((0 : Int) ≤ (e.args.length : Int)) && decide ((e.args.length : Int) ≤ 6)) && q):=fun q=>by
   rw [allUp_and]
   by_cases h1 : e.place.path.length = e.args.length
   ·by_cases h2 : (e.args.length : Int) ≤ 6
    ·simp [h1,h2]
    ·simp [h2]
   ·simp [h1]
  rw [Bool.eq_iff_iff]
  simp only [Bool.and_eq_true]
  have e7:=e6 true
  rw [Bool.eq_iff_iff] at e7
  simp only [Bool.and_eq_true,and_true] at e7
  constructor
  ·rintro ⟨h1,⟨_,⟨⟨hN,hS⟩,hI⟩,hl1,hP1,hP⟩,hl2,hall⟩
   exact ⟨h1,⟨hl1,hl2⟩,hI,⟨hP1,(e7.2 ⟨hP,hl1,hl2⟩).1⟩,hN,hS,hall⟩
  ·rintro ⟨h1,⟨hl1,hl2⟩,hI,⟨hP1,hP⟩,hN,hS,hall⟩
   exact ⟨h1,⟨trivial,⟨⟨hN,hS⟩,hI⟩,hl1,hP1,(e7.1 ⟨hP,hl1,hl2⟩).1⟩,hl2,hall⟩
 rw [hR]
 have hlen : e.args.length ≤ maxLen:=sm_max hsz
 refine ADet.intro mixed Tryz.call107 Tryz.func107 rfl ?_
 simp [Tryz.ntmps107]
 refine ⟨_,_,formC e.op hnn.1 hnn.2 _,?_⟩
 rw [hf]
 have hem : sEq (⟨#[116,102,54]⟩ : ByteArray) emS = false:=sEq_ne (by decide)
 by_cases h0 : 1 ≤ d
 ·have h0' : ¬ d < 1:=by omega
  simp [h0,h0',hem]
  refine ⟨_,_,many_tf6 _ _,?_⟩
  by_cases hm : (e.args.length ≤ 6)
  ·have hmI : decide ((e.args.length : Int) ≤ 6) = true:=by rw [decide_eq_true_eq]; omega
   have hme : (e.args.length ≤ 6):=hm
   simp [h0,h0',hmI]
   refine ⟨_,_,hasC _ (by decide) 105 _,?_⟩
   simp [hv_tf6_i,hv_tf6_b,hv_tf6_p,hv_tf6_f,hv_tf6_n,hv_tf6_t,hv_tf6_v]
   refine ⟨_,_,hasC _ (by decide) 98 _,?_⟩
   cases hi : (e.int == 0) with
   | false =>
    have hj : (e.int != 0) = true:=by simp [bne,hi]
    simp [hv_tf6_i,hv_tf6_b,hv_tf6_p,hv_tf6_f,hv_tf6_n,hv_tf6_t,hv_tf6_v,h0,hmI,hi,hj]
   | true =>
    have hj : (e.int != 0) = false:=by simp [bne,hi]
    simp [hv_tf6_i,hv_tf6_b,hv_tf6_p,hv_tf6_f,hv_tf6_n,hv_tf6_t,hv_tf6_v,hj]
    refine ⟨_,_,hasC _ (by decide) 112 _,?_⟩
    simp [hv_tf6_i,hv_tf6_b,hv_tf6_p,hv_tf6_f,hv_tf6_n,hv_tf6_t,hv_tf6_v]
    refine ⟨_,_,hasC _ (by decide) 102 _,?_⟩
    simp [hv_tf6_i,hv_tf6_b,hv_tf6_p,hv_tf6_f,hv_tf6_n,hv_tf6_t,hv_tf6_v]
    refine ⟨_,_,rFieldsC e hpl _,?_⟩
    cases hp : (sEq e.place.name emS && (decide (e.place.path.length = e.args.length) && e.place.path.all nameB)) with
    | false=>simp [h0,hmI,hi,hp]
    | true =>
     simp [hv_tf6_i,hv_tf6_b,hv_tf6_p,hv_tf6_f,hv_tf6_n,hv_tf6_t,hv_tf6_v]
     refine ⟨_,_,hasC _ (by decide) 110 _,?_⟩
     simp [hv_tf6_i,hv_tf6_b,hv_tf6_p,hv_tf6_f,hv_tf6_n,hv_tf6_t,hv_tf6_v]
     refine ⟨_,_,hasC _ (by decide) 116 _,?_⟩
     simp [hv_tf6_i,hv_tf6_b,hv_tf6_p,hv_tf6_f,hv_tf6_n,hv_tf6_t,hv_tf6_v]
     refine ⟨_,_,rtypeC e.name (sm_max hn) _,?_⟩
     cases hnm : typeB e.name with
     | false=>simp [h0,hmI,hi,hp,hnm]
     | true =>
      simp [hnm]
      refine ⟨_,_,hasC _ (by decide) 110 _,?_⟩
      simp [hv_tf6_i,hv_tf6_b,hv_tf6_p,hv_tf6_f,hv_tf6_n,hv_tf6_t,hv_tf6_v]
      refine ⟨_,_,hasC _ (by decide) 116 _,?_⟩
      simp [hv_tf6_i,hv_tf6_b,hv_tf6_p,hv_tf6_f,hv_tf6_n,hv_tf6_t,hv_tf6_v]
      refine ⟨_,_,hasC _ (by decide) 118 _,?_⟩
      simp [hv_tf6_i,hv_tf6_b,hv_tf6_p,hv_tf6_f,hv_tf6_n,hv_tf6_t,hv_tf6_v]
      refine ⟨_,_,hasC _ (by decide) 118 _,?_⟩
      cases hsc : sEq e.second emS with
      | false=>simp [hv_tf6_i,hv_tf6_b,hv_tf6_p,hv_tf6_f,hv_tf6_n,hv_tf6_t,hv_tf6_v,h0,hmI,hi,hp,hnm,hsc]
      | true =>
       simp [hv_tf6_i,hv_tf6_b,hv_tf6_p,hv_tf6_f,hv_tf6_n,hv_tf6_t,hv_tf6_v,hsc]
       have k18b : (e.op == 18) = false:=by simp; omega
       have ne18 : (e.op != 18) = true:=by simp [bne,k18b]
       refine awp_loop (fun q : Nat=>q ≤ e.args.length ∧ ∀ i (hi : i < e.args.length),i < q → (((e.op == 18) || !lentOp e.args[i].op) && e.args[i].whole (d - 1)) = true) (fun q=>([.any,I d,.ptr 0 0 0,.any,.any,.any,I q] ++ List.replicate 139 .any)) (fun q=>[.cells [U e.op,I e.int,Sg e.name,Sg e.second,Sg e.place.name,.p (strs e.place.path),.p (.sl 8 (e.args.map Ex.enc)),I e.pos] 45] :: S) (fun q=>e.args.length - q) 0 ⟨Nat.zero_le _,fun i hi h=>by omega⟩ ?_ ?_ ?_
       ·simp
       ·simp [strs]
       rintro q ⟨hq,hall⟩
       by_cases hlt : q < e.args.length
       ·have hx:=ih _ (List.getElem_mem hlt)
        have hbad : (((e.op == 18) || !lentOp e.args[q].op) && e.args[q].whole (d - 1)) = false → (e.args.all fun t=>((e.op == 18) || !lentOp t.op) && t.whole (d - 1)) = false:=fun h=>List.all_eq_false.2 ⟨_,List.getElem_mem hlt,by simp [h]⟩
        have hnext : (((e.op == 18) || !lentOp e.args[q].op) && e.args[q].whole (d - 1)) = true → ∀ i (hi : i < e.args.length),i < q + 1 → (((e.op == 18) || !lentOp e.args[i].op) && e.args[i].whole (d - 1)) = true:=fun hh i hi h=>by
         rcases Nat.lt_or_ge i q with h' | h'
         ·exact hall i hi h'
         ·obtain rfl : i = q:=by omega
          exact hh
        generalize hxq : e.args[q] = x at *
        simp [hlt,hxq,exEnc]
        refine ⟨_,_,rLentC x _,?_⟩
        cases hl : lentOp x.op with
        | true =>
         have hal:=hbad (by simp [k18b,hl])
         simp [hl,ne18,h0,hmI,hi,hp,hnm,hsc,hal]
        | false =>
         simp [hl,ne18,hlt,hxq,exEnc,wrd d (by omega)]
         refine ⟨_,_,hx (d - 1) _ (by omega) (by omega),?_⟩
         cases hw : x.whole (d - 1) with
         | false =>
          have hal:=hbad (by simp [hw])
          simp [hw,h0,hmI,hi,hp,hnm,hsc,hal]
         | true =>
          simp [hw]
          exact ⟨q + 1,⟨hlt,by simpa using hnext (by simp [hw,k18b,hl])⟩,by omega,wrap_succ hlt⟩
       ·have hal : (e.args.all fun t=>((e.op == 18) || !lentOp t.op) && t.whole (d - 1)) = true:=by
         rw [List.all_eq_true]
         intro t ht
         obtain ⟨i,hi,rfl⟩:=List.getElem_of_mem ht
         exact hall i hi (by omega)
        have hltm : ¬ q < e.args.length:=by omega
        have hltz : (0 : Int) ≤ (q : Int):=by omega
        simp [hlt,hltm,hltz,h0,hmI,hi,hp,hnm,hsc,hal,hme]
  ·have hmI : decide ((e.args.length : Int) ≤ 6) = false:=by rw [decide_eq_false_iff_not]; omega
   have hme : ¬ (e.args.length ≤ 6):=hm
   simp [h0,h0',hmI,hme]
 ·have h0' : d < 1:=by omega
  simp [h0,h0',hem]
theorem re_tv9 (e : Ex) (hop : e.op = 20) (ih : ∀ x ∈ e.args,RE x) (hn : e.name.size ≤ 20000) (hs2 : e.second.size ≤ 20000) (hpl : PlSm e.place) (hsz : e.args.length ≤ 20000) : RE e:=by
 intro d S hd1 hd2
 have hf : formS e.op = (⟨#[116,118,57]⟩ : ByteArray):=by
  unfold formS
  first
   | (rcases hop with h <;> simp [h]; done)
   | (rw [if_neg (by omega),if_neg (by omega),if_neg (by omega),if_neg (by omega),if_pos (by omega)])
   | (simp [hop]; done)
 have hnn : 0 ≤ e.op ∧ e.op ≤ 255:=by omega
 have hR : e.whole d = (decide (1 ≤ d) && (decide ((e.args.length : Int) ≤ 1) && ((e.int == 0) && ((sEq e.place.name emS && decide (e.place.path.length = 0)) && (typeB e.name && (typeB e.second && e.args.all fun t=>((e.op == 18) || !lentOp t.op) && t.whole (d - 1))))))):=by
  have g1 : shP e.op = false:=by have h:=hop; simp [shP,h]
  have g2 : shL e.op = 0:=by have h:=hop; simp [shL,h]
  have g3 : shM e.op = 1:=by have h:=hop; simp [shM,h]
  have g4 : shO e.op = true:=by have h:=hop; simp [shO,h]
  have k18 : ¬ e.op = 18:=by omega
  have k1920 : e.op = 19 ∨ e.op = 20:=by omega
  have k1 : ¬ e.op = 1:=by omega
  have k2 : ¬ e.op = 2:=by omega
  have k19 : ¬ e.op = 19:=by omega
  have hq : (decide ((e.args.length : Int) ≤ 1)) = (decide ((0 : Int) ≤ (e.args.length : Int)) && decide ((e.args.length : Int) ≤ 1)):=by
   rw [Bool.eq_iff_iff]; simp <;> omega
  rw [exWhole_eq,hq]
  unfold exHead labB placedB
  rw [g1,g2,g3,g4,allUp_and _ e.args,if_neg k18,if_pos k1920,if_pos hop,if_neg k1,if_neg k2,if_neg (by decide),if_neg k19]
  unfold noPlB
  rw [Bool.eq_iff_iff]
  simp only [Bool.and_eq_true]
  constructor
  ·rintro ⟨h1,⟨_,⟨⟨hN,hS⟩,hI⟩,hl1,hP⟩,hl2,hall⟩
   exact ⟨h1,⟨hl1,hl2⟩,hI,hP,hN,hS,hall⟩
  ·rintro ⟨h1,⟨hl1,hl2⟩,hI,hP,hN,hS,hall⟩
   exact ⟨h1,⟨trivial,⟨⟨hN,hS⟩,hI⟩,hl1,hP⟩,hl2,hall⟩
 rw [hR]
 have hlen : e.args.length ≤ maxLen:=sm_max hsz
 refine ADet.intro mixed Tryz.call107 Tryz.func107 rfl ?_
 simp [Tryz.ntmps107]
 refine ⟨_,_,formC e.op hnn.1 hnn.2 _,?_⟩
 rw [hf]
 have hem : sEq (⟨#[116,118,57]⟩ : ByteArray) emS = false:=sEq_ne (by decide)
 by_cases h0 : 1 ≤ d
 ·have h0' : ¬ d < 1:=by omega
  simp [h0,h0',hem]
  refine ⟨_,_,many_tv9 _ _,?_⟩
  by_cases hm : (e.args.length ≤ 1)
  ·have hmI : decide ((e.args.length : Int) ≤ 1) = true:=by rw [decide_eq_true_eq]; omega
   have hme : (e.args.length ≤ 1):=hm
   simp [h0,h0',hmI]
   refine ⟨_,_,hasC _ (by decide) 105 _,?_⟩
   simp [hv_tv9_i,hv_tv9_b,hv_tv9_p,hv_tv9_f,hv_tv9_n,hv_tv9_t,hv_tv9_v]
   refine ⟨_,_,hasC _ (by decide) 98 _,?_⟩
   cases hi : (e.int == 0) with
   | false =>
    have hj : (e.int != 0) = true:=by simp [bne,hi]
    simp [hv_tv9_i,hv_tv9_b,hv_tv9_p,hv_tv9_f,hv_tv9_n,hv_tv9_t,hv_tv9_v,h0,hmI,hi,hj]
   | true =>
    have hj : (e.int != 0) = false:=by simp [bne,hi]
    simp [hv_tv9_i,hv_tv9_b,hv_tv9_p,hv_tv9_f,hv_tv9_n,hv_tv9_t,hv_tv9_v,hj]
    refine ⟨_,_,hasC _ (by decide) 112 _,?_⟩
    simp [hv_tv9_i,hv_tv9_b,hv_tv9_p,hv_tv9_f,hv_tv9_n,hv_tv9_t,hv_tv9_v]
    refine ⟨_,_,hasC _ (by decide) 102 _,?_⟩
    cases hp1 : sEq e.place.name emS with
    | false=>simp [hv_tv9_i,hv_tv9_b,hv_tv9_p,hv_tv9_f,hv_tv9_n,hv_tv9_t,hv_tv9_v,h0,hmI,hi,hp1]
    | true =>
     by_cases hp2 : e.place.path.length = 0
     ·have hp3 : ¬ (0 : Int) < e.place.path.length:=by omega
      have hp4 : ¬ 0 < e.place.path.length:=by omega
      have hpe : e.place.path = []:=List.length_eq_zero_iff.1 hp2
      simp [hv_tv9_i,hv_tv9_b,hv_tv9_p,hv_tv9_f,hv_tv9_n,hv_tv9_t,hv_tv9_v,hp1,hp2,hp3,hp4,strs]
      refine ⟨_,_,hasC _ (by decide) 110 _,?_⟩
      simp [hv_tv9_i,hv_tv9_b,hv_tv9_p,hv_tv9_f,hv_tv9_n,hv_tv9_t,hv_tv9_v]
      refine ⟨_,_,hasC _ (by decide) 116 _,?_⟩
      simp [hv_tv9_i,hv_tv9_b,hv_tv9_p,hv_tv9_f,hv_tv9_n,hv_tv9_t,hv_tv9_v]
      refine ⟨_,_,rtypeC e.name (sm_max hn) _,?_⟩
      cases hnm : typeB e.name with
      | false=>simp [h0,hmI,hi,hp1,hp2,hnm]
      | true =>
       simp [hnm]
       refine ⟨_,_,hasC _ (by decide) 110 _,?_⟩
       simp [hv_tv9_i,hv_tv9_b,hv_tv9_p,hv_tv9_f,hv_tv9_n,hv_tv9_t,hv_tv9_v]
       refine ⟨_,_,hasC _ (by decide) 116 _,?_⟩
       simp [hv_tv9_i,hv_tv9_b,hv_tv9_p,hv_tv9_f,hv_tv9_n,hv_tv9_t,hv_tv9_v]
       refine ⟨_,_,hasC _ (by decide) 118 _,?_⟩
       simp [hv_tv9_i,hv_tv9_b,hv_tv9_p,hv_tv9_f,hv_tv9_n,hv_tv9_t,hv_tv9_v]
       refine ⟨_,_,rtypeC e.second (sm_max hs2) _,?_⟩
       cases hsc : typeB e.second with
       | false=>simp [h0,hmI,hi,hp1,hp2,hnm,hsc]
       | true =>
        simp [hsc]
        refine ⟨_,_,hasC _ (by decide) 118 _,?_⟩
        simp [hv_tv9_i,hv_tv9_b,hv_tv9_p,hv_tv9_f,hv_tv9_n,hv_tv9_t,hv_tv9_v]
        have k18b : (e.op == 18) = false:=by simp; omega
        have ne18 : (e.op != 18) = true:=by simp [bne,k18b]
        refine awp_loop (fun q : Nat=>q ≤ e.args.length ∧ ∀ i (hi : i < e.args.length),i < q → (((e.op == 18) || !lentOp e.args[i].op) && e.args[i].whole (d - 1)) = true) (fun q=>([.any,I d,.ptr 0 0 0,.any,.any,.any,I q] ++ List.replicate 139 .any)) (fun q=>[.cells [U e.op,I e.int,Sg e.name,Sg e.second,Sg e.place.name,.p (strs e.place.path),.p (.sl 8 (e.args.map Ex.enc)),I e.pos] 45] :: S) (fun q=>e.args.length - q) 0 ⟨Nat.zero_le _,fun i hi h=>by omega⟩ ?_ ?_ ?_
        ·simp
        ·simp [strs]
        rintro q ⟨hq,hall⟩
        by_cases hlt : q < e.args.length
        ·have hx:=ih _ (List.getElem_mem hlt)
         have hbad : (((e.op == 18) || !lentOp e.args[q].op) && e.args[q].whole (d - 1)) = false → (e.args.all fun t=>((e.op == 18) || !lentOp t.op) && t.whole (d - 1)) = false:=fun h=>List.all_eq_false.2 ⟨_,List.getElem_mem hlt,by simp [h]⟩
         have hnext : (((e.op == 18) || !lentOp e.args[q].op) && e.args[q].whole (d - 1)) = true → ∀ i (hi : i < e.args.length),i < q + 1 → (((e.op == 18) || !lentOp e.args[i].op) && e.args[i].whole (d - 1)) = true:=fun hh i hi h=>by
          rcases Nat.lt_or_ge i q with h' | h'
          ·exact hall i hi h'
          ·obtain rfl : i = q:=by omega
           exact hh
         generalize hxq : e.args[q] = x at *
         simp [hlt,hxq,exEnc]
         refine ⟨_,_,rLentC x _,?_⟩
         cases hl : lentOp x.op with
         | true =>
          have hal:=hbad (by simp [k18b,hl])
          simp [hl,ne18,h0,hmI,hi,hp1,hp2,hnm,hsc,hal]
         | false =>
          simp [hl,ne18,hlt,hxq,exEnc,wrd d (by omega)]
          refine ⟨_,_,hx (d - 1) _ (by omega) (by omega),?_⟩
          cases hw : x.whole (d - 1) with
          | false =>
           have hal:=hbad (by simp [hw])
           simp [hw,h0,hmI,hi,hp1,hp2,hnm,hsc,hal]
          | true =>
           simp [hw]
           exact ⟨q + 1,⟨hlt,by simpa using hnext (by simp [hw,k18b,hl])⟩,by omega,wrap_succ hlt⟩
        ·have hal : (e.args.all fun t=>((e.op == 18) || !lentOp t.op) && t.whole (d - 1)) = true:=by
          rw [List.all_eq_true]
          intro t ht
          obtain ⟨i,hi,rfl⟩:=List.getElem_of_mem ht
          exact hall i hi (by omega)
         have hltm : ¬ q < e.args.length:=by omega
         have hltz : (0 : Int) ≤ (q : Int):=by omega
         simp [hlt,hltm,hltz,h0,hmI,hi,hp1,hp2,hnm,hsc,hal,hme,hpe]
     ·have hp3 : (0 : Int) < e.place.path.length:=by omega
      have hp4 : 0 < e.place.path.length:=by omega
      have hpe : ¬ e.place.path = []:=fun h=>hp2 (List.length_eq_zero_iff.2 h)
      simp [hv_tv9_i,hv_tv9_b,hv_tv9_p,hv_tv9_f,hv_tv9_n,hv_tv9_t,hv_tv9_v,h0,hmI,hi,hp1,hp2,hp3,hp4,hpe,strs]
  ·have hmI : decide ((e.args.length : Int) ≤ 1) = false:=by rw [decide_eq_false_iff_not]; omega
   have hme : ¬ (e.args.length ≤ 1):=hm
   simp [h0,h0',hmI,hme]
 ·have h0' : d < 1:=by omega
  simp [h0,h0',hem]
end Go.Proofs.YtfbpibkpmcceaaaGreatDoor
namespace Go.Proofs.YtfbpibkpmcceaaaGreatDoor
open Go.RowKit
attribute [local simp] List.replicate List.range List.range.loop resA resOne retA
theorem formS_out (op : Int) (h : ¬ (1 ≤ op ∧ op ≤ 36)) : formS op = emS:=by
 unfold formS
 rw [if_neg (by omega),if_neg (by omega),if_neg (by omega),if_neg (by omega),if_neg (by omega),if_neg (by omega),if_neg (by omega),if_neg (by omega),if_neg (by omega),if_neg (by omega)]
theorem shO_out (op : Int) (h : ¬ (1 ≤ op ∧ op ≤ 36)) : shO op = false:=by
 unfold shO
 simp
 omega
theorem re_out (e : Ex) (h : ¬ (1 ≤ e.op ∧ e.op ≤ 36)) (hnn : 0 ≤ e.op ∧ e.op ≤ 255) : RE e:=by
 intro d S hd1 hd2
 have hR : e.whole d = false:=by rw [exWhole_eq]; simp [exHead,shO_out _ h]
 rw [hR]
 refine ADet.intro mixed Tryz.call107 Tryz.func107 rfl ?_
 simp [Tryz.ntmps107]
 refine ⟨_,_,formC e.op hnn.1 hnn.2 _,?_⟩
 rw [formS_out _ h]
 by_cases h0 : 1 ≤ d
 ·have h0' : ¬ d < 1:=by omega
  simp [h0,h0',sEq_self]
 ·have h0' : d < 1:=by omega
  simp [h0,h0',sEq_self]
theorem rExprC : ∀ (e : Ex),ExSm e → ExNn e → RE e:=by
 refine Ex.ind fun e ih hsm hnn=>?_
 have hn2:=(exNn_iff e).1 hnn
 cases hsm with
 | mk _ hn hs2 hpl hsz ha =>
 have ih' : ∀ x ∈ e.args,RE x:=fun x hx=>ih x hx (ha x hx) (hn2.2 x hx)
 have hop:=hn2.1
 by_cases k0 : 1 ≤ e.op ∧ e.op ≤ 36
 ·by_cases k1 : e.op = 1
  ·exact re_i0 e k1 ih' hn hs2 hpl hsz
  by_cases k2 : e.op = 2
  ·exact re_b0 e k2 ih' hn hs2 hpl hsz
  by_cases k3 : e.op = 3
  ·exact re_0 e k3 ih' hn hs2 hpl hsz
  by_cases k4 : (e.op = 4 ∨ e.op = 5 ∨ e.op = 6 ∨ e.op = 24 ∨ e.op = 28 ∨ e.op = 32 ∨ e.op = 36)
  ·exact re_p0 e k4 ih' hn hs2 hpl hsz
  by_cases k5 : (9 ≤ e.op ∧ e.op ≤ 17)
  ·exact re_2 e k5 ih' hn hs2 hpl hsz
  by_cases k6 : e.op = 18
  ·exact re_n6 e k6 ih' hn hs2 hpl hsz
  by_cases k7 : e.op = 19
  ·exact re_tf6 e k7 ih' hn hs2 hpl hsz
  by_cases k8 : e.op = 20
  ·exact re_tv9 e k8 ih' hn hs2 hpl hsz
  by_cases k9 : (e.op = 25 ∨ e.op = 33 ∨ e.op = 34 ∨ e.op = 35)
  ·exact re_p1 e k9 ih' hn hs2 hpl hsz
  ·exact re_1 e (by omega) ih' hn hs2 hpl hsz
 ·exact re_out e k0 hop
end Go.Proofs.YtfbpibkpmcceaaaGreatDoor
