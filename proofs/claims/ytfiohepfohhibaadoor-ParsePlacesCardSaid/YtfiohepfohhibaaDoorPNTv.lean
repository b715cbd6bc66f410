/- A part of the proof. The statement is proved in the claim's last text. -/
import Derived.Test.YtfiohepfohhibaaDoorPNPp
import Derived.Test.YtfiohepfohhibaaDoorPNTt
import Derived.Test.YtfiohepfohhibaaDoorPNTu
set_option linter.unusedVariables false
set_option linter.unusedSimpArgs false
set_option maxRecDepth 100000
set_option maxHeartbeats 32000000
namespace Go.Proofs.YtfiohepfohhibaaDoor
open Go.RowKit
def nlB (b : Int) : Bool:=b != 10
def betT : Bool → List UInt8 → Nat
 | _,[]=>0
 | true,b :: r=>if b = 10 then betT false r + 1 else betT true r + 1
 | false,b :: r=>if spB b = true then betT false r + 1 else if b = 47 ∧ r.head? = some 47 then betT true r + 1 else 0
theorem betT_le : ∀ (l : List UInt8) (t : Bool),betT t l ≤ l.length
 | [],t=>by rw [betT]; omega
 | b :: r,true=>by
  have h1:=betT_le r true
  have h2:=betT_le r false
  rw [betT]
  split <;> simp only [List.length_cons] <;> omega
 | b :: r,false=>by
  have h1:=betT_le r true
  have h2:=betT_le r false
  rw [betT]
  split
  ·simp only [List.length_cons]; omega
  ·split <;> simp only [List.length_cons] <;> omega
theorem nlB_iff (b : UInt8) : nlB b.toNat = true ↔ b ≠ 10:=by
 unfold nlB
 rw [bne_iff_ne]
 constructor
 ·rintro h rfl
  exact h rfl
 ·intro h k
  exact h (UInt8.toNat_inj.1 (by show b.toNat = 10; omega))
theorem betT_run : ∀ l : List UInt8,betT true l = runLen nlB l + betT false (l.drop (runLen nlB l))
 | []=>rfl
 | b :: r=>by
  by_cases h : b = 10
  ·subst h
   have : runLen nlB (10 :: r) = 0:=by
    rw [runLen,if_neg]
    intro k
    exact ((nlB_iff 10).1 k) rfl
   rw [this,betT,if_pos rfl,List.drop_zero,betT,if_pos (by decide)]
   omega
  ·have h1 : runLen nlB (b :: r) = runLen nlB r + 1:=by rw [runLen,if_pos ((nlB_iff b).2 h)]
   rw [h1,betT,if_neg h,betT_run r,List.drop_succ_cons]
   omega
def lexT : Nat → Nat → List UInt8 → List Tok × Option Nat
 | 0,_,_=>([],none)
 | _ + 1,_,[]=>([],none)
 | f + 1,pos,b :: r =>
  match oneF (b :: r) with
  | none=>([],some pos)
  | some (k,n)=>(fun (x : List Tok × Option Nat)=>(⟨k,⟨((b :: r).take n).toArray⟩,pos⟩ :: x.1,x.2)) (lexT f (pos + n + betT false ((b :: r).drop n)) ((b :: r).drop (n + betT false ((b :: r).drop n))))
theorem bytes_size (l : List UInt8) : (⟨l.toArray⟩ : ByteArray).size = l.length:=by
 show l.toArray.size = _
 simp
theorem oneF_num {l : List UInt8} {n : Nat} (hl : l.length ≤ 4000) (h : oneF l = some (4,n)) : ∃ v,numT ⟨(l.take n).toArray⟩ = some v:=by
 have hn1:=oneF_n h
 have hnl:=(oneF_pos h).2.2
 unfold oneF at h
 split at h
 ·cases h
 rename_i b r
 dsimp only at h
 split at h
 ·split at h
  ·cases h
  split at h
  ·cases h
  split at h
  ·cases h
  ·cases h
 split at h
 ·split at h
  ·rename_i hd
   obtain ⟨_,rfl⟩:=Prod.mk.inj (Option.some.inj h)
   have hall:=run_all digitB (b :: r)
   unfold numT
   rw [if_pos]
   ·exact ⟨_,rfl⟩
   ·refine ⟨?_,?_,?_,hd⟩
    ·rw [bytes_size,List.length_take]; omega
    ·rw [bytes_size,List.length_take]; omega
    ·show (List.all ((b :: r).take (runLen digitB (b :: r))) _) = true
     rw [List.all_eq_true]
     exact hall
  ·cases h
 ·split at h
  ·cases h
  ·cases h
structure LexOk (pos : Nat) (l : List Tok) : Prop where
 lo : ∀ t ∈ l,pos ≤ t.pos
 asc : Asc l
 text : ∀ t ∈ l,t.text.size ≤ 4000
 num : NumsOk l
theorem asc_nil : Asc []:=fun i j t u _ h=>by simp at h
theorem asc_cons {x : Tok} {l : List Tok} (h : ∀ t ∈ l,x.pos < t.pos) (k : Asc l) : Asc (x :: l):=fun i j t u hij hi hj=>by
 cases j with
 | zero=>omega
 | succ j =>
  rw [List.getElem?_cons_succ] at hj
  cases i with
  | zero =>
   rw [List.getElem?_cons_zero] at hi
   obtain rfl:=Option.some.inj hi
   exact h u (List.mem_of_getElem? hj)
  | succ i =>
   rw [List.getElem?_cons_succ] at hi
   exact k i j t u (by omega) hi hj
theorem lexT_ok : ∀ (f pos : Nat) (l : List UInt8),l.length ≤ 4000 → LexOk pos (lexT f pos l).1
 | 0,pos,l,_=>⟨nofun,asc_nil,nofun,nofun⟩
 | f + 1,pos,[],_=>⟨nofun,asc_nil,nofun,nofun⟩
 | f + 1,pos,b :: r,hl=>by
  unfold lexT
  cases h1 : oneF (b :: r) with
  | none=>exact ⟨nofun,asc_nil,nofun,nofun⟩
  | some x =>
   obtain ⟨k,n⟩:=x
   have hn1:=oneF_n h1
   have ih:=lexT_ok f (pos + n + betT false ((b :: r).drop n)) ((b :: r).drop (n + betT false ((b :: r).drop n))) (by rw [List.length_drop]; omega)
   dsimp only
   generalize (lexT f (pos + n + betT false ((b :: r).drop n)) ((b :: r).drop (n + betT false ((b :: r).drop n)))).1 = w at ih ⊢
   refine ⟨fun t ht=>?_,asc_cons (fun t ht=>?_) ih.asc,fun t ht=>?_,fun t ht hk=>?_⟩
   ·rcases List.mem_cons.1 ht with rfl | ht
    ·exact Nat.le_refl _
    ·have:=ih.lo t ht; omega
   ·have:=ih.lo t ht
    show pos < t.pos
    omega
   ·rcases List.mem_cons.1 ht with rfl | ht
    ·show (⟨((b :: r).take n).toArray⟩ : ByteArray).size ≤ 4000
     rw [bytes_size,List.length_take]; omega
    ·exact ih.text t ht
   ·rcases List.mem_cons.1 ht with rfl | ht
    ·have hk : k = 4:=hk
     subst hk
     exact oneF_num hl h1
    ·exact ih.num t ht hk
def tokT (s : ByteArray) : List Tok:=(lexT 4001 (betT false s.data.toList) (s.data.toList.drop (betT false s.data.toList))).1
def errT (s : ByteArray) : Option Nat:=(lexT 4001 (betT false s.data.toList) (s.data.toList.drop (betT false s.data.toList))).2
theorem tokT_ok (s : ByteArray) (hs : s.size ≤ 4000) : LexOk (betT false s.data.toList) (tokT s):=lexT_ok _ _ _ (by
 have : s.data.toList.length = s.size:=by simp
 rw [List.length_drop]; omega)
theorem tokT_sm (s : ByteArray) (hs : s.size ≤ 4000) (h : (tokT s).length ≤ 1500) : TokSm (tokT s):=⟨h,(tokT_ok s hs).text⟩
end Go.Proofs.YtfiohepfohhibaaDoor
namespace Go.Proofs.YtfiohepfohhibaaDoor
open Go.RowKit
attribute [local simp] List.replicate List.range List.range.loop resA resOne retA AV.cuts AV.cut AObj.cut trim wkR wkT wkL wkN wkNR wkNL wkM wkMR wkML
theorem nl_any (b : Int) (w : World) : Calls Tryd.prog 30 #[.int .u8 b] w fun e w'=>e = .returned (.bool (nlB b)) ∧ w = w':=by
 have hv : nlB b = (b != 10):=rfl
 generalize nlB b = c at *
 go_enter Tryd.func30,Tryd.ntmps30
 go_wp2
 all_goals go_ret
 all_goals exact ⟨by first | (simp [*]; done) | (simp [*]; omega) | (subst hv; rfl),rfl⟩
theorem runNlC (s : ByteArray) (hs : s.size ≤ 4000) (S : ASt) : ADet Tryd.prog 29 [Sg s,.fn (.func 30) [] []] S (I (runLen nlB s.data.toList)) S:=runC nlB 30 s (by unfold maxLen; omega) Tryd.call30 (fun b w=>nl_any b w) S
theorem betweenT (s : ByteArray) (hs : s.size ≤ 4000) (S : ASt) : ADet Tryd.prog 14 [Sg s] S (I (betT false s.data.toList)) S:=by
 have hlen : s.data.toList.length = s.size:=by simp
 have hle:=betT_le s.data.toList false
 have hxf:=fun q=>ext_from s q
 generalize hl : s.data.toList = l at *
 generalize hn : betT false l = n at *
 refine ADet.intro mixed Tryd.call14 Tryd.func14 rfl ?_
 simp [Tryd.ntmps14]
 refine awp_loop (fun q : Nat=>q ≤ l.length ∧ q + betT false (l.drop q) = n) (fun q=>([Sg s,.any,.any,I q] ++ List.replicate 25 .any)) (fun q=>[] :: S) (fun q=>l.length - q) 0 ⟨Nat.zero_le _,by simpa using hn⟩ ?_ ?_ ?_
 ·simp
 ·simp
 rintro q ⟨hq,hqm⟩
 by_cases hlt : q < l.length
 ·have hlt' : (q : Int) < (s.size : Int):=by omega
  obtain ⟨b,hb⟩ : ∃ b,l[q]? = some b:=⟨l[q],List.getElem?_eq_getElem hlt⟩
  have hdrop : l.drop q = b :: l.drop (q + 1):=by
   rw [List.drop_eq_getElem_cons hlt]
   congr 1
   exact Option.some.inj ((List.getElem?_eq_getElem hlt).symm.trans hb)
  have hsp:=index_sp b
  have hqs : q ≤ s.size:=by omega
  simp [hlt',hl,hb]
  refine ⟨_,_,indexByteC _ b _,?_⟩
  rw [hdrop,betT] at hqm
  cases hspb : spB b with
  | true =>
   rw [hspb] at hsp
   rw [if_pos hspb] at hqm
   have h0:=hsp.2 rfl
   simp [h0]
   exact ⟨q + 1,⟨by omega,by omega⟩,by omega,wrap_succ hlt (by unfold maxLen; omega)⟩
  | false =>
   rw [hspb] at hsp
   rw [if_neg (by rw [hspb]; simp)] at hqm
   have h0 : ¬ 0 ≤ Lib.indexByte [32,9,10,13] b:=fun e=>by have:=hsp.1 e; cases this
   by_cases hr : b = 47 ∧ (l.drop (q + 1)).head? = some 47
   ·rw [if_pos hr] at hqm
    have hpre : preB (⟨#[47,47]⟩ : ByteArray) (s.extract q s.size) = true:=by
     rw [preB_iff,hxf q,hdrop]
     obtain ⟨rfl,h2⟩:=hr
     cases hd2 : l.drop (q + 1) with
     | nil=>rw [hd2] at h2; simp at h2
     | cons c r =>
      rw [hd2] at h2
      simp only [List.head?_cons,Option.some.injEq] at h2
      subst h2
      simp
    have hk1 : runLen nlB (l.drop q) = runLen nlB (l.drop (q + 1)) + 1:=by
     rw [hdrop,runLen,if_pos ((nlB_iff b).2 (by rw [hr.1]; decide))]
    have hbr:=betT_run (l.drop (q + 1))
    rw [List.drop_drop] at hbr
    have hkl:=runLen_le nlB (l.drop (q + 1))
    rw [List.length_drop] at hkl
    have hsz : (s.extract q s.size).size ≤ 4000:=by rw [ByteArray.size_extract]; omega
    have rC:=fun S=>runNlC (s.extract q s.size) hsz S
    rw [hxf q,hk1] at rC
    generalize hk : runLen nlB (l.drop (q + 1)) = K at *
    have hw : IntKind.i64.wrap ((q : Int) + ((K + 1 : Nat) : Int)) = ((q + (K + 1) : Nat) : Int):=by
     rw [IntWalk.i64_in _ (by omega)]; omega
    obtain ⟨J,hJ⟩ : ∃ J,J = K + 1:=⟨_,rfl⟩
    rw [← hJ] at rC hw
    obtain ⟨R,hR⟩ : ∃ R,R = q + J:=⟨_,rfl⟩
    rw [← hR] at hw
    simp [h0,hqs]
    refine ⟨_,_,hasPrefixC _ _ _,?_⟩
    simp [hpre,hqs]
    refine ⟨_,_,rC _,?_⟩
    simp [hw]
    refine ⟨R,⟨by omega,?_⟩,by omega,rfl⟩
    rw [hR,hJ,show q + (K + 1) = q + 1 + K by omega]
    omega
   ·rw [if_neg hr] at hqm
    have hpre : preB (⟨#[47,47]⟩ : ByteArray) (s.extract q s.size) = false:=by
     rw [preB_iff,hxf q,hdrop,Bool.eq_false_iff]
     intro hp
     cases hd2 : l.drop (q + 1) with
     | nil=>rw [hd2] at hp; simp at hp
     | cons c r =>
      rw [hd2] at hp hr
      simp at hp
      exact hr ⟨hp.1.symm,by rw [← hp.2]; rfl⟩
    have hqn : q = n:=by omega
    simp [h0,hqs]
    refine ⟨_,_,hasPrefixC _ _ _,?_⟩
    simp [hpre]
    omega
 ·have hlt' : ¬ (q : Int) < (s.size : Int):=by omega
  have hqn : q = n:=by
   rw [List.drop_of_length_le (by omega),betT] at hqm
   omega
  simp [hlt']
  omega
end Go.Proofs.YtfiohepfohhibaaDoor
namespace Go.Proofs.YtfiohepfohhibaaDoor
open Go.RowKit
attribute [local simp] List.replicate List.range List.range.loop resA resOne retA AV.cuts AV.cut AObj.cut trim wkR wkT wkL wkN wkNR wkNL wkM wkMR wkML virtL virtO virt_get markL markO markR_get rowA awpI_nil awpI_cons List.forall_mem_cons List.contains_cons List.contains_nil List.find? nextD_eq awpD_nil awpD_cons LCp LCl refL
theorem mul64O (v : Nat) (hv : v < 18446744073709551616) (S : ASt) : ADet Tryd.prog 65 [U64 v,U64 10] S (.tup [U64 (v * 10 / 18446744073709551616 : Nat),U64 (v * 10 % 18446744073709551616 : Nat)]) S :=
 ADet.of_callsA (x:=.tuple #[.int .u64 (v * 10 / 18446744073709551616 : Nat),.int .u64 (v * 10 % 18446744073709551616 : Nat)]) (ra_pair _ _ rfl rfl) Tryd.call65 fun Pr φ xs w hargs hR=>by
  obtain rfl:=rl_vals (l:=[.int .u64 v,.int .u64 10]) hargs
  refine (Tryd.bits_Mul64 v 10 (by omega) (by decide) w).mono ?_
  rintro e w' ⟨rfl,rfl⟩
  exact ⟨rfl,Below.refl _ _⟩
theorem timesO (v : Nat) (hv : v < 18446744073709551616) (h : 18446744073709551616 ≤ v * 10) (S : ASt) : ADet Tryd.prog 56 [.agg [B false,U64 v],.agg [B false,U64 10]] S (.tup [.agg [B false,U64 (v * 10 % 18446744073709551616 : Nat)],B false]) S:=by
 refine ADet.intro mixed Tryd.call56 Tryd.func56 rfl ?_
 have hm:=fun S=>mul64O v hv S
 have h1 : v * 10 / 18446744073709551616 ≠ 0:=by omega
 generalize v * 10 / 18446744073709551616 = H at *
 generalize v * 10 % 18446744073709551616 = L at *
 have h2 : ((H : Int) == 0) = false:=by rw [beq_eq_false_iff_ne]; omega
 have h3 : ¬ (H : Int) = 0:=by omega
 simp [Tryd.ntmps56]
 refine ⟨_,_,hm _,?_⟩
 simp [h2,h3,h1]
theorem ra_wholeO (v : Int) (Pr : Prot) (φ : Fi2) : RA Pr φ (.tup [.agg [B false,U64 v],B false]) (.tuple #[.agg #[.bool false,.int .u64 v],.bool false]):=.tup rfl fun j c x hc hx=>by
 match j,hc,hx with
 | 0,hc,hx =>
  cases hc; cases hx
  refine .agg rfl fun j c x hc hx=>?_
  match j,hc,hx with
  | 0,hc,hx=>cases hc; cases hx; exact .p (.v rfl)
  | 1,hc,hx=>cases hc; cases hx; exact .p (.v rfl)
 | 1,hc,hx=>cases hc; cases hx; exact .p (.v rfl)
theorem run_addO (v d : Int) (hv : 0 ≤ v) (hd : 0 ≤ d) (hv2 : v < 18446744073709551616) (hd2 : d < 18446744073709551616) (h : 18446744073709551616 ≤ v + d) (w : World) : (callFunc 66 #[.int .u64 v,.int .u64 d,.int .u64 0]).run Tryd.prog w = .ok (.value (.tuple #[.int .u64 (v + d - 18446744073709551616),.int .u64 1])) w:=by
 rw [run_callFunc_extern Tryd.func66 (by kernel_rfl) (by kernel_rfl) (by kernel_rfl) (e:=add64Entry) (by kernel_rfl),run_add64 v d 0 hv hd (by omega) (by omega)]
 rw [show (v + d + 0) % 18446744073709551616 = v + d - 18446744073709551616 by omega,show (v + d + 0) / 18446744073709551616 = 1 by omega]
 rfl
theorem plus_anyO (v d : Int) (hv : 0 ≤ v) (hd : 0 ≤ d) (hv2 : v < 18446744073709551616) (hd2 : d < 18446744073709551616) (h : 18446744073709551616 ≤ v + d) (w : World) : Calls Tryd.prog 57 #[.agg #[.bool false,.int .u64 v],.agg #[.bool false,.int .u64 d]] w fun e w'=>e = .returned (.tuple #[.agg #[.bool false,.int .u64 (v + d - 18446744073709551616)],.bool false]) ∧ Below w.heap.size w w':=by
 have hrun:=run_addO v d hv hd hv2 hd2 h
 generalize v + d - 18446744073709551616 = V at *
 go_enter Tryd.func57,Tryd.ntmps57
 go_wp2_with (simp only [hrun])
 refine bodyPost_ret (v:=.tuple #[.agg #[.bool false,.int .u64 V],.bool false]) ?_ rfl ⟨rfl,(((Below.refl _ _).alloc (Nat.le_refl _) _).alloc (by simp) _).alloc (by simp; omega) _⟩
 rw [results_cell_tmp Tryd.results57]
 simp [asAddr,loadVar,go_sem]
theorem plusO (v d : Int) (hv : 0 ≤ v) (hd : 0 ≤ d) (hv2 : v < 18446744073709551616) (hd2 : d < 18446744073709551616) (h : 18446744073709551616 ≤ v + d) (S : ASt) : ADet Tryd.prog 57 [.agg [B false,U64 v],.agg [B false,U64 d]] S (.tup [.agg [B false,U64 (v + d - 18446744073709551616)],B false]) S :=
 ADet.of_callsA (ra_wholeO _) Tryd.call57 fun Pr φ xs w hargs hR=>by
  have g : ∀ (n : Int) x,RA Pr φ (.agg [B false,U64 n]) x → x = .agg #[.bool false,.int .u64 n]:=fun n x h=>by
   exact atomV_ok h rfl
  obtain ⟨hl,hc⟩:=hargs
  have e : xs = #[.agg #[.bool false,.int .u64 v],.agg #[.bool false,.int .u64 d]]:=by
   obtain ⟨l⟩:=xs
   match l,hl with
   | [x,y],_ =>
    rw [g v x (hc 0 _ _ rfl rfl),g d y (hc 1 _ _ rfl rfl)]
  subst e
  exact plus_anyO v d hv hd hv2 hd2 h w
theorem numberO (v : Nat) (fits : Bool) (hv : fits = true → 9223372036854775808 ≤ v) (S : ASt) : ADet Tryd.prog 58 [.agg [B false,U64 v],B fits] S (.tup [I 0,I 10]) S:=by
 refine ADet.intro mixed Tryd.call58 Tryd.func58 rfl ?_
 cases fits with
 | false=>simp [Tryd.ntmps58]
 | true =>
  have:=hv rfl
  by_cases h : (9223372036854775808 : Int) < (v : Int)
  ·simp [Tryd.ntmps58,h]
  ·have h2 : (v : Int) = 9223372036854775808:=by omega
   simp [Tryd.ntmps58,h,h2]
theorem parseO (s : ByteArray) (hs : s.size ≤ 4000) (h0 : 0 < s.size) (hd : ∀ b ∈ s.data.toList,digitB b.toNat = true) (hv : 9223372036854775808 ≤ digitsN s.data.toList) (S : ASt) : ADet Tryd.prog 38 [Sg s] S (.tup [I 0,I 10]) S:=by
 have hlen : s.data.toList.length = s.size:=by simp
 have nC:=fun S=>numeralC s hs h0 hd S
 have h0' : (0 : Int) < (s.size : Int):=by omega
 generalize hl : s.data.toList = l at *
 obtain ⟨c,r,hcr⟩ : ∃ c r,l = c :: r:=by
  cases l with
  | nil=>simp at hlen; omega
  | cons c r=>exact ⟨c,r,rfl⟩
 have hc:=hd c (by rw [hcr]; simp)
 have hl0 : l[0]? = some c:=by rw [hcr]; rfl
 have hc1 : ((c.toNat : Int) == 45) = false:=by
  unfold digitB at hc
  simp only [Bool.and_eq_true,decide_eq_true_eq] at hc
  rw [beq_eq_false_iff_ne]; omega
 have hc2 : ¬ (c.toNat : Int) = 45:=by
  simpa using hc1
 have hc3 : ¬ c = 45:=by
  rintro rfl; exact hc2 rfl
 refine ADet.intro mixed Tryd.call38 Tryd.func38 rfl ?_
 simp [Tryd.ntmps38,h0,h0',hl,hl0,hc1,hc2,hc3]
 refine ⟨_,_,nC _,?_⟩
 simp
 refine awp_loop (fun a : Nat × Bool × Nat=>a.1 ≤ s.size ∧ a.2.2 < 18446744073709551616 ∧ (a.2.1 = true → a.2.2 = digitsN (l.take a.1))) (fun a=>([Sg s,.any,.any,.any,B false,.ptr 0 0 0,B a.2.1,I a.1] ++ List.replicate 50 .any)) (fun a=>[.cells [B false,U64 a.2.2] 103] :: S) (fun a=>if a.2.1 = true then s.size - a.1 + 1 else 0) (0,true,0) ⟨Nat.zero_le _,by decide,fun _=>rfl⟩ ?_ ?_ ?_
 ·simp
 ·simp
  try rfl
 rintro ⟨q,fits,v⟩ ⟨hq,hv64,hfv⟩
 simp only at hq hv64 hfv
 cases fits with
 | false =>
  have nuC:=fun S=>numberO v false (fun h=>by cases h) S
  by_cases hlt' : (q : Int) < (s.size : Int)
  ·simp [hlt']
   refine ⟨_,_,nuC _,?_⟩
   simp
  ·simp [hlt']
   refine ⟨_,_,nuC _,?_⟩
   simp
 | true =>
 have hfv:=hfv rfl
 by_cases hlt : q < s.size
 ·have hlt' : (q : Int) < (s.size : Int):=by omega
  obtain ⟨b,hb⟩ : ∃ b,l[q]? = some b:=⟨l[q]'(by omega),List.getElem?_eq_getElem (by omega)⟩
  have hbd:=hd b (List.mem_of_getElem? hb)
  unfold digitB at hbd
  simp only [Bool.and_eq_true,decide_eq_true_eq] at hbd
  have htk : l.take (q + 1) = l.take q ++ [b]:=by
   rw [List.take_add_one,hb]; rfl
  have hsn:=digitsN_snoc (l.take q) b
  rw [← htk,← hfv] at hsn
  by_cases hm : v * 10 < 18446744073709551616
  ·have tC:=fun S=>times10C v hm S
   obtain ⟨W,hW⟩ : ∃ W,W = v * 10:=⟨_,rfl⟩
   rw [← hW] at hsn tC hm
   have w1 : IntKind.u8.wrap ((b.toNat : Int) - 48) = (b.toNat : Int) - 48:=IntWalk.u8_in _ (by omega)
   have w2 : IntKind.u64.wrap ((b.toNat : Int) - 48) = (b.toNat : Int) - 48:=IntWalk.u64_in _ (by omega)
   by_cases hp : (W : Int) + ((b.toNat : Int) - 48) < 18446744073709551616
   ·have pC:=fun S=>plusC (W : Int) ((b.toNat : Int) - 48) (by omega) (by omega) hp S
    obtain ⟨X,hX⟩ : ∃ X : Nat,(X : Int) = (W : Int) + ((b.toNat : Int) - 48):=⟨W + (b.toNat - 48),by omega⟩
    rw [← hX] at pC
    simp [hlt',hlt]
    refine ⟨_,_,tC _,?_⟩
    simp
    refine awp_draw [] (by kernel_rfl) (by kernel_rfl) ?_
    simp [hl,hb,hlt,hlt',w1,w2]
    refine ⟨_,_,pC _,?_⟩
    simp
    exact ⟨q + 1,X,⟨by omega,by omega,by omega⟩,by omega,wrap_succ hlt (by unfold maxLen; omega),rfl⟩
   ·have pC:=fun S=>plusO (W : Int) ((b.toNat : Int) - 48) (by omega) (by omega) (by omega) (by omega) (by omega) S
    obtain ⟨X,hX⟩ : ∃ X : Nat,(X : Int) = (W : Int) + ((b.toNat : Int) - 48) - 18446744073709551616:=⟨W + (b.toNat - 48) - 18446744073709551616,by omega⟩
    rw [← hX] at pC
    simp [hlt',hlt]
    refine ⟨_,_,tC _,?_⟩
    simp
    refine awp_draw [] (by kernel_rfl) (by kernel_rfl) ?_
    simp [hl,hb,hlt,hlt',w1,w2]
    refine ⟨_,_,pC _,?_⟩
    simp
    exact ⟨q + 1,X,⟨by omega,by omega⟩,wrap_succ hlt (by unfold maxLen; omega),rfl⟩
  ·have tC:=fun S=>timesO v hv64 (by omega) S
   have hX : v * 10 % 18446744073709551616 < 18446744073709551616:=Nat.mod_lt _ (by decide)
   generalize v * 10 % 18446744073709551616 = X at tC hX
   simp [hlt',hlt]
   refine ⟨_,_,tC _,?_⟩
   simp
   exact ⟨q + 1,X,⟨by omega,hX⟩,wrap_succ hlt (by unfold maxLen; omega),rfl⟩
 ·have hlt' : ¬ (q : Int) < (s.size : Int):=by omega
  have hq' : l.take q = l:=List.take_of_length_le (by omega)
  rw [hq'] at hfv
  have nuC:=fun S=>numberO v true (fun _=>by omega) S
  simp [hlt',hlt]
  refine ⟨_,_,nuC _,?_⟩
  simp
end Go.Proofs.YtfiohepfohhibaaDoor
namespace Go.Proofs.YtfiohepfohhibaaDoor
open Go.RowKit
attribute [local simp] List.replicate List.range List.range.loop resA resOne retA
theorem oneNC (s : ByteArray) (hs : s.size ≤ 4000) {b : UInt8} {r : List UInt8} (hl : s.data.toList = b :: r) (h : oneF s.data.toList = none) : ∃ t : ByteArray,∀ S : ASt,ADet Tryd.prog 15 [Sg s] S (.agg [U 0,Sg t,I 0]) S:=by
 have hlen : s.data.toList.length = s.size:=by simp
 have hrp:=runPartC s hs
 have hrd:=runDigitC s hs
 have hpl:=runLen_le partB s.data.toList
 have hsg : ∀ S,ADet Tryd.prog 39 [Sg s] S (I (signN s.data.toList)) S:=fun S=>lsignC s hs b r hl S
 have lC:=lowerC b.toNat
 have uC:=upperC b.toNat
 have dC:=digitC b.toNat
 have hwt : ∀ m,(s.extract 0 m).size ≤ maxLen:=fun m=>by
  rw [ByteArray.size_extract]
  unfold maxLen; omega
 have hpl' : runLen partB s.data.toList ≤ s.size:=by omega
 have h2:=h
 unfold oneF at h2
 rw [hl] at h2
 dsimp only at h2
 rw [← hl,← sub_text] at h2
 cases hlu : lowerB b.toNat || upperB b.toNat with
 | true =>
  rw [hlu,if_pos rfl] at h2
  split at h2
  ·cases h2
  rename_i hw
  split at h2
  ·cases h2
  rename_i hn
  split at h2
  ·cases h2
  rename_i ht
  have hw : wordB (s.extract 0 (runLen partB s.data.toList)) = false:=by simpa using hw
  have hn : nameB (s.extract 0 (runLen partB s.data.toList)) = false:=by simpa using hn
  have ht : typeB (s.extract 0 (runLen partB s.data.toList)) = false:=by simpa using ht
  refine ⟨s.extract 0 (runLen partB s.data.toList),fun S=>?_⟩
  refine ADet.intro mixed Tryd.call15 Tryd.func15 rfl ?_
  simp [Tryd.ntmps15,hl]
  refine ⟨_,_,lC _,?_⟩
  cases hlo : lowerB b.toNat with
  | true =>
   simp
   refine ⟨_,_,hrp _,?_⟩
   simp [hpl']
   refine ⟨_,_,wordC1 _ (hwt _) _,?_⟩
   rw [hw]
   simp
   refine ⟨_,_,nameC1 _ (hwt _) _,?_⟩
   rw [hn]
   simp
   refine ⟨_,_,typeC1 _ (hwt _) _,?_⟩
   rw [ht]
   simp [hl]
  | false =>
   rw [hlo,Bool.false_or] at hlu
   simp
   refine ⟨_,_,uC _,?_⟩
   rw [hlu]
   simp
   refine ⟨_,_,hrp _,?_⟩
   simp [hpl']
   refine ⟨_,_,wordC1 _ (hwt _) _,?_⟩
   rw [hw]
   simp
   refine ⟨_,_,nameC1 _ (hwt _) _,?_⟩
   rw [hn]
   simp
   refine ⟨_,_,typeC1 _ (hwt _) _,?_⟩
   rw [ht]
   simp [hl]
 | false =>
 have hlo : lowerB b.toNat = false:=by cases e : lowerB b.toNat with | false=>rfl | true=>rw [e,Bool.true_or] at hlu; cases hlu
 have hup : upperB b.toNat = false:=by rw [hlo,Bool.false_or] at hlu; exact hlu
 rw [hlu,if_neg (by simp)] at h2
 refine ⟨emS,fun S=>?_⟩
 refine ADet.intro mixed Tryd.call15 Tryd.func15 rfl ?_
 simp [Tryd.ntmps15,hl]
 refine ⟨_,_,lC _,?_⟩
 rw [hlo]
 simp
 refine ⟨_,_,uC _,?_⟩
 rw [hup]
 simp
 refine ⟨_,_,dC _,?_⟩
 cases hdi : digitB b.toNat with
 | true =>
  rw [hdi,if_pos rfl] at h2
  split at h2
  ·cases h2
  rename_i hd
  have hrl : runLen digitB s.data.toList ≤ s.size:=by
   have:=runLen_le digitB s.data.toList
   omega
  have hpos : 0 < runLen digitB s.data.toList:=by
   rw [hl]; simp [runLen,hdi]
  have htx : (s.extract 0 (runLen digitB s.data.toList)).data.toList = s.data.toList.take (runLen digitB s.data.toList):=by
   rw [extract_list,List.drop_zero]
  have hsz : (s.extract 0 (runLen digitB s.data.toList)).size = runLen digitB s.data.toList:=by
   rw [ByteArray.size_extract]; omega
  have hall : ∀ b ∈ s.data.toList.take (runLen digitB s.data.toList),digitB b.toNat = true:=run_all digitB s.data.toList
  have pC:=fun S=>parseO (s.extract 0 (runLen digitB s.data.toList)) (by omega) (by omega) (by rw [htx]; exact hall) (by rw [htx]; omega) S
  simp
  refine ⟨_,_,hrd _,?_⟩
  simp [hrl]
  refine ⟨_,_,pC _,?_⟩
  simp
 | false =>
  rw [hdi,if_neg (by simp)] at h2
  split at h2
  ·rename_i h0
   rw [h0] at hsg
   simp
   refine ⟨_,_,hsg _,?_⟩
   simp
  ·cases h2
end Go.Proofs.YtfiohepfohhibaaDoor
namespace Go.Proofs.YtfiohepfohhibaaDoor
open Go.RowKit
attribute [local simp] List.replicate List.range List.range.loop resA resOne retA AV.cuts AV.cut AObj.cut trim wkR wkT wkL wkN wkNR wkNL wkM wkMR wkML
def allR (ts : List Tok) : Option Nat → AV
 | some e=>.tup [nilS,I e,I 20]
 | none=>if ts.length ≤ 1500 then .tup [.p (.sl 3 (ts.map Tok.enc)),I 0,I 0] else .tup [nilS,I 0,I 4]
theorem allT (s : ByteArray) (hs : s.size ≤ 4000) (S : ASt) : ADet Tryd.prog 6 [Sg s] S (allR (tokT s) (errT s)) S:=by
 have hlen : s.data.toList.length = s.size:=by simp
 have hml:=betT_le s.data.toList false
 have h4 : ¬ (4000 : Int) < (s.size : Int):=by omega
 have bC:=fun S=>betweenT s hs S
 unfold tokT errT
 generalize hm : betT false s.data.toList = m at *
 generalize hts : (lexT 4001 m (s.data.toList.drop m)).1 = ts
 generalize her : (lexT 4001 m (s.data.toList.drop m)).2 = er
 refine ADet.intro mixed Tryd.call6 Tryd.func6 rfl ?_
 simp [Tryd.ntmps6,h4]
 refine ⟨_,_,bC _,?_⟩
 simp
 refine awp_loopG 59 3 (by decide) [] (fun a : Nat × List Tok=>(∃ f',s.size < a.1 + f' ∧ a.2 ++ (lexT f' a.1 (s.data.toList.drop a.1)).1 = ts ∧ (lexT f' a.1 (s.data.toList.drop a.1)).2 = er) ∧ a.1 ≤ s.size ∧ a.2.length ≤ a.1) (fun a=>([Sg s,.any,nilS,I 0,I 0,.osl 3 (a.2.map Tok.enc) 0 0,I a.1] ++ List.replicate 39 .any)) (fun a=>[.tok 59 3 a.2.length] :: S) (fun a=>s.size - a.1) (m,[]) ⟨⟨4001,by omega,hts,her⟩,by omega,by simp⟩ ?_ ?_ ?_ ?_
 ·simp
 ·simp
 ·rfl
 rintro ⟨q,done⟩ ⟨⟨f',hf0,hf1,hf2⟩,hq,hdl⟩
 simp only at hf0 hf1 hf2 hq hdl
 by_cases hlt : q < s.size
 ·have hlt' : (q : Int) < (s.size : Int):=by omega
  have hqs : q ≤ s.size:=by omega
  have hsz : (s.extract q s.size).size ≤ 4000:=by rw [ByteArray.size_extract]; omega
  obtain ⟨f',rfl⟩ : ∃ g,f' = g + 1:=⟨f' - 1,by omega⟩
  cases hd : s.data.toList.drop q with
  | nil =>
   have:=congrArg List.length hd
   simp at this
   omega
  | cons b r =>
  rw [hd] at hf1 hf2
  unfold lexT at hf1 hf2
  cases h1 : oneF (b :: r) with
  | none =>
   rw [h1] at hf1 hf2
   simp only at hf1 hf2
   subst hf2
   obtain ⟨t,eC⟩:=oneNC (s.extract q s.size) hsz (by rw [ext_from]; exact hd) (by rw [ext_from,hd]; exact h1)
   unfold allR
   simp [hlt',hqs]
   refine ⟨_,_,eC _,?_⟩
   simp
  | some x =>
  obtain ⟨k,n⟩:=x
  rw [h1] at hf1 hf2
  simp only at hf1 hf2
  obtain ⟨k1,k5,hn⟩:=oneF_pos h1
  have hn1:=oneF_n h1
  have hbl : (b :: r).length = s.size - q:=by rw [← hd]; simp
  have h2:=h1
  rw [← hd] at h1 hf1 hf2 hn
  have hbt:=betT_le ((s.data.toList.drop q).drop n) false
  generalize hm2 : betT false ((s.data.toList.drop q).drop n) = m2 at *
  rw [List.drop_drop] at hm2
  rw [List.drop_drop] at hf1 hf2
  rw [List.length_drop,List.length_drop] at hbt
  have oC:=fun S=>oneC (s.extract q s.size) hsz k n (by rw [ext_from]; exact h1) S
  have hk0 : ¬ k = 0:=by omega
  have htx : (s.extract q s.size).extract 0 n = ⟨((b :: r).take n).toArray⟩:=by rw [sub_text,ext_from,hd]
  have htz : ((s.extract q s.size).extract 0 n).size = n:=by
   rw [ByteArray.size_extract,ByteArray.size_extract]
   rw [List.length_drop] at hn; omega
  have hnq : q + n ≤ s.size:=by rw [List.length_drop] at hn; omega
  have hm3 : q + n + m2 ≤ s.size:=by omega
  have hsz2 : (s.extract (q + n) s.size).size ≤ 4000:=by rw [ByteArray.size_extract]; omega
  have bC2:=fun S=>betweenT (s.extract (q + n) s.size) hsz2 S
  simp only [ext_from,hm2] at bC2
  obtain ⟨Q,hQ⟩ : ∃ Q,Q = q + n:=⟨_,rfl⟩
  obtain ⟨R,hR⟩ : ∃ R,R = Q + m2:=⟨_,rfl⟩
  rw [← hQ] at hnq bC2
  have hw1 : IntKind.i64.wrap ((q : Int) + (n : Int)) = (Q : Int):=by
   rw [IntWalk.i64_in _ (by omega)]; omega
  have hw2 : IntKind.i64.wrap ((Q : Int) + (m2 : Int)) = (R : Int):=by
   rw [IntWalk.i64_in _ (by omega)]; omega
  have hap : done.length + 1 ≤ 4294967296:=by omega
  simp [hlt',hqs]
  refine ⟨_,_,oC _,?_⟩
  simp [hk0,hap,htz,hw1,hnq]
  refine ⟨_,_,bC2 _,?_⟩
  simp [hw2]
  refine ⟨R,done ++ [⟨k,⟨((b :: r).take n).toArray⟩,q⟩],⟨⟨f',by omega,?_,?_⟩,by omega,by simp only [List.length_append,List.length_cons,List.length_nil]; omega⟩,by omega,⟨?_,rfl⟩,?_⟩
  ·rw [hR,hQ,show q + n + m2 = q + (n + m2) by omega,List.append_assoc]
   rw [show q + n + m2 = q + (n + m2) by omega,hd] at hf1
   exact hf1
  ·rw [hR,hQ,show q + n + m2 = q + (n + m2) by omega]
   rw [show q + n + m2 = q + (n + m2) by omega] at hf2
   exact hf2
  ·simp [Tok.enc,htx]
  ·simp
 ·have hlt' : ¬ (q : Int) < (s.size : Int):=by omega
  have hd : s.data.toList.drop q = []:=List.drop_of_length_le (by omega)
  rw [hd] at hf1 hf2
  have hz : lexT f' q [] = ([],none):=by cases f' <;> rfl
  rw [hz] at hf1 hf2
  simp only [List.append_nil] at hf1 hf2
  subst hf1 hf2
  unfold allR
  by_cases hts : done.length ≤ 1500
  ·have h15 : ¬ (1500 : Int) < (done.length : Int):=by omega
   simp [hlt',h15,hts]
  ·have h15 : (1500 : Int) < (done.length : Int):=by omega
   simp [hlt',h15,hts]
end Go.Proofs.YtfiohepfohhibaaDoor
