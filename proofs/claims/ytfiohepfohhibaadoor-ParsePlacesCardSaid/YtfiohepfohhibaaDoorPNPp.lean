/- A part of the proof. The statement is proved in the claim's last text. -/
import Derived.Test.YtfiohepfohhibaaDoorPMWp
import Derived.Test.YtfiohepfohhibaaDoorPMLt
import Derived.Test.YtfiohepfohhibaaDoorPMLx
import Derived.Test.YtfiohepfohhibaaDoorPMPt
import Derived.Laws.ResultCell
set_option linter.unusedVariables false
set_option linter.unusedSimpArgs false
set_option maxRecDepth 100000
set_option maxHeartbeats 32000000
namespace Go.Proofs.YtfiohepfohhibaaDoor
open Go.RowKit
attribute [local simp] List.replicate List.range List.range.loop resA resOne retA AV.cuts AV.cut AObj.cut trim wkR wkT wkL wkN wkNR wkNL wkM wkMR wkML
theorem indexByteC (s : ByteArray) (b : UInt8) (S : ASt) : ADet Tryd.prog 27 [Sg s,U b.toNat] S (I (Lib.indexByte s.data.toList b)) S :=
 ADet.of_calls rfl Tryd.call27 fun Pr φ xs w hargs hR=>by
  obtain rfl:=rl_vals (l:=[.string s,.int .u8 b.toNat]) hargs
  refine (Tryd.strings_IndexByte s b.toNat w).mono ?_
  rintro e w' ⟨rfl,rfl⟩
  exact ⟨by simp,Below.refl _ _⟩
theorem index_sp (b : UInt8) : (0 ≤ Lib.indexByte [32,9,10,13] b) ↔ spB b = true:=by
 unfold spB
 by_cases h1 : b = 32
 ·subst h1; decide
 by_cases h2 : b = 9
 ·subst h2; decide
 by_cases h3 : b = 10
 ·subst h3; decide
 by_cases h4 : b = 13
 ·subst h4; decide
 have g1 : ((32 : UInt8) == b) = false:=by simpa using fun h=>h1 h.symm
 have g2 : ((9 : UInt8) == b) = false:=by simpa using fun h=>h2 h.symm
 have g3 : ((10 : UInt8) == b) = false:=by simpa using fun h=>h3 h.symm
 have g4 : ((13 : UInt8) == b) = false:=by simpa using fun h=>h4 h.symm
 simp [Lib.indexByte,g1,g2,g3,g4,h1,h2,h3,h4]
theorem index_none : ∀ (l : List UInt8) (b : UInt8),l.contains b = false → Lib.indexByte l b = -1
 | [],b,_=>rfl
 | c :: l,b,h=>by
  simp only [List.contains_cons,Bool.or_eq_false_iff] at h
  have h1 : (c == b) = false:=by
   have:=h.1
   rw [beq_eq_false_iff_ne] at this ⊢
   exact fun e=>this e.symm
  simp [Lib.indexByte,h1,index_none l b h.2]
theorem index_some : ∀ (l : List UInt8) (b : UInt8),l.contains b = true → 0 ≤ Lib.indexByte l b
 | [],b,h=>by simp at h
 | c :: l,b,h=>by
  simp only [List.contains_cons,Bool.or_eq_true] at h
  by_cases hc : c = b
  ·subst hc; simp [Lib.indexByte]
  ·have h1 : (c == b) = false:=by simpa using hc
   have h2:=index_some l b (h.resolve_left (by simpa using fun e=>hc e.symm))
   simp only [Lib.indexByte,h1]
   split
   ·rename_i h3; simp at h3
   ·split
    ·rename_i h4; simp at h4; omega
    ·omega
def preB (p a : ByteArray) : Bool:=decide (p.size ≤ a.size) && sEq (a.extract 0 p.size) p
theorem hasPrefix1 (a p : ByteArray) (S : ASt) : ADet Tryd.prog 52 [Sg a,Sg p] S (B (preB p a)) S:=by
 refine ADet.intro mixed Tryd.call52 Tryd.func52 rfl ?_
 unfold preB
 by_cases h : p.size ≤ a.size
 ·have h' : (p.size : Int) ≤ (a.size : Int):=by omega
  simp [Tryd.ntmps52,h,h']
 ·have h' : ¬ (p.size : Int) ≤ (a.size : Int):=by omega
  simp [Tryd.ntmps52,h,h']
theorem hasPrefixC (a p : ByteArray) (S : ASt) : ADet Tryd.prog 28 [Sg a,Sg p] S (B (preB p a)) S:=by
 refine ADet.intro mixed Tryd.call28 Tryd.func28 rfl ?_
 simp [Tryd.ntmps28]
 refine ⟨_,_,hasPrefix1 a p _,?_⟩
 simp
theorem preB_iff (p a : ByteArray) : preB p a = p.data.toList.isPrefixOf a.data.toList:=by
 rw [Bool.eq_iff_iff,List.isPrefixOf_iff_prefix]
 unfold preB
 simp only [Bool.and_eq_true,decide_eq_true_eq,sEq_iff]
 have hp : p.data.toList.length = p.size:=by simp
 have ha : a.data.toList.length = a.size:=by simp
 constructor
 ·rintro ⟨h1,h2⟩
  have h3 : (a.extract 0 p.size).data.toList = p.data.toList:=by rw [h2]
  rw [extract_list,List.drop_zero] at h3
  exact ⟨a.data.toList.drop p.size,by rw [← h3,List.take_append_drop]⟩
 ·rintro ⟨t,h⟩
  have h1 : p.size ≤ a.size:=by rw [← hp,← ha,← h]; simp
  refine ⟨h1,bytes_ext ?_⟩
  rw [extract_list,List.drop_zero,← h,← hp,List.take_left]
theorem betweenC (s : ByteArray) (hs : s.size ≤ 4000) (n f : Nat) (h : betwF f s.data.toList = some n) (S : ASt) : ADet Tryd.prog 14 [Sg s] S (I n) S:=by
 have hlen : s.data.toList.length = s.size:=by simp
 generalize hl : s.data.toList = l at *
 refine ADet.intro mixed Tryd.call14 Tryd.func14 rfl ?_
 simp [Tryd.ntmps14]
 refine awp_loop (fun q : Nat=>q ≤ l.length ∧ ∃ f' m,betwF f' (l.drop q) = some m ∧ q + m = n) (fun q=>([Sg s,.any,.any,I q] ++ List.replicate 25 .any)) (fun q=>[] :: S) (fun q=>l.length - q) 0 ⟨Nat.zero_le _,f,n,by simpa using h,by omega⟩ ?_ ?_ ?_
 ·simp
 ·simp
 rintro q ⟨hq,f',m,hm,hqm⟩
 by_cases hlt : q < l.length
 ·have hlt' : (q : Int) < (s.size : Int):=by omega
  obtain ⟨b,hb⟩ : ∃ b,l[q]? = some b:=⟨l[q],List.getElem?_eq_getElem hlt⟩
  have hdrop : l.drop q = b :: l.drop (q + 1):=by
   rw [List.drop_eq_getElem_cons hlt]
   congr 1
   exact Option.some.inj ((List.getElem?_eq_getElem hlt).symm.trans hb)
  rw [hdrop] at hm
  cases f' with
  | zero=>simp [betwF] at hm
  | succ f' =>
  have hsp:=index_sp b
  simp [hlt',hl,hb]
  refine ⟨_,_,indexByteC _ b _,?_⟩
  cases hspb : spB b with
  | true =>
   rw [hspb] at hsp
   simp only [betwF,hspb,if_true] at hm
   obtain ⟨m',hm',rfl⟩:=Option.map_eq_some_iff.1 hm
   have h0:=hsp.2 rfl
   simp [h0]
   exact ⟨q + 1,⟨by omega,f',m',hm',by omega⟩,by omega,wrap_succ hlt (by unfold maxLen; omega)⟩
  | false =>
   rw [hspb] at hsp
   have h0 : ¬ 0 ≤ Lib.indexByte [32,9,10,13] b:=fun e=>by have:=hsp.1 e; cases this
   have hpre : preB (⟨#[47,47]⟩ : ByteArray) (s.extract q s.size) = false ∧ m = 0:=by
    simp only [betwF,hspb,Bool.false_eq_true,if_false] at hm
    rw [preB_iff,extract_list,hl,← hlen,List.take_length,hdrop]
    split at hm
    ·cases hm
    ·rename_i hno
     cases hm
     refine ⟨?_,rfl⟩
     rw [Bool.eq_false_iff]
     intro hp
     cases hr : l.drop (q + 1) with
     | nil=>rw [hr] at hp; simp at hp
     | cons c r =>
      rw [hr] at hp
      simp at hp
      exact hno r (by rw [hp.1]) (by rw [hr,hp.2])
   obtain ⟨hpre,rfl⟩:=hpre
   have hqs : q ≤ s.size:=by omega
   simp [h0,hqs]
   refine ⟨_,_,hasPrefixC _ _ _,?_⟩
   simp [hpre]
   omega
 ·have hlt' : ¬ (q : Int) < (s.size : Int):=by omega
  have hm0 : m = 0:=by
   rw [List.drop_of_length_le (by omega)] at hm
   cases f' with
   | zero=>simp [betwF] at hm
   | succ f'=>simp [betwF] at hm; exact hm.symm
  simp [hlt']
  omega
end Go.Proofs.YtfiohepfohhibaaDoor
namespace Go.Proofs.YtfiohepfohhibaaDoor
open Go.RowKit
attribute [local simp] List.replicate List.range List.range.loop resA resOne retA AV.cuts AV.cut AObj.cut trim wkR wkT wkL wkN wkNR wkNL wkM wkMR wkML virtL virtO virt_get markL markO markR_get rowA awpI_nil awpI_cons List.forall_mem_cons List.contains_cons List.contains_nil List.find? nextD_eq awpD_nil awpD_cons LCp LCl refL
theorem ADet.of_callsA {P : Program} {K : FuncId} {args : List AV} {S : ASt} {r : AV} {x : Value} (hx : ∀ Pr φ,RA Pr φ r x) (hK : ∀ xs w,(callFunc K xs).run P w = .ok (.enter K xs) w) (h : ∀ Pr φ xs w,RL Pr φ args xs → Rel Pr φ S w → Calls P K xs w fun e w'=>e = .returned x ∧ Below w.heap.size w w') : ADet P K args S r S :=
 ⟨hK,fun Pr φ xs w hargs hR hne=>(h Pr φ xs w hargs hR).mono fun e w' ⟨he,hb⟩=>by
  obtain ⟨s,r⟩:=stp_below hR hb
  exact ⟨x,Pr,φ,he,s,r,hx Pr φ⟩⟩
abbrev U64 (n : Int) : AV:=.p (.v (.int .u64 n))
theorem ra_pair (a b : Value) (ha : atom a = true) (hb : atom b = true) (Pr : Prot) (φ : Fi2) : RA Pr φ (.tup [.p (.v a),.p (.v b)]) (.tuple #[a,b]):=.tup rfl fun j c x hc hx=>by
 match j,hc,hx with
 | 0,hc,hx=>cases hc; cases hx; exact .p (.v ha)
 | 1,hc,hx=>cases hc; cases hx; exact .p (.v hb)
theorem mul64C (v : Nat) (hv : v * 10 < 18446744073709551616) (S : ASt) : ADet Tryd.prog 65 [U64 v,U64 10] S (.tup [U64 0,U64 (v * 10 : Nat)]) S :=
 ADet.of_callsA (x:=.tuple #[.int .u64 0,.int .u64 (v * 10 : Nat)]) (ra_pair _ _ rfl rfl) Tryd.call65 fun Pr φ xs w hargs hR=>by
  obtain rfl:=rl_vals (l:=[.int .u64 v,.int .u64 10]) hargs
  refine (Tryd.bits_Mul64 v 10 (by omega) (by decide) w).mono ?_
  rintro e w' ⟨rfl,rfl⟩
  refine ⟨?_,Below.refl _ _⟩
  rw [Nat.div_eq_of_lt hv,Nat.mod_eq_of_lt hv]
  rfl
theorem times10C (v : Nat) (hv : v * 10 < 18446744073709551616) (S : ASt) : ADet Tryd.prog 56 [.agg [B false,U64 v],.agg [B false,U64 10]] S (.tup [.agg [B false,U64 (v * 10 : Nat)],B true]) S:=by
 refine ADet.intro mixed Tryd.call56 Tryd.func56 rfl ?_
 have hm:=fun S=>mul64C v hv S
 generalize v * 10 = V at *
 simp [Tryd.ntmps56]
 refine ⟨_,_,hm _,?_⟩
 simp
theorem ra_whole (v : Int) (Pr : Prot) (φ : Fi2) : RA Pr φ (.tup [.agg [B false,U64 v],B true]) (.tuple #[.agg #[.bool false,.int .u64 v],.bool true]):=.tup rfl fun j c x hc hx=>by
 match j,hc,hx with
 | 0,hc,hx =>
  cases hc; cases hx
  refine .agg rfl fun j c x hc hx=>?_
  match j,hc,hx with
  | 0,hc,hx=>cases hc; cases hx; exact .p (.v rfl)
  | 1,hc,hx=>cases hc; cases hx; exact .p (.v rfl)
 | 1,hc,hx=>cases hc; cases hx; exact .p (.v rfl)
theorem run_addN (v d : Int) (hv : 0 ≤ v) (hd : 0 ≤ d) (h : v + d < 18446744073709551616) (w : World) : (callFunc 66 #[.int .u64 v,.int .u64 d,.int .u64 0]).run Tryd.prog w = .ok (.value (.tuple #[.int .u64 (v + d),.int .u64 0])) w:=by
 rw [run_callFunc_extern Tryd.func66 (by kernel_rfl) (by kernel_rfl) (by kernel_rfl) (e:=add64Entry) (by kernel_rfl),run_add64 v d 0 hv hd (by omega) (by omega)]
 rw [show (v + d + 0) % 18446744073709551616 = v + d by omega,show (v + d + 0) / 18446744073709551616 = 0 by omega]
 rfl
theorem plus_any (v d : Int) (hv : 0 ≤ v) (hd : 0 ≤ d) (h : v + d < 18446744073709551616) (w : World) : Calls Tryd.prog 57 #[.agg #[.bool false,.int .u64 v],.agg #[.bool false,.int .u64 d]] w fun e w'=>e = .returned (.tuple #[.agg #[.bool false,.int .u64 (v + d)],.bool true]) ∧ Below w.heap.size w w':=by
 have hrun:=run_addN v d hv hd h
 generalize v + d = V at *
 go_enter Tryd.func57,Tryd.ntmps57
 go_wp2_with (simp only [hrun])
 refine bodyPost_ret (v:=.tuple #[.agg #[.bool false,.int .u64 V],.bool true]) ?_ rfl ⟨rfl,(((Below.refl _ _).alloc (Nat.le_refl _) _).alloc (by simp) _).alloc (by simp; omega) _⟩
 rw [results_cell_tmp Tryd.results57]
 simp [asAddr,loadVar,go_sem]
theorem plusC (v d : Int) (hv : 0 ≤ v) (hd : 0 ≤ d) (h : v + d < 18446744073709551616) (S : ASt) : ADet Tryd.prog 57 [.agg [B false,U64 v],.agg [B false,U64 d]] S (.tup [.agg [B false,U64 (v + d)],B true]) S :=
 ADet.of_callsA (ra_whole _) Tryd.call57 fun Pr φ xs w hargs hR=>by
  have g : ∀ (n : Int) x,RA Pr φ (.agg [B false,U64 n]) x → x = .agg #[.bool false,.int .u64 n]:=fun n x h=>by
   exact atomV_ok h rfl
  obtain ⟨hl,hc⟩:=hargs
  have e : xs = #[.agg #[.bool false,.int .u64 v],.agg #[.bool false,.int .u64 d]]:=by
   obtain ⟨l⟩:=xs
   match l,hl with
   | [x,y],_ =>
    rw [g v x (hc 0 _ _ rfl rfl),g d y (hc 1 _ _ rfl rfl)]
  subst e
  exact plus_any v d hv hd h w
theorem numberC (v : Nat) (hv : v < 9223372036854775808) (S : ASt) : ADet Tryd.prog 58 [.agg [B false,U64 v],B true] S (.tup [I v,I 0]) S:=by
 have h1 : ¬ (9223372036854775808 : Int) < (v : Int):=by omega
 have h2 : ¬ (v : Int) = 9223372036854775808:=by omega
 have h3 : IntKind.i64.wrap (v : Int) = (v : Int):=IntWalk.i64_in _ (by omega)
 have h4 : ((v : Int) == 9223372036854775808) = false:=by rw [beq_eq_false_iff_ne]; exact h2
 refine ADet.intro mixed Tryd.call58 Tryd.func58 rfl ?_
 simp [Tryd.ntmps58,h1,h2,h3,h4]
theorem numeralC (s : ByteArray) (hs : s.size ≤ 4000) (h0 : 0 < s.size) (hd : ∀ b ∈ s.data.toList,digitB b.toNat = true) (S : ASt) : ADet Tryd.prog 55 [Sg s,B false] S (B true) S:=by
 have hlen : s.data.toList.length = s.size:=by simp
 have hne : sEq s ⟨#[]⟩ = false:=sEq_ne (by rintro rfl; exact absurd h0 (by decide))
 generalize hl : s.data.toList = l at *
 refine ADet.intro mixed Tryd.call55 Tryd.func55 rfl ?_
 simp [Tryd.ntmps55]
 refine awp_loop (fun q : Nat=>q ≤ s.size) (fun q=>([Sg s,B false,.any,.any,.any,.any,.any,I s.size,I q] ++ List.replicate 24 .any)) (fun q=>[] :: S) (fun q=>s.size - q) 0 (Nat.zero_le _) ?_ ?_ ?_
 ·simp
 ·simp
 intro q hq
 by_cases hlt : q < s.size
 ·have hlt' : (q : Int) < (s.size : Int):=by omega
  obtain ⟨b,hb⟩ : ∃ b,l[q]? = some b:=⟨l[q]'(by omega),List.getElem?_eq_getElem (by omega)⟩
  have hbd:=hd b (List.mem_of_getElem? hb)
  unfold digitB at hbd
  simp only [Bool.and_eq_true,decide_eq_true_eq] at hbd
  have h1 : ¬ (b.toNat : Int) < 48:=by omega
  have h2 : ¬ (57 : Int) < (b.toNat : Int):=by omega
  simp [hlt',hlt,hl,hb,h1,h2]
  exact ⟨q + 1,by omega,by omega,wrap_succ hlt (by unfold maxLen; omega)⟩
 ·have hlt' : ¬ (q : Int) < (s.size : Int):=by omega
  simp [hlt',hlt,hne]
theorem digitsN_snoc (l : List UInt8) (b : UInt8) : digitsN (l ++ [b]) = digitsN l * 10 + (b.toNat - 48):=by
 unfold digitsN
 rw [List.foldl_append]; rfl
theorem digitsN_le (l r : List UInt8) : digitsN l ≤ digitsN (l ++ r):=by
 induction r generalizing l with
 | nil=>simp
 | cons b r ih =>
  have:=ih (l ++ [b])
  rw [List.append_assoc,digitsN_snoc] at this
  show digitsN l ≤ digitsN (l ++ ([b] ++ r))
  omega
theorem parseC (s : ByteArray) (hs : s.size ≤ 4000) (h0 : 0 < s.size) (hd : ∀ b ∈ s.data.toList,digitB b.toNat = true) (hv : digitsN s.data.toList < 9223372036854775808) (S : ASt) : ADet Tryd.prog 38 [Sg s] S (.tup [I (digitsN s.data.toList),I 0]) S:=by
 have hlen : s.data.toList.length = s.size:=by simp
 have nC:=fun S=>numeralC s hs h0 hd S
 have h0' : (0 : Int) < (s.size : Int):=by omega
 generalize hl : s.data.toList = l at *
 obtain ⟨c,r,hcr⟩ : ∃ c r,l = c :: r:=by
  cases l with
  | nil=>simp at hlen; omega
  | cons c r=>exact ⟨c,r,rfl⟩
 have hc:=hd c (by rw [hcr]; simp)
 have hl0 : l[0]? = some c:=by rw [hcr]; rfl
 have hc1 : ((c.toNat : Int) == 45) = false:=by
  unfold digitB at hc
  simp only [Bool.and_eq_true,decide_eq_true_eq] at hc
  rw [beq_eq_false_iff_ne]; omega
 have hc2 : ¬ (c.toNat : Int) = 45:=by
  simpa using hc1
 have hc3 : ¬ c = 45:=by
  rintro rfl; exact hc2 rfl
 refine ADet.intro mixed Tryd.call38 Tryd.func38 rfl ?_
 simp [Tryd.ntmps38,h0,h0',hl,hl0,hc1,hc2,hc3]
 refine ⟨_,_,nC _,?_⟩
 simp
 refine awp_loop (fun q : Nat=>q ≤ s.size) (fun q=>([Sg s,.any,.any,.any,B false,.ptr 0 0 0,B true,I q] ++ List.replicate 50 .any)) (fun q=>[.cells [B false,U64 (digitsN (l.take q))] 103] :: S) (fun q=>s.size - q) 0 (Nat.zero_le _) ?_ ?_ ?_
 ·simp
 ·simp
  try rfl
 intro q hq
 by_cases hlt : q < s.size
 ·have hlt' : (q : Int) < (s.size : Int):=by omega
  obtain ⟨b,hb⟩ : ∃ b,l[q]? = some b:=⟨l[q]'(by omega),List.getElem?_eq_getElem (by omega)⟩
  have hbd:=hd b (List.mem_of_getElem? hb)
  unfold digitB at hbd
  simp only [Bool.and_eq_true,decide_eq_true_eq] at hbd
  have htk : l.take (q + 1) = l.take q ++ [b]:=by
   rw [List.take_add_one,hb]; rfl
  have hle:=digitsN_le (l.take (q + 1)) (l.drop (q + 1))
  rw [List.take_append_drop] at hle
  have hsn:=digitsN_snoc (l.take q) b
  rw [← htk] at hsn
  obtain ⟨V,hV⟩ : ∃ V,V = digitsN (l.take q):=⟨_,rfl⟩
  rw [← hV] at hsn
  have tC:=fun S=>times10C V (by omega) S
  obtain ⟨W,hW⟩ : ∃ W,W = V * 10:=⟨_,rfl⟩
  rw [← hW] at hsn tC
  have pC:=fun S=>plusC (W : Int) ((b.toNat : Int) - 48) (by omega) (by omega) (by omega) S
  have w1 : IntKind.u8.wrap ((b.toNat : Int) - 48) = (b.toNat : Int) - 48:=IntWalk.u8_in _ (by omega)
  have w2 : IntKind.u64.wrap ((b.toNat : Int) - 48) = (b.toNat : Int) - 48:=IntWalk.u64_in _ (by omega)
  have hnew : (W : Int) + ((b.toNat : Int) - 48) = (digitsN (l.take (q + 1)) : Int):=by omega
  rw [hnew] at pC
  simp [hlt',hlt,← hV]
  refine ⟨_,_,tC _,?_⟩
  simp
  refine awp_draw [] (by kernel_rfl) (by kernel_rfl) ?_
  simp [hl,hb,hlt,hlt',w1,w2]
  refine ⟨_,_,pC _,?_⟩
  simp
  exact ⟨q + 1,by omega,by omega,wrap_succ hlt (by unfold maxLen; omega),rfl⟩
 ·have hlt' : ¬ (q : Int) < (s.size : Int):=by omega
  have hq' : l.take q = l:=List.take_of_length_le (by omega)
  have nuC:=fun S=>numberC (digitsN l) hv S
  simp [hlt',hlt,hq']
  refine ⟨_,_,nuC _,?_⟩
  simp
end Go.Proofs.YtfiohepfohhibaaDoor
namespace Go.Proofs.YtfiohepfohhibaaDoor
open Go.RowKit
attribute [local simp] List.replicate List.range List.range.loop resA resOne retA AV.cuts AV.cut AObj.cut trim wkR wkT wkL wkN wkNR wkNL wkM wkMR wkML
abbrev sg0 : ByteArray:=⟨#[61,61]⟩
abbrev sg1 : ByteArray:=⟨#[61,62]⟩
abbrev sg2 : ByteArray:=⟨#[45,62]⟩
theorem lsignC (s : ByteArray) (hs : s.size ≤ 4000) (b : UInt8) (r : List UInt8) (hl : s.data.toList = b :: r) (S : ASt) : ADet Tryd.prog 39 [Sg s] S (I (signN s.data.toList)) S:=by
 have hN : signN s.data.toList = if (preB sg0 s || (preB sg1 s || preB sg2 s)) = true then 2 else if signL.contains b = true then 1 else 0:=by
  simp only [preB_iff]
  unfold signN
  simp only [hl]
 rw [hN]
 generalize hp0 : preB sg0 s = p0 at *
 generalize hp1 : preB sg1 s = p1 at *
 generalize hp2 : preB sg2 s = p2 at *
 have g0:=fun S=>hasPrefixC s sg0 S
 have g1:=fun S=>hasPrefixC s sg1 S
 have g2:=fun S=>hasPrefixC s sg2 S
 rw [hp0] at g0
 rw [hp1] at g1
 rw [hp2] at g2
 refine ADet.intro mixed Tryd.call39 Tryd.func39 rfl ?_
 simp [Tryd.ntmps39]
 refine awp_loop (fun q : Nat=>q ≤ 3 ∧ (0 < q → p0 = false) ∧ (1 < q → p1 = false) ∧ (2 < q → p2 = false)) (fun q=>[Sg s,.any,I 0,.any,.any,.osl 1 [[pS sg0],[pS sg1],[pS sg2]] 0 0,I 3,I q,.any,.any,.any,.any,.any,.any,.any,.any,.any,.any,.any]) (fun q=>[.tok 9 1 3] :: S) (fun q=>3 - q) 0 ⟨by omega,by omega,by omega,by omega⟩ ?_ ?_ ?_
 ·simp
 ·simp
 rintro q ⟨hq,h0,h1,h2⟩
 rcases (by omega : q = 0 ∨ q = 1 ∨ q = 2 ∨ q = 3) with rfl | rfl | rfl | rfl
 ·simp
  refine ⟨_,_,g0 _,?_⟩
  cases p0 with
  | true=>simp
  | false =>
   simp
   exact ⟨1,by simp,by omega,by first | rfl | decide | simp⟩
 ·have e0:=h0 (by omega)
  subst e0
  simp
  refine ⟨_,_,g1 _,?_⟩
  cases p1 with
  | true=>simp
  | false =>
   simp
   exact ⟨2,by simp,by omega,by first | rfl | decide | simp⟩
 ·have e0:=h0 (by omega)
  have e1:=h1 (by omega)
  subst e0 e1
  simp
  refine ⟨_,_,g2 _,?_⟩
  cases p2 with
  | true=>simp
  | false =>
   simp
   exact ⟨3,by simp,by omega,by first | rfl | decide | simp⟩
 ·have e0:=h0 (by omega)
  have e1:=h1 (by omega)
  have e2:=h2 (by omega)
  subst e0 e1 e2
  simp [hl]
  refine ⟨_,_,indexByteC _ b _,?_⟩
  cases hc : signL.contains b with
  | true =>
   have h3 : 0 ≤ Lib.indexByte [40,41,123,125,60,62,44,59,58,61,38,42,46,43,45,47,37] b:=index_some signL b hc
   have hm : b ∈ signL:=by simpa using hc
   simp [h3,hm]
  | false =>
   have h3 : ¬ 0 ≤ Lib.indexByte [40,41,123,125,60,62,44,59,58,61,38,42,46,43,45,47,37] b:=by
    have : Lib.indexByte [40,41,123,125,60,62,44,59,58,61,38,42,46,43,45,47,37] b = -1:=index_none signL b hc
    omega
   have hm : ¬ b ∈ signL:=by simpa using hc
   simp [h3,hm]
theorem lowerC (b : Int) (S : ASt) : ADet Tryd.prog 31 [U b] S (B (lowerB b)) S :=
 ADet.of_calls rfl Tryd.call31 fun Pr φ xs w hargs hR=>by
  obtain rfl:=rl_vals (l:=[.int .u8 b]) hargs
  refine (lower_any b w).mono ?_
  rintro e w' ⟨rfl,rfl⟩
  exact ⟨rfl,Below.refl _ _⟩
theorem upperC (b : Int) (S : ASt) : ADet Tryd.prog 32 [U b] S (B (upperB b)) S :=
 ADet.of_calls rfl Tryd.call32 fun Pr φ xs w hargs hR=>by
  obtain rfl:=rl_vals (l:=[.int .u8 b]) hargs
  refine (upper_any b w).mono ?_
  rintro e w' ⟨rfl,rfl⟩
  exact ⟨rfl,Below.refl _ _⟩
theorem digitC (b : Int) (S : ASt) : ADet Tryd.prog 37 [U b] S (B (digitB b)) S :=
 ADet.of_calls rfl Tryd.call37 fun Pr φ xs w hargs hR=>by
  obtain rfl:=rl_vals (l:=[.int .u8 b]) hargs
  refine (digit_any b w).mono ?_
  rintro e w' ⟨rfl,rfl⟩
  exact ⟨rfl,Below.refl _ _⟩
theorem runC (p : Int → Bool) (K : FuncId) (s : ByteArray) (hs : s.size ≤ maxLen) (hK : ∀ args w,(callFunc K args).run Tryd.prog w = .ok (.enter K args) w)
  (hp : ∀ (b : Int) (w : World),Calls Tryd.prog K #[.int .u8 b] w fun e w'=>e = .returned (.bool (p b)) ∧ w = w') (S : ASt) : ADet Tryd.prog 29 [Sg s,.fn (.func K) [] []] S (I (runLen p s.data.toList)) S :=
 ADet.of_calls rfl Tryd.call29 fun Pr φ xs w hargs hR=>by
  obtain ⟨hl,hc⟩:=hargs
  have e : xs = #[.string s,.func (.func K) #[] #[]]:=by
   obtain ⟨l⟩:=xs
   match l,hl with
   | [x,y],_ =>
    have e1:=atomAV_ok (hc 0 _ _ rfl rfl) rfl
    have h2:=hc 1 _ _ rfl rfl
    generalize hy : (#[x,y] : Array Value)[1] = z at h2
    subst e1
    cases h2 with
    | @fn _ _ _ a b h1 h2 _ _ =>
     have ea : a = #[]:=Array.eq_empty_of_size_eq_zero h1.symm
     have eb : b = #[]:=Array.eq_empty_of_size_eq_zero h2.symm
     subst ea eb
     have hy' : y = .func (.func K) #[] #[]:=hy
     rw [hy']
  subst e
  refine (run_any p K #[] s hs hK (fun b w=>hp b w) w).mono ?_
  rintro e w' ⟨rfl,rfl⟩
  exact ⟨rfl,Below.refl _ _⟩
theorem runPartC (s : ByteArray) (hs : s.size ≤ 4000) (S : ASt) : ADet Tryd.prog 29 [Sg s,.fn (.func 33) [] []] S (I (runLen partB s.data.toList)) S:=runC partB 33 s (by unfold maxLen; omega) Tryd.call33 (fun b w=>part_any b w) S
theorem runDigitC (s : ByteArray) (hs : s.size ≤ 4000) (S : ASt) : ADet Tryd.prog 29 [Sg s,.fn (.func 37) [] []] S (I (runLen digitB s.data.toList)) S:=runC digitB 37 s (by unfold maxLen; omega) Tryd.call37 (fun b w=>digit_any b w) S
theorem wordC1 (s : ByteArray) (hs : s.size ≤ maxLen) (S : ASt) : ADet Tryd.prog 34 [Sg s] S (B (wordB s)) S :=
 ADet.of_calls rfl Tryd.call34 fun Pr φ xs w hargs hR=>by
  obtain rfl:=rl_str hargs
  exact word_any s hs w (tab_is hR g_space space_in)
theorem sub_text (s : ByteArray) (n : Nat) : s.extract 0 n = ⟨(s.data.toList.take n).toArray⟩:=bytes_ext (by rw [extract_list,List.drop_zero])
theorem signN_le : ∀ (l : List UInt8),signN l ≤ l.length:=fun l=>by
 unfold signN
 split
 ·rename_i h
  simp only [Bool.or_eq_true] at h
  have key : ∀ a b : UInt8,List.isPrefixOf [a,b] l = true → 2 ≤ l.length:=fun a b h=>by
   rw [List.isPrefixOf_iff_prefix] at h
   simpa using h.length_le
  rcases h with h | h | h <;> exact key _ _ h
 ·cases l with
  | nil=>simp
  | cons b l=>simp; split <;> omega
theorem run_all (p : Int → Bool) : ∀ l : List UInt8,∀ b ∈ l.take (runLen p l),p b.toNat = true
 | [],b,h=>by simp at h
 | c :: l,b,h=>by
  simp only [runLen] at h
  split at h
  ·rename_i hc
   rw [List.take_succ_cons] at h
   rcases List.mem_cons.1 h with rfl | h
   ·exact hc
   ·exact run_all p l b h
  ·simp at h
theorem oneC (s : ByteArray) (hs : s.size ≤ 4000) (k : Int) (n : Nat) (h : oneF s.data.toList = some (k,n)) (S : ASt) : ADet Tryd.prog 15 [Sg s] S (.agg [U k,Sg (s.extract 0 n),I 0]) S:=by
 have hlen : s.data.toList.length = s.size:=by simp
 have hrp:=runPartC s hs
 have hrd:=runDigitC s hs
 have hpl:=runLen_le partB s.data.toList
 have hsl:=signN_le s.data.toList
 have hsg : ∀ (b : UInt8) (r : List UInt8),s.data.toList = b :: r → ∀ S,ADet Tryd.prog 39 [Sg s] S (I (signN s.data.toList)) S:=fun b r hl S=>lsignC s hs b r hl S
 unfold oneF at h
 split at h
 ·cases h
 rename_i b r hl
 have hsg:=hsg b r hl
 have lC:=lowerC b.toNat
 have uC:=upperC b.toNat
 have dC:=digitC b.toNat
 have hwt : ∀ m,(s.extract 0 m).size ≤ maxLen:=fun m=>by
  rw [ByteArray.size_extract]
  unfold maxLen; omega
 refine ADet.intro mixed Tryd.call15 Tryd.func15 rfl ?_
 simp [Tryd.ntmps15,hl]
 refine ⟨_,_,lC _,?_⟩
 have hpl' : runLen partB s.data.toList ≤ s.size:=by omega
 have hsl' : signN s.data.toList ≤ s.size:=by omega
 dsimp only at h
 rw [← sub_text] at h
 cases hlo : lowerB b.toNat with
 | true =>
  rw [hlo,Bool.true_or,if_pos rfl] at h
  simp
  refine ⟨_,_,hrp _,?_⟩
  simp [hpl']
  refine ⟨_,_,wordC1 _ (hwt _) _,?_⟩
  cases hw : wordB (s.extract 0 (runLen partB s.data.toList)) with
  | true =>
   rw [hw,if_pos rfl] at h
   cases h
   simp
  | false =>
  rw [hw,if_neg (by simp)] at h
  simp
  refine ⟨_,_,nameC1 _ (hwt _) _,?_⟩
  cases hn : nameB (s.extract 0 (runLen partB s.data.toList)) with
  | true =>
   rw [hn,if_pos rfl] at h
   cases h
   simp
  | false =>
  rw [hn,if_neg (by simp)] at h
  simp
  refine ⟨_,_,typeC1 _ (hwt _) _,?_⟩
  cases ht : typeB (s.extract 0 (runLen partB s.data.toList)) with
  | true =>
   rw [ht,if_pos rfl] at h
   cases h
   simp
  | false =>
   rw [ht,if_neg (by simp)] at h
   cases h
 | false =>
 simp
 refine ⟨_,_,uC _,?_⟩
 cases hup : upperB b.toNat with
 | true =>
  rw [hlo,hup,Bool.or_true,if_pos rfl] at h
  simp
  refine ⟨_,_,hrp _,?_⟩
  simp [hpl']
  refine ⟨_,_,wordC1 _ (hwt _) _,?_⟩
  cases hw : wordB (s.extract 0 (runLen partB s.data.toList)) with
  | true =>
   rw [hw,if_pos rfl] at h
   cases h
   simp
  | false =>
  rw [hw,if_neg (by simp)] at h
  simp
  refine ⟨_,_,nameC1 _ (hwt _) _,?_⟩
  cases hn : nameB (s.extract 0 (runLen partB s.data.toList)) with
  | true =>
   rw [hn,if_pos rfl] at h
   cases h
   simp
  | false =>
  rw [hn,if_neg (by simp)] at h
  simp
  refine ⟨_,_,typeC1 _ (hwt _) _,?_⟩
  cases ht : typeB (s.extract 0 (runLen partB s.data.toList)) with
  | true =>
   rw [ht,if_pos rfl] at h
   cases h
   simp
  | false =>
   rw [ht,if_neg (by simp)] at h
   cases h
 | false =>
 rw [hlo,hup,Bool.or_false,if_neg (by simp)] at h
 simp
 refine ⟨_,_,dC _,?_⟩
 cases hdi : digitB b.toNat with
 | true =>
  rw [hdi,if_pos rfl] at h
  split at h
  ·rename_i hd
   cases h
   have hrl : runLen digitB s.data.toList ≤ s.size:=by
    have:=runLen_le digitB s.data.toList
    omega
   have hpos : 0 < runLen digitB s.data.toList:=by
    rw [hl]; simp [runLen,hdi]
   have htx : (s.extract 0 (runLen digitB s.data.toList)).data.toList = s.data.toList.take (runLen digitB s.data.toList):=by
    rw [extract_list,List.drop_zero]
   have hsz : (s.extract 0 (runLen digitB s.data.toList)).size = runLen digitB s.data.toList:=by
    rw [ByteArray.size_extract]; omega
   have hall : ∀ b ∈ s.data.toList.take (runLen digitB s.data.toList),digitB b.toNat = true:=run_all digitB s.data.toList
   have pC:=fun S=>parseC (s.extract 0 (runLen digitB s.data.toList)) (by omega) (by omega) (by rw [htx]; exact hall) (by rw [htx]; exact hd) S
   simp
   refine ⟨_,_,hrd _,?_⟩
   simp [hrl]
   refine ⟨_,_,pC _,?_⟩
   simp
  ·cases h
 | false =>
  rw [hdi,if_neg (by simp)] at h
  split at h
  ·cases h
  ·rename_i h0
   cases h
   have hpos : (0 : Int) < (signN s.data.toList : Int):=by omega
   have hpos' : 0 < signN s.data.toList:=by omega
   simp
   refine ⟨_,_,hsg _,?_⟩
   simp [hpos,hpos',hsl']
theorem oneF_pos {l : List UInt8} {k : Int} {n : Nat} (h : oneF l = some (k,n)) : 1 ≤ k ∧ k ≤ 5 ∧ n ≤ l.length:=by
 have hp:=runLen_le partB l
 have hd:=runLen_le digitB l
 have hs:=signN_le l
 unfold oneF at h
 split at h
 ·cases h
 rename_i b r
 dsimp only at h
 split at h
 ·split at h
  ·cases h; exact ⟨by omega,by omega,hp⟩
  split at h
  ·cases h; exact ⟨by omega,by omega,hp⟩
  split at h
  ·cases h; exact ⟨by omega,by omega,hp⟩
  ·cases h
 split at h
 ·split at h
  ·cases h; exact ⟨by omega,by omega,hd⟩
  ·cases h
 ·split at h
  ·cases h
  ·cases h; exact ⟨by omega,by omega,hs⟩
theorem oneF_n {l : List UInt8} {k : Int} {n : Nat} (h : oneF l = some (k,n)) : 1 ≤ n:=by
 unfold oneF at h
 split at h
 ·cases h
 rename_i b r
 dsimp only at h
 cases hlt : lowerB b.toNat || upperB b.toNat with
 | true =>
  have hp : 1 ≤ runLen partB (b :: r):=by
   have : partB b.toNat = true:=by
    unfold partB
    rw [hlt]; simp
   simp [runLen,this]
  rw [hlt,if_pos rfl] at h
  split at h
  ·cases h; exact hp
  split at h
  ·cases h; exact hp
  split at h
  ·cases h; exact hp
  ·cases h
 | false =>
 rw [hlt,if_neg (by simp)] at h
 cases hd : digitB b.toNat with
 | true =>
  have hp : 1 ≤ runLen digitB (b :: r):=by simp [runLen,hd]
  rw [hd,if_pos rfl] at h
  split at h
  ·cases h; exact hp
  ·cases h
 | false =>
  rw [hd,if_neg (by simp)] at h
  split at h
  ·cases h
  ·cases h; omega
theorem ext_from (s : ByteArray) (a : Nat) : (s.extract a s.size).data.toList = s.data.toList.drop a:=by
 rw [extract_list]
 have : s.data.toList.length = s.size:=by simp
 rw [← this,List.take_length]
theorem betwF_le : ∀ (f : Nat) (l : List UInt8) (m : Nat),betwF f l = some m → m ≤ l.length
 | 0,l,m,h=>by simp [betwF] at h
 | f + 1,[],m,h=>by simp [betwF] at h; omega
 | f + 1,b :: r,m,h=>by
  simp only [betwF] at h
  split at h
  ·obtain ⟨m',h',rfl⟩:=Option.map_eq_some_iff.1 h
   have:=betwF_le f r m' h'
   simp; omega
  ·split at h
   ·cases h
   ·cases h; omega
theorem allG (s : ByteArray) (hs : s.size ≤ 4000) (f0 f m : Nat) (ts : List Tok) (hb : betwF f0 s.data.toList = some m) (hl : lexF f m (s.data.toList.drop m) = some ts) (S : ASt) :
  ADet Tryd.prog 6 [Sg s] S (if ts.length ≤ 1500 then .tup [.p (.sl 3 (ts.map Tok.enc)),I 0,I 0] else .tup [nilS,I 0,I 4]) S:=by
 have hlen : s.data.toList.length = s.size:=by simp
 have hml:=betwF_le _ _ _ hb
 have h4 : ¬ (4000 : Int) < (s.size : Int):=by omega
 have bC:=fun S=>betweenC s hs m f0 hb S
 refine ADet.intro mixed Tryd.call6 Tryd.func6 rfl ?_
 simp [Tryd.ntmps6,h4]
 refine ⟨_,_,bC _,?_⟩
 simp
 refine awp_loopG 59 3 (by decide) [] (fun a : Nat × List Tok × List Tok=>(∃ f',lexF f' a.1 (s.data.toList.drop a.1) = some a.2.2) ∧ a.2.1 ++ a.2.2 = ts ∧ a.1 ≤ s.size ∧ a.2.1.length ≤ a.1) (fun a=>([Sg s,.any,nilS,I 0,I 0,.osl 3 (a.2.1.map Tok.enc) 0 0,I a.1] ++ List.replicate 39 .any)) (fun a=>[.tok 59 3 a.2.1.length] :: S) (fun a=>a.2.2.length) (m,[],ts) ⟨⟨f,hl⟩,rfl,by omega,by simp⟩ ?_ ?_ ?_ ?_
 ·simp
 ·simp
 ·rfl
 rintro ⟨q,done,rest⟩ ⟨⟨f',hf⟩,hts2,hq,hdl⟩
 simp only at hf hts2 hq hdl
 cases f' with
 | zero=>simp [lexF] at hf
 | succ f' =>
 by_cases hlt : q < s.size
 ·have hlt' : (q : Int) < (s.size : Int):=by omega
  cases hd : s.data.toList.drop q with
  | nil =>
   have:=congrArg List.length hd
   simp at this
   omega
  | cons b r =>
  rw [hd] at hf
  simp only [lexF] at hf
  split at hf
  ·cases hf
  rename_i k n h1
  split at hf
  ·cases hf
  rename_i m2 h2
  obtain ⟨rest',h3,hrest⟩:=Option.map_eq_some_iff.1 hf
  subst hrest
  obtain ⟨k1,k5,hn⟩:=oneF_pos h1
  have hn1:=oneF_n h1
  have hbl : (b :: r).length = s.size - q:=by rw [← hd]; simp
  rw [← hd] at h1 h2 h3 hn
  rw [List.drop_drop] at h2 h3
  have hm2:=betwF_le _ _ _ h2
  have hsz : (s.extract q s.size).size ≤ 4000:=by rw [ByteArray.size_extract]; omega
  have oC:=fun S=>oneC (s.extract q s.size) hsz k n (by rw [ext_from]; exact h1) S
  have hk0 : ¬ k = 0:=by omega
  have hqs : q ≤ s.size:=by omega
  have htx : (s.extract q s.size).extract 0 n = ⟨((b :: r).take n).toArray⟩:=by rw [sub_text,ext_from,hd]
  have htz : ((s.extract q s.size).extract 0 n).size = n:=by
   rw [ByteArray.size_extract,ByteArray.size_extract]
   rw [List.length_drop] at hn; omega
  have hnq : q + n ≤ s.size:=by rw [List.length_drop] at hn; omega
  have hm3 : q + n + m2 ≤ s.size:=by rw [List.length_drop] at hm2; omega
  have hsz2 : (s.extract (q + n) s.size).size ≤ 4000:=by rw [ByteArray.size_extract]; omega
  have bC2:=fun S=>betweenC (s.extract (q + n) s.size) hsz2 m2 f' (by rw [ext_from]; exact h2) S
  obtain ⟨Q,hQ⟩ : ∃ Q,Q = q + n:=⟨_,rfl⟩
  obtain ⟨R,hR⟩ : ∃ R,R = Q + m2:=⟨_,rfl⟩
  rw [← hQ] at hnq bC2
  have hw1 : IntKind.i64.wrap ((q : Int) + (n : Int)) = (Q : Int):=by
   rw [IntWalk.i64_in _ (by omega)]; omega
  have hw2 : IntKind.i64.wrap ((Q : Int) + (m2 : Int)) = (R : Int):=by
   rw [IntWalk.i64_in _ (by omega)]; omega
  have hap : done.length + 1 ≤ 4294967296:=by omega
  simp [hlt',hqs]
  refine ⟨_,_,oC _,?_⟩
  simp [hk0,hap,htz,hw1,hnq]
  refine ⟨_,_,bC2 _,?_⟩
  simp [hw2]
  refine ⟨R,done ++ [⟨k,⟨((b :: r).take n).toArray⟩,q⟩],rest',⟨⟨f',?_⟩,?_,by omega,by simp only [List.length_append,List.length_cons,List.length_nil]; omega⟩,?_,⟨?_,rfl⟩,?_⟩
  ·rw [hR,hQ,show q + n + m2 = q + (n + m2) by omega]
   rw [show q + n + m2 = q + (n + m2) by omega] at h3
   exact h3
  ·rw [← hts2]; simp
  ·simp
  ·simp [Tok.enc,htx]
  ·simp
 ·have hlt' : ¬ (q : Int) < (s.size : Int):=by omega
  have hd : s.data.toList.drop q = []:=List.drop_of_length_le (by omega)
  rw [hd] at hf
  simp only [lexF,Option.some.injEq] at hf
  subst hf
  rw [List.append_nil] at hts2
  subst hts2
  by_cases hts : done.length ≤ 1500
  ·have h15 : ¬ (1500 : Int) < (done.length : Int):=by omega
   simp [hlt',h15,hts]
  ·have h15 : (1500 : Int) < (done.length : Int):=by omega
   simp [hlt',h15,hts]
theorem allC (s : ByteArray) (hs : s.size ≤ 4000) (f0 f m : Nat) (ts : List Tok) (hb : betwF f0 s.data.toList = some m) (hl : lexF f m (s.data.toList.drop m) = some ts) (hts : ts.length ≤ 1500) (S : ASt) :
  ADet Tryd.prog 6 [Sg s] S (.tup [.p (.sl 3 (ts.map Tok.enc)),I 0,I 0]) S:=by
 have:=allG s hs f0 f m ts hb hl S
 rwa [if_pos hts] at this
theorem allLongC (s : ByteArray) (hs : 4000 < s.size) (S : ASt) : ADet Tryd.prog 6 [Sg s] S (.tup [nilS,I 0,I 3]) S:=by
 have h4 : (4000 : Int) < (s.size : Int):=by omega
 refine ADet.intro mixed Tryd.call6 Tryd.func6 rfl ?_
 simp [Tryd.ntmps6,h4]
def badC (b : UInt8) : Bool:=!lowerB b.toNat && !upperB b.toNat && !digitB b.toNat && !signL.contains b
theorem badC_sign {b : UInt8} (h : badC b = true) (r : List UInt8) : signN (b :: r) = 0:=by
 unfold badC at h
 simp only [Bool.and_eq_true,Bool.not_eq_true'] at h
 obtain ⟨_,h⟩:=h
 have h61 : b ≠ 61:=fun e=>by subst e; simp [signL] at h
 have h45 : b ≠ 45:=fun e=>by subst e; simp [signL] at h
 unfold signN
 rw [if_neg]
 ·show (if signL.contains b = true then 1 else 0) = 0
  rw [h]; rfl
 simp only [List.isPrefixOf,Bool.or_eq_true,Bool.and_eq_true,beq_iff_eq]
 rintro (⟨e,_⟩ | ⟨e,_⟩ | ⟨e,_⟩)
 ·exact h61 e.symm
 ·exact h61 e.symm
 ·exact h45 e.symm
theorem oneEC (s : ByteArray) (hs : s.size ≤ 4000) {b : UInt8} {r : List UInt8} (hl : s.data.toList = b :: r) (hb : badC b = true) (S : ASt) : ADet Tryd.prog 15 [Sg s] S (.agg [U 0,Sg emS,I 0]) S:=by
 have hlen : s.data.toList.length = s.size:=by simp
 have hsg:=fun S=>lsignC s hs b r hl S
 rw [hl,badC_sign hb] at hsg
 unfold badC at hb
 simp only [Bool.and_eq_true,Bool.not_eq_true'] at hb
 obtain ⟨⟨⟨h1,h2⟩,h3⟩,_⟩:=hb
 have lC:=lowerC b.toNat
 have uC:=upperC b.toNat
 have dC:=digitC b.toNat
 rw [h1] at lC
 rw [h2] at uC
 rw [h3] at dC
 refine ADet.intro mixed Tryd.call15 Tryd.func15 rfl ?_
 simp [Tryd.ntmps15,hl]
 refine ⟨_,_,lC _,?_⟩
 simp
 refine ⟨_,_,uC _,?_⟩
 simp
 refine ⟨_,_,dC _,?_⟩
 simp
 refine ⟨_,_,hsg _,?_⟩
 simp
def lexE : Nat → Nat → List UInt8 → Option Nat
 | 0,_,_=>none
 | _ + 1,_,[]=>none
 | f + 1,pos,b :: r =>
  if badC b = true then some pos
  else match oneF (b :: r) with
   | none=>none
   | some (k,n) =>
    match betwF f ((b :: r).drop n) with
    | none=>none
    | some m=>lexE f (pos + n + m) ((b :: r).drop (n + m))
theorem allEC (s : ByteArray) (hs : s.size ≤ 4000) (f0 f m e : Nat) (hb : betwF f0 s.data.toList = some m) (hl : lexE f m (s.data.toList.drop m) = some e) (S : ASt) :
  ADet Tryd.prog 6 [Sg s] S (.tup [nilS,I e,I 20]) S:=by
 have hlen : s.data.toList.length = s.size:=by simp
 have hml:=betwF_le _ _ _ hb
 have h4 : ¬ (4000 : Int) < (s.size : Int):=by omega
 have bC:=fun S=>betweenC s hs m f0 hb S
 refine ADet.intro mixed Tryd.call6 Tryd.func6 rfl ?_
 simp [Tryd.ntmps6,h4]
 refine ⟨_,_,bC _,?_⟩
 simp
 refine awp_loopG 59 3 (by decide) [] (fun a : Nat × List Tok=>(∃ f',lexE f' a.1 (s.data.toList.drop a.1) = some e) ∧ a.1 ≤ s.size ∧ a.2.length ≤ a.1) (fun a=>([Sg s,.any,nilS,I 0,I 0,.osl 3 (a.2.map Tok.enc) 0 0,I a.1] ++ List.replicate 39 .any)) (fun a=>[.tok 59 3 a.2.length] :: S) (fun a=>s.size - a.1) (m,[]) ⟨⟨f,hl⟩,by omega,by simp⟩ ?_ ?_ ?_ ?_
 ·simp
 ·simp
 ·rfl
 rintro ⟨q,done⟩ ⟨⟨f',hf⟩,hq,hdl⟩
 simp only at hf hq hdl
 cases f' with
 | zero=>simp [lexE] at hf
 | succ f' =>
 by_cases hlt : q < s.size
 ·have hlt' : (q : Int) < (s.size : Int):=by omega
  cases hd : s.data.toList.drop q with
  | nil =>
   have:=congrArg List.length hd
   simp at this
   omega
  | cons b r =>
  rw [hd] at hf
  have hqs : q ≤ s.size:=by omega
  have hsz : (s.extract q s.size).size ≤ 4000:=by rw [ByteArray.size_extract]; omega
  simp only [lexE] at hf
  split at hf
  ·rename_i hbad
   have hqe : q = e:=by simpa using hf
   have eC:=fun S=>oneEC (s.extract q s.size) hsz (by rw [ext_from]; exact hd) hbad S
   simp [hlt',hqs]
   refine ⟨_,_,eC _,?_⟩
   simp [hqe]
  split at hf
  ·cases hf
  rename_i k n h1
  split at hf
  ·cases hf
  rename_i m2 h2
  obtain ⟨k1,k5,hn⟩:=oneF_pos h1
  have hn1:=oneF_n h1
  have hbl : (b :: r).length = s.size - q:=by rw [← hd]; simp
  rw [← hd] at h1 h2 hf hn
  rw [List.drop_drop] at h2 hf
  have hm2:=betwF_le _ _ _ h2
  have oC:=fun S=>oneC (s.extract q s.size) hsz k n (by rw [ext_from]; exact h1) S
  have hk0 : ¬ k = 0:=by omega
  have htx : (s.extract q s.size).extract 0 n = ⟨((b :: r).take n).toArray⟩:=by rw [sub_text,ext_from,hd]
  have htz : ((s.extract q s.size).extract 0 n).size = n:=by
   rw [ByteArray.size_extract,ByteArray.size_extract]
   rw [List.length_drop] at hn; omega
  have hnq : q + n ≤ s.size:=by rw [List.length_drop] at hn; omega
  have hm3 : q + n + m2 ≤ s.size:=by rw [List.length_drop] at hm2; omega
  have hsz2 : (s.extract (q + n) s.size).size ≤ 4000:=by rw [ByteArray.size_extract]; omega
  have bC2:=fun S=>betweenC (s.extract (q + n) s.size) hsz2 m2 f' (by rw [ext_from]; exact h2) S
  obtain ⟨Q,hQ⟩ : ∃ Q,Q = q + n:=⟨_,rfl⟩
  obtain ⟨R,hR⟩ : ∃ R,R = Q + m2:=⟨_,rfl⟩
  rw [← hQ] at hnq bC2
  have hw1 : IntKind.i64.wrap ((q : Int) + (n : Int)) = (Q : Int):=by
   rw [IntWalk.i64_in _ (by omega)]; omega
  have hw2 : IntKind.i64.wrap ((Q : Int) + (m2 : Int)) = (R : Int):=by
   rw [IntWalk.i64_in _ (by omega)]; omega
  have hap : done.length + 1 ≤ 4294967296:=by omega
  simp [hlt',hqs]
  refine ⟨_,_,oC _,?_⟩
  simp [hk0,hap,htz,hw1,hnq]
  refine ⟨_,_,bC2 _,?_⟩
  simp [hw2]
  refine ⟨R,done ++ [⟨k,⟨((b :: r).take n).toArray⟩,q⟩],⟨⟨f',?_⟩,by omega,by simp only [List.length_append,List.length_cons,List.length_nil]; omega⟩,by omega,⟨?_,rfl⟩,?_⟩
  ·rw [hR,hQ,show q + n + m2 = q + (n + m2) by omega]
   rw [show q + n + m2 = q + (n + m2) by omega] at hf
   exact hf
  ·simp [Tok.enc,htx]
  ·simp
 ·have hd : s.data.toList.drop q = []:=List.drop_of_length_le (by omega)
  rw [hd] at hf
  simp [lexE] at hf
end Go.Proofs.YtfiohepfohhibaaDoor
