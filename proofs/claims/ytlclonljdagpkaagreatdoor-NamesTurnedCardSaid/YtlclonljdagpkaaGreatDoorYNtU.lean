/- A part of the proof. The statement is proved in the claim's last text. -/
import Derived.Test.YtlclonljdagpkaaGreatDoorYNtT
import Derived.Test.YtlclonljdagpkaaGreatDoorYNQn
import Derived.Test.YtlclonljdagpkaaGreatDoorYNPg
import Derived.Test.YtlclonljdagpkaaGreatDoorYNRd2
import Derived.Test.YtlclonljdagpkaaGreatDoorYNQo
set_option linter.unusedVariables false
set_option linter.unusedSimpArgs false
set_option maxRecDepth 100000
set_option maxHeartbeats 32000000
namespace Go.Proofs.YtlclonljdagpkaaGreatDoor
open Go.RowKit
attribute [local simp] List.replicate List.range List.range.loop resA resOne retA AV.cuts AV.cut AObj.cut trim wkR wkT wkL wkN wkNR wkNL wkM wkMR wkML virtL virtO virt_get markL markO markR_get rowA awpI_nil awpI_cons List.forall_mem_cons List.contains_cons List.contains_nil List.find? nextD_eq awpD_nil awpD_cons LCp LCl refL
theorem checkB0 (p : List It) (hs : PrSm p) (hn : (p.map It.nd).sum ≤ 30000) : ∃ c : Nat,∀ (L : List AObj),wkL L L → ∀ (R : ASt),ADet Tryz.prog 24 [.agg [.p (prog p)]] (L :: R) (.rsl 0 (L.length + c) (checkN p).length 2) ((L ++ (List.replicate c .dead ++ [rwO (checkN p)])) :: R):=by
 cases hw : prWhole p with
 | true=>exact ⟨4,fun L hL R=>checkW0 p hs hn hw L hL R⟩
 | false=>exact ⟨1,fun L hL R=>checkZ0 p hs hw L hL R⟩
theorem leRows_ntp {a b : List (List PV)} (h : LeRows a b) : ∀ l : List (List PV),LeRows (l ++ a) (l ++ b)
 | []=>h
 | x :: l=>.cons (.refl x) (leRows_ntp h l)
theorem rev_sm {p : List It} (h : PrSm p) : PrSm p.reverse:=⟨by rw [List.length_reverse]; exact h.1,fun x hx=>h.2 x (List.mem_reverse.1 hx)⟩
theorem qo_sm : ItSm qoIt:=⟨by decide,⟨by decide,fun x hx=>by cases hx⟩,.mk _ (by decide) (by decide) (fun x hx=>by cases hx),⟨by decide,fun x hx=>by cases hx⟩,.mk _ (by decide) (by decide) ⟨by decide,by decide,fun x hx=>by cases hx⟩ (by decide) (fun x hx=>by cases hx)⟩
theorem more_sm {p : List It} (h : PrSm p) (hl : p.length ≤ 30) : PrSm (p ++ [qoIt]):=⟨by simp; omega,fun x hx=>by
 rcases List.mem_append.1 hx with hx | hx
 ·exact h.2 x hx
 ·rw [List.mem_singleton.1 hx]; exact qo_sm⟩
theorem more_nd (p : List It) : ((p ++ [qoIt]).map It.nd).sum = (p.map It.nd).sum + 5:=by
 rw [List.map_append,List.sum_append]
 rfl
theorem whole_revF {p : List It} (h : prWhole p = false) : prWhole p.reverse = false:=by
 cases hr : prWhole p.reverse with
 | false=>rfl
 | true=>have:=whole_rev hr; rw [List.reverse_reverse] at this; rw [this] at h; cases h
theorem wkL_ap {A B : List AObj} (h : wkL A A) (k : wkL B B) : wkL (A ++ B) (A ++ B):=by
 induction A with
 | nil=>exact k
 | cons a A ih =>
  cases a <;> simp_all [wkL]
theorem low_hit {p : List It} {k : Int} {s : ByteArray} (h : ¬ ∀ x ∈ p,hitF k s x = false) : ∃ q,∃ h : q < p.length,hitF k s p[q] = true ∧ ∀ j (h : j < p.length),j < q → hitF k s p[j] = false:=by
 have hno : ∃ i,∃ h : i < p.length,hitF k s p[i] = true:=by
  apply Classical.byContradiction
  intro hc
  refine h fun x hx=>?_
  obtain ⟨i,hi,rfl⟩:=List.getElem_of_mem hx
  cases hh : hitF k s p[i] with
  | false=>rfl
  | true=>exact absurd ⟨i,hi,hh⟩ hc
 obtain ⟨i,hi,hit⟩:=hno
 induction i using Nat.strongRecOn with
 | _ i ih =>
  by_cases h : ∃ j,∃ h : j < p.length,j < i ∧ hitF k s p[j] = true
  ·obtain ⟨j,hj,hji,hjt⟩:=h
   exact ih j hji hj hjt
  ·refine ⟨i,hi,hit,fun j hj hji=>?_⟩
   cases hh : hitF k s p[j] with
   | false=>rfl
   | true=>exact absurd ⟨j,hj,hji,hh⟩ h
theorem findMiss (p : List It) (hp : PrSm p) (k : Int) (s : ByteArray) (hno : ∀ x ∈ p,hitF k s x = false) (L : List AObj) (R : ASt) : ADet Tryz.prog 25 [.agg [.p (prog p)],U k,Sg s] (L :: R) (.tup [.agg zItA,B false]) ((L ++ List.replicate (14 + 6 * p.length) .dead) :: R):=by
 rcases findC p hp k s L R with ⟨_,h⟩ | ⟨q,hq,hit,_,_⟩
 ·exact h
 ·rw [hno _ (List.getElem_mem hq)] at hit; cases hit
theorem findHit (p : List It) (hp : PrSm p) (k : Int) (s : ByteArray) (q : Nat) (hq : q < p.length) (hit : hitF k s p[q] = true) (hlow : ∀ j (h : j < p.length),j < q → hitF k s p[j] = false) (L : List AObj) (R : ASt) : ADet Tryz.prog 25 [.agg [.p (prog p)],U k,Sg s] (L :: R) (.tup [.agg (itRC p[q] (L.length + 13 + 6 * q + 4) (L.length + 13 + 6 * q + 5)),B true]) ((L ++ nmO L.length p) :: R):=by
 rcases findC p hp k s L R with ⟨hno,_⟩ | ⟨j,hj,hit2,hlow2,h⟩
 ·rw [hno _ (List.getElem_mem hq)] at hit; cases hit
 ·have e : j = q:=by
   rcases Nat.lt_trichotomy j q with h1 | h1 | h1
   ·rw [hlow j hj h1] at hit2; cases hit2
   ·exact h1
   ·rw [hlow2 q hq h1] at hit; cases hit
  subst e; exact h
theorem find_none {p : List It} (h : ∀ x ∈ p,hitF 3 otherS x = false) : fnIt p otherS = none:=by
 unfold fnIt
 refine List.find?_eq_none.2 fun x hx=>?_
 have:=h x hx
 unfold hitF at this
 simpa using this
theorem nt4 (hAw : ∀ S : ASt,ADet Tryz.prog 18 [] S (B true) S) (p : List It) (hg : great p = false) (n n' : Nat) (rc rc' : List AV) (hcut : ∀ m,AV.cuts m rc = rc) (hcut' : ∀ m,AV.cuts m rc' = rc')
  (hC : ∀ (L : List AObj),wkL L L → ∀ (R : ASt),ADet Tryz.prog 24 [.agg [.p (prog p)]] (L :: R) (.rsl 0 (L.length + 4) n 2) ((L ++ [.dead,.dead,.dead,.dead,.row 48 2 n rc]) :: R))
  (hCr : ∀ (L : List AObj),wkL L L → ∀ (R : ASt),ADet Tryz.prog 24 [.agg [.p (prog p.reverse)]] (L :: R) (.rsl 0 (L.length + 4) n' 2) ((L ++ [.dead,.dead,.dead,.dead,.row 48 2 n' rc']) :: R))
  (hdd : decide (n' = 0) = decide (n = 0))
  (hmore : n = 0 → (∀ x ∈ p,hitF 3 otherS x = false) → p.length + 1 ≤ 30 → ∃ (c2 : Nat) (O : AObj),∀ (L : List AObj),wkL L L → ∀ (R : ASt),ADet Tryz.prog 24 [.agg [.p (prog (p ++ [qoIt]))]] (L :: R) (.rsl 0 (L.length + c2) 0 2) ((L ++ (List.replicate c2 .dead ++ [O])) :: R)) (S : ASt) :
  ADet Tryz.prog 7 [.agg [.p (prog p)]] S (B true) S:=by
 have hsm:=pr_sm hg
 have gC:=fun S=>greatC S p
 rw [hg] at gC
 have hlp : p.length ≤ 20000:=hsm.1
 refine ADet.intro mixed Tryz.call7 Tryz.func7 rfl ?_
 simp [Tryz.ntmps7]
 refine ⟨_,_,hAw _,?_⟩
 simp
 refine ⟨_,_,gC _,?_⟩
 simp
 refine ⟨_,_,hC [.cells [.p (prog p)] 24] ⟨⟨rfl,wkR_refl _⟩,trivial⟩ _,?_⟩
 have hw0 : IntKind.i64.wrap ((p.length : Int) - 1) = (p.length : Int) - 1:=IntWalk.i64_in _ (by omega)
 simp [hw0,prog]
 refine awp_loopG 42 16 (by decide) [.cells [.p (prog p)] 24,.dead,.dead,.dead,.dead,.row 48 2 n rc,.cells [.osl 16 [] 0 8] 24,.cells [.p (.v (.slice none 0 0))] 24] (fun m : Nat=>m ≤ p.length) (fun m=>([.any,.ptr 0 0 0,B false,B (decide (n = 0)),.ptr 0 6 0,.ptr 0 7 0,I ((m : Int) - 1)] ++ List.replicate 70 .any)) (fun m=>[.cells [.p (prog p)] 24,.dead,.dead,.dead,.dead,.row 48 2 n rc,.cells [.osl 16 ((p.map It.enc).drop m).reverse 0 8] 24,.cells [.p (.v (.slice none 0 0))] 24,.tok 42 16 (p.length - m)] :: S) (fun m=>m) p.length (Nat.le_refl _) ?_ ?_ ?_ ?_
 ·simp
 ·simp [prog,hcut,wkR_refl]
 ·simp [List.drop_of_length_le]
 intro m hm
 by_cases hm0 : 0 < m
 ·obtain ⟨j,rfl⟩ : ∃ j,m = j + 1:=⟨m - 1,by omega⟩
  have hjl : j < p.length:=by omega
  have hwj : IntKind.i64.wrap ((j : Int) - 1) = (j : Int) - 1:=IntWalk.i64_in _ (by omega)
  have hle : p.length - (j + 1) + 1 ≤ 4294967296:=by omega
  have hle2 : p.length - (j + 1) + 1 = p.length - j:=by omega
  have hle3 : p.length ≤ 4294967296 + j:=by omega
  have hr : ((p.map It.enc).drop j).reverse = ((p.map It.enc).drop (j + 1)).reverse ++ [p[j].enc]:=by
   rw [List.drop_eq_getElem_cons (by simpa using hjl),List.reverse_cons,List.getElem_map]
  have hrl : ((p.map It.enc).drop (j + 1)).reverse.length = p.length - (j + 1):=by simp
  generalize ((p.map It.enc).drop (j + 1)).reverse = rs at *
  generalize hy : p[j] = y at *
  simp [hjl,hwj,prog,hy,It.enc]
  refine awp_draw [(1,7)] (by kernel_rfl) (by kernel_rfl) ?_
  simp [hjl,hwj,prog,hy,It.enc,hle,hle2,hle3,hrl,hcut,wkR_refl]
  exact ⟨j,by omega,by omega,rfl,by rw [hr,It.enc],rfl⟩
 ·obtain rfl : m = 0:=by omega
  have e1 : p.length ≤ 4294967296:=by omega
  have e2 : p.length ≤ 4294967295:=by omega
  have hfm:=fun hno=>findMiss p hsm 3 otherS hno
  have hfh:=fun q hq hit hlow=>findHit p hsm 3 otherS q hq hit hlow
  unfold otherS at hfm hfh
  have hDk:=wkD (14 + 6 * p.length)
  generalize List.replicate (14 + 6 * p.length) AObj.dead = D at hfm hDk
  generalize @nmO = z at hfh
  simp
  refine ⟨_,_,ADet.sub (.cons (.agg (.cons (.osl (by rw [← List.map_reverse]; exact .refl _)) (.refl _))) (.refl _)) (hCr _ ?_ _),?_⟩
  ·simp [wkR_refl]
  simp [e1,e2,prog,hdd]
  by_cases hno : ∀ x ∈ p,hitF 3 otherS x = false
  ·refine ⟨_,_,hfm hno _ _,?_⟩
   by_cases hn : n = 0
   ·by_cases h30 : p.length + 1 ≤ 30
    ·obtain ⟨c2,O,hM⟩:=hmore hn hno h30
     have h30' : ¬ (30 : Int) < (p.length : Int) + 1:=by omega
     simp (maxSteps:=1000000) [hn,h30']
     refine ⟨_,_,ADet.sub (.cons (.agg (.cons (.osl (by rw [List.map_append]; exact leRows_ntp (.cons (by repeat' constructor) (.refl _)) _)) (.refl _))) (.refl _)) (hM _ ?_ _),?_⟩
     ·simp [wkR_refl]
      exact wkL_ap hDk ⟨⟨rfl,wkR_refl _⟩,trivial⟩
     simp (maxSteps:=1000000)
    ·have h30' : (30 : Int) < (p.length : Int) + 1:=by omega
     simp (maxSteps:=1000000) [hn,h30']
   ·simp (maxSteps:=1000000) [hn]
  ·obtain ⟨q,hq,hit,hlow⟩:=low_hit hno
   refine ⟨_,_,hfh q hq hit hlow _ _,?_⟩
   by_cases hn : n = 0
   ·simp (maxSteps:=1000000) [itRC,hn]
   ·simp (maxSteps:=1000000) [itRC,hn]
theorem nt1 (hAw : ∀ S : ASt,ADet Tryz.prog 18 [] S (B true) S) (p : List It) (hg : great p = false) (n n' : Nat) (rc rc' : List AV) (hcut : ∀ m,AV.cuts m rc = rc) (hcut' : ∀ m,AV.cuts m rc' = rc')
  (hC : ∀ (L : List AObj),wkL L L → ∀ (R : ASt),ADet Tryz.prog 24 [.agg [.p (prog p)]] (L :: R) (.rsl 0 (L.length + 1) n 2) ((L ++ [.dead,.row 48 2 n rc]) :: R))
  (hCr : ∀ (L : List AObj),wkL L L → ∀ (R : ASt),ADet Tryz.prog 24 [.agg [.p (prog p.reverse)]] (L :: R) (.rsl 0 (L.length + 1) n' 2) ((L ++ [.dead,.row 48 2 n' rc']) :: R))
  (hdd : decide (n' = 0) = decide (n = 0))
  (hmore : n = 0 → (∀ x ∈ p,hitF 3 otherS x = false) → p.length + 1 ≤ 30 → ∃ (c2 : Nat) (O : AObj),∀ (L : List AObj),wkL L L → ∀ (R : ASt),ADet Tryz.prog 24 [.agg [.p (prog (p ++ [qoIt]))]] (L :: R) (.rsl 0 (L.length + c2) 0 2) ((L ++ (List.replicate c2 .dead ++ [O])) :: R)) (S : ASt) :
  ADet Tryz.prog 7 [.agg [.p (prog p)]] S (B true) S:=by
 have hsm:=pr_sm hg
 have gC:=fun S=>greatC S p
 rw [hg] at gC
 have hlp : p.length ≤ 20000:=hsm.1
 refine ADet.intro mixed Tryz.call7 Tryz.func7 rfl ?_
 simp [Tryz.ntmps7]
 refine ⟨_,_,hAw _,?_⟩
 simp
 refine ⟨_,_,gC _,?_⟩
 simp
 refine ⟨_,_,hC [.cells [.p (prog p)] 24] ⟨⟨rfl,wkR_refl _⟩,trivial⟩ _,?_⟩
 have hw0 : IntKind.i64.wrap ((p.length : Int) - 1) = (p.length : Int) - 1:=IntWalk.i64_in _ (by omega)
 simp [hw0,prog]
 refine awp_loopG 42 16 (by decide) [.cells [.p (prog p)] 24,.dead,.row 48 2 n rc,.cells [.osl 16 [] 0 5] 24,.cells [.p (.v (.slice none 0 0))] 24] (fun m : Nat=>m ≤ p.length) (fun m=>([.any,.ptr 0 0 0,B false,B (decide (n = 0)),.ptr 0 3 0,.ptr 0 4 0,I ((m : Int) - 1)] ++ List.replicate 70 .any)) (fun m=>[.cells [.p (prog p)] 24,.dead,.row 48 2 n rc,.cells [.osl 16 ((p.map It.enc).drop m).reverse 0 5] 24,.cells [.p (.v (.slice none 0 0))] 24,.tok 42 16 (p.length - m)] :: S) (fun m=>m) p.length (Nat.le_refl _) ?_ ?_ ?_ ?_
 ·simp
 ·simp [prog,hcut,wkR_refl]
 ·simp [List.drop_of_length_le]
 intro m hm
 by_cases hm0 : 0 < m
 ·obtain ⟨j,rfl⟩ : ∃ j,m = j + 1:=⟨m - 1,by omega⟩
  have hjl : j < p.length:=by omega
  have hwj : IntKind.i64.wrap ((j : Int) - 1) = (j : Int) - 1:=IntWalk.i64_in _ (by omega)
  have hle : p.length - (j + 1) + 1 ≤ 4294967296:=by omega
  have hle2 : p.length - (j + 1) + 1 = p.length - j:=by omega
  have hle3 : p.length ≤ 4294967296 + j:=by omega
  have hr : ((p.map It.enc).drop j).reverse = ((p.map It.enc).drop (j + 1)).reverse ++ [p[j].enc]:=by
   rw [List.drop_eq_getElem_cons (by simpa using hjl),List.reverse_cons,List.getElem_map]
  have hrl : ((p.map It.enc).drop (j + 1)).reverse.length = p.length - (j + 1):=by simp
  generalize ((p.map It.enc).drop (j + 1)).reverse = rs at *
  generalize hy : p[j] = y at *
  simp [hjl,hwj,prog,hy,It.enc]
  refine awp_draw [(1,7)] (by kernel_rfl) (by kernel_rfl) ?_
  simp [hjl,hwj,prog,hy,It.enc,hle,hle2,hle3,hrl,hcut,wkR_refl]
  exact ⟨j,by omega,by omega,rfl,by rw [hr,It.enc],rfl⟩
 ·obtain rfl : m = 0:=by omega
  have e1 : p.length ≤ 4294967296:=by omega
  have e2 : p.length ≤ 4294967295:=by omega
  have hfm:=fun hno=>findMiss p hsm 3 otherS hno
  have hfh:=fun q hq hit hlow=>findHit p hsm 3 otherS q hq hit hlow
  unfold otherS at hfm hfh
  have hDk:=wkD (14 + 6 * p.length)
  generalize List.replicate (14 + 6 * p.length) AObj.dead = D at hfm hDk
  generalize @nmO = z at hfh
  simp
  refine ⟨_,_,ADet.sub (.cons (.agg (.cons (.osl (by rw [← List.map_reverse]; exact .refl _)) (.refl _))) (.refl _)) (hCr _ ?_ _),?_⟩
  ·simp [wkR_refl]
  simp [e1,e2,prog,hdd]
  by_cases hno : ∀ x ∈ p,hitF 3 otherS x = false
  ·refine ⟨_,_,hfm hno _ _,?_⟩
   by_cases hn : n = 0
   ·by_cases h30 : p.length + 1 ≤ 30
    ·obtain ⟨c2,O,hM⟩:=hmore hn hno h30
     have h30' : ¬ (30 : Int) < (p.length : Int) + 1:=by omega
     simp (maxSteps:=1000000) [hn,h30']
     refine ⟨_,_,ADet.sub (.cons (.agg (.cons (.osl (by rw [List.map_append]; exact leRows_ntp (.cons (by repeat' constructor) (.refl _)) _)) (.refl _))) (.refl _)) (hM _ ?_ _),?_⟩
     ·simp [wkR_refl]
      exact wkL_ap hDk ⟨⟨rfl,wkR_refl _⟩,trivial⟩
     simp (maxSteps:=1000000)
    ·have h30' : (30 : Int) < (p.length : Int) + 1:=by omega
     simp (maxSteps:=1000000) [hn,h30']
   ·simp (maxSteps:=1000000) [hn]
  ·obtain ⟨q,hq,hit,hlow⟩:=low_hit hno
   refine ⟨_,_,hfh q hq hit hlow _ _,?_⟩
   by_cases hn : n = 0
   ·simp (maxSteps:=1000000) [itRC,hn]
   ·simp (maxSteps:=1000000) [itRC,hn]
end Go.Proofs.YtlclonljdagpkaaGreatDoor
namespace Go.Proofs.YtlclonljdagpkaaGreatDoor
open Go.RowKit
attribute [local simp] List.replicate List.range List.range.loop resA resOne retA
theorem ntGreat (p : List It) (hg : great p = true) (S : ASt) : ADet Tryz.prog 7 [.agg [.p (prog p)]] S (B true) S:=by
 have gC:=fun S=>greatC S p
 rw [hg] at gC
 refine ADet.intro mixed Tryz.call7 Tryz.func7 rfl ?_
 simp [Tryz.ntmps7]
 refine ⟨_,_,awake06C _,?_⟩
 simp
 refine ⟨_,_,gC _,?_⟩
 simp
theorem len0 {F G : List Flt} (h : F = [] ↔ G = []) : decide (F.length = 0) = decide (G.length = 0):=by
 rw [Bool.eq_iff_iff,decide_eq_true_eq,decide_eq_true_eq,List.length_eq_zero_iff,List.length_eq_zero_iff]
 exact h
theorem namesTurnedC (p : List It) (S : ASt) : ADet Tryz.prog 7 [.agg [.p (prog p)]] S (B true) S:=by
 cases hg : great p with
 | true=>exact ntGreat p hg S
 | false =>
  have hs:=pr_sm hg
  have hn:=pr_nd hg
  have hmore : (checkN p).length = 0 → (∀ x ∈ p,hitF 3 otherS x = false) → p.length + 1 ≤ 30 → ∃ (c2 : Nat) (O : AObj),∀ (L : List AObj),wkL L L → ∀ (R : ASt),ADet Tryz.prog 24 [.agg [.p (prog (p ++ [qoIt]))]] (L :: R) (.rsl 0 (L.length + c2) 0 2) ((L ++ (List.replicate c2 .dead ++ [O])) :: R):=fun h0 hno hl=>by
   have hm:=check_more (List.eq_nil_of_length_eq_zero h0) (find_none hno) hl
   obtain ⟨c,hc⟩:=checkB0 (p ++ [qoIt]) (more_sm hs (by omega)) (by rw [more_nd]; omega)
   rw [hm] at hc
   exact ⟨c,_,hc⟩
  have hdd:=len0 (check_rev p)
  have hcut:=fun (fl : List Flt) m=>rowC_cut fltE fl m
  cases hw : prWhole p with
  | true=>exact nt4 awake06C p hg _ _ _ _ (hcut (checkN p)) (hcut (checkN p.reverse)) (fun L hL R=>checkW0 p hs (by omega) hw L hL R) (fun L hL R=>checkW0 p.reverse (rev_sm hs) (by rw [rev_nd]; omega) (whole_rev hw) L hL R) hdd hmore S
  | false=>exact nt1 awake06C p hg _ _ _ _ (hcut (checkN p)) (hcut (checkN p.reverse)) (fun L hL R=>checkZ0 p hs hw L hL R) (fun L hL R=>checkZ0 p.reverse (rev_sm hs) (whole_revF hw) L hL R) hdd hmore S
end Go.Proofs.YtlclonljdagpkaaGreatDoor
