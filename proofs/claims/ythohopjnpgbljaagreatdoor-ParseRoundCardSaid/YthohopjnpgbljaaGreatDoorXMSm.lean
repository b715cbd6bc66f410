/- A part of the proof. The statement is proved in the claim's last text. -/
import Derived.Test.YthohopjnpgbljaaGreatDoorXMWp
import Derived.Test.YthohopjnpgbljaaGreatDoorXMLx
set_option linter.unusedVariables false
set_option linter.unusedSimpArgs false
set_option maxRecDepth 100000
set_option maxHeartbeats 32000000
namespace Go.Proofs.YthohopjnpgbljaaGreatDoor
open Go.RowKit
attribute [local simp] List.replicate List.range List.range.loop resA resOne retA AV.cuts AV.cut AObj.cut trim wkR wkT wkL wkN wkNR wkNL wkM wkMR wkML
theorem sameExprs {β : Type} (key : Ex → β) (K : Nat) (l m : List Ex) (S : ASt) (hc : ∀ x ∈ l,∀ (y : Ex) (L : List AObj) (b : Bool),(b = true ↔ key x = key y) → ADet Tryz.prog K [exV x,exV y] (L :: S) (B b) (L :: S)) (b : Bool) (hb : b = true ↔ l.map key = m.map key) : ADet Tryz.prog 22 [.p (.sl 8 (l.map Ex.enc)),.p (.sl 8 (m.map Ex.enc)),.fn (.func K) [] []] S (B b) S:=by
 refine ADet.okP Tryz.call22 0 rfl fun hok=>?_
 have hlen:=okl hok
 refine ADet.intro mixed Tryz.call22 Tryz.func22 rfl ?_
 by_cases hl : l.length = m.length
 ·simp [Tryz.ntmps22,hl]
  refine awp_loop (fun q : Nat=>q ≤ m.length ∧ ∀ i (h : i < l.length) (h' : i < m.length),i < q → key l[i] = key m[i]) (fun q=>([.p (.sl 8 (l.map Ex.enc)),.p (.sl 8 (m.map Ex.enc)),.fn (.func K) [] []] ++ (List.replicate 12 .any ++ ([.p (.sl 8 (l.map Ex.enc)),I m.length,I q] ++ List.replicate 14 .any)))) (fun q=>[] :: S) (fun q=>m.length - q) 0 ⟨Nat.zero_le _,fun i h h' hi=>by omega⟩ ?_ ?_ ?_
  ·simp
  ·simp
  rintro q ⟨hq,hall⟩
  by_cases hlt : q < m.length
  ·have hlt' : (q : Int) < (m.length : Int):=by omega
   have hl1 : q < l.length:=by omega
   have hw:=wrap_succ hlt (by omega)
   have hc1:=hc l[q] (List.getElem_mem hl1) m[q]
   have hnext : key l[q] = key m[q] → ∀ i (h : i < l.length) (h' : i < m.length),i < q + 1 → key l[i] = key m[i]:=fun he i h h' hi=>by
    by_cases hiq : i = q
    ·subst hiq; exact he
    ·exact hall i h h' (by omega)
   have hne : key l[q] ≠ key m[q] → b = false:=fun he=>by
    cases b with
    | false=>rfl
    | true =>
     have h1:=hb.1 rfl
     have h2 : (l.map key)[q]? = (m.map key)[q]?:=by rw [h1]
     rw [List.getElem?_map,List.getElem?_map,List.getElem?_eq_getElem hl1,List.getElem?_eq_getElem hlt] at h2
     exact absurd (Option.some.inj h2) he
   clear hc
   generalize he1 : l[q] = x at *
   generalize he2 : m[q] = y at *
   by_cases hxy : key x = key y
   ·have hc2:=fun L=>hc1 L true (by simp [hxy])
    simp [hlt,hlt',hl1,he1,he2,exEnc]
    refine ⟨_,_,hc2 _,?_⟩
    simp
    exact ⟨q + 1,⟨by omega,hnext hxy⟩,by omega,hw⟩
   ·have hc2:=fun L=>hc1 L false (by simp [hxy])
    simp [hlt,hlt',hl1,he1,he2,exEnc]
    refine ⟨_,_,hc2 _,?_⟩
    rw [hne hxy]
    simp
  ·have hlt' : ¬ (q : Int) < (m.length : Int):=by omega
   have hbt : b = true:=hb.2 (List.ext_getElem (by simp [hl]) fun i h h'=>by
    rw [List.getElem_map,List.getElem_map]
    exact hall i (by simpa using h) (by simpa using h') (by simp at h'; omega))
   rw [hbt]
   simp [hlt']
 ·have hl' : ¬ (l.length : Int) = (m.length : Int):=by omega
  have hbf : b = false:=by
   cases b with
   | false=>rfl
   | true=>exact absurd (by simpa using congrArg List.length (hb.1 rfl)) hl
  rw [hbf]
  simp [Tryz.ntmps22,hl,hl']
end Go.Proofs.YthohopjnpgbljaaGreatDoor
namespace Go.Proofs.YthohopjnpgbljaaGreatDoor
open Go.RowKit
attribute [local simp] List.replicate List.range List.range.loop resA resOne retA AV.cuts AV.cut AObj.cut trim wkR wkT wkL wkN wkNR wkNL wkM wkMR wkML virtL virtO virt_get markL markO markR_get rowA awpI_nil awpI_cons List.forall_mem_cons List.contains_cons List.contains_nil List.find? nextD_eq awpD_nil awpD_cons LCp LCl refL
theorem sameStrs (l m : List ByteArray) (S : ASt) (b : Bool) (hb : b = true ↔ l = m) : ADet Tryz.prog 46 [.p (strs l),.p (strs m)] S (B b) S:=by
 unfold strs
 refine ADet.okP Tryz.call46 0 rfl fun hok=>?_
 have hlen:=okl hok
 refine ADet.intro mixed Tryz.call46 Tryz.func46 rfl ?_
 by_cases hl : l.length = m.length
 ·simp [Tryz.ntmps46,hl]
  refine awp_loop (fun q : Nat=>q ≤ m.length ∧ ∀ i (h : i < l.length) (h' : i < m.length),i < q → l[i] = m[i]) (fun q=>([.p (.sl 1 (l.map fun s=>[pS s])),.p (.sl 1 (m.map fun s=>[pS s])),.any,.any,.any,.any,.any,.any,.any,.any,.any,.any,I m.length,I q] ++ List.replicate 12 .any)) (fun q=>[] :: S) (fun q=>m.length - q) 0 ⟨Nat.zero_le _,fun i h h' hi=>by omega⟩ ?_ ?_ ?_
  ·simp
  ·simp
  rintro q ⟨hq,hall⟩
  by_cases hlt : q < m.length
  ·have hlt' : (q : Int) < (m.length : Int):=by omega
   have hl1 : q < l.length:=by omega
   have hw:=wrap_succ hlt (by omega)
   have hnext : l[q] = m[q] → ∀ i (h : i < l.length) (h' : i < m.length),i < q + 1 → l[i] = m[i]:=fun he i h h' hi=>by
    by_cases hiq : i = q
    ·subst hiq; exact he
    ·exact hall i h h' (by omega)
   have hne : l[q] ≠ m[q] → b = false:=fun he=>by
    cases b with
    | false=>rfl
    | true =>
     have h1:=hb.1 rfl
     subst h1
     exact absurd rfl he
   generalize he1 : l[q] = x at *
   generalize he2 : m[q] = y at *
   by_cases hxy : x = y
   ·have hs : sEq x y = true:=sEq_iff.2 hxy
    simp [hlt,hlt']
    refine awp_draw [] (by kernel_rfl) (by kernel_rfl) ?_
    simp [hlt,hlt',hl1,he1,he2,hs]
    exact ⟨q + 1,⟨by omega,hnext hxy⟩,by omega,hw⟩
   ·have hs : sEq x y = false:=sEq_ne hxy
    rw [hne hxy]
    simp [hlt,hlt']
    refine awp_draw [] (by kernel_rfl) (by kernel_rfl) ?_
    simp [hlt,hlt',hl1,he1,he2,hs]
  ·have hlt' : ¬ (q : Int) < (m.length : Int):=by omega
   have hbt : b = true:=hb.2 (List.ext_getElem hl fun i h h'=>hall i h h' (by omega))
   rw [hbt]
   simp [hlt']
 ·have hl' : ¬ (l.length : Int) = (m.length : Int):=by omega
  have hbf : b = false:=by
   cases b with
   | false=>rfl
   | true=>exact absurd (congrArg List.length (hb.1 rfl)) hl
  rw [hbf]
  simp [Tryz.ntmps46,hl,hl']
theorem iff_false {b : Bool} {p : Prop} (hb : b = true ↔ p) (h : ¬ p) : b = false:=by
 cases b with
 | false=>rfl
 | true=>exact absurd (hb.1 rfl) h
theorem sub_iff (p : Prop) : ∃ c : Bool,c = true ↔ p:=by
 by_cases h : p
 ·exact ⟨true,by simp [h]⟩
 ·exact ⟨false,by simp [h]⟩
theorem samePlaceC (x y : Pl) (S : ASt) (b : Bool) (hb : b = true ↔ x = y) : ADet Tryz.prog 21 [plV x,plV y] S (B b) S:=by
 obtain ⟨c,hc⟩:=sub_iff (x.path = y.path)
 have pC:=fun S=>sameStrs x.path y.path S c hc
 refine ADet.intro mixed Tryz.call21 Tryz.func21 rfl ?_
 have hxy : x = y ↔ x.name = y.name ∧ x.path = y.path:=by
  obtain ⟨a,p⟩:=x
  obtain ⟨d,q⟩:=y
  simp
 by_cases h1 : x.name = y.name
 ·have hs : sEq x.name y.name = true:=sEq_iff.2 h1
  obtain rfl : b = c:=by
   rw [Bool.eq_iff_iff,hb,hc,hxy]
   exact ⟨fun h=>h.2,fun h=>⟨h1,h⟩⟩
  simp [Tryz.ntmps21,hs]
  refine ⟨_,_,pC _,?_⟩
  simp
 ·have hs : sEq x.name y.name = false:=sEq_ne h1
  rw [iff_false hb fun h=>h1 (hxy.1 h).1]
  simp [Tryz.ntmps21,hs]
theorem ex_iff (e f : Ex) : e.atm (fun _=>0) = f.atm (fun _=>0) ↔ e.op = f.op ∧ e.int = f.int ∧ e.name = f.name ∧ e.second = f.second ∧ e.place = f.place ∧ e.args.map (Ex.atm fun _=>0) = f.args.map (Ex.atm fun _=>0):=by
 rw [exAtm,exAtm]
 simp
theorem sameExC : ∀ (e f : Ex) (S : ASt) (b : Bool),(b = true ↔ e.atm (fun _=>0) = f.atm (fun _=>0)) → ADet Tryz.prog 11 [exV e,exV f] S (B b) S:=by
 refine Ex.ind fun e ih f S b hb=>?_
 obtain ⟨c,hc⟩:=sub_iff (e.args.map (Ex.atm fun _=>0) = f.args.map (Ex.atm fun _=>0))
 obtain ⟨g,hg⟩:=sub_iff (e.place = f.place)
 have eC:=fun L=>sameExprs (Ex.atm fun _=>0) 11 e.args f.args (L :: S) (fun x hx y M b hb=>ih x hx y _ b hb) c hc
 have pC:=fun S=>samePlaceC e.place f.place S g hg
 rw [ex_iff] at hb
 refine ADet.intro mixed Tryz.call11 Tryz.func11 rfl ?_
 by_cases h1 : e.op = f.op
 case neg =>
  have k1 : (e.op == f.op) = false:=by simpa using h1
  rw [iff_false hb fun h=>h1 h.1]
  simp [Tryz.ntmps11,k1]
 by_cases h2 : e.int = f.int
 case neg =>
  have k2 : (e.int == f.int) = false:=by simpa using h2
  rw [iff_false hb fun h=>h2 h.2.1]
  simp [Tryz.ntmps11,h1,k2]
 by_cases h3 : e.name = f.name
 case neg =>
  have k3 : sEq e.name f.name = false:=sEq_ne h3
  rw [iff_false hb fun h=>h3 h.2.2.1]
  simp [Tryz.ntmps11,h1,h2,k3]
 have k3 : sEq e.name f.name = true:=sEq_iff.2 h3
 by_cases h4 : e.second = f.second
 case neg =>
  have k4 : sEq e.second f.second = false:=sEq_ne h4
  rw [iff_false hb fun h=>h4 h.2.2.2.1]
  simp [Tryz.ntmps11,h1,h2,k3,k4]
 have k4 : sEq e.second f.second = true:=sEq_iff.2 h4
 simp [Tryz.ntmps11,h1,h2,k3,k4]
 refine ⟨_,_,pC _,?_⟩
 cases g with
 | false =>
  have h5 : ¬ e.place = f.place:=fun h=>by have:=hg.2 h; cases this
  rw [iff_false hb fun h=>h5 h.2.2.2.2.1]
  simp
 | true =>
  have h5:=hg.1 rfl
  obtain rfl : b = c:=by
   rw [Bool.eq_iff_iff,hb,hc]
   exact ⟨fun h=>h.2.2.2.2.2,fun h=>⟨h1,h2,h3,h4,h5,h⟩⟩
  simp
  refine ⟨_,_,eC _,?_⟩
  simp
end Go.Proofs.YthohopjnpgbljaaGreatDoor
