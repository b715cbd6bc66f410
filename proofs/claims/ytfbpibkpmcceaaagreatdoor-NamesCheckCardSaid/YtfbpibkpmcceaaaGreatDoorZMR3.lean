/- A part of the proof. The statement is proved in the claim's last text. -/
import Derived.Test.YtfbpibkpmcceaaaGreatDoorZMWh
set_option linter.unusedVariables false
set_option linter.unusedSimpArgs false
set_option maxRecDepth 100000
set_option maxHeartbeats 32000000
namespace Go.Proofs.YtfbpibkpmcceaaaGreatDoor
open Go.RowKit
attribute [local simp] List.replicate List.range List.range.loop resA resOne retA AV.cuts AV.cut AObj.cut trim wkR wkT wkL wkN wkNR wkNL wkM wkMR wkML
theorem rTypeC : ∀ (t : Ty),TySm t → ∀ (d : Int) (S : ASt),-1 ≤ d → d ≤ 1000 → ADet Tryz.prog 103 [tyV t,I d] S (B (t.whole d)) S:=by
 refine Ty.ind fun t ih hsm d S hd1 hd2=>?_
 obtain ⟨_,hn,hsz,hsm⟩:=hsm
 have hty:=fun S=>rtypeC t.name (sm_max hn) S
 rw [whole_eq]
 refine ADet.intro mixed Tryz.call103 Tryz.func103 rfl ?_
 by_cases h0 : 0 < d
 ·have h0' : ¬ d < 1:=by omega
  by_cases h1 : 1 ≤ t.kind
  ·have h1' : ¬ t.kind < 1:=by omega
   by_cases h2 : t.kind ≤ 14
   ·have h2' : ¬ 14 < t.kind:=by omega
    by_cases hop1 : t.kind = 1
    ·cases hnm : sEq t.name emS <;> simp [Tryz.ntmps103,hop1,h0,h0',hnm,plainKind]
    by_cases hop2 : t.kind = 2
    ·cases hnm : sEq t.name emS <;> simp [Tryz.ntmps103,hop2,h0,h0',hnm,plainKind]
    by_cases hop3 : t.kind = 3
    ·cases hnm : sEq t.name emS <;> simp [Tryz.ntmps103,hop3,h0,h0',hnm,plainKind]
    by_cases hop10 : t.kind = 10
    ·cases hnm : sEq t.name emS <;> simp [Tryz.ntmps103,hop10,h0,h0',hnm,plainKind]
    skip
    by_cases hop4 : t.kind = 4
    ·simp [Tryz.ntmps103,hop4,h0,h0',plainKind]
     refine ⟨_,_,hty _,?_⟩
     cases hnm : typeB t.name <;> simp [hop4,h0,h0',hnm,plainKind]
    have hpl : plainKind t.kind = false:=by simp [plainKind]; omega
    cases hnm : sEq t.name emS with
    | false=>simp [Tryz.ntmps103,hop1,hop2,hop3,hop4,hop10,hpl,h0,h0',h1,h1',h2,h2',hnm]
    | true =>
     by_cases hl : t.args.length = 1
     ·obtain ⟨x,hx⟩:=List.length_eq_one_iff.1 hl
      have hih:=fun S=>ih x (by rw [hx]; simp) (hsm x (by rw [hx]; simp)) (d - 1) S (by omega) (by omega)
      simp [Tryz.ntmps103,hop1,hop2,hop3,hop4,hop10,hpl,h0,h0',h1,h1',h2,h2',hnm,hx,tyEnc,wrd d (by omega)]
      refine ⟨_,_,hih _,?_⟩
      simp [hop1,hop2,hop3,hop4,hop10,hpl,h0,h1,h2,hnm,hx]
     ·simp [Tryz.ntmps103,hop1,hop2,hop3,hop4,hop10,hpl,h0,h0',h1,h1',h2,h2',hnm,hl]
   ·have h2' : 14 < t.kind:=by omega
    simp [Tryz.ntmps103,h0,h0',h1,h1',h2,h2']
  ·have h1' : t.kind < 1:=by omega
   simp [Tryz.ntmps103,h0,h0',h1,h1']
 ·have h0' : d < 1:=by omega
  simp [Tryz.ntmps103,h0,h0']
theorem rPlaceC (x : Pl) (h : PlSm x) (S : ASt) : ADet Tryz.prog 151 [plV x] S (B x.whole) S:=by
 refine ADet.okA Tryz.call151 0 1 rfl rfl fun hok=>?_
 have hlen : x.path.length ≤ maxLen:=okl hok
 unfold Pl.whole
 refine ADet.intro mixed Tryz.call151 Tryz.func151 rfl ?_
 simp [Tryz.ntmps151,strs]
 refine ⟨_,_,rnameC x.name (sm_max h.1) _,?_⟩
 cases hn : nameB x.name with
 | false=>simp [hn]
 | true =>
  by_cases h40 : (x.path.length : Int) ≤ 40
  ·have h40' : ¬ (40 : Int) < x.path.length:=by omega
   have h40n : ¬ 40 < x.path.length:=by omega
   simp [hn,h40,h40',h40n]
   refine awp_loop (fun q : Nat=>q ≤ x.path.length ∧ ∀ i (hi : i < x.path.length),i < q → stepB x.path[i] = true) (fun q=>([.any,.ptr 0 0 0,.any,I q] ++ List.replicate 32 .any)) (fun q=>[.cells [Sg x.name,.p (.sl 1 (x.path.map fun s=>[pS s]))] 42] :: S) (fun q=>x.path.length - q) 0 ⟨Nat.zero_le _,fun i hi h=>by omega⟩ ?_ ?_ ?_
   ·simp
   ·simp
   rintro q ⟨hq,hall⟩
   by_cases hlt : q < x.path.length
   ·have hnx : ∀ s,x.path[q] = s → stepB s = true → ∀ i (hi : i < x.path.length),i < q + 1 → stepB x.path[i] = true:=fun s hs hb i hi h=>by
     rcases Nat.lt_or_ge i q with h' | h'
     ·exact hall i hi h'
     ·obtain rfl : i = q:=by omega
      rw [hs]; exact hb
    have hno : ∀ s,x.path[q] = s → stepB s = false → allUp stepB x.path 40 = false:=fun s hs hb=>allUp_no hlt (by omega) (by rw [hs]; exact hb)
    have hsz:=h.2.2 x.path[q] (List.getElem_mem hlt)
    generalize hs : x.path[q] = s at *
    cases hst : sEq s starS with
    | true =>
     simp [hlt,hs,hst]
     exact ⟨q + 1,⟨hlt,hnx s rfl (by simp [stepB,hst])⟩,by omega,wrap_succ hlt⟩
    | false =>
     simp [hlt,hs,hst]
     refine ⟨_,_,rnameC s (sm_max hsz) _,?_⟩
     cases hnm : nameB s with
     | false =>
      have:=hno s rfl (by simp [stepB,hst,hnm])
      simp [hnm,this]
     | true =>
      simp [hnm]
      exact ⟨q + 1,⟨hlt,hnx s rfl (by simp [stepB,hst,hnm])⟩,by omega,wrap_succ hlt⟩
   ·have:=allUp_end (m:=40) hall (fun h=>absurd h hlt)
    simp [hlt,this,h40]
  ·have h40' : (40 : Int) < x.path.length:=by omega
   have h40n : 40 < x.path.length:=by omega
   have : allUp stepB x.path 40 = false:=by simp [allUp,h40]
   simp [hn,h40,h40',h40n,this]
theorem rLentC (e : Ex) (S : ASt) : ADet Tryz.prog 106 [exV e] S (B (lentOp e.op)) S:=by
 refine ADet.intro mixed Tryz.call106 Tryz.func106 rfl ?_
 unfold lentOp
 by_cases h5 : e.op = 5
 ·simp [Tryz.ntmps106,h5]
 ·have : (e.op == 5) = false:=by simp [h5]
  simp [Tryz.ntmps106,this]
def hasB (f : ByteArray) (c : Int) : Bool:=f.data.toList.any fun b=>(b.toNat : Int) == c
theorem hasC (f : ByteArray) (hf : f.size ≤ 20000) (c : Int) (S : ASt) : ADet Tryz.prog 150 [Sg f,U c] S (B (hasB f c)) S:=by
 refine ADet.intro mixed Tryz.call150 Tryz.func150 rfl ?_
 have hsz : f.data.toList.length = f.size:=by simp
 simp [Tryz.ntmps150]
 refine awp_loop (fun q : Nat=>q ≤ f.size ∧ ∀ i (hi : i < f.data.toList.length),i < q → ((f.data.toList[i].toNat : Int) == c) = false) (fun q=>[Sg f,U c,.any,.any,.any,I q,.any,.any,.any,.any,.any,.any,.any,.any,.any,.any,.any]) (fun q=>[] :: S) (fun q=>f.size - q) 0 ⟨Nat.zero_le _,fun i hi h=>by omega⟩ ?_ ?_ ?_
 ·simp
 ·simp
 rintro q ⟨hq,hall⟩
 have hwr : q < f.size → IntKind.i64.wrap ((q : Int) + 1) = ((q + 1 : Nat) : Int):=fun h=>wrap_succ h (sm_max hf)
 by_cases hlt : q < f.size
 ·have hlt2 : q < f.data.toList.length:=by omega
  have hg : f.data.toList[q]? = some f.data.toList[q]:=List.getElem?_eq_getElem hlt2
  generalize hb : f.data.toList[q] = b at *
  have hb2 : f.data[q]'(by simpa using hlt2) = b:=by rw [← hb]; simp
  simp only [Array.getElem?_toList] at hg
  cases hc : ((b.toNat : Int) == c) with
  | true =>
   have : hasB f c = true:=List.any_eq_true.2 ⟨b,by rw [← hb]; exact List.getElem_mem hlt2,hc⟩
   simp [hlt,hg,hb2,hc,this]
  | false =>
   simp [hlt,hg,hb2,hc]
   exact ⟨q + 1,⟨hlt,fun i hi h=>by
    rcases Nat.lt_or_ge i q with h' | h'
    ·have h2:=hall i (by simpa using hi) h'
     rw [Array.getElem_toList] at h2
     simpa using h2
    ·obtain rfl : i = q:=by omega
     rw [hb2]; simpa using hc⟩,by omega,hwr hlt⟩
 ·have : hasB f c = false:=by
   unfold hasB
   rw [List.any_eq_false]
   intro b hb
   obtain ⟨i,hi,rfl⟩:=List.getElem_of_mem hb
   simpa using hall i hi (by omega)
  simp [hlt,this]
end Go.Proofs.YtfbpibkpmcceaaaGreatDoor
