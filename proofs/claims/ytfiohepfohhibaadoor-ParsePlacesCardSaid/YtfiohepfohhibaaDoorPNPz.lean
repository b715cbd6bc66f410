/- A part of the proof. The statement is proved in the claim's last text. -/
import Derived.Test.YtfiohepfohhibaaDoorPNPv
import Derived.Test.YtfiohepfohhibaaDoorPNPw
import Derived.Test.YtfiohepfohhibaaDoorPNPx
import Derived.Test.YtfiohepfohhibaaDoorPNPy
set_option linter.unusedVariables false
set_option linter.unusedSimpArgs false
set_option maxRecDepth 100000
set_option maxHeartbeats 32000000
namespace Go.Proofs.YtfiohepfohhibaaDoor
open Go.RowKit
attribute [local simp] List.replicate List.range List.range.loop resA resOne retA virtL virtO virt_get markL markO markR_get rowA awpI_nil awpI_cons List.forall_mem_cons List.contains_cons List.contains_nil List.find? nextD_eq awpD_nil awpD_cons LCp LCl refL
theorem smp_num {l : List Tok} {s : RS} {x : Tok} {v : Int} (hs : s.at_ ≤ l.length) (hb : s.bad = false) (hx : l[s.at_]? = some x) (hk : x.kind = 4) (h0 : numT x.text = some v) : RdC 77 [] l s ⟨s.at_ + 1,s.bad,s.full⟩ (exV (ex0 1 v emS [] x.pos)):=by
 refine RdC.less (r:=.agg [U 1,I v,Sg emS,Sg emS,Sg emS,nilS,nilS,I x.pos]) (by repeat' constructor) (RdC.intro fun S d i hR=>?_)
 have ho:=(hR.upd s hs).o
 have hlt:=(List.getElem?_eq_some_iff.1 hx).1
 have hlt' : ¬ (l.length : Int) ≤ (s.at_ : Int):=by omega
 have hlt2 : (s.at_ : Int) < (l.length : Int):=by omega
 clear hlt
 have hh : handP l s 4 = true:=by unfold handP; rw [hb,hx]; simp [hk]
 have ht : takeT l s 4 = x.text:=by unfold takeT; rw [if_pos hh,hx]
 have hp : takeP l s 4 = ⟨s.at_ + 1,s.bad,s.full⟩:=by unfold takeP; rw [if_pos hh]
 have tC:=takeW (l:=l) s 4
 rw [ht,hp] at tC
 unfold numT at h0
 split at h0
 ·rename_i hc
  cases h0
  obtain ⟨c1,c2,c3,c4⟩:=hc
  have nC:=fun S=>parseC x.text c2 c1 (fun b hb=>List.all_eq_true.1 c3 b hb) c4 S
  refine ADet.intro mixed Tryd.call77 Tryd.func77 rfl ?_
  simp [Tryd.ntmps77]
  refine awp_draw [] (by kernel_rfl) (by kernel_rfl) ?_
  simp [ho,hb,hlt']
  refine awp_draw [(3,10),(7,10),(9,10)] (by kernel_rfl) (by kernel_rfl) ?_
  simp [ho,hx,hlt2,Tok.enc,hk]
  refine ⟨_,_,tC.at hR hs _,?_⟩
  simp
  refine ⟨_,_,nC _,?_⟩
  simp
  rw [hb]
 ·cases h0
theorem smp_up {l : List Tok} {s s1 : RS} {x : Tok} {e : Ex} (hs : s.at_ ≤ l.length) (hb : s.bad = false) (hx : l[s.at_]? = some x) (hk : x.kind = 3) (uC : RdC 88 [I x.pos] l s s1 (exV e)) : RdC 77 [] l s s1 (exV e):=RdC.intro fun S d i hR=>by
 have ho:=(hR.upd s hs).o
 have hlt:=(List.getElem?_eq_some_iff.1 hx).1
 have hlt' : ¬ (l.length : Int) ≤ (s.at_ : Int):=by omega
 have hlt2 : (s.at_ : Int) < (l.length : Int):=by omega
 clear hlt
 refine ADet.intro mixed Tryd.call77 Tryd.func77 rfl ?_
 simp [Tryd.ntmps77]
 refine awp_draw [] (by kernel_rfl) (by kernel_rfl) ?_
 simp [ho,hb,hlt']
 refine awp_draw [(3,10),(7,10),(9,10)] (by kernel_rfl) (by kernel_rfl) ?_
 simp [ho,hx,hlt2,Tok.enc,hk]
 refine ⟨_,_,uC.at hR hs _,?_⟩
 simp
theorem smp_call {l : List Tok} {s s1 : RS} {x : Tok} {es : List Ex} (hs : s.at_ ≤ l.length) (hb : s.bad = false) (hx : l[s.at_]? = some x) (hk : x.kind = 2) (hi : isP l s (⟨#[40]⟩ : ByteArray) 1 = true)
  (lC : RdF 89 (fun d i=>[Sg (⟨#[41]⟩ : ByteArray),.fn (.func 83) [.ptr d i 0] []]) l (mustP l (takeP l s 2) [(⟨#[40]⟩ : ByteArray)]) s1 (.p (.sl 8 (es.map Ex.enc)))) : RdC 77 [] l s s1 (exV (ex0 18 0 (takeT l s 2) es x.pos)):=by
 refine RdC.less (r:=.agg [U 18,I 0,Sg (takeT l s 2),Sg emS,Sg emS,nilS,.p (.sl 8 (es.map Ex.enc)),I x.pos]) (by repeat' constructor) (RdC.intro fun S d i hR=>?_)
 have ho:=(hR.upd s hs).o
 have hlt:=(List.getElem?_eq_some_iff.1 hx).1
 have hlt' : ¬ (l.length : Int) ≤ (s.at_ : Int):=by omega
 have hlt2 : (s.at_ : Int) < (l.length : Int):=by omega
 clear hlt
 have hm1:=takeP_le (s:=s) 2 hs
 have hm2:=mustP_le [(⟨#[40]⟩ : ByteArray)] _ hm1
 have iC:=fun L=>isC ((hR.upd s hs).push L) (⟨#[40]⟩ : ByteArray) 1 (by omega)
 rw [hi] at iC
 refine ADet.intro mixed Tryd.call77 Tryd.func77 rfl ?_
 simp [Tryd.ntmps77]
 refine awp_draw [] (by kernel_rfl) (by kernel_rfl) ?_
 simp [ho,hb,hlt']
 refine awp_draw [(3,10),(7,10),(9,10)] (by kernel_rfl) (by kernel_rfl) ?_
 simp [ho,hx,hlt2,Tok.enc,hk]
 refine ⟨_,_,iC _,?_⟩
 simp
 refine awp_drawL [(5,6,6)] [(3,1)] (by kernel_rfl) (by kernel_rfl) (by kernel_rfl) (by simp) ?_
 simp
 refine ⟨_,_,(nameRW s).at hR hs _,?_⟩
 simp
 refine ⟨_,_,mustP1 _ hm1 hR _ _ _,?_⟩
 simp
 refine ⟨_,_,lC.at hR hm2 _,?_⟩
 simp
theorem smp_word {l : List Tok} {s s1 : RS} {x : Tok} {op : Int} {e : Ex} (hs : s.at_ ≤ l.length) (hn : l.length ≤ 1500) (hb : s.bad = false) (hx : l[s.at_]? = some x) (k2 : ¬ x.kind = 2) (k3 : ¬ x.kind = 3) (k4 : ¬ x.kind = 4) (hf : findK x.text callK = some op) (cC : RdC 91 [U op,I x.pos] l ⟨s.at_ + 1,s.bad,s.full⟩ s1 (exV e)) : RdC 77 [] l s s1 (exV e):=RdC.intro fun S d i hR=>by
 have ho:=(hR.upd s hs).o
 have hlt:=(List.getElem?_eq_some_iff.1 hx).1
 have hlt' : ¬ (l.length : Int) ≤ (s.at_ : Int):=by omega
 have hlt2 : (s.at_ : Int) < (l.length : Int):=by omega
 obtain ⟨Q,hQ⟩ : ∃ Q,Q = s.at_ + 1:=⟨_,rfl⟩
 have hw : IntKind.i64.wrap ((s.at_ : Int) + 1) = (Q : Int):=by rw [hQ]; exact wrap_nat (b:=1) (by unfold maxLen; omega)
 rw [← hQ] at cC
 have hq5 : (⟨Q,s.bad,s.full⟩ : RS).at_ ≤ l.length:=by show Q ≤ _; omega
 have cA:=fun L=>cC.at hR hq5 L
 rw [hb] at cA
 clear hlt
 obtain ⟨j,hj⟩:=find_mapK x.text callK 0
 rw [hf,Option.map_some] at hj
 refine ADet.intro mixed Tryd.call77 Tryd.func77 rfl ?_
 simp [Tryd.ntmps77]
 refine awp_draw [] (by kernel_rfl) (by kernel_rfl) ?_
 simp [ho,hb,hlt']
 refine awp_draw [(3,10),(7,10),(9,10)] (by kernel_rfl) (by kernel_rfl) ?_
 simp [ho,hx,hlt2,Tok.enc,k2,k3,k4]
 refine awp_draw [(2,0)] (by kernel_rfl) (by kernel_rfl) ?_
 simp
 refine ⟨_,_,callsC _ _,?_⟩
 simp [mapK,hj,ho,hb,hw]
 refine ⟨_,_,cA _,?_⟩
 simp
theorem smp_rest {l : List Tok} {s s1 : RS} {x : Tok} {e : Ex} {c : Nat} (hs : s.at_ ≤ l.length) (hb : s.bad = false) (hx : l[s.at_]? = some x) (k2 : ¬ x.kind = 2) (k3 : ¬ x.kind = 3) (k4 : ¬ x.kind = 4) (hf : findK x.text callK = none)
  (hc : (c = 0 ∧ isP l s (⟨#[116,114,117,101]⟩ : ByteArray) 0 = true ∧ e = ex0 2 1 emS [] x.pos ∧ s1 = mayP l s (⟨#[116,114,117,101]⟩ : ByteArray)) ∨
   (c = 1 ∧ isP l s (⟨#[116,114,117,101]⟩ : ByteArray) 0 = false ∧ isP l s (⟨#[102,97,108,115,101]⟩ : ByteArray) 0 = true ∧ e = ex0 2 0 emS [] x.pos ∧ s1 = mayP l s (⟨#[102,97,108,115,101]⟩ : ByteArray)) ∨
   (c = 2 ∧ isP l s (⟨#[116,114,117,101]⟩ : ByteArray) 0 = false ∧ isP l s (⟨#[102,97,108,115,101]⟩ : ByteArray) 0 = false ∧ isP l (mustP l s [(⟨#[40]⟩ : ByteArray)]) (⟨#[41]⟩ : ByteArray) 0 = true ∧ e = ex0 3 0 emS [] x.pos ∧ s1 = mayP l (mustP l s [(⟨#[40]⟩ : ByteArray)]) (⟨#[41]⟩ : ByteArray)) ∨
   (c = 3 ∧ isP l s (⟨#[116,114,117,101]⟩ : ByteArray) 0 = false ∧ isP l s (⟨#[102,97,108,115,101]⟩ : ByteArray) 0 = false ∧ isP l (mustP l s [(⟨#[40]⟩ : ByteArray)]) (⟨#[41]⟩ : ByteArray) 0 = false ∧ ∃ s2,RdC 47 [] l (mustP l s [(⟨#[40]⟩ : ByteArray)]) s2 (exV e) ∧ s2.at_ ≤ l.length ∧ s1 = mustP l s2 [(⟨#[41]⟩ : ByteArray)])) : RdC 77 [] l s s1 (exV e):=by
 have hlt:=(List.getElem?_eq_some_iff.1 hx).1
 have hlt' : ¬ (l.length : Int) ≤ (s.at_ : Int):=by omega
 have hlt2 : (s.at_ : Int) < (l.length : Int):=by omega
 clear hlt
 obtain ⟨j,hj⟩:=find_mapK x.text callK 0
 rw [hf,Option.map_none] at hj
 have hm1:=mustP_le [(⟨#[40]⟩ : ByteArray)] _ hs
 rcases hc with ⟨-,c1,rfl,rfl⟩ | ⟨-,c1,c2,rfl,rfl⟩ | ⟨-,c1,c2,c3,rfl,rfl⟩ | ⟨-,c1,c2,c3,s2,eC,hs2,rfl⟩
 ·refine RdC.less (r:=.agg [U 2,I 1,Sg emS,Sg emS,Sg emS,nilS,nilS,I x.pos]) (by repeat' constructor) (RdC.intro fun S d i hR=>?_)
  have ho:=(hR.upd s hs).o
  refine ADet.intro mixed Tryd.call77 Tryd.func77 rfl ?_
  simp [Tryd.ntmps77]
  refine awp_draw [] (by kernel_rfl) (by kernel_rfl) ?_
  simp [ho,hb,hlt']
  refine awp_draw [(3,10),(7,10),(9,10)] (by kernel_rfl) (by kernel_rfl) ?_
  simp [ho,hx,hlt2,Tok.enc,k2,k3,k4]
  refine awp_draw [(2,0)] (by kernel_rfl) (by kernel_rfl) ?_
  simp
  refine ⟨_,_,callsC _ _,?_⟩
  simp [mapK,hj]
  refine ⟨_,_,(mayW s (⟨#[116,114,117,101]⟩ : ByteArray)).at hR hs _,?_⟩
  rw [c1]
  simp
 ·refine RdC.less (r:=.agg [U 2,I 0,Sg emS,Sg emS,Sg emS,nilS,nilS,I x.pos]) (by repeat' constructor) (RdC.intro fun S d i hR=>?_)
  have ho:=(hR.upd s hs).o
  refine ADet.intro mixed Tryd.call77 Tryd.func77 rfl ?_
  simp [Tryd.ntmps77]
  refine awp_draw [] (by kernel_rfl) (by kernel_rfl) ?_
  simp [ho,hb,hlt']
  refine awp_draw [(3,10),(7,10),(9,10)] (by kernel_rfl) (by kernel_rfl) ?_
  simp [ho,hx,hlt2,Tok.enc,k2,k3,k4]
  refine awp_draw [(2,0)] (by kernel_rfl) (by kernel_rfl) ?_
  simp
  refine ⟨_,_,callsC _ _,?_⟩
  simp [mapK,hj]
  refine ⟨_,_,(mayW s (⟨#[116,114,117,101]⟩ : ByteArray)).at hR hs _,?_⟩
  rw [c1,mayP_no c1]
  simp
  refine ⟨_,_,(mayW s (⟨#[102,97,108,115,101]⟩ : ByteArray)).at hR hs _,?_⟩
  rw [c2]
  simp
 ·refine RdC.less (r:=.agg [U 3,I 0,Sg emS,Sg emS,Sg emS,nilS,nilS,I x.pos]) (by repeat' constructor) (RdC.intro fun S d i hR=>?_)
  have ho:=(hR.upd s hs).o
  refine ADet.intro mixed Tryd.call77 Tryd.func77 rfl ?_
  simp [Tryd.ntmps77]
  refine awp_draw [] (by kernel_rfl) (by kernel_rfl) ?_
  simp [ho,hb,hlt']
  refine awp_draw [(3,10),(7,10),(9,10)] (by kernel_rfl) (by kernel_rfl) ?_
  simp [ho,hx,hlt2,Tok.enc,k2,k3,k4]
  refine awp_draw [(2,0)] (by kernel_rfl) (by kernel_rfl) ?_
  simp
  refine ⟨_,_,callsC _ _,?_⟩
  simp [mapK,hj]
  refine ⟨_,_,(mayW s (⟨#[116,114,117,101]⟩ : ByteArray)).at hR hs _,?_⟩
  rw [c1,mayP_no c1]
  simp
  refine ⟨_,_,(mayW s (⟨#[102,97,108,115,101]⟩ : ByteArray)).at hR hs _,?_⟩
  rw [c2,mayP_no c2]
  simp
  refine ⟨_,_,mustP1 _ hs hR _ _ _,?_⟩
  simp
  refine ⟨_,_,(mayW _ (⟨#[41]⟩ : ByteArray)).at hR hm1 _,?_⟩
  rw [c3]
  simp
 ·refine RdC.intro fun S d i hR=>?_
  have ho:=(hR.upd s hs).o
  refine ADet.intro mixed Tryd.call77 Tryd.func77 rfl ?_
  simp [Tryd.ntmps77]
  refine awp_draw [] (by kernel_rfl) (by kernel_rfl) ?_
  simp [ho,hb,hlt']
  refine awp_draw [(3,10),(7,10),(9,10)] (by kernel_rfl) (by kernel_rfl) ?_
  simp [ho,hx,hlt2,Tok.enc,k2,k3,k4]
  refine awp_draw [(2,0)] (by kernel_rfl) (by kernel_rfl) ?_
  simp
  refine ⟨_,_,callsC _ _,?_⟩
  simp [mapK,hj]
  refine ⟨_,_,(mayW s (⟨#[116,114,117,101]⟩ : ByteArray)).at hR hs _,?_⟩
  rw [c1,mayP_no c1]
  simp
  refine ⟨_,_,(mayW s (⟨#[102,97,108,115,101]⟩ : ByteArray)).at hR hs _,?_⟩
  rw [c2,mayP_no c2]
  simp
  refine ⟨_,_,mustP1 _ hs hR _ _ _,?_⟩
  simp
  refine ⟨_,_,(mayW _ (⟨#[41]⟩ : ByteArray)).at hR hm1 _,?_⟩
  rw [c3,mayP_no c3]
  simp
  refine ⟨_,_,eC.at hR hm1 _,?_⟩
  simp
  refine ⟨_,_,mustP1 _ hs2 hR _ _ _,?_⟩
  simp
theorem smpW {n : Nat} (hn : n ≤ 100000) {l : List Tok} (hl : l.length ≤ 1500) {rd : RS → Option (Ex × RS)} (hrd : RdOk l rd) {s : RS} {e : Ex} {s' : RS} (hs : s.at_ ≤ l.length) (h : simpleQ l n rd s = some (e,s')) : RdC 77 [] l s s' (exV e) ∧ s'.at_ ≤ l.length:=by
 unfold simpleQ at h
 cases hb : s.bad with
 | true =>
  rw [hb,if_pos rfl] at h
  cases h
  exact ⟨(simple_bad hb).less exZ_le,hs⟩
 | false =>
 rw [hb,if_neg (by simp)] at h
 cases hx : l[s.at_]? with
 | none =>
  rw [hx] at h
  cases h
  have:=List.getElem?_eq_none_iff.1 hx
  exact ⟨(simple_end hb (by omega)).less exZ_le,hs⟩
 | some x =>
  rw [hx] at h
  have hlt:=(List.getElem?_eq_some_iff.1 hx).1
  dsimp only at h
  split at h
  ·rename_i k4
   obtain ⟨v,hv,he⟩:=Option.map_eq_some_iff.1 h
   cases he
   have:=smp_num hs hb hx k4 hv
   rw [hb] at this
   exact ⟨this,hlt⟩
  rename_i k4
  split at h
  ·rename_i k3
   obtain ⟨a,b⟩:=upperW hn hrd hs h
   exact ⟨smp_up hs hb hx k3 a,b⟩
  rename_i k3
  split at h
  ·rename_i k2
   split at h
   ·rename_i hi
    obtain ⟨⟨xs,s1⟩,hp,he⟩:=Option.map_eq_some_iff.1 h
    cases he
    have hm2:=mustP_le [(⟨#[40]⟩ : ByteArray)] _ (takeP_le (s:=s) 2 hs)
    have hle : ∀ s x s',s.at_ ≤ l.length → lentQ l n rd s = some (x,s') → s'.at_ ≤ l.length:=fun s x s' a b=>(lentW hn hrd a b).2
    have lC:=listExC (K:=83) hle (fun s x s' a b=>(lentW hn hrd a b).1) hn hm2 hp
    exact ⟨smp_call hs hb hx k2 hi lC,listP_le hle hm2 hp⟩
   ·rename_i hi
    obtain ⟨⟨p,s1⟩,hp,he⟩:=Option.map_eq_some_iff.1 h
    cases he
    exact ⟨simple_use hn hs hb hx k2 (by simpa using hi) hp,(pathP_le hs hp).1⟩
  rename_i k2
  cases hf : findK x.text callK with
  | some op =>
   rw [hf] at h
   dsimp only at h
   rw [← hb] at h
   obtain ⟨a,b⟩:=calledRW hn hrd (s:=⟨s.at_ + 1,s.bad,s.full⟩) hlt h
   exact ⟨smp_word hs hl hb hx k2 k3 k4 hf a,b⟩
  | none =>
   rw [hf] at h
   dsimp only at h
   have hm1:=mustP_le [(⟨#[40]⟩ : ByteArray)] _ hs
   cases c1 : isP l s (⟨#[116,114,117,101]⟩ : ByteArray) 0 with
   | true =>
    rw [c1,if_pos rfl] at h
    cases h
    exact ⟨smp_rest hs hb hx k2 k3 k4 hf (.inl ⟨rfl,c1,rfl,rfl⟩),mayP_le _ hs⟩
   | false =>
   rw [c1,if_neg (by simp)] at h
   cases c2 : isP l s (⟨#[102,97,108,115,101]⟩ : ByteArray) 0 with
   | true =>
    rw [c2,if_pos rfl] at h
    cases h
    exact ⟨smp_rest hs hb hx k2 k3 k4 hf (.inr (.inl ⟨rfl,c1,c2,rfl,rfl⟩)),mayP_le _ hs⟩
   | false =>
   rw [c2,if_neg (by simp)] at h
   cases c3 : isP l (mustP l s [(⟨#[40]⟩ : ByteArray)]) (⟨#[41]⟩ : ByteArray) 0 with
   | true =>
    rw [c3,if_pos rfl] at h
    cases h
    exact ⟨smp_rest hs hb hx k2 k3 k4 hf (.inr (.inr (.inl ⟨rfl,c1,c2,c3,rfl,rfl⟩))),mayP_le _ hm1⟩
   | false =>
    rw [c3,if_neg (by simp)] at h
    obtain ⟨⟨y,s2⟩,hy,he⟩:=Option.map_eq_some_iff.1 h
    cases he
    obtain ⟨eC,hs2⟩:=hrd _ _ _ hm1 hy
    exact ⟨smp_rest hs hb hx k2 k3 k4 hf (.inr (.inr (.inr ⟨rfl,c1,c2,c3,s2,eC,hs2,rfl⟩))),mustP_le _ _ hs2⟩
end Go.Proofs.YtfiohepfohhibaaDoor
namespace Go.Proofs.YtfiohepfohhibaaDoor
open Go.RowKit
attribute [local simp] List.replicate List.range List.range.loop resA resOne retA
theorem stg_bad {l : List Tok} {s : RS} (hs : s.at_ ≤ l.length) (k : Nat) (hb : s.bad = true) : RdC 61 [I k] l s s exZ:=RdC.intro fun S d i hR=>by
 have ho:=(hR.upd s hs).o
 refine ADet.intro mixed Tryd.call61 Tryd.func61 rfl ?_
 simp [Tryd.ntmps61]
 refine ⟨_,_,(placeRW s).at hR hs _,?_⟩
 simp [ho,hb]
theorem stg_6 {l : List Tok} {s s1 : RS} {e : Ex} (hs : s.at_ ≤ l.length) (hb : s.bad = false) (hno : isP l s (⟨#[45]⟩ : ByteArray) 0 = false) (ih : RdC 77 [] l s s1 (exV e)) : RdC 61 [I (6 : Nat)] l s s1 (exV e):=RdC.intro fun S d i hR=>by
 have ho:=(hR.upd s hs).o
 refine ADet.intro mixed Tryd.call61 Tryd.func61 rfl ?_
 simp [Tryd.ntmps61]
 refine ⟨_,_,(placeRW s).at hR hs _,?_⟩
 simp [ho,hb]
 refine ⟨_,_,(mayW s (⟨#[45]⟩ : ByteArray)).at hR hs _,?_⟩
 rw [hno,mayP_no hno]
 simp
 refine ⟨_,_,ih.at hR hs _,?_⟩
 simp
theorem stg_neg {l : List Tok} {s s1 : RS} {e : Ex} (hs : s.at_ ≤ l.length) (hb : s.bad = false) (hi : isP l s (⟨#[45]⟩ : ByteArray) 0 = true) (ih : RdC 61 [I (6 : Nat)] l (mayP l s (⟨#[45]⟩ : ByteArray)) s1 (exV e)) : RdC 61 [I (6 : Nat)] l s s1 (exV (ex0 7 0 emS [e] (placeP l s))):=by
 refine RdC.less (r:=.agg [U 7,I 0,Sg emS,Sg emS,Sg emS,nilS,.p (.sl 8 ([e].map Ex.enc)),I (placeP l s)]) (by repeat' constructor) (RdC.intro fun S d i hR=>?_)
 have ho:=(hR.upd s hs).o
 have hm1:=mayP_le (s:=s) (⟨#[45]⟩ : ByteArray) hs
 refine ADet.intro mixed Tryd.call61 Tryd.func61 rfl ?_
 simp [Tryd.ntmps61]
 refine ⟨_,_,(placeRW s).at hR hs _,?_⟩
 simp [ho,hb]
 refine ⟨_,_,(mayW s (⟨#[45]⟩ : ByteArray)).at hR hs _,?_⟩
 rw [hi]
 simp
 refine ⟨_,_,ih.at hR hm1 _,?_⟩
 simp [exEnc]
theorem stg_not {l : List Tok} {s s1 : RS} {e : Ex} (hs : s.at_ ≤ l.length) (hb : s.bad = false) (hi : isP l s (⟨#[110,111,116]⟩ : ByteArray) 0 = true) (ih : RdC 61 [I (2 : Nat)] l (mayP l s (⟨#[110,111,116]⟩ : ByteArray)) s1 (exV e)) : RdC 61 [I (2 : Nat)] l s s1 (exV (ex0 8 0 emS [e] (placeP l s))):=by
 refine RdC.less (r:=.agg [U 8,I 0,Sg emS,Sg emS,Sg emS,nilS,.p (.sl 8 ([e].map Ex.enc)),I (placeP l s)]) (by repeat' constructor) (RdC.intro fun S d i hR=>?_)
 have ho:=(hR.upd s hs).o
 have hm1:=mayP_le (s:=s) (⟨#[110,111,116]⟩ : ByteArray) hs
 refine ADet.intro mixed Tryd.call61 Tryd.func61 rfl ?_
 simp [Tryd.ntmps61]
 refine ⟨_,_,(placeRW s).at hR hs _,?_⟩
 simp [ho,hb]
 refine ⟨_,_,(mayW s (⟨#[110,111,116]⟩ : ByteArray)).at hR hs _,?_⟩
 rw [hi]
 simp
 refine ⟨_,_,ih.at hR hm1 _,?_⟩
 simp [exEnc]
theorem signs_le {l : List Tok} {k q : Nat} {rd : RS → Option (Ex × RS)} (hrd : SgOk l q rd) : ∀ (n : Nat) (e : Ex) (s : RS) (e' : Ex) (s' : RS),s.at_ ≤ l.length → signsQ l rd k n e s = some (e',s') → s'.at_ ≤ l.length
 | 0,e,s,e',s',hs,h=>by simp [signsQ] at h
 | n + 1,e,s,e',s',hs,h=>by
  unfold signsQ at h
  split at h
  ·cases h; exact hs
  split at h
  ·cases h; exact hs
  rename_i x hx
  have hlt:=(List.getElem?_eq_some_iff.1 hx).1
  split at h
  ·cases h; exact hs
  split at h
  ·cases h
  rename_i r s1 h1
  have hs1:=(hrd _ _ _ (show (⟨s.at_ + 1,s.bad,s.full⟩ : RS).at_ ≤ l.length from hlt) h1).2
  split at h
  ·cases h; exact hs1
  ·exact signs_le hrd n _ s1 e' s' hs1 h
theorem exprOf {l : List Tok} {s s1 : RS} {e : Ex} (hs : s.at_ ≤ l.length) (ih : RdC 61 [I (0 : Nat)] l s s1 (exV e)) : RdC 47 [] l s s1 (exV e):=RdC.intro fun S d i hR=>by
 refine ADet.intro mixed Tryd.call47 Tryd.func47 rfl ?_
 simp [Tryd.ntmps47]
 refine ⟨_,_,ih.at hR hs _,?_⟩
 simp
theorem strongQW {l : List Tok} (hl : l.length ≤ 1500) : ∀ (n : Nat),n ≤ 100000 → ∀ (j : Nat),j ≤ 6 → SgOk l (6 - j) (strongQ l n j)
 | 0,hn,j,hj=>fun s e s' hs h=>by simp [strongQ] at h
 | n + 1,hn,0,hj=>fun s e s' hs h=>by
  have ih:=strongQW hl n (by omega)
  unfold strongQ at h
  cases hb : s.bad with
  | true =>
   rw [hb,if_pos rfl] at h
   cases h
   exact ⟨(stg_bad hs 6 hb).less exZ_le,hs⟩
  | false =>
  rw [hb,if_neg (by simp)] at h
  cases hi : isP l s (⟨#[45]⟩ : ByteArray) 0 with
  | true =>
   rw [hi,if_pos rfl] at h
   obtain ⟨⟨x,s1⟩,hx,he⟩:=Option.map_eq_some_iff.1 h
   cases he
   obtain ⟨a,b⟩:=ih 0 (by omega) _ _ _ (mayP_le _ hs) hx
   exact ⟨stg_neg hs hb hi a,b⟩
  | false =>
   rw [hi,if_neg (by simp)] at h
   have hrd : RdOk l (strongQ l n 6):=fun s e s' hs h=>by
    obtain ⟨a,b⟩:=ih 6 (by omega) s e s' hs h
    exact ⟨exprOf hs a,b⟩
   obtain ⟨a,b⟩:=smpW (n:=n) (by omega) hl hrd hs h
   exact ⟨stg_6 hs hb hi a,b⟩
 | n + 1,hn,j + 1,hj=>fun s e s' hs h=>by
  have ih:=strongQW hl n (by omega)
  unfold strongQ at h
  cases hb : s.bad with
  | true =>
   rw [hb,if_pos rfl] at h
   cases h
   exact ⟨(stg_bad hs _ hb).less exZ_le,hs⟩
  | false =>
  rw [hb,if_neg (by simp)] at h
  split at h
  ·rename_i hnt
   obtain ⟨rfl,hi⟩:=hnt
   obtain ⟨⟨x,s1⟩,hx,he⟩:=Option.map_eq_some_iff.1 h
   cases he
   obtain ⟨a,b⟩:=ih 4 (by omega) _ _ _ (mayP_le _ hs) hx
   exact ⟨stg_not hs hb hi a,b⟩
  rename_i hnt
  split at h
  ·cases h
  rename_i e1 s1 h1
  have g:=ih j (by omega)
  have hs1:=(g _ _ _ hs h1).2
  have hs':=signs_le g _ _ _ _ _ hs1 h
  refine ⟨?_,hs'⟩
  rcases (by omega : j = 0 ∨ j = 1 ∨ j = 2 ∨ j = 3 ∨ j = 4 ∨ j = 5) with rfl | rfl | rfl | rfl | rfl | rfl
  ·exact sign_5 g hs hb h1 h hs'
  ·exact sign_4 g hs hb h1 h hs'
  ·exact sign_3 g hs hb h1 h hs'
  ·exact sign_2 g hs hb (by simpa using hnt) h1 h hs'
  ·exact sign_1 g hs hb h1 h hs'
  ·exact sign_0 g hs hb h1 h hs'
theorem exprQW {l : List Tok} (hl : l.length ≤ 1500) {n : Nat} (hn : n ≤ 100000) : RdOk l (strongQ l n 6):=fun s e s' hs h=>by
 obtain ⟨a,b⟩:=strongQW hl n hn 6 (by omega) s e s' hs h
 exact ⟨exprOf hs a,b⟩
end Go.Proofs.YtfiohepfohhibaaDoor
