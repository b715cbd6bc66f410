/- A part of the proof. The statement is proved in the claim's last text. -/
import Derived.Test.YtfiohepfohhibaaDoorPNPw
set_option linter.unusedVariables false
set_option linter.unusedSimpArgs false
set_option maxRecDepth 100000
set_option maxHeartbeats 32000000
namespace Go.Proofs.YtfiohepfohhibaaDoor
open Go.RowKit
attribute [local simp] List.replicate List.range List.range.loop resA resOne retA AV.cuts AV.cut AObj.cut trim wkR wkT wkL wkN wkNR wkNL wkM wkMR wkML virtL virtO virt_get markL markO markR_get rowA awpI_nil awpI_cons List.forall_mem_cons List.contains_cons List.contains_nil List.find? nextD_eq awpD_nil awpD_cons LCp LCl refL
theorem sign_4 {n : Nat} {l : List Tok} {rd : RS → Option (Ex × RS)} (hrd : SgOk l 5 rd) {s s1 s' : RS} {e0 e' : Ex} (hs : s.at_ ≤ l.length) (hb : s.bad = false) (h1 : rd s = some (e0,s1)) (hq : signsQ l rd 4 n e0 s1 = some (e',s')) (hs' : s'.at_ ≤ l.length) : RdC 61 [I (4 : Nat)] l s s' (exV e'):=by
 obtain ⟨y,h,rfl,hy⟩:=signsE_of n (XQ.of e0) s1 e' s' (XQ.of_ok e0) hq
 refine RdC.less (r:=.agg y.av) (XQ.av_le hy) (RdC.intro fun S d i hR=>?_)
 have ho:=(hR.upd s hs).o
 have hn:=hR.n
 obtain ⟨ih,hs1⟩:=hrd _ _ _ hs h1
 refine ADet.intro mixed Tryd.call61 Tryd.func61 rfl ?_
 simp [Tryd.ntmps61]
 refine ⟨_,_,(placeRW s).at hR hs _,?_⟩
 simp [ho,hb]
 refine ⟨_,_,ih.at hR hs _,?_⟩
 simp
 refine awp_loop (fun a : Nat × XQ × RS=>signsE l rd 4 a.1 a.2.1 a.2.2 = some (y,s') ∧ a.2.2.at_ ≤ l.length) (fun a=>([.ptr (d + 1) i 0,I 4,.any,.any,.ptr 0 0 0,.any,.ptr 0 1 0] ++ List.replicate 103 .any)) (fun a=>[.cells [.any,.any,.any,.any,.any,.any,.any,.any] 46,.cells a.2.1.av 46] :: set2 S d i (rdO l a.2.2)) (fun a=>a.1) (n,XQ.of e0,s1) ⟨h,hs1⟩ ?_ ?_ ?_
 ·simp
 ·simp [XQ.of]
 clear ih hs1 h1 h ho hq
 rintro ⟨m,e,s4⟩ ⟨hl,hs4⟩
 simp only at hl hs4
 cases m with
 | zero=>simp [signsE] at hl
 | succ m =>
 have ho4:=(hR.upd s4 hs4).o
 unfold signsE at hl
 simp
 refine awp_draw [] (by kernel_rfl) (by kernel_rfl) ?_
 cases hb4 : s4.bad with
 | true =>
  rw [hb4,if_pos rfl] at hl
  cases hl
  simp [ho4,hb4]
 | false =>
 rw [hb4,if_neg (by simp)] at hl
 cases hx : l[s4.at_]? with
 | none =>
  rw [hx] at hl
  cases hl
  have hlt : ¬ (s'.at_ : Int) < (l.length : Int):=by have:=List.getElem?_eq_none_iff.1 hx; omega
  simp [ho4,hb4,hlt]
 | some x =>
 rw [hx] at hl
 have hlt0 : s4.at_ < l.length:=(List.getElem?_eq_some_iff.1 hx).1
 have hlt : (s4.at_ : Int) < (l.length : Int):=by omega
 dsimp only at hl
 obtain ⟨j,hj⟩:=find_mapK x.text (signsK 4) 0
 simp [ho4,hb4,hlt]
 refine awp_draw [(5,1),(9,1),(12,1)] (by kernel_rfl) (by kernel_rfl) ?_
 simp [ho4,hb4,hlt]
 obtain ⟨X,sC⟩:=signsC 4 (by omega) [.cells [.any,.any,.any,.any,.any,.any,.any,.any] 46,.cells e.av 46] (set2 S d i (rdO l s4))
 refine ⟨_,_,sC,?_⟩
 cases hf : findK x.text (signsK 4) with
 | none =>
  rw [hf] at hl hj
  rw [Option.map_none] at hj
  cases hl
  simp [ho4,hb4,hlt,hx,Tok.enc,mapsK,mapK,hj]
 | some op =>
  rw [hf] at hl hj
  rw [Option.map_some] at hj
  dsimp only at hl
  have hpl:=placeP_eq hx
  obtain ⟨Q,hQ⟩ : ∃ Q,Q = s4.at_ + 1:=⟨_,rfl⟩
  have hw : IntKind.i64.wrap ((s4.at_ : Int) + 1) = (Q : Int):=by rw [hQ]; exact wrap_nat (b:=1) (by unfold maxLen; omega)
  rw [← hQ] at hl
  have hq5 : (⟨Q,s4.bad,s4.full⟩ : RS).at_ ≤ l.length:=by show Q ≤ _; omega
  have ho5:=(hR.upd ⟨Q,s4.bad,s4.full⟩ hq5).o
  cases hr : rd ⟨Q,s4.bad,s4.full⟩ with
  | none=>rw [← hb4,hr] at hl; cases hl
  | some r =>
  obtain ⟨r,s6⟩:=r
  rw [← hb4,hr] at hl
  obtain ⟨rC,hs6⟩:=hrd _ _ _ hq5 hr
  rw [hb4] at rC
  simp [ho4,hb4,hlt,hx,Tok.enc,mapsK,mapK,hj]
  refine ⟨_,_,(placeRW s4).at hR hs4 _,?_⟩
  rw [hpl]
  simp [ho4,hb4,hw]
  refine ⟨_,_,rC.at hR (by show Q ≤ _; omega) _,?_⟩
  simp [exEnc]
  have hl2 : signsE l rd 4 m (e.two op r x.pos) s6 = some (y,s'):=hl
  exact ⟨m,e.two op r x.pos,s6,⟨hl2,hs6⟩,by omega,by simp [XQ.two,exEnc,ex0]; exact ⟨rfl,rfl,rfl,rfl,rfl,rfl⟩,rfl⟩
theorem sign_5 {n : Nat} {l : List Tok} {rd : RS → Option (Ex × RS)} (hrd : SgOk l 6 rd) {s s1 s' : RS} {e0 e' : Ex} (hs : s.at_ ≤ l.length) (hb : s.bad = false) (h1 : rd s = some (e0,s1)) (hq : signsQ l rd 5 n e0 s1 = some (e',s')) (hs' : s'.at_ ≤ l.length) : RdC 61 [I (5 : Nat)] l s s' (exV e'):=by
 obtain ⟨y,h,rfl,hy⟩:=signsE_of n (XQ.of e0) s1 e' s' (XQ.of_ok e0) hq
 refine RdC.less (r:=.agg y.av) (XQ.av_le hy) (RdC.intro fun S d i hR=>?_)
 have ho:=(hR.upd s hs).o
 have hn:=hR.n
 obtain ⟨ih,hs1⟩:=hrd _ _ _ hs h1
 refine ADet.intro mixed Tryd.call61 Tryd.func61 rfl ?_
 simp [Tryd.ntmps61]
 refine ⟨_,_,(placeRW s).at hR hs _,?_⟩
 simp [ho,hb]
 refine ⟨_,_,ih.at hR hs _,?_⟩
 simp
 refine awp_loop (fun a : Nat × XQ × RS=>signsE l rd 5 a.1 a.2.1 a.2.2 = some (y,s') ∧ a.2.2.at_ ≤ l.length) (fun a=>([.ptr (d + 1) i 0,I 5,.any,.any,.ptr 0 0 0,.any,.ptr 0 1 0] ++ List.replicate 103 .any)) (fun a=>[.cells [.any,.any,.any,.any,.any,.any,.any,.any] 46,.cells a.2.1.av 46] :: set2 S d i (rdO l a.2.2)) (fun a=>a.1) (n,XQ.of e0,s1) ⟨h,hs1⟩ ?_ ?_ ?_
 ·simp
 ·simp [XQ.of]
 clear ih hs1 h1 h ho hq
 rintro ⟨m,e,s4⟩ ⟨hl,hs4⟩
 simp only at hl hs4
 cases m with
 | zero=>simp [signsE] at hl
 | succ m =>
 have ho4:=(hR.upd s4 hs4).o
 unfold signsE at hl
 simp
 refine awp_draw [] (by kernel_rfl) (by kernel_rfl) ?_
 cases hb4 : s4.bad with
 | true =>
  rw [hb4,if_pos rfl] at hl
  cases hl
  simp [ho4,hb4]
 | false =>
 rw [hb4,if_neg (by simp)] at hl
 cases hx : l[s4.at_]? with
 | none =>
  rw [hx] at hl
  cases hl
  have hlt : ¬ (s'.at_ : Int) < (l.length : Int):=by have:=List.getElem?_eq_none_iff.1 hx; omega
  simp [ho4,hb4,hlt]
 | some x =>
 rw [hx] at hl
 have hlt0 : s4.at_ < l.length:=(List.getElem?_eq_some_iff.1 hx).1
 have hlt : (s4.at_ : Int) < (l.length : Int):=by omega
 dsimp only at hl
 obtain ⟨j,hj⟩:=find_mapK x.text (signsK 5) 0
 simp [ho4,hb4,hlt]
 refine awp_draw [(5,1),(9,1),(12,1)] (by kernel_rfl) (by kernel_rfl) ?_
 simp [ho4,hb4,hlt]
 obtain ⟨X,sC⟩:=signsC 5 (by omega) [.cells [.any,.any,.any,.any,.any,.any,.any,.any] 46,.cells e.av 46] (set2 S d i (rdO l s4))
 refine ⟨_,_,sC,?_⟩
 cases hf : findK x.text (signsK 5) with
 | none =>
  rw [hf] at hl hj
  rw [Option.map_none] at hj
  cases hl
  simp [ho4,hb4,hlt,hx,Tok.enc,mapsK,mapK,hj]
 | some op =>
  rw [hf] at hl hj
  rw [Option.map_some] at hj
  dsimp only at hl
  have hpl:=placeP_eq hx
  obtain ⟨Q,hQ⟩ : ∃ Q,Q = s4.at_ + 1:=⟨_,rfl⟩
  have hw : IntKind.i64.wrap ((s4.at_ : Int) + 1) = (Q : Int):=by rw [hQ]; exact wrap_nat (b:=1) (by unfold maxLen; omega)
  rw [← hQ] at hl
  have hq5 : (⟨Q,s4.bad,s4.full⟩ : RS).at_ ≤ l.length:=by show Q ≤ _; omega
  have ho5:=(hR.upd ⟨Q,s4.bad,s4.full⟩ hq5).o
  cases hr : rd ⟨Q,s4.bad,s4.full⟩ with
  | none=>rw [← hb4,hr] at hl; cases hl
  | some r =>
  obtain ⟨r,s6⟩:=r
  rw [← hb4,hr] at hl
  obtain ⟨rC,hs6⟩:=hrd _ _ _ hq5 hr
  rw [hb4] at rC
  simp [ho4,hb4,hlt,hx,Tok.enc,mapsK,mapK,hj]
  refine ⟨_,_,(placeRW s4).at hR hs4 _,?_⟩
  rw [hpl]
  simp [ho4,hb4,hw]
  refine ⟨_,_,rC.at hR (by show Q ≤ _; omega) _,?_⟩
  simp [exEnc]
  have hl2 : signsE l rd 5 m (e.two op r x.pos) s6 = some (y,s'):=hl
  exact ⟨m,e.two op r x.pos,s6,⟨hl2,hs6⟩,by omega,by simp [XQ.two,exEnc,ex0]; exact ⟨rfl,rfl,rfl,rfl,rfl,rfl⟩,rfl⟩
end Go.Proofs.YtfiohepfohhibaaDoor
