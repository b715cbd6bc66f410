/- A part of the proof. The statement is proved in the claim's last text. -/
import Derived.Test.YtfiohepfohhibaaDoorPNPu
set_option linter.unusedVariables false
set_option linter.unusedSimpArgs false
set_option maxRecDepth 100000
set_option maxHeartbeats 32000000
namespace Go.Proofs.YtfiohepfohhibaaDoor
open Go.RowKit
attribute [local simp] List.replicate List.range List.range.loop resA resOne retA AV.cuts AV.cut AObj.cut trim wkR wkT wkL wkN wkNR wkNL wkM wkMR wkML virtL virtO virt_get markL markO markR_get rowA awpI_nil awpI_cons List.forall_mem_cons List.contains_cons List.contains_nil List.find? nextD_eq awpD_nil awpD_cons LCp LCl refL
theorem placeP_eq {l : List Tok} {s : RS} {x : Tok} (h : l[s.at_]? = some x) : placeP l s = x.pos:=by unfold placeP; rw [h]
def SgOk (l : List Tok) (k : Nat) (rd : RS → Option (Ex × RS)) : Prop:=∀ s e s',s.at_ ≤ l.length → rd s = some (e,s') → RdC 61 [I k] l s s' (exV e) ∧ s'.at_ ≤ l.length
structure XQ where
 e : Ex
 q : PV
 rw : List (List PV)
abbrev XQ.row (x : XQ) : List PV:=[pU x.e.op,pI x.e.int,pS x.e.name,pS x.e.second,pS x.e.place.name,x.q,.sl 8 x.rw,pI x.e.pos]
abbrev XQ.av (x : XQ) : List AV:=[U x.e.op,I x.e.int,Sg x.e.name,Sg x.e.second,Sg x.e.place.name,.p x.q,.p (.sl 8 x.rw),I x.e.pos]
def XQ.ok (x : XQ) : Prop:=LeP x.q (strs x.e.place.path) ∧ LeRows x.rw (x.e.args.map Ex.enc)
def XQ.of (e : Ex) : XQ:=⟨e,strs e.place.path,e.args.map Ex.enc⟩
theorem XQ.of_ok (e : Ex) : (XQ.of e).ok:=⟨.refl _,.refl _⟩
def XQ.two (x : XQ) (op : Int) (r : Ex) (pos : Int) : XQ:=⟨ex0 op 0 emS [x.e,r] pos,.v (.slice none 0 0),[x.row,r.enc]⟩
theorem XQ.row_le {x : XQ} (h : x.ok) : LeRow x.row x.e.enc:=by
 rw [exEnc]
 exact .cons (.refl _) (.cons (.refl _) (.cons (.refl _) (.cons (.refl _) (.cons (.refl _) (.cons h.1 (.cons (.sl h.2) (.refl _)))))))
theorem XQ.two_ok {x : XQ} (h : x.ok) (op : Int) (r : Ex) (pos : Int) : (x.two op r pos).ok:=⟨.nil 1,.cons (XQ.row_le h) (.refl _)⟩
theorem XQ.av_le {x : XQ} (h : x.ok) : LeA (.agg x.av) (exV x.e):=.agg (.cons (.refl _) (.cons (.refl _) (.cons (.refl _) (.cons (.refl _) (.cons (.refl _) (.cons (.p h.1) (.cons (.p (.sl h.2)) (.refl _))))))))
def signsE (l : List Tok) (rd : RS → Option (Ex × RS)) (k : Nat) : Nat → XQ → RS → Option (XQ × RS)
 | 0,_,_=>none
 | n + 1,x,s =>
  if s.bad = true then some (x,s)
  else match l[s.at_]? with
   | none=>some (x,s)
   | some t=>match findK t.text (signsK k) with
    | none=>some (x,s)
    | some op=>match rd ⟨s.at_ + 1,s.bad,s.full⟩ with
     | none=>none
     | some (r,s1)=>if k = 3 then some (x.two op r t.pos,s1) else signsE l rd k n (x.two op r t.pos) s1
theorem signsE_of {l : List Tok} {rd : RS → Option (Ex × RS)} {k : Nat} : ∀ (n : Nat) (x : XQ) (s : RS) (e' : Ex) (s' : RS),x.ok → signsQ l rd k n x.e s = some (e',s') → ∃ y,signsE l rd k n x s = some (y,s') ∧ y.e = e' ∧ y.ok
 | 0,x,s,e',s',ho,h=>by simp [signsQ] at h
 | n + 1,x,s,e',s',ho,h=>by
  unfold signsQ at h
  unfold signsE
  cases hb : s.bad with
  | true =>
   rw [hb,if_pos rfl] at h
   cases h
   exact ⟨x,by rw [if_pos rfl],rfl,ho⟩
  | false =>
  rw [hb,if_neg (by simp)] at h
  rw [if_neg (by simp)]
  cases hx : l[s.at_]? with
  | none=>rw [hx] at h; cases h; exact ⟨x,rfl,rfl,ho⟩
  | some t =>
  rw [hx] at h
  dsimp only at h ⊢
  cases hf : findK t.text (signsK k) with
  | none=>rw [hf] at h; cases h; exact ⟨x,rfl,rfl,ho⟩
  | some op =>
  rw [hf] at h
  dsimp only at h ⊢
  cases hr : rd ⟨s.at_ + 1,false,s.full⟩ with
  | none=>rw [hr] at h; cases h
  | some y =>
  obtain ⟨r,s1⟩:=y
  rw [hr] at h
  dsimp only at h ⊢
  by_cases h3 : k = 3
  ·rw [if_pos h3] at h ⊢
   cases h
   exact ⟨_,rfl,rfl,XQ.two_ok ho _ _ _⟩
  ·rw [if_neg h3] at h ⊢
   exact signsE_of n _ s1 e' s' (XQ.two_ok ho _ _ _) h
theorem sign_0 {n : Nat} {l : List Tok} {rd : RS → Option (Ex × RS)} (hrd : SgOk l 1 rd) {s s1 s' : RS} {e0 e' : Ex} (hs : s.at_ ≤ l.length) (hb : s.bad = false) (h1 : rd s = some (e0,s1)) (hq : signsQ l rd 0 n e0 s1 = some (e',s')) (hs' : s'.at_ ≤ l.length) : RdC 61 [I (0 : Nat)] l s s' (exV e'):=by
 obtain ⟨y,h,rfl,hy⟩:=signsE_of n (XQ.of e0) s1 e' s' (XQ.of_ok e0) hq
 refine RdC.less (r:=.agg y.av) (XQ.av_le hy) (RdC.intro fun S d i hR=>?_)
 have ho:=(hR.upd s hs).o
 have hn:=hR.n
 obtain ⟨ih,hs1⟩:=hrd _ _ _ hs h1
 refine ADet.intro mixed Tryd.call61 Tryd.func61 rfl ?_
 simp [Tryd.ntmps61]
 refine ⟨_,_,(placeRW s).at hR hs _,?_⟩
 simp [ho,hb]
 refine ⟨_,_,ih.at hR hs _,?_⟩
 simp
 refine awp_loop (fun a : Nat × XQ × RS=>signsE l rd 0 a.1 a.2.1 a.2.2 = some (y,s') ∧ a.2.2.at_ ≤ l.length) (fun a=>([.ptr (d + 1) i 0,I 0,.any,.any,.ptr 0 0 0,.any,.ptr 0 1 0] ++ List.replicate 103 .any)) (fun a=>[.cells [.any,.any,.any,.any,.any,.any,.any,.any] 46,.cells a.2.1.av 46] :: set2 S d i (rdO l a.2.2)) (fun a=>a.1) (n,XQ.of e0,s1) ⟨h,hs1⟩ ?_ ?_ ?_
 ·simp
 ·simp [XQ.of]
 clear ih hs1 h1 h ho hq
 rintro ⟨m,e,s4⟩ ⟨hl,hs4⟩
 simp only at hl hs4
 cases m with
 | zero=>simp [signsE] at hl
 | succ m =>
 have ho4:=(hR.upd s4 hs4).o
 unfold signsE at hl
 simp
 refine awp_draw [] (by kernel_rfl) (by kernel_rfl) ?_
 cases hb4 : s4.bad with
 | true =>
  rw [hb4,if_pos rfl] at hl
  cases hl
  simp [ho4,hb4]
 | false =>
 rw [hb4,if_neg (by simp)] at hl
 cases hx : l[s4.at_]? with
 | none =>
  rw [hx] at hl
  cases hl
  have hlt : ¬ (s'.at_ : Int) < (l.length : Int):=by have:=List.getElem?_eq_none_iff.1 hx; omega
  simp [ho4,hb4,hlt]
 | some x =>
 rw [hx] at hl
 have hlt0 : s4.at_ < l.length:=(List.getElem?_eq_some_iff.1 hx).1
 have hlt : (s4.at_ : Int) < (l.length : Int):=by omega
 dsimp only at hl
 obtain ⟨j,hj⟩:=find_mapK x.text (signsK 0) 0
 simp [ho4,hb4,hlt]
 refine awp_draw [(5,1),(9,1),(12,1)] (by kernel_rfl) (by kernel_rfl) ?_
 simp [ho4,hb4,hlt]
 obtain ⟨X,sC⟩:=signsC 0 (by omega) [.cells [.any,.any,.any,.any,.any,.any,.any,.any] 46,.cells e.av 46] (set2 S d i (rdO l s4))
 refine ⟨_,_,sC,?_⟩
 cases hf : findK x.text (signsK 0) with
 | none =>
  rw [hf] at hl hj
  rw [Option.map_none] at hj
  cases hl
  simp [ho4,hb4,hlt,hx,Tok.enc,mapsK,mapK,hj]
 | some op =>
  rw [hf] at hl hj
  rw [Option.map_some] at hj
  dsimp only at hl
  have hpl:=placeP_eq hx
  obtain ⟨Q,hQ⟩ : ∃ Q,Q = s4.at_ + 1:=⟨_,rfl⟩
  have hw : IntKind.i64.wrap ((s4.at_ : Int) + 1) = (Q : Int):=by rw [hQ]; exact wrap_nat (b:=1) (by unfold maxLen; omega)
  rw [← hQ] at hl
  have hq5 : (⟨Q,s4.bad,s4.full⟩ : RS).at_ ≤ l.length:=by show Q ≤ _; omega
  have ho5:=(hR.upd ⟨Q,s4.bad,s4.full⟩ hq5).o
  cases hr : rd ⟨Q,s4.bad,s4.full⟩ with
  | none=>rw [← hb4,hr] at hl; cases hl
  | some r =>
  obtain ⟨r,s6⟩:=r
  rw [← hb4,hr] at hl
  obtain ⟨rC,hs6⟩:=hrd _ _ _ hq5 hr
  rw [hb4] at rC
  simp [ho4,hb4,hlt,hx,Tok.enc,mapsK,mapK,hj]
  refine ⟨_,_,(placeRW s4).at hR hs4 _,?_⟩
  rw [hpl]
  simp [ho4,hb4,hw]
  refine ⟨_,_,rC.at hR (by show Q ≤ _; omega) _,?_⟩
  simp [exEnc]
  have hl2 : signsE l rd 0 m (e.two op r x.pos) s6 = some (y,s'):=hl
  exact ⟨m,e.two op r x.pos,s6,⟨hl2,hs6⟩,by omega,by simp [XQ.two,exEnc,ex0]; exact ⟨rfl,rfl,rfl,rfl,rfl,rfl⟩,rfl⟩
theorem sign_1 {n : Nat} {l : List Tok} {rd : RS → Option (Ex × RS)} (hrd : SgOk l 2 rd) {s s1 s' : RS} {e0 e' : Ex} (hs : s.at_ ≤ l.length) (hb : s.bad = false) (h1 : rd s = some (e0,s1)) (hq : signsQ l rd 1 n e0 s1 = some (e',s')) (hs' : s'.at_ ≤ l.length) : RdC 61 [I (1 : Nat)] l s s' (exV e'):=by
 obtain ⟨y,h,rfl,hy⟩:=signsE_of n (XQ.of e0) s1 e' s' (XQ.of_ok e0) hq
 refine RdC.less (r:=.agg y.av) (XQ.av_le hy) (RdC.intro fun S d i hR=>?_)
 have ho:=(hR.upd s hs).o
 have hn:=hR.n
 obtain ⟨ih,hs1⟩:=hrd _ _ _ hs h1
 refine ADet.intro mixed Tryd.call61 Tryd.func61 rfl ?_
 simp [Tryd.ntmps61]
 refine ⟨_,_,(placeRW s).at hR hs _,?_⟩
 simp [ho,hb]
 refine ⟨_,_,ih.at hR hs _,?_⟩
 simp
 refine awp_loop (fun a : Nat × XQ × RS=>signsE l rd 1 a.1 a.2.1 a.2.2 = some (y,s') ∧ a.2.2.at_ ≤ l.length) (fun a=>([.ptr (d + 1) i 0,I 1,.any,.any,.ptr 0 0 0,.any,.ptr 0 1 0] ++ List.replicate 103 .any)) (fun a=>[.cells [.any,.any,.any,.any,.any,.any,.any,.any] 46,.cells a.2.1.av 46] :: set2 S d i (rdO l a.2.2)) (fun a=>a.1) (n,XQ.of e0,s1) ⟨h,hs1⟩ ?_ ?_ ?_
 ·simp
 ·simp [XQ.of]
 clear ih hs1 h1 h ho hq
 rintro ⟨m,e,s4⟩ ⟨hl,hs4⟩
 simp only at hl hs4
 cases m with
 | zero=>simp [signsE] at hl
 | succ m =>
 have ho4:=(hR.upd s4 hs4).o
 unfold signsE at hl
 simp
 refine awp_draw [] (by kernel_rfl) (by kernel_rfl) ?_
 cases hb4 : s4.bad with
 | true =>
  rw [hb4,if_pos rfl] at hl
  cases hl
  simp [ho4,hb4]
 | false =>
 rw [hb4,if_neg (by simp)] at hl
 cases hx : l[s4.at_]? with
 | none =>
  rw [hx] at hl
  cases hl
  have hlt : ¬ (s'.at_ : Int) < (l.length : Int):=by have:=List.getElem?_eq_none_iff.1 hx; omega
  simp [ho4,hb4,hlt]
 | some x =>
 rw [hx] at hl
 have hlt0 : s4.at_ < l.length:=(List.getElem?_eq_some_iff.1 hx).1
 have hlt : (s4.at_ : Int) < (l.length : Int):=by omega
 dsimp only at hl
 obtain ⟨j,hj⟩:=find_mapK x.text (signsK 1) 0
 simp [ho4,hb4,hlt]
 refine awp_draw [(5,1),(9,1),(12,1)] (by kernel_rfl) (by kernel_rfl) ?_
 simp [ho4,hb4,hlt]
 obtain ⟨X,sC⟩:=signsC 1 (by omega) [.cells [.any,.any,.any,.any,.any,.any,.any,.any] 46,.cells e.av 46] (set2 S d i (rdO l s4))
 refine ⟨_,_,sC,?_⟩
 cases hf : findK x.text (signsK 1) with
 | none =>
  rw [hf] at hl hj
  rw [Option.map_none] at hj
  cases hl
  simp [ho4,hb4,hlt,hx,Tok.enc,mapsK,mapK,hj]
 | some op =>
  rw [hf] at hl hj
  rw [Option.map_some] at hj
  dsimp only at hl
  have hpl:=placeP_eq hx
  obtain ⟨Q,hQ⟩ : ∃ Q,Q = s4.at_ + 1:=⟨_,rfl⟩
  have hw : IntKind.i64.wrap ((s4.at_ : Int) + 1) = (Q : Int):=by rw [hQ]; exact wrap_nat (b:=1) (by unfold maxLen; omega)
  rw [← hQ] at hl
  have hq5 : (⟨Q,s4.bad,s4.full⟩ : RS).at_ ≤ l.length:=by show Q ≤ _; omega
  have ho5:=(hR.upd ⟨Q,s4.bad,s4.full⟩ hq5).o
  cases hr : rd ⟨Q,s4.bad,s4.full⟩ with
  | none=>rw [← hb4,hr] at hl; cases hl
  | some r =>
  obtain ⟨r,s6⟩:=r
  rw [← hb4,hr] at hl
  obtain ⟨rC,hs6⟩:=hrd _ _ _ hq5 hr
  rw [hb4] at rC
  simp [ho4,hb4,hlt,hx,Tok.enc,mapsK,mapK,hj]
  refine ⟨_,_,(placeRW s4).at hR hs4 _,?_⟩
  rw [hpl]
  simp [ho4,hb4,hw]
  refine ⟨_,_,rC.at hR (by show Q ≤ _; omega) _,?_⟩
  simp [exEnc]
  have hl2 : signsE l rd 1 m (e.two op r x.pos) s6 = some (y,s'):=hl
  exact ⟨m,e.two op r x.pos,s6,⟨hl2,hs6⟩,by omega,by simp [XQ.two,exEnc,ex0]; exact ⟨rfl,rfl,rfl,rfl,rfl,rfl⟩,rfl⟩
end Go.Proofs.YtfiohepfohhibaaDoor
