/- A part of the proof. The statement is proved in the claim's last text. -/
import Derived.Test.YtfiohepfohhibaaDoorPNPr
import Derived.Test.YtfiohepfohhibaaDoorPMPt
set_option linter.unusedVariables false
set_option linter.unusedSimpArgs false
set_option maxRecDepth 100000
set_option maxHeartbeats 32000000
namespace Go.Proofs.YtfiohepfohhibaaDoor
open Go.RowKit
attribute [local simp] List.replicate List.range List.range.loop resA resOne retA AV.cuts AV.cut AObj.cut trim wkR wkT wkL wkN wkNR wkNL wkM wkMR wkML
abbrev Hd:=ByteArray × Ex
def Hd.enc (h : Hd) : List PV:=pS h.1 :: h.2.enc
abbrev hdA (h : Hd) : AV:=.agg [Sg h.1,U h.2.op,I h.2.int,Sg h.2.name,Sg h.2.second,Sg h.2.place.name,.p (strs h.2.place.path),.p (.sl 8 (h.2.args.map Ex.enc)),I h.2.pos]
theorem hdEnc (h : Hd) : Hd.enc h = [pS h.1,pU h.2.op,pI h.2.int,pS h.2.name,pS h.2.second,pS h.2.place.name,strs h.2.place.path,.sl 8 (h.2.args.map Ex.enc),pI h.2.pos]:=by
 unfold Hd.enc; rw [exEnc]
def nmE (t : ByteArray) : List PV:=[pS t]
theorem listP_len {α : Type} {l : List Tok} {rd : RS → Option (α × RS)} (hrd : ∀ s x s',s.at_ ≤ l.length → rd s = some (x,s') → s'.at_ ≤ l.length) {e : ByteArray} {n : Nat} {s : RS} {xs : List α} {s' : RS} (hs : s.at_ ≤ l.length) (hn : n ≤ 100000) (h : listP l rd e n s = some (xs,s')) : xs.length ≤ 1000000:=by
 unfold listP at h
 split at h
 ·cases h; simp
 split at h
 ·cases h
 rename_i x s1 h1
 obtain ⟨⟨ys,s2⟩,hk,he⟩:=Option.map_eq_some_iff.1 h
 cases he
 have:=(listL_le hrd n [x] s1 _ _ (hrd _ _ _ hs h1) hk).2
 simp at this
 show ys.length ≤ 1000000
 omega
theorem listNameC {K : Nat} {l : List Tok} {rd : RS → Option (ByteArray × RS)} (hle : ∀ s x s',s.at_ ≤ l.length → rd s = some (x,s') → s'.at_ ≤ l.length) (hrd : ∀ s x s',s.at_ ≤ l.length → rd s = some (x,s') → RdC K [] l s s' (Sg x)) {e : ByteArray} {n : Nat} (hn : n ≤ 100000) {s : RS} {xs : List ByteArray} {s' : RS} (hs : s.at_ ≤ l.length) (h : listP l rd e n s = some (xs,s')) :
  RdF 82 (fun d i=>[Sg e,.fn (.func K) [.ptr d i 0] []]) l s s' (.p (.sl 1 (xs.map nmE))):=by
 unfold listP at h
 cases hi : isP l s e 0 with
 | true =>
  rw [hi,if_pos rfl] at h
  cases h
  refine RdF.less (r:=nilS) (by repeat' constructor) (RdF.intro fun S d i hR=>?_)
  refine ADet.intro mixed Tryd.call82 Tryd.func82 rfl ?_
  simp [Tryd.ntmps82]
  refine ⟨_,_,(mayW s e).at hR hs _,?_⟩
  rw [hi]
  simp
 | false =>
 rw [hi,if_neg (by simp)] at h
 split at h
 ·cases h
 rename_i x s1 h1
 obtain ⟨⟨ys,s2⟩,hk,he⟩:=Option.map_eq_some_iff.1 h
 cases he
 have hm : mayP l s e = s:=by unfold mayP; rw [hi]; rfl
 have hs1:=hle _ _ _ hs h1
 have xC:=hrd _ _ _ hs h1
 obtain ⟨hs2,hyl⟩:=listL_le hle n [x] s1 _ _ hs1 hk
 have hyl : ys.length ≤ n + 1:=by simp at hyl; omega
 have hs3:=mustP_le [e] _ hs2
 refine RdF.intro fun S d i hR=>?_
 refine ADet.intro mixed Tryd.call82 Tryd.func82 rfl ?_
 simp [Tryd.ntmps82]
 refine ⟨_,_,(mayW s e).at hR hs _,?_⟩
 rw [hi,hm]
 simp
 refine ⟨_,_,xC.at hR hs _,?_⟩
 simp
 refine awp_loop (fun a : Nat × List ByteArray × RS=>listL l rd a.1 a.2.1 a.2.2 = some (ys,s2) ∧ a.2.1.length + a.1 ≤ n + 1 ∧ 0 < a.2.1.length ∧ a.2.2.at_ ≤ l.length) (fun a=>([.ptr (d + 1) i 0,Sg e,.fn (.func K) [.ptr (d + 1) i 0] [],.any,.any,.any,.any,.osl 1 (a.2.1.map nmE) 0 0] ++ List.replicate 22 .any)) (fun a=>[.tok 9 1 a.2.1.length] :: set2 S d i (rdO l a.2.2)) (fun a=>a.1) (n,[x],s1) ⟨hk,by simp; omega,by simp,hs1⟩ ?_ ?_ ?_
 ·simp [nmE]
 ·simp
 rintro ⟨k,acc,s4⟩ ⟨hl,hkn,hac,hs4⟩
 simp only at hl hkn hac hs4
 cases k with
 | zero=>simp [listL] at hl
 | succ k =>
 unfold listL at hl
 simp
 refine ⟨_,_,(mayW s4 (⟨#[44]⟩ : ByteArray)).at hR hs4 _,?_⟩
 cases hc : isP l s4 (⟨#[44]⟩ : ByteArray) 0 with
 | true =>
  rw [hc,if_pos rfl] at hl
  split at hl
  ·cases hl
  rename_i y s5 h5
  have hm4:=mayP_le (s:=s4) (⟨#[44]⟩ : ByteArray) hs4
  have yC:=hrd _ _ _ hm4 h5
  have hs5:=hle _ _ _ hm4 h5
  have hap : acc.length + 1 ≤ 4294967296:=by omega
  simp
  refine ⟨_,_,yC.at hR hm4 _,?_⟩
  simp [hap]
  exact ⟨k,acc ++ [y],s5,⟨hl,by simp; omega,by simp,hs5⟩,by omega,by simp [nmE],by simp,rfl⟩
 | false =>
  rw [hc,if_neg (by simp)] at hl
  cases hl
  have hm4 : mayP l s2 (⟨#[44]⟩ : ByteArray) = s2:=by unfold mayP; rw [hc]; rfl
  rw [hm4]
  simp
  refine ⟨_,_,ADet.sub (.cons (.refl _) (.cons (.osl (.refl _)) (.refl _))) ((mustW s2 [e] (by simp) hs2).at hR hs2 _),?_⟩
  simp
  refine ⟨_,_,(fewW (mustP l s2 [e]) ys.length).at hR hs3 _,?_⟩
  simp
theorem listExC {K : Nat} {l : List Tok} {rd : RS → Option (Ex × RS)} (hle : ∀ s x s',s.at_ ≤ l.length → rd s = some (x,s') → s'.at_ ≤ l.length) (hrd : ∀ s x s',s.at_ ≤ l.length → rd s = some (x,s') → RdC K [] l s s' (exV x)) {e : ByteArray} {n : Nat} (hn : n ≤ 100000) {s : RS} {xs : List Ex} {s' : RS} (hs : s.at_ ≤ l.length) (h : listP l rd e n s = some (xs,s')) :
  RdF 89 (fun d i=>[Sg e,.fn (.func K) [.ptr d i 0] []]) l s s' (.p (.sl 8 (xs.map Ex.enc))):=by
 unfold listP at h
 cases hi : isP l s e 0 with
 | true =>
  rw [hi,if_pos rfl] at h
  cases h
  refine RdF.less (r:=nilS) (by repeat' constructor) (RdF.intro fun S d i hR=>?_)
  refine ADet.intro mixed Tryd.call89 Tryd.func89 rfl ?_
  simp [Tryd.ntmps89]
  refine ⟨_,_,(mayW s e).at hR hs _,?_⟩
  rw [hi]
  simp
 | false =>
 rw [hi,if_neg (by simp)] at h
 split at h
 ·cases h
 rename_i x s1 h1
 obtain ⟨⟨ys,s2⟩,hk,he⟩:=Option.map_eq_some_iff.1 h
 cases he
 have hm : mayP l s e = s:=by unfold mayP; rw [hi]; rfl
 have hs1:=hle _ _ _ hs h1
 have xC:=hrd _ _ _ hs h1
 obtain ⟨hs2,hyl⟩:=listL_le hle n [x] s1 _ _ hs1 hk
 have hyl : ys.length ≤ n + 1:=by simp at hyl; omega
 have hs3:=mustP_le [e] _ hs2
 refine RdF.intro fun S d i hR=>?_
 refine ADet.intro mixed Tryd.call89 Tryd.func89 rfl ?_
 simp [Tryd.ntmps89]
 refine ⟨_,_,(mayW s e).at hR hs _,?_⟩
 rw [hi,hm]
 simp
 refine ⟨_,_,xC.at hR hs _,?_⟩
 simp
 refine awp_loop (fun a : Nat × List Ex × RS=>listL l rd a.1 a.2.1 a.2.2 = some (ys,s2) ∧ a.2.1.length + a.1 ≤ n + 1 ∧ 0 < a.2.1.length ∧ a.2.2.at_ ≤ l.length) (fun a=>([.ptr (d + 1) i 0,Sg e,.fn (.func K) [.ptr (d + 1) i 0] [],.any,.any,.any,.any,.osl 8 (a.2.1.map Ex.enc) 0 0] ++ List.replicate 22 .any)) (fun a=>[.tok 46 8 a.2.1.length] :: set2 S d i (rdO l a.2.2)) (fun a=>a.1) (n,[x],s1) ⟨hk,by simp; omega,by simp,hs1⟩ ?_ ?_ ?_
 ·simp [exEnc]
 ·simp
 rintro ⟨k,acc,s4⟩ ⟨hl,hkn,hac,hs4⟩
 simp only at hl hkn hac hs4
 cases k with
 | zero=>simp [listL] at hl
 | succ k =>
 unfold listL at hl
 simp
 refine ⟨_,_,(mayW s4 (⟨#[44]⟩ : ByteArray)).at hR hs4 _,?_⟩
 cases hc : isP l s4 (⟨#[44]⟩ : ByteArray) 0 with
 | true =>
  rw [hc,if_pos rfl] at hl
  split at hl
  ·cases hl
  rename_i y s5 h5
  have hm4:=mayP_le (s:=s4) (⟨#[44]⟩ : ByteArray) hs4
  have yC:=hrd _ _ _ hm4 h5
  have hs5:=hle _ _ _ hm4 h5
  have hap : acc.length + 1 ≤ 4294967296:=by omega
  simp
  refine ⟨_,_,yC.at hR hm4 _,?_⟩
  simp [hap]
  exact ⟨k,acc ++ [y],s5,⟨hl,by simp; omega,by simp,hs5⟩,by omega,by simp [exEnc],by simp,rfl⟩
 | false =>
  rw [hc,if_neg (by simp)] at hl
  cases hl
  have hm4 : mayP l s2 (⟨#[44]⟩ : ByteArray) = s2:=by unfold mayP; rw [hc]; rfl
  rw [hm4]
  simp
  refine ⟨_,_,ADet.sub (.cons (.refl _) (.cons (.osl (.refl _)) (.refl _))) ((mustW s2 [e] (by simp) hs2).at hR hs2 _),?_⟩
  simp
  refine ⟨_,_,(fewW (mustP l s2 [e]) ys.length).at hR hs3 _,?_⟩
  simp
theorem listHdC {K : Nat} {l : List Tok} {rd : RS → Option (Hd × RS)} (hle : ∀ s x s',s.at_ ≤ l.length → rd s = some (x,s') → s'.at_ ≤ l.length) (hrd : ∀ s x s',s.at_ ≤ l.length → rd s = some (x,s') → RdC K [] l s s' (hdA x)) {e : ByteArray} {n : Nat} (hn : n ≤ 100000) {s : RS} {xs : List Hd} {s' : RS} (hs : s.at_ ≤ l.length) (h : listP l rd e n s = some (xs,s')) :
  RdF 85 (fun d i=>[Sg e,.fn (.func K) [.ptr d i 0] []]) l s s' (.p (.sl 9 (xs.map Hd.enc))):=by
 unfold listP at h
 cases hi : isP l s e 0 with
 | true =>
  rw [hi,if_pos rfl] at h
  cases h
  refine RdF.less (r:=nilS) (by repeat' constructor) (RdF.intro fun S d i hR=>?_)
  refine ADet.intro mixed Tryd.call85 Tryd.func85 rfl ?_
  simp [Tryd.ntmps85]
  refine ⟨_,_,(mayW s e).at hR hs _,?_⟩
  rw [hi]
  simp
 | false =>
 rw [hi,if_neg (by simp)] at h
 split at h
 ·cases h
 rename_i x s1 h1
 obtain ⟨⟨ys,s2⟩,hk,he⟩:=Option.map_eq_some_iff.1 h
 cases he
 have hm : mayP l s e = s:=by unfold mayP; rw [hi]; rfl
 have hs1:=hle _ _ _ hs h1
 have xC:=hrd _ _ _ hs h1
 obtain ⟨hs2,hyl⟩:=listL_le hle n [x] s1 _ _ hs1 hk
 have hyl : ys.length ≤ n + 1:=by simp at hyl; omega
 have hs3:=mustP_le [e] _ hs2
 refine RdF.intro fun S d i hR=>?_
 refine ADet.intro mixed Tryd.call85 Tryd.func85 rfl ?_
 simp [Tryd.ntmps85]
 refine ⟨_,_,(mayW s e).at hR hs _,?_⟩
 rw [hi,hm]
 simp
 refine ⟨_,_,xC.at hR hs _,?_⟩
 simp
 refine awp_loop (fun a : Nat × List Hd × RS=>listL l rd a.1 a.2.1 a.2.2 = some (ys,s2) ∧ a.2.1.length + a.1 ≤ n + 1 ∧ 0 < a.2.1.length ∧ a.2.2.at_ ≤ l.length) (fun a=>([.ptr (d + 1) i 0,Sg e,.fn (.func K) [.ptr (d + 1) i 0] [],.any,.any,.any,.any,.osl 9 (a.2.1.map Hd.enc) 0 0] ++ List.replicate 22 .any)) (fun a=>[.tok 132 9 a.2.1.length] :: set2 S d i (rdO l a.2.2)) (fun a=>a.1) (n,[x],s1) ⟨hk,by simp; omega,by simp,hs1⟩ ?_ ?_ ?_
 ·simp [hdEnc]
 ·simp
 rintro ⟨k,acc,s4⟩ ⟨hl,hkn,hac,hs4⟩
 simp only at hl hkn hac hs4
 cases k with
 | zero=>simp [listL] at hl
 | succ k =>
 unfold listL at hl
 simp
 refine ⟨_,_,(mayW s4 (⟨#[44]⟩ : ByteArray)).at hR hs4 _,?_⟩
 cases hc : isP l s4 (⟨#[44]⟩ : ByteArray) 0 with
 | true =>
  rw [hc,if_pos rfl] at hl
  split at hl
  ·cases hl
  rename_i y s5 h5
  have hm4:=mayP_le (s:=s4) (⟨#[44]⟩ : ByteArray) hs4
  have yC:=hrd _ _ _ hm4 h5
  have hs5:=hle _ _ _ hm4 h5
  have hap : acc.length + 1 ≤ 4294967296:=by omega
  simp
  refine ⟨_,_,yC.at hR hm4 _,?_⟩
  simp [hap]
  exact ⟨k,acc ++ [y],s5,⟨hl,by simp; omega,by simp,hs5⟩,by omega,by simp [hdEnc],by simp,rfl⟩
 | false =>
  rw [hc,if_neg (by simp)] at hl
  cases hl
  have hm4 : mayP l s2 (⟨#[44]⟩ : ByteArray) = s2:=by unfold mayP; rw [hc]; rfl
  rw [hm4]
  simp
  refine ⟨_,_,ADet.sub (.cons (.refl _) (.cons (.osl (.refl _)) (.refl _))) ((mustW s2 [e] (by simp) hs2).at hR hs2 _),?_⟩
  simp
  refine ⟨_,_,(fewW (mustP l s2 [e]) ys.length).at hR hs3 _,?_⟩
  simp
end Go.Proofs.YtfiohepfohhibaaDoor
namespace Go.Proofs.YtfiohepfohhibaaDoor
open Go.RowKit
attribute [local simp] List.replicate List.range List.range.loop resA resOne retA
def RdOk (l : List Tok) (rd : RS → Option (Ex × RS)) : Prop:=∀ s e s',s.at_ ≤ l.length → rd s = some (e,s') → RdC 47 [] l s s' (exV e) ∧ s'.at_ ≤ l.length
theorem mayP_no {l : List Tok} {s : RS} {t : ByteArray} (h : isP l s t 0 = false) : mayP l s t = s:=by unfold mayP; rw [h]; rfl
theorem mustP1 {l : List Tok} {s : RS} (t : ByteArray) (hs : s.at_ ≤ l.length) {S : ASt} {d i : Nat} {s0 : RS} (hR : RAt S d i l s0) (L : List AObj) (a b : Nat) :
  ADet Tryd.prog 19 [.ptr (d + 1) i 0,.osl 1 [[pS t]] a b] (L :: set2 S d i (rdO l s)) .un (L :: set2 S d i (rdO l (mustP l s [t]))) :=
 ADet.sub (.cons (.refl _) (.cons (.osl (.refl _)) (.refl _))) ((mustW s [t] (by simp) hs).at hR hs L)
theorem lentW {n : Nat} (hn : n ≤ 100000) {l : List Tok} {rd : RS → Option (Ex × RS)} (hrd : RdOk l rd) {s : RS} {e : Ex} {s' : RS} (hs : s.at_ ≤ l.length) (h : lentQ l n rd s = some (e,s')) : RdC 83 [] l s s' (exV e) ∧ s'.at_ ≤ l.length:=by
 unfold lentQ at h
 cases hi : isP l s (⟨#[38]⟩ : ByteArray) 0 with
 | false =>
  rw [hi,if_neg (by simp)] at h
  obtain ⟨eC,hs1⟩:=hrd _ _ _ hs h
  refine ⟨RdC.intro fun S d i hR=>?_,hs1⟩
  refine ADet.intro mixed Tryd.call83 Tryd.func83 rfl ?_
  simp [Tryd.ntmps83]
  refine ⟨_,_,(placeRW s).at hR hs _,?_⟩
  simp
  refine ⟨_,_,(mayW s (⟨#[38]⟩ : ByteArray)).at hR hs _,?_⟩
  rw [hi,mayP_no hi]
  simp
  refine ⟨_,_,eC.at hR hs _,?_⟩
  simp
 | true =>
  rw [hi,if_pos rfl] at h
  obtain ⟨⟨p,s1⟩,hp,he⟩:=Option.map_eq_some_iff.1 h
  cases he
  have hm1:=mayP_le (s:=s) (⟨#[38]⟩ : ByteArray) hs
  have hm2:=mayP_le (s:=mayP l s (⟨#[38]⟩ : ByteArray)) (⟨#[109,117,116]⟩ : ByteArray) hm1
  have pC:=pathW hn hm2 hp
  refine ⟨?_,(pathP_le hm2 hp).1⟩
  cases h2 : isP l (mayP l s (⟨#[38]⟩ : ByteArray)) (⟨#[109,117,116]⟩ : ByteArray) 0 with
  | true =>
   rw [if_pos rfl]
   refine RdC.less (r:=.agg [U 6,I 0,Sg emS,Sg emS,Sg p.name,.p (strs p.path),nilS,I (placeP l s)]) (by repeat' constructor) (RdC.intro fun S d i hR=>?_)
   refine ADet.intro mixed Tryd.call83 Tryd.func83 rfl ?_
   simp [Tryd.ntmps83]
   refine ⟨_,_,(placeRW s).at hR hs _,?_⟩
   simp
   refine ⟨_,_,(mayW s (⟨#[38]⟩ : ByteArray)).at hR hs _,?_⟩
   rw [hi]
   simp
   refine ⟨_,_,(mayW _ (⟨#[109,117,116]⟩ : ByteArray)).at hR hm1 _,?_⟩
   rw [h2]
   simp
   refine ⟨_,_,pC.at hR hm2 _,?_⟩
   simp
  | false =>
   rw [if_neg (by simp)]
   refine RdC.less (r:=.agg [U 5,I 0,Sg emS,Sg emS,Sg p.name,.p (strs p.path),nilS,I (placeP l s)]) (by repeat' constructor) (RdC.intro fun S d i hR=>?_)
   refine ADet.intro mixed Tryd.call83 Tryd.func83 rfl ?_
   simp [Tryd.ntmps83]
   refine ⟨_,_,(placeRW s).at hR hs _,?_⟩
   simp
   refine ⟨_,_,(mayW s (⟨#[38]⟩ : ByteArray)).at hR hs _,?_⟩
   rw [hi]
   simp
   refine ⟨_,_,(mayW _ (⟨#[109,117,116]⟩ : ByteArray)).at hR hm1 _,?_⟩
   rw [h2]
   simp
   refine ⟨_,_,pC.at hR hm2 _,?_⟩
   simp
theorem handRW {n : Nat} (hn : n ≤ 100000) {l : List Tok} {rd : RS → Option (Ex × RS)} (hrd : RdOk l rd) {s : RS} {e : Hd} {s' : RS} (hs : s.at_ ≤ l.length) (h : handQ l (lentQ l n rd) s = some (e,s')) : RdC 86 [] l s s' (hdA e) ∧ s'.at_ ≤ l.length:=by
 unfold handQ at h
 obtain ⟨⟨x,s1⟩,hp,he⟩:=Option.map_eq_some_iff.1 h
 cases he
 have hm1:=takeP_le (s:=s) 2 hs
 have hm2:=mustP_le [(⟨#[61]⟩ : ByteArray)] _ hm1
 obtain ⟨eC,hs1⟩:=lentW hn hrd hm2 hp
 refine ⟨RdC.intro fun S d i hR=>?_,hs1⟩
 refine ADet.intro mixed Tryd.call86 Tryd.func86 rfl ?_
 simp [Tryd.ntmps86]
 refine ⟨_,_,(nameRW s).at hR hs _,?_⟩
 simp
 refine ⟨_,_,mustP1 _ hm1 hR _ _ _,?_⟩
 simp
 refine ⟨_,_,eC.at hR hm2 _,?_⟩
 simp
theorem filledRW {l : List Tok} {rd : RS → Option (Ex × RS)} (hrd : RdOk l rd) {s : RS} {e : Hd} {s' : RS} (hs : s.at_ ≤ l.length) (h : handQ l rd s = some (e,s')) : RdC 93 [] l s s' (hdA e) ∧ s'.at_ ≤ l.length:=by
 unfold handQ at h
 obtain ⟨⟨x,s1⟩,hp,he⟩:=Option.map_eq_some_iff.1 h
 cases he
 have hm1:=takeP_le (s:=s) 2 hs
 have hm2:=mustP_le [(⟨#[61]⟩ : ByteArray)] _ hm1
 obtain ⟨eC,hs1⟩:=hrd _ _ _ hm2 hp
 refine ⟨RdC.intro fun S d i hR=>?_,hs1⟩
 refine ADet.intro mixed Tryd.call93 Tryd.func93 rfl ?_
 simp [Tryd.ntmps93]
 refine ⟨_,_,(nameRW s).at hR hs _,?_⟩
 simp
 refine ⟨_,_,mustP1 _ hm1 hR _ _ _,?_⟩
 simp
 refine ⟨_,_,eC.at hR hm2 _,?_⟩
 simp
end Go.Proofs.YtfiohepfohhibaaDoor
