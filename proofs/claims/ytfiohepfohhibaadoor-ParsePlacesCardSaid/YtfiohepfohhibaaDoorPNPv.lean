/- A part of the proof. The statement is proved in the claim's last text. -/
import Derived.Test.YtfiohepfohhibaaDoorPNPu
set_option linter.unusedVariables false
set_option linter.unusedSimpArgs false
set_option maxRecDepth 100000
set_option maxHeartbeats 32000000
namespace Go.Proofs.YtfiohepfohhibaaDoor
open Go.RowKit
attribute [local simp] List.replicate List.range List.range.loop resA resOne retA AV.cuts AV.cut AObj.cut trim wkR wkT wkL wkN wkNR wkNL wkM wkMR wkML virtL virtO virt_get markL markO markR_get rowA awpI_nil awpI_cons List.forall_mem_cons List.contains_cons List.contains_nil List.find? nextD_eq awpD_nil awpD_cons LCp LCl refL
theorem callsC (L : List AObj) (S : ASt) : ADet Tryd.prog 90 [] (L :: S) (.mp 0 L.length) ((L ++ [mapK callK]) :: S):=by
 refine ADet.flat mixed Tryd.call90 Tryd.func90 rfl ?_
 simp [Tryd.ntmps90,mapFind_nil,mapFind_str,mapK,callK,sEq_ne]
theorem called_1 {l : List Tok} {s s1 : RS} {p : Pl} (op : Int) (pos : Int) (hop : op = 24 ∨ op = 28 ∨ op = 32 ∨ op = 36) (hs : s.at_ ≤ l.length) (pC : RdC 60 [] l (mustP l s [(⟨#[40]⟩ : ByteArray)]) s1 (plV p)) (hs1 : s1.at_ ≤ l.length) : RdC 91 [U op,I pos] l s (mustP l s1 [(⟨#[41]⟩ : ByteArray)]) (exV (.mk op 0 emS emS p [] pos)):=by
 have hm1:=mustP_le [(⟨#[40]⟩ : ByteArray)] _ hs
 refine RdC.less (r:=.agg [U op,I 0,Sg emS,Sg emS,Sg p.name,.p (strs p.path),nilS,I pos]) (by repeat' constructor) (RdC.intro fun S d i hR=>?_)
 refine ADet.intro mixed Tryd.call91 Tryd.func91 rfl ?_
 rcases hop with rfl | rfl | rfl | rfl
 all_goals
  simp [Tryd.ntmps91]
  refine ⟨_,_,mustP1 _ hs hR _ _ _,?_⟩
  simp
  refine ⟨_,_,pC.at hR hm1 _,?_⟩
  simp
  refine ⟨_,_,mustP1 _ hs1 hR _ _ _,?_⟩
  simp
theorem called_2 {l : List Tok} {s s1 s2 : RS} {p : Pl} {e : Ex} (op : Int) (pos : Int) (hop : op = 25 ∨ op = 33 ∨ op = 34 ∨ op = 35) (hs : s.at_ ≤ l.length) (pC : RdC 60 [] l (mustP l s [(⟨#[40]⟩ : ByteArray)]) s1 (plV p)) (hs1 : s1.at_ ≤ l.length) (eC : RdC 47 [] l (mustP l s1 [(⟨#[44]⟩ : ByteArray)]) s2 (exV e)) (hs2 : s2.at_ ≤ l.length) : RdC 91 [U op,I pos] l s (mustP l s2 [(⟨#[41]⟩ : ByteArray)]) (exV (.mk op 0 emS emS p [e] pos)):=by
 have hm1:=mustP_le [(⟨#[40]⟩ : ByteArray)] _ hs
 have hm2:=mustP_le [(⟨#[44]⟩ : ByteArray)] _ hs1
 refine RdC.less (r:=.agg [U op,I 0,Sg emS,Sg emS,Sg p.name,.p (strs p.path),.p (.sl 8 ([e].map Ex.enc)),I pos]) (by repeat' constructor) (RdC.intro fun S d i hR=>?_)
 refine ADet.intro mixed Tryd.call91 Tryd.func91 rfl ?_
 rcases hop with rfl | rfl | rfl | rfl
 all_goals
  simp [Tryd.ntmps91]
  refine ⟨_,_,mustP1 _ hs hR _ _ _,?_⟩
  simp
  refine ⟨_,_,pC.at hR hm1 _,?_⟩
  simp
  refine ⟨_,_,mustP1 _ hs1 hR _ _ _,?_⟩
  simp
  refine ⟨_,_,eC.at hR hm2 _,?_⟩
  simp
  refine ⟨_,_,mustP1 _ hs2 hR _ _ _,?_⟩
  simp [exEnc]
theorem called_3 {l : List Tok} {s s2 : RS} {e : Ex} (op : Int) (pos : Int) (h1 : ¬ (op = 24 ∨ op = 28 ∨ op = 32 ∨ op = 36)) (h2 : ¬ (op = 25 ∨ op = 33 ∨ op = 34 ∨ op = 35)) (hs : s.at_ ≤ l.length) (eC : RdC 47 [] l (mustP l s [(⟨#[40]⟩ : ByteArray)]) s2 (exV e)) (hs2 : s2.at_ ≤ l.length) : RdC 91 [U op,I pos] l s (mustP l s2 [(⟨#[41]⟩ : ByteArray)]) (exV (ex0 op 0 emS [e] pos)):=by
 have hm1:=mustP_le [(⟨#[40]⟩ : ByteArray)] _ hs
 simp only [not_or] at h1 h2
 obtain ⟨a1,a2,a3,a4⟩:=h1
 obtain ⟨b1,b2,b3,b4⟩:=h2
 refine RdC.less (r:=.agg [U op,I 0,Sg emS,Sg emS,Sg emS,nilS,.p (.sl 8 ([e].map Ex.enc)),I pos]) (by repeat' constructor) (RdC.intro fun S d i hR=>?_)
 refine ADet.intro mixed Tryd.call91 Tryd.func91 rfl ?_
 simp [Tryd.ntmps91]
 refine ⟨_,_,mustP1 _ hs hR _ _ _,?_⟩
 simp [a1,a2,a3,a4,b1,b2,b3,b4]
 refine ⟨_,_,eC.at hR hm1 _,?_⟩
 simp
 refine ⟨_,_,mustP1 _ hs2 hR _ _ _,?_⟩
 simp [exEnc]
theorem calledRW {n : Nat} (hn : n ≤ 100000) {l : List Tok} {rd : RS → Option (Ex × RS)} (hrd : RdOk l rd) {s : RS} {op pos : Int} {e : Ex} {s' : RS} (hs : s.at_ ≤ l.length) (h : calledQ l n rd op pos s = some (e,s')) : RdC 91 [U op,I pos] l s s' (exV e) ∧ s'.at_ ≤ l.length:=by
 have hm1:=mustP_le [(⟨#[40]⟩ : ByteArray)] _ hs
 unfold calledQ at h
 split at h
 ·rename_i hop
  obtain ⟨⟨p,s1⟩,hp,he⟩:=Option.map_eq_some_iff.1 h
  cases he
  have hs1:=(pathP_le hm1 hp).1
  exact ⟨called_1 op pos hop hs (pathW hn hm1 hp) hs1,mustP_le _ _ hs1⟩
 ·rename_i hop
  split at h
  ·rename_i hop2
   split at h
   ·cases h
   rename_i p s1 hp
   have hs1:=(pathP_le hm1 hp).1
   obtain ⟨⟨x,s2⟩,hx,he⟩:=Option.map_eq_some_iff.1 h
   cases he
   obtain ⟨eC,hs2⟩:=hrd _ _ _ (mustP_le [(⟨#[44]⟩ : ByteArray)] _ hs1) hx
   exact ⟨called_2 op pos hop2 hs (pathW hn hm1 hp) hs1 eC hs2,mustP_le _ _ hs2⟩
  ·rename_i hop2
   obtain ⟨⟨x,s2⟩,hx,he⟩:=Option.map_eq_some_iff.1 h
   cases he
   obtain ⟨eC,hs2⟩:=hrd _ _ _ hm1 hx
   exact ⟨called_3 op pos hop hop2 hs eC hs2,mustP_le _ _ hs2⟩
theorem upper_1 {l : List Tok} {s s1 : RS} {hs' : List Hd} (pos : Int) (hs : s.at_ ≤ l.length) (hl : hs'.length ≤ 1000000) (hi : isP l (takeP l s 3) (⟨#[123]⟩ : ByteArray) 0 = true) (lC : RdF 85 (fun d i=>[Sg (⟨#[125]⟩ : ByteArray),.fn (.func 93) [.ptr d i 0] []]) l (mayP l (takeP l s 3) (⟨#[123]⟩ : ByteArray)) s1 (.p (.sl 9 (hs'.map Hd.enc)))) :
  RdC 88 [I pos] l s s1 (exV (.mk 19 0 (takeT l s 3) emS ⟨emS,hs'.map (·.1)⟩ (hs'.map (·.2)) pos)):=by
 have hm1:=takeP_le (s:=s) 3 hs
 have hm2:=mayP_le (s:=takeP l s 3) (⟨#[123]⟩ : ByteArray) hm1
 have hlen : hs'.length ≤ maxLen:=by unfold maxLen; omega
 refine RdC.intro fun S d i hR=>?_
 refine ADet.intro mixed Tryd.call88 Tryd.func88 rfl ?_
 simp [Tryd.ntmps88]
 refine ⟨_,_,(namedW s).at hR hs _,?_⟩
 simp
 refine ⟨_,_,(mayW _ (⟨#[123]⟩ : ByteArray)).at hR hm1 _,?_⟩
 rw [hi]
 simp
 refine ⟨_,_,lC.at hR hm2 _,?_⟩
 simp
 refine awp_loopG2 9 1 (by decide) (([.ptr (d + 1) i 0,I pos,.any,.any,.ptr 0 0 0,.ptr 0 1 0,.any,.any,.any,.any,.any,.any,.any,.any,.any,.any,.any,.p (.sl 9 (hs'.map Hd.enc)),I hs'.length,I 0] ++ List.replicate 38 .any)) [.cells [.any,.any,.any,.any,.any,.any,.any,.any] 46,.cells [U 19,I 0,Sg (takeT l s 3),Sg emS,Sg emS,.osl 1 [] 0 2,nilS,I pos] 46]
  46 8 (by decide) [.cells [.any,.any,.any,.any,.any,.any,.any,.any] 46,.cells [U 19,I 0,Sg (takeT l s 3),Sg emS,Sg emS,.osl 1 [] 0 2,.osl 8 [] 0 3,I pos] 46,.tok 9 1 0]
  (fun q : Nat=>q ≤ hs'.length) (fun q=>([.ptr (d + 1) i 0,I pos,.any,.any,.ptr 0 0 0,.ptr 0 1 0,.any,.any,.any,.any,.any,.any,.any,.any,.any,.any,.any,.p (.sl 9 (hs'.map Hd.enc)),I hs'.length,I q] ++ List.replicate 38 .any))
  (fun q=>[.cells [.any,.any,.any,.any,.any,.any,.any,.any] 46,.cells [U 19,I 0,Sg (takeT l s 3),Sg emS,Sg emS,.osl 1 (((hs'.take q).map (·.1)).map fun t=>[pS t]) 0 2,.osl 8 (((hs'.take q).map (·.2)).map Ex.enc) 0 3,I pos] 46,.tok 9 1 q,.tok 46 8 q] :: set2 S d i (rdO l s1)) (fun q=>hs'.length - q) 0 (Nat.zero_le _) ?_ ?_ ?_ ?_ ?_ ?_
 ·simp
 ·simp
 ·simp
 ·simp
 ·rfl
 intro q hq
 by_cases hlt : q < hs'.length
 ·have hlt' : (q : Int) < (hs'.length : Int):=by omega
  have hw:=wrap_succ hlt hlen
  have hmu : hs'.length - (q + 1) < hs'.length - q:=by omega
  have hle : q + 1 ≤ 4294967296:=by omega
  have ht:=List.take_succ_eq_append_getElem hlt
  generalize hg : hs'[q] = g at *
  simp [hlt,hlt',hg,hdEnc]
  refine awp_drawR [5,11] [(8,6),(10,6),(11,6)] (by kernel_rfl) (by kernel_rfl) ?_
  have hmn : min q hs'.length = q:=Nat.min_eq_left hq
  simp [hle,hmn,show q ≤ 4294967295 by omega]
  have hA : ∀ {β : Type} (f : Hd → β),List.take (q + 1) (List.map f hs') = List.take q (List.map f hs') ++ [f g]:=fun f=>by
   rw [List.take_succ_eq_append_getElem (by simpa using hlt),List.getElem_map,hg]
  exact ⟨q + 1,hlt,hmu,hw,⟨(hA _).symm,by rw [hA]; show _ = _ ++ [g.2.enc]; rw [exEnc]⟩,rfl⟩
 ·have hlt' : ¬ (q : Int) < (hs'.length : Int):=by omega
  have hq2 : q = hs'.length:=by omega
  subst hq2
  simp [hlt',strs]
  refine ⟨rfl,rfl,rfl,rfl,rfl,?_,?_,rfl⟩
  ·exact (List.map_map).symm
  ·exact (List.map_map).symm
theorem upper_2 {l : List Tok} {s s2 s3 : RS} {e : Ex} (pos : Int) (hs : s.at_ ≤ l.length) (hi : isP l (takeP l s 3) (⟨#[123]⟩ : ByteArray) 0 = false) (e2 : mustP l (takeP l s 3) [(⟨#[46]⟩ : ByteArray)] = s2) (hi2 : isP l (takeP l s2 3) (⟨#[40]⟩ : ByteArray) 0 = true) (eC : RdC 47 [] l (mayP l (takeP l s2 3) (⟨#[40]⟩ : ByteArray)) s3 (exV e)) (hs3 : s3.at_ ≤ l.length) :
  RdC 88 [I pos] l s (mustP l s3 [(⟨#[41]⟩ : ByteArray)]) (exV (.mk 20 0 (takeT l s 3) (takeT l s2 3) zeroPl [e] pos)):=by
 have hm1:=takeP_le (s:=s) 3 hs
 have hm2 : s2.at_ ≤ l.length:=by rw [← e2]; exact mustP_le _ _ hm1
 have hm3:=takeP_le (s:=s2) 3 hm2
 have hm4:=mayP_le (s:=takeP l s2 3) (⟨#[40]⟩ : ByteArray) hm3
 refine RdC.less (r:=.agg [U 20,I 0,Sg (takeT l s 3),Sg (takeT l s2 3),Sg emS,nilS,.p (.sl 8 ([e].map Ex.enc)),I pos]) (by repeat' constructor) (RdC.intro fun S d i hR=>?_)
 have mC:=fun L a b=>mustP1 (⟨#[46]⟩ : ByteArray) hm1 hR L a b
 rw [e2] at mC
 refine ADet.intro mixed Tryd.call88 Tryd.func88 rfl ?_
 simp [Tryd.ntmps88]
 refine ⟨_,_,(namedW s).at hR hs _,?_⟩
 simp
 refine ⟨_,_,(mayW _ (⟨#[123]⟩ : ByteArray)).at hR hm1 _,?_⟩
 rw [hi,mayP_no hi]
 simp
 refine ⟨_,_,mC _ _ _,?_⟩
 simp
 refine ⟨_,_,(namedW s2).at hR hm2 _,?_⟩
 simp
 refine ⟨_,_,(mayW _ (⟨#[40]⟩ : ByteArray)).at hR hm3 _,?_⟩
 rw [hi2]
 simp
 refine ⟨_,_,eC.at hR hm4 _,?_⟩
 simp
 refine ⟨_,_,mustP1 _ hs3 hR _ _ _,?_⟩
 simp [exEnc]
theorem upper_3 {l : List Tok} {s s2 : RS} (pos : Int) (hs : s.at_ ≤ l.length) (hi : isP l (takeP l s 3) (⟨#[123]⟩ : ByteArray) 0 = false) (e2 : mustP l (takeP l s 3) [(⟨#[46]⟩ : ByteArray)] = s2) (hi2 : isP l (takeP l s2 3) (⟨#[40]⟩ : ByteArray) 0 = false) :
  RdC 88 [I pos] l s (takeP l s2 3) (exV (.mk 20 0 (takeT l s 3) (takeT l s2 3) zeroPl [] pos)):=by
 have hm1:=takeP_le (s:=s) 3 hs
 have hm2 : s2.at_ ≤ l.length:=by rw [← e2]; exact mustP_le _ _ hm1
 have hm3:=takeP_le (s:=s2) 3 hm2
 refine RdC.less (r:=.agg [U 20,I 0,Sg (takeT l s 3),Sg (takeT l s2 3),Sg emS,nilS,nilS,I pos]) (by repeat' constructor) (RdC.intro fun S d i hR=>?_)
 have mC:=fun L a b=>mustP1 (⟨#[46]⟩ : ByteArray) hm1 hR L a b
 rw [e2] at mC
 refine ADet.intro mixed Tryd.call88 Tryd.func88 rfl ?_
 simp [Tryd.ntmps88]
 refine ⟨_,_,(namedW s).at hR hs _,?_⟩
 simp
 refine ⟨_,_,(mayW _ (⟨#[123]⟩ : ByteArray)).at hR hm1 _,?_⟩
 rw [hi,mayP_no hi]
 simp
 refine ⟨_,_,mC _ _ _,?_⟩
 simp
 refine ⟨_,_,(namedW s2).at hR hm2 _,?_⟩
 simp
 refine ⟨_,_,(mayW _ (⟨#[40]⟩ : ByteArray)).at hR hm3 _,?_⟩
 rw [hi2,mayP_no hi2]
 simp
theorem upperW {n : Nat} (hn : n ≤ 100000) {l : List Tok} {rd : RS → Option (Ex × RS)} (hrd : RdOk l rd) {s : RS} {pos : Int} {e : Ex} {s' : RS} (hs : s.at_ ≤ l.length) (h : upperQ l n rd pos s = some (e,s')) : RdC 88 [I pos] l s s' (exV e) ∧ s'.at_ ≤ l.length:=by
 have hm1:=takeP_le (s:=s) 3 hs
 unfold upperQ at h
 cases hi : isP l (takeP l s 3) (⟨#[123]⟩ : ByteArray) 0 with
 | true =>
  rw [hi,if_pos rfl] at h
  have hm2:=mayP_le (s:=takeP l s 3) (⟨#[123]⟩ : ByteArray) hm1
  obtain ⟨⟨xs,s1⟩,hp,he⟩:=Option.map_eq_some_iff.1 h
  cases he
  have hle : ∀ s x s',s.at_ ≤ l.length → handQ l rd s = some (x,s') → s'.at_ ≤ l.length:=fun s x s' a b=>(filledRW hrd a b).2
  have lC:=listHdC (K:=93) hle (fun s x s' a b=>(filledRW hrd a b).1) hn hm2 hp
  exact ⟨upper_1 pos hs (listP_len hle hm2 hn hp) hi lC,listP_le hle hm2 hp⟩
 | false =>
  rw [hi,if_neg (by simp)] at h
  obtain ⟨s2,e2⟩ : ∃ s2,mustP l (takeP l s 3) [(⟨#[46]⟩ : ByteArray)] = s2:=⟨_,rfl⟩
  rw [e2] at h
  dsimp only at h
  have hm2 : s2.at_ ≤ l.length:=by rw [← e2]; exact mustP_le _ _ hm1
  have hm3:=takeP_le (s:=s2) 3 hm2
  cases hi2 : isP l (takeP l s2 3) (⟨#[40]⟩ : ByteArray) 0 with
  | true =>
   rw [hi2,if_pos rfl] at h
   obtain ⟨⟨x,s3⟩,hx,he⟩:=Option.map_eq_some_iff.1 h
   cases he
   obtain ⟨eC,hs3⟩:=hrd _ _ _ (mayP_le _ hm3) hx
   exact ⟨upper_2 pos hs hi e2 hi2 eC hs3,mustP_le _ _ hs3⟩
  | false =>
   rw [hi2,if_neg (by simp)] at h
   cases h
   exact ⟨upper_3 pos hs hi e2 hi2,hm3⟩
end Go.Proofs.YtfiohepfohhibaaDoor
