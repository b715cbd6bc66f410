/- A part of the proof. The statement is proved in the claim's last text. -/
import Derived.Test.YtfbpibkpmcceaaaGreatDoorZMRoom
import Derived.Test.YtfbpibkpmcceaaaGreatDoorZMWp
set_option linter.unusedVariables false
set_option linter.unusedSimpArgs false
set_option maxRecDepth 100000
set_option maxHeartbeats 32000000
namespace Go.Proofs.YtfbpibkpmcceaaaGreatDoor
open Go.RowKit
attribute [local simp] List.replicate List.range List.range.loop resA resOne retA AV.cuts AV.cut AObj.cut trim wkR wkT wkL wkN wkNR wkNL wkM wkMR wkML virtL virtO virt_get markL markO markR_get rowA awpI_nil awpI_cons List.forall_mem_cons List.contains_cons List.contains_nil List.find? nextD_eq awpD_nil awpD_cons LCp LCl refL
theorem take_row {α β : Type} (f : α → β) (l : List α) {q : Nat} (h : q < l.length) : (l.map f).take q ++ [f l[q]] = (l.map f).take (q + 1):=by
 rw [List.take_succ_eq_append_getElem (by simpa using h)]; simp
theorem copyTypeC : ∀ (t : Ty),TySm t → ∀ (S : ASt),ADet Tryz.prog 31 [.agg [U t.kind,Sg t.name,.p (.sl 3 (t.args.map Ty.enc))]] S (.agg [U t.kind,Sg t.name,.p (.sl 3 (t.args.map Ty.enc))]) S:=by
 refine Ty.ind fun t ih hsm S=>?_
 obtain ⟨_,_,hsz,hsm⟩:=hsm
 refine ADet.okA Tryz.call31 0 2 rfl rfl fun hok=>?_
 have hlen:=okl hok
 refine ADet.intro mixed Tryz.call31 Tryz.func31 rfl ?_
 simp [Tryz.ntmps31]
 refine awp_loopG 38 3 (by decide) [.cells [U t.kind,Sg t.name,.p (.sl 3 (t.args.map Ty.enc))] 38,.cells [.any,.any,.any] 38,.cells [U t.kind,Sg t.name,.osl 3 [] 0 3] 38] (fun q : Nat=>q ≤ t.args.length) (fun q=>([.any,.ptr 0 0 0,.ptr 0 1 0,.ptr 0 2 0,I q] ++ List.replicate 21 .any)) (fun q=>[.cells [U t.kind,Sg t.name,.p (.sl 3 (t.args.map Ty.enc))] 38,.cells [.any,.any,.any] 38,.cells [U t.kind,Sg t.name,.osl 3 ((t.args.map Ty.enc).take q) 0 3] 38,.tok 38 3 q] :: S) (fun q=>t.args.length - q) 0 (Nat.zero_le _) ?_ ?_ ?_ ?_
 ·simp
 ·simp
 ·rfl
 intro q hq
 by_cases hlt : q < t.args.length
 ·simp [hlt]
  refine awp_draw [(1,7),(1,8)] (by kernel_rfl) (by kernel_rfl) ?_
  simp [hlt,tyEnc]
  refine ⟨_,_,ih _ (List.getElem_mem hlt) (hsm _ (List.getElem_mem hlt)) _,?_⟩
  have hle : q + 1 ≤ 4294967296:=by omega
  have hmin : min q t.args.length = q:=by omega
  simp [hlt,hle,hmin]
  exact ⟨q + 1,hlt,by omega,wrap_succ hlt,by rw [← take_row Ty.enc _ hlt,tyEnc],rfl⟩
 ·simp [hlt]
  exact List.take_of_length_le (by simp; omega)
theorem copyPlaceC (x : Pl) (hx : PlSm x) (S : ASt) : ADet Tryz.prog 62 [.agg [Sg x.name,.p (strs x.path)]] S (.agg [Sg x.name,.p (strs x.path)]) S:=by
 refine ADet.intro mixed Tryz.call62 Tryz.func62 rfl ?_
 have h1 : x.path.length ≤ 4294967296:=by have:=hx.2.1; omega
 simp [Tryz.ntmps62,strs,h1]
theorem copyExprC : ∀ (e : Ex),ExSm e → ∀ (S : ASt),ADet Tryz.prog 33 [.agg [U e.op,I e.int,Sg e.name,Sg e.second,Sg e.place.name,.p (strs e.place.path),.p (.sl 8 (e.args.map Ex.enc)),I e.pos],B true] S (.agg [U e.op,I e.int,Sg e.name,Sg e.second,Sg e.place.name,.p (strs e.place.path),.p (.sl 8 (e.args.map Ex.enc)),I e.pos]) S:=by
 refine Ex.ind fun e ih hsm S=>?_
 obtain ⟨_,_,_,hpl,hsz,hsm⟩:=hsm
 refine ADet.okA Tryz.call33 0 6 rfl rfl fun hok=>?_
 have hlen:=okl hok
 refine ADet.intro mixed Tryz.call33 Tryz.func33 rfl ?_
 simp [Tryz.ntmps33]
 refine ⟨_,_,copyPlaceC _ hpl _,?_⟩
 simp
 refine awp_loopG 45 8 (by decide) [.cells [U e.op,I e.int,Sg e.name,Sg e.second,Sg e.place.name,.p (strs e.place.path),.p (.sl 8 (e.args.map Ex.enc)),I e.pos] 45,.cells [.any,.any,.any,.any,.any,.any,.any,.any] 45,.cells [U e.op,I e.int,Sg e.name,Sg e.second,Sg e.place.name,.p (strs e.place.path),.osl 8 [] 0 3,I e.pos] 45] (fun q : Nat=>q ≤ e.args.length) (fun q=>([.any,B true,.ptr 0 0 0,.any,.ptr 0 1 0,.ptr 0 2 0,I q] ++ List.replicate 29 .any)) (fun q=>[.cells [U e.op,I e.int,Sg e.name,Sg e.second,Sg e.place.name,.p (strs e.place.path),.p (.sl 8 (e.args.map Ex.enc)),I e.pos] 45,.cells [.any,.any,.any,.any,.any,.any,.any,.any] 45,.cells [U e.op,I e.int,Sg e.name,Sg e.second,Sg e.place.name,.p (strs e.place.path),.osl 8 ((e.args.map Ex.enc).take q) 0 3,I e.pos] 45,.tok 45 8 q] :: S) (fun q=>e.args.length - q) 0 (Nat.zero_le _) ?_ ?_ ?_ ?_
 ·simp
 ·simp
 ·rfl
 intro q hq
 by_cases hlt : q < e.args.length
 ·simp [hlt]
  refine awp_draw [(1,8),(1,9)] (by kernel_rfl) (by kernel_rfl) ?_
  simp [hlt,exEnc]
  refine ⟨_,_,ih _ (List.getElem_mem hlt) (hsm _ (List.getElem_mem hlt)) _,?_⟩
  have hle : q + 1 ≤ 4294967296:=by omega
  have hmin : min q e.args.length = q:=by omega
  simp [hlt,hle,hmin]
  exact ⟨q + 1,hlt,by omega,wrap_succ hlt,by rw [← take_row Ex.enc _ hlt,exEnc],rfl⟩
 ·simp [hlt]
  exact List.take_of_length_le (by simp; omega)
theorem copyFieldsC (l : List Fi) (hsm : FisSm l) (S : ASt) : ADet Tryz.prog 30 [.p (.sl 4 (l.map Fi.enc))] S (.p (.sl 4 (l.map Fi.enc))) S:=by
 obtain ⟨hsz,hsm⟩:=hsm
 refine ADet.okP Tryz.call30 0 rfl fun hok=>?_
 have hlen:=okl hok
 refine ADet.intro mixed Tryz.call30 Tryz.func30 rfl ?_
 simp [Tryz.ntmps30]
 refine awp_loopG 50 4 (by decide) [] (fun q : Nat=>q ≤ l.length) (fun q=>([.p (.sl 4 (l.map Fi.enc)),.any,.any,.osl 4 ((l.map Fi.enc).take q) 0 0,I q] ++ List.replicate 22 .any)) (fun q=>[.tok 50 4 q] :: S) (fun q=>l.length - q) 0 (Nat.zero_le _) ?_ ?_ ?_ ?_
 ·simp
 ·simp
 ·rfl
 intro q hq
 by_cases hlt : q < l.length
 ·simp [hlt]
  refine awp_draw [(5,11)] (by kernel_rfl) (by kernel_rfl) ?_
  simp [hlt,Fi.enc]
  refine ⟨_,_,copyTypeC _ (hsm _ (List.getElem_mem hlt)).2 _,?_⟩
  have hle : q + 1 ≤ 4294967296:=by omega
  have hmin : min q l.length = q:=by omega
  simp [hlt,hle,hmin,Fi.enc]
  exact ⟨q + 1,hlt,by omega,⟨by rw [← take_row Fi.enc _ hlt,Fi.enc],wrap_succ hlt⟩,rfl⟩
 ·simp [hlt]
  exact List.take_of_length_le (by simp; omega)
def CpC (l : List St) : Prop:=∀ S,ADet Tryz.prog 32 [.p (.sl 15 (l.map St.enc)),B true] S (.p (.sl 15 (l.map St.enc))) S
abbrev stW (s : St) (n x a : AV) : List AV:=[U s.op,Sg s.name,Sg s.second,n,U s.type.kind,Sg s.type.name,.p (.sl 3 (s.type.args.map Ty.enc)),I s.int,Sg s.place.name,.p (strs s.place.path),x,.p (.sl 15 (s.body.map St.enc)),.p (.sl 15 (s.els.map St.enc)),a,I s.pos]
theorem copyStmtsC (l : List St) (hsm : StsSm l) (ih : ∀ s ∈ l,CpC s.body ∧ CpC s.els ∧ ∀ a ∈ s.arms,CpC a.body) : CpC l:=by
 intro S
 obtain ⟨hsz,hsm⟩:=hsm
 refine ADet.okP Tryz.call32 0 rfl fun hok=>?_
 have hlen:=okl hok
 refine ADet.intro mixed Tryz.call32 Tryz.func32 rfl ?_
 simp [Tryz.ntmps32]
 refine awp_loopG 60 15 (by decide) [] (fun q : Nat=>q ≤ l.length) (fun q=>([.p (.sl 15 (l.map St.enc)),B true,.any,.any,.any,.osl 15 ((l.map St.enc).take q) 0 0,I q] ++ List.replicate 118 .any)) (fun q=>[.tok 60 15 q] :: S) (fun q=>l.length - q) 0 (Nat.zero_le _) ?_ ?_ ?_ ?_
 ·simp
 ·simp
 ·rfl
 intro q hq
 by_cases hlt : q < l.length
 ·have hs:=ih _ (List.getElem_mem hlt)
  have hsk:=st_ok hok (List.getElem_mem hlt)
  have hsS:=hsm _ (List.getElem_mem hlt)
  have hrow:=take_row St.enc l hlt
  generalize hx : l[q] = s at hs hsk hsS hrow ⊢
  obtain ⟨_,_,_,hnm,hty,hpl,hexs,_,_,harm,_,_,_,_⟩:=hsS
  have hle:=okl hsk.2.2.2.1
  have hla:=okl hsk.2.2.2.2.2.2
  have hmin : min q l.length = q:=by omega
  have hq1 : q + 1 ≤ 4294967296:=by omega
  have hn1 : s.names.length ≤ 4294967296:=by have:=hnm.1; omega
  have hx1:=hexs.1
  simp [hlt,hx,stEnc]
  refine awp_draw [] (by kernel_rfl) (by kernel_rfl) ?_
  simp [hlt,hx,stEnc,strs,hn1]
  refine awp_draw [(10,5)] (by kernel_rfl) (by kernel_rfl) ?_
  simp [hlt,hx,stEnc]
  refine ⟨_,_,copyTypeC _ hty _,?_⟩
  simp [hlt,hx,stEnc]
  refine ⟨_,_,copyPlaceC _ hpl _,?_⟩
  simp [hlt,hx,stEnc]
  refine awp_loopG 45 8 (by decide) [.tok 60 15 q,.cells (stW s (.osl 1 (s.names.map fun s=>[pS s]) 0 2) (.osl 8 [] 0 3) (.p (.v (.slice none 0 0)))) 60,.tok 9 1 s.names.length] (fun k : Nat=>k ≤ s.exprs.length) (fun k=>([.p (.sl 15 (l.map St.enc)),B true,.any,.any,.any,.osl 15 ((l.map St.enc).take q) 0 0,I q,.ptr 0 1 0,I k] ++ List.replicate 116 .any)) (fun k=>[.tok 60 15 q,.cells (stW s (.osl 1 (s.names.map fun s=>[pS s]) 0 2) (.osl 8 ((s.exprs.map Ex.enc).take k) 0 3) (.p (.v (.slice none 0 0)))) 60,.tok 9 1 s.names.length,.tok 45 8 k] :: S) (fun k=>s.exprs.length - k) 0 (Nat.zero_le _) ?_ ?_ ?_ ?_
  ·simp
  ·simp [strs]
  ·rfl
  intro k hk
  by_cases hkl : k < s.exprs.length
  ·have hrowe:=take_row Ex.enc s.exprs hkl
   have hesm:=hexs.2 _ (List.getElem_mem hkl)
   generalize he : s.exprs[k] = e at hrowe hesm ⊢
   have hmin2 : min k s.exprs.length = k:=by omega
   have hk1 : k + 1 ≤ 4294967296:=by omega
   simp [hlt,hx,hkl,he,stEnc]
   refine awp_draw [(1,11),(1,12)] (by kernel_rfl) (by kernel_rfl) ?_
   simp [hlt,hx,hkl,he,stEnc,exEnc]
   refine ⟨_,_,copyExprC _ hesm _,?_⟩
   simp [hmin2,hk1]
   exact ⟨k + 1,hkl,by omega,wrap_succ hkl,by rw [← hrowe,exEnc],rfl⟩
  have hke : (s.exprs.map Ex.enc).take k = s.exprs.map Ex.enc:=List.take_of_length_le (by simp; omega)
  simp [hlt,hx,hkl,hke,stEnc]
  refine awp_draw [(11,6)] (by kernel_rfl) (by kernel_rfl) ?_
  simp [hlt,hx,stEnc]
  refine ⟨_,_,hs.1 _,?_⟩
  simp [hlt,hx,stEnc]
  refine ⟨_,_,hs.2.1 _,?_⟩
  simp [hlt,hx,stEnc]
  refine awp_loopG 110 3 (by decide) [.tok 60 15 q,.cells (stW s (.osl 1 (s.names.map fun s=>[pS s]) 0 2) (.osl 8 (s.exprs.map Ex.enc) 0 3) (.osl 3 [] 0 4)) 60,.tok 9 1 s.names.length,.tok 45 8 k] (fun k : Nat=>k ≤ s.arms.length) (fun k=>([.p (.sl 15 (l.map St.enc)),B true,.any,.any,.any,.osl 15 ((l.map St.enc).take q) 0 0,I q,.ptr 0 1 0,.any,I k] ++ List.replicate 115 .any)) (fun j=>[.tok 60 15 q,.cells (stW s (.osl 1 (s.names.map fun s=>[pS s]) 0 2) (.osl 8 (s.exprs.map Ex.enc) 0 3) (.osl 3 ((s.arms.map Ar.enc).take j) 0 4)) 60,.tok 9 1 s.names.length,.tok 45 8 k,.tok 110 3 j] :: S) (fun k=>s.arms.length - k) 0 (Nat.zero_le _) ?_ ?_ ?_ ?_
  ·simp
  ·simp [strs]
  ·rfl
  intro j hj
  by_cases hjl : j < s.arms.length
  ·have hrowa:=take_row Ar.enc s.arms hjl
   have hac:=hs.2.2 _ (List.getElem_mem hjl)
   generalize ha : s.arms[j] = a at hrowa hac ⊢
   have hmin2 : min j s.arms.length = j:=by omega
   have hj1 : j + 1 ≤ 4294967296:=by omega
   simp [hlt,hx,hjl,ha,stEnc,Ar.enc]
   refine ⟨_,_,hac _,?_⟩
   simp [hmin2,hj1]
   exact ⟨j + 1,hjl,by omega,wrap_succ hjl,by rw [← hrowa]; rfl,rfl⟩
  have hja : (s.arms.map Ar.enc).take j = s.arms.map Ar.enc:=List.take_of_length_le (by simp; omega)
  simp [hlt,hx,hjl,hja,stEnc,hmin,hq1]
  exact ⟨q + 1,hlt,by omega,⟨by rw [← hrow,stEnc]; rfl,wrap_succ hlt⟩,rfl⟩
 ·simp [hlt]
  exact List.take_of_length_le (by simp; omega)
theorem sts_of {s : St} (h : StSm s) : StsSm s.body ∧ StsSm s.els ∧ ∀ a ∈ s.arms,StsSm a.body:=by
 obtain ⟨_,_,_,_,_,_,_,h1,h2,h3,h4,h5,h6,h7⟩:=h
 exact ⟨⟨h1,h4⟩,⟨h2,h5⟩,fun a ha=>⟨(h6 a ha).2.2,h7 a ha⟩⟩
theorem cpC3 : ∀ (s : St),StSm s → CpC s.body ∧ CpC s.els ∧ ∀ a ∈ s.arms,CpC a.body:=by
 refine St.ind fun s ih1 ih2 ih3 hs=>?_
 obtain ⟨h1,h2,h3⟩:=sts_of hs
 exact ⟨copyStmtsC _ h1 fun x hx=>ih1 x hx (h1.2 x hx),copyStmtsC _ h2 fun x hx=>ih2 x hx (h2.2 x hx),fun a ha=>copyStmtsC _ (h3 a ha) fun x hx=>ih3 a ha x hx ((h3 a ha).2 x hx)⟩
theorem cpC {l : List St} (h : StsSm l) : CpC l:=copyStmtsC l h fun s hs=>cpC3 s (h.2 s hs)
abbrev itW (x : It) (f : AV) (t : Ty) (b : AV) (e : Ex) : List AV:=[U x.kind,Sg x.name,f,U t.kind,Sg t.name,.p (.sl 3 (t.args.map Ty.enc)),b,U e.op,I e.int,Sg e.name,Sg e.second,Sg e.place.name,.p (strs e.place.path),.p (.sl 8 (e.args.map Ex.enc)),I e.pos,I x.pos]
theorem copiedC (p : List It) (hsm : PrSm p) (S : ASt) : ADet Tryz.prog 9 [.agg [.p (prog p)],B true] S (.agg [.p (prog p)]) S:=by
 obtain ⟨hsz,hsm⟩:=hsm
 refine ADet.okA Tryz.call9 0 0 rfl rfl fun hok=>?_
 have hlen:=okl hok
 refine ADet.intro mixed Tryz.call9 Tryz.func9 rfl ?_
 simp [Tryz.ntmps9,prog]
 refine awp_loopG 47 16 (by decide) [.cells [.p (prog p)] 24,.cells [.any] 24,.cells [.osl 16 [] 0 3] 24] (fun q : Nat=>q ≤ p.length) (fun q=>([.any,B true,.ptr 0 0 0,.any,.ptr 0 1 0,.ptr 0 2 0,I q] ++ List.replicate 41 .any)) (fun q=>[.cells [.p (prog p)] 24,.cells [.any] 24,.cells [.osl 16 ((p.map It.enc).take q) 0 3] 24,.tok 47 16 q] :: S) (fun q=>p.length - q) 0 (Nat.zero_le _) ?_ ?_ ?_ ?_
 ·simp
 ·simp [prog]
 ·rfl
 intro q hq
 by_cases hlt : q < p.length
 ·have hrow:=take_row It.enc p hlt
  have hxs:=hsm _ (List.getElem_mem hlt)
  generalize hx : p[q] = x at hrow hxs ⊢
  have hmin : min q p.length = q:=by omega
  have hq1 : q + 1 ≤ 4294967296:=by omega
  simp [hlt,hx,It.enc,prog]
  refine awp_draw [(4,2)] (by kernel_rfl) (by kernel_rfl) ?_
  simp
  refine ⟨_,_,copyFieldsC _ hxs.2.1 _,?_⟩
  simp
  refine ⟨_,_,copyTypeC _ hxs.2.2.1 _,?_⟩
  simp
  refine awp_draw [(5,3)] (by kernel_rfl) (by kernel_rfl) ?_
  simp
  refine ⟨_,_,cpC hxs.2.2.2.1 _,?_⟩
  simp
  refine ⟨_,_,copyExprC _ hxs.2.2.2.2 _,?_⟩
  simp [hmin,hq1]
  exact ⟨q + 1,hlt,by omega,wrap_succ hlt,by rw [← hrow]; rfl,rfl⟩
 ·have hke : (p.map It.enc).take q = p.map It.enc:=List.take_of_length_le (by simp; omega)
  simp [hlt,prog,hke]
theorem sameTypeC : ∀ (t : Ty) (S : ASt),ADet Tryz.prog 48 [tyV t,tyV t] S (B true) S:=by
 refine Ty.ind fun t ih S=>?_
 refine ADet.okA Tryz.call48 0 2 rfl rfl fun hok=>?_
 have hlen:=okl hok
 refine ADet.intro mixed Tryz.call48 Tryz.func48 rfl ?_
 simp [Tryz.ntmps48]
 refine awp_loop (fun q : Nat=>q ≤ t.args.length) (fun q=>([.any,.any,.ptr 0 0 0,.ptr 0 1 0,.any,I q] ++ List.replicate 40 .any)) (fun q=>[.cells [U t.kind,Sg t.name,.p (.sl 3 (t.args.map Ty.enc))] 38,.cells [U t.kind,Sg t.name,.p (.sl 3 (t.args.map Ty.enc))] 38] :: S) (fun q=>t.args.length - q) 0 (Nat.zero_le _) ?_ ?_ ?_
 ·simp
 ·simp
 intro q hq
 by_cases hlt : q < t.args.length
 ·simp [hlt]
  refine awp_draw [] (by kernel_rfl) (by kernel_rfl) ?_
  simp [hlt,tyEnc]
  refine ⟨_,_,ih _ (List.getElem_mem hlt) _,?_⟩
  simp [hlt]
  exact ⟨q + 1,hlt,by omega,wrap_succ hlt⟩
 ·simp [hlt]
abbrev exsV (l : List Ex) : AV:=.p (.sl 8 (l.map Ex.enc))
abbrev stsV (l : List St) : AV:=.p (.sl 15 (l.map St.enc))
abbrev fisV (l : List Fi) : AV:=.p (.sl 4 (l.map Fi.enc))
theorem sameNamesC (l : List ByteArray) (S : ASt) : ADet Tryz.prog 70 [.p (strs l),.p (strs l)] S (B true) S:=by
 unfold strs
 refine ADet.okP Tryz.call70 0 rfl fun hok=>?_
 have hlen:=okl hok
 refine ADet.intro mixed Tryz.call70 Tryz.func70 rfl ?_
 simp [Tryz.ntmps70]
 refine awp_loop (fun q : Nat=>q ≤ l.length) (fun q=>([.p (.sl 1 (l.map fun s=>[pS s])),.p (.sl 1 (l.map fun s=>[pS s])),.any,.any,.any,I q] ++ List.replicate 20 .any)) (fun q=>[] :: S) (fun q=>l.length - q) 0 (Nat.zero_le _) ?_ ?_ ?_
 ·simp
 ·simp
 intro q hq
 by_cases hlt : q < l.length
 ·simp [hlt]
  refine awp_draw [] (by kernel_rfl) (by kernel_rfl) ?_
  simp [hlt]
  exact ⟨q + 1,hlt,by omega,wrap_succ hlt⟩
 ·simp [hlt]
theorem samePlaceC (x : Pl) (S : ASt) : ADet Tryz.prog 71 [plV x,plV x] S (B true) S:=by
 refine ADet.intro mixed Tryz.call71 Tryz.func71 rfl ?_
 simp [Tryz.ntmps71]
 refine ⟨_,_,sameNamesC _ _,?_⟩
 simp
def SmeE (l : List Ex) : Prop:=∀ S,ADet Tryz.prog 72 [exsV l,exsV l,B true] S (B true) S
theorem sameExprC (e : Ex) (h : SmeE e.args) (S : ASt) : ADet Tryz.prog 50 [exV e,exV e,B true] S (B true) S:=by
 refine ADet.intro mixed Tryz.call50 Tryz.func50 rfl ?_
 simp [Tryz.ntmps50]
 refine ⟨_,_,samePlaceC _ _,?_⟩
 simp
 refine ⟨_,_,h _,?_⟩
 simp
theorem sameExprsC (l : List Ex) (ih : ∀ x ∈ l,SmeE x.args) : SmeE l:=by
 intro S
 refine ADet.okP Tryz.call72 0 rfl fun hok=>?_
 have hlen:=okl hok
 refine ADet.intro mixed Tryz.call72 Tryz.func72 rfl ?_
 simp [Tryz.ntmps72]
 refine awp_loop (fun q : Nat=>q ≤ l.length) (fun q=>([exsV l,exsV l,B true,.any,.any,.any,.any,I q] ++ List.replicate 22 .any)) (fun q=>[] :: S) (fun q=>l.length - q) 0 (Nat.zero_le _) ?_ ?_ ?_
 ·simp
 ·simp
 intro q hq
 by_cases hlt : q < l.length
 ·simp [hlt]
  refine awp_draw [] (by kernel_rfl) (by kernel_rfl) ?_
  simp [hlt,exEnc]
  refine ⟨_,_,sameExprC _ (ih _ (List.getElem_mem hlt)) _,?_⟩
  simp [hlt]
  exact ⟨q + 1,hlt,by omega,wrap_succ hlt⟩
 ·simp [hlt]
theorem smeE1 : ∀ (e : Ex),SmeE e.args:=Ex.ind fun e ih=>sameExprsC _ ih
theorem smeE (l : List Ex) : SmeE l:=sameExprsC l fun x _=>smeE1 x
theorem sameFieldsC (l : List Fi) (S : ASt) : ADet Tryz.prog 47 [fisV l,fisV l] S (B true) S:=by
 refine ADet.okP Tryz.call47 0 rfl fun hok=>?_
 have hlen:=okl hok
 refine ADet.intro mixed Tryz.call47 Tryz.func47 rfl ?_
 simp [Tryz.ntmps47]
 refine awp_loop (fun q : Nat=>q ≤ l.length) (fun q=>([fisV l,fisV l,.any,.any,.any,I q] ++ List.replicate 36 .any)) (fun q=>[] :: S) (fun q=>l.length - q) 0 (Nat.zero_le _) ?_ ?_ ?_
 ·simp
 ·simp
 intro q hq
 by_cases hlt : q < l.length
 ·generalize hx : l[q] = x
  simp [hlt]
  refine awp_draw [] (by kernel_rfl) (by kernel_rfl) ?_
  simp [hlt,hx,Fi.enc]
  refine ⟨_,_,sameTypeC _ _,?_⟩
  simp [hlt,hx]
  exact ⟨q + 1,hlt,by omega,wrap_succ hlt⟩
 ·simp [hlt]
def SmeS (l : List St) : Prop:=∀ S,ADet Tryz.prog 49 [stsV l,stsV l,B true] S (B true) S
theorem sameStmtsC (l : List St) (ih : ∀ s ∈ l,SmeS s.body ∧ SmeS s.els ∧ ∀ a ∈ s.arms,SmeS a.body) : SmeS l:=by
 intro S
 refine ADet.okP Tryz.call49 0 rfl fun hok=>?_
 have hlen:=okl hok
 refine ADet.intro mixed Tryz.call49 Tryz.func49 rfl ?_
 simp [Tryz.ntmps49]
 refine awp_loop (fun q : Nat=>q ≤ l.length) (fun q=>([stsV l,stsV l,B true,.any,.any,.any,.any,I q] ++ List.replicate 168 .any)) (fun q=>[] :: S) (fun q=>l.length - q) 0 (Nat.zero_le _) ?_ ?_ ?_
 ·simp
 ·simp
 intro q hq
 by_cases hlt : q < l.length
 ·have hs:=ih _ (List.getElem_mem hlt)
  have hsk:=st_ok hok (List.getElem_mem hlt)
  generalize hx : l[q] = s at hs hsk ⊢
  have hla:=okl hsk.2.2.2.2.2.2
  simp [hlt]
  refine awp_drawL [(8,10,8),(9,11,9)] [(7,10)] (by kernel_rfl) (by kernel_rfl) (by kernel_rfl) (by simp) ?_
  simp [hlt,hx,stEnc]
  refine ⟨_,_,sameNamesC _ _,?_⟩
  simp
  refine ⟨_,_,sameTypeC _ _,?_⟩
  simp
  refine ⟨_,_,samePlaceC _ _,?_⟩
  simp
  refine ⟨_,_,smeE _ _,?_⟩
  simp
  refine ⟨_,_,hs.1 _,?_⟩
  simp
  refine ⟨_,_,hs.2.1 _,?_⟩
  simp
  refine awp_loop (fun k : Nat=>k ≤ s.arms.length) (fun k=>([stsV l,stsV l,B true,.any,.any,.any,.any,I q,.ptr 0 0 0,.ptr 0 1 0,I k] ++ List.replicate 165 .any)) (fun k=>[.cells (stU s) 60,.cells (stU s) 60] :: S) (fun k=>s.arms.length - k) 0 (Nat.zero_le _) ?_ ?_ ?_
  ·simp
  ·simp
  intro k hk
  by_cases hkl : k < s.arms.length
  ·have hac:=hs.2.2 _ (List.getElem_mem hkl)
   generalize ha : s.arms[k] = a at hac ⊢
   simp [hkl]
   refine awp_draw [] (by kernel_rfl) (by kernel_rfl) ?_
   simp [hkl,ha,Ar.enc]
   refine ⟨_,_,hac _,?_⟩
   simp
   exact ⟨k + 1,hkl,by omega,wrap_succ hkl⟩
  ·simp [hkl]
   exact ⟨q + 1,hlt,by omega,wrap_succ hlt⟩
 ·simp [hlt]
theorem smeS3 : ∀ (s : St),SmeS s.body ∧ SmeS s.els ∧ ∀ a ∈ s.arms,SmeS a.body:=St.ind fun s ih1 ih2 ih3=>⟨sameStmtsC _ ih1,sameStmtsC _ ih2,fun a ha=>sameStmtsC _ (ih3 a ha)⟩
theorem smeS (l : List St) : SmeS l:=sameStmtsC l fun s _=>smeS3 s
theorem sameC (p : List It) (S : ASt) : ADet Tryz.prog 13 [.agg [.p (prog p)],.agg [.p (prog p)],B true] S (B true) S:=by
 refine ADet.okA Tryz.call13 0 0 rfl rfl fun hok=>?_
 have hlen:=okl hok
 refine ADet.intro mixed Tryz.call13 Tryz.func13 rfl ?_
 simp [Tryz.ntmps13,prog]
 refine awp_loop (fun q : Nat=>q ≤ p.length) (fun q=>([.any,.any,B true,.ptr 0 0 0,.ptr 0 1 0,.any,.any,I q] ++ List.replicate 82 .any)) (fun q=>[.cells [.p (prog p)] 24,.cells [.p (prog p)] 24] :: S) (fun q=>p.length - q) 0 (Nat.zero_le _) ?_ ?_ ?_
 ·simp
 ·simp [prog]
 intro q hq
 by_cases hlt : q < p.length
 ·generalize hx : p[q] = x
  simp [hlt,prog]
  refine awp_drawL [(10,12,8),(11,13,9)] [(6,12),(9,12)] (by kernel_rfl) (by kernel_rfl) (by kernel_rfl) (by simp) ?_
  simp [hlt,hx,It.enc,prog]
  refine ⟨_,_,sameFieldsC _ _,?_⟩
  simp
  refine ⟨_,_,sameTypeC _ _,?_⟩
  simp
  refine ⟨_,_,smeS _ _,?_⟩
  simp
  refine ⟨_,_,sameExprC _ (smeE1 _) _,?_⟩
  simp
  exact ⟨q + 1,hlt,by omega,wrap_succ hlt⟩
 ·simp [hlt,prog]
end Go.Proofs.YtfbpibkpmcceaaaGreatDoor
