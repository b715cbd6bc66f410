/- A part of the proof. The statement is proved in the claim's last text. -/
import Derived.Test.YtlclonljdagpkaaGreatDoorQNPz
set_option linter.unusedVariables false
set_option linter.unusedSimpArgs false
set_option maxRecDepth 100000
set_option maxHeartbeats 32000000
namespace Go.Proofs.YtlclonljdagpkaaGreatDoor
open Go.RowKit
attribute [local simp] List.replicate List.range List.range.loop resA zR retA
def BkOk (l : List Tok) (inner : Blk) : Prop:=∀ s b s',s.at_ <= l.length -> inner s = some (b,s') -> RdC 251 [] l s s' (.p (.sl 15 (b.map St.enc))) /\ s'.at_ <= l.length
theorem zEU {l : List Tok} {inner : Blk} (hin : BkOk l inner) {s : RS} {b : List St} {s' : RS} (hs : s.at_ <= l.length) (h : zE9 l inner s = some (b,s')) : RdC 248 [] l s s' (.p (.sl 15 (b.map St.enc))) /\ s'.at_ <= l.length:=by
 have hm1:=zH [(⟨#[123]⟩ : ByteArray)] _ hs
 obtain ⟨iC,hs'⟩:=hin _ _ _ hm1 h
 refine ⟨RdC.intro fun S d i hR=>?_,hs'⟩
 refine ADet.intro mixed Tryz.call248 Tryz.func248 rfl ?_;simp [Tryz.ntmps248];refine ⟨_,_,zAL _ hs hR _ _ _,?_⟩;simp;refine ⟨_,_,iC.at hR hm1 _,?_⟩;simp
theorem zWS {l : List Tok} {s s' : RS} {b : List St} (hs : s.at_ <= l.length) (iC : RdC 251 [] l s s' (.p (.sl 15 (b.map St.enc)))) : RdC 241 [] l s s' (.agg (stU (st0 13 emS emS [] b []))):=by
 refine RdC.less (r:=.agg [U 13,Sg emS,Sg emS,nilS,U 0,Sg emS,nilS,I 0,Sg emS,nilS,nilS,.p (.sl 15 (b.map St.enc)),nilS,nilS,I 0]) (by repeat' constructor) (RdC.intro fun S d i hR=>?_)
 refine ADet.intro mixed Tryz.call241 Tryz.func241 rfl ?_;simp [Tryz.ntmps241];refine ⟨_,_,iC.at hR hs _,?_⟩;simp [zv]
theorem zWT {l : List Tok} {s s' : RS} {b : List St} (hs : s.at_ <= l.length) (bC : RdC 248 [] l s s' (.p (.sl 15 (b.map St.enc)))) : RdC 237 [] l s s' (.agg (stU (st0 9 emS emS [] b []))):=by
 refine RdC.less (r:=.agg [U 9,Sg emS,Sg emS,nilS,U 0,Sg emS,nilS,I 0,Sg emS,nilS,nilS,.p (.sl 15 (b.map St.enc)),nilS,nilS,I 0]) (by repeat' constructor) (RdC.intro fun S d i hR=>?_)
 refine ADet.intro mixed Tryz.call237 Tryz.func237 rfl ?_;simp [Tryz.ntmps237];refine ⟨_,_,bC.at hR hs _,?_⟩;simp [zv]
theorem zWU {l : List Tok} {s s1 s' : RS} {e : Ex} {b : List St} (hs : s.at_ <= l.length) (eC : RdC 162 [] l s s1 (exV e)) (hs1 : s1.at_ <= l.length) (bC : RdC 248 [] l s1 s' (.p (.sl 15 (b.map St.enc)))) : RdC 235 [] l s s' (.agg (stU (st0 7 emS emS [e] b []))):=by
 refine RdC.less (r:=.agg [U 7,Sg emS,Sg emS,nilS,U 0,Sg emS,nilS,I 0,Sg emS,nilS,.p (.sl 8 ([e].map Ex.enc)),.p (.sl 15 (b.map St.enc)),nilS,nilS,I 0]) (by repeat' constructor) (RdC.intro fun S d i hR=>?_)
 refine ADet.intro mixed Tryz.call235 Tryz.func235 rfl ?_;simp [Tryz.ntmps235];refine ⟨_,_,eC.at hR hs _,?_⟩;simp;refine ⟨_,_,bC.at hR hs1 _,?_⟩;simp [zv]
theorem zTY {l : List Tok} {s s1 s' : RS} {e : Ex} {b : List St} (hs : s.at_ <= l.length) (eC : RdC 162 [] l s s1 (exV e)) (hs1 : s1.at_ <= l.length) (bC : RdC 248 [] l s1 s' (.p (.sl 15 (b.map St.enc)))) (hs' : s'.at_ <= l.length) (hi : isP l s' (⟨#[101,108,115,101]⟩ : ByteArray) 0 = false) : RdC 234 [] l s s' (.agg (stU (st0 6 emS emS [e] b []))):=by
 refine RdC.less (r:=.agg [U 6,Sg emS,Sg emS,nilS,U 0,Sg emS,nilS,I 0,Sg emS,nilS,.p (.sl 8 ([e].map Ex.enc)),.p (.sl 15 (b.map St.enc)),nilS,nilS,I 0]) (by repeat' constructor) (RdC.intro fun S d i hR=>?_)
 refine ADet.intro mixed Tryz.call234 Tryz.func234 rfl ?_;simp [Tryz.ntmps234];refine ⟨_,_,eC.at hR hs _,?_⟩;simp;refine ⟨_,_,bC.at hR hs1 _,?_⟩;simp;refine ⟨_,_,(mayW s' (⟨#[101,108,115,101]⟩ : ByteArray)).at hR hs' _,?_⟩;rw [hi,zBN hi];simp [zv]
theorem zTZ {l : List Tok} {s s1 s2 s' : RS} {e : Ex} {b c : List St} (hs : s.at_ <= l.length) (eC : RdC 162 [] l s s1 (exV e)) (hs1 : s1.at_ <= l.length) (bC : RdC 248 [] l s1 s2 (.p (.sl 15 (b.map St.enc)))) (hs2 : s2.at_ <= l.length) (hi : isP l s2 (⟨#[101,108,115,101]⟩ : ByteArray) 0 = true) (cC : RdC 248 [] l (mayP l s2 (⟨#[101,108,115,101]⟩ : ByteArray)) s' (.p (.sl 15 (c.map St.enc)))) : RdC 234 [] l s s' (.agg (stU (st0 6 emS emS [e] b c))):=by
 refine RdC.less (r:=.agg [U 6,Sg emS,Sg emS,nilS,U 0,Sg emS,nilS,I 0,Sg emS,nilS,.p (.sl 8 ([e].map Ex.enc)),.p (.sl 15 (b.map St.enc)),.p (.sl 15 (c.map St.enc)),nilS,I 0]) (by repeat' constructor) (RdC.intro fun S d i hR=>?_)
 refine ADet.intro mixed Tryz.call234 Tryz.func234 rfl ?_;simp [Tryz.ntmps234];refine ⟨_,_,eC.at hR hs _,?_⟩;simp;refine ⟨_,_,bC.at hR hs1 _,?_⟩;simp;refine ⟨_,_,(mayW s2 (⟨#[101,108,115,101]⟩ : ByteArray)).at hR hs2 _,?_⟩;rw [hi];simp;refine ⟨_,_,cC.at hR (za _ hs2) _,?_⟩;simp [zv]
theorem zYU {l : List Tok} {s s' : RS} (hs : s.at_ <= l.length) (e1 : zV l (zg l s 2) [(⟨#[59]⟩ : ByteArray)] = s') : RdC 233 [] l s s' (.agg (stU (st0 5 (zU l s 2) emS [] [] []))):=by
 subst e1;refine RdC.less (r:=.agg [U 5,Sg (zU l s 2),Sg emS,nilS,U 0,Sg emS,nilS,I 0,Sg emS,nilS,nilS,nilS,nilS,nilS,I 0]) (by repeat' constructor) (RdC.intro fun S d i hR=>?_)
 refine ADet.intro mixed Tryz.call233 Tryz.func233 rfl ?_;simp [Tryz.ntmps233];refine ⟨_,_,(zB6 s).at hR hs _,?_⟩;simp;refine ⟨_,_,zAL _ (zJ 2 hs) hR _ _ _,?_⟩;simp [zv]
theorem zYV {l : List Tok} {s s1 s2 s' : RS} {p : Pl} {b : List St} (hs : s.at_ <= l.length) (pC : RdC 213 [] l s s1 (plV p)) (hs1 : s1.at_ <= l.length) (e2 : zV l s1 [(⟨#[97,115]⟩ : ByteArray)] = s2) (bC : RdC 248 [] l (zg l s2 2) s' (.p (.sl 15 (b.map St.enc)))) : RdC 239 [] l s s' (.agg (stU (.mk 11 (zU l s2 2) emS [] zEN 0 p [] b [] [] 0))):=by
 have hm2 : s2.at_ <= l.length:=by rw [<- e2]; exact zH _ _ hs1
 refine RdC.less (r:=.agg [U 11,Sg (zU l s2 2),Sg emS,nilS,U 0,Sg emS,nilS,I 0,Sg p.name,.p (strs p.path),nilS,.p (.sl 15 (b.map St.enc)),nilS,nilS,I 0]) (by repeat' constructor) (RdC.intro fun S d i hR=>?_)
 refine ADet.intro mixed Tryz.call239 Tryz.func239 rfl ?_;simp [Tryz.ntmps239];refine ⟨_,_,pC.at hR hs _,?_⟩;simp;refine ⟨_,_,zAL _ hs1 hR _ _ _,?_⟩;rw [e2];simp;refine ⟨_,_,(zB6 _).at hR hm2 _,?_⟩;simp;refine ⟨_,_,bC.at hR (zJ 2 hm2) _,?_⟩;simp [zv]
end Go.Proofs.YtlclonljdagpkaaGreatDoor
namespace Go.Proofs.YtlclonljdagpkaaGreatDoor
open Go.RowKit
attribute [local simp] List.replicate List.range List.range.loop resA zR retA AV.cuts AV.cut AObj.cut trim wkR wkT wkL wkN wkNR wkNL wkM wkMR wkML zAi zAZ zY zAj zAb zQ rowA zf zT List.forall_mem_cons List.contains_cons List.contains_nil List.find? ze zd zS LCp LCl refL
theorem zMk {l : List Tok} : ∀ (s : RS) (x : ByteArray) (s' : RS),s.at_ <= l.length -> zQe l s = some (x,s') -> s'.at_ <= l.length:=fun s x s' hs h=>by
 unfold zQe at h; cases h; exact zJ 2 hs
theorem zYW {l : List Tok} : ∀ (s : RS) (x : ByteArray) (s' : RS),s.at_ <= l.length -> zQe l s = some (x,s') -> RdC 88 [] l s s' (Sg x):=fun s x s' hs h=>by
 unfold zQe at h; cases h; exact zB6 s
theorem zZo {l : List Tok} {s s1 s' : RS} {e : Ex} (hs : s.at_ <= l.length) (hb : s.bad = true) (lC : RdC 247 [] l (zV l (zg l s 2) [(⟨#[61]⟩ : ByteArray)]) s1 (exV e)) (hs1 : s1.at_ <= l.length) (e1 : zV l s1 [(⟨#[59]⟩ : ByteArray)] = s') : RdC 232 [] l s s' (.agg (stU (st0 1 (zU l s 2) emS [e] [] []))):=by
 subst e1
 have hm1:=zJ (s:=s) 2 hs
 have hm2:=zH [(⟨#[61]⟩ : ByteArray)] _ hm1
 refine RdC.less (r:=.agg [U 1,Sg (zU l s 2),Sg emS,nilS,U 0,Sg emS,nilS,I 0,Sg emS,nilS,.p (.sl 8 ([e].map Ex.enc)),nilS,nilS,nilS,I 0]) (by repeat' constructor) (RdC.intro fun S d i hR=>?_)
 have ho:=(hR.upd s hs).o
 refine ADet.intro mixed Tryz.call232 Tryz.func232 rfl ?_;simp [Tryz.ntmps232];refine zA [] (by kernel_rfl) (by kernel_rfl) ?_
 simp [ho,hb];refine ⟨_,_,(zB6 s).at hR hs _,?_⟩;simp;refine ⟨_,_,zAL _ hm1 hR _ _ _,?_⟩;simp;refine ⟨_,_,lC.at hR hm2 _,?_⟩;simp;refine ⟨_,_,zAL _ hs1 hR _ _ _,?_⟩;simp [zv]
theorem zZp {l : List Tok} {s s1 s' : RS} {e : Ex} (hs : s.at_ <= l.length) (hb : s.bad = false) (hlt : ¬ (s.at_ : Int) < (l.length : Int)) (lC : RdC 247 [] l (zV l (zg l s 2) [(⟨#[61]⟩ : ByteArray)]) s1 (exV e)) (hs1 : s1.at_ <= l.length) (e1 : zV l s1 [(⟨#[59]⟩ : ByteArray)] = s') : RdC 232 [] l s s' (.agg (stU (st0 1 (zU l s 2) emS [e] [] []))):=by
 subst e1
 have hm1:=zJ (s:=s) 2 hs
 have hm2:=zH [(⟨#[61]⟩ : ByteArray)] _ hm1
 refine RdC.less (r:=.agg [U 1,Sg (zU l s 2),Sg emS,nilS,U 0,Sg emS,nilS,I 0,Sg emS,nilS,.p (.sl 8 ([e].map Ex.enc)),nilS,nilS,nilS,I 0]) (by repeat' constructor) (RdC.intro fun S d i hR=>?_)
 have ho:=(hR.upd s hs).o
 refine ADet.intro mixed Tryz.call232 Tryz.func232 rfl ?_;simp [Tryz.ntmps232];refine zA [] (by kernel_rfl) (by kernel_rfl) ?_
 simp [ho,hb,hlt];refine ⟨_,_,(zB6 s).at hR hs _,?_⟩;simp;refine ⟨_,_,zAL _ hm1 hR _ _ _,?_⟩;simp;refine ⟨_,_,lC.at hR hm2 _,?_⟩;simp;refine ⟨_,_,zAL _ hs1 hR _ _ _,?_⟩;simp [zv]
theorem zZq {l : List Tok} {s s1 s' : RS} {e : Ex} (hs : s.at_ <= l.length) (hb : s.bad = false) (hlt : (s.at_ : Int) < (l.length : Int)) {x : Tok} (hx : l[s.at_]? = some x) (hk : ¬ x.kind = 3) (lC : RdC 247 [] l (zV l (zg l s 2) [(⟨#[61]⟩ : ByteArray)]) s1 (exV e)) (hs1 : s1.at_ <= l.length) (e1 : zV l s1 [(⟨#[59]⟩ : ByteArray)] = s') : RdC 232 [] l s s' (.agg (stU (st0 1 (zU l s 2) emS [e] [] []))):=by
 subst e1
 have hm1:=zJ (s:=s) 2 hs
 have hm2:=zH [(⟨#[61]⟩ : ByteArray)] _ hm1
 refine RdC.less (r:=.agg [U 1,Sg (zU l s 2),Sg emS,nilS,U 0,Sg emS,nilS,I 0,Sg emS,nilS,.p (.sl 8 ([e].map Ex.enc)),nilS,nilS,nilS,I 0]) (by repeat' constructor) (RdC.intro fun S d i hR=>?_)
 have ho:=(hR.upd s hs).o
 refine ADet.intro mixed Tryz.call232 Tryz.func232 rfl ?_;simp [Tryz.ntmps232];refine zA [] (by kernel_rfl) (by kernel_rfl) ?_
 simp [ho,hb,hlt,hx,hk,Tok.enc];refine ⟨_,_,(zB6 s).at hR hs _,?_⟩;simp;refine ⟨_,_,zAL _ hm1 hR _ _ _,?_⟩;simp;refine ⟨_,_,lC.at hR hm2 _,?_⟩;simp;refine ⟨_,_,zAL _ hs1 hR _ _ _,?_⟩;simp [zv]
theorem zZr {l : List Tok} {s s1 s2 s' : RS} {e : Ex} {ns : List ByteArray} (hs : s.at_ <= l.length) (hb : s.bad = false) (hlt : (s.at_ : Int) < (l.length : Int)) {x : Tok} (hx : l[s.at_]? = some x) (hk : x.kind = 3)
  (nC : RdF 246 (fun d i=>[Sg (⟨#[125]⟩ : ByteArray),.fn (.func 88) [.ptr d i 0] []]) l (zV l (zg l s 3) [(⟨#[123]⟩ : ByteArray)]) s1 (.p (.sl 1 (ns.map nmE)))) (hs1 : s1.at_ <= l.length) (eC : RdC 162 [] l (zV l s1 [(⟨#[61]⟩ : ByteArray)]) s2 (exV e)) (hs2 : s2.at_ <= l.length) (e1 : zV l s2 [(⟨#[59]⟩ : ByteArray)] = s') : RdC 232 [] l s s' (.agg (stU (.mk 2 (zU l s 3) emS ns zEN 0 zDU [e] [] [] [] 0))):=by
 subst e1
 have hm1:=zJ (s:=s) 3 hs
 have hm2:=zH [(⟨#[123]⟩ : ByteArray)] _ hm1
 have hm3:=zH [(⟨#[61]⟩ : ByteArray)] _ hs1
 refine RdC.less (r:=.agg [U 2,Sg (zU l s 3),Sg emS,.p (.sl 1 (ns.map nmE)),U 0,Sg emS,nilS,I 0,Sg emS,nilS,.p (.sl 8 ([e].map Ex.enc)),nilS,nilS,nilS,I 0]) (by repeat' constructor) (RdC.intro fun S d i hR=>?_)
 have ho:=(hR.upd s hs).o
 refine ADet.intro mixed Tryz.call232 Tryz.func232 rfl ?_;simp [Tryz.ntmps232];refine zA [] (by kernel_rfl) (by kernel_rfl) ?_
 simp [ho,hb,hlt,hx,hk,Tok.enc];refine ⟨_,_,(zCr s).at hR hs _,?_⟩;simp;refine ⟨_,_,zAL _ hm1 hR _ _ _,?_⟩;simp;refine ⟨_,_,nC.at hR hm2 _,?_⟩;simp;refine ⟨_,_,zAL _ hs1 hR _ _ _,?_⟩;simp;refine ⟨_,_,eC.at hR hm3 _,?_⟩;simp;refine ⟨_,_,zAL _ hs2 hR _ _ _,?_⟩;simp [zv]
theorem zWV {l : List Tok} {s s1 s' : RS} {hs' : List Hd} {b : List St} (hs : s.at_ <= l.length) (hl : hs'.length <= 1000000) (lC : RdF 249 (fun d i=>[Sg (⟨#[41]⟩ : ByteArray),.fn (.func 250) [.ptr d i 0] []]) l (zV l s [(⟨#[40]⟩ : ByteArray)]) s1 (.p (.sl 9 (hs'.map Hd.enc)))) (hs1 : s1.at_ <= l.length) (bC : RdC 248 [] l s1 s' (.p (.sl 15 (b.map St.enc)))) :
  RdC 238 [] l s s' (.agg (stU (.mk 10 emS emS (hs'.map (·.1)) zEN 0 zDU (hs'.map (·.2)) b [] [] 0))):=by
 have hm1:=zH [(⟨#[40]⟩ : ByteArray)] _ hs
 have hlen : hs'.length <= maxLen:=by unfold maxLen; omega
 refine RdC.less (r:=.agg [U 10,Sg emS,Sg emS,.p (strs (hs'.map (·.1))),U 0,Sg emS,nilS,I 0,Sg emS,nilS,.p (.sl 8 ((hs'.map (·.2)).map Ex.enc)),.p (.sl 15 (b.map St.enc)),nilS,nilS,I 0]) (by repeat' constructor) (RdC.intro fun S d i hR=>?_)
 refine ADet.intro mixed Tryz.call238 Tryz.func238 rfl ?_;simp [Tryz.ntmps238];refine ⟨_,_,zAL _ hs hR _ _ _,?_⟩;simp;refine ⟨_,_,lC.at hR hm1 _,?_⟩;simp
 refine zHr 9 1 (by decide) (([.ptr (d + 1) i 0,.any,.ptr 0 0 0,.ptr 0 1 0,.any,.any,.any,.any,.any,.any,.any,.any,.any,.p (.sl 9 (hs'.map Hd.enc)),I hs'.length,I 0] ++ List.replicate 22 .any)) [.cells [.any,.any,.any,.any,.any,.any,.any,.any,.any,.any,.any,.any,.any,.any,.any] 45,.cells [U 10,Sg emS,Sg emS,.osl 1 [] 0 3,U 0,Sg emS,nilS,I 0,Sg emS,nilS,nilS,nilS,nilS,nilS,I 0] 45,.tok 9 1 1]
  40 8 (by decide) [.cells [.any,.any,.any,.any,.any,.any,.any,.any,.any,.any,.any,.any,.any,.any,.any] 45,.cells [U 10,Sg emS,Sg emS,.osl 1 [] 0 3,U 0,Sg emS,nilS,I 0,Sg emS,nilS,.osl 8 [] 0 4,nilS,nilS,nilS,I 0] 45,.tok 9 1 1,.tok 9 1 0]
  (fun q : Nat=>q <= hs'.length) (fun q=>([.ptr (d + 1) i 0,.any,.ptr 0 0 0,.ptr 0 1 0,.any,.any,.any,.any,.any,.any,.any,.any,.any,.p (.sl 9 (hs'.map Hd.enc)),I hs'.length,I q] ++ List.replicate 22 .any))
  (fun q=>[.cells [.any,.any,.any,.any,.any,.any,.any,.any,.any,.any,.any,.any,.any,.any,.any] 45,.cells [U 10,Sg emS,Sg emS,.osl 1 (((hs'.take q).map (·.1)).map fun t=>[pS t]) 0 3,U 0,Sg emS,nilS,I 0,Sg emS,nilS,.osl 8 (((hs'.take q).map (·.2)).map Ex.enc) 0 4,nilS,nilS,nilS,I 0] 45,.tok 9 1 1,.tok 9 1 q,.tok 40 8 q] :: set2 S d i (rdO l s1)) (fun q=>hs'.length - q) 0 (Nat.zero_le _) ?_ ?_ ?_ ?_ ?_ ?_
 .simp
 .simp
 .simp
 .simp
 .rfl
 intro q hq
 by_cases hlt : q < hs'.length
 .have hlt' : (q : Int) < (hs'.length : Int):=by omega
  have hw:=zD hlt hlen
  have hmu : hs'.length - (q + 1) < hs'.length - q:=by omega
  have hle : q + 1 <= 4294967296:=by omega
  have ht:=List.take_succ_eq_append_getElem hlt
  generalize hg : hs'[q] = g at *
  simp [hlt,hlt',hg,zTR];refine zJl [4,10] [(7,5),(9,5),(10,5)] (by kernel_rfl) (by kernel_rfl) ?_
  have hmn : min q hs'.length = q:=Nat.min_eq_left hq
  have hA : ∀ {β : Type} (f : Hd -> β),List.take (q + 1) (List.map f hs') = List.take q (List.map f hs') ++ [f g]:=fun f=>by
   rw [List.take_succ_eq_append_getElem (by simpa using hlt),List.getElem_map,hg]
  simp [hle,hmn,show q <= 4294967295 by omega]
  exact ⟨q + 1,hlt,hmu,hw,⟨(hA _).symm,by rw [hA]; show _ = _ ++ [g.2.enc]; rw [zv]⟩,rfl⟩
 .have hlt' : ¬ (q : Int) < (hs'.length : Int):=by omega
  have hq2 : q = hs'.length:=by omega
  subst hq2;simp [hlt',strs];refine ⟨_,_,bC.at hR hs1 _,?_⟩;simp [strs]
theorem zWW {l : List Tok} {inner : Blk} (hin : BkOk l inner) {n : Nat} (hn : n <= 100000) {s s2 s1 : RS} {arms : List Ar} (hs : s.at_ <= l.length) (e2 : zV l (zg l s 2) [(⟨#[58]⟩ : ByteArray)] = s2) (h : zJC l inner n [] (zV l (zg l s2 3) [(⟨#[123]⟩ : ByteArray)]) = some (arms,s1)) (hs1 : s1.at_ <= l.length) :
  RdC 236 [] l s (fewP s1 arms.length) (.agg (stU (.mk 8 (zU l s 2) (zU l s2 3) [] zEN 0 zDU [] [] [] arms 0))):=by
 have hm1:=zJ (s:=s) 2 hs
 have hm2 : s2.at_ <= l.length:=by rw [<- e2]; exact zH _ _ hm1
 have hm3:=zJ (s:=s2) 3 hm2
 have hm4:=zH [(⟨#[123]⟩ : ByteArray)] _ hm3
 refine RdC.less (r:=.agg [U 8,Sg (zU l s 2),Sg (zU l s2 3),nilS,U 0,Sg emS,nilS,I 0,Sg emS,nilS,nilS,nilS,nilS,.p (.sl 3 (arms.map Ar.enc)),I 0]) (by repeat' constructor) (RdC.intro fun S d i hR=>?_)
 have mC:=fun L a b=>zAL (⟨#[58]⟩ : ByteArray) hm1 hR L a b
 rw [e2] at mC;refine ADet.intro mixed Tryz.call236 Tryz.func236 rfl ?_;simp [Tryz.ntmps236];refine ⟨_,_,(zB6 s).at hR hs _,?_⟩;simp;refine ⟨_,_,mC _ _ _,?_⟩;simp;refine ⟨_,_,(zCr s2).at hR hm2 _,?_⟩;simp;refine ⟨_,_,zAL _ hm3 hR _ _ _,?_⟩;simp;refine zAR 111 3 (by decide) [.cells [.any,.any,.any,.any,.any,.any,.any,.any,.any,.any,.any,.any,.any,.any,.any] 45,.cells [U 8,Sg (zU l s 2),Sg (zU l s2 3),nilS,U 0,Sg emS,nilS,I 0,Sg emS,nilS,nilS,nilS,nilS,.osl 3 [] 0 4,I 0] 45,.tok 9 1 1,.tok 9 1 1] (fun a : Nat × List Ar × RS=>zJC l inner a.1 a.2.1 a.2.2 = some (arms,s1) /\ a.2.1.length + a.1 <= n /\ a.2.2.at_ <= l.length) (fun a=>([.ptr (d + 1) i 0,.any,.ptr 0 0 0,.ptr 0 1 0] ++ List.replicate 52 .any)) (fun a=>[.cells [.any,.any,.any,.any,.any,.any,.any,.any,.any,.any,.any,.any,.any,.any,.any] 45,.cells [U 8,Sg (zU l s 2),Sg (zU l s2 3),nilS,U 0,Sg emS,nilS,I 0,Sg emS,nilS,nilS,nilS,nilS,.osl 3 (a.2.1.map Ar.enc) 0 4,I 0] 45,.tok 9 1 1,.tok 9 1 1,.tok 111 3 a.2.1.length] :: set2 S d i (rdO l a.2.2)) (fun a=>a.1) (n,[],_) ⟨h,by simp,hm4⟩ ?_ ?_ ?_ ?_
 .simp
 .simp
 .rfl
 clear h mC
 rintro ⟨k,acc,s4⟩ ⟨hl,hkn,hs4⟩
 simp only at hl hkn hs4
 cases k with
 | zero=>simp [zJC] at hl
 | succ k =>
 unfold zJC at hl
 have ho4:=(hR.upd s4 hs4).o
 have hap : acc.length + 1 <= 4294967296:=by omega
 cases hb : s4.bad with
 | true =>
  rw [hb,if_pos rfl] at hl;cases hl;simp [ho4,hb];refine ⟨_,_,(fewW s1 arms.length).at hR hs1 _,?_⟩
  simp
 | false =>
 rw [hb,if_neg (by simp)] at hl
 simp [ho4,hb];refine ⟨_,_,(mayW s4 (⟨#[125]⟩ : ByteArray)).at hR hs4 _,?_⟩
 have hm5:=za (s:=s4) (⟨#[125]⟩ : ByteArray) hs4
 cases hi : isP l s4 (⟨#[125]⟩ : ByteArray) 0 with
 | true =>
  rw [hi,if_pos rfl] at hl;cases hl;simp;refine ⟨_,_,(fewW _ arms.length).at hR hm5 _,?_⟩
  simp
 | false =>
 rw [hi,if_neg (by simp)] at hl
 rw [zBN hi];split at hl
 .cases hl
 rename_i a s5 ha
 unfold armQ at ha
 dsimp only at ha
 have hm6:=zJ (s:=s4) 3 hs4
 have hm7:=za (s:=zg l s4 3) (⟨#[40]⟩ : ByteArray) hm6
 simp;refine ⟨_,_,(zCr s4).at hR hs4 _,?_⟩;simp;refine ⟨_,_,(mayW _ (⟨#[40]⟩ : ByteArray)).at hR hm6 _,?_⟩
 cases hq : isP l (zg l s4 3) (⟨#[40]⟩ : ByteArray) 0 with
 | true =>
  rw [hq,if_pos rfl] at ha
  obtain ⟨⟨b,s6⟩,hbk,he⟩:=Option.map_eq_some_iff.1 ha
  cases he
  have hm8:=zJ (s:=mayP l (zg l s4 3) (⟨#[40]⟩ : ByteArray)) 2 hm7
  have hm9:=zH [(⟨#[41]⟩ : ByteArray)] _ hm8
  have hm10:=zH [(⟨#[61,62]⟩ : ByteArray)] _ hm9
  obtain ⟨bC,hs6⟩:=zEU hin hm10 hbk
  simp;refine ⟨_,_,(zB6 _).at hR hm7 _,?_⟩;simp;refine ⟨_,_,zAL _ hm8 hR _ _ _,?_⟩;simp;refine ⟨_,_,zAL _ hm9 hR _ _ _,?_⟩;simp;refine ⟨_,_,bC.at hR hm10 _,?_⟩;simp [hap]
  exact ⟨k,_,s6,⟨hl,by simp; omega,hs6⟩,by omega,⟨by simp [Ar.enc],by simp⟩,rfl⟩
 | false =>
  rw [hq,if_neg (by simp)] at ha
  obtain ⟨⟨b,s6⟩,hbk,he⟩:=Option.map_eq_some_iff.1 ha
  cases he
  have hm10:=zH [(⟨#[61,62]⟩ : ByteArray)] _ hm6
  obtain ⟨bC,hs6⟩:=zEU hin hm10 hbk
  rw [zBN hq];simp;refine ⟨_,_,zAL _ hm6 hR _ _ _,?_⟩;simp;refine ⟨_,_,bC.at hR hm10 _,?_⟩;simp [hap];exact ⟨k,_,s6,⟨hl,by simp; omega,hs6⟩,by omega,⟨by simp [Ar.enc],by simp⟩,rfl⟩
end Go.Proofs.YtlclonljdagpkaaGreatDoor
