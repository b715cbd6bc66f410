/- A part of the proof. The statement is proved in the claim's last text. -/
import Derived.Test.YtfiohepfohhibaaDoorPNPz
set_option linter.unusedVariables false
set_option linter.unusedSimpArgs false
set_option maxRecDepth 100000
set_option maxHeartbeats 32000000
namespace Go.Proofs.YtfiohepfohhibaaDoor
open Go.RowKit
attribute [local simp] List.replicate List.range List.range.loop resA resOne retA
def BkOk (l : List Tok) (inner : Blk) : Prop:=∀ s b s',s.at_ ≤ l.length → inner s = some (b,s') → RdC 87 [] l s s' (.p (.sl 15 (b.map St.enc))) ∧ s'.at_ ≤ l.length
theorem blockW {l : List Tok} {inner : Blk} (hin : BkOk l inner) {s : RS} {b : List St} {s' : RS} (hs : s.at_ ≤ l.length) (h : blockQ l inner s = some (b,s')) : RdC 84 [] l s s' (.p (.sl 15 (b.map St.enc))) ∧ s'.at_ ≤ l.length:=by
 have hm1:=mustP_le [(⟨#[123]⟩ : ByteArray)] _ hs
 obtain ⟨iC,hs'⟩:=hin _ _ _ hm1 h
 refine ⟨RdC.intro fun S d i hR=>?_,hs'⟩
 refine ADet.intro mixed Tryd.call84 Tryd.func84 rfl ?_
 simp [Tryd.ntmps84]
 refine ⟨_,_,mustP1 _ hs hR _ _ _,?_⟩
 simp
 refine ⟨_,_,iC.at hR hm1 _,?_⟩
 simp
theorem plain_1 {l : List Tok} {s s' : RS} {b : List St} (hs : s.at_ ≤ l.length) (iC : RdC 87 [] l s s' (.p (.sl 15 (b.map St.enc)))) : RdC 76 [] l s s' (.agg (stU (st0 13 emS emS [] b []))):=by
 refine RdC.less (r:=.agg [U 13,Sg emS,Sg emS,nilS,U 0,Sg emS,nilS,I 0,Sg emS,nilS,nilS,.p (.sl 15 (b.map St.enc)),nilS,nilS,I 0]) (by repeat' constructor) (RdC.intro fun S d i hR=>?_)
 refine ADet.intro mixed Tryd.call76 Tryd.func76 rfl ?_
 simp [Tryd.ntmps76]
 refine ⟨_,_,iC.at hR hs _,?_⟩
 simp [exEnc]
theorem scope_1 {l : List Tok} {s s' : RS} {b : List St} (hs : s.at_ ≤ l.length) (bC : RdC 84 [] l s s' (.p (.sl 15 (b.map St.enc)))) : RdC 72 [] l s s' (.agg (stU (st0 9 emS emS [] b []))):=by
 refine RdC.less (r:=.agg [U 9,Sg emS,Sg emS,nilS,U 0,Sg emS,nilS,I 0,Sg emS,nilS,nilS,.p (.sl 15 (b.map St.enc)),nilS,nilS,I 0]) (by repeat' constructor) (RdC.intro fun S d i hR=>?_)
 refine ADet.intro mixed Tryd.call72 Tryd.func72 rfl ?_
 simp [Tryd.ntmps72]
 refine ⟨_,_,bC.at hR hs _,?_⟩
 simp [exEnc]
theorem while_1 {l : List Tok} {s s1 s' : RS} {e : Ex} {b : List St} (hs : s.at_ ≤ l.length) (eC : RdC 47 [] l s s1 (exV e)) (hs1 : s1.at_ ≤ l.length) (bC : RdC 84 [] l s1 s' (.p (.sl 15 (b.map St.enc)))) : RdC 70 [] l s s' (.agg (stU (st0 7 emS emS [e] b []))):=by
 refine RdC.less (r:=.agg [U 7,Sg emS,Sg emS,nilS,U 0,Sg emS,nilS,I 0,Sg emS,nilS,.p (.sl 8 ([e].map Ex.enc)),.p (.sl 15 (b.map St.enc)),nilS,nilS,I 0]) (by repeat' constructor) (RdC.intro fun S d i hR=>?_)
 refine ADet.intro mixed Tryd.call70 Tryd.func70 rfl ?_
 simp [Tryd.ntmps70]
 refine ⟨_,_,eC.at hR hs _,?_⟩
 simp
 refine ⟨_,_,bC.at hR hs1 _,?_⟩
 simp [exEnc]
theorem branch_1 {l : List Tok} {s s1 s' : RS} {e : Ex} {b : List St} (hs : s.at_ ≤ l.length) (eC : RdC 47 [] l s s1 (exV e)) (hs1 : s1.at_ ≤ l.length) (bC : RdC 84 [] l s1 s' (.p (.sl 15 (b.map St.enc)))) (hs' : s'.at_ ≤ l.length) (hi : isP l s' (⟨#[101,108,115,101]⟩ : ByteArray) 0 = false) : RdC 69 [] l s s' (.agg (stU (st0 6 emS emS [e] b []))):=by
 refine RdC.less (r:=.agg [U 6,Sg emS,Sg emS,nilS,U 0,Sg emS,nilS,I 0,Sg emS,nilS,.p (.sl 8 ([e].map Ex.enc)),.p (.sl 15 (b.map St.enc)),nilS,nilS,I 0]) (by repeat' constructor) (RdC.intro fun S d i hR=>?_)
 refine ADet.intro mixed Tryd.call69 Tryd.func69 rfl ?_
 simp [Tryd.ntmps69]
 refine ⟨_,_,eC.at hR hs _,?_⟩
 simp
 refine ⟨_,_,bC.at hR hs1 _,?_⟩
 simp
 refine ⟨_,_,(mayW s' (⟨#[101,108,115,101]⟩ : ByteArray)).at hR hs' _,?_⟩
 rw [hi,mayP_no hi]
 simp [exEnc]
theorem branch_2 {l : List Tok} {s s1 s2 s' : RS} {e : Ex} {b c : List St} (hs : s.at_ ≤ l.length) (eC : RdC 47 [] l s s1 (exV e)) (hs1 : s1.at_ ≤ l.length) (bC : RdC 84 [] l s1 s2 (.p (.sl 15 (b.map St.enc)))) (hs2 : s2.at_ ≤ l.length) (hi : isP l s2 (⟨#[101,108,115,101]⟩ : ByteArray) 0 = true) (cC : RdC 84 [] l (mayP l s2 (⟨#[101,108,115,101]⟩ : ByteArray)) s' (.p (.sl 15 (c.map St.enc)))) : RdC 69 [] l s s' (.agg (stU (st0 6 emS emS [e] b c))):=by
 refine RdC.less (r:=.agg [U 6,Sg emS,Sg emS,nilS,U 0,Sg emS,nilS,I 0,Sg emS,nilS,.p (.sl 8 ([e].map Ex.enc)),.p (.sl 15 (b.map St.enc)),.p (.sl 15 (c.map St.enc)),nilS,I 0]) (by repeat' constructor) (RdC.intro fun S d i hR=>?_)
 refine ADet.intro mixed Tryd.call69 Tryd.func69 rfl ?_
 simp [Tryd.ntmps69]
 refine ⟨_,_,eC.at hR hs _,?_⟩
 simp
 refine ⟨_,_,bC.at hR hs1 _,?_⟩
 simp
 refine ⟨_,_,(mayW s2 (⟨#[101,108,115,101]⟩ : ByteArray)).at hR hs2 _,?_⟩
 rw [hi]
 simp
 refine ⟨_,_,cC.at hR (mayP_le _ hs2) _,?_⟩
 simp [exEnc]
theorem drop_1 {l : List Tok} {s s' : RS} (hs : s.at_ ≤ l.length) (e1 : mustP l (takeP l s 2) [(⟨#[59]⟩ : ByteArray)] = s') : RdC 68 [] l s s' (.agg (stU (st0 5 (takeT l s 2) emS [] [] []))):=by
 subst e1
 refine RdC.less (r:=.agg [U 5,Sg (takeT l s 2),Sg emS,nilS,U 0,Sg emS,nilS,I 0,Sg emS,nilS,nilS,nilS,nilS,nilS,I 0]) (by repeat' constructor) (RdC.intro fun S d i hR=>?_)
 refine ADet.intro mixed Tryd.call68 Tryd.func68 rfl ?_
 simp [Tryd.ntmps68]
 refine ⟨_,_,(nameRW s).at hR hs _,?_⟩
 simp
 refine ⟨_,_,mustP1 _ (takeP_le 2 hs) hR _ _ _,?_⟩
 simp [exEnc]
theorem lock_1 {l : List Tok} {s s1 s2 s' : RS} {p : Pl} {b : List St} (hs : s.at_ ≤ l.length) (pC : RdC 60 [] l s s1 (plV p)) (hs1 : s1.at_ ≤ l.length) (e2 : mustP l s1 [(⟨#[97,115]⟩ : ByteArray)] = s2) (bC : RdC 84 [] l (takeP l s2 2) s' (.p (.sl 15 (b.map St.enc)))) : RdC 74 [] l s s' (.agg (stU (.mk 11 (takeT l s2 2) emS [] zeroT 0 p [] b [] [] 0))):=by
 have hm2 : s2.at_ ≤ l.length:=by rw [← e2]; exact mustP_le _ _ hs1
 refine RdC.less (r:=.agg [U 11,Sg (takeT l s2 2),Sg emS,nilS,U 0,Sg emS,nilS,I 0,Sg p.name,.p (strs p.path),nilS,.p (.sl 15 (b.map St.enc)),nilS,nilS,I 0]) (by repeat' constructor) (RdC.intro fun S d i hR=>?_)
 refine ADet.intro mixed Tryd.call74 Tryd.func74 rfl ?_
 simp [Tryd.ntmps74]
 refine ⟨_,_,pC.at hR hs _,?_⟩
 simp
 refine ⟨_,_,mustP1 _ hs1 hR _ _ _,?_⟩
 rw [e2]
 simp
 refine ⟨_,_,(nameRW _).at hR hm2 _,?_⟩
 simp
 refine ⟨_,_,bC.at hR (takeP_le 2 hm2) _,?_⟩
 simp [exEnc]
end Go.Proofs.YtfiohepfohhibaaDoor
namespace Go.Proofs.YtfiohepfohhibaaDoor
open Go.RowKit
attribute [local simp] List.replicate List.range List.range.loop resA resOne retA AV.cuts AV.cut AObj.cut trim wkR wkT wkL wkN wkNR wkNL wkM wkMR wkML virtL virtO virt_get markL markO markR_get rowA awpI_nil awpI_cons List.forall_mem_cons List.contains_cons List.contains_nil List.find? nextD_eq awpD_nil awpD_cons LCp LCl refL
theorem mustP2 {l : List Tok} {s : RS} (t u : ByteArray) (hs : s.at_ ≤ l.length) {S : ASt} {d i : Nat} {s0 : RS} (hR : RAt S d i l s0) (L : List AObj) (a b : Nat) :
  ADet Tryd.prog 19 [.ptr (d + 1) i 0,.osl 1 [[pS t],[pS u]] a b] (L :: set2 S d i (rdO l s)) .un (L :: set2 S d i (rdO l (mustP l s [t,u]))) :=
 ADet.sub (.cons (.refl _) (.cons (.osl (.refl _)) (.refl _))) ((mustW s [t,u] (by simp) hs).at hR hs L)
theorem nameQ_le {l : List Tok} : ∀ (s : RS) (x : ByteArray) (s' : RS),s.at_ ≤ l.length → nameQ l s = some (x,s') → s'.at_ ≤ l.length:=fun s x s' hs h=>by
 unfold nameQ at h; cases h; exact takeP_le 2 hs
theorem nameQW {l : List Tok} : ∀ (s : RS) (x : ByteArray) (s' : RS),s.at_ ≤ l.length → nameQ l s = some (x,s') → RdC 23 [] l s s' (Sg x):=fun s x s' hs h=>by
 unfold nameQ at h; cases h; exact nameRW s
theorem let_1 {l : List Tok} {s s1 s' : RS} {e : Ex} (hs : s.at_ ≤ l.length) (hb : s.bad = true) (lC : RdC 83 [] l (mustP l (takeP l s 2) [(⟨#[61]⟩ : ByteArray)]) s1 (exV e)) (hs1 : s1.at_ ≤ l.length) (e1 : mustP l s1 [(⟨#[59]⟩ : ByteArray)] = s') : RdC 67 [] l s s' (.agg (stU (st0 1 (takeT l s 2) emS [e] [] []))):=by
 subst e1
 have hm1:=takeP_le (s:=s) 2 hs
 have hm2:=mustP_le [(⟨#[61]⟩ : ByteArray)] _ hm1
 refine RdC.less (r:=.agg [U 1,Sg (takeT l s 2),Sg emS,nilS,U 0,Sg emS,nilS,I 0,Sg emS,nilS,.p (.sl 8 ([e].map Ex.enc)),nilS,nilS,nilS,I 0]) (by repeat' constructor) (RdC.intro fun S d i hR=>?_)
 have ho:=(hR.upd s hs).o
 refine ADet.intro mixed Tryd.call67 Tryd.func67 rfl ?_
 simp [Tryd.ntmps67]
 refine awp_draw [] (by kernel_rfl) (by kernel_rfl) ?_
 simp [ho,hb]
 refine ⟨_,_,(nameRW s).at hR hs _,?_⟩
 simp
 refine ⟨_,_,mustP1 _ hm1 hR _ _ _,?_⟩
 simp
 refine ⟨_,_,lC.at hR hm2 _,?_⟩
 simp
 refine ⟨_,_,mustP1 _ hs1 hR _ _ _,?_⟩
 simp [exEnc]
theorem let_2 {l : List Tok} {s s1 s' : RS} {e : Ex} (hs : s.at_ ≤ l.length) (hb : s.bad = false) (hlt : ¬ (s.at_ : Int) < (l.length : Int)) (lC : RdC 83 [] l (mustP l (takeP l s 2) [(⟨#[61]⟩ : ByteArray)]) s1 (exV e)) (hs1 : s1.at_ ≤ l.length) (e1 : mustP l s1 [(⟨#[59]⟩ : ByteArray)] = s') : RdC 67 [] l s s' (.agg (stU (st0 1 (takeT l s 2) emS [e] [] []))):=by
 subst e1
 have hm1:=takeP_le (s:=s) 2 hs
 have hm2:=mustP_le [(⟨#[61]⟩ : ByteArray)] _ hm1
 refine RdC.less (r:=.agg [U 1,Sg (takeT l s 2),Sg emS,nilS,U 0,Sg emS,nilS,I 0,Sg emS,nilS,.p (.sl 8 ([e].map Ex.enc)),nilS,nilS,nilS,I 0]) (by repeat' constructor) (RdC.intro fun S d i hR=>?_)
 have ho:=(hR.upd s hs).o
 refine ADet.intro mixed Tryd.call67 Tryd.func67 rfl ?_
 simp [Tryd.ntmps67]
 refine awp_draw [] (by kernel_rfl) (by kernel_rfl) ?_
 simp [ho,hb,hlt]
 refine ⟨_,_,(nameRW s).at hR hs _,?_⟩
 simp
 refine ⟨_,_,mustP1 _ hm1 hR _ _ _,?_⟩
 simp
 refine ⟨_,_,lC.at hR hm2 _,?_⟩
 simp
 refine ⟨_,_,mustP1 _ hs1 hR _ _ _,?_⟩
 simp [exEnc]
theorem let_3 {l : List Tok} {s s1 s' : RS} {e : Ex} (hs : s.at_ ≤ l.length) (hb : s.bad = false) (hlt : (s.at_ : Int) < (l.length : Int)) {x : Tok} (hx : l[s.at_]? = some x) (hk : ¬ x.kind = 3) (lC : RdC 83 [] l (mustP l (takeP l s 2) [(⟨#[61]⟩ : ByteArray)]) s1 (exV e)) (hs1 : s1.at_ ≤ l.length) (e1 : mustP l s1 [(⟨#[59]⟩ : ByteArray)] = s') : RdC 67 [] l s s' (.agg (stU (st0 1 (takeT l s 2) emS [e] [] []))):=by
 subst e1
 have hm1:=takeP_le (s:=s) 2 hs
 have hm2:=mustP_le [(⟨#[61]⟩ : ByteArray)] _ hm1
 refine RdC.less (r:=.agg [U 1,Sg (takeT l s 2),Sg emS,nilS,U 0,Sg emS,nilS,I 0,Sg emS,nilS,.p (.sl 8 ([e].map Ex.enc)),nilS,nilS,nilS,I 0]) (by repeat' constructor) (RdC.intro fun S d i hR=>?_)
 have ho:=(hR.upd s hs).o
 refine ADet.intro mixed Tryd.call67 Tryd.func67 rfl ?_
 simp [Tryd.ntmps67]
 refine awp_draw [] (by kernel_rfl) (by kernel_rfl) ?_
 simp [ho,hb,hlt,hx,hk,Tok.enc]
 refine ⟨_,_,(nameRW s).at hR hs _,?_⟩
 simp
 refine ⟨_,_,mustP1 _ hm1 hR _ _ _,?_⟩
 simp
 refine ⟨_,_,lC.at hR hm2 _,?_⟩
 simp
 refine ⟨_,_,mustP1 _ hs1 hR _ _ _,?_⟩
 simp [exEnc]
theorem let_4 {l : List Tok} {s s1 s2 s' : RS} {e : Ex} {ns : List ByteArray} (hs : s.at_ ≤ l.length) (hb : s.bad = false) (hlt : (s.at_ : Int) < (l.length : Int)) {x : Tok} (hx : l[s.at_]? = some x) (hk : x.kind = 3)
  (nC : RdF 82 (fun d i=>[Sg (⟨#[125]⟩ : ByteArray),.fn (.func 23) [.ptr d i 0] []]) l (mustP l (takeP l s 3) [(⟨#[123]⟩ : ByteArray)]) s1 (.p (.sl 1 (ns.map nmE)))) (hs1 : s1.at_ ≤ l.length) (eC : RdC 47 [] l (mustP l s1 [(⟨#[61]⟩ : ByteArray)]) s2 (exV e)) (hs2 : s2.at_ ≤ l.length) (e1 : mustP l s2 [(⟨#[59]⟩ : ByteArray)] = s') : RdC 67 [] l s s' (.agg (stU (.mk 2 (takeT l s 3) emS ns zeroT 0 zeroPl [e] [] [] [] 0))):=by
 subst e1
 have hm1:=takeP_le (s:=s) 3 hs
 have hm2:=mustP_le [(⟨#[123]⟩ : ByteArray)] _ hm1
 have hm3:=mustP_le [(⟨#[61]⟩ : ByteArray)] _ hs1
 refine RdC.less (r:=.agg [U 2,Sg (takeT l s 3),Sg emS,.p (.sl 1 (ns.map nmE)),U 0,Sg emS,nilS,I 0,Sg emS,nilS,.p (.sl 8 ([e].map Ex.enc)),nilS,nilS,nilS,I 0]) (by repeat' constructor) (RdC.intro fun S d i hR=>?_)
 have ho:=(hR.upd s hs).o
 refine ADet.intro mixed Tryd.call67 Tryd.func67 rfl ?_
 simp [Tryd.ntmps67]
 refine awp_draw [] (by kernel_rfl) (by kernel_rfl) ?_
 simp [ho,hb,hlt,hx,hk,Tok.enc]
 refine ⟨_,_,(namedW s).at hR hs _,?_⟩
 simp
 refine ⟨_,_,mustP1 _ hm1 hR _ _ _,?_⟩
 simp
 refine ⟨_,_,nC.at hR hm2 _,?_⟩
 simp
 refine ⟨_,_,mustP1 _ hs1 hR _ _ _,?_⟩
 simp
 refine ⟨_,_,eC.at hR hm3 _,?_⟩
 simp
 refine ⟨_,_,mustP1 _ hs2 hR _ _ _,?_⟩
 simp [exEnc]
theorem spawn_1 {l : List Tok} {s s1 s' : RS} {hs' : List Hd} {b : List St} (hs : s.at_ ≤ l.length) (hl : hs'.length ≤ 1000000) (lC : RdF 85 (fun d i=>[Sg (⟨#[41]⟩ : ByteArray),.fn (.func 86) [.ptr d i 0] []]) l (mustP l s [(⟨#[40]⟩ : ByteArray)]) s1 (.p (.sl 9 (hs'.map Hd.enc)))) (hs1 : s1.at_ ≤ l.length) (bC : RdC 84 [] l s1 s' (.p (.sl 15 (b.map St.enc)))) :
  RdC 73 [] l s s' (.agg (stU (.mk 10 emS emS (hs'.map (·.1)) zeroT 0 zeroPl (hs'.map (·.2)) b [] [] 0))):=by
 have hm1:=mustP_le [(⟨#[40]⟩ : ByteArray)] _ hs
 have hlen : hs'.length ≤ maxLen:=by unfold maxLen; omega
 refine RdC.less (r:=.agg [U 10,Sg emS,Sg emS,.p (strs (hs'.map (·.1))),U 0,Sg emS,nilS,I 0,Sg emS,nilS,.p (.sl 8 ((hs'.map (·.2)).map Ex.enc)),.p (.sl 15 (b.map St.enc)),nilS,nilS,I 0]) (by repeat' constructor) (RdC.intro fun S d i hR=>?_)
 refine ADet.intro mixed Tryd.call73 Tryd.func73 rfl ?_
 simp [Tryd.ntmps73]
 refine ⟨_,_,mustP1 _ hs hR _ _ _,?_⟩
 simp
 refine ⟨_,_,lC.at hR hm1 _,?_⟩
 simp
 refine awp_loopG2 9 1 (by decide) (([.ptr (d + 1) i 0,.any,.ptr 0 0 0,.ptr 0 1 0,.any,.any,.any,.any,.any,.any,.any,.any,.any,.p (.sl 9 (hs'.map Hd.enc)),I hs'.length,I 0] ++ List.replicate 22 .any)) [.cells [.any,.any,.any,.any,.any,.any,.any,.any,.any,.any,.any,.any,.any,.any,.any] 65,.cells [U 10,Sg emS,Sg emS,.osl 1 [] 0 3,U 0,Sg emS,nilS,I 0,Sg emS,nilS,nilS,nilS,nilS,nilS,I 0] 65,.tok 9 1 1]
  46 8 (by decide) [.cells [.any,.any,.any,.any,.any,.any,.any,.any,.any,.any,.any,.any,.any,.any,.any] 65,.cells [U 10,Sg emS,Sg emS,.osl 1 [] 0 3,U 0,Sg emS,nilS,I 0,Sg emS,nilS,.osl 8 [] 0 4,nilS,nilS,nilS,I 0] 65,.tok 9 1 1,.tok 9 1 0]
  (fun q : Nat=>q ≤ hs'.length) (fun q=>([.ptr (d + 1) i 0,.any,.ptr 0 0 0,.ptr 0 1 0,.any,.any,.any,.any,.any,.any,.any,.any,.any,.p (.sl 9 (hs'.map Hd.enc)),I hs'.length,I q] ++ List.replicate 22 .any))
  (fun q=>[.cells [.any,.any,.any,.any,.any,.any,.any,.any,.any,.any,.any,.any,.any,.any,.any] 65,.cells [U 10,Sg emS,Sg emS,.osl 1 (((hs'.take q).map (·.1)).map fun t=>[pS t]) 0 3,U 0,Sg emS,nilS,I 0,Sg emS,nilS,.osl 8 (((hs'.take q).map (·.2)).map Ex.enc) 0 4,nilS,nilS,nilS,I 0] 65,.tok 9 1 1,.tok 9 1 q,.tok 46 8 q] :: set2 S d i (rdO l s1)) (fun q=>hs'.length - q) 0 (Nat.zero_le _) ?_ ?_ ?_ ?_ ?_ ?_
 ·simp
 ·simp
 ·simp
 ·simp
 ·rfl
 intro q hq
 by_cases hlt : q < hs'.length
 ·have hlt' : (q : Int) < (hs'.length : Int):=by omega
  have hw:=wrap_succ hlt hlen
  have hmu : hs'.length - (q + 1) < hs'.length - q:=by omega
  have hle : q + 1 ≤ 4294967296:=by omega
  have ht:=List.take_succ_eq_append_getElem hlt
  generalize hg : hs'[q] = g at *
  simp [hlt,hlt',hg,hdEnc]
  refine awp_drawR [4,10] [(7,5),(9,5),(10,5)] (by kernel_rfl) (by kernel_rfl) ?_
  have hmn : min q hs'.length = q:=Nat.min_eq_left hq
  have hA : ∀ {β : Type} (f : Hd → β),List.take (q + 1) (List.map f hs') = List.take q (List.map f hs') ++ [f g]:=fun f=>by
   rw [List.take_succ_eq_append_getElem (by simpa using hlt),List.getElem_map,hg]
  simp [hle,hmn,show q ≤ 4294967295 by omega]
  exact ⟨q + 1,hlt,hmu,hw,⟨(hA _).symm,by rw [hA]; show _ = _ ++ [g.2.enc]; rw [exEnc]⟩,rfl⟩
 ·have hlt' : ¬ (q : Int) < (hs'.length : Int):=by omega
  have hq2 : q = hs'.length:=by omega
  subst hq2
  simp [hlt',strs]
  refine ⟨_,_,bC.at hR hs1 _,?_⟩
  simp [strs]
theorem match_1 {l : List Tok} {inner : Blk} (hin : BkOk l inner) {n : Nat} (hn : n ≤ 100000) {s s2 s1 : RS} {arms : List Ar} (hs : s.at_ ≤ l.length) (e2 : mustP l (takeP l s 2) [(⟨#[58]⟩ : ByteArray)] = s2) (h : armsQ l inner n [] (mustP l (takeP l s2 3) [(⟨#[123]⟩ : ByteArray)]) = some (arms,s1)) (hs1 : s1.at_ ≤ l.length) :
  RdC 71 [] l s (fewP s1 arms.length) (.agg (stU (.mk 8 (takeT l s 2) (takeT l s2 3) [] zeroT 0 zeroPl [] [] [] arms 0))):=by
 have hm1:=takeP_le (s:=s) 2 hs
 have hm2 : s2.at_ ≤ l.length:=by rw [← e2]; exact mustP_le _ _ hm1
 have hm3:=takeP_le (s:=s2) 3 hm2
 have hm4:=mustP_le [(⟨#[123]⟩ : ByteArray)] _ hm3
 refine RdC.less (r:=.agg [U 8,Sg (takeT l s 2),Sg (takeT l s2 3),nilS,U 0,Sg emS,nilS,I 0,Sg emS,nilS,nilS,nilS,nilS,.p (.sl 3 (arms.map Ar.enc)),I 0]) (by repeat' constructor) (RdC.intro fun S d i hR=>?_)
 have mC:=fun L a b=>mustP1 (⟨#[58]⟩ : ByteArray) hm1 hR L a b
 rw [e2] at mC
 refine ADet.intro mixed Tryd.call71 Tryd.func71 rfl ?_
 simp [Tryd.ntmps71]
 refine ⟨_,_,(nameRW s).at hR hs _,?_⟩
 simp
 refine ⟨_,_,mC _ _ _,?_⟩
 simp
 refine ⟨_,_,(namedW s2).at hR hm2 _,?_⟩
 simp
 refine ⟨_,_,mustP1 _ hm3 hR _ _ _,?_⟩
 simp
 refine awp_loopG 67 3 (by decide) [.cells [.any,.any,.any,.any,.any,.any,.any,.any,.any,.any,.any,.any,.any,.any,.any] 65,.cells [U 8,Sg (takeT l s 2),Sg (takeT l s2 3),nilS,U 0,Sg emS,nilS,I 0,Sg emS,nilS,nilS,nilS,nilS,.osl 3 [] 0 4,I 0] 65,.tok 9 1 1,.tok 9 1 1] (fun a : Nat × List Ar × RS=>armsQ l inner a.1 a.2.1 a.2.2 = some (arms,s1) ∧ a.2.1.length + a.1 ≤ n ∧ a.2.2.at_ ≤ l.length) (fun a=>([.ptr (d + 1) i 0,.any,.ptr 0 0 0,.ptr 0 1 0] ++ List.replicate 52 .any)) (fun a=>[.cells [.any,.any,.any,.any,.any,.any,.any,.any,.any,.any,.any,.any,.any,.any,.any] 65,.cells [U 8,Sg (takeT l s 2),Sg (takeT l s2 3),nilS,U 0,Sg emS,nilS,I 0,Sg emS,nilS,nilS,nilS,nilS,.osl 3 (a.2.1.map Ar.enc) 0 4,I 0] 65,.tok 9 1 1,.tok 9 1 1,.tok 67 3 a.2.1.length] :: set2 S d i (rdO l a.2.2)) (fun a=>a.1) (n,[],_) ⟨h,by simp,hm4⟩ ?_ ?_ ?_ ?_
 ·simp
 ·simp
 ·rfl
 clear h mC
 rintro ⟨k,acc,s4⟩ ⟨hl,hkn,hs4⟩
 simp only at hl hkn hs4
 cases k with
 | zero=>simp [armsQ] at hl
 | succ k =>
 unfold armsQ at hl
 have ho4:=(hR.upd s4 hs4).o
 have hap : acc.length + 1 ≤ 4294967296:=by omega
 cases hb : s4.bad with
 | true =>
  rw [hb,if_pos rfl] at hl
  cases hl
  simp [ho4,hb]
  refine ⟨_,_,(fewW s1 arms.length).at hR hs1 _,?_⟩
  simp
 | false =>
 rw [hb,if_neg (by simp)] at hl
 simp [ho4,hb]
 refine ⟨_,_,(mayW s4 (⟨#[125]⟩ : ByteArray)).at hR hs4 _,?_⟩
 have hm5:=mayP_le (s:=s4) (⟨#[125]⟩ : ByteArray) hs4
 cases hi : isP l s4 (⟨#[125]⟩ : ByteArray) 0 with
 | true =>
  rw [hi,if_pos rfl] at hl
  cases hl
  simp
  refine ⟨_,_,(fewW _ arms.length).at hR hm5 _,?_⟩
  simp
 | false =>
 rw [hi,if_neg (by simp)] at hl
 rw [mayP_no hi]
 split at hl
 ·cases hl
 rename_i a s5 ha
 unfold armQ at ha
 dsimp only at ha
 have hm6:=takeP_le (s:=s4) 3 hs4
 have hm7:=mayP_le (s:=takeP l s4 3) (⟨#[40]⟩ : ByteArray) hm6
 simp
 refine ⟨_,_,(namedW s4).at hR hs4 _,?_⟩
 simp
 refine ⟨_,_,(mayW _ (⟨#[40]⟩ : ByteArray)).at hR hm6 _,?_⟩
 cases hq : isP l (takeP l s4 3) (⟨#[40]⟩ : ByteArray) 0 with
 | true =>
  rw [hq,if_pos rfl] at ha
  obtain ⟨⟨b,s6⟩,hbk,he⟩:=Option.map_eq_some_iff.1 ha
  cases he
  have hm8:=takeP_le (s:=mayP l (takeP l s4 3) (⟨#[40]⟩ : ByteArray)) 2 hm7
  have hm9:=mustP_le [(⟨#[41]⟩ : ByteArray)] _ hm8
  have hm10:=mustP_le [(⟨#[61,62]⟩ : ByteArray)] _ hm9
  obtain ⟨bC,hs6⟩:=blockW hin hm10 hbk
  simp
  refine ⟨_,_,(nameRW _).at hR hm7 _,?_⟩
  simp
  refine ⟨_,_,mustP1 _ hm8 hR _ _ _,?_⟩
  simp
  refine ⟨_,_,mustP1 _ hm9 hR _ _ _,?_⟩
  simp
  refine ⟨_,_,bC.at hR hm10 _,?_⟩
  simp [hap]
  exact ⟨k,_,s6,⟨hl,by simp; omega,hs6⟩,by omega,⟨by simp [Ar.enc],by simp⟩,rfl⟩
 | false =>
  rw [hq,if_neg (by simp)] at ha
  obtain ⟨⟨b,s6⟩,hbk,he⟩:=Option.map_eq_some_iff.1 ha
  cases he
  have hm10:=mustP_le [(⟨#[61,62]⟩ : ByteArray)] _ hm6
  obtain ⟨bC,hs6⟩:=blockW hin hm10 hbk
  rw [mayP_no hq]
  simp
  refine ⟨_,_,mustP1 _ hm6 hR _ _ _,?_⟩
  simp
  refine ⟨_,_,bC.at hR hm10 _,?_⟩
  simp [hap]
  exact ⟨k,_,s6,⟨hl,by simp; omega,hs6⟩,by omega,⟨by simp [Ar.enc],by simp⟩,rfl⟩
end Go.Proofs.YtfiohepfohhibaaDoor
namespace Go.Proofs.YtfiohepfohhibaaDoor
open Go.RowKit
attribute [local simp] List.replicate List.range List.range.loop resA resOne retA AV.cuts AV.cut AObj.cut trim wkR wkT wkL wkN wkNR wkNL wkM wkMR wkML
theorem numeral0C (S : ASt) : ADet Tryd.prog 55 [Sg emS,B false] S (B false) S:=by
 refine ADet.intro mixed Tryd.call55 Tryd.func55 rfl ?_
 simp [Tryd.ntmps55]
 refine awp_loop (fun _ : Unit=>True) (fun _=>([Sg emS,B false,.any,.any,.any,.any,.any,I 0,I 0] ++ List.replicate 24 .any)) (fun _=>[] :: S) (fun _=>0) () trivial ?_ ?_ ?_
 ·simp
  rfl
 ·simp
 intro _ _
 simp
theorem parse0C (S : ASt) : ADet Tryd.prog 38 [Sg emS] S (.tup [I 0,I 2]) S:=by
 refine ADet.intro mixed Tryd.call38 Tryd.func38 rfl ?_
 simp [Tryd.ntmps38]
 refine ⟨_,_,numeral0C _,?_⟩
 simp
theorem numVC {l : List Tok} {s : RS} {v : Int} (hv : numV l s = some v) : ∃ x : Int,∀ S,ADet Tryd.prog 38 [Sg (takeT l s 4)] S (.tup [I v,I x]) S:=by
 unfold numV at hv
 split at hv
 ·unfold numT at hv
  split at hv
  ·rename_i hc
   cases hv
   obtain ⟨c1,c2,c3,c4⟩:=hc
   exact ⟨0,fun S=>parseC (takeT l s 4) c2 c1 (fun b hb=>List.all_eq_true.1 c3 b hb) c4 S⟩
  ·cases hv
 ·rename_i hh
  cases hv
  have : takeT l s 4 = emS:=by unfold takeT; rw [if_neg hh]
  rw [this]
  exact ⟨2,fun S=>parse0C S⟩
theorem chan_1 {l : List Tok} {s s1 s2 s3 s4 s' : RS} {t : Ty} {v : Int} (hs : s.at_ ≤ l.length) (tC0 : RdC 24 [] l (mustP l s [(⟨#[60]⟩ : ByteArray)]) s1 (tyA t)) (hs1 : s1.at_ ≤ l.length) (e2 : mustP l s1 [(⟨#[62]⟩ : ByteArray),(⟨#[40]⟩ : ByteArray)] = s2) (hv : numV l s2 = some v)
  (e3 : mustP l (roomR (takeP l s2 4) v) [(⟨#[41]⟩ : ByteArray),(⟨#[97,115]⟩ : ByteArray)] = s3) (e4 : mustP l (takeP l s3 2) [(⟨#[44]⟩ : ByteArray)] = s4) (e5 : mustP l (takeP l s4 2) [(⟨#[59]⟩ : ByteArray)] = s') :
  RdC 75 [] l s s' (.agg (stU (.mk 12 (takeT l s3 2) (takeT l s4 2) [] t v zeroPl [] [] [] [] 0))):=by
 subst e5
 have hm1:=mustP_le [(⟨#[60]⟩ : ByteArray)] _ hs
 have hm2 : s2.at_ ≤ l.length:=by rw [← e2]; exact mustP_le _ _ hs1
 have hm3:=takeP_le (s:=s2) 4 hm2
 obtain ⟨X,nC⟩:=numVC hv
 have tC:=fun {S d i s0} (hR : RAt S d i l s0) L=>(takeW s2 4).at hR hm2 L
 generalize takeT l s2 4 = tx at *
 generalize takeP l s2 4 = s5 at *
 obtain ⟨a5,b5,f5⟩:=s5
 obtain ⟨fb,hfb⟩ : ∃ fb,fb = (f5 || (decide (v < 1) || decide (8 < v))):=⟨_,rfl⟩
 unfold roomR at e3
 simp only at e3
 rw [← hfb] at e3
 have hm4 : (⟨a5,b5,fb⟩ : RS).at_ ≤ l.length:=hm3
 have hm5 : s3.at_ ≤ l.length:=by rw [← e3]; exact mustP_le _ _ hm4
 have hm6:=takeP_le (s:=s3) 2 hm5
 have hm7 : s4.at_ ≤ l.length:=by rw [← e4]; exact mustP_le _ _ hm6
 have hm8:=takeP_le (s:=s4) 2 hm7
 refine RdC.less (r:=.agg [U 12,Sg (takeT l s3 2),Sg (takeT l s4 2),nilS,U t.kind,Sg t.name,.p (.sl 3 (t.args.map Ty.enc)),I v,Sg emS,nilS,nilS,nilS,nilS,nilS,I 0]) (by repeat' constructor) (RdC.intro fun S d i hR=>?_)
 have m2:=fun L a b=>mustP2 (⟨#[62]⟩ : ByteArray) (⟨#[40]⟩ : ByteArray) hs1 hR L a b
 have m3:=fun L a b=>mustP2 (s:=⟨a5,b5,fb⟩) (⟨#[41]⟩ : ByteArray) (⟨#[97,115]⟩ : ByteArray) hm4 hR L a b
 have m4:=fun L a b=>mustP1 (⟨#[44]⟩ : ByteArray) hm6 hR L a b
 rw [e2] at m2
 rw [e3] at m3
 rw [e4] at m4
 have ho3:=(hR.upd ⟨a5,b5,f5⟩ hm3).o
 have tC:=fun L=>tC hR L
 refine ADet.intro mixed Tryd.call75 Tryd.func75 rfl ?_
 simp [Tryd.ntmps75]
 refine ⟨_,_,mustP1 _ hs hR _ _ _,?_⟩
 simp
 refine ⟨_,_,tC0.at hR hm1 _,?_⟩
 simp
 refine ⟨_,_,m2 _ _ _,?_⟩
 simp
 refine ⟨_,_,tC _,?_⟩
 simp
 refine ⟨_,_,nC _,?_⟩
 have hfv : (f5 || (decide (v < 1) || decide (8 < v))) = fb:=hfb.symm
 cases f5 with
 | true =>
  simp only [Bool.true_or] at hfv
  subst hfv
  simp [ho3]
  refine ⟨_,_,m3 _ _ _,?_⟩
  simp
  refine ⟨_,_,(nameRW s3).at hR hm5 _,?_⟩
  simp
  refine ⟨_,_,m4 _ _ _,?_⟩
  simp
  refine ⟨_,_,(nameRW s4).at hR hm7 _,?_⟩
  simp
  refine ⟨_,_,mustP1 _ hm8 hR _ _ _,?_⟩
  simp
 | false =>
  by_cases h1 : v < 1
  ·simp only [h1,decide_true,Bool.true_or,Bool.false_or] at hfv
   subst hfv
   simp [ho3,h1]
   refine ⟨_,_,m3 _ _ _,?_⟩
   simp
   refine ⟨_,_,(nameRW s3).at hR hm5 _,?_⟩
   simp
   refine ⟨_,_,m4 _ _ _,?_⟩
   simp
   refine ⟨_,_,(nameRW s4).at hR hm7 _,?_⟩
   simp
   refine ⟨_,_,mustP1 _ hm8 hR _ _ _,?_⟩
   simp
  ·by_cases h2 : 8 < v
   ·simp only [h1,h2,decide_true,decide_false,Bool.or_true,Bool.false_or] at hfv
    subst hfv
    simp [ho3,h1,h2]
    refine ⟨_,_,m3 _ _ _,?_⟩
    simp
    refine ⟨_,_,(nameRW s3).at hR hm5 _,?_⟩
    simp
    refine ⟨_,_,m4 _ _ _,?_⟩
    simp
    refine ⟨_,_,(nameRW s4).at hR hm7 _,?_⟩
    simp
    refine ⟨_,_,mustP1 _ hm8 hR _ _ _,?_⟩
    simp
   ·simp only [h1,h2,decide_false,Bool.or_false,Bool.false_or] at hfv
    subst hfv
    simp [ho3,h1,h2]
    refine ⟨_,_,m3 _ _ _,?_⟩
    simp
    refine ⟨_,_,(nameRW s3).at hR hm5 _,?_⟩
    simp
    refine ⟨_,_,m4 _ _ _,?_⟩
    simp
    refine ⟨_,_,(nameRW s4).at hR hm7 _,?_⟩
    simp
    refine ⟨_,_,mustP1 _ hm8 hR _ _ _,?_⟩
    simp
end Go.Proofs.YtfiohepfohhibaaDoor
