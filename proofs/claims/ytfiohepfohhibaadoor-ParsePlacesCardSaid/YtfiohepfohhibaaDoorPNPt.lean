/- A part of the proof. The statement is proved in the claim's last text. -/
import Derived.Test.YtfiohepfohhibaaDoorPNPs
import Derived.Test.YtfiohepfohhibaaDoorPMPt
import Derived.Test.YtfiohepfohhibaaDoorPMWp
import Derived.Test.YtfiohepfohhibaaDoorPNPp
set_option linter.unusedVariables false
set_option linter.unusedSimpArgs false
set_option maxRecDepth 100000
set_option maxHeartbeats 32000000
namespace Go.Proofs.YtfiohepfohhibaaDoor
open Go.RowKit
attribute [local simp] List.replicate List.range List.range.loop resA resOne retA virtL virtO virt_get markL markO markR_get rowA awpI_nil awpI_cons List.forall_mem_cons List.contains_cons List.contains_nil List.find? nextD_eq awpD_nil awpD_cons LCp LCl refL
abbrev stZ : AV:=.agg [U 0,Sg emS,Sg emS,nilS,U 0,Sg emS,nilS,I 0,Sg emS,nilS,nilS,nilS,nilS,nilS,I 0]
abbrev stAs (nm : ByteArray) (pth : AV) (pos : Nat) : AV:=.agg [U 3,Sg emS,Sg emS,nilS,U 0,Sg emS,nilS,I 0,Sg nm,pth,nilS,nilS,nilS,nilS,I pos]
theorem first_end {l : List Tok} {s : RS} (hs : s.at_ ≤ l.length) (hb : s.bad = false) (hlt : ¬ (s.at_ : Int) < (l.length : Int)) : RdC 45 [] l s s (.tup [stZ,B false]):=RdC.intro fun S d i hR=>by
 have ho:=(hR.upd s hs).o
 have hlt' : (l.length : Int) ≤ (s.at_ : Int):=by omega
 refine ADet.intro mixed Tryd.call45 Tryd.func45 rfl ?_
 simp [Tryd.ntmps45]
 refine awp_draw [] (by kernel_rfl) (by kernel_rfl) ?_
 simp [ho,hb,hlt']
theorem first_none {l : List Tok} {s : RS} {x : Tok} (hs : s.at_ ≤ l.length) (hb : s.bad = false) (hx : l[s.at_]? = some x) (hn : startsK.any (fun t=>sEq x.text t) = false) : RdC 45 [] l s s (.tup [stZ,B false]):=RdC.intro fun S d i hR=>by
 have ho:=(hR.upd s hs).o
 have hlt:=(List.getElem?_eq_some_iff.1 hx).1
 have hlt' : ¬ (l.length : Int) ≤ (s.at_ : Int):=by omega
 have hlt2 : (s.at_ : Int) < (l.length : Int):=by omega
 clear hlt
 have hj:=find_mapS (d + 1) i x.text hn
 refine ADet.intro mixed Tryd.call45 Tryd.func45 rfl ?_
 simp [Tryd.ntmps45]
 refine awp_draw [] (by kernel_rfl) (by kernel_rfl) ?_
 simp [ho,hb,hlt']
 refine awp_draw [(5,1),(9,1),(12,1)] (by kernel_rfl) (by kernel_rfl) ?_
 simp [ho,hb,hlt']
 refine ⟨_,_,startsC _ _ _ _,?_⟩
 simp [ho,hb,hlt2,hx,Tok.enc,mapS,hj]
theorem assign_end {l : List Tok} {s : RS} (hs : s.at_ ≤ l.length) (hb : s.bad = false) (hlt : ¬ (s.at_ : Int) < (l.length : Int)) : RdC 46 [] l s s (.tup [stAs emS nilS (placeP l s),B false]):=RdC.intro fun S d i hR=>by
 have ho:=(hR.upd s hs).o
 have hlt' : (l.length : Int) ≤ (s.at_ : Int):=by omega
 refine ADet.intro mixed Tryd.call46 Tryd.func46 rfl ?_
 simp [Tryd.ntmps46,ho]
 refine ⟨_,_,(placeRW s).at hR hs _,?_⟩
 simp
 refine awp_draw [] (by kernel_rfl) (by kernel_rfl) ?_
 simp [ho,hb,hlt']
theorem assign_kind {l : List Tok} {s : RS} {x : Tok} (hs : s.at_ ≤ l.length) (hb : s.bad = false) (hx : l[s.at_]? = some x) (hk : ¬ x.kind = 2) : RdC 46 [] l s s (.tup [stAs emS nilS (placeP l s),B false]):=RdC.intro fun S d i hR=>by
 have ho:=(hR.upd s hs).o
 have hlt:=(List.getElem?_eq_some_iff.1 hx).1
 have hlt' : ¬ (l.length : Int) ≤ (s.at_ : Int):=by omega
 have hlt2 : (s.at_ : Int) < (l.length : Int):=by omega
 clear hlt
 have hk' : (x.kind != 2) = true:=by simpa using hk
 refine ADet.intro mixed Tryd.call46 Tryd.func46 rfl ?_
 simp [Tryd.ntmps46,ho]
 refine ⟨_,_,(placeRW s).at hR hs _,?_⟩
 simp
 refine awp_draw [] (by kernel_rfl) (by kernel_rfl) ?_
 simp [ho,hb,hlt',hlt2,hx,Tok.enc,hk']
theorem assign_call {l : List Tok} {s : RS} {x : Tok} (hs : s.at_ ≤ l.length) (hb : s.bad = false) (hx : l[s.at_]? = some x) (hk : x.kind = 2) (hi : isP l s (⟨#[40]⟩ : ByteArray) 1 = true) : RdC 46 [] l s s (.tup [stAs emS nilS (placeP l s),B false]):=RdC.intro fun S d i hR=>by
 have ho:=(hR.upd s hs).o
 have hlt:=(List.getElem?_eq_some_iff.1 hx).1
 have hlt' : ¬ (l.length : Int) ≤ (s.at_ : Int):=by omega
 have hlt2 : (s.at_ : Int) < (l.length : Int):=by omega
 clear hlt
 have iC:=fun L=>isC ((hR.upd s hs).push L) (⟨#[40]⟩ : ByteArray) 1 (by omega)
 rw [hi] at iC
 refine ADet.intro mixed Tryd.call46 Tryd.func46 rfl ?_
 simp [Tryd.ntmps46,ho]
 refine ⟨_,_,(placeRW s).at hR hs _,?_⟩
 simp
 refine awp_draw [] (by kernel_rfl) (by kernel_rfl) ?_
 simp [ho,hb,hlt',hlt2,hx,Tok.enc,hk]
 refine ⟨_,_,iC _,?_⟩
 simp
theorem assign_path {n : Nat} (hn : n ≤ 100000) {l : List Tok} {s : RS} {x : Tok} {p : Pl} {s1 : RS} (hs : s.at_ ≤ l.length) (hb : s.bad = false) (hx : l[s.at_]? = some x) (hk : x.kind = 2) (hi : isP l s (⟨#[40]⟩ : ByteArray) 1 = false) (hp : pathP l n s = some (p,s1)) (he : s1.bad = true ∨ (s1.bad = false ∧ isP l s1 (⟨#[61]⟩ : ByteArray) 0 = false)) : RdC 46 [] l s s (.tup [stAs p.name (.p (strs p.path)) (placeP l s),B false]):=RdC.intro fun S d i hR=>by
 have ho:=(hR.upd s hs).o
 have hRo:=hR.o
 have hz : rdO l s = .cells [.p (.sl 3 (l.map Tok.enc)),I s.at_,B false,B s.full] 56:=by rw [← hb]
 have hlt:=(List.getElem?_eq_some_iff.1 hx).1
 have hlt' : ¬ (l.length : Int) ≤ (s.at_ : Int):=by omega
 have hlt2 : (s.at_ : Int) < (l.length : Int):=by omega
 clear hlt
 have iC:=fun L=>isC ((hR.upd s hs).push L) (⟨#[40]⟩ : ByteArray) 1 (by omega)
 rw [hi] at iC
 have pC:=pathW hn hs hp
 obtain ⟨hs1,hfu⟩:=pathP_le hs hp
 have ho1:=(hR.upd s1 hs1).o
 refine ADet.intro mixed Tryd.call46 Tryd.func46 rfl ?_
 simp [Tryd.ntmps46,ho]
 refine ⟨_,_,(placeRW s).at hR hs _,?_⟩
 simp
 refine awp_draw [] (by kernel_rfl) (by kernel_rfl) ?_
 simp [ho,hb,hlt',hlt2,hx,Tok.enc,hk]
 refine ⟨_,_,iC _,?_⟩
 simp
 refine ⟨_,_,pC.at hR hs _,?_⟩
 simp [ho1]
 rcases he with hb1 | ⟨hb1,hq⟩
 ·simp [ho1,hb1,hRo,hfu]
  exact congrArg (set2 S d i) hz.symm
 ·have hm : mayP l s1 (⟨#[61]⟩ : ByteArray) = s1:=by unfold mayP; rw [hq]; rfl
  simp [hb1]
  refine ⟨_,_,(mayW s1 (⟨#[61]⟩ : ByteArray)).at hR hs1 _,?_⟩
  rw [hq,hm]
  simp [ho1,hb1,hRo,hfu]
  exact congrArg (set2 S d i) hz.symm
end Go.Proofs.YtfiohepfohhibaaDoor
namespace Go.Proofs.YtfiohepfohhibaaDoor
open Go.RowKit
attribute [local simp] List.replicate List.range List.range.loop resA resOne retA AV.cuts AV.cut AObj.cut trim wkR wkT wkL wkN wkNR wkNL wkM wkMR wkML virtL virtO virt_get markL markO markR_get rowA awpI_nil awpI_cons List.forall_mem_cons List.contains_cons List.contains_nil List.find? nextD_eq awpD_nil awpD_cons LCp LCl refL
def mxL (l : List Nat) : Nat:=l.foldr max 0
theorem mxL_snoc (l : List Nat) (x : Nat) : mxL (l ++ [x]) = max (mxL l) x:=by
 induction l with
 | nil=>simp [mxL]
 | cons a l ih =>
  have : mxL (a :: (l ++ [x])) = max a (mxL (l ++ [x])):=rfl
  rw [List.cons_append,this,ih]
  show max a (max (mxL l) x) = max (max a (mxL l)) x
  omega
theorem mxL_take {α : Type} (f : α → Nat) (l : List α) {q : Nat} (h : q < l.length) : mxL ((l.map f).take (q + 1)) = max (mxL ((l.map f).take q)) (f l[q]):=by
 rw [← List.map_take,← List.map_take,List.take_succ_eq_append_getElem h,List.map_append,List.map_singleton,mxL_snoc]
theorem mxL_mem {l : List Nat} {x : Nat} (h : x ∈ l) : x ≤ mxL l:=by
 induction l with
 | nil=>cases h
 | cons a l ih =>
  have e : mxL (a :: l) = max a (mxL l):=rfl
  rcases List.mem_cons.1 h with rfl | h
  ·omega
  ·have:=ih h; omega
theorem tyDeeps (l : List Ty) : Ty.deeps l = mxL (l.map Ty.deep):=by
 induction l with
 | nil=>rfl
 | cons t l ih=>rw [Ty.deeps,ih]; rfl
theorem tyDeep (t : Ty) : t.deep = mxL (t.args.map Ty.deep) + 1:=by
 cases t; rw [Ty.deep,tyDeeps]; rfl
theorem exDeeps (l : List Ex) : Ex.deeps l = mxL (l.map Ex.deep):=by
 induction l with
 | nil=>rfl
 | cons t l ih=>rw [Ex.deeps,ih]; rfl
theorem exDeep (t : Ex) : t.deep = mxL (t.args.map Ex.deep) + 1:=by
 cases t; rw [Ex.deep,exDeeps]; rfl
theorem wrap_one {a : Nat} (h : a ≤ 1000000) : IntKind.i64.wrap ((a : Int) + 1) = ((a + 1 : Nat) : Int):=by
 rw [IntWalk.i64_in _ (by omega)]; omega
theorem deepTypeC : ∀ (t : Ty),t.deep ≤ 1000000 → ∀ (S : ASt),ADet Tryd.prog 48 [tyV t] S (I t.deep) S:=by
 refine Ty.ind fun t ih hd S=>?_
 refine ADet.okA Tryd.call48 0 2 rfl rfl fun hok=>?_
 have hlen:=okl hok
 have hdp:=tyDeep t
 refine ADet.intro mixed Tryd.call48 Tryd.func48 rfl ?_
 simp [Tryd.ntmps48]
 refine awp_loop (fun q : Nat=>q ≤ t.args.length) (fun q=>[.any,.ptr 0 0 0,.any,I (mxL ((t.args.map Ty.deep).take q)),.any,.any,.any,.p (.sl 3 (t.args.map Ty.enc)),I t.args.length,I q,.any,.any,.any,.any,.any,.any,.any,.any,.any,.any]) (fun q=>[.cells [U t.kind,Sg t.name,.p (.sl 3 (t.args.map Ty.enc))] 39] :: S) (fun q=>t.args.length - q) 0 (Nat.zero_le _) ?_ ?_ ?_
 ·simp [mxL]
 ·simp
 intro q hq
 by_cases hlt : q < t.args.length
 ·have hT:=mxL_take Ty.deep t.args hlt
  have hmem : t.args[q].deep ≤ mxL (t.args.map Ty.deep):=mxL_mem (List.mem_map_of_mem (List.getElem_mem hlt))
  have hx:=ih _ (List.getElem_mem hlt) (by omega)
  have hlt' : (q : Int) < (t.args.length : Int):=by omega
  simp [hlt,hlt',tyEnc]
  refine ⟨_,_,hx _,?_⟩
  simp
  exact ⟨q + 1,hlt,by omega,by rw [hT]; split <;> omega,wrap_succ hlt⟩
 ·have ht : (t.args.map Ty.deep).take q = t.args.map Ty.deep:=List.take_of_length_le (by simp; omega)
  have hlt' : ¬ (q : Int) < (t.args.length : Int):=by omega
  have hw:=wrap_one (a:=mxL (t.args.map Ty.deep)) (by omega)
  simp [hlt',ht,hw,hdp]
theorem deepExprC : ∀ (t : Ex),t.deep ≤ 1000000 → ∀ (S : ASt),ADet Tryd.prog 49 [exV t] S (I t.deep) S:=by
 refine Ex.ind fun t ih hd S=>?_
 refine ADet.okA Tryd.call49 0 6 rfl rfl fun hok=>?_
 have hlen:=okl hok
 have hdp:=exDeep t
 refine ADet.intro mixed Tryd.call49 Tryd.func49 rfl ?_
 simp [Tryd.ntmps49]
 refine awp_loop (fun q : Nat=>q ≤ t.args.length) (fun q=>[.any,.ptr 0 0 0,.any,I (mxL ((t.args.map Ex.deep).take q)),.any,.any,.any,.p (.sl 8 (t.args.map Ex.enc)),I t.args.length,I q,.any,.any,.any,.any,.any,.any,.any,.any,.any,.any]) (fun q=>[.cells [U t.op,I t.int,Sg t.name,Sg t.second,Sg t.place.name,.p (strs t.place.path),.p (.sl 8 (t.args.map Ex.enc)),I t.pos] 46] :: S) (fun q=>t.args.length - q) 0 (Nat.zero_le _) ?_ ?_ ?_
 ·simp [mxL]
 ·simp
 intro q hq
 by_cases hlt : q < t.args.length
 ·have hT:=mxL_take Ex.deep t.args hlt
  have hmem : t.args[q].deep ≤ mxL (t.args.map Ex.deep):=mxL_mem (List.mem_map_of_mem (List.getElem_mem hlt))
  have hx:=ih _ (List.getElem_mem hlt) (by omega)
  have hlt' : (q : Int) < (t.args.length : Int):=by omega
  simp [hlt,hlt',exEnc]
  refine ⟨_,_,hx _,?_⟩
  simp
  exact ⟨q + 1,hlt,by omega,by rw [hT]; split <;> omega,wrap_succ hlt⟩
 ·have ht : (t.args.map Ex.deep).take q = t.args.map Ex.deep:=List.take_of_length_le (by simp; omega)
  have hlt' : ¬ (q : Int) < (t.args.length : Int):=by omega
  have hw:=wrap_one (a:=mxL (t.args.map Ex.deep)) (by omega)
  simp [hlt',ht,hw,hdp]
theorem ADet.lessT {P : Program} {F : FuncId} {xs : List AV} {S S' : ASt} {l l' : List AV} (hle : LeAs l l') (h : ADet P F xs S (.tup l) S') : ADet P F xs S (.tup l') S' :=
 ⟨h.1,fun Pr φ ys w hargs hR hne=>(h.2 Pr φ ys w hargs hR hne).mono fun e w' hp=>by
  obtain ⟨x,Pr',φ',h1,h2,h3,h4⟩:=hp
  refine ⟨x,Pr',φ',h1,h2,h3,?_⟩
  cases h4 with
  | tup k1 k2 =>
   obtain ⟨hl,hk⟩:=(leA_both (Pr:=Pr') (φ:=φ')).2 hle
   exact .tup (hl ▸ k1) fun j c y hc hy=>by
    obtain ⟨v,m1,m2⟩:=hk j c hc
    exact m2 (k2 j v y m1 hy)⟩
theorem body_bad {l : List Tok} {s : RS} (hs : s.at_ ≤ l.length) (hb : s.bad = true) : RdC 25 [] l s s (.tup [nilS,exZ]):=RdC.intro fun S d i hR=>by
 have ho:=(hR.upd s hs).o
 refine ADet.intro mixed Tryd.call25 Tryd.func25 rfl ?_
 simp [Tryd.ntmps25]
 refine awp_loop (fun _ : Unit=>True) (fun _=>([.ptr (d + 1) i 0,.any,.any,.ptr 0 0 0,nilS] ++ List.replicate 42 .any)) (fun _=>[.cells [.any,.any,.any,.any,.any,.any,.any,.any] 46] :: set2 S d i (rdO l s)) (fun _=>0) () trivial ?_ ?_ ?_
 ·simp
 ·simp
 rintro ⟨⟩ -
 simp [ho,hb]
theorem body_go {l : List Tok} {s s1 : RS} {e : Ex} {nm : ByteArray} {q : PV} {pos : Nat} (hs : s.at_ ≤ l.length) (hb : s.bad = false) (fC : RdC 45 [] l s s (.tup [stZ,B false])) (aC : RdC 46 [] l s s (.tup [stAs nm (.p q) pos,B false])) (eC : RdC 47 [] l s s1 (exV e)) (hs1 : s1.at_ ≤ l.length) (hi : isP l s1 (⟨#[125]⟩ : ByteArray) 0 = true) : RdC 25 [] l s s1 (.tup [nilS,exV e]):=RdC.intro fun S d i hR=>by
 have ho:=(hR.upd s hs).o
 have iC:=fun L=>isC ((hR.upd s1 hs1).push L) (⟨#[125]⟩ : ByteArray) 0 (by omega)
 rw [hi] at iC
 refine ADet.intro mixed Tryd.call25 Tryd.func25 rfl ?_
 simp [Tryd.ntmps25]
 refine awp_loop (fun _ : Unit=>True) (fun _=>([.ptr (d + 1) i 0,.any,.any,.ptr 0 0 0,nilS] ++ List.replicate 42 .any)) (fun _=>[.cells [.any,.any,.any,.any,.any,.any,.any,.any] 46] :: set2 S d i (rdO l s)) (fun _=>0) () trivial ?_ ?_ ?_
 ·simp
 ·simp
 rintro ⟨⟩ -
 simp [ho,hb]
 refine ⟨_,_,fC.at hR hs _,?_⟩
 simp
 refine ⟨_,_,aC.at hR hs _,?_⟩
 simp
 refine ⟨_,_,(placeRW s).at hR hs _,?_⟩
 simp
 refine ⟨_,_,eC.at hR hs _,?_⟩
 simp
 refine ⟨_,_,iC _,?_⟩
 simp
 refine awp_draw [] (by kernel_rfl) (by kernel_rfl) ?_
 simp
theorem bodyW {n : Nat} (hn : n ≤ 100000) {l : List Tok} {s : RS} {e : Ex} {s' : RS} (hs : s.at_ ≤ l.length) (h : bodyP l n s = some (e,s')) : RdC 25 [] l s s' (.tup [nilS,exV e]) ∧ s'.at_ ≤ l.length:=by
 unfold bodyP at h
 cases hb : s.bad with
 | true =>
  rw [hb,if_pos rfl] at h
  cases h
  refine ⟨fun S d i hR=>?_,hs⟩
  exact ADet.lessT (.cons (.refl _) (.cons exZ_le (.refl _))) (body_bad hs hb S d i hR)
 | false =>
 rw [hb,if_neg (by simp)] at h
 dsimp only at h
 have go : ∀ {nm : ByteArray} {q : PV} {pos : Nat},RdC 45 [] l s s (.tup [stZ,B false]) → RdC 46 [] l s s (.tup [stAs nm (.p q) pos,B false]) →
   (match strongP l n 6 s with | none=>none | some (e,s1)=>if isP l s1 (⟨#[125]⟩ : ByteArray) 0 = true then some (e,s1) else none) = some (e,s') → RdC 25 [] l s s' (.tup [nilS,exV e]) ∧ s'.at_ ≤ l.length:=by
  intro nm q pos fC aC hg
  split at hg
  ·cases hg
  rename_i e1 s1 h1
  split at hg
  ·rename_i hi
   cases hg
   have hs1:=(strongW hn 6 (by omega) hs h1).2
   exact ⟨body_go hs hb fC aC (exprRW hn hs h1) hs1 hi,hs1⟩
  ·cases hg
 cases hx : l[s.at_]? with
 | none =>
  rw [hx] at h
  have:=List.getElem?_eq_none_iff.1 hx
  exact go (first_end hs hb (by omega)) (assign_end hs hb (by omega)) h
 | some x =>
  rw [hx] at h
  dsimp only at h
  split at h
  ·cases h
  rename_i hn1
  have fC:=first_none hs hb hx (by simpa using hn1)
  split at h
  ·rename_i hk
   split at h
   ·cases h
   rename_i p s1 hp
   split at h
   ·cases h
   rename_i hne
   refine go fC (assign_path hn hs hb hx hk.1 hk.2 hp ?_) h
   cases hb1 : s1.bad with
   | true=>exact .inl rfl
   | false=>exact .inr ⟨rfl,by simpa [hb1] using hne⟩
  ·rename_i hk
   by_cases hk2 : x.kind = 2
   ·refine go fC (assign_call hs hb hx hk2 ?_) h
    simpa [hk2] using hk
   ·exact go fC (assign_kind hs hb hx hk2) h
theorem itemFnC {n : Nat} (hn : n ≤ 100000) {l : List Tok} {s : RS} {x : It} {s' : RS} (hs : s.at_ ≤ l.length) (h0 : isP l s (⟨#[115,116,114,117,99,116]⟩ : ByteArray) 0 = false) (h1 : isP l s (⟨#[101,110,117,109]⟩ : ByteArray) 0 = false) (h : itemP l n s = some (x,s')) : RdC 12 [] l s s' (itA x) ∧ s'.at_ ≤ l.length:=by
 unfold itemP at h
 rw [h0,if_neg (by simp),h1,if_neg (by simp)] at h
 dsimp only at h
 split at h
 ·cases h
 rename_i fs s2 hk
 split at h
 ·cases h
 rename_i t s3 ht
 split at h
 ·cases h
 rename_i e s4 he
 cases h
 have hm0 : mayP l s (⟨#[115,116,114,117,99,116]⟩ : ByteArray) = s:=by unfold mayP; rw [h0]; rfl
 have hm00 : mayP l s (⟨#[101,110,117,109]⟩ : ByteArray) = s:=by unfold mayP; rw [h1]; rfl
 have hm1:=mustP_le [(⟨#[102,110]⟩ : ByteArray)] _ hs
 have hm2:=takeP_le (s:=mustP l s [(⟨#[102,110]⟩ : ByteArray)]) 2 hm1
 have hm3:=mustP_le [(⟨#[40]⟩ : ByteArray)] _ hm2
 have lC:=listFieldC (K:=21) (fun s x s' a b=>fieldP_le a b) (fun s x s' a b=>fieldRW a b) hn hm3 hk
 have hm4:=listP_le (fun s x s' a b=>fieldP_le a b) hm3 hk
 have hm5:=mustP_le [(⟨#[45,62]⟩ : ByteArray)] _ hm4
 have tC:=kindRC n l _ t s3 hm5 ht
 have hm6:=kindP_le n l _ t s3 hm5 ht
 have hm7:=mustP_le [(⟨#[123]⟩ : ByteArray)] _ hm6
 obtain ⟨bC,hm8⟩:=bodyW hn hm7 he
 refine ⟨?_,mustP_le _ _ hm8⟩
 refine RdC.less (r:=.agg [U 3,Sg (takeT l (mustP l s [(⟨#[102,110]⟩ : ByteArray)]) 2),.p (.sl 4 (fs.map Fi.enc)),U t.kind,Sg t.name,.p (.sl 3 (t.args.map Ty.enc)),nilS,U e.op,I e.int,Sg e.name,Sg e.second,Sg e.place.name,.p (strs e.place.path),.p (.sl 8 (e.args.map Ex.enc)),I e.pos,I (placeP l s)]) (by repeat' constructor) (RdC.intro fun S d i hR=>?_)
 refine ADet.intro mixed Tryd.call12 Tryd.func12 rfl ?_
 simp [Tryd.ntmps12]
 refine ⟨_,_,(placeRW s).at hR hs _,?_⟩
 simp
 refine ⟨_,_,(mayW s (⟨#[115,116,114,117,99,116]⟩ : ByteArray)).at hR hs _,?_⟩
 rw [h0,hm0]
 simp
 refine ⟨_,_,(mayW s (⟨#[101,110,117,109]⟩ : ByteArray)).at hR hs _,?_⟩
 rw [h1,hm00]
 simp
 refine ⟨_,_,ADet.sub (.cons (.refl _) (.cons (.osl (.refl _)) (.refl _))) ((mustW _ [(⟨#[102,110]⟩ : ByteArray)] (by simp) hs).at hR hs _),?_⟩
 simp
 refine ⟨_,_,(nameRW _).at hR hm1 _,?_⟩
 simp
 refine ⟨_,_,ADet.sub (.cons (.refl _) (.cons (.osl (.refl _)) (.refl _))) ((mustW _ [(⟨#[40]⟩ : ByteArray)] (by simp) hm2).at hR hm2 _),?_⟩
 simp
 refine ⟨_,_,lC.at hR hm3 _,?_⟩
 simp
 refine ⟨_,_,ADet.sub (.cons (.refl _) (.cons (.osl (.refl _)) (.refl _))) ((mustW _ [(⟨#[45,62]⟩ : ByteArray)] (by simp) hm4).at hR hm4 _),?_⟩
 simp
 refine ⟨_,_,tC.at hR hm5 _,?_⟩
 simp
 refine ⟨_,_,ADet.sub (.cons (.refl _) (.cons (.osl (.refl _)) (.refl _))) ((mustW _ [(⟨#[123]⟩ : ByteArray)] (by simp) hm6).at hR hm6 _),?_⟩
 simp
 refine ⟨_,_,bC.at hR hm7 _,?_⟩
 simp
 refine ⟨_,_,ADet.sub (.cons (.refl _) (.cons (.osl (.refl _)) (.refl _))) ((mustW _ [(⟨#[125]⟩ : ByteArray)] (by simp) hm8).at hR hm8 _),?_⟩
 simp
theorem itemRW {n : Nat} (hn : n ≤ 100000) {l : List Tok} {s : RS} {x : It} {s' : RS} (hs : s.at_ ≤ l.length) (h : itemP l n s = some (x,s')) : RdC 12 [] l s s' (itA x) ∧ s'.at_ ≤ l.length ∧ x.body = []:=by
 cases h0 : isP l s (⟨#[115,116,114,117,99,116]⟩ : ByteArray) 0 with
 | true =>
  refine ⟨itemStructC hn hs h0 h,?_⟩
  unfold itemP at h
  rw [h0,if_pos rfl] at h
  dsimp only at h
  obtain ⟨⟨fs,s1⟩,hk,he⟩:=Option.map_eq_some_iff.1 h
  cases he
  exact ⟨listP_le (fun s x s' a b=>fieldP_le a b) (mustP_le _ _ (takeP_le 3 (mayP_le _ hs))) hk,rfl⟩
 | false =>
  cases h1 : isP l s (⟨#[101,110,117,109]⟩ : ByteArray) 0 with
  | true =>
   refine ⟨itemEnumC hn hs h0 h1 h,?_⟩
   unfold itemP at h
   rw [h0,if_neg (by simp),h1,if_pos rfl] at h
   dsimp only at h
   obtain ⟨⟨fs,s1⟩,hk,he⟩:=Option.map_eq_some_iff.1 h
   cases he
   exact ⟨listP_le (fun s x s' a b=>variantP_le a b) (mustP_le _ _ (takeP_le 3 (mayP_le _ hs))) hk,rfl⟩
  | false =>
   obtain ⟨a,b⟩:=itemFnC hn hs h0 h1 h
   refine ⟨a,b,?_⟩
   unfold itemP at h
   rw [h0,if_neg (by simp),h1,if_neg (by simp)] at h
   dsimp only at h
   split at h
   ·cases h
   split at h
   ·cases h
   split at h
   ·cases h
   cases h; rfl
end Go.Proofs.YtfiohepfohhibaaDoor
