/- A part of the proof. The statement is proved in the claim's last text. -/
import Derived.Test.YtlclonljdagpkaaGreatDoorQNPd
set_option linter.unusedVariables false
set_option linter.unusedSimpArgs false
set_option maxRecDepth 100000
set_option maxHeartbeats 32000000
namespace Go.Proofs.YtlclonljdagpkaaGreatDoor
open Go.RowKit
attribute [local simp] List.replicate List.range List.range.loop resA zR retA AV.cuts AV.cut AObj.cut trim wkR wkT wkL wkN wkNR wkNL wkM wkMR wkML
theorem zMW (S : ASt) (c : Cf) (σ : Nf) (n : Nat) : set2 (updF S c σ) c.d c.jF (fnO c ⟨σ.made,σ.count,n,σ.fl⟩) = updF S c ⟨σ.made,σ.count,n,σ.fl⟩:=by
 unfold updF; rw [zDb]
theorem zLO {p : List It} {l : List St} {pos : Int} {σ τ : Nf} (hl : ∀ s ∈ l,StmC p s) (hb : BdN σ (l.map St.nd).sum) (hτ : τ = zy p l pos [] σ) {S : ASt} {c : Cf} {σ0 : Nf} (h : NAt p S c σ0) (L : List AObj) : ADet Tryz.prog 191 [.ptr (c.d + 1) c.jF 0,.p (.sl 15 (l.map St.enc)),I pos,nilS] (L :: updF S c σ) .un (L :: updF S c τ):=by
 subst hτ;exact ADet.sub (by repeat' constructor) ((zE6 p l hl pos [] σ (by simpa using hb)).at h L)
theorem zVt {p : List It} {l : List St} {pos : Int} {s : ByteArray} {σ τ : Nf} (hl : ∀ s ∈ l,StmC p s) (hb : BdN σ (1 + (l.map St.nd).sum)) (hτ : τ = zy p l pos [s] σ) {S : ASt} {c : Cf} {σ0 : Nf} (h : NAt p S c σ0) (L : List AObj) (i : Nat) : ADet Tryz.prog 191 [.ptr (c.d + 1) c.jF 0,.p (.sl 15 (l.map St.enc)),I pos,.osl 1 [[pS s]] 0 i] (L :: updF S c σ) .un (L :: updF S c τ):=by
 subst hτ;exact ADet.toP2 (as1:=[.ptr (c.d + 1) c.jF 0,.p (.sl 15 (l.map St.enc)),I pos]) (as2:=[]) (v:=.osl 1 [[pS s]] 0 i) rfl ((zE6 p l hl pos [s] σ hb).at h L)
theorem zS0 (p : List It) (hp : ∀ x ∈ p,x.fields.length <= 20000) (s : St) (d : Int) (hwh : s.whole d = true) (i1 : ∀ x ∈ s.body,StmC p x) (i2 : ∀ x ∈ s.els,StmC p x) (i3 : ∀ a ∈ s.arms,∀ x ∈ a.body,StmC p x) (hop : s.op = 11) : StmC p s:=by
 intro σ hb S0 c0 h0 L hLL
 have hex:=zAP hwh
 obtain ⟨c,hc⟩ : ∃ c,c = c0.up:=⟨_,rfl⟩
 obtain ⟨S,hS⟩ : ∃ S,S = L :: S0:=⟨_,rfl⟩
 have h : NAt p S c σ:=by rw [hc,hS]; exact h0.cons L
 have hup : ∀ τ,updF S c τ = L :: updF S0 c0 τ:=fun τ=>by rw [hc,hS]; exact zAT L S0 c0 τ
 have hcd : c0.d + 1 = c.d:=by rw [hc]; rfl
 have hcj : c0.jF = c.jF:=by rw [hc]; rfl
 rw [hcd,hcj,<- hS]
 have hs:=zAG h
 have hndS:=stNd s
 obtain ⟨F,hF⟩ : ∃ F : Nat -> Nf,F = fun q=>σ.add ((s.exprs.take q).flatMap (Ex.nm p σ.made)):=⟨_,rfl⟩
 have hF0 : F 0 = σ:=by rw [hF]; simp [Nf.add_nil]
 obtain ⟨σ1,hσ1⟩ : ∃ σ1,σ1 = σ.add (s.exprs.flatMap (Ex.nm p σ.made)):=⟨_,rfl⟩
 have hFn : F s.exprs.length = σ1:=by rw [hF,hσ1]; simp
 have hFs : ∀ q (hq : q < s.exprs.length),F (q + 1) = (F q).add (s.exprs[q].nm p (F q).made):=fun q hq=>by
  rw [hF];simp only [List.take_succ_eq_append_getElem hq,List.flatMap_append,Nf.add_add];simp [Nf.add]
 have hFb : ∀ q (hq : q < s.exprs.length),(F q).fl.length + s.exprs[q].nd <= 4000000000:=fun q hq=>by
  have e1:=zBM Ex.nd hq
  have e2:=z9 p σ.made (s.exprs.take q)
  have:=hb.1
  rw [hF];simp only [Nf.add,List.length_append];omega
 have hb1 : BdN σ1 (s.nd - (s.exprs.map Ex.nd).sum):=by
  rw [hσ1];exact hb.near (Near.add σ (z9 p σ.made s.exprs)) (by omega)
 have hm1 : σ1.made = σ.made:=by rw [hσ1]; rfl
 have hc1 : σ1.count = σ.count:=by rw [hσ1]; rfl
 have hop1 : σ1.opn = σ.opn:=by rw [hσ1]; rfl
 have hstn:=stNm p s σ
 rw [<- hσ1] at hstn;clear hF
 obtain ⟨τ,hτ⟩ : ∃ τ,τ = zy p s.body s.pos [s.name] (σ1.add (zI (mIs σ1.made s.place.name) 60 s.pos)):=⟨_,rfl⟩
 have hfg : (s.nm p σ).2 = []:=by rw [hstn]; simp [hop]
 have hnm : (s.nm p σ).1 = τ:=by rw [hstn]; simp [hop,hτ,hm1]
 rw [hfg,hnm];refine ⟨[.dead,.dead],.p (.sl 1 []),?_,.inl ⟨rfl,rfl,2,rfl⟩⟩;refine ADet.less (.p (.nil 1)) (ADet.after (S':=(L ++ [.cells ((stV s).map (AV.mrg L.length)) 45,.tok 9 1 1]) :: updF S0 c0 (τ)) ⟨zAy hLL (by trivial),rfl⟩ ?_)
 have hth:=fun L=>(zQE p s.place.name s.pos σ1 (by have:=hb1.1; omega)).at h L
 have hbk:=fun L i=>zVt i1 (hb1.near (Near.add σ1 (zq (mIs σ1.made s.place.name) 60 s.pos)) (by omega)) hτ h L i
 refine ADet.okA Tryz.call130 1 10 rfl rfl fun hok=>?_
 have hlen:=okl hok
 refine ADet.merge mixed Tryz.call130 Tryz.func130 rfl ?_;simp [Tryz.ntmps130];refine zE (fun q : Nat=>q <= s.exprs.length) (fun q=>([.ptr (c.d + 1) c.jF 0,.any,.any,.ptr 0 0 0,nilS,.any,.any,.any,.any,.any,.any,.any,.any,.p (.sl 8 (s.exprs.map Ex.enc)),I s.exprs.length,I q] ++ List.replicate 171 .any)) (fun q=>[.cells (stV s) 45] :: updF S c (F q)) (fun q=>s.exprs.length - q) 0 (Nat.zero_le _) ?_ ?_ ?_
 .simp
 .simp [hF0,hs]
 intro q hq
 by_cases hlt : q < s.exprs.length
 .have hlt' : (q : Int) < (s.exprs.length : Int):=by omega
  have hw:=zD hlt
  have hF1:=hFs q hlt
  have hmu : s.exprs.length - (q + 1) < s.exprs.length - q:=by omega
  have hxe:=fun L=>(zG4 p s.exprs[q] _ (F q) (hex _ (List.getElem_mem hlt)) (hFb q hlt)).at h L
  rw [<- hF1] at hxe
  generalize he : s.exprs[q] = e at *
  simp [hlt,hlt',he,zv];refine ⟨_,_,hxe _,?_⟩;simp;exact ⟨q + 1,hlt,hmu,hw,rfl⟩
 have hlt' : ¬ (q : Int) < (s.exprs.length : Int):=by omega
 have hq2 : q = s.exprs.length:=by omega
 subst hq2;rw [hFn];simp [hop];refine ⟨_,_,hth _,?_⟩;simp;refine ⟨_,_,hbk _ _,?_⟩
 try simp
 rw [hup];simp [zAv,AObj.mrg,AV.mrg,AV.mrgs]
 try exact hop
theorem zVu (p : List It) (hp : ∀ x ∈ p,x.fields.length <= 20000) (s : St) (d : Int) (hwh : s.whole d = true) (i1 : ∀ x ∈ s.body,StmC p x) (i2 : ∀ x ∈ s.els,StmC p x) (i3 : ∀ a ∈ s.arms,∀ x ∈ a.body,StmC p x) (hop : s.op = 9) : StmC p s:=by
 intro σ hb S0 c0 h0 L hLL
 have hex:=zAP hwh
 obtain ⟨c,hc⟩ : ∃ c,c = c0.up:=⟨_,rfl⟩
 obtain ⟨S,hS⟩ : ∃ S,S = L :: S0:=⟨_,rfl⟩
 have h : NAt p S c σ:=by rw [hc,hS]; exact h0.cons L
 have hup : ∀ τ,updF S c τ = L :: updF S0 c0 τ:=fun τ=>by rw [hc,hS]; exact zAT L S0 c0 τ
 have hcd : c0.d + 1 = c.d:=by rw [hc]; rfl
 have hcj : c0.jF = c.jF:=by rw [hc]; rfl
 rw [hcd,hcj,<- hS]
 have hs:=zAG h
 have hndS:=stNd s
 obtain ⟨F,hF⟩ : ∃ F : Nat -> Nf,F = fun q=>σ.add ((s.exprs.take q).flatMap (Ex.nm p σ.made)):=⟨_,rfl⟩
 have hF0 : F 0 = σ:=by rw [hF]; simp [Nf.add_nil]
 obtain ⟨σ1,hσ1⟩ : ∃ σ1,σ1 = σ.add (s.exprs.flatMap (Ex.nm p σ.made)):=⟨_,rfl⟩
 have hFn : F s.exprs.length = σ1:=by rw [hF,hσ1]; simp
 have hFs : ∀ q (hq : q < s.exprs.length),F (q + 1) = (F q).add (s.exprs[q].nm p (F q).made):=fun q hq=>by
  rw [hF];simp only [List.take_succ_eq_append_getElem hq,List.flatMap_append,Nf.add_add];simp [Nf.add]
 have hFb : ∀ q (hq : q < s.exprs.length),(F q).fl.length + s.exprs[q].nd <= 4000000000:=fun q hq=>by
  have e1:=zBM Ex.nd hq
  have e2:=z9 p σ.made (s.exprs.take q)
  have:=hb.1
  rw [hF];simp only [Nf.add,List.length_append];omega
 have hb1 : BdN σ1 (s.nd - (s.exprs.map Ex.nd).sum):=by
  rw [hσ1];exact hb.near (Near.add σ (z9 p σ.made s.exprs)) (by omega)
 have hm1 : σ1.made = σ.made:=by rw [hσ1]; rfl
 have hc1 : σ1.count = σ.count:=by rw [hσ1]; rfl
 have hop1 : σ1.opn = σ.opn:=by rw [hσ1]; rfl
 have hstn:=stNm p s σ
 rw [<- hσ1] at hstn;clear hF
 obtain ⟨τ,hτ⟩ : ∃ τ,τ = zy p s.body s.pos [] ⟨σ1.made,σ1.count,σ1.opn + 1,σ1.fl⟩:=⟨_,rfl⟩
 have hsx : (⟨σ.made,σ.count,σ.opn + 1,σ.fl ++ s.exprs.flatMap (Ex.nm p σ.made)⟩ : Nf) = ⟨σ1.made,σ1.count,σ1.opn + 1,σ1.fl⟩:=by rw [hσ1]; rfl
 have hto : τ.opn = σ1.opn + 1:=by
  have:=zBc p (l:=s.body) (fun x _ σ=>zDp p x σ) s.pos [] ⟨σ1.made,σ1.count,σ1.opn + 1,σ1.fl⟩
  rw [hτ]; exact this.2.2.2.2
 have hfg : (s.nm p σ).2 = []:=by rw [hstn]; simp [hop]
 have hnm : (s.nm p σ).1 = ⟨τ.made,τ.count,τ.opn - 1,τ.fl⟩:=by rw [hstn]; simp [hop,hτ,hsx]
 rw [hfg,hnm];refine ⟨[.dead],.p (.sl 1 []),?_,.inl ⟨rfl,rfl,1,rfl⟩⟩;refine ADet.less (.p (.nil 1)) (ADet.after (S':=(L ++ [.cells ((stV s).map (AV.mrg L.length)) 45]) :: updF S0 c0 (⟨τ.made,τ.count,τ.opn - 1,τ.fl⟩)) ⟨zAy hLL (by trivial),rfl⟩ ?_)
 have hbo : BdN ⟨σ1.made,σ1.count,σ1.opn + 1,σ1.fl⟩ (s.body.map St.nd).sum:=⟨by have:=hb1.1; simp only; omega,by have:=hb1.2.1; simp only; omega,by have:=hb1.2.2; simp only; omega⟩
 have hbk:=fun L=>zLO i1 hbo hτ h L
 have hu1:=zMW S c σ1 (σ1.opn + 1)
 have hu2:=zMW S c τ (τ.opn - 1)
 simp only [fnO] at hu1 hu2
 have g1:=(h.updF σ1).n
 have g2:=(h.updF τ).n
 simp only [fnO] at g1 g2
 have hw1 : IntKind.i64.wrap ((σ1.opn : Int) + 1) = ((σ1.opn + 1 : Nat) : Int):=zD (n:=4294967296) (by have:=hb1.2.2; omega) (by unfold maxLen; omega)
 have hw2 : IntKind.i64.wrap ((τ.opn : Int) - 1) = ((τ.opn - 1 : Nat) : Int):=by
  have:=hb1.2.2
  rw [IntWalk.i64_in _ (by omega)]; omega
 refine ADet.okA Tryz.call130 1 10 rfl rfl fun hok=>?_
 have hlen:=okl hok
 refine ADet.merge mixed Tryz.call130 Tryz.func130 rfl ?_;simp [Tryz.ntmps130];refine zE (fun q : Nat=>q <= s.exprs.length) (fun q=>([.ptr (c.d + 1) c.jF 0,.any,.any,.ptr 0 0 0,nilS,.any,.any,.any,.any,.any,.any,.any,.any,.p (.sl 8 (s.exprs.map Ex.enc)),I s.exprs.length,I q] ++ List.replicate 171 .any)) (fun q=>[.cells (stV s) 45] :: updF S c (F q)) (fun q=>s.exprs.length - q) 0 (Nat.zero_le _) ?_ ?_ ?_
 .simp
 .simp [hF0,hs]
 intro q hq
 by_cases hlt : q < s.exprs.length
 .have hlt' : (q : Int) < (s.exprs.length : Int):=by omega
  have hw:=zD hlt
  have hF1:=hFs q hlt
  have hmu : s.exprs.length - (q + 1) < s.exprs.length - q:=by omega
  have hxe:=fun L=>(zG4 p s.exprs[q] _ (F q) (hex _ (List.getElem_mem hlt)) (hFb q hlt)).at h L
  rw [<- hF1] at hxe
  generalize he : s.exprs[q] = e at *
  simp [hlt,hlt',he,zv];refine ⟨_,_,hxe _,?_⟩;simp;exact ⟨q + 1,hlt,hmu,hw,rfl⟩
 have hlt' : ¬ (q : Int) < (s.exprs.length : Int):=by omega
 have hq2 : q = s.exprs.length:=by omega
 subst hq2;rw [hFn];simp [hop,g1,hw1,zBe];rw [show ((σ1.opn : Int) + 1) = ((σ1.opn + 1 : Nat) : Int) from rfl,hu1]
 refine ⟨_,_,hbk _,?_⟩;simp [g2,hw2,zBe];rw [hu2]
 try simp
 rw [hup];simp [zAv,AObj.mrg,AV.mrg,AV.mrgs]
 try exact hop
theorem zVv (p : List It) (hp : ∀ x ∈ p,x.fields.length <= 20000) (s : St) (d : Int) (hwh : s.whole d = true) (i1 : ∀ x ∈ s.body,StmC p x) (i2 : ∀ x ∈ s.els,StmC p x) (i3 : ∀ a ∈ s.arms,∀ x ∈ a.body,StmC p x) (o1 : ¬ s.op = 1) (o2 : ¬ s.op = 2) (o3 : ¬ s.op = 3) (o5 : ¬ s.op = 5) (o12 : ¬ s.op = 12) (o8 : ¬ s.op = 8) (o10 : ¬ s.op = 10) (o9 : ¬ s.op = 9) (o11 : ¬ s.op = 11) : StmC p s:=by
 intro σ hb S0 c0 h0 L hLL
 have hex:=zAP hwh
 obtain ⟨c,hc⟩ : ∃ c,c = c0.up:=⟨_,rfl⟩
 obtain ⟨S,hS⟩ : ∃ S,S = L :: S0:=⟨_,rfl⟩
 have h : NAt p S c σ:=by rw [hc,hS]; exact h0.cons L
 have hup : ∀ τ,updF S c τ = L :: updF S0 c0 τ:=fun τ=>by rw [hc,hS]; exact zAT L S0 c0 τ
 have hcd : c0.d + 1 = c.d:=by rw [hc]; rfl
 have hcj : c0.jF = c.jF:=by rw [hc]; rfl
 rw [hcd,hcj,<- hS]
 have hs:=zAG h
 have hndS:=stNd s
 obtain ⟨F,hF⟩ : ∃ F : Nat -> Nf,F = fun q=>σ.add ((s.exprs.take q).flatMap (Ex.nm p σ.made)):=⟨_,rfl⟩
 have hF0 : F 0 = σ:=by rw [hF]; simp [Nf.add_nil]
 obtain ⟨σ1,hσ1⟩ : ∃ σ1,σ1 = σ.add (s.exprs.flatMap (Ex.nm p σ.made)):=⟨_,rfl⟩
 have hFn : F s.exprs.length = σ1:=by rw [hF,hσ1]; simp
 have hFs : ∀ q (hq : q < s.exprs.length),F (q + 1) = (F q).add (s.exprs[q].nm p (F q).made):=fun q hq=>by
  rw [hF];simp only [List.take_succ_eq_append_getElem hq,List.flatMap_append,Nf.add_add];simp [Nf.add]
 have hFb : ∀ q (hq : q < s.exprs.length),(F q).fl.length + s.exprs[q].nd <= 4000000000:=fun q hq=>by
  have e1:=zBM Ex.nd hq
  have e2:=z9 p σ.made (s.exprs.take q)
  have:=hb.1
  rw [hF];simp only [Nf.add,List.length_append];omega
 have hb1 : BdN σ1 (s.nd - (s.exprs.map Ex.nd).sum):=by
  rw [hσ1];exact hb.near (Near.add σ (z9 p σ.made s.exprs)) (by omega)
 have hm1 : σ1.made = σ.made:=by rw [hσ1]; rfl
 have hc1 : σ1.count = σ.count:=by rw [hσ1]; rfl
 have hop1 : σ1.opn = σ.opn:=by rw [hσ1]; rfl
 have hstn:=stNm p s σ
 rw [<- hσ1] at hstn;clear hF
 obtain ⟨τ1,hτ1⟩ : ∃ τ,τ = zy p s.body s.pos [] σ1:=⟨_,rfl⟩
 obtain ⟨τ,hτ⟩ : ∃ τ,τ = zy p s.els s.pos [] τ1:=⟨_,rfl⟩
 have hfg : (s.nm p σ).2 = []:=by rw [hstn]; simp [o1,o2,o3,o5,o12,o8,o10,o9,o11]
 have hnm : (s.nm p σ).1 = τ:=by rw [hstn]; simp [o1,o2,o3,o5,o12,o8,o10,o9,o11,hτ,hτ1]
 rw [hfg,hnm];refine ⟨[.dead],.p (.sl 1 []),?_,.inl ⟨rfl,rfl,1,rfl⟩⟩;refine ADet.less (.p (.nil 1)) (ADet.after (S':=(L ++ [.cells ((stV s).map (AV.mrg L.length)) 45]) :: updF S0 c0 (τ)) ⟨zAy hLL (by trivial),rfl⟩ ?_)
 have hbk:=fun L=>zLO i1 (hb1.near (Near.refl σ1) (by omega)) hτ1 h L
 have hnb:=zBc p (l:=s.body) (fun x _ σ=>zDp p x σ) s.pos [] σ1
 rw [<- hτ1] at hnb
 have hbk2:=fun L=>zLO i2 (hb1.near hnb (by simp; omega)) hτ h L
 have e1 : (s.op == 1) = false:=by simpa using o1
 have e2 : (s.op == 2) = false:=by simpa using o2
 have e3 : (s.op == 3) = false:=by simpa using o3
 have e5 : (s.op == 5) = false:=by simpa using o5
 have e12 : (s.op == 12) = false:=by simpa using o12
 have e8 : (s.op == 8) = false:=by simpa using o8
 have e10 : (s.op == 10) = false:=by simpa using o10
 have e9 : (s.op == 9) = false:=by simpa using o9
 have e11 : (s.op == 11) = false:=by simpa using o11
 refine ADet.okA Tryz.call130 1 10 rfl rfl fun hok=>?_
 have hlen:=okl hok
 refine ADet.merge mixed Tryz.call130 Tryz.func130 rfl ?_;simp [Tryz.ntmps130];refine zE (fun q : Nat=>q <= s.exprs.length) (fun q=>([.ptr (c.d + 1) c.jF 0,.any,.any,.ptr 0 0 0,nilS,.any,.any,.any,.any,.any,.any,.any,.any,.p (.sl 8 (s.exprs.map Ex.enc)),I s.exprs.length,I q] ++ List.replicate 171 .any)) (fun q=>[.cells (stV s) 45] :: updF S c (F q)) (fun q=>s.exprs.length - q) 0 (Nat.zero_le _) ?_ ?_ ?_
 .simp
 .simp [hF0,hs]
 intro q hq
 by_cases hlt : q < s.exprs.length
 .have hlt' : (q : Int) < (s.exprs.length : Int):=by omega
  have hw:=zD hlt
  have hF1:=hFs q hlt
  have hmu : s.exprs.length - (q + 1) < s.exprs.length - q:=by omega
  have hxe:=fun L=>(zG4 p s.exprs[q] _ (F q) (hex _ (List.getElem_mem hlt)) (hFb q hlt)).at h L
  rw [<- hF1] at hxe
  generalize he : s.exprs[q] = e at *
  simp [hlt,hlt',he,zv];refine ⟨_,_,hxe _,?_⟩;simp;exact ⟨q + 1,hlt,hmu,hw,rfl⟩
 have hlt' : ¬ (q : Int) < (s.exprs.length : Int):=by omega
 have hq2 : q = s.exprs.length:=by omega
 subst hq2;rw [hFn];simp [o1,o2,o3,o5,o12,o8,o10,o9,o11,e1,e2,e3,e5,e12,e8,e10,e9,e11];refine ⟨_,_,hbk _,?_⟩;simp;refine ⟨_,_,hbk2 _,?_⟩
 try simp
 rw [hup];simp [zAv,AObj.mrg,AV.mrg,AV.mrgs]
 try exact hop
end Go.Proofs.YtlclonljdagpkaaGreatDoor
namespace Go.Proofs.YtlclonljdagpkaaGreatDoor
open Go.RowKit
attribute [local simp] List.replicate List.range List.range.loop resA zR retA AV.cuts AV.cut AObj.cut trim wkR wkT wkL wkN wkNR wkNL wkM wkMR wkML zAi zAZ zY zAj zAb zQ rowA zf zT List.forall_mem_cons List.contains_cons List.contains_nil List.find? ze zd zS LCp LCl refL
theorem zVw (p : List It) (hp : ∀ x ∈ p,x.fields.length <= 20000) (s : St) (d : Int) (hwh : s.whole d = true) (i1 : ∀ x ∈ s.body,StmC p x) (i2 : ∀ x ∈ s.els,StmC p x) (i3 : ∀ a ∈ s.arms,∀ x ∈ a.body,StmC p x) (hop : s.op = 1) : StmC p s:=by
 intro σ hb S0 c0 h0 L hLL
 have hex:=zAP hwh
 obtain ⟨c,hc⟩ : ∃ c,c = c0.up:=⟨_,rfl⟩
 obtain ⟨S,hS⟩ : ∃ S,S = L :: S0:=⟨_,rfl⟩
 have h : NAt p S c σ:=by rw [hc,hS]; exact h0.cons L
 have hup : ∀ τ,updF S c τ = L :: updF S0 c0 τ:=fun τ=>by rw [hc,hS]; exact zAT L S0 c0 τ
 have hcd : c0.d + 1 = c.d:=by rw [hc]; rfl
 have hcj : c0.jF = c.jF:=by rw [hc]; rfl
 rw [hcd,hcj,<- hS]
 have hs:=zAG h
 have hndS:=stNd s
 obtain ⟨F,hF⟩ : ∃ F : Nat -> Nf,F = fun q=>σ.add ((s.exprs.take q).flatMap (Ex.nm p σ.made)):=⟨_,rfl⟩
 have hF0 : F 0 = σ:=by rw [hF]; simp [Nf.add_nil]
 obtain ⟨σ1,hσ1⟩ : ∃ σ1,σ1 = σ.add (s.exprs.flatMap (Ex.nm p σ.made)):=⟨_,rfl⟩
 have hFn : F s.exprs.length = σ1:=by rw [hF,hσ1]; simp
 have hFs : ∀ q (hq : q < s.exprs.length),F (q + 1) = (F q).add (s.exprs[q].nm p (F q).made):=fun q hq=>by
  rw [hF];simp only [List.take_succ_eq_append_getElem hq,List.flatMap_append,Nf.add_add];simp [Nf.add]
 have hFb : ∀ q (hq : q < s.exprs.length),(F q).fl.length + s.exprs[q].nd <= 4000000000:=fun q hq=>by
  have e1:=zBM Ex.nd hq
  have e2:=z9 p σ.made (s.exprs.take q)
  have:=hb.1
  rw [hF];simp only [Nf.add,List.length_append];omega
 have hb1 : BdN σ1 (s.nd - (s.exprs.map Ex.nd).sum):=by
  rw [hσ1];exact hb.near (Near.add σ (z9 p σ.made s.exprs)) (by omega)
 have hm1 : σ1.made = σ.made:=by rw [hσ1]; rfl
 have hc1 : σ1.count = σ.count:=by rw [hσ1]; rfl
 have hop1 : σ1.opn = σ.opn:=by rw [hσ1]; rfl
 have hstn:=stNm p s σ
 rw [<- hσ1] at hstn;clear hF
 have hfg : (s.nm p σ).2 = [(s.name,mIs σ1.made s.name)]:=by rw [hstn]; simp [hop,Nf.mkS]
 have hnm : (s.nm p σ).1 = σ1.mk1 s.name s.pos:=by rw [hstn]; simp [hop,Nf.mkS]
 rw [hfg,hnm];refine ⟨List.replicate 2 .dead ++ [.row 1 1 1 [clo c0.up (s.name,mIs σ1.made s.name)]],.rsl 0 (L.length + 2) 1 1,?_,.inr ⟨2,rfl,rfl⟩⟩;refine ADet.after (S':=(L ++ [.cells ((stV s).map (AV.mrg L.length)) 45,.cells [clo c0.up (s.name,mIs σ1.made s.name)] 1,.row 1 1 1 [clo c0.up (s.name,mIs σ1.made s.name)]]) :: updF S0 c0 (σ1.mk1 s.name s.pos)) ⟨zAy hLL (by exact ⟨⟨⟨rfl,rfl,rfl⟩,zL _⟩,trivial⟩),rfl⟩ ?_
 have hmk:=fun L=>zG5 (p:=p) (s:=s.name) (pos:=s.pos) (σ:=σ1) (by have:=hb1.1; omega) (by have:=hb1.2.1; omega) h L
 have hcl : ∀ n b,clo c.up (n,b) = .fn (.func 219) [] [.bx [B b],.bx [.ptr (c.d + 1) c.jF 0],.bx [Sg n]]:=fun _ _=>rfl
 have hcl0 : ∀ n b,clo c0.up (n,b) = .fn (.func 219) [] [.bx [B b],.bx [.ptr c.d c.jF 0],.bx [Sg n]]:=fun n b=>by rw [<- hcd,<- hcj]; rfl
 refine ADet.okA Tryz.call130 1 10 rfl rfl fun hok=>?_
 have hlen:=okl hok
 refine ADet.merge mixed Tryz.call130 Tryz.func130 rfl ?_;simp [Tryz.ntmps130];refine zE (fun q : Nat=>q <= s.exprs.length) (fun q=>([.ptr (c.d + 1) c.jF 0,.any,.any,.ptr 0 0 0,nilS,.any,.any,.any,.any,.any,.any,.any,.any,.p (.sl 8 (s.exprs.map Ex.enc)),I s.exprs.length,I q] ++ List.replicate 171 .any)) (fun q=>[.cells (stV s) 45] :: updF S c (F q)) (fun q=>s.exprs.length - q) 0 (Nat.zero_le _) ?_ ?_ ?_
 .simp
 .simp [hF0,hs]
 intro q hq
 by_cases hlt : q < s.exprs.length
 .have hlt' : (q : Int) < (s.exprs.length : Int):=by omega
  have hw:=zD hlt
  have hF1:=hFs q hlt
  have hmu : s.exprs.length - (q + 1) < s.exprs.length - q:=by omega
  have hxe:=fun L=>(zG4 p s.exprs[q] _ (F q) (hex _ (List.getElem_mem hlt)) (hFb q hlt)).at h L
  rw [<- hF1] at hxe
  generalize he : s.exprs[q] = e at *
  simp [hlt,hlt',he,zv];refine ⟨_,_,hxe _,?_⟩;simp;exact ⟨q + 1,hlt,hmu,hw,rfl⟩
 have hlt' : ¬ (q : Int) < (s.exprs.length : Int):=by omega
 have hq2 : q = s.exprs.length:=by omega
 subst hq2;rw [hFn];simp [hop];refine ⟨_,_,hmk _,?_⟩;simp [hcl];rw [hup];rw [hcl0];rw [<- hcd,<- hcj];simp [zAv,AObj.mrg,AV.mrg,AV.mrgs]
 try exact hop
theorem zS1 (p : List It) (hp : ∀ x ∈ p,x.fields.length <= 20000) (s : St) (d : Int) (hwh : s.whole d = true) (i1 : ∀ x ∈ s.body,StmC p x) (i2 : ∀ x ∈ s.els,StmC p x) (i3 : ∀ a ∈ s.arms,∀ x ∈ a.body,StmC p x) (hop : s.op = 12) : StmC p s:=by
 intro σ hb S0 c0 h0 L hLL
 have hex:=zAP hwh
 obtain ⟨c,hc⟩ : ∃ c,c = c0.up:=⟨_,rfl⟩
 obtain ⟨S,hS⟩ : ∃ S,S = L :: S0:=⟨_,rfl⟩
 have h : NAt p S c σ:=by rw [hc,hS]; exact h0.cons L
 have hup : ∀ τ,updF S c τ = L :: updF S0 c0 τ:=fun τ=>by rw [hc,hS]; exact zAT L S0 c0 τ
 have hcd : c0.d + 1 = c.d:=by rw [hc]; rfl
 have hcj : c0.jF = c.jF:=by rw [hc]; rfl
 rw [hcd,hcj,<- hS]
 have hs:=zAG h
 have hndS:=stNd s
 obtain ⟨F,hF⟩ : ∃ F : Nat -> Nf,F = fun q=>σ.add ((s.exprs.take q).flatMap (Ex.nm p σ.made)):=⟨_,rfl⟩
 have hF0 : F 0 = σ:=by rw [hF]; simp [Nf.add_nil]
 obtain ⟨σ1,hσ1⟩ : ∃ σ1,σ1 = σ.add (s.exprs.flatMap (Ex.nm p σ.made)):=⟨_,rfl⟩
 have hFn : F s.exprs.length = σ1:=by rw [hF,hσ1]; simp
 have hFs : ∀ q (hq : q < s.exprs.length),F (q + 1) = (F q).add (s.exprs[q].nm p (F q).made):=fun q hq=>by
  rw [hF];simp only [List.take_succ_eq_append_getElem hq,List.flatMap_append,Nf.add_add];simp [Nf.add]
 have hFb : ∀ q (hq : q < s.exprs.length),(F q).fl.length + s.exprs[q].nd <= 4000000000:=fun q hq=>by
  have e1:=zBM Ex.nd hq
  have e2:=z9 p σ.made (s.exprs.take q)
  have:=hb.1
  rw [hF];simp only [Nf.add,List.length_append];omega
 have hb1 : BdN σ1 (s.nd - (s.exprs.map Ex.nd).sum):=by
  rw [hσ1];exact hb.near (Near.add σ (z9 p σ.made s.exprs)) (by omega)
 have hm1 : σ1.made = σ.made:=by rw [hσ1]; rfl
 have hc1 : σ1.count = σ.count:=by rw [hσ1]; rfl
 have hop1 : σ1.opn = σ.opn:=by rw [hσ1]; rfl
 have hstn:=stNm p s σ
 rw [<- hσ1] at hstn;clear hF
 obtain ⟨σ2,hσ2⟩ : ∃ σ2,σ2 = σ1.add (s.type.nm p s.pos):=⟨_,rfl⟩
 obtain ⟨σ3,hσ3⟩ : ∃ σ3,σ3 = σ2.mk1 s.name s.pos:=⟨_,rfl⟩
 have hb2 : BdN σ2 2:=by rw [hσ2]; exact hb1.near (Near.add σ1 (zD8 p s.pos s.type)) (by omega)
 have hb3 : BdN σ3 1:=by
  have:=(zAo [s.name] s.pos σ2).1
  simp only [Nf.mkS] at this;rw [<- hσ3] at this;exact hb2.near this (by simp)
 have hfg : (s.nm p σ).2 = [(s.name,mIs σ2.made s.name),(s.second,mIs σ3.made s.second)]:=by rw [hstn,hσ3,hσ2]; simp [hop,Nf.mkS]
 have hnm : (s.nm p σ).1 = σ3.mk1 s.second s.pos:=by rw [hstn,hσ3,hσ2]; simp [hop,Nf.mkS]
 rw [hfg,hnm];refine ⟨List.replicate 2 .dead ++ [.row 1 1 2 [clo c0.up (s.name,mIs σ2.made s.name),clo c0.up (s.second,mIs σ3.made s.second)]],.rsl 0 (L.length + 2) 2 1,?_,.inr ⟨2,rfl,rfl⟩⟩;refine ADet.after (S':=(L ++ [.cells ((stV s).map (AV.mrg L.length)) 45,.cells [clo c0.up (s.name,mIs σ2.made s.name),clo c0.up (s.second,mIs σ3.made s.second)] 1,.row 1 1 2 [clo c0.up (s.name,mIs σ2.made s.name),clo c0.up (s.second,mIs σ3.made s.second)]]) :: updF S0 c0 (σ3.mk1 s.second s.pos)) ⟨zAy hLL (by exact ⟨⟨⟨rfl,rfl,rfl⟩,zL _⟩,trivial⟩),rfl⟩ ?_
 have hkd : ∀ L : List AObj,ADet Tryz.prog 59 [.ptr (c.k + c.d + 1) 3 0,tyV s.type,I s.pos] (L :: updF S c σ1) .un (L :: updF S c σ2):=fun L=>by
  have:=(zVk p s.pos s.type σ1.fl (by have:=hb1.1; omega)).inF h L
  rw [hσ2];exact this
 have hmk:=fun L=>zG5 (p:=p) (s:=s.name) (pos:=s.pos) (σ:=σ2) (by have:=hb2.1; omega) (by have:=hb2.2.1; omega) h L
 rw [<- hσ3] at hmk
 have hmk2:=fun L=>zG5 (p:=p) (s:=s.second) (pos:=s.pos) (σ:=σ3) (by have:=hb3.1; omega) (by have:=hb3.2.1; omega) h L
 have g1:=(h.updF σ1).n
 simp only [fnO] at g1
 have hcl : ∀ n b,clo c.up (n,b) = .fn (.func 219) [] [.bx [B b],.bx [.ptr (c.d + 1) c.jF 0],.bx [Sg n]]:=fun _ _=>rfl
 have hcl0 : ∀ n b,clo c0.up (n,b) = .fn (.func 219) [] [.bx [B b],.bx [.ptr c.d c.jF 0],.bx [Sg n]]:=fun n b=>by rw [<- hcd,<- hcj]; rfl
 refine ADet.okA Tryz.call130 1 10 rfl rfl fun hok=>?_
 have hlen:=okl hok
 refine ADet.merge mixed Tryz.call130 Tryz.func130 rfl ?_;simp [Tryz.ntmps130];refine zE (fun q : Nat=>q <= s.exprs.length) (fun q=>([.ptr (c.d + 1) c.jF 0,.any,.any,.ptr 0 0 0,nilS,.any,.any,.any,.any,.any,.any,.any,.any,.p (.sl 8 (s.exprs.map Ex.enc)),I s.exprs.length,I q] ++ List.replicate 171 .any)) (fun q=>[.cells (stV s) 45] :: updF S c (F q)) (fun q=>s.exprs.length - q) 0 (Nat.zero_le _) ?_ ?_ ?_
 .simp
 .simp [hF0,hs]
 intro q hq
 by_cases hlt : q < s.exprs.length
 .have hlt' : (q : Int) < (s.exprs.length : Int):=by omega
  have hw:=zD hlt
  have hF1:=hFs q hlt
  have hmu : s.exprs.length - (q + 1) < s.exprs.length - q:=by omega
  have hxe:=fun L=>(zG4 p s.exprs[q] _ (F q) (hex _ (List.getElem_mem hlt)) (hFb q hlt)).at h L
  rw [<- hF1] at hxe
  generalize he : s.exprs[q] = e at *
  simp [hlt,hlt',he,zv];refine ⟨_,_,hxe _,?_⟩;simp;exact ⟨q + 1,hlt,hmu,hw,rfl⟩
 have hlt' : ¬ (q : Int) < (s.exprs.length : Int):=by omega
 have hq2 : q = s.exprs.length:=by omega
 subst hq2;rw [hFn];simp [hop];refine zA [] (by kernel_rfl) (by kernel_rfl) ?_
 simp [g1];refine ⟨_,_,hkd _,?_⟩;simp;refine zA [(9,6),(11,6)] (by kernel_rfl) (by kernel_rfl) ?_
 simp;refine ⟨_,_,hmk _,?_⟩;simp;refine ⟨_,_,hmk2 _,?_⟩;simp [hcl];rw [hup];rw [hcl0,hcl0];rw [<- hcd,<- hcj];simp [zAv,AObj.mrg,AV.mrg,AV.mrgs]
 try exact hop
theorem zMX (n : Nat) (c : Cf) : ∀ l : List Fg,AV.mrgs n (l.map (clo c.up.up)) = l.map (clo c.up)
 | []=>rfl
 | g :: l=>by
  rw [List.map_cons,List.map_cons,AV.mrgs,zMX n c l];rfl
abbrev anyI : List AV:=[.any,.any,.any,.any,.any,.any,.any,.any,.any,.any,.any,.any,.any,.any,.any,.any]
theorem zVx (p : List It) (hp : ∀ x ∈ p,x.fields.length <= 20000) (s : St) (d : Int) (hwh : s.whole d = true) (i1 : ∀ x ∈ s.body,StmC p x) (i2 : ∀ x ∈ s.els,StmC p x) (i3 : ∀ a ∈ s.arms,∀ x ∈ a.body,StmC p x) (hop : s.op = 2) : StmC p s:=by
 intro σ hb S0 c0 h0 L hLL
 have hex:=zAP hwh
 obtain ⟨c,hc⟩ : ∃ c,c = c0.up:=⟨_,rfl⟩
 obtain ⟨S,hS⟩ : ∃ S,S = L :: S0:=⟨_,rfl⟩
 have h : NAt p S c σ:=by rw [hc,hS]; exact h0.cons L
 have hup : ∀ τ,updF S c τ = L :: updF S0 c0 τ:=fun τ=>by rw [hc,hS]; exact zAT L S0 c0 τ
 have hcd : c0.d + 1 = c.d:=by rw [hc]; rfl
 have hcj : c0.jF = c.jF:=by rw [hc]; rfl
 rw [hcd,hcj,<- hS]
 have hs:=zAG h
 have hndS:=stNd s
 obtain ⟨F,hF⟩ : ∃ F : Nat -> Nf,F = fun q=>σ.add ((s.exprs.take q).flatMap (Ex.nm p σ.made)):=⟨_,rfl⟩
 have hF0 : F 0 = σ:=by rw [hF]; simp [Nf.add_nil]
 obtain ⟨σ1,hσ1⟩ : ∃ σ1,σ1 = σ.add (s.exprs.flatMap (Ex.nm p σ.made)):=⟨_,rfl⟩
 have hFn : F s.exprs.length = σ1:=by rw [hF,hσ1]; simp
 have hFs : ∀ q (hq : q < s.exprs.length),F (q + 1) = (F q).add (s.exprs[q].nm p (F q).made):=fun q hq=>by
  rw [hF];simp only [List.take_succ_eq_append_getElem hq,List.flatMap_append,Nf.add_add];simp [Nf.add]
 have hFb : ∀ q (hq : q < s.exprs.length),(F q).fl.length + s.exprs[q].nd <= 4000000000:=fun q hq=>by
  have e1:=zBM Ex.nd hq
  have e2:=z9 p σ.made (s.exprs.take q)
  have:=hb.1
  rw [hF];simp only [Nf.add,List.length_append];omega
 have hb1 : BdN σ1 (s.nd - (s.exprs.map Ex.nd).sum):=by
  rw [hσ1];exact hb.near (Near.add σ (z9 p σ.made s.exprs)) (by omega)
 have hm1 : σ1.made = σ.made:=by rw [hσ1]; rfl
 have hc1 : σ1.count = σ.count:=by rw [hσ1]; rfl
 have hop1 : σ1.opn = σ.opn:=by rw [hσ1]; rfl
 have hstn:=stNm p s σ
 rw [<- hσ1] at hstn;clear hF
 obtain ⟨bb,hbv⟩ : ∃ bb,bb = zIu p s.name s.names.length:=⟨_,rfl⟩
 obtain ⟨σ2,hσ2⟩ : ∃ σ2,σ2 = σ1.add (zI bb 60 s.pos):=⟨_,rfl⟩
 have hnl4 : s.names.length <= 4000000000:=by
  have:=hb.1
  omega
 have hnl : s.names.length <= maxLen:=by unfold maxLen; omega
 have hb2 : BdN σ2 s.names.length:=by rw [hσ2]; exact hb1.near (Near.add σ1 (zq bb 60 s.pos)) (by omega)
 obtain ⟨G,hG⟩ : ∃ G : Nat -> Nf × List Fg,G = fun q=>Nf.mkS (s.names.take q) s.pos σ2:=⟨_,rfl⟩
 have hG0 : G 0 = (σ2,[]):=by rw [hG]; simp [Nf.mkS]
 have hGn : G s.names.length = Nf.mkS s.names s.pos σ2:=by rw [hG]; simp
 have hGs : ∀ q (hq : q < s.names.length),G (q + 1) = ((G q).1.mk1 s.names[q] s.pos,(G q).2 ++ [(s.names[q],mIs (G q).1.made s.names[q])]):=fun q hq=>by
  rw [hG];simp only [List.take_succ_eq_append_getElem hq,zI0];simp [Nf.mkS]
 have hGb : ∀ q,q < s.names.length -> BdN (G q).1 1:=fun q hq=>by
  have e2:=(zAo (s.names.take q) s.pos σ2).1
  rw [hG];exact hb2.near e2 (by simp; omega)
 have hGl : (G s.names.length).2.length = s.names.length:=by rw [hGn]; exact (zAo s.names s.pos σ2).2
 have hfg : (s.nm p σ).2 = (G s.names.length).2:=by rw [hGn,hstn,hσ2,hbv]; simp [hop]
 have hnm : (s.nm p σ).1 = (G s.names.length).1:=by rw [hGn,hstn,hσ2,hbv]; simp [hop]
 clear hG;rw [hfg,hnm];refine ⟨List.replicate 2 .dead ++ [.row 1 1 s.names.length ((G s.names.length).2.map (clo c0.up))],.rsl 0 (L.length + 2) s.names.length 1,?_,.inr ⟨2,by rw [hGl],by rw [hGl]⟩⟩
 refine ADet.after (S':=(L ++ [.cells ((stV s).map (AV.mrg L.length)) 45,.cells anyI 42,.row 1 1 s.names.length ((G s.names.length).2.map (clo c0.up))]) :: updF S0 c0 (G s.names.length).1) ⟨zAy hLL (by exact ⟨⟨⟨rfl,rfl,rfl⟩,zL _⟩,trivial⟩),rfl⟩ ?_
 have hwr:=fun b L=>(zDS p b 60 s.pos σ1.fl (by have:=hb1.1; omega)).inF h L
 have hst : ∀ X,(⟨σ1.made,σ1.count,σ1.opn,σ1.fl ++ X⟩ : Nf) = σ1.add X:=fun X=>rfl
 simp only [hst] at hwr
 have g1:=(h.updF σ1).n
 simp only [fnO] at g1
 have hi1:=fun L=>zIB p 1 s.name σ1.fl (L :: updF S c σ1) _ ((h.updF σ1).k.cons L)
 simp only [Cf.e] at hi1;unfold zNj at hi1;unfold zIu zGx at hbv
 have hcm : ∀ (n : Nat) (l : List Fg),AV.mrgs n (l.map (clo c.up)) = l.map (clo c0.up):=fun n l=>by
  rw [hc];exact zMX n c0 l
 refine ADet.okA Tryz.call130 1 10 rfl rfl fun hok=>?_
 have hlen:=okl hok
 refine ADet.merge mixed Tryz.call130 Tryz.func130 rfl ?_;simp [Tryz.ntmps130];refine zE (fun q : Nat=>q <= s.exprs.length) (fun q=>([.ptr (c.d + 1) c.jF 0,.any,.any,.ptr 0 0 0,nilS,.any,.any,.any,.any,.any,.any,.any,.any,.p (.sl 8 (s.exprs.map Ex.enc)),I s.exprs.length,I q] ++ List.replicate 171 .any)) (fun q=>[.cells (stV s) 45] :: updF S c (F q)) (fun q=>s.exprs.length - q) 0 (Nat.zero_le _) ?_ ?_ ?_
 .simp
 .simp [hF0,hs]
 intro q hq
 by_cases hlt : q < s.exprs.length
 .have hlt' : (q : Int) < (s.exprs.length : Int):=by omega
  have hw:=zD hlt
  have hF1:=hFs q hlt
  have hmu : s.exprs.length - (q + 1) < s.exprs.length - q:=by omega
  have hxe:=fun L=>(zG4 p s.exprs[q] _ (F q) (hex _ (List.getElem_mem hlt)) (hFb q hlt)).at h L
  rw [<- hF1] at hxe
  generalize he : s.exprs[q] = e at *
  simp [hlt,hlt',he,zv];refine ⟨_,_,hxe _,?_⟩;simp;exact ⟨q + 1,hlt,hmu,hw,rfl⟩
 have hlt' : ¬ (q : Int) < (s.exprs.length : Int):=by omega
 have hq2 : q = s.exprs.length:=by omega
 subst hq2;rw [hFn];simp [hop];refine zDf [(10,11,8)] [] (by kernel_rfl) (by kernel_rfl) (by kernel_rfl) (by simp) ?_
 cases hfi : zAM p s.name with
 | none =>
  rw [hfi] at hi1 hbv
  have hbb : σ2 = σ1.add (zI false 60 s.pos):=by rw [hσ2,hbv]; simp
  simp [g1];refine ⟨_,_,hi1 _,?_⟩;simp [strs];refine zA [] (by kernel_rfl) (by kernel_rfl) ?_
  simp [g1];refine ⟨_,_,hwr false _,?_⟩;simp [strs];refine zCf 1 1 (by decide) [.cells (stV s) 45,.cells anyI 42] (fun q : Nat=>q <= s.names.length) (fun q=>([.ptr (c.d + 1) c.jF 0,.any,.any,.ptr 0 0 0,.any,.any,.any,.rsl 0 2 q 1] ++ (List.replicate 70 .any ++ ([.p (.sl 1 (s.names.map fun s=>[pS s])),I s.names.length,I q] ++ List.replicate 106 .any)))) (fun q=>[.cells (stV s) 45,.cells anyI 42,.row 1 1 q ((G q).2.map (clo c.up))] :: updF S c (G q).1) (fun q=>s.names.length - q) (fun _=>3) 0 (Nat.zero_le _) ?_ ?_ ?_ ?_ ?_
  .intro q _; simp
  .simp
  .simp
  .simp [hG0,hbb]
  intro q hq
  by_cases hlt : q < s.names.length
  .have hlt' : (q : Int) < (s.names.length : Int):=by omega
   have hw:=zD hlt hnl
   have hG1:=hGs q hlt
   have hmu : s.names.length - (q + 1) < s.names.length - q:=by omega
   have hbq:=hGb q hlt
   have hmk:=fun L=>zG5 (p:=p) (s:=s.names[q]) (pos:=s.pos) (σ:=(G q).1) (by have:=hbq.1; omega) (by have:=hbq.2.1; omega) h L
   have hle : q + 1 <= 4294967296:=by omega
   generalize he : s.names[q] = x at *
   have hcl : ∀ b,clo c.up (x,b) = .fn (.func 219) [] [.bx [B b],.bx [.ptr (c.d + 1) c.jF 0],.bx [Sg x]]:=fun _=>rfl
   have e2 : AV.cuts 3 ((G q).2.map (clo c.up) ++ [clo c.up (x,mIs (G q).1.made x)]) = (G (q + 1)).2.map (clo c.up):=by
    rw [show (G q).2.map (clo c.up) ++ [clo c.up (x,mIs (G q).1.made x)] = ((G q).2 ++ [(x,mIs (G q).1.made x)]).map (clo c.up) by simp,zEF,hG1]
   have e3 : (G (q + 1)).1 = (G q).1.mk1 x s.pos:=by rw [hG1]
   rw [<- e3] at hmk
   generalize (G q).2.map (clo c.up) = rc at *
   simp [hlt,hlt',he];refine ⟨_,_,hmk _,?_⟩;simp [hle,hcl];refine ⟨q + 1,hlt,hmu,⟨rfl,hw⟩,⟨rfl,?_⟩,rfl⟩;rw [<- e2,hcl];exact zL _
  .have hlt' : ¬ (q : Int) < (s.names.length : Int):=by omega
   have hq2 : q = s.names.length:=by omega
   subst hq2;simp;rw [hup];rw [<- hop];simp [zAv,AObj.mrg,AV.mrg,AV.mrgs,hcm]
   exact ⟨rfl,rfl⟩
 | some x =>
  rw [hfi] at hi1 hbv;simp only [Option.bind_some] at hbv;simp [g1];refine ⟨_,_,hi1 _,?_⟩;simp [strs];refine zA [] (by kernel_rfl) (by kernel_rfl) ?_
  by_cases hk : x.kind = 1
  .have hdk : decide (x.kind = 1) = true:=decide_eq_true hk
   have hbe : ((x.fields.length : Int) == (s.names.length : Int)) = decide (x.fields.length = s.names.length):=by rw [Bool.eq_iff_iff]; simp; omega
   have hbb : σ2 = σ1.add (zI (decide (x.fields.length = s.names.length)) 60 s.pos):=by rw [hσ2,hbv,if_pos hk]
   simp [g1,hdk,strs,hbe];refine ⟨_,_,hwr (decide (x.fields.length = s.names.length)) _,?_⟩;simp [strs];refine zCf 1 1 (by decide) [.cells (stV s) 45,.cells anyI 42] (fun q : Nat=>q <= s.names.length) (fun q=>([.ptr (c.d + 1) c.jF 0,.any,.any,.ptr 0 0 0,.any,.any,.any,.rsl 0 2 q 1] ++ (List.replicate 70 .any ++ ([.p (.sl 1 (s.names.map fun s=>[pS s])),I s.names.length,I q] ++ List.replicate 106 .any)))) (fun q=>[.cells (stV s) 45,.cells anyI 42,.row 1 1 q ((G q).2.map (clo c.up))] :: updF S c (G q).1) (fun q=>s.names.length - q) (fun _=>3) 0 (Nat.zero_le _) ?_ ?_ ?_ ?_ ?_
   .intro q _; simp
   .simp
   .simp
   .simp [hG0,hbb]
   intro q hq
   by_cases hlt : q < s.names.length
   .have hlt' : (q : Int) < (s.names.length : Int):=by omega
    have hw:=zD hlt hnl
    have hG1:=hGs q hlt
    have hmu : s.names.length - (q + 1) < s.names.length - q:=by omega
    have hbq:=hGb q hlt
    have hmk:=fun L=>zG5 (p:=p) (s:=s.names[q]) (pos:=s.pos) (σ:=(G q).1) (by have:=hbq.1; omega) (by have:=hbq.2.1; omega) h L
    have hle : q + 1 <= 4294967296:=by omega
    generalize he : s.names[q] = x at *
    have hcl : ∀ b,clo c.up (x,b) = .fn (.func 219) [] [.bx [B b],.bx [.ptr (c.d + 1) c.jF 0],.bx [Sg x]]:=fun _=>rfl
    have e2 : AV.cuts 3 ((G q).2.map (clo c.up) ++ [clo c.up (x,mIs (G q).1.made x)]) = (G (q + 1)).2.map (clo c.up):=by
     rw [show (G q).2.map (clo c.up) ++ [clo c.up (x,mIs (G q).1.made x)] = ((G q).2 ++ [(x,mIs (G q).1.made x)]).map (clo c.up) by simp,zEF,hG1]
    have e3 : (G (q + 1)).1 = (G q).1.mk1 x s.pos:=by rw [hG1]
    rw [<- e3] at hmk
    generalize (G q).2.map (clo c.up) = rc at *
    simp [hlt,hlt',he];refine ⟨_,_,hmk _,?_⟩;simp [hle,hcl];refine ⟨q + 1,hlt,hmu,⟨rfl,hw⟩,⟨rfl,?_⟩,rfl⟩;rw [<- e2,hcl];exact zL _
   .have hlt' : ¬ (q : Int) < (s.names.length : Int):=by omega
    have hq2 : q = s.names.length:=by omega
    subst hq2;simp;rw [hup];rw [<- hop];simp [zAv,AObj.mrg,AV.mrg,AV.mrgs,hcm];exact ⟨rfl,rfl⟩
  .have hbb : σ2 = σ1.add (zI false 60 s.pos):=by rw [hσ2,hbv,if_neg hk]
   simp [g1,hk];refine ⟨_,_,hwr false _,?_⟩;simp [strs];refine zCf 1 1 (by decide) [.cells (stV s) 45,.cells anyI 42] (fun q : Nat=>q <= s.names.length) (fun q=>([.ptr (c.d + 1) c.jF 0,.any,.any,.ptr 0 0 0,.any,.any,.any,.rsl 0 2 q 1] ++ (List.replicate 70 .any ++ ([.p (.sl 1 (s.names.map fun s=>[pS s])),I s.names.length,I q] ++ List.replicate 106 .any)))) (fun q=>[.cells (stV s) 45,.cells anyI 42,.row 1 1 q ((G q).2.map (clo c.up))] :: updF S c (G q).1) (fun q=>s.names.length - q) (fun _=>3) 0 (Nat.zero_le _) ?_ ?_ ?_ ?_ ?_
   .intro q _; simp
   .simp
   .simp
   .simp [hG0,hbb]
   intro q hq
   by_cases hlt : q < s.names.length
   .have hlt' : (q : Int) < (s.names.length : Int):=by omega
    have hw:=zD hlt hnl
    have hG1:=hGs q hlt
    have hmu : s.names.length - (q + 1) < s.names.length - q:=by omega
    have hbq:=hGb q hlt
    have hmk:=fun L=>zG5 (p:=p) (s:=s.names[q]) (pos:=s.pos) (σ:=(G q).1) (by have:=hbq.1; omega) (by have:=hbq.2.1; omega) h L
    have hle : q + 1 <= 4294967296:=by omega
    generalize he : s.names[q] = x at *
    have hcl : ∀ b,clo c.up (x,b) = .fn (.func 219) [] [.bx [B b],.bx [.ptr (c.d + 1) c.jF 0],.bx [Sg x]]:=fun _=>rfl
    have e2 : AV.cuts 3 ((G q).2.map (clo c.up) ++ [clo c.up (x,mIs (G q).1.made x)]) = (G (q + 1)).2.map (clo c.up):=by
     rw [show (G q).2.map (clo c.up) ++ [clo c.up (x,mIs (G q).1.made x)] = ((G q).2 ++ [(x,mIs (G q).1.made x)]).map (clo c.up) by simp,zEF,hG1]
    have e3 : (G (q + 1)).1 = (G q).1.mk1 x s.pos:=by rw [hG1]
    rw [<- e3] at hmk
    generalize (G q).2.map (clo c.up) = rc at *
    simp [hlt,hlt',he];refine ⟨_,_,hmk _,?_⟩;simp [hle,hcl];refine ⟨q + 1,hlt,hmu,⟨rfl,hw⟩,⟨rfl,?_⟩,rfl⟩;rw [<- e2,hcl];exact zL _
   .have hlt' : ¬ (q : Int) < (s.names.length : Int):=by omega
    have hq2 : q = s.names.length:=by omega
    subst hq2;simp;rw [hup];rw [<- hop];simp [zAv,AObj.mrg,AV.mrg,AV.mrgs,hcm];exact ⟨rfl,rfl⟩
end Go.Proofs.YtlclonljdagpkaaGreatDoor
