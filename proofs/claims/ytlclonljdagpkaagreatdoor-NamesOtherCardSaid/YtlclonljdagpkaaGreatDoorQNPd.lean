/- A part of the proof. The statement is proved in the claim's last text. -/
import Derived.Test.YtlclonljdagpkaaGreatDoorQNPc
set_option linter.unusedVariables false
set_option linter.unusedSimpArgs false
set_option maxRecDepth 100000
set_option maxHeartbeats 32000000
namespace Go.Proofs.YtlclonljdagpkaaGreatDoor
open Go.RowKit
attribute [local simp] List.replicate List.range List.range.loop resA zR retA AV.cuts AV.cut AObj.cut trim wkR wkT wkL wkN wkNR wkNL wkM wkMR wkML
theorem zAP {s : St} {d : Int} (h : s.whole d = true) : ∀ e ∈ s.exprs,e.whole (d - 1) = true:=fun e he=>by
 rw [zB] at h;simp only [Bool.and_eq_true] at h
 have hx:=h.2.2.2.2.2.1
 unfold exsB z5 at hx;simp only [Bool.and_eq_true,decide_eq_true_eq] at hx;rw [List.take_of_length_le (by omega)] at hx
 have:=List.all_eq_true.1 hx.2 e he
 simp only [Bool.and_eq_true] at this;exact this.2
theorem zAy : ∀ {L A B : List AObj},wkL L L -> wkL A B -> wkL (L ++ A) (L ++ B)
 | [],A,B,_,h=>h
 | o :: L,A,B,hL,h=>by
  have key : wkL [o] [o] /\ wkL L L:=by cases o <;> simp_all [wkL]
  exact zD7 key.1 (zAy key.2 h)
theorem zVq (p : List It) (hp : ∀ x ∈ p,x.fields.length <= 20000) (s : St) (d : Int) (hwh : s.whole d = true) (i1 : ∀ x ∈ s.body,StmC p x) (i2 : ∀ x ∈ s.els,StmC p x) (i3 : ∀ a ∈ s.arms,∀ x ∈ a.body,StmC p x) (hop : s.op = 3) : StmC p s:=by
 intro σ hb S0 c0 h0 L hLL
 have hex:=zAP hwh
 obtain ⟨c,hc⟩ : ∃ c,c = c0.up:=⟨_,rfl⟩
 obtain ⟨S,hS⟩ : ∃ S,S = L :: S0:=⟨_,rfl⟩
 have h : NAt p S c σ:=by rw [hc,hS]; exact h0.cons L
 have hup : ∀ τ,updF S c τ = L :: updF S0 c0 τ:=fun τ=>by rw [hc,hS]; exact zAT L S0 c0 τ
 have hcd : c0.d + 1 = c.d:=by rw [hc]; rfl
 have hcj : c0.jF = c.jF:=by rw [hc]; rfl
 rw [hcd,hcj,<- hS]
 have hs:=zAG h
 have hndS:=stNd s
 obtain ⟨F,hF⟩ : ∃ F : Nat -> Nf,F = fun q=>σ.add ((s.exprs.take q).flatMap (Ex.nm p σ.made)):=⟨_,rfl⟩
 have hF0 : F 0 = σ:=by rw [hF]; simp [Nf.add_nil]
 obtain ⟨σ1,hσ1⟩ : ∃ σ1,σ1 = σ.add (s.exprs.flatMap (Ex.nm p σ.made)):=⟨_,rfl⟩
 have hFn : F s.exprs.length = σ1:=by rw [hF,hσ1]; simp
 have hFs : ∀ q (hq : q < s.exprs.length),F (q + 1) = (F q).add (s.exprs[q].nm p (F q).made):=fun q hq=>by
  rw [hF];simp only [List.take_succ_eq_append_getElem hq,List.flatMap_append,Nf.add_add];simp [Nf.add]
 have hFb : ∀ q (hq : q < s.exprs.length),(F q).fl.length + s.exprs[q].nd <= 4000000000:=fun q hq=>by
  have e1:=zBM Ex.nd hq
  have e2:=z9 p σ.made (s.exprs.take q)
  have:=hb.1
  rw [hF];simp only [Nf.add,List.length_append];omega
 have hb1 : BdN σ1 (s.nd - (s.exprs.map Ex.nd).sum):=by
  rw [hσ1];exact hb.near (Near.add σ (z9 p σ.made s.exprs)) (by omega)
 have hm1 : σ1.made = σ.made:=by rw [hσ1]; rfl
 have hc1 : σ1.count = σ.count:=by rw [hσ1]; rfl
 have hop1 : σ1.opn = σ.opn:=by rw [hσ1]; rfl
 have hstn:=stNm p s σ
 rw [<- hσ1] at hstn;clear hF
 have hfg : (s.nm p σ).2 = []:=by rw [hstn]; simp [hop]
 have hnm : (s.nm p σ).1 = σ1.add (zI (mIs σ1.made s.place.name) 60 s.pos):=by rw [hstn]; simp [hop,hm1]
 rw [hfg,hnm];refine ⟨[.dead],.p (.sl 1 []),?_,.inl ⟨rfl,rfl,1,rfl⟩⟩;refine ADet.less (.p (.nil 1)) (ADet.after (S':=(L ++ [.cells ((stV s).map (AV.mrg L.length)) 45]) :: updF S0 c0 (σ1.add (zI (mIs σ1.made s.place.name) 60 s.pos))) ⟨zAy hLL (by trivial),rfl⟩ ?_)
 have hth:=fun L=>(zQE p s.place.name s.pos σ1 (by have:=hb1.1; omega)).at h L
 refine ADet.okA Tryz.call130 1 10 rfl rfl fun hok=>?_
 have hlen:=okl hok
 refine ADet.merge mixed Tryz.call130 Tryz.func130 rfl ?_;simp [Tryz.ntmps130];refine zE (fun q : Nat=>q <= s.exprs.length) (fun q=>([.ptr (c.d + 1) c.jF 0,.any,.any,.ptr 0 0 0,nilS,.any,.any,.any,.any,.any,.any,.any,.any,.p (.sl 8 (s.exprs.map Ex.enc)),I s.exprs.length,I q] ++ List.replicate 171 .any)) (fun q=>[.cells (stV s) 45] :: updF S c (F q)) (fun q=>s.exprs.length - q) 0 (Nat.zero_le _) ?_ ?_ ?_
 .simp
 .simp [hF0,hs]
 intro q hq
 by_cases hlt : q < s.exprs.length
 .have hlt' : (q : Int) < (s.exprs.length : Int):=by omega
  have hw:=zD hlt
  have hF1:=hFs q hlt
  have hmu : s.exprs.length - (q + 1) < s.exprs.length - q:=by omega
  have hxe:=fun L=>(zG4 p s.exprs[q] _ (F q) (hex _ (List.getElem_mem hlt)) (hFb q hlt)).at h L
  rw [<- hF1] at hxe
  generalize he : s.exprs[q] = e at *
  simp [hlt,hlt',he,zv];refine ⟨_,_,hxe _,?_⟩;simp;exact ⟨q + 1,hlt,hmu,hw,rfl⟩
 have hlt' : ¬ (q : Int) < (s.exprs.length : Int):=by omega
 have hq2 : q = s.exprs.length:=by omega
 subst hq2;rw [hFn];simp [hop];refine ⟨_,_,hth _,?_⟩
 try simp
 rw [hup];simp [zAv,AObj.mrg,AV.mrg,AV.mrgs]
 try exact hop
theorem zVr (p : List It) (hp : ∀ x ∈ p,x.fields.length <= 20000) (s : St) (d : Int) (hwh : s.whole d = true) (i1 : ∀ x ∈ s.body,StmC p x) (i2 : ∀ x ∈ s.els,StmC p x) (i3 : ∀ a ∈ s.arms,∀ x ∈ a.body,StmC p x) (hop : s.op = 5) : StmC p s:=by
 intro σ hb S0 c0 h0 L hLL
 have hex:=zAP hwh
 obtain ⟨c,hc⟩ : ∃ c,c = c0.up:=⟨_,rfl⟩
 obtain ⟨S,hS⟩ : ∃ S,S = L :: S0:=⟨_,rfl⟩
 have h : NAt p S c σ:=by rw [hc,hS]; exact h0.cons L
 have hup : ∀ τ,updF S c τ = L :: updF S0 c0 τ:=fun τ=>by rw [hc,hS]; exact zAT L S0 c0 τ
 have hcd : c0.d + 1 = c.d:=by rw [hc]; rfl
 have hcj : c0.jF = c.jF:=by rw [hc]; rfl
 rw [hcd,hcj,<- hS]
 have hs:=zAG h
 have hndS:=stNd s
 obtain ⟨F,hF⟩ : ∃ F : Nat -> Nf,F = fun q=>σ.add ((s.exprs.take q).flatMap (Ex.nm p σ.made)):=⟨_,rfl⟩
 have hF0 : F 0 = σ:=by rw [hF]; simp [Nf.add_nil]
 obtain ⟨σ1,hσ1⟩ : ∃ σ1,σ1 = σ.add (s.exprs.flatMap (Ex.nm p σ.made)):=⟨_,rfl⟩
 have hFn : F s.exprs.length = σ1:=by rw [hF,hσ1]; simp
 have hFs : ∀ q (hq : q < s.exprs.length),F (q + 1) = (F q).add (s.exprs[q].nm p (F q).made):=fun q hq=>by
  rw [hF];simp only [List.take_succ_eq_append_getElem hq,List.flatMap_append,Nf.add_add];simp [Nf.add]
 have hFb : ∀ q (hq : q < s.exprs.length),(F q).fl.length + s.exprs[q].nd <= 4000000000:=fun q hq=>by
  have e1:=zBM Ex.nd hq
  have e2:=z9 p σ.made (s.exprs.take q)
  have:=hb.1
  rw [hF];simp only [Nf.add,List.length_append];omega
 have hb1 : BdN σ1 (s.nd - (s.exprs.map Ex.nd).sum):=by
  rw [hσ1];exact hb.near (Near.add σ (z9 p σ.made s.exprs)) (by omega)
 have hm1 : σ1.made = σ.made:=by rw [hσ1]; rfl
 have hc1 : σ1.count = σ.count:=by rw [hσ1]; rfl
 have hop1 : σ1.opn = σ.opn:=by rw [hσ1]; rfl
 have hstn:=stNm p s σ
 rw [<- hσ1] at hstn;clear hF
 have hfg : (s.nm p σ).2 = []:=by rw [hstn]; simp [hop]
 have hnm : (s.nm p σ).1 = σ1.add (zI (mIs σ1.made s.name) 60 s.pos):=by rw [hstn]; simp [hop,hm1]
 rw [hfg,hnm];refine ⟨[.dead],.p (.sl 1 []),?_,.inl ⟨rfl,rfl,1,rfl⟩⟩;refine ADet.less (.p (.nil 1)) (ADet.after (S':=(L ++ [.cells ((stV s).map (AV.mrg L.length)) 45]) :: updF S0 c0 (σ1.add (zI (mIs σ1.made s.name) 60 s.pos))) ⟨zAy hLL (by trivial),rfl⟩ ?_)
 have hth:=fun L=>(zQE p s.name s.pos σ1 (by have:=hb1.1; omega)).at h L
 refine ADet.okA Tryz.call130 1 10 rfl rfl fun hok=>?_
 have hlen:=okl hok
 refine ADet.merge mixed Tryz.call130 Tryz.func130 rfl ?_;simp [Tryz.ntmps130];refine zE (fun q : Nat=>q <= s.exprs.length) (fun q=>([.ptr (c.d + 1) c.jF 0,.any,.any,.ptr 0 0 0,nilS,.any,.any,.any,.any,.any,.any,.any,.any,.p (.sl 8 (s.exprs.map Ex.enc)),I s.exprs.length,I q] ++ List.replicate 171 .any)) (fun q=>[.cells (stV s) 45] :: updF S c (F q)) (fun q=>s.exprs.length - q) 0 (Nat.zero_le _) ?_ ?_ ?_
 .simp
 .simp [hF0,hs]
 intro q hq
 by_cases hlt : q < s.exprs.length
 .have hlt' : (q : Int) < (s.exprs.length : Int):=by omega
  have hw:=zD hlt
  have hF1:=hFs q hlt
  have hmu : s.exprs.length - (q + 1) < s.exprs.length - q:=by omega
  have hxe:=fun L=>(zG4 p s.exprs[q] _ (F q) (hex _ (List.getElem_mem hlt)) (hFb q hlt)).at h L
  rw [<- hF1] at hxe
  generalize he : s.exprs[q] = e at *
  simp [hlt,hlt',he,zv];refine ⟨_,_,hxe _,?_⟩;simp;exact ⟨q + 1,hlt,hmu,hw,rfl⟩
 have hlt' : ¬ (q : Int) < (s.exprs.length : Int):=by omega
 have hq2 : q = s.exprs.length:=by omega
 subst hq2;rw [hFn];simp [hop];refine ⟨_,_,hth _,?_⟩
 try simp
 rw [hup];simp [zAv,AObj.mrg,AV.mrg,AV.mrgs]
 try exact hop
theorem zVs (p : List It) (hp : ∀ x ∈ p,x.fields.length <= 20000) (s : St) (d : Int) (hwh : s.whole d = true) (i1 : ∀ x ∈ s.body,StmC p x) (i2 : ∀ x ∈ s.els,StmC p x) (i3 : ∀ a ∈ s.arms,∀ x ∈ a.body,StmC p x) (hop : s.op = 8) : StmC p s:=by
 intro σ hb S0 c0 h0 L hLL
 have hex:=zAP hwh
 obtain ⟨c,hc⟩ : ∃ c,c = c0.up:=⟨_,rfl⟩
 obtain ⟨S,hS⟩ : ∃ S,S = L :: S0:=⟨_,rfl⟩
 have h : NAt p S c σ:=by rw [hc,hS]; exact h0.cons L
 have hup : ∀ τ,updF S c τ = L :: updF S0 c0 τ:=fun τ=>by rw [hc,hS]; exact zAT L S0 c0 τ
 have hcd : c0.d + 1 = c.d:=by rw [hc]; rfl
 have hcj : c0.jF = c.jF:=by rw [hc]; rfl
 rw [hcd,hcj,<- hS]
 have hs:=zAG h
 have hndS:=stNd s
 obtain ⟨F,hF⟩ : ∃ F : Nat -> Nf,F = fun q=>σ.add ((s.exprs.take q).flatMap (Ex.nm p σ.made)):=⟨_,rfl⟩
 have hF0 : F 0 = σ:=by rw [hF]; simp [Nf.add_nil]
 obtain ⟨σ1,hσ1⟩ : ∃ σ1,σ1 = σ.add (s.exprs.flatMap (Ex.nm p σ.made)):=⟨_,rfl⟩
 have hFn : F s.exprs.length = σ1:=by rw [hF,hσ1]; simp
 have hFs : ∀ q (hq : q < s.exprs.length),F (q + 1) = (F q).add (s.exprs[q].nm p (F q).made):=fun q hq=>by
  rw [hF];simp only [List.take_succ_eq_append_getElem hq,List.flatMap_append,Nf.add_add];simp [Nf.add]
 have hFb : ∀ q (hq : q < s.exprs.length),(F q).fl.length + s.exprs[q].nd <= 4000000000:=fun q hq=>by
  have e1:=zBM Ex.nd hq
  have e2:=z9 p σ.made (s.exprs.take q)
  have:=hb.1
  rw [hF];simp only [Nf.add,List.length_append];omega
 have hb1 : BdN σ1 (s.nd - (s.exprs.map Ex.nd).sum):=by
  rw [hσ1];exact hb.near (Near.add σ (z9 p σ.made s.exprs)) (by omega)
 have hm1 : σ1.made = σ.made:=by rw [hσ1]; rfl
 have hc1 : σ1.count = σ.count:=by rw [hσ1]; rfl
 have hop1 : σ1.opn = σ.opn:=by rw [hσ1]; rfl
 have hstn:=stNm p s σ
 rw [<- hσ1] at hstn;clear hF
 have hfg : (s.nm p σ).2 = []:=by rw [hstn]; simp [hop]
 have hnm : (s.nm p σ).1 = s.arms.foldl (fun σ a=>a.nm p s.pos σ) (σ1.add (zI (mIs σ1.made s.name && zDn p s.second (s.arms.map armF)) 60 s.pos)):=by rw [hstn]; simp [hop,hm1]
 rw [hfg,hnm];refine ⟨[.dead],.p (.sl 1 []),?_,.inl ⟨rfl,rfl,1,rfl⟩⟩;refine ADet.less (.p (.nil 1)) (ADet.after (S':=(L ++ [.cells ((stV s).map (AV.mrg L.length)) 45]) :: updF S0 c0 (s.arms.foldl (fun σ a=>a.nm p s.pos σ) (σ1.add (zI (mIs σ1.made s.name && zDn p s.second (s.arms.map armF)) 60 s.pos)))) ⟨zAy hLL (by trivial),rfl⟩ ?_)
 have hwh2:=hwh
 rw [zB] at hwh2;simp only [Bool.and_eq_true,Bool.or_eq_true,decide_eq_true_eq] at hwh2
 have hal : s.arms.length <= 20000:=by
  have:=hwh2.2.2.2.2.2.2.2.2
  unfold z5 at this;simp only [Bool.and_eq_true,decide_eq_true_eq] at this;omega
 have hmt:=fun L=>(zX8 p hp s i3 hal σ1 (hb1.near (Near.refl σ1) (by omega))).at h L
 refine ADet.okA Tryz.call130 1 10 rfl rfl fun hok=>?_
 have hlen:=okl hok
 refine ADet.merge mixed Tryz.call130 Tryz.func130 rfl ?_;simp [Tryz.ntmps130];refine zE (fun q : Nat=>q <= s.exprs.length) (fun q=>([.ptr (c.d + 1) c.jF 0,.any,.any,.ptr 0 0 0,nilS,.any,.any,.any,.any,.any,.any,.any,.any,.p (.sl 8 (s.exprs.map Ex.enc)),I s.exprs.length,I q] ++ List.replicate 171 .any)) (fun q=>[.cells (stV s) 45] :: updF S c (F q)) (fun q=>s.exprs.length - q) 0 (Nat.zero_le _) ?_ ?_ ?_
 .simp
 .simp [hF0,hs]
 intro q hq
 by_cases hlt : q < s.exprs.length
 .have hlt' : (q : Int) < (s.exprs.length : Int):=by omega
  have hw:=zD hlt
  have hF1:=hFs q hlt
  have hmu : s.exprs.length - (q + 1) < s.exprs.length - q:=by omega
  have hxe:=fun L=>(zG4 p s.exprs[q] _ (F q) (hex _ (List.getElem_mem hlt)) (hFb q hlt)).at h L
  rw [<- hF1] at hxe
  generalize he : s.exprs[q] = e at *
  simp [hlt,hlt',he,zv];refine ⟨_,_,hxe _,?_⟩;simp;exact ⟨q + 1,hlt,hmu,hw,rfl⟩
 have hlt' : ¬ (q : Int) < (s.exprs.length : Int):=by omega
 have hq2 : q = s.exprs.length:=by omega
 subst hq2;rw [hFn];simp [hop];rw [<- hop];refine ⟨_,_,hmt _,?_⟩
 try simp
 rw [hup];simp [zAv,AObj.mrg,AV.mrg,AV.mrgs]
 try exact hop
theorem zSz (p : List It) (hp : ∀ x ∈ p,x.fields.length <= 20000) (s : St) (d : Int) (hwh : s.whole d = true) (i1 : ∀ x ∈ s.body,StmC p x) (i2 : ∀ x ∈ s.els,StmC p x) (i3 : ∀ a ∈ s.arms,∀ x ∈ a.body,StmC p x) (hop : s.op = 10) : StmC p s:=by
 intro σ hb S0 c0 h0 L hLL
 have hex:=zAP hwh
 obtain ⟨c,hc⟩ : ∃ c,c = c0.up:=⟨_,rfl⟩
 obtain ⟨S,hS⟩ : ∃ S,S = L :: S0:=⟨_,rfl⟩
 have h : NAt p S c σ:=by rw [hc,hS]; exact h0.cons L
 have hup : ∀ τ,updF S c τ = L :: updF S0 c0 τ:=fun τ=>by rw [hc,hS]; exact zAT L S0 c0 τ
 have hcd : c0.d + 1 = c.d:=by rw [hc]; rfl
 have hcj : c0.jF = c.jF:=by rw [hc]; rfl
 rw [hcd,hcj,<- hS]
 have hs:=zAG h
 have hndS:=stNd s
 obtain ⟨F,hF⟩ : ∃ F : Nat -> Nf,F = fun q=>σ.add ((s.exprs.take q).flatMap (Ex.nm p σ.made)):=⟨_,rfl⟩
 have hF0 : F 0 = σ:=by rw [hF]; simp [Nf.add_nil]
 obtain ⟨σ1,hσ1⟩ : ∃ σ1,σ1 = σ.add (s.exprs.flatMap (Ex.nm p σ.made)):=⟨_,rfl⟩
 have hFn : F s.exprs.length = σ1:=by rw [hF,hσ1]; simp
 have hFs : ∀ q (hq : q < s.exprs.length),F (q + 1) = (F q).add (s.exprs[q].nm p (F q).made):=fun q hq=>by
  rw [hF];simp only [List.take_succ_eq_append_getElem hq,List.flatMap_append,Nf.add_add];simp [Nf.add]
 have hFb : ∀ q (hq : q < s.exprs.length),(F q).fl.length + s.exprs[q].nd <= 4000000000:=fun q hq=>by
  have e1:=zBM Ex.nd hq
  have e2:=z9 p σ.made (s.exprs.take q)
  have:=hb.1
  rw [hF];simp only [Nf.add,List.length_append];omega
 have hb1 : BdN σ1 (s.nd - (s.exprs.map Ex.nd).sum):=by
  rw [hσ1];exact hb.near (Near.add σ (z9 p σ.made s.exprs)) (by omega)
 have hm1 : σ1.made = σ.made:=by rw [hσ1]; rfl
 have hc1 : σ1.count = σ.count:=by rw [hσ1]; rfl
 have hop1 : σ1.opn = σ.opn:=by rw [hσ1]; rfl
 have hstn:=stNm p s σ
 rw [<- hσ1] at hstn;clear hF
 have hsx : σ.fl ++ s.exprs.flatMap (Ex.nm p σ.made) = σ1.fl:=by rw [hσ1]; rfl
 have hfg : (s.nm p σ).2 = []:=by rw [hstn]; simp [hop]
 have hnm : (s.nm p σ).1 = ⟨σ1.made,σ1.count,σ1.opn,(zBQ p s.body s.pos s.names (σ1.fl ++ zI (decide (0 < σ1.opn)) 61 s.pos)).fl ++ zI (decide ((zBQ p s.body s.pos s.names (σ1.fl ++ zI (decide (0 < σ1.opn)) 61 s.pos)).count <= 60)) 4 s.pos⟩:=by rw [hstn]; simp [hop,hm1,hc1,hop1,hsx]
 rw [hfg,hnm];refine ⟨[.dead],.p (.sl 1 []),?_,.inl ⟨rfl,rfl,1,rfl⟩⟩;refine ADet.less (.p (.nil 1)) (ADet.after (S':=(L ++ [.cells ((stV s).map (AV.mrg L.length)) 45]) :: updF S0 c0 (⟨σ1.made,σ1.count,σ1.opn,(zBQ p s.body s.pos s.names (σ1.fl ++ zI (decide (0 < σ1.opn)) 61 s.pos)).fl ++ zI (decide ((zBQ p s.body s.pos s.names (σ1.fl ++ zI (decide (0 < σ1.opn)) 61 s.pos)).count <= 60)) 4 s.pos⟩)) ⟨zAy hLL (by trivial),rfl⟩ ?_)
 have hsw:=fun L=>(zX9 p s i1 σ1 (hb1.near (Near.refl σ1) (by omega))).at h L
 refine ADet.okA Tryz.call130 1 10 rfl rfl fun hok=>?_
 have hlen:=okl hok
 refine ADet.merge mixed Tryz.call130 Tryz.func130 rfl ?_;simp [Tryz.ntmps130];refine zE (fun q : Nat=>q <= s.exprs.length) (fun q=>([.ptr (c.d + 1) c.jF 0,.any,.any,.ptr 0 0 0,nilS,.any,.any,.any,.any,.any,.any,.any,.any,.p (.sl 8 (s.exprs.map Ex.enc)),I s.exprs.length,I q] ++ List.replicate 171 .any)) (fun q=>[.cells (stV s) 45] :: updF S c (F q)) (fun q=>s.exprs.length - q) 0 (Nat.zero_le _) ?_ ?_ ?_
 .simp
 .simp [hF0,hs]
 intro q hq
 by_cases hlt : q < s.exprs.length
 .have hlt' : (q : Int) < (s.exprs.length : Int):=by omega
  have hw:=zD hlt
  have hF1:=hFs q hlt
  have hmu : s.exprs.length - (q + 1) < s.exprs.length - q:=by omega
  have hxe:=fun L=>(zG4 p s.exprs[q] _ (F q) (hex _ (List.getElem_mem hlt)) (hFb q hlt)).at h L
  rw [<- hF1] at hxe
  generalize he : s.exprs[q] = e at *
  simp [hlt,hlt',he,zv];refine ⟨_,_,hxe _,?_⟩;simp;exact ⟨q + 1,hlt,hmu,hw,rfl⟩
 have hlt' : ¬ (q : Int) < (s.exprs.length : Int):=by omega
 have hq2 : q = s.exprs.length:=by omega
 subst hq2;rw [hFn];simp [hop];rw [<- hop];refine ⟨_,_,hsw _,?_⟩
 try simp
 rw [hup];simp [zAv,AObj.mrg,AV.mrg,AV.mrgs]
 try exact hop
end Go.Proofs.YtlclonljdagpkaaGreatDoor
