/- A part of the proof. The statement is proved in the claim's last text. -/
import Derived.Test.YtlclonljdagpkaaGreatDoorQNPa
import Derived.Test.YtlclonljdagpkaaGreatDoorQMLt
import Derived.Test.YtlclonljdagpkaaGreatDoorQMLe
set_option linter.unusedVariables false
set_option linter.unusedSimpArgs false
set_option maxRecDepth 100000
set_option maxHeartbeats 32000000
namespace Go.Proofs.YtlclonljdagpkaaGreatDoor
open Go.RowKit
attribute [local simp] List.replicate List.range List.range.loop resA zR retA zAi zAZ zY zAj zAb zQ rowA zf zT List.forall_mem_cons List.contains_cons List.contains_nil List.find? ze zd zS LCp LCl refL
theorem zMT : ∀ (fs : List Fi) (ss : List ByteArray),fs.length = ss.length -> (litB fs ss = true ↔ ∀ i (h1 : i < fs.length) (h2 : i < ss.length),sEq fs[i].name ss[i] = true)
 | [],[],_=>by simp [litB]
 | f :: fs,s :: ss,h=>by
  have ih:=zMT fs ss (by simpa using h)
  unfold litB;rw [Bool.and_eq_true,ih];constructor
  .rintro ⟨h1,h2⟩ i i1 i2
   cases i with
   | zero=>exact h1
   | succ i=>exact h2 i (by simpa using i1) (by simpa using i2)
  .intro hall
   exact ⟨hall 0 (by simp) (by simp),fun i i1 i2=>hall (i + 1) (by simpa using i1) (by simpa using i2)⟩
 | [],_ :: _,h=>by simp at h
 | _ :: _,[],h=>by simp at h
theorem zVo (p : List It) (e : Ex) (h19 : ¬ e.op = 19) (σ : Nf) (S : ASt) (c : Cf) (h : NAt p S c σ) : ADet Tryz.prog 131 [.ptr c.d c.jF 0,exV e] S (B (zBb p σ.made e.op e.name e.second e.place e.args.length)) S:=by
 refine ADet.okA Tryz.call131 1 6 rfl rfl fun hok=>?_
 have hlen:=okl hok
 have ho:=h.n
 have hm:=h.m
 have ht:=h.k.t
 have hf:=h.k.f
 have hl:=h.k.l
 simp only [fnO] at ho;simp only [mdO] at hm;simp only [nlO,Cf.e] at hl;simp only [Cf.e] at ht hf
 have hl' : ∀ L : List AObj,get2 (L :: S) (c.k + (c.d + 1)) 3 = some (.cells [.mp 0 1,.mp 0 2,.rsl 0 4 σ.fl.length 2] 115):=fun L=>hl
 have hf' : ∀ L : List AObj,get2 (L :: S) (c.k + (c.d + 1)) 2 = some (.map (itE (zAC p true p.length))):=fun L=>hf
 unfold zBb
 have hitem:=fun k=>zIB p k e.name σ.fl S _ h.k
 have hi1:=fun k L=>zIB p k e.name σ.fl (L :: S) _ (h.k.cons L)
 simp only [Cf.e] at hi1;unfold zNj at hi1;refine ADet.intro mixed Tryz.call131 Tryz.func131 rfl ?_
 by_cases h18 : e.op = 18
 .obtain ⟨j,hj⟩:=zMP p e.name
  simp [Tryz.ntmps131,h18];refine zA [(3,13),(6,13),(8,13),(9,13)] (by kernel_rfl) (by kernel_rfl) ?_
  cases hfi : fnIt p e.name with
  | none =>
   rw [hfi] at hj;simp only [Option.map_none] at hj
   simp [ho,hl',hf',hj]
  | some x =>
   rw [hfi] at hj;simp only [Option.map_some] at hj;simp [ho,hl',hf',hj];rw [Bool.eq_iff_iff,beq_iff_eq,decide_eq_true_eq]; omega
 have e18 : (e.op == 18) = false:=by simpa using h18
 by_cases h20 : e.op = 20
 .have hvC:=fun x S=>zIx x e.second S
  have hvZ : ∀ S,ADet Tryz.prog 192 [itZ1,Sg e.second] S (.tup [fiZ1,B false]) S:=fun S=>ADet.sub (by repeat' constructor) (zIx ⟨0,emS,[],.mk 0 emS [],[],.mk 0 0 emS emS ⟨emS,[]⟩ [] 0,0⟩ e.second S)
  unfold zGD at hvC;simp [Tryz.ntmps131,h20];refine zDf [(10,11,7)] [] (by kernel_rfl) (by kernel_rfl) (by kernel_rfl) (by simp) ?_
  cases hfi : zAM p e.name with
  | none =>
   rw [hfi] at hi1;simp [ho];refine ⟨_,_,hi1 2 _,?_⟩;simp;refine ⟨_,_,hvZ _,?_⟩
   simp
  | some x =>
   rw [hfi] at hi1;simp [ho];refine ⟨_,_,hi1 2 _,?_⟩;simp;refine ⟨_,_,hvC _ _,?_⟩
   cases hvf : zA5 x.fields e.second with
   | none =>
    by_cases hk : x.kind = 2
    .simp [hk]
    .simp [hk]
   | some v =>
    by_cases hk : x.kind = 2
    .simp [hk]
     by_cases hz : v.type.kind = 0
     .simp [hz]
     .have hz' : (v.type.kind != 0) = true:=by simpa using hz
      simp [hz,hz']
    .simp [hk]
 have e20 : (e.op == 20) = false:=by simpa using h20
 have e19 : (e.op == 19) = false:=by simpa using h19
 simp [Tryz.ntmps131,h18,h20,h19,e18,e20,e19];refine zA [] (by kernel_rfl) (by kernel_rfl) ?_
 cases hs : sEq e.place.name emS with
 | true=>simp [hs]
 | false =>
  rcases zCU e.place.name σ.made 0 with ⟨h1,h2,h3⟩ | ⟨j,b,h1,h2,h3⟩
  .have hi : mIs σ.made e.place.name = false:=by unfold mIs; rw [h1]; rfl
   simp [hs,ho,hm,h2,hi]
  .have hi : mIs σ.made e.place.name = b:=by unfold mIs; rw [h1]; rfl
   simp [hs,ho,hm,h2,hi]
end Go.Proofs.YtlclonljdagpkaaGreatDoor
namespace Go.Proofs.YtlclonljdagpkaaGreatDoor
open Go.RowKit
attribute [local simp] List.replicate List.range List.range.loop resA zR retA AV.cuts AV.cut AObj.cut trim wkR wkT wkL wkN wkNR wkNL wkM wkMR wkML zAi zAZ zY zAj zAb zQ rowA zf zT List.forall_mem_cons List.contains_cons List.contains_nil List.find? ze zd zS LCp LCl refL
theorem zVp (p : List It) (e : Ex) (h19 : e.op = 19) (hpl : e.place.path.length = e.args.length) (σ : Nf) (S : ASt) (c : Cf) (h : NAt p S c σ) : ADet Tryz.prog 131 [.ptr c.d c.jF 0,exV e] S (B (zBb p σ.made e.op e.name e.second e.place e.args.length)) S:=by
 refine ADet.okA Tryz.call131 1 6 rfl rfl fun hok=>?_
 have hlen:=okl hok
 have ho:=h.n
 have hm:=h.m
 have ht:=h.k.t
 have hf:=h.k.f
 have hl:=h.k.l
 simp only [fnO] at ho;simp only [mdO] at hm;simp only [nlO,Cf.e] at hl;simp only [Cf.e] at ht hf
 have hl' : ∀ L : List AObj,get2 (L :: S) (c.k + (c.d + 1)) 3 = some (.cells [.mp 0 1,.mp 0 2,.rsl 0 4 σ.fl.length 2] 115):=fun L=>hl
 have hf' : ∀ L : List AObj,get2 (L :: S) (c.k + (c.d + 1)) 2 = some (.map (itE (zAC p true p.length))):=fun L=>hf
 unfold zBb
 have hitem:=fun k=>zIB p k e.name σ.fl S _ h.k
 have hi1:=fun k L=>zIB p k e.name σ.fl (L :: S) _ (h.k.cons L)
 simp only [Cf.e] at hi1;unfold zNj at hi1;refine ADet.intro mixed Tryz.call131 Tryz.func131 rfl ?_;simp [Tryz.ntmps131,h19];refine zDf [(10,11,11)] [] (by kernel_rfl) (by kernel_rfl) (by kernel_rfl) (by simp) ?_
 cases hfi : zAM p e.name with
 | none =>
  rw [hfi] at hi1;simp [ho];refine ⟨_,_,hi1 1 _,?_⟩;simp;refine zE (fun q : Nat=>q = 0) (fun q=>([.ptr (c.d + 1) c.jF 0,.any,.any,.ptr 0 0 0,.any,.any,.any,.any,.any,.any,.any,.any,B false,I q] ++ List.replicate 122 .any)) (fun q=>[.cells [U e.op,I e.int,Sg e.name,Sg e.second,Sg e.place.name,.p (strs e.place.path),.p (.sl 8 (e.args.map Ex.enc)),I e.pos] 40,.dead] :: S) (fun q=>0) 0 rfl ?_ ?_ ?_
  .simp
  .simp [h19]
  rintro q rfl
  by_cases hz : 0 < e.args.length
  .simp [hz]
  .simp [hz]
 | some x =>
  rw [hfi] at hi1;simp [ho];refine ⟨_,_,hi1 1 _,?_⟩
  by_cases hk : x.kind = 1
  .by_cases hn : x.fields.length = e.args.length
   .simp [hk,hn]
    have hpl' : e.place.path.length = x.fields.length:=by omega
    have hlx : x.fields.length <= maxLen:=by rw [hn]; exact hlen
    obtain ⟨R,hR⟩ : ∃ R,R = litB x.fields e.place.path:=⟨_,rfl⟩
    have hlit:=zMT x.fields e.place.path hpl'.symm
    rw [<- hR] at hlit;refine zE (fun y : Nat × Bool=>y.1 <= x.fields.length /\ (y.2 = true -> ∀ i (h1 : i < x.fields.length) (h2 : i < e.place.path.length),i < y.1 -> sEq x.fields[i].name e.place.path[i] = true) /\ (y.2 = false -> R = false)) (fun y=>([.ptr (c.d + 1) c.jF 0,.any,.any,.ptr 0 0 0,.any,.any,.any,.any,.any,.any,.any,.ptr 0 1 0,B y.2,I y.1] ++ List.replicate 122 .any)) (fun y=>[.cells [U e.op,I e.int,Sg e.name,Sg e.second,Sg e.place.name,.p (strs e.place.path),.p (.sl 8 (e.args.map Ex.enc)),I e.pos] 40,.cells (itU x) 42] :: S) (fun y=>x.fields.length - y.1) (0,true) ⟨Nat.zero_le _,fun _ i _ _ h=>absurd h (by simp),fun h=>by cases h⟩ ?_ ?_ ?_
    .simp
    .simp [h19,hk]
    rintro ⟨q,b⟩ ⟨hq,ht1,hf1⟩
    simp only at hq ht1 hf1
    by_cases hlt : q < x.fields.length
    .have hlt' : (q : Int) < (e.args.length : Int):=by omega
     cases b with
     | false =>
      have hRf:=hf1 rfl
      simp [hlt',<- hR,hRf]
     | true =>
      have hw:=zD hlt hlx
      have hlp : q < e.place.path.length:=by omega
      simp [hlt'];refine zA [] (by kernel_rfl) (by kernel_rfl) ?_
      have hmu : x.fields.length - (q + 1) < x.fields.length - q:=by omega
      have hnext : ∀ b',sEq x.fields[q].name e.place.path[q] = b' -> (b' = true -> ∀ i (h1 : i < x.fields.length) (h2 : i < e.place.path.length),i < q + 1 -> sEq x.fields[i].name e.place.path[i] = true) /\ (b' = false -> R = false):=fun b' hb=>by
       refine ⟨fun hb' i h1 h2 hi=>?_,fun hb'=>?_⟩
       .rcases Nat.lt_or_ge i q with h' | h'
        .exact ht1 rfl i h1 h2 h'
        .obtain rfl : i = q:=by omega
         rw [hb,hb']
       .cases hRR : R with
        | false=>rfl
        | true =>
         have:=hlit.1 hRR q hlt hlp
         rw [hb,hb'] at this; cases this
      generalize hfe : x.fields[q] = f at *
      generalize hpe : e.place.path[q] = s at *
      simp [hlt,hlp,hfe,hpe,Fi.enc,strs]
      by_cases hb : sEq f.name s = true
      .exact ⟨q + 1,.inr ⟨⟨hlt,(hnext true hb).1 rfl⟩,hmu,hb,hw⟩⟩
      .have hb' : sEq f.name s = false:=by simpa using hb
       exact ⟨q + 1,.inl ⟨⟨hlt,(hnext false hb').2 rfl⟩,hmu,hb',hw⟩⟩
    .have hlt' : ¬ (q : Int) < (e.args.length : Int):=by omega
     cases b with
     | false =>
      have hRf:=hf1 rfl
      simp [hlt',<- hR,hRf]
     | true =>
      have hRt : R = true:=hlit.2 fun i h1 h2=>ht1 rfl i h1 h2 (by omega)
      simp [hlt',<- hR,hRt]
   .have hn' : ((x.fields.length : Int) == (e.args.length : Int)) = false:=by simpa using fun h=>hn (by omega)
    simp [hk,hn,hn'];refine zE (fun q : Nat=>q = 0) (fun q=>([.ptr (c.d + 1) c.jF 0,.any,.any,.ptr 0 0 0,.any,.any,.any,.any,.any,.any,.any,.any,B false,I q] ++ List.replicate 122 .any)) (fun q=>[.cells [U e.op,I e.int,Sg e.name,Sg e.second,Sg e.place.name,.p (strs e.place.path),.p (.sl 8 (e.args.map Ex.enc)),I e.pos] 40,.dead] :: S) (fun q=>0) 0 rfl ?_ ?_ ?_
    .simp
    .simp [h19]
    rintro q rfl
    by_cases hz : 0 < e.args.length
    .simp [hz]
    .simp [hz]
  .simp [hk]
   refine zE (fun q : Nat=>q = 0) (fun q=>([.ptr (c.d + 1) c.jF 0,.any,.any,.ptr 0 0 0,.any,.any,.any,.any,.any,.any,.any,.any,B false,I q] ++ List.replicate 122 .any)) (fun q=>[.cells [U e.op,I e.int,Sg e.name,Sg e.second,Sg e.place.name,.p (strs e.place.path),.p (.sl 8 (e.args.map Ex.enc)),I e.pos] 40,.dead] :: S) (fun q=>0) 0 rfl ?_ ?_ ?_
   .simp
   .simp [h19]
   rintro q rfl
   by_cases hz : 0 < e.args.length
   .simp [hz]
   .simp [hz]
theorem zUF (p : List It) (e : Ex) (he : e.op = 19 -> e.place.path.length = e.args.length) (σ : Nf) (S : ASt) (c : Cf) (h : NAt p S c σ) : ADet Tryz.prog 131 [.ptr c.d c.jF 0,exV e] S (B (zBb p σ.made e.op e.name e.second e.place e.args.length)) S:=by
 by_cases h19 : e.op = 19
 .exact zVp p e h19 (he h19) σ S c h
 .exact zVo p e h19 σ S c h
theorem zKF {e : Ex} {d : Int} (h : e.whole d = true) : (e.op = 19 -> e.place.path.length = e.args.length) /\ ∀ x ∈ e.args,x.whole (d - 1) = true:=by
 rw [zCj] at h;simp only [Bool.and_eq_true] at h
 obtain ⟨_,h1,h2⟩:=h
 refine ⟨fun h19=>?_,fun x hx=>?_⟩
 .unfold zH4 at h1
  simp only [Bool.and_eq_true] at h1
  have:=h1.2.2.2
  rw [h19] at this;simp [zDl,shP] at this;exact this.2.1
 .unfold z5 at h2
  simp only [Bool.and_eq_true,decide_eq_true_eq] at h2;rw [List.take_of_length_le (by omega)] at h2
  have:=List.all_eq_true.1 h2.2 x hx
  simp only [Bool.and_eq_true] at this;exact this.2
theorem Nf.add_nil (σ : Nf) : σ.add [] = σ:=by unfold Nf.add; simp
theorem Nf.add_add (σ : Nf) (a b : List Flt) : (σ.add a).add b = σ.add (a ++ b):=by unfold Nf.add; simp
theorem zG4 (p : List It) : ∀ (e : Ex) (d : Int) (σ : Nf),e.whole d = true -> σ.fl.length + e.nd <= 4000000000 -> FC p 63 [exV e] σ (σ.add (e.nm p σ.made)):=by
 refine Ex.ind fun e ih dd σ hwh hl=>FC.intro fun S c h=>?_
 refine ADet.okA Tryz.call63 1 6 rfl rfl fun hok=>?_
 have hlen:=okl hok
 have hnd:=exNd e
 obtain ⟨hpath,hargs⟩:=zKF hwh
 obtain ⟨W,hW⟩ : ∃ W,W = zI (zBb p σ.made e.op e.name e.second e.place e.args.length) 60 e.pos:=⟨_,rfl⟩
 obtain ⟨F,hF⟩ : ∃ F : Nat -> List Flt,F = fun q=>W ++ (e.args.take q).flatMap (Ex.nm p σ.made):=⟨_,rfl⟩
 have hF0 : F 0 = W:=by rw [hF]; simp
 have hFn : F e.args.length = e.nm p σ.made:=by rw [hF,hW,exNm]; simp
 have hFs : ∀ q (h : q < e.args.length),F (q + 1) = F q ++ e.args[q].nm p σ.made:=fun q h=>by rw [hF]; simp only [List.take_succ_eq_append_getElem h,List.flatMap_append,List.append_assoc]; simp
 have hWl : W.length <= 1:=by rw [hW]; exact zq _ _ _
 have hFb : ∀ q (h : q < e.args.length),(σ.add (F q)).fl.length + e.args[q].nd <= 4000000000:=fun q h=>by
  have e1:=zBM Ex.nd h
  have e2:=zEy (Ex.nm p σ.made) Ex.nd (e.args.take q) fun x _=>zIv p σ.made x
  rw [hF];simp only [Nf.add,List.length_append];omega
 clear hF;rw [<- hFn]
 have ho:=(h.updF σ).n
 have hs:=zAG h
 rw [hs] at ho;simp only [fnO] at ho
 have hnm:=fun S' c' h'=>zUF p e hpath σ S' c' h'
 have hn1:=fun L : List AObj=>zUF p e hpath σ (L :: S) c.up (h.cons L)
 have hwr:=fun b L=>(zDS p b 60 e.pos σ.fl (by omega)).inF0 h L
 have hst : ∀ X,(⟨σ.made,σ.count,σ.opn,σ.fl ++ X⟩ : Nf) = σ.add X:=fun X=>rfl
 simp only [hst] at hwr;simp only [Cf.up] at hn1
 generalize hb : zBb p σ.made e.op e.name e.second e.place e.args.length = b at *
 refine ADet.intro mixed Tryz.call63 Tryz.func63 rfl ?_;simp [Tryz.ntmps63,hs];refine zA [(3,6),(8,6)] (by kernel_rfl) (by kernel_rfl) ?_
 simp [ho];refine ⟨_,_,hn1 _,?_⟩;simp;refine ⟨_,_,hwr b _,?_⟩;rw [<- hW];simp;refine zE (fun q : Nat=>q <= e.args.length) (fun q=>([.ptr (c.d + 1) c.jF 0] ++ (List.replicate 16 .any ++ [.p (.sl 8 (e.args.map Ex.enc)),I e.args.length,I q,.any,.any,.any,.any,.any,.any,.any]))) (fun q=>[.cells [U e.op,I e.int,Sg e.name,Sg e.second,Sg e.place.name,.p (strs e.place.path),.p (.sl 8 (e.args.map Ex.enc)),I e.pos] 40] :: updF S c (σ.add (F q))) (fun q=>e.args.length - q) 0 (Nat.zero_le _) ?_ ?_ ?_
 .simp
 .simp [hF0]
 intro q hq1
 by_cases hlt : q < e.args.length
 .have hlt' : (q : Int) < (e.args.length : Int):=by omega
  have hw:=zD hlt
  have hx:=fun L=>(ih _ (List.getElem_mem hlt) _ (σ.add (F q)) (hargs _ (List.getElem_mem hlt)) (hFb q hlt)).at h L
  rw [Nf.add_add,show (σ.add (F q)).made = σ.made from rfl,<- hFs q hlt] at hx
  have hmu : e.args.length - (q + 1) < e.args.length - q:=by omega
  generalize he : e.args[q] = x at *
  simp [hlt,hlt',he,zv];refine ⟨_,_,hx _,?_⟩;simp;exact ⟨q + 1,hlt,hmu,hw,rfl⟩
 .have hlt' : ¬ (q : Int) < (e.args.length : Int):=by omega
  have hq2 : q = e.args.length:=by omega
  subst hq2;simp
end Go.Proofs.YtlclonljdagpkaaGreatDoor
namespace Go.Proofs.YtlclonljdagpkaaGreatDoor
open Go.RowKit
attribute [local simp] List.replicate List.range List.range.loop AV.cuts AV.cut AObj.cut trim wkR wkT wkL wkN wkNR wkNL wkM wkMR wkML
attribute [local simp] zJr zFj zHw zJs zFk zHx zJt zHy zFl zJu zHz zGm zH0 zGn zJv zFm zJw zEu zEv zGo zH1 zGp zIj zJp
def BdN (σ : Nf) (n : Nat) : Prop:=σ.fl.length + n <= 4000000000 /\ σ.count + n <= 4000000000 /\ σ.opn + n <= 4000000000
theorem BdN.near {σ τ : Nf} {n m k : Nat} (h : BdN σ k) (hn : Near σ n τ) (hk : n + m <= k) : BdN τ m:=by
 obtain ⟨h1,h2,h3⟩:=h
 obtain ⟨n1,n2,n3,n4,n5⟩:=hn
 exact ⟨by omega,by omega,by rw [n5]; omega⟩
def zZg (c : Cf) (m : Nat) (M : List AObj) (r : AV) (fgs : List Fg) : Prop :=
 (fgs = [] /\ r = .p (.sl 1 []) /\ ∃ k,M = List.replicate k .dead) \/ ∃ k,r = .rsl 0 (m + k) fgs.length 1 /\ M = List.replicate k .dead ++ [.row 1 1 fgs.length (fgs.map (clo c))]
def StmC (p : List It) (s : St) : Prop:=∀ σ,BdN σ s.nd -> ∀ (S : ASt) (c : Cf),NAt p S c σ -> ∀ L : List AObj,wkL L L -> ∃ M r,ADet Tryz.prog 130 [.ptr (c.d + 1) c.jF 0,.agg (stV s)] (L :: S) r ((L ++ M) :: updF S c (s.nm p σ).1) /\ zZg c.up L.length M r (s.nm p σ).2
theorem zMU {P : Program} : ∀ (a b : List AV) (S S1 S2 : ASt),DRun P a S S1 -> DRun P b S1 S2 -> DRun P (a ++ b) S S2
 | [],b,S,S1,S2,h,k=>by cases h; exact k
 | .fn (.func K) xs ys :: a,b,S,S1,S2,⟨T,h1,h2⟩,k=>⟨T,h1,zMU a b T S1 S2 h2 k⟩
theorem zIz (p : List It) (c : Cf) : ∀ (fgs : List Fg) (σ : Nf) (S : ASt),NAt p S c σ -> DRun Tryz.prog (fgs.map (clo c)).reverse S (updF S c (Nf.undo fgs σ))
 | [],σ,S,h=>by rw [Nf.undo,zAG h]; rfl
 | g :: fgs,σ,S,h=>by
  rw [List.map_cons,List.reverse_cons,Nf.undo]
  have ih:=zIz p c fgs σ S h
  refine zMU _ _ _ _ _ ih ?_
  have hA:=h.updF (Nf.undo fgs σ)
  have:=zVl p g (Nf.undo fgs σ) _ c hA
  rw [zBz h] at this;exact ⟨_,this,rfl⟩
theorem zEF (n : Nat) (c : Cf) (fgs : List Fg) : AV.cuts n (fgs.map (clo c.up)) = fgs.map (clo c.up):=by
 rw [zBr,List.map_map];rfl
theorem zE5 (n : Nat) (c : Cf) (fgs : List Fg) : AV.cuts n (fgs.map (clo c.up)).reverse = (fgs.map (clo c.up)).reverse:=by
 rw [<- List.map_reverse,zEF]
theorem zQH (p : List It) : ∀ (a b : List St) (σ : Nf),St.nms p (a ++ b) σ = ((St.nms p b (St.nms p a σ).1).1,(St.nms p a σ).2 ++ (St.nms p b (St.nms p a σ).1).2)
 | [],b,σ=>by simp [St.nms]
 | s :: a,b,σ=>by
  simp only [List.cons_append,St.nms,zQH p a b,List.append_assoc]
theorem zSy (s : St) (k N : Nat) : ∀ o ∈ AObj.cells (stV s) 45 :: List.replicate k AObj.dead,wkL [o.cut N] [o]:=fun o ho=>by
 rcases List.mem_cons.1 ho with rfl | ho
 .exact ⟨⟨rfl,zL _⟩,trivial⟩
 .rw [List.eq_of_mem_replicate ho]; trivial
theorem zQI (s : St) (k N n : Nat) (c : Cf) (fgs : List Fg) : ∀ o ∈ AObj.cells (stV s) 45 :: (List.replicate k AObj.dead ++ [.row 1 1 n (fgs.map (clo c.up))]),wkL [o.cut N] [o]:=fun o ho=>by
 rcases List.mem_cons.1 ho with rfl | ho
 .exact ⟨⟨rfl,zL _⟩,trivial⟩
 rcases List.mem_append.1 ho with ho | ho
 .rw [List.eq_of_mem_replicate ho]; trivial
 .rw [List.mem_singleton.1 ho]
  show wkL [AObj.row _ 1 _ (AV.cuts N _)] _
  rw [zEF];exact ⟨⟨⟨rfl,rfl,rfl⟩,zL _⟩,trivial⟩
theorem zQJ (p : List It) (l : List St) (hl : ∀ s ∈ l,StmC p s) (σ : Nf) (hb : BdN σ (l.map St.nd).sum) (K : Nat) (caps : List AV) (τ : Nf) (S : ASt) (c : Cf) (h : NAt p S c σ)
  (hE : ∀ L : List AObj,ADet Tryz.prog K (AV.ups 1 caps) (L :: updF S c (St.nms p l σ).1) .un (L :: updF S c τ)) :
  ADet Tryz.prog 61 [.ptr c.d c.jF 0,.p (.sl 15 (l.map St.enc)),.fn (.func K) [] caps] S .un (updF S c (Nf.undo (St.nms p l σ).2 τ)):=by
 refine ADet.okP Tryz.call61 1 rfl fun hok=>?_
 have hlen:=okl hok
 have hs:=zAG h
 obtain ⟨F,hF⟩ : ∃ F : Nat -> Nf × List Fg,F = fun q=>St.nms p (l.take q) σ:=⟨_,rfl⟩
 have hF0 : F 0 = (σ,[]):=by rw [hF]; simp [St.nms]
 have hFn : F l.length = St.nms p l σ:=by rw [hF]; simp
 have hFs : ∀ q (hq : q < l.length),F (q + 1) = ((l[q].nm p (F q).1).1,(F q).2 ++ (l[q].nm p (F q).1).2):=fun q hq=>by
  rw [hF];simp only [List.take_succ_eq_append_getElem hq,zQH];simp [St.nms]
 have hFb : ∀ q (hq : q < l.length),BdN (F q).1 l[q].nd:=fun q hq=>by
  have e1:=zBM St.nd hq
  have e2:=(zCn p (l:=l.take q) (fun s _ σ=>zDp p s σ) σ).1
  rw [hF];exact hb.near e2 (by omega)
 clear hF;rw [<- hFn] at hE ⊢;refine ADet.introD mixed Tryz.call61 Tryz.func61 rfl rfl ?_;simp [Tryz.ntmps61];refine zD4 (fun q : Nat=>q <= l.length) (fun q=>([.ptr (c.d + 1) c.jF 0,.any,.fn (.func K) [] (AV.ups 1 caps),.any,.any,.any,.any,.any,.any,.any,.p (.sl 15 (l.map St.enc)),I l.length,I q] ++ List.replicate 16 .any)) (fun q=>[] :: updF S c (F q).1) (fun q=>((F q).2.map (clo c.up)).reverse) (fun q=>l.length - q) (fun _=>0) 0 (Nat.zero_le _) (fun _ _=>Nat.le_refl _) ?_ ?_ ?_ ?_
 .simp
 .simp [hF0,hs]
 .simp [hF0]
 intro q hq
 by_cases hlt : q < l.length
 .have hlt' : (q : Int) < (l.length : Int):=by omega
  have hw:=zD hlt
  have hF1:=hFs q hlt
  have hmu : l.length - (q + 1) < l.length - q:=by omega
  obtain ⟨M,r,hx,hres⟩:=hl _ (List.getElem_mem hlt) (F q).1 (hFb q hlt) _ c (h.updF (F q).1) [.cells (stV l[q]) 45] ⟨⟨rfl,zL _⟩,trivial⟩
  rw [zBz h] at hx
  generalize he : l[q] = s at *
  generalize hσ1 : (s.nm p (F q).1).1 = σ1 at *
  generalize hfg : (s.nm p (F q).1).2 = fg at *
  simp [hlt,hlt',he,zAz];refine ⟨_,_,hx,?_⟩
  rcases hres with ⟨h1,h2,k,h3⟩ | ⟨k,h2,h3⟩
  .subst h2 h3
   simp;refine zD4 (fun q2 : Nat=>q2 <= fg.length) (fun q2=>[.ptr (c.d + 1) c.jF 0,.any,.fn (.func K) [] (AV.ups 1 caps),.any,.any,.any,.any,.any,.any,.any,.p (.sl 15 (l.map St.enc)),I l.length,I q,.any,.any,.any,.any,.any,.p (.sl 1 []),I 0,I q2,.any,.any,.any,.any,.any,.any,.any,.any]) (fun _=>((.cells (stV s) 45 :: List.replicate k .dead) :: updF S c σ1)) (fun q2=>(((F q).2 ++ fg.take q2).map (clo c.up)).reverse) (fun q2=>fg.length - q2) (fun _=>k + 1) 0 (Nat.zero_le _) (fun _ _=>by simp [top]) ?_ ?_ ?_ ?_
   .simp
   .exact ⟨zCk (m:=k + 1) (zSy s k (k + 1)),rfl⟩
   .simp
   intro q2 hq2
   by_cases hlt2 : q2 < fg.length
   .rw [h1] at hlt2; simp at hlt2
   .have hlt2' : ¬ (q2 : Int) < (fg.length : Int):=by omega
    have hq3 : q2 = fg.length:=by omega
    subst hq3;simp;refine ⟨q + 1,hlt,hmu,hw,by rw [hF1],?_⟩
    rw [<- List.reverse_append,<- List.map_append,zE5,hF1]
  .subst h2 h3
   have hfl : fg.length <= maxLen:=by
    have:=(zDp p s (F q).1).2
    have h2:=(hFb q hlt).1
    rw [he] at h2;rw [hfg] at this;unfold maxLen; omega
   simp;refine zD4 (fun q2 : Nat=>q2 <= fg.length) (fun q2=>[.ptr (c.d + 1) c.jF 0,.any,.fn (.func K) [] (AV.ups 1 caps),.any,.any,.any,.any,.any,.any,.any,.p (.sl 15 (l.map St.enc)),I l.length,I q,.any,.any,.any,.any,.any,.rsl 0 (1 + k) fg.length 1,I fg.length,I q2,.any,.any,.any,.any,.any,.any,.any,.any]) (fun _=>((.cells (stV s) 45 :: (List.replicate k .dead ++ [.row 1 1 fg.length (fg.map (clo c.up))])) :: updF S c σ1)) (fun q2=>(((F q).2 ++ fg.take q2).map (clo c.up)).reverse) (fun q2=>fg.length - q2) (fun _=>k + 2) 0 (Nat.zero_le _) (fun _ _=>by simp [top]) ?_ ?_ ?_ ?_
   .simp
   .exact ⟨zCk (m:=k + 2) (zQI s k (k + 2) fg.length c fg),rfl⟩
   .simp
   intro q2 hq2
   by_cases hlt2 : q2 < fg.length
   .have hlt2' : (q2 : Int) < (fg.length : Int):=by omega
    have hw2:=zD hlt2 hfl
    have hmu2 : fg.length - (q2 + 1) < fg.length - q2:=by omega
    have hget : (fg.map (clo c.up))[q2]? = some (clo c.up fg[q2]):=by rw [List.getElem?_map,List.getElem?_eq_getElem hlt2]; rfl
    have htk : fg.take (q2 + 1) = fg.take q2 ++ [fg[q2]]:=List.take_succ_eq_append_getElem hlt2
    have hlg:=(zQI s k (k + 2) fg.length c fg)
    have hwt:=zIs (N:=k + 2) (S:=updF S c σ1) (by simp) hlg
    have hrow : (AObj.cells (stV s) 45 :: (List.replicate k .dead ++ [.row 1 1 fg.length (fg.map (clo c.up))]))[1 + k]? = some (.row 1 1 fg.length (fg.map (clo c.up))):=by
     rw [Nat.add_comm,List.getElem?_cons_succ,List.getElem?_append_right (by simp)]; simp
    have hcut:=zEF (k + 2) c ((F q).2 ++ fg.take (q2 + 1))
    generalize hg : fg[q2] = g at *
    have hup : (clo c.up g).up 0 = clo c.up g:=rfl
    generalize (AObj.cells (stV s) 45 :: (List.replicate k .dead ++ [.row 1 1 fg.length (fg.map (clo c.up))])) = LL at *
    have hup' : AV.up 0 (clo c.up g) = .fn (.func 219) [] [.bx [B g.2],.bx [.ptr (c.d + 1) c.jF 0],.bx [Sg g.1]]:=rfl
    have e : clo c.up g :: ((List.take q2 (List.map (clo c.up) fg)).reverse ++ (List.map (clo c.up) (F q).2).reverse) = (((F q).2 ++ fg.take (q2 + 1)).map (clo c.up)).reverse:=by rw [htk]; simp
    have e2 : AV.cuts (k + 2) (clo c.up g :: ((List.take q2 (List.map (clo c.up) fg)).reverse ++ (List.map (clo c.up) (F q).2).reverse)) = (List.take (q2 + 1) (List.map (clo c.up) fg)).reverse ++ (List.map (clo c.up) (F q).2).reverse:=by rw [e,zE5]; simp
    simp [hlt2,hlt2',hrow,hget,hg,hup',-trim,-wkT];exact ⟨q2 + 1,hlt2,hmu2,⟨by omega,hw2⟩,hwt,e2⟩
   .have hlt2' : ¬ (q2 : Int) < (fg.length : Int):=by omega
    have hq3 : q2 = fg.length:=by omega
    subst hq3;simp;refine ⟨q + 1,hlt,hmu,hw,by rw [hF1],?_⟩
    rw [<- List.reverse_append,<- List.map_append,zE5,hF1]
 .have hlt' : ¬ (q : Int) < (l.length : Int):=by omega
  have hq2 : q = l.length:=by omega
  subst hq2;simp;refine ⟨_,_,hE _,?_⟩
  have hA:=(h.updF τ).cons []
  have hd:=zIz p c.up (F l.length).2 τ _ hA
  rw [zAT,zBz h] at hd;simp;exact ⟨_,hd,rfl⟩
end Go.Proofs.YtlclonljdagpkaaGreatDoor
namespace Go.Proofs.YtlclonljdagpkaaGreatDoor
open Go.RowKit
attribute [local simp] List.replicate List.range List.range.loop resA zR retA AV.cuts AV.cut AObj.cut trim wkR wkT wkL wkN wkNR wkNL wkM wkMR wkML
attribute [local simp] zJr zFj zHw zJs zFk zHx zJt zHy zFl zJu zHz zGm zH0 zGn zJv zFm zJw zEu zEv zGo zH1 zGp zIj zJp
theorem zI0 : ∀ (a b : List ByteArray) (pos : Int) (σ : Nf),Nf.mkS (a ++ b) pos σ = ((Nf.mkS b pos (Nf.mkS a pos σ).1).1,(Nf.mkS a pos σ).2 ++ (Nf.mkS b pos (Nf.mkS a pos σ).1).2)
 | [],b,pos,σ=>by simp [Nf.mkS]
 | s :: a,b,pos,σ=>by
  simp only [List.cons_append,Nf.mkS,zI0 a b]
theorem zG5 {p : List It} {s : ByteArray} {pos : Int} {σ σ0 : Nf} (hl : σ.fl.length + 1 <= 4294967296) (hc : σ.count < 4294967296) {S : ASt} {c : Cf} (h : NAt p S c σ0) (L : List AObj) : ADet Tryz.prog 186 [.ptr (c.d + 1) c.jF 0,Sg s,I pos] (L :: updF S c σ) (clo c.up (s,mIs σ.made s)) (L :: updF S c (σ.mk1 s pos)):=by
 have:=zX7 p s pos σ hl hc _ c.up ((h.updF σ).cons L)
 rw [zAT,zBz h] at this;exact this
theorem zE6 (p : List It) (l : List St) (hl : ∀ s ∈ l,StmC p s) (pos : Int) (names : List ByteArray) (σ : Nf) (hb : BdN σ (names.length + (l.map St.nd).sum)) : FC p 191 [.p (.sl 15 (l.map St.enc)),I pos,.p (strs names)] σ (zy p l pos names σ):=fun S c h=>by
 refine ADet.okP Tryz.call191 3 rfl fun hok=>?_
 have hlen : names.length <= maxLen:=okl hok
 have hs:=zAG h
 obtain ⟨F,hF⟩ : ∃ F : Nat -> Nf × List Fg,F = fun q=>Nf.mkS (names.take q) pos σ:=⟨_,rfl⟩
 have hF0 : F 0 = (σ,[]):=by rw [hF]; simp [Nf.mkS]
 have hFn : F names.length = Nf.mkS names pos σ:=by rw [hF]; simp
 have hFs : ∀ q (hq : q < names.length),F (q + 1) = ((F q).1.mk1 names[q] pos,(F q).2 ++ [(names[q],mIs (F q).1.made names[q])]):=fun q hq=>by
  rw [hF];simp only [List.take_succ_eq_append_getElem hq,zI0];simp [Nf.mkS]
 have hFb : ∀ q,q < names.length -> BdN (F q).1 1:=fun q hq=>by
  have e2:=(zAo (names.take q) pos σ).1
  rw [hF];exact hb.near e2 (by simp; omega)
 have hbn : BdN (F names.length).1 (l.map St.nd).sum:=by
  rw [hFn];exact hb.near (zAo names pos σ).1 (Nat.le_refl _)
 have hfin : zy p l pos names σ = Nf.undo (F names.length).2 (Nf.undo (St.nms p l (F names.length).1).2 (St.nms p l (F names.length).1).1):=by rw [hFn]; rfl
 clear hF;rw [hfin]
 have hE : ∀ S : ASt,ADet Tryz.prog 222 [] S .un S:=fun S=>by
  refine ADet.intro mixed Tryz.call222 Tryz.func222 rfl ?_;simp [Tryz.ntmps222]
 have hst:=zQJ p l hl (F names.length).1 hbn 222 [] (St.nms p l (F names.length).1).1 _ c.up ((h.updF (F names.length).1).cons []) (fun L=>hE _)
 rw [zAT,zBz h] at hst;refine ADet.introD mixed Tryz.call191 Tryz.func191 rfl rfl ?_;simp [Tryz.ntmps191,strs];refine zD4 (fun q : Nat=>q <= names.length) (fun q=>[.ptr (c.d + 1) c.jF 0,.p (.sl 15 (l.map St.enc)),I pos,.any,.any,.any,.any,.any,.any,.any,.p (.sl 1 (names.map fun s=>[pS s])),I names.length,I q,.any,.any,.any,.any,.any,.any,.any,.any,.any,.any,.any]) (fun q=>[] :: updF S c (F q).1) (fun q=>((F q).2.map (clo c.up)).reverse) (fun q=>names.length - q) (fun _=>0) 0 (Nat.zero_le _) (fun _ _=>Nat.le_refl _) ?_ ?_ ?_ ?_
 .simp
 .simp [hF0,hs]
 .simp [hF0]
 intro q hq
 by_cases hlt : q < names.length
 .have hlt' : (q : Int) < (names.length : Int):=by omega
  have hw:=zD hlt
  have hF1:=hFs q hlt
  have hmu : names.length - (q + 1) < names.length - q:=by omega
  have hbq:=hFb q hlt
  have hmk:=fun L=>zG5 (p:=p) (s:=names[q]) (pos:=pos) (σ:=(F q).1) (by have:=hbq.1; omega) (by have:=hbq.2.1; omega) h L
  generalize he : names[q] = s at *
  simp [hlt,hlt',he];refine ⟨_,_,hmk _,?_⟩
  have hcl : ∀ b,clo c.up (s,b) = .fn (.func 219) [] [.bx [B b],.bx [.ptr (c.d + 1) c.jF 0],.bx [Sg s]]:=fun _=>rfl
  have e2 : AV.cuts 0 (clo c.up (s,mIs (F q).1.made s) :: (List.map (clo c.up) (F q).2).reverse) = (List.map (clo c.up) (F (q + 1)).2).reverse:=by
   have : clo c.up (s,mIs (F q).1.made s) :: (List.map (clo c.up) (F q).2).reverse = (List.map (clo c.up) ((F q).2 ++ [(s,mIs (F q).1.made s)])).reverse:=by simp
   rw [this,zE5,hF1]
  simp [hcl];exact ⟨q + 1,hlt,hmu,hw,by rw [hF1],e2⟩
 .have hlt' : ¬ (q : Int) < (names.length : Int):=by omega
  have hq2 : q = names.length:=by omega
  subst hq2;simp;refine ⟨_,_,hst,?_⟩
  have hA:=(h.updF (Nf.undo (St.nms p l (F names.length).1).2 (St.nms p l (F names.length).1).1)).cons []
  have hd:=zIz p c.up (F names.length).2 _ _ hA
  rw [zAT,zBz h] at hd;simp;exact ⟨_,hd,rfl⟩
end Go.Proofs.YtlclonljdagpkaaGreatDoor
