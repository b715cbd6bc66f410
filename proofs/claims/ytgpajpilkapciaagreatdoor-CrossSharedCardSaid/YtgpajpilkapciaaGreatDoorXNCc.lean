/- A part of the proof. -/
import Derived.Test.YtgpajpilkapciaaGreatDoorXNCb
set_option linter.unusedVariables false
set_option linter.unusedSimpArgs false
set_option maxRecDepth 100000
set_option maxHeartbeats 32000000
namespace Go.Proofs.YtgpajpilkapciaaGreatDoor
open Go.RowKit _root_.Go.Proofs.Tryz
attribute [local simp] List.replicate List.range List.range.loop zf za zn zb List.forall_mem_cons List.contains_cons List.contains_nil List.find? zm zl zZ
variable{S:ASt}{p:List It}
theorem zJE{c:Xf}(h:XHas S c)(τ ρ:Xs):updX p (updX p S c τ) c ρ=updX p S c ρ:=by
 refine zDe (by rw[zBZ,zBZ,zBZ]) fun d i=>?_
 rw[zBL (h.updX (p:=p) τ).has,zBL h,zBL h]
 repeat' (first|rfl|split)
theorem zZn(l:List (List Fi × List St)):(rowC bdE l).length=2*l.length:=zLc (k:=2) (fun _=>rfl)
def BdX(p:List It)(env:List Fi)(l:List St)(A:List AObj):Prop:=∀(S:ASt) (c:Xf) (σ:Xs),XAt p S c σ->σ.out.length+zAA l*zAA l+zAA l<=4000000000->ADet Tryz.prog 21 [.ptr c.d c.jW 0,.agg [.p (.sl 4 (env.map Fi.enc)),.p (.sl 15 (l.map St.enc))]] S .un (updX p (addA S c.d A) c ⟨σ.out++(crSs p env l).all,σ.left⟩)
def bdT(p:List It)(S:ASt)(c:Xf)(o:List Cr)(r:CrR)(f:Nat->List AObj)(q:Nat):ASt:=updX p (addA S c.d (rlX r.left::(List.range q).flatMap f)) (c.next S) ⟨o++r.out++(r.sub.take q).flatten,r.left⟩
theorem zZo{c:Xf}(h:XHas S c)(o:List Cr)(r:CrR)(f:Nat->List AObj)(q:Nat):XAt p (bdT p S c o r f q) (c.next S) ⟨o++r.out++(r.sub.take q).flatten,r.left⟩:=(h.next _ _).updX _
theorem zUz{c:Xf}(h:XHas S c)(o:List Cr)(r:CrR)(f:Nat->List AObj){q:Nat}{x:List Cr}(hx:r.sub[q]? =some x):updX p (addA (bdT p S c o r f q) c.d (f q)) (c.next S) ⟨o++r.out++(r.sub.take q).flatten++x,r.left⟩=bdT p S c o r f (q+1):=by
 have hN:=h.next (rlX r.left) ((List.range q).flatMap f)
 have e1:=zR1 (p:=p) hN ⟨o++r.out++(r.sub.take q).flatten,r.left⟩ (f q)
 unfold bdT
 have e2:addA (updX p (addA S c.d (rlX r.left::(List.range q).flatMap f)) (c.next S) ⟨o++r.out++(r.sub.take q).flatten,r.left⟩) c.d (f q)=updX p (addA (addA S c.d (rlX r.left::(List.range q).flatMap f)) c.d (f q)) (c.next S) ⟨o++r.out++(r.sub.take q).flatten,r.left⟩:=e1
 rw[e2,zRy,List.cons_append,zJE (h.next _ _)]
 have e3:(List.range (q+1)).flatMap f=(List.range q).flatMap f++f q:=by rw[List.range_succ,List.flatMap_append];simp
 have hq:q<r.sub.length:=(List.getElem?_eq_some_iff.1 hx).1
 have e4:(r.sub.take (q+1)).flatten=(r.sub.take q).flatten++x:=by
  rw[List.take_add_one,hx];simp
 rw[e3,e4,List.append_assoc (o++r.out)]
theorem zU0{c:Xf}(h:XHas S c)(o:List Cr)(r:CrR)(f:Nat->List AObj):updX p (updX p (addA S c.d [rlX []]) (c.next S) ⟨o,[]⟩) (c.next S) ((⟨o,[]⟩:Xs).add r)=bdT p S c o r f 0:=by
 rw[zJE (h.next _ _)];unfold bdT
 have e:(⟨o,[]⟩:Xs).add r=⟨o++r.out,r.left⟩:=by simp[Xs.add]
 rw[e,zR2 h];simp
theorem zU1{c:Xf}{σ:Xs}(h:XAt p S c σ)(r:CrR)(f:Nat->List AObj)(hs:r.left.length=r.sub.length):set2 (bdT p S c σ.out r f r.left.length) c.d c.jW (wkX p c ⟨σ.out++r.all,σ.left⟩)=updX p (addA S c.d (rlX r.left::(List.range r.left.length).flatMap f)) c ⟨σ.out++r.all,σ.left⟩:=by
 have:=zR3 h ((List.range r.left.length).flatMap f) ⟨σ.out++r.all,r.left⟩
 unfold bdT;rw[hs,List.take_length];rw[hs]at this
 have e:σ.out++r.out++r.sub.flatten=σ.out++r.all:=by unfold CrR.all;rw[List.append_assoc]
 rw[e];exact this
theorem zas(hp:PrSm p):∀(n:Nat) (env:List Fi) (l:List St),zAA l=n->n<=30000->zh env->env.length<=20000->(∀s∈l,StSm s/\StG p s)->l.length<=20000->∃A,BdX p env l A:=by
 intro n
 induction n using Nat.strongRecOn with
 |ind n ih=>
 intro env l hn vp he jb hs jd
 have hL:=zUw hp hs he
 have hN:=zIF hp (fun s h=>(hs s h).1) he
 have Nu:(l.map St.nd).sum=n:=hn
 rw[Nu]at hN;rw[hn]at hL
 obtain⟨f,hf⟩:=zRv (P:=fun(b:List Fi × List St) A=>BdX p b.1 b.2 A) (crSs p env l).left fun b hb=>by
  have hk:=hL.ok b hb
  have hlt:=hk.nd
  exact ih (zAA b.2) hk.nd b.1 b.2 rfl (by omega) hk.sm hk.len hk.sts hk.cnt
 have bc:=hN.same
 have yr:=hN.left
 have ja:=hN.all
 have na:=hL.ok
 have Zg:=hL.sub
 refine⟨rlX (crSs p env l).left::(List.range (crSs p env l).left.length).flatMap f,fun S c σ h hb=>?_⟩
 have Aa:=(stsX hp (fun s h=>stX hp s (hs s h).1 (hs s h).2) (fun s h=>(hs s h).1) jd he (by omega) (σ:=⟨σ.out,[]⟩) (by rw[hn];exact⟨by show σ.out.length+n<=_;rw[hn]at hb;omega,by show 0+n<=_;omega⟩)).at0 (h.has.next (rlX []) [] |>.updX (p:=p) ⟨σ.out,[]⟩)
 rw[zU0 h.has σ.out (crSs p env l) f]at Aa
 have dc:=zU1 h (crSs p env l) f bc
 rw[hn]at hb
 generalize crSs p env l=r at*
 rw[<-dc]
 have Fd:=fun q x hx=>zUz (p:=p) h.has σ.out r f (q:=q) (x:=x) hx
 have hat:=fun q=>zZo (p:=p) h.has σ.out r f q
 have hd:(c.next S).d=c.d:=rfl
 have hW:(c.next S).jW=c.jW:=rfl
 have hO:(c.next S).jO=c.jO:=rfl
 have Cv:r.left.length<=maxLen:=by unfold maxLen;omega
 have Ou:env.length<=4294967296:=by omega
 have hw:=h.w
 have Mj:=fun fr L=>zMf h fr L
 simp only[wkX]at hw;refine ADet.introS call21 func21 rfl ?_;refine SWP.seq (SWP.of_awp mixed ?_)
 simp[ntmps21,zCY];refine SWP.seq (SWP.of_awp mixed ?_)
 simp[zCY,hw];refine SWP.seq (SWP.of_awp mixed ?_)
 simp[zCY,hw];refine SWP.leads (Mj _ _) ?_;refine SWP.cat ([.ptr (c.d+1) c.jW 0,.any,.any,.ptr 0 0 0,.rsl (c.d+1) c.jL σ.left.length 2]++List.replicate 37 .any) ([.cells [.p (.sl 4 (env.map Fi.enc)),.p (.sl 15 (l.map St.enc))] 74,.dead]::bdT p S c σ.out r f 0) ?_ ?_
 .refine SWP.of_awp mixed ?_
  refine dB [(3,1),(6,1),(6,4)] (by kernel_rfl) ?_
  by_cases h0:0<env.length
  .simp[Ou,h0]
   refine cq (ADet.sub (.cons (.refl _) (.cons (.osl (.refl _)) (.refl _))) (Aa _)) ?_;simp;exact zBA.wk (by simp) (by simp)
  have hz:env=[]:=List.eq_nil_of_length_eq_zero (by omega)
  subst hz;simp;refine cq (Aa _) ?_;simp;exact zBA.trans (zBA.ghostD (d:=0) (by simp) 74 2 (by decide)) (zBA.wk (by simp) ⟨⟨⟨rfl,⟨.inr rfl,.inr rfl,trivial⟩⟩,trivial⟩,rfl⟩)
 clear Aa Mj
 have Rc:∀(q:Nat) (hq:q<r.left.length) (L:List AObj),ADet Tryz.prog 21 [.ptr (c.d+1) c.jW 0,.agg [.p (.sl 4 (r.left[q].1.map Fi.enc)),.p (.sl 15 (r.left[q].2.map St.enc))]] (L::bdT p S c σ.out r f q) .un (L::bdT p S c σ.out r f (q+1)):=fun q hq L=>by
  have hx:r.sub[q]? =some (crSs p r.left[q].1 r.left[q].2).all:=by rw[Zg,List.getElem?_map,List.getElem?_eq_getElem hq];rfl
  have hk:=(na _ (List.getElem_mem hq)).nd
  have h1:=hf q hq (L::bdT p S c σ.out r f q) (c.next S).up _ ((hat q).cons L) (by
   have e1:(r.sub.take q).flatten.length<=r.sub.flatten.length:=by
    have:=congrArg (fun l=>(List.flatten l).length) (List.take_append_drop q r.sub)
    simp only[List.flatten_append,List.length_append]at this;omega
   have e2:r.all.length=r.out.length+r.sub.flatten.length:=by unfold CrR.all;rw[List.length_append]
   generalize zAA r.left[q].2=k at*
   have m1:k*k+k=k*(k+1):=by rw[Nat.mul_add,Nat.mul_one]
   have m2:k*(k+1)<=k*n:=Nat.mul_le_mul_left _ hk
   have m3:(k+1)*n<=n*n:=Nat.mul_le_mul_right _ hk
   rw[Nat.add_mul,Nat.one_mul]at m3
   show(σ.out++r.out++(r.sub.take q).flatten).length+k*k+k<=4000000000
   rw[List.length_append,List.length_append];omega)
  have e:updX p (addA (L::bdT p S c σ.out r f q) (c.next S).up.d (f q)) (c.next S).up ⟨σ.out++r.out++(r.sub.take q).flatten++(crSs p r.left[q].1 r.left[q].2).all,r.left⟩=L::bdT p S c σ.out r f (q+1):=by
   show updX p (L::addA (bdT p S c σ.out r f q) c.d (f q)) (c.next S).up _=_
   rw[zII,Fd q _ hx]
  rw[e]at h1;exact h1
 have si:=fun q=>(hat q).w
 have Lc:=fun q=>(hat q).l
 simp only[wkX,rlX,hd,hW,hO]at si Lc
 have ca:(σ.out++r.out++(r.sub.take r.left.length).flatten).length=(σ.out++r.all).length:=by
  rw[bc,List.take_length];unfold CrR.all;simp only[List.length_append];omega
 generalize (c.next S).jL=jN at*
 have Qd:=zZn r.left
 have Qf:=fun q (hq:q<r.left.length)=>zGX bdE 2 (fun _=>rfl) r.left q r.left[q] (List.getElem?_eq_getElem hq)
 generalize rowC bdE r.left=rc at*
 refine SWP.of_awp mixed ?_;simp[si];refine zH (fun q:Nat=>q<=r.left.length) (fun q=>([.ptr (c.d+1) c.jW 0,.any,.any,.ptr 0 0 0,.rsl (c.d+1) c.jL σ.left.length 2,.rsl (c.d+1) jN r.left.length 2]++(List.replicate 21 .any++([I r.left.length,I q]++List.replicate 13 .any)))) (fun q=>[.cells [.p (.sl 4 (env.map Fi.enc)),.p (.sl 15 (l.map St.enc))] 74,.dead]::bdT p S c σ.out r f q) (fun q=>r.left.length-q) 0 (Nat.zero_le _) ?_ ?_ ?_
 .simp
 .simp
 intro q hq
 have si:=si q
 have Lc:=Lc q
 by_cases hlt:q<r.left.length
 .have aa:(q:Int)<(r.left.length:Int):=by omega
  have Ya:=zA hlt
  have ra:r.left.length-(q+1)<r.left.length-q:=by omega
  have hx:=Rc q hlt
  have Ej:=Qf q hlt
  have ah:q*2+2<=rc.length:=by omega
  simp only[bdE,List.map_cons,List.map_nil]at Ej
  generalize rj:bdT p S c σ.out r f (q+1)=T2 at*
  generalize bdT p S c σ.out r f q=T at*
  generalize r.left[q]=y at*
  simp[hlt,aa,Lc,Ej,ah];refine cq (hx _) ?_;simp;exact⟨q+1,hlt,ra,Ya,rj.symm⟩
 have aa:¬(q:Int)<(r.left.length:Int):=by omega
 obtain rfl:q=r.left.length:=by omega
 simp[aa,si];rw[wkX,<-ca];simp
end Go.Proofs.YtgpajpilkapciaaGreatDoor
namespace Go.Proofs.YtgpajpilkapciaaGreatDoor
open Go.RowKit _root_.Go.Proofs.Tryz
attribute [local simp] List.replicate List.range List.range.loop
variable{p:List It}
theorem zJF{N:Nat}{E:TypeId}{k n:Nat}{α:Type}(enc:α->List PV)(l:List α):wkL [AObj.cut N (.row E k n (rowC enc l))] [.row E k n (rowC enc l)]:=by
 show wkL [AObj.row E k n (AV.cuts N (rowC enc l))] _
 rw[zM4];exact⟨⟨⟨rfl,rfl,rfl⟩,zS _⟩,trivial⟩
def alL(p:List It)(o:List Cr):List AObj:=[boxP p,.dead,.dead,.dead,.dead,.dead,wkX p ⟨0,6,7,8⟩ ⟨o,[]⟩,roX o,rlX []]
def alQ(p:List It)(q:Nat):List Cr:=(p.take q).flatMap (crI p)
theorem zU2(p:List It){q:Nat}(h:q<p.length):alQ p (q+1)=alQ p q++crI p p[q]:=by
 unfold alQ;rw[List.take_succ_eq_append_getElem h,List.flatMap_append];simp
theorem zZp(p:List It)(o:List Cr)(X:AObj)(S:ASt):XAt p ((alL p o++[X])::S) ⟨0,6,7,8⟩ ⟨o,[]⟩:=⟨rfl,rfl,rfl,by decide,by decide,by decide⟩
theorem zXm(p:List It)(o o':List Cr)(X:AObj)(A:List AObj)(S:ASt):updX p (addA ((alL p o++[X])::S) 0 A) ⟨0,6,7,8⟩ ⟨o',[]⟩=(alL p o'++X::A)::S:=rfl
theorem zR5(p:List It)(o:List Cr):∀x∈alL p o,wkL [x.cut 9] [x]:=fun x hx=>by
 unfold alL at hx;simp only[List.mem_cons,List.not_mem_nil,or_false]at hx
 rcases hx with rfl|rfl|rfl|rfl|rfl|rfl|rfl|rfl|rfl
 .exact⟨⟨rfl,zS _⟩,trivial⟩
 .trivial
 .trivial
 .trivial
 .trivial
 .trivial
 .exact⟨⟨rfl,by simp[AV.cuts,AV.cut,wkR,wkX,alL]⟩,trivial⟩
 .exact zJF crE o
 exact zJF bdE []
theorem zN0(p:List It)(o:List Cr)(B:List AObj)(S:ASt):wkT (trim 9 ((alL p o++B)::S)) (alL p o::S):=⟨zRd (A:=alL p o) (B:=B) (zR5 p o),rfl⟩
theorem zR6(p:List It)(fr ia:List AV)(hf:wkR fr ia)(S:ASt):zBA fr ([boxP p,.dead,.dead,.dead,.dead,rwO [],.cells [.p (prog p),nilS,nilS] 71]::S) ia (alL p []::S):=by
 have a1:=zBA.ghostD (fr:=fr) (S:=[boxP p,.dead,.dead,.dead,.dead,rwO [],.cells [.p (prog p),nilS,nilS] 71]::S) (d:=0) (by simp) 51 4 (by decide)
 have a2:=zBA.ghostD (fr:=fr) (S:=[boxP p,.dead,.dead,.dead,.dead,rwO [],.cells [.p (prog p),nilS,nilS] 71,.row 51 4 0 []]::S) (d:=0) (by simp) 74 2 (by decide)
 have a3:=zBA.nilD (fr:=fr) (S:=[boxP p,.dead,.dead,.dead,.dead,rwO [],.cells [.p (prog p),nilS,nilS] 71,.row 51 4 0 [],.row 74 2 0 []]::S) (d:=0) (i:=6) (j:=7) (m:=1) (k:=4) rfl rfl rfl
 have a4:=zBA.nilD (fr:=fr) (S:=[boxP p,.dead,.dead,.dead,.dead,rwO [],.cells [.p (prog p),.rsl 0 7 0 4,nilS] 71,.row 51 4 0 [],.row 74 2 0 []]::S) (d:=0) (i:=6) (j:=8) (m:=2) (k:=2) rfl rfl rfl
 refine zBA.trans a1 (zBA.trans a2 (zBA.trans a3 (zBA.trans a4 (zBA.wk hf ?_))))
 exact⟨⟨⟨rfl,zS _⟩,⟨⟨rfl,zS _⟩,⟨⟨rfl,rfl,rfl⟩,trivial⟩,⟨⟨rfl,rfl,rfl⟩,trivial⟩,trivial⟩⟩,rfl⟩
theorem zZq(hp:PrSm p):∀c∈zCZ p,TySm c.1:=fun c hc=>by
 unfold zCZ at hc;split at hc
 .obtain⟨x,hx,hc⟩:=List.mem_flatMap.1 hc
  unfold crI at hc;split at hc
  .have hs:=hp.2 x hx
   exact(zIF hp hs.2.2.2.1.2 (fun f hf=>(hs.2.1.2 f hf).2)).outS c hc
  cases hc
 cases hc
theorem zVV(hp:PrSm p):∀(q:Nat),(alQ p q).length<=((p.take q).map It.nd).sum:=fun q=>by
 unfold alQ
 have key:∀l:List It,(∀x∈l,ItSm x)->(l.flatMap (crI p)).length<=(l.map It.nd).sum:=fun l=>by
  induction l with
  |nil=>intro _;simp
  |cons x l ih=>
   intro h
   have h1:=ih fun y hy=>h y (List.mem_cons_of_mem _ hy)
   have hs:=h x (List.mem_cons_self ..)
   rw[List.flatMap_cons,List.length_append,List.map_cons,List.sum_cons]
   have h2:(crI p x).length<=x.nd:=by
    have hb:=zIA x
    unfold crI;split
    .have:=(zIF hp hs.2.2.2.1.2 (fun f hf=>(hs.2.1.2 f hf).2)).all
     omega
    exact Nat.zero_le _
   omega
 exact key _ fun x hx=>hp.2 x (List.mem_of_mem_take hx)
theorem zat(p:List It)(hp:PrSm p)(fb:(p.map It.nd).sum<=30000)(hr:zD4 p=false)(S:ASt):ADet Tryz.prog 10 [.agg [.p (prog p)]] S nilS S:=by
 have Jc:wkL [boxP p] [boxP p]:=⟨⟨rfl,zS _⟩,trivial⟩
 cases hw:zx p with
 |false=>
  have re:zBa p=[(2,0)]:=by unfold zBa;rw[if_neg (by rw[hw];simp)]
  have nC:=fun R=>zRF p hp hw [boxP p] Jc R
  rw[re]at nC;refine ADet.intro mixed call10 func10 rfl ?_;simp[ntmps10];refine cq (nC _) ?_
  simp
 |true=>
  have nC:=fun R=>zMR p hp fb hw [boxP p] Jc R
  cases hn:zBa p with
  |cons f l=>
   have hne:(0:Int)<(l.length:Int)+1:=by omega
   rw[hn]at nC;refine ADet.intro mixed call10 func10 rfl ?_;simp[ntmps10];refine cq (nC _) ?_
   simp[hne]
  |nil=>
   rw[hn]at nC
   obtain⟨fs,ht,ic⟩:=zI9 hw
   have tC:=fun S=>zQ1 p 300 hp fs ht (by omega) S
   cases fs with
   |cons f l=>
    have hne:(0:Int)<(l.length:Int)+1:=by omega
    refine ADet.intro mixed call10 func10 rfl ?_;simp[ntmps10];refine cq (nC _) ?_;simp;refine cq (tC _) ?_
    simp[hne]
   |nil=>
    have gC:=fun S=>zNl p hp fb S
    have hg:zDb p=tgC p:=by unfold zDb;rw[if_pos ⟨hn,ht⟩]
    rw[hg]at gC
    cases hG:tgC p with
    |nil=>
     unfold zD4 at hr;rw[hn,ht,hG]at hr
     simp at hr
    |cons f l=>
     rw[hG]at gC
     have hne:(0:Int)<(l.length:Int)+1:=by omega
     refine ADet.intro mixed call10 func10 rfl ?_;simp[ntmps10];refine cq (nC _) ?_;simp;refine cq (tC _) ?_;simp;refine cq (gC _) ?_;simp[hne]
theorem zZr(p:List It)(hp:PrSm p)(fb:(p.map It.nd).sum<=30000)(hr:zD4 p=true)(S:ASt):ADet Tryz.prog 10 [.agg [.p (prog p)]] S (.p (.sl 4 ((alQ p p.length).map crE))) S:=by
 have Jc:wkL [boxP p] [boxP p]:=⟨⟨rfl,zS _⟩,trivial⟩
 obtain⟨hn,ht,hG⟩:=of_decide_eq_true hr
 have hw:=zCj hn
 have nC:=fun R=>zMR p hp fb hw [boxP p] Jc R
 rw[hn]at nC
 have tC:=fun S=>zQ1 p 300 hp [] ht (by decide) S
 have gC:=fun S=>zNl p hp fb S
 have hg:zDb p=tgC p:=by unfold zDb;rw[if_pos ⟨hn,ht⟩]
 rw[hg,hG]at gC
 have Ua:p.length<=maxLen:=by have:=hp.1;unfold maxLen;omega
 refine ADet.introS call10 func10 rfl ?_;refine SWP.seq (SWP.of_awp mixed ?_)
 simp[ntmps10,zCY];refine SWP.seq (SWP.of_awp mixed ?_)
 simp;refine cq (nC _) ?_;simp;refine cq (tC _) ?_;simp;refine cq (gC _) ?_;simp[zCY];refine SWP.seq (SWP.of_awp mixed ?_)
 simp[zCY];refine SWP.cat ([.any,.any,.any,.ptr 0 6 0]++List.replicate 43 .any) (alL p (alQ p p.length)::S) ?_ ?_
 .refine SWP.of_awp mixed ?_
  simp[prog];refine zJD (fun q:Nat=>q<=p.length) (fun q=>([.any,.ptr 0 0 0,.any,.ptr 0 6 0]++(List.replicate 22 .any++([.p (.sl 16 (p.map It.enc)),I p.length,I q]++List.replicate 18 .any)))) (fun q=>alL p (alQ p q)::S) (fun q=>p.length-q) (fun _=>9) 0 (Nat.zero_le _) (fun _ _=>Nat.le_refl _) ?_ ?_
  .exact zR6 p _ _ (by simp) S
  intro q hq
  by_cases hlt:q<p.length
  .have aa:(q:Int)<(p.length:Int):=by omega
   have Ya:=zA hlt
   have ra:p.length-(q+1)<p.length-q:=by omega
   have hm:=List.getElem_mem hlt
   have hs:=hp.2 _ hm
   have Fd:=zU2 p hlt
   have Pu:=zVV hp q
   have Wo:=zJ5 p _ hm
   have Qu:=zIA p[q]
   have Ru:((p.take q).map It.nd).sum<=(p.map It.nd).sum:=by
    have:=congrArg (fun l=>(l.map It.nd).sum) (List.take_append_drop q p)
    simp only[List.map_append,List.sum_append]at this;omega
   have Qm:=fun h3=>(zRX hn hm h3).1
   generalize hx:p[q]=x at*
   by_cases h3:x.kind=3
   .have Vk:crI p x=(crSs p x.fields x.body).all:=by unfold crI;rw[if_pos h3]
    obtain⟨A,hA⟩:=zas hp (zAA x.body) x.fields x.body rfl (by unfold zAA;omega) (fun f hf=>(hs.2.1.2 f hf).2) hs.2.1.1 (fun s h=>⟨hs.2.2.2.1.2 s h,Qm h3 s h⟩) hs.2.2.2.1.1
    have Rc:=fun X=>hA ((alL p (alQ p q)++[X])::S) ⟨0,6,7,8⟩ ⟨alQ p q,[]⟩ (zZp p (alQ p q) X S) (by
     have hb:zAA x.body<=30000:=by unfold zAA;omega
     have m1:zAA x.body*zAA x.body<=30000*30000:=Nat.mul_le_mul hb hb
     show(alQ p q).length+zAA x.body*zAA x.body+zAA x.body<=4000000000
     omega)
    simp only[zXm,<-Vk,<-Fd]at Rc;simp[hlt,aa,hx,It.enc,h3,alL];refine cq (Rc _) ?_;simp[-trim,-wkT];exact⟨q+1,hlt,ra,Ya,zN0 p _ _ S⟩
   have Vk:crI p x=[]:=by unfold crI;rw[if_neg h3]
   rw[Vk,List.append_nil]at Fd;simp[hlt,aa,hx,It.enc,h3,-trim,-wkT];exact⟨q+1,hlt,ra,Ya,Fd ▸ zN0 p _ [_] S⟩
  have aa:¬(q:Int)<(p.length:Int):=by omega
  obtain rfl:q=p.length:=by omega
  simp[aa];exact zBA.wk (by simp) ⟨zF3 (zR5 p _),rfl⟩
 generalize alQ p p.length=o
 refine SWP.fzM (i:=7) (j:=6) (m:=1) (k:=4) rfl rfl rfl (o.map crE) (by simp) (fun r row hr=>by
  rw[List.getElem?_map]at hr
  obtain⟨y,_,rfl⟩:=Option.map_eq_some_iff.1 hr
  rfl) (fun r row j q hr hj=>by
  rw[List.getElem?_map]at hr
  obtain⟨y,hy,rfl⟩:=Option.map_eq_some_iff.1 hr
  exact zUx crE 4 (fun _=>rfl) hy hj) ?_
 refine SWP.of_awp mixed ?_;simp[alL,wkX]
theorem allC(p:List It)(hp:PrSm p)(fb:(p.map It.nd).sum<=30000)(S:ASt):ADet Tryz.prog 10 [.agg [.p (prog p)]] S (.p (.sl 4 ((zCZ p).map crE))) S:=by
 unfold zCZ
 cases hr:zD4 p with
 |false=>exact ADet.less (.p (.nil 4)) (zat p hp fb hr S)
 |true=>
  have:=zZr p hp fb hr S
  unfold alQ at this;rw[List.take_length]at this;exact this
theorem zR7(hp:PrSm p)(fb:(p.map It.nd).sum<=30000):(zCZ p).length<=30000:=by
 unfold zCZ;split
 .have:=zVV hp p.length
  unfold alQ at this;rw[List.take_length]at this;omega
 exact Nat.zero_le _
theorem zR8{c:Cr}(h:c∈zCZ p):zx p=true:=by
 unfold zCZ at h;split at h
 .rename_i hr
  exact zCj (of_decide_eq_true hr).1
 cases h
theorem zR9(hp:PrSm p):∀c∈zCZ p,∀S,ADet Tryz.prog 12 [.agg [.p (prog p)],tyV c.1] S (B (sA p c.1 false)) S:=fun c hc S=>zam p hp c.1 (zZq hp c hc) 2600 _ (zan (zR8 hc) c.1 false) S
theorem zJG(p:List It)(l:List Cr){q:Nat}(h:q<l.length):zDh p (l.take (q+1))=zDh p (l.take q)++(if sA p l[q].1 false=true then []else [(150,l[q].2)]):=by
 unfold zDh;rw[zRj _ l q h]
 congr 1
 cases sA p l[q].1 false<;>rfl
theorem zFT(p:List It)(hp:PrSm p)(fb:(p.map It.nd).sum<=30000)(S:ASt):ADet Tryz.prog 11 [.agg [.p (prog p)]] S (.p (.sl 2 ((zD5 p).map fltE))) S:=by
 have aC:=fun S=>allC p hp fb S
 have hS:=zR9 hp
 have jd:=zR7 hp fb
 unfold zD5
 generalize zCZ p=l at*
 have xi:l.length<=maxLen:=by unfold maxLen;omega
 refine ADet.intro mixed call11 func11 rfl ?_;simp[ntmps11];refine cq (aC _) ?_;simp;refine zBF 54 2 (by decide) [boxP p] (fun q:Nat=>q<=l.length) (fun q=>([.any,.ptr 0 0 0,.any,.osl 2 ((zDh p (l.take q)).map fltE) 0 1,.any,.any,.any,.p (.sl 4 (l.map crE)),I l.length,I q]++List.replicate 16 .any)) (fun q=>[boxP p,.tok 54 2 (zDh p (l.take q)).length]::S) (fun q=>l.length-q) 0 (Nat.zero_le _) ?_ ?_ ?_ ?_
 .simp[zDh]
 .simp
 .rfl
 intro q hq
 have ic:(zDh p (l.take q)).length<=q:=zVT _ l q
 by_cases hlt:q<l.length
 .have aa:(q:Int)<(l.length:Int):=by omega
  have Ya:=zA hlt
  have ra:l.length-(q+1)<l.length-q:=by omega
  have ta:(zDh p (l.take q)).length+1<=4294967296:=by omega
  have hx:=hS _ (List.getElem_mem hlt)
  have ht:=zJG p l hlt
  generalize hy:l[q]=c at*
  cases hs:sA p c.1 false with
  |true=>
   rw[hs,if_pos rfl,List.append_nil]at ht;rw[hs]at hx;simp[hlt,aa,hy,crE,zP];refine cq (hx _) ?_;simp
   exact⟨q+1,hlt,ra,⟨by rw[ht],Ya⟩,by rw[ht]⟩
  |false=>
   rw[hs,if_neg (by decide)]at ht
   rw[hs]at hx;simp[hlt,aa,hy,crE,zP];refine cq (hx _) ?_;simp[ta];exact⟨q+1,hlt,ra,⟨by simp[ht,fltE],Ya⟩,by simp[ht]⟩
 have aa:¬(q:Int)<(l.length:Int):=by omega
 obtain rfl:q=l.length:=by omega
 rw[List.take_length];simp[aa]
theorem zau(p:List It)(hp:PrSm p)(fb:(p.map It.nd).sum<=30000)(S:ASt):ADet Tryz.prog 5 [.agg [.p (prog p)]] S (B (zUk p)) S:=by
 have aC:=fun S=>allC p hp fb S
 have cC:=fun S=>zFT p hp fb S
 unfold zUk
 by_cases h0:(zD5 p).length=0
 .have hz:zD5 p=[]:=List.eq_nil_of_length_eq_zero h0
  rw[hz]at cC
  by_cases h1:(zCZ p).length=1
  .have rd:((zCZ p).length:Int)=1:=by omega
   refine ADet.intro mixed call5 func5 rfl ?_;simp[ntmps5];refine cq (cC _) ?_;simp;refine cq (aC _) ?_;simp[hz,h1,rd]
  have rd:¬((zCZ p).length:Int)=1:=by omega
  refine ADet.intro mixed call5 func5 rfl ?_;simp[ntmps5];refine cq (cC _) ?_;simp;refine cq (aC _) ?_;simp[hz,h1,rd]
 have fa:¬((zD5 p).length:Int)=0:=by omega
 have hz:¬zD5 p=[]:=fun e=>h0 (by rw[e];rfl)
 refine ADet.intro mixed call5 func5 rfl ?_;simp[ntmps5];refine cq (cC _) ?_;simp[hz,h0,fa]
inductive LeO:AObj->AObj->Prop
 |refl (o:AObj):LeO o o
 |dead (o:AObj):LeO o .dead
 |cells {cs cs':List AV} (t:TypeId):LeAs cs cs'->LeO (.cells cs t) (.cells cs' t)
inductive LeOs:List AObj->List AObj->Prop
 |nil:LeOs [] []
 |cons {o o':AObj} {l l':List AObj}:LeO o o'->LeOs l l'->LeOs (o::l) (o'::l')
theorem LeO.ok{o o':AObj}(h:LeO o o'){Pr:Prot}{φ:Fi2}{w:World}{e:Ent}(hr:RelO Pr φ w o e):RelO Pr φ w o' e:=by
 cases h with
 |refl=>exact hr
 |dead=>trivial
 |cells t ta=>
  obtain⟨h0,g,xs,h1,h2,h3,h4,h5⟩:=hr
  obtain⟨hl,hk⟩:=(zCr (Pr:=Pr) (φ:=φ)).2 ta
  exact⟨h0,g,xs,h1,h2,by rw[<-hl];exact h3,fun j c x hc hx=>by
   obtain⟨v,k1,k2⟩:=hk j c hc
   exact k2 (h4 j v x k1 hx),h5⟩
theorem LeOs.get{l l':List AObj}(h:LeOs l l'):l.length=l'.length/\∀(i:Nat) (o:AObj),l'[i]? =some o->∃o0,l[i]? =some o0/\LeO o0 o:=by
 induction h with
 |nil=>exact⟨rfl,fun i o h=>by simp at h⟩
 |cons h _ ih=>
  refine⟨by simp[ih.1],fun i o hi=>?_⟩
  cases i with
  |zero=>simp at hi;subst hi;exact⟨_,rfl,h⟩
  |succ i=>simpa using ih.2 i o (by simpa using hi)
theorem zBA.le{fr ia:List AV}{L L':List AObj}{R:ASt}(hf:LeAs fr ia)(hl:LeOs L L'):zBA fr (L::R) ia (L'::R):=fun Pr φ a w h hR hne=>by
 obtain⟨k1,k2⟩:=(zCr (Pr:=Pr) (φ:=φ)).2 hf
 obtain⟨l1,l2⟩:=hl.get
 refine⟨φ,Stp.refl _ _ _,⟨by rw[<-k1];exact h.1,fun t v x hv hx=>?_⟩,⟨fun d i o ho=>?_,hR.dis,hR.lt,hR.pr,hR.tb,?_⟩,Nat.le_refl _⟩
 .obtain⟨v0,m1,m2⟩:=k2 t v hv
  exact m2 (h.2 t v0 x m1 hx)
 .cases d with
  |zero=>
   obtain⟨o0,m1,m2⟩:=l2 i o ho
   obtain⟨e,he,hr⟩:=hR.obj 0 i o0 m1
   exact⟨e,he,m2.ok hr⟩
  |succ d=>exact hR.obj (d+1) i o ho
 have:=hR.shape
 simp only[List.map_cons]at this ⊢;rw[this,l1]
abbrev nilP:PV:=.v (.slice none 0 0)
def exL(k n:Int)(pl:BA)(args:PV)(pos:Int):List PV:=[pU k,pI n,pS emS,pS emS,pS pl,nilP,args,pI pos]
def stN(k:Int)(nm:BA)(nms es body:PV):List PV:=[pU k,pS nm,pS emS,nms,pU 0,pS emS,nilP,pI 0,pS emS,nilP,es,body,nilP,nilP,pI 0]
def xL(a:Int):List PV:=stN 1 (⟨#[120]⟩:BA) nilP (.sl 8 [exL a 0 emS (.sl 8 [exL 1 1 emS nilP 0]) 0]) nilP
def sL(h:Int):Nat->List PV
 |0=>stN 10 emS (.sl 1 [[pS (⟨#[121]⟩:BA)]]) (.sl 8 [exL h 0 (⟨#[120]⟩:BA) nilP 5]) nilP
 |d+1=>stN 13 emS nilP nilP (.sl 15 [sL h d])
def pL(a h:Int)(d:Nat):PV:=.sl 16 [[pU 3,pS (⟨#[109,97,105,110]⟩:BA),nilP,pU 1,pS emS,nilP,.sl 15 [xL a,stN 9 emS nilP nilP (.sl 15 [sL h d])]]++exL 1 0 emS nilP 0++[pI 0]]
theorem zav(a:Int):LeRow (xL a) (acX a).enc:=by
 rw[zBN];unfold xL stN
 repeat' constructor
theorem zZs(h:Int):∀d,LeRow (sL h d) (acS h d).enc
 |0=>by
  rw[zBN];unfold sL stN
  repeat' constructor
 |d+1=>by
  have ih:=zZs h d
  rw[zBN];unfold sL stN
  repeat' (first|exact ih|constructor)
theorem zaw(h:Int)(d:Nat):LeRow (stN 9 emS nilP nilP (.sl 15 [sL h d])) (St.mk 9 emS emS [] zStT 0 ⟨emS,[]⟩ [] [acS h d] [] [] 0).enc:=by
 have ih:=zZs h d
 rw[zBN];unfold stN
 repeat' (first|exact ih|constructor)
theorem zax(a h:Int)(d:Nat):LeP (pL a h d) (prog (acP a h d)):=by
 have h1:=zav a
 have h2:=zaw h d
 unfold pL exL;refine .sl (.cons ?_ (.refl _))
 show LeRow ([_,_,_,_,_,_,_]++[_,_,_,_,_,_,_,_]++[_]) (It.enc _)
 unfold It.enc
 repeat' (first|exact h1|exact h2|constructor)
theorem zXn(h:Int)(d:Nat):∃k nm nms es body,sL h d=stN k nm nms es body:=by
 cases d with
 |zero=>exact⟨_,_,_,_,_,rfl⟩
 |succ d=>exact⟨_,_,_,_,_,rfl⟩
theorem zXo(h:Int)(d:Nat):sL h (d+1)=stN 13 emS nilP nilP (.sl 15 [sL h d]):=rfl
theorem zEd(a h:Int)(d:Nat)(hd:d<=20)(S:ASt):ADet Tryz.prog 6 [U a,U h,I d] S (.agg [.p (prog (acP a h d))]) S:=by
 refine ADet.less (.agg (.cons (.p (zax a h d)) (.refl _))) ?_
 have Dv:d<=maxLen:=by unfold maxLen;omega
 refine ADet.intro mixed call6 func6 rfl ?_;simp[ntmps6];refine zJD (fun q:Nat=>q<=d) (fun q=>([.any,.any,I d,.any,.any,.any,.ptr 0 0 0,.ptr 0 3 0,.ptr 0 6 0,I q]++List.replicate 31 .any)) (fun q=>[.cells [nilS] 27,.dead,.dead,.cells ((xL a).map AV.p) 57,.dead,.dead,.cells ((sL h q).map AV.p) 57]::S) (fun q=>d-q) (fun _=>7) 0 (Nat.zero_le _) (fun _ _=>Nat.le_refl _) ?_ ?_
 .simp only[xL,sL,stN,exL,List.map_cons,List.map_nil]
  refine zBA.le ?_ ?_
  .repeat' constructor
  repeat' constructor
 intro q hq
 obtain⟨k,nm,nms,es,body,hf⟩:=zXn h q
 have bg:=zXo h q
 by_cases hlt:q<d
 .have aa:(q:Int)<(d:Int):=by omega
  have Ya:=zA hlt
  have ra:d-(q+1)<d-q:=by omega
  rw[hf]at bg ⊢;simp only[stN,xL,List.map_cons,List.map_nil]at bg ⊢;simp[aa];refine⟨q+1,hlt,ra,Ya,?_⟩;rw[bg];simp
 have aa:¬(q:Int)<(d:Int):=by omega
 obtain rfl:q=d:=by omega
 unfold pL;rw[hf];simp only[stN,xL,exL,List.map_cons,List.map_nil];simp[aa]
end Go.Proofs.YtgpajpilkapciaaGreatDoor
namespace Go.Proofs.YtgpajpilkapciaaGreatDoor
open Go.RowKit _root_.Go.Proofs.Tryz
theorem zSA{P:Program}{fr:List AV}{o:Oper}{x y:Operand}{T k:TypeId}{kk:IntKind}{a b:Int}(hb:b≠0)(ho:o.op= .binOp .rem T x y k)(hx:evA fr x= .p (.v (.int kk a)))(hy:evA fr y= .p (.v (.int kk b))):genP P o fr=some (.p (.v (.int kk (a.tmod b)))):=by
 obtain⟨dst,op,ty,pos,after,guard⟩:=o
 simp only at ho;subst ho
 have h1:(zGo (.binOp .rem T x y k)&&zR fr (Op.operands (.binOp .rem T x y k)).toList)=true:=by
  show(true&&zR fr [x,y])=true
  rw[Bool.true_and,zR,zR,zR,hx,hy];rfl
 have h0:zT P (do eqGuard .rem T x y (.int kk a) (.int kk b);binOp .rem T (.int kk a) (.int kk b):Sem Value)=some (.int kk (a.tmod b)):=by
  have e:(do eqGuard .rem T x y (.int kk a) (.int kk b);binOp .rem T (.int kk a) (.int kk b):Sem Value)=pure (.int kk (a.tmod b)):=by
   simp[eqGuard,binOp,Op.intDiv,hb]
  rw[e];rfl
 have h2:zT P (execOp (fun z=>(zBM (evA fr z)).getD undef) ⟨dst,.binOp .rem T x y k,ty,pos,after,guard⟩)=some (.value (.int kk (a.tmod b))):=by
  have e1:(zBM (evA fr x)).getD undef= .int kk a:=by rw[hx];rfl
  have e2:(zBM (evA fr y)).getD undef= .int kk b:=by rw[hy];rfl
  unfold execOp;simp only[e1,e2];exact zBp _ _ _ h0
 unfold genP;simp only;rw[if_pos h1,h2];rfl
noncomputable def genR (P:Program) (o:Oper) (fr:List AV):Option AV:=genP P o fr
@[simp] theorem genP_rem {P : Program} (dst : Option Tmp) (x y : Operand) (T k ty : TypeId) (pos : String) (after : Array Edge) (guard : Option (Nat × Bool)) (fr : List AV) :
  genP P ⟨dst,.binOp .rem T x y k,ty,pos,after,guard⟩ fr=(match evA fr x,evA fr y with| .p (.v (.int k1 a)),.p (.v (.int k2 b))=>if k1=k2/\b≠0 then some (.p (.v (.int k1 (a.tmod b))))else genR P ⟨dst,.binOp .rem T x y k,ty,pos,after,guard⟩ fr|_,_=>genR P ⟨dst,.binOp .rem T x y k,ty,pos,after,guard⟩ fr):=by
 split
 .rename_i k1 a k2 b hx hy
  split
  .rename_i h
   obtain⟨rfl,hb⟩:=h
   exact zSA hb rfl hx hy
  rfl
 rfl
attribute [local simp] List.replicate List.range List.range.loop
theorem zZt{a h:Int}{d:Nat}(ha:a∈zUn)(hh:h∈zUo)(hd:d<21):zUk (acP a h d)=zUl a h/\great (acP a h d)=false:=by
 have h0:=zO9
 unfold zRi at h0
 have h1:=List.all_eq_true.1 (List.all_eq_true.1 (List.all_eq_true.1 h0 a ha) h hh) d (List.mem_range.2 hd)
 simp only[Bool.and_eq_true,beq_iff_eq,Bool.not_eq_true']at h1;exact h1
theorem zZu{a h:Int}{d:Nat}(ha:a∈zUn)(hh:h∈zUo)(hd:d<21):PrSm (acP a h d)/\((acP a h d).map It.nd).sum<=30000:=by
 have hg:=(zZt ha hh hd).2
 exact⟨zYs hg,Nat.le_trans (zY1 hg) (by decide)⟩
theorem zIM{a h:Int}{d:Nat}(ha:a∈zUn)(hh:h∈zUo)(hd:d<21){b:Bool}(hb:zUl a h=b)(S:ASt):ADet Tryz.prog 5 [.agg [.p (prog (acP a h d))]] S (B b) S:=by
 obtain⟨h1,h2⟩:=zZu ha hh hd
 have:=zau (acP a h d) h1 h2 S
 rw[(zZt ha hh hd).1,hb]at this;exact this
theorem zN1(S:ASt):ADet Tryz.prog 7 [] S (B true) S:=by
 have c1:∀S,ADet Tryz.prog 11 [.agg [.p (prog (acP 26 4 0))]] S (.p (.sl 2 [[.v (.int .i64 150),.v (.int .i64 5)]])) S:=fun S=>by
  obtain⟨h1,h2⟩:=zZu (a:=26) (h:=4) (d:=0) (by decide) (by decide) (by decide)
  have:=zFT (acP 26 4 0) h1 h2 S
  rw[zUm]at this;exact this
 have a1:=fun S=>zEd 26 4 0 (by decide) S
 have a2:=fun S=>zEd 26 5 0 (by decide) S
 have a3:=fun S=>zEd 27 4 0 (by decide) S
 have a4:=fun S=>zEd 27 5 0 (by decide) S
 have a5:=fun S=>zEd 23 4 0 (by decide) S
 have a6:=fun S=>zEd 23 5 0 (by decide) S
 have a7:=fun S=>zEd 23 6 0 (by decide) S
 have s2:=fun S=>zIM (a:=26) (h:=5) (d:=0) (b:=false) (by decide) (by decide) (by decide) (by decide) S
 have s3:=fun S=>zIM (a:=27) (h:=4) (d:=0) (b:=true) (by decide) (by decide) (by decide) (by decide) S
 have s4:=fun S=>zIM (a:=27) (h:=5) (d:=0) (b:=true) (by decide) (by decide) (by decide) (by decide) S
 have s5:=fun S=>zIM (a:=23) (h:=4) (d:=0) (b:=true) (by decide) (by decide) (by decide) (by decide) S
 have s6:=fun S=>zIM (a:=23) (h:=5) (d:=0) (b:=false) (by decide) (by decide) (by decide) (by decide) S
 have s7:=fun S=>zIM (a:=23) (h:=6) (d:=0) (b:=true) (by decide) (by decide) (by decide) (by decide) S
 generalize acP 26 4 0=p1 at*
 generalize acP 26 5 0=p2 at*
 generalize acP 27 4 0=p3 at*
 generalize acP 27 5 0=p4 at*
 generalize acP 23 4 0=p5 at*
 generalize acP 23 5 0=p6 at*
 generalize acP 23 6 0=p7 at*
 refine ADet.intro mixed call7 func7 rfl ?_;simp[ntmps7];refine cq (a1 _) ?_;simp;refine cq (c1 _) ?_;simp;refine cq (a2 _) ?_;simp;refine cq (s2 _) ?_;simp;refine cq (a3 _) ?_;simp;refine cq (s3 _) ?_;simp;refine cq (a4 _) ?_;simp;refine cq (s4 _) ?_;simp;refine cq (a5 _) ?_;simp;refine cq (s5 _) ?_;simp;refine cq (a6 _) ?_;simp;refine cq (s6 _) ?_;simp;refine cq (a7 _) ?_;simp;refine cq (s7 _) ?_;simp
theorem zZv{n:Int}(h:(Lit.int .u8 n).wf=true):0<=n:=by
 have h2:0<=n/\n<=255:=by simpa [Lit.wf,IntKind.min,IntKind.max,IntKind.signed,IntKind.bits]using h
 exact h2.1
theorem zXp(k:Int):∃d:Nat,d<21/\IntKind.i64.wrap ((IntKind.u64.wrap k).tmod 21)=(d:Int):=by
 have h0:0<=IntKind.u64.wrap k:=by rw[IntKind.wrap_u64];omega
 have h1:(IntKind.u64.wrap k).tmod 21=IntKind.u64.wrap k%21:=Int.tmod_eq_emod_of_nonneg h0
 refine⟨(IntKind.u64.wrap k%21).toNat,by omega,?_⟩
 rw[h1,IntWalk.i64_in _ (by omega)];omega
theorem zLg(m h:Int)(k:Int)(hm:0<=m)(hh:0<=h)(S:ASt):ADet Tryz.prog 3 [U m,U h,I k] S (B true) S:=by
 have wC:=zN1
 obtain⟨d,hd,hk⟩:=zXp k
 have Br:m.tmod 6=m%6:=Int.tmod_eq_emod_of_nonneg hm
 have Dr:h.tmod 3=h%3:=Int.tmod_eq_emod_of_nonneg hh
 have em:m%6=0\/m%6=1\/m%6=2\/m%6=3\/m%6=4\/m%6=5:=by omega
 have eh:h%3=0\/h%3=1\/h%3=2:=by omega
 rcases em with e|e|e|e|e|e<;>rcases eh with f|f|f<;>(
  rw[e]at Br;rw[f]at Dr;refine ADet.intro mixed call3 func3 rfl ?_;simp[ntmps3,Br,Dr,hk];refine cq (zEd _ _ d (by omega) _) ?_
  simp;refine cq (zIM (by decide) (by decide) hd rfl _) ?_
  simp[zUl];refine cq (wC _) ?_;simp)
attribute [local simp] zf za zn zb List.forall_mem_cons List.contains_cons List.contains_nil List.find? zm zl zZ
def spnQ(p:List It)(q:Nat):Nat:=((p.take q).map fun x=>spnL 200 x.body).sum
theorem zSB(p:List It){q:Nat}(h:q<p.length):spnQ p (q+1)=spnQ p q+spnL 200 p[q].body:=by
 unfold spnQ;rw[List.take_succ_eq_append_getElem h,List.map_append,List.sum_append];simp
theorem zXq(p:List It)(q:Nat):spnQ p q<=(p.map It.nd).sum:=by
 have key:∀l:List It,(l.map fun x=>spnL 200 x.body).sum<=(l.map It.nd).sum:=fun l=>by
  induction l with
  |nil=>simp
  |cons x l ih=>
   have h1:=zIH x.body 200
   have h2:=zIA x
   rw[List.map_cons,List.sum_cons,List.map_cons,List.sum_cons];omega
 have h1:=key (p.take q)
 have h2:=congrArg (fun l=>(l.map It.nd).sum) (List.take_append_drop q p)
 simp only[List.map_append,List.sum_append]at h2;unfold spnQ;omega
theorem zLh(p:List It)(S:ASt):ADet Tryz.prog 4 [.agg [.p (prog p)]] S (B true) S:=by
 have wC:=zN1
 have gC:=fun S=>zYh S p
 cases hg:great p with
 |true=>
  rw[hg]at gC;refine ADet.intro mixed call4 func4 rfl ?_;simp[ntmps4];refine cq (gC _) ?_;simp;refine cq (wC _) ?_
  simp
 |false=>
 rw[hg]at gC
 have hp:=zYs hg
 have fb:(p.map It.nd).sum<=30000:=Nat.le_trans (zY1 hg) (by decide)
 have aC:=fun S=>allC p hp fb S
 have cC:=fun S=>zFT p hp fb S
 have Su:=zR9 hp
 have jd:=zR7 hp fb
 have Ie:=zLV p
 have ej:(p.map fun x=>spnL 200 x.body).sum=spnQ p p.length:=by unfold spnQ;rw[List.take_length]
 rw[ej]at Ie
 have Ua:p.length<=maxLen:=by have:=hp.1;unfold maxLen;omega
 have ic:∀q,(zDh p ((zCZ p).take q)).length<=q:=fun q=>zVT _ _ q
 have Tu:=fun q (h:q<(zCZ p).length)=>zJG p (zCZ p) h
 have ee:∀q (h:q<(zCZ p).length),sA p (zCZ p)[q].1 false=false->(zDh p (zCZ p))[(zDh p ((zCZ p).take q)).length]? =some (150,(zCZ p)[q].2):=fun q h hs=>by
  unfold zDh;exact zZh _ _ q h (by simp[hs])
 unfold zD5 at cC
 generalize zCZ p=l at*
 generalize hF:zDh p l=fl at*
 have Uu:fl.length<=l.length:=by
  have:=ic l.length
  rw[List.take_length,hF]at this;exact this
 have xi:l.length<=maxLen:=by unfold maxLen;omega
 have Iu:fl.length<=maxLen:=by unfold maxLen;omega
 refine ADet.intro mixed call4 func4 rfl ?_;simp[ntmps4];refine cq (gC _) ?_;simp;refine zH (fun q:Nat=>q<=p.length) (fun q=>([.any,.ptr 0 0 0,.any,I (spnQ p q),I q]++List.replicate 86 .any)) (fun q=>[boxP p]::S) (fun q=>p.length-q) 0 (Nat.zero_le _) ?_ ?_ ?_
 .simp[spnQ]
 .simp
 intro q hq
 by_cases hlt:q<p.length
 .have aa:(q:Int)<(p.length:Int):=by omega
  have Ya:=zA hlt
  have ra:p.length-(q+1)<p.length-q:=by omega
  have Fd:=zSB p hlt
  have va:=zXq p (q+1)
  have hm:=List.getElem_mem hlt
  have hs:=hp.2 _ hm
  have vc:=zJ5 p _ hm
  have hn2:=zIA p[q]
  have hx:∀S,ADet Tryz.prog 9 [.p (.sl 15 (p[q].body.map St.enc)),I 200] S (I (spnL 200 p[q].body)) S:=fun S=>zXk 200 p[q].body (by decide) hs.2.2.2.1.2 hs.2.2.2.1.1 (by omega) S
  generalize hy:p[q]=x at*
  have He:IntKind.i64.wrap ((spnQ p q:Int)+(spnL 200 x.body:Int))=(spnQ p (q+1):Int):=by rw[IntWalk.i64_in _ (by omega)];omega
  simp[hlt,aa,hy,It.enc,prog];refine cq (hx _) ?_;simp;exact⟨q+1,hlt,ra,⟨He,Ya⟩⟩
 have aa:¬(q:Int)<(p.length:Int):=by omega
 obtain rfl:q=p.length:=by omega
 clear hlt hq;simp[aa,prog];refine cq (aC _) ?_;simp;refine cq (cC _) ?_;simp;refine zH (fun q:Nat=>q<=l.length) (fun q=>([.any,.ptr 0 0 0,.any,I (spnQ p p.length),.any,.p (.sl 4 (l.map crE)),.p (.sl 2 (fl.map fltE)),I (zDh p (l.take q)).length,I q]++List.replicate 82 .any)) (fun q=>[boxP p]::S) (fun q=>l.length-q) 0 (Nat.zero_le _) ?_ ?_ ?_
 .simp[zDh]
 .simp
 intro q hq
 by_cases hlt:q<l.length
 .have aa:(q:Int)<(l.length:Int):=by omega
  have Ya:=zA hlt
  have ra:l.length-(q+1)<l.length-q:=by omega
  have hx:=Su _ (List.getElem_mem hlt)
  have ht:=Tu q hlt
  have rn:=ee q hlt
  have La:=ic q
  generalize hy:l[q]=c at*
  cases hs:sA p c.1 false with
  |true=>
   rw[hs]at hx;rw[hs,if_pos rfl,List.append_nil]at ht;simp[hlt,aa,hy,crE,zP];refine dB [] (by kernel_rfl) ?_
   simp[hlt,aa,hy,crE,zP];refine cq (hx _) ?_;simp
   exact⟨q+1,hlt,ra,⟨by rw[ht],Ya⟩⟩
  |false=>
   rw[hs]at hx;rw[hs,if_neg (by decide)]at ht
   have hg:=rn hs
   have ym:IntKind.i64.wrap (((zDh p (l.take q)).length:Int)+1)=((zDh p (l.take (q+1))).length:Int):=by rw[ht,List.length_append,IntWalk.i64_in _ (by omega)];rfl
   generalize Be:zDh p (l.take (q+1))=f2 at*
   generalize (zDh p (l.take q)).length=n at*
   have Gd:n<fl.length:=(List.getElem?_eq_some_iff.1 hg).1
   have gq:(n:Int)<(fl.length:Int):=by omega
   have iq:¬(fl.length:Int)<=(n:Int):=by omega
   have Ld:=(List.getElem?_eq_some_iff.1 hg).2
   simp[hlt,aa,hy,crE,zP];refine dB [] (by kernel_rfl) ?_
   simp[hlt,aa,hy,crE,zP];refine cq (hx _) ?_;simp;refine dB [] (by kernel_rfl) ?_
   simp[hlt,aa,hy,crE,zP,Gd,gq,iq,Ld,fltE];exact⟨q+1,hlt,ra,⟨by rw[Be];exact ym,Ya⟩⟩
 have aa:¬(q:Int)<(l.length:Int):=by omega
 obtain rfl:q=l.length:=by omega
 rw[List.take_length,hF]
 by_cases he:l.length=spnQ p p.length
 .have vn:(l.length:Int)=(spnQ p p.length:Int):=by omega
  simp[aa,vn];refine cq (wC _) ?_;simp
 have hz:l=[]:=List.eq_nil_of_length_eq_zero (Ie.resolve_left he)
 subst hz
 have vn:¬(0:Int)=(spnQ p p.length:Int):=by simp at he;omega
 have Vu:((0:Int)==(spnQ p p.length:Int))=false:=by simpa using vn
 simp[aa,vn,Vu];refine cq (wC _) ?_;simp
end Go.Proofs.YtgpajpilkapciaaGreatDoor
