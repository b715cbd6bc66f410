/- A part of the proof. -/
import Derived.Test.YtdflkegnmmkkoaaGreatDoorXNVi
import Derived.Test.YtdflkegnmmkkoaaGreatDoorXNRf
import Derived.Test.YtdflkegnmmkkoaaGreatDoorXNQj
import Derived.Test.YtdflkegnmmkkoaaGreatDoorXNSa
set_option linter.unusedVariables false
set_option linter.unusedSimpArgs false
set_option maxRecDepth 100000
set_option maxHeartbeats 32000000
namespace Go.Proofs.YtdflkegnmmkkoaaGreatDoor
open Go.RowKit _root_.Go.Proofs.Tryz
variable{p:List It}
mutual
theorem zQL:∀s:St,s.tabs.length<=s.nd
 | .mk op nm sd nms ty i pl es b el ar pos=>by
  have a1:=zDT b
  have a2:=zDT el
  have a3:=zI3 ar
  have a4:=zr ((op !=12)||(ty.stands&&ty.owned)) 70 pos
  rw[St.tabs,St.nd];simp only[List.length_append];omega
theorem zDT:∀l:List St,(St.tabss l).length<=St.nds l
 | []=>by rw[St.tabss];exact Nat.zero_le _
 |s::l=>by
  have a1:=zQL s
  have a2:=zDT l
  rw[St.tabss,St.nds];simp only[List.length_append];omega
theorem zI3:∀l:List (ArOf St),(Ar.tabss l).length<=Ar.nds l
 | []=>by rw[Ar.tabss];exact Nat.zero_le _
 |⟨v,n,b⟩::l=>by
  have a1:=zDT b
  have a2:=zI3 l
  rw[Ar.tabss,Ar.nds];simp only[List.length_append];omega
end
theorem zKy:∀l:List Fi,l.length<=(l.map Fi.nd).sum
 | []=>by simp
 |f::l=>by
  have:=zKy l
  have h1:1<=f.nd:=by unfold Fi.nd;omega
  rw[List.map_cons,List.sum_cons,List.length_cons];omega
theorem zQM(hw:zAC p=true)(x:It)(hx:x∈p):∃l,x.tabs p 300=some l/\l.length<=x.nd:=by
 unfold zAC at hw
 have qq:(p.length:Int)<=30:=by
  unfold zv at hw;simp only[Bool.and_eq_true,decide_eq_true_eq]at hw;exact hw.1
 rw[zB4 qq]at hw
 have hB:∀y∈p,y.fields.length<=6:=fun y hy=>by
  have:=List.all_eq_true.1 hw y hy
  unfold It.whole at this;split at this
  .unfold zv at this
   simp only[Bool.and_eq_true,decide_eq_true_eq]at this
   have:=this.2.1
   omega
  split at this
  .unfold zv at this
   simp only[Bool.and_eq_true,decide_eq_true_eq]at this
   have:=this.2.1.1
   omega
  cases this
 have hf:fresh p []<=30:=by
  have:=List.countP_le_length (p:=fun x:It=>!([]:List BA).any fun y=>sEq x.name y) (l:=p)
  unfold fresh;omega
 obtain⟨r,h1,_⟩:=zDC p x.name 6 hB 300 x.fields [] (by have:=hB x hx;omega)
 have a1:=zFG (fun f:Fi=>zH (f.type.stands&&((x.kind==3)||f.type.owned)) 70 x.pos) (fun _=>1) x.fields (fun f _=>zr _ _ _)
 have a2:(x.fields.map fun _=>1).sum=x.fields.length:=by
  generalize x.fields=l
  induction l with
  |nil=>rfl
  |cons f l ih=>rw[List.map_cons,List.sum_cons,ih,List.length_cons];omega
 have a3:=zr (x.result.stands&&x.result.owned) 70 x.pos
 have a4:=zDT x.body
 rw[zYR]at a4
 have a5:=zKy x.fields
 have a6:=zr (!r.1) 71 x.pos
 have Cd:x.nd=3+((x.fields.map Fi.nd).sum+(x.result.nd+((x.body.map St.nd).sum+x.ret.nd))):=rfl
 unfold It.tabs;split
 .exact⟨_,rfl,by simp only[List.length_append];omega⟩
 rw[h1]
 exact⟨_,rfl,by simp only[List.length_append];omega⟩
theorem zI4{p:List It}(hw:zAC p=true):∀l:List It,(∀x∈l,x∈p)->∃fs,zBu p 300 l=some fs/\fs.length<=(l.map It.nd).sum
 | [],_=>⟨[],rfl,Nat.zero_le _⟩
 |x::l,h=>by
  obtain⟨a,h1,h2⟩:=zQM hw x (h x (by simp))
  obtain⟨b,h3,h4⟩:=zI4 hw l fun y hy=>h y (List.mem_cons_of_mem _ hy)
  refine⟨a++b,by rw[zBu,h1,h3],?_⟩
  rw[List.length_append,List.map_cons,List.sum_cons];omega
theorem zJ1(hw:zAC p=true):∃fs,zDO p 300=some fs/\fs.length<=(p.map It.nd).sum:=by
 obtain⟨fs,h1,h2⟩:=zI4 hw p fun x h=>h
 exact⟨fs,by unfold zDO;rw[if_pos hw];exact h1,h2⟩
theorem zHI(h:zAt p=[]):zAC p=true:=by
 cases hw:zAC p with
 |true=>rfl
 |false=>
  unfold zAt at h;rw[if_neg (by rw[hw];simp)]at h
  cases h
def zBo(p:List It):List Flt:=if zAt p=[]/\zDO p 300=some []then tgC p else [(2,0)]
def tgF(p:List It)(x:It):Option Flt:=
 match tgSs p x.fields x.body with
 |(_,some f)=>some f
 |(env,none)=>match tyE p env x.ret with
  | .error f=>some f
  | .ok t=>if eqT t x.result=true then none else some (100,x.ret.pos)
theorem zXG(p:List It)(x:It):tgI p x=if x.kind=3 then tgF p x else none:=rfl
theorem zZb(h:zAt p=[]){x:It}(hx:x∈p)(h3:x.kind=3):(∀s∈x.body,StG p s)/\∃d,x.ret.whole d=true:=by
 have hw:=zHI h
 obtain⟨_,hf⟩:=zFL (((zD5 p).1 h).2.2.1 x hx)
 obtain⟨fl,k1,_⟩:=hf h3
 refine⟨zHj x.body (fun s hs σ hn=>zY1 s (zHG hw hx s hs) σ hn) _ k1,?_⟩
 unfold zAC zv at hw;simp only[Bool.and_eq_true,decide_eq_true_eq]at hw;rw[List.take_of_length_le (by omega)]at hw
 have:=List.all_eq_true.1 hw.2 x hx
 unfold It.whole at this;rw[if_neg (by omega),if_pos h3]at this
 simp only[Bool.and_eq_true]at this;exact⟨_,this.2.2.2.2.1⟩
attribute [local simp] List.replicate List.range List.range.loop zAg zy zBB zAh zAI zAi zBC z5 zo zx zAe zBA zAH zAf zAj zAk zBD zBE zCe zAR zAS cutL cutO zBM ThrK
attribute [local simp] List.forall_mem_cons List.contains_cons List.contains_nil List.find?
theorem zZc(p:List It)(hp:PrSm p)(Rc:zAC p=true)(x:It)(Tn:ItSm x)(hG:∀s∈x.body,StG p s)(Hm:∃d,x.ret.whole d=true)(Cd:x.fields.length+(x.body.map St.nd).sum<=4000000000)(S:ASt)(d i b k:Nat)(h1:get2 S d i=some (.cells (itU x) 45))(h2:get2 S d k=some (.cells [.ptr 0 b 0] 74))(h3:TAt p S d b x.fields)(hik:i≠b)(Dn:k≠b):
  zM Tryz.prog 35 [.ptr d i 0,.ptr d k 0] S (resS (tgF p x)) (set2 S d b (fnT p (tgSs p x.fields x.body).1)):=by
 obtain⟨_,Rb,Rn,Od,Ye⟩:=Tn
 have he:zA3 x.fields:=fun f hf=>(Rb.2 f hf).2
 have Ca:∀s∈x.body,StT p s:=fun s hs=>zZa hp Rc s (Od.2 s hs) (hG s hs)
 have hS:=zAQ h3
 have gi:∀o,get2 (set2 S d b o) d i=some (.cells (itU x) 45):=fun o=>by rw[zQ o h3,if_neg (by omega)];exact h1
 have gk:∀o,get2 (set2 S d b o) d k=some (.cells [.ptr 0 b 0] 74):=fun o=>by rw[zQ o h3,if_neg (by omega)];exact h2
 have cc:x.body.length<=maxLen:=by have:=Od.1;unfold maxLen;omega
 refine zM.intro mixed call35 func35 rfl ?_;simp[ntmps35,h1];refine zBq (fun a:Nat × List Fi=>a.1<=x.body.length/\tgSs p x.fields (x.body.take a.1)=(a.2,none)) (fun a=>([.ptr (d+1) i 0,.ptr (d+1) k 0,.any,.any,.any,.p (.sl 15 (x.body.map St.enc)),I x.body.length,I a.1]++List.replicate 18 .any)) (fun a=>[]::set2 S d b (fnT p a.2)) (fun a=>x.body.length-a.1) (0,x.fields) ⟨Nat.zero_le _,by rw[List.take_zero,tgSs]⟩ ?_ ?_ ?_
 .simp
 .simp[hS]
 rintro⟨q,env1⟩ ⟨hq,pa⟩
 simp only at hq pa
 obtain⟨g1,g2⟩:=zIr hp he (fun s hs=>Od.2 s (List.mem_of_mem_take hs)) pa
 by_cases hlt:q<x.body.length
 .have aa:(q:Int)<(x.body.length:Int):=by omega
  have hw:=zB hlt
  obtain⟨n1,n2⟩:=zL0 hlt pa
  have kq:=zKp St.nd x.body q hlt
  have hx:=(Ca _ (List.getElem_mem hlt)).at h3 g1 (by omega)
  generalize hy:x.body[q]=s at*
  generalize hr:tgS p env1 s=r at*
  obtain⟨e2,o⟩:=r
  cases o with
  |some f=>
   have hF:tgF p x=some f:=by unfold tgF;rw[n2 f rfl]
   rw[hF,n2 f rfl];simp[hlt,aa,hy,zCd,gi,gk];refine cq (hx _) ?_
   simp[resS]
  |none=>
   simp[hlt,aa,hy,zCd,gi,gk];refine cq (hx _) ?_;simp[resS];exact⟨q+1,e2,⟨by omega,n1⟩,by omega,hw,rfl⟩
 have aa:¬(q:Int)<(x.body.length:Int):=by omega
 obtain rfl:q=x.body.length:=by omega
 rw[List.take_length]at pa g2
 have hx:=fun L=>zTS hp g1 (by omega) x.ret Ye Hm (L::set2 S d b (fnT p env1)) (d+1) b (h3.set env1)
 have sC:=fun t S=>zDQ t x.result S
 cases hr:tyE p env1 x.ret with
 |error f=>
  have hF:tgF p x=some f:=by unfold tgF;rw[pa];simp only;rw[hr]
  rw[hF,pa];rw[hr]at hx;simp[aa];refine z9 3 [3,6,10] [] (by kernel_rfl) (by kernel_rfl) (by kernel_rfl) ?_
  simp[gi,gk]
  exact⟨_,_,hx _,by simp[resS]⟩
 |ok t=>
  rw[hr]at hx
  cases Ub:eqT t x.result with
  |true=>
   have hF:tgF p x=none:=by unfold tgF;rw[pa];simp only;rw[hr];simp only;rw[if_pos Ub]
   rw[hF,pa];simp[aa];refine zX (dB [(5,3),(9,3),(9,6)] (by kernel_rfl) ?_)
   simp[gi,gk];refine cq ((hx _).det) ?_;simp[gi,gk];refine cq (sC _ _) ?_;rw[Ub];simp[gi,gk];refine cq ((zf _ _ _ _).det) ?_
   simp[resS]
  |false=>
   have hF:tgF p x=some (100,x.ret.pos):=by unfold tgF;rw[pa];simp only;rw[hr];simp only;rw[if_neg (by rw[Ub];simp)]
   rw[hF,pa];simp[aa];refine z9 10 [10] [(5,3),(9,3),(9,6)] (by kernel_rfl) (by kernel_rfl) (by kernel_rfl) ?_
   simp[gi,gk];refine cq ((hx _).det) ?_;simp[gi,gk];refine cq (sC _ _) ?_;rw[Ub];simp[gi,gk];exact⟨_,_,zf _ _ _ _,by simp[resS]⟩
end Go.Proofs.YtdflkegnmmkkoaaGreatDoor
namespace Go.Proofs.YtdflkegnmmkkoaaGreatDoor
open Go.RowKit _root_.Go.Proofs.Tryz
attribute [local simp] List.replicate List.range List.range.loop
variable{p:List It}
theorem zTT:∀(p:List It) (x:It),x∈p->x.nd<=(p.map It.nd).sum
 |y::p,x,h=>by
  rw[List.map_cons,List.sum_cons]
  rcases List.mem_cons.1 h with rfl|h
  .omega
  have:=zTT p x h;omega
theorem zZd(x:It):x.fields.length+(x.body.map St.nd).sum<=x.nd:=by
 have:=zKy x.fields
 have Cd:x.nd=3+((x.fields.map Fi.nd).sum+(x.result.nd+((x.body.map St.nd).sum+x.ret.nd))):=rfl
 omega
def tgQ(p:List It)(q:Nat):List Flt:=(p.take q).filterMap (tgI p)
theorem zZe(p:List It)(q:Nat):(tgQ p q).length<=q:=by
 have h1:=List.length_filterMap_le (tgI p) (p.take q)
 unfold tgQ;simp only[List.length_take]at h1;omega
theorem zWR(p:List It)(q:Nat)(h:q<p.length):tgQ p (q+1)=tgQ p q++(tgI p p[q]).toList:=by
 unfold tgQ
 have e:[p[q]].filterMap (tgI p)=(tgI p p[q]).toList:=by cases hr:tgI p p[q]<;>simp[hr]
 rw[List.take_succ_eq_append_getElem h,List.filterMap_append,e]
abbrev boxP(p:List It):AObj:=.cells [.p (prog p)] 24
def lvC(p:List It)(n:Nat)(x:It):List AObj:=[boxP p,.dead,.dead,.dead,.dead,.dead,.tok 32 2 n,.cells (itU x) 45,fnT p x.fields,.cells [.ptr 0 8 0] 74]
theorem zZf(p:List It)(hp:PrSm p)(hn:zAt p=[])(x:It)(hx:x∈p)(h3:x.kind=3)(Cd:(p.map It.nd).sum<=30000)(S:ASt)(n:Nat):ADet Tryz.prog 34 [.fn (.func 35) [] [.ptr 0 7 0,.ptr 0 9 0]] (lvC p n x::S) (.p (.sl 2 ((tgF p x).toList.map fltE))) (set2 (lvC p n x::S) 0 8 (fnT p (tgSs p x.fields x.body).1)):=by
 have Rc:=zHI hn
 obtain⟨hG,Hm⟩:=zZb hn hx h3
 have hb:=zTT p x hx
 have xe:=zZd x
 have key:∀N,zM Tryz.prog 35 [.ptr 1 7 0,.ptr 1 9 0] (N::lvC p n x::S) (resS (tgF p x)) (N::set2 (lvC p n x::S) 0 8 (fnT p (tgSs p x.fields x.body).1)):=fun N=>by
  have:=zZc p hp Rc x (hp.2 x hx) hG Hm (by omega) (N::lvC p n x::S) 1 7 8 9 rfl rfl rfl (by decide) (by decide)
  rw[zBH]at this;exact this
 cases hr:tgF p x with
 |some f=>
  rw[hr]at key
  exact zS0 _ _ (lvC p n x::S) _ (.thr (fltW f)) _ ⟨f,rfl,rfl⟩ key
 |none=>
  rw[hr]at key;exact ADet.less (.p (.nil 2)) (zS0 _ _ (lvC p n x::S) _ (.ret .un) nilS rfl key)
theorem zHo(p:List It)(hp:PrSm p)(Cd:(p.map It.nd).sum<=30000)(S:ASt):ADet Tryz.prog 10 [.agg [.p (prog p)]] S (.p (.sl 2 ((zBo p).map fltE))) S:=by
 have gd:wkL [boxP p] [boxP p]:=⟨⟨rfl,ze _⟩,trivial⟩
 have ym:p.length<=20000:=hp.1
 have Zj:p.length<=maxLen:=by unfold maxLen;omega
 cases hw:zAC p with
 |false=>
  have Ud:zAt p=[(2,0)]:=by unfold zAt;rw[if_neg (by rw[hw];simp)]
  have hg:zBo p=[(2,0)]:=by unfold zBo;rw[if_neg (by rw[Ud];simp)]
  have nC:=fun R=>zSr p hp hw [boxP p] gd R
  rw[Ud]at nC;rw[hg];refine ADet.intro mixed call10 func10 rfl ?_;simp[ntmps10];refine cq (nC _) ?_
  simp[fltE]
 |true=>
  have nC:=fun R=>zSq p hp Cd hw [boxP p] gd R
  cases hn:zAt p with
  |cons f l=>
   have hg:zBo p=[(2,0)]:=by unfold zBo;rw[if_neg (by rw[hn];simp)]
   have ce:(0:Int)<(l.length:Int)+1:=by omega
   rw[hn]at nC;rw[hg];refine ADet.intro mixed call10 func10 rfl ?_;simp[ntmps10];refine cq (nC _) ?_
   simp[fltE,ce]
  |nil=>
   rw[hn]at nC
   obtain⟨fs,ht,Nc⟩:=zJ1 hw
   have tC:=fun S=>zWz p 300 hp fs ht (by omega) S
   cases fs with
   |cons f l=>
    have hg:zBo p=[(2,0)]:=by unfold zBo;rw[if_neg (by rw[ht];simp)]
    have ce:(0:Int)<(l.length:Int)+1:=by omega
    rw[hg];refine ADet.intro mixed call10 func10 rfl ?_;simp[ntmps10];refine cq (nC _) ?_;simp;refine cq (tC _) ?_
    simp[fltE,ce]
   |nil=>
    have nC:∀R,ADet Tryz.prog 32 [.agg [.p (prog p)]] ([boxP p]::R) (.rsl 0 5 0 2) ([boxP p,.dead,.dead,.dead,.dead,.dead]::R):=fun R=>
     ADet.after (S':=([boxP p,.dead,.dead,.dead,.dead,rwO []]::R)) ⟨⟨⟨rfl,ze _⟩,trivial⟩,rfl⟩ (nC R)
    have hg:zBo p=tgQ p p.length:=by
     unfold zBo tgQ;rw[if_pos ⟨hn,ht⟩,List.take_length];rfl
    rw[hg];refine ADet.intro mixed call10 func10 rfl ?_;simp[ntmps10];refine cq (nC _) ?_;simp;refine cq (tC _) ?_;simp[prog];refine zA8 32 2 (by decide) [boxP p,.dead,.dead,.dead,.dead,.dead] (fun q:Nat=>q<=p.length) (fun q=>([.any,.ptr 0 0 0,.any,.osl 2 ((tgQ p q).map fltE) 0 6]++(List.replicate 16 .any++([.p (.sl 16 (p.map It.enc)),I p.length,I q]++List.replicate 17 .any)))) (fun q=>[boxP p,.dead,.dead,.dead,.dead,.dead,.tok 32 2 (tgQ p q).length]::S) (fun q=>p.length-q) 0 (Nat.zero_le _) ?_ ?_ ?_ ?_
    .simp[tgQ,prog]
    .simp[tgQ,prog]
    .rfl
    intro q hq
    have cn:=zZe p q
    by_cases hlt:q<p.length
    .have aa:(q:Int)<(p.length:Int):=by omega
     have kg:=zB hlt
     have Pi:=zWR p q hlt
     have xm:=List.getElem_mem hlt
     have wa:(tgQ p q).length+1<=4294967296:=by omega
     have xe:(tgQ p q).length<=4294967296:=by omega
     generalize he:p[q]=x at*
     by_cases h3:x.kind=3
     .have fC:=zZf p hp hn x xm h3 Cd S (tgQ p q).length
      rw[zXG,if_pos h3]at Pi;simp only[lvC,fnT,zF5,List.set_cons_succ,List.set_cons_zero,boxP,prog]at fC;simp[hlt,aa,he,It.enc,h3,prog];simp only[itU,h3]at fC;refine cq fC ?_
      cases hr:tgF p x with
      |none=>
       rw[hr]at Pi;simp[xe]
       exact⟨q+1,by omega,by omega,⟨by rw[Pi];simp,kg⟩,by rw[Pi];simp[prog]⟩
      |some f=>
       rw[hr]at Pi;simp[wa];exact⟨q+1,by omega,by omega,⟨by rw[Pi];simp,kg⟩,by rw[Pi];simp[prog]⟩
     have Db:(x.kind !=3)=true:=by simpa using h3
     rw[zXG,if_neg h3]at Pi;simp[hlt,aa,he,It.enc,Db,h3,prog];exact⟨q+1,by omega,by omega,⟨by rw[Pi];simp,kg⟩,by rw[Pi];simp[prog]⟩
    have aa:¬(q:Int)<(p.length:Int):=by omega
    obtain rfl:q=p.length:=by omega
    simp[aa]
def inA:BA:=(⟨#[115,116,114,117,99,116,32,83,32,123,32,97,58,32,105,110,116,44,32,98,58,32,66,111,120,60,105,110,116,62,32,125,32,102,110,32,102,40,120,58,32,83,44,32,114,58,32,38,83,44,32,109,58,32,38,109,117,116,32,83,44,32,99,58,32,67,101,108,108,60,105,110,116,62,41,32,45,62,32,105,110,116,32,123,32]⟩:BA)
def inZ:BA:=(⟨#[32,48,32,125,32,102,110,32,109,97,105,110,40,41,32,45,62,32,105,110,116,32,123,32,48,32,125]⟩:BA)
def inB(s:BA):BA:=inA++s++inZ
theorem inC(s:BA)(hs:s.size<=1000)(S:ASt):ADet Tryz.prog 26 [Sg s] S (Sg (inB s)) S:=by
 refine ADet.intro mixed call26 func26 rfl ?_
 have a1:inA.size<=1000:=by decide+kernel
 have a2:inZ.size<=1000:=by decide+kernel
 have h1:inA.size+s.size<=maxLen:=by unfold maxLen;omega
 have h2:inA.size+s.size+inZ.size<=maxLen:=by unfold maxLen;omega
 unfold inA at h1;unfold inA inZ at h2;simp[ntmps26,inB,inA,inZ,h1,h2]
def errQ(p:List It):Int:=match zAt p,zDO p 300 with
 | [],some []=>(match tgC p with| []=>0|f::_=>f.1)
 |_,_=>2
theorem zZg(p:List It):errQ p=match zBo p with| []=>0|f::_=>f.1:=by
 unfold errQ zBo;split
 .rename_i h1 h2
  rw[if_pos ⟨h1,h2⟩]
 rename_i h
 rw[if_neg fun hh=>h hh.1 hh.2]
theorem zb7(n:Nat)(hn:n<=100000)(s:BA)(p:List It)(h:zIy n s=some p)(hg:great p=false)(hd:zFu p<=40)(S:ASt):ADet Tryz.prog 25 [Sg s] S (I (errQ p)) S:=by
 rw[zZg]
 have pC:=fun S=>ADet.lessTup (l':=[.agg [.p (prog p)],.p (.sl 2 [])]) (.cons (.refl _) (.cons (.p (.nil 2)) (.refl _))) (zSu n hn s p h (zVB hg) hd S)
 have cC:=fun S=>zHo p (zVB hg) (Nat.le_trans (zYT hg) (by omega)) S
 refine ADet.intro mixed call25 func25 rfl ?_;simp[ntmps25];refine cq (pC _) ?_;simp;refine cq (cC _) ?_
 cases zBo p with
 |nil=>simp
 |cons f l=>
  have hn0:¬(l.length:Int)+1=0:=by omega
  have ld:((l.length:Int)+1==0)=false:=by simpa using hn0
  simp[hn0,ld,fltE]
def pr10(s:BA):List It:=(zIy 90 s).getD []
def ok10(s:BA)(e:Int):Bool:=(zIy 90 s).isSome&&(!(great (pr10 s))&&(decide (zFu (pr10 s)<=40)&&decide (errQ (pr10 s)=e)))
theorem zCu{s:BA}{e:Int}(h:ok10 s e=true)(S:ASt):ADet Tryz.prog 25 [Sg s] S (I e) S:=by
 unfold ok10 at h;simp only[Bool.and_eq_true,Bool.not_eq_true',decide_eq_true_eq]at h
 obtain⟨h1,h2,h3,h4⟩:=h
 have hp:zIy 90 s=some (pr10 s):=by
  unfold pr10
  cases hq:zIy 90 s with
  |none=>rw[hq]at h1;cases h1
  |some p=>rfl
 rw[<-h4];exact zb7 90 (by omega) s _ hp h2 h3 S
def tx0:BA:=(⟨#[108,101,116,32,121,32,61,32,120,46,97,32,43,32,49,59]⟩:BA)
theorem ax0:ok10 (inB tx0) 0=true:=by kernel_rfl
def tx1:BA:=(⟨#[108,101,116,32,121,32,61,32,120,46,98,59]⟩:BA)
theorem ax1:ok10 (inB tx1) 102=true:=by kernel_rfl
def tx2:BA:=(⟨#[108,101,116,32,121,32,61,32,120,59,32,108,101,116,32,122,32,61,32,114,59]⟩:BA)
theorem ax2:ok10 (inB tx2) 0=true:=by kernel_rfl
def tx3:BA:=(⟨#[108,101,116,32,121,32,61,32,38,109,117,116,32,114,46,42,46,97,59]⟩:BA)
theorem ax3:ok10 (inB tx3) 100=true:=by kernel_rfl
def tx4:BA:=(⟨#[108,101,116,32,121,32,61,32,38,109,117,116,32,109,46,42,46,97,59,32,108,101,116,32,122,32,61,32,38,120,46,98,46,42,59]⟩:BA)
theorem ax4:ok10 (inB tx4) 0=true:=by kernel_rfl
def tx5:BA:=(⟨#[108,101,116,32,121,32,61,32,98,111,120,40,114,41,59]⟩:BA)
theorem ax5:ok10 (inB tx5) 101=true:=by kernel_rfl
def tx6:BA:=(⟨#[108,101,116,32,121,32,61,32,99,101,108,108,40,120,41,59]⟩:BA)
theorem ax6:ok10 (inB tx6) 100=true:=by kernel_rfl
def tx7:BA:=(⟨#[105,102,32,103,101,116,40,99,41,32,61,61,32,49,32,123,32,125]⟩:BA)
theorem ax7:ok10 (inB tx7) 0=true:=by kernel_rfl
def tx8:BA:=(⟨#[108,101,116,32,121,32,61,32,110,111,116,32,49,59]⟩:BA)
theorem ax8:ok10 (inB tx8) 100=true:=by kernel_rfl
def tx9:BA:=(⟨#[114,46,42,46,97,32,61,32,49,59]⟩:BA)
theorem ax9:ok10 (inB tx9) 100=true:=by kernel_rfl
def tx10:BA:=(⟨#[109,46,42,46,97,32,61,32,49,59]⟩:BA)
theorem ax10:ok10 (inB tx10) 0=true:=by kernel_rfl
def tx11:BA:=(⟨#[114,32,61,32,114,59]⟩:BA)
theorem ax11:ok10 (inB tx11) 101=true:=by kernel_rfl
def tx12:BA:=(⟨#[102,110,32,109,97,105,110,40,41,32,45,62,32,105,110,116,32,123,32,120,32,125]⟩:BA)
theorem ax12:ok10 tx12 2=true:=by kernel_rfl
theorem zWS(S:ASt):ADet Tryz.prog 8 [] S (B true) S:=by
 have i0:=fun S=>inC tx0 (by decide+kernel) S
 have c0:=fun S=>zCu ax0 S
 unfold tx0 at i0 c0
 generalize inB _=b0 at i0 c0
 have i1:=fun S=>inC tx1 (by decide+kernel) S
 have c1:=fun S=>zCu ax1 S
 unfold tx1 at i1 c1
 generalize inB _=b1 at i1 c1
 have i2:=fun S=>inC tx2 (by decide+kernel) S
 have c2:=fun S=>zCu ax2 S
 unfold tx2 at i2 c2
 generalize inB _=b2 at i2 c2
 have i3:=fun S=>inC tx3 (by decide+kernel) S
 have c3:=fun S=>zCu ax3 S
 unfold tx3 at i3 c3
 generalize inB _=b3 at i3 c3
 have i4:=fun S=>inC tx4 (by decide+kernel) S
 have c4:=fun S=>zCu ax4 S
 unfold tx4 at i4 c4
 generalize inB _=b4 at i4 c4
 have i5:=fun S=>inC tx5 (by decide+kernel) S
 have c5:=fun S=>zCu ax5 S
 unfold tx5 at i5 c5
 generalize inB _=b5 at i5 c5
 have i6:=fun S=>inC tx6 (by decide+kernel) S
 have c6:=fun S=>zCu ax6 S
 unfold tx6 at i6 c6
 generalize inB _=b6 at i6 c6
 have i7:=fun S=>inC tx7 (by decide+kernel) S
 have c7:=fun S=>zCu ax7 S
 unfold tx7 at i7 c7
 generalize inB _=b7 at i7 c7
 have i8:=fun S=>inC tx8 (by decide+kernel) S
 have c8:=fun S=>zCu ax8 S
 unfold tx8 at i8 c8
 generalize inB _=b8 at i8 c8
 have i9:=fun S=>inC tx9 (by decide+kernel) S
 have c9:=fun S=>zCu ax9 S
 unfold tx9 at i9 c9
 generalize inB _=b9 at i9 c9
 have rq:=fun S=>inC tx10 (by decide+kernel) S
 have sq:=fun S=>zCu ax10 S
 unfold tx10 at rq sq
 generalize inB _=nr at rq sq
 have tq:=fun S=>inC tx11 (by decide+kernel) S
 have uq:=fun S=>zCu ax11 S
 unfold tx11 at tq uq
 generalize inB _=qr at tq uq
 have Er:=fun S=>zCu ax12 S
 unfold tx12 at Er;refine ADet.intro mixed call8 func8 rfl ?_;simp[ntmps8];refine cq (i0 _) ?_;simp;refine cq (c0 _) ?_;simp;refine cq (i1 _) ?_;simp;refine cq (c1 _) ?_;simp;refine cq (i2 _) ?_;simp;refine cq (c2 _) ?_;simp;refine cq (i3 _) ?_;simp;refine cq (c3 _) ?_;simp;refine cq (i4 _) ?_;simp;refine cq (c4 _) ?_;simp;refine cq (i5 _) ?_;simp;refine cq (c5 _) ?_;simp;refine cq (i6 _) ?_;simp;refine cq (c6 _) ?_;simp;refine cq (i7 _) ?_;simp;refine cq (c7 _) ?_;simp;refine cq (i8 _) ?_;simp;refine cq (c8 _) ?_;simp;refine cq (i9 _) ?_;simp;refine cq (c9 _) ?_;simp;refine cq (rq _) ?_;simp;refine cq (sq _) ?_;simp;refine cq (tq _) ?_;simp;refine cq (uq _) ?_;simp;refine cq (Er _) ?_;simp
attribute [local simp] List.forall_mem_cons List.contains_cons List.contains_nil List.find?
theorem zb8(a b c d:Int)(dst:Option Tmp)(x y:Operand)(k ty:TypeId)(pos:String)(after:Array Edge)(guard:Option (Nat × Bool))(fr:List AV)(hx:evA fr x= .agg [I a,I b])(hy:evA fr y= .agg [I c,I d]):genP Tryz.prog ⟨dst,.binOp .eql 32 x y k,ty,pos,after,guard⟩ fr=some (B (a==c&&b==d)):=by
 have Tk:∀a b:Int,zEc [I a,I b]=some [.int .i64 a,.int .i64 b]:=fun _ _=>rfl
 have v1:zAu (evA fr x)=some (.agg #[.int .i64 a,.int .i64 b]):=by rw[hx];simp[zAu,Tk]
 have v2:zAu (evA fr y)=some (.agg #[.int .i64 c,.int .i64 d]):=by rw[hy];simp[zAu,Tk]
 have ua:zJ Tryz.prog (do eqGuard .eql 32 x y (.agg #[.int .i64 a,.int .i64 b]) (.agg #[.int .i64 c,.int .i64 d]);binOp .eql 32 (.agg #[.int .i64 a,.int .i64 b]) (.agg #[.int .i64 c,.int .i64 d]):Sem Value)=some (.bool (a==c&&b==d)):=by
  have h1:zJ Tryz.prog (eqGuard .eql 32 x y (.agg #[.int .i64 a,.int .i64 b]) (.agg #[.int .i64 c,.int .i64 d]))=some ():=by kernel_rfl
  rw[zt _ _ _ h1]
  show zJ Tryz.prog (Op.equal 32 (.agg #[.int .i64 a,.int .i64 b]) (.agg #[.int .i64 c,.int .i64 d])>>=fun r=>pure (Value.bool r))=_
  rw[zt _ _ _ (zMN a b c d)];rfl
 have h1:(zGh (.binOp .eql 32 x y k)&&zN fr (Op.operands (.binOp .eql 32 x y k)).toList)=true:=by
  show(true&&zN fr [x,y])=true
  rw[Bool.true_and,zN,zN,zN,v1,v2];rfl
 have h2:zJ Tryz.prog (execOp (fun z=>(zAu (evA fr z)).getD undef) ⟨dst,.binOp .eql 32 x y k,ty,pos,after,guard⟩)=some (.value (.bool (a==c&&b==d))):=by
  have e1:(zAu (evA fr x)).getD undef= .agg #[.int .i64 a,.int .i64 b]:=by rw[v1];rfl
  have e2:(zAu (evA fr y)).getD undef= .agg #[.int .i64 c,.int .i64 d]:=by rw[v2];rfl
  unfold execOp;simp only[e1,e2];exact zBh _ _ _ ua
 unfold genP;simp only;rw[if_pos h1,h2];rfl
def zC7(p:List It):Bool:=decide (zAt p=[]/\zDO p 300=some [])
theorem zb9(p:List It)(hp:PrSm p)(Cd:(p.map It.nd).sum<=30000)(S:ASt):ADet Tryz.prog 12 [.agg [.p (prog p)]] S (B (zC7 p)) S:=by
 have gd:wkL [boxP p] [boxP p]:=⟨⟨rfl,ze _⟩,trivial⟩
 cases hw:zAC p with
 |false=>
  have Ud:zAt p=[(2,0)]:=by unfold zAt;rw[if_neg (by rw[hw];simp)]
  have hg:zC7 p=false:=by unfold zC7;rw[Ud];simp
  have nC:=fun R=>zSr p hp hw [boxP p] gd R
  rw[Ud]at nC;rw[hg];refine ADet.intro mixed call12 func12 rfl ?_;simp[ntmps12];refine cq (nC _) ?_
  simp
 |true=>
  have nC:=fun R=>zSq p hp Cd hw [boxP p] gd R
  cases hn:zAt p with
  |cons f l=>
   have hg:zC7 p=false:=by unfold zC7;rw[hn];simp
   have hne:¬(l.length:Int)+1=0:=by omega
   have Vb:((l.length:Int)+1==0)=false:=by simpa using hne
   rw[hn]at nC;rw[hg];refine ADet.intro mixed call12 func12 rfl ?_;simp[ntmps12];refine cq (nC _) ?_
   simp[hne,Vb]
  |nil=>
   rw[hn]at nC
   obtain⟨fs,ht,Nc⟩:=zJ1 hw
   have tC:=fun S=>zWz p 300 hp fs ht (by omega) S
   have hg:zC7 p=fs.isEmpty:=by unfold zC7;rw[hn,ht];cases fs<;>simp
   rw[hg];refine ADet.intro mixed call12 func12 rfl ?_;simp[ntmps12];refine cq (nC _) ?_;simp;refine cq (tC _) ?_
   cases fs with
   |nil=>simp
   |cons f l=>
    have hne:¬(l.length:Int)+1=0:=by omega
    have Vb:((l.length:Int)+1==0)=false:=by simpa using hne
    simp[hne,Vb]
theorem zTU(p:List It):zBo (p.map (It.atm noAt))=(zBo p).map (fltA noAt):=by
 unfold zBo;rw[zQV (g:=noAt) rfl,zSg p noAt rfl,zbF]
 by_cases h:zAt p=[]/\zDO p 300=some []
 .rw[if_pos h,if_pos ⟨by rw[h.1];rfl,by rw[h.2];rfl⟩]
 rw[if_neg h,if_neg fun hh=>h ⟨by simpa using hh.1,by
  have:=hh.2
  cases hc:zDO p 300 with
  |none=>rw[hc]at this;cases this
  |some l=>rw[hc]at this;simpa using this⟩]
 rfl
theorem zHJ(h:zC7 p=true):zBo p=tgC p:=by
 unfold zC7 at h;unfold zBo;rw[if_pos (of_decide_eq_true h)]
theorem zME(h:zC7 p=false):zBo p=[(2,0)]:=by
 unfold zC7 at h;unfold zBo;rw[if_neg (of_decide_eq_false h)]
theorem zQN(h:zC7 p=true)(hl:p.length<=28)(hs:∀x∈p,sEq x.name qoS=false)(hf:∀x∈p,sEq x.name zDV=false):zBo (qsIt::qfIt::p)=zBo p:=by
 rw[zHJ h];unfold zC7 at h
 obtain⟨h1,h2⟩:=of_decide_eq_true h
 have hr:zC7 (qsIt::qfIt::p)=true:=by
  unfold zC7;exact decide_eq_true ⟨zJo hs hf h1 hl,zSh hs hf h1 h2 hl⟩
 rw[zHJ hr,zVx hs hf h1]
theorem zMF{α β:Type}(f:α->Option β)(l:List α):(l.filterMap f).length<=l.length:=by
 induction l with
 |nil=>simp
 |cons a l ih=>
  rw[List.filterMap_cons];cases f a<;>simp<;>omega
theorem zQO(p:List It):(zBo p).length<=p.length+1:=by
 unfold zBo;split
 .have:=zMF (tgI p) p
  unfold tgC;omega
 simp
abbrev e0S:BA:=⟨#[]⟩
abbrev qsRow:List PV:=[pU 1,pS (⟨#[81,117,105,116,101,79,116,104,101,114]⟩:BA),.v (.slice none 0 0),pU 0,pS e0S,.v (.slice none 0 0),.v (.slice none 0 0),pU 0,pI 0,pS e0S,pS e0S,pS e0S,.v (.slice none 0 0),.v (.slice none 0 0),pI 0,pI 0]
abbrev zcA:List PV:=[pU 3,pS (⟨#[113,117,105,116,101,95,111,116,104,101,114]⟩:BA),.v (.slice none 0 0),pU 1,pS e0S,.v (.slice none 0 0),.v (.slice none 0 0),pU 1,pI 0,pS e0S,pS e0S,pS e0S,.v (.slice none 0 0),.v (.slice none 0 0),pI 0,pI 0]
theorem zWT:LeRow qsRow qsIt.enc:=.cons (.refl _) (.cons (.refl _) (.cons (.nil 4) (.cons (.refl _) (.cons (.refl _) (.cons (.nil 3) (.cons (.nil 15) (.cons (.refl _) (.cons (.refl _) (.cons (.refl _) (.cons (.refl _) (.cons (.refl _) (.cons (.nil 1) (.cons (.nil 8) (.refl _))))))))))))))
theorem zWU:LeRow zcA qfIt.enc:=.cons (.refl _) (.cons (.refl _) (.cons (.nil 4) (.cons (.refl _) (.cons (.refl _) (.cons (.nil 3) (.cons (.nil 15) (.cons (.refl _) (.cons (.refl _) (.cons (.refl _) (.cons (.refl _) (.cons (.refl _) (.cons (.nil 1) (.cons (.nil 8) (.refl _))))))))))))))
theorem zdD:ItSm qsIt:=⟨by decide,⟨by decide,fun x hx=>by cases hx⟩,.mk _ (by decide) (by decide) (fun x hx=>by cases hx),⟨by decide,fun x hx=>by cases hx⟩,.mk _ (by decide) (by decide) ⟨by decide,by decide,fun x hx=>by cases hx⟩ (by decide) (fun x hx=>by cases hx)⟩
theorem zdE:ItSm qfIt:=⟨by decide,⟨by decide,fun x hx=>by cases hx⟩,.mk _ (by decide) (by decide) (fun x hx=>by cases hx),⟨by decide,fun x hx=>by cases hx⟩,.mk _ (by decide) (by decide) ⟨by decide,by decide,fun x hx=>by cases hx⟩ (by decide) (fun x hx=>by cases hx)⟩
theorem zWV(h:PrSm p)(hl:p.length<=28):PrSm (qsIt::qfIt::p):=⟨by simp;omega,fun x hx=>by
 rcases List.mem_cons.1 hx with rfl|hx
 .exact zdD
 rcases List.mem_cons.1 hx with rfl|hx
 .exact zdE
 exact h.2 x hx⟩
theorem zWW(h:(p.map It.nd).sum<=20000):((qsIt::qfIt::p).map It.nd).sum<=30000:=by
 have h1:It.nd qsIt<=100:=by decide
 have h2:It.nd qfIt<=100:=by decide
 rw[List.map_cons,List.map_cons,List.sum_cons,List.sum_cons];omega
theorem zNR(h:PrSm p)(hl:p.length<=28)(hn:(p.map It.nd).sum<=20000)(d i:Nat)(S:ASt):ADet Tryz.prog 10 [.agg [.osl 16 (qsRow::zcA::p.map It.enc) d i]] S (.p (.sl 2 ((zBo (qsIt::qfIt::p)).map fltE))) S:=
 ADet.sub (.cons (.agg (.cons (.osl (.cons zWT (.cons zWU (.refl _)))) (.refl _))) (.refl _)) (zHo _ (zWV h hl) (zWW hn) S)
theorem zNS(p:List It)(S:ASt):ADet Tryz.prog 3 [.agg [.p (prog p)]] S (B true) S:=by
 have aC:=zWS
 have gC:=fun S=>zaa S p
 refine ADet.intro mixed call3 func3 rfl ?_;simp[ntmps3];refine cq (aC _) ?_;simp;refine cq (gC _) ?_
 cases hg:great p with
 |true=>simp
 |false=>
 by_cases ca:p.length<=28
 case neg=>
  have mh:(28:Int)<(p.length:Int):=by omega
  simp[mh,prog]
 have mh:¬(28:Int)<(p.length:Int):=by omega
 have hp:=zVB hg
 have Cd:=zYT hg
 have af:great (p.map (It.atm noAt))=false:=by rw[zTb];exact hg
 have eC:=fun S=>zYY p hp S
 have t1:=fun S=>zHo p hp (by omega) S
 have t2:=fun S=>zHo _ (zVB af) (by have:=zYT af;omega) S
 rw[zTU]at t2
 have hL:=zQO p
 have rC:=fun S=>zb9 p hp (by omega) S
 have cC:=fun S=>zSH p hp S
 generalize hF:zBo p=F at*
 obtain⟨F0,rb⟩:∃F0:List Flt,F0=F.map (fltA noAt):=⟨_,rfl⟩
 have ud:F0.length=F.length:=by rw[rb,List.length_map]
 rw[<-rb]at t2;simp[mh,prog];refine dB [(2,1)] (by kernel_rfl) ?_
 simp;refine cq (t1 _) ?_;simp;refine cq (eC _) ?_;simp;refine cq (t2 _) ?_;simp[ud]
 have Zj:F.length<=maxLen:=by unfold maxLen;omega
 refine zF (fun q:Nat=>q<=F.length) (fun q=>([.any,.ptr 0 0 0,B false,.p (.sl 2 (F.map fltE)),.p (.sl 2 (F0.map fltE)),I q]++List.replicate 100 .any)) (fun q=>[.cells [.p (prog p)] 24]::S) (fun q=>F.length-q) 0 (Nat.zero_le _) ?_ ?_ ?_
 .simp
 .simp[prog]
 intro q hq
 by_cases hlt:q<F.length
 .have aa:(q:Int)<(F.length:Int):=by omega
  have xd:=zB hlt Zj
  have Da:F.length-(q+1)<F.length-q:=by omega
  have Ef:q<F0.length:=by omega
  have e0:F0[q]=(F[q].1,0):=by subst rb;rw[List.getElem_map];rfl
  generalize hf:F[q]=f at*
  simp[hlt,aa];refine dB [] (by kernel_rfl) ?_
  simp[hlt,aa,Ef,hf,e0,fltE];exact⟨q+1,hlt,Da,xd⟩
 have aa:¬(q:Int)<(F.length:Int):=by omega
 simp[hlt,aa];refine cq (rC _) ?_
 cases hr:zC7 p with
 |false=>
  have xn:F=[(2,0)]:=by rw[<-hF];exact zME hr
  subst xn
  have hop:=zb8 2 0 2 0
  simp only[beq_self_eq_true,Bool.and_self]at hop
  simp[fltE,hop]
 |true=>
 simp
 have Hu:p.length<=maxLen:=by unfold maxLen;omega
 refine zF (fun q:Nat=>q<=p.length/\∀j (h:j<p.length),j<q->sEq p[j].name qoS=false/\sEq p[j].name zDV=false) (fun q=>([.any,.ptr 0 0 0,B false,.p (.sl 2 (F.map fltE)),.any,.any,I q]++List.replicate 99 .any)) (fun q=>[.cells [.p (prog p)] 24]::S) (fun q=>p.length-q) 0 ⟨Nat.zero_le _,fun j h h0=>absurd h0 (Nat.not_lt_zero j)⟩ ?_ ?_ ?_
 .simp
 .simp[prog]
 intro r ⟨mn,ia⟩
 by_cases Wj:r<p.length
 .have ui:(r:Int)<(p.length:Int):=by omega
  have En:=zB Wj Hu
  have Da:p.length-(r+1)<p.length-r:=by omega
  by_cases lh:sEq p[r].name qoS=true
  .generalize hy:p[r]=y at*
   have ff:=lh
   unfold qoS at ff;simp[Wj,ui,prog,hy,It.enc,ff]
  have lh:sEq p[r].name qoS=false:=by simpa using lh
  by_cases Pa:sEq p[r].name zDV=true
  .generalize hy:p[r]=y at*
   have ff:=lh
   have fh:=Pa
   unfold qoS at ff;unfold zDV at fh;simp[Wj,ui,prog,hy,It.enc,ff,fh]
  have Pa:sEq p[r].name zDV=false:=by simpa using Pa
  have pi:∀j (h:j<p.length),j<r+1->sEq p[j].name qoS=false/\sEq p[j].name zDV=false:=fun j h h1=>by
   rcases Nat.lt_succ_iff_lt_or_eq.1 h1 with h2|rfl
   .exact ia j h h2
   exact⟨lh,Pa⟩
  have ff:=lh
  have fh:=Pa
  unfold qoS at ff;unfold zDV at fh;clear ia
  generalize hy:p[r]=y at ff fh
  simp[Wj,ui,prog,hy,It.enc,ff,fh];exact⟨r+1,⟨Wj,pi⟩,Da,En⟩
 have ui:¬(r:Int)<(p.length:Int):=by omega
 obtain rfl:r=p.length:=by omega
 have hs:∀x∈p,sEq x.name qoS=false:=fun x hx=>by
  obtain⟨j,h,rfl⟩:=List.getElem_of_mem hx
  exact(ia j h h).1
 have ho:∀x∈p,sEq x.name zDV=false:=fun x hx=>by
  obtain⟨j,h,rfl⟩:=List.getElem_of_mem hx
  exact(ia j h h).2
 have Iu:=zQN hr ca hs ho
 simp[ui,prog];refine cq (cC _) ?_
 have xe:2+p.length<=4294967296:=by omega
 have mC:=fun d i S=>zNR hp ca Cd d i S
 have sC:=fun S=>zNX F (by omega) S
 rw[Iu,hF]at mC;simp[prog,xe];refine cq (mC _ _ _) ?_;simp;refine cq (sC _) ?_;simp
end Go.Proofs.YtdflkegnmmkkoaaGreatDoor
