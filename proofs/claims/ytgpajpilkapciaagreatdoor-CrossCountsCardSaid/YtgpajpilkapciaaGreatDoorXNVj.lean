/- A part of the proof. -/
import Derived.Test.YtgpajpilkapciaaGreatDoorXNVi
import Derived.Test.YtgpajpilkapciaaGreatDoorXNRf
set_option linter.unusedVariables false
set_option linter.unusedSimpArgs false
set_option maxRecDepth 100000
set_option maxHeartbeats 32000000
namespace Go.Proofs.YtgpajpilkapciaaGreatDoor
open Go.RowKit _root_.Go.Proofs.Tryz
variable{p:List It}
mutual
theorem zO2:∀s:St,s.tabs.length<=s.nd
 | .mk op nm sd nms ty i pl es b el ar pos=>by
  have a1:=zC9 b
  have a2:=zC9 el
  have a3:=zH7 ar
  have a4:=zo ((op !=12)||(ty.stands&&ty.owned)) 70 pos
  rw[St.tabs,St.nd];simp only[List.length_append];omega
theorem zC9:∀l:List St,(St.tabss l).length<=St.nds l
 | []=>by rw[St.tabss];exact Nat.zero_le _
 |s::l=>by
  have a1:=zO2 s
  have a2:=zC9 l
  rw[St.tabss,St.nds];simp only[List.length_append];omega
theorem zH7:∀l:List (ArOf St),(Ar.tabss l).length<=Ar.nds l
 | []=>by rw[Ar.tabss];exact Nat.zero_le _
 |⟨v,n,b⟩::l=>by
  have a1:=zC9 b
  have a2:=zH7 l
  rw[Ar.tabss,Ar.nds];simp only[List.length_append];omega
end
theorem zJ4:∀l:List Fi,l.length<=(l.map Fi.nd).sum
 | []=>by simp
 |f::l=>by
  have:=zJ4 l
  have h1:1<=f.nd:=by unfold Fi.nd;omega
  rw[List.map_cons,List.sum_cons,List.length_cons];omega
theorem zO3(hw:zx p=true)(x:It)(hx:x∈p):∃l,x.tabs p 300=some l/\l.length<=x.nd:=by
 unfold zx at hw
 have Vp:(p.length:Int)<=30:=by
  unfold zq at hw;simp only[Bool.and_eq_true,decide_eq_true_eq]at hw;exact hw.1
 rw[zBs Vp]at hw
 have hB:∀y∈p,y.fields.length<=6:=fun y hy=>by
  have:=List.all_eq_true.1 hw y hy
  unfold It.whole at this;split at this
  .unfold zq at this
   simp only[Bool.and_eq_true,decide_eq_true_eq]at this
   have:=this.2.1
   omega
  split at this
  .unfold zq at this
   simp only[Bool.and_eq_true,decide_eq_true_eq]at this
   have:=this.2.1.1
   omega
  cases this
 have hf:fresh p []<=30:=by
  have:=List.countP_le_length (p:=fun x:It=>!([]:List BA).any fun y=>sEq x.name y) (l:=p)
  unfold fresh;omega
 obtain⟨r,h1,_⟩:=zCt p x.name 6 hB 300 x.fields [] (by have:=hB x hx;omega)
 have a1:=zEm (fun f:Fi=>zI (f.type.stands&&((x.kind==3)||f.type.owned)) 70 x.pos) (fun _=>1) x.fields (fun f _=>zo _ _ _)
 have a2:(x.fields.map fun _=>1).sum=x.fields.length:=by
  generalize x.fields=l
  induction l with
  |nil=>rfl
  |cons f l ih=>rw[List.map_cons,List.sum_cons,ih,List.length_cons];omega
 have a3:=zo (x.result.stands&&x.result.owned) 70 x.pos
 have a4:=zC9 x.body
 rw[zWk]at a4
 have a5:=zJ4 x.fields
 have a6:=zo (!r.1) 71 x.pos
 have fb:x.nd=3+((x.fields.map Fi.nd).sum+(x.result.nd+((x.body.map St.nd).sum+x.ret.nd))):=rfl
 unfold It.tabs;split
 .exact⟨_,rfl,by simp only[List.length_append];omega⟩
 rw[h1]
 exact⟨_,rfl,by simp only[List.length_append];omega⟩
theorem zH8{p:List It}(hw:zx p=true):∀l:List It,(∀x∈l,x∈p)->∃fs,zFH p 300 l=some fs/\fs.length<=(l.map It.nd).sum
 | [],_=>⟨[],rfl,Nat.zero_le _⟩
 |x::l,h=>by
  obtain⟨a,h1,h2⟩:=zO3 hw x (h x (by simp))
  obtain⟨b,h3,h4⟩:=zH8 hw l fun y hy=>h y (List.mem_cons_of_mem _ hy)
  refine⟨a++b,by rw[zFH,h1,h3],?_⟩
  rw[List.length_append,List.map_cons,List.sum_cons];omega
theorem zI9(hw:zx p=true):∃fs,zIt p 300=some fs/\fs.length<=(p.map It.nd).sum:=by
 obtain⟨fs,h1,h2⟩:=zH8 hw p fun x h=>h
 exact⟨fs,by unfold zIt;rw[if_pos hw];exact h1,h2⟩
theorem zCj(h:zBa p=[]):zx p=true:=by
 cases hw:zx p with
 |true=>rfl
 |false=>
  unfold zBa at h;rw[if_neg (by rw[hw];simp)]at h
  cases h
def zDb(p:List It):List Flt:=if zBa p=[]/\zIt p 300=some []then tgC p else [(2,0)]
def tgF(p:List It)(x:It):Option Flt:=
 match tgSs p x.fields x.body with
 |(_,some f)=>some f
 |(env,none)=>match tyE p env x.ret with
  | .error f=>some f
  | .ok t=>if eqT t x.result=true then none else some (100,x.ret.pos)
theorem zVS(p:List It)(x:It):tgI p x=if x.kind=3 then tgF p x else none:=rfl
theorem zRX(h:zBa p=[]){x:It}(hx:x∈p)(h3:x.kind=3):(∀s∈x.body,StG p s)/\∃d,x.ret.whole d=true:=by
 have hw:=zCj h
 obtain⟨_,hf⟩:=zOl (((zRb p).1 h).2.2.1 x hx)
 obtain⟨fl,k1,_⟩:=hf h3
 refine⟨zHA x.body (fun s hs σ hn=>zW7 s (zK8 hw hx s hs) σ hn) _ k1,?_⟩
 unfold zx zq at hw;simp only[Bool.and_eq_true,decide_eq_true_eq]at hw;rw[List.take_of_length_le (by omega)]at hw
 have:=List.all_eq_true.1 hw.2 x hx
 unfold It.whole at this;rw[if_neg (by omega),if_pos h3]at this
 simp only[Bool.and_eq_true]at this;exact⟨_,this.2.2.2.2.1⟩
attribute [local simp] List.replicate List.range List.range.loop zAa zu zAs zAb zAC zAc zAt zv zi zt zAY zAr zAB zAZ zAd zAe zAu zAv zCJ zAL zAM cutL cutO zA5 ThrK
def zLQ(r:Except Flt Ty)(S:ASt)(d:Nat):ASt:=match r with| .ok t=>set2 S d 3 (.cells [U t.kind,Sg t.name,.p (.sl 3 (t.args.map Ty.enc))] 35)| .error _=>S
def zUZ(r:Except Flt Ty):ARes:=match r with| .ok _=>.ret .un| .error f=>.thr (fltW f)
theorem zZa(p:List It)(hp:PrSm p)(env:List Fi)(he:zh env)(hl:env.length<=4000000000)(e:Ex)(Fc:ExSm e)(hw:∃d,e.whole d=true)(S:ASt)(d:Nat)(a b c:AV)(h0:get2 S d 0=some (.cells [.p (prog p)] 27))(h1:get2 S d 1=some (.cells [.p (.sl 4 (env.map Fi.enc))] 32))
  (h2:get2 S d 2=some (.cells [U e.op,I e.int,Sg e.name,Sg e.u4,Sg e.place.name,.p (strs e.place.path),.p (.sl 8 (e.args.map Ex.enc)),I e.pos] 42)) (h3:get2 S d 3=some (.cells [a,b,c] 35)):
  zL Tryz.prog 142 [.ptr d 0 0,.ptr d 1 0,.ptr d 2 0,.ptr d 3 0] S (zUZ (tyE p env e)) (zLQ (tyE p env e) S d):=by
 have xC:=zMX hp he hl e Fc hw ([fnT p env]::S) 0 0 rfl
 simp only[fnT]at xC;refine zL.intro mixed call142 func142 rfl ?_
 cases hr:tyE p env e with
 |error f=>
  rw[hr]at xC;simp[ntmps142,h0,h1,h2,h3];refine cq xC ?_
  simp[resE,zUZ,zLQ]
 |ok t=>
  rw[hr]at xC;simp[ntmps142,h0,h1,h2,h3];refine cq xC ?_;simp[resE,zUZ,zLQ,h3]
theorem zH9{e:Ex}(h:zK9 e=true):∃d,e.whole d=true:=by
 unfold zK9 at h;simp only[Bool.or_eq_true,Bool.and_eq_true]at h
 rcases h with h|⟨_,h⟩
 .unfold zCL at h
  simp only[Bool.and_eq_true]at h;exact⟨_,h.2⟩
 unfold zCL at h
 simp only[Bool.and_eq_true]at h;exact(zNj h.2).1 e (by simp[zHu,Ex.args])
theorem zXV{e:Ex}(h:ExSm e):ExSm (zHu e):=.mk _ (by show(⟨#[102]⟩:BA).size<=20000;decide) zI1 ⟨zI1,by simp[zHu,Ex.place],by simp[zHu,Ex.place]⟩ (by simp[zHu,Ex.args]) (fun x hx=>by
 simp only[zHu,Ex.args,List.mem_singleton]at hx;subst hx;exact h)
def zNk(r:Except Flt Ty):AV:=match r with| .ok _=>.p (.sl 2 [])| .error f=>.p (.sl 2 [[.v (.int .i64 f.1),.v (.int .i64 f.2)]])
theorem zXW(p:List It)(hp:PrSm p)(env:List Fi)(he:zh env)(hl:env.length<=4000000000)(e:Ex)(Fc:ExSm e)(S:ASt):ADet Tryz.prog 107 [.agg [.p (prog p)],.p (.sl 4 (env.map Fi.enc)),exV e] S (payT (zOm p env e)) S:=by
 have wC:=fun S=>zHq e Fc S
 have vC:∀(d i:Nat) S,ADet Tryz.prog 141 [.agg [U 18,I 0,Sg ⟨#[102]⟩,Sg emS,Sg emS,nilS,.osl 8 [e.enc] d i,I 0]] S (B (zCL (zHu e))) S:=fun d i S=>by
  have:=zHq (zHu e) (zXV Fc) S
  refine ADet.sub (.cons (.agg ?_) (.refl _)) this
  exact .cons (.refl _) (.cons (.refl _) (.cons (.refl _) (.cons (.refl _) (.cons (.refl _) (.cons (.p (.nil 1)) (.cons (.osl (.refl _)) (.refl _)))))))
 have fC:(∃d,e.whole d=true)->∀(L:List AObj) (a b c:AV),L[0]? =some (.cells [.p (prog p)] 27)->L[1]? =some (.cells [.p (.sl 4 (env.map Fi.enc))] 32)->L[2]? =some (.cells [U e.op,I e.int,Sg e.name,Sg e.u4,Sg e.place.name,.p (strs e.place.path),.p (.sl 8 (e.args.map Ex.enc)),I e.pos] 42)->L[3]? =some (.cells [a,b,c] 35)->
   ADet Tryz.prog 40 [.fn (.func 142) [] [.ptr 0 0 0,.ptr 0 1 0,.ptr 0 2 0,.ptr 0 3 0]] (L::S) (zNk (tyE p env e)) (zLQ (tyE p env e) (L::S) 0):=fun hw L a b c h0 h1 h2 h3=>by
  have key:=fun M=>zZa p hp env he hl e Fc hw (M::L::S) 1 a b c h0 h1 h2 h3
  cases hr:tyE p env e with
  |error f=>
   rw[hr]at key
   exact zJz _ _ (L::S) _ (.thr (fltW f)) _ ⟨f,rfl,rfl⟩ key
  |ok t=>
   rw[hr]at key;refine ADet.less (.p (.nil 2)) (zJz _ _ (L::S) _ (.ret .un) nilS rfl fun M=>?_)
   have:=key M
   simp only[zLQ,zUZ]at this ⊢;rw[zAi]at this;exact this
 unfold zOm;refine ADet.intro mixed call107 func107 rfl ?_
 have hB:zK9 e=(zCL e||(decide (e.op=5\/e.op=6)&&zCL (zHu e))):=rfl
 simp[ntmps107];refine cq (wC _) ?_
 cases h1:zCL e with
 |true=>
  have hb:zK9 e=true:=by rw[hB,h1];rfl
  rw[hb,if_pos rfl]
  have fC:=fC (zH9 hb)
  simp;refine cq (fC _ _ _ _ rfl rfl rfl rfl) ?_
  cases tyE p env e<;>simp[zNk,zLQ,payT]
 |false=>
  by_cases h5:e.op=5\/e.op=6
  .cases h2:zCL (zHu e)with
   |true=>
    have hb:zK9 e=true:=by rw[hB,h1,h2];simp[h5]
    rw[hb,if_pos rfl]
    have fC:=fC (zH9 hb)
    rw[h2]at vC
    rcases h5 with h5|h5
    .simp[h5,zy]
     refine cq (by have:=vC;simp only[zy,h5]at this;exact this _ _ _) ?_
     simp;refine cq (fC _ _ _ _ rfl rfl (by simp[h5]) rfl) ?_
     cases tyE p env e<;>simp[zNk,zLQ,payT]
    simp[h5,zy]
    refine cq (by have:=vC;simp only[zy,h5]at this;exact this _ _ _) ?_
    simp;refine cq (fC _ _ _ _ rfl rfl (by simp[h5]) rfl) ?_
    cases tyE p env e<;>simp[zNk,zLQ,payT]
   |false=>
    have hb:zK9 e=false:=by rw[hB,h1,h2];simp
    rw[hb,if_neg (by simp)]
    rw[h2]at vC
    rcases h5 with h5|h5
    .simp[h5,zy]
     refine cq (by have:=vC;simp only[zy,h5]at this;exact this _ _ _) ?_
     simp[payT]
    simp[h5,zy]
    refine cq (by have:=vC;simp only[zy,h5]at this;exact this _ _ _) ?_
    simp[payT]
  have hb:zK9 e=false:=by rw[hB,h1];simp[h5]
  rw[hb,if_neg (by simp)]
  have e5:(e.op==5)=false:=by simp;omega
  have e6:(e.op==6)=false:=by simp;omega
  simp[e5,e6,payT]
attribute [local simp] zf za zn zb List.forall_mem_cons List.contains_cons List.contains_nil List.find? zm zl zZ
theorem zXX(p:List It)(hp:PrSm p)(Mc:zx p=true)(x:It)(Ln:ItSm x)(hG:∀s∈x.body,StG p s)(xm:∃d,x.ret.whole d=true)(fb:x.fields.length+(x.body.map St.nd).sum<=4000000000)(S:ASt)(d i b k:Nat)(h1:get2 S d i=some (.cells (itU x) 44))(h2:get2 S d k=some (.cells [.ptr 0 b 0] 104))(h3:TAt p S d b x.fields)(hik:i≠b)(Sq:k≠b):
  zL Tryz.prog 41 [.ptr d i 0,.ptr d k 0] S (resS (tgF p x)) (set2 S d b (fnT p (tgSs p x.fields x.body).1)):=by
 obtain⟨_,Db,Kn,Kd,Fc⟩:=Ln
 have he:zh x.fields:=fun f hf=>(Db.2 f hf).2
 have Aa:∀s∈x.body,StT p s:=fun s hs=>zXU hp Mc s (Kd.2 s hs) (hG s hs)
 have hS:=zAG h3
 have gi:∀o,get2 (set2 S d b o) d i=some (.cells (itU x) 44):=fun o=>by rw[zF o h3,if_neg (by omega)];exact h1
 have gk:∀o,get2 (set2 S d b o) d k=some (.cells [.ptr 0 b 0] 104):=fun o=>by rw[zF o h3,if_neg (by omega)];exact h2
 have xb:x.body.length<=maxLen:=by have:=Kd.1;unfold maxLen;omega
 refine zL.intro mixed call41 func41 rfl ?_;simp[ntmps41,h1];refine zBg (fun a:Nat × List Fi=>a.1<=x.body.length/\tgSs p x.fields (x.body.take a.1)=(a.2,none)) (fun a=>([.ptr (d+1) i 0,.ptr (d+1) k 0,.any,.any,.any,.p (.sl 15 (x.body.map St.enc)),I x.body.length,I a.1]++List.replicate 18 .any)) (fun a=>[]::set2 S d b (fnT p a.2)) (fun a=>x.body.length-a.1) (0,x.fields) ⟨Nat.zero_le _,by rw[List.take_zero,tgSs]⟩ ?_ ?_ ?_
 .simp
 .simp[hS]
 rintro⟨q,env1⟩ ⟨hq,pa⟩
 simp only at hq pa
 obtain⟨g1,g2⟩:=zH2 hp he (fun s hs=>Kd.2 s (List.mem_of_mem_take hs)) pa
 by_cases hlt:q<x.body.length
 .have aa:(q:Int)<(x.body.length:Int):=by omega
  have hw:=zA hlt
  obtain⟨n1,n2⟩:=zLF hlt pa
  have Pp:=zFs St.nd x.body q hlt
  have hx:=(Aa _ (List.getElem_mem hlt)).at h3 g1 (by omega)
  generalize hy:x.body[q]=s at*
  generalize hr:tgS p env1 s=r at*
  obtain⟨e2,o⟩:=r
  cases o with
  |some f=>
   have hF:tgF p x=some f:=by unfold tgF;rw[n2 f rfl]
   rw[hF,n2 f rfl];simp[hlt,aa,hy,zBN,gi,gk];refine cq (hx _) ?_
   simp[resS]
  |none=>
   simp[hlt,aa,hy,zBN,gi,gk];refine cq (hx _) ?_;simp[resS];exact⟨q+1,e2,⟨by omega,n1⟩,by omega,hw,rfl⟩
 have aa:¬(q:Int)<(x.body.length:Int):=by omega
 obtain rfl:q=x.body.length:=by omega
 rw[List.take_length]at pa g2
 have hx:=fun L=>zMX hp g1 (by omega) x.ret Fc xm (L::set2 S d b (fnT p env1)) (d+1) b (h3.set env1)
 have sC:=fun t S=>zC8 t x.result S
 cases hr:tyE p env1 x.ret with
 |error f=>
  have hF:tgF p x=some f:=by unfold tgF;rw[pa];simp only;rw[hr]
  rw[hF,pa];rw[hr]at hx;simp[aa];refine z5 3 [3,6,10] [] (by kernel_rfl) (by kernel_rfl) (by kernel_rfl) ?_
  simp[gi,gk]
  exact⟨_,_,hx _,by simp[resS]⟩
 |ok t=>
  rw[hr]at hx
  cases Jb:eqT t x.result with
  |true=>
   have hF:tgF p x=none:=by unfold tgF;rw[pa];simp only;rw[hr];simp only;rw[if_pos Jb]
   rw[hF,pa];simp[aa];refine zQ (dB [(5,3),(9,3),(9,6)] (by kernel_rfl) ?_)
   simp[gi,gk];refine cq ((hx _).det) ?_;simp[gi,gk];refine cq (sC _ _) ?_;rw[Jb];simp[gi,gk];refine cq ((zY _ _ _ _).det) ?_
   simp[resS]
  |false=>
   have hF:tgF p x=some (100,x.ret.pos):=by unfold tgF;rw[pa];simp only;rw[hr];simp only;rw[if_neg (by rw[Jb];simp)]
   rw[hF,pa];simp[aa];refine z5 10 [10] [(5,3),(9,3),(9,6)] (by kernel_rfl) (by kernel_rfl) (by kernel_rfl) ?_
   simp[gi,gk];refine cq ((hx _).det) ?_;simp[gi,gk];refine cq (sC _ _) ?_;rw[Jb];simp[gi,gk];exact⟨_,_,zY _ _ _ _,by simp[resS]⟩
end Go.Proofs.YtgpajpilkapciaaGreatDoor
namespace Go.Proofs.YtgpajpilkapciaaGreatDoor
open Go.RowKit _root_.Go.Proofs.Tryz
attribute [local simp] List.replicate List.range List.range.loop
theorem zJ5:∀(p:List It) (x:It),x∈p->x.nd<=(p.map It.nd).sum
 |y::p,x,h=>by
  rw[List.map_cons,List.sum_cons]
  rcases List.mem_cons.1 h with rfl|h
  .omega
  have:=zJ5 p x h;omega
theorem zIA(x:It):x.fields.length+(x.body.map St.nd).sum<=x.nd:=by
 have:=zJ4 x.fields
 have fb:x.nd=3+((x.fields.map Fi.nd).sum+(x.result.nd+((x.body.map St.nd).sum+x.ret.nd))):=rfl
 omega
def tgQ(p:List It)(q:Nat):List Flt:=(p.take q).filterMap (tgI p)
theorem zXY(p:List It)(q:Nat):(tgQ p q).length<=q:=by
 have h1:=List.length_filterMap_le (tgI p) (p.take q)
 unfold tgQ;simp only[List.length_take]at h1;omega
theorem zUa(p:List It)(q:Nat)(h:q<p.length):tgQ p (q+1)=tgQ p q++(tgI p p[q]).toList:=by
 unfold tgQ
 have e:[p[q]].filterMap (tgI p)=(tgI p p[q]).toList:=by cases hr:tgI p p[q]<;>simp[hr]
 rw[List.take_succ_eq_append_getElem h,List.filterMap_append,e]
abbrev boxP(p:List It):AObj:=.cells [.p (prog p)] 27
def lvC(p:List It)(n:Nat)(x:It):List AObj:=[boxP p,.dead,.dead,.dead,.dead,.dead,.tok 54 2 n,.cells (itU x) 44,fnT p x.fields,.cells [.ptr 0 8 0] 104]
theorem zXZ(p:List It)(hp:PrSm p)(hn:zBa p=[])(x:It)(hx:x∈p)(h3:x.kind=3)(fb:(p.map It.nd).sum<=30000)(S:ASt)(n:Nat):ADet Tryz.prog 40 [.fn (.func 41) [] [.ptr 0 7 0,.ptr 0 9 0]] (lvC p n x::S) (.p (.sl 2 ((tgF p x).toList.map fltE))) (set2 (lvC p n x::S) 0 8 (fnT p (tgSs p x.fields x.body).1)):=by
 have Mc:=zCj hn
 obtain⟨hG,xm⟩:=zRX hn hx h3
 have hb:=zJ5 p x hx
 have we:=zIA x
 have key:∀N,zL Tryz.prog 41 [.ptr 1 7 0,.ptr 1 9 0] (N::lvC p n x::S) (resS (tgF p x)) (N::set2 (lvC p n x::S) 0 8 (fnT p (tgSs p x.fields x.body).1)):=fun N=>by
  have:=zXX p hp Mc x (hp.2 x hx) hG xm (by omega) (N::lvC p n x::S) 1 7 8 9 rfl rfl rfl (by decide) (by decide)
  rw[zAi]at this;exact this
 cases hr:tgF p x with
 |some f=>
  rw[hr]at key
  exact zJz _ _ (lvC p n x::S) _ (.thr (fltW f)) _ ⟨f,rfl,rfl⟩ key
 |none=>
  rw[hr]at key;exact ADet.less (.p (.nil 2)) (zJz _ _ (lvC p n x::S) _ (.ret .un) nilS rfl key)
theorem zNl(p:List It)(hp:PrSm p)(fb:(p.map It.nd).sum<=30000)(S:ASt):ADet Tryz.prog 20 [.agg [.p (prog p)]] S (.p (.sl 2 ((zDb p).map fltE))) S:=by
 have Jc:wkL [boxP p] [boxP p]:=⟨⟨rfl,zS _⟩,trivial⟩
 have pm:p.length<=20000:=hp.1
 have xi:p.length<=maxLen:=by unfold maxLen;omega
 cases hw:zx p with
 |false=>
  have re:zBa p=[(2,0)]:=by unfold zBa;rw[if_neg (by rw[hw];simp)]
  have hg:zDb p=[(2,0)]:=by unfold zDb;rw[if_neg (by rw[re];simp)]
  have nC:=fun R=>zRF p hp hw [boxP p] Jc R
  rw[re]at nC;rw[hg];refine ADet.intro mixed call20 func20 rfl ?_;simp[ntmps20];refine cq (nC _) ?_
  simp[fltE]
 |true=>
  have nC:=fun R=>zMR p hp fb hw [boxP p] Jc R
  cases hn:zBa p with
  |cons f l=>
   have hg:zDb p=[(2,0)]:=by unfold zDb;rw[if_neg (by rw[hn];simp)]
   have Xd:(0:Int)<(l.length:Int)+1:=by omega
   rw[hn]at nC;rw[hg];refine ADet.intro mixed call20 func20 rfl ?_;simp[ntmps20];refine cq (nC _) ?_
   simp[fltE,Xd]
  |nil=>
   rw[hn]at nC
   obtain⟨fs,ht,ic⟩:=zI9 hw
   have tC:=fun S=>zQ1 p 300 hp fs ht (by omega) S
   cases fs with
   |cons f l=>
    have hg:zDb p=[(2,0)]:=by unfold zDb;rw[if_neg (by rw[ht];simp)]
    have Xd:(0:Int)<(l.length:Int)+1:=by omega
    rw[hg];refine ADet.intro mixed call20 func20 rfl ?_;simp[ntmps20];refine cq (nC _) ?_;simp;refine cq (tC _) ?_
    simp[fltE,Xd]
   |nil=>
    have nC:∀R,ADet Tryz.prog 18 [.agg [.p (prog p)]] ([boxP p]::R) (.rsl 0 5 0 2) ([boxP p,.dead,.dead,.dead,.dead,.dead]::R):=fun R=>
     ADet.after (S':=([boxP p,.dead,.dead,.dead,.dead,rwO []]::R)) ⟨⟨⟨rfl,zS _⟩,trivial⟩,rfl⟩ (nC R)
    have hg:zDb p=tgQ p p.length:=by
     unfold zDb tgQ;rw[if_pos ⟨hn,ht⟩,List.take_length];rfl
    rw[hg];refine ADet.intro mixed call20 func20 rfl ?_;simp[ntmps20];refine cq (nC _) ?_;simp;refine cq (tC _) ?_;simp[prog];refine zBF 54 2 (by decide) [boxP p,.dead,.dead,.dead,.dead,.dead] (fun q:Nat=>q<=p.length) (fun q=>([.any,.ptr 0 0 0,.any,.osl 2 ((tgQ p q).map fltE) 0 6]++(List.replicate 16 .any++([.p (.sl 16 (p.map It.enc)),I p.length,I q]++List.replicate 17 .any)))) (fun q=>[boxP p,.dead,.dead,.dead,.dead,.dead,.tok 54 2 (tgQ p q).length]::S) (fun q=>p.length-q) 0 (Nat.zero_le _) ?_ ?_ ?_ ?_
    .simp[tgQ,prog]
    .simp[tgQ,prog]
    .rfl
    intro q hq
    have Vm:=zXY p q
    by_cases hlt:q<p.length
    .have aa:(q:Int)<(p.length:Int):=by omega
     have ag:=zA hlt
     have Hi:=zUa p q hlt
     have om:=List.getElem_mem hlt
     have va:(tgQ p q).length+1<=4294967296:=by omega
     have we:(tgQ p q).length<=4294967296:=by omega
     generalize he:p[q]=x at*
     by_cases h3:x.kind=3
     .have fC:=zXZ p hp hn x om h3 fb S (tgQ p q).length
      rw[zVS,if_pos h3]at Hi;simp only[lvC,fnT,zFa,List.set_cons_succ,List.set_cons_zero,boxP,prog]at fC;simp[hlt,aa,he,It.enc,h3,prog];simp only[itU,h3]at fC;refine cq fC ?_
      cases hr:tgF p x with
      |none=>
       rw[hr]at Hi;simp[we]
       exact⟨q+1,by omega,by omega,⟨by rw[Hi];simp,ag⟩,by rw[Hi];simp[prog]⟩
      |some f=>
       rw[hr]at Hi;simp[va];exact⟨q+1,by omega,by omega,⟨by rw[Hi];simp,ag⟩,by rw[Hi];simp[prog]⟩
     have yb:(x.kind !=3)=true:=by simpa using h3
     rw[zVS,if_neg h3]at Hi;simp[hlt,aa,he,It.enc,yb,h3,prog];exact⟨q+1,by omega,by omega,⟨by rw[Hi];simp,ag⟩,by rw[Hi];simp[prog]⟩
    have aa:¬(q:Int)<(p.length:Int):=by omega
    obtain rfl:q=p.length:=by omega
    simp[aa]
end Go.Proofs.YtgpajpilkapciaaGreatDoor
