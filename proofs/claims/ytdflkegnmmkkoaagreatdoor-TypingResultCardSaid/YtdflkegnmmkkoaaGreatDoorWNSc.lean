/- A part of the proof. -/
import Derived.Test.YtdflkegnmmkkoaaGreatDoorWNTl
import Derived.Test.YtdflkegnmmkkoaaGreatDoorWNRf
import Derived.Test.YtdflkegnmmkkoaaGreatDoorWNQj
import Derived.Test.YtdflkegnmmkkoaaGreatDoorWNSa
set_option linter.unusedVariables false
set_option linter.unusedSimpArgs false
set_option maxRecDepth 100000
set_option maxHeartbeats 32000000
namespace Go.Proofs.YtdflkegnmmkkoaaGreatDoor
open Go.RowKit _root_.Go.Proofs.Tryz
variable{p:List It}
mutual
theorem zQF:∀s:St,s.tabs.length<=s.nd
 | .mk op nm sd nms ty i pl es b el ar pos=>by
  have a1:=zDK b
  have a2:=zDK el
  have a3:=zIi ar
  have a4:=zq ((op !=12)||(ty.stands&&ty.owned)) 70 pos
  rw[St.tabs,St.nd];simp only[List.length_append];omega
theorem zDK:∀l:List St,(St.tabss l).length<=St.nds l
 | []=>by rw[St.tabss];exact Nat.zero_le _
 |s::l=>by
  have a1:=zQF s
  have a2:=zDK l
  rw[St.tabss,St.nds];simp only[List.length_append];omega
theorem zIi:∀l:List (ArOf St),(Ar.tabss l).length<=Ar.nds l
 | []=>by rw[Ar.tabss];exact Nat.zero_le _
 |⟨v,n,b⟩::l=>by
  have a1:=zDK b
  have a2:=zIi l
  rw[Ar.tabss,Ar.nds];simp only[List.length_append];omega
end
theorem zKj:∀l:List Fi,l.length<=(l.map Fi.nd).sum
 | []=>by simp
 |f::l=>by
  have:=zKj l
  have h1:1<=f.nd:=by unfold Fi.nd;omega
  rw[List.map_cons,List.sum_cons,List.length_cons];omega
theorem zQG(hw:zAF p=true)(x:It)(hx:x∈p):∃l,x.tabs p 300=some l/\l.length<=x.nd:=by
 unfold zAF at hw
 have tq:(p.length:Int)<=30:=by
  unfold zt at hw;simp only[Bool.and_eq_true,decide_eq_true_eq]at hw;exact hw.1
 rw[zBx tq]at hw
 have hB:∀y∈p,y.fields.length<=6:=fun y hy=>by
  have:=List.all_eq_true.1 hw y hy
  unfold It.whole at this;split at this
  .unfold zt at this
   simp only[Bool.and_eq_true,decide_eq_true_eq]at this
   have:=this.2.1
   omega
  split at this
  .unfold zt at this
   simp only[Bool.and_eq_true,decide_eq_true_eq]at this
   have:=this.2.1.1
   omega
  cases this
 have hf:fresh p []<=30:=by
  have:=List.countP_le_length (p:=fun x:It=>!([]:List BA).any fun y=>sEq x.name y) (l:=p)
  unfold fresh;omega
 obtain⟨r,h1,_⟩:=zC4 p x.name 6 hB 300 x.fields [] (by have:=hB x hx;omega)
 have a1:=zE3 (fun f:Fi=>zI (f.type.stands&&((x.kind==3)||f.type.owned)) 70 x.pos) (fun _=>1) x.fields (fun f _=>zq _ _ _)
 have a2:(x.fields.map fun _=>1).sum=x.fields.length:=by
  generalize x.fields=l
  induction l with
  |nil=>rfl
  |cons f l ih=>rw[List.map_cons,List.sum_cons,ih,List.length_cons];omega
 have a3:=zq (x.result.stands&&x.result.owned) 70 x.pos
 have a4:=zDK x.body
 rw[zXi]at a4
 have a5:=zKj x.fields
 have a6:=zq (!r.1) 71 x.pos
 have Ed:x.nd=3+((x.fields.map Fi.nd).sum+(x.result.nd+((x.body.map St.nd).sum+x.ret.nd))):=rfl
 unfold It.tabs;split
 .exact⟨_,rfl,by simp only[List.length_append];omega⟩
 rw[h1]
 exact⟨_,rfl,by simp only[List.length_append];omega⟩
theorem zIj{p:List It}(hw:zAF p=true):∀l:List It,(∀x∈l,x∈p)->∃fs,zD7 p 300 l=some fs/\fs.length<=(l.map It.nd).sum
 | [],_=>⟨[],rfl,Nat.zero_le _⟩
 |x::l,h=>by
  obtain⟨a,h1,h2⟩:=zQG hw x (h x (by simp))
  obtain⟨b,h3,h4⟩:=zIj hw l fun y hy=>h y (List.mem_cons_of_mem _ hy)
  refine⟨a++b,by rw[zD7,h1,h3],?_⟩
  rw[List.length_append,List.map_cons,List.sum_cons];omega
theorem zJg(hw:zAF p=true):∃fs,zFO p 300=some fs/\fs.length<=(p.map It.nd).sum:=by
 obtain⟨fs,h1,h2⟩:=zIj hw p fun x h=>h
 exact⟨fs,by unfold zFO;rw[if_pos hw];exact h1,h2⟩
theorem zDX(h:zBM p=[]):zAF p=true:=by
 cases hw:zAF p with
 |true=>rfl
 |false=>
  unfold zBM at h;rw[if_neg (by rw[hw];simp)]at h
  cases h
def zCp(p:List It):List Flt:=if zBM p=[]/\zFO p 300=some []then tgC p else [(2,0)]
def tgF(p:List It)(x:It):Option Flt:=
 match tgSs p x.fields x.body with
 |(_,some f)=>some f
 |(env,none)=>match tyE p env x.ret with
  | .error f=>some f
  | .ok t=>if eqT t x.result=true then none else some (100,x.ret.pos)
theorem zWX(p:List It)(x:It):tgI p x=if x.kind=3 then tgF p x else none:=rfl
theorem zYp(h:zBM p=[]){x:It}(hx:x∈p)(h3:x.kind=3):(∀s∈x.body,StG p s)/\∃d,x.ret.whole d=true:=by
 have hw:=zDX h
 obtain⟨_,hf⟩:=zPb (((zEj p).1 h).2.2.1 x hx)
 obtain⟨fl,k1,_⟩:=hf h3
 refine⟨zHP x.body (fun s hs σ hn=>zYf s (zLh hw hx s hs) σ hn) _ k1,?_⟩
 unfold zAF zt at hw;simp only[Bool.and_eq_true,decide_eq_true_eq]at hw;rw[List.take_of_length_le (by omega)]at hw
 have:=List.all_eq_true.1 hw.2 x hx
 unfold It.whole at this;rw[if_neg (by omega),if_pos h3]at this
 simp only[Bool.and_eq_true]at this;exact⟨_,this.2.2.2.2.1⟩
attribute [local simp] List.replicate List.range List.range.loop zAd zw zA6 zAe zAD zAf zA7 zx zn zv zAb zA5 zAC zAc zAg zAh zA8 zA9 zCV zAO zAP cutL cutO zBJ ThrK
def zL7(r:Except Flt Ty)(S:ASt)(d:Nat):ASt:=match r with| .ok t=>set2 S d 3 (.cells [U t.kind,Sg t.name,.p (.sl 3 (t.args.map Ty.enc))] 36)| .error _=>S
def zVt(r:Except Flt Ty):ARes:=match r with| .ok _=>.ret .un| .error f=>.thr (fltW f)
theorem zbL(p:List It)(hp:PrSm p)(env:List Fi)(he:zAu env)(hl:env.length<=4000000000)(e:Ex)(Ie:ExSm e)(hw:∃d,e.whole d=true)(S:ASt)(d:Nat)(a b c:AV)(h0:get2 S d 0=some (.cells [.p (prog p)] 24))(h1:get2 S d 1=some (.cells [.p (.sl 4 (env.map Fi.enc))] 33))
  (h2:get2 S d 2=some (.cells [U e.op,I e.int,Sg e.name,Sg e.u2,Sg e.place.name,.p (strs e.place.path),.p (.sl 8 (e.args.map Ex.enc)),I e.pos] 43)) (h3:get2 S d 3=some (.cells [a,b,c] 36)):
  zK Tryz.prog 42 [.ptr d 0 0,.ptr d 1 0,.ptr d 2 0,.ptr d 3 0] S (zVt (tyE p env e)) (zL7 (tyE p env e) S d):=by
 have xC:=zNH hp he hl e Ie hw ([fnT p env]::S) 0 0 rfl
 simp only[fnT]at xC;refine zK.intro mixed call42 func42 rfl ?_
 cases hr:tyE p env e with
 |error f=>
  rw[hr]at xC;simp[ntmps42,h0,h1,h2,h3];refine cq xC ?_
  simp[resE,zVt,zL7]
 |ok t=>
  rw[hr]at xC;simp[ntmps42,h0,h1,h2,h3];refine cq xC ?_;simp[resE,zVt,zL7,h3]
theorem zIk{e:Ex}(h:zKQ e=true):∃d,e.whole d=true:=by
 unfold zKQ at h;simp only[Bool.or_eq_true,Bool.and_eq_true]at h
 rcases h with h|⟨_,h⟩
 .unfold zBp at h
  simp only[Bool.and_eq_true]at h;exact⟨_,h.2⟩
 unfold zBp at h
 simp only[Bool.and_eq_true]at h;exact(zOY h.2).1 e (by simp[zIJ,Ex.args])
theorem zYq{e:Ex}(h:ExSm e):ExSm (zIJ e):=.mk _ (by show(⟨#[102]⟩:BA).size<=20000;decide) zL1 ⟨zL1,by simp[zIJ,Ex.place],by simp[zIJ,Ex.place]⟩ (by simp[zIJ,Ex.args]) (fun x hx=>by
 simp only[zIJ,Ex.args,List.mem_singleton]at hx;subst hx;exact h)
def zOZ(r:Except Flt Ty):AV:=match r with| .ok _=>.p (.sl 2 [])| .error f=>.p (.sl 2 [[.v (.int .i64 f.1),.v (.int .i64 f.2)]])
theorem zYr(p:List It)(hp:PrSm p)(env:List Fi)(he:zAu env)(hl:env.length<=4000000000)(e:Ex)(Ie:ExSm e)(S:ASt):ADet Tryz.prog 15 [.agg [.p (prog p)],.p (.sl 4 (env.map Fi.enc)),exV e] S (payT (zPi p env e)) S:=by
 have wC:=fun S=>zH7 e Ie S
 have vC:∀(d i:Nat) S,ADet Tryz.prog 18 [.agg [U 18,I 0,Sg ⟨#[102]⟩,Sg emS,Sg emS,nilS,.osl 8 [e.enc] d i,I 0]] S (B (zBp (zIJ e))) S:=fun d i S=>by
  have:=zH7 (zIJ e) (zYq Ie) S
  refine ADet.sub (.cons (.agg ?_) (.refl _)) this
  exact .cons (.refl _) (.cons (.refl _) (.cons (.refl _) (.cons (.refl _) (.cons (.refl _) (.cons (.p (.nil 1)) (.cons (.osl (.refl _)) (.refl _)))))))
 have fC:(∃d,e.whole d=true)->∀(L:List AObj) (a b c:AV),L[0]? =some (.cells [.p (prog p)] 24)->L[1]? =some (.cells [.p (.sl 4 (env.map Fi.enc))] 33)->L[2]? =some (.cells [U e.op,I e.int,Sg e.name,Sg e.u2,Sg e.place.name,.p (strs e.place.path),.p (.sl 8 (e.args.map Ex.enc)),I e.pos] 43)->L[3]? =some (.cells [a,b,c] 36)->
   ADet Tryz.prog 34 [.fn (.func 42) [] [.ptr 0 0 0,.ptr 0 1 0,.ptr 0 2 0,.ptr 0 3 0]] (L::S) (zOZ (tyE p env e)) (zL7 (tyE p env e) (L::S) 0):=fun hw L a b c h0 h1 h2 h3=>by
  have key:=fun M=>zbL p hp env he hl e Ie hw (M::L::S) 1 a b c h0 h1 h2 h3
  cases hr:tyE p env e with
  |error f=>
   rw[hr]at key
   exact zKi _ _ (L::S) _ (.thr (fltW f)) _ ⟨f,rfl,rfl⟩ key
  |ok t=>
   rw[hr]at key;refine ADet.less (.p (.nil 2)) (zKi _ _ (L::S) _ (.ret .un) nilS rfl fun M=>?_)
   have:=key M
   simp only[zL7,zVt]at this ⊢;rw[zAy]at this;exact this
 unfold zPi;refine ADet.intro mixed call15 func15 rfl ?_
 have hB:zKQ e=(zBp e||(decide (e.op=5\/e.op=6)&&zBp (zIJ e))):=rfl
 simp[ntmps15];refine cq (wC _) ?_
 cases h1:zBp e with
 |true=>
  have hb:zKQ e=true:=by rw[hB,h1];rfl
  rw[hb,if_pos rfl]
  have fC:=fC (zIk hb)
  simp;refine cq (fC _ _ _ _ rfl rfl rfl rfl) ?_
  cases tyE p env e<;>simp[zOZ,zL7,payT]
 |false=>
  by_cases h5:e.op=5\/e.op=6
  .cases h2:zBp (zIJ e)with
   |true=>
    have hb:zKQ e=true:=by rw[hB,h1,h2];simp[h5]
    rw[hb,if_pos rfl]
    have fC:=fC (zIk hb)
    rw[h2]at vC
    rcases h5 with h5|h5
    .simp[h5,zg]
     refine cq (by have:=vC;simp only[zg,h5]at this;exact this _ _ _) ?_
     simp;refine cq (fC _ _ _ _ rfl rfl (by simp[h5]) rfl) ?_
     cases tyE p env e<;>simp[zOZ,zL7,payT]
    simp[h5,zg]
    refine cq (by have:=vC;simp only[zg,h5]at this;exact this _ _ _) ?_
    simp;refine cq (fC _ _ _ _ rfl rfl (by simp[h5]) rfl) ?_
    cases tyE p env e<;>simp[zOZ,zL7,payT]
   |false=>
    have hb:zKQ e=false:=by rw[hB,h1,h2];simp
    rw[hb,if_neg (by simp)]
    rw[h2]at vC
    rcases h5 with h5|h5
    .simp[h5,zg]
     refine cq (by have:=vC;simp only[zg,h5]at this;exact this _ _ _) ?_
     simp[payT]
    simp[h5,zg]
    refine cq (by have:=vC;simp only[zg,h5]at this;exact this _ _ _) ?_
    simp[payT]
  have hb:zKQ e=false:=by rw[hB,h1];simp[h5]
  rw[hb,if_neg (by simp)]
  have e5:(e.op==5)=false:=by simp;omega
  have e6:(e.op==6)=false:=by simp;omega
  simp[e5,e6,payT]
attribute [local simp] List.forall_mem_cons List.contains_cons List.contains_nil List.find?
theorem zYs(p:List It)(hp:PrSm p)(Lc:zAF p=true)(x:It)(ml:ItSm x)(hG:∀s∈x.body,StG p s)(Om:∃d,x.ret.whole d=true)(Ed:x.fields.length+(x.body.map St.nd).sum<=4000000000)(S:ASt)(d i b k:Nat)(h1:get2 S d i=some (.cells (itU x) 45))(h2:get2 S d k=some (.cells [.ptr 0 b 0] 74))(h3:TAt p S d b x.fields)(hik:i≠b)(Nn:k≠b):
  zK Tryz.prog 35 [.ptr d i 0,.ptr d k 0] S (resS (tgF p x)) (set2 S d b (fnT p (tgSs p x.fields x.body).1)):=by
 obtain⟨_,Tb,Yn,Pd,Ie⟩:=ml
 have he:zAu x.fields:=fun f hf=>(Tb.2 f hf).2
 have Ca:∀s∈x.body,StT p s:=fun s hs=>zYo hp Lc s (Pd.2 s hs) (hG s hs)
 have hS:=zAN h3
 have gi:∀o,get2 (set2 S d b o) d i=some (.cells (itU x) 45):=fun o=>by rw[zQ o h3,if_neg (by omega)];exact h1
 have gk:∀o,get2 (set2 S d b o) d k=some (.cells [.ptr 0 b 0] 74):=fun o=>by rw[zQ o h3,if_neg (by omega)];exact h2
 have ec:x.body.length<=maxLen:=by have:=Pd.1;unfold maxLen;omega
 refine zK.intro mixed call35 func35 rfl ?_;simp[ntmps35,h1];refine zBi (fun a:Nat × List Fi=>a.1<=x.body.length/\tgSs p x.fields (x.body.take a.1)=(a.2,none)) (fun a=>([.ptr (d+1) i 0,.ptr (d+1) k 0,.any,.any,.any,.p (.sl 15 (x.body.map St.enc)),I x.body.length,I a.1]++List.replicate 18 .any)) (fun a=>[]::set2 S d b (fnT p a.2)) (fun a=>x.body.length-a.1) (0,x.fields) ⟨Nat.zero_le _,by rw[List.take_zero,tgSs]⟩ ?_ ?_ ?_
 .simp
 .simp[hS]
 rintro⟨q,env1⟩ ⟨hq,pa⟩
 simp only at hq pa
 obtain⟨g1,g2⟩:=zIg hp he (fun s hs=>Pd.2 s (List.mem_of_mem_take hs)) pa
 by_cases hlt:q<x.body.length
 .have aa:(q:Int)<(x.body.length:Int):=by omega
  have hw:=zA hlt
  obtain⟨n1,n2⟩:=zL2 hlt pa
  have nq:=zKh St.nd x.body q hlt
  have hx:=(Ca _ (List.getElem_mem hlt)).at h3 g1 (by omega)
  generalize hy:x.body[q]=s at*
  generalize hr:tgS p env1 s=r at*
  obtain⟨e2,o⟩:=r
  cases o with
  |some f=>
   have hF:tgF p x=some f:=by unfold tgF;rw[n2 f rfl]
   rw[hF,n2 f rfl];simp[hlt,aa,hy,zCR,gi,gk];refine cq (hx _) ?_
   simp[resS]
  |none=>
   simp[hlt,aa,hy,zCR,gi,gk];refine cq (hx _) ?_;simp[resS];exact⟨q+1,e2,⟨by omega,n1⟩,by omega,hw,rfl⟩
 have aa:¬(q:Int)<(x.body.length:Int):=by omega
 obtain rfl:q=x.body.length:=by omega
 rw[List.take_length]at pa g2
 have hx:=fun L=>zNH hp g1 (by omega) x.ret Ie Om (L::set2 S d b (fnT p env1)) (d+1) b (h3.set env1)
 have sC:=fun t S=>zCw t x.result S
 cases hr:tyE p env1 x.ret with
 |error f=>
  have hF:tgF p x=some f:=by unfold tgF;rw[pa];simp only;rw[hr]
  rw[hF,pa];rw[hr]at hx;simp[aa];refine z6 3 [3,6,10] [] (by kernel_rfl) (by kernel_rfl) (by kernel_rfl) ?_
  simp[gi,gk]
  exact⟨_,_,hx _,by simp[resS]⟩
 |ok t=>
  rw[hr]at hx
  cases Wb:eqT t x.result with
  |true=>
   have hF:tgF p x=none:=by unfold tgF;rw[pa];simp only;rw[hr];simp only;rw[if_pos Wb]
   rw[hF,pa];simp[aa];refine zU (dB [(5,3),(9,3),(9,6)] (by kernel_rfl) ?_)
   simp[gi,gk];refine cq ((hx _).det) ?_;simp[gi,gk];refine cq (sC _ _) ?_;rw[Wb];simp[gi,gk];refine cq ((zf _ _ _ _).det) ?_
   simp[resS]
  |false=>
   have hF:tgF p x=some (100,x.ret.pos):=by unfold tgF;rw[pa];simp only;rw[hr];simp only;rw[if_neg (by rw[Wb];simp)]
   rw[hF,pa];simp[aa];refine z6 10 [10] [(5,3),(9,3),(9,6)] (by kernel_rfl) (by kernel_rfl) (by kernel_rfl) ?_
   simp[gi,gk];refine cq ((hx _).det) ?_;simp[gi,gk];refine cq (sC _ _) ?_;rw[Wb];simp[gi,gk];exact⟨_,_,zf _ _ _ _,by simp[resS]⟩
end Go.Proofs.YtdflkegnmmkkoaaGreatDoor
namespace Go.Proofs.YtdflkegnmmkkoaaGreatDoor
open Go.RowKit _root_.Go.Proofs.Tryz
attribute [local simp] List.replicate List.range List.range.loop
theorem zTC:∀(p:List It) (x:It),x∈p->x.nd<=(p.map It.nd).sum
 |y::p,x,h=>by
  rw[List.map_cons,List.sum_cons]
  rcases List.mem_cons.1 h with rfl|h
  .omega
  have:=zTC p x h;omega
theorem zYt(x:It):x.fields.length+(x.body.map St.nd).sum<=x.nd:=by
 have:=zKj x.fields
 have Ed:x.nd=3+((x.fields.map Fi.nd).sum+(x.result.nd+((x.body.map St.nd).sum+x.ret.nd))):=rfl
 omega
def tgQ(p:List It)(q:Nat):List Flt:=(p.take q).filterMap (tgI p)
theorem zYu(p:List It)(q:Nat):(tgQ p q).length<=q:=by
 have h1:=List.length_filterMap_le (tgI p) (p.take q)
 unfold tgQ;simp only[List.length_take]at h1;omega
theorem zVu(p:List It)(q:Nat)(h:q<p.length):tgQ p (q+1)=tgQ p q++(tgI p p[q]).toList:=by
 unfold tgQ
 have e:[p[q]].filterMap (tgI p)=(tgI p p[q]).toList:=by cases hr:tgI p p[q]<;>simp[hr]
 rw[List.take_succ_eq_append_getElem h,List.filterMap_append,e]
abbrev boxP(p:List It):AObj:=.cells [.p (prog p)] 24
def lvC(p:List It)(n:Nat)(x:It):List AObj:=[boxP p,.dead,.dead,.dead,.dead,.dead,.tok 32 2 n,.cells (itU x) 45,fnT p x.fields,.cells [.ptr 0 8 0] 74]
theorem zYv(p:List It)(hp:PrSm p)(hn:zBM p=[])(x:It)(hx:x∈p)(h3:x.kind=3)(Ed:(p.map It.nd).sum<=30000)(S:ASt)(n:Nat):ADet Tryz.prog 34 [.fn (.func 35) [] [.ptr 0 7 0,.ptr 0 9 0]] (lvC p n x::S) (.p (.sl 2 ((tgF p x).toList.map fltE))) (set2 (lvC p n x::S) 0 8 (fnT p (tgSs p x.fields x.body).1)):=by
 have Lc:=zDX hn
 obtain⟨hG,Om⟩:=zYp hn hx h3
 have hb:=zTC p x hx
 have Cd:=zYt x
 have key:∀N,zK Tryz.prog 35 [.ptr 1 7 0,.ptr 1 9 0] (N::lvC p n x::S) (resS (tgF p x)) (N::set2 (lvC p n x::S) 0 8 (fnT p (tgSs p x.fields x.body).1)):=fun N=>by
  have:=zYs p hp Lc x (hp.2 x hx) hG Om (by omega) (N::lvC p n x::S) 1 7 8 9 rfl rfl rfl (by decide) (by decide)
  rw[zAy]at this;exact this
 cases hr:tgF p x with
 |some f=>
  rw[hr]at key
  exact zKi _ _ (lvC p n x::S) _ (.thr (fltW f)) _ ⟨f,rfl,rfl⟩ key
 |none=>
  rw[hr]at key;exact ADet.less (.p (.nil 2)) (zKi _ _ (lvC p n x::S) _ (.ret .un) nilS rfl key)
theorem zOa(p:List It)(hp:PrSm p)(Ed:(p.map It.nd).sum<=30000)(S:ASt):ADet Tryz.prog 10 [.agg [.p (prog p)]] S (.p (.sl 2 ((zCp p).map fltE))) S:=by
 have cd:wkL [boxP p] [boxP p]:=⟨⟨rfl,za _⟩,trivial⟩
 have Em:p.length<=20000:=hp.1
 have xl:p.length<=maxLen:=by unfold maxLen;omega
 cases hw:zAF p with
 |false=>
  have Vd:zBM p=[(2,0)]:=by unfold zBM;rw[if_neg (by rw[hw];simp)]
  have hg:zCp p=[(2,0)]:=by unfold zCp;rw[if_neg (by rw[Vd];simp)]
  have nC:=fun R=>zSk p hp hw [boxP p] cd R
  rw[Vd]at nC;rw[hg];refine ADet.intro mixed call10 func10 rfl ?_;simp[ntmps10];refine cq (nC _) ?_
  simp[fltE]
 |true=>
  have nC:=fun R=>zSj p hp Ed hw [boxP p] cd R
  cases hn:zBM p with
  |cons f l=>
   have hg:zCp p=[(2,0)]:=by unfold zCp;rw[if_neg (by rw[hn];simp)]
   have fe:(0:Int)<(l.length:Int)+1:=by omega
   rw[hn]at nC;rw[hg];refine ADet.intro mixed call10 func10 rfl ?_;simp[ntmps10];refine cq (nC _) ?_
   simp[fltE,fe]
  |nil=>
   rw[hn]at nC
   obtain⟨fs,ht,Vc⟩:=zJg hw
   have tC:=fun S=>zWK p 300 hp fs ht (by omega) S
   cases fs with
   |cons f l=>
    have hg:zCp p=[(2,0)]:=by unfold zCp;rw[if_neg (by rw[ht];simp)]
    have fe:(0:Int)<(l.length:Int)+1:=by omega
    rw[hg];refine ADet.intro mixed call10 func10 rfl ?_;simp[ntmps10];refine cq (nC _) ?_;simp;refine cq (tC _) ?_
    simp[fltE,fe]
   |nil=>
    have nC:∀R,ADet Tryz.prog 32 [.agg [.p (prog p)]] ([boxP p]::R) (.rsl 0 5 0 2) ([boxP p,.dead,.dead,.dead,.dead,.dead]::R):=fun R=>
     ADet.after (S':=([boxP p,.dead,.dead,.dead,.dead,rwO []]::R)) ⟨⟨⟨rfl,za _⟩,trivial⟩,rfl⟩ (nC R)
    have hg:zCp p=tgQ p p.length:=by
     unfold zCp tgQ;rw[if_pos ⟨hn,ht⟩,List.take_length];rfl
    rw[hg];refine ADet.intro mixed call10 func10 rfl ?_;simp[ntmps10];refine cq (nC _) ?_;simp;refine cq (tC _) ?_;simp[prog];refine zAw 32 2 (by decide) [boxP p,.dead,.dead,.dead,.dead,.dead] (fun q:Nat=>q<=p.length) (fun q=>([.any,.ptr 0 0 0,.any,.osl 2 ((tgQ p q).map fltE) 0 6]++(List.replicate 16 .any++([.p (.sl 16 (p.map It.enc)),I p.length,I q]++List.replicate 17 .any)))) (fun q=>[boxP p,.dead,.dead,.dead,.dead,.dead,.tok 32 2 (tgQ p q).length]::S) (fun q=>p.length-q) 0 (Nat.zero_le _) ?_ ?_ ?_ ?_
    .simp[tgQ,prog]
    .simp[tgQ,prog]
    .rfl
    intro q hq
    have Gj:=zYu p q
    by_cases hlt:q<p.length
    .have aa:(q:Int)<(p.length:Int):=by omega
     have ud:=zA hlt
     have Ni:=zVu p q hlt
     have Cm:=List.getElem_mem hlt
     have va:(tgQ p q).length+1<=4294967296:=by omega
     have Cd:(tgQ p q).length<=4294967296:=by omega
     generalize he:p[q]=x at*
     by_cases h3:x.kind=3
     .have fC:=zYv p hp hn x Cm h3 Ed S (tgQ p q).length
      rw[zWX,if_pos h3]at Ni;simp only[lvC,fnT,zFp,List.set_cons_succ,List.set_cons_zero,boxP,prog]at fC;simp[hlt,aa,he,It.enc,h3,prog];simp only[itU,h3]at fC;refine cq fC ?_
      cases hr:tgF p x with
      |none=>
       rw[hr]at Ni;simp[Cd]
       exact⟨q+1,by omega,by omega,⟨by rw[Ni];simp,ud⟩,by rw[Ni];simp[prog]⟩
      |some f=>
       rw[hr]at Ni;simp[va];exact⟨q+1,by omega,by omega,⟨by rw[Ni];simp,ud⟩,by rw[Ni];simp[prog]⟩
     have Fb:(x.kind !=3)=true:=by simpa using h3
     rw[zWX,if_neg h3]at Ni;simp[hlt,aa,he,It.enc,Fb,h3,prog];exact⟨q+1,by omega,by omega,⟨by rw[Ni];simp,ud⟩,by rw[Ni];simp[prog]⟩
    have aa:¬(q:Int)<(p.length:Int):=by omega
    obtain rfl:q=p.length:=by omega
    simp[aa]
def inA:BA:=(⟨#[115,116,114,117,99,116,32,83,32,123,32,97,58,32,105,110,116,44,32,98,58,32,66,111,120,60,105,110,116,62,32,125,32,102,110,32,102,40,120,58,32,83,44,32,114,58,32,38,83,44,32,109,58,32,38,109,117,116,32,83,44,32,99,58,32,67,101,108,108,60,105,110,116,62,41,32,45,62,32,105,110,116,32,123,32]⟩:BA)
def inZ:BA:=(⟨#[32,48,32,125,32,102,110,32,109,97,105,110,40,41,32,45,62,32,105,110,116,32,123,32,48,32,125]⟩:BA)
def inB(s:BA):BA:=inA++s++inZ
theorem inC(s:BA)(hs:s.size<=1000)(S:ASt):ADet Tryz.prog 26 [Sg s] S (Sg (inB s)) S:=by
 refine ADet.intro mixed call26 func26 rfl ?_
 have a1:inA.size<=1000:=by decide+kernel
 have a2:inZ.size<=1000:=by decide+kernel
 have h1:inA.size+s.size<=maxLen:=by unfold maxLen;omega
 have h2:inA.size+s.size+inZ.size<=maxLen:=by unfold maxLen;omega
 unfold inA at h1;unfold inA inZ at h2;simp[ntmps26,inB,inA,inZ,h1,h2]
def errQ(p:List It):Int:=match zBM p,zFO p 300 with
 | [],some []=>(match tgC p with| []=>0|f::_=>f.1)
 |_,_=>2
theorem zYw(p:List It):errQ p=match zCp p with| []=>0|f::_=>f.1:=by
 unfold errQ zCp;split
 .rename_i h1 h2
  rw[if_pos ⟨h1,h2⟩]
 rename_i h
 rw[if_neg fun hh=>h hh.1 hh.2]
theorem zbM(n:Nat)(hn:n<=100000)(s:BA)(p:List It)(h:zIY n s=some p)(hg:great p=false)(hd:zFh p<=40)(S:ASt):ADet Tryz.prog 25 [Sg s] S (I (errQ p)) S:=by
 rw[zYw]
 have pC:=fun S=>ADet.lessTup (l':=[.agg [.p (prog p)],.p (.sl 2 [])]) (.cons (.refl _) (.cons (.p (.nil 2)) (.refl _))) (zS2 n hn s p h (zXd hg) hd S)
 have cC:=fun S=>zOa p (zXd hg) (Nat.le_trans (zZ9 hg) (by omega)) S
 refine ADet.intro mixed call25 func25 rfl ?_;simp[ntmps25];refine cq (pC _) ?_;simp;refine cq (cC _) ?_
 cases zCp p with
 |nil=>simp
 |cons f l=>
  have hn0:¬(l.length:Int)+1=0:=by omega
  have kd:((l.length:Int)+1==0)=false:=by simpa using hn0
  simp[hn0,kd,fltE]
def pr10(s:BA):List It:=(zIY 90 s).getD []
def ok10(s:BA)(e:Int):Bool:=(zIY 90 s).isSome&&(!(great (pr10 s))&&(decide (zFh (pr10 s)<=40)&&decide (errQ (pr10 s)=e)))
theorem zCi{s:BA}{e:Int}(h:ok10 s e=true)(S:ASt):ADet Tryz.prog 25 [Sg s] S (I e) S:=by
 unfold ok10 at h;simp only[Bool.and_eq_true,Bool.not_eq_true',decide_eq_true_eq]at h
 obtain⟨h1,h2,h3,h4⟩:=h
 have hp:zIY 90 s=some (pr10 s):=by
  unfold pr10
  cases hq:zIY 90 s with
  |none=>rw[hq]at h1;cases h1
  |some p=>rfl
 rw[<-h4];exact zbM 90 (by omega) s _ hp h2 h3 S
def tx0:BA:=(⟨#[108,101,116,32,121,32,61,32,120,46,97,32,43,32,49,59]⟩:BA)
theorem ax0:ok10 (inB tx0) 0=true:=by kernel_rfl
def tx1:BA:=(⟨#[108,101,116,32,121,32,61,32,120,46,98,59]⟩:BA)
theorem ax1:ok10 (inB tx1) 102=true:=by kernel_rfl
def tx2:BA:=(⟨#[108,101,116,32,121,32,61,32,120,59,32,108,101,116,32,122,32,61,32,114,59]⟩:BA)
theorem ax2:ok10 (inB tx2) 0=true:=by kernel_rfl
def tx3:BA:=(⟨#[108,101,116,32,121,32,61,32,38,109,117,116,32,114,46,42,46,97,59]⟩:BA)
theorem ax3:ok10 (inB tx3) 100=true:=by kernel_rfl
def tx4:BA:=(⟨#[108,101,116,32,121,32,61,32,38,109,117,116,32,109,46,42,46,97,59,32,108,101,116,32,122,32,61,32,38,120,46,98,46,42,59]⟩:BA)
theorem ax4:ok10 (inB tx4) 0=true:=by kernel_rfl
def tx5:BA:=(⟨#[108,101,116,32,121,32,61,32,98,111,120,40,114,41,59]⟩:BA)
theorem ax5:ok10 (inB tx5) 101=true:=by kernel_rfl
def tx6:BA:=(⟨#[108,101,116,32,121,32,61,32,99,101,108,108,40,120,41,59]⟩:BA)
theorem ax6:ok10 (inB tx6) 100=true:=by kernel_rfl
def tx7:BA:=(⟨#[105,102,32,103,101,116,40,99,41,32,61,61,32,49,32,123,32,125]⟩:BA)
theorem ax7:ok10 (inB tx7) 0=true:=by kernel_rfl
def tx8:BA:=(⟨#[108,101,116,32,121,32,61,32,110,111,116,32,49,59]⟩:BA)
theorem ax8:ok10 (inB tx8) 100=true:=by kernel_rfl
def tx9:BA:=(⟨#[114,46,42,46,97,32,61,32,49,59]⟩:BA)
theorem ax9:ok10 (inB tx9) 100=true:=by kernel_rfl
def tx10:BA:=(⟨#[109,46,42,46,97,32,61,32,49,59]⟩:BA)
theorem ax10:ok10 (inB tx10) 0=true:=by kernel_rfl
def tx11:BA:=(⟨#[114,32,61,32,114,59]⟩:BA)
theorem ax11:ok10 (inB tx11) 101=true:=by kernel_rfl
def tx12:BA:=(⟨#[102,110,32,109,97,105,110,40,41,32,45,62,32,105,110,116,32,123,32,120,32,125]⟩:BA)
theorem ax12:ok10 tx12 2=true:=by kernel_rfl
theorem zVv(S:ASt):ADet Tryz.prog 8 [] S (B true) S:=by
 have i0:=fun S=>inC tx0 (by decide+kernel) S
 have c0:=fun S=>zCi ax0 S
 unfold tx0 at i0 c0
 generalize inB _=b0 at i0 c0
 have i1:=fun S=>inC tx1 (by decide+kernel) S
 have c1:=fun S=>zCi ax1 S
 unfold tx1 at i1 c1
 generalize inB _=b1 at i1 c1
 have i2:=fun S=>inC tx2 (by decide+kernel) S
 have c2:=fun S=>zCi ax2 S
 unfold tx2 at i2 c2
 generalize inB _=b2 at i2 c2
 have i3:=fun S=>inC tx3 (by decide+kernel) S
 have c3:=fun S=>zCi ax3 S
 unfold tx3 at i3 c3
 generalize inB _=b3 at i3 c3
 have i4:=fun S=>inC tx4 (by decide+kernel) S
 have c4:=fun S=>zCi ax4 S
 unfold tx4 at i4 c4
 generalize inB _=b4 at i4 c4
 have i5:=fun S=>inC tx5 (by decide+kernel) S
 have c5:=fun S=>zCi ax5 S
 unfold tx5 at i5 c5
 generalize inB _=b5 at i5 c5
 have i6:=fun S=>inC tx6 (by decide+kernel) S
 have c6:=fun S=>zCi ax6 S
 unfold tx6 at i6 c6
 generalize inB _=b6 at i6 c6
 have i7:=fun S=>inC tx7 (by decide+kernel) S
 have c7:=fun S=>zCi ax7 S
 unfold tx7 at i7 c7
 generalize inB _=b7 at i7 c7
 have i8:=fun S=>inC tx8 (by decide+kernel) S
 have c8:=fun S=>zCi ax8 S
 unfold tx8 at i8 c8
 generalize inB _=b8 at i8 c8
 have i9:=fun S=>inC tx9 (by decide+kernel) S
 have c9:=fun S=>zCi ax9 S
 unfold tx9 at i9 c9
 generalize inB _=b9 at i9 c9
 have uq:=fun S=>inC tx10 (by decide+kernel) S
 have vq:=fun S=>zCi ax10 S
 unfold tx10 at uq vq
 generalize inB _=vr at uq vq
 have wq:=fun S=>inC tx11 (by decide+kernel) S
 have xq:=fun S=>zCi ax11 S
 unfold tx11 at wq xq
 generalize inB _=xr at wq xq
 have Nr:=fun S=>zCi ax12 S
 unfold tx12 at Nr;refine ADet.intro mixed call8 func8 rfl ?_;simp[ntmps8];refine cq (i0 _) ?_;simp;refine cq (c0 _) ?_;simp;refine cq (i1 _) ?_;simp;refine cq (c1 _) ?_;simp;refine cq (i2 _) ?_;simp;refine cq (c2 _) ?_;simp;refine cq (i3 _) ?_;simp;refine cq (c3 _) ?_;simp;refine cq (i4 _) ?_;simp;refine cq (c4 _) ?_;simp;refine cq (i5 _) ?_;simp;refine cq (c5 _) ?_;simp;refine cq (i6 _) ?_;simp;refine cq (c6 _) ?_;simp;refine cq (i7 _) ?_;simp;refine cq (c7 _) ?_;simp;refine cq (i8 _) ?_;simp;refine cq (c8 _) ?_;simp;refine cq (i9 _) ?_;simp;refine cq (c9 _) ?_;simp;refine cq (uq _) ?_;simp;refine cq (vq _) ?_;simp;refine cq (wq _) ?_;simp;refine cq (xq _) ?_;simp;refine cq (Nr _) ?_;simp
end Go.Proofs.YtdflkegnmmkkoaaGreatDoor
