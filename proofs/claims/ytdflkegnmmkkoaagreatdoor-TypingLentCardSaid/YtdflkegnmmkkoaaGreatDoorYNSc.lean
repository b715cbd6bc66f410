/- A part of the proof. -/
import Derived.Test.YtdflkegnmmkkoaaGreatDoorYNTl
import Derived.Test.YtdflkegnmmkkoaaGreatDoorYNRf
import Derived.Test.YtdflkegnmmkkoaaGreatDoorYNQj
import Derived.Test.YtdflkegnmmkkoaaGreatDoorYNSa
set_option linter.unusedVariables false
set_option linter.unusedSimpArgs false
set_option maxRecDepth 100000
set_option maxHeartbeats 32000000
namespace Go.Proofs.YtdflkegnmmkkoaaGreatDoor
open Go.RowKit _root_.Go.Proofs.Tryz
variable{p:List It}
mutual
theorem zQA:∀s:St,s.tabs.length<=s.nd
 | .mk op nm sd nms ty i pl es b el ar pos=>by
  have a1:=zDT b
  have a2:=zDT el
  have a3:=zI0 ar
  have a4:=zu ((op !=12)||(ty.stands&&ty.owned)) 70 pos
  rw[St.tabs,St.nd];simp only[List.length_append];omega
theorem zDT:∀l:List St,(St.tabss l).length<=St.nds l
 | []=>by rw[St.tabss];exact Nat.zero_le _
 |s::l=>by
  have a1:=zQA s
  have a2:=zDT l
  rw[St.tabss,St.nds];simp only[List.length_append];omega
theorem zI0:∀l:List (ArOf St),(Ar.tabss l).length<=Ar.nds l
 | []=>by rw[Ar.tabss];exact Nat.zero_le _
 |⟨v,n,b⟩::l=>by
  have a1:=zDT b
  have a2:=zI0 l
  rw[Ar.tabss,Ar.nds];simp only[List.length_append];omega
end
theorem zKs:∀l:List Fi,l.length<=(l.map Fi.nd).sum
 | []=>by simp
 |f::l=>by
  have:=zKs l
  have h1:1<=f.nd:=by unfold Fi.nd;omega
  rw[List.map_cons,List.sum_cons,List.length_cons];omega
theorem zQB(hw:zAc p=true)(x:It)(hx:x∈p):∃l,x.tabs p 300=some l/\l.length<=x.nd:=by
 unfold zAc at hw
 have oq:(p.length:Int)<=30:=by
  unfold z7 at hw;simp only[Bool.and_eq_true,decide_eq_true_eq]at hw;exact hw.1
 rw[zBZ oq]at hw
 have hB:∀y∈p,y.fields.length<=6:=fun y hy=>by
  have:=List.all_eq_true.1 hw y hy
  unfold It.whole at this;split at this
  .unfold z7 at this
   simp only[Bool.and_eq_true,decide_eq_true_eq]at this
   have:=this.2.1
   omega
  split at this
  .unfold z7 at this
   simp only[Bool.and_eq_true,decide_eq_true_eq]at this
   have:=this.2.1.1
   omega
  cases this
 have hf:fresh p []<=30:=by
  have:=List.countP_le_length (p:=fun x:It=>!([]:List BA).any fun y=>sEq x.name y) (l:=p)
  unfold fresh;omega
 obtain⟨r,h1,_⟩:=zDB p x.name 6 hB 300 x.fields [] (by have:=hB x hx;omega)
 have a1:=zFC (fun f:Fi=>zJ (f.type.stands&&((x.kind==3)||f.type.owned)) 70 x.pos) (fun _=>1) x.fields (fun f _=>zu _ _ _)
 have a2:(x.fields.map fun _=>1).sum=x.fields.length:=by
  generalize x.fields=l
  induction l with
  |nil=>rfl
  |cons f l ih=>rw[List.map_cons,List.sum_cons,ih,List.length_cons];omega
 have a3:=zu (x.result.stands&&x.result.owned) 70 x.pos
 have a4:=zDT x.body
 rw[zXW]at a4
 have a5:=zKs x.fields
 have a6:=zu (!r.1) 71 x.pos
 have Td:x.nd=3+((x.fields.map Fi.nd).sum+(x.result.nd+((x.body.map St.nd).sum+x.ret.nd))):=rfl
 unfold It.tabs;split
 .exact⟨_,rfl,by simp only[List.length_append];omega⟩
 rw[h1]
 exact⟨_,rfl,by simp only[List.length_append];omega⟩
theorem zI1{p:List It}(hw:zAc p=true):∀l:List It,(∀x∈l,x∈p)->∃fs,zFh p 300 l=some fs/\fs.length<=(l.map It.nd).sum
 | [],_=>⟨[],rfl,Nat.zero_le _⟩
 |x::l,h=>by
  obtain⟨a,h1,h2⟩:=zQB hw x (h x (by simp))
  obtain⟨b,h3,h4⟩:=zI1 hw l fun y hy=>h y (List.mem_cons_of_mem _ hy)
  refine⟨a++b,by rw[zFh,h1,h3],?_⟩
  rw[List.length_append,List.map_cons,List.sum_cons];omega
theorem zQC(hw:zAc p=true):∃fs,zDM p 300=some fs/\fs.length<=(p.map It.nd).sum:=by
 obtain⟨fs,h1,h2⟩:=zI1 hw p fun x h=>h
 exact⟨fs,by unfold zDM;rw[if_pos hw];exact h1,h2⟩
theorem zHG(h:zB2 p=[]):zAc p=true:=by
 cases hw:zAc p with
 |true=>rfl
 |false=>
  unfold zB2 at h;rw[if_neg (by rw[hw];simp)]at h
  cases h
def zDU(p:List It):List Flt:=if zB2 p=[]/\zDM p 300=some []then tgC p else [(2,0)]
def tgF(p:List It)(x:It):Option Flt:=
 match tgSs p x.fields x.body with
 |(_,some f)=>some f
 |(env,none)=>match tyE p env x.ret with
  | .error f=>some f
  | .ok t=>if eqT t x.result=true then none else some (100,x.ret.pos)
theorem zWK(p:List It)(x:It):tgI p x=if x.kind=3 then tgF p x else none:=rfl
theorem zYe(h:zB2 p=[]){x:It}(hx:x∈p)(h3:x.kind=3):(∀s∈x.body,StG p s)/\∃d,x.ret.whole d=true:=by
 have hw:=zHG h
 obtain⟨_,hf⟩:=zPd (((zSJ p).1 h).2.2.1 x hx)
 obtain⟨fl,k1,_⟩:=hf h3
 refine⟨zHl x.body (fun s hs σ hn=>zYU s (zLr hw hx s hs) σ hn) _ k1,?_⟩
 unfold zAc z7 at hw;simp only[Bool.and_eq_true,decide_eq_true_eq]at hw;rw[List.take_of_length_le (by omega)]at hw
 have:=List.all_eq_true.1 hw.2 x hx
 unfold It.whole at this;rw[if_neg (by omega),if_pos h3]at this
 simp only[Bool.and_eq_true]at this;exact⟨_,this.2.2.2.2.1⟩
attribute [local simp] List.replicate List.range List.range.loop zAk zy zBD zAl zAG zAm zBE z5 zq zx zAi zBC zAF zAj zAn zAo zBF zBG zCT zAP zAQ cutL cutO zBQ ThrK
def zMD(r:Except Flt Ty)(S:ASt)(d:Nat):ASt:=match r with| .ok t=>set2 S d 3 (.cells [U t.kind,Sg t.name,.p (.sl 3 (t.args.map Ty.enc))] 36)| .error _=>S
def zVk(r:Except Flt Ty):ARes:=match r with| .ok _=>.ret .un| .error f=>.thr (fltW f)
theorem za2(p:List It)(hp:PrSm p)(env:List Fi)(he:zAg env)(hl:env.length<=4000000000)(e:Ex)(Rc:ExSm e)(hw:∃d,e.whole d=true)(S:ASt)(d:Nat)(a b c:AV)(h0:get2 S d 0=some (.cells [.p (prog p)] 24))(h1:get2 S d 1=some (.cells [.p (.sl 4 (env.map Fi.enc))] 33))
  (h2:get2 S d 2=some (.cells [U e.op,I e.int,Sg e.name,Sg e.u2,Sg e.place.name,.p (strs e.place.path),.p (.sl 8 (e.args.map Ex.enc)),I e.pos] 43)) (h3:get2 S d 3=some (.cells [a,b,c] 36)):
  zM Tryz.prog 42 [.ptr d 0 0,.ptr d 1 0,.ptr d 2 0,.ptr d 3 0] S (zVk (tyE p env e)) (zMD (tyE p env e) S d):=by
 have xC:=zNM hp he hl e Rc hw ([fnT p env]::S) 0 0 rfl
 simp only[fnT]at xC;refine zM.intro mixed call42 func42 rfl ?_
 cases hr:tyE p env e with
 |error f=>
  rw[hr]at xC;simp[ntmps42,h0,h1,h2,h3];refine cq xC ?_
  simp[resE,zVk,zMD]
 |ok t=>
  rw[hr]at xC;simp[ntmps42,h0,h1,h2,h3];refine cq xC ?_;simp[resE,zVk,zMD,h3]
theorem zI2{e:Ex}(h:zIY e=true):∃d,e.whole d=true:=by
 unfold zIY at h;simp only[Bool.or_eq_true,Bool.and_eq_true]at h
 rcases h with h|⟨_,h⟩
 .unfold zo at h
  simp only[Bool.and_eq_true]at h;exact⟨_,h.2⟩
 unfold zo at h
 simp only[Bool.and_eq_true]at h;exact(zOa h.2).1 e (by simp[zEZ,Ex.args])
theorem zYf{e:Ex}(h:ExSm e):ExSm (zEZ e):=.mk _ (by show(⟨#[102]⟩:BA).size<=20000;decide) zFZ ⟨zFZ,by simp[zEZ,Ex.place],by simp[zEZ,Ex.place]⟩ (by simp[zEZ,Ex.args]) (fun x hx=>by
 simp only[zEZ,Ex.args,List.mem_singleton]at hx;subst hx;exact h)
def zOb(r:Except Flt Ty):AV:=match r with| .ok _=>.p (.sl 2 [])| .error f=>.p (.sl 2 [[.v (.int .i64 f.1),.v (.int .i64 f.2)]])
theorem zI3(p:List It)(hp:PrSm p)(env:List Fi)(he:zAg env)(hl:env.length<=4000000000)(e:Ex)(Rc:ExSm e)(S:ASt):ADet Tryz.prog 15 [.agg [.p (prog p)],.p (.sl 4 (env.map Fi.enc)),exV e] S (payT (zEM p env e)) S:=by
 have wC:=fun S=>zFj e Rc S
 have vC:∀(d i:Nat) S,ADet Tryz.prog 18 [.agg [U 18,I 0,Sg ⟨#[102]⟩,Sg emS,Sg emS,nilS,.osl 8 [e.enc] d i,I 0]] S (B (zo (zEZ e))) S:=fun d i S=>by
  have:=zFj (zEZ e) (zYf Rc) S
  refine ADet.sub (.cons (.agg ?_) (.refl _)) this
  exact .cons (.refl _) (.cons (.refl _) (.cons (.refl _) (.cons (.refl _) (.cons (.refl _) (.cons (.p (.nil 1)) (.cons (.osl (.refl _)) (.refl _)))))))
 have fC:(∃d,e.whole d=true)->∀(L:List AObj) (a b c:AV),L[0]? =some (.cells [.p (prog p)] 24)->L[1]? =some (.cells [.p (.sl 4 (env.map Fi.enc))] 33)->L[2]? =some (.cells [U e.op,I e.int,Sg e.name,Sg e.u2,Sg e.place.name,.p (strs e.place.path),.p (.sl 8 (e.args.map Ex.enc)),I e.pos] 43)->L[3]? =some (.cells [a,b,c] 36)->
   ADet Tryz.prog 34 [.fn (.func 42) [] [.ptr 0 0 0,.ptr 0 1 0,.ptr 0 2 0,.ptr 0 3 0]] (L::S) (zOb (tyE p env e)) (zMD (tyE p env e) (L::S) 0):=fun hw L a b c h0 h1 h2 h3=>by
  have key:=fun M=>za2 p hp env he hl e Rc hw (M::L::S) 1 a b c h0 h1 h2 h3
  cases hr:tyE p env e with
  |error f=>
   rw[hr]at key
   exact zKr _ _ (L::S) _ (.thr (fltW f)) _ ⟨f,rfl,rfl⟩ key
  |ok t=>
   rw[hr]at key;refine ADet.less (.p (.nil 2)) (zKr _ _ (L::S) _ (.ret .un) nilS rfl fun M=>?_)
   have:=key M
   simp only[zMD,zVk]at this ⊢;rw[zA5]at this;exact this
 unfold zEM;refine ADet.intro mixed call15 func15 rfl ?_
 have hB:zIY e=(zo e||(decide (e.op=5\/e.op=6)&&zo (zEZ e))):=rfl
 simp[ntmps15];refine cq (wC _) ?_
 cases h1:zo e with
 |true=>
  have hb:zIY e=true:=by rw[hB,h1];rfl
  rw[hb,if_pos rfl]
  have fC:=fC (zI2 hb)
  simp;refine cq (fC _ _ _ _ rfl rfl rfl rfl) ?_
  cases tyE p env e<;>simp[zOb,zMD,payT]
 |false=>
  by_cases h5:e.op=5\/e.op=6
  .cases h2:zo (zEZ e)with
   |true=>
    have hb:zIY e=true:=by rw[hB,h1,h2];simp[h5]
    rw[hb,if_pos rfl]
    have fC:=fC (zI2 hb)
    rw[h2]at vC
    rcases h5 with h5|h5
    .simp[h5,zf]
     refine cq (by have:=vC;simp only[zf,h5]at this;exact this _ _ _) ?_
     simp;refine cq (fC _ _ _ _ rfl rfl (by simp[h5]) rfl) ?_
     cases tyE p env e<;>simp[zOb,zMD,payT]
    simp[h5,zf]
    refine cq (by have:=vC;simp only[zf,h5]at this;exact this _ _ _) ?_
    simp;refine cq (fC _ _ _ _ rfl rfl (by simp[h5]) rfl) ?_
    cases tyE p env e<;>simp[zOb,zMD,payT]
   |false=>
    have hb:zIY e=false:=by rw[hB,h1,h2];simp
    rw[hb,if_neg (by simp)]
    rw[h2]at vC
    rcases h5 with h5|h5
    .simp[h5,zf]
     refine cq (by have:=vC;simp only[zf,h5]at this;exact this _ _ _) ?_
     simp[payT]
    simp[h5,zf]
    refine cq (by have:=vC;simp only[zf,h5]at this;exact this _ _ _) ?_
    simp[payT]
  have hb:zIY e=false:=by rw[hB,h1];simp[h5]
  rw[hb,if_neg (by simp)]
  have e5:(e.op==5)=false:=by simp;omega
  have e6:(e.op==6)=false:=by simp;omega
  simp[e5,e6,payT]
attribute [local simp] List.forall_mem_cons List.contains_cons List.contains_nil List.find?
theorem zYg(p:List It)(hp:PrSm p)(Za:zAc p=true)(x:It)(Wn:ItSm x)(hG:∀s∈x.body,StG p s)(Sm:∃d,x.ret.whole d=true)(Td:x.fields.length+(x.body.map St.nd).sum<=4000000000)(S:ASt)(d i b k:Nat)(h1:get2 S d i=some (.cells (itU x) 45))(h2:get2 S d k=some (.cells [.ptr 0 b 0] 74))(h3:TAt p S d b x.fields)(hik:i≠b)(Ln:k≠b):
  zM Tryz.prog 35 [.ptr d i 0,.ptr d k 0] S (resS (tgF p x)) (set2 S d b (fnT p (tgSs p x.fields x.body).1)):=by
 obtain⟨_,Gb,Un,Ud,Rc⟩:=Wn
 have he:zAg x.fields:=fun f hf=>(Gb.2 f hf).2
 have Ba:∀s∈x.body,StT p s:=fun s hs=>zYd hp Za s (Ud.2 s hs) (hG s hs)
 have hS:=zAO h3
 have gi:∀o,get2 (set2 S d b o) d i=some (.cells (itU x) 45):=fun o=>by rw[zQ o h3,if_neg (by omega)];exact h1
 have gk:∀o,get2 (set2 S d b o) d k=some (.cells [.ptr 0 b 0] 74):=fun o=>by rw[zQ o h3,if_neg (by omega)];exact h2
 have ec:x.body.length<=maxLen:=by have:=Ud.1;unfold maxLen;omega
 refine zM.intro mixed call35 func35 rfl ?_;simp[ntmps35,h1];refine zBn (fun a:Nat × List Fi=>a.1<=x.body.length/\tgSs p x.fields (x.body.take a.1)=(a.2,none)) (fun a=>([.ptr (d+1) i 0,.ptr (d+1) k 0,.any,.any,.any,.p (.sl 15 (x.body.map St.enc)),I x.body.length,I a.1]++List.replicate 18 .any)) (fun a=>[]::set2 S d b (fnT p a.2)) (fun a=>x.body.length-a.1) (0,x.fields) ⟨Nat.zero_le _,by rw[List.take_zero,tgSs]⟩ ?_ ?_ ?_
 .simp
 .simp[hS]
 rintro⟨q,env1⟩ ⟨hq,pa⟩
 simp only at hq pa
 obtain⟨g1,g2⟩:=zIy hp he (fun s hs=>Ud.2 s (List.mem_of_mem_take hs)) pa
 by_cases hlt:q<x.body.length
 .have aa:(q:Int)<(x.body.length:Int):=by omega
  have hw:=zB hlt
  obtain⟨n1,n2⟩:=zL8 hlt pa
  have iq:=zKq St.nd x.body q hlt
  have hx:=(Ba _ (List.getElem_mem hlt)).at h3 g1 (by omega)
  generalize hy:x.body[q]=s at*
  generalize hr:tgS p env1 s=r at*
  obtain⟨e2,o⟩:=r
  cases o with
  |some f=>
   have hF:tgF p x=some f:=by unfold tgF;rw[n2 f rfl]
   rw[hF,n2 f rfl];simp[hlt,aa,hy,zCS,gi,gk];refine cq (hx _) ?_
   simp[resS]
  |none=>
   simp[hlt,aa,hy,zCS,gi,gk];refine cq (hx _) ?_;simp[resS];exact⟨q+1,e2,⟨by omega,n1⟩,by omega,hw,rfl⟩
 have aa:¬(q:Int)<(x.body.length:Int):=by omega
 obtain rfl:q=x.body.length:=by omega
 rw[List.take_length]at pa g2
 have hx:=fun L=>zNM hp g1 (by omega) x.ret Rc Sm (L::set2 S d b (fnT p env1)) (d+1) b (h3.set env1)
 have sC:=fun t S=>zCb t x.result S
 cases hr:tyE p env1 x.ret with
 |error f=>
  have hF:tgF p x=some f:=by unfold tgF;rw[pa];simp only;rw[hr]
  rw[hF,pa];rw[hr]at hx;simp[aa];refine z9 3 [3,6,10] [] (by kernel_rfl) (by kernel_rfl) (by kernel_rfl) ?_
  simp[gi,gk]
  exact⟨_,_,hx _,by simp[resS]⟩
 |ok t=>
  rw[hr]at hx
  cases Xb:eqT t x.result with
  |true=>
   have hF:tgF p x=none:=by unfold tgF;rw[pa];simp only;rw[hr];simp only;rw[if_pos Xb]
   rw[hF,pa];simp[aa];refine zW (dB [(5,3),(9,3),(9,6)] (by kernel_rfl) ?_)
   simp[gi,gk];refine cq ((hx _).det) ?_;simp[gi,gk];refine cq (sC _ _) ?_;rw[Xb];simp[gi,gk];refine cq ((zi _ _ _ _).det) ?_
   simp[resS]
  |false=>
   have hF:tgF p x=some (100,x.ret.pos):=by unfold tgF;rw[pa];simp only;rw[hr];simp only;rw[if_neg (by rw[Xb];simp)]
   rw[hF,pa];simp[aa];refine z9 10 [10] [(5,3),(9,3),(9,6)] (by kernel_rfl) (by kernel_rfl) (by kernel_rfl) ?_
   simp[gi,gk];refine cq ((hx _).det) ?_;simp[gi,gk];refine cq (sC _ _) ?_;rw[Xb];simp[gi,gk];exact⟨_,_,zi _ _ _ _,by simp[resS]⟩
end Go.Proofs.YtdflkegnmmkkoaaGreatDoor
namespace Go.Proofs.YtdflkegnmmkkoaaGreatDoor
open Go.RowKit _root_.Go.Proofs.Tryz
attribute [local simp] List.replicate List.range List.range.loop
theorem zS5:∀(p:List It) (x:It),x∈p->x.nd<=(p.map It.nd).sum
 |y::p,x,h=>by
  rw[List.map_cons,List.sum_cons]
  rcases List.mem_cons.1 h with rfl|h
  .omega
  have:=zS5 p x h;omega
theorem zYh(x:It):x.fields.length+(x.body.map St.nd).sum<=x.nd:=by
 have:=zKs x.fields
 have Td:x.nd=3+((x.fields.map Fi.nd).sum+(x.result.nd+((x.body.map St.nd).sum+x.ret.nd))):=rfl
 omega
def tgQ(p:List It)(q:Nat):List Flt:=(p.take q).filterMap (tgI p)
theorem zYi(p:List It)(q:Nat):(tgQ p q).length<=q:=by
 have h1:=List.length_filterMap_le (tgI p) (p.take q)
 unfold tgQ;simp only[List.length_take]at h1;omega
theorem zVl(p:List It)(q:Nat)(h:q<p.length):tgQ p (q+1)=tgQ p q++(tgI p p[q]).toList:=by
 unfold tgQ
 have e:[p[q]].filterMap (tgI p)=(tgI p p[q]).toList:=by cases hr:tgI p p[q]<;>simp[hr]
 rw[List.take_succ_eq_append_getElem h,List.filterMap_append,e]
abbrev boxP(p:List It):AObj:=.cells [.p (prog p)] 24
def lvC(p:List It)(n:Nat)(x:It):List AObj:=[boxP p,.dead,.dead,.dead,.dead,.dead,.tok 32 2 n,.cells (itU x) 45,fnT p x.fields,.cells [.ptr 0 8 0] 74]
theorem zYj(p:List It)(hp:PrSm p)(hn:zB2 p=[])(x:It)(hx:x∈p)(h3:x.kind=3)(Td:(p.map It.nd).sum<=30000)(S:ASt)(n:Nat):ADet Tryz.prog 34 [.fn (.func 35) [] [.ptr 0 7 0,.ptr 0 9 0]] (lvC p n x::S) (.p (.sl 2 ((tgF p x).toList.map fltE))) (set2 (lvC p n x::S) 0 8 (fnT p (tgSs p x.fields x.body).1)):=by
 have Za:=zHG hn
 obtain⟨hG,Sm⟩:=zYe hn hx h3
 have hb:=zS5 p x hx
 have bf:=zYh x
 have key:∀N,zM Tryz.prog 35 [.ptr 1 7 0,.ptr 1 9 0] (N::lvC p n x::S) (resS (tgF p x)) (N::set2 (lvC p n x::S) 0 8 (fnT p (tgSs p x.fields x.body).1)):=fun N=>by
  have:=zYg p hp Za x (hp.2 x hx) hG Sm (by omega) (N::lvC p n x::S) 1 7 8 9 rfl rfl rfl (by decide) (by decide)
  rw[zA5]at this;exact this
 cases hr:tgF p x with
 |some f=>
  rw[hr]at key
  exact zKr _ _ (lvC p n x::S) _ (.thr (fltW f)) _ ⟨f,rfl,rfl⟩ key
 |none=>
  rw[hr]at key;exact ADet.less (.p (.nil 2)) (zKr _ _ (lvC p n x::S) _ (.ret .un) nilS rfl key)
theorem zOc(p:List It)(hp:PrSm p)(Td:(p.map It.nd).sum<=30000)(S:ASt):ADet Tryz.prog 10 [.agg [.p (prog p)]] S (.p (.sl 2 ((zDU p).map fltE))) S:=by
 have Gd:wkL [boxP p] [boxP p]:=⟨⟨rfl,zh _⟩,trivial⟩
 have Im:p.length<=20000:=hp.1
 have Cl:p.length<=maxLen:=by unfold maxLen;omega
 cases hw:zAc p with
 |false=>
  have Be:zB2 p=[(2,0)]:=by unfold zB2;rw[if_neg (by rw[hw];simp)]
  have hg:zDU p=[(2,0)]:=by unfold zDU;rw[if_neg (by rw[Be];simp)]
  have nC:=fun R=>zYC p hp hw [boxP p] Gd R
  rw[Be]at nC;rw[hg];refine ADet.intro mixed call10 func10 rfl ?_;simp[ntmps10];refine cq (nC _) ?_
  simp[fltE]
 |true=>
  have nC:=fun R=>zYB p hp Td hw [boxP p] Gd R
  cases hn:zB2 p with
  |cons f l=>
   have hg:zDU p=[(2,0)]:=by unfold zDU;rw[if_neg (by rw[hn];simp)]
   have vd:(0:Int)<(l.length:Int)+1:=by omega
   rw[hn]at nC;rw[hg];refine ADet.intro mixed call10 func10 rfl ?_;simp[ntmps10];refine cq (nC _) ?_
   simp[fltE,vd]
  |nil=>
   rw[hn]at nC
   obtain⟨fs,ht,jd⟩:=zQC hw
   have tC:=fun S=>zZ4 p 300 hp fs ht (by omega) S
   cases fs with
   |cons f l=>
    have hg:zDU p=[(2,0)]:=by unfold zDU;rw[if_neg (by rw[ht];simp)]
    have vd:(0:Int)<(l.length:Int)+1:=by omega
    rw[hg];refine ADet.intro mixed call10 func10 rfl ?_;simp[ntmps10];refine cq (nC _) ?_;simp;refine cq (tC _) ?_
    simp[fltE,vd]
   |nil=>
    have nC:∀R,ADet Tryz.prog 32 [.agg [.p (prog p)]] ([boxP p]::R) (.rsl 0 5 0 2) ([boxP p,.dead,.dead,.dead,.dead,.dead]::R):=fun R=>
     ADet.after (S':=([boxP p,.dead,.dead,.dead,.dead,rwO []]::R)) ⟨⟨⟨rfl,zh _⟩,trivial⟩,rfl⟩ (nC R)
    have hg:zDU p=tgQ p p.length:=by
     unfold zDU tgQ;rw[if_pos ⟨hn,ht⟩,List.take_length];rfl
    rw[hg];refine ADet.intro mixed call10 func10 rfl ?_;simp[ntmps10];refine cq (nC _) ?_;simp;refine cq (tC _) ?_;simp[prog];refine zBA 32 2 (by decide) [boxP p,.dead,.dead,.dead,.dead,.dead] (fun q:Nat=>q<=p.length) (fun q=>([.any,.ptr 0 0 0,.any,.osl 2 ((tgQ p q).map fltE) 0 6]++(List.replicate 16 .any++([.p (.sl 16 (p.map It.enc)),I p.length,I q]++List.replicate 17 .any)))) (fun q=>[boxP p,.dead,.dead,.dead,.dead,.dead,.tok 32 2 (tgQ p q).length]::S) (fun q=>p.length-q) 0 (Nat.zero_le _) ?_ ?_ ?_ ?_
    .simp[tgQ,prog]
    .simp[tgQ,prog]
    .rfl
    intro q hq
    have mn:=zYi p q
    by_cases hlt:q<p.length
    .have aa:(q:Int)<(p.length:Int):=by omega
     have tg:=zB hlt
     have Vi:=zVl p q hlt
     have Gm:=List.getElem_mem hlt
     have va:(tgQ p q).length+1<=4294967296:=by omega
     have bf:(tgQ p q).length<=4294967296:=by omega
     generalize he:p[q]=x at*
     by_cases h3:x.kind=3
     .have fC:=zYj p hp hn x Gm h3 Td S (tgQ p q).length
      rw[zWK,if_pos h3]at Vi;simp only[lvC,fnT,zF2,List.set_cons_succ,List.set_cons_zero,boxP,prog]at fC;simp[hlt,aa,he,It.enc,h3,prog];simp only[itU,h3]at fC;refine cq fC ?_
      cases hr:tgF p x with
      |none=>
       rw[hr]at Vi;simp[bf]
       exact⟨q+1,by omega,by omega,⟨by rw[Vi];simp,tg⟩,by rw[Vi];simp[prog]⟩
      |some f=>
       rw[hr]at Vi;simp[va];exact⟨q+1,by omega,by omega,⟨by rw[Vi];simp,tg⟩,by rw[Vi];simp[prog]⟩
     have Fb:(x.kind !=3)=true:=by simpa using h3
     rw[zWK,if_neg h3]at Vi;simp[hlt,aa,he,It.enc,Fb,h3,prog];exact⟨q+1,by omega,by omega,⟨by rw[Vi];simp,tg⟩,by rw[Vi];simp[prog]⟩
    have aa:¬(q:Int)<(p.length:Int):=by omega
    obtain rfl:q=p.length:=by omega
    simp[aa]
def inA:BA:=(⟨#[115,116,114,117,99,116,32,83,32,123,32,97,58,32,105,110,116,44,32,98,58,32,66,111,120,60,105,110,116,62,32,125,32,102,110,32,102,40,120,58,32,83,44,32,114,58,32,38,83,44,32,109,58,32,38,109,117,116,32,83,44,32,99,58,32,67,101,108,108,60,105,110,116,62,41,32,45,62,32,105,110,116,32,123,32]⟩:BA)
def inZ:BA:=(⟨#[32,48,32,125,32,102,110,32,109,97,105,110,40,41,32,45,62,32,105,110,116,32,123,32,48,32,125]⟩:BA)
def inB(s:BA):BA:=inA++s++inZ
theorem inC(s:BA)(hs:s.size<=1000)(S:ASt):ADet Tryz.prog 26 [Sg s] S (Sg (inB s)) S:=by
 refine ADet.intro mixed call26 func26 rfl ?_
 have a1:inA.size<=1000:=by decide+kernel
 have a2:inZ.size<=1000:=by decide+kernel
 have h1:inA.size+s.size<=maxLen:=by unfold maxLen;omega
 have h2:inA.size+s.size+inZ.size<=maxLen:=by unfold maxLen;omega
 unfold inA at h1;unfold inA inZ at h2;simp[ntmps26,inB,inA,inZ,h1,h2]
def errQ(p:List It):Int:=match zB2 p,zDM p 300 with
 | [],some []=>(match tgC p with| []=>0|f::_=>f.1)
 |_,_=>2
theorem zYk(p:List It):errQ p=match zDU p with| []=>0|f::_=>f.1:=by
 unfold errQ zDU;split
 .rename_i h1 h2
  rw[if_pos ⟨h1,h2⟩]
 rename_i h
 rw[if_neg fun hh=>h hh.1 hh.2]
theorem za3(n:Nat)(hn:n<=100000)(s:BA)(p:List It)(h:zIq n s=some p)(hg:great p=false)(hd:zFu p<=40)(S:ASt):ADet Tryz.prog 25 [Sg s] S (I (errQ p)) S:=by
 rw[zYk]
 have pC:=fun S=>ADet.lessTup (l':=[.agg [.p (prog p)],.p (.sl 2 [])]) (.cons (.refl _) (.cons (.p (.nil 2)) (.refl _))) (zSu n hn s p h (zRp hg) hd S)
 have cC:=fun S=>zOc p (zRp hg) (Nat.le_trans (zZn hg) (by omega)) S
 refine ADet.intro mixed call25 func25 rfl ?_;simp[ntmps25];refine cq (pC _) ?_;simp;refine cq (cC _) ?_
 cases zDU p with
 |nil=>simp
 |cons f l=>
  have hn0:¬(l.length:Int)+1=0:=by omega
  have kd:((l.length:Int)+1==0)=false:=by simpa using hn0
  simp[hn0,kd,fltE]
def pr10(s:BA):List It:=(zIq 90 s).getD []
def ok10(s:BA)(e:Int):Bool:=(zIq 90 s).isSome&&(!(great (pr10 s))&&(decide (zFu (pr10 s)<=40)&&decide (errQ (pr10 s)=e)))
theorem zCm{s:BA}{e:Int}(h:ok10 s e=true)(S:ASt):ADet Tryz.prog 25 [Sg s] S (I e) S:=by
 unfold ok10 at h;simp only[Bool.and_eq_true,Bool.not_eq_true',decide_eq_true_eq]at h
 obtain⟨h1,h2,h3,h4⟩:=h
 have hp:zIq 90 s=some (pr10 s):=by
  unfold pr10
  cases hq:zIq 90 s with
  |none=>rw[hq]at h1;cases h1
  |some p=>rfl
 rw[<-h4];exact za3 90 (by omega) s _ hp h2 h3 S
def tx0:BA:=(⟨#[108,101,116,32,121,32,61,32,120,46,97,32,43,32,49,59]⟩:BA)
theorem ax0:ok10 (inB tx0) 0=true:=by kernel_rfl
def tx1:BA:=(⟨#[108,101,116,32,121,32,61,32,120,46,98,59]⟩:BA)
theorem ax1:ok10 (inB tx1) 102=true:=by kernel_rfl
def tx2:BA:=(⟨#[108,101,116,32,121,32,61,32,120,59,32,108,101,116,32,122,32,61,32,114,59]⟩:BA)
theorem ax2:ok10 (inB tx2) 0=true:=by kernel_rfl
def tx3:BA:=(⟨#[108,101,116,32,121,32,61,32,38,109,117,116,32,114,46,42,46,97,59]⟩:BA)
theorem ax3:ok10 (inB tx3) 100=true:=by kernel_rfl
def tx4:BA:=(⟨#[108,101,116,32,121,32,61,32,38,109,117,116,32,109,46,42,46,97,59,32,108,101,116,32,122,32,61,32,38,120,46,98,46,42,59]⟩:BA)
theorem ax4:ok10 (inB tx4) 0=true:=by kernel_rfl
def tx5:BA:=(⟨#[108,101,116,32,121,32,61,32,98,111,120,40,114,41,59]⟩:BA)
theorem ax5:ok10 (inB tx5) 101=true:=by kernel_rfl
def tx6:BA:=(⟨#[108,101,116,32,121,32,61,32,99,101,108,108,40,120,41,59]⟩:BA)
theorem ax6:ok10 (inB tx6) 100=true:=by kernel_rfl
def tx7:BA:=(⟨#[105,102,32,103,101,116,40,99,41,32,61,61,32,49,32,123,32,125]⟩:BA)
theorem ax7:ok10 (inB tx7) 0=true:=by kernel_rfl
def tx8:BA:=(⟨#[108,101,116,32,121,32,61,32,110,111,116,32,49,59]⟩:BA)
theorem ax8:ok10 (inB tx8) 100=true:=by kernel_rfl
def tx9:BA:=(⟨#[114,46,42,46,97,32,61,32,49,59]⟩:BA)
theorem ax9:ok10 (inB tx9) 100=true:=by kernel_rfl
def tx10:BA:=(⟨#[109,46,42,46,97,32,61,32,49,59]⟩:BA)
theorem ax10:ok10 (inB tx10) 0=true:=by kernel_rfl
def tx11:BA:=(⟨#[114,32,61,32,114,59]⟩:BA)
theorem ax11:ok10 (inB tx11) 101=true:=by kernel_rfl
def tx12:BA:=(⟨#[102,110,32,109,97,105,110,40,41,32,45,62,32,105,110,116,32,123,32,120,32,125]⟩:BA)
theorem ax12:ok10 tx12 2=true:=by kernel_rfl
theorem zKt(S:ASt):ADet Tryz.prog 8 [] S (B true) S:=by
 have i0:=fun S=>inC tx0 (by decide+kernel) S
 have c0:=fun S=>zCm ax0 S
 unfold tx0 at i0 c0
 generalize inB _=b0 at i0 c0
 have i1:=fun S=>inC tx1 (by decide+kernel) S
 have c1:=fun S=>zCm ax1 S
 unfold tx1 at i1 c1
 generalize inB _=b1 at i1 c1
 have i2:=fun S=>inC tx2 (by decide+kernel) S
 have c2:=fun S=>zCm ax2 S
 unfold tx2 at i2 c2
 generalize inB _=b2 at i2 c2
 have i3:=fun S=>inC tx3 (by decide+kernel) S
 have c3:=fun S=>zCm ax3 S
 unfold tx3 at i3 c3
 generalize inB _=b3 at i3 c3
 have i4:=fun S=>inC tx4 (by decide+kernel) S
 have c4:=fun S=>zCm ax4 S
 unfold tx4 at i4 c4
 generalize inB _=b4 at i4 c4
 have i5:=fun S=>inC tx5 (by decide+kernel) S
 have c5:=fun S=>zCm ax5 S
 unfold tx5 at i5 c5
 generalize inB _=b5 at i5 c5
 have i6:=fun S=>inC tx6 (by decide+kernel) S
 have c6:=fun S=>zCm ax6 S
 unfold tx6 at i6 c6
 generalize inB _=b6 at i6 c6
 have i7:=fun S=>inC tx7 (by decide+kernel) S
 have c7:=fun S=>zCm ax7 S
 unfold tx7 at i7 c7
 generalize inB _=b7 at i7 c7
 have i8:=fun S=>inC tx8 (by decide+kernel) S
 have c8:=fun S=>zCm ax8 S
 unfold tx8 at i8 c8
 generalize inB _=b8 at i8 c8
 have i9:=fun S=>inC tx9 (by decide+kernel) S
 have c9:=fun S=>zCm ax9 S
 unfold tx9 at i9 c9
 generalize inB _=b9 at i9 c9
 have pq:=fun S=>inC tx10 (by decide+kernel) S
 have qq:=fun S=>zCm ax10 S
 unfold tx10 at pq qq
 generalize inB _=mr at pq qq
 have rq:=fun S=>inC tx11 (by decide+kernel) S
 have sq:=fun S=>zCm ax11 S
 unfold tx11 at rq sq
 generalize inB _=nr at rq sq
 have Er:=fun S=>zCm ax12 S
 unfold tx12 at Er;refine ADet.intro mixed call8 func8 rfl ?_;simp[ntmps8];refine cq (i0 _) ?_;simp;refine cq (c0 _) ?_;simp;refine cq (i1 _) ?_;simp;refine cq (c1 _) ?_;simp;refine cq (i2 _) ?_;simp;refine cq (c2 _) ?_;simp;refine cq (i3 _) ?_;simp;refine cq (c3 _) ?_;simp;refine cq (i4 _) ?_;simp;refine cq (c4 _) ?_;simp;refine cq (i5 _) ?_;simp;refine cq (c5 _) ?_;simp;refine cq (i6 _) ?_;simp;refine cq (c6 _) ?_;simp;refine cq (i7 _) ?_;simp;refine cq (c7 _) ?_;simp;refine cq (i8 _) ?_;simp;refine cq (c8 _) ?_;simp;refine cq (i9 _) ?_;simp;refine cq (c9 _) ?_;simp;refine cq (pq _) ?_;simp;refine cq (qq _) ?_;simp;refine cq (rq _) ?_;simp;refine cq (sq _) ?_;simp;refine cq (Er _) ?_;simp
def zNN(env:List Fi):Int:=zE Fi.room env 20000
def zI4(env:List Fi)(e:Ex):Bool:=decide (100<env.length)||(decide (e.room 20000<0)||decide (zNN env<0))
theorem zI5{env:List Fi}{e:Ex}(h:zI4 env e=false):ExSm e/\zMb env/\env.length<=100:=by
 unfold zI4 zNN at h;simp only[Bool.or_eq_false_iff,decide_eq_false_iff_not]at h;exact⟨zXR e 20000 (by omega) (by omega) (by omega),zVy (n:=20000) (by omega) (by omega) (by omega),by omega⟩
theorem zNO(env:List Fi)(e:Ex)(S:ASt):ADet Tryz.prog 17 [.p (.sl 4 (env.map Fi.enc)),exV e] S (B (zI4 env e)) S:=by
 refine ADet.okP call17 0 rfl fun na=>?_
 have ca:=okl na
 have gC:=fun S=>zP2 e S
 unfold zI4;refine ADet.intro mixed call17 func17 rfl ?_
 by_cases h1:100<env.length
 .have Nc:(100:Int)<(env.length:Int):=by omega
  simp[ntmps17,h1,Nc]
 have Nc:¬(100:Int)<(env.length:Int):=by omega
 simp[ntmps17,h1,Nc];refine cq (gC _) ?_
 by_cases h2:e.room 20000<0
 .simp[h2]
 have fC:=fun L0 (S:ASt)=>zRk env ([L0,rm 20000]::S) 0 1 20000 rfl (by omega) (by omega)
 simp only[rm]at fC;simp[h2];refine cq (fC _ _) ?_;simp[zNN]
 try rfl
theorem zME(t:Ty)(h:TySm t)(S:ASt):ADet Tryz.prog 20 [tyV t] S (B (t.whole 40&&t.stands)) S:=by
 have wC:=fun S=>zIO t h S
 refine ADet.intro mixed call20 func20 rfl ?_;simp[ntmps20];refine cq (wC _) ?_
 cases hw:t.whole 40 with
 |false=>simp
 |true=>
  simp;refine cq (zIS t _) ?_;simp
theorem zQD{p:List It}(h:zDU p=[]):zB2 p=[]/\zDM p 300=some []/\tgC p=[]:=by
 unfold zDU at h;split at h
 .rename_i hc
  exact⟨hc.1,hc.2,h⟩
 cases h
theorem zQE{p:List It}{env:List Fi}{e:Ex}{t:Ty}(h:zEM p env e=some t):tyE p env e= .ok t:=by
 unfold zEM at h;split at h
 .split at h
  .rename_i u hu
   cases h;exact hu
  cases h
 cases h
theorem zMF(p:List It)(env:List Fi)(e:Ex)(S:ASt):ADet Tryz.prog 6 [.agg [.p (prog p)],.p (.sl 4 (env.map Fi.enc)),exV e] S (B true) S:=by
 have aC:=zKt
 have gC:=fun S=>zRl S p
 have lC:=fun S=>zNO env e S
 refine ADet.okP call6 1 rfl fun na=>?_
 have ca:=okl na
 refine ADet.intro mixed call6 func6 rfl ?_;simp[ntmps6];refine cq (aC _) ?_;simp;refine cq (gC _) ?_
 cases hg:great p with
 |true=>simp
 |false=>
 simp;refine cq (lC _) ?_
 cases Zk:zI4 env e with
 |true=>simp
 |false=>
 obtain⟨Rc,Gb,Ub⟩:=zI5 Zk
 have hp:=zRp hg
 have he:zAg env:=fun f hf=>(Gb.2 f hf).2
 have cC:=fun S=>zOc p hp (Nat.le_trans (zZn hg) (by omega)) S
 have xC:=fun S=>zI3 p hp env he (by omega) e Rc S
 simp;refine cq (cC _) ?_
 cases Be:zDU p with
 |cons f l=>
  have vd:(0:Int)<(l.length:Int)+1:=by omega
  simp[vd]
 |nil=>
 obtain⟨_,Uu,_⟩:=zQD Be
 simp;refine zF (fun q:Nat=>q<=env.length/\∀k (hk:k<env.length),k<q->(env[k].type.whole 40&&env[k].type.stands)=true) (fun q=>([.any,.p (.sl 4 (env.map Fi.enc)),.any,.ptr 0 0 0,.any,.ptr 0 1 0,.any,I q]++List.replicate 73 .any)) (fun q=>[.cells [.p (prog p)] 24,.cells [U e.op,I e.int,Sg e.name,Sg e.u2,Sg e.place.name,.p (strs e.place.path),.p (.sl 8 (e.args.map Ex.enc)),I e.pos] 43]::S) (fun q=>env.length-q) 0 ⟨Nat.zero_le _,fun k hk h=>by omega⟩ ?_ ?_ ?_
 .simp
 .simp
 rintro q ⟨hq,ia⟩
 by_cases hlt:q<env.length
 .have aa:(q:Int)<(env.length:Int):=by omega
  have hw:=zB hlt
  have sC:=fun S=>zME env[q].type (he _ (List.getElem_mem hlt)) S
  have Pa:(env[q].type.whole 40&&env[q].type.stands)=true->∀k (hk:k<env.length),k<q+1->(env[k].type.whole 40&&env[k].type.stands)=true:=fun h0 k hk Gr=>by
   by_cases jg:k=q
   .subst jg;exact h0
   exact ia k hk (by omega)
  generalize hf:env[q]=f at*
  generalize hb:(f.type.whole 40&&f.type.stands)=b at*
  simp[hlt,aa,hf,Fi.enc,zc];refine cq (sC _) ?_
  cases b with
  |false=>simp
  |true=>
   simp;exact⟨q+1,⟨by omega,fun k hk Gr=>by simpa using Pa rfl k hk Gr⟩,by omega,hw⟩
 have aa:¬(q:Int)<(env.length:Int):=by omega
 simp[aa];refine cq (xC _) ?_
 cases hx:zEM p env e with
 |none=>simp[payT]
 |some t=>
  have Kb:=zQE hx
  have pa:=zWI hp he e Rc t Kb
  obtain⟨k1,k2⟩:=zJi Uu (fun f hf=>by
   obtain⟨i,hi,rfl⟩:=List.getElem_of_mem hf
   have:=ia i hi (by omega)
   simp only[Bool.and_eq_true]at this;exact this.2) e t Kb
  have sC:=fun S=>zME t pa S
  have wC:=fun S=>zIO t pa S
  have oC:=fun S=>zHe t S
  rw[k1,Bool.and_true]at sC
  by_cases h4:e.op=4
  .simp[payT,h4]
   refine cq (sC _) ?_
   cases hw40:t.whole 40 with
   |true=>simp
   |false=>
    simp;refine cq (wC _) ?_;simp[hw40]
  have e4:(e.op==4)=false:=by simpa using h4
  by_cases h5:e.op=5
  .simp[payT,h5]
   refine cq (sC _) ?_
   cases hw40:t.whole 40 with
   |true=>simp
   |false=>
    simp;refine cq (wC _) ?_;simp[hw40]
  have e5:(e.op==5)=false:=by simpa using h5
  by_cases h6:e.op=6
  .simp[payT,h6]
   refine cq (sC _) ?_
   cases hw40:t.whole 40 with
   |true=>simp
   |false=>
    simp;refine cq (wC _) ?_;simp[hw40]
  have e6:(e.op==6)=false:=by simpa using h6
  rw[k2 h4 h5 h6]at oC;simp[payT,e4,e5,e6];refine cq (oC _) ?_;simp;refine cq (sC _) ?_
  cases hw40:t.whole 40 with
  |true=>simp
  |false=>
   simp;refine cq (wC _) ?_;simp[hw40]
end Go.Proofs.YtdflkegnmmkkoaaGreatDoor
