/- A part of the proof. -/
import Derived.Test.YtdflkegnmmkkoaaGreatDoorWNAr
import Derived.Test.YtdflkegnmmkkoaaGreatDoorWNQi
set_option linter.unusedVariables false
set_option linter.unusedSimpArgs false
set_option maxRecDepth 100000
set_option maxHeartbeats 32000000
namespace Go.Proofs.YtdflkegnmmkkoaaGreatDoor
open Go.RowKit _root_.Go.Proofs.Tryz
mutual
def St.deep:St->Nat
 | .mk op _ _ _ ty _ _ es b el ar _=>max (max (if op=12 then ty.deep else 0) (mxL (es.map Ex.deep))) (max (St.deeps b) (max (St.deeps el) (Ar.deeps ar)))+1
def St.deeps:List St->Nat
 | []=>0
 |s::l=>max s.deep (St.deeps l)
def Ar.deeps:List (ArOf St)->Nat
 | []=>0
 |⟨_,_,b⟩::l=>max (St.deeps b) (Ar.deeps l)
end
def St.kids(s:St):List St:=s.body++(s.els++s.arms.flatMap fun a=>a.body)
theorem zGj(a b:List Nat):mxL (a++b)=max (mxL a) (mxL b):=by
 induction a with
 |nil=>show mxL b=max 0 (mxL b);omega
 |cons x a ih=>
  have e:∀l,mxL (x::l)=max x (mxL l):=fun l=>rfl
  rw[List.cons_append,e,e,ih];omega
theorem zNA(l:List St):St.deeps l=mxL (l.map St.deep):=by
 induction l with
 |nil=>rfl
 |cons t l ih=>rw[St.deeps,ih];rfl
theorem zYa(l:List Ar):Ar.deeps l=mxL ((l.flatMap fun a=>a.body).map St.deep):=by
 induction l with
 |nil=>rfl
 |cons t l ih=>obtain⟨v,nm,b⟩:=t;rw[Ar.deeps,ih,List.flatMap_cons,List.map_append,zGj,zNA]
theorem za0(s:St):s.deep=max (max (if s.op=12 then s.type.deep else 0) (mxL (s.u3.map Ex.deep))) (mxL (s.kids.map St.deep))+1:=by
 cases s;rw[St.deep,zNA,zNA,zYa];unfold St.kids;rw[List.map_append,List.map_append,zGj,zGj];rfl
def It.deep(x:It):Nat:=max (max (max x.result.deep x.ret.deep) (mxL (x.fields.map fun f=>f.type.deep))) (mxL (x.body.map St.deep))+1
def zFh(p:List It):Nat:=mxL (p.map It.deep)+1
attribute [local simp] List.replicate List.range List.range.loop List.forall_mem_cons List.contains_cons List.contains_nil List.find?
theorem zS0(s:St)(a0 a1:AObj)(S:ASt):ADet Tryz.prog 205 [.agg (stU s)] ([a0,a1]::S) (.fn (.func 226) [] [.ptr 0 2 0]) ([a0,a1,.cells (stU s) 49]::S):=by
 refine ADet.flat mixed call205 func205 rfl ?_;simp[ntmps205]
def zGF{α:Type}(f:St->α->α)(l:List St)(a:α):α:=l.foldl (fun a x=>f x a) a
theorem zP4{α:Type}(f:St->α->α)(x:St)(l:List St)(a:α):zGF f (x::l) a=zGF f l (f x a):=rfl
theorem zOT(s:St)(h1:s.body.length<=20000)(h2:s.els.length<=20000)(h3:s.arms.length<=20000)(h4:∀a∈s.arms,a.body.length<=20000){α:Type}(f:St->α->α)(G:α->ASt)(i:Nat)(hq:∀a,get2 (G a) 0 i=some (.cells (stU s) 49))(lp:Nat)(R:Option Code->List AObj)
  (hY:∀(L:List AObj) (x:St) (a:α),x∈s.kids->YDet Tryz.prog lp [.agg (stU x)] (L::R none::G a) (B true) (L::R none::G (f x a))) (a:α):
  ADet Tryz.prog 226 [.fn (.yield lp) [] [],.ptr 1 i 0] (R none::G a) .un (R none::G (zGF f s.kids a)):=by
 refine ADet.introQ mixed call226 func226 rfl (by kernel_rfl) ?_
 simp[ntmps226,hq]
 obtain⟨z,Rb⟩:∃z,zGF f s.kids a=z:=⟨_,rfl⟩
 rw[Rb]
 have Nn:∀x∈s.body,x∈s.kids:=fun x hx=>List.mem_append_left _ hx
 have qj:∀x∈s.els,x∈s.kids:=fun x hx=>List.mem_append_right _ (List.mem_append_left _ hx)
 have Gu:∀c∈s.arms,∀x∈c.body,x∈s.kids:=fun c hc x hx=>List.mem_append_right _ (List.mem_append_right _ (List.mem_flatMap.2 ⟨c,hc,hx⟩))
 have Hu:s.kids=s.body++(s.els++s.arms.flatMap fun a=>a.body):=rfl
 rw[Hu]at Rb
 obtain⟨ar,ee⟩:∃ar,s.arms.flatMap (fun a=>a.body)=ar:=⟨_,rfl⟩
 rw[ee]at Rb;refine zC2 (fun y:Nat × α=>y.1=0/\zGF f (s.body++(s.els++ar)) y.2=z\/y.1=1/\zGF f (s.els++ar) y.2=z\/y.1=2/\zGF f ar y.2=z) (fun y=>([.fn (.yield lp) [] [],.ptr 2 i 0]++(List.replicate 13 .any++([.osl 1 [[.sl 15 (s.body.map St.enc)],[.sl 15 (s.els.map St.enc)]] 0 0,I 2,I y.1]++List.replicate 35 .any)))) (fun y=>[.tok 37 1 2]::R none::G y.2) (fun y=>2-y.1) (0,a) (.inl ⟨rfl,Rb⟩) ?_ ?_ ?_
 .simp
 .simp
 rintro⟨m,b⟩ hI
 simp only at hI
 rcases hI with⟨rfl,hI⟩|⟨rfl,hI⟩|⟨rfl,hI⟩
 .simp
  refine zC2 (fun y:Nat × α=>y.1<=s.body.length/\zGF f (s.body.drop y.1++(s.els++ar)) y.2=z) (fun y=>([.fn (.yield lp) [] [],.ptr 2 i 0]++(List.replicate 13 .any++([.osl 1 [[.sl 15 (s.body.map St.enc)],[.sl 15 (s.els.map St.enc)]] 0 0,I 2,I 0,.any,.any,.any,.p (.sl 15 (s.body.map St.enc)),I s.body.length,I y.1]++List.replicate 29 .any)))) (fun y=>[.tok 37 1 2]::R none::G y.2) (fun y=>s.body.length-y.1) (0,b) ⟨Nat.zero_le _,hI⟩ ?_ ?_ ?_
  .simp
  .simp
  rintro⟨q,c⟩ ⟨hq,hF⟩
  simp only at hq hF
  by_cases hlt:q<s.body.length
  .have aa:(q:Int)<(s.body.length:Int):=by omega
   have hw:=zA hlt (by unfold maxLen;omega)
   have hd:s.body.drop q=s.body[q]::s.body.drop (q+1):=List.drop_eq_getElem_cons hlt
   rw[hd]at hF
   have y:=fun L=>hY L s.body[q] c (Nn _ (List.getElem_mem hlt))
   generalize he:s.body[q]=x at*
   simp[hlt,aa,he,zCR];refine cq (y _) ?_;simp;exact⟨q+1,f x c,⟨hlt,hF⟩,by omega,by simp[hw]⟩
  have aa:¬(q:Int)<(s.body.length:Int):=by omega
  rw[List.drop_of_length_le (by omega)]at hF
  simp[aa];exact⟨1,c,.inr (.inl ⟨rfl,hF⟩),by omega,by simp;decide⟩
 .simp
  refine zC2 (fun y:Nat × α=>y.1<=s.els.length/\zGF f (s.els.drop y.1++ar) y.2=z) (fun y=>([.fn (.yield lp) [] [],.ptr 2 i 0]++(List.replicate 13 .any++([.osl 1 [[.sl 15 (s.body.map St.enc)],[.sl 15 (s.els.map St.enc)]] 0 0,I 2,I 1,.any,.any,.any,.p (.sl 15 (s.els.map St.enc)),I s.els.length,I y.1]++List.replicate 29 .any)))) (fun y=>[.tok 37 1 2]::R none::G y.2) (fun y=>s.els.length-y.1) (0,b) ⟨Nat.zero_le _,hI⟩ ?_ ?_ ?_
  .simp
  .simp
  rintro⟨q,c⟩ ⟨hq,hF⟩
  simp only at hq hF
  by_cases hlt:q<s.els.length
  .have aa:(q:Int)<(s.els.length:Int):=by omega
   have hw:=zA hlt (by unfold maxLen;omega)
   have hd:s.els.drop q=s.els[q]::s.els.drop (q+1):=List.drop_eq_getElem_cons hlt
   rw[hd]at hF
   have y:=fun L=>hY L s.els[q] c (qj _ (List.getElem_mem hlt))
   generalize he:s.els[q]=x at*
   simp[hlt,aa,he,zCR];refine cq (y _) ?_;simp;exact⟨q+1,f x c,⟨hlt,hF⟩,by omega,by simp[hw]⟩
  have aa:¬(q:Int)<(s.els.length:Int):=by omega
  rw[List.drop_of_length_le (by omega)]at hF
  simp[aa];exact⟨2,c,.inr (.inr ⟨rfl,hF⟩),by omega,by simp;decide⟩
 simp[hq]
 refine zC2 (fun y:Nat × α=>y.1<=s.arms.length/\zGF f ((s.arms.drop y.1).flatMap fun a=>a.body) y.2=z) (fun y=>([.fn (.yield lp) [] [],.ptr 2 i 0]++(List.replicate 32 .any++([.p (.sl 3 (s.arms.map Ar.enc)),I s.arms.length,I y.1]++List.replicate 16 .any)))) (fun y=>[.tok 37 1 2]::R none::G y.2) (fun y=>s.arms.length-y.1) (0,b) ⟨Nat.zero_le _,by rw[List.drop_zero,ee];exact hI⟩ ?_ ?_ ?_
 .simp
 .simp
 rintro⟨q,c⟩ ⟨Rj,hF⟩
 simp only at Rj hF
 by_cases hlt:q<s.arms.length
 .have aa:(q:Int)<(s.arms.length:Int):=by omega
  have hw:=zA hlt (by unfold maxLen;omega)
  have hd:s.arms.drop q=s.arms[q]::s.arms.drop (q+1):=List.drop_eq_getElem_cons hlt
  rw[hd,List.flatMap_cons]at hF
  have hm:=Gu s.arms[q] (List.getElem_mem hlt)
  have db:=h4 s.arms[q] (List.getElem_mem hlt)
  generalize he:s.arms[q]=m at*
  simp[hlt,aa,he,Ar.enc];refine zC2 (fun y:Nat × α=>y.1<=m.body.length/\zGF f (m.body.drop y.1++(s.arms.drop (q+1)).flatMap fun a=>a.body) y.2=z) (fun y=>([.fn (.yield lp) [] [],.ptr 2 i 0]++(List.replicate 32 .any++[.p (.sl 3 (s.arms.map Ar.enc)),I s.arms.length,I q,.any,.any,.any,.any,.p (.sl 15 (m.body.map St.enc)),I m.body.length,I y.1,.any,.any,.any,.any,.any,.any,.any,.any,.any]))) (fun y=>[.tok 37 1 2,.cells [Sg m.variant,Sg m.name,.p (.sl 15 (m.body.map St.enc))] 94]::R none::G y.2) (fun y=>m.body.length-y.1) (0,c) ⟨Nat.zero_le _,hF⟩ ?_ ?_ ?_
  .simp
  .simp
  rintro⟨j,b'⟩ ⟨hj,hG⟩
  simp only at hj hG
  by_cases Pe:j<m.body.length
  .have Cg:(j:Int)<(m.body.length:Int):=by omega
   have Iu:=zA Pe (by unfold maxLen;omega)
   have Ju:m.body.drop j=m.body[j]::m.body.drop (j+1):=List.drop_eq_getElem_cons Pe
   rw[Ju]at hG
   have y:=fun L=>hY L m.body[j] b' (hm _ (List.getElem_mem Pe))
   generalize hx:m.body[j]=x at*
   simp[Pe,Cg,hx,zCR];refine cq (y _) ?_;simp;exact⟨j+1,f x b',⟨Pe,hG⟩,by omega,by simp[Iu]⟩
  have Cg:¬(j:Int)<(m.body.length:Int):=by omega
  rw[List.drop_of_length_le (by omega)]at hG
  simp[Cg];exact⟨q+1,b',⟨hlt,hG⟩,by omega,by simp[hw]⟩
 have aa:¬(q:Int)<(s.arms.length:Int):=by omega
 rw[List.drop_of_length_le (by omega)]at hF
 obtain rfl:c=z:=hF
 simp[aa]
def St.kidsOk(s:St):Prop:=s.body.length<=20000/\s.els.length<=20000/\s.arms.length<=20000/\∀a∈s.arms,a.body.length<=20000
theorem zYb{s:St}(h:StSm s):s.kidsOk/\s.u3.length<=20000/\∀x∈s.kids,StSm x:=by
 obtain⟨_,_,_,_,_,_,he,hb,hl,ha,k1,k2,k3,k4⟩:=h
 refine⟨⟨hb,hl,ha,fun a h=>(k3 a h).2.2⟩,he.1,fun x hx=>?_⟩
 unfold St.kids at hx;simp only[List.mem_append,List.mem_flatMap]at hx
 rcases hx with h|h|⟨a,h,hx⟩
 .exact k1 x h
 .exact k2 x h
 exact k4 a h x hx
theorem zLz(l:List St)(n:Nat):zGF (fun x n=>max n x.deep) l n=max n (mxL (l.map St.deep)):=by
 induction l generalizing n with
 |nil=>show n=max n 0;omega
 |cons x l ih=>
  rw[zP4,ih]
  have e:mxL ((x::l).map St.deep)=max x.deep (mxL (l.map St.deep)):=rfl
  rw[e];omega
theorem zS1:∀(s:St),StSm s->s.deep<=1000000->∀(S:ASt),ADet Tryz.prog 181 [.agg (stU s)] S (I s.deep) S:=by
 refine St.ind fun s i1 i2 i3 wa hd S=>?_
 obtain⟨⟨k1,k2,k3,k4⟩,k5,k6⟩:=zYb wa
 have ih:∀x∈s.kids,x.deep<=1000000->∀(S:ASt),ADet Tryz.prog 181 [.agg (stU x)] S (I x.deep) S:=fun x hx=>by
  have h:=k6 x hx
  unfold St.kids at hx;simp only[List.mem_append,List.mem_flatMap]at hx
  rcases hx with hx|hx|⟨a,ha,hx⟩
  .exact i1 x hx h
  .exact i2 x hx h
  exact i3 a ha x hx h
 clear i1 i2 i3
 have vl:=za0 s
 have Di:∀x∈s.kids,x.deep<=mxL (s.kids.map St.deep):=fun x hx=>zEm (List.mem_map_of_mem hx)
 refine ADet.introQ mixed call181 func181 rfl (by kernel_rfl) ?_
 obtain⟨n0,hn0⟩:∃n0,(if s.op=12 then s.type.deep else 0)=n0:=⟨_,rfl⟩
 have Ku:n0<=1000000:=by omega
 have Zj:=hn0
 by_cases xd:s.op=12
 .rw[if_pos xd]at hn0
  have tC:=fun S=>zIV s.type (by omega) S
  simp[ntmps181,xd];refine cq (tC _) ?_;simp[hn0];refine zC2 (fun y:Nat × Nat=>y.1<=s.u3.length/\y.2=max n0 (mxL ((s.u3.map Ex.deep).take y.1))) (fun y=>([.any,.ptr 0 0 0,.any,.ptr 0 1 0,.any,.any,.any,.any,.any,.any,.any,.any,.any,.any,.p (.sl 8 (s.u3.map Ex.enc)),I s.u3.length,I y.1]++List.replicate 17 .any)) (fun y=>[.cells (stU s) 49,.cells [I y.2] 3]::S) (fun y=>s.u3.length-y.1) (0,n0) ⟨Nat.zero_le _,by simp[mxL]⟩ ?_ ?_ ?_
  .simp
  .simp[xd]
  rintro⟨q,a⟩ ⟨hq,ha⟩
  simp only at hq ha
  by_cases hlt:q<s.u3.length
  .have aa:(q:Int)<(s.u3.length:Int):=by omega
   have hw:=zA hlt (by unfold maxLen;omega)
   have hT:=zEG Ex.deep s.u3 hlt
   have Pc:s.u3[q].deep<=mxL (s.u3.map Ex.deep):=zEm (List.mem_map_of_mem (List.getElem_mem hlt))
   generalize he:s.u3[q]=e at*
   have eC:=fun S=>zIW e (by omega) S
   obtain⟨a',Mp⟩:∃a':Nat,a'=max a e.deep:=⟨_,rfl⟩
   have xa:(if(a:Int)<(e.deep:Int)then(e.deep:Int)else(a:Int))=(a':Int):=by split<;>omega
   simp[hlt,aa,he,zg];refine zR6 (c:=.skip) (fun _ _ _=>trivial) (dB [(0,2)] (by kernel_rfl) ?_)
   simp;refine cq (eC _) ?_;simp[xa];exact⟨q+1,a',⟨hlt,by rw[Mp,ha,hT];omega⟩,by omega,hw,by split<;>omega⟩
  have aa:¬(q:Int)<(s.u3.length:Int):=by omega
  rw[List.take_of_length_le (by simp;omega)]at ha
  have aC:=fun a0 a1 S=>zS0 s a0 a1 S
  simp[aa];refine cq (aC _ _ _) ?_;simp;rw[awq];refine⟨226,[.ptr 0 2 0],rfl,rfl,rfl,none,[.cells (stU s) 49,.cells [I (zGF (fun x n=>max n x.deep) s.kids a:Nat)] 3,.cells (stU s) 49]::S,fun lp R hY=>ADet.less (.any .un) (zOT s k1 k2 k3 k4 (fun x n=>max n x.deep) (fun n:Nat=>[.cells (stU s) 49,.cells [I n] 3,.cells (stU s) 49]::S) 2 (fun _=>rfl) lp R (fun L x n hx=>?_) a),?_⟩
  .have xC:=fun S=>ih x hx (by have:=Di x hx;omega) S
   have xa:(if n<x.deep then(x.deep:Int)else(n:Int))=((max n x.deep:Nat):Int):=by split<;>omega
   generalize max n x.deep=n' at*
   refine hY L [.agg (stU x)] _ ([.cells (stU s) 49,.cells [I n] 3,.cells (stU s) 49]::S) none ([.cells (stU s) 49,.cells [I n'] 3,.cells (stU s) 49]::S) rfl ⟨rfl,by simp,?_⟩
   simp[zLZ,ROk];refine dB [(0,2)] (by kernel_rfl) ?_
   simp[ROk];refine cq (xC _) ?_;simp[ROk];exact xa
  rw[zLz]
  have hw:=zFE (a:=max a (mxL (s.kids.map St.deep))) (by omega)
  have Np:max a (mxL (s.kids.map St.deep))+1=s.deep:=by rw[vl,Zj];omega
  rw[Np]at hw
  generalize max a (mxL (s.kids.map St.deep))=m at*
  simp[JQ,hw]
 rw[if_neg xd]at hn0
 have rj:(s.op==12)=false:=by simpa using xd
 simp[ntmps181,rj];refine zC2 (fun y:Nat × Nat=>y.1<=s.u3.length/\y.2=max n0 (mxL ((s.u3.map Ex.deep).take y.1))) (fun y=>([.any,.ptr 0 0 0,.any,.ptr 0 1 0,.any,.any,.any,.any,.any,.any,.any,.any,.any,.any,.p (.sl 8 (s.u3.map Ex.enc)),I s.u3.length,I y.1]++List.replicate 17 .any)) (fun y=>[.cells (stU s) 49,.cells [I y.2] 3]::S) (fun y=>s.u3.length-y.1) (0,n0) ⟨Nat.zero_le _,by simp[mxL]⟩ ?_ ?_ ?_
 .simp
 .simp[<-hn0]
 rintro⟨q,a⟩ ⟨hq,ha⟩
 simp only at hq ha
 by_cases hlt:q<s.u3.length
 .have aa:(q:Int)<(s.u3.length:Int):=by omega
  have hw:=zA hlt (by unfold maxLen;omega)
  have hT:=zEG Ex.deep s.u3 hlt
  have Pc:s.u3[q].deep<=mxL (s.u3.map Ex.deep):=zEm (List.mem_map_of_mem (List.getElem_mem hlt))
  generalize he:s.u3[q]=e at*
  have eC:=fun S=>zIW e (by omega) S
  obtain⟨a',Mp⟩:∃a':Nat,a'=max a e.deep:=⟨_,rfl⟩
  have xa:(if(a:Int)<(e.deep:Int)then(e.deep:Int)else(a:Int))=(a':Int):=by split<;>omega
  simp[hlt,aa,he,zg];refine zR6 (c:=.skip) (fun _ _ _=>trivial) (dB [(0,2)] (by kernel_rfl) ?_)
  simp;refine cq (eC _) ?_;simp[xa];exact⟨q+1,a',⟨hlt,by rw[Mp,ha,hT];omega⟩,by omega,hw,by split<;>omega⟩
 have aa:¬(q:Int)<(s.u3.length:Int):=by omega
 rw[List.take_of_length_le (by simp;omega)]at ha
 have aC:=fun a0 a1 S=>zS0 s a0 a1 S
 simp[aa];refine cq (aC _ _ _) ?_;simp;rw[awq];refine⟨226,[.ptr 0 2 0],rfl,rfl,rfl,none,[.cells (stU s) 49,.cells [I (zGF (fun x n=>max n x.deep) s.kids a:Nat)] 3,.cells (stU s) 49]::S,fun lp R hY=>ADet.less (.any .un) (zOT s k1 k2 k3 k4 (fun x n=>max n x.deep) (fun n:Nat=>[.cells (stU s) 49,.cells [I n] 3,.cells (stU s) 49]::S) 2 (fun _=>rfl) lp R (fun L x n hx=>?_) a),?_⟩
 .have xC:=fun S=>ih x hx (by have:=Di x hx;omega) S
  have xa:(if n<x.deep then(x.deep:Int)else(n:Int))=((max n x.deep:Nat):Int):=by split<;>omega
  generalize max n x.deep=n' at*
  refine hY L [.agg (stU x)] _ ([.cells (stU s) 49,.cells [I n] 3,.cells (stU s) 49]::S) none ([.cells (stU s) 49,.cells [I n'] 3,.cells (stU s) 49]::S) rfl ⟨rfl,by simp,?_⟩
  simp[zLZ,ROk];refine dB [(0,2)] (by kernel_rfl) ?_
  simp[ROk];refine cq (xC _) ?_;simp[ROk];exact xa
 rw[zLz]
 have hw:=zFE (a:=max a (mxL (s.kids.map St.deep))) (by omega)
 have Np:max a (mxL (s.kids.map St.deep))+1=s.deep:=by rw[vl,Zj];omega
 rw[Np]at hw
 generalize max a (mxL (s.kids.map St.deep))=m at*
 simp[JQ,hw]
theorem zP5(x:It)(wa:ItSm x)(hd:x.deep<=1000000)(S:ASt):ADet Tryz.prog 144 [itV x] S (I x.deep) S:=by
 have ca:=wa.2.1.1
 have Ir:=wa.2.2.2.1.1
 have Pp:=wa.2.2.2.1.2
 obtain⟨D,hD⟩:∃D,x.deep=D:=⟨_,rfl⟩
 rw[hD]at hd ⊢;unfold It.deep at hD
 obtain⟨m0,An⟩:∃m0,m0=max x.result.deep x.ret.deep:=⟨_,rfl⟩
 rw[<-An]at hD
 have hT:=fun S=>zIV x.result (by omega) S
 have hX:=fun S=>zIW x.ret (by omega) S
 have xa:(if x.result.deep<x.ret.deep then(x.ret.deep:Int)else(x.result.deep:Int))=(m0:Int):=by split<;>omega
 refine ADet.intro mixed call144 func144 rfl ?_;simp[ntmps144];refine dB [(4,2)] (by kernel_rfl) ?_
 simp;refine cq (hT _) ?_;simp;refine cq (hX _) ?_;simp[xa];refine zH (fun q:Nat=>q<=x.fields.length) (fun q=>([.any,.ptr 0 0 0,.any,I (max m0 (mxL ((x.fields.map fun f=>f.type.deep).take q)):Nat)]++(List.replicate 12 .any++([.p (.sl 4 (x.fields.map Fi.enc)),I x.fields.length,I q]++List.replicate 23 .any)))) (fun q=>[.cells (itU x) 45]::S) (fun q=>x.fields.length-q) 0 (Nat.zero_le _) ?_ ?_ ?_
 .simp[mxL]
 .simp
 intro q hq
 by_cases hlt:q<x.fields.length
 .have hT:=zEG (fun f:Fi=>f.type.deep) x.fields hlt
  have Pc:x.fields[q].type.deep<=mxL (x.fields.map fun f=>f.type.deep):=zEm (List.mem_map.2 ⟨_,List.getElem_mem hlt,rfl⟩)
  have aa:(q:Int)<(x.fields.length:Int):=by omega
  generalize he:x.fields[q]=f at*
  have hx:=fun S=>zIV f.type (by omega) S
  simp[hlt,aa,he,Fi.enc];refine cq (hx _) ?_;simp;exact⟨q+1,hlt,by omega,by rw[hT];split<;>omega,zA hlt (by unfold maxLen;omega)⟩
 have ht:(x.fields.map fun f=>f.type.deep).take q=x.fields.map fun f=>f.type.deep:=List.take_of_length_le (by simp;omega)
 have aa:¬(q:Int)<(x.fields.length:Int):=by omega
 obtain⟨m1,Rm⟩:∃m1,m1=max m0 (mxL (x.fields.map fun f=>f.type.deep)):=⟨_,rfl⟩
 rw[<-Rm]at hD
 have Sm:max m0 (mxL ((x.fields.map fun f=>f.type.deep).take q))=m1:=by rw[ht,Rm]
 simp only[Sm];simp[aa];refine zH (fun q:Nat=>q<=x.body.length) (fun q=>([.any,.any,.any,I (max m1 (mxL ((x.body.map St.deep).take q)):Nat)]++(List.replicate 25 .any++[.p (.sl 15 (x.body.map St.enc)),I x.body.length,I q,.any,.any,.any,.any,.any,.any,.any,.any,.any,.any]))) (fun q=>[.cells (itU x) 45]::S) (fun q=>x.body.length-q) 0 (Nat.zero_le _) ?_ ?_ ?_
 .simp[mxL]
 .simp
 intro j hj
 by_cases Pe:j<x.body.length
 .have hT:=zEG St.deep x.body Pe
  have Pc:x.body[j].deep<=mxL (x.body.map St.deep):=zEm (List.mem_map_of_mem (List.getElem_mem Pe))
  have Cg:(j:Int)<(x.body.length:Int):=by omega
  have Lu:=Pp _ (List.getElem_mem Pe)
  generalize he:x.body[j]=s at*
  have hx:=fun S=>zS1 s Lu (by omega) S
  simp[Pe,Cg,he,zCR];refine cq (hx _) ?_;simp;exact⟨j+1,Pe,by omega,by rw[hT];split<;>omega,zA Pe (by unfold maxLen;omega)⟩
 have ht:(x.body.map St.deep).take j=x.body.map St.deep:=List.take_of_length_le (by simp;omega)
 have Cg:¬(j:Int)<(x.body.length:Int):=by omega
 have hw:=zFE (a:=max m1 (mxL (x.body.map St.deep))) (by omega)
 rw[hD]at hw;simp[Cg,ht,hw]
theorem zYc(p:List It)(hp:PrSm p)(hd:zFh p<=1000000)(S:ASt):ADet Tryz.prog 114 [.agg [.p (prog p)]] S (I (zFh p)) S:=by
 have ca:=hp.1
 unfold zFh at*;refine ADet.intro mixed call114 func114 rfl ?_;simp[ntmps114,prog];refine zH (fun q:Nat=>q<=p.length) (fun q=>[.any,.ptr 0 0 0,.any,I (mxL ((p.map It.deep).take q)),.any,.any,.any,.p (.sl 16 (p.map It.enc)),I p.length,I q,.any,.any,.any,.any,.any,.any,.any,.any,.any,.any]) (fun q=>[.cells [.p (.sl 16 (p.map It.enc))] 24]::S) (fun q=>p.length-q) 0 (Nat.zero_le _) ?_ ?_ ?_
 .simp[mxL]
 .simp
 intro q hq
 by_cases hlt:q<p.length
 .have hT:=zEG It.deep p hlt
  have Pc:p[q].deep<=mxL (p.map It.deep):=zEm (List.mem_map_of_mem (List.getElem_mem hlt))
  have hx:=fun S=>zP5 p[q] (hp.2 _ (List.getElem_mem hlt)) (by omega) S
  have aa:(q:Int)<(p.length:Int):=by omega
  generalize he:p[q]=x at*
  simp[hlt,aa,he,It.enc];refine cq (hx _) ?_;simp;exact⟨q+1,hlt,by omega,by rw[hT];split<;>omega,zA hlt (by unfold maxLen;omega)⟩
 have ht:(p.map It.deep).take q=p.map It.deep:=List.take_of_length_le (by simp;omega)
 have aa:¬(q:Int)<(p.length:Int):=by omega
 have hw:=zFE (a:=mxL (p.map It.deep)) (by omega)
 simp[aa,ht,hw]
theorem zYd{n:Nat}(hn:n<=100000){l:List Tok}(qi:l.length<=1500){s:RS}{x:It}{s':RS}(hs:s.at_<=l.length)(h0:isP l s (⟨#[115,116,114,117,99,116]⟩:BA) 0=false)(h1:isP l s (⟨#[101,110,117,109]⟩:BA) 0=false)(h:zPz l n s=some (x,s')):RdC 113 [] l s s' (itA x)/\s'.at_<=l.length:=by
 unfold zPz at h;rw[h0,if_neg (by simp),h1,if_neg (by simp)]at h
 split at h
 .cases h
 rename_i fs s2 hk
 split at h
 .cases h
 rename_i t s3 ht
 split at h
 .cases h
 rename_i b e s4 he
 cases h
 have An:mayP l s (⟨#[115,116,114,117,99,116]⟩:BA)=s:=by unfold mayP;rw[h0];rfl
 have Qp:mayP l s (⟨#[101,110,117,109]⟩:BA)=s:=by unfold mayP;rw[h1];rfl
 have xa:=zk [(⟨#[102,110]⟩:BA)] _ hs
 have Pb:=z9 (s:=zAY l s [(⟨#[102,110]⟩:BA)]) 2 xa
 have Kk:=zk [(⟨#[40]⟩:BA)] _ Pb
 have lC:=zJa (K:=139) (fun s x s' a b=>zGB a b) (fun s x s' a b=>zSl a b) hn Kk hk
 have gg:=zOP (fun s x s' a b=>zGB a b) Kk hk
 have Pm:=zk [(⟨#[45,62]⟩:BA)] _ gg
 have tC:=zN3 n l _ t s3 Pm ht
 have Rp:=zFz n l _ t s3 Pm ht
 have Jr:=zk [(⟨#[123]⟩:BA)] _ Rp
 obtain⟨bC,Sp⟩:=zaz qi n hn Jr he
 refine⟨?_,zk _ _ Sp⟩;refine RdC.less (r:=.agg [U 3,Sg (zAJ l (zAY l s [(⟨#[102,110]⟩:BA)]) 2),.p (.sl 4 (fs.map Fi.enc)),U t.kind,Sg t.name,.p (.sl 3 (t.args.map Ty.enc)),.p (.sl 15 (b.map St.enc)),U e.op,I e.int,Sg e.name,Sg e.u2,Sg e.place.name,.p (strs e.place.path),.p (.sl 8 (e.args.map Ex.enc)),I e.pos,I (zBY l s)]) (by repeat' constructor) (RdC.intro fun S d i hR=>?_)
 refine ADet.intro mixed call113 func113 rfl ?_;simp[ntmps113];refine cq ((zAZ s).at hR hs _) ?_;simp;refine cq ((mayW s (⟨#[115,116,114,117,99,116]⟩:BA)).at hR hs _) ?_;rw[h0,An];simp;refine cq ((mayW s (⟨#[101,110,117,109]⟩:BA)).at hR hs _) ?_;rw[h1,Qp];simp;refine cq (ADet.sub (.cons (.refl _) (.cons (.osl (.refl _)) (.refl _))) ((zFb _ [(⟨#[102,110]⟩:BA)] (by simp) hs).at hR hs _)) ?_
 simp;refine cq ((zIA _).at hR xa _) ?_;simp;refine cq (ADet.sub (.cons (.refl _) (.cons (.osl (.refl _)) (.refl _))) ((zFb _ [(⟨#[40]⟩:BA)] (by simp) Pb).at hR Pb _)) ?_
 simp;refine cq (lC.at hR Kk _) ?_;simp;refine cq (ADet.sub (.cons (.refl _) (.cons (.osl (.refl _)) (.refl _))) ((zFb _ [(⟨#[45,62]⟩:BA)] (by simp) gg).at hR gg _)) ?_
 simp;refine cq (tC.at hR Pm _) ?_;simp;refine cq (ADet.sub (.cons (.refl _) (.cons (.osl (.refl _)) (.refl _))) ((zFb _ [(⟨#[123]⟩:BA)] (by simp) Rp).at hR Rp _)) ?_
 simp;refine cq (bC.at hR Jr _) ?_;simp;refine cq (ADet.sub (.cons (.refl _) (.cons (.osl (.refl _)) (.refl _))) ((zFb _ [(⟨#[125]⟩:BA)] (by simp) Sp).at hR Sp _)) ?_
 simp
theorem za1{n:Nat}(hn:n<=100000){l:List Tok}(qi:l.length<=1500){s:RS}{x:It}{s':RS}(hs:s.at_<=l.length)(h:zPz l n s=some (x,s')):RdC 113 [] l s s' (itA x)/\s'.at_<=l.length:=by
 cases h0:isP l s (⟨#[115,116,114,117,99,116]⟩:BA) 0 with
 |true=>
  unfold zPz at h;rw[h0,if_pos rfl]at h;refine⟨zM0 hn hs h0 h,?_⟩;unfold zU3 at h;rw[h0,if_pos rfl]at h
  dsimp only at h
  obtain⟨⟨fs,s1⟩,hk,he⟩:=Option.map_eq_some_iff.1 h
  cases he
  exact zOP (fun s x s' a b=>zGB a b) (zk _ _ (z9 3 (zA0 _ hs))) hk
 |false=>
  cases h1:isP l s (⟨#[101,110,117,109]⟩:BA) 0 with
  |true=>
   unfold zPz at h;rw[h0,if_neg (by simp),h1,if_pos rfl]at h
   cases h
  |false=>exact zYd hn qi hs h0 h1 h
theorem zS2(n:Nat)(hn:n<=100000)(s:BA)(p:List It)(h:zIY n s=some p)(hp:PrSm p)(hd:zFh p<=40)(S:ASt):ADet Tryz.prog 55 [Sg s] S (.tup [.agg [.p (prog p)],nilS]) S:=by
 unfold zIY at h;split at h
 .cases h
 rename_i cb
 split at h
 .cases h
 rename_i m Mu
 split at h
 .cases h
 rename_i l qp
 split at h
 .cases h
 rename_i tf
 split at h
 .cases h
 rename_i p' s1 ij
 split at h
 .cases h
 rename_i Vk
 cases h
 have Tm:s1.bad=false:=by cases hb:s1.bad with|false=>rfl|true=>simp[hb]at Vk
 have Tp:s1.full=false:=by cases hb:s1.full with|false=>rfl|true=>simp[hb]at Vk
 have Up:p.length<=30:=by have:¬30<p.length:=fun h=>Vk (.inr (.inr h));omega
 have Vp:¬(30:Int)<(p.length:Int):=by omega
 have aC:=fun S=>allC s (by omega) n n m l Mu qp (by omega) S
 have dC:=fun S=>zYc p hp (by omega) S
 have Vf:¬(40:Int)<(zFh p:Int):=by omega
 have qi:l.length<=1500:=by omega
 refine ADet.intro mixed call55 func55 rfl ?_;simp[ntmps55];refine cq (aC _) ?_;simp;refine zAw 45 16 (by decide) [.cells [.any] 24,rdO l ⟨0,false,false⟩,.cells [.osl 16 [] 0 3] 24] (fun a:Nat × List It × RS=>zLx l n a.1 a.2.1 a.2.2=some (p,s1)/\a.2.1.length+a.1<=n/\a.2.2.at_<=l.length) (fun a=>([Sg s,.any,.ptr 0 0 0,.any,.p (.sl 3 (l.map Tok.enc)),.any,.any,.ptr 0 1 0,.ptr 0 2 0]++List.replicate 89 .any)) (fun a=>[.cells [.any] 24,rdO l a.2.2,.cells [.osl 16 (a.2.1.map It.enc) 0 3] 24,.tok 45 16 a.2.1.length]::S) (fun a=>a.1) (n,[],⟨0,false,false⟩) ⟨ij,by simp,Nat.zero_le _⟩ ?_ ?_ ?_ ?_
 .simp
 .simp
 .rfl
 rintro⟨k,acc,s4⟩ ⟨hl,sh,Ua⟩
 simp only at hl sh Ua
 cases k with
 |zero=>simp[zLx]at hl
 |succ k=>
 unfold zLx at hl;split at hl
 .rename_i Ud
  split at hl
  .cases hl
  rename_i x s5 hx
  obtain⟨xC,lf⟩:=za1 hn (by omega) Ua hx
  have aa:(s4.at_:Int)<(l.length:Int):=by omega
  have ef:acc.length+1<=4294967296:=by omega
  simp[aa,Ud.2];refine dB [(1,3),(1,4)] (by kernel_rfl) ?_
  simp;refine cq (xC _ 0 1 ⟨rfl,Ua,qi⟩) ?_;simp[ef];exact⟨k,acc++[x],s5,⟨hl,by simp;omega,lf⟩,by omega,⟨by simp,by simp;rfl⟩⟩
 rename_i Ud
 cases hl
 have Wp:¬((s1.at_:Int)<(l.length:Int)):=by
  intro h;exact Ud ⟨by omega,Tm⟩
 simp[Wp,Tm,Tp,Vp];refine cq (ADet.sub (.cons (.agg (.cons (.osl (.refl _)) (.refl _))) (.refl _)) (dC _)) ?_;simp[Vf,prog]
end Go.Proofs.YtdflkegnmmkkoaaGreatDoor
