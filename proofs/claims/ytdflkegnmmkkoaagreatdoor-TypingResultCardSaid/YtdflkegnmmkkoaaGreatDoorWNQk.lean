/- A part of the proof. -/
import Derived.Test.YtdflkegnmmkkoaaGreatDoorWNSe
set_option linter.unusedVariables false
set_option linter.unusedSimpArgs false
set_option maxRecDepth 100000
set_option maxHeartbeats 32000000
namespace Go.Proofs.YtdflkegnmmkkoaaGreatDoor
open Go.RowKit _root_.Go.Proofs.Tryz
attribute [local simp] List.replicate List.range List.range.loop
theorem zO6(f:Ty->Ty)(l:List Ty)(hl:l.length<=20000)(K:Nat)(caps:List AV)(S:ASt)(hc:∀x∈l,∀L,ADet Tryz.prog K (tyV x::AV.ups 1 caps) (L::S) (tyV (f x)) (L::S)):
  ADet Tryz.prog 85 [.p (.sl 3 (l.map Ty.enc)),.fn (.func K) [] caps] S (.p (.sl 3 ((l.map f).map Ty.enc))) S:=by
 refine ADet.okP call85 0 rfl fun na=>?_
 have ca:=okl na
 refine ADet.intro mixed call85 func85 rfl ?_;simp[ntmps85];refine zAw 36 3 (by decide) [] (fun q:Nat=>q<=l.length) (fun q=>[.p (.sl 3 (l.map Ty.enc)),.fn (.func K) [] (AV.ups 1 caps),.any,.any,.any,.osl 3 (((l.map f).map Ty.enc).take q) 0 0,.any,.any,.p (.sl 3 (l.map Ty.enc)),I l.length,I q,.any,.any,.any,.any,.any,.any,.any,.any,.any,.any,.any]) (fun q=>[.tok 36 3 q]::S) (fun q=>l.length-q) 0 (Nat.zero_le _) ?_ ?_ ?_ ?_
 .simp
 .simp
 .rfl
 intro q hq
 by_cases hlt:q<l.length
 .have aa:(q:Int)<(l.length:Int):=by omega
  have hx:=fun L=>hc _ (List.getElem_mem hlt) L
  have hr:=zEA Ty.enc (l.map f) (q:=q) (by simpa using hlt)
  have eh:(l.map f)[q]'(by simpa using hlt)=f l[q]:=by simp
  rw[eh]at hr
  have oa:q+1<=4294967296:=by omega
  have wc:min q l.length=q:=by omega
  generalize hy:l[q]=x at*
  generalize f x=z at*
  simp[hlt,aa,hy,ze];refine cq (hx _) ?_;simp[oa,wc,ze];exact⟨q+1,hlt,by omega,⟨by have Tc:=hr;simp only[List.map_map]at Tc;rw[<-Tc];simp[ze],zA hlt⟩,rfl⟩
 have aa:¬(q:Int)<(l.length:Int):=by omega
 simp[aa];exact List.take_of_length_le (by simp;omega)
theorem zJI(f:Ex->Ex)(l:List Ex)(hl:l.length<=20000)(K:Nat)(caps:List AV)(S:ASt)(hc:∀x∈l,∀L,ADet Tryz.prog K (exV x::AV.ups 1 caps) (L::S) (exV (f x)) (L::S)):
  ADet Tryz.prog 89 [.p (.sl 8 (l.map Ex.enc)),.fn (.func K) [] caps] S (.p (.sl 8 ((l.map f).map Ex.enc))) S:=by
 refine ADet.okP call89 0 rfl fun na=>?_
 have ca:=okl na
 refine ADet.intro mixed call89 func89 rfl ?_;simp[ntmps89];refine zAw 43 8 (by decide) [] (fun q:Nat=>q<=l.length) (fun q=>[.p (.sl 8 (l.map Ex.enc)),.fn (.func K) [] (AV.ups 1 caps),.any,.any,.any,.osl 8 (((l.map f).map Ex.enc).take q) 0 0,.any,.any,.p (.sl 8 (l.map Ex.enc)),I l.length,I q,.any,.any,.any,.any,.any,.any,.any,.any,.any,.any,.any]) (fun q=>[.tok 43 8 q]::S) (fun q=>l.length-q) 0 (Nat.zero_le _) ?_ ?_ ?_ ?_
 .simp
 .simp
 .rfl
 intro q hq
 by_cases hlt:q<l.length
 .have aa:(q:Int)<(l.length:Int):=by omega
  have hx:=fun L=>hc _ (List.getElem_mem hlt) L
  have hr:=zEA Ex.enc (l.map f) (q:=q) (by simpa using hlt)
  have eh:(l.map f)[q]'(by simpa using hlt)=f l[q]:=by simp
  rw[eh]at hr
  have oa:q+1<=4294967296:=by omega
  have wc:min q l.length=q:=by omega
  generalize hy:l[q]=x at*
  generalize f x=z at*
  simp[hlt,aa,hy,zg];refine cq (hx _) ?_;simp[oa,wc,zg];exact⟨q+1,hlt,by omega,⟨by have Tc:=hr;simp only[List.map_map]at Tc;rw[<-Tc];simp[zg],zA hlt⟩,rfl⟩
 have aa:¬(q:Int)<(l.length:Int):=by omega
 simp[aa];exact List.take_of_length_le (by simp;omega)
theorem zO7(f:St->St)(l:List St)(hl:l.length<=20000)(K:Nat)(caps:List AV)(S:ASt)(hc:∀x∈l,∀L,ADet Tryz.prog K (stmV x::AV.ups 1 caps) (L::S) (stmV (f x)) (L::S)):
  ADet Tryz.prog 91 [.p (.sl 15 (l.map St.enc)),.fn (.func K) [] caps] S (.p (.sl 15 ((l.map f).map St.enc))) S:=by
 refine ADet.okP call91 0 rfl fun na=>?_
 have ca:=okl na
 refine ADet.intro mixed call91 func91 rfl ?_;simp[ntmps91];refine zAw 49 15 (by decide) [] (fun q:Nat=>q<=l.length) (fun q=>[.p (.sl 15 (l.map St.enc)),.fn (.func K) [] (AV.ups 1 caps),.any,.any,.any,.osl 15 (((l.map f).map St.enc).take q) 0 0,.any,.any,.p (.sl 15 (l.map St.enc)),I l.length,I q,.any,.any,.any,.any,.any,.any,.any,.any,.any,.any,.any]) (fun q=>[.tok 49 15 q]::S) (fun q=>l.length-q) 0 (Nat.zero_le _) ?_ ?_ ?_ ?_
 .simp
 .simp
 .rfl
 intro q hq
 by_cases hlt:q<l.length
 .have aa:(q:Int)<(l.length:Int):=by omega
  have hx:=fun L=>hc _ (List.getElem_mem hlt) L
  have hr:=zEA St.enc (l.map f) (q:=q) (by simpa using hlt)
  have eh:(l.map f)[q]'(by simpa using hlt)=f l[q]:=by simp
  rw[eh]at hr
  have oa:q+1<=4294967296:=by omega
  have wc:min q l.length=q:=by omega
  generalize hy:l[q]=x at*
  generalize f x=z at*
  simp[hlt,aa,hy,zCR];refine cq (hx _) ?_;simp[oa,wc,zCR];exact⟨q+1,hlt,by omega,⟨by have Tc:=hr;simp only[List.map_map]at Tc;rw[<-Tc];simp[zCR],zA hlt⟩,rfl⟩
 have aa:¬(q:Int)<(l.length:Int):=by omega
 simp[aa];exact List.take_of_length_le (by simp;omega)
theorem zRv(f:Ar->Ar)(l:List Ar)(hl:l.length<=20000)(K:Nat)(caps:List AV)(S:ASt)(hc:∀x∈l,∀L,ADet Tryz.prog K (arV x::AV.ups 1 caps) (L::S) (arV (f x)) (L::S)):
  ADet Tryz.prog 93 [.p (.sl 3 (l.map Ar.enc)),.fn (.func K) [] caps] S (.p (.sl 3 ((l.map f).map Ar.enc))) S:=by
 refine ADet.okP call93 0 rfl fun na=>?_
 have ca:=okl na
 refine ADet.intro mixed call93 func93 rfl ?_;simp[ntmps93];refine zAw 94 3 (by decide) [] (fun q:Nat=>q<=l.length) (fun q=>[.p (.sl 3 (l.map Ar.enc)),.fn (.func K) [] (AV.ups 1 caps),.any,.any,.any,.osl 3 (((l.map f).map Ar.enc).take q) 0 0,.any,.any,.p (.sl 3 (l.map Ar.enc)),I l.length,I q,.any,.any,.any,.any,.any,.any,.any,.any,.any,.any,.any]) (fun q=>[.tok 94 3 q]::S) (fun q=>l.length-q) 0 (Nat.zero_le _) ?_ ?_ ?_ ?_
 .simp
 .simp
 .rfl
 intro q hq
 by_cases hlt:q<l.length
 .have aa:(q:Int)<(l.length:Int):=by omega
  have hx:=fun L=>hc _ (List.getElem_mem hlt) L
  have hr:=zEA Ar.enc (l.map f) (q:=q) (by simpa using hlt)
  have eh:(l.map f)[q]'(by simpa using hlt)=f l[q]:=by simp
  rw[eh]at hr
  have oa:q+1<=4294967296:=by omega
  have wc:min q l.length=q:=by omega
  generalize hy:l[q]=x at*
  generalize f x=z at*
  simp[hlt,aa,hy,Ar.enc];refine cq (hx _) ?_;simp[oa,wc,Ar.enc];exact⟨q+1,hlt,by omega,⟨by have Tc:=hr;simp only[List.map_map]at Tc;rw[<-Tc];simp[Ar.enc],zA hlt⟩,rfl⟩
 have aa:¬(q:Int)<(l.length:Int):=by omega
 simp[aa];exact List.take_of_length_le (by simp;omega)
theorem zMY(f:Fi->Fi)(l:List Fi)(hl:l.length<=20000)(K:Nat)(caps:List AV)(S:ASt)(hc:∀x∈l,∀L,ADet Tryz.prog K (fiV x::AV.ups 1 caps) (L::S) (fiV (f x)) (L::S)):
  ADet Tryz.prog 97 [.p (.sl 4 (l.map Fi.enc)),.fn (.func K) [] caps] S (.p (.sl 4 ((l.map f).map Fi.enc))) S:=by
 refine ADet.okP call97 0 rfl fun na=>?_
 have ca:=okl na
 refine ADet.intro mixed call97 func97 rfl ?_;simp[ntmps97];refine zAw 60 4 (by decide) [] (fun q:Nat=>q<=l.length) (fun q=>[.p (.sl 4 (l.map Fi.enc)),.fn (.func K) [] (AV.ups 1 caps),.any,.any,.any,.osl 4 (((l.map f).map Fi.enc).take q) 0 0,.any,.any,.p (.sl 4 (l.map Fi.enc)),I l.length,I q,.any,.any,.any,.any,.any,.any,.any,.any,.any,.any,.any]) (fun q=>[.tok 60 4 q]::S) (fun q=>l.length-q) 0 (Nat.zero_le _) ?_ ?_ ?_ ?_
 .simp
 .simp
 .rfl
 intro q hq
 by_cases hlt:q<l.length
 .have aa:(q:Int)<(l.length:Int):=by omega
  have hx:=fun L=>hc _ (List.getElem_mem hlt) L
  have hr:=zEA Fi.enc (l.map f) (q:=q) (by simpa using hlt)
  have eh:(l.map f)[q]'(by simpa using hlt)=f l[q]:=by simp
  rw[eh]at hr
  have oa:q+1<=4294967296:=by omega
  have wc:min q l.length=q:=by omega
  generalize hy:l[q]=x at*
  generalize f x=z at*
  simp[hlt,aa,hy,Fi.enc];refine cq (hx _) ?_;simp[oa,wc,Fi.enc];exact⟨q+1,hlt,by omega,⟨by have Tc:=hr;simp only[List.map_map]at Tc;rw[<-Tc];simp[Fi.enc],zA hlt⟩,rfl⟩
 have aa:¬(q:Int)<(l.length:Int):=by omega
 simp[aa];exact List.take_of_length_le (by simp;omega)
theorem zO8(f:It->It)(l:List It)(hl:l.length<=20000)(K:Nat)(caps:List AV)(S:ASt)(hc:∀x∈l,∀L,ADet Tryz.prog K (itV x::AV.ups 1 caps) (L::S) (itV (f x)) (L::S)):
  ADet Tryz.prog 95 [.p (.sl 16 (l.map It.enc)),.fn (.func K) [] caps] S (.p (.sl 16 ((l.map f).map It.enc))) S:=by
 refine ADet.okP call95 0 rfl fun na=>?_
 have ca:=okl na
 refine ADet.intro mixed call95 func95 rfl ?_;simp[ntmps95];refine zAw 45 16 (by decide) [] (fun q:Nat=>q<=l.length) (fun q=>[.p (.sl 16 (l.map It.enc)),.fn (.func K) [] (AV.ups 1 caps),.any,.any,.any,.osl 16 (((l.map f).map It.enc).take q) 0 0,.any,.any,.p (.sl 16 (l.map It.enc)),I l.length,I q,.any,.any,.any,.any,.any,.any,.any,.any,.any,.any,.any]) (fun q=>[.tok 45 16 q]::S) (fun q=>l.length-q) 0 (Nat.zero_le _) ?_ ?_ ?_ ?_
 .simp
 .simp
 .rfl
 intro q hq
 by_cases hlt:q<l.length
 .have aa:(q:Int)<(l.length:Int):=by omega
  have hx:=fun L=>hc _ (List.getElem_mem hlt) L
  have hr:=zEA It.enc (l.map f) (q:=q) (by simpa using hlt)
  have eh:(l.map f)[q]'(by simpa using hlt)=f l[q]:=by simp
  rw[eh]at hr
  have oa:q+1<=4294967296:=by omega
  have wc:min q l.length=q:=by omega
  generalize hy:l[q]=x at*
  generalize f x=z at*
  simp[hlt,aa,hy,It.enc];refine cq (hx _) ?_;simp[oa,wc,It.enc];exact⟨q+1,hlt,by omega,⟨by have Tc:=hr;simp only[List.map_map]at Tc;rw[<-Tc];simp[It.enc],zA hlt⟩,rfl⟩
 have aa:¬(q:Int)<(l.length:Int):=by omega
 simp[aa];exact List.take_of_length_le (by simp;omega)
end Go.Proofs.YtdflkegnmmkkoaaGreatDoor
namespace Go.Proofs.YtdflkegnmmkkoaaGreatDoor
open Go.RowKit _root_.Go.Proofs.Tryz
theorem zO9{Pr:Prot}{φ:Fi2}{S:ASt}{w w':World}(h:Rel Pr φ S w)(hb:Below w.heap.size w w'){E k n:Nat}{v:Value}{xs:List Value}{rows:List (List PV)}(ho:w'.ownsRow w.heap.size E k v n xs)(hr:rows.length=n)(hw:Wide k rows)(hx:zCk Pr k rows xs):
  ∃Pr',Stp Pr φ w Pr' φ w'/\Rel Pr' φ S w'/\RP Pr' (.sl k rows) v:=by
 obtain⟨s,r⟩:=zH4 h hb
 obtain⟨hl,ho⟩:=ho
 rcases ho with⟨rfl,rfl⟩|⟨g,cap,yd,rfl,Xf,hg,Rd,Id,qc,Rc⟩
 .obtain rfl:=List.eq_nil_of_length_eq_zero hr
  exact⟨Pr,s,r,.slemp _ none 0 (Nat.zero_le _)⟩
 have xb:∀o,Pr g o=none:=fun o=>by
  cases hv:Pr g o with
  |none=>rfl
  |some v=>have:=zIo h hv;omega
 let Pr':Prot:=fun b o=>if b=g/\o<n*k then xs[o]? else Pr b o
 have oa:Pr.le Pr':=fun b o v hv=>by
  show(if b=g/\o<n*k then xs[o]? else Pr b o)=some v
  rw[if_neg (fun hh=>by rw[hh.1,xb]at hv;cases hv)];exact hv
 have Jb:∀b o,b≠g->Pr' b o=Pr b o:=fun b o hne=>by
  show(if b=g/\o<n*k then xs[o]? else Pr b o)=Pr b o
  rw[if_neg (fun hh=>hne hh.1)]
 have hat:∀o,o<n*k->Pr' g o=xs[o]?:=fun o ho=>by
  show(if g=g/\o<n*k then xs[o]? else Pr g o)=xs[o]?
  rw[if_pos ⟨rfl,ho⟩]
 refine⟨Pr',⟨oa,Fle.refl φ,s.fresh,s.fr,rfl,fun b o h0 h1=>?_⟩,⟨fun d i o ho=>?_,r.dis,r.lt,fun b o v hv=>?_,r.tb.of oa (fun _ _ _=>rfl) (fun d i e g he hg=>.inl ⟨d,i,e,he,hg⟩),r.shape⟩,?_⟩
 .refine .inr ?_
  rcases Classical.em (b=g)with rfl|hne
  .exact Xf
  rw[Jb b o hne]at h1;exact absurd h0 h1
 .obtain⟨e,he,bt⟩:=r.obj d i o ho
  refine⟨e,he,bt.keep oa (Fle.refl _) fun g' Gb=>⟨rfl,fun o hn=>?_⟩⟩
  have:=h.lt d i e g' he Gb
  rw[Jb g' o (by omega)];exact hn
 .rcases Classical.em (b=g/\o<n*k)with⟨rfl,ho⟩|hne
  .rw[hat o ho]at hv
   rw[zBb hg,<-Array.getElem?_toList,<-hv,<-Rc,List.getElem?_take_of_lt ho]
  refine r.pr b o v ?_
  have:(if b=g/\o<n*k then xs[o]? else Pr b o)=some v:=hv
  rwa [if_neg hne]at this
 have key:∀(r:Nat) (row:List PV) (j:Nat) (p:PV),rows[r]? =some row->row[j]? =some p->Pr' g (0+r*k+j)=some (xs.getD (r*k+j) undef)/\RP Pr' p (xs.getD (r*k+j) undef):=fun r row j p a b=>by
  obtain⟨u,h1,h2⟩:=hx r row j p a b
  have hlt:r*k+j<n*k:=by
   have:=(List.getElem?_eq_some_iff.1 h1).1
   rw[hl]at this;exact this
  rw[Nat.zero_add,hat _ hlt,h1,List.getD,h1];exact⟨rfl,h2.mono oa⟩
 rcases Nat.eq_zero_or_pos n with h0|hp
 .rw[h0]at hr
  obtain rfl:=List.eq_nil_of_length_eq_zero hr
  rw[h0];exact .slemp _ _ _ Id
 have:=RP.sl (Pr:=Pr') (rows:=rows) (b:=g) (off:=0) (cap:=cap) (k:=k) (fun r j=>xs.getD (r*k+j) undef) (by rw[hr];exact Rd) Id (fun r row a=>hw r row a) (fun r row j p a b=>(key r row j p a b).1) (fun r row j p a b=>(key r row j p a b).2)
 rwa [hr]at this
theorem zLV(l:List BA)(hl:l.length<=20000)(S:ASt):ADet Tryz.prog 87 [.p (strs l)] S (.p (strs l)) S:=by
 refine⟨call87,fun Pr φ xs w da hR hne=>?_⟩
 obtain⟨x,rfl,hx⟩:∃x,xs= #[x]/\RP Pr (strs l) x:=by
  have hs:xs.size=1:=da.1.symm
  have h1:xs[0]? =some xs[0]:=Array.getElem?_eq_getElem (by omega)
  have:=da.2 0 _ _ rfl h1
  cases this with
  |p h=>exact⟨xs[0],Array.ext (by simp[hs]) (fun i h1 h2=>by
    have:i=0:=by omega
    subst this;rfl),h⟩
 have fb:zCk Pr 1 (l.map fun s=>[pS s]) (l.map Value.string):=fun r row j p a b=>by
  rw[List.getElem?_map]at a
  obtain⟨s,hs,rfl⟩:=Option.map_eq_some_iff.1 a
  cases j with
  |zero=>
   simp at b;subst b
   exact⟨.string s,by simp[hs],.v rfl⟩
  |succ j=>simp at b
 have km:Wide 1 (l.map fun s=>[pS s]):=fun r row a=>by
  rw[List.getElem?_map]at a
  obtain⟨s,hs,rfl⟩:=Option.map_eq_some_iff.1 a
  rfl
 have pd:∀v' w',w'.ownsRow w.heap.size 9 1 v' l.length (l.map Value.string)->Below w.heap.size w w'->∃x Pr' φ',Ending.returned v'= .returned x/\Stp Pr φ w Pr' φ' w'/\Rel Pr' φ' S w'/\RA Pr' φ' (.p (strs l)) x:=fun v' w' ho hb=>by
  obtain⟨Pr',h1,h2,h3⟩:=zO9 hR hb ho (rows:=l.map fun s=>[pS s]) (by simp) km fb
  exact⟨v',Pr',φ,rfl,h1,h2,.p h3⟩
 unfold strs at hx
 generalize Oj:(l.map fun s=>[pS s])=rows at hx
 cases hx with
 |slemp _ A cap hc=>
  have Ge:l=[]:=by simpa using Oj
  subst Ge
  cases A with
  |none=>
   refine(Tryz.slices_Clone_string_nil 0 cap w).mono fun e w' ⟨he,hw⟩=>?_
   subst he hw
   exact⟨_,Pr,φ,rfl,Stp.refl _ _ _,hR,.p (.slemp _ none 0 (Nat.zero_le _))⟩
  |some a=>
   refine(Tryz.slices_Clone_string_zero a cap w).mono fun e w' ⟨v',he,ho,_,hb⟩=>?_
   subst he
   exact pd v' w' ho hb
 | @sl _ b off cap _ vs h1 h2 h3 h4 h5=>
  subst Oj
  have La:∀j,j<l.length->w.cell? ⟨b,off+j,none⟩=some (.string (l.getD j ByteArray.empty)):=fun j hj=>by
   have a1:(l.map fun s=>[pS s])[j]? =some [pS l[j]]:=by simp[hj]
   have a2:=h4 j _ 0 _ a1 rfl
   have a3:=h5 j _ 0 _ a1 rfl
   have a4:vs j 0= .string l[j]:=by
    generalize vs j 0=y at a3
    cases a3;rfl
   rw[a4]at a2
   have:=hR.pr _ _ _ a2
   rw[List.getD,List.getElem?_eq_getElem hj]
   simpa using this
  have:=Tryz.slices_Clone_string b off l.length cap l w (Nat.le_refl _) (by omega) La
  rw[List.length_map];refine this.mono fun e w' ⟨v',he,ho,_,hb⟩=>?_
  subst he;rw[List.take_length]at ho;exact pd v' w' ho hb
attribute [local simp] List.replicate List.range List.range.loop List.forall_mem_cons List.contains_cons List.contains_nil List.find?
mutual
def Ex.atm(g:Int->Int):Ex->Ex
 | .mk op i n s p l a=>.mk op i n s p (Ex.atms g l) (g a)
def Ex.atms(g:Int->Int):List Ex->List Ex
 | []=>[]
 |x::l=>x.atm g::Ex.atms g l
end
theorem zWD(g:Int->Int)(l:List Ex):Ex.atms g l=l.map (Ex.atm g):=by
 induction l with
 |nil=>rfl
 |cons x l ih=>simp[Ex.atms,ih]
theorem zbp(g:Int->Int)(e:Ex):e.atm g= .mk e.op e.int e.name e.u2 e.place (e.args.map (Ex.atm g)) (g e.pos):=by
 cases e;simp only[Ex.atm,zWD];rfl
mutual
def St.atm(g:Int->Int):St->St
 | .mk op n s ns t i p es b e l a=>.mk op n s ns t i p (es.map (Ex.atm g)) (St.atms g b) (St.atms g e) (Ar.atms g l) (g a)
def St.atms(g:Int->Int):List St->List St
 | []=>[]
 |x::l=>x.atm g::St.atms g l
def Ar.atms(g:Int->Int):List (ArOf St)->List (ArOf St)
 | []=>[]
 |⟨v,n,b⟩::l=>⟨v,n,St.atms g b⟩::Ar.atms g l
end
theorem zRw(g:Int->Int)(l:List St):St.atms g l=l.map (St.atm g):=by
 induction l with
 |nil=>rfl
 |cons x l ih=>simp[St.atms,ih]
def Ar.atm(g:Int->Int)(a:Ar):Ar:=⟨a.variant,a.name,a.body.map (St.atm g)⟩
theorem zaA(g:Int->Int)(l:List Ar):Ar.atms g l=l.map (Ar.atm g):=by
 induction l with
 |nil=>rfl
 |cons x l ih=>obtain⟨v,n,b⟩:=x;simp[Ar.atms,ih,Ar.atm,zRw]
theorem zbq(g:Int->Int)(s:St):s.atm g= .mk s.op s.name s.u2 s.names s.type s.int s.place (s.u3.map (Ex.atm g)) (s.body.map (St.atm g)) (s.els.map (St.atm g)) (s.arms.map (Ar.atm g)) (g s.pos):=by
 cases s;simp only[St.atm,zRw,zaA];rfl
def It.atm(g:Int->Int)(x:It):It:=⟨x.kind,x.name,x.fields,x.result,x.body.map (St.atm g),x.ret.atm g,g x.pos⟩
structure CpAt (F:Nat) (S:ASt) (d:Nat):Prop where
 o1:get2 S d 1=some (.cells [.fn (.func F) [] []] 82)
 o3:get2 S d 3=some (.cells [.fn (.func 84) [] [.ptr 0 3 0]] 132)
 o4:get2 S d 4=some (.cells [.fn (.func 88) [] [.ptr 0 6 0,.ptr 0 4 0,.ptr 0 1 0]] 133)
 o5:get2 S d 5=some (.cells [.fn (.func 92) [] [.ptr 0 3 0,.ptr 0 6 0,.ptr 0 4 0,.ptr 0 5 0,.ptr 0 7 0,.ptr 0 1 0]] 134)
 o6:get2 S d 6=some (.cells [.fn (.func 86) [] []] 137)
 o7:get2 S d 7=some (.cells [.fn (.func 90) [] [.ptr 0 5 0]] 140)
 o8:get2 S d 8=some (.cells [.fn (.func 94) [] [.ptr 0 3 0]] 142)
theorem CpAt.push{F:Nat}{S:ASt}{d:Nat}(h:CpAt F S d)(L:List AObj):CpAt F (L::S) (d+1):=⟨h.o1,h.o3,h.o4,h.o5,h.o6,h.o7,h.o8⟩
def AtF(F:Nat)(g:Int->Int):Prop:=∀n S,ADet Tryz.prog F [I n] S (I (g n)) S
theorem zMZ(F:Nat):∀(t:Ty),TySm t->∀(S:ASt) (d:Nat),CpAt F S d->ADet Tryz.prog 84 [tyV t,.ptr d 3 0] S (tyV t) S:=by
 refine Ty.ind fun t ih wa S d h=>?_
 obtain⟨_,hn,cb,wa⟩:=wa
 have o3:=h.o3
 have eC:∀L,ADet Tryz.prog 85 [.p (.sl 3 (t.args.map Ty.enc)),.fn (.func 84) [] [.ptr (d+1) 3 0]] (L::S) (.p (.sl 3 (t.args.map Ty.enc))) (L::S):=fun L=>by
  have:=zO6 (fun x=>x) t.args cb 84 [.ptr (d+1) 3 0] (L::S) fun x hx M=>by
   have:=ih x hx (wa x hx) _ _ ((h.push L).push M)
   simpa [AV.ups,AV.up]using this
  simpa using this
 refine ADet.intro mixed call84 func84 rfl ?_;simp[ntmps84,o3];refine cq (eC _) ?_;simp
theorem zNt(x:Pl)(hx:PlSm x)(S:ASt):ADet Tryz.prog 86 [plV x] S (plV x) S:=by
 have cC:=fun S=>zLV x.path hx.2.1 S
 refine ADet.intro mixed call86 func86 rfl ?_;simp[ntmps86];refine cq (cC _) ?_;simp
theorem zRx(F:Nat)(g:Int->Int)(hg:AtF F g):∀(e:Ex),ExSm e->∀(S:ASt) (d:Nat),CpAt F S d->ADet Tryz.prog 88 [exV e,.ptr d 6 0,.ptr d 4 0,.ptr d 1 0] S (exV (e.atm g)) S:=by
 refine Ex.ind fun e ih wa S d h=>?_
 obtain⟨_,_,_,Na,cb,wa⟩:=wa
 have o1:=h.o1
 have o4:=h.o4
 have o6:=h.o6
 have pC:=fun S=>zNt e.place Na S
 have gC:=fun S=>hg e.pos S
 have eC:∀L,ADet Tryz.prog 89 [.p (.sl 8 (e.args.map Ex.enc)),.fn (.func 88) [] [.ptr (d+1) 6 0,.ptr (d+1) 4 0,.ptr (d+1) 1 0]] (L::S) (.p (.sl 8 ((e.args.map (Ex.atm g)).map Ex.enc))) (L::S):=fun L=>
  zJI (Ex.atm g) e.args cb 88 _ (L::S) fun x hx M=>by
   have:=ih x hx (wa x hx) _ _ ((h.push L).push M)
   simpa [AV.ups,AV.up]using this
 rw[zbp]
 generalize e.args.map (Ex.atm g)=zs at*
 generalize g e.pos=gp at*
 refine ADet.intro mixed call88 func88 rfl ?_;simp[ntmps88];refine dB [(5,3),(6,3),(8,3),(8,7),(10,3),(10,7)] (by kernel_rfl) ?_
 simp[o6];refine cq (pC _) ?_;simp[o4];refine cq (eC _) ?_;simp[o1];refine cq (gC _) ?_;simp[Ex.op,Ex.int,Ex.name,Ex.u2,Ex.place,Ex.args,Ex.pos]
def StCp(F:Nat)(g:Int->Int)(s:St):Prop:=∀(S:ASt) (d:Nat),CpAt F S d->ADet Tryz.prog 92 [stmV s,.ptr d 3 0,.ptr d 6 0,.ptr d 4 0,.ptr d 5 0,.ptr d 7 0,.ptr d 1 0] S (stmV (s.atm g)) S
theorem zE5{F:Nat}{g:Int->Int}{l:List St}(hl:l.length<=20000)(h:∀x∈l,StCp F g x){S:ASt}{d:Nat}(hc:CpAt F S d):
  ADet Tryz.prog 91 [.p (.sl 15 (l.map St.enc)),.fn (.func 92) [] [.ptr d 3 0,.ptr d 6 0,.ptr d 4 0,.ptr d 5 0,.ptr d 7 0,.ptr d 1 0]] S (.p (.sl 15 ((l.map (St.atm g)).map St.enc))) S:=
 zO7 (St.atm g) l hl 92 _ S fun x hx M=>by
  have:=h x hx _ _ (hc.push M)
  simpa [AV.ups,AV.up]using this
theorem zaB(F:Nat)(g:Int->Int)(a:Ar)(hl:a.body.length<=20000)(hb:∀x∈a.body,StCp F g x)(S:ASt)(d:Nat)(h:CpAt F S d):ADet Tryz.prog 90 [arV a,.ptr d 5 0] S (arV (a.atm g)) S:=by
 have o5:=h.o5
 have eC:=fun L=>zE5 hl hb (h.push L)
 unfold Ar.atm
 generalize a.body.map (St.atm g)=zs at*
 refine ADet.intro mixed call90 func90 rfl ?_;simp[ntmps90,o5];refine cq (eC _) ?_;simp
theorem zXk(F:Nat)(g:Int->Int)(hg:AtF F g):∀(s:St),StSm s->StCp F g s:=by
 refine St.ind fun s Ko Lo Mo wa S d h=>?_
 obtain⟨_,_,_,Ja,Sb,Na,Ie,hb,he,ha,sb,se,sa,ct⟩:=wa
 have o1:=h.o1
 have o3:=h.o3
 have o4:=h.o4
 have o5:=h.o5
 have o6:=h.o6
 have o7:=h.o7
 have nC:=fun S=>zLV s.names Ja.1 S
 have tC:=fun L=>zMZ F s.type Sb _ _ (h.push L)
 have pC:=fun S=>zNt s.place Na S
 have gC:=fun S=>hg s.pos S
 have xC:∀L,ADet Tryz.prog 89 [.p (.sl 8 (s.u3.map Ex.enc)),.fn (.func 88) [] [.ptr (d+1) 6 0,.ptr (d+1) 4 0,.ptr (d+1) 1 0]] (L::S) (.p (.sl 8 ((s.u3.map (Ex.atm g)).map Ex.enc))) (L::S):=fun L=>
  zJI (Ex.atm g) s.u3 Ie.1 88 _ (L::S) fun x hx M=>by
   have:=zRx F g hg x (Ie.2 x hx) _ _ ((h.push L).push M)
   simpa [AV.ups,AV.up]using this
 have bC:=fun L=>zE5 hb (fun x hx=>Ko x hx (sb x hx)) (h.push L)
 have lC:=fun L=>zE5 he (fun x hx=>Lo x hx (se x hx)) (h.push L)
 have aC:∀L,ADet Tryz.prog 93 [.p (.sl 3 (s.arms.map Ar.enc)),.fn (.func 90) [] [.ptr (d+1) 5 0]] (L::S) (.p (.sl 3 ((s.arms.map (Ar.atm g)).map Ar.enc))) (L::S):=fun L=>
  zRv (Ar.atm g) s.arms ha 90 _ (L::S) fun x hx M=>by
   have:=zaB F g x (sa x hx).2.2 (fun y hy=>Mo x hx y hy (ct x hx y hy)) _ _ ((h.push L).push M)
   simpa [AV.ups,AV.up]using this
 rw[zbq]
 generalize s.u3.map (Ex.atm g)=z1 at*
 generalize s.body.map (St.atm g)=z2 at*
 generalize s.els.map (St.atm g)=z3 at*
 generalize s.arms.map (Ar.atm g)=z4 at*
 generalize g s.pos=gp at*
 refine ADet.intro mixed call92 func92 rfl ?_;simp[ntmps92];refine dB [(3,2),(5,2),(7,2),(7,6),(9,2),(9,6),(12,2),(12,6),(12,10),(13,2),(13,6),(13,10)] (by kernel_rfl) ?_
 simp;refine cq (nC _) ?_;simp[o3];refine cq (tC _) ?_;simp[o6];refine cq (pC _) ?_;simp[o4];refine cq (xC _) ?_;simp;refine dB [(5,3),(6,3),(9,3),(9,7),(10,3),(10,7),(12,3),(12,7),(12,11),(14,3),(14,7),(14,11)] (by kernel_rfl) ?_
 simp[o5];refine cq (bC _) ?_;simp[o5];refine cq (lC _) ?_;simp[o7];refine cq (aC _) ?_;simp[o1];refine cq (gC _) ?_;simp[St.op,St.name,St.u2,St.names,St.type,St.int,St.place,St.u3,St.body,St.els,St.arms,St.pos]
theorem zUh(F:Nat)(f:Fi)(hf:FiSm f)(S:ASt)(d:Nat)(h:CpAt F S d):ADet Tryz.prog 94 [fiV f,.ptr d 3 0] S (fiV f) S:=by
 have o3:=h.o3
 have tC:=fun L=>zMZ F f.type hf.2 _ _ (h.push L)
 refine ADet.intro mixed call94 func94 rfl ?_;simp[ntmps94,o3];refine cq (tC _) ?_;simp
theorem zRy(F:Nat)(g:Int->Int)(hg:AtF F g)(x:It)(hx:ItSm x)(S:ASt)(d:Nat)(h:CpAt F S d):ADet Tryz.prog 96 [itV x,.ptr d 8 0,.ptr d 3 0,.ptr d 5 0,.ptr d 4 0,.ptr d 1 0] S (itV (x.atm g)) S:=by
 obtain⟨_,Tb,Sb,Ca,ua⟩:=hx
 have o1:=h.o1
 have o3:=h.o3
 have o4:=h.o4
 have o5:=h.o5
 have o8:=h.o8
 have fC:∀L,ADet Tryz.prog 97 [.p (.sl 4 (x.fields.map Fi.enc)),.fn (.func 94) [] [.ptr (d+1) 3 0]] (L::S) (.p (.sl 4 (x.fields.map Fi.enc))) (L::S):=fun L=>by
  have:=zMY (fun x=>x) x.fields Tb.1 94 [.ptr (d+1) 3 0] (L::S) fun f hf M=>by
   have:=zUh F f (Tb.2 f hf) _ _ ((h.push L).push M)
   simpa [AV.ups,AV.up]using this
  simpa using this
 have tC:=fun L=>zMZ F x.result Sb _ _ (h.push L)
 have bC:=fun L=>zE5 Ca.1 (fun y hy=>zXk F g hg y (Ca.2 y hy)) (h.push L)
 have eC:=fun L=>zRx F g hg x.ret ua _ _ (h.push L)
 have gC:=fun S=>hg x.pos S
 unfold It.atm
 generalize x.body.map (St.atm g)=z2 at*
 generalize g x.pos=gp at*
 generalize x.ret.atm g=z at*
 refine ADet.intro mixed call96 func96 rfl ?_;simp[ntmps96];refine dB [(4,3),(6,3),(9,3),(9,7),(10,3),(10,7),(12,3),(12,7),(12,11),(14,3),(14,7),(14,11),(16,3),(16,7),(16,11),(16,15),(18,3),(18,7),(18,11),(18,15)] (by kernel_rfl) ?_
 simp[o8];refine cq (fC _) ?_;simp[o3];refine cq (tC _) ?_;simp[o5];refine cq (bC _) ?_;simp[o4];refine cq (eC _) ?_;simp[o1];refine cq (gC _) ?_;simp
theorem zUi(F:Nat)(g:Int->Int)(hg:AtF F g)(p:List It)(hp:PrSm p)(S:ASt):ADet Tryz.prog 39 [.agg [.p (prog p)],.fn (.func F) [] []] S (.agg [.p (prog (p.map (It.atm g)))]) S:=by
 have iC:∀L,CpAt F (L::S) 0->ADet Tryz.prog 95 [.p (.sl 16 (p.map It.enc)),.fn (.func 96) [] [.ptr 0 8 0,.ptr 0 3 0,.ptr 0 5 0,.ptr 0 4 0,.ptr 0 1 0]] (L::S) (.p (.sl 16 ((p.map (It.atm g)).map It.enc))) (L::S):=fun L h=>
  zO8 (It.atm g) p hp.1 96 _ (L::S) fun x hx M=>by
   have:=zRy F g hg x (hp.2 x hx) _ _ (h.push M)
   simpa [AV.ups,AV.up]using this
 refine ADet.intro mixed call39 func39 rfl ?_;simp[ntmps39,prog];refine cq (iC _ ⟨rfl,rfl,rfl,rfl,rfl,rfl,rfl⟩) ?_;simp
mutual
theorem zRz:∀e:Ex,e.atm (fun n=>n)=e
 | .mk op i n s p l a=>by rw[Ex.atm,zKA l]
theorem zKA:∀l:List Ex,Ex.atms (fun n=>n) l=l
 | []=>rfl
 |x::l=>by rw[Ex.atms,zRz x,zKA l]
end
mutual
theorem zXl:∀s:St,s.atm (fun n=>n)=s
 | .mk op n s ns t i p es b e l a=>by
  have h:es.map (Ex.atm fun n=>n)=es:=by rw[<-zWD];exact zKA es
  rw[St.atm,zFx b,zFx e,zNu l,h]
theorem zFx:∀l:List St,St.atms (fun n=>n) l=l
 | []=>rfl
 |x::l=>by rw[St.atms,zXl x,zFx l]
theorem zNu:∀l:List (ArOf St),Ar.atms (fun n=>n) l=l
 | []=>rfl
 |⟨v,n,b⟩::l=>by rw[Ar.atms,zFx b,zNu l]
end
theorem zR0(x:It):x.atm (fun n=>n)=x:=by
 obtain⟨k,n,f,r,b,e,a⟩:=x
 unfold It.atm;simp only;rw[<-zRw,zFx b,zRz e]
theorem zWE(p:List It)(hp:PrSm p)(S:ASt):ADet Tryz.prog 13 [.agg [.p (prog p)]] S (.agg [.p (prog p)]) S:=by
 have hg:AtF 41 (fun n=>n):=fun n S=>by
  refine ADet.intro mixed call41 func41 rfl ?_;simp[ntmps41]
 have cC:=fun S=>zUi 41 _ hg p hp S
 have hid:p.map (It.atm fun n=>n)=p:=by
  conv=>rhs;rw[<-List.map_id p]
  exact List.map_congr_left fun x _=>zR0 x
 rw[hid]at cC;refine ADet.intro mixed call13 func13 rfl ?_;simp[ntmps13];refine cq (cC _) ?_;simp
end Go.Proofs.YtdflkegnmmkkoaaGreatDoor
