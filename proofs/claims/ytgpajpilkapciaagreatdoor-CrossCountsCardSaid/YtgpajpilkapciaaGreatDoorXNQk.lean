/- A part of the proof. -/
import Derived.Test.YtgpajpilkapciaaGreatDoorXNSe
set_option linter.unusedVariables false
set_option linter.unusedSimpArgs false
set_option maxRecDepth 100000
set_option maxHeartbeats 32000000
namespace Go.Proofs.YtgpajpilkapciaaGreatDoor
open Go.RowKit _root_.Go.Proofs.Tryz
attribute [local simp] List.replicate List.range List.range.loop
theorem zOT(f:Ty->Ty)(l:List Ty)(hl:l.length<=20000)(K:Nat)(caps:List AV)(S:ASt)(hc:∀x∈l,∀L,ADet Tryz.prog K (tyV x::AV.ups 1 caps) (L::S) (tyV (f x)) (L::S)):
  ADet Tryz.prog 150 [.p (.sl 3 (l.map Ty.enc)),.fn (.func K) [] caps] S (.p (.sl 3 ((l.map f).map Ty.enc))) S:=by
 refine ADet.okP call150 0 rfl fun na=>?_
 have ca:=okl na
 refine ADet.intro mixed call150 func150 rfl ?_;simp[ntmps150];refine zBF 35 3 (by decide) [] (fun q:Nat=>q<=l.length) (fun q=>[.p (.sl 3 (l.map Ty.enc)),.fn (.func K) [] (AV.ups 1 caps),.any,.any,.any,.osl 3 (((l.map f).map Ty.enc).take q) 0 0,.any,.any,.p (.sl 3 (l.map Ty.enc)),I l.length,I q,.any,.any,.any,.any,.any,.any,.any,.any,.any,.any,.any]) (fun q=>[.tok 35 3 q]::S) (fun q=>l.length-q) 0 (Nat.zero_le _) ?_ ?_ ?_ ?_
 .simp
 .simp
 .rfl
 intro q hq
 by_cases hlt:q<l.length
 .have aa:(q:Int)<(l.length:Int):=by omega
  have hx:=fun L=>hc _ (List.getElem_mem hlt) L
  have hr:=zDx Ty.enc (l.map f) (q:=q) (by simpa using hlt)
  have Jh:(l.map f)[q]'(by simpa using hlt)=f l[q]:=by simp
  rw[Jh]at hr
  have ta:q+1<=4294967296:=by omega
  have gd:min q l.length=q:=by omega
  generalize hy:l[q]=x at*
  generalize f x=z at*
  simp[hlt,aa,hy,zP];refine cq (hx _) ?_;simp[ta,gd,zP];exact⟨q+1,hlt,by omega,⟨by have Oc:=hr;simp only[List.map_map]at Oc;rw[<-Oc];simp[zP],zA hlt⟩,rfl⟩
 have aa:¬(q:Int)<(l.length:Int):=by omega
 simp[aa];exact List.take_of_length_le (by simp;omega)
theorem zIu(f:Ex->Ex)(l:List Ex)(hl:l.length<=20000)(K:Nat)(caps:List AV)(S:ASt)(hc:∀x∈l,∀L,ADet Tryz.prog K (exV x::AV.ups 1 caps) (L::S) (exV (f x)) (L::S)):
  ADet Tryz.prog 154 [.p (.sl 8 (l.map Ex.enc)),.fn (.func K) [] caps] S (.p (.sl 8 ((l.map f).map Ex.enc))) S:=by
 refine ADet.okP call154 0 rfl fun na=>?_
 have ca:=okl na
 refine ADet.intro mixed call154 func154 rfl ?_;simp[ntmps154];refine zBF 42 8 (by decide) [] (fun q:Nat=>q<=l.length) (fun q=>[.p (.sl 8 (l.map Ex.enc)),.fn (.func K) [] (AV.ups 1 caps),.any,.any,.any,.osl 8 (((l.map f).map Ex.enc).take q) 0 0,.any,.any,.p (.sl 8 (l.map Ex.enc)),I l.length,I q,.any,.any,.any,.any,.any,.any,.any,.any,.any,.any,.any]) (fun q=>[.tok 42 8 q]::S) (fun q=>l.length-q) 0 (Nat.zero_le _) ?_ ?_ ?_ ?_
 .simp
 .simp
 .rfl
 intro q hq
 by_cases hlt:q<l.length
 .have aa:(q:Int)<(l.length:Int):=by omega
  have hx:=fun L=>hc _ (List.getElem_mem hlt) L
  have hr:=zDx Ex.enc (l.map f) (q:=q) (by simpa using hlt)
  have Jh:(l.map f)[q]'(by simpa using hlt)=f l[q]:=by simp
  rw[Jh]at hr
  have ta:q+1<=4294967296:=by omega
  have gd:min q l.length=q:=by omega
  generalize hy:l[q]=x at*
  generalize f x=z at*
  simp[hlt,aa,hy,zy];refine cq (hx _) ?_;simp[ta,gd,zy];exact⟨q+1,hlt,by omega,⟨by have Oc:=hr;simp only[List.map_map]at Oc;rw[<-Oc];simp[zy],zA hlt⟩,rfl⟩
 have aa:¬(q:Int)<(l.length:Int):=by omega
 simp[aa];exact List.take_of_length_le (by simp;omega)
theorem zOU(f:St->St)(l:List St)(hl:l.length<=20000)(K:Nat)(caps:List AV)(S:ASt)(hc:∀x∈l,∀L,ADet Tryz.prog K (stmV x::AV.ups 1 caps) (L::S) (stmV (f x)) (L::S)):
  ADet Tryz.prog 156 [.p (.sl 15 (l.map St.enc)),.fn (.func K) [] caps] S (.p (.sl 15 ((l.map f).map St.enc))) S:=by
 refine ADet.okP call156 0 rfl fun na=>?_
 have ca:=okl na
 refine ADet.intro mixed call156 func156 rfl ?_;simp[ntmps156];refine zBF 57 15 (by decide) [] (fun q:Nat=>q<=l.length) (fun q=>[.p (.sl 15 (l.map St.enc)),.fn (.func K) [] (AV.ups 1 caps),.any,.any,.any,.osl 15 (((l.map f).map St.enc).take q) 0 0,.any,.any,.p (.sl 15 (l.map St.enc)),I l.length,I q,.any,.any,.any,.any,.any,.any,.any,.any,.any,.any,.any]) (fun q=>[.tok 57 15 q]::S) (fun q=>l.length-q) 0 (Nat.zero_le _) ?_ ?_ ?_ ?_
 .simp
 .simp
 .rfl
 intro q hq
 by_cases hlt:q<l.length
 .have aa:(q:Int)<(l.length:Int):=by omega
  have hx:=fun L=>hc _ (List.getElem_mem hlt) L
  have hr:=zDx St.enc (l.map f) (q:=q) (by simpa using hlt)
  have Jh:(l.map f)[q]'(by simpa using hlt)=f l[q]:=by simp
  rw[Jh]at hr
  have ta:q+1<=4294967296:=by omega
  have gd:min q l.length=q:=by omega
  generalize hy:l[q]=x at*
  generalize f x=z at*
  simp[hlt,aa,hy,zBN];refine cq (hx _) ?_;simp[ta,gd,zBN];exact⟨q+1,hlt,by omega,⟨by have Oc:=hr;simp only[List.map_map]at Oc;rw[<-Oc];simp[zBN],zA hlt⟩,rfl⟩
 have aa:¬(q:Int)<(l.length:Int):=by omega
 simp[aa];exact List.take_of_length_le (by simp;omega)
theorem zQk(f:Ar->Ar)(l:List Ar)(hl:l.length<=20000)(K:Nat)(caps:List AV)(S:ASt)(hc:∀x∈l,∀L,ADet Tryz.prog K (arV x::AV.ups 1 caps) (L::S) (arV (f x)) (L::S)):
  ADet Tryz.prog 158 [.p (.sl 3 (l.map Ar.enc)),.fn (.func K) [] caps] S (.p (.sl 3 ((l.map f).map Ar.enc))) S:=by
 refine ADet.okP call158 0 rfl fun na=>?_
 have ca:=okl na
 refine ADet.intro mixed call158 func158 rfl ?_;simp[ntmps158];refine zBF 67 3 (by decide) [] (fun q:Nat=>q<=l.length) (fun q=>[.p (.sl 3 (l.map Ar.enc)),.fn (.func K) [] (AV.ups 1 caps),.any,.any,.any,.osl 3 (((l.map f).map Ar.enc).take q) 0 0,.any,.any,.p (.sl 3 (l.map Ar.enc)),I l.length,I q,.any,.any,.any,.any,.any,.any,.any,.any,.any,.any,.any]) (fun q=>[.tok 67 3 q]::S) (fun q=>l.length-q) 0 (Nat.zero_le _) ?_ ?_ ?_ ?_
 .simp
 .simp
 .rfl
 intro q hq
 by_cases hlt:q<l.length
 .have aa:(q:Int)<(l.length:Int):=by omega
  have hx:=fun L=>hc _ (List.getElem_mem hlt) L
  have hr:=zDx Ar.enc (l.map f) (q:=q) (by simpa using hlt)
  have Jh:(l.map f)[q]'(by simpa using hlt)=f l[q]:=by simp
  rw[Jh]at hr
  have ta:q+1<=4294967296:=by omega
  have gd:min q l.length=q:=by omega
  generalize hy:l[q]=x at*
  generalize f x=z at*
  simp[hlt,aa,hy,Ar.enc];refine cq (hx _) ?_;simp[ta,gd,Ar.enc];exact⟨q+1,hlt,by omega,⟨by have Oc:=hr;simp only[List.map_map]at Oc;rw[<-Oc];simp[Ar.enc],zA hlt⟩,rfl⟩
 have aa:¬(q:Int)<(l.length:Int):=by omega
 simp[aa];exact List.take_of_length_le (by simp;omega)
theorem zL6(f:Fi->Fi)(l:List Fi)(hl:l.length<=20000)(K:Nat)(caps:List AV)(S:ASt)(hc:∀x∈l,∀L,ADet Tryz.prog K (fiV x::AV.ups 1 caps) (L::S) (fiV (f x)) (L::S)):
  ADet Tryz.prog 162 [.p (.sl 4 (l.map Fi.enc)),.fn (.func K) [] caps] S (.p (.sl 4 ((l.map f).map Fi.enc))) S:=by
 refine ADet.okP call162 0 rfl fun na=>?_
 have ca:=okl na
 refine ADet.intro mixed call162 func162 rfl ?_;simp[ntmps162];refine zBF 79 4 (by decide) [] (fun q:Nat=>q<=l.length) (fun q=>[.p (.sl 4 (l.map Fi.enc)),.fn (.func K) [] (AV.ups 1 caps),.any,.any,.any,.osl 4 (((l.map f).map Fi.enc).take q) 0 0,.any,.any,.p (.sl 4 (l.map Fi.enc)),I l.length,I q,.any,.any,.any,.any,.any,.any,.any,.any,.any,.any,.any]) (fun q=>[.tok 79 4 q]::S) (fun q=>l.length-q) 0 (Nat.zero_le _) ?_ ?_ ?_ ?_
 .simp
 .simp
 .rfl
 intro q hq
 by_cases hlt:q<l.length
 .have aa:(q:Int)<(l.length:Int):=by omega
  have hx:=fun L=>hc _ (List.getElem_mem hlt) L
  have hr:=zDx Fi.enc (l.map f) (q:=q) (by simpa using hlt)
  have Jh:(l.map f)[q]'(by simpa using hlt)=f l[q]:=by simp
  rw[Jh]at hr
  have ta:q+1<=4294967296:=by omega
  have gd:min q l.length=q:=by omega
  generalize hy:l[q]=x at*
  generalize f x=z at*
  simp[hlt,aa,hy,Fi.enc];refine cq (hx _) ?_;simp[ta,gd,Fi.enc];exact⟨q+1,hlt,by omega,⟨by have Oc:=hr;simp only[List.map_map]at Oc;rw[<-Oc];simp[Fi.enc],zA hlt⟩,rfl⟩
 have aa:¬(q:Int)<(l.length:Int):=by omega
 simp[aa];exact List.take_of_length_le (by simp;omega)
theorem zOV(f:It->It)(l:List It)(hl:l.length<=20000)(K:Nat)(caps:List AV)(S:ASt)(hc:∀x∈l,∀L,ADet Tryz.prog K (itV x::AV.ups 1 caps) (L::S) (itV (f x)) (L::S)):
  ADet Tryz.prog 160 [.p (.sl 16 (l.map It.enc)),.fn (.func K) [] caps] S (.p (.sl 16 ((l.map f).map It.enc))) S:=by
 refine ADet.okP call160 0 rfl fun na=>?_
 have ca:=okl na
 refine ADet.intro mixed call160 func160 rfl ?_;simp[ntmps160];refine zBF 44 16 (by decide) [] (fun q:Nat=>q<=l.length) (fun q=>[.p (.sl 16 (l.map It.enc)),.fn (.func K) [] (AV.ups 1 caps),.any,.any,.any,.osl 16 (((l.map f).map It.enc).take q) 0 0,.any,.any,.p (.sl 16 (l.map It.enc)),I l.length,I q,.any,.any,.any,.any,.any,.any,.any,.any,.any,.any,.any]) (fun q=>[.tok 44 16 q]::S) (fun q=>l.length-q) 0 (Nat.zero_le _) ?_ ?_ ?_ ?_
 .simp
 .simp
 .rfl
 intro q hq
 by_cases hlt:q<l.length
 .have aa:(q:Int)<(l.length:Int):=by omega
  have hx:=fun L=>hc _ (List.getElem_mem hlt) L
  have hr:=zDx It.enc (l.map f) (q:=q) (by simpa using hlt)
  have Jh:(l.map f)[q]'(by simpa using hlt)=f l[q]:=by simp
  rw[Jh]at hr
  have ta:q+1<=4294967296:=by omega
  have gd:min q l.length=q:=by omega
  generalize hy:l[q]=x at*
  generalize f x=z at*
  simp[hlt,aa,hy,It.enc];refine cq (hx _) ?_;simp[ta,gd,It.enc];exact⟨q+1,hlt,by omega,⟨by have Oc:=hr;simp only[List.map_map]at Oc;rw[<-Oc];simp[It.enc],zA hlt⟩,rfl⟩
 have aa:¬(q:Int)<(l.length:Int):=by omega
 simp[aa];exact List.take_of_length_le (by simp;omega)
end Go.Proofs.YtgpajpilkapciaaGreatDoor
namespace Go.Proofs.YtgpajpilkapciaaGreatDoor
open Go.RowKit _root_.Go.Proofs.Tryz
theorem zOW{Pr:Prot}{φ:Fi2}{S:ASt}{w w':World}(h:Rel Pr φ S w)(hb:Below w.heap.size w w'){E k n:Nat}{v:Value}{xs:List Value}{rows:List (List PV)}(ho:w'.ownsRow w.heap.size E k v n xs)(hr:rows.length=n)(hw:Wide k rows)(hx:zCc Pr k rows xs):
  ∃Pr',Stp Pr φ w Pr' φ w'/\Rel Pr' φ S w'/\RP Pr' (.sl k rows) v:=by
 obtain⟨s,r⟩:=zKw h hb
 obtain⟨hl,ho⟩:=ho
 rcases ho with⟨rfl,rfl⟩|⟨g,cap,od,rfl,If,hg,Od,yd,ld,Nc⟩
 .obtain rfl:=List.eq_nil_of_length_eq_zero hr
  exact⟨Pr,s,r,.slemp _ none 0 (Nat.zero_le _)⟩
 have Mb:∀o,Pr g o=none:=fun o=>by
  cases hv:Pr g o with
  |none=>rfl
  |some v=>have:=zIO h hv;omega
 let Pr':Prot:=fun b o=>if b=g/\o<n*k then xs[o]? else Pr b o
 have ta:Pr.le Pr':=fun b o v hv=>by
  show(if b=g/\o<n*k then xs[o]? else Pr b o)=some v
  rw[if_neg (fun hh=>by rw[hh.1,Mb]at hv;cases hv)];exact hv
 have Ib:∀b o,b≠g->Pr' b o=Pr b o:=fun b o hne=>by
  show(if b=g/\o<n*k then xs[o]? else Pr b o)=Pr b o
  rw[if_neg (fun hh=>hne hh.1)]
 have hat:∀o,o<n*k->Pr' g o=xs[o]?:=fun o ho=>by
  show(if g=g/\o<n*k then xs[o]? else Pr g o)=xs[o]?
  rw[if_pos ⟨rfl,ho⟩]
 refine⟨Pr',⟨ta,Fle.refl φ,s.fresh,s.fr,rfl,fun b o h0 h1=>?_⟩,⟨fun d i o ho=>?_,r.dis,r.lt,fun b o v hv=>?_,r.tb.of ta (fun _ _ _=>rfl) (fun d i e g he hg=>.inl ⟨d,i,e,he,hg⟩),r.shape⟩,?_⟩
 .refine .inr ?_
  rcases Classical.em (b=g)with rfl|hne
  .exact If
  rw[Ib b o hne]at h1;exact absurd h0 h1
 .obtain⟨e,he,Is⟩:=r.obj d i o ho
  refine⟨e,he,Is.keep ta (Fle.refl _) fun g' Cb=>⟨rfl,fun o hn=>?_⟩⟩
  have:=h.lt d i e g' he Cb
  rw[Ib g' o (by omega)];exact hn
 .rcases Classical.em (b=g/\o<n*k)with⟨rfl,ho⟩|hne
  .rw[hat o ho]at hv
   rw[zBS hg,<-Array.getElem?_toList,<-hv,<-Nc,List.getElem?_take_of_lt ho]
  refine r.pr b o v ?_
  have:(if b=g/\o<n*k then xs[o]? else Pr b o)=some v:=hv
  rwa [if_neg hne]at this
 have key:∀(r:Nat) (row:List PV) (j:Nat) (p:PV),rows[r]? =some row->row[j]? =some p->Pr' g (0+r*k+j)=some (xs.getD (r*k+j) undef)/\RP Pr' p (xs.getD (r*k+j) undef):=fun r row j p a b=>by
  obtain⟨u,h1,h2⟩:=hx r row j p a b
  have hlt:r*k+j<n*k:=by
   have:=(List.getElem?_eq_some_iff.1 h1).1
   rw[hl]at this;exact this
  rw[Nat.zero_add,hat _ hlt,h1,List.getD,h1];exact⟨rfl,h2.mono ta⟩
 rcases Nat.eq_zero_or_pos n with h0|hp
 .rw[h0]at hr
  obtain rfl:=List.eq_nil_of_length_eq_zero hr
  rw[h0];exact .slemp _ _ _ yd
 have:=RP.sl (Pr:=Pr') (rows:=rows) (b:=g) (off:=0) (cap:=cap) (k:=k) (fun r j=>xs.getD (r*k+j) undef) (by rw[hr];exact Od) yd (fun r row a=>hw r row a) (fun r row j p a b=>(key r row j p a b).1) (fun r row j p a b=>(key r row j p a b).2)
 rwa [hr]at this
theorem zK0(l:List BA)(hl:l.length<=20000)(S:ASt):ADet Tryz.prog 152 [.p (strs l)] S (.p (strs l)) S:=by
 refine⟨call152,fun Pr φ xs w ea hR hne=>?_⟩
 obtain⟨x,rfl,hx⟩:∃x,xs= #[x]/\RP Pr (strs l) x:=by
  have hs:xs.size=1:=ea.1.symm
  have h1:xs[0]? =some xs[0]:=Array.getElem?_eq_getElem (by omega)
  have:=ea.2 0 _ _ rfl h1
  cases this with
  |p h=>exact⟨xs[0],Array.ext (by simp[hs]) (fun i h1 h2=>by
    have:i=0:=by omega
    subst this;rfl),h⟩
 have ub:zCc Pr 1 (l.map fun s=>[pS s]) (l.map Value.string):=fun r row j p a b=>by
  rw[List.getElem?_map]at a
  obtain⟨s,hs,rfl⟩:=Option.map_eq_some_iff.1 a
  cases j with
  |zero=>
   simp at b;subst b
   exact⟨.string s,by simp[hs],.v rfl⟩
  |succ j=>simp at b
 have Vl:Wide 1 (l.map fun s=>[pS s]):=fun r row a=>by
  rw[List.getElem?_map]at a
  obtain⟨s,hs,rfl⟩:=Option.map_eq_some_iff.1 a
  rfl
 have Yc:∀v' w',w'.ownsRow w.heap.size 9 1 v' l.length (l.map Value.string)->Below w.heap.size w w'->∃x Pr' φ',Ending.returned v'= .returned x/\Stp Pr φ w Pr' φ' w'/\Rel Pr' φ' S w'/\RA Pr' φ' (.p (strs l)) x:=fun v' w' ho hb=>by
  obtain⟨Pr',h1,h2,h3⟩:=zOW hR hb ho (rows:=l.map fun s=>[pS s]) (by simp) Vl ub
  exact⟨v',Pr',φ,rfl,h1,h2,.p h3⟩
 unfold strs at hx
 generalize Fj:(l.map fun s=>[pS s])=rows at hx
 cases hx with
 |slemp _ A cap hc=>
  have Ve:l=[]:=by simpa using Fj
  subst Ve
  cases A with
  |none=>
   refine(Tryz.slices_Clone_string_nil 0 cap w).mono fun e w' ⟨he,hw⟩=>?_
   subst he hw
   exact⟨_,Pr,φ,rfl,Stp.refl _ _ _,hR,.p (.slemp _ none 0 (Nat.zero_le _))⟩
  |some a=>
   refine(Tryz.slices_Clone_string_zero a cap w).mono fun e w' ⟨v',he,ho,_,hb⟩=>?_
   subst he
   exact Yc v' w' ho hb
 | @sl _ b off cap _ vs h1 h2 h3 h4 h5=>
  subst Fj
  have Ja:∀j,j<l.length->w.cell? ⟨b,off+j,none⟩=some (.string (l.getD j ByteArray.empty)):=fun j hj=>by
   have a1:(l.map fun s=>[pS s])[j]? =some [pS l[j]]:=by simp[hj]
   have a2:=h4 j _ 0 _ a1 rfl
   have a3:=h5 j _ 0 _ a1 rfl
   have a4:vs j 0= .string l[j]:=by
    generalize vs j 0=y at a3
    cases a3;rfl
   rw[a4]at a2
   have:=hR.pr _ _ _ a2
   rw[List.getD,List.getElem?_eq_getElem hj]
   simpa using this
  have:=Tryz.slices_Clone_string b off l.length cap l w (Nat.le_refl _) (by omega) Ja
  rw[List.length_map];refine this.mono fun e w' ⟨v',he,ho,_,hb⟩=>?_
  subst he;rw[List.take_length]at ho;exact Yc v' w' ho hb
attribute [local simp] List.replicate List.range List.range.loop zf za zn zb List.forall_mem_cons List.contains_cons List.contains_nil List.find? zm zl zZ
mutual
def Ex.atm(g:Int->Int):Ex->Ex
 | .mk op i n s p l a=>.mk op i n s p (Ex.atms g l) (g a)
def Ex.atms(g:Int->Int):List Ex->List Ex
 | []=>[]
 |x::l=>x.atm g::Ex.atms g l
end
theorem zVH(g:Int->Int)(l:List Ex):Ex.atms g l=l.map (Ex.atm g):=by
 induction l with
 |nil=>rfl
 |cons x l ih=>simp[Ex.atms,ih]
theorem zaI(g:Int->Int)(e:Ex):e.atm g= .mk e.op e.int e.name e.u4 e.place (e.args.map (Ex.atm g)) (g e.pos):=by
 cases e;simp only[Ex.atm,zVH];rfl
mutual
def St.atm(g:Int->Int):St->St
 | .mk op n s ns t i p es b e l a=>.mk op n s ns t i p (es.map (Ex.atm g)) (St.atms g b) (St.atms g e) (Ar.atms g l) (g a)
def St.atms(g:Int->Int):List St->List St
 | []=>[]
 |x::l=>x.atm g::St.atms g l
def Ar.atms(g:Int->Int):List (ArOf St)->List (ArOf St)
 | []=>[]
 |⟨v,n,b⟩::l=>⟨v,n,St.atms g b⟩::Ar.atms g l
end
theorem zQl(g:Int->Int)(l:List St):St.atms g l=l.map (St.atm g):=by
 induction l with
 |nil=>rfl
 |cons x l ih=>simp[St.atms,ih]
def Ar.atm(g:Int->Int)(a:Ar):Ar:=⟨a.variant,a.name,a.body.map (St.atm g)⟩
theorem zY2(g:Int->Int)(l:List Ar):Ar.atms g l=l.map (Ar.atm g):=by
 induction l with
 |nil=>rfl
 |cons x l ih=>obtain⟨v,n,b⟩:=x;simp[Ar.atms,ih,Ar.atm,zQl]
theorem zaJ(g:Int->Int)(s:St):s.atm g= .mk s.op s.name s.u4 s.names s.type s.int s.place (s.u5.map (Ex.atm g)) (s.body.map (St.atm g)) (s.els.map (St.atm g)) (s.arms.map (Ar.atm g)) (g s.pos):=by
 cases s;simp only[St.atm,zQl,zY2];rfl
def It.atm(g:Int->Int)(x:It):It:=⟨x.kind,x.name,x.fields,x.result,x.body.map (St.atm g),x.ret.atm g,g x.pos⟩
structure CpAt (F:Nat) (S:ASt) (d:Nat):Prop where
 o1:get2 S d 1=some (.cells [.fn (.func F) [] []] 200)
 o3:get2 S d 3=some (.cells [.fn (.func 149) [] [.ptr 0 3 0]] 206)
 o4:get2 S d 4=some (.cells [.fn (.func 153) [] [.ptr 0 6 0,.ptr 0 4 0,.ptr 0 1 0]] 210)
 o5:get2 S d 5=some (.cells [.fn (.func 157) [] [.ptr 0 3 0,.ptr 0 6 0,.ptr 0 4 0,.ptr 0 5 0,.ptr 0 7 0,.ptr 0 1 0]] 211)
 o6:get2 S d 6=some (.cells [.fn (.func 151) [] []] 214)
 o7:get2 S d 7=some (.cells [.fn (.func 155) [] [.ptr 0 5 0]] 217)
 o8:get2 S d 8=some (.cells [.fn (.func 159) [] [.ptr 0 3 0]] 219)
theorem CpAt.push{F:Nat}{S:ASt}{d:Nat}(h:CpAt F S d)(L:List AObj):CpAt F (L::S) (d+1):=⟨h.o1,h.o3,h.o4,h.o5,h.o6,h.o7,h.o8⟩
def AtF(F:Nat)(g:Int->Int):Prop:=∀n S,ADet Tryz.prog F [I n] S (I (g n)) S
theorem zL7(F:Nat):∀(t:Ty),TySm t->∀(S:ASt) (d:Nat),CpAt F S d->ADet Tryz.prog 149 [tyV t,.ptr d 3 0] S (tyV t) S:=by
 refine Ty.ind fun t ih ka S d h=>?_
 obtain⟨_,hn,Xa,ka⟩:=ka
 have o3:=h.o3
 have eC:∀L,ADet Tryz.prog 150 [.p (.sl 3 (t.args.map Ty.enc)),.fn (.func 149) [] [.ptr (d+1) 3 0]] (L::S) (.p (.sl 3 (t.args.map Ty.enc))) (L::S):=fun L=>by
  have:=zOT (fun x=>x) t.args Xa 149 [.ptr (d+1) 3 0] (L::S) fun x hx M=>by
   have:=ih x hx (ka x hx) _ _ ((h.push L).push M)
   simpa [AV.ups,AV.up]using this
  simpa using this
 refine ADet.intro mixed call149 func149 rfl ?_;simp[ntmps149,o3];refine cq (eC _) ?_;simp
theorem zNG(x:Pl)(hx:PlSm x)(S:ASt):ADet Tryz.prog 151 [plV x] S (plV x) S:=by
 have cC:=fun S=>zK0 x.path hx.2.1 S
 refine ADet.intro mixed call151 func151 rfl ?_;simp[ntmps151];refine cq (cC _) ?_;simp
theorem zQm(F:Nat)(g:Int->Int)(hg:AtF F g):∀(e:Ex),ExSm e->∀(S:ASt) (d:Nat),CpAt F S d->ADet Tryz.prog 153 [exV e,.ptr d 6 0,.ptr d 4 0,.ptr d 1 0] S (exV (e.atm g)) S:=by
 refine Ex.ind fun e ih ka S d h=>?_
 obtain⟨_,_,_,Ua,Xa,ka⟩:=ka
 have o1:=h.o1
 have o4:=h.o4
 have o6:=h.o6
 have pC:=fun S=>zNG e.place Ua S
 have gC:=fun S=>hg e.pos S
 have eC:∀L,ADet Tryz.prog 154 [.p (.sl 8 (e.args.map Ex.enc)),.fn (.func 153) [] [.ptr (d+1) 6 0,.ptr (d+1) 4 0,.ptr (d+1) 1 0]] (L::S) (.p (.sl 8 ((e.args.map (Ex.atm g)).map Ex.enc))) (L::S):=fun L=>
  zIu (Ex.atm g) e.args Xa 153 _ (L::S) fun x hx M=>by
   have:=ih x hx (ka x hx) _ _ ((h.push L).push M)
   simpa [AV.ups,AV.up]using this
 rw[zaI]
 generalize e.args.map (Ex.atm g)=zs at*
 generalize g e.pos=gp at*
 refine ADet.intro mixed call153 func153 rfl ?_;simp[ntmps153];refine dB [(5,3),(6,3),(8,3),(8,7),(10,3),(10,7)] (by kernel_rfl) ?_
 simp[o6];refine cq (pC _) ?_;simp[o4];refine cq (eC _) ?_;simp[o1];refine cq (gC _) ?_;simp[Ex.op,Ex.int,Ex.name,Ex.u4,Ex.place,Ex.args,Ex.pos]
def StCp(F:Nat)(g:Int->Int)(s:St):Prop:=∀(S:ASt) (d:Nat),CpAt F S d->ADet Tryz.prog 157 [stmV s,.ptr d 3 0,.ptr d 6 0,.ptr d 4 0,.ptr d 5 0,.ptr d 7 0,.ptr d 1 0] S (stmV (s.atm g)) S
theorem zEo{F:Nat}{g:Int->Int}{l:List St}(hl:l.length<=20000)(h:∀x∈l,StCp F g x){S:ASt}{d:Nat}(hc:CpAt F S d):
  ADet Tryz.prog 156 [.p (.sl 15 (l.map St.enc)),.fn (.func 157) [] [.ptr d 3 0,.ptr d 6 0,.ptr d 4 0,.ptr d 5 0,.ptr d 7 0,.ptr d 1 0]] S (.p (.sl 15 ((l.map (St.atm g)).map St.enc))) S:=
 zOU (St.atm g) l hl 157 _ S fun x hx M=>by
  have:=h x hx _ _ (hc.push M)
  simpa [AV.ups,AV.up]using this
theorem zY3(F:Nat)(g:Int->Int)(a:Ar)(hl:a.body.length<=20000)(hb:∀x∈a.body,StCp F g x)(S:ASt)(d:Nat)(h:CpAt F S d):ADet Tryz.prog 155 [arV a,.ptr d 5 0] S (arV (a.atm g)) S:=by
 have o5:=h.o5
 have eC:=fun L=>zEo hl hb (h.push L)
 unfold Ar.atm
 generalize a.body.map (St.atm g)=zs at*
 refine ADet.intro mixed call155 func155 rfl ?_;simp[ntmps155,o5];refine cq (eC _) ?_;simp
theorem zWm(F:Nat)(g:Int->Int)(hg:AtF F g):∀(s:St),StSm s->StCp F g s:=by
 refine St.ind fun s uo vo Ao ka S d h=>?_
 obtain⟨_,_,_,Fa,Eb,Ua,Fc,hb,he,ha,sb,se,sa,Js⟩:=ka
 have o1:=h.o1
 have o3:=h.o3
 have o4:=h.o4
 have o5:=h.o5
 have o6:=h.o6
 have o7:=h.o7
 have nC:=fun S=>zK0 s.names Fa.1 S
 have tC:=fun L=>zL7 F s.type Eb _ _ (h.push L)
 have pC:=fun S=>zNG s.place Ua S
 have gC:=fun S=>hg s.pos S
 have xC:∀L,ADet Tryz.prog 154 [.p (.sl 8 (s.u5.map Ex.enc)),.fn (.func 153) [] [.ptr (d+1) 6 0,.ptr (d+1) 4 0,.ptr (d+1) 1 0]] (L::S) (.p (.sl 8 ((s.u5.map (Ex.atm g)).map Ex.enc))) (L::S):=fun L=>
  zIu (Ex.atm g) s.u5 Fc.1 153 _ (L::S) fun x hx M=>by
   have:=zQm F g hg x (Fc.2 x hx) _ _ ((h.push L).push M)
   simpa [AV.ups,AV.up]using this
 have bC:=fun L=>zEo hb (fun x hx=>uo x hx (sb x hx)) (h.push L)
 have lC:=fun L=>zEo he (fun x hx=>vo x hx (se x hx)) (h.push L)
 have aC:∀L,ADet Tryz.prog 158 [.p (.sl 3 (s.arms.map Ar.enc)),.fn (.func 155) [] [.ptr (d+1) 5 0]] (L::S) (.p (.sl 3 ((s.arms.map (Ar.atm g)).map Ar.enc))) (L::S):=fun L=>
  zQk (Ar.atm g) s.arms ha 155 _ (L::S) fun x hx M=>by
   have:=zY3 F g x (sa x hx).2.2 (fun y hy=>Ao x hx y hy (Js x hx y hy)) _ _ ((h.push L).push M)
   simpa [AV.ups,AV.up]using this
 rw[zaJ]
 generalize s.u5.map (Ex.atm g)=z1 at*
 generalize s.body.map (St.atm g)=z2 at*
 generalize s.els.map (St.atm g)=z3 at*
 generalize s.arms.map (Ar.atm g)=z4 at*
 generalize g s.pos=gp at*
 refine ADet.intro mixed call157 func157 rfl ?_;simp[ntmps157];refine dB [(3,2),(5,2),(7,2),(7,6),(9,2),(9,6),(12,2),(12,6),(12,10),(13,2),(13,6),(13,10)] (by kernel_rfl) ?_
 simp;refine cq (nC _) ?_;simp[o3];refine cq (tC _) ?_;simp[o6];refine cq (pC _) ?_;simp[o4];refine cq (xC _) ?_;simp;refine dB [(5,3),(6,3),(9,3),(9,7),(10,3),(10,7),(12,3),(12,7),(12,11),(14,3),(14,7),(14,11)] (by kernel_rfl) ?_
 simp[o5];refine cq (bC _) ?_;simp[o5];refine cq (lC _) ?_;simp[o7];refine cq (aC _) ?_;simp[o1];refine cq (gC _) ?_;simp[St.op,St.name,St.u4,St.names,St.type,St.int,St.place,St.u5,St.body,St.els,St.arms,St.pos]
theorem zTp(F:Nat)(f:Fi)(hf:FiSm f)(S:ASt)(d:Nat)(h:CpAt F S d):ADet Tryz.prog 159 [fiV f,.ptr d 3 0] S (fiV f) S:=by
 have o3:=h.o3
 have tC:=fun L=>zL7 F f.type hf.2 _ _ (h.push L)
 refine ADet.intro mixed call159 func159 rfl ?_;simp[ntmps159,o3];refine cq (tC _) ?_;simp
theorem zWn(F:Nat)(g:Int->Int)(hg:AtF F g)(x:It)(hx:ItSm x)(S:ASt)(d:Nat)(h:CpAt F S d):ADet Tryz.prog 161 [itV x,.ptr d 8 0,.ptr d 3 0,.ptr d 5 0,.ptr d 4 0,.ptr d 1 0] S (itV (x.atm g)) S:=by
 obtain⟨_,Db,Eb,Aa,xa⟩:=hx
 have o1:=h.o1
 have o3:=h.o3
 have o4:=h.o4
 have o5:=h.o5
 have o8:=h.o8
 have fC:∀L,ADet Tryz.prog 162 [.p (.sl 4 (x.fields.map Fi.enc)),.fn (.func 159) [] [.ptr (d+1) 3 0]] (L::S) (.p (.sl 4 (x.fields.map Fi.enc))) (L::S):=fun L=>by
  have:=zL6 (fun x=>x) x.fields Db.1 159 [.ptr (d+1) 3 0] (L::S) fun f hf M=>by
   have:=zTp F f (Db.2 f hf) _ _ ((h.push L).push M)
   simpa [AV.ups,AV.up]using this
  simpa using this
 have tC:=fun L=>zL7 F x.result Eb _ _ (h.push L)
 have bC:=fun L=>zEo Aa.1 (fun y hy=>zWm F g hg y (Aa.2 y hy)) (h.push L)
 have eC:=fun L=>zQm F g hg x.ret xa _ _ (h.push L)
 have gC:=fun S=>hg x.pos S
 unfold It.atm
 generalize x.body.map (St.atm g)=z2 at*
 generalize g x.pos=gp at*
 generalize x.ret.atm g=z at*
 refine ADet.intro mixed call161 func161 rfl ?_;simp[ntmps161];refine dB [(4,3),(6,3),(9,3),(9,7),(10,3),(10,7),(12,3),(12,7),(12,11),(14,3),(14,7),(14,11),(16,3),(16,7),(16,11),(16,15),(18,3),(18,7),(18,11),(18,15)] (by kernel_rfl) ?_
 simp[o8];refine cq (fC _) ?_;simp[o3];refine cq (tC _) ?_;simp[o5];refine cq (bC _) ?_;simp[o4];refine cq (eC _) ?_;simp[o1];refine cq (gC _) ?_;simp
theorem zTq(F:Nat)(g:Int->Int)(hg:AtF F g)(p:List It)(hp:PrSm p)(S:ASt):ADet Tryz.prog 137 [.agg [.p (prog p)],.fn (.func F) [] []] S (.agg [.p (prog (p.map (It.atm g)))]) S:=by
 have iC:∀L,CpAt F (L::S) 0->ADet Tryz.prog 160 [.p (.sl 16 (p.map It.enc)),.fn (.func 161) [] [.ptr 0 8 0,.ptr 0 3 0,.ptr 0 5 0,.ptr 0 4 0,.ptr 0 1 0]] (L::S) (.p (.sl 16 ((p.map (It.atm g)).map It.enc))) (L::S):=fun L h=>
  zOV (It.atm g) p hp.1 161 _ (L::S) fun x hx M=>by
   have:=zWn F g hg x (hp.2 x hx) _ _ (h.push M)
   simpa [AV.ups,AV.up]using this
 refine ADet.intro mixed call137 func137 rfl ?_;simp[ntmps137,prog];refine cq (iC _ ⟨rfl,rfl,rfl,rfl,rfl,rfl,rfl⟩) ?_;simp
mutual
theorem zQn:∀e:Ex,e.atm (fun n=>n)=e
 | .mk op i n s p l a=>by rw[Ex.atm,zJh l]
theorem zJh:∀l:List Ex,Ex.atms (fun n=>n) l=l
 | []=>rfl
 |x::l=>by rw[Ex.atms,zQn x,zJh l]
end
mutual
theorem zWo:∀s:St,s.atm (fun n=>n)=s
 | .mk op n s ns t i p es b e l a=>by
  have h:es.map (Ex.atm fun n=>n)=es:=by rw[<-zVH];exact zJh es
  rw[St.atm,zFj b,zFj e,zNH l,h]
theorem zFj:∀l:List St,St.atms (fun n=>n) l=l
 | []=>rfl
 |x::l=>by rw[St.atms,zWo x,zFj l]
theorem zNH:∀l:List (ArOf St),Ar.atms (fun n=>n) l=l
 | []=>rfl
 |⟨v,n,b⟩::l=>by rw[Ar.atms,zFj b,zNH l]
end
theorem zWp(x:It):x.atm (fun n=>n)=x:=by
 obtain⟨k,n,f,r,b,e,a⟩:=x
 unfold It.atm;simp only;rw[<-zQl,zFj b,zQn e]
theorem zVI(p:List It)(hp:PrSm p)(S:ASt):ADet Tryz.prog 100 [.agg [.p (prog p)]] S (.agg [.p (prog p)]) S:=by
 have hg:AtF 138 (fun n=>n):=fun n S=>by
  refine ADet.intro mixed call138 func138 rfl ?_;simp[ntmps138]
 have cC:=fun S=>zTq 138 _ hg p hp S
 have hid:p.map (It.atm fun n=>n)=p:=by
  conv=>rhs;rw[<-List.map_id p]
  exact List.map_congr_left fun x _=>zWp x
 rw[hid]at cC;refine ADet.intro mixed call100 func100 rfl ?_;simp[ntmps100];refine cq (cC _) ?_;simp
end Go.Proofs.YtgpajpilkapciaaGreatDoor
