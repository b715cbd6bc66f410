/- A part of the proof. -/
import Derived.Test.YtgpajpilkapciaaGreatDoorXNCa
set_option linter.unusedVariables false
set_option linter.unusedSimpArgs false
set_option maxRecDepth 100000
set_option maxHeartbeats 32000000
namespace Go.Proofs.YtgpajpilkapciaaGreatDoor
open Go.RowKit _root_.Go.Proofs.Tryz
variable{P:Program}{S:ASt}{env:List Fi}{fr:List AV}{p:List It}
theorem zXl{Pr:Prot}{φ:Fi2}{w:World}(h:Rel Pr φ S w){i k n:Nat}{E:TypeId}{cs:List AV}(ho:get2 S 0 i=some (.row E k n cs)){rows:List (List PV)}(hn:rows.length=n)
  (hk:∀(r:Nat) (row:List PV),rows[r]? =some row->row.length=k) (hc:∀(r:Nat) (row:List PV) (j:Nat) (p:PV),rows[r]? =some row->row[j]? =some p->cs[r*k+j]? =some (.p p)):
  ∃Pr',Stp Pr φ w Pr' φ w/\Rel Pr' φ (set2 S 0 i .dead) w/\∀x,RA Pr φ (.rsl 0 i n k) x->RP Pr' (.sl k rows) x:=by
 by_cases h0:0<n
 .exact zXf h ho hn h0 hk hc
 have hz:n=0:=by omega
 subst hz
 have hr:rows=[]:=List.eq_nil_of_length_eq_zero hn
 subst hr;refine⟨Pr,Stp.refl _ _ _,⟨fun d j o hj=>?_,h.dis,h.lt,h.pr,h.tb,by rw[zAH];exact h.shape⟩,fun x hx=>?_⟩
 .rw[zF _ ho]at hj
  split at hj
  .rename_i hc
   obtain⟨rfl,rfl⟩:=hc
   cases hj
   obtain⟨e,he,_⟩:=h.obj 0 j _ ho
   exact⟨e,he,trivial⟩
  exact h.obj d j o hj
 generalize Sf:(0:Nat)=z at hx
 cases hx with
 |rnil=>exact .slemp _ none 0 (Nat.zero_le _)
 |rsl h1 h2 h3 h4 h5 h6 h7=>omega
theorem SWP.fzM{P:Program}{c:Code}{fr:List AV}{Q:Exit->List AV->ASt->Prop}{i j m k n:Nat}{E t:TypeId}{cs ds:List AV}(ho:get2 S 0 i=some (.row E k n cs))(hj:get2 S 0 j=some (.cells ds t))(hm:ds[m]? =some (.rsl 0 i n k))(rows:List (List PV))(hn:rows.length=n)
  (hk:∀(r:Nat) (row:List PV),rows[r]? =some row->row.length=k) (hc:∀(r:Nat) (row:List PV) (j:Nat) (p:PV),rows[r]? =some row->row[j]? =some p->cs[r*k+j]? =some (.p p))
  (h:SWP P c fr (set2 (set2 S 0 i .dead) 0 j (.cells (ds.set m (.p (.sl k rows))) t)) Q):SWP P c fr S Q:=fun Pr φ a w hf hR hne=>by
 obtain⟨Pr',s1,r1,key⟩:=zXl hR ho hn hk hc
 have ir:j≠i:=fun e=>by rw[e,ho]at hj;cases hj
 have qr:get2 (set2 S 0 i .dead) 0 j=some (.cells ds t):=by
  rw[zF _ ho,if_neg (fun e=>ir e.2)];exact hj
 have r2:Rel Pr' φ (set2 (set2 S 0 i .dead) 0 j (.cells (ds.set m (.p (.sl k rows))) t)) w:=by
  refine⟨fun d mm o sk=>?_,r1.dis,r1.lt,r1.pr,r1.tb,by rw[zAH];exact r1.shape⟩
  rw[zF _ qr]at sk;split at sk
  .rename_i hc
   obtain⟨rfl,rfl⟩:=hc
   cases sk
   obtain⟨e0,e1,e2,g0,Du,e3,e4,e5,e6,e7⟩:=hR.obj 0 mm _ hj
   obtain⟨xv,rr,lq,yv,Eu,sr,tr,Av,Fu,Gu⟩:=r1.obj 0 mm _ qr
   rw[e1]at rr;cases rr;rw[e3]at sr;cases sr;rw[e4]at tr;cases tr;refine⟨e0,e1,e2,g0,Du,e3,e4,by rw[List.length_set];exact e5,fun jj cc x a b=>?_,Gu⟩
   rw[List.getElem?_set]at a;split at a
   .rename_i Lj
    subst Lj;split at a
    .cases a
     exact .p (key x (e6 m _ x hm b))
    cases a
   exact Fu jj cc x a b
  exact r1.obj d mm o sk
 refine wp_mono (h Pr' φ a w (hf.mono s1.pl (Fle.refl _)) r2 hne) fun e a' w' hp=>Post.trans s1 rfl e a' w' hp
theorem SWP.mono{c:Code}{Q Q':Exit->List AV->ASt->Prop}(h:SWP P c fr S Q)(k:∀e f T,Q e f T->Q' e f T):SWP P c fr S Q':=fun Pr φ a w h1 h2 h3=>wp_mono (h Pr φ a w h1 h2 h3) fun e a' w' hp=>by
 obtain⟨ia,S',Pr',φ',k1,k2,k3,k4,k5⟩:=hp
 exact⟨ia,S',Pr',φ',k _ _ _ k1,k2,k3,k4,k5⟩
theorem SWP.cat{x y:Code}{Q:Exit->List AV->ASt->Prop}(F0:List AV)(S0:ASt)(h:SWP P x fr S (fun e f T=>e= .normal/\zBA f T F0 S0))(k:SWP P y F0 S0 Q):SWP P (.seq x y) fr S Q:=
 SWP.seq (h.mono fun e f T hq=>by
  obtain⟨rfl,hl⟩:=hq
  exact SWP.leads hl k)
theorem zJD{Q:Exit->List AV->ASt->Prop}{body:Code}{α:Type}(I:α->Prop)(F:α->List AV)(G:α->ASt)(μ:α->Nat)(n:α->Nat)(a0:α)(h0:I a0)(hn:∀a,I a->top (G a0)<=n a)(hL:zBA fr S (F a0) (G a0))(h:∀a,I a->awp P body (F a) (G a) (zIP I F G μ (μ a) n Q)):awp P (.loop body) fr S Q:=⟨α,I,F,G,μ,a0,n,h0,hL,hn,h⟩
theorem zLc{α:Type}{enc:α->List PV}{k:Nat}(h:∀x,(enc x).length=k):∀{l:List α},(rowC enc l).length=k*l.length
 | []=>rfl
 |x::l=>by
  have:=zLc h (l:=l)
  unfold rowC at*;simp only[List.map_cons,List.flatten_cons,List.length_append,List.length_map,h,this,List.length_cons];rw[Nat.mul_succ,Nat.add_comm]
theorem zGX{α:Type}(enc:α->List PV)(n:Nat)(hn:∀x,(enc x).length=n):∀(l:List α) (k:Nat) (y:α),l[k]? =some y->((rowC enc l).drop (k*n)).take n=(enc y).map AV.p
 |x::l,0,y,h=>by
  simp at h;subst h
  have e:rowC enc (x::l)=(enc x).map AV.p++rowC enc l:=rfl
  rw[e,Nat.zero_mul,List.drop_zero,List.take_append_of_le_length (by simp[hn]),List.take_of_length_le (by simp[hn])]
 |x::l,k+1,y,h=>by
  have e:rowC enc (x::l)=(enc x).map AV.p++rowC enc l:=rfl
  have hl:((enc x).map AV.p).length=n:=by simp[hn]
  rw[e,List.drop_append,hl,List.drop_of_length_le (by rw[hl,Nat.add_mul];omega),List.nil_append]
  have e1:(k+1)*n-n=k*n:=by rw[Nat.add_mul];omega
  rw[e1];exact zGX enc n hn l k y (by simpa using h)
theorem zUx{α:Type}(enc:α->List PV)(n:Nat)(hn:∀x,(enc x).length=n){l:List α}{r j:Nat}{y:α}{q:PV}(h:l[r]? =some y)(hq:(enc y)[j]? =some q):(rowC enc l)[r*n+j]? =some (.p q):=by
 have h1:=zGX enc n hn l r y h
 have hj:j<n:=by rw[<-hn y];exact(List.getElem?_eq_some_iff.1 hq).1
 have h2:(((rowC enc l).drop (r*n)).take n)[j]? =some (.p q):=by rw[h1,List.getElem?_map,hq];rfl
 rw[List.getElem?_take,if_pos hj,List.getElem?_drop]at h2;exact h2
def addA{α:Type}(S:List (List α))(d:Nat)(A:List α):List (List α):=S.set d (S.getD d []++A)
theorem zRx{α:Type}(S:List (List α))(d:Nat)(o:α):addD S d o=addA S d [o]:=rfl
theorem zRy{α:Type}(S:List (List α))(d:Nat)(A B:List α):addA (addA S d A) d B=addA S d (A++B):=by
 unfold addA
 by_cases hd:d<S.length
 .rw[List.set_set]
  congr 1
  rw[List.getD_eq_getElem?_getD,List.getElem?_set_self hd,Option.getD_some,List.append_assoc]
 rw[List.set_eq_of_length_le (by rw[List.length_set];omega),List.set_eq_of_length_le (by omega),List.set_eq_of_length_le (by omega)]
theorem zA9{α:Type}{S:List (List α)}{d:Nat}(hd:d<S.length)(A:List α)(d' i:Nat):get2 (addA S d A) d' i=if d'=d/\(S.getD d []).length<=i then A[i-(S.getD d []).length]? else get2 S d' i:=by
 unfold get2 addA
 by_cases h:d'=d
 .subst h
  rw[List.getElem?_set_self hd,List.getD_eq_getElem?_getD,List.getElem?_eq_getElem hd];simp only[Option.bind_some,Option.getD_some,true_and];rw[List.getElem?_append];split
  .rw[if_neg (by omega)]
  rw[if_pos (by omega)]
 rw[List.getElem?_set_ne (fun e=>h e.symm),if_neg (fun e=>h e.1)]
theorem zBK{α:Type}{S:List (List α)}{d i:Nat}{o:α}(h:get2 S d i=some o):d<S.length/\i<(S.getD d []).length:=by
 unfold get2 at h
 obtain⟨L,h1,h2⟩:=Option.bind_eq_some_iff.1 h
 obtain⟨hd,e⟩:=List.getElem?_eq_some_iff.1 h1
 refine⟨hd,?_⟩;rw[List.getD_eq_getElem?_getD,h1];exact(List.getElem?_eq_some_iff.1 h2).1
theorem zRz{α:Type}(L:List α)(S:List (List α))(d:Nat)(A:List α):addA (L::S) (d+1) A=L::addA S d A:=rfl
theorem zHH(d i:Nat)(o:AObj):((set2 S d i o).getD d []).length=(S.getD d []).length:=by
 have:=congrArg (·[d]?) (zAH S d i o)
 simp only[List.getElem?_map]at this;rw[List.getD_eq_getElem?_getD,List.getD_eq_getElem?_getD];cases h1:(set2 S d i o)[d]?<;>cases h2:S[d]?<;>rw[h1,h2]at this<;>simp at this ⊢
 exact this
theorem zR0(p:List It)(S:ASt)(c:Xf)(σ:Xs):((updX p S c σ).getD c.d []).length=(S.getD c.d []).length:=by
 unfold updX;rw[zHH,zHH,zHH]
structure XHas (S:ASt) (c:Xf):Prop where
 w:∃o,get2 S c.d c.jW=some o
 o:∃o,get2 S c.d c.jO=some o
 l:∃o,get2 S c.d c.jL=some o
 wo:c.jW≠c.jO
 wl:c.jW≠c.jL
 ol:c.jO≠c.jL
theorem XAt.has{c:Xf}{σ:Xs}(h:XAt p S c σ):XHas S c:=⟨⟨_,h.w⟩,⟨_,h.o⟩,⟨_,h.l⟩,h.wo,h.wl,h.ol⟩
theorem zBL{c:Xf}(h:XHas S c)(τ:Xs)(d i:Nat):get2 (updX p S c τ) d i=if d=c.d/\i=c.jW then some (wkX p c τ)else if d=c.d/\i=c.jL then some (rlX τ.left)else if d=c.d/\i=c.jO then some (roX τ.out)else get2 S d i:=by
 obtain⟨⟨ow,hw⟩,⟨oo,ho⟩,⟨ol,hl⟩,h1,h2,h3⟩:=h
 unfold updX
 have e1:get2 (set2 S c.d c.jO (roX τ.out)) c.d c.jL=some ol:=by rw[zF _ ho,if_neg (by omega)];exact hl
 have e2:get2 (set2 (set2 S c.d c.jO (roX τ.out)) c.d c.jL (rlX τ.left)) c.d c.jW=some ow:=by rw[zF _ e1,if_neg (by omega),zF _ ho,if_neg (by omega)];exact hw
 rw[zF _ e2,zF _ e1,zF _ ho]
theorem XHas.updX{c:Xf}(h:XHas S c)(τ:Xs):XAt p (updX p S c τ) c τ:=by
 have h1:=h.wo
 have h2:=h.wl
 have h3:=h.ol
 refine⟨?_,?_,?_,h1,h2,h3⟩
 .rw[zBL h,if_pos ⟨rfl,rfl⟩]
 .rw[zBL h,if_neg (by omega),if_neg (by omega),if_pos ⟨rfl,rfl⟩]
 rw[zBL h,if_neg (by omega),if_pos ⟨rfl,rfl⟩]
theorem XHas.add{c:Xf}(h:XHas S c)(A:List AObj):XHas (addA S c.d A) c:=by
 obtain⟨⟨ow,hw⟩,⟨oo,ho⟩,⟨ol,hl⟩,h1,h2,h3⟩:=h
 have hd:=(zBK hw).1
 refine⟨⟨ow,?_⟩,⟨oo,?_⟩,⟨ol,?_⟩,h1,h2,h3⟩
 .rw[zA9 hd,if_neg (by have:=(zBK hw).2;omega)];exact hw
 .rw[zA9 hd,if_neg (by have:=(zBK ho).2;omega)];exact ho
 rw[zA9 hd,if_neg (by have:=(zBK hl).2;omega)];exact hl
def Xf.next(c:Xf)(S:ASt):Xf:=⟨c.d,c.jW,c.jO,(S.getD c.d []).length⟩
theorem XHas.next{c:Xf}(h:XHas S c)(o:AObj)(A:List AObj):XHas (addA S c.d (o::A)) (c.next S):=by
 have h0:=h.add (o::A)
 obtain⟨⟨ow,hw⟩,⟨oo,ho⟩,⟨ol,hl⟩,h1,h2,h3⟩:=h
 have hd:=(zBK hw).1
 refine⟨h0.w,h0.o,⟨o,?_⟩,h1,?_,?_⟩
 .show get2 (addA S c.d (o::A)) c.d (S.getD c.d []).length=some o
  rw[zA9 hd,if_pos ⟨rfl,Nat.le_refl _⟩,Nat.sub_self];rfl
 .have:=(zBK hw).2;show c.jW≠(S.getD c.d []).length;omega
 have:=(zBK ho).2;show c.jO≠(S.getD c.d []).length;omega
theorem zNx(S:ASt)(T:ASt)(h:S.map List.length=T.map List.length)(d:Nat)(A:List AObj):(addA S d A).map List.length=(addA T d A).map List.length:=by
 have hl:S.length=T.length:=by have:=congrArg List.length h;simpa using this
 apply List.ext_getElem?
 intro j
 have hj:∀d:Nat,(S[d]?).map List.length=(T[d]?).map List.length:=fun d=>by
  have:=congrArg (·[d]?) h
  simpa using this
 have hd:(S.getD d []).length=(T.getD d []).length:=by
  have:=hj d
  rw[List.getD_eq_getElem?_getD,List.getD_eq_getElem?_getD];cases hs:S[d]?<;>cases ht:T[d]?<;>rw[hs,ht]at this<;>simp at this ⊢
  exact this
 unfold addA;rw[List.getElem?_map,List.getElem?_map,List.getElem?_set,List.getElem?_set,hl];split
 .split
  .simpa using hd
  rfl
 exact hj j
theorem zR1{c:Xf}(h:XHas S c)(τ:Xs)(A:List AObj):addA (updX p S c τ) c.d A=updX p (addA S c.d A) c τ:=by
 have hd:=(zBK h.w.choose_spec).1
 have Ia:c.d<(updX p S c τ).length:=by
  have:=congrArg List.length (zBZ p S c τ)
  simp only[List.length_map]at this;omega
 refine zDe (by rw[zBZ];exact zNx _ _ (zBZ p S c τ) _ _) fun d i=>?_
 rw[zA9 Ia,zR0,zBL h,zBL (h.add A),zA9 hd]
 have b1:=(zBK h.w.choose_spec).2
 have b2:=(zBK h.o.choose_spec).2
 have b3:=(zBK h.l.choose_spec).2
 by_cases hc:d=c.d/\(S.getD c.d []).length<=i
 .rw[if_pos hc,if_neg (by omega),if_neg (by omega),if_neg (by omega),if_pos hc]
 rw[if_neg hc,if_neg hc]
def zIU(p:List It)(c:Xf)(σ:Xs):AObj:=.cells [.p (prog p),.rsl 0 c.jO σ.out.length 4,.p (.v (.slice none 0 0))] 71
theorem zMf{c:Xf}{σ:Xs}(h:XAt p S c σ)(fr:List AV)(L:List AObj):zBA fr (L::set2 S c.d c.jW (zIU p c σ)) fr (L::updX p (addA S c.d [rlX []]) (c.next S) ⟨σ.out,[]⟩):=by
 have hd:=(zBK h.w).1
 have Ia:c.d<(set2 S c.d c.jW (zIU p c σ)).length:=by
  have:=congrArg List.length (zAH S c.d c.jW (zIU p c σ))
  simp only[List.length_map]at this;omega
 have hg:=zHH (S:=S) c.d c.jW (zIU p c σ)
 have b1:=(zBK h.w).2
 have b2:=(zBK h.o).2
 have b3:=(zBK h.l).2
 have h1:=h.wo
 have h2:=h.wl
 have h3:=h.ol
 have a1:=zBA.ghostD (fr:=fr) (S:=L::set2 S c.d c.jW (zIU p c σ)) (d:=c.d+1) (by simpa using Ia) 74 2 (by decide)
 rw[zRx,zRz]at a1
 have gW:get2 (addA (set2 S c.d c.jW (zIU p c σ)) c.d [.row 74 2 0 []]) c.d c.jW=some (zIU p c σ):=by
  rw[zA9 Ia,hg,if_neg (by omega),zF _ h.w,if_pos ⟨rfl,rfl⟩]
 have gL:get2 (addA (set2 S c.d c.jW (zIU p c σ)) c.d [.row 74 2 0 []]) c.d (S.getD c.d []).length=some (.row 74 2 0 []):=by
  rw[zA9 Ia,hg,if_pos ⟨rfl,Nat.le_refl _⟩,Nat.sub_self];rfl
 have a2:=zBA.nilD (fr:=fr) (S:=L::addA (set2 S c.d c.jW (zIU p c σ)) c.d [.row 74 2 0 []]) (d:=c.d+1) (i:=c.jW) (j:=(S.getD c.d []).length) (m:=2) (k:=2) (E:=74) gW rfl gL
 rw[zAi]at a2;refine zBA.trans a1 ?_
 have e:set2 (addA (set2 S c.d c.jW (zIU p c σ)) c.d [.row 74 2 0 []]) c.d c.jW (.cells (List.set [.p (prog p),.rsl 0 c.jO σ.out.length 4,.p (.v (.slice none 0 0))] 2 (.rsl 0 (S.getD c.d []).length 0 2)) 71)=updX p (addA S c.d [rlX []]) (c.next S) ⟨σ.out,[]⟩:=by
  have hN:=h.has.next (rlX []) []
  refine zDe ?_ fun d i=>?_
  .rw[zAH,zBZ]
   exact zNx _ _ (zAH _ _ _ _) _ _
  rw[zF _ gW,zBL hN]
  by_cases hi:d=c.d/\i=c.jW
  .rw[if_pos hi,if_pos (show d=(c.next S).d/\i=(c.next S).jW from hi)];rfl
  rw[if_neg hi,if_neg (show ¬(d=(c.next S).d/\i=(c.next S).jW)from hi),zA9 Ia,hg,zA9 hd,zF _ h.w,if_neg hi]
  by_cases hl:d=c.d/\i=(S.getD c.d []).length
  .rw[if_pos (show d=(c.next S).d/\i=(c.next S).jL from hl),if_pos (by omega),hl.2,Nat.sub_self];rfl
  rw[if_neg (show ¬(d=(c.next S).d/\i=(c.next S).jL)from hl)]
  by_cases ho:d=c.d/\i=c.jO
  .rw[if_pos (show d=(c.next S).d/\i=(c.next S).jO from ho),if_neg (show ¬(d=c.d/\(S.getD c.d []).length<=i)from fun hh=>absurd (ho.2 ▸ hh.2) (Nat.not_le_of_lt b2)),ho.1,ho.2];exact h.o
  rw[if_neg (show ¬(d=(c.next S).d/\i=(c.next S).jO)from ho)]
  by_cases hc:d=c.d/\(S.getD c.d []).length<=i
  .rw[if_pos hc,if_pos hc]
   have:∀(x y:AObj) ,[x][i-(S.getD c.d []).length]? =[y][i-(S.getD c.d []).length]?:=fun x y=>by
    have Xd:1<=i-(S.getD c.d []).length:=by omega
    rw[List.getElem?_eq_none Xd,List.getElem?_eq_none Xd]
   exact this _ _
  rw[if_neg hc,if_neg hc]
 rw[e]at a2;exact a2
theorem zR2{c:Xf}(h:XHas S c)(l:List (List Fi × List St))(A:List AObj)(τ:Xs):updX p (addA S c.d (rlX l::A)) (c.next S) τ=updX p (addA S c.d (rlX τ.left::A)) (c.next S) τ:=by
 have hd:=(zBK h.w.choose_spec).1
 refine zDe (by
  rw[zBZ,zBZ]
  apply List.ext_getElem?
  intro j;unfold addA;rw[List.getElem?_map,List.getElem?_map,List.getElem?_set,List.getElem?_set];split
  .simp
  rfl) fun d i=>?_
 rw[zBL (h.next _ _),zBL (h.next _ _)]
 by_cases hw:d=(c.next S).d/\i=(c.next S).jW
 .rw[if_pos hw,if_pos hw]
 rw[if_neg hw,if_neg hw]
 by_cases hl:d=(c.next S).d/\i=(c.next S).jL
 .rw[if_pos hl,if_pos hl]
 rw[if_neg hl,if_neg hl]
 by_cases ho:d=(c.next S).d/\i=(c.next S).jO
 .rw[if_pos ho,if_pos ho]
 rw[if_neg ho,if_neg ho,zA9 hd,zA9 hd]
 by_cases hc:d=c.d/\(S.getD c.d []).length<=i
 .rw[if_pos hc,if_pos hc]
  have:0<i-(S.getD c.d []).length:=by
   have:¬(d=c.d/\i=(S.getD c.d []).length):=hl
   omega
  obtain⟨k,hk⟩:∃k,i-(S.getD c.d []).length=k+1:=⟨_,(Nat.succ_pred_eq_of_pos this).symm⟩
  rw[hk,List.getElem?_cons_succ,List.getElem?_cons_succ]
 rw[if_neg hc,if_neg hc]
theorem zR3{c:Xf}{σ:Xs}(h:XAt p S c σ)(A:List AObj)(τ:Xs):set2 (updX p (addA S c.d (rlX τ.left::A)) (c.next S) τ) c.d c.jW (wkX p c ⟨τ.out,σ.left⟩)=updX p (addA S c.d (rlX τ.left::A)) c ⟨τ.out,σ.left⟩:=by
 have hd:=(zBK h.w).1
 have hN:=h.has.next (rlX τ.left) A
 have hA:=h.has.add (rlX τ.left::A)
 have b1:=(zBK h.w).2
 have b2:=(zBK h.o).2
 have b3:=(zBK h.l).2
 have hw:get2 (updX p (addA S c.d (rlX τ.left::A)) (c.next S) τ) c.d c.jW=some (wkX p (c.next S) τ):=(hN.updX (p:=p) τ).w
 refine zDe (by rw[zAH,zBZ,zBZ]) fun d i=>?_
 rw[zF _ hw,zBL hN,zBL hA]
 by_cases hi:d=c.d/\i=c.jW
 .rw[if_pos hi,if_pos hi]
 rw[if_neg hi,if_neg hi,if_neg (show ¬(d=(c.next S).d/\i=(c.next S).jW)from hi)]
 have h2:=h.wl
 have h3:=h.ol
 by_cases hl:d=(c.next S).d/\i=(c.next S).jL
 .rw[if_pos hl]
  have xf:d=c.d/\i=(S.getD c.d []).length:=hl
  rw[if_neg (by omega),if_neg (by omega),zA9 hd,if_pos (by omega),xf.2,Nat.sub_self];rfl
 rw[if_neg hl]
 by_cases ho:d=(c.next S).d/\i=(c.next S).jO
 .have wa:d=c.d/\i=c.jO:=ho
  rw[if_pos ho,if_neg (by omega),if_pos wa]
 rw[if_neg ho]
 by_cases vg:d=c.d/\i=c.jL
 .rw[if_pos vg,zA9 hd,if_neg (by omega),vg.1,vg.2];exact h.l
 rw[if_neg vg,if_neg (show ¬(d=c.d/\i=c.jO)from ho)]
attribute [local simp] List.replicate List.range List.range.loop
theorem zZj(p:List It)(hp:PrSm p)(env:List Fi)(he:zh env)(hl:env.length<=4000000000)(e:Ex)(Fc:ExSm e)(S:ASt):ADet Tryz.prog 107 [.agg [.p (prog p)],.p (.sl 4 (env.map Fi.enc)),exV e] S (.tup [tyV (exTy p env e),B (zOm p env e).isSome]) S:=by
 have:=zXW p hp env he hl e Fc S
 unfold exTy
 cases h:zOm p env e with
 |none=>rw[h]at this;exact this.lessTup (.cons (.agg (.cons (.refl _) (.cons (.refl _) (.cons (.p (.nil 3)) (.refl _))))) (.refl _))
 |some t=>rw[h]at this;exact this
theorem zNy(p:List It)(hp:PrSm p)(nm:BA)(S:ASt):ADet Tryz.prog 62 [.agg [.p (prog p)],Sg nm] S (.tup [.p (.sl 4 (((zW p nm).getD []).map Fi.enc)),B (zW p nm).isSome]) S:=by
 have:=zDX p hp nm S
 cases hf:zW p nm with
 |none=>rw[hf]at this;exact this.lessTup (.cons (.p (.nil 4)) (.refl _))
 |some l=>rw[hf]at this;exact this
theorem zao(p:List It)(hp:PrSm p)(env:List Fi)(he:zh env)(hl:env.length<=4000000000)(x:Pl):∃b1 b2,∀S,ADet Tryz.prog 108 [.agg [.p (prog p)],.p (.sl 4 (env.map Fi.enc)),plV x] S (.tup [tyV (plT p env x),B b1,B b2]) S:=by
 have top:∀S,ADet Tryz.prog 108 [.agg [.p (prog p)],.p (.sl 4 (env.map Fi.enc)),plV x] S (zBP (zBC p env x)) S:=fun S=>by
  have pC:=fun(A B C:AObj)=>zEs p hp env he hl x ([A,B,C,fnT p env]::S) 0 3 rfl
  simp only[fnT]at pC;refine ADet.intro mixed call108 func108 rfl ?_;simp[ntmps108];refine cq (pC _ _ _) ?_
  cases zBC p env x with
  |none=>simp[zBP]
  |some r=>
   obtain⟨t,w⟩:=r
   simp[zBP]
 unfold plT
 cases h:zBC p env x with
 |none=>
  rw[h]at top
  exact⟨false,false,fun S=>(top S).lessTup (.cons (.agg (.cons (.refl _) (.cons (.refl _) (.cons (.p (.nil 3)) (.refl _))))) (.refl _))⟩
 |some r=>
  rw[h]at top
  obtain⟨t,w⟩:=r
  exact⟨w,true,top⟩
theorem zIL(p:List It)(env:List Fi):∀l:List Ex,zCB p env l=l.map fun e=>(exTy p env e,e.pos)
 | []=>rfl
 |e::l=>by rw[zCB,zIL p env l];rfl
theorem zLd(p:List It)(env:List Fi):∀l:List Ex,zCG p env l=l.map (exTy p env)
 | []=>rfl
 |e::l=>by rw[zCG,zLd p env l];rfl
theorem zPB(p:List It)(env:List Fi)(l:List Ex){q:Nat}(h:q<l.length):zCB p env (l.take (q+1))=zCB p env (l.take q)++[(exTy p env l[q],l[q].pos)]:=by
 rw[zIL,zIL,List.take_succ_eq_append_getElem h,List.map_append];rfl
attribute [local simp] zf za zn zb List.forall_mem_cons List.contains_cons List.contains_nil List.find? zm zl zZ
theorem zZk(p:List It)(hp:PrSm p)(env:List Fi)(he:zh env)(hl:env.length<=4000000000)(s:St)(ka:StSm s)(hn:s.u5.length=s.names.length)(σ:Xs)(ho:σ.out.length+s.u5.length<=4294967296)(hf:σ.left.length+1<=4294967296)(r:CrR):XC p 111 [.p (.sl 4 (env.map Fi.enc)),stmV s] σ (σ.add (zD3 (zAg s.names (zCG p env s.u5)) s.body (zCB p env s.u5) r)):=fun S c h=>by
 have jd:s.u5.length<=20000:=by obtain⟨_,_,_,_,_,_,xa,_⟩:=ka;exact xa.1
 have xb:s.u5.length<=maxLen:=by unfold maxLen;omega
 have Fc:∀e∈s.u5,ExSm e:=by obtain⟨_,_,_,_,_,_,xa,_⟩:=ka;exact xa.2
 refine ADet.intro mixed call111 func111 rfl ?_;simp[ntmps111];refine zBF 79 4 (by decide) [.cells (stV s) 57,.cells [.osl 4 [] 0 2,.p (.sl 15 (s.body.map St.enc))] 74] (fun q:Nat=>q<=s.u5.length) (fun q=>([.ptr (c.d+1) c.jW 0,.p (.sl 4 (env.map Fi.enc)),.any,.any,.any,.ptr 0 0 0,.ptr 0 1 0,.any,.any,.any,.any,.any,.any,.any,.any,.p (.sl 8 (s.u5.map Ex.enc)),I s.u5.length,I q]++List.replicate 50 .any)) (fun q=>[.cells (stV s) 57,.cells [.osl 4 ((zAg (s.names.take q) (zCG p env s.u5)).map Fi.enc) 0 2,.p (.sl 15 (s.body.map St.enc))] 74,.tok 79 4 q]::updX p S c ⟨σ.out++zCB p env (s.u5.take q),σ.left⟩) (fun q=>s.u5.length-q) 0 (Nat.zero_le _) ?_ ?_ ?_ ?_
 .simp
 .simp
 .have e:(⟨σ.out++zCB p env (s.u5.take 0),σ.left⟩:Xs)=σ:=by rw[List.take_zero,zCB,List.append_nil]
  rw[e,zCl h];rfl
 intro q hq
 have hA:=h.updX ⟨σ.out++zCB p env (s.u5.take q),σ.left⟩
 have ca:(zCB p env (s.u5.take q)).length=q:=by rw[zF6,List.length_take];omega
 by_cases hlt:q<s.u5.length
 .have aa:(q:Int)<(s.u5.length:Int):=by omega
  have hw:=zA hlt
  have Gj:q<s.names.length:=by omega
  have hx:=zZj p hp env he hl _ (Fc _ (List.getElem_mem hlt))
  have Fd:=zPB p env s.u5 hlt
  have Hu:(zCG p env s.u5)[q]'(by rw[zDg];exact hlt)=exTy p env s.u5[q]:=by simp only[zLd,List.getElem_map]
  have Rg:=zI8 (zCG p env s.u5) s.names q Gj (by rw[zDg];exact hlt)
  rw[Hu]at Rg
  have mh:(zAg (s.names.take q) (zCG p env s.u5)).length=q:=by unfold zAg;simp[zDg];omega
  have hB:set2 (set2 (updX p S c ⟨σ.out++zCB p env (s.u5.take q),σ.left⟩) c.d c.jO (.row 51 4 (σ.out.length+q+1) (rowC crE (σ.out++zCB p env (s.u5.take q))++(crE (exTy p env s.u5[q],s.u5[q].pos)).map AV.p))) c.d c.jW (.cells [.p (.sl 16 (p.map It.enc)),.rsl 0 c.jO (σ.out.length+q+1) 4,.rsl 0 c.jL σ.left.length 2] 71)=updX p S c ⟨σ.out++zCB p env (s.u5.take (q+1)),σ.left⟩:=by
   have h0:=zUq hA (exTy p env s.u5[q],s.u5[q].pos)
   rw[zGA h]at h0;rw[Fd,<-List.append_assoc,<-h0];unfold roX wkX;rw[zNu];simp only[List.length_append,List.length_singleton,ca];rfl
  have vc:∀o,get2 (set2 (updX p S c ⟨σ.out++zCB p env (s.u5.take q),σ.left⟩) c.d c.jO o) c.d c.jW=some (wkX p c ⟨σ.out++zCB p env (s.u5.take q),σ.left⟩):=fun o=>by
   rw[zF _ hA.o,if_neg (fun e=>h.wo e.2)];exact hA.w
  have ml:=hA.w
  have ur:=hA.o
  have ta:σ.out.length+q+1<=4294967296:=by omega
  have dq:q+1<=4294967296:=by omega
  simp only[wkX,roX,prog,List.length_append,ca]at ml ur hx vc
  generalize updX p S c ⟨σ.out++zCB p env (s.u5.take q),σ.left⟩=T at*
  generalize hy:s.u5[q]=x at*
  generalize hm:s.names[q]=nm at*
  generalize exTy p env x=t at*
  simp[hlt,aa,hy,zy];refine zCe [(10,11,9)] [] (by kernel_rfl) (by kernel_rfl) (by kernel_rfl) (by simp) ?_
  simp[ml,zy];refine cq (hx _) ?_;simp;refine dB [(4,9)] (by kernel_rfl) ?_
  simp[ml,ur,vc,ta,zP];refine dB [(1,9)] (by kernel_rfl) ?_
  simp[strs,hlt,aa,Gj,hm,mh,dq,Fi.enc,zP];exact⟨q+1,hlt,by omega,hw,⟨by rw[Rg];simp[Fi.enc,zP],rfl⟩,hB⟩
 have aa:¬(q:Int)<(s.u5.length:Int):=by omega
 obtain rfl:q=s.u5.length:=by omega
 rw[List.take_length]at hA ⊢
 have hB:=zRm hA (zAg (s.names.take s.u5.length) (zCG p env s.u5),s.body)
 rw[zGA h]at hB
 have vc:∀o,get2 (set2 (updX p S c ⟨σ.out++zCB p env s.u5,σ.left⟩) c.d c.jL o) c.d c.jW=some (wkX p c ⟨σ.out++zCB p env s.u5,σ.left⟩):=fun o=>by
  rw[zF _ hA.l,if_neg (fun e=>h.wl e.2)];exact hA.w
 have ml:=hA.w
 have vr:=hA.l
 have ic:σ.left.length+1<=4294967296:=hf
 simp only[wkX,rlX,prog]at ml vr vc
 have e:σ.add (zD3 (zAg s.names (zCG p env s.u5)) s.body (zCB p env s.u5) r)=⟨σ.out++zCB p env s.u5,σ.left++[(zAg (s.names.take s.u5.length) (zCG p env s.u5),s.body)]⟩:=by
  rw[hn,List.take_length];rfl
 rw[e,<-hB]
 generalize updX p S c ⟨σ.out++zCB p env s.u5,σ.left⟩=T at*
 simp[aa];refine dB [(4,6)] (by kernel_rfl) ?_
 simp[ml,vr,vc,ic];unfold rlX wkX;rw[zNu];simp[bdE,prog]
theorem stsX(hp:PrSm p){l:List St}(hs:∀s∈l,XSt p s)(ka:∀s∈l,StSm s)(jd:l.length<=20000)(he:zh env)(hb:env.length+20001*zAA l<=4000000000){σ:Xs}(hr:zGC σ (zAA l)):XC p 46 [.p (.sl 4 (env.map Fi.enc)),.p (.sl 15 (l.map St.enc))] σ (σ.add (crSs p env l)):=fun S c h=>by
 have xb:l.length<=maxLen:=by unfold maxLen;omega
 have e0:updX p S c (σ.add (crSs p env (l.take 0)))=S:=by rw[List.take_zero,crSs,zXg,zCl h]
 refine ADet.intro mixed call46 func46 rfl ?_;simp[ntmps46];refine zH (fun q:Nat=>q<=l.length) (fun q=>([.ptr (c.d+1) c.jW 0,.p (.sl 4 ((envQ p env (l.take q)).map Fi.enc)),.any,.any,.any,.any,.any,.any,.p (.sl 15 (l.map St.enc)),I l.length,I q]++List.replicate 15 .any)) (fun q=>[]::updX p S c (σ.add (crSs p env (l.take q)))) (fun q=>l.length-q) 0 (Nat.zero_le _) ?_ ?_ ?_
 .simp[envQ]
 .rw[e0];simp
 intro q hq
 by_cases hlt:q<l.length
 .have aa:(q:Int)<(l.length:Int):=by omega
  have hw:=zA hlt
  have ra:l.length-(q+1)<l.length-q:=by omega
  have fb:=zXh l hlt
  obtain⟨hE,xr⟩:=zRu hp (l.take q) (fun s hs=>ka s (List.mem_of_mem_take hs)) env he
  have xr:(envQ p env (l.take q)).length<=env.length+zAA (l.take q):=xr
  have hN:CrN (zAA (l.take q)) (crSs p env (l.take q)):=zIF hp (fun s hs=>ka s (List.mem_of_mem_take hs)) he
  have hR:zGC (σ.add (crSs p env (l.take q))) l[q].nd:=(hr.le fb).add hN
  have hx:=(hs _ (List.getElem_mem hlt)).at hE (by omega) hR h
  have hV:=(zLW hp _ (ka _ (List.getElem_mem hlt)) _ hE).vars
  have ta:(envQ p env (l.take q)).length+(crS p (envQ p env (l.take q)) l[q]).vars.length<=4294967296:=by omega
  have Pn:(envQ p env (l.take q)).length<=maxLen:=by unfold maxLen;omega
  have n1:=zRq p env l hlt
  have n2:=zRr p env l hlt
  rw[add_add,<-n2]at hx
  generalize rj:updX p S c (σ.add (crSs p env (l.take (q+1))))=T2 at*
  generalize updX p S c (σ.add (crSs p env (l.take q)))=T at*
  generalize envQ p env (l.take q)=env2 at*
  generalize hy:l[q]=x at*
  generalize (crS p env2 x).vars=vs at*
  by_cases h0:0<vs.length
  .simp[hlt,aa,hy,zBN]
   refine dB [] (by kernel_rfl) ?_
   simp[zBN];refine cq (hx _) ?_;simp[h0,ta];exact⟨q+1,hlt,ra,⟨by rw[n1,List.map_append],hw⟩,rj.symm⟩
  have hz:vs=[]:=List.eq_nil_of_length_eq_zero (by omega)
  subst hz;simp[hlt,aa,hy,zBN];refine dB [] (by kernel_rfl) ?_
  simp[zBN];refine cq (hx _) ?_;simp;exact⟨q+1,hlt,ra,⟨by rw[n1,List.append_nil],hw⟩,rj.symm⟩
 have aa:¬(q:Int)<(l.length:Int):=by omega
 obtain rfl:q=l.length:=by omega
 simp[aa]
def blkE(bs:List (List St)):List (List PV):=bs.map fun b=>[.sl 15 (b.map St.enc)]
def bsNd(bs:List (List St)):Nat:=(bs.map zAA).sum
theorem zVU{p:List It}(hp:PrSm p){env:List Fi}(he:zh env):∀bs:List (List St),(∀b∈bs,∀s∈b,StSm s)->CrN (bsNd bs) (crB p env bs)
 | [],_=>by rw[crB];exact CrN.z _
 |b::bs,h=>by
  have e:bsNd (b::bs)=zAA b+bsNd bs:=by unfold bsNd;rw[List.map_cons,List.sum_cons]
  rw[crB,e];exact(zIF hp (h b (List.mem_cons_self ..)) he).cat (zVU hp he bs fun c hc=>h c (List.mem_cons_of_mem _ hc))
theorem zR4:∀(bs:List (List St)) {q:Nat} (hq:q<bs.length),bsNd (bs.take q)+zAA bs[q]<=bsNd bs
 |b::bs,0,hq=>by simp[bsNd]
 |b::bs,q+1,hq=>by
  have:=zR4 bs (q:=q) (by simpa using hq)
  simp only[bsNd,List.take_succ_cons,List.map_cons,List.sum_cons,List.getElem_cons_succ]at this ⊢;omega
theorem zMg(hp:PrSm p){bs:List (List St)}(hs:∀b∈bs,∀s∈b,XSt p s)(ka:∀b∈bs,∀s∈b,StSm s)(La:bs.length<=20000)(jd:∀b∈bs,b.length<=20000)(he:zh env)(hb:env.length+20001*bsNd bs<=4000000000){σ:Xs}(hr:zGC σ (bsNd bs)):XC p 109 [.p (.sl 4 (env.map Fi.enc)),.p (.sl 1 (blkE bs))] σ (σ.add (crB p env bs)):=fun S c h=>by
 have xb:bs.length<=maxLen:=by unfold maxLen;omega
 have e0:updX p S c (σ.add (crB p env (bs.take 0)))=S:=by rw[List.take_zero,crB,zXg,zCl h]
 refine ADet.intro mixed call109 func109 rfl ?_;simp[ntmps109,blkE];refine zH (fun q:Nat=>q<=bs.length) (fun q=>[.ptr (c.d+1) c.jW 0,.p (.sl 4 (env.map Fi.enc)),.any,.any,.any,.any,.any,.any,.p (.sl 1 (blkE bs)),I bs.length,I q,.any,.any,.any,.any,.any,.any,.any,.any]) (fun q=>[]::updX p S c (σ.add (crB p env (bs.take q)))) (fun q=>bs.length-q) 0 (Nat.zero_le _) ?_ ?_ ?_
 .simp[blkE]
 .rw[e0];simp
 intro q hq
 by_cases hlt:q<bs.length
 .have aa:(q:Int)<(bs.length:Int):=by omega
  have hw:=zA hlt
  have ra:bs.length-(q+1)<bs.length-q:=by omega
  have fb:=zR4 bs hlt
  have hm:=List.getElem_mem hlt
  have hN:=zVU hp he (bs.take q) (fun b hb=>ka b (List.mem_of_mem_take hb))
  have hR:zGC (σ.add (crB p env (bs.take q))) (zAA bs[q]):=(hr.le fb).add hN
  have hx:=(stsX hp (hs _ hm) (ka _ hm) (jd _ hm) he (by omega) hR).at h
  have n2:=zUv p env bs hlt
  rw[add_add,<-n2]at hx
  generalize rj:updX p S c (σ.add (crB p env (bs.take (q+1))))=T2 at*
  generalize updX p S c (σ.add (crB p env (bs.take q)))=T at*
  generalize hy:bs[q]=x at*
  simp[hlt,aa,hy,blkE];refine cq (hx _) ?_;simp;exact⟨q+1,hlt,ra,hw,rj.symm⟩
 have aa:¬(q:Int)<(bs.length:Int):=by omega
 obtain rfl:q=bs.length:=by omega
 simp[aa]
def inV(env g:List Fi):AV:=match g with
 | []=>.p (.fsl 4 (env.map Fi.enc))
 |f::l=>.osl 4 ((env++f::l).map Fi.enc) 0 4
def inL(A B:AObj)(env g:List Fi):List AObj:=match g with
 | []=>[A,B]
 |f::l=>[A,B,.dead,.dead,.tok 79 4 (env++f::l).length]
def inN(g:List Fi):Nat:=match g with
 | []=>2
 |f::l=>5
theorem zMh(env:List Fi):inV env []= .p (.fsl 4 (env.map Fi.enc)):=rfl
theorem zLe(env l:List Fi)(f:Fi):inV env (f::l)= .osl 4 ((env++f::l).map Fi.enc) 0 4:=rfl
theorem zMi(A B:AObj)(env:List Fi):inL A B env []=[A,B]:=rfl
theorem zLf(A B:AObj)(env l:List Fi)(f:Fi):inL A B env (f::l)=[A,B,.dead,.dead,.tok 79 4 (env++f::l).length]:=rfl
theorem zZl:inN []=2:=rfl
theorem zUy(f:Fi)(l:List Fi):inN (f::l)=5:=rfl
theorem zNz:∀(l:List Ar) {q:Nat} (hq:q<l.length),((l.take q).map Ar.nd).sum+l[q].nd<=(l.map Ar.nd).sum
 |b::l,0,hq=>by simp
 |b::l,q+1,hq=>by
  have:=zNz l (q:=q) (by simpa using hq)
  simp only[List.take_succ_cons,List.map_cons,List.sum_cons,List.getElem_cons_succ]at this ⊢;omega
theorem zZm(hp:PrSm p)(s:St)(ka:StSm s)(i3:∀a∈s.arms,∀x∈a.body,XSt p x)(he:zh env)(hb:env.length+20001*(s.arms.map Ar.nd).sum<=4000000000){σ:Xs}(hr:zGC σ (s.arms.map Ar.nd).sum):XC p 110 [.p (.sl 4 (env.map Fi.enc)),stmV s] σ (σ.add (crAs p ((zW p s.u4).getD []) env s.arms)):=fun S c h=>by
 obtain⟨_,_,_,_,_,_,xa,_,_,Jd,_,_,Pm,rg⟩:=ka
 have Db:=zCW (nm:=s.u4) hp
 have fC:=fun S=>zNy p hp s.u4 S
 generalize (zW p s.u4).getD []=fs at*
 have ic:fs.length<=20000:=Db.1
 have Iu:fs.length<=maxLen:=by unfold maxLen;omega
 have xb:s.arms.length<=maxLen:=by unfold maxLen;omega
 have e0:updX p S c (σ.add (crAs p fs env (s.arms.take 0)))=S:=by rw[List.take_zero,crAs,zXg,zCl h]
 have hw:=h.w
 simp only[wkX,prog]at hw fC;refine ADet.intro mixed call110 func110 rfl ?_;simp[ntmps110];refine dB [] (by kernel_rfl) ?_
 simp[hw];refine cq (fC _) ?_;simp;refine zH (fun q:Nat=>q<=s.arms.length) (fun q=>([.ptr (c.d+1) c.jW 0,.p (.sl 4 (env.map Fi.enc)),.any,.any,.any,.ptr 0 0 0,.p (.sl 4 (fs.map Fi.enc))]++(List.replicate 17 .any++([.p (.sl 3 (s.arms.map Ar.enc)),I s.arms.length,I q]++List.replicate 41 .any)))) (fun q=>[.cells (stV s) 57]::updX p S c (σ.add (crAs p fs env (s.arms.take q)))) (fun q=>s.arms.length-q) 0 (Nat.zero_le _) ?_ ?_ ?_
 .simp
 .rw[e0];simp
 intro q hq
 by_cases hlt:q<s.arms.length
 .have aa:(q:Int)<(s.arms.length:Int):=by omega
  have Ya:=zA hlt
  have ra:s.arms.length-(q+1)<s.arms.length-q:=by omega
  have fb:=zNz s.arms hlt
  have hm:=List.getElem_mem hlt
  have hN:=zMd hp Db (s.arms.take q) (fun a ha x hx env he=>zLW hp x (rg a (List.mem_of_mem_take ha) x hx) env he) env he
  have hR:zGC (σ.add (crAs p fs env (s.arms.take q))) s.arms[q].nd:=(hr.le fb).add hN
  have n2:=zRs p fs env s.arms hlt
  have Wq:=zNt fs s.arms[q].variant s.arms[q].name
  have Ju:=arNd s.arms[q]
  have ah:bsNd [s.arms[q].body]=zAA s.arms[q].body:=by simp[bsNd]
  have br:zAA s.arms[q].body=(s.arms[q].body.map St.nd).sum:=rfl
  have hx:=(zMg hp (bs:=[s.arms[q].body]) (fun b hb x hx=>by
   simp only[List.mem_singleton]at hb;subst hb;exact i3 _ hm x hx) (fun b hb x hx=>by
   simp only[List.mem_singleton]at hb;subst hb;exact rg _ hm x hx) (by simp) (fun b hb=>by
   simp only[List.mem_singleton]at hb;subst hb;exact(Pm _ hm).2.2) (zA7 he (zMc Db s.arms[q].variant s.arms[q].name)) (by rw[List.length_append];omega) (hR.le (by omega))).at h
  rw[crB,crB,zIJ,add_add,<-n2]at hx
  have rn:=fun j (hj:j<fs.length)=>zRt fs s.arms[q].variant s.arms[q].name hj
  have Ku:=fun j=>zNt (fs.take j) s.arms[q].variant s.arms[q].name
  generalize rj:updX p S c (σ.add (crAs p fs env (s.arms.take (q+1))))=T2 at*
  generalize updX p S c (σ.add (crAs p fs env (s.arms.take q)))=T at*
  generalize hy:s.arms[q]=x at*
  simp[hlt,aa,hy,Ar.enc]
  refine zPb (fun j:Nat=>j<=fs.length) (fun j=>([.ptr (c.d+1) c.jW 0,.p (.sl 4 (env.map Fi.enc)),.any,.any,.any,.ptr 0 0 0,.p (.sl 4 (fs.map Fi.enc)),.any,.any,.ptr 0 1 0,inV env (armG (fs.take j) x.variant x.name)]++(List.replicate 13 .any++([.p (.sl 3 (s.arms.map Ar.enc)),I s.arms.length,I q,.any,.any,.any,.any,.any,.any,.any,.any,.any,.p (.sl 4 (fs.map Fi.enc)),I fs.length,I j]++List.replicate 29 .any)))) (fun j=>inL (.cells (stV s) 57) (.cells [Sg x.variant,Sg x.name,.p (.sl 15 (x.body.map St.enc))] 67) env (armG (fs.take j) x.variant x.name)::T) (fun j=>fs.length-j) (fun j=>inN (armG (fs.take j) x.variant x.name)) 0 (Nat.zero_le _) (fun j _=>by
   show 2<=inN (armG (fs.take j) x.variant x.name)
   cases armG (fs.take j) x.variant x.name with
   |nil=>exact Nat.le_refl _
   |cons f l=>show 2<=5;decide) ?_ ?_ ?_
  .have:armG (fs.take 0) x.variant x.name=[]:=rfl
   rw[this,zMh];simp
  .have:armG (fs.take 0) x.variant x.name=[]:=rfl
   rw[this,zMi];simp
  intro j hj
  have Lu:=Ku j
  rw[List.length_take]at Lu
  by_cases qd:j<fs.length
  .have ff:(j:Int)<(fs.length:Int):=by omega
   have nl:=zA qd
   have Lj:fs.length-(j+1)<fs.length-j:=by omega
   have lf:=rn j qd
   have ta:env.length+(armG (fs.take j) x.variant x.name).length<=4294967295:=by omega
   have eq:env.length<=4294967295:=by omega
   generalize Bv:armG (fs.take j) x.variant x.name=g at*
   generalize hf:fs[j]=f at*
   cases hh1:sEq f.name x.variant with
   |false=>
    have hh:hitG f x.variant x.name=false:=by unfold hitG;rw[hh1];rfl
    rw[hh]at lf
    have Ld:armG (fs.take (j+1)) x.variant x.name=g:=by rw[lf];simp
    cases g with
    |nil=>
     rw[zMh,zMi];simp[qd,ff,hf,Fi.enc,zP,hh1];refine⟨j+1,qd,Lj,?_⟩;rw[Ld,zMh,zZl,zMi]
     simp[nl]
    |cons f0 g0=>
     rw[zLe,zLf];simp[qd,ff,hf,Fi.enc,zP,hh1];refine⟨j+1,qd,Lj,?_⟩;rw[Ld,zLe,zUy,zLf]
     simp[nl,Fi.enc]
   |true=>
    cases hh2:sEq x.name emS with
    |true=>
     have hh:hitG f x.variant x.name=false:=by unfold hitG;rw[hh1,hh2];rfl
     rw[hh]at lf
     have Ld:armG (fs.take (j+1)) x.variant x.name=g:=by rw[lf];simp
     cases g with
     |nil=>
      rw[zMh,zMi];simp[qd,ff,hf,Fi.enc,zP,hh1,hh2];refine⟨j+1,qd,Lj,?_⟩;rw[Ld,zMh,zZl,zMi]
      simp[nl]
     |cons f0 g0=>
      rw[zLe,zLf];simp[qd,ff,hf,Fi.enc,zP,hh1,hh2];refine⟨j+1,qd,Lj,?_⟩;rw[Ld,zLe,zUy,zLf]
      simp[nl,Fi.enc]
    |false=>
     have hh:hitG f x.variant x.name=true:=by unfold hitG;rw[hh1,hh2];rfl
     rw[hh,if_pos rfl]at lf
     cases g with
     |nil=>
      rw[zMh,zMi];simp[qd,ff,hf,Fi.enc,zP,hh1,hh2,eq];refine⟨j+1,qd,Lj,?_⟩;rw[lf,List.nil_append,zLe,zUy,zLf]
      simp[nl,Fi.enc]
     |cons f0 g0=>
      rw[zLe,zLf];rw[List.length_cons]at ta;simp[qd,ff,hf,Fi.enc,zP,hh1,hh2,ta];refine⟨j+1,qd,Lj,?_⟩;rw[lf,List.cons_append,zLe,zUy,zLf];simp[nl,Fi.enc];omega
  have ff:¬(j:Int)<(fs.length:Int):=by omega
  obtain rfl:j=fs.length:=by omega
  rw[List.take_length]at*
  generalize armG fs x.variant x.name=g at*
  cases g with
  |nil=>
   rw[zMh,zMi];simp[ff];simp only[List.append_nil,blkE,List.map_cons,List.map_nil]at hx;refine cq (ADet.sub (.cons (.refl _) (.cons (.p (.fsl _ _)) (.cons (.osl (.refl _)) (.refl _)))) (hx _)) ?_;simp
   exact⟨q+1,hlt,ra,Ya,rj.symm⟩
  |cons f0 g0=>
   rw[zLe,zLf];simp[ff];simp only[List.map_append,blkE,List.map_cons,List.map_nil]at hx;refine cq (ADet.sub (.cons (.refl _) (.cons (.osl (.refl _)) (.cons (.osl (.refl _)) (.refl _)))) (hx _)) ?_;simp;exact⟨q+1,hlt,ra,Ya,rj.symm⟩
 have aa:¬(q:Int)<(s.arms.length:Int):=by omega
 obtain rfl:q=s.arms.length:=by omega
 simp[aa]
theorem stX1(hp:PrSm p)(s:St)(ka:StSm s)(hG:StG p s)(hop:s.op=1):XSt p s:=fun env σ he hb hr S c h=>by
 obtain⟨_,_,_,_,_,_,xa,_⟩:=ka
 obtain⟨_,_,g1,_⟩:=hG
 have xb:s.u5.length<=maxLen:=by have:=xa.1;unfold maxLen;omega
 cases Fc:s.u5 with
 |nil=>have:=g1 (by omega);rw[Fc]at this;simp at this
 |cons e es=>
 have fq:ExSm e:=xa.2 e (by rw[Fc];exact List.mem_cons_self ..)
 have hx:=fun S=>zZj p hp env he (by omega) e fq S
 have hc:crS p env s=⟨[⟨s.name,exTy p env e⟩],[],[],[]⟩:=by rw[zE9,if_pos hop,Fc];rfl
 rw[hc,zRo,zCl h]
 have hw:=h.w
 simp only[wkX,prog]at hw hx
 generalize exTy p env e=t at*
 refine ADet.intro mixed call75 func75 rfl ?_;simp[ntmps75,hop,Fc];refine zCe [(13,14,7)] [] (by kernel_rfl) (by kernel_rfl) (by kernel_rfl) (by simp) ?_
 simp[hw,zy];refine cq (hx _) ?_;simp[Fi.enc,zP]
theorem zap(hp:PrSm p)(s:St)(ka:StSm s)(hG:StG p s)(hop:s.op=12):XSt p s:=fun env σ he hb hr S c h=>by
 have hc:crS p env s=⟨[⟨s.u4,inTy 12 s.type⟩,⟨s.name,inTy 11 s.type⟩],[],[],[]⟩:=by rw[zE9,if_neg (by omega),if_neg (by omega),if_pos hop]
 rw[hc,zRo,zCl h];refine ADet.intro mixed call75 func75 rfl ?_;simp[ntmps75,hop,Fi.enc,zP,inTy];refine⟨⟨rfl,rfl,?_⟩,rfl,rfl,?_⟩<;>simp[Ty.args,zP]
theorem stX2(hp:PrSm p)(s:St)(ka:StSm s)(hG:StG p s)(hop:s.op=2):XSt p s:=fun env σ he hb hr S c h=>by
 obtain⟨_,_,_,Fa,_,_,xa,_⟩:=ka
 obtain⟨_,_,g1,_,g3,_⟩:=hG
 have g3:=g3 hop
 have hc:crS p env s=⟨zBc ((zW p s.name).getD []) s.names,[],[],[]⟩:=by rw[zE9,if_neg (by omega),if_pos hop]
 rw[hc,zRo,zCl h]
 have fC:=fun S=>zNy p hp s.name S
 have Db:=(zCW (nm:=s.name) hp).1
 generalize (zW p s.name).getD []=fs at*
 have Gd:s.names.length<=maxLen:=by unfold maxLen;omega
 have ic:fs.length<=maxLen:=by unfold maxLen;omega
 have hw:=h.w
 simp only[wkX,prog]at hw fC;refine ADet.intro mixed call75 func75 rfl ?_;simp[ntmps75,hop];refine dB [] (by kernel_rfl) ?_
 simp[hw];refine cq (fC _) ?_;simp;refine zBF 79 4 (by decide) [.cells (stV s) 57] (fun q:Nat=>q<=s.names.length) (fun q=>([.ptr (c.d+1) c.jW 0,.any,.any,.any,.any,.ptr 0 0 0,.any,.any,.any,.osl 4 ((zBc fs (s.names.take q)).map Fi.enc) 0 1,.p (.sl 4 (fs.map Fi.enc))]++(List.replicate 50 .any++([.p (strs s.names),I s.names.length,I q]++List.replicate 78 .any)))) (fun q=>[.cells (stV s) 57,.tok 79 4 q]::S) (fun q=>s.names.length-q) 0 (Nat.zero_le _) ?_ ?_ ?_ ?_
 .simp[zBc]
 .simp[hop]
 .rfl
 intro q hq
 have mh:(zBc fs (s.names.take q)).length=q:=by unfold zBc;simp;omega
 by_cases hlt:q<s.names.length
 .have aa:(q:Int)<(s.names.length:Int):=by omega
  have Ya:=zA hlt
  have ra:s.names.length-(q+1)<s.names.length-q:=by omega
  have Na:q<fs.length:=by omega
  have ht:=zI7 fs s.names q hlt Na
  have ta:q+1<=4294967296:=by omega
  generalize hy:s.names[q]=nm at*
  generalize hf:fs[q]=f at*
  simp[hlt,aa,strs,hy,Na,hf,mh,ta,Fi.enc,zP];exact⟨q+1,hlt,ra,by simp[ht,Fi.enc,zP,Ya],rfl⟩
 have aa:¬(q:Int)<(s.names.length:Int):=by omega
 obtain rfl:q=s.names.length:=by omega
 rw[List.take_length];simp[aa]
theorem zaq(hp:PrSm p)(s:St)(ka:StSm s)(hG:StG p s)(i1:∀x∈s.body,XSt p x)(hop:s.op=11):XSt p s:=fun env σ he hb hr S c h=>by
 have fb:=stNd s
 have eB:zAA s.body=(s.body.map St.nd).sum:=rfl
 obtain⟨_,_,_,Fa,_,Ua,xa,La,_,_,Lf,_⟩:=ka
 have hc:crS p env s=(crSs p (env++[⟨s.name,.mk 14 emS (plT p env s.place).args⟩]) s.body).bare:=by rw[zE9,if_neg (by omega),if_neg (by omega),if_neg (by omega),if_pos hop]
 obtain⟨b1,b2,hx⟩:=zao p hp env he (by omega) s.place
 have ah:bsNd [s.body]=zAA s.body:=by simp[bsNd]
 have hB:=(zMg hp (bs:=[s.body]) (fun b hb x hx=>by
   simp only[List.mem_singleton]at hb;subst hb;exact i1 x hx) (fun b hb x hx=>by
   simp only[List.mem_singleton]at hb;subst hb;exact Lf x hx) (by simp) (fun b hb=>by
   simp only[List.mem_singleton]at hb;subst hb;exact La) (zA7 he (zC7 (nm:=s.name) (zKB hp he s.place))) (by rw[List.length_append,List.length_singleton];omega) (hr.le (by omega))).at0 h
 rw[crB,crB,zIJ]at hB;rw[hc,zUu]
 show ADet _ _ _ _ (.p (.sl 4 [])) _
 generalize σ.add (crSs p (env++[⟨s.name,.mk 14 emS (plT p env s.place).args⟩]) s.body)=τ at*
 have hw:=h.w
 simp only[wkX,prog]at hw hx
 have jb:env.length+1<=4294967296:=by omega
 have Km:env.length<=maxLen:=by unfold maxLen;omega
 generalize plT p env s.place=t at*
 refine ADet.less (.p (.nil 4)) ?_;refine ADet.intro mixed call75 func75 rfl ?_;simp[ntmps75,hop];refine zCe [(12,13,15)] [] (by kernel_rfl) (by kernel_rfl) (by kernel_rfl) (by simp) ?_
 simp[hw];refine cq (hx _) ?_;simp;refine dB [] (by kernel_rfl) ?_
 simp[jb,zP,Fi.enc];rw[List.map_append]at hB;refine cq (ADet.sub (.cons (.refl _) (.cons (.osl (.refl _)) (.cons (.osl (.refl _)) (.refl _)))) (hB _)) ?_;simp
theorem stX8(hp:PrSm p)(s:St)(ka:StSm s)(hG:StG p s)(i3:∀a∈s.arms,∀x∈a.body,XSt p x)(hop:s.op=8):XSt p s:=fun env σ he hb hr S c h=>by
 have fb:=stNd s
 have hc:crS p env s=crAs p ((zW p s.u4).getD []) env s.arms:=by rw[zE9,if_neg (by omega),if_neg (by omega),if_neg (by omega),if_neg (by omega),if_pos hop]
 have hv:(crAs p ((zW p s.u4).getD []) env s.arms).vars=[]:=by
  cases s.arms with
  |nil=>rw[crAs];rfl
  |cons a l=>rw[zDA];rfl
 have hB:=(zZm hp s ka i3 he (by omega) (hr.le (by omega))).at0 h
 rw[hc,hv]
 show ADet _ _ _ _ (.p (.sl 4 [])) _
 generalize σ.add (crAs p ((zW p s.u4).getD []) env s.arms)=τ at*
 refine ADet.less (.p (.nil 4)) ?_;simp only[stmV,stU,hop]at hB;refine ADet.intro mixed call75 func75 rfl ?_;simp[ntmps75,hop];refine cq (hB _) ?_;simp
theorem zar(hp:PrSm p)(s:St)(ka:StSm s)(hG:StG p s)(hop:s.op=10):XSt p s:=fun env σ he hb hr S c h=>by
 have fb:=stNd s
 have g2:=hG
 obtain⟨_,_,_,g2,_⟩:=g2
 have Bn:s.u5.length<=(s.u5.map Ex.nd).sum:=zEc s.u5
 have h1:=hr.1
 have h2:=hr.2
 have hc:crS p env s=zD3 (zAg s.names (zCG p env s.u5)) s.body (zCB p env s.u5) (crSs p (zAg s.names (zCG p env s.u5)) s.body):=by rw[zE9,if_neg (by omega),if_neg (by omega),if_neg (by omega),if_neg (by omega),if_neg (by omega),if_pos hop]
 have hB:=(zZk p hp env he (by omega) s ka (g2 hop) σ (by omega) (by omega) (crSs p (zAg s.names (zCG p env s.u5)) s.body)).at0 h
 rw[hc]
 show ADet _ _ _ _ (.p (.sl 4 [])) _
 generalize σ.add (zD3 (zAg s.names (zCG p env s.u5)) s.body (zCB p env s.u5) (crSs p (zAg s.names (zCG p env s.u5)) s.body))=τ at*
 refine ADet.less (.p (.nil 4)) ?_;simp only[stmV,stU,hop]at hB;refine ADet.intro mixed call75 func75 rfl ?_;simp[ntmps75,hop];refine cq (hB _) ?_;simp
theorem stXd(hp:PrSm p)(s:St)(ka:StSm s)(hG:StG p s)(i1:∀x∈s.body,XSt p x)(i2:∀x∈s.els,XSt p x)(h1:s.op≠1)(h2:s.op≠2)(h8:s.op≠8)(h10:s.op≠10)(oe:s.op≠11)(uc:s.op≠12):XSt p s:=fun env σ he hb hr S c h=>by
 have fb:=stNd s
 have eB:zAA s.body=(s.body.map St.nd).sum:=rfl
 have eE:zAA s.els=(s.els.map St.nd).sum:=rfl
 obtain⟨_,_,_,Fa,_,Ua,xa,La,jb,_,Lf,kf,_⟩:=ka
 have hc:crS p env s=(crSs p env s.body).cat (crSs p env s.els):=by rw[zE9,if_neg h1,if_neg h2,if_neg uc,if_neg oe,if_neg h8,if_neg h10]
 have ah:bsNd [s.body,s.els]=zAA s.body+zAA s.els:=by simp[bsNd]
 have hB:=(zMg hp (bs:=[s.body,s.els]) (fun b hb x hx=>by
   simp only[List.mem_cons,List.not_mem_nil,or_false]at hb
   rcases hb with rfl|rfl
   .exact i1 x hx
   .exact i2 x hx) (fun b hb x hx=>by
   simp only[List.mem_cons,List.not_mem_nil,or_false]at hb
   rcases hb with rfl|rfl
   .exact Lf x hx
   .exact kf x hx) (by simp) (fun b hb=>by
   simp only[List.mem_cons,List.not_mem_nil,or_false]at hb
   rcases hb with rfl|rfl
   .exact La
   exact jb) he (by omega) (hr.le (by omega))).at0 h
 rw[crB,crB,crB,<-zEz,zIJ]at hB;rw[hc]
 show ADet _ _ _ _ (.p (.sl 4 [])) _
 generalize σ.add ((crSs p env s.body).cat (crSs p env s.els))=τ at*
 refine ADet.less (.p (.nil 4)) ?_;refine ADet.intro mixed call75 func75 rfl ?_;simp[ntmps75,h1,h2,h8,h10,oe,uc];refine cq (ADet.sub (by repeat' constructor) (hB _)) ?_
 simp
theorem stX(hp:PrSm p):∀s:St,StSm s->StG p s->XSt p s:=by
 intro s
 induction s using St.ind with
 |h s i1 i2 i3=>
 intro ka hG
 have vk:=ka
 have Mu:=hG
 obtain⟨_,_,_,_,_,_,_,_,_,_,Lf,kf,_,bq⟩:=vk
 obtain⟨_,_,_,_,_,gb,ge,ga⟩:=Mu
 have j1:=fun x hx=>i1 x hx (Lf x hx) (gb x hx)
 have j2:=fun x hx=>i2 x hx (kf x hx) (ge x hx)
 have j3:=fun a ha x hx=>i3 a ha x hx (bq a ha x hx) (ga a ha x hx)
 by_cases h1:s.op=1
 .exact stX1 hp s ka hG h1
 by_cases h2:s.op=2
 .exact stX2 hp s ka hG h2
 by_cases uc:s.op=12
 .exact zap hp s ka hG uc
 by_cases oe:s.op=11
 .exact zaq hp s ka hG j1 oe
 by_cases h8:s.op=8
 .exact stX8 hp s ka hG j3 h8
 by_cases h10:s.op=10
 .exact zar hp s ka hG h10
 exact stXd hp s ka hG j1 j2 h1 h2 h8 h10 oe uc
end Go.Proofs.YtgpajpilkapciaaGreatDoor
