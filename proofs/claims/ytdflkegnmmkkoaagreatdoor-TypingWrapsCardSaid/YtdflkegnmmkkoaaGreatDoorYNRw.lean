/- A part of the proof. -/
import Derived.Test.YtdflkegnmmkkoaaGreatDoorYNRu
set_option linter.unusedVariables false
set_option linter.unusedSimpArgs false
set_option maxRecDepth 100000
set_option maxHeartbeats 32000000
namespace Go.Proofs.YtdflkegnmmkkoaaGreatDoor
open Go.RowKit _root_.Go.Proofs.Tryz
attribute [local simp] List.replicate List.range List.range.loop List.forall_mem_cons List.contains_cons List.contains_nil List.find?
variable{l:List Tok}{n:Nat}
theorem zCv{s:RS}{x:Tok}(h:l[s.at_]? =some x):zBd l s=x.pos:=by unfold zBd;rw[h]
def SgOk(l:List Tok)(k:Nat)(rd:RS->Option (Ex × RS)):Prop:=∀s e s',s.at_<=l.length->rd s=some (e,s')->RdC 204 [I k] l s s' (exV e)/\s'.at_<=l.length
structure XQ where
 e:Ex
 q:PV
 rw:List (List PV)
abbrev XQ.row(x:XQ):List PV:=[pU x.e.op,pI x.e.int,pS x.e.name,pS x.e.u2,pS x.e.place.name,x.q,.sl 8 x.rw,pI x.e.pos]
abbrev XQ.av(x:XQ):List AV:=[U x.e.op,I x.e.int,Sg x.e.name,Sg x.e.u2,Sg x.e.place.name,.p x.q,.p (.sl 8 x.rw),I x.e.pos]
def XQ.ok(x:XQ):Prop:=LeP x.q (strs x.e.place.path)/\LeRows x.rw (x.e.args.map Ex.enc)
def XQ.of(e:Ex):XQ:=⟨e,strs e.place.path,e.args.map Ex.enc⟩
theorem XQ.of_ok(e:Ex):(XQ.of e).ok:=⟨.refl _,.refl _⟩
def XQ.two(x:XQ)(op:Int)(r:Ex)(pos:Int):XQ:=⟨ex0 op 0 emS [x.e,r] pos,.v (.slice none 0 0),[x.row,r.enc]⟩
theorem XQ.row_le{x:XQ}(h:x.ok):LeRow x.row x.e.enc:=by
 rw[zf];exact .cons (.refl _) (.cons (.refl _) (.cons (.refl _) (.cons (.refl _) (.cons (.refl _) (.cons h.1 (.cons (.sl h.2) (.refl _)))))))
theorem XQ.two_ok{x:XQ}(h:x.ok)(op:Int)(r:Ex)(pos:Int):(x.two op r pos).ok:=⟨.nil 1,.cons (XQ.row_le h) (.refl _)⟩
theorem XQ.av_le{x:XQ}(h:x.ok):LeA (.agg x.av) (exV x.e):=.agg (.cons (.refl _) (.cons (.refl _) (.cons (.refl _) (.cons (.refl _) (.cons (.refl _) (.cons (.p h.1) (.cons (.p (.sl h.2)) (.refl _))))))))
def zBf(l:List Tok)(rd:RS->Option (Ex × RS))(k:Nat):Nat->XQ->RS->Option (XQ × RS)
 |0,_,_=>none
 |n+1,x,s=>
  if s.bad=true then some (x,s)
  else match l[s.at_]? with
   |none=>some (x,s)
   |some t=>match zB3 t.text (zB4 k)with
    |none=>some (x,s)
    |some op=>match rd ⟨s.at_+1,s.bad,s.full⟩with
     |none=>none
     |some (r,s1)=>if k=3 then some (x.two op r t.pos,s1)else zBf l rd k n (x.two op r t.pos) s1
theorem zDS{l:List Tok}{rd:RS->Option (Ex × RS)}{k:Nat}:∀(n:Nat) (x:XQ) (s:RS) (e':Ex) (s':RS),x.ok->zDf l rd k n x.e s=some (e',s')->∃y,zBf l rd k n x s=some (y,s')/\y.e=e'/\y.ok
 |0,x,s,e',s',ho,h=>by simp[zDf]at h
 |n+1,x,s,e',s',ho,h=>by
  unfold zDf at h;unfold zBf
  cases hb:s.bad with
  |true=>
   rw[hb,if_pos rfl]at h;cases h
   exact⟨x,by rw[if_pos rfl],rfl,ho⟩
  |false=>
  rw[hb,if_neg (by simp)]at h
  rw[if_neg (by simp)]
  cases hx:l[s.at_]? with
  |none=>rw[hx]at h;cases h;exact⟨x,rfl,rfl,ho⟩
  |some t=>
  rw[hx]at h
  dsimp only at h ⊢
  cases hf:zB3 t.text (zB4 k)with
  |none=>rw[hf]at h;cases h;exact⟨x,rfl,rfl,ho⟩
  |some op=>
  rw[hf]at h
  dsimp only at h ⊢
  cases hr:rd ⟨s.at_+1,false,s.full⟩with
  |none=>rw[hr]at h;cases h
  |some y=>
  obtain⟨r,s1⟩:=y
  rw[hr]at h
  dsimp only at h ⊢
  by_cases h3:k=3
  .rw[if_pos h3]at h ⊢
   cases h;exact⟨_,rfl,rfl,XQ.two_ok ho _ _ _⟩
  rw[if_neg h3]at h ⊢
  exact zDS n _ s1 e' s' (XQ.two_ok ho _ _ _) h
theorem zaK{rd:RS->Option (Ex × RS)}(Ma:SgOk l 1 rd){s s1 s':RS}{e0 e':Ex}(hs:s.at_<=l.length)(hb:s.bad=false)(h1:rd s=some (e0,s1))(hq:zDf l rd 0 n e0 s1=some (e',s'))(xd:s'.at_<=l.length):RdC 204 [I (0:Nat)] l s s' (exV e'):=by
 obtain⟨y,h,rfl,hy⟩:=zDS n (XQ.of e0) s1 e' s' (XQ.of_ok e0) hq
 refine RdC.less (r:=.agg y.av) (XQ.av_le hy) (RdC.intro fun S d i hR=>?_)
 have ho:=(hR.upd s hs).o
 have hn:=hR.n
 obtain⟨ih,La⟩:=Ma _ _ _ hs h1
 refine ADet.intro mixed call204 func204 rfl ?_;simp[ntmps204];refine cq ((zAe s).at hR hs _) ?_;simp[ho,hb];refine cq (ih.at hR hs _) ?_;simp;refine zF (fun a:Nat × XQ × RS=>zBf l rd 0 a.1 a.2.1 a.2.2=some (y,s')/\a.2.2.at_<=l.length) (fun a=>([.ptr (d+1) i 0,I 0,.any,.any,.ptr 0 0 0,.any,.ptr 0 1 0]++List.replicate 103 .any)) (fun a=>[.cells [.any,.any,.any,.any,.any,.any,.any,.any] 43,.cells a.2.1.av 43]::set2 S d i (rdO l a.2.2)) (fun a=>a.1) (n,XQ.of e0,s1) ⟨h,La⟩ ?_ ?_ ?_
 .simp
 .simp[XQ.of]
 clear ih La h1 h ho hq
 rintro⟨m,e,s4⟩ ⟨hl,Va⟩
 simp only at hl Va
 cases m with
 |zero=>simp[zBf]at hl
 |succ m=>
 have Ab:=(hR.upd s4 Va).o
 unfold zBf at hl;simp;refine dB [] (by kernel_rfl) ?_
 cases hb4:s4.bad with
 |true=>
  rw[hb4,if_pos rfl]at hl;cases hl
  simp[Ab,hb4]
 |false=>
 rw[hb4,if_neg (by simp)]at hl
 cases hx:l[s4.at_]? with
 |none=>
  rw[hx]at hl;cases hl
  have hlt:¬(s'.at_:Int)<(l.length:Int):=by have:=List.getElem?_eq_none_iff.1 hx;omega
  simp[Ab,hb4,hlt]
 |some x=>
 rw[hx]at hl
 have jh:s4.at_<l.length:=(List.getElem?_eq_some_iff.1 hx).1
 have hlt:(s4.at_:Int)<(l.length:Int):=by omega
 dsimp only at hl
 obtain⟨j,hj⟩:=z8 x.text (zB4 0) 0
 simp[Ab,hb4,hlt];refine dB [(5,1),(9,1),(12,1)] (by kernel_rfl) ?_
 simp[Ab,hb4,hlt]
 obtain⟨X,sC⟩:=zJq 0 (by omega) [.cells [.any,.any,.any,.any,.any,.any,.any,.any] 43,.cells e.av 43] (set2 S d i (rdO l s4))
 refine cq sC ?_
 cases hf:zB3 x.text (zB4 0)with
 |none=>
  rw[hf]at hl hj;rw[Option.map_none]at hj;cases hl
  simp[Ab,hb4,hlt,hx,Tok.enc,zGS,mapK,hj]
 |some op=>
  rw[hf]at hl hj;rw[Option.map_some]at hj
  dsimp only at hl
  have Ia:=zCv hx
  obtain⟨Q,hQ⟩:∃Q,Q=s4.at_+1:=⟨_,rfl⟩
  have hw:IntKind.i64.wrap ((s4.at_:Int)+1)=(Q:Int):=by rw[hQ];exact zCZ (b:=1) (by unfold maxLen;omega)
  rw[<-hQ]at hl
  have Oe:(⟨Q,s4.bad,s4.full⟩:RS).at_<=l.length:=by show Q<=_;omega
  have Um:=(hR.upd ⟨Q,s4.bad,s4.full⟩ Oe).o
  cases hr:rd ⟨Q,s4.bad,s4.full⟩with
  |none=>rw[<-hb4,hr]at hl;cases hl
  |some r=>
  obtain⟨r,s6⟩:=r
  rw[<-hb4,hr]at hl
  obtain⟨rC,ic⟩:=Ma _ _ _ Oe hr
  rw[hb4]at rC;simp[Ab,hb4,hlt,hx,Tok.enc,zGS,mapK,hj];refine cq ((zAe s4).at hR Va _) ?_;rw[Ia];simp[Ab,hb4,hw];refine cq (rC.at hR (by show Q<=_;omega) _) ?_
  simp[zf]
  have Ee:zBf l rd 0 m (e.two op r x.pos) s6=some (y,s'):=hl
  exact⟨m,e.two op r x.pos,s6,⟨Ee,ic⟩,by omega,by simp[XQ.two,zf,ex0];exact⟨rfl,rfl,rfl,rfl,rfl,rfl⟩,rfl⟩
theorem zaL{rd:RS->Option (Ex × RS)}(Ma:SgOk l 2 rd){s s1 s':RS}{e0 e':Ex}(hs:s.at_<=l.length)(hb:s.bad=false)(h1:rd s=some (e0,s1))(hq:zDf l rd 1 n e0 s1=some (e',s'))(xd:s'.at_<=l.length):RdC 204 [I (1:Nat)] l s s' (exV e'):=by
 obtain⟨y,h,rfl,hy⟩:=zDS n (XQ.of e0) s1 e' s' (XQ.of_ok e0) hq
 refine RdC.less (r:=.agg y.av) (XQ.av_le hy) (RdC.intro fun S d i hR=>?_)
 have ho:=(hR.upd s hs).o
 have hn:=hR.n
 obtain⟨ih,La⟩:=Ma _ _ _ hs h1
 refine ADet.intro mixed call204 func204 rfl ?_;simp[ntmps204];refine cq ((zAe s).at hR hs _) ?_;simp[ho,hb];refine cq (ih.at hR hs _) ?_;simp;refine zF (fun a:Nat × XQ × RS=>zBf l rd 1 a.1 a.2.1 a.2.2=some (y,s')/\a.2.2.at_<=l.length) (fun a=>([.ptr (d+1) i 0,I 1,.any,.any,.ptr 0 0 0,.any,.ptr 0 1 0]++List.replicate 103 .any)) (fun a=>[.cells [.any,.any,.any,.any,.any,.any,.any,.any] 43,.cells a.2.1.av 43]::set2 S d i (rdO l a.2.2)) (fun a=>a.1) (n,XQ.of e0,s1) ⟨h,La⟩ ?_ ?_ ?_
 .simp
 .simp[XQ.of]
 clear ih La h1 h ho hq
 rintro⟨m,e,s4⟩ ⟨hl,Va⟩
 simp only at hl Va
 cases m with
 |zero=>simp[zBf]at hl
 |succ m=>
 have Ab:=(hR.upd s4 Va).o
 unfold zBf at hl;simp;refine dB [] (by kernel_rfl) ?_
 cases hb4:s4.bad with
 |true=>
  rw[hb4,if_pos rfl]at hl;cases hl
  simp[Ab,hb4]
 |false=>
 rw[hb4,if_neg (by simp)]at hl
 cases hx:l[s4.at_]? with
 |none=>
  rw[hx]at hl;cases hl
  have hlt:¬(s'.at_:Int)<(l.length:Int):=by have:=List.getElem?_eq_none_iff.1 hx;omega
  simp[Ab,hb4,hlt]
 |some x=>
 rw[hx]at hl
 have jh:s4.at_<l.length:=(List.getElem?_eq_some_iff.1 hx).1
 have hlt:(s4.at_:Int)<(l.length:Int):=by omega
 dsimp only at hl
 obtain⟨j,hj⟩:=z8 x.text (zB4 1) 0
 simp[Ab,hb4,hlt];refine dB [(5,1),(9,1),(12,1)] (by kernel_rfl) ?_
 simp[Ab,hb4,hlt]
 obtain⟨X,sC⟩:=zJq 1 (by omega) [.cells [.any,.any,.any,.any,.any,.any,.any,.any] 43,.cells e.av 43] (set2 S d i (rdO l s4))
 refine cq sC ?_
 cases hf:zB3 x.text (zB4 1)with
 |none=>
  rw[hf]at hl hj;rw[Option.map_none]at hj;cases hl
  simp[Ab,hb4,hlt,hx,Tok.enc,zGS,mapK,hj]
 |some op=>
  rw[hf]at hl hj;rw[Option.map_some]at hj
  dsimp only at hl
  have Ia:=zCv hx
  obtain⟨Q,hQ⟩:∃Q,Q=s4.at_+1:=⟨_,rfl⟩
  have hw:IntKind.i64.wrap ((s4.at_:Int)+1)=(Q:Int):=by rw[hQ];exact zCZ (b:=1) (by unfold maxLen;omega)
  rw[<-hQ]at hl
  have Oe:(⟨Q,s4.bad,s4.full⟩:RS).at_<=l.length:=by show Q<=_;omega
  have Um:=(hR.upd ⟨Q,s4.bad,s4.full⟩ Oe).o
  cases hr:rd ⟨Q,s4.bad,s4.full⟩with
  |none=>rw[<-hb4,hr]at hl;cases hl
  |some r=>
  obtain⟨r,s6⟩:=r
  rw[<-hb4,hr]at hl
  obtain⟨rC,ic⟩:=Ma _ _ _ Oe hr
  rw[hb4]at rC;simp[Ab,hb4,hlt,hx,Tok.enc,zGS,mapK,hj];refine cq ((zAe s4).at hR Va _) ?_;rw[Ia];simp[Ab,hb4,hw];refine cq (rC.at hR (by show Q<=_;omega) _) ?_
  simp[zf]
  have Ee:zBf l rd 1 m (e.two op r x.pos) s6=some (y,s'):=hl
  exact⟨m,e.two op r x.pos,s6,⟨Ee,ic⟩,by omega,by simp[XQ.two,zf,ex0];exact⟨rfl,rfl,rfl,rfl,rfl,rfl⟩,rfl⟩
theorem zaM{rd:RS->Option (Ex × RS)}(Ma:SgOk l 3 rd){s s1 s':RS}{e0 e':Ex}(hs:s.at_<=l.length)(hb:s.bad=false)(wb:isP l s (⟨#[110,111,116]⟩:BA) 0=false)(h1:rd s=some (e0,s1))(hq:zDf l rd 2 n e0 s1=some (e',s'))(xd:s'.at_<=l.length):RdC 204 [I (2:Nat)] l s s' (exV e'):=by
 obtain⟨y,h,rfl,hy⟩:=zDS n (XQ.of e0) s1 e' s' (XQ.of_ok e0) hq
 refine RdC.less (r:=.agg y.av) (XQ.av_le hy) (RdC.intro fun S d i hR=>?_)
 have ho:=(hR.upd s hs).o
 have hn:=hR.n
 obtain⟨ih,La⟩:=Ma _ _ _ hs h1
 refine ADet.intro mixed call204 func204 rfl ?_;simp[ntmps204];refine cq ((zAe s).at hR hs _) ?_;simp[ho,hb];refine cq ((mayW s (⟨#[110,111,116]⟩:BA)).at hR hs _) ?_;rw[wb,zIr wb];simp;refine cq (ih.at hR hs _) ?_;simp;refine zF (fun a:Nat × XQ × RS=>zBf l rd 2 a.1 a.2.1 a.2.2=some (y,s')/\a.2.2.at_<=l.length) (fun a=>([.ptr (d+1) i 0,I 2,.any,.any,.ptr 0 0 0,.any,.ptr 0 1 0]++List.replicate 103 .any)) (fun a=>[.cells [.any,.any,.any,.any,.any,.any,.any,.any] 43,.cells a.2.1.av 43]::set2 S d i (rdO l a.2.2)) (fun a=>a.1) (n,XQ.of e0,s1) ⟨h,La⟩ ?_ ?_ ?_
 .simp
 .simp[XQ.of]
 clear ih La h1 h ho hq
 rintro⟨m,e,s4⟩ ⟨hl,Va⟩
 simp only at hl Va
 cases m with
 |zero=>simp[zBf]at hl
 |succ m=>
 have Ab:=(hR.upd s4 Va).o
 unfold zBf at hl;simp;refine dB [] (by kernel_rfl) ?_
 cases hb4:s4.bad with
 |true=>
  rw[hb4,if_pos rfl]at hl;cases hl
  simp[Ab,hb4]
 |false=>
 rw[hb4,if_neg (by simp)]at hl
 cases hx:l[s4.at_]? with
 |none=>
  rw[hx]at hl;cases hl
  have hlt:¬(s'.at_:Int)<(l.length:Int):=by have:=List.getElem?_eq_none_iff.1 hx;omega
  simp[Ab,hb4,hlt]
 |some x=>
 rw[hx]at hl
 have jh:s4.at_<l.length:=(List.getElem?_eq_some_iff.1 hx).1
 have hlt:(s4.at_:Int)<(l.length:Int):=by omega
 dsimp only at hl
 obtain⟨j,hj⟩:=z8 x.text (zB4 2) 0
 simp[Ab,hb4,hlt];refine dB [(5,1),(9,1),(12,1)] (by kernel_rfl) ?_
 simp[Ab,hb4,hlt]
 obtain⟨X,sC⟩:=zJq 2 (by omega) [.cells [.any,.any,.any,.any,.any,.any,.any,.any] 43,.cells e.av 43] (set2 S d i (rdO l s4))
 refine cq sC ?_
 cases hf:zB3 x.text (zB4 2)with
 |none=>
  rw[hf]at hl hj;rw[Option.map_none]at hj;cases hl
  simp[Ab,hb4,hlt,hx,Tok.enc,zGS,mapK,hj]
 |some op=>
  rw[hf]at hl hj;rw[Option.map_some]at hj
  dsimp only at hl
  have Ia:=zCv hx
  obtain⟨Q,hQ⟩:∃Q,Q=s4.at_+1:=⟨_,rfl⟩
  have hw:IntKind.i64.wrap ((s4.at_:Int)+1)=(Q:Int):=by rw[hQ];exact zCZ (b:=1) (by unfold maxLen;omega)
  rw[<-hQ]at hl
  have Oe:(⟨Q,s4.bad,s4.full⟩:RS).at_<=l.length:=by show Q<=_;omega
  have Um:=(hR.upd ⟨Q,s4.bad,s4.full⟩ Oe).o
  cases hr:rd ⟨Q,s4.bad,s4.full⟩with
  |none=>rw[<-hb4,hr]at hl;cases hl
  |some r=>
  obtain⟨r,s6⟩:=r
  rw[<-hb4,hr]at hl
  obtain⟨rC,ic⟩:=Ma _ _ _ Oe hr
  rw[hb4]at rC;simp[Ab,hb4,hlt,hx,Tok.enc,zGS,mapK,hj];refine cq ((zAe s4).at hR Va _) ?_;rw[Ia];simp[Ab,hb4,hw];refine cq (rC.at hR (by show Q<=_;omega) _) ?_
  simp[zf]
  have Ee:zBf l rd 2 m (e.two op r x.pos) s6=some (y,s'):=hl
  exact⟨m,e.two op r x.pos,s6,⟨Ee,ic⟩,by omega,by simp[XQ.two,zf,ex0];exact⟨rfl,rfl,rfl,rfl,rfl,rfl⟩,rfl⟩
theorem zaN{rd:RS->Option (Ex × RS)}(Ma:SgOk l 4 rd){s s1 s':RS}{e0 e':Ex}(hs:s.at_<=l.length)(hb:s.bad=false)(h1:rd s=some (e0,s1))(hq:zDf l rd 3 n e0 s1=some (e',s'))(xd:s'.at_<=l.length):RdC 204 [I (3:Nat)] l s s' (exV e'):=by
 obtain⟨y,h,rfl,hy⟩:=zDS n (XQ.of e0) s1 e' s' (XQ.of_ok e0) hq
 refine RdC.less (r:=.agg y.av) (XQ.av_le hy) (RdC.intro fun S d i hR=>?_)
 have ho:=(hR.upd s hs).o
 have hn:=hR.n
 obtain⟨ih,La⟩:=Ma _ _ _ hs h1
 refine ADet.intro mixed call204 func204 rfl ?_;simp[ntmps204];refine cq ((zAe s).at hR hs _) ?_;simp[ho,hb];refine cq (ih.at hR hs _) ?_;simp;refine zF (fun a:Nat × XQ × RS=>zBf l rd 3 a.1 a.2.1 a.2.2=some (y,s')/\a.2.2.at_<=l.length) (fun a=>([.ptr (d+1) i 0,I 3,.any,.any,.ptr 0 0 0,.any,.ptr 0 1 0]++List.replicate 103 .any)) (fun a=>[.cells [.any,.any,.any,.any,.any,.any,.any,.any] 43,.cells a.2.1.av 43]::set2 S d i (rdO l a.2.2)) (fun a=>a.1) (n,XQ.of e0,s1) ⟨h,La⟩ ?_ ?_ ?_
 .simp
 .simp[XQ.of]
 clear ih La h1 h ho hq
 rintro⟨m,e,s4⟩ ⟨hl,Va⟩
 simp only at hl Va
 cases m with
 |zero=>simp[zBf]at hl
 |succ m=>
 have Ab:=(hR.upd s4 Va).o
 unfold zBf at hl;simp;refine dB [] (by kernel_rfl) ?_
 cases hb4:s4.bad with
 |true=>
  rw[hb4,if_pos rfl]at hl;cases hl
  simp[Ab,hb4]
 |false=>
 rw[hb4,if_neg (by simp)]at hl
 cases hx:l[s4.at_]? with
 |none=>
  rw[hx]at hl;cases hl
  have hlt:¬(s'.at_:Int)<(l.length:Int):=by have:=List.getElem?_eq_none_iff.1 hx;omega
  simp[Ab,hb4,hlt]
 |some x=>
 rw[hx]at hl
 have jh:s4.at_<l.length:=(List.getElem?_eq_some_iff.1 hx).1
 have hlt:(s4.at_:Int)<(l.length:Int):=by omega
 dsimp only at hl
 obtain⟨j,hj⟩:=z8 x.text (zB4 3) 0
 simp[Ab,hb4,hlt];refine dB [(5,1),(9,1),(12,1)] (by kernel_rfl) ?_
 simp[Ab,hb4,hlt]
 obtain⟨X,sC⟩:=zJq 3 (by omega) [.cells [.any,.any,.any,.any,.any,.any,.any,.any] 43,.cells e.av 43] (set2 S d i (rdO l s4))
 refine cq sC ?_
 cases hf:zB3 x.text (zB4 3)with
 |none=>
  rw[hf]at hl hj;rw[Option.map_none]at hj;cases hl
  simp[Ab,hb4,hlt,hx,Tok.enc,zGS,mapK,hj]
 |some op=>
  rw[hf]at hl hj;rw[Option.map_some]at hj
  dsimp only at hl
  have Ia:=zCv hx
  obtain⟨Q,hQ⟩:∃Q,Q=s4.at_+1:=⟨_,rfl⟩
  have hw:IntKind.i64.wrap ((s4.at_:Int)+1)=(Q:Int):=by rw[hQ];exact zCZ (b:=1) (by unfold maxLen;omega)
  rw[<-hQ]at hl
  have Oe:(⟨Q,s4.bad,s4.full⟩:RS).at_<=l.length:=by show Q<=_;omega
  have Um:=(hR.upd ⟨Q,s4.bad,s4.full⟩ Oe).o
  cases hr:rd ⟨Q,s4.bad,s4.full⟩with
  |none=>rw[<-hb4,hr]at hl;cases hl
  |some r=>
  obtain⟨r,s6⟩:=r
  rw[<-hb4,hr]at hl
  obtain⟨rC,ic⟩:=Ma _ _ _ Oe hr
  rw[hb4]at rC;simp[Ab,hb4,hlt,hx,Tok.enc,zGS,mapK,hj];refine cq ((zAe s4).at hR Va _) ?_;rw[Ia];simp[Ab,hb4,hw];refine cq (rC.at hR (by show Q<=_;omega) _) ?_
  simp[zf]
  have Ee:some (e.two op r x.pos,s6)=some (y,s'):=hl
  cases Ee;simp[XQ.two,zf];exact⟨rfl,rfl,rfl,rfl,rfl,rfl⟩
theorem zaO{rd:RS->Option (Ex × RS)}(Ma:SgOk l 5 rd){s s1 s':RS}{e0 e':Ex}(hs:s.at_<=l.length)(hb:s.bad=false)(h1:rd s=some (e0,s1))(hq:zDf l rd 4 n e0 s1=some (e',s'))(xd:s'.at_<=l.length):RdC 204 [I (4:Nat)] l s s' (exV e'):=by
 obtain⟨y,h,rfl,hy⟩:=zDS n (XQ.of e0) s1 e' s' (XQ.of_ok e0) hq
 refine RdC.less (r:=.agg y.av) (XQ.av_le hy) (RdC.intro fun S d i hR=>?_)
 have ho:=(hR.upd s hs).o
 have hn:=hR.n
 obtain⟨ih,La⟩:=Ma _ _ _ hs h1
 refine ADet.intro mixed call204 func204 rfl ?_;simp[ntmps204];refine cq ((zAe s).at hR hs _) ?_;simp[ho,hb];refine cq (ih.at hR hs _) ?_;simp;refine zF (fun a:Nat × XQ × RS=>zBf l rd 4 a.1 a.2.1 a.2.2=some (y,s')/\a.2.2.at_<=l.length) (fun a=>([.ptr (d+1) i 0,I 4,.any,.any,.ptr 0 0 0,.any,.ptr 0 1 0]++List.replicate 103 .any)) (fun a=>[.cells [.any,.any,.any,.any,.any,.any,.any,.any] 43,.cells a.2.1.av 43]::set2 S d i (rdO l a.2.2)) (fun a=>a.1) (n,XQ.of e0,s1) ⟨h,La⟩ ?_ ?_ ?_
 .simp
 .simp[XQ.of]
 clear ih La h1 h ho hq
 rintro⟨m,e,s4⟩ ⟨hl,Va⟩
 simp only at hl Va
 cases m with
 |zero=>simp[zBf]at hl
 |succ m=>
 have Ab:=(hR.upd s4 Va).o
 unfold zBf at hl;simp;refine dB [] (by kernel_rfl) ?_
 cases hb4:s4.bad with
 |true=>
  rw[hb4,if_pos rfl]at hl;cases hl
  simp[Ab,hb4]
 |false=>
 rw[hb4,if_neg (by simp)]at hl
 cases hx:l[s4.at_]? with
 |none=>
  rw[hx]at hl;cases hl
  have hlt:¬(s'.at_:Int)<(l.length:Int):=by have:=List.getElem?_eq_none_iff.1 hx;omega
  simp[Ab,hb4,hlt]
 |some x=>
 rw[hx]at hl
 have jh:s4.at_<l.length:=(List.getElem?_eq_some_iff.1 hx).1
 have hlt:(s4.at_:Int)<(l.length:Int):=by omega
 dsimp only at hl
 obtain⟨j,hj⟩:=z8 x.text (zB4 4) 0
 simp[Ab,hb4,hlt];refine dB [(5,1),(9,1),(12,1)] (by kernel_rfl) ?_
 simp[Ab,hb4,hlt]
 obtain⟨X,sC⟩:=zJq 4 (by omega) [.cells [.any,.any,.any,.any,.any,.any,.any,.any] 43,.cells e.av 43] (set2 S d i (rdO l s4))
 refine cq sC ?_
 cases hf:zB3 x.text (zB4 4)with
 |none=>
  rw[hf]at hl hj;rw[Option.map_none]at hj;cases hl
  simp[Ab,hb4,hlt,hx,Tok.enc,zGS,mapK,hj]
 |some op=>
  rw[hf]at hl hj;rw[Option.map_some]at hj
  dsimp only at hl
  have Ia:=zCv hx
  obtain⟨Q,hQ⟩:∃Q,Q=s4.at_+1:=⟨_,rfl⟩
  have hw:IntKind.i64.wrap ((s4.at_:Int)+1)=(Q:Int):=by rw[hQ];exact zCZ (b:=1) (by unfold maxLen;omega)
  rw[<-hQ]at hl
  have Oe:(⟨Q,s4.bad,s4.full⟩:RS).at_<=l.length:=by show Q<=_;omega
  have Um:=(hR.upd ⟨Q,s4.bad,s4.full⟩ Oe).o
  cases hr:rd ⟨Q,s4.bad,s4.full⟩with
  |none=>rw[<-hb4,hr]at hl;cases hl
  |some r=>
  obtain⟨r,s6⟩:=r
  rw[<-hb4,hr]at hl
  obtain⟨rC,ic⟩:=Ma _ _ _ Oe hr
  rw[hb4]at rC;simp[Ab,hb4,hlt,hx,Tok.enc,zGS,mapK,hj];refine cq ((zAe s4).at hR Va _) ?_;rw[Ia];simp[Ab,hb4,hw];refine cq (rC.at hR (by show Q<=_;omega) _) ?_
  simp[zf]
  have Ee:zBf l rd 4 m (e.two op r x.pos) s6=some (y,s'):=hl
  exact⟨m,e.two op r x.pos,s6,⟨Ee,ic⟩,by omega,by simp[XQ.two,zf,ex0];exact⟨rfl,rfl,rfl,rfl,rfl,rfl⟩,rfl⟩
theorem zaP{rd:RS->Option (Ex × RS)}(Ma:SgOk l 6 rd){s s1 s':RS}{e0 e':Ex}(hs:s.at_<=l.length)(hb:s.bad=false)(h1:rd s=some (e0,s1))(hq:zDf l rd 5 n e0 s1=some (e',s'))(xd:s'.at_<=l.length):RdC 204 [I (5:Nat)] l s s' (exV e'):=by
 obtain⟨y,h,rfl,hy⟩:=zDS n (XQ.of e0) s1 e' s' (XQ.of_ok e0) hq
 refine RdC.less (r:=.agg y.av) (XQ.av_le hy) (RdC.intro fun S d i hR=>?_)
 have ho:=(hR.upd s hs).o
 have hn:=hR.n
 obtain⟨ih,La⟩:=Ma _ _ _ hs h1
 refine ADet.intro mixed call204 func204 rfl ?_;simp[ntmps204];refine cq ((zAe s).at hR hs _) ?_;simp[ho,hb];refine cq (ih.at hR hs _) ?_;simp;refine zF (fun a:Nat × XQ × RS=>zBf l rd 5 a.1 a.2.1 a.2.2=some (y,s')/\a.2.2.at_<=l.length) (fun a=>([.ptr (d+1) i 0,I 5,.any,.any,.ptr 0 0 0,.any,.ptr 0 1 0]++List.replicate 103 .any)) (fun a=>[.cells [.any,.any,.any,.any,.any,.any,.any,.any] 43,.cells a.2.1.av 43]::set2 S d i (rdO l a.2.2)) (fun a=>a.1) (n,XQ.of e0,s1) ⟨h,La⟩ ?_ ?_ ?_
 .simp
 .simp[XQ.of]
 clear ih La h1 h ho hq
 rintro⟨m,e,s4⟩ ⟨hl,Va⟩
 simp only at hl Va
 cases m with
 |zero=>simp[zBf]at hl
 |succ m=>
 have Ab:=(hR.upd s4 Va).o
 unfold zBf at hl;simp;refine dB [] (by kernel_rfl) ?_
 cases hb4:s4.bad with
 |true=>
  rw[hb4,if_pos rfl]at hl;cases hl
  simp[Ab,hb4]
 |false=>
 rw[hb4,if_neg (by simp)]at hl
 cases hx:l[s4.at_]? with
 |none=>
  rw[hx]at hl;cases hl
  have hlt:¬(s'.at_:Int)<(l.length:Int):=by have:=List.getElem?_eq_none_iff.1 hx;omega
  simp[Ab,hb4,hlt]
 |some x=>
 rw[hx]at hl
 have jh:s4.at_<l.length:=(List.getElem?_eq_some_iff.1 hx).1
 have hlt:(s4.at_:Int)<(l.length:Int):=by omega
 dsimp only at hl
 obtain⟨j,hj⟩:=z8 x.text (zB4 5) 0
 simp[Ab,hb4,hlt];refine dB [(5,1),(9,1),(12,1)] (by kernel_rfl) ?_
 simp[Ab,hb4,hlt]
 obtain⟨X,sC⟩:=zJq 5 (by omega) [.cells [.any,.any,.any,.any,.any,.any,.any,.any] 43,.cells e.av 43] (set2 S d i (rdO l s4))
 refine cq sC ?_
 cases hf:zB3 x.text (zB4 5)with
 |none=>
  rw[hf]at hl hj;rw[Option.map_none]at hj;cases hl
  simp[Ab,hb4,hlt,hx,Tok.enc,zGS,mapK,hj]
 |some op=>
  rw[hf]at hl hj;rw[Option.map_some]at hj
  dsimp only at hl
  have Ia:=zCv hx
  obtain⟨Q,hQ⟩:∃Q,Q=s4.at_+1:=⟨_,rfl⟩
  have hw:IntKind.i64.wrap ((s4.at_:Int)+1)=(Q:Int):=by rw[hQ];exact zCZ (b:=1) (by unfold maxLen;omega)
  rw[<-hQ]at hl
  have Oe:(⟨Q,s4.bad,s4.full⟩:RS).at_<=l.length:=by show Q<=_;omega
  have Um:=(hR.upd ⟨Q,s4.bad,s4.full⟩ Oe).o
  cases hr:rd ⟨Q,s4.bad,s4.full⟩with
  |none=>rw[<-hb4,hr]at hl;cases hl
  |some r=>
  obtain⟨r,s6⟩:=r
  rw[<-hb4,hr]at hl
  obtain⟨rC,ic⟩:=Ma _ _ _ Oe hr
  rw[hb4]at rC;simp[Ab,hb4,hlt,hx,Tok.enc,zGS,mapK,hj];refine cq ((zAe s4).at hR Va _) ?_;rw[Ia];simp[Ab,hb4,hw];refine cq (rC.at hR (by show Q<=_;omega) _) ?_
  simp[zf]
  have Ee:zBf l rd 5 m (e.two op r x.pos) s6=some (y,s'):=hl
  exact⟨m,e.two op r x.pos,s6,⟨Ee,ic⟩,by omega,by simp[XQ.two,zf,ex0];exact⟨rfl,rfl,rfl,rfl,rfl,rfl⟩,rfl⟩
end Go.Proofs.YtdflkegnmmkkoaaGreatDoor
