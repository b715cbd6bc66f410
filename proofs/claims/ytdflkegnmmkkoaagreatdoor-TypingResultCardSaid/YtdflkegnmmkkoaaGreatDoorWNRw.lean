/- A part of the proof. -/
import Derived.Test.YtdflkegnmmkkoaaGreatDoorWNRu
set_option linter.unusedVariables false
set_option linter.unusedSimpArgs false
set_option maxRecDepth 100000
set_option maxHeartbeats 32000000
namespace Go.Proofs.YtdflkegnmmkkoaaGreatDoor
open Go.RowKit _root_.Go.Proofs.Tryz
attribute [local simp] List.replicate List.range List.range.loop List.forall_mem_cons List.contains_cons List.contains_nil List.find?
variable{l:List Tok}{n:Nat}
theorem zCo{s:RS}{x:Tok}(h:l[s.at_]? =some x):zBY l s=x.pos:=by unfold zBY;rw[h]
def SgOk(l:List Tok)(k:Nat)(rd:RS->Option (Ex × RS)):Prop:=∀s e s',s.at_<=l.length->rd s=some (e,s')->RdC 204 [I k] l s s' (exV e)/\s'.at_<=l.length
structure XQ where
 e:Ex
 q:PV
 rw:List (List PV)
abbrev XQ.row(x:XQ):List PV:=[pU x.e.op,pI x.e.int,pS x.e.name,pS x.e.u2,pS x.e.place.name,x.q,.sl 8 x.rw,pI x.e.pos]
abbrev XQ.av(x:XQ):List AV:=[U x.e.op,I x.e.int,Sg x.e.name,Sg x.e.u2,Sg x.e.place.name,.p x.q,.p (.sl 8 x.rw),I x.e.pos]
def XQ.ok(x:XQ):Prop:=LeP x.q (strs x.e.place.path)/\LeRows x.rw (x.e.args.map Ex.enc)
def XQ.of(e:Ex):XQ:=⟨e,strs e.place.path,e.args.map Ex.enc⟩
theorem XQ.of_ok(e:Ex):(XQ.of e).ok:=⟨.refl _,.refl _⟩
def XQ.two(x:XQ)(op:Int)(r:Ex)(pos:Int):XQ:=⟨ex0 op 0 emS [x.e,r] pos,.v (.slice none 0 0),[x.row,r.enc]⟩
theorem XQ.row_le{x:XQ}(h:x.ok):LeRow x.row x.e.enc:=by
 rw[zg];exact .cons (.refl _) (.cons (.refl _) (.cons (.refl _) (.cons (.refl _) (.cons (.refl _) (.cons h.1 (.cons (.sl h.2) (.refl _)))))))
theorem XQ.two_ok{x:XQ}(h:x.ok)(op:Int)(r:Ex)(pos:Int):(x.two op r pos).ok:=⟨.nil 1,.cons (XQ.row_le h) (.refl _)⟩
theorem XQ.av_le{x:XQ}(h:x.ok):LeA (.agg x.av) (exV x.e):=.agg (.cons (.refl _) (.cons (.refl _) (.cons (.refl _) (.cons (.refl _) (.cons (.refl _) (.cons (.p h.1) (.cons (.p (.sl h.2)) (.refl _))))))))
def zBa(l:List Tok)(rd:RS->Option (Ex × RS))(k:Nat):Nat->XQ->RS->Option (XQ × RS)
 |0,_,_=>none
 |n+1,x,s=>
  if s.bad=true then some (x,s)
  else match l[s.at_]? with
   |none=>some (x,s)
   |some t=>match zB0 t.text (zB1 k)with
    |none=>some (x,s)
    |some op=>match rd ⟨s.at_+1,s.bad,s.full⟩with
     |none=>none
     |some (r,s1)=>if k=3 then some (x.two op r t.pos,s1)else zBa l rd k n (x.two op r t.pos) s1
theorem zDJ{l:List Tok}{rd:RS->Option (Ex × RS)}{k:Nat}:∀(n:Nat) (x:XQ) (s:RS) (e':Ex) (s':RS),x.ok->zDV l rd k n x.e s=some (e',s')->∃y,zBa l rd k n x s=some (y,s')/\y.e=e'/\y.ok
 |0,x,s,e',s',ho,h=>by simp[zDV]at h
 |n+1,x,s,e',s',ho,h=>by
  unfold zDV at h;unfold zBa
  cases hb:s.bad with
  |true=>
   rw[hb,if_pos rfl]at h;cases h
   exact⟨x,by rw[if_pos rfl],rfl,ho⟩
  |false=>
  rw[hb,if_neg (by simp)]at h
  rw[if_neg (by simp)]
  cases hx:l[s.at_]? with
  |none=>rw[hx]at h;cases h;exact⟨x,rfl,rfl,ho⟩
  |some t=>
  rw[hx]at h
  dsimp only at h ⊢
  cases hf:zB0 t.text (zB1 k)with
  |none=>rw[hf]at h;cases h;exact⟨x,rfl,rfl,ho⟩
  |some op=>
  rw[hf]at h
  dsimp only at h ⊢
  cases hr:rd ⟨s.at_+1,false,s.full⟩with
  |none=>rw[hr]at h;cases h
  |some y=>
  obtain⟨r,s1⟩:=y
  rw[hr]at h
  dsimp only at h ⊢
  by_cases h3:k=3
  .rw[if_pos h3]at h ⊢
   cases h;exact⟨_,rfl,rfl,XQ.two_ok ho _ _ _⟩
  rw[if_neg h3]at h ⊢
  exact zDJ n _ s1 e' s' (XQ.two_ok ho _ _ _) h
theorem zac{rd:RS->Option (Ex × RS)}(Oa:SgOk l 1 rd){s s1 s':RS}{e0 e':Ex}(hs:s.at_<=l.length)(hb:s.bad=false)(h1:rd s=some (e0,s1))(hq:zDV l rd 0 n e0 s1=some (e',s'))(vd:s'.at_<=l.length):RdC 204 [I (0:Nat)] l s s' (exV e'):=by
 obtain⟨y,h,rfl,hy⟩:=zDJ n (XQ.of e0) s1 e' s' (XQ.of_ok e0) hq
 refine RdC.less (r:=.agg y.av) (XQ.av_le hy) (RdC.intro fun S d i hR=>?_)
 have ho:=(hR.upd s hs).o
 have hn:=hR.n
 obtain⟨ih,Ma⟩:=Oa _ _ _ hs h1
 refine ADet.intro mixed call204 func204 rfl ?_;simp[ntmps204];refine cq ((zAZ s).at hR hs _) ?_;simp[ho,hb];refine cq (ih.at hR hs _) ?_;simp;refine zH (fun a:Nat × XQ × RS=>zBa l rd 0 a.1 a.2.1 a.2.2=some (y,s')/\a.2.2.at_<=l.length) (fun a=>([.ptr (d+1) i 0,I 0,.any,.any,.ptr 0 0 0,.any,.ptr 0 1 0]++List.replicate 103 .any)) (fun a=>[.cells [.any,.any,.any,.any,.any,.any,.any,.any] 43,.cells a.2.1.av 43]::set2 S d i (rdO l a.2.2)) (fun a=>a.1) (n,XQ.of e0,s1) ⟨h,Ma⟩ ?_ ?_ ?_
 .simp
 .simp[XQ.of]
 clear ih Ma h1 h ho hq
 rintro⟨m,e,s4⟩ ⟨hl,Ua⟩
 simp only at hl Ua
 cases m with
 |zero=>simp[zBa]at hl
 |succ m=>
 have Bb:=(hR.upd s4 Ua).o
 unfold zBa at hl;simp;refine dB [] (by kernel_rfl) ?_
 cases hb4:s4.bad with
 |true=>
  rw[hb4,if_pos rfl]at hl;cases hl
  simp[Bb,hb4]
 |false=>
 rw[hb4,if_neg (by simp)]at hl
 cases hx:l[s4.at_]? with
 |none=>
  rw[hx]at hl;cases hl
  have hlt:¬(s'.at_:Int)<(l.length:Int):=by have:=List.getElem?_eq_none_iff.1 hx;omega
  simp[Bb,hb4,hlt]
 |some x=>
 rw[hx]at hl
 have lh:s4.at_<l.length:=(List.getElem?_eq_some_iff.1 hx).1
 have hlt:(s4.at_:Int)<(l.length:Int):=by omega
 dsimp only at hl
 obtain⟨j,hj⟩:=z5 x.text (zB1 0) 0
 simp[Bb,hb4,hlt];refine dB [(5,1),(9,1),(12,1)] (by kernel_rfl) ?_
 simp[Bb,hb4,hlt]
 obtain⟨X,sC⟩:=zJb 0 (by omega) [.cells [.any,.any,.any,.any,.any,.any,.any,.any] 43,.cells e.av 43] (set2 S d i (rdO l s4))
 refine cq sC ?_
 cases hf:zB0 x.text (zB1 0)with
 |none=>
  rw[hf]at hl hj;rw[Option.map_none]at hj;cases hl
  simp[Bb,hb4,hlt,hx,Tok.enc,zGD,mapK,hj]
 |some op=>
  rw[hf]at hl hj;rw[Option.map_some]at hj
  dsimp only at hl
  have Na:=zCo hx
  obtain⟨Q,hQ⟩:∃Q,Q=s4.at_+1:=⟨_,rfl⟩
  have hw:IntKind.i64.wrap ((s4.at_:Int)+1)=(Q:Int):=by rw[hQ];exact zCb (b:=1) (by unfold maxLen;omega)
  rw[<-hQ]at hl
  have Le:(⟨Q,s4.bad,s4.full⟩:RS).at_<=l.length:=by show Q<=_;omega
  have Qm:=(hR.upd ⟨Q,s4.bad,s4.full⟩ Le).o
  cases hr:rd ⟨Q,s4.bad,s4.full⟩with
  |none=>rw[<-hb4,hr]at hl;cases hl
  |some r=>
  obtain⟨r,s6⟩:=r
  rw[<-hb4,hr]at hl
  obtain⟨rC,jc⟩:=Oa _ _ _ Le hr
  rw[hb4]at rC;simp[Bb,hb4,hlt,hx,Tok.enc,zGD,mapK,hj];refine cq ((zAZ s4).at hR Ua _) ?_;rw[Na];simp[Bb,hb4,hw];refine cq (rC.at hR (by show Q<=_;omega) _) ?_
  simp[zg]
  have Be:zBa l rd 0 m (e.two op r x.pos) s6=some (y,s'):=hl
  exact⟨m,e.two op r x.pos,s6,⟨Be,jc⟩,by omega,by simp[XQ.two,zg,ex0];exact⟨rfl,rfl,rfl,rfl,rfl,rfl⟩,rfl⟩
theorem zad{rd:RS->Option (Ex × RS)}(Oa:SgOk l 2 rd){s s1 s':RS}{e0 e':Ex}(hs:s.at_<=l.length)(hb:s.bad=false)(h1:rd s=some (e0,s1))(hq:zDV l rd 1 n e0 s1=some (e',s'))(vd:s'.at_<=l.length):RdC 204 [I (1:Nat)] l s s' (exV e'):=by
 obtain⟨y,h,rfl,hy⟩:=zDJ n (XQ.of e0) s1 e' s' (XQ.of_ok e0) hq
 refine RdC.less (r:=.agg y.av) (XQ.av_le hy) (RdC.intro fun S d i hR=>?_)
 have ho:=(hR.upd s hs).o
 have hn:=hR.n
 obtain⟨ih,Ma⟩:=Oa _ _ _ hs h1
 refine ADet.intro mixed call204 func204 rfl ?_;simp[ntmps204];refine cq ((zAZ s).at hR hs _) ?_;simp[ho,hb];refine cq (ih.at hR hs _) ?_;simp;refine zH (fun a:Nat × XQ × RS=>zBa l rd 1 a.1 a.2.1 a.2.2=some (y,s')/\a.2.2.at_<=l.length) (fun a=>([.ptr (d+1) i 0,I 1,.any,.any,.ptr 0 0 0,.any,.ptr 0 1 0]++List.replicate 103 .any)) (fun a=>[.cells [.any,.any,.any,.any,.any,.any,.any,.any] 43,.cells a.2.1.av 43]::set2 S d i (rdO l a.2.2)) (fun a=>a.1) (n,XQ.of e0,s1) ⟨h,Ma⟩ ?_ ?_ ?_
 .simp
 .simp[XQ.of]
 clear ih Ma h1 h ho hq
 rintro⟨m,e,s4⟩ ⟨hl,Ua⟩
 simp only at hl Ua
 cases m with
 |zero=>simp[zBa]at hl
 |succ m=>
 have Bb:=(hR.upd s4 Ua).o
 unfold zBa at hl;simp;refine dB [] (by kernel_rfl) ?_
 cases hb4:s4.bad with
 |true=>
  rw[hb4,if_pos rfl]at hl;cases hl
  simp[Bb,hb4]
 |false=>
 rw[hb4,if_neg (by simp)]at hl
 cases hx:l[s4.at_]? with
 |none=>
  rw[hx]at hl;cases hl
  have hlt:¬(s'.at_:Int)<(l.length:Int):=by have:=List.getElem?_eq_none_iff.1 hx;omega
  simp[Bb,hb4,hlt]
 |some x=>
 rw[hx]at hl
 have lh:s4.at_<l.length:=(List.getElem?_eq_some_iff.1 hx).1
 have hlt:(s4.at_:Int)<(l.length:Int):=by omega
 dsimp only at hl
 obtain⟨j,hj⟩:=z5 x.text (zB1 1) 0
 simp[Bb,hb4,hlt];refine dB [(5,1),(9,1),(12,1)] (by kernel_rfl) ?_
 simp[Bb,hb4,hlt]
 obtain⟨X,sC⟩:=zJb 1 (by omega) [.cells [.any,.any,.any,.any,.any,.any,.any,.any] 43,.cells e.av 43] (set2 S d i (rdO l s4))
 refine cq sC ?_
 cases hf:zB0 x.text (zB1 1)with
 |none=>
  rw[hf]at hl hj;rw[Option.map_none]at hj;cases hl
  simp[Bb,hb4,hlt,hx,Tok.enc,zGD,mapK,hj]
 |some op=>
  rw[hf]at hl hj;rw[Option.map_some]at hj
  dsimp only at hl
  have Na:=zCo hx
  obtain⟨Q,hQ⟩:∃Q,Q=s4.at_+1:=⟨_,rfl⟩
  have hw:IntKind.i64.wrap ((s4.at_:Int)+1)=(Q:Int):=by rw[hQ];exact zCb (b:=1) (by unfold maxLen;omega)
  rw[<-hQ]at hl
  have Le:(⟨Q,s4.bad,s4.full⟩:RS).at_<=l.length:=by show Q<=_;omega
  have Qm:=(hR.upd ⟨Q,s4.bad,s4.full⟩ Le).o
  cases hr:rd ⟨Q,s4.bad,s4.full⟩with
  |none=>rw[<-hb4,hr]at hl;cases hl
  |some r=>
  obtain⟨r,s6⟩:=r
  rw[<-hb4,hr]at hl
  obtain⟨rC,jc⟩:=Oa _ _ _ Le hr
  rw[hb4]at rC;simp[Bb,hb4,hlt,hx,Tok.enc,zGD,mapK,hj];refine cq ((zAZ s4).at hR Ua _) ?_;rw[Na];simp[Bb,hb4,hw];refine cq (rC.at hR (by show Q<=_;omega) _) ?_
  simp[zg]
  have Be:zBa l rd 1 m (e.two op r x.pos) s6=some (y,s'):=hl
  exact⟨m,e.two op r x.pos,s6,⟨Be,jc⟩,by omega,by simp[XQ.two,zg,ex0];exact⟨rfl,rfl,rfl,rfl,rfl,rfl⟩,rfl⟩
theorem zae{rd:RS->Option (Ex × RS)}(Oa:SgOk l 3 rd){s s1 s':RS}{e0 e':Ex}(hs:s.at_<=l.length)(hb:s.bad=false)(xb:isP l s (⟨#[110,111,116]⟩:BA) 0=false)(h1:rd s=some (e0,s1))(hq:zDV l rd 2 n e0 s1=some (e',s'))(vd:s'.at_<=l.length):RdC 204 [I (2:Nat)] l s s' (exV e'):=by
 obtain⟨y,h,rfl,hy⟩:=zDJ n (XQ.of e0) s1 e' s' (XQ.of_ok e0) hq
 refine RdC.less (r:=.agg y.av) (XQ.av_le hy) (RdC.intro fun S d i hR=>?_)
 have ho:=(hR.upd s hs).o
 have hn:=hR.n
 obtain⟨ih,Ma⟩:=Oa _ _ _ hs h1
 refine ADet.intro mixed call204 func204 rfl ?_;simp[ntmps204];refine cq ((zAZ s).at hR hs _) ?_;simp[ho,hb];refine cq ((mayW s (⟨#[110,111,116]⟩:BA)).at hR hs _) ?_;rw[xb,zIZ xb];simp;refine cq (ih.at hR hs _) ?_;simp;refine zH (fun a:Nat × XQ × RS=>zBa l rd 2 a.1 a.2.1 a.2.2=some (y,s')/\a.2.2.at_<=l.length) (fun a=>([.ptr (d+1) i 0,I 2,.any,.any,.ptr 0 0 0,.any,.ptr 0 1 0]++List.replicate 103 .any)) (fun a=>[.cells [.any,.any,.any,.any,.any,.any,.any,.any] 43,.cells a.2.1.av 43]::set2 S d i (rdO l a.2.2)) (fun a=>a.1) (n,XQ.of e0,s1) ⟨h,Ma⟩ ?_ ?_ ?_
 .simp
 .simp[XQ.of]
 clear ih Ma h1 h ho hq
 rintro⟨m,e,s4⟩ ⟨hl,Ua⟩
 simp only at hl Ua
 cases m with
 |zero=>simp[zBa]at hl
 |succ m=>
 have Bb:=(hR.upd s4 Ua).o
 unfold zBa at hl;simp;refine dB [] (by kernel_rfl) ?_
 cases hb4:s4.bad with
 |true=>
  rw[hb4,if_pos rfl]at hl;cases hl
  simp[Bb,hb4]
 |false=>
 rw[hb4,if_neg (by simp)]at hl
 cases hx:l[s4.at_]? with
 |none=>
  rw[hx]at hl;cases hl
  have hlt:¬(s'.at_:Int)<(l.length:Int):=by have:=List.getElem?_eq_none_iff.1 hx;omega
  simp[Bb,hb4,hlt]
 |some x=>
 rw[hx]at hl
 have lh:s4.at_<l.length:=(List.getElem?_eq_some_iff.1 hx).1
 have hlt:(s4.at_:Int)<(l.length:Int):=by omega
 dsimp only at hl
 obtain⟨j,hj⟩:=z5 x.text (zB1 2) 0
 simp[Bb,hb4,hlt];refine dB [(5,1),(9,1),(12,1)] (by kernel_rfl) ?_
 simp[Bb,hb4,hlt]
 obtain⟨X,sC⟩:=zJb 2 (by omega) [.cells [.any,.any,.any,.any,.any,.any,.any,.any] 43,.cells e.av 43] (set2 S d i (rdO l s4))
 refine cq sC ?_
 cases hf:zB0 x.text (zB1 2)with
 |none=>
  rw[hf]at hl hj;rw[Option.map_none]at hj;cases hl
  simp[Bb,hb4,hlt,hx,Tok.enc,zGD,mapK,hj]
 |some op=>
  rw[hf]at hl hj;rw[Option.map_some]at hj
  dsimp only at hl
  have Na:=zCo hx
  obtain⟨Q,hQ⟩:∃Q,Q=s4.at_+1:=⟨_,rfl⟩
  have hw:IntKind.i64.wrap ((s4.at_:Int)+1)=(Q:Int):=by rw[hQ];exact zCb (b:=1) (by unfold maxLen;omega)
  rw[<-hQ]at hl
  have Le:(⟨Q,s4.bad,s4.full⟩:RS).at_<=l.length:=by show Q<=_;omega
  have Qm:=(hR.upd ⟨Q,s4.bad,s4.full⟩ Le).o
  cases hr:rd ⟨Q,s4.bad,s4.full⟩with
  |none=>rw[<-hb4,hr]at hl;cases hl
  |some r=>
  obtain⟨r,s6⟩:=r
  rw[<-hb4,hr]at hl
  obtain⟨rC,jc⟩:=Oa _ _ _ Le hr
  rw[hb4]at rC;simp[Bb,hb4,hlt,hx,Tok.enc,zGD,mapK,hj];refine cq ((zAZ s4).at hR Ua _) ?_;rw[Na];simp[Bb,hb4,hw];refine cq (rC.at hR (by show Q<=_;omega) _) ?_
  simp[zg]
  have Be:zBa l rd 2 m (e.two op r x.pos) s6=some (y,s'):=hl
  exact⟨m,e.two op r x.pos,s6,⟨Be,jc⟩,by omega,by simp[XQ.two,zg,ex0];exact⟨rfl,rfl,rfl,rfl,rfl,rfl⟩,rfl⟩
theorem zaf{rd:RS->Option (Ex × RS)}(Oa:SgOk l 4 rd){s s1 s':RS}{e0 e':Ex}(hs:s.at_<=l.length)(hb:s.bad=false)(h1:rd s=some (e0,s1))(hq:zDV l rd 3 n e0 s1=some (e',s'))(vd:s'.at_<=l.length):RdC 204 [I (3:Nat)] l s s' (exV e'):=by
 obtain⟨y,h,rfl,hy⟩:=zDJ n (XQ.of e0) s1 e' s' (XQ.of_ok e0) hq
 refine RdC.less (r:=.agg y.av) (XQ.av_le hy) (RdC.intro fun S d i hR=>?_)
 have ho:=(hR.upd s hs).o
 have hn:=hR.n
 obtain⟨ih,Ma⟩:=Oa _ _ _ hs h1
 refine ADet.intro mixed call204 func204 rfl ?_;simp[ntmps204];refine cq ((zAZ s).at hR hs _) ?_;simp[ho,hb];refine cq (ih.at hR hs _) ?_;simp;refine zH (fun a:Nat × XQ × RS=>zBa l rd 3 a.1 a.2.1 a.2.2=some (y,s')/\a.2.2.at_<=l.length) (fun a=>([.ptr (d+1) i 0,I 3,.any,.any,.ptr 0 0 0,.any,.ptr 0 1 0]++List.replicate 103 .any)) (fun a=>[.cells [.any,.any,.any,.any,.any,.any,.any,.any] 43,.cells a.2.1.av 43]::set2 S d i (rdO l a.2.2)) (fun a=>a.1) (n,XQ.of e0,s1) ⟨h,Ma⟩ ?_ ?_ ?_
 .simp
 .simp[XQ.of]
 clear ih Ma h1 h ho hq
 rintro⟨m,e,s4⟩ ⟨hl,Ua⟩
 simp only at hl Ua
 cases m with
 |zero=>simp[zBa]at hl
 |succ m=>
 have Bb:=(hR.upd s4 Ua).o
 unfold zBa at hl;simp;refine dB [] (by kernel_rfl) ?_
 cases hb4:s4.bad with
 |true=>
  rw[hb4,if_pos rfl]at hl;cases hl
  simp[Bb,hb4]
 |false=>
 rw[hb4,if_neg (by simp)]at hl
 cases hx:l[s4.at_]? with
 |none=>
  rw[hx]at hl;cases hl
  have hlt:¬(s'.at_:Int)<(l.length:Int):=by have:=List.getElem?_eq_none_iff.1 hx;omega
  simp[Bb,hb4,hlt]
 |some x=>
 rw[hx]at hl
 have lh:s4.at_<l.length:=(List.getElem?_eq_some_iff.1 hx).1
 have hlt:(s4.at_:Int)<(l.length:Int):=by omega
 dsimp only at hl
 obtain⟨j,hj⟩:=z5 x.text (zB1 3) 0
 simp[Bb,hb4,hlt];refine dB [(5,1),(9,1),(12,1)] (by kernel_rfl) ?_
 simp[Bb,hb4,hlt]
 obtain⟨X,sC⟩:=zJb 3 (by omega) [.cells [.any,.any,.any,.any,.any,.any,.any,.any] 43,.cells e.av 43] (set2 S d i (rdO l s4))
 refine cq sC ?_
 cases hf:zB0 x.text (zB1 3)with
 |none=>
  rw[hf]at hl hj;rw[Option.map_none]at hj;cases hl
  simp[Bb,hb4,hlt,hx,Tok.enc,zGD,mapK,hj]
 |some op=>
  rw[hf]at hl hj;rw[Option.map_some]at hj
  dsimp only at hl
  have Na:=zCo hx
  obtain⟨Q,hQ⟩:∃Q,Q=s4.at_+1:=⟨_,rfl⟩
  have hw:IntKind.i64.wrap ((s4.at_:Int)+1)=(Q:Int):=by rw[hQ];exact zCb (b:=1) (by unfold maxLen;omega)
  rw[<-hQ]at hl
  have Le:(⟨Q,s4.bad,s4.full⟩:RS).at_<=l.length:=by show Q<=_;omega
  have Qm:=(hR.upd ⟨Q,s4.bad,s4.full⟩ Le).o
  cases hr:rd ⟨Q,s4.bad,s4.full⟩with
  |none=>rw[<-hb4,hr]at hl;cases hl
  |some r=>
  obtain⟨r,s6⟩:=r
  rw[<-hb4,hr]at hl
  obtain⟨rC,jc⟩:=Oa _ _ _ Le hr
  rw[hb4]at rC;simp[Bb,hb4,hlt,hx,Tok.enc,zGD,mapK,hj];refine cq ((zAZ s4).at hR Ua _) ?_;rw[Na];simp[Bb,hb4,hw];refine cq (rC.at hR (by show Q<=_;omega) _) ?_
  simp[zg]
  have Be:some (e.two op r x.pos,s6)=some (y,s'):=hl
  cases Be;simp[XQ.two,zg];exact⟨rfl,rfl,rfl,rfl,rfl,rfl⟩
theorem zag{rd:RS->Option (Ex × RS)}(Oa:SgOk l 5 rd){s s1 s':RS}{e0 e':Ex}(hs:s.at_<=l.length)(hb:s.bad=false)(h1:rd s=some (e0,s1))(hq:zDV l rd 4 n e0 s1=some (e',s'))(vd:s'.at_<=l.length):RdC 204 [I (4:Nat)] l s s' (exV e'):=by
 obtain⟨y,h,rfl,hy⟩:=zDJ n (XQ.of e0) s1 e' s' (XQ.of_ok e0) hq
 refine RdC.less (r:=.agg y.av) (XQ.av_le hy) (RdC.intro fun S d i hR=>?_)
 have ho:=(hR.upd s hs).o
 have hn:=hR.n
 obtain⟨ih,Ma⟩:=Oa _ _ _ hs h1
 refine ADet.intro mixed call204 func204 rfl ?_;simp[ntmps204];refine cq ((zAZ s).at hR hs _) ?_;simp[ho,hb];refine cq (ih.at hR hs _) ?_;simp;refine zH (fun a:Nat × XQ × RS=>zBa l rd 4 a.1 a.2.1 a.2.2=some (y,s')/\a.2.2.at_<=l.length) (fun a=>([.ptr (d+1) i 0,I 4,.any,.any,.ptr 0 0 0,.any,.ptr 0 1 0]++List.replicate 103 .any)) (fun a=>[.cells [.any,.any,.any,.any,.any,.any,.any,.any] 43,.cells a.2.1.av 43]::set2 S d i (rdO l a.2.2)) (fun a=>a.1) (n,XQ.of e0,s1) ⟨h,Ma⟩ ?_ ?_ ?_
 .simp
 .simp[XQ.of]
 clear ih Ma h1 h ho hq
 rintro⟨m,e,s4⟩ ⟨hl,Ua⟩
 simp only at hl Ua
 cases m with
 |zero=>simp[zBa]at hl
 |succ m=>
 have Bb:=(hR.upd s4 Ua).o
 unfold zBa at hl;simp;refine dB [] (by kernel_rfl) ?_
 cases hb4:s4.bad with
 |true=>
  rw[hb4,if_pos rfl]at hl;cases hl
  simp[Bb,hb4]
 |false=>
 rw[hb4,if_neg (by simp)]at hl
 cases hx:l[s4.at_]? with
 |none=>
  rw[hx]at hl;cases hl
  have hlt:¬(s'.at_:Int)<(l.length:Int):=by have:=List.getElem?_eq_none_iff.1 hx;omega
  simp[Bb,hb4,hlt]
 |some x=>
 rw[hx]at hl
 have lh:s4.at_<l.length:=(List.getElem?_eq_some_iff.1 hx).1
 have hlt:(s4.at_:Int)<(l.length:Int):=by omega
 dsimp only at hl
 obtain⟨j,hj⟩:=z5 x.text (zB1 4) 0
 simp[Bb,hb4,hlt];refine dB [(5,1),(9,1),(12,1)] (by kernel_rfl) ?_
 simp[Bb,hb4,hlt]
 obtain⟨X,sC⟩:=zJb 4 (by omega) [.cells [.any,.any,.any,.any,.any,.any,.any,.any] 43,.cells e.av 43] (set2 S d i (rdO l s4))
 refine cq sC ?_
 cases hf:zB0 x.text (zB1 4)with
 |none=>
  rw[hf]at hl hj;rw[Option.map_none]at hj;cases hl
  simp[Bb,hb4,hlt,hx,Tok.enc,zGD,mapK,hj]
 |some op=>
  rw[hf]at hl hj;rw[Option.map_some]at hj
  dsimp only at hl
  have Na:=zCo hx
  obtain⟨Q,hQ⟩:∃Q,Q=s4.at_+1:=⟨_,rfl⟩
  have hw:IntKind.i64.wrap ((s4.at_:Int)+1)=(Q:Int):=by rw[hQ];exact zCb (b:=1) (by unfold maxLen;omega)
  rw[<-hQ]at hl
  have Le:(⟨Q,s4.bad,s4.full⟩:RS).at_<=l.length:=by show Q<=_;omega
  have Qm:=(hR.upd ⟨Q,s4.bad,s4.full⟩ Le).o
  cases hr:rd ⟨Q,s4.bad,s4.full⟩with
  |none=>rw[<-hb4,hr]at hl;cases hl
  |some r=>
  obtain⟨r,s6⟩:=r
  rw[<-hb4,hr]at hl
  obtain⟨rC,jc⟩:=Oa _ _ _ Le hr
  rw[hb4]at rC;simp[Bb,hb4,hlt,hx,Tok.enc,zGD,mapK,hj];refine cq ((zAZ s4).at hR Ua _) ?_;rw[Na];simp[Bb,hb4,hw];refine cq (rC.at hR (by show Q<=_;omega) _) ?_
  simp[zg]
  have Be:zBa l rd 4 m (e.two op r x.pos) s6=some (y,s'):=hl
  exact⟨m,e.two op r x.pos,s6,⟨Be,jc⟩,by omega,by simp[XQ.two,zg,ex0];exact⟨rfl,rfl,rfl,rfl,rfl,rfl⟩,rfl⟩
theorem zah{rd:RS->Option (Ex × RS)}(Oa:SgOk l 6 rd){s s1 s':RS}{e0 e':Ex}(hs:s.at_<=l.length)(hb:s.bad=false)(h1:rd s=some (e0,s1))(hq:zDV l rd 5 n e0 s1=some (e',s'))(vd:s'.at_<=l.length):RdC 204 [I (5:Nat)] l s s' (exV e'):=by
 obtain⟨y,h,rfl,hy⟩:=zDJ n (XQ.of e0) s1 e' s' (XQ.of_ok e0) hq
 refine RdC.less (r:=.agg y.av) (XQ.av_le hy) (RdC.intro fun S d i hR=>?_)
 have ho:=(hR.upd s hs).o
 have hn:=hR.n
 obtain⟨ih,Ma⟩:=Oa _ _ _ hs h1
 refine ADet.intro mixed call204 func204 rfl ?_;simp[ntmps204];refine cq ((zAZ s).at hR hs _) ?_;simp[ho,hb];refine cq (ih.at hR hs _) ?_;simp;refine zH (fun a:Nat × XQ × RS=>zBa l rd 5 a.1 a.2.1 a.2.2=some (y,s')/\a.2.2.at_<=l.length) (fun a=>([.ptr (d+1) i 0,I 5,.any,.any,.ptr 0 0 0,.any,.ptr 0 1 0]++List.replicate 103 .any)) (fun a=>[.cells [.any,.any,.any,.any,.any,.any,.any,.any] 43,.cells a.2.1.av 43]::set2 S d i (rdO l a.2.2)) (fun a=>a.1) (n,XQ.of e0,s1) ⟨h,Ma⟩ ?_ ?_ ?_
 .simp
 .simp[XQ.of]
 clear ih Ma h1 h ho hq
 rintro⟨m,e,s4⟩ ⟨hl,Ua⟩
 simp only at hl Ua
 cases m with
 |zero=>simp[zBa]at hl
 |succ m=>
 have Bb:=(hR.upd s4 Ua).o
 unfold zBa at hl;simp;refine dB [] (by kernel_rfl) ?_
 cases hb4:s4.bad with
 |true=>
  rw[hb4,if_pos rfl]at hl;cases hl
  simp[Bb,hb4]
 |false=>
 rw[hb4,if_neg (by simp)]at hl
 cases hx:l[s4.at_]? with
 |none=>
  rw[hx]at hl;cases hl
  have hlt:¬(s'.at_:Int)<(l.length:Int):=by have:=List.getElem?_eq_none_iff.1 hx;omega
  simp[Bb,hb4,hlt]
 |some x=>
 rw[hx]at hl
 have lh:s4.at_<l.length:=(List.getElem?_eq_some_iff.1 hx).1
 have hlt:(s4.at_:Int)<(l.length:Int):=by omega
 dsimp only at hl
 obtain⟨j,hj⟩:=z5 x.text (zB1 5) 0
 simp[Bb,hb4,hlt];refine dB [(5,1),(9,1),(12,1)] (by kernel_rfl) ?_
 simp[Bb,hb4,hlt]
 obtain⟨X,sC⟩:=zJb 5 (by omega) [.cells [.any,.any,.any,.any,.any,.any,.any,.any] 43,.cells e.av 43] (set2 S d i (rdO l s4))
 refine cq sC ?_
 cases hf:zB0 x.text (zB1 5)with
 |none=>
  rw[hf]at hl hj;rw[Option.map_none]at hj;cases hl
  simp[Bb,hb4,hlt,hx,Tok.enc,zGD,mapK,hj]
 |some op=>
  rw[hf]at hl hj;rw[Option.map_some]at hj
  dsimp only at hl
  have Na:=zCo hx
  obtain⟨Q,hQ⟩:∃Q,Q=s4.at_+1:=⟨_,rfl⟩
  have hw:IntKind.i64.wrap ((s4.at_:Int)+1)=(Q:Int):=by rw[hQ];exact zCb (b:=1) (by unfold maxLen;omega)
  rw[<-hQ]at hl
  have Le:(⟨Q,s4.bad,s4.full⟩:RS).at_<=l.length:=by show Q<=_;omega
  have Qm:=(hR.upd ⟨Q,s4.bad,s4.full⟩ Le).o
  cases hr:rd ⟨Q,s4.bad,s4.full⟩with
  |none=>rw[<-hb4,hr]at hl;cases hl
  |some r=>
  obtain⟨r,s6⟩:=r
  rw[<-hb4,hr]at hl
  obtain⟨rC,jc⟩:=Oa _ _ _ Le hr
  rw[hb4]at rC;simp[Bb,hb4,hlt,hx,Tok.enc,zGD,mapK,hj];refine cq ((zAZ s4).at hR Ua _) ?_;rw[Na];simp[Bb,hb4,hw];refine cq (rC.at hR (by show Q<=_;omega) _) ?_
  simp[zg]
  have Be:zBa l rd 5 m (e.two op r x.pos) s6=some (y,s'):=hl
  exact⟨m,e.two op r x.pos,s6,⟨Be,jc⟩,by omega,by simp[XQ.two,zg,ex0];exact⟨rfl,rfl,rfl,rfl,rfl,rfl⟩,rfl⟩
end Go.Proofs.YtdflkegnmmkkoaaGreatDoor
