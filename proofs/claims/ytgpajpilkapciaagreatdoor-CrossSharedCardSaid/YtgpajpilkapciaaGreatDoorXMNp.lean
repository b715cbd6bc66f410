/- A part of the proof. -/
import Derived.Test.YtgpajpilkapciaaGreatDoorXMWp
set_option linter.unusedVariables false
set_option linter.unusedSimpArgs false
set_option maxRecDepth 100000
set_option maxHeartbeats 32000000
namespace Go.Proofs.YtgpajpilkapciaaGreatDoor
open Go.RowKit
variable{l:List St}
mutual
def Ty.owned:Ty->Bool
 | .mk k _ l=>(decide (k≠13)&&decide (k≠14))&&Ty.owneds l
def Ty.owneds:List Ty->Bool
 | []=>true
 |t::l=>t.owned&&Ty.owneds l
end
theorem zOR(l:List Ty):Ty.owneds l=l.all Ty.owned:=by
 induction l with
 |nil=>rfl
 |cons t l ih=>simp[Ty.owneds,ih]
theorem zNF(t:Ty):t.owned=((decide (t.kind≠13)&&decide (t.kind≠14))&&t.args.all Ty.owned):=by
 cases t;simp only[Ty.owned,zOR];rfl
def zC4(k:Int)(x:Ty):Bool:=(!((k==6)&&decide (3<x.kind)))&&((k==13)||((k==14)||x.owned))
mutual
def Ty.stands:Ty->Bool
 | .mk k _ l=>Ty.standss k l
def Ty.standss(k:Int):List Ty->Bool
 | []=>true
 | .mk k' s' l'::l=>(Ty.stands (.mk k' s' l')&&zC4 k (.mk k' s' l'))&&Ty.standss k l
end
theorem zL3(k:Int)(l:List Ty):Ty.standss k l=l.all fun x=>x.stands&&zC4 k x:=by
 induction l with
 |nil=>rfl
 |cons t l ih=>cases t;simp[Ty.standss,ih]
theorem zQh(t:Ty):t.stands=t.args.all fun x=>x.stands&&zC4 t.kind x:=by
 cases t;simp only[Ty.stands,zL3];rfl
abbrev Flt:=Int × Int
def fltE(f:Flt):List PV:=[pI f.1,pI f.2]
def zU(p:List It)(s:BA):Option It:=p.find? fun x=>(decide (x.kind≠3))&&sEq x.name s
def zCR(p:List It)(nm:BA):Nat->List Fi->List BA->Option (Bool × List BA)
 |_,[],wb=>some (false,wb)
 |0,_::_,_=>none
 |n+1,f::fs,wb=>
  if f.type.kind≠4 then zCR p nm n fs wb
  else if sEq f.type.name nm=true then some (true,wb)
  else if wb.any (fun g=>sEq f.type.name g)=true then zCR p nm n fs wb
  else
   match zU p f.type.name with
   |none=>zCR p nm n fs (wb++[f.type.name])
   |some z=>
    match zCR p nm n z.fields (wb++[f.type.name])with
    |none=>none
    |some (true,g)=>some (true,g)
    |some (false,g)=>zCR p nm n fs g
def zI(kb:Bool)(e a:Int):List Flt:=if kb=true then []else [(e,a)]
mutual
def St.tabs:St->List Flt
 | .mk op _ _ _ ty _ _ _ b el ar pos=>zI ((op !=12)||(ty.stands&&ty.owned)) 70 pos++(St.tabss b++(St.tabss el++Ar.tabss ar))
def St.tabss:List St->List Flt
 | []=>[]
 |s::l=>s.tabs++St.tabss l
def Ar.tabss:List (ArOf St)->List Flt
 | []=>[]
 |⟨_,_,b⟩::l=>St.tabss b++Ar.tabss l
end
def It.tabs(p:List It)(n:Nat)(x:It):Option (List Flt):=
 let a:=x.fields.flatMap (fun f=>zI (f.type.stands&&((x.kind==3)||f.type.owned)) 70 x.pos)++(zI (x.result.stands&&x.result.owned) 70 x.pos++St.tabss x.body)
 if x.kind=3 then some a
 else(zCR p x.name n x.fields []).map fun r=>a++zI (!r.1) 71 x.pos
def zFH(p:List It)(n:Nat):List It->Option (List Flt)
 | []=>some []
 |x::l=>match x.tabs p n,zFH p n l with
  |some a,some b=>some (a++b)
  |_,_=>none
def zIt(p:List It)(n:Nat):Option (List Flt):=if zx p then zFH p n p else some [(2,0)]
abbrev Fg:=BA × Bool
def mPut:List Fg->BA->Bool->List Fg
 | [],s,b=>[(s,b)]
 |e::m,s,b=>if sEq s e.1=true then(s,b)::m else e::mPut m s b
def mGet:List Fg->BA->Option Bool
 | [],_=>none
 |e::m,s=>if sEq s e.1=true then some e.2 else mGet m s
def mIs(m:List Fg)(s:BA):Bool:=(mGet m s).getD false
structure Nf where
 made:List Fg
 count:Nat
 opn:Nat
 fl:List Flt
def Nf.add(σ:Nf)(l:List Flt):Nf:=⟨σ.made,σ.count,σ.opn,σ.fl++l⟩
def Nf.mk1(s:BA)(pos:Int)(σ:Nf):Nf:=⟨mPut σ.made s true,σ.count+1,σ.opn,σ.fl++zI (mGet σ.made s).isNone 60 pos⟩
def Nf.mkS:List BA->Int->Nf->Nf × List Fg
 | [],_,σ=>(σ,[])
 |s::l,pos,σ=>((Nf.mkS l pos (σ.mk1 s pos)).1,(s,mIs σ.made s)::(Nf.mkS l pos (σ.mk1 s pos)).2)
def Nf.put(σ:Nf)(g:Fg):Nf:=⟨mPut σ.made g.1 g.2,σ.count,σ.opn,σ.fl⟩
def Nf.undo:List Fg->Nf->Nf
 | [],σ=>σ
 |g::l,σ=>(Nf.undo l σ).put g
def fnIt(p:List It)(s:BA):Option It:=p.find? fun x=>(decide (x.kind=3))&&sEq x.name s
def zBj(l:List Fi)(s:BA):Option Fi:=l.find? fun v=>sEq v.name s
def litB:List Fi->List BA->Bool
 |f::fs,s::ss=>sEq f.name s&&litB fs ss
 | [],[]=>true
 |_,_=>false
def zE6(p:List It)(m:List Fg)(op:Int)(name second:BA)(pl:Pl)(n:Nat):Bool:=
 if op=18 then(match fnIt p name with|some x=>decide (x.fields.length=n)|none=>false)
 else if op=20 then(match zU p name with
  |some x=>decide (x.kind=2)&&(match zBj x.fields second with|some v=>decide (0<n)==decide (v.type.kind≠0)|none=>false)
  |none=>false)
 else if op=19 then(match zU p name with
  |some x=>decide (x.kind=1)&&(decide (x.fields.length=n)&&litB x.fields pl.path)
  |none=>false)
 else sEq pl.name emS||mIs m pl.name
mutual
def Ex.nm(p:List It)(m:List Fg):Ex->List Flt
 | .mk op _ name second pl args pos=>zI (zE6 p m op name second pl args.length) 60 pos++Ex.nms p m args
def Ex.nms(p:List It)(m:List Fg):List Ex->List Flt
 | []=>[]
 |e::l=>e.nm p m++Ex.nms p m l
end
theorem zYu(p:List It)(m:List Fg)(l:List Ex):Ex.nms p m l=l.flatMap (Ex.nm p m):=by
 induction l with
 |nil=>rfl
 |cons e l ih=>simp[Ex.nms,ih]
theorem exNm(p:List It)(m:List Fg)(e:Ex):e.nm p m=zI (zE6 p m e.op e.name e.u4 e.place e.args.length) 60 e.pos++e.args.flatMap (Ex.nm p m):=by
 cases e;simp only[Ex.nm,zYu];rfl
mutual
def Ty.nm(p:List It)(pos:Int):Ty->List Flt
 | .mk k s l=>(if k=4 then zI (zU p s).isSome 60 pos else [])++Ty.nms p pos l
def Ty.nms(p:List It)(pos:Int):List Ty->List Flt
 | []=>[]
 |t::l=>t.nm p pos++Ty.nms p pos l
end
theorem zaA(p:List It)(pos:Int)(l:List Ty):Ty.nms p pos l=l.flatMap (Ty.nm p pos):=by
 induction l with
 |nil=>rfl
 |cons e l ih=>simp[Ty.nms,ih]
theorem tyNm(p:List It)(pos:Int)(t:Ty):t.nm p pos=(if t.kind=4 then zI (zU p t.name).isSome 60 pos else [])++t.args.flatMap (Ty.nm p pos):=by
 cases t;simp only[Ty.nm,zaA];rfl
def zKx(p:List It)(k:Int)(s:BA):Option It:=(zU p s).bind fun x=>if x.kind=k then some x else none
def zKy(p:List It)(s:BA)(n:Nat):Bool:=match zKx p 1 s with|some x=>decide (x.fields.length=n)|none=>false
def cntN(l:List BA)(s:BA):Nat:=l.countP fun x=>sEq x s
def zE0(x:It):List BA->List Fg->Bool
 |_,[]=>true
 |met,a::l=>(match zBj x.fields a.1 with|some v=>(a.2==decide (v.type.kind≠0))|none=>false)&&(decide (cntN met a.1=0)&&zE0 x (met++[a.1]) l)
def zFI(x:It)(l:List Fg):Bool:=zE0 x [] l&&x.fields.all fun v=>decide (0<cntN (l.map (·.1)) v.name)
def zGk(p:List It)(s:BA)(l:List Fg):Bool:=match zKx p 2 s with|some x=>zFI x l|none=>false
def armF(a:Ar):Fg:=(a.variant,!sEq a.name emS)
def oneN(s:BA):List BA:=if sEq s emS=true then []else [s]
mutual
def St.nm(p:List It):St->Nf->Nf × List Fg
 | .mk op name second names ty _ pl es b el ar pos,σ=>
  if op=1 then Nf.mkS [name] pos (σ.add (Ex.nms p σ.made es))
  else if op=2 then Nf.mkS names pos ((σ.add (Ex.nms p σ.made es)).add (zI (zKy p name names.length) 60 pos))
  else if op=3 then((σ.add (Ex.nms p σ.made es)).add (zI (mIs σ.made pl.name) 60 pos),[])
  else if op=5 then((σ.add (Ex.nms p σ.made es)).add (zI (mIs σ.made name) 60 pos),[])
  else if op=12 then Nf.mkS [name,second] pos ((σ.add (Ex.nms p σ.made es)).add (ty.nm p pos))
  else if op=8 then(Ar.nms p pos ar ((σ.add (Ex.nms p σ.made es)).add (zI (mIs σ.made name&&zGk p second (ar.map armF)) 60 pos)),[])
  else if op=10 then
   ((fun(g:Nf)=>(⟨σ.made,σ.count,σ.opn,g.fl++zI (decide (g.count<=60)) 4 pos⟩:Nf))
    ((fun(r:Nf × List Fg)=>Nf.undo r.2 r.1) (St.nms p b (Nf.mkS names pos ⟨[],0,0,(σ.fl++Ex.nms p σ.made es)++zI (decide (0<σ.opn)) 61 pos⟩).1)),[])
  else if op=9 then
   ((fun(g:Nf)=>(⟨g.made,g.count,g.opn-1,g.fl⟩:Nf)) ((fun(r:Nf × List Fg)=>Nf.undo r.2 r.1) (St.nms p b ⟨σ.made,σ.count,σ.opn+1,σ.fl++Ex.nms p σ.made es⟩)),[])
  else if op=11 then
   ((fun(r:Nf × List Fg)=>Nf.undo r.2 ((fun(q:Nf × List Fg)=>Nf.undo q.2 q.1) (St.nms p b r.1))) (Nf.mkS [name] pos ((σ.add (Ex.nms p σ.made es)).add (zI (mIs σ.made pl.name) 60 pos))),[])
  else
   ((fun(q:Nf × List Fg)=>Nf.undo q.2 q.1) (St.nms p el ((fun(q:Nf × List Fg)=>Nf.undo q.2 q.1) (St.nms p b (σ.add (Ex.nms p σ.made es))))),[])
def St.nms(p:List It):List St->Nf->Nf × List Fg
 | [],σ=>(σ,[])
 |s::l,σ=>((St.nms p l (s.nm p σ).1).1,(s.nm p σ).2++(St.nms p l (s.nm p σ).1).2)
def Ar.nms(p:List It)(pos:Int):List (ArOf St)->Nf->Nf
 | [],σ=>σ
 |⟨_,n,bd⟩::l,σ=>Ar.nms p pos l ((fun(r:Nf × List Fg)=>Nf.undo r.2 ((fun(q:Nf × List Fg)=>Nf.undo q.2 q.1) (St.nms p bd r.1))) (Nf.mkS (oneN n) pos σ))
end
def zAT(p:List It)(l:List St)(pos:Int)(names:List BA)(σ:Nf):Nf:=
 Nf.undo (Nf.mkS names pos σ).2 (Nf.undo (St.nms p l (Nf.mkS names pos σ).1).2 (St.nms p l (Nf.mkS names pos σ).1).1)
def Ar.nm(p:List It)(pos:Int)(a:Ar)(σ:Nf):Nf:=zAT p a.body pos (oneN a.name) σ
theorem zaB(p:List It)(pos:Int)(l:List Ar)(σ:Nf):Ar.nms p pos l σ=l.foldl (fun σ a=>a.nm p pos σ) σ:=by
 induction l generalizing σ with
 |nil=>simp[Ar.nms]
 |cons a l ih=>obtain⟨v,n,b⟩:=a;simp only[Ar.nms,ih];rfl
def zCp(p:List It)(b:List St)(pos:Int)(names:List BA)(fl:List Flt):Nf:=
 Nf.undo (St.nms p b (Nf.mkS names pos ⟨[],0,0,fl⟩).1).2 (St.nms p b (Nf.mkS names pos ⟨[],0,0,fl⟩).1).1
theorem stNm(p:List It)(s:St)(σ:Nf):s.nm p σ=
  if s.op=1 then Nf.mkS [s.name] s.pos (σ.add (s.u5.flatMap (Ex.nm p σ.made)))
  else if s.op=2 then Nf.mkS s.names s.pos ((σ.add (s.u5.flatMap (Ex.nm p σ.made))).add (zI (zKy p s.name s.names.length) 60 s.pos))
  else if s.op=3 then((σ.add (s.u5.flatMap (Ex.nm p σ.made))).add (zI (mIs σ.made s.place.name) 60 s.pos),[])
  else if s.op=5 then((σ.add (s.u5.flatMap (Ex.nm p σ.made))).add (zI (mIs σ.made s.name) 60 s.pos),[])
  else if s.op=12 then Nf.mkS [s.name,s.u4] s.pos ((σ.add (s.u5.flatMap (Ex.nm p σ.made))).add (s.type.nm p s.pos))
  else if s.op=8 then(s.arms.foldl (fun σ a=>a.nm p s.pos σ) ((σ.add (s.u5.flatMap (Ex.nm p σ.made))).add (zI (mIs σ.made s.name&&zGk p s.u4 (s.arms.map armF)) 60 s.pos)),[])
  else if s.op=10 then
   (⟨σ.made,σ.count,σ.opn,(zCp p s.body s.pos s.names ((σ.fl++s.u5.flatMap (Ex.nm p σ.made))++zI (decide (0<σ.opn)) 61 s.pos)).fl++zI (decide ((zCp p s.body s.pos s.names ((σ.fl++s.u5.flatMap (Ex.nm p σ.made))++zI (decide (0<σ.opn)) 61 s.pos)).count<=60)) 4 s.pos⟩,[])
  else if s.op=9 then
   ((fun(g:Nf)=>(⟨g.made,g.count,g.opn-1,g.fl⟩:Nf)) (zAT p s.body s.pos [] ⟨σ.made,σ.count,σ.opn+1,σ.fl++s.u5.flatMap (Ex.nm p σ.made)⟩),[])
  else if s.op=11 then(zAT p s.body s.pos [s.name] ((σ.add (s.u5.flatMap (Ex.nm p σ.made))).add (zI (mIs σ.made s.place.name) 60 s.pos)),[])
  else(zAT p s.els s.pos [] (zAT p s.body s.pos [] (σ.add (s.u5.flatMap (Ex.nm p σ.made)))),[]):=by
 cases s;simp only[St.nm,zYu,zaB];rfl
def zBX(p:List It)(pos:Int):List BA->List Fi->List Flt
 |_,[]=>[]
 |met,f::l=>zI (decide (cntN met f.name=0)) 60 pos++(f.type.nm p pos++zBX p pos (met++[f.name]) l)
def zBI(p:List It)(q:Nat)(x:It):Bool:=(p.take q).any fun y=>(decide (y.kind=3)==decide (x.kind=3))&&sEq y.name x.name
def zJe(p:List It)(x:It)(fl:List Flt):Nf:=
 (fun(r:Nf × List Fg)=>Nf.undo r.2 (r.1.add (x.ret.nm p r.1.made))) (St.nms p x.body ⟨(x.fields.map Fi.name).foldl (fun m s=>mPut m s true) [],x.fields.length,0,fl⟩)
def zDu(p:List It)(q:Nat)(x:It)(fl:List Flt):List Flt:=
 (fun(a:List Flt)=>if x.kind=3 then(fun(g:Nf)=>g.fl++zI (decide (g.count<=60)) 4 x.pos) (zJe p x (a++x.result.nm p x.pos))else a) ((fl++zI (!zBI p q x) 60 x.pos)++zBX p x.pos [] x.fields)
def zDH(p:List It):Nat->List It->List Flt->List Flt
 |_,[],fl=>fl
 |q,x::l,fl=>zDH p (q+1) l (zDu p q x fl)
def zQi(p:List It)(s:BA):Bool:=match fnIt p s with|some x=>decide (x.fields.length=0)&&decide (x.result.kind=1)|none=>false
def zKz:BA:=(⟨#[109,97,105,110]⟩:BA)
def zBa(p:List It):List Flt:=if zx p=true then zDH p 0 p []++zI (zQi p zKz) 62 0 else [(2,0)]
structure Wf where
 vars:List Fg
 opn:Nat
 fl:List Flt
def vHas(v:List Fg)(s:BA):Bool:=v.any fun e=>sEq e.1 s
def vIs(v:List Fg)(s:BA):Bool:=v.any fun e=>sEq e.1 s&&e.2
def Wf.add(w:Wf)(l:List Flt):Wf:=⟨w.vars,w.opn,w.fl++l⟩
def Wf.mk1(s:BA)(pos:Int)(w:Wf):Wf:=⟨w.vars++[(s,true)],w.opn,w.fl++zI (!vHas w.vars s) 60 pos⟩
def Wf.mkS:List BA->Int->Wf->Wf
 | [],_,w=>w
 |s::l,pos,w=>Wf.mkS l pos (w.mk1 s pos)
def offs(v:List Fg):List Fg:=v.map fun e=>(e.1,false)
def Wf.forget(n:Nat)(w:Wf):Wf:=⟨w.vars.take n++offs (w.vars.drop n),w.opn,w.fl⟩
def payR(l:List Fi)(s:BA):Int:=match zBj l s with|some v=>if v.type.kind=0 then 1 else 2|none=>0
def zYv(p:List It)(m:List Fg)(op:Int)(name second:BA)(pl:Pl)(n:Nat):Bool:=
 if op=18 then(match fnIt p name with|some x=>decide (x.fields.length=n)|none=>false)
 else if op=19 then(match zKx p 1 name with|some x=>decide (x.fields.length=n)&&litB x.fields pl.path|none=>false)
 else if op=20 then(match zKx p 2 name with|some x=>decide (payR x.fields second=1+n)|none=>false)
 else sEq pl.name emS||vIs m pl.name
mutual
def Ex.rf(p:List It)(m:List Fg):Ex->List Flt
 | .mk op _ name second pl args pos=>zI (zYv p m op name second pl args.length) 60 pos++Ex.rfs p m args
def Ex.rfs(p:List It)(m:List Fg):List Ex->List Flt
 | []=>[]
 |e::l=>e.rf p m++Ex.rfs p m l
end
def zYw(x:It):List Fg->List Fg->Bool
 |_,[]=>true
 |met,a::l=>decide (payR x.fields a.1=if a.2 then 2 else 1)&&((!met.any fun b=>sEq b.1 a.1)&&zYw x (met++[a]) l)
def zWh(x:It)(l:List Fg):Bool:=zYw x [] l&&x.fields.all fun v=>l.any fun a=>sEq a.1 v.name
def zYx(p:List It)(s:BA)(l:List Fg):Bool:=match zKx p 2 s with|some x=>zWh x l|none=>false
def zWi(p:List It)(w:Wf)(op:Int)(name second:BA)(nn:Nat)(pl:Pl)(l:List Fg):Bool:=
 if op=2 then zKy p name nn
 else if op=3\/op=11 then vIs w.vars pl.name
 else if op=5 then vIs w.vars name
 else if op=8 then vIs w.vars name&&zYx p second l
 else if op=10 then decide (0<w.opn)
 else true
mutual
def St.rf(p:List It):St->Wf->Wf
 | .mk op name second names ty _ pl es b el ar pos,w=>
  (fun(u:Wf)=>
   if op=1 then Wf.mkS [name] pos u
   else if op=2 then Wf.mkS names pos u
   else if op=12 then Wf.mkS [name,second] pos (u.add (ty.nm p pos))
   else if op=9 then(fun(g:Wf)=>(⟨g.vars,g.opn-1,g.fl⟩:Wf)) ((St.rfs p b ⟨u.vars,u.opn+1,u.fl⟩).forget u.vars.length)
   else if op=11 then((St.rfs p b (Wf.mkS [name] pos u)).forget (u.vars.length+1)).forget u.vars.length
   else if op=10 then
    (fun(g:Wf)=>(⟨u.vars,u.opn,g.fl++zI (decide (g.vars.length<=60)) 4 pos⟩:Wf)) ((St.rfs p b (Wf.mkS names pos ⟨[],0,u.fl⟩)).forget names.length)
   else Ar.rfs p pos ar ((fun(g:Wf)=>(St.rfs p el g).forget g.vars.length) ((St.rfs p b u).forget u.vars.length)))
  ((fun(v:Wf)=>v.add (zI (zWi p v op name second names.length pl (ar.map armF)) (if op=10 then 61 else 60) pos)) (w.add (Ex.rfs p w.vars es)))
def St.rfs(p:List It):List St->Wf->Wf
 | [],w=>w
 |s::l,w=>St.rfs p l (s.rf p w)
def Ar.rfs(p:List It)(pos:Int):List (ArOf St)->Wf->Wf
 | [],w=>w
 |⟨_,n,bd⟩::l,w=>Ar.rfs p pos l (((fun(g:Wf)=>(St.rfs p bd g).forget g.vars.length) (Wf.mkS (oneN n) pos w)).forget w.vars.length)
end
def zVG(p:List It)(l:List St)(w:Wf):Wf:=(l.foldl (fun w s=>s.rf p w) w).forget w.vars.length
def Ar.rf(p:List It)(pos:Int)(a:Ar)(w:Wf):Wf:=(zVG p a.body (Wf.mkS (oneN a.name) pos w)).forget w.vars.length
theorem zFi(m:List Fg)(s:BA)(b:Bool)(t:BA):mGet (mPut m s b) t=if t=s then some b else mGet m t:=by
 induction m with
 |nil=>
  unfold mPut mGet mGet
  by_cases h:t=s
  .subst h;simp
  rw[if_neg (by rw[zDW h];simp),if_neg h]
 |cons e m ih=>
  unfold mPut
  by_cases h:sEq s e.1=true
  .rw[if_pos h]
   have:=zB3.1 h
   subst this;unfold mGet
   by_cases ht:t=e.1
   .subst ht;simp
   rw[if_neg (by rw[zDW ht];simp),if_neg ht,if_neg (by rw[zDW ht];simp)]
  rw[if_neg h]
  unfold mGet
  by_cases ht:sEq t e.1=true
  .rw[if_pos ht,if_pos ht]
   have:=zB3.1 ht
   subst this;rw[if_neg (fun h'=>h (by rw[h'];exact sEq_self _))]
  rw[if_neg ht,if_neg ht,ih]
theorem zL4(m:List Fg)(s:BA)(b:Bool)(t:BA):mIs (mPut m s b) t=if t=s then b else mIs m t:=by
 unfold mIs;rw[zFi];split<;>rfl
structure RW (σ:Nf) (w:Wf):Prop where
 has:∀s,(mGet σ.made s).isSome=vHas w.vars s
 is:∀s,mIs σ.made s=vIs w.vars s
 cnt:σ.count=w.vars.length
 opn:σ.opn=w.opn
 fl:σ.fl=w.fl
theorem RW.add{σ:Nf}{w:Wf}(h:RW σ w){l l':List Flt}(e:l=l'):RW (σ.add l) (w.add l'):=⟨h.has,h.is,h.cnt,h.opn,by simp[Nf.add,Wf.add,h.fl,e]⟩
theorem RW.mk1{σ:Nf}{w:Wf}(h:RW σ w)(s:BA)(pos:Int):RW (σ.mk1 s pos) (w.mk1 s pos):=by
 refine⟨fun t=>?_,fun t=>?_,?_,h.opn,?_⟩
 .simp only[Nf.mk1,Wf.mk1,zFi,vHas,List.any_append,List.any_cons,List.any_nil,Bool.or_false]
  by_cases ht:t=s
  .subst ht;simp
  rw[if_neg ht,h.has t,zDW fun e=>ht e.symm];simp[vHas]
 .simp only[Nf.mk1,Wf.mk1,zL4,vIs,List.any_append,List.any_cons,List.any_nil,Bool.or_false,Bool.and_true]
  by_cases ht:t=s
  .subst ht;simp
  rw[if_neg ht,h.is t,zDW fun e=>ht e.symm];simp[vIs]
 .simp[Nf.mk1,Wf.mk1,h.cnt]
 simp only[Nf.mk1,Wf.mk1]
 have:=h.has s
 rw[h.fl,<-this];cases mGet σ.made s<;>rfl
def Und(σ:Nf)(r:Nf × List Fg):Prop:=∀t,mIs (Nf.undo r.2 r.1).made t=mIs σ.made t
theorem zTn(a b:List Fg)(σ:Nf):Nf.undo (a++b) σ=Nf.undo a (Nf.undo b σ):=by
 induction a with
 |nil=>rfl
 |cons g a ih=>simp only[List.cons_append,Nf.undo,ih]
theorem zWj(a:List Fg){σ τ:Nf}(h:∀t,mIs σ.made t=mIs τ.made t):∀t,mIs (Nf.undo a σ).made t=mIs (Nf.undo a τ).made t:=by
 induction a with
 |nil=>exact h
 |cons g a ih=>intro t;simp only[Nf.undo,Nf.put,zL4];rw[ih]
theorem zTo(a:List Fg){σ:Nf}(h:∀g∈a,(mGet σ.made g.1).isSome=true):∀t,(mGet (Nf.undo a σ).made t).isSome=(mGet σ.made t).isSome:=by
 induction a with
 |nil=>intro t;rfl
 |cons g a ih=>
  intro t;simp only[Nf.undo,Nf.put,zFi];split
  .rename_i e;subst e;rw[h g (by simp)];rfl
  exact ih (fun x hx=>h x (List.mem_cons_of_mem _ hx)) t
theorem zQj(a:List Fg)(σ:Nf):(Nf.undo a σ).count=σ.count/\(Nf.undo a σ).opn=σ.opn/\(Nf.undo a σ).fl=σ.fl:=by
 induction a with
 |nil=>exact⟨rfl,rfl,rfl⟩
 |cons g a ih=>exact ih
structure Goes (σ:Nf) (w:Wf) (r:Nf × List Fg) (u:Wf):Prop where
 rw:RW r.1 u
 und:Und σ r
 pre:u.vars.take w.vars.length=w.vars
 opn:r.1.opn=σ.opn
 mem:∀g∈r.2,(mGet r.1.made g.1).isSome=true
 mono:∀t,(mGet σ.made t).isSome=true->(mGet r.1.made t).isSome=true
theorem zL5(w:Wf)(n:Nat)(s:BA):vHas (w.forget n).vars s=vHas w.vars s:=by
 unfold vHas Wf.forget offs
 have:∀l:List Fg,(l.map fun e=>(e.1,false)).any (fun e=>sEq e.1 s)=l.any fun e=>sEq e.1 s:=fun l=>by rw[List.any_map];rfl
 simp only[List.any_append,this];rw[<-List.any_append,List.take_append_drop]
theorem zOS(w:Wf)(n:Nat)(s:BA):vIs (w.forget n).vars s=vIs (w.vars.take n) s:=by
 unfold vIs Wf.forget offs
 have:∀l:List Fg,(l.map fun e=>(e.1,false)).any (fun e=>sEq e.1 s&&e.2)=false:=fun l=>by
  rw[List.any_map];simp
 simp only[List.any_append,this,Bool.or_false]
theorem Goes.close{σ:Nf}{w:Wf}{r:Nf × List Fg}{u:Wf}(h:Goes σ w r u)(h0:RW σ w):Goes σ w (Nf.undo r.2 r.1,[]) (u.forget w.vars.length):=by
 have hr:=zQj r.2 r.1
 have hh:=zTo r.2 h.mem
 have De:(u.forget w.vars.length).vars.take w.vars.length=w.vars:=by
  have hl:(u.vars.take w.vars.length).length=w.vars.length:=by rw[h.pre]
  simp only[Wf.forget];rw[List.take_append_of_le_length (by omega),List.take_take,Nat.min_self,h.pre]
 refine⟨⟨fun s=>?_,fun s=>?_,?_,?_,?_⟩,fun t=>?_,De,?_,fun g hg=>(by cases hg),fun t ht=>?_⟩
 .rw[zL5,hh,h.rw.has]
 .rw[zOS,h.pre,<-h0.is,h.und]
 .rw[hr.1,h.rw.cnt]
  simp[Wf.forget,offs]
  have:u.vars.length=(u.vars.take w.vars.length).length+(u.vars.drop w.vars.length).length:=by rw[<-List.length_append,List.take_append_drop]
  simp at this;omega
 .rw[hr.2.1,h.rw.opn];rfl
 .rw[hr.2.2,h.rw.fl];rfl
 .exact h.und t
 .rw[hr.2.1,h.opn]
 rw[hh];exact h.mono t ht
theorem Goes.trans{σ τ:Nf}{w v:Wf}{r:Nf × List Fg}{u:Wf}{a:List Fg}(h:Goes σ w (τ,a) v)(k:Goes τ v r u):Goes σ w (r.1,a++r.2) u:=by
 refine⟨k.rw,fun t=>?_,?_,k.opn.trans h.opn,fun g hg=>?_,fun t ht=>k.mono t (h.mono t ht)⟩
 .show mIs (Nf.undo (a++r.2) r.1).made t=_
  rw[zTn,zWj a (τ:=τ) k.und t]
  exact h.und t
 .have hl:w.vars.length<=v.vars.length:=by have:=congrArg List.length h.pre;simp at this;omega
  have:=congrArg (List.take w.vars.length) k.pre
  rw[List.take_take,Nat.min_eq_left hl,h.pre]at this;exact this
 rcases List.mem_append.1 hg with hg|hg
 .exact k.mono _ (h.mem g hg)
 exact k.mem g hg
theorem Goes.refl{σ:Nf}{w:Wf}(h:RW σ w):Goes σ w (σ,[]) w:=⟨h,fun t=>rfl,List.take_length,rfl,fun g hg=>(by cases hg),fun t ht=>ht⟩
theorem Goes.add{σ:Nf}{w:Wf}{r:Nf × List Fg}{u:Wf}(l:List Flt)(h:Goes (σ.add l) (w.add l) r u):Goes σ w r u:=⟨h.rw,h.und,h.pre,h.opn,h.mem,h.mono⟩
theorem Goes.mkS:∀(l:List BA) (pos:Int) {σ:Nf} {w:Wf},RW σ w->Goes σ w (Nf.mkS l pos σ) (Wf.mkS l pos w)
 | [],pos,σ,w,h=>Goes.refl h
 |s::l,pos,σ,w,h=>by
  have h1:=h.mk1 s pos
  have ih:=Goes.mkS l pos h1
  have g1:Goes σ w (σ.mk1 s pos,[(s,mIs σ.made s)]) (w.mk1 s pos):=by
   refine⟨h1,fun t=>?_,?_,rfl,fun g hg=>?_,fun t ht=>?_⟩
   .simp only[Nf.undo,Nf.put,Nf.mk1,zL4]
    split
    .rename_i e;rw[e]
    rfl
   .simp[Wf.mk1]
   .rw[List.mem_singleton.1 hg];simp[Nf.mk1,zFi]
   simp only[Nf.mk1,zFi];split;rfl;exact ht
  exact g1.trans ih
theorem Goes.list(p:List It)(hl:∀s∈l,∀(σ:Nf) (w:Wf),RW σ w->Goes σ w (s.nm p σ) (s.rf p w)):∀(σ:Nf) (w:Wf),RW σ w->Goes σ w (St.nms p l σ) (l.foldl (fun w s=>s.rf p w) w):=by
 induction l with
 |nil=>intro σ w h;simp only[St.nms];exact Goes.refl h
 |cons s l ih=>
  intro σ w h
  have h1:=hl s (by simp) σ w h
  have h2:=ih (fun y hy=>hl y (List.mem_cons_of_mem _ hy)) _ _ h1.rw
  simp only[St.nms,List.foldl_cons];exact Goes.trans (a:=(s.nm p σ).2) h1 h2
theorem Goes.block(p:List It)(hl:∀s∈l,∀(σ:Nf) (w:Wf),RW σ w->Goes σ w (s.nm p σ) (s.rf p w))(pos:Int){σ:Nf}{w:Wf}(h:RW σ w):Goes σ w (zAT p l pos [] σ,[]) (zVG p l w):=(Goes.list p hl σ w h).close h
mutual
def Ty.nd:Ty->Nat
 | .mk _ _ l=>1+Ty.nds l
def Ty.nds:List Ty->Nat
 | []=>0
 |t::l=>t.nd+Ty.nds l
end
theorem zaC(l:List Ty):Ty.nds l=(l.map Ty.nd).sum:=by
 induction l with
 |nil=>rfl
 |cons t l ih=>simp[Ty.nds,ih]
theorem tyNd(t:Ty):t.nd=1+(t.args.map Ty.nd).sum:=by cases t;simp only[Ty.nd,zaC];rfl
mutual
def Ex.nd:Ex->Nat
 | .mk _ _ _ _ _ l _=>1+Ex.nds l
def Ex.nds:List Ex->Nat
 | []=>0
 |t::l=>t.nd+Ex.nds l
end
theorem zaD(l:List Ex):Ex.nds l=(l.map Ex.nd).sum:=by
 induction l with
 |nil=>rfl
 |cons t l ih=>simp[Ex.nds,ih]
theorem exNd(t:Ex):t.nd=1+(t.args.map Ex.nd).sum:=by cases t;simp only[Ex.nd,zaD];rfl
mutual
def St.nd:St->Nat
 | .mk _ _ _ ns ty _ _ es b el ar _=>3+(ns.length+(ty.nd+((es.map Ex.nd).sum+(St.nds b+(St.nds el+Ar.nds ar)))))
def St.nds:List St->Nat
 | []=>0
 |s::l=>s.nd+St.nds l
def Ar.nds:List (ArOf St)->Nat
 | []=>0
 |⟨_,_,b⟩::l=>(1+St.nds b)+Ar.nds l
end
def Ar.nd(a:Ar):Nat:=1+St.nds a.body
theorem zWk(l:List St):St.nds l=(l.map St.nd).sum:=by
 induction l with
 |nil=>rfl
 |cons t l ih=>simp[St.nds,ih]
theorem zaE(l:List Ar):Ar.nds l=(l.map Ar.nd).sum:=by
 induction l with
 |nil=>rfl
 |cons t l ih=>obtain⟨v,n,b⟩:=t;simp[Ar.nds,Ar.nd,ih]
theorem stNd(s:St):s.nd=3+(s.names.length+(s.type.nd+((s.u5.map Ex.nd).sum+((s.body.map St.nd).sum+((s.els.map St.nd).sum+(s.arms.map Ar.nd).sum))))):=by
 cases s;simp only[St.nd,zWk,zaE];rfl
theorem arNd(a:Ar):a.nd=1+(a.body.map St.nd).sum:=by unfold Ar.nd;rw[zWk]
theorem zo(b:Bool)(e a:Int):(zI b e a).length<=1:=by cases b<;>simp[zI]
theorem zEm{α β:Type}(f:α->List β)(g:α->Nat)(l:List α)(h:∀x∈l,(f x).length<=g x):(l.flatMap f).length<=(l.map g).sum:=by
 induction l with
 |nil=>simp
 |cons x l ih=>
  rw[List.flatMap_cons,List.length_append,List.map_cons,List.sum_cons]
  have:=h x (by simp)
  have:=ih fun y hy=>h y (List.mem_cons_of_mem _ hy)
  omega
theorem zEn(p:List It)(pos:Int):∀t:Ty,(t.nm p pos).length<=t.nd:=by
 refine Ty.ind fun t ih=>?_
 rw[tyNm,tyNd,List.length_append]
 have:=zEm (Ty.nm p pos) Ty.nd t.args ih
 have:(if t.kind=4 then zI (zU p t.name).isSome 60 pos else []).length<=1:=by
  split
  .exact zo _ _ _
  simp
 omega
theorem zJf(p:List It)(m:List Fg):∀t:Ex,(t.nm p m).length<=t.nd:=by
 refine Ex.ind fun t ih=>?_
 rw[exNm,exNd,List.length_append]
 have:=zEm (Ex.nm p m) Ex.nd t.args ih
 have:=zo (zE6 p m t.op t.name t.u4 t.place t.args.length) 60 t.pos
 omega
theorem z9(p:List It)(m:List Fg)(l:List Ex):(l.flatMap (Ex.nm p m)).length<=(l.map Ex.nd).sum:=zEm _ _ _ fun x _=>zJf p m x
def Near(σ:Nf)(n:Nat)(τ:Nf):Prop:=σ.fl.length<=τ.fl.length/\τ.fl.length<=σ.fl.length+n/\σ.count<=τ.count/\τ.count<=σ.count+n/\τ.opn=σ.opn
theorem Near.trans{a b c:Nf}{n m:Nat}(h:Near a n b)(k:Near b m c):Near a (n+m) c:=by unfold Near at*;omega
theorem Near.le{a b:Nf}{n m:Nat}(h:Near a n b)(k:n<=m):Near a m b:=by unfold Near at*;omega
theorem Near.refl(a:Nf):Near a 0 a:=⟨Nat.le_refl _,Nat.le_refl _,Nat.le_refl _,Nat.le_refl _,rfl⟩
theorem Near.add(a:Nf){l:List Flt}{n:Nat}(h:l.length<=n):Near a n (a.add l):=⟨by simp[Nf.add],by simp[Nf.add];exact h,Nat.le_refl _,Nat.le_add_right _ _,rfl⟩
theorem zAy:∀(l:List BA) (pos:Int) (σ:Nf),Near σ l.length (Nf.mkS l pos σ).1/\(Nf.mkS l pos σ).2.length=l.length
 | [],pos,σ=>⟨Near.refl σ,rfl⟩
 |s::l,pos,σ=>by
  have h:=zAy l pos (σ.mk1 s pos)
  have h1:Near σ 1 (σ.mk1 s pos):=by
   have:=zo (mGet σ.made s).isNone 60 pos
   exact⟨by simp[Nf.mk1],by simp[Nf.mk1];exact this,Nat.le_succ _,Nat.le_refl _,rfl⟩
  refine⟨(h1.trans h.1).le (by simp;omega),?_⟩
  simp only[Nf.mkS,List.length_cons,h.2]
theorem zER(a:List Fg)(σ:Nf):Near σ 0 (Nf.undo a σ):=by
 have:(Nf.undo a σ).count=σ.count/\(Nf.undo a σ).opn=σ.opn/\(Nf.undo a σ).fl=σ.fl:=by
  induction a with
  |nil=>exact⟨rfl,rfl,rfl⟩
  |cons g a ih=>exact ih
 exact⟨by rw[this.2.2];exact Nat.le_refl _,by rw[this.2.2];exact Nat.le_refl _,by rw[this.1];exact Nat.le_refl _,by rw[this.1];exact Nat.le_refl _,this.2.1⟩
theorem zCN(p:List It)(h:∀s∈l,∀σ,Near σ s.nd (s.nm p σ).1/\(s.nm p σ).2.length<=s.nd):∀σ,Near σ (l.map St.nd).sum (St.nms p l σ).1/\(St.nms p l σ).2.length<=(l.map St.nd).sum:=by
 induction l with
 |nil=>intro σ;simp only[St.nms];exact⟨Near.refl σ,by simp⟩
 |cons s l ih=>
  intro σ
  have h1:=h s (by simp) σ
  have h2:=ih (fun y hy=>h y (List.mem_cons_of_mem _ hy)) (s.nm p σ).1
  simp only[St.nms,List.map_cons,List.sum_cons];refine⟨h1.1.trans h2.1,?_⟩;rw[List.length_append];omega
theorem zCF(p:List It)(h:∀s∈l,∀σ,Near σ s.nd (s.nm p σ).1/\(s.nm p σ).2.length<=s.nd)(pos:Int)(names:List BA)(σ:Nf):Near σ (names.length+(l.map St.nd).sum) (zAT p l pos names σ):=by
 unfold zAT;exact((((zAy names pos σ).1.trans (zCN p h _).1).trans (zER _ _)).trans (zER _ _)).le (by omega)
theorem zJg(s:BA):(oneN s).length<=1:=by unfold oneN;split<;>simp
theorem zC5(p:List It):∀(s:St) (σ:Nf),Near σ s.nd (s.nm p σ).1/\(s.nm p σ).2.length<=s.nd:=by
 refine St.ind fun s i1 i2 i3 σ=>?_
 have he:=z9 p σ.made s.u5
 have h0:=Near.add σ he
 have hA:=fun(b:Bool) (e:Int)=>h0.trans (Near.add (σ.add (s.u5.flatMap (Ex.nm p σ.made))) (zo b e s.pos))
 have fb:=stNd s
 rw[stNm];split
 .exact⟨(h0.trans (zAy _ _ _).1).le (by simp;omega),by rw[(zAy _ _ _).2];simp;omega⟩
 split
 .exact⟨((hA _ _).trans (zAy _ _ _).1).le (by omega),by rw[(zAy _ _ _).2];omega⟩
 split
 .exact⟨(hA _ _).le (by omega),by simp⟩
 split
 .exact⟨(hA _ _).le (by omega),by simp⟩
 split
 .exact⟨((h0.trans (Near.add _ (zEn p s.pos s.type))).trans (zAy _ _ _).1).le (by simp;omega),by rw[(zAy _ _ _).2];simp;omega⟩
 split
 .refine⟨?_,by simp⟩
  have key:∀(l:List Ar),(∀a∈l,a∈s.arms)->∀τ:Nf,Near τ (l.map Ar.nd).sum (l.foldl (fun σ a=>a.nm p s.pos σ) τ):=by
   intro l
   induction l with
   |nil=>intro _ τ;exact Near.refl τ
   |cons a l ih=>
    intro hl τ
    have h1:=zCF p (i3 a (hl a (by simp))) s.pos (oneN a.name) τ
    have h2:=ih (fun y hy=>hl y (List.mem_cons_of_mem _ hy)) (a.nm p s.pos τ)
    have ho:=zJg a.name
    have hn:=arNd a
    rw[List.map_cons,List.sum_cons,List.foldl_cons];exact(Near.trans (b:=a.nm p s.pos τ) h1 h2).le (by omega)
  exact((hA _ _).trans (key s.arms (fun a h=>h) _)).le (by omega)
 split
 .refine⟨?_,by simp⟩
  have h1:=zCN p i1 (Nf.mkS s.names s.pos ⟨[],0,0,(σ.fl++s.u5.flatMap (Ex.nm p σ.made))++zI (decide (0<σ.opn)) 61 s.pos⟩).1
  have h2:=zAy s.names s.pos ⟨[],0,0,(σ.fl++s.u5.flatMap (Ex.nm p σ.made))++zI (decide (0<σ.opn)) 61 s.pos⟩
  have h3:=zER (St.nms p s.body (Nf.mkS s.names s.pos ⟨[],0,0,(σ.fl++s.u5.flatMap (Ex.nm p σ.made))++zI (decide (0<σ.opn)) 61 s.pos⟩).1).2 (St.nms p s.body (Nf.mkS s.names s.pos ⟨[],0,0,(σ.fl++s.u5.flatMap (Ex.nm p σ.made))++zI (decide (0<σ.opn)) 61 s.pos⟩).1).1
  have h4:=(h2.1.trans h1.1).trans h3
  generalize hG:Nf.undo (St.nms p s.body (Nf.mkS s.names s.pos ⟨[],0,0,(σ.fl++s.u5.flatMap (Ex.nm p σ.made))++zI (decide (0<σ.opn)) 61 s.pos⟩).1).2 (St.nms p s.body (Nf.mkS s.names s.pos ⟨[],0,0,(σ.fl++s.u5.flatMap (Ex.nm p σ.made))++zI (decide (0<σ.opn)) 61 s.pos⟩).1).1=G at h4
  have hS:zCp p s.body s.pos s.names ((σ.fl++s.u5.flatMap (Ex.nm p σ.made))++zI (decide (0<σ.opn)) 61 s.pos)=G:=hG
  rw[hS]
  have w1:=zo (decide (0<σ.opn)) 61 s.pos
  have w2:=zo (decide (G.count<=60)) 4 s.pos
  have f1:=h4.1
  have f2:=h4.2.1
  simp only[List.length_append]at f1 f2;exact⟨by simp only[List.length_append];omega,by simp only[List.length_append];omega,Nat.le_refl _,Nat.le_add_right _ _,rfl⟩
 split
 .refine⟨?_,by simp⟩
  have h1:=zCF p i1 s.pos [] ⟨σ.made,σ.count,σ.opn+1,σ.fl++s.u5.flatMap (Ex.nm p σ.made)⟩
  obtain⟨f1,f2,f3,f4,f5⟩:=h1
  simp only[List.length_append,List.length_nil]at f1 f2 f3 f4 f5;refine⟨?_,?_,?_,?_,?_⟩
  .show σ.fl.length<=(zAT _ _ _ _ _).fl.length;omega
  .show(zAT _ _ _ _ _).fl.length<=_;omega
  .show σ.count<=(zAT _ _ _ _ _).count;omega
  .show(zAT _ _ _ _ _).count<=_;omega
  show(zAT _ _ _ _ _).opn-1=_;omega
 split
 .exact⟨((hA _ _).trans (zCF p i1 s.pos [s.name] _)).le (by simp;omega),by simp⟩
 refine⟨?_,by simp⟩
 have h1:=zCF p i1 s.pos [] (σ.add (s.u5.flatMap (Ex.nm p σ.made)))
 have h2:=zCF p i2 s.pos [] (zAT p s.body s.pos [] (σ.add (s.u5.flatMap (Ex.nm p σ.made))))
 exact((h0.trans h1).trans h2).le (by simp;omega)
theorem zBb{α:Type}{g:α->Int->Int}{c:α->Nat}:∀(l:List α) (n:Int),(∀x∈l,∀m,0<=m->m<=100000->0<=g x m->g x m+c x<=m)->n<=100000->0<=zE g l n->zE g l n+((l.map c).sum:Nat)<=n
 | [],n,h,h1,h2=>by simp[zE]
 |x::l,n,h,h1,h2=>by
  have hn:0<=n:=zp h2
  unfold zE at h2 ⊢;rw[if_neg (by omega)]at h2 ⊢
  have hx:=h x (by simp) n hn h1 (zp h2)
  have:=zBb l (g x n) (fun y hy=>h y (List.mem_cons_of_mem _ hy)) (by omega) h2
  simp only[List.map_cons,List.sum_cons];omega
theorem zWl:∀(t:Ty) (n:Int),0<=n->n<=100000->0<=t.room n->t.room n+t.nd<=n:=by
 refine Ty.ind fun t ih n h0 h1 h=>?_
 rw[zBr]at h ⊢
 have hp:=zK (zp h)
 have:=zBb (c:=Ty.nd) t.args _ (fun x hx m a b c=>ih x hx m a b c) (by omega) h
 rw[tyNd];omega
theorem zYy{l:List BA}{n:Int}(h1:n<=100000)(h:0<=zw l n):zw l n+l.length+5<=n:=by
 have:=zBb (c:=fun _=>1) (g:=fun(s:BA) m=>zC s.size m) l (n-5) (fun x hx m a b c=>by have:=zK c;omega) (by omega) h
 have e:(l.map fun _=>1).sum=l.length:=by clear this h;induction l with|nil=>rfl|cons x l ih=>simp[ih];omega
 rw[e]at this;unfold zw;omega
theorem zYz{x:Pl}{n:Int}(h1:n<=100000)(h:0<=x.room n):x.room n+10<=n:=by
 have hp:=zK (zEQ h)
 have:=zYy (by omega) h
 unfold Pl.room at h ⊢;omega
theorem zY0:∀(t:Ex) (n:Int),0<=n->n<=100000->0<=t.room n->t.room n+t.nd<=n:=by
 refine Ex.ind fun t ih n h0 h1 h=>?_
 rw[zC3]at h ⊢
 have hp:=zp h
 have hq:=zIr hp
 have b:=zK hq
 have a:=zK (by omega:0<=zC t.name.size n)
 have c:=zYz (by omega) hp
 have:=zBb (c:=Ex.nd) t.args _ (fun x hx m a b c=>ih x hx m a b c) (by omega) h
 rw[exNd];omega
theorem zaF:∀(s:St) (n:Int),0<=n->n<=100000->0<=s.room n->s.room n+s.nd<=n:=by
 refine St.ind fun s i1 i2 i3 n h0 h1 h=>?_
 rw[zEP]at h ⊢;split at h
 .omega
 rename_i hx
 rw[if_neg hx]
 have p1:=zp h
 have p2:=zp p1
 have p3:=zp p2
 have p4:0<=s.room1 n:=zp p3
 have q1:=zIr p4
 have q0:=zYz (by unfold St.room1 at p4;have:=zQe s n (by omega) h1;have c:=zHo s.type;have a:=zV s.name.size n (by omega);have b:=zV s.u4.size (zC s.name.size n) (by omega);have:=zG3 s.names (zC s.u4.size (zC s.name.size n)) (by omega) (by omega);have:=c (zw s.names (zC s.u4.size (zC s.name.size n))) (by omega) (by omega);omega) p4
 have q2:0<=zw s.names (zC s.u4.size (zC s.name.size n)):=by
  have:=q1
  rw[zBr]at this
  have:=zK (zp this)
  omega
 have q3:=zEQ q2
 have b:=zK q3
 have a:=zK (by omega:0<=zC s.name.size n)
 have c:=zYy (by omega) q2
 have d:=zWl s.type _ q2 (by omega) q1
 have e:=zBb (c:=Ex.nd) s.u5 (s.room1 n) (fun x hx m a b c=>zY0 x m a b c) (by unfold St.room1;omega) p3
 have f:=zBb (c:=St.nd) s.body _ (fun x hx m a b c=>i1 x hx m a b c) (by unfold St.room1 at*;omega) p2
 have g:=zBb (c:=St.nd) s.els _ (fun x hx m a b c=>i2 x hx m a b c) (by unfold St.room1 at*;omega) p1
 have i:=zBb (g:=Ar.room) (c:=Ar.nd) s.arms _ (fun x hx m h2 h3 h4=>by
  rw[zCh]at h4 ⊢
  have q1:=zp h4
  have q2:=zK q1
  have q3:=zK (by omega:0<=zC x.variant.size m)
  have:=zBb (c:=St.nd) x.body _ (fun y hy m a b c=>i3 x hx y hy m a b c) (by omega) h4
  rw[arNd];omega) (by unfold St.room1 at*;omega) h
 rw[stNd];unfold St.room1 at*;omega
def Fi.nd(f:Fi):Nat:=1+f.type.nd
def It.nd(x:It):Nat:=3+((x.fields.map Fi.nd).sum+(x.result.nd+((x.body.map St.nd).sum+x.ret.nd)))
theorem zaG(f:Fi)(n:Int)(h0:0<=n)(h1:n<=100000)(h:0<=f.room n):f.room n+f.nd<=n:=by
 unfold Fi.room at h ⊢
 have:0<=zC f.name.size n:=by
  have:=h
  rw[zBr]at this
  have:=zK (zp this)
  omega
 have a:=zK this
 have:=zWl f.type _ this (by omega) h
 unfold Fi.nd;omega
theorem zaH(x:It)(n:Int)(h0:0<=n)(h1:n<=100000)(h:0<=x.room n):x.room n+x.nd<=n:=by
 unfold It.room at h ⊢
 have e3:0<=zE St.room x.body (x.result.room (zE Fi.room x.fields (zC x.name.size n))):=by
  have:=h
  rw[zC3]at this
  have k2:=zK (zIr (zp this))
  have k1:=zK (by omega:0<=zC x.ret.name.size (zE St.room x.body (x.result.room (zE Fi.room x.fields (zC x.name.size n)))))
  omega
 have e2:=zp e3
 have e1:0<=zE Fi.room x.fields (zC x.name.size n):=by
  have:=e2
  rw[zBr]at this
  have:=zK (zp this)
  omega
 have k:=zK (zp e1)
 have a:=zBb (c:=Fi.nd) x.fields _ (fun f _ m a b c=>zaG f m a b c) (by omega) e1
 have b:=zWl x.result _ e1 (by omega) e2
 have c:=zBb (c:=St.nd) x.body _ (fun f _ m a b c=>zaF f m a b c) (by omega) e3
 have d:=zY0 x.ret _ e3 (by omega) h
 unfold It.nd;omega
theorem zY1{p:List It}(h:great p=false):(p.map It.nd).sum<=20000:=by
 have h:0<=zE It.room p 20000:=by simpa [great]using h
 have:=zBb (c:=It.nd) p 20000 (fun x _ m a b c=>zaH x m a b c) (by omega) h
 omega
end Go.Proofs.YtgpajpilkapciaaGreatDoor
