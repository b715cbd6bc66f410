/- A part of the proof. -/
import Derived.Test.YtgpajpilkapciaaGreatDoorXMLk
import Derived.Laws.BytesArg
import Derived.MapKept
import Derived.Carry
import Derived.Deep.LoopGhost
import Derived.Scope
set_option linter.unusedVariables false
set_option linter.unusedSimpArgs false
set_option maxRecDepth 100000
set_option maxHeartbeats 32000000
namespace Go.Proofs.YtgpajpilkapciaaGreatDoor
open Go.RowKit
def zDC:TypeDesc->Value->Bool
 | .int _,.int _ _=>true
 | .string,.string _=>true
 | .bool,.bool _=>true
 |_,_=>false
def keyS(P:Program)(kt:TypeId):Option (TypeDesc × TypeDesc):=
 match P.underlying kt with
 |some (.struct fs)=>
  match fs.toList with
  | [f0,f1]=>
   match P.underlying f0.type,P.underlying f1.type with
   |some d0,some d1=>if f0.name≠ "_" /\f1.name≠ "_" /\f0.offset=0/\f1.offset=1/\P.stoodInHeld kt=false then some (d0,d1)else none
   |_,_=>none
  |_=>none
 |_=>none
theorem zHO{P:Program}{kt:TypeId}{d0 d1:TypeDesc}(h:keyS P kt=some (d0,d1)):∃f0 f1:Field,P.underlying kt=some (.struct #[f0,f1])/\P.underlying f0.type=some d0/\P.underlying f1.type=some d1/\f0.name≠ "_" /\f1.name≠ "_" /\f0.offset=0/\f1.offset=1/\P.stoodInHeld kt=false:=by
 unfold keyS at h;split at h
 .rename_i fs hu
  split at h
  .rename_i f0 f1 hl
   split at h
   .rename_i e0 e1 h0 h1
    split at h
    .rename_i hc
     cases h
     have Db:fs= #[f0,f1]:=by
      apply Array.ext'
      rw[hl]
     subst Db;exact⟨f0,f1,hu,h0,h1,hc⟩
    cases h
   cases h
  cases h
 cases h
section
variable{P:Program}{kt:TypeId}{d0 d1:TypeDesc}
theorem zEi{t:TypeId}{d:TypeDesc}{cs:Array Value}{off:Nat}{v:Value}(hu:P.underlying t=some d)(hk:zDC d v=true)(hx:cs[off]? =some v)(w:World):(part t cs off).run P w= .ok v w:=by
 unfold zDC at hk;split at hk<;>first|(simp[part,isAgg,run_underlying hu,hx];done)|cases hk
theorem zFC{t:TypeId}{d:TypeDesc}{v:Value}(hu:P.underlying t=some d)(hk:zDC d v=true)(em:Bool)(n:Nat)(w:World):(Instr.checkKey em (n+1) t v).run P w= .ok () w:=by
 rw[Instr.checkKey];unfold zDC at hk;split at hk<;>first|(simp[run_underlying hu];done)|cases hk
theorem zJL{a b:Value}(h:keyS P kt=some (d0,d1))(ha:zDC d0 a=true)(hb:zDC d1 b=true)(em:Bool)(w:World):(Instr.checkKey em 10000 kt (.agg #[a,b])).run P w= .ok () w:=by
 obtain⟨f0,f1,hu,h0,h1,n0,n1,o0,o1,hs⟩:=zHO h
 rw[show(10000:Nat)=9998+1+1 from rfl,Instr.checkKey]
 have p0:=fun w=>zEi (cs:=#[a,b]) (off:=0) h0 ha rfl w
 have p1:=fun w=>zEi (cs:=#[a,b]) (off:=1) h1 hb rfl w
 have c0:=fun w=>zFC h0 ha em 9998 w
 have c1:=fun w=>zFC h1 hb em 9998 w
 simp[run_underlying hu,n0,n1,o0,o1,p0,p1,c0,c1]
theorem zMp{t:TypeId}{d:TypeDesc}{a c:Value}{x:Bool}(hu:P.underlying t=some d)(hk:zDC d a=true)(h:Instr.sameNow d a c=some x)(n:Nat)(w:World):(Op.equalIn (n+1) t a c).run P w= .ok x w:=by
 rw[Op.equalIn];unfold zDC at hk;split at hk
 .cases c<;>simp[Instr.sameNow]at h
  obtain⟨rfl,h⟩:=h
  subst h;simp[run_underlying hu]
 .cases c<;>simp[Instr.sameNow]at h
  subst h;simp[run_underlying hu]
 .cases c<;>simp[Instr.sameNow]at h
  subst h;simp[run_underlying hu]
 cases hk
theorem zIb{d:TypeDesc}{a c:Value}{x:Bool}(hk:zDC d a=true)(h:Instr.sameNow d a c=some x):zDC d c=true:=by
 unfold zDC at hk;split at hk<;>first|(cases c<;>simp[Instr.sameNow]at h<;>rfl)|cases hk
theorem zN8{a b c d:Value}{x y:Bool}(h:keyS P kt=some (d0,d1))(ha:zDC d0 a=true)(hb:zDC d1 b=true)(hx:Instr.sameNow d0 a c=some x)(hy:Instr.sameNow d1 b d=some y)(w:World):(Op.equal kt (.agg #[a,b]) (.agg #[c,d])).run P w= .ok (x&&y) w:=by
 obtain⟨f0,f1,hu,h0,h1,n0,n1,o0,o1,hs⟩:=zHO h
 unfold Op.equal;rw[show Op.maxDepth=9998+1+1 from rfl,Op.equalIn]
 have p0:=fun w=>zEi (cs:=#[a,b]) (off:=0) h0 ha rfl w
 have p1:=fun w=>zEi (cs:=#[a,b]) (off:=1) h1 hb rfl w
 have q0:=fun w=>zEi (cs:=#[c,d]) (off:=0) h0 (zIb ha hx) rfl w
 have q1:=fun w=>zEi (cs:=#[c,d]) (off:=1) h1 (zIb hb hy) rfl w
 have c0:=fun w=>zMp h0 ha hx 9998 w
 have c1:=fun w=>zMp h1 hb hy 9998 w
 cases x<;>cases y<;>simp[run_underlying hu,hs,n0,n1,o0,o1,p0,p1,q0,q1,c0,c1]
end
end Go.Proofs.YtgpajpilkapciaaGreatDoor
namespace Go.Proofs.YtgpajpilkapciaaGreatDoor
open Go.RowKit
def zEE:List (List PV)->Option (List UInt8)
 | []=>some []
 | [.v (.int .u8 n)]::rs=>if 0<=n/\n<256 then(zEE rs).map fun l=>UInt8.ofNat n.toNat::l else none
 |_=>none
def zSL(P:Program)(src dst:TypeId)(v:AV):Option AV:=
 match P.underlying src,P.underlying dst with
 |some (.slice e),some .string=>
  match P.underlying e with
  |some (.int .u8)=>
   match v with
   | .p (.sl k rows)=>if k=1 then(zEE rows).map fun l=>.p (.v (.string ⟨l.toArray⟩))else none
   | .osl k rows _ _=>if k=1 then(zEE rows).map fun l=>.p (.v (.string ⟨l.toArray⟩))else none
   | .p (.v (.slice none 0 0))=>some (.p (.v (.string ⟨#[]⟩)))
   |_=>none
  |_=>none
 |some _,some (.int k)=>
  match v with
  | .p (.v (.int _ n))=>some (.p (.v (.int k (k.wrap n))))
  |_=>none
 |_,_=>none
def zA0(d:TypeDesc)(k:Value):List (Value × AV)->Nat->Option (Option (Nat × AV))
 | [],_=>some none
 |(k',v)::es,i=>
  match Instr.sameNow d k k' with
  |some true=>some (some (i,v))
  |some false=>zA0 d k es (i+1)
  |none=>none
def zAJ(d0 d1:TypeDesc)(a b:Value):List (Value × AV)->Nat->Option (Option (Nat × AV))
 | [],_=>some none
 |(.agg cs,v)::es,i=>
  match cs.toList with
  | [c,d]=>
   match Instr.sameNow d0 a c,Instr.sameNow d1 b d with
   |some x,some y=>if(x&&y)=true then some (some (i,v))else zAJ d0 d1 a b es (i+1)
   |_,_=>none
  |_=>none
 |_::_,_=>none
def zN9(P:Program)(kt:TypeId)(k:AV)(es:List (Value × AV)):Option (Value × Option (Nat × AV)):=
 match P.underlying kt,k with
 |some dk,.p (.v key)=>if zDC dk key=true then(zA0 dk key es 0).map fun r=>(key,r)else none
 |some _,.agg [.p (.v a),.p (.v b)]=>
  match keyS P kt with
  |some (d0,d1)=>if(zDC d0 a&&zDC d1 b)=true then(zAJ d0 d1 a b es 0).map fun r=>(.agg #[a,b],r)else none
  |none=>none
 |_,_=>none
def zJM(P:Program)(t:TypeId):Option AV:=(P.info? t).bind fun i=>i.zero.bind valA
def zVb(ok:Bool)(v:AV)(b:Bool):AV:=if ok=true then .tup [v,.p (.v (.bool b))]else v
def zPL(P:Program)(T:TypeId)(m k:AV)(ok:Bool)(S:ASt):Option (AV × Option (Nat × Nat)):=
 match P.underlying T with
 |some (.map kt et)=>
  match m with
  | .mp d i=>
   match get2 S d i with
   |some (.map es)=>
    match zN9 P kt k es with
    |some (_,some (_,v))=>some (zVb ok (v.up d) true,some (d,i))
    |some (_,none)=>(zJM P et).map fun z=>(zVb ok z false,some (d,i))
    |none=>none
   |_=>none
  |_=>none
 |_=>none
def toPs:List AV->Option (List PV)
 | []=>some []
 |c::cs=>
  match c.toP,toPs cs with
  |some q,some qs=>some (q::qs)
  |_,_=>none
def zDE(k:Nat)(qs:List PV):Nat->List (List PV)
 |0=>[]
 |n+1=>qs.take k::zDE k (qs.drop k) n
def rowA(P:Program)(t:TypeId)(len:Nat)(Ga:List (Nat × AV)):Option AV:=
 match P.underlying t with
 |some (.slice e)=>if P.cellsOf e≠0/\0<len/\len*P.cellsOf e<=16777216 then
   match zAh P e with
   |some zs=>if zs.length=P.cellsOf e then
     match zGp (fun i=>some (i*P.cellsOf e,P.cellsOf e)) ((List.range (len*P.cellsOf e)).map fun j=>.p (.v (zs.getD (j%P.cellsOf e) undef))) Ga with
     |some cs=>(toPs cs).map fun qs=>.p (.sl (P.cellsOf e) (zDE (P.cellsOf e) qs len))
     |none=>none
    else none
   |none=>none
  else none
 |_=>none
def evL(P:Program)(o:Oper)(fr:List AV)(S:ASt):Option (AV × Option (Nat × Nat)):=
 match o.op with
 | .load t x=>
  match evA fr x with
  | .ptr d i off=>
   match get2 S d i with
   |some (.cells cs _)=>(zHM P t cs off).map fun v=>(v.up d,some (d,i))
   |_=>none
  | .rptr d i n off=>
   match get2 S d i with
   |some (.row _ _ n' cs)=>if n'=n then(zHM P t cs off).map fun v=>(v.up d,some (d,i))else none
   |_=>none
  | .rp cs=>(zHM P t (cs.map .p) 0).map fun v=>(v,none)
  | .bx cs=>(zHM P t cs 0).map fun v=>(v,none)
  |_=>none
 | .convert src dst x=>
  match zSL P src dst (evA fr x)with
  |some v=>some (v,none)
  |none=>(evP P o fr).map fun v=>(v,none)
 | .lookup t m k ok=>zPL P t (evA fr m) (evA fr k) ok S
 | .buildSlice t len Ga=>if o.type=4294967295 then(rowA P t len (Ga.toList.map fun q=>(q.1,evA fr q.2))).map fun v=>(v,none)else none
 |_=>none
def zMq:TypeDesc->Bool
 | .struct _=>true
 | .array _ _=>true
 |_=>false
section
variable{P:Program}{Pr:Prot}{φ:Fi2}
theorem zKK{t:TypeId}{d:TypeDesc}(h:P.underlying t=some d)(w:World):(isAgg t).run P w= .ok (zMq d) w:=by
 cases d<;>simp[isAgg,zMq,run_underlying h]
theorem zEF{t:TypeId}{cs:List AV}{off g o:Nat}{v:AV}{w:World}{xs:Array Value}(hl:cs.length=xs.size)(hc:∀(j:Nat) (c:AV) (x:Value),cs[j]? =some c->xs[j]? =some x->RA Pr φ c x)
  (hx:∀j x,xs[off+j]? =some x->w.cell? ⟨g,o+j,none⟩=some x) (h:zHM P t cs off=some v):∃y,RA Pr φ v y/\(Instr.loadAt t (.pointer (some ⟨g,o,none⟩))).run P w= .ok y w:=by
 have key:∀d,P.underlying t=some d->zMq d=true->P.cellsOf t≠0/\off+P.cellsOf t<=cs.length->∃y,RA Pr φ (.agg ((cs.drop off).take (P.cellsOf t))) y/\(Instr.loadAt t (.pointer (some ⟨g,o,none⟩))).run P w= .ok y w:=by
  intro d ht hd hn
  have Vj:(loadCells ⟨g,o,none⟩ (P.cellsOf t)).run P w= .ok (xs.extract off (off+P.cellsOf t)) w:=by
   have:=run_loadCells_list (P:=P) w ⟨g,o,none⟩ ((xs.toList.drop off).take (P.cellsOf t)) (fun j u hu=>by
    rw[List.getElem?_take]at hu;split at hu
    .rw[List.getElem?_drop]at hu
     rw[addN];exact hx j u (by simpa using hu)
    cases hu)
   have ca:((xs.toList.drop off).take (P.cellsOf t)).length=P.cellsOf t:=by simp;omega
   rw[ca]at this;rw[this]
   congr 1
   apply Array.ext'
   simp[Array.toList_extract,List.extract_eq_take_drop]
  exact⟨_,zLl hl hc hn.2,by simp[Instr.loadAt,Instr.sureAddr,loadVar,zKK ht,hd,zr rfl hn.1,Vj]⟩
 unfold zHM at h;split at h
 .rename_i ht
  split at h
  .rename_i hn;cases h;exact key _ ht rfl hn
  cases h
 .rename_i ht
  split at h
  .rename_i hn;cases h;exact key _ ht rfl hn
  cases h
 .rename_i d h1 h2 ht
  have hlt:off<xs.size:=by have:=(List.getElem?_eq_some_iff.1 h).1;omega
  have Wj:xs[off]? =some xs[off]:=Array.getElem?_eq_getElem hlt
  have Ja:w.cell? ⟨g,o,none⟩=some xs[off]:=hx 0 _ Wj
  refine⟨xs[off],hc off v _ h Wj,?_⟩
  have:zMq d=false:=by
   cases d<;>first|rfl|exact absurd rfl (h1 _)|exact absurd rfl (h2 _ _)
  simp[Instr.loadAt,Instr.sureAddr,loadVar,zKK ht,this,Ja]
 cases h
theorem zIc:∀{rows:List (List PV)} {l:List UInt8},zEE rows=some l->l.length=rows.length/\∀(j:Nat) (b:UInt8),l[j]? =some b->rows[j]? =some [.v (.int .u8 b.toNat)]
 | [],l,h=>by simp[zEE]at h;subst h;exact⟨rfl,fun j b h=>by simp at h⟩
 |r::rs,l,h=>by
  unfold zEE at h;split at h
  .rename_i e;cases e
  .rename_i n cv e
   cases e;split at h
   .rename_i hn
    obtain⟨l',h1,rfl⟩:=Option.map_eq_some_iff.1 h
    obtain⟨h2,h3⟩:=zIc h1
    refine⟨by simp[h2],fun j b hb=>?_⟩
    cases j with
    |zero=>
     simp at hb;subst hb
     have:(UInt8.ofNat n.toNat).toNat=n.toNat:=by simp;omega
     simp only[List.getElem?_cons_zero,this,Option.some.injEq,List.cons.injEq,PV.v.injEq,Value.int.injEq,true_and,and_true]
     omega
    |succ j=>simpa using h3 j b (by simpa using hb)
   cases h
  cases h
theorem zSM{src dst:TypeId}{v v':AV}{x:Value}{S:ASt}{w:World}(h:RA Pr φ v x)(hR:Rel Pr φ S w)(hv:zSL P src dst v=some v'):∃y,RA Pr φ v' y/\(convert src dst x).run P w= .ok y w:=by
 have key:∀(e:TypeId) (rows:List (List PV)) (l:List UInt8),P.underlying src=some (.slice e)->P.underlying dst=some .string->P.underlying e=some (.int .u8)->RP Pr (.sl 1 rows) x->zEE rows=some l->(convert src dst x).run P w= .ok (.string ⟨l.toArray⟩) w:=by
  intro e rows l hs hd he hx hl
  obtain⟨h1,h2⟩:=zIc hl
  generalize hk:(1:Nat)=k at hx
  cases hx with
  |slemp k A cap _=>
   simp at h1;subst h1;rw[run_convert_bytes_string w src dst e A 0 cap hs he hd]
   cases A with
   |none=>simp[Conv.bytesToString];rfl
   |some a=>
    rw[run_bytesToString w a 0 cap [] (by simp[loadCells,loadCellsFrom])]
    rfl
  | @sl _ bk off cap _ vs c1 c2 c3 c4 c5=>
   subst hk
   have Ja:∀j (b:UInt8),l[j]? =some b->w.cell? ⟨bk,off+j,none⟩=some (.int .u8 b.toNat):=fun j b hj=>by
    have hr:=h2 j b hj
    have h4:=c4 j _ 0 _ hr rfl
    have h5:=c5 j _ 0 _ hr rfl
    rw[Nat.mul_one,Nat.add_zero]at h4;rw[hR.pr _ _ _ h4]
    generalize vs j 0=z at h5
    cases h5 with
    |v=>rfl
   rw[<-h1,run_convert_bytes_arg (P:=P) w src e hs he bk off l.length cap (l.map fun b=>(b.toNat:Int)) (by simp) (fun i hi=>by
    rw[Ja i l[i] (List.getElem?_eq_getElem hi)];simp[List.getD,hi]) dst hd]
   congr 2
   apply ByteArray.ext
   apply Array.ext'
   rw[strOfNums_data,List.map_map]
   conv=>rhs;rw[show(⟨l.toArray⟩:BA).data.toList=l from rfl,<-List.map_id l]
   apply List.map_congr_left
   intro b _;simp
 unfold zSL at hv;split at hv
 .rename_i e hs hd
  split at hv
  .rename_i he
   split at hv
   .rename_i k rows
    split at hv
    .rename_i hk
     subst hk
     obtain⟨l,hl,rfl⟩:=Option.map_eq_some_iff.1 hv
     cases h with
     |p h=>exact⟨_,.p (.v rfl),key e rows l hs hd he h hl⟩
    cases hv
   .rename_i k rows d i
    split at hv
    .rename_i hk
     subst hk
     obtain⟨l,hl,rfl⟩:=Option.map_eq_some_iff.1 hv
     exact⟨_,.p (.v rfl),key e rows l hs hd he h.sl hl⟩
    cases hv
   .cases hv
    have:=zO h rfl
    subst this;exact⟨_,.p (.v rfl),run_convert_bytes_nil w src e hs he 0 0 dst hd⟩
   cases hv
  cases hv
 .rename_i d0 k hs hd
  split at hv
  .rename_i k0 n
   cases hv
   have:=zO h rfl
   subst this;exact⟨_,.p (.v rfl),by simp[convert,run_underlying hs,run_underlying hd,Conv.intToInt]⟩
  cases hv
 cases hv
theorem zKL{kt:TypeId}{dk:TypeDesc}{key:Value}(hk:P.underlying kt=some dk)(h:zDC dk key=true)(em:Bool)(w:World):(Instr.checkKey em 10000 kt key).run P w= .ok () w:=zFC hk h em 9999 w
theorem zFD{dk:TypeDesc}{key k':Value}(n:Nat)(h:zDC dk key=true)(hs:Instr.sameNow dk key k'=some true):Instr.sameBits n k' key=true:=by
 unfold zDC at h;split at h
 .cases k'<;>simp[Instr.sameNow]at hs
  rename_i k a j b
  obtain⟨rfl,rfl⟩:=hs
  simp[Instr.sameBits]
 .cases k'<;>simp only[Instr.sameNow,Option.some.injEq,reduceCtorEq]at hs
  rename_i p q
  obtain⟨a⟩:=p
  obtain⟨b⟩:=q
  change (a==b)=true at hs
  have:=eq_of_beq hs
  subst this;simp only[Instr.sameBits]
  show(a==a)=true
  simp
 .cases k'<;>simp only[Instr.sameNow,Option.some.injEq,reduceCtorEq]at hs
  simp[Instr.sameBits,eq_of_beq hs]
 cases h
theorem zHP{Pr:Prot}{φ:Fi2}{dk:TypeDesc}{key:Value}:∀(es:List (Value × AV)) (ents:List MapEntry) (i:Nat) (r:Option (Nat × AV)),es.length=ents.length->
  (∀(j:Nat) (kv:Value × AV) (en:MapEntry),es[j]? =some kv->ents[j]? =some en->en.key=kv.1/\RA Pr φ kv.2 en.val)->zA0 dk key es i=some r->
  (r=none/\Instr.findNow dk key ents i=some none)\/∃j v x,r=some (i+j,v)/\Instr.findNow dk key ents i=some (some (i+j,x))/\RA Pr φ v x/\∃kv en,es[j]? =some kv/\ents[j]? =some en/\kv.2=v/\en.val=x/\Instr.sameNow dk key kv.1=some true
 | [],[],i,r,_,_,h=>by simp[zA0]at h;subst h;exact .inl ⟨rfl,rfl⟩
 |(k',v)::es,en::ents,i,r,hl,hc,h=>by
  obtain⟨h1,h2⟩:=hc 0 _ _ rfl rfl
  simp only at h1 h2;simp only[zA0]at h;simp only[Instr.findNow,h1];split at h
  .rename_i hs
   cases h;rw[hs];exact .inr ⟨0,v,en.val,rfl,rfl,h2,_,en,rfl,rfl,rfl,rfl,hs⟩
  .rename_i hs
   rw[hs]
   rcases zHP es ents (i+1) r (by simpa using hl) (fun j kv en a b=>hc (j+1) kv en (by simpa using a) (by simpa using b)) h with⟨h3,h4⟩|⟨j,v',x,h3,h4,h5,kv,Jf,h6,h7,h8⟩
   .exact .inl ⟨h3,h4⟩
   refine .inr ⟨j+1,v',x,?_,?_,h5,kv,Jf,by simpa using h6,by simpa using h7,h8⟩
   .rw[h3,show i+(j+1)=i+1+j by omega]
   rw[h4,show i+(j+1)=i+1+j by omega]
  cases h
 | [],_::_,i,r,hl,_,_=>by simp at hl
 |_::_,[],i,r,hl,_,_=>by simp at hl
theorem zHQ{kt:TypeId}{dk:TypeDesc}{key:Value}{es:List MapEntry}{r:Option (Nat × Value)}(hk:P.underlying kt=some dk)(h:Instr.findNow dk key es 0=some r)(w:World):(Instr.findKey kt key es).run P w= .ok r w:=by
 simp[Instr.findKey,run_underlying hk,h]
theorem zSN{Pr:Prot}{φ:Fi2}{t:TypeId}{v:AV}(h:zJM P t=some v):∃z,RA Pr φ v z/\∀w,(zeroValue t).run P w= .ok z w:=by
 unfold zJM at h
 obtain⟨i,hi,h⟩:=Option.bind_eq_some_iff.1 h
 obtain⟨z,hz,h⟩:=Option.bind_eq_some_iff.1 h
 exact⟨z,zJH h,fun w=>by simp[zeroValue,typeInfo,hi,hz]⟩
theorem zGc{Pr:Prot}{φ:Fi2}{kt:TypeId}{d0 d1:TypeDesc}{a b:Value}(hS:keyS P kt=some (d0,d1))(ha:zDC d0 a=true)(hb:zDC d1 b=true):∀(es:List (Value × AV)) (ents:List MapEntry) (i:Nat) (r:Option (Nat × AV)),es.length=ents.length->
  (∀(j:Nat) (kv:Value × AV) (en:MapEntry),es[j]? =some kv->ents[j]? =some en->en.key=kv.1/\RA Pr φ kv.2 en.val)->zAJ d0 d1 a b es i=some r->
  (r=none/\∀w,(Instr.findAsking kt (.agg #[a,b]) ents i).run P w= .ok none w)\/∃j v x,r=some (i+j,v)/\(∀w,(Instr.findAsking kt (.agg #[a,b]) ents i).run P w= .ok (some (i+j,x)) w)/\RA Pr φ v x/\∃kv en,es[j]? =some kv/\ents[j]? =some en/\kv.2=v/\en.val=x/\Instr.sameBits 10000 kv.1 (.agg #[a,b])=true
 | [],[],i,r,_,_,h=>by simp[zAJ]at h;subst h;exact .inl ⟨rfl,fun w=>by simp[Instr.findAsking]⟩
 |(k',v)::es,en::ents,i,r,hl,hc,h=>by
  obtain⟨h1,h2⟩:=hc 0 _ _ rfl rfl
  simp only at h1 h2
  cases k' with
  |agg cs=>
   simp only[zAJ]at h;split at h
   .rename_i c d ld
    have ul:cs= #[c,d]:=by
     apply Array.ext'
     rw[ld]
    subst ul;split at h
    .rename_i x y hx hy
     have he:=fun w=>zN8 (P:=P) hS ha hb hx hy w
     split at h
     .rename_i Jb
      cases h;simp only[Bool.and_eq_true]at Jb
      obtain⟨rfl,rfl⟩:=Jb
      have b0:=zFD 9999 ha hx
      have b1:=zFD 9999 hb hy
      refine .inr ⟨0,v,en.val,rfl,fun w=>by simp[Instr.findAsking,h1,he],h2,_,en,rfl,rfl,rfl,rfl,?_⟩
      show Instr.sameBits (9999+1) _ _=true
      simp[Instr.sameBits,b0,b1]
     rename_i Jb
     have Al:(x&&y)=false:=by simpa using Jb
     rcases zGc hS ha hb es ents (i+1) r (by simpa using hl) (fun j kv en a b=>hc (j+1) kv en (by simpa using a) (by simpa using b)) h with⟨h3,h4⟩|⟨j,v',x',h3,h4,h5,kv,Jf,h6,h7,h8⟩
     .exact .inl ⟨h3,fun w=>by simp[Instr.findAsking,h1,he,Al,h4]⟩
     refine .inr ⟨j+1,v',x',?_,fun w=>?_,h5,kv,Jf,by simpa using h6,by simpa using h7,h8⟩
     .rw[h3,show i+(j+1)=i+1+j by omega]
     rw[show i+(j+1)=i+1+j by omega]
     simp[Instr.findAsking,h1,he,Al,h4]
    cases h
   cases h
  |_=>simp[zAJ]at h
 | [],_::_,i,r,hl,_,_=>by simp at hl
 |_::_,[],i,r,hl,_,_=>by simp at hl
theorem zDQ{Pr:Prot}{φ φ1:Fi2}{kt:TypeId}{k:AV}{y key:Value}{es:List (Value × AV)}{ents:List MapEntry}{r:Option (Nat × AV)}(hk:RA Pr φ1 k y)(hl:es.length=ents.length)
  (hc:∀(j:Nat) (kv:Value × AV) (en:MapEntry),es[j]? =some kv->ents[j]? =some en->en.key=kv.1/\RA Pr φ kv.2 en.val) (h:zN9 P kt k es=some (key,r)):
  y=key/\(∀em w,(Instr.checkKey em 10000 kt key).run P w= .ok () w)/\((r=none/\∀w,(Instr.findKey kt key ents).run P w= .ok none w)\/∃j v x,r=some (j,v)/\(∀w,(Instr.findKey kt key ents).run P w= .ok (some (j,x)) w)/\RA Pr φ v x/\∃kv en,es[j]? =some kv/\ents[j]? =some en/\kv.2=v/\en.val=x/\Instr.sameBits 10000 kv.1 key=true):=by
 unfold zN9 at h;split at h
 .rename_i dk Nr Dc
  split at h
  .rename_i wj
   obtain⟨r',hf,he⟩:=Option.map_eq_some_iff.1 h
   cases he
   have hy:=zO hk rfl
   subst hy;refine⟨rfl,fun em w=>zKL Dc wj em w,?_⟩
   rcases zHP es ents 0 _ hl hc hf with⟨h3,h4⟩|⟨j,v,x,h3,h4,h5,kv,en,h6,h7,h8,h9,h10⟩
   .exact .inl ⟨h3,fun w=>zHQ Dc h4 w⟩
   rw[Nat.zero_add]at h3 h4
   exact .inr ⟨j,v,x,h3,fun w=>zHQ Dc h4 w,h5,kv,en,h6,h7,h8,h9,zFD 10000 wj h10⟩
  cases h
 .rename_i dk a b Dc
  split at h
  .rename_i d0 d1 hS
   split at h
   .rename_i wj
    simp only[Bool.and_eq_true]at wj
    obtain⟨r',hf,he⟩:=Option.map_eq_some_iff.1 h
    cases he
    have hy:y= .agg #[a,b]:=by
     cases hk with
     |agg h1 h2=>
      rename_i xs
      have Xa:xs.size=2:=by simpa using h1.symm
      have e0:xs[0]=a:=zO (h2 0 (.p (.v a)) xs[0] rfl (Array.getElem?_eq_getElem (by omega))) rfl
      have e1:xs[1]=b:=zO (h2 1 (.p (.v b)) xs[1] rfl (Array.getElem?_eq_getElem (by omega))) rfl
      congr 1
      apply Array.ext (by simp[Xa])
      intro q q1 q2
      have:q=0\/q=1:=by simp at q2;omega
      rcases this with rfl|rfl
      .exact e0
      exact e1
    subst hy;refine⟨rfl,fun em w=>zJL hS wj.1 wj.2 em w,?_⟩
    obtain⟨f0,f1,hu,-⟩:=zHO hS
    have mq:∀w,(Instr.findKey kt (.agg #[a,b]) ents).run P w=(Instr.findAsking kt (.agg #[a,b]) ents 0).run P w:=fun w=>by
     cases ents with
     |nil=>simp[Instr.findKey,run_underlying hu,Instr.findNow,Instr.findAsking]
     |cons en ents=>simp[Instr.findKey,run_underlying hu,Instr.findNow,Instr.sameNow]
    rcases zGc hS wj.1 wj.2 es ents 0 _ hl hc hf with⟨h3,h4⟩|⟨j,v,x,h3,h4,h5⟩
    .exact .inl ⟨h3,fun w=>by rw[mq,h4]⟩
    rw[Nat.zero_add]at h3
    simp only[Nat.zero_add]at h4;exact .inr ⟨j,v,x,h3,fun w=>by rw[mq,h4],h5⟩
   cases h
  cases h
 cases h
theorem zPM{Pr:Prot}{t:TypeId}{v:AV}(h:zJM P t=some v):∃z,(∀φ,RA Pr φ v z)/\∀w,(zeroValue t).run P w= .ok z w:=by
 unfold zJM at h
 obtain⟨i,hi,h⟩:=Option.bind_eq_some_iff.1 h
 obtain⟨z,hz,h⟩:=Option.bind_eq_some_iff.1 h
 exact⟨z,fun φ=>zJH h,fun w=>by simp[zeroValue,typeInfo,hi,hz]⟩
theorem zSO{T:TypeId}{m k v:AV}{ok:Bool}{x y:Value}{S:ASt}{w:World}{ref:Option (Nat × Nat)}(hm:RA Pr φ m x)(hk:RA Pr φ k y)(hR:Rel Pr φ S w)(hv:zPL P T m k ok S=some (v,ref)):
  ∃z,RA Pr φ v z/\(Instr.lookup T x y ok).run P w= .ok z w:=by
 unfold zPL at hv;split at hv
 .rename_i kt et hT
  split at hv
  .rename_i d i
   split at hv
   .rename_i es hS
    obtain⟨e,hE,Oa,g,ents,ya,hg,ma,hl,hc,Za,Kf⟩:=hR.obj d i _ hS
    cases hm with
    |mp h1 h2 h3=>
     rw[hE]at h1;cases h1;rw[hg]at h3;cases h3
     have jh:(getObj g).run P w= .ok (.map ents ya) w:=by simp[getObj,Sem.run,ma]
     split at hv
     .rename_i key j u hf
      cases hv
      obtain⟨rfl,re,Db⟩:=zDQ (ents:=ents.toList) hk (by rw[Array.length_toList];exact hl) (fun j kv en a b=>hc j kv en a (by simpa using b)) hf
      rcases Db with⟨h3,_⟩|⟨j',v',z,h3,h4,h5,_⟩
      .cases h3
      cases h3
      have h6:=h5.up (k:=d)
      cases ok with
      |true=>exact⟨.tuple #[z,.bool true],.tup rfl (fun j c x hc hx=>by
        match j,hc,hx with
        |0,hc,hx=>cases hc;cases hx;exact h6
        |1,hc,hx=>cases hc;cases hx;exact .p (.v rfl)),by simp[Instr.lookup,run_underlying hT,jh,re,h4]⟩
      |false=>exact⟨z,h6,by simp[Instr.lookup,run_underlying hT,jh,re,h4]⟩
     .rename_i key hf
      obtain⟨z0,hz,pd⟩:=Option.map_eq_some_iff.1 hv
      cases pd
      obtain⟨rfl,re,Db⟩:=zDQ (ents:=ents.toList) hk (by rw[Array.length_toList];exact hl) (fun j kv en a b=>hc j kv en a (by simpa using b)) hf
      rcases Db with⟨_,h4⟩|⟨j',v',z,h3,_⟩
      .obtain⟨z,h6,h7⟩:=zSN (Pr:=Pr) (φ:=φ) hz
       cases ok with
       |true=>exact⟨.tuple #[z,.bool false],.tup rfl (fun j c x hc hx=>by
         match j,hc,hx with
         |0,hc,hx=>cases hc;cases hx;exact h6
         |1,hc,hx=>cases hc;cases hx;exact .p (.v rfl)),by simp[Instr.lookup,run_underlying hT,jh,re,h4,h7]⟩
       |false=>exact⟨z,h6,by simp[Instr.lookup,run_underlying hT,jh,re,h4,h7]⟩
      cases h3
     cases hv
   cases hv
  cases hv
 cases hv
theorem zCD(k:Nat):∀(n:Nat) (qs:List PV),(zDE k qs n).length=n
 |0,qs=>rfl
 |n+1,qs=>by simp[zDE,zCD k n]
theorem zGG(k:Nat):∀(n:Nat) (qs:List PV) (r:Nat) (row:List PV),(zDE k qs n)[r]? =some row->row=(qs.drop (r*k)).take k
 |0,qs,r,row,h=>by simp[zDE]at h
 |n+1,qs,0,row,h=>by simp[zDE]at h;simp[h]
 |n+1,qs,r+1,row,h=>by
  have:=zGG k n (qs.drop k) r row (by simpa [zDE]using h)
  rw[this,List.drop_drop]
  congr 2
  rw[Nat.add_mul];omega
theorem zPN:∀{cs:List AV} {qs:List PV} {xs:Array Value},RL Pr φ cs xs->toPs cs=some qs->qs.length=cs.length/\∀(j:Nat) (q:PV) (x:Value),qs[j]? =some q->xs[j]? =some x->RP Pr q x:=by
 have key:∀(cs:List AV) (qs:List PV),toPs cs=some qs->qs.length=cs.length/\∀(j:Nat) (q:PV),qs[j]? =some q->∃c:AV,cs[j]? =some c/\c.toP=some q:=by
  intro cs
  induction cs with
  |nil=>intro qs h;simp[toPs]at h;subst h;exact⟨rfl,fun j q h=>by simp at h⟩
  |cons c cs ih=>
   intro qs h;simp only[toPs]at h;split at h
   .rename_i q1 Qr h1 h2
    cases h
    obtain⟨h3,h4⟩:=ih Qr h2
    refine⟨by simp[h3],fun j q hq=>?_⟩
    cases j with
    |zero=>simp at hq;subst hq;exact⟨c,rfl,h1⟩
    |succ j=>simp at hq;simpa using h4 j q hq
   cases h
 intro cs qs xs h hq
 obtain⟨h1,h2⟩:=key cs qs hq
 refine⟨h1,fun j q x a b=>?_⟩
 obtain⟨c,h3,h4⟩:=h2 j q a
 exact(h.2 j c x h3 b).toP h4
theorem zHR{place:Nat->Option (Nat × Nat)}:∀{ps:List (Nat × AV)} {cs cs':List AV},zGp place cs ps=some cs'->cs'.length=cs.length
 | [],cs,cs',h=>by simp[zGp]at h;rw[h]
 |(i,v)::ps,cs,cs',h=>by
  simp only[zGp]at h;split at h
  .split at h
   .rw[zHR h,zIZ]
   cases h
  cases h
theorem zVc{t:TypeId}{len:Nat}{Ga:Array (Nat × Operand)}{fr:List AV}{a:Act}{S:ASt}{w:World}{v:AV}(h:RF Pr φ fr a)(hR:Rel Pr φ S w)(hv:rowA P t len (Ga.toList.map fun q=>(q.1,evA fr q.2))=some v):
  ∃y w' Pr',(Instr.buildSlice t len (Ga.map fun(i,x)=>(i,a.eval x))).run P w= .ok y w'/\Stp Pr φ w Pr' φ w'/\Rel Pr' φ S w'/\RA Pr' φ v y:=by
 unfold rowA at hv;split at hv
 .rename_i e ht
  split at hv
  .rename_i hc
   obtain⟨Wc,ca,Gn⟩:=hc
   split at hv
   .rename_i zs hz
    split at hv
    .rename_i xj
     split at hv
     .rename_i cs hf
      obtain⟨z,Rf,Kg,ji⟩:=zEh hz
      generalize hk:P.cellsOf e=k at*
      have kh:0<k:=Nat.pos_of_ne_zero Wc
      have h0:RL Pr φ ((List.range (len*k)).map fun j=>.p (.v (zs.getD (j%k) undef))) ((Array.range (len*k)).map fun j=>zs.toArray[j%k]!):=by
       refine⟨by simp,fun j c x hc hx=>?_⟩
       have hj:j<len*k:=by simpa using(List.getElem?_eq_some_iff.1 hc).1
       have hm:j%k<zs.length:=by rw[xj];exact Nat.mod_lt _ kh
       simp only[List.getElem?_map,List.getElem?_range hj,Option.map_some,Option.some.injEq]at hc;simp only[Array.getElem?_map,Array.getElem?_range,hj,if_true,Option.map_some,Option.some.injEq]at hx;subst hc hx
       have e1:zs.getD (j%k) undef=zs[j%k]:=by simp[hm]
       have e2:zs.toArray[j%k]! =zs[j%k]:=by simp[hm]
       rw[e1,e2];exact .p (.v (List.all_eq_true.1 ji _ (List.getElem_mem hm)))
      obtain⟨Cd,h1,h2⟩:=zHN _ _ (Ga.map fun q=>(q.1,a.eval q.2)).toList _ cs _ h0 (by simp) (fun j p q hp hq=>by
       rw[List.getElem?_map]at hp
       obtain⟨q0,Ki,rfl⟩:=Option.map_eq_some_iff.1 hp
       have fa:Ga[j]? =some q0:=by simpa using Ki
       rw[Array.getElem?_toList,Array.getElem?_map,fa]at hq;cases hq;exact⟨rfl,h.ev _⟩) hf
      have Ab:cs.length=len*k:=by rw[zHR hf];simp
      have va:¬(16777216<len*k):=by omega
      have we:¬(len*k=0):=by
       have:0<len*k:=Nat.mul_pos ca kh
       omega
      have e3:((Array.range (len*k)).map fun x=>zs[x%zs.length]?.getD default)=(Array.range (len*k)).map fun j=>zs.toArray[j%k]!:=by rw[xj];simp
      obtain⟨qs,hq,hv⟩:=Option.map_eq_some_iff.1 hv
      cases hv
      obtain⟨Vm,Te⟩:=zPN h2 hq
      have ub:∀(r:Nat) (row:List PV),(zDE k qs len)[r]? =some row->row.length=k/\∀(j:Nat) (p:PV),row[j]? =some p->qs[r*k+j]? =some p:=fun r row hr=>by
       have Qd:r<len:=by have:=(List.getElem?_eq_some_iff.1 hr).1;rwa [zCD]at this
       have:=zGG k len qs r row hr
       subst this
       have ta:(r+1)*k<=len*k:=Nat.mul_le_mul_right _ Qd
       rw[Nat.add_mul]at ta;refine⟨by simp;omega,fun j p hp=>?_⟩
       rw[List.getElem?_take]at hp;split at hp
       .rwa [List.getElem?_drop]at hp
       cases hp
      obtain⟨Pr',s1,r1,g1,nq⟩:=zLi hR (zDE k qs len) k Cd e (fun r row hr=>(ub r row hr).1) (by rw[zCD];unfold maxLen;have:len*1<=len*k:=Nat.mul_le_mul_left _ kh;omega)
       (fun r row j p hr hp=>by
        have Bl:=(ub r row hr).2 j p hp
        have hlt:r*k+j<Cd.size:=by have:=(List.getElem?_eq_some_iff.1 Bl).1;have:=h2.1;omega
        exact⟨Cd[r*k+j],Array.getElem?_eq_getElem hlt,Te _ p _ Bl (Array.getElem?_eq_getElem hlt)⟩)
      rw[zCD]at g1
      have Cl:Cd.size=len*k:=by have:=h2.1;omega
      refine⟨_,_,Pr',?_,s1,r1,.p g1⟩;simp[Instr.buildSlice,run_underlying ht,zr hk Wc,va,we,Rf,Kg,newRow,-Array.toList_map];rw[e3,h1];rfl
     cases hv
    cases hv
   cases hv
  cases hv
 cases hv
theorem zVd{o:Oper}{fr:List AV}{a:Act}{S:ASt}{w:World}{v:AV}{ref:Option (Nat × Nat)}(h:RF Pr φ fr a)(hR:Rel Pr φ S w)(hn:∀t n p,o.op≠ .buildSlice t n p)(hv:evL P o fr S=some (v,ref)):∃y,RA Pr φ v y/\(execOp a.eval o).run P w= .ok (.value y) w:=by
 unfold evL at hv;split at hv
 .rename_i t x ho
  have hx:=h.ev x
  split at hv
  .rename_i d i off he
   rw[he]at hx;split at hv
   .rename_i cs T hS
    obtain⟨v0,hp,pd⟩:=Option.map_eq_some_iff.1 hv
    cases pd
    obtain⟨e,hE,Oa,g,xs,hg,ma,hl,hc,Za⟩:=hR.obj d i _ hS
    generalize hy:a.eval x=y at hx
    cases hx with
    |ptr h1 h2 h3=>
     rw[hE]at h1;cases h1;rw[hg]at h3;cases h3
     obtain⟨z,k1,k2⟩:=zEF (w:=w) (g:=g) (o:=off) hl hc (fun j x hx=>by rw[zBS ma];exact hx) hp
     exact⟨z,k1.up,by simp[execOp,ho,hy,k2]⟩
   cases hv
  .rename_i d i n off he
   rw[he]at hx;split at hv
   .rename_i E k n' cs hS
    split at hv
    .rename_i hnn
     subst hnn
     obtain⟨v0,hp,pd⟩:=Option.map_eq_some_iff.1 hv
     cases pd
     obtain⟨e,hE,Oa,Ad,Hg,Wc,Ab,Ea⟩:=hR.obj d i _ hS
     generalize hy:a.eval x=y at hx
     cases hx with
     | @rptr _ _ _ _ g0 _ h1 h2 h3 h4=>
      rw[hE]at h1;cases h1
      have Rb:=h4 Ad.symm
      obtain⟨_,nf⟩|⟨g,xs,hg,ma,Xa,hn0,Od,yd,hc,Za⟩:=Ea
      .rw[Rb]at nf;cases nf
      rw[Rb]at hg;cases hg
      have ta:cs.length<=xs.size:=by rw[Ab,Xa];exact Nat.mul_le_mul_right _ Od
      have vg:cs.length=(xs.extract 0 cs.length).size:=by simp;omega
      have gc:∀j y,(xs.extract 0 cs.length)[j]? =some y->xs[j]? =some y:=fun j y hj=>by
       rw[Array.getElem?_extract]at hj;split at hj
       .simpa using hj
       cases hj
      obtain⟨z,k1,k2⟩:=zEF (w:=w) (g:=g0) (o:=off) vg (fun j c y a b=>hc j c y a (gc j y b)) (fun j x hx=>by rw[zBS ma];exact gc _ _ hx) hp
      exact⟨z,k1.up,by simp[execOp,ho,hy,k2]⟩
    cases hv
   cases hv
  .rename_i cells he
   rw[he]at hx
   obtain⟨v0,hp,pd⟩:=Option.map_eq_some_iff.1 hv
   cases pd
   generalize hy:a.eval x=y at hx
   cases hx with
   | @rp _ b off vs h1 h2=>
    have hl:(cells.map AV.p).length=((List.range cells.length).map vs).toArray.size:=by simp
    obtain⟨z,k1,k2⟩:=zEF (P:=P) (Pr:=Pr) (φ:=φ) (w:=w) (g:=b) (o:=off) (off:=0) (xs:=((List.range cells.length).map vs).toArray) hl (fun j c x hc hx=>by
      rw[List.getElem?_map]at hc
      obtain⟨q,hq,rfl⟩:=Option.map_eq_some_iff.1 hc
      have hj:=(List.getElem?_eq_some_iff.1 hq).1
      rw[List.getElem?_toArray,zCv _ hj]at hx;cases hx;exact .p (h2 j q hq)) (fun j x hx=>by
      rw[Nat.zero_add,List.getElem?_toArray]at hx
      have hj:j<cells.length:=by simpa using(List.getElem?_eq_some_iff.1 hx).1
      rw[zCv _ hj]at hx;cases hx;exact hR.pr _ _ _ (h1 j cells[j] (List.getElem?_eq_getElem hj))) hp
    exact⟨z,k1,by simp[execOp,ho,hy,k2]⟩
  .rename_i cells he
   rw[he]at hx
   obtain⟨v0,hp,pd⟩:=Option.map_eq_some_iff.1 hv
   cases pd
   generalize hy:a.eval x=y at hx
   cases hx with
   | @bx _ b off vs h1 h2=>
    have hl:cells.length=((List.range cells.length).map vs).toArray.size:=by simp
    obtain⟨z,k1,k2⟩:=zEF (P:=P) (Pr:=Pr) (φ:=φ) (w:=w) (g:=b) (o:=off) (off:=0) (xs:=((List.range cells.length).map vs).toArray) hl (fun j c x hc hx=>by
      have hj:=(List.getElem?_eq_some_iff.1 hc).1
      rw[List.getElem?_toArray,zCv _ hj]at hx;cases hx;exact h2 j c hc) (fun j x hx=>by
      rw[Nat.zero_add,List.getElem?_toArray]at hx
      have hj:j<cells.length:=by simpa using(List.getElem?_eq_some_iff.1 hx).1
      rw[zCv _ hj]at hx;cases hx;exact hR.pr _ _ _ (h1 j cells[j] (List.getElem?_eq_getElem hj))) hp
    exact⟨z,k1,by simp[execOp,ho,hy,k2]⟩
  cases hv
 .rename_i src dst x ho
  split at hv
  .rename_i v0 hc
   cases hv
   obtain⟨y,h1,h2⟩:=zSM (S:=S) (h.ev x) hR hc
   exact⟨y,h1,by simp[execOp,ho,h2]⟩
  obtain⟨v0,h1,h2⟩:=Option.map_eq_some_iff.1 hv
  cases h2
  obtain⟨y,h3,h4⟩:=zPK (P:=P) h h1
  exact⟨y,h3,h4 w⟩
 .rename_i t m k ok ho
  obtain⟨y,h1,h2⟩:=zSO (P:=P) (h.ev m) (h.ev k) hR hv
  exact⟨y,h1,by simp[execOp,ho,h2]⟩
 .rename_i t n p ho
  exact absurd ho (hn _ _ _)
 cases hv
theorem zXv{o:Oper}{fr:List AV}{a:Act}{S:ASt}{w:World}{v:AV}{ref:Option (Nat × Nat)}(h:RF Pr φ fr a)(hR:Rel Pr φ S w)(hv:evL P o fr S=some (v,ref)):
  ∃y w' Pr',(execOp a.eval o).run P w= .ok (.value y) w'/\Stp Pr φ w Pr' φ w'/\Rel Pr' φ S w'/\RA Pr' φ v y:=by
 by_cases hb:∃t n p,o.op= .buildSlice t n p
 .obtain⟨t,n,p,ho⟩:=hb
  unfold evL at hv;rw[ho]at hv;simp only at hv;split at hv
  .obtain⟨v0,h1,h2⟩:=Option.map_eq_some_iff.1 hv
   cases h2
   obtain⟨y,w',Pr',k1,k2,k3,k4⟩:=zVc (P:=P) h hR h1
   exact⟨y,w',Pr',by simp only[execOp,ho,Sem.run_bind,k1,Result.andThen_ok,Sem.run_pure],k2,k3,k4⟩
  cases hv
 obtain⟨y,h1,h2⟩:=zVd (P:=P) h hR (fun t n p e=>hb ⟨t,n,p,e⟩) hv
 exact⟨y,w,Pr,h2,Stp.refl _ _ _,hR,h1⟩
def Ch(P:Program)(Pr:Prot)(φ:Fi2)(o:Oper)(a:Act)(w:World)(v:AV)(S':ASt):Prop:=
 ∃x w' Pr' φ',((execOp a.eval o).run P w= .ok (.value x) w'\/((execOp a.eval o).run P w= .ok .skip w'/\x=undef))/\Stp Pr φ w Pr' φ' w'/\Rel Pr' φ' S' w'/\RA Pr' φ' v x
def zXw:AV->Option (List AV)
 | .agg cs=>some cs
 | .p q=>some [.p q]
 | .ptr d i o=>some [.ptr d i o]
 | .rp cs=>some [.rp cs]
 | .bx cs=>some [.bx cs]
 | .osl k rows d i=>some [.osl k rows d i]
 | .fn f as bs=>some [.fn f as bs]
 | .bl=>some [.bl]
 | .mp d i=>some [.mp d i]
 | .asl d i n m=>some [.asl d i n m]
 | .rsl d i n m=>some [.rsl d i n m]
 | .rptr d i n o=>some [.rptr d i n o]
 |_=>none
theorem zEj(t:TypeId)(x:Value)(w:World):(newVar t x).run P w= .ok ⟨w.heap.size,0,none⟩ (w.alloc (.cells x.cells t (0,0))):=by
 simp[newVar,newRow]
def zCm(d:Nat):List AV->Option (List AV)
 | []=>some []
 |c::cs=>
  match c.down d,zCm d cs with
  |some c',some cs'=>some (c'::cs')
  |_,_=>none
theorem zGH{d:Nat}:∀{cs cs':List AV} {xs:Array Value},RL Pr φ cs xs->zCm d cs=some cs'->RL Pr (φ.drop d) cs' xs
 | [],cs',xs,h,hd=>by
  simp[zCm]at hd;subst hd
  exact⟨h.1,fun j c x hc=>by simp at hc⟩
 |c::cs,cs',xs,h,hd=>by
  have key:∀(cs cs':List AV),zCm d cs=some cs'->cs'.length=cs.length/\∀(j:Nat) (c:AV),cs'[j]? =some c->∃c0:AV,cs[j]? =some c0/\c0.down d=some c:=by
   intro cs
   induction cs with
   |nil=>intro cs' h;simp[zCm]at h;subst h;exact⟨rfl,fun j c h=>by simp at h⟩
   |cons c cs ih=>
    intro cs' h;simp only[zCm]at h;split at h
    .rename_i c1 xn h1 h2
     cases h
     obtain⟨h3,h4⟩:=ih xn h2
     refine⟨by simp[h3],fun j c' hc=>?_⟩
     cases j with
     |zero=>simp at hc;subst hc;exact⟨c,rfl,h1⟩
     |succ j=>simp at hc;simpa using h4 j c' hc
    cases h
  obtain⟨h3,h4⟩:=key _ _ hd
  refine⟨h3.trans h.1,fun j c' x hc hx=>?_⟩
  obtain⟨c0,k1,k2⟩:=h4 j c' hc
  exact(h.2 j c0 x k1 hx).down c' k2
theorem zId{d i g:Nat}{e:Ent}{t:TypeId}:∀(vs:List AV) (ys:List Value) (o:Nat) (cs:List AV) (S:ASt) (w:World),Rel Pr φ S w->get2 S d i=some (.cells cs t)->get2 φ d i=some e->e.blk=some g->vs.length=ys.length->(∀(j:Nat) (c:AV) (x:Value),vs[j]? =some c->ys[j]? =some x->RA Pr (φ.drop d) c x)->
  (∀y∈ys,y.oneCell'=true)->o+ys.length<=cs.length->∀k off,off+k=o->∃w',(storeCells ⟨g,off,none⟩ ys k).run P w= .ok () w'/\Stp Pr φ w Pr φ w'/\Rel Pr φ (set2 S d i (.cells (zCC cs o vs) t)) w'
 | [],ys,o,cs,S,w,hR,hS,hE,hg,hl,hc,h1,hb,k,off,hk=>by
  have:ys=[]:=List.eq_nil_of_length_eq_zero (by simpa using hl.symm)
  subst this;refine⟨w,by simp[storeCells],Stp.refl _ _ _,?_⟩
  refine⟨fun d' i' o' wa=>?_,hR.dis,hR.lt,hR.pr,hR.tb,by rw[zAH];exact hR.shape⟩
  rw[zF _ hS]at wa;split at wa
  .rename_i hd
   obtain⟨rfl,rfl⟩:=hd
   cases wa;exact hR.obj _ _ _ hS
  exact hR.obj _ _ _ wa
 |v::vs,[],o,cs,S,w,hR,hS,hE,hg,hl,hc,h1,hb,k,off,hk=>by simp at hl
 |v::vs,y::ys,o,cs,S,w,hR,hS,hE,hg,hl,hc,h1,hb,k,off,hk=>by
  have Gf:o+(ys.length+1)<=cs.length:=by simpa using hb
  obtain⟨s1,r1⟩:=zPD (o:=o) hR hS hE hg (hc 0 v y rfl rfl)
  have lc:get2 (set2 S d i (.cells (cs.set o v) t)) d i=some (.cells (cs.set o v) t):=by rw[zF _ hS];simp
  obtain⟨w',k1,k2,k3⟩:=zId vs ys (o+1) (cs.set o v) _ _ r1 lc hE hg (by simpa using hl) (fun j c x a b=>hc (j+1) c x (by simpa using a) (by simpa using b)) (fun z hz=>h1 z (List.mem_cons_of_mem _ hz)) (by simp;omega) (k+1) off (by omega)
  obtain⟨e',yj,Oa,g',xs,Cb,ma,ca,ld,Za⟩:=hR.obj d i _ hS
  rw[hE]at yj;cases yj;rw[hg]at Cb;cases Cb
  have Ja:w.cell? ⟨g,o,none⟩=some (xs.getD o undef):=by
   rw[zBS ma]
   have:o<xs.size:=by omega
   simp[this]
  have xh:set2 (set2 S d i (.cells (cs.set o v) t)) d i (.cells (zCC (cs.set o v) (o+1) vs) t)=set2 S d i (.cells (zCC cs o (v::vs)) t):=by
   obtain⟨L,hL,hi⟩:=Option.bind_eq_some_iff.1 (show(S[d]?).bind (·[i]?)=_ from hS)
   have hd:d<S.length:=(List.getElem?_eq_some_iff.1 hL).1
   simp[set2,zCC,List.getD,hd]
  refine⟨w',?_,s1.trans k2,by rw[<-xh];exact k3⟩
  have yh:(⟨g,off,none⟩:Addr).add k=⟨g,o,none⟩:=by rw[addN,hk]
  simp only[storeCells,Sem.run_bind,yh];rw[run_store P w _ y .plain (h1 y (by simp)),Ja]
  simp only[zIV ma,Bool.false_eq_true,if_false,Result.andThen_ok];exact k1
theorem zHS{d i g k n:Nat}{e:Ent}{E:TypeId}:∀(vs:List AV) (ys:List Value) (o:Nat) (cs:List AV) (S:ASt) (w:World),Rel Pr φ S w->get2 S d i=some (.row E k n cs)->get2 φ d i=some e->e.blk=some g->vs.length=ys.length->(∀(j:Nat) (c:AV) (x:Value),vs[j]? =some c->ys[j]? =some x->RA Pr (φ.drop d) c x)->
  (∀y∈ys,y.oneCell'=true)->o+ys.length<=cs.length->∀q off,off+q=o->∃w',(storeCells ⟨g,off,none⟩ ys q).run P w= .ok () w'/\Stp Pr φ w Pr φ w'/\Rel Pr φ (set2 S d i (.row E k n (zCC cs o vs))) w'
 | [],ys,o,cs,S,w,hR,hS,hE,hg,hl,hc,h1,hb,q,off,hk=>by
  have:ys=[]:=List.eq_nil_of_length_eq_zero (by simpa using hl.symm)
  subst this;refine⟨w,by simp[storeCells],Stp.refl _ _ _,?_⟩
  refine⟨fun d' i' o' wa=>?_,hR.dis,hR.lt,hR.pr,hR.tb,by rw[zAH];exact hR.shape⟩
  rw[zF _ hS]at wa;split at wa
  .rename_i hd
   obtain⟨rfl,rfl⟩:=hd
   cases wa;exact hR.obj _ _ _ hS
  exact hR.obj _ _ _ wa
 |v::vs,[],o,cs,S,w,hR,hS,hE,hg,hl,hc,h1,hb,q,off,hk=>by simp at hl
 |v::vs,y::ys,o,cs,S,w,hR,hS,hE,hg,hl,hc,h1,hb,q,off,hk=>by
  have Gf:o+(ys.length+1)<=cs.length:=by simpa using hb
  obtain⟨s1,r1⟩:=zN4 (o:=o) hR hS hE hg (by omega) (hc 0 v y rfl rfl)
  have lc:get2 (set2 S d i (.row E k n (cs.set o v))) d i=some (.row E k n (cs.set o v)):=by rw[zF _ hS];simp
  obtain⟨w',k1,k2,k3⟩:=zHS vs ys (o+1) (cs.set o v) _ _ r1 lc hE hg (by simpa using hl) (fun j c x a b=>hc (j+1) c x (by simpa using a) (by simpa using b)) (fun z hz=>h1 z (List.mem_cons_of_mem _ hz)) (by simp;omega) (q+1) off (by omega)
  obtain⟨e',yj,Oa,Ad,Hg,Wc,Ab,Ea⟩:=hR.obj d i _ hS
  rw[hE]at yj;cases yj
  obtain⟨_,nf⟩|⟨g',xs,Cb,ma,Xa,hn0,Od,yd,ld,Za⟩:=Ea
  .rw[hg]at nf;cases nf
  rw[hg]at Cb;cases Cb
  have ta:cs.length<=xs.size:=by rw[Ab,Xa];exact Nat.mul_le_mul_right _ Od
  have Ja:w.cell? ⟨g,o,none⟩=some (xs.getD o undef):=by
   rw[zBS ma]
   have:o<xs.size:=by omega
   simp[this]
  have xh:set2 (set2 S d i (.row E k n (cs.set o v))) d i (.row E k n (zCC (cs.set o v) (o+1) vs))=set2 S d i (.row E k n (zCC cs o (v::vs))):=by
   obtain⟨L,hL,hi⟩:=Option.bind_eq_some_iff.1 (show(S[d]?).bind (·[i]?)=_ from hS)
   have hd:d<S.length:=(List.getElem?_eq_some_iff.1 hL).1
   simp[set2,zCC,List.getD,hd]
  refine⟨w',?_,s1.trans k2,by rw[<-xh];exact k3⟩
  have yh:(⟨g,off,none⟩:Addr).add q=⟨g,o,none⟩:=by rw[addN,hk]
  simp only[storeCells,Sem.run_bind,yh];rw[run_store P w _ y .plain (h1 y (by simp)),Ja]
  simp only[zIV ma,Bool.false_eq_true,if_false,Result.andThen_ok];exact k1
end
end Go.Proofs.YtgpajpilkapciaaGreatDoor
namespace Go.Proofs.YtgpajpilkapciaaGreatDoor
open Go.RowKit
def zD9(P:Program)(t E:TypeId)(k:Nat):Bool:=
 match P.underlying t,P.info? E with
 |some (.slice E'),some i=>E'==E&&i.size==k&&decide (i.bytes<=32768)&&decide (0<k)&&(match i.zero with|some z=>z.cells.size==k|none=>false)
 |_,_=>false
def zPO(k:Nat):AV->Option (List (List PV))
 | .p (.sl k' rows)=>if k'=k then some rows else none
 | .osl k' rows _ _=>if k'=k then some rows else none
 | .p (.v (.slice none 0 0))=>some []
 |_=>none
def z7(P:Program)(t:TypeId):Nat:=
 match P.underlying t with
 |some (.slice E)=>E
 |_=>0
def appA(P:Program)(t:TypeId)(s x:AV)(S:ASt):Option (AV × ASt):=
 let E:=z7 P t
 let k:=P.cellsOf E
 if zD9 P t E k then
  match zPO k x with
  |some rows2=>
   match s with
   | .osl k' rows d i=>
    match get2 S d i with
    |some (.tok E' Aj n)=>if k'=k/\Aj=k/\E'=E/\n=rows.length/\rows.length+rows2.length<=4294967296 then some (.osl k (rows++rows2) d i,set2 S d i (.tok E k (rows.length+rows2.length)))else none
    |_=>none
   | .p (.v (.slice none 0 0))=>if rows2.length<=4294967296 then some (.osl k rows2 0 (top S),add2 (.tok E k rows2.length) S)else none
   | .p (.fsl k' rows)=>if k'=k/\0<rows2.length/\rows.length+rows2.length<=4294967296 then some (.osl k (rows++rows2) 0 (top S),add2 (.tok E k (rows.length+rows2.length)) S)else if k'=k/\rows2.length=0 then some (.p (.sl k rows),S)else none
   |_=>none
  |none=>none
 else none
def aslA:AV->Option (Nat × Nat × Nat × Nat)
 | .asl d i m k=>some (d,i,m,k)
 |_=>none
def zMr(k:Nat)(x:AV)(S:ASt):Option (Nat × List AV):=
 match aslA x with
 |some (d,i,m,k')=>
  match get2 S d i with
  |some (.cells cs _)=>if k'=k/\cs.length=m*k/\0<m/\cs.all oneA=true then some (m,AV.ups d cs)else none
  |_=>none
 |none=>
  match zPO k x with
  |some rows=>if 0<rows.length then some (rows.length,rows.flatten.map .p)else none
  |none=>none
def isR:AV->Bool
 | .rsl _ _ _ _=>true
 |_=>false
def isL:AV->Bool
 | .asl _ _ _ _=>true
 |_=>false
def appR(P:Program)(t:TypeId)(s x:AV)(S:ASt):Option (AV × ASt × List (Nat × Nat)):=
 let E:=z7 P t
 let k:=P.cellsOf E
 if zD9 P t E k then
  match zMr k x S with
  |some (m,cs2)=>
   match s with
   | .rsl d i n k'=>
    match get2 S d i,zCm d cs2 with
    |some (.row E' Aj n' cs),some Dl=>if k'=k/\Aj=k/\E'=E/\n'=n/\n+m<=4294967296 then some (.rsl d i (n+m) k,set2 S d i (.row E k (n+m) (cs++Dl)),[(d,i)])else none
    |_,_=>none
   | .p (.v (.slice none 0 0))=>if m<=4294967296 then some (.rsl 0 (top S) m k,add2 (.row E k m cs2) S,[])else none
   |_=>none
  |none=>none
 else none
def zEG(s:BA):List (List PV):=s.data.toList.map fun b=>[.v (.int .u8 b.toNat)]
def zMs(P:Program)(t t' E:TypeId):Bool:=
 match P.underlying t,P.underlying t',P.info? E with
 |some (.slice E'),some .string,some i=>E'==E&&i.size==1&&i.bytes==1&&(match i.zero with|some (.int .u8 0)=>true|_=>false)
 |_,_,_=>false
def strA:AV->Option BA
 | .p (.v (.string b))=>some b
 |_=>none
def zVe(P:Program)(t t':TypeId)(s x:AV)(S:ASt):Option (AV × ASt):=
 let E:=z7 P t
 if zMs P t t' E then
  match strA x with
  |some b=>
   match s with
   | .osl k' rows d i=>
    match get2 S d i with
    |some (.tok E' Aj n)=>if k'=1/\Aj=1/\E'=E/\n=rows.length/\rows.length+b.size<=4294967296 then some (.osl 1 (rows++zEG b) d i,set2 S d i (.tok E 1 (rows.length+b.size)))else none
    |_=>none
   | .p (.v (.slice none 0 0))=>if b.size<=4294967296 then some (.osl 1 (zEG b) 0 (top S),add2 (.tok E 1 b.size) S)else none
   |_=>none
  |none=>none
 else none
def updA(P:Program)(T:TypeId)(m k v:AV)(S:ASt):Option (AV × ASt × List (Nat × Nat)):=
 match P.underlying T with
 |some (.map kt _)=>
  match m with
  | .mp d i=>
   match get2 S d i,v.down d with
   |some (.map es),some v'=>
    match zN9 P kt k es with
    |some (key,some (j,_))=>some (.un,set2 S d i (.map (es.set j (key,v'))),[(d,i)])
    |some (key,none)=>some (.un,set2 S d i (.map (es++[(key,v')])),[(d,i)])
    |none=>none
   |_,_=>none
  |_=>none
 |_=>none
def entA(P:Program)(T:TypeId)(m k:AV)(S:ASt):Option (AV × ASt × List (Nat × Nat)):=
 match P.underlying T with
 |some (.map kt et)=>
  match m with
  | .mp d i=>
   match get2 S d i with
   |some (.map es)=>
    match zN9 P kt k es with
    |some (key,some (j,v))=>some (.tup [v.up d,.p (.v (.int .i64 j))],set2 S d i (.map (es.set j (key,v))),[(d,i)])
    |some (key,none)=>(zJM P et).map fun z=>(.tup [z,.p (.v (.int .i64 es.length))],set2 S d i (.map (es++[(key,z)])),[(d,i)])
    |none=>none
   |_=>none
  |_=>none
 |_=>none
def entS(m s v:AV)(S:ASt):Option (AV × ASt × List (Nat × Nat)):=
 match m,s with
 | .mp d i,.p (.v (.int .i64 n))=>
  match get2 S d i,v.down d with
  |some (.map es),some v'=>
   match es[n.toNat]? with
   |some (key,_)=>if 0<=n then some (.un,set2 S d i (.map (es.set n.toNat (key,v'))),[(d,i)])else none
   |none=>none
  |_,_=>none
 |_,_=>none
def evC(P:Program)(o:Oper)(fr:List AV)(S:ASt):Option (AV × ASt × List (Nat × Nat)):=
 match o.op with
 | .alloc t=>(zAh P t).map fun zs=>(.ptr 0 (top S) 0,add2 (.cells (zs.map fun y=>.p (.v y)) t) S,[])
 | .box t x=>(zBT (evA fr x)).bind fun cs=>if cs.length=P.cellsOf t then some (.ptr 0 (top S) 0,add2 (.cells cs t) S,[])else none
 | .store t x v=>
  match evA fr x,zBT (evA fr v)with
  | .ptr d i off,some vs=>
   match get2 S d i,zCm d vs with
   |some (.cells cs T),some Li=>if vs.length=P.cellsOf t/\P.cellsOf t≠0/\off+vs.length<=cs.length then some (.un,set2 S d i (.cells (zCC cs off Li) T),[(d,i)])else none
   |_,_=>none
  | .rptr d i n off,some vs=>
   match get2 S d i,zCm d vs with
   |some (.row E k n' cs),some Li=>if n'=n/\vs.length=P.cellsOf t/\P.cellsOf t≠0/\off+vs.length<=cs.length then some (.un,set2 S d i (.row E k n (zCC cs off Li)),[(d,i)])else none
   |_,_=>none
  |_,_=>none
 | .buildSlice t len Ga=>
  match P.underlying t with
  |some (.slice e)=>if P.cellsOf e≠0/\len=0/\Ga.size=0 then some (.p (.fsl (P.cellsOf e) []),S,[])else if P.cellsOf e≠0/\0<len/\len*P.cellsOf e<=16777216 then
    match zAh P e with
    |some zs=>if zs.length=P.cellsOf e then
      match zGp (fun i=>some (i*P.cellsOf e,P.cellsOf e)) ((List.range (len*P.cellsOf e)).map fun j=>.p (.v (zs.getD (j%P.cellsOf e) undef))) (Ga.toList.map fun q=>(q.1,evA fr q.2))with
      |some cs=>
       if o.type=4294967294\/zXr o.pos t=true then some (.rsl 0 (top S) len (P.cellsOf e),add2 (.row e (P.cellsOf e) len cs) S,[])else
       match toPs cs with
       |some qs=>some (.osl (P.cellsOf e) (zDE (P.cellsOf e) qs len) 0 (top S),add2 (.tok e (P.cellsOf e) len) S,[])
       |none=>some (.asl 0 (top S) len (P.cellsOf e),add2 (.cells cs e) S,[])
      |none=>none
     else none
    |none=>none
   else none
  |_=>none
 | .call c=>
  match c.callee,c.args,c.argTypes with
  | .builtin .append,⟨[s,x]⟩,⟨[t,t']⟩=>if t'=t then if(isR (evA fr s)||isL (evA fr x))=true then appR P t (evA fr s) (evA fr x) S else(appA P t (evA fr s) (evA fr x) S).map fun r=>(r.1,r.2,[])else(zVe P t t' (evA fr s) (evA fr x) S).map fun r=>(r.1,r.2,[])
  |_,_,_=>none
 | .makeMap _ none=>some (.mp 0 (top S),add2 (.map []) S,[])
 | .mapUpdate t m k v=>updA P t (evA fr m) (evA fr k) (evA fr v) S
 | .insert t m k v=>updA P t (evA fr m) (evA fr k) (evA fr v) S
 | .mapEntry t m k=>entA P t (evA fr m) (evA fr k) S
 | .entryStore _ m s v=>entS (evA fr m) (evA fr s) (evA fr v) S
 |_=>none
section
variable{P:Program}{Pr:Prot}{φ:Fi2}
theorem zKM{S T:ASt}{w:World}(h:Rel Pr φ S w)(hg:∀d i,get2 T d i=get2 S d i)(hm:T.map List.length=S.map List.length):Rel Pr φ T w:=
 ⟨fun d i o ho=>h.obj d i o (by rw[<-hg];exact ho),h.dis,h.lt,h.pr,h.tb,h.shape.trans hm.symm⟩
theorem zDR{t E k:Nat}(h:zD9 P t E k=true):P.underlying t=some (.slice E)/\∃i z,P.info? E=some i/\i.zero=some z/\i.size=k/\z.cells.size=k/\i.bytes<=32768/\0<k:=by
 unfold zD9 at h;split at h
 .rename_i E' i ht hi
  simp only[Bool.and_eq_true,beq_iff_eq,decide_eq_true_eq]at h
  obtain⟨⟨⟨⟨rfl,h2⟩,h3⟩,h4⟩,h5⟩:=h
  split at h5
  .rename_i z hz
   exact⟨ht,i,z,hi,hz,h2,by simpa using h5,h3,h4⟩
  cases h5
 cases h
theorem zMt{k:Nat}{v:AV}{x:Value}{rows2:List (List PV)}(hk:0<k)(h:RA Pr φ v x)(hr:zPO k v=some rows2):RP Pr (.sl k rows2) x:=by
 unfold zPO at hr;split at hr
 .split at hr
  .rename_i Sf
   subst Sf;cases hr
   cases h with
   |p h=>exact h
  cases hr
 .split at hr
  .rename_i Sf
   subst Sf;cases hr;exact h.sl
  cases hr
 .cases hr
  have:=zO h rfl
  subst this;exact .slemp k none 0 (Nat.zero_le _)
 cases hr
theorem zPP{t ty E k n d i:Nat}{rows rows2:List (List PV)}{S:ASt}{w:World}{x y:Value}(hR:Rel Pr φ S w)(na:zD9 P t E k=true)(hS:get2 S d i=some (.tok E k n))(hx:RA Pr φ (.osl k rows d i) x)(hy:RP Pr (.sl k rows2) y)(hn:n=rows.length)(hb:rows.length+rows2.length<=4294967296):
  ∃v' w' Pr' φ',(Builtin.append_ #[t,t] ty #[x,y]).run P w= .ok v' w'/\Stp Pr φ w Pr' φ' w'/\Rel Pr' φ' (set2 S d i (.tok E k (rows.length+rows2.length))) w'/\RA Pr' φ' (.osl k (rows++rows2) d i) v':=by
 obtain⟨ht,Hb,z,hi,hz,hs,rh,fh,hk⟩:=zDR na
 subst hn
 by_cases hm:0<rows2.length
 .obtain⟨b,off,cap,news,rfl,hw,Gd,Va,wh⟩:=hy.cells hk hm
  have Ah:(rows.length+rows2.length)*Hb.bytes<=140737488355328:=Nat.le_trans (Nat.mul_le_mul hb fh) (by decide)
  exact zIW (tx:=t) (ty:=ty) (src:=.slice (some ⟨b,off,none⟩) rows2.length cap) (news:=news) hR hS hx rfl hm hw wh hb (fun xs oa=>zGa w t ty E Hb z k ht hi hz hs rh hk x _ xs oa ⟨b,off,none⟩ rows2.length cap news Gd (fun j u hu=>by rw[addN];exact hR.pr _ _ _ (Va j u hu).1) (fun u hu=>by
   obtain⟨j,hj⟩:=List.getElem?_of_mem hu
   exact(Va j u hj).2) hm (by unfold maxLen;omega) Ah)
 have h0:rows2=[]:=List.eq_nil_of_length_eq_zero (by omega)
 subst h0
 obtain⟨A,cap,rfl⟩:∃A cap,y= .slice A 0 cap:=by
  cases hy with
  |slemp=>exact⟨_,_,rfl⟩
  |sl=>exact⟨_,_,rfl⟩
 obtain⟨A',Vf,mc,ta⟩:∃A' Vf,x= .slice A' rows.length Vf/\rows.length<=Vf:=by
  cases hx with
  |onil=>exact⟨_,_,rfl,Nat.le_refl _⟩
  |osl vs a1 a2 a3 a4 a5 a6=>exact⟨_,_,rfl,a6⟩
 refine⟨x,w,Pr,φ,?_,Stp.refl _ _ _,zKM hR (fun d' i'=>?_) (zAH _ _ _ _),by simpa using hx⟩
 .subst mc
  have hf:(Builtin.firstCells Hb.size 0 (.slice A 0 cap)).run P w= .ok #[] w:=by
   cases A<;>simp[Builtin.firstCells,loadCells,loadCellsFrom]
  have Aa:∀a:Addr,(storeCells a ([]:List Value)).run P w= .ok () w:=fun a=>by simp[storeCells]
  cases A' with
  |none=>simp[Builtin.append_,run_underlying ht,sizeOf,typeInfo,hi,Builtin.lenOf,ta,hf]
  |some a=>simp[Builtin.append_,run_underlying ht,sizeOf,typeInfo,hi,Builtin.lenOf,ta,hf,Aa]
 rw[zF _ hS]
 split
 .rename_i hd
  rw[hd.1,hd.2,hS];simp
 rfl
theorem zSP{t ty E k:Nat}{rows rows2:List (List PV)}{S:ASt}{w:World}{x y:Value}(hR:Rel Pr φ S w)(hne:φ≠ [])(na:zD9 P t E k=true)(hx:RP Pr (.fsl k rows) x)(hy:RP Pr (.sl k rows2) y)(hm:0<rows2.length)(hb:rows.length+rows2.length<=4294967296):
  ∃v' w' Pr' φ',(Builtin.append_ #[t,t] ty #[x,y]).run P w= .ok v' w'/\Stp Pr φ w Pr' φ' w'/\Rel Pr' φ' (add2 (.tok E k (rows.length+rows2.length)) S) w'/\RA Pr' φ' (.osl k (rows++rows2) 0 (top S)) v':=by
 obtain⟨ht,Hb,z,hi,hz,hs,rh,fh,hk⟩:=zDR na
 obtain⟨φ1,s1,r1,g1⟩:=zFW hR hne E k hk
 have lc:get2 (add2 (.tok E k 0) S) 0 (top S)=some (.tok E k 0):=zAR _ _
 obtain⟨b,off,cap,news,rfl,hw,Gd,Va,wh⟩:=hy.cells hk hm
 have Ah:(rows.length+rows2.length)*Hb.bytes<=140737488355328:=Nat.le_trans (Nat.mul_le_mul hb fh) (by decide)
 cases hx with
 | @fsl _ A Rj _ hx=>
  obtain⟨Pb,Hd,In,Jn,kb⟩:∃Pb,Wide k rows/\Pb.length=rows.length*k/\zCc Pr k rows Pb/\(0<rows.length->∃b,A=some b/\∀j u,Pb[j]? =some u->w.cell? (b.add j)=some u):=by
   by_cases h0:0<rows.length
   .obtain⟨b0,Rr,c0,Pb,he,k1,k2,k3,k4⟩:=hx.cells hk h0
    injection he with he
    exact⟨Pb,k1,k2,k4,fun _=>⟨_,he,fun j u hu=>by rw[addN];exact hR.pr _ _ _ (k3 j u hu).1⟩⟩
   have:rows=[]:=List.eq_nil_of_length_eq_zero (by omega)
   subst this;exact⟨[],fun r row h=>by simp at h,by simp,fun r row j p a b=>by simp at a,fun h=>absurd h h0⟩
  have Kn:(rows++rows2).length=rows.length+rows2.length:=List.length_append
  obtain⟨v',w',Pr',φ',q1,q2,q3,q4⟩:=zHJ (P:=P) (M:=Builtin.append_ #[t,t] ty #[.slice A rows.length rows.length,.slice (some ⟨b,off,none⟩) rows2.length cap]) (rows2:=rows++rows2) (news:=Pb++news) r1 lc g1 rfl (by omega) (Hd.append hw) (zCc.append In Hd Jn wh hw) (by omega) (fun xs oa=>by
   have Xj:xs=[]:=List.eq_nil_of_length_eq_zero (by have:=oa.1;simpa using this)
   subst Xj;rw[Kn];exact zLj w t ty E Hb z k ht hi hz hs rh A rows.length Pb In kb ⟨b,off,none⟩ rows2.length cap news Gd (fun j u hu=>by rw[addN];exact hR.pr _ _ _ (Va j u hu).1) hm (by unfold maxLen;omega) Ah)
  refine⟨v',w',Pr',φ',q1,s1.trans q2,?_,by simpa using q4⟩
  have e:set2 (add2 (.tok E k 0) S) 0 (top S) (.tok E k (0+(rows++rows2).length))=add2 (.tok E k (rows.length+rows2.length)) S:=by
   rw[Kn];cases S<;>simp[set2,add2,top]
  rw[<-e];exact q3
theorem RP.unf{Pr:Prot}{k:Nat}{rows:List (List PV)}{x:Value}(h:RP Pr (.fsl k rows) x):RP Pr (.sl k rows) x:=by
 cases h with
 |fsl hx=>
  cases hx with
  |slemp k A cap h=>exact .slemp _ _ _ (Nat.zero_le _)
  |sl vs h1 h2 h3 h4 h5=>exact .sl vs (Nat.le_refl _) (Nat.le_trans h1 h2) h3 h4 h5
theorem zSQ{t ty E k:Nat}{rows rows2:List (List PV)}{w:World}{x y:Value}(na:zD9 P t E k=true)(hx:RP Pr (.fsl k rows) x)(hy:RP Pr (.sl k rows2) y)(hm:rows2.length=0):(Builtin.append_ #[t,t] ty #[x,y]).run P w= .ok x w:=by
 obtain⟨ht,Hb,z,hi,hz,hs,rh,fh,hk⟩:=zDR na
 have h0:rows2=[]:=List.eq_nil_of_length_eq_zero hm
 subst h0
 obtain⟨A,cap,rfl⟩:∃A cap,y= .slice A 0 cap:=by
  cases hy with
  |slemp=>exact⟨_,_,rfl⟩
  |sl=>exact⟨_,_,rfl⟩
 cases hx with
 | @fsl _ A' Rj _ hx=>
  have hf:(Builtin.firstCells Hb.size 0 (.slice A 0 cap)).run P w= .ok #[] w:=by
   cases A<;>simp[Builtin.firstCells,loadCells,loadCellsFrom]
  have Aa:∀a:Addr,(storeCells a ([]:List Value)).run P w= .ok () w:=fun a=>by simp[storeCells]
  cases A' with
  |none=>simp[Builtin.append_,run_underlying ht,sizeOf,typeInfo,hi,Builtin.lenOf,hf]
  |some a=>simp[Builtin.append_,run_underlying ht,sizeOf,typeInfo,hi,Builtin.lenOf,hf,Aa]
theorem zLm{t t' E:Nat}(h:zMs P t t' E=true):P.underlying t=some (.slice E)/\P.underlying t'=some .string/\∃i,P.info? E=some i/\i.zero=some (.int .u8 0)/\i.size=1/\i.bytes=1:=by
 unfold zMs at h;split at h
 .rename_i E' i ht hu hi
  simp only[Bool.and_eq_true,beq_iff_eq]at h
  obtain⟨⟨⟨rfl,h2⟩,h3⟩,h5⟩:=h
  split at h5
  .rename_i hz
   exact⟨ht,hu,i,hi,hz,h2,h3⟩
  cases h5
 cases h
theorem zDS(b:BA):(zEG b).length=b.size:=by simp[zEG]
theorem zPQ{Pr:Prot}(b:BA):zCc Pr 1 (zEG b) (Lib.strCells b):=fun r row j p hr hj=>by
 rw[zEG,List.getElem?_map]at hr
 obtain⟨c,hc,rfl⟩:=Option.map_eq_some_iff.1 hr
 cases j with
 |succ j=>simp at hj
 |zero=>
  simp at hj;subst hj;refine⟨.int .u8 c.toNat,?_,.v rfl⟩;rw[Nat.mul_one,Nat.add_zero,Lib.strCells,List.getElem?_map,hc];rfl
theorem zMu{t t' ty E n d i:Nat}{rows:List (List PV)}{b:BA}{S:ASt}{w:World}{x:Value}(hR:Rel Pr φ S w)(na:zMs P t t' E=true)(hS:get2 S d i=some (.tok E 1 n))(hx:RA Pr φ (.osl 1 rows d i) x)(hn:n=rows.length)(hb:rows.length+b.size<=4294967296):
  ∃v' w' Pr' φ',(Builtin.append_ #[t,t'] ty #[x,.string b]).run P w= .ok v' w'/\Stp Pr φ w Pr' φ' w'/\Rel Pr' φ' (set2 S d i (.tok E 1 (rows.length+b.size))) w'/\RA Pr' φ' (.osl 1 (rows++zEG b) d i) v':=by
 obtain⟨ht,hu,Hb,hi,hz,hs,fh⟩:=zLm na
 subst hn
 by_cases hm:0<b.size
 .have He:Wide 1 (zEG b):=fun r row hr=>by
   rw[zEG,List.getElem?_map]at hr
   obtain⟨c,hc,rfl⟩:=Option.map_eq_some_iff.1 hr
   rfl
  have:=zIW (P:=P) (tx:=t') (t:=t) (ty:=ty) (src:=.string b) (rows2:=zEG b) (news:=Lib.strCells b) hR hS hx rfl (by rw[zDS];exact hm) He (zPQ b) (by rw[zDS];exact hb) (fun xs oa=>by
   rw[zDS];exact zGn w t t' ty E Hb ht hu hi hz hs fh x _ xs oa b hm (by unfold maxLen;omega) (by omega))
  rw[zDS]at this;exact this
 have h0:b.size=0:=by omega
 have Rd:zEG b=[]:=List.eq_nil_of_length_eq_zero (by rw[zDS];exact h0)
 have Bh:Lib.strCells b=[]:=List.eq_nil_of_length_eq_zero (by rw[Lib.strCells_length];exact h0)
 have xe:∀k,RA Pr φ (.osl k rows d i) x->∃A' Vf,x= .slice A' rows.length Vf/\rows.length<=Vf:=fun k hx=>by
  cases hx with
  |onil=>exact⟨_,_,rfl,Nat.le_refl _⟩
  |osl vs a1 a2 a3 a4 a5 a6=>exact⟨_,_,rfl,a6⟩
 obtain⟨A',Vf,mc,ta⟩:=xe 1 hx
 refine⟨x,w,Pr,φ,?_,Stp.refl _ _ _,zKM hR (fun d' i'=>?_) (zAH _ _ _ _),by simpa [Rd]using hx⟩
 .subst mc
  have hf:=Lib.run_firstCells_string (P:=P) w 1 b
  rw[h0,Bh]at hf
  have Aa:∀a:Addr,(storeCells a ([]:List Value)).run P w= .ok () w:=fun a=>by simp[storeCells]
  cases A' with
  |none=>simp[Builtin.append_,run_underlying ht,run_underlying hu,sizeOf,typeInfo,hi,hs,Builtin.lenOf,h0,ta,hf]
  |some a=>simp[Builtin.append_,run_underlying ht,run_underlying hu,sizeOf,typeInfo,hi,hs,Builtin.lenOf,h0,ta,hf,Aa]
 rw[zF _ hS]
 split
 .rename_i hd
  rw[hd.1,hd.2,hS,h0];simp
 rfl
theorem zVf{v:AV}{x:Value}{b:BA}(h:RA Pr φ v x)(hs:strA v=some b):x= .string b:=by
 unfold strA at hs;split at hs
 .cases hs;exact zO h rfl
 cases hs
theorem zVg{Pr Pr':Prot}{S:ASt}{w w':World}(hne:φ≠ [])(s1:Stp Pr φ w Pr' φ w')(r1:Rel Pr' φ S w')(h0:Rel Pr φ S w){E:TypeId}{k n:Nat}{rows:List (List PV)}{xs:Array Value}(hk:0<k)(hn:0<n)(Qd:rows.length=n)(hm:n<=maxLen)(Ln:xs.size=n*k)
  (hb:w'.heap[w.heap.size]? =some (.cells xs E (0,0))) (hp:∀o,n*k<=o->Pr' w.heap.size o=none) (g1:RP Pr' (.sl k rows) (.slice (some ⟨w.heap.size,0,none⟩) n n)):
  ∃φ',Stp Pr φ w Pr' φ' w'/\Rel Pr' φ' (add2 (.tok E k n) S) w'/\RA Pr' φ' (.osl k rows 0 (top S)) (.slice (some ⟨w.heap.size,0,none⟩) n n):=by
 have ht:top φ=top S:=zBo r1.shape
 have Bb:get2 (add2 ⟨true,some w.heap.size,n,n,k⟩ φ) 0 (top S)=some ⟨true,some w.heap.size,n,n,k⟩:=by rw[<-ht];exact zAR _ _
 have Mb:∀d i e,get2 φ d i=some e->e.blk≠some w.heap.size:=fun d i e he hg=>absurd (h0.lt d i e _ he hg) (Nat.lt_irrefl _)
 have eb:∀d i e g,get2 (add2 ⟨true,some w.heap.size,n,n,k⟩ φ) d i=some e->e.blk=some g->(∃d0 i0 e0,get2 φ d0 i0=some e0/\e0.blk=some g)\/w.heap.size<=g:=fun d i e g he hg=>by
  rw[zc]at he;split at he
  .cases he;cases hg;exact .inr (Nat.le_refl _)
  exact .inl ⟨d,i,e,he,hg⟩
 refine⟨add2 ⟨true,some w.heap.size,n,n,k⟩ φ,⟨s1.pl,zAF _ _,eb,s1.fr,zFB _ _ hne,s1.pn⟩,⟨fun d i o ho=>?_,fun d i e d' i' e' g h1 h2 h3 h4=>?_,fun d i e g h1 h2=>?_,r1.pr,h0.tb.of s1.pl s1.fr.block eb,zFA r1.shape _ _⟩,?_⟩
 .rw[zc]at ho
  split at ho
  .rename_i hd
   obtain⟨rfl,rfl⟩:=hd
   cases ho;exact⟨_,Bb,rfl,rfl,rfl,hk,.inr ⟨w.heap.size,xs,rfl,hb,Ln,hn,Nat.le_refl _,hm,hp⟩⟩
  obtain⟨e,he,hr⟩:=r1.obj d i o ho
  exact⟨e,zBQ _ he,hr.keep (Prot.le_refl _) ((zAF _ _).drop d) fun g hg=>⟨rfl,fun _ h=>h⟩⟩
 .rw[zc]at h1 h2
  split at h1
  .rename_i hd
   cases h1;cases h3;split at h2
   .rename_i xd
    exact⟨hd.1.trans xd.1.symm,hd.2.trans xd.2.symm⟩
   exact absurd h4 (Mb _ _ _ h2)
  split at h2
  .cases h2;cases h4
   exact absurd h3 (Mb _ _ _ h1)
  exact r1.dis d i e d' i' e' g h1 h2 h3 h4
 .rw[zc]at h1
  split at h1
  .cases h1;cases h2;exact zFU hb
  exact r1.lt d i e g h1 h2
 generalize xe:Value.slice (some ⟨w.heap.size,0,none⟩) n n=y at g1 ⊢
 cases g1 with
 |slemp=>simp at Qd;omega
 |sl vs c1 c2 c3 c4 c5=>
  injection xe with e1 e2 e3
  cases e1;subst e2 e3
  have:=RA.osl (Pr:=Pr') (φ:=add2 ⟨true,some w.heap.size,rows.length,rows.length,k⟩ φ) (rows:=rows) (g:=w.heap.size) (cap:=rows.length) vs (by rw[Qd]at*;exact Bb) rfl (by omega) (Nat.le_refl _) (fun _=>⟨rfl,rfl⟩) c1 c2 c3 (fun r row j p a b=>by have:=c4 r row j p a b;rwa [Nat.zero_add]at this) c5
  exact this
theorem zPR{T:TypeId}{m k u v:AV}{x y z:Value}{S S':ASt}{w:World}{lg:List (Nat × Nat)}(hm:RA Pr φ m x)(hk:RA Pr φ k y)(hu:RA Pr φ u z)(hR:Rel Pr φ S w)(hv:updA P T m k u S=some (v,S',lg)):
  ∃w',(Instr.mapUpdate T x y z).run P w= .ok () w'/\Stp Pr φ w Pr φ w'/\Rel Pr φ S' w'/\v= .un:=by
 unfold updA at hv;split at hv
 .rename_i kt et hT
  split at hv
  .rename_i d i
   split at hv
   .rename_i es v' hS hd
    obtain⟨e,hE,Oa,g,ents,ya,hg,ma,hl,hc,Za,Kf⟩:=hR.obj d i _ hS
    cases hm with
    |mp h1 h2 h3=>
     rw[hE]at h1;cases h1;rw[hg]at h3;cases h3
     have jh:(getObj g).run P w= .ok (.map ents ya) w:=by simp[getObj,Sem.run,ma]
     have Yj:∀ob,(setObj g ob).run P w= .ok () {w with heap:=w.heap.setIfInBounds g ob}:=fun ob=>by simp[setObj,Sem.run,ma]
     have Wm:=hu.down _ hd
     have hlt:g<w.heap.size:=zFU ma
     split at hv
     .rename_i key j u0 hf
      cases hv
      obtain⟨rfl,re,Db⟩:=zDQ (ents:=ents.toList) hk (by rw[Array.length_toList];exact hl) (fun j kv en a b=>hc j kv en a (by simpa using b)) hf
      rcases Db with⟨h3,_⟩|⟨j',v1,z1,h3,h4,h5,kv,en,h6,h7,_,_,Lf⟩
      .cases h3
      cases h3
      have Ad:ents[j]? =some en:=by simpa using h7
      have Ue:en.key=kv.1:=(hc j kv en h6 Ad).1
      rw[<-Ue]at Lf
      have Sf:((ents[j]?).map (·.key)).getD y=en.key:=by rw[Ad];rfl
      obtain⟨s1,r1⟩:=zEe (ao:=.map (es.set j (y,v'))) hR hS hE hg Za (.map (ents.modify j fun e=>{e with key:=y,val:=z}) ya) (by
       refine⟨Oa,g,ents.modify j fun e=>{e with key:=y,val:=z},ya,hg,by simp[hlt],by simpa using hl,fun q Tf Jf a b=>?_,Za,Kf.modify j fun e=>rfl⟩
       rw[Array.getElem?_modify]at b
       by_cases hq:q=j
       .subst hq
        have Lc:q<es.length:=(List.getElem?_eq_some_iff.1 h6).1
        rw[List.getElem?_set_self Lc]at a;cases a;rw[if_pos rfl,Ad]at b;cases b;exact⟨rfl,Wm⟩
       rw[List.getElem?_set_ne (Ne.symm hq)]at a
       rw[if_neg (Ne.symm hq)]at b
       obtain⟨wg,Rd,va⟩:∃wg,ents[q]? =some wg/\wg=Jf:=⟨Jf,by simpa using b,rfl⟩
       subst va;exact hc q Tf wg a Rd)
      refine⟨_,?_,s1,r1,rfl⟩;simp[Instr.mapUpdate,run_underlying hT,jh,re,h4,Instr.keyThatStays,Ad,Lf,Yj]
     .rename_i key hf
      cases hv
      obtain⟨rfl,re,Db⟩:=zDQ (ents:=ents.toList) hk (by rw[Array.length_toList];exact hl) (fun j kv en a b=>hc j kv en a (by simpa using b)) hf
      rcases Db with⟨_,h4⟩|⟨j',v1,z1,h3,_⟩
      .obtain⟨s1,r1⟩:=zEe (ao:=.map (es++[(y,v')])) hR hS hE hg Za (.map (ents.push {key:=y,val:=z,born:=ya}) (ya+1)) (by
        refine⟨Oa,g,ents.push {key:=y,val:=z,born:=ya},ya+1,hg,by simp[hlt],by simpa using hl,fun q Tf Jf a b=>?_,Za,Kf.push rfl⟩
        rcases Nat.lt_or_ge q es.length with hq|hq
        .rw[List.getElem?_append_left hq]at a
         rw[Array.getElem?_push_lt (by omega)]at b
         exact hc q Tf Jf a (by rw[Array.getElem?_eq_getElem (by omega)];exact b)
        rw[List.getElem?_append_right hq]at a
        have Ki:q=es.length:=by
         have:=(List.getElem?_eq_some_iff.1 a).1
         simp at this;omega
        subst Ki;simp at a;rw[hl,Array.getElem?_push_size]at b;cases b;subst a;exact⟨rfl,Wm⟩)
       refine⟨_,?_,s1,r1,rfl⟩;simp[Instr.mapUpdate,run_underlying hT,jh,re,h4,Yj]
      cases h3
     cases hv
   cases hv
  cases hv
 cases hv
theorem zVh{T:TypeId}{m k v:AV}{x y:Value}{S S':ASt}{w:World}{lg:List (Nat × Nat)}(hm:RA Pr φ m x)(hk:RA Pr φ k y)(hR:Rel Pr φ S w)(hv:entA P T m k S=some (v,S',lg)):
  ∃z w',(Instr.mapEntry T x y).run P w= .ok z w'/\Stp Pr φ w Pr φ w'/\Rel Pr φ S' w'/\RA Pr φ v z:=by
 unfold entA at hv;split at hv
 .rename_i kt et hT
  split at hv
  .rename_i d i
   split at hv
   .rename_i es hS
    obtain⟨e,hE,Oa,g,ents,ya,hg,ma,hl,hc,Za,Kf⟩:=hR.obj d i _ hS
    cases hm with
    |mp h1 h2 h3=>
     rw[hE]at h1;cases h1;rw[hg]at h3;cases h3
     have jh:(getObj g).run P w= .ok (.map ents ya) w:=by simp[getObj,Sem.run,ma]
     have Yj:∀ob,(setObj g ob).run P w= .ok () {w with heap:=w.heap.setIfInBounds g ob}:=fun ob=>by simp[setObj,Sem.run,ma]
     have hlt:g<w.heap.size:=zFU ma
     split at hv
     .rename_i key j u0 hf
      cases hv
      obtain⟨rfl,re,Db⟩:=zDQ (ents:=ents.toList) hk (by rw[Array.length_toList];exact hl) (fun j kv en a b=>hc j kv en a (by simpa using b)) hf
      rcases Db with⟨h3,_⟩|⟨j',v1,z1,h3,h4,h5,kv,en,h6,h7,h8,h9,Lf⟩
      .cases h3
      cases h3
      have Ad:ents[j]? =some en:=by simpa using h7
      have Ue:en.key=kv.1:=(hc j kv en h6 Ad).1
      rw[<-Ue]at Lf
      have El:=Kf.2 j en Ad
      obtain⟨s1,r1⟩:=zEe (ao:=.map (es.set j (y,u0))) hR hS hE hg Za (.map (ents.modify j fun e=>{e with key:=y}) ya) (by
       refine⟨Oa,g,ents.modify j fun e=>{e with key:=y},ya,hg,by simp[hlt],by simpa using hl,fun q Tf Jf a b=>?_,Za,Kf.modify j fun e=>rfl⟩
       rw[Array.getElem?_modify]at b
       by_cases hq:q=j
       .subst hq
        have Lc:q<es.length:=(List.getElem?_eq_some_iff.1 h6).1
        rw[List.getElem?_set_self Lc]at a;cases a;rw[if_pos rfl,Ad]at b;cases b;exact⟨rfl,by rw[h9];exact h5⟩
       rw[List.getElem?_set_ne (Ne.symm hq)]at a
       rw[if_neg (Ne.symm hq)]at b
       obtain⟨wg,Rd,va⟩:∃wg,ents[q]? =some wg/\wg=Jf:=⟨Jf,by simpa using b,rfl⟩
       subst va;exact hc q Tf wg a Rd)
      have Fl:=h5.up (k:=d)
      refine⟨.tuple #[z1,.int .i64 j],_,?_,s1,r1,.tup rfl fun q c x hc hx=>?_⟩
      .simp[Instr.mapEntry,run_underlying hT,jh,re,h4,Instr.keyThatStays,Ad,Lf,Yj,El,goInt]
      match q,hc,hx with
      |0,hc,hx=>cases hc;cases hx;exact Fl
      |1,hc,hx=>cases hc;cases hx;exact .p (.v rfl)
     .rename_i key hf
      obtain⟨z0,hz,pd⟩:=Option.map_eq_some_iff.1 hv
      cases pd
      obtain⟨rfl,re,Db⟩:=zDQ (ents:=ents.toList) hk (by rw[Array.length_toList];exact hl) (fun j kv en a b=>hc j kv en a (by simpa using b)) hf
      rcases Db with⟨_,h4⟩|⟨j',v1,z1,h3,_⟩
      .obtain⟨z,h6,h7⟩:=zPM (Pr:=Pr) hz
       obtain⟨s1,r1⟩:=zEe (ao:=.map (es++[(y,z0)])) hR hS hE hg Za (.map (ents.push {key:=y,val:=z,born:=ya}) (ya+1)) (by
        refine⟨Oa,g,ents.push {key:=y,val:=z,born:=ya},ya+1,hg,by simp[hlt],by simpa using hl,fun q Tf Jf a b=>?_,Za,Kf.push rfl⟩
        rcases Nat.lt_or_ge q es.length with hq|hq
        .rw[List.getElem?_append_left hq]at a
         rw[Array.getElem?_push_lt (by omega)]at b
         exact hc q Tf Jf a (by rw[Array.getElem?_eq_getElem (by omega)];exact b)
        rw[List.getElem?_append_right hq]at a
        have Ki:q=es.length:=by
         have:=(List.getElem?_eq_some_iff.1 a).1
         simp at this;omega
        subst Ki;simp at a;rw[hl,Array.getElem?_push_size]at b;cases b;subst a;exact⟨rfl,h6 _⟩)
       refine⟨.tuple #[z,.int .i64 ya],_,?_,s1,r1,.tup rfl fun q c x hc hx=>?_⟩
       .simp[Instr.mapEntry,run_underlying hT,jh,re,h4,Yj,h7,goInt]
       match q,hc,hx with
       |0,hc,hx=>cases hc;cases hx;exact h6 _
       |1,hc,hx=>cases hc;cases hx;rw[hl,<-Kf.1];exact .p (.v rfl)
      cases h3
     cases hv
   cases hv
  cases hv
 cases hv
theorem zVi{T:TypeId}{m s u v:AV}{x y z:Value}{S S':ASt}{w:World}{lg:List (Nat × Nat)}(hm:RA Pr φ m x)(hk:RA Pr φ s y)(hu:RA Pr φ u z)(hR:Rel Pr φ S w)(hv:entS m s u S=some (v,S',lg)):
  ∃w',(Instr.entryStore T x y z).run P w= .ok () w'/\Stp Pr φ w Pr φ w'/\Rel Pr φ S' w'/\v= .un:=by
 unfold entS at hv;split at hv
 .rename_i d i n
  split at hv
  .rename_i es v' hS hd
   obtain⟨e,hE,Oa,g,ents,ya,hg,ma,hl,hc,Za,Kf⟩:=hR.obj d i _ hS
   have hy:=zO hk rfl
   subst hy
   cases hm with
   |mp h1 h2 h3=>
    rw[hE]at h1;cases h1;rw[hg]at h3;cases h3
    have jh:(getObj g).run P w= .ok (.map ents ya) w:=by simp[getObj,Sem.run,ma]
    have Yj:∀ob,(setObj g ob).run P w= .ok () {w with heap:=w.heap.setIfInBounds g ob}:=fun ob=>by simp[setObj,Sem.run,ma]
    have Wm:=hu.down _ hd
    have hlt:g<w.heap.size:=zFU ma
    split at hv
    .rename_i key u0 Mn
     split at hv
     .rename_i hn
      cases hv
      obtain⟨j,rfl⟩:=Int.eq_ofNat_of_zero_le hn
      simp only[Int.toNat_natCast]at Mn
      have Lc:j<es.length:=(List.getElem?_eq_some_iff.1 Mn).1
      have oq:j<ents.size:=by omega
      have Pc:=Kf.find oq
      have Ad:ents[j]? =some ents[j]:=Array.getElem?_eq_getElem oq
      obtain⟨s1,r1⟩:=zEe (ao:=.map (es.set j (key,v'))) hR hS hE hg Za (.map (ents.modify j fun e=>{e with val:=z}) ya) (by
       refine⟨Oa,g,ents.modify j fun e=>{e with val:=z},ya,hg,by simp[hlt],by simpa using hl,fun q Tf Jf a b=>?_,Za,Kf.modify j fun e=>rfl⟩
       rw[Array.getElem?_modify]at b
       by_cases hq:q=j
       .subst hq
        rw[List.getElem?_set_self Lc]at a;cases a;rw[if_pos rfl,Ad]at b;cases b;exact⟨(hc q _ _ Mn Ad).1,Wm⟩
       rw[List.getElem?_set_ne (Ne.symm hq)]at a
       rw[if_neg (Ne.symm hq)]at b
       obtain⟨wg,Rd,va⟩:∃wg,ents[q]? =some wg/\wg=Jf:=⟨Jf,by simpa using b,rfl⟩
       subst va;exact hc q Tf wg a Rd)
      refine⟨_,?_,s1,by simpa using r1,rfl⟩
      simp[Instr.entryStore,jh,asInt,asIntOf,Pc,Yj]
     cases hv
    cases hv
  cases hv
 cases hv
theorem zMv{k:Nat}(hk:0<k):∀{rows:List (List PV)},Wide k rows->∀j,rows.flatten[j]? =(rows[j/k]?).bind (·[j%k]?)
 | [],_,j=>by simp
 |r::rs,hw,j=>by
  have hr:r.length=k:=hw 0 r rfl
  have Sr:Wide k rs:=fun q row h=>hw (q+1) row (by simpa using h)
  rw[List.flatten_cons]
  rcases Nat.lt_or_ge j k with hj|hj
  .rw[List.getElem?_append_left (by omega),Nat.div_eq_of_lt hj,Nat.mod_eq_of_lt hj];rfl
  rw[List.getElem?_append_right (by omega),hr,zMv hk Sr,Nat.div_eq_sub_div hk hj,Nat.mod_eq_sub_mod hj]
  rfl
theorem zPS{k m:Nat}{x:AV}{y:Value}{cs:List AV}{S:ASt}{w:World}(hk:0<k)(hx:RA Pr φ x y)(hR:Rel Pr φ S w)(h:zMr k x S=some (m,cs)):
  ∃(ad:Addr) (c:Nat) (news:List Value),y= .slice (some ad) m c/\news.length=m*k/\(∀j u,news[j]? =some u->w.cell? (ad.add j)=some u)/\(∀u∈news,u.oneCell'=true)/\0<m/\cs.length=m*k/\∀(j:Nat) (c:AV) (z:Value),cs[j]? =some c->news[j]? =some z->RA Pr φ c z:=by
 unfold zMr at h;split at h
 .rename_i d i m' k' Mi
  have mc:x= .asl d i m' k':=by
   unfold aslA at Mi;split at Mi
   .cases Mi;rfl
   cases Mi
  subst mc;split at h
  .rename_i pq t hS
   split at h
   .rename_i hc
    obtain⟨rfl,Ab,hm,Yf⟩:=hc
    cases h
    obtain⟨e,hE,Oa,g,xs,hg,ma,hl,hc,Za⟩:=hR.obj d i _ hS
    cases hx with
    |asl h1 h2 h3 h4=>
     rw[hE]at h1;cases h1;rw[hg]at h3;cases h3;refine⟨_,_,xs.toList,rfl,by rw[Array.length_toList,<-hl,Ab],fun j u hu=>?_,fun u hu=>?_,hm,by rw[zAW,Ab],fun j c z a b=>?_⟩
     .rw[addN,Nat.zero_add,zBS ma]
      simpa using hu
     .obtain⟨j,hj⟩:=List.getElem?_of_mem hu
      have xg:xs[j]? =some u:=by simpa using hj
      have qd:j<pq.length:=by have:=(Array.getElem?_eq_some_iff.1 xg).1;omega
      exact(hc j _ u (List.getElem?_eq_getElem qd) xg).one (List.all_eq_true.1 Yf _ (List.getElem_mem qd))
     rw[zB0]at a
     obtain⟨c0,k1,rfl⟩:=Option.map_eq_some_iff.1 a
     exact(hc j c0 z k1 (by simpa using b)).up
   cases h
  cases h
 split at h
 .rename_i rows ub
  split at h
  .rename_i hm
   cases h
   have hy:=zMt hk hx ub
   obtain⟨b,off,cap,news,rfl,hw,Gd,Va,wh⟩:=hy.cells hk hm
   have ic:rows.flatten.length=rows.length*k:=by
    clear hy wh Gd hm ub hx
    induction rows with
    |nil=>simp
    |cons r rs ih=>rw[List.flatten_cons,List.length_append,ih (fun q row h=>hw (q+1) row (by simpa using h)),hw 0 r rfl,List.length_cons,Nat.add_mul];omega
   refine⟨_,_,news,rfl,Gd,fun j u hu=>by rw[addN];exact hR.pr _ _ _ (Va j u hu).1,fun u hu=>?_,hm,by rw[List.length_map,ic],fun j c z a b=>?_⟩
   .obtain⟨j,hj⟩:=List.getElem?_of_mem hu
    exact(Va j u hj).2
   rw[List.getElem?_map,zMv hk hw]at a
   obtain⟨q,h1,rfl⟩:=Option.map_eq_some_iff.1 a
   obtain⟨row,h2,h3⟩:=Option.bind_eq_some_iff.1 h1
   obtain⟨u,h4,h5⟩:=wh _ row _ q h2 h3
   have e:j/k*k+j%k=j:=by rw[Nat.mul_comm];exact Nat.div_add_mod j k
   rw[e,b]at h4;cases h4;exact .p h5
  cases h
 cases h
theorem zVj{t ty:TypeId}{s x v:AV}{y z:Value}{S S':ASt}{w:World}{lg:List (Nat × Nat)}(hs:RA Pr φ s y)(hx:RA Pr φ x z)(hR:Rel Pr φ S w)(hne:φ≠ [])(h:appR P t s x S=some (v,S',lg)):
  ∃v' w' φ',(Builtin.append_ #[t,t] ty #[y,z]).run P w= .ok v' w'/\Stp Pr φ w Pr φ' w'/\Rel Pr φ' S' w'/\RA Pr φ' v v':=by
 unfold appR at h;simp only at h;split at h
 .rename_i na
  obtain⟨ht,Hb,zz,hi,hz,Xa,rh,fh,hk⟩:=zDR na
  generalize dv:z7 P t=E at*
  generalize Wc:P.cellsOf E=k at*
  have mv:∀{n m:Nat} {xs:List Value} {y:Value} {ad:Addr} {c:Nat} {news:List Value},n+m<=4294967296->news.length=m*k->(∀j u,news[j]? =some u->w.cell? (ad.add j)=some u)->(∀u∈news,u.oneCell'=true)->0<m->w.ownsRow 0 E k y n xs->zFV P w t t ty E k y n xs (.slice (some ad) m c) m news:=fun {n m xs y ad c news} hb hl Va h1 hm oa=>by
   have Ah:(n+m)*Hb.bytes<=140737488355328:=Nat.le_trans (Nat.mul_le_mul hb fh) (by decide)
   exact zGa w t ty E Hb zz k ht hi hz Xa rh hk y n xs oa ad m c news hl Va h1 hm (by unfold maxLen;omega) Ah
  split at h
  .rename_i m cs2 Tr
   obtain⟨ad,c,news,rfl,Gd,Va,vc,hm,Ab,wh⟩:=zPS hk hx hR Tr
   split at h
   .rename_i d i n k'
    split at h
    .rename_i E' Aj n' cs Dl hS hd
     split at h
     .rename_i hc
      obtain⟨rfl,rfl,rfl,rfl,hb⟩:=hc
      cases h
      have Qd:RL Pr φ cs2 news.toArray:=⟨by simp[Ab,Gd],fun j c z a b=>wh j c z a (by simpa using b)⟩
      have Mf:=zGH Qd hd
      obtain⟨v',w',φ',r1,r2,r3,r4⟩:=zHK (P:=P) (t:=t) (tx:=t) (ty:=ty) (src:=.slice (some ad) m c) (news:=news) hR hS hs hm (by have:=Mf.1;rw[this];simp[Gd]) (fun j c z a b=>Mf.2 j c z a (by simpa using b)) hb (fun xs oa=>mv hb Gd Va vc hm oa)
      exact⟨v',w',φ',r1,r2,r3,r4⟩
     cases h
    cases h
   .split at h
    .rename_i hb
     cases h
     have:=zO hs rfl
     subst this
     obtain⟨φ1,s1,r1,g1⟩:=zIX hR hne E k hk
     have lc:get2 (add2 (.row E k 0 []) S) 0 (top S)=some (.row E k 0 []):=zAR _ _
     obtain⟨v',w',φ',q1,q2,q3,q4⟩:=zHK (P:=P) (t:=t) (tx:=t) (ty:=ty) (src:=.slice (some ad) m c) (news:=news) (cs2:=cs2) r1 lc g1 hm Ab (fun j c z a b=>(wh j c z a b).mono (Prot.le_refl _) s1.fl) (by omega) (fun xs oa=>mv (by omega) Gd Va vc hm oa)
     refine⟨v',w',φ',q1,s1.trans q2,?_,by simpa using q4⟩
     have e:set2 (add2 (.row E k 0 []) S) 0 (top S) (.row E k (0+m) ([]++cs2))=add2 (.row E k m cs2) S:=by
      cases S<;>simp[set2,add2,top]
     rw[<-e];exact q3
    cases h
   cases h
  cases h
 cases h
theorem zU3{o:Oper}{fr:List AV}{a:Act}{S S':ASt}{w:World}{v:AV}{lg:List (Nat × Nat)}(h:RF Pr φ fr a)(hR:Rel Pr φ S w)(hne:φ≠ [])(hv:evC P o fr S=some (v,S',lg)):Ch P Pr φ o a w v S':=by
 unfold evC at hv;split at hv
 .rename_i t ho
  obtain⟨zs,hz,pd⟩:=Option.map_eq_some_iff.1 hv
  cases pd
  obtain⟨z,Rf,Kg,ji⟩:=zEh hz
  obtain⟨φ',s1,r1,r2⟩:=zHI hR hne (zs.map fun y=>.p (.v y)) zs.toArray t (by simp) (zFY ji)
  refine⟨_,_,_,_,.inl ?_,s1,r1,r2⟩;simp[execOp,ho,Instr.alloc,Rf,zEj,Kg]
 .rename_i t x ho
  obtain⟨cs,hc,pd⟩:=Option.bind_eq_some_iff.1 hv
  split at pd
  case isFalse=>cases pd
  cases pd
  obtain⟨⟨hl,Ie⟩,_⟩:=zEg (h.ev x) hc
  obtain⟨φ',s1,r1,r2⟩:=zHI hR hne cs (a.eval x).cells t hl Ie
  refine⟨_,_,_,_,.inl ?_,s1,r1,r2⟩;simp[execOp,ho,Instr.box,zEj]
 .rename_i t x u ho
  have hx:=h.ev x
  have hu:=h.ev u
  split at hv
  .rename_i d i off vs he Tj
   split at hv
   .rename_i cs T Li hS hd
    split at hv
    .rename_i hc
     obtain⟨gf,gh,Nn⟩:=hc
     cases hv;rw[he]at hx
     obtain⟨Qd,Yf⟩:=zEg hu Tj
     have Mf:=zGH Qd hd
     generalize hy:a.eval x=y at hx
     cases hx with
     | @ptr _ _ _ g e k1 k2 k3=>
      have h1:∀z∈(a.eval u).cells.toList,z.oneCell'=true:=fun z hz=>by
       obtain⟨j,hj⟩:=List.getElem?_of_mem hz
       have qd:j<vs.length:=by have:=(List.getElem?_eq_some_iff.1 hj).1;have:=Qd.1;simp at*;omega
       have cd:vs[j]? =some vs[j]:=List.getElem?_eq_getElem qd
       exact(Qd.2 j _ z cd (by simpa using hj)).one (List.all_eq_true.1 Yf _ (List.getElem_mem qd))
      have Xa:(a.eval u).cells.toList.length=vs.length:=by simp[Qd.1]
      obtain⟨w',w1,w2,w3⟩:=zId (P:=P) Li (a.eval u).cells.toList off cs S w hR hS k1 k3 (by rw[Mf.1];simp) (fun j c z hc hz=>Mf.2 j c z hc (by simpa using hz)) h1 (by rw[Xa];exact Nn) 0 off (by omega)
      refine⟨undef,w',Pr,φ,.inr ⟨?_,rfl⟩,w2,w3,.un⟩
      have pb:(a.eval u).cells.size=P.cellsOf t:=by rw[<-Qd.1];exact gf
      simp[execOp,ho,hy,Instr.storeAt,Instr.sureAddr,storeVar,zr rfl gh,pb,w1]
    cases hv
   cases hv
  .rename_i d i n off vs he Tj
   split at hv
   .rename_i E k n' cs Li hS hd
    split at hv
    .rename_i hc
     obtain⟨rfl,gf,gh,Nn⟩:=hc
     cases hv;rw[he]at hx
     obtain⟨Qd,Yf⟩:=zEg hu Tj
     have Mf:=zGH Qd hd
     generalize hy:a.eval x=y at hx
     cases hx with
     | @rptr _ _ _ _ g e k1 k2 k3 k4=>
      obtain⟨e',yj,_,Ad,_⟩:=hR.obj d i _ hS
      rw[k1]at yj;cases yj
      have h1:∀z∈(a.eval u).cells.toList,z.oneCell'=true:=fun z hz=>by
       obtain⟨j,hj⟩:=List.getElem?_of_mem hz
       have qd:j<vs.length:=by have:=(List.getElem?_eq_some_iff.1 hj).1;have:=Qd.1;simp at*;omega
       have cd:vs[j]? =some vs[j]:=List.getElem?_eq_getElem qd
       exact(Qd.2 j _ z cd (by simpa using hj)).one (List.all_eq_true.1 Yf _ (List.getElem_mem qd))
      have Xa:(a.eval u).cells.toList.length=vs.length:=by simp[Qd.1]
      obtain⟨w',w1,w2,w3⟩:=zHS (P:=P) Li (a.eval u).cells.toList off cs S w hR hS k1 (k4 Ad.symm) (by rw[Mf.1];simp) (fun j c z hc hz=>Mf.2 j c z hc (by simpa using hz)) h1 (by rw[Xa];exact Nn) 0 off (by omega)
      refine⟨undef,w',Pr,φ,.inr ⟨?_,rfl⟩,w2,w3,.un⟩
      have pb:(a.eval u).cells.size=P.cellsOf t:=by rw[<-Qd.1];exact gf
      simp[execOp,ho,hy,Instr.storeAt,Instr.sureAddr,storeVar,zr rfl gh,pb,w1]
    cases hv
   cases hv
  cases hv
 .rename_i t len Ga ho
  split at hv
  .rename_i e ht
   split at hv
   .rename_i Bh
    obtain⟨Wc,h0,Ur⟩:=Bh
    cases hv
    generalize hk:P.cellsOf e=k at*
    subst h0
    have On:Ga= #[]:=Array.eq_empty_of_size_eq_zero Ur
    subst On
    obtain⟨Pr',s1,r1,g1,_⟩:=zLi hR [] k #[] e (fun r row hr=>by simp at hr) (Nat.zero_le _) (fun r row j p hr=>by simp at hr)
    refine⟨.slice (some ⟨w.heap.size,0,none⟩) 0 0,_,Pr',φ,.inl ?_,s1,r1,.p (.fsl g1)⟩;simp[execOp,ho,Instr.buildSlice,run_underlying ht,zr hk Wc,newRow,Instr.fill];exact congrArg (fun c=>w.alloc (Obj.cells c e)) (Array.eq_empty_of_size_eq_zero (by rw[Array.size_map];exact Array.size_range))
   split at hv
   .rename_i hc
    obtain⟨Wc,ca,Gn⟩:=hc
    split at hv
    .rename_i zs hz
     split at hv
     .rename_i xj
      split at hv
      .rename_i cs hf
       obtain⟨z,Rf,Kg,ji⟩:=zEh hz
       generalize hk:P.cellsOf e=k at*
       have kh:0<k:=Nat.pos_of_ne_zero Wc
       have h0:RL Pr φ ((List.range (len*k)).map fun j=>.p (.v (zs.getD (j%k) undef))) ((Array.range (len*k)).map fun j=>zs.toArray[j%k]!):=by
        refine⟨by simp,fun j c x hc hx=>?_⟩
        have hj:j<len*k:=by simpa using(List.getElem?_eq_some_iff.1 hc).1
        have hm:j%k<zs.length:=by rw[xj];exact Nat.mod_lt _ kh
        simp only[List.getElem?_map,List.getElem?_range hj,Option.map_some,Option.some.injEq]at hc;simp only[Array.getElem?_map,Array.getElem?_range,hj,if_true,Option.map_some,Option.some.injEq]at hx;subst hc hx
        have e1:zs.getD (j%k) undef=zs[j%k]:=by simp[hm]
        have e2:zs.toArray[j%k]! =zs[j%k]:=by simp[hm]
        rw[e1,e2];exact .p (.v (List.all_eq_true.1 ji _ (List.getElem_mem hm)))
       obtain⟨Cd,h1,h2⟩:=zHN _ _ (Ga.map fun q=>(q.1,a.eval q.2)).toList _ cs _ h0 (by simp) (fun j p q hp hq=>by
        rw[List.getElem?_map]at hp
        obtain⟨q0,Ki,rfl⟩:=Option.map_eq_some_iff.1 hp
        have fa:Ga[j]? =some q0:=by simpa using Ki
        rw[Array.getElem?_toList,Array.getElem?_map,fa]at hq;cases hq;exact⟨rfl,h.ev _⟩) hf
       have Ab:cs.length=len*k:=by rw[zHR hf];simp
       have va:¬(16777216<len*k):=by omega
       have we:¬(len*k=0):=by
        have:0<len*k:=Nat.mul_pos ca kh
        omega
       have e3:((Array.range (len*k)).map fun x=>zs[x%zs.length]?.getD default)=(Array.range (len*k)).map fun j=>zs.toArray[j%k]!:=by rw[xj];simp
       have Pn:len<=maxLen:=by unfold maxLen;have:len*1<=len*k:=Nat.mul_le_mul_left _ kh;omega
       split at hv
       .cases hv
        obtain⟨φ',s1,r1,g1⟩:=zSE hR hne (.cells Cd e (0,0)) (.row e k len cs) ⟨true,some w.heap.size,len,len,k⟩ rfl fun φ' w' hF hw hp=>⟨rfl,rfl,rfl,kh,Ab,.inr ⟨w.heap.size,Cd,rfl,hw,by show Cd.size=len*k;have:=h2.1;omega,ca,Nat.le_refl _,Pn,fun j c x a b=>(h2.2 j c x a b).mono (Prot.le_refl _) hF,hp⟩⟩
        refine⟨.slice (some ⟨w.heap.size,0,none⟩) len len,_,_,_,.inl ?_,s1,r1,RA.rsl (e:=⟨true,some w.heap.size,len,len,k⟩) g1 rfl ca (Nat.le_refl _) (fun _=>⟨rfl,rfl⟩) (Nat.le_refl _) Pn⟩
        simp[execOp,ho,Instr.buildSlice,run_underlying ht,zr hk Wc,va,we,Rf,Kg,newRow,-Array.toList_map];rw[e3,h1];rfl
       split at hv
       case h_2=>
        cases hv
        obtain⟨φ',s1,r1,r2⟩:=zHI hR hne cs Cd e h2.1 h2.2
        obtain⟨e0,sj,Zj,Rd⟩:∃e0,get2 φ' 0 (top S)=some e0/\e0.tok=false/\e0.blk=some w.heap.size:=by
         cases r2 with
         |ptr a b c=>exact⟨_,a,b,c⟩
        refine⟨.slice (some ⟨w.heap.size,0,none⟩) len len,_,_,_,.inl ?_,s1,r1,.asl sj Zj Rd (by unfold maxLen;have:len*1<=len*k:=Nat.mul_le_mul_left _ kh;omega)⟩
        simp[execOp,ho,Instr.buildSlice,run_underlying ht,zr hk Wc,va,we,Rf,Kg,newRow,-Array.toList_map];rw[e3,h1];rfl
       rename_i qs hq
       cases hv
       obtain⟨Vm,Te⟩:=zPN h2 hq
       have ub:∀(r:Nat) (row:List PV),(zDE k qs len)[r]? =some row->row.length=k/\∀(j:Nat) (p:PV),row[j]? =some p->qs[r*k+j]? =some p:=fun r row hr=>by
        have Qd:r<len:=by have:=(List.getElem?_eq_some_iff.1 hr).1;rwa [zCD]at this
        have:=zGG k len qs r row hr
        subst this
        have ta:(r+1)*k<=len*k:=Nat.mul_le_mul_right _ Qd
        rw[Nat.add_mul]at ta;refine⟨by simp;omega,fun j p hp=>?_⟩
        rw[List.getElem?_take]at hp;split at hp
        .rwa [List.getElem?_drop]at hp
        cases hp
       obtain⟨Pr',s1,r1,g1,nq⟩:=zLi hR (zDE k qs len) k Cd e (fun r row hr=>(ub r row hr).1) (by rw[zCD];unfold maxLen;have:len*1<=len*k:=Nat.mul_le_mul_left _ kh;omega)
        (fun r row j p hr hp=>by
         have Bl:=(ub r row hr).2 j p hp
         have hlt:r*k+j<Cd.size:=by have:=(List.getElem?_eq_some_iff.1 Bl).1;have:=h2.1;omega
         exact⟨Cd[r*k+j],Array.getElem?_eq_getElem hlt,Te _ p _ Bl (Array.getElem?_eq_getElem hlt)⟩)
       rw[zCD]at g1
       have Cl:Cd.size=len*k:=by have:=h2.1;omega
       obtain⟨φ2,s2,r2,g2⟩:=zVg hne s1 r1 hR (E:=e) kh ca (zCD _ _ _) (by unfold maxLen;have:len*1<=len*k:=Nat.mul_le_mul_left _ kh;omega) Cl (zDL _ _) (fun o ho=>by
        have hg:Pr w.heap.size o=none:=by
         cases hv:Pr w.heap.size o with
         |none=>rfl
         |some v=>exact absurd (zIO hR hv) (Nat.lt_irrefl _)
        rw[nq o,Array.getElem?_eq_none (by omega)]) g1
       refine⟨_,_,_,_,.inl ?_,s2,r2,g2⟩;simp[execOp,ho,Instr.buildSlice,run_underlying ht,zr hk Wc,va,we,Rf,Kg,newRow,-Array.toList_map];rw[e3,h1];rfl
      cases hv
     cases hv
    cases hv
   cases hv
  cases hv
 .rename_i c ho
  obtain⟨callee,args,argTypes⟩:=c
  split at hv
  .rename_i s x t t' e1 e2 e3
   simp only at e1 e2 e3;subst e1 e2 e3;split at hv
   .rename_i Xm
    subst Xm;split at hv
    .obtain⟨v',w',φ',r1,r2,r3,r4⟩:=zVj (ty:=o.type) (h.ev s) (h.ev x) hR hne hv
     exact⟨v',w',Pr,φ',.inl (by simp[execOp,ho,resolve,invoke,builtin,r1]),r2,r3,r4⟩
    obtain⟨⟨v1,S1⟩,hr,pd⟩:=Option.map_eq_some_iff.1 hv
    cases pd
    have key:∀y w',(Builtin.append_ #[t',t'] o.type #[a.eval s,a.eval x]).run P w= .ok y w'->(execOp a.eval o).run P w= .ok (.value y) w':=fun y w' ua=>by
     simp[execOp,ho,resolve,invoke,builtin,ua]
    unfold appA at hr;simp only at hr;split at hr
    .rename_i na
     obtain⟨ht,Hb,z,hi,hz,hs,rh,fh,hk⟩:=zDR na
     split at hr
     .rename_i rows2 ub
      have hy:=zMt hk (h.ev x) ub
      have hs:=h.ev s
      split at hr
      .rename_i k' rows d i kf
       rw[kf]at hs;split at hr
       .rename_i E' Aj n hS
        split at hr
        .rename_i hc
         obtain⟨rfl,rfl,rfl,hn,hb⟩:=hc
         cases hr
         obtain⟨v',w',Pr',φ',r1,r2,r3,r4⟩:=zPP (ty:=o.type) hR na hS hs hy hn hb
         exact⟨v',w',Pr',φ',.inl (key _ _ r1),r2,r3,r4⟩
        cases hr
       cases hr
      .rename_i kf
       rw[kf]at hs;split at hr
       .rename_i hb
        cases hr
        obtain⟨φ1,s1,r1,g1⟩:=zFW hR hne (z7 P t') (P.cellsOf (z7 P t')) hk
        have Rn:=zO hs rfl
        have ye:φ1≠ []:=fun h0=>by have:=s1.len;rw[h0]at this;exact hne (List.eq_nil_of_length_eq_zero this.symm)
        have lc:get2 (add2 (.tok (z7 P t') (P.cellsOf (z7 P t')) 0) S) 0 (top S)=some (.tok (z7 P t') (P.cellsOf (z7 P t')) 0):=zAR _ _
        obtain⟨v',w',Pr',φ',q1,q2,q3,q4⟩:=zPP (ty:=o.type) r1 na lc g1 (hy.mono s1.pl) rfl (by simpa using hb)
        rw[<-Rn]at q1;refine⟨v',w',Pr',φ',.inl (key _ _ q1),s1.trans q2,?_,by simpa using q4⟩
        have e:set2 (add2 (.tok (z7 P t') (P.cellsOf (z7 P t')) 0) S) 0 (top S) (.tok (z7 P t') (P.cellsOf (z7 P t')) (([]:List (List PV)).length+rows2.length))=add2 (.tok (z7 P t') (P.cellsOf (z7 P t')) rows2.length) S:=by
         cases S<;>simp[set2,add2,top]
        rw[<-e];exact q3
       cases hr
      .rename_i k' rows kf
       rw[kf]at hs;split at hr
       .rename_i hc
        obtain⟨rfl,hm,hb⟩:=hc
        cases hr
        cases hs with
        |p hs=>
         obtain⟨v',w',Pr',φ',q1,q2,q3,q4⟩:=zSP (ty:=o.type) hR hne na hs hy hm hb
         exact⟨v',w',Pr',φ',.inl (key _ _ q1),q2,q3,q4⟩
       split at hr
       .rename_i hc
        obtain⟨rfl,h0⟩:=hc
        cases hr
        cases hs with
        |p hs=>exact⟨_,w,Pr,φ,.inl (key _ _ (zSQ (ty:=o.type) na hs hy h0)),Stp.refl _ _ _,hR,.p hs.unf⟩
       cases hr
      cases hr
     cases hr
    cases hr
   obtain⟨⟨v1,S1⟩,hr,pd⟩:=Option.map_eq_some_iff.1 hv
   cases pd
   have key:∀y w',(Builtin.append_ #[t,t'] o.type #[a.eval s,a.eval x]).run P w= .ok y w'->(execOp a.eval o).run P w= .ok (.value y) w':=fun y w' ua=>by
    simp[execOp,ho,resolve,invoke,builtin,ua]
   unfold zVe at hr;simp only at hr;split at hr
   .rename_i na
    split at hr
    .rename_i b Sn
     have qq:=zVf (h.ev x) Sn
     have hs:=h.ev s
     split at hr
     .rename_i k' rows d i kf
      rw[kf]at hs;split at hr
      .rename_i E' Aj n hS
       split at hr
       .rename_i hc
        obtain⟨rfl,rfl,rfl,hn,hb⟩:=hc
        cases hr
        obtain⟨v',w',Pr',φ',r1,r2,r3,r4⟩:=zMu (ty:=o.type) hR na hS hs hn hb
        rw[<-qq]at r1;exact⟨v',w',Pr',φ',.inl (key _ _ r1),r2,r3,r4⟩
       cases hr
      cases hr
     .rename_i kf
      rw[kf]at hs;split at hr
      .rename_i hb
       cases hr
       obtain⟨φ1,s1,r1,g1⟩:=zFW hR hne (z7 P t) 1 (by decide)
       have Rn:=zO hs rfl
       have lc:get2 (add2 (.tok (z7 P t) 1 0) S) 0 (top S)=some (.tok (z7 P t) 1 0):=zAR _ _
       obtain⟨v',w',Pr',φ',q1,q2,q3,q4⟩:=zMu (ty:=o.type) (b:=b) r1 na lc g1 rfl (by simpa using hb)
       rw[<-Rn,<-qq]at q1;refine⟨v',w',Pr',φ',.inl (key _ _ q1),s1.trans q2,?_,by simpa using q4⟩
       have e:set2 (add2 (.tok (z7 P t) 1 0) S) 0 (top S) (.tok (z7 P t) 1 (([]:List (List PV)).length+b.size))=add2 (.tok (z7 P t) 1 b.size) S:=by
        cases S<;>simp[set2,add2,top]
       rw[<-e];exact q3
      cases hr
     cases hr
    cases hr
   cases hr
  cases hv
 .rename_i t ho
  cases hv
  obtain⟨φ',s1,r1,r2⟩:=zSF hR hne (.map #[] 0) (.map []) fun φ' w' h1 h2=>⟨rfl,w.heap.size,#[],0,rfl,h1,rfl,fun j kv en a b=>by simp at a,h2,rfl,fun j en hj=>by simp at hj⟩
  exact⟨_,_,_,_,.inl (by simp[execOp,ho,run_makeMap]),s1,r1,.mp r2 rfl rfl⟩
 .rename_i t m k u ho
  obtain⟨w',h1,h2,h3,rfl⟩:=zPR (P:=P) (h.ev m) (h.ev k) (h.ev u) hR hv
  exact⟨undef,w',Pr,φ,.inr ⟨by simp[execOp,ho,h1],rfl⟩,h2,h3,.un⟩
 .rename_i t m k u ho
  obtain⟨w',h1,h2,h3,rfl⟩:=zPR (P:=P) (h.ev m) (h.ev k) (h.ev u) hR hv
  exact⟨undef,w',Pr,φ,.inr ⟨by simp[execOp,ho,h1],rfl⟩,h2,h3,.un⟩
 .rename_i t m k ho
  obtain⟨z,w',h1,h2,h3,h4⟩:=zVh (P:=P) (h.ev m) (h.ev k) hR hv
  exact⟨z,w',Pr,φ,.inl (by simp[execOp,ho,h1]),h2,h3,h4⟩
 .rename_i t m st u ho
  obtain⟨w',h1,h2,h3,rfl⟩:=zVi (P:=P) (T:=t) (h.ev m) (h.ev st) (h.ev u) hR hv
  exact⟨undef,w',Pr,φ,.inr ⟨by simp[execOp,ho,h1],rfl⟩,h2,h3,.un⟩
 cases hv
end
end Go.Proofs.YtgpajpilkapciaaGreatDoor
namespace Go.Proofs.YtgpajpilkapciaaGreatDoor
open Go.RowKit
def zBA(fr:List AV)(S:ASt)(ia:List AV)(S':ASt):Prop:=
 ∀Pr φ (a:Act) w,RF Pr φ fr a->Rel Pr φ S w->φ≠ []->∃φ',Stp Pr φ w Pr φ' w/\RF Pr φ' ia a/\Rel Pr φ' S' w/\top φ<=top φ'
theorem zBA.wk{fr ia:List AV}{S S':ASt}(h:wkR fr ia)(k:wkT S S'):zBA fr S ia S':=fun Pr φ a w hf hR hne=>
 ⟨φ,Stp.refl _ _ _,hf.wk (zEB h),zEA hR (zEC k),Nat.le_refl _⟩
theorem zBA.trans{fr ia Gl:List AV}{S S' Hl:ASt}(h:zBA fr S ia S')(k:zBA ia S' Gl Hl):zBA fr S Gl Hl:=fun Pr φ a w hf hR hne=>by
 obtain⟨φ1,h1,h2,h3,h4⟩:=h Pr φ a w hf hR hne
 obtain⟨φ2,k1,k2,k3,k4⟩:=k Pr φ1 a w h2 h3 (fun e=>hne (by have:=h1.len;rw[e]at this;exact List.eq_nil_of_length_eq_zero this.symm))
 exact⟨φ2,h1.trans k1,k2,k3,Nat.le_trans h4 k4⟩
def wkN(k i:Nat)(a b:AV):Prop:=b= .any\/a=b\/(a= .p (.v (.slice none 0 0))/\b= .osl k [] 0 i)
def wkNR(k i:Nat):List AV->List AV->Prop
 | [],[]=>True
 |a::as,b::bs=>wkN k i a b/\wkNR k i as bs
 |_,_=>False
def wkNL(k i:Nat):List AObj->List AObj->Prop
 | [],[]=>True
 | .cells a t::as,.cells b u::bs=>(t=u/\wkNR k i a b)/\wkNL k i as bs
 | .dead::as,.dead::bs=>wkNL k i as bs
 | .map a::as,.map b::bs=>a=b/\wkNL k i as bs
 | .tok e k0 n::as,.tok e' k' n'::bs=>(e=e'/\k0=k'/\n=n')/\wkNL k i as bs
 | .row e k0 n a::as,.row e' k' n' b::bs=>(e=e'/\k0=k'/\n=n'/\a=b)/\wkNL k i as bs
 |_,_=>False
theorem zJN{k i:Nat}:∀{a b:List AV},wkNR k i a b->a.length=b.length
 | [],[],_=>rfl
 |a::as,b::bs,h=>by simp[zJN h.2]
 | [],_::_,h=>h.elim
 |_::_,[],h=>h.elim
theorem zJO{k i:Nat}:∀{a b:List AV},wkNR k i a b->∀(j:Nat) (c:AV),b[j]? =some c->∃c0,a[j]? =some c0/\wkN k i c0 c
 | [],[],_,j,c,h=>by simp at h
 |a::as,b::bs,h,j,c,hc=>by
  cases j with
  |zero=>simp at hc;subst hc;exact⟨a,rfl,h.1⟩
  |succ j=>simpa using zJO h.2 j c (by simpa using hc)
 | [],_::_,h,_,_,_=>h.elim
 |_::_,[],h,_,_,_=>h.elim
section
variable{Pr:Prot}{φ:Fi2}{w:World}{k i:Nat}
theorem zU4(h0:RA Pr φ (.osl k [] 0 i) (.slice none 0 0)){a b:AV}{x:Value}(h:wkN k i a b)(hx:RA Pr φ a x):RA Pr φ b x:=by
 rcases h with rfl|rfl|⟨rfl,rfl⟩
 .exact .any x
 .exact hx
 cases hx with
 |p h=>cases h with
  |v h=>exact h0
theorem wkNO{as bs:List AObj}(h0:RA Pr φ (.osl k [] 0 i) (.slice none 0 0))(h:wkNL k i as bs):as.length=bs.length/\∀(j:Nat) (o:AObj),bs[j]? =some o->∃o0,as[j]? =some o0/\∀e,RelO Pr φ w o0 e->RelO Pr φ w o e:=by
 induction as generalizing bs with
 |nil=>
  cases bs with
  |nil=>exact⟨rfl,fun j o h=>by simp at h⟩
  |cons b bs=>exact h.elim
 |cons a as ih=>
  cases bs with
  |nil=>cases a<;>exact h.elim
  |cons b bs=>
   have key:(∀e,RelO Pr φ w a e->RelO Pr φ w b e)/\wkNL k i as bs:=by
    cases a with
    |raw l ob cs xs=>cases b<;>exact h.elim
    |dead=>
     cases b with
     |dead=>exact⟨fun _ h=>h,h⟩
     |_=>exact h.elim
    |cells a t=>
     cases b with
     |cells b u=>
      obtain⟨⟨rfl,h1⟩,h2⟩:=h
      refine⟨fun e he=>?_,h2⟩
      obtain⟨e0,g,xs,e1,e2,e3,e4,e5⟩:=he
      refine⟨e0,g,xs,e1,e2,by rw[<-zJN h1];exact e3,fun j c x hc hx=>?_,e5⟩
      obtain⟨c0,Bh,hw⟩:=zJO h1 j c hc
      exact zU4 h0 hw (e4 j c0 x Bh hx)
     |_=>exact h.elim
    |tok E k0 n=>
     cases b with
     |tok E' k' n'=>
      obtain⟨⟨rfl,rfl,rfl⟩,h2⟩:=h
      exact⟨fun _ h=>h,h2⟩
     |_=>exact h.elim
    |row E k0 n c=>
     cases b with
     |row E' k' n' c'=>
      obtain⟨⟨rfl,rfl,rfl,rfl⟩,h2⟩:=h
      exact⟨fun _ h=>h,h2⟩
     |_=>exact h.elim
    |map es=>
     cases b with
     |map es'=>
      obtain⟨rfl,h2⟩:=h
      exact⟨fun _ h=>h,h2⟩
     |_=>exact h.elim
   obtain⟨i1,i2⟩:=ih key.2
   refine⟨by simp[i1],fun j o ho=>?_⟩
   cases j with
   |zero=>simp at ho;subst ho;exact⟨a,rfl,key.1⟩
   |succ j=>simpa using i2 j o (by simpa using ho)
end
theorem zBA.ghost{fr ia:List AV}{L L':List AObj}{R:ASt}(E:TypeId)(k:Nat)(hk:0<k)(h:wkNR k L.length fr ia)(h2:wkNL k L.length L L'):zBA fr (L::R) ia ((L'++[.tok E k 0])::R):=fun Pr φ a w hf hR hne=>by
 obtain⟨φ',s,r,h0⟩:=zFW hR hne E k hk
 have ht:top (L::R)=L.length:=rfl
 rw[ht]at h0;refine⟨φ',s,⟨by rw[<-zJN h];exact hf.len,fun t c x hc hx=>?_⟩,⟨fun d i o ho=>?_,r.dis,r.lt,r.pr,r.tb,?_⟩,?_⟩
 .obtain⟨c0,Bh,hw⟩:=zJO h t c hc
  exact zU4 h0 hw ((hf.at_ t c0 x Bh hx).mono s.pl s.fl)
 .cases d with
  |succ d=>exact r.obj (d+1) i o ho
  |zero=>
   have Lg:=wkNO (Pr:=Pr) (φ:=φ') (w:=w) h0 h2
   have wa:(L'++[AObj.tok E k 0])[i]? =some o:=ho
   rcases Nat.lt_or_ge i L'.length with hi|hi
   .rw[List.getElem?_append_left hi]at wa
    obtain⟨o0,h3,h4⟩:=Lg.2 i o wa
    obtain⟨e,he,hr⟩:=r.obj 0 i o0 (show(L++[AObj.tok E k 0])[i]? =some o0 by rw[List.getElem?_append_left (by rw[Lg.1];exact hi)];exact h3)
    exact⟨e,he,h4 e hr⟩
   rw[List.getElem?_append_right hi]at wa
   refine r.obj 0 i o (show(L++[AObj.tok E k 0])[i]? =some o from ?_)
   rw[List.getElem?_append_right (by rw[Lg.1];exact hi),Lg.1]
   exact wa
 .rw[r.shape]
  have Lg:=wkNO (Pr:=Pr) (φ:=φ') (w:=w) h0 h2
  simp[add2,Lg.1]
 have h1:top φ=top (L::R):=zBo hR.shape
 have h2:top φ'=top (add2 (AObj.tok E k 0) (L::R)):=zBo r.shape
 rw[h1,h2];simp[add2,top]
def wkM(k i:Nat)(a b:AV):Prop:=b= .any\/a=b\/(a= .p (.v (.slice none 0 0))/\b= .rsl 0 i 0 k)
def wkMR(k i:Nat):List AV->List AV->Prop
 | [],[]=>True
 |a::as,b::bs=>wkM k i a b/\wkMR k i as bs
 |_,_=>False
def wkML(k i:Nat):List AObj->List AObj->Prop
 | [],[]=>True
 | .cells a t::as,.cells b u::bs=>(t=u/\wkMR k i a b)/\wkML k i as bs
 | .dead::as,.dead::bs=>wkML k i as bs
 | .map a::as,.map b::bs=>a=b/\wkML k i as bs
 | .tok e k0 n::as,.tok e' k' n'::bs=>(e=e'/\k0=k'/\n=n')/\wkML k i as bs
 | .row e k0 n a::as,.row e' k' n' b::bs=>(e=e'/\k0=k'/\n=n'/\a=b)/\wkML k i as bs
 |_,_=>False
theorem zJP{k i:Nat}:∀{a b:List AV},wkMR k i a b->a.length=b.length
 | [],[],_=>rfl
 |a::as,b::bs,h=>by simp[zJP h.2]
 | [],_::_,h=>h.elim
 |_::_,[],h=>h.elim
theorem zJQ{k i:Nat}:∀{a b:List AV},wkMR k i a b->∀(j:Nat) (c:AV),b[j]? =some c->∃c0,a[j]? =some c0/\wkM k i c0 c
 | [],[],_,j,c,h=>by simp at h
 |a::as,b::bs,h,j,c,hc=>by
  cases j with
  |zero=>simp at hc;subst hc;exact⟨a,rfl,h.1⟩
  |succ j=>simpa using zJQ h.2 j c (by simpa using hc)
 | [],_::_,h,_,_,_=>h.elim
 |_::_,[],h,_,_,_=>h.elim
section
variable{Pr:Prot}{φ:Fi2}{w:World}{k i:Nat}
theorem zU5(h0:RA Pr φ (.rsl 0 i 0 k) (.slice none 0 0)){a b:AV}{x:Value}(h:wkM k i a b)(hx:RA Pr φ a x):RA Pr φ b x:=by
 rcases h with rfl|rfl|⟨rfl,rfl⟩
 .exact .any x
 .exact hx
 cases hx with
 |p h=>cases h with
  |v h=>exact h0
theorem wkMO{as bs:List AObj}(h0:RA Pr φ (.rsl 0 i 0 k) (.slice none 0 0))(h:wkML k i as bs):as.length=bs.length/\∀(j:Nat) (o:AObj),bs[j]? =some o->∃o0,as[j]? =some o0/\∀e,RelO Pr φ w o0 e->RelO Pr φ w o e:=by
 induction as generalizing bs with
 |nil=>
  cases bs with
  |nil=>exact⟨rfl,fun j o h=>by simp at h⟩
  |cons b bs=>exact h.elim
 |cons a as ih=>
  cases bs with
  |nil=>cases a<;>exact h.elim
  |cons b bs=>
   have key:(∀e,RelO Pr φ w a e->RelO Pr φ w b e)/\wkML k i as bs:=by
    cases a with
    |raw l ob cs xs=>cases b<;>exact h.elim
    |dead=>
     cases b with
     |dead=>exact⟨fun _ h=>h,h⟩
     |_=>exact h.elim
    |cells a t=>
     cases b with
     |cells b u=>
      obtain⟨⟨rfl,h1⟩,h2⟩:=h
      refine⟨fun e he=>?_,h2⟩
      obtain⟨e0,g,xs,e1,e2,e3,e4,e5⟩:=he
      refine⟨e0,g,xs,e1,e2,by rw[<-zJP h1];exact e3,fun j c x hc hx=>?_,e5⟩
      obtain⟨c0,Bh,hw⟩:=zJQ h1 j c hc
      exact zU5 h0 hw (e4 j c0 x Bh hx)
     |_=>exact h.elim
    |tok E k0 n=>
     cases b with
     |tok E' k' n'=>
      obtain⟨⟨rfl,rfl,rfl⟩,h2⟩:=h
      exact⟨fun _ h=>h,h2⟩
     |_=>exact h.elim
    |row E k0 n c=>
     cases b with
     |row E' k' n' c'=>
      obtain⟨⟨rfl,rfl,rfl,rfl⟩,h2⟩:=h
      exact⟨fun _ h=>h,h2⟩
     |_=>exact h.elim
    |map es=>
     cases b with
     |map es'=>
      obtain⟨rfl,h2⟩:=h
      exact⟨fun _ h=>h,h2⟩
     |_=>exact h.elim
   obtain⟨i1,i2⟩:=ih key.2
   refine⟨by simp[i1],fun j o ho=>?_⟩
   cases j with
   |zero=>simp at ho;subst ho;exact⟨a,rfl,key.1⟩
   |succ j=>simpa using i2 j o (by simpa using ho)
end
theorem zBA.ghostR{fr ia:List AV}{L L':List AObj}{R:ASt}(E:TypeId)(k:Nat)(hk:0<k)(h:wkMR k L.length fr ia)(h2:wkML k L.length L L'):zBA fr (L::R) ia ((L'++[.row E k 0 []])::R):=fun Pr φ a w hf hR hne=>by
 obtain⟨φ',s,r,h0⟩:=zIX hR hne E k hk
 have ht:top (L::R)=L.length:=rfl
 rw[ht]at h0;refine⟨φ',s,⟨by rw[<-zJP h];exact hf.len,fun t c x hc hx=>?_⟩,⟨fun d i o ho=>?_,r.dis,r.lt,r.pr,r.tb,?_⟩,?_⟩
 .obtain⟨c0,Bh,hw⟩:=zJQ h t c hc
  exact zU5 h0 hw ((hf.at_ t c0 x Bh hx).mono s.pl s.fl)
 .cases d with
  |succ d=>exact r.obj (d+1) i o ho
  |zero=>
   have Lg:=wkMO (Pr:=Pr) (φ:=φ') (w:=w) h0 h2
   have wa:(L'++[AObj.row E k 0 []])[i]? =some o:=ho
   rcases Nat.lt_or_ge i L'.length with hi|hi
   .rw[List.getElem?_append_left hi]at wa
    obtain⟨o0,h3,h4⟩:=Lg.2 i o wa
    obtain⟨e,he,hr⟩:=r.obj 0 i o0 (show(L++[AObj.row E k 0 []])[i]? =some o0 by rw[List.getElem?_append_left (by rw[Lg.1];exact hi)];exact h3)
    exact⟨e,he,h4 e hr⟩
   rw[List.getElem?_append_right hi]at wa
   refine r.obj 0 i o (show(L++[AObj.row E k 0 []])[i]? =some o from ?_)
   rw[List.getElem?_append_right (by rw[Lg.1];exact hi),Lg.1]
   exact wa
 .rw[r.shape]
  have Lg:=wkMO (Pr:=Pr) (φ:=φ') (w:=w) h0 h2
  simp[add2,Lg.1]
 have h1:top φ=top (L::R):=zBo hR.shape
 have h2:top φ'=top (add2 (AObj.row E k 0 []) (L::R)):=zBo r.shape
 rw[h1,h2];simp[add2,top]
end Go.Proofs.YtgpajpilkapciaaGreatDoor
namespace Go.Proofs.YtgpajpilkapciaaGreatDoor
open Go.RowKit
def ADet(P:Program)(K:FuncId)(args:List AV)(S:ASt)(r:AV)(S':ASt):Prop:=
 (∀xs w,(callFunc K xs).run P w= .ok (.enter K xs) w)/\∀Pr φ (xs:Array Value) w,RL Pr φ args xs->Rel Pr φ S w->φ≠ []->
  Calls P K xs w fun e w'=>∃x Pr' φ',e= .returned x/\Stp Pr φ w Pr' φ' w'/\Rel Pr' φ' S' w'/\RA Pr' φ' r x
inductive Stepped (P:Program) (o:Oper) (fr:List AV) (S:ASt):AV->ASt->Prop
 |quiet {v:AV}:evP P o fr=some v->Stepped P o fr S v S
 |load {v:AV} {ref:Option (Nat × Nat)}:evL P o fr S=some (v,ref)->Stepped P o fr S v S
 |chain {v:AV} {S':ASt} {lg:List (Nat × Nat)}:evC P o fr S=some (v,S',lg)->Stepped P o fr S v S'
 |call {c:Call} {f:Operand} {K:FuncId} {fsts caps:List AV} {r:AV} {S':ASt}:o.op= .call c->c.callee= .value f->evA fr f= .fn (.func K) fsts caps->ADet P K (fsts++(c.args.toList.map (evA fr)++caps)) S r S'->Stepped P o fr S r S'
section
variable{P:Program}{Pr:Prot}{φ:Fi2}
theorem RL.append{cs ds:List AV}{xs ys:Array Value}(h:RL Pr φ cs xs)(k:RL Pr φ ds ys):RL Pr φ (cs++ds) (xs++ys):=by
 refine⟨by simp[h.1,k.1],fun j c x hc hx=>?_⟩
 rcases Nat.lt_or_ge j cs.length with hj|hj
 .rw[List.getElem?_append_left hj]at hc
  rw[Array.getElem?_append_left (by rw[<-h.1];exact hj)]at hx
  exact h.2 j c x hc hx
 rw[List.getElem?_append_right hj]at hc
 rw[Array.getElem?_append_right (by rw[<-h.1];exact hj),<-h.1]at hx
 exact k.2 _ c x hc hx
theorem zAX{o:Oper}{fr:List AV}{a:Act}{S S':ASt}{w:World}{v:AV}(h:RF Pr φ fr a)(hR:Rel Pr φ S w)(hne:φ≠ [])(hs:Stepped P o fr S v S'){next:Act->World->Prop}{Q:Exit->Act->World->Prop}
  (hk:∀x w' Pr' φ',Stp Pr φ w Pr' φ' w'->Rel Pr' φ' S' w'->RA Pr' φ' v x->next (a.put o.dst x) w'):o.wp P a w next Q:=by
 cases hs with
 |quiet hv=>
  obtain⟨x,h1,h2⟩:=zPK (P:=P) h hv
  simp only[Oper.wp,h2 w,Oper.upon]
  exact hk x w Pr φ (Stp.refl _ _ _) hR h1
 |load hv=>
  obtain⟨x,w',Pr',h2,s1,r1,h1⟩:=zXv (P:=P) h hR hv
  simp only[Oper.wp,h2,Oper.upon]
  exact hk x w' Pr' φ s1 r1 h1
 |chain hv=>
  obtain⟨x,w',Pr',φ',h1,h2,h3,h4⟩:=zU3 (P:=P) h hR hne hv
  rcases h1 with h1|⟨h1,rfl⟩
  .simp only[Oper.wp,h1,Oper.upon]
   exact hk x w' Pr' φ' h2 h3 h4
  simp only[Oper.wp,h1,Oper.upon]
  exact hk undef w' Pr' φ' h2 h3 h4
 | @call c f K fsts caps r S' ho hc hf hd=>
  obtain⟨hK,hd⟩:=hd
  have Zf:=h.ev f
  rw[hf]at Zf
  generalize hy:a.eval f=y at Zf
  cases Zf with
  | @fn _ _ _ xs ys l1 l2 c1 c2=>
   have ea:RL Pr φ (fsts++(c.args.toList.map (evA fr)++caps)) (xs++(c.args.map a.eval++ys)):=by
    refine RL.append ⟨l1,c1⟩ (RL.append ⟨by simp,fun j q x hq hx=>?_⟩ ⟨l2,c2⟩)
    rw[List.getElem?_map]at hq
    obtain⟨q0,h0,rfl⟩:=Option.map_eq_some_iff.1 hq
    have fa:c.args[j]? =some q0:=by simpa using h0
    rw[Array.getElem?_map,fa]at hx;cases hx;exact h.ev _
   have ua:(execOp a.eval o).run P w= .ok (.enter K (xs++(c.args.map a.eval++ys))) w:=by
    simp[execOp,ho,resolve,hc,hy,Deferred.ofValue,invoke,hK,Array.append_assoc]
   simp only[Oper.wp,ua,Oper.upon];refine(hd Pr φ _ w ea hR hne).mono fun e w' he=>?_
   obtain⟨x,Pr',φ',rfl,s1,s2,s3⟩:=he
   exact hk x w' Pr' φ' s1 s2 s3
end
def zBU(ops:Array Oper)(o:Oper)(fr:List AV):Option Bool:=
 match o.guard with
 |none=>some true
 |some (j,ak)=>
  match(ops[j]?).bind (·.dst)with
  |some t=>
   match fr[t]? with
   |some (.p (.v (.bool b)))=>some (b==ak)
   |some .un=>some false
   |_=>none
  |none=>none
theorem zAx{Pr:Prot}{φ:Fi2}{ops:Array Oper}{o:Oper}{fr:List AV}{a:Act}{b:Bool}(h:RF Pr φ fr a)(hw:zBU ops o fr=some b):Region.wanted o (yielded ops a.tmps)=b:=by
 unfold zBU at hw;unfold Region.wanted;split at hw
 .rename_i hg;cases hw;rw[hg]
 rename_i j ak hg
 rw[hg];split at hw
 .rename_i t ht
  have gc:∀c,fr[t]? =some c->∃x,a.tmps[t]? =some x/\RA Pr φ c x:=fun c hc=>by
   have hlt:t<a.tmps.size:=by rw[<-h.len];exact(List.getElem?_eq_some_iff.1 hc).1
   exact⟨_,Array.getElem?_eq_getElem hlt,h.at_ t c _ hc (Array.getElem?_eq_getElem hlt)⟩
  split at hw
  .rename_i b' hb
   cases hw
   obtain⟨x,hx,hr⟩:=gc _ hb
   have:=zO hr rfl
   subst this;simp[yielded,ht,hx]
  .rename_i hb
   cases hw
   obtain⟨x,hx,hr⟩:=gc _ hb
   cases hr;simp[yielded,ht,hx,undef]
  cases hw
 cases hw
def awpL(P:Program)(ops:Array Oper):List Oper->List AV->ASt->(List AV->ASt->Prop)->Prop
 | [],fr,S,K=>K fr S
 |o::os,fr,S,K=>
  match zBU ops o fr with
  |some true=>∃v S',Stepped P o fr S v S'/\awpL P ops os (putA fr o.dst v) S' K
  |some false=>awpL P ops os (putA fr o.dst .un) S K
  |none=>False
def Post(Pr:Prot)(φ:Fi2)(a:Act)(w:World)(Q:Exit->List AV->ASt->Prop):Exit->Act->World->Prop:=fun e a' w'=>
 ∃ia S' Pr' φ',Q e ia S'/\RF Pr' φ' ia a'/\Rel Pr' φ' S' w'/\Stp Pr φ w Pr' φ' w'/\a'.defers=a.defers
theorem z8(a:Act)(d:Option Nat)(x:Value):(a.put d x).defers=a.defers:=by cases d<;>rfl
theorem zJ{Pr Pr':Prot}{φ φ':Fi2}{w w':World}(h:Stp Pr φ w Pr' φ' w')(hne:φ≠ []):φ'≠ []:=fun h0=>by
 have:=h.len;rw[h0]at this;exact hne (List.eq_nil_of_length_eq_zero this.symm)
theorem Post.trans{Pr rb:Prot}{φ φ1:Fi2}{a a1:Act}{w w1:World}{Q:Exit->List AV->ASt->Prop}(h:Stp Pr φ w rb φ1 w1)(ha:a1.defers=a.defers)(e:Exit)(a':Act)(w':World)(hp:Post rb φ1 a1 w1 Q e a' w'):Post Pr φ a w Q e a' w':=by
 obtain⟨ia,S',Pr',φ',h1,h2,h3,h4,h5⟩:=hp
 exact⟨ia,S',Pr',φ',h1,h2,h3,h.trans h4,h5.trans ha⟩
theorem zJR{P:Program}{ops:Array Oper}{K:List AV->ASt->Prop}{Q:Exit->List AV->ASt->Prop}(hQ:∀fr S,K fr S->Q .normal fr S){Pr0:Prot}{φ0:Fi2}{a0:Act}{w0:World}:∀(os:List Oper) (i:Nat),ops.toList.drop i=os->∀(Pr:Prot) (φ:Fi2) (fr:List AV) (a:Act) (S:ASt) (w:World),RF Pr φ fr a->Rel Pr φ S w->φ≠ []->Stp Pr0 φ0 w0 Pr φ w->a.defers=a0.defers->awpL P ops os fr S K->
  wpOps P ops (Post Pr0 φ0 a0 w0 Q) (List.range' i os.length) a w
 | [],i,hi,Pr,φ,fr,a,S,w,h,hR,hne,Id,Dd,hk=>⟨fr,S,Pr,φ,hQ _ _ hk,h,hR,Id,Dd⟩
 |o::os,i,hi,Pr,φ,fr,a,S,w,h,hR,hne,Id,Dd,hk=>by
  have ho:ops[i]? =some o:=by
   have:(ops.toList.drop i)[0]? =some o:=by rw[hi];rfl
   rw[List.getElem?_drop]at this
   simpa using this
  have Nd:ops.toList.drop (i+1)=os:=by rw[<-List.drop_drop,hi];rfl
  simp only[List.length_cons,List.range'_succ];rw[wpOps_cons];unfold wpOp;rw[ho];simp only[awpL]at hk;split at hk
  .rename_i hw
   obtain⟨v,S',hs,Ea⟩:=hk
   simp only[zAx h hw,if_true];refine .inl (zAX h hR hne hs fun x w' Pr' φ' s1 s2 s3=>?_)
   exact zJR hQ os (i+1) Nd Pr' φ' _ _ S' w' ((h.mono s1.pl s1.fl).put o.dst s3) s2 (zJ s1 hne) (Id.trans s1) ((z8 _ _ _).trans Dd) Ea
  .rename_i hw
   simp only[zAx h hw,Bool.false_eq_true,if_false];exact zJR hQ os (i+1) Nd Pr φ _ _ S w (h.put o.dst (Pr:=Pr) (φ:=φ) (v:=.un) (x:=undef) .un) hR hne Id ((z8 _ _ _).trans Dd) hk
  exact hk.elim
def zDM(P:Program)(o:Oper)(fr:List AV)(S:ASt):Option (AV × ASt):=
 match o.op with
 | .load _ _=>(evL P o fr S).map fun r=>(r.1,S)
 | .convert _ _ _=>(evL P o fr S).map fun r=>(r.1,S)
 | .lookup _ _ _ _=>(evL P o fr S).map fun r=>(r.1,S)
 | .store _ _ _=>(evC P o fr S).map fun r=>(r.1,r.2.1)
 | .box _ _=>(evC P o fr S).map fun r=>(r.1,r.2.1)
 | .alloc _=>(evC P o fr S).map fun r=>(r.1,r.2.1)
 | .buildSlice _ _ _=>if o.type=4294967295 then none else(evC P o fr S).map fun r=>(r.1,r.2.1)
 | .makeMap _ _=>(evC P o fr S).map fun r=>(r.1,r.2.1)
 | .mapUpdate _ _ _ _=>(evC P o fr S).map fun r=>(r.1,r.2.1)
 | .insert _ _ _ _=>(evC P o fr S).map fun r=>(r.1,r.2.1)
 | .mapEntry _ _ _=>(evC P o fr S).map fun r=>(r.1,r.2.1)
 | .entryStore _ _ _ _=>(evC P o fr S).map fun r=>(r.1,r.2.1)
 | .call c=>
  match c.callee with
  | .builtin .append=>(evC P o fr S).map fun r=>(r.1,r.2.1)
  | .builtin _=>(evP P o fr).map fun v=>(v,S)
  |_=>none
 |_=>(evP P o fr).map fun v=>(v,S)
def zCd(o:Oper)(fr:List AV):Option (FuncId × List AV):=
 match o.op with
 | .call c=>
  match c.callee with
  | .value f=>
   match evA fr f with
   | .fn (.func K) fsts caps=>some (K,fsts++(c.args.toList.map (evA fr)++caps))
   |_=>none
  |_=>none
 |_=>none
theorem zFZ{P:Program}{o:Oper}{fr:List AV}{S S':ASt}{v:AV}(h:zDM P o fr S=some (v,S')):Stepped P o fr S v S':=by
 have hc:∀{o:Oper},(evC P o fr S).map (fun r=>(r.1,r.2.1))=some (v,S')->Stepped P o fr S v S':=fun h=>by
  obtain⟨⟨v1,S1,lg⟩,h1,h2⟩:=Option.map_eq_some_iff.1 h
  cases h2;exact .chain h1
 have hp:∀{o:Oper},(evP P o fr).map (fun v=>(v,S))=some (v,S')->Stepped P o fr S v S':=fun h=>by
  obtain⟨v1,h1,h2⟩:=Option.map_eq_some_iff.1 h
  cases h2;exact .quiet h1
 unfold zDM at h;split at h
 .obtain⟨⟨v1,ref⟩,h1,h2⟩:=Option.map_eq_some_iff.1 h
  cases h2;exact .load h1
 .obtain⟨⟨v1,ref⟩,h1,h2⟩:=Option.map_eq_some_iff.1 h
  cases h2;exact .load h1
 .obtain⟨⟨v1,ref⟩,h1,h2⟩:=Option.map_eq_some_iff.1 h
  cases h2;exact .load h1
 .exact hc h
 .exact hc h
 .exact hc h
 .split at h
  .cases h
  exact hc h
 .exact hc h
 .exact hc h
 .exact hc h
 .exact hc h
 .exact hc h
 .split at h
  .exact hc h
  .exact hp h
  cases h
 exact hp h
theorem zDj{P:Program}{o:Oper}{fr:List AV}{S S':ASt}{r:AV}{K:FuncId}{args:List AV}(h:zCd o fr=some (K,args))(hd:ADet P K args S r S'):Stepped P o fr S r S':=by
 unfold zCd at h;split at h
 .rename_i c ho
  split at h
  .rename_i f hf
   split at h
   .rename_i K' fsts caps he
    cases h;exact .call ho hf he hd
   cases h
  cases h
 cases h
def awpF(P:Program)(ops:Array Oper):List Oper->List AV->ASt->(List AV->ASt->Prop)->Prop
 | [],fr,S,K=>K fr S
 |o::os,fr,S,K=>
  match zBU ops o fr with
  |some true=>
   match zCd o fr with
   |some (F,args)=>∃r S',ADet P F args S r S'/\awpF P ops os (putA fr o.dst r) S' K
   |none=>
    match zDM P o fr S with
    |some (v,S')=>awpF P ops os (putA fr o.dst v) S' K
    |none=>False
  |some false=>awpF P ops os (putA fr o.dst .un) S K
  |none=>False
theorem zKN{P:Program}{ops:Array Oper}{K:List AV->ASt->Prop}:∀(os:List Oper) (fr:List AV) (S:ASt),awpF P ops os fr S K->awpL P ops os fr S K
 | [],fr,S,h=>h
 |o::os,fr,S,h=>by
  simp only[awpF]at h;simp only[awpL];split at h
  .rename_i hw
   split at h
   .rename_i F args hc
    obtain⟨r,S',h1,h2⟩:=h
    exact⟨r,S',zDj hc h1,zKN os _ _ h2⟩
   split at h
   .rename_i v S' hs
    exact⟨v,S',zFZ hs,zKN os _ _ h⟩
   exact h.elim
  .rename_i hw
   exact zKN os _ _ h
  exact h.elim
def zJS{α:Type}(I:α->Prop)(F:α->List AV)(G:α->ASt)(μ:α->Nat)(m n:Nat)(Q:Exit->List AV->ASt->Prop):Exit->List AV->ASt->Prop:=fun e ia S'=>
 match e with
 | .normal=>∃a',I a'/\μ a'<m/\wkR (AV.cuts n ia) (F a')/\wkT (trim n S') (G a')
 |e=>Q e ia S'
def zIP{α:Type}(I:α->Prop)(F:α->List AV)(G:α->ASt)(μ:α->Nat)(m:Nat)(n:α->Nat)(Q:Exit->List AV->ASt->Prop):Exit->List AV->ASt->Prop:=fun e ia S'=>
 match e with
 | .normal=>∃a',I a'/\μ a'<m/\wkR (AV.cuts (n a') ia) (F a')/\wkT (trim (n a') S') (G a')
 |e=>Q e ia S'
def zVk(body:List AV->ASt->(Exit->List AV->ASt->Prop)->Prop)(fr:List AV)(S:ASt)(Q:Exit->List AV->ASt->Prop):Prop:=
 ∃(α:Type) (I:α->Prop) (F:α->List AV) (G:α->ASt) (μ:α->Nat) (a0:α) (n:α->Nat),I a0/\zBA fr S (F a0) (G a0)/\(∀a,I a->top (G a0)<=n a)/\∀a,I a->body (F a) (G a) (zIP I F G μ (μ a) n Q)
def zDN(P:Program)(ops:Array Oper)(fr:List AV)(S:ASt)(Q:Exit->List AV->ASt->Prop):Prop:=
 ∀Pr0 φ0 a0 w0 Pr φ a w,RF Pr φ fr a->Rel Pr φ S w->φ≠ []->Stp Pr0 φ0 w0 Pr φ w->a.defers=a0.defers->wpAny P .any ops (Post Pr0 φ0 a0 w0 Q) ops.size (Array.replicate ops.size false) a w
def awp(P:Program):Code->List AV->ASt->(Exit->List AV->ASt->Prop)->Prop
 | .skip,fr,S,Q=>Q .normal fr S
 | .region _ ops cb,fr,S,Q=>if cb=true then zDN P ops fr S Q else awpF P ops ops.toList fr S (Q .normal)
 | .seq a b,fr,S,Q=>awp P a fr S fun e fr S=>
  match e with
  | .normal=>awp P b fr S Q
  |e=>Q e fr S
 | .cond c t e,fr,S,Q=>
  match evA fr c with
  | .p (.v (.bool b))=>if b=true then awp P t fr S Q else awp P e fr S Q
  | .bl=>awp P t fr S Q/\awp P e fr S Q
  |_=>False
 | .block id body,fr,S,Q=>awp P body fr S fun e fr S=>
  match e with
  | .exit j=>if j=id then Q .normal fr S else Q (.exit j) fr S
  |e=>Q e fr S
 | .loop body,fr,S,Q=>zVk (awp P body) fr S Q
 | .exit id,fr,S,Q=>Q (.exit id) fr S
 | .label _,fr,S,Q=>Q .normal fr S
 | .ret,fr,S,Q=>Q .ret fr S
 |_,_,_,_=>False
theorem zCx{P:Program}(hm:P.follows .mixedOrders=true):∀(c:Code) (Q:Exit->List AV->ASt->Prop) (Pr:Prot) (φ:Fi2) (fr:List AV) (a:Act) (S:ASt) (w:World),RF Pr φ fr a->Rel Pr φ S w->φ≠ []->awp P c fr S Q->c.wp P (Post Pr φ a w Q) a w
 | .skip,Q,Pr,φ,fr,a,S,w,h,hR,hne,hk=>wp_skip ⟨fr,S,Pr,φ,hk,h,hR,Stp.refl _ _ _,rfl⟩
 | .label l,Q,Pr,φ,fr,a,S,w,h,hR,hne,hk=>wp_label ⟨fr,S,Pr,φ,hk,h,hR,Stp.refl _ _ _,rfl⟩
 | .exit id,Q,Pr,φ,fr,a,S,w,h,hR,hne,hk=>wp_exit ⟨fr,S,Pr,φ,hk,h,hR,Stp.refl _ _ _,rfl⟩
 | .ret,Q,Pr,φ,fr,a,S,w,h,hR,hne,hk=>wp_ret ⟨fr,S,Pr,φ,hk,h,hR,Stp.refl _ _ _,rfl⟩
 | .region id ops cb,Q,Pr,φ,fr,a,S,w,h,hR,hne,hk=>by
  cases cb with
  |true=>
   have Vb:zDN P ops fr S Q:=hk
   obtain⟨s1,r1⟩:=zGv hR (w.drawn+1)
   exact wp_region_any hm (Vb Pr φ a w Pr φ a _ h r1 hne s1 rfl)
  |false=>
   have Vb:awpL P ops ops.toList fr S (Q .normal):=zKN _ _ _ hk
   refine wp_region ?_
   have:=zJR (Q:=Q) (fun _ _ h=>h) ops.toList 0 rfl Pr φ fr a S w h hR hne (Stp.refl _ _ _) rfl Vb
   rwa [List.range_eq_range',<-Array.length_toList]
 | .seq x y,Q,Pr,φ,fr,a,S,w,h,hR,hne,hk=>by
  refine wp_seq (wp_mono (zCx hm x _ Pr φ fr a S w h hR hne hk) fun e a' w' hp=>?_)
  obtain⟨ia,S',Pr',φ',h1,h2,h3,h4,h5⟩:=hp
  cases e with
  |normal=>exact wp_mono (zCx hm y Q Pr' φ' ia a' S' w' h2 h3 (zJ h4 hne) h1) fun e Mg Ng hp=>Post.trans h4 h5 e Mg Ng hp
  |_=>exact⟨ia,S',Pr',φ',h1,h2,h3,h4,h5⟩
 | .cond c t e,Q,Pr,φ,fr,a,S,w,h,hR,hne,hk=>by
  simp only[awp]at hk;split at hk
  .rename_i b hb
   have hc:=zO (h.ev c) (by rw[hb];rfl)
   refine wp_cond hc ?_
   cases b with
   |true=>exact zCx hm t Q Pr φ fr a S w h hR hne hk
   |false=>exact zCx hm e Q Pr φ fr a S w h hR hne hk
  .rename_i hb
   have hc:=h.ev c
   rw[hb]at hc
   generalize hy:a.eval c=y at hc
   cases hc with
   |bl b=>
    refine wp_cond hy ?_
    cases b with
    |true=>exact zCx hm t Q Pr φ fr a S w h hR hne hk.1
    |false=>exact zCx hm e Q Pr φ fr a S w h hR hne hk.2
  exact hk.elim
 | .block id body,Q,Pr,φ,fr,a,S,w,h,hR,hne,hk=>by
  refine wp_block (wp_mono (zCx hm body _ Pr φ fr a S w h hR hne hk) fun e a' w' hp=>?_)
  obtain⟨ia,S',Pr',φ',h1,h2,h3,h4,h5⟩:=hp
  cases e with
  |exit j=>
   simp only[Exit.inBlock];simp only at h1;split
   .rename_i hj
    rw[if_pos hj]at h1;exact⟨ia,S',Pr',φ',h1,h2,h3,h4,h5⟩
   rename_i hj
   rw[if_neg hj]at h1
   exact⟨ia,S',Pr',φ',h1,h2,h3,h4,h5⟩
  |_=>exact⟨ia,S',Pr',φ',h1,h2,h3,h4,h5⟩
 | .loop body,Q,Pr,φ,fr,a,S,w,h,hR,hne,hk=>by
  obtain⟨α,I,F,G,μ,a0,n,hI,hw,hn,hb⟩:=hk
  obtain⟨φs,s0,Db,tf,pa⟩:=hw Pr φ a w h hR hne
  have hn2:top φs=top (G a0):=zBo tf.shape
  refine wp_loop_ghost (fun k a1 w1=>∃m rb φ1,I m/\μ m=k/\RF rb φ1 (F m) a1/\Rel rb φ1 (G m) w1/\Stp Pr φ w rb φ1 w1/\a1.defers=a.defers) (μ a0) ⟨a0,Pr,φs,hI,rfl,Db,tf,s0,rfl⟩ ?_
  rintro k a1 w1 ⟨m,rb,φ1,Dh,rfl,hf,hr,hs,hd⟩
  refine wp_mono (zCx hm body _ rb φ1 (F m) a1 (G m) w1 hf hr (zJ hs hne) (hb m Dh)) fun e a2 w2 hp=>?_
  obtain⟨ia,S',jc,φ2,h1,h2,h3,h4,h5⟩:=hp
  cases e with
  |normal=>
   obtain⟨m',Ae,hlt,Eh,ag⟩:=h1
   have pb:=hs.trans h4
   have nc:φ2≠ []:=zJ pb hne
   obtain⟨l2,φr,rfl⟩:=List.exists_cons_of_ne_nil nc
   obtain⟨l0,φ0,rfl⟩:=List.exists_cons_of_ne_nil hne
   have uf:S'≠ []:=fun h0=>by have:=h3.shape;rw[h0]at this;simp at this
   obtain⟨L',SR,rfl⟩:=List.exists_cons_of_ne_nil uf
   have Ve:l0.length<=n m':=Nat.le_trans (Nat.le_trans pa (Nat.le_of_eq hn2)) (hn m' Ae)
   have Be:RF jc (l2.take (n m')::φr) (AV.cuts (n m') ia) a2:=⟨by rw[zB8];exact h2.len,fun t c x hc hx=>by
    rw[zBi]at hc
    obtain⟨c0,h0,rfl⟩:=Option.map_eq_some_iff.1 hc
    exact(h2.at_ t c0 x h0 hx).cut⟩
   exact⟨μ m',hlt,m',jc,l2.take (n m')::φr,Ae,rfl,Be.wk (zEB Eh),zEA (zDi h3 (n m')) (zEC ag),zEf pb Ve,h5.trans hd⟩
  |_=>exact⟨ia,S',jc,φ2,h1,h2,h3,hs.trans h4,h5.trans hd⟩
 | .scope _,Q,Pr,φ,fr,a,S,w,h,hR,hne,hk=>hk.elim
 | .rangeFunc _ _ _ _,Q,Pr,φ,fr,a,S,w,h,hR,hne,hk=>hk.elim
 | .goto _,Q,Pr,φ,fr,a,S,w,h,hR,hne,hk=>hk.elim
 | .refuse _,Q,Pr,φ,fr,a,S,w,h,hR,hne,hk=>hk.elim
end Go.Proofs.YtgpajpilkapciaaGreatDoor
namespace Go.Proofs.YtgpajpilkapciaaGreatDoor
open Go.RowKit
def zX(P:Program)(fr:List AV)(S:ASt):ResultVar->Option AV
 | .tmp t=>some (evA fr (.tmp t))
 | .cell a t=>
  match evA fr (.tmp a)with
  | .ptr d i o=>
   match get2 S d i with
   |some (.cells cs _)=>(zHM P t cs o).map (AV.up d)
   |_=>none
  |_=>none
def resA(P:Program)(fr:List AV)(S:ASt):List ResultVar->Option (List AV)
 | []=>some []
 |r::rs=>
  match zX P fr S r,resA P fr S rs with
  |some v,some vs=>some (v::vs)
  |_,_=>none
def retA:List AV->AV
 | [v]=>v
 |vs=>if vs=[]then .un else .tup vs
def zLn(P:Program)(rs:List ResultVar)(r:AV)(S':ASt):Exit->List AV->ASt->Prop:=fun e fr S1=>
 (e= .normal\/e= .ret)/\∃vs,resA P fr S1 rs=some vs/\(retA vs).down 1=some r/\S1.tail=S'
def zHT(tmps:Array Value):ResultVar->Sem Value
 | .tmp t=>pure (tmps.getD t undef)
 | .cell b t=>do loadVar t (<-asAddr (tmps.getD b undef))
theorem zIe(fn:Func)(tmps:Array Value):results fn tmps=(do let vs <-fn.results.mapM (zHT tmps);pure (if h:vs.size=1 then vs[0]else .tuple vs)):=by
 unfold results
 congr 1
section
variable{P:Program}{Pr:Prot}{φ:Fi2}
theorem zPT{r:ResultVar}{fr:List AV}{a:Act}{S:ASt}{w:World}{v:AV}(h:RF Pr φ fr a)(hR:Rel Pr φ S w)(hr:zX P fr S r=some v):
  ∃x,RA Pr φ v x/\(zHT a.tmps r).run P w= .ok x w:=by
 cases r with
 |tmp t=>
  simp only[zX,Option.some.injEq]at hr;subst hr
  exact⟨_,h.ev (.tmp t),rfl⟩
 |cell b t=>
  simp only[zX]at hr
  have hx:=h.ev (.tmp b)
  split at hr
  .rename_i d i o he
   rw[he]at hx;split at hr
   .rename_i cs T hS
    obtain⟨v0,hp,rfl⟩:=Option.map_eq_some_iff.1 hr
    obtain⟨e,hE,Oa,g,xs,hg,ma,hl,hc,Za⟩:=hR.obj d i _ hS
    generalize hy:a.eval (.tmp b)=y at hx
    cases hx with
    |ptr h1 h2 h3=>
     rw[hE]at h1;cases h1;rw[hg]at h3;cases h3
     obtain⟨z,k1,k2⟩:=zEF (w:=w) (g:=g) (o:=o) hl hc (fun j x hx=>by rw[zBS ma];exact hx) hp
     refine⟨z,k1.up,?_⟩
     have Vr:a.tmps.getD b undef= .pointer (some ⟨g,o,none⟩):=hy
     simp only[Instr.loadAt,Instr.sureAddr,Sem.run_bind,Sem.run_pure,Result.andThen_ok]at k2;simp only[zHT,Vr,asAddr,Sem.run_bind,Sem.run_pure,Result.andThen_ok];exact k2
   cases hr
  cases hr
theorem zCE{fn:Func}{fr:List AV}{a:Act}{S:ASt}{w:World}{vs:List AV}(h:RF Pr φ fr a)(hR:Rel Pr φ S w)(hr:resA P fr S fn.results.toList=some vs):∃x,RA Pr φ (retA vs) x/\(results fn a.tmps).run P w= .ok x w:=by
 have key:∀(rs:List ResultVar) (vs:List AV),resA P fr S rs=some vs->∃xs:List Value,RL Pr φ vs xs.toArray/\(rs.mapM (zHT a.tmps)).run P w= .ok xs w:=by
  intro rs
  induction rs with
  |nil=>intro vs h;simp[resA]at h;subst h;exact⟨[],⟨rfl,fun j c x h=>by simp at h⟩,by simp⟩
  |cons r rs ih=>
   intro vs hv;simp only[resA]at hv;split at hv
   .rename_i v Li h1 h2
    cases hv
    obtain⟨xs,h3,h4⟩:=ih Li h2
    obtain⟨x,h5,h6⟩:=zPT (P:=P) h hR h1
    refine⟨x::xs,⟨by simpa using h3.1,fun j c y hc hy=>?_⟩,?_⟩
    .cases j with
     |zero=>simp at hc hy;subst hc hy;exact h5
     |succ j=>exact h3.2 j c y (by simpa using hc) (by simpa using hy)
    rw[List.mapM_cons]
    simp only[Sem.run_bind,Sem.run_pure];rw[h6];simp only[Result.andThen_ok,h4]
   cases hv
 obtain⟨xs,h1,h2⟩:=key _ _ hr
 have h3:(fn.results.mapM (zHT a.tmps)).run P w= .ok xs.toArray w:=by
  have e:(fn.results.mapM (zHT a.tmps))=List.toArray<$>(fn.results.toList.mapM (zHT a.tmps)):=by
   rw[<-Array.toList_mapM,<-comp_map]
   have:(List.toArray ∘ Array.toList:Array Value->Array Value)=id:=by funext a;simp
   rw[this,id_map]
  rw[e];simp only[Sem.run_map,h2,Result.andThen_ok]
 rw[zIe]
 match vs,xs,h1 with
 | [v],[x],h1=>exact⟨x,h1.2 0 v x rfl rfl,by simp only[Sem.run_bind];rw[h3];simp⟩
 | [],[],h1=>exact⟨.tuple #[],.un,by simp only[Sem.run_bind];rw[h3];simp⟩
 |v::v'::vs,x::x'::xs,h1=>exact⟨.tuple (x::x'::xs).toArray,by simp only[retA,reduceCtorEq,if_false];exact .tup h1.1 h1.2,by simp only[Sem.run_bind];rw[h3];simp⟩
 | [],x::xs,h1=>have:=h1.1;simp at this
 | [v],[],h1=>have:=h1.1;simp at this
 | [v],x::x'::xs,h1=>have:=h1.1;simp at this
 |v::v'::vs,[],h1=>have:=h1.1;simp at this
 |v::v'::vs,[x],h1=>have:=h1.1;simp at this
theorem ADet.intro{K:FuncId}{args:List AV}{S S':ASt}{r:AV}{fn:Func}{c:Code}(hm:P.follows .mixedOrders=true)(hK:∀xs w,(callFunc K xs).run P w= .ok (.enter K xs) w)(hf:P.funcs[K]? =some fn)(hb:fn.body=some c)
  (h:awp P c (AV.ups 1 args++List.replicate (fn.ntmps-args.length) .un) ([]::S) (zLn P fn.results.toList r S')):ADet P K args S r S':=by
 refine⟨hK,fun Pr φ xs w ea hR hne=>?_⟩
 refine calls_of_wp hf hb ?_
 have eb:RF Pr ([]::φ) (AV.ups 1 args++List.replicate (fn.ntmps-args.length) .un) {tmps:=xs++Array.replicate (fn.ntmps-xs.size) undef,defers:=[]}:=by
  refine⟨by simp[zAW,ea.1],fun t v x hv hx=>?_⟩
  rcases Nat.lt_or_ge t args.length with ht|ht
  .rw[List.getElem?_append_left (by rw[zAW];exact ht),zB0]at hv
   obtain⟨v0,h0,rfl⟩:=Option.map_eq_some_iff.1 hv
   simp only at hx;rw[Array.getElem?_append_left (by rw[<-ea.1];exact ht)]at hx
   exact RA.up (k:=1) (ea.2 t v0 x h0 hx)
  rw[List.getElem?_append_right (by rw[zAW];exact ht)]at hv
  simp only at hx;rw[Array.getElem?_append_right (by rw[<-ea.1];exact ht)]at hx
  rw[List.getElem?_replicate]at hv;rw[Array.getElem?_replicate]at hx;split at hv
  .split at hx
   .cases hv;cases hx;exact .un
   cases hx
  cases hv
 refine wp_mono (zCx hm c _ Pr ([]::φ) _ _ ([]::S) w eb (zCa hR) (by simp) h) fun e a' w' hp=>?_
 obtain⟨ia,S1,Pr',φ',⟨he,vs,h1,h2,h3⟩,h4,h5,h6,h7⟩:=hp
 obtain⟨x,hx,ua⟩:=zCE (P:=P) (fn:=fn) h4 h5 h1
 have Wb:φ'≠ []:=zJ h6 (by simp)
 obtain⟨l',φ1,rfl⟩:=List.exists_cons_of_ne_nil Wb
 have lc:S1≠ []:=fun h0=>by have:=h5.shape;rw[h0]at this;simp at this
 obtain⟨L',S2,rfl⟩:=List.exists_cons_of_ne_nil lc
 simp only[List.tail_cons]at h3;subst h3
 have key:a'.defers=[]/\∃v,(results fn a'.tmps).run P w'= .ok v w'/\∃x Pr' φ',Ending.returned v= .returned x/\Stp Pr φ w Pr' φ' w'/\Rel Pr' φ' S2 w'/\RA Pr' φ' r x:=
  ⟨h7,x,ua,x,Pr',φ1,rfl,zCw h6,zB1 h5,hx.down r h2⟩
 rcases he with rfl|rfl
 .exact key
 exact key
theorem ADet.assume{K:FuncId}{args:List AV}{S S':ASt}{r:AV}{p:Prop}(hK:∀xs w,(callFunc K xs).run P w= .ok (.enter K xs) w)(hp:∀(Pr:Prot) (φ:Fi2) (xs:Array Value),RL Pr φ args xs->p)(h:p->ADet P K args S r S'):ADet P K args S r S':=
 ⟨hK,fun Pr φ xs w ea hR hne=>(h (hp Pr φ xs ea)).2 Pr φ xs w ea hR hne⟩
theorem RP.len{k:Nat}{rows:List (List PV)}{x:Value}(h:RP Pr (.sl k rows) x):rows.length<=maxLen:=by
 cases h with
 |slemp=>simp
 |sl vs h1 h2=>omega
theorem RA.len{k:Nat}{rows:List (List PV)}{x:Value}(h:RA Pr φ (.p (.sl k rows)) x):rows.length<=maxLen:=by
 cases h with
 |p h=>exact h.len
theorem zLo{cs:List AV}{xs:Array Value}{j:Nat}{c:AV}(h:RL Pr φ cs xs)(hj:cs[j]? =some c):∃x,RA Pr φ c x:=by
 have hlt:j<xs.size:=by rw[<-h.1];exact(List.getElem?_eq_some_iff.1 hj).1
 exact⟨_,h.2 j c _ hj (Array.getElem?_eq_getElem hlt)⟩
theorem zVl{cs:List AV}{x:Value}{j:Nat}{c:AV}(h:RA Pr φ (.agg cs) x)(hj:cs[j]? =some c):∃y,RA Pr φ c y:=by
 cases h with
 |agg h1 h2=>exact zLo ⟨h1,h2⟩ hj
theorem ADet.bound{K:FuncId}{args:List AV}{S S':ASt}{r:AV}{cs:List AV}{k:Nat}{rows:List (List PV)}(hK:∀xs w,(callFunc K xs).run P w= .ok (.enter K xs) w)(j i:Nat)(hj:args[j]? =some (.agg cs))(hi:cs[i]? =some (.p (.sl k rows)))(h:rows.length<=maxLen->ADet P K args S r S'):ADet P K args S r S':=
 ADet.assume hK (fun Pr φ xs hx=>by
  obtain⟨x,h1⟩:=zLo hx hj
  obtain⟨y,h2⟩:=zVl h1 hi
  exact h2.len) h
theorem ADet.boundL{K:FuncId}{args:List AV}{S S':ASt}{r:AV}{k:Nat}{rows:List (List PV)}(hK:∀xs w,(callFunc K xs).run P w= .ok (.enter K xs) w)(j:Nat)(hj:args[j]? =some (.p (.sl k rows)))(h:rows.length<=maxLen->ADet P K args S r S'):ADet P K args S r S':=
 ADet.assume hK (fun Pr φ xs hx=>by
  obtain⟨x,h1⟩:=zLo hx hj
  exact h1.len) h
def PVok(p:PV):Prop:=∃Pr x,RP Pr p x
theorem PVok.len{k:Nat}{rows:List (List PV)}(h:PVok (.sl k rows)):rows.length<=maxLen:=by obtain⟨_,_,h⟩:=h;exact h.len
theorem PVok.sub{k:Nat}{rows:List (List PV)}(h:PVok (.sl k rows)){row:List PV}{p:PV}(hr:row∈rows)(hp:p∈row):PVok p:=by
 obtain⟨Pr,x,h⟩:=h
 obtain⟨r,hr⟩:=List.getElem?_of_mem hr
 obtain⟨j,hp⟩:=List.getElem?_of_mem hp
 cases h with
 |slemp=>simp at hr
 |sl vs h1 h2 h3 h4 h5=>exact⟨Pr,_,h5 r row j p hr hp⟩
theorem ADet.okP{K:FuncId}{args:List AV}{S S':ASt}{r:AV}{p:PV}(hK:∀xs w,(callFunc K xs).run P w= .ok (.enter K xs) w)(j:Nat)(hj:args[j]? =some (.p p))(h:PVok p->ADet P K args S r S'):ADet P K args S r S':=
 ADet.assume hK (fun Pr φ xs hx=>by
  obtain⟨x,h1⟩:=zLo hx hj
  cases h1 with
  |p h=>exact⟨Pr,x,h⟩) h
theorem ADet.okA{K:FuncId}{args:List AV}{S S':ASt}{r:AV}{cs:List AV}{p:PV}(hK:∀xs w,(callFunc K xs).run P w= .ok (.enter K xs) w)(j i:Nat)(hj:args[j]? =some (.agg cs))(hi:cs[i]? =some (.p p))(h:PVok p->ADet P K args S r S'):ADet P K args S r S':=
 ADet.assume hK (fun Pr φ xs hx=>by
  obtain⟨x,h1⟩:=zLo hx hj
  obtain⟨y,h2⟩:=zVl h1 hi
  cases h2 with
  |p h=>exact⟨Pr,y,h⟩) h
theorem ADet.calls{K:FuncId}{args:List AV}{r:AV}(h:ADet P K args [[]] r [[]]){xs:Array Value}{w:World}(ea:RL Pr [[]] args xs)(Wr:∀b o v,Pr b o=some v->w.cell? ⟨b,o,none⟩=some v)(Tn:zKF Pr [[]] w):
  Calls P K xs w fun e w'=>∃x Pr',e= .returned x/\Pr.le Pr'/\(∃φ',RA Pr' φ' r x)/\Below w.heap.size w w':=by
 have hR:Rel Pr [[]] [[]] w:=⟨fun d i o ho=>by
   cases d with
   |zero=>simp[get2]at ho
   |succ d=>simp[get2]at ho,fun d i e d' i' e' g h1=>by
   cases d with
   |zero=>simp[get2]at h1
   |succ d=>simp[get2]at h1,fun d i e g h1=>by
   cases d with
   |zero=>simp[get2]at h1
   |succ d=>simp[get2]at h1,Wr,Tn,rfl⟩
 refine(h.2 Pr [[]] xs w ea hR (by simp)).mono fun e w' hp=>?_
 obtain⟨x,Pr',φ',rfl,h1,h2,h3⟩:=hp
 exact⟨x,Pr',rfl,h1.pl,⟨φ',h3⟩,h1.fr.os,h1.fr.tape,h1.fr.output,h1.fr.size,fun g hg=>h1.fr.block g hg fun d i e he=>by
  cases d with
  |zero=>simp[get2]at he
  |succ d=>simp[get2]at he⟩
end
end Go.Proofs.YtgpajpilkapciaaGreatDoor
