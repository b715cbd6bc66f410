/- A part of the proof. -/
import Derived.ProofKit
import Derived.Test.YtdflkegnmmkkoaaGreatDoorWMWp
set_option linter.unusedVariables false
set_option linter.unusedSimpArgs false
set_option maxRecDepth 100000
set_option maxHeartbeats 32000000
namespace Go.Proofs.YtdflkegnmmkkoaaGreatDoor
open Go.ChangeShapes Go.WideShapes Go.ChangeAt Go.RowKit
section
variable{H:Type}{enc:TypeId × Value->H}{P:Program}{w:World}{sp:Nat->Bool}
def zFg{α:Type}(enc:TypeId × Value->H)(P:Program)(w:World)(sp:Nat->Bool)(N:Nat)(T:TypeId)(size:Nat)(R:α->(Nat->Value)->Prop):Prop:=
 ∀fuel,fuel<=N->∀(f:Nat->Value) (x:DataW H × List MemPlace),DataW.trod enc P w 0 sp true fuel T ((List.range size).map f)=some x->
  (∀b o,MemPlace.cell b o∈x.2->w.frozen? ⟨b,o,none⟩=false)->∃a,R a f
theorem zSU{α:Type}{Q:Nat->α->Prop}:∀n,(∀i,i<n->∃a,Q i a)->∃l:List α,l.length=n/\∀i x,l[i]? =some x->Q i x
 |0,_=>⟨[],rfl,fun i x h=>by simp at h⟩
 |n+1,h=>by
  obtain⟨l,hl,hq⟩:=zSU n fun i hi=>h i (by omega)
  obtain⟨a,ha⟩:=h n (by omega)
  refine⟨l++[a],by simp[hl],fun i x hx=>?_⟩
  rcases Nat.lt_or_ge i n with hi|hi
  .rw[List.getElem?_append_left (by omega)]at hx
   exact hq i x hx
  have h1:=(List.getElem?_eq_some_iff.1 hx).1
  simp[hl]at h1
  obtain rfl:i=n:=by omega
  rw[List.getElem?_append_right (by omega),hl]at hx
  simp at hx;exact hx ▸ ha
theorem zLm{a:Addr}{v:Value}(h:w.cell? a=some v):a=⟨a.block,a.off,none⟩:=by
 have:a.spot=none:=by
  cases hs:a.spot with
  |none=>rfl
  |some k=>
   unfold World.cell? at h;split at h
   .simp[hs]at h
   cases h
 cases a;simp_all
theorem zOH(b o n:Nat):(⟨b,o,none⟩:Addr).add n=⟨b,o+n,none⟩:=by
 unfold Addr.add;split<;>simp_all
theorem zAt{α:Type}{N:Nat}{T e:TypeId}{size:Nat}{R:α->(Nat->Value)->Prop}(ht:P.underlying T=some (.slice e))(hc:P.cellsOf e=size)(hs:0<size)(h:zFg enc P w sp N e size R):
  zFg enc P w sp (N+1) T 1 (fun l f=>RdSl w Any size R l (f 0)):=by
 intro fuel hf f x hx nb
 have Ug:DataW.trod enc P w 0 sp true fuel T [f 0]=some x:=hx
 rcases DataW.trod_slice ht Ug with⟨h1,h2⟩|⟨a,len,cap,ji,rest,n,hn,h1,h2,h3,h4,h5,h6,h7,h8,h9⟩
 .refine⟨[],none,0,by simpa using h1,Nat.le_refl _,by simp[maxLen],fun _=>rfl,fun i x h=>by simp at h⟩
 have key:∀i,i<len->∃y:α,∃b off,some a=some (⟨b,off,none⟩:Addr)/\Any b/\∃g:Nat->Value,R y g/\∀j,j<size->w.cell? ⟨b,off+i*size+j,none⟩=some (g j)/\w.frozen? ⟨b,off+i*size+j,none⟩=false:=by
  have tr:∀i,i<len->∃cs y,w.cells? 0 (a.add (i*P.cellsOf e)) (P.cellsOf e)=some cs/\DataW.trod enc P w 0 sp true n e cs=some y/\ji[i]? =some y:=by
   intro i hi
   have:=h7 i hi
   have he:ji[i]? =some (ji[i]'(by omega)):=List.getElem?_eq_getElem (by omega)
   rw[he]at this
   obtain⟨cs,k1,k2⟩:=Option.bind_eq_some_iff.1 this
   exact⟨cs,_,k1,k2,he⟩
  intro i hi
  obtain⟨Hq,y0,k0,_,_⟩:=tr 0 (by omega)
  obtain⟨_,Ge,Qk⟩:=World.cells?_some k0
  have Wj:a=⟨a.block,a.off,none⟩:=by
   have:=Qk 0 (by omega)
   rw[Nat.zero_mul]at this
   have e1:(a.add 0).add 0=a:=by unfold Addr.add;simp
   rw[e1,List.getElem?_eq_getElem (by omega)]at this
   exact zLm this
  obtain⟨cs,y,k1,k2,k3⟩:=tr i hi
  obtain⟨_,hl,La⟩:=World.cells?_some k1
  have qc:cs=(List.range size).map fun j=>cs.getD j undef:=by
   apply List.ext_getElem?
   intro j
   rcases Nat.lt_or_ge j size with hj|hj
   .simp[hj,List.getD,List.getElem?_eq_getElem (show j<cs.length by omega)]
   rw[List.getElem?_eq_none (by omega),List.getElem?_eq_none (by simpa using hj)]
  rw[qc]at k2
  have kp:∀b o,MemPlace.cell b o∈y.2->w.frozen? ⟨b,o,none⟩=false:=by
   intro b o hm;refine nb b o ?_;rw[h2];refine List.mem_append_right _ (List.mem_flatMap.2 ⟨y,List.mem_append_left _ (List.mem_of_getElem? k3),hm⟩)
  obtain⟨z,hz⟩:=h n (by omega) _ y k2 kp
  refine⟨z,a.block,a.off,by rw[<-Wj],trivial,_,hz,fun j hj=>⟨?_,?_⟩⟩
  .have:=La j (by omega)
   rw[Wj,zOH,zOH,hc]at this;rw[this];simp[List.getD,List.getElem?_eq_getElem (show j<cs.length by omega)]
  refine nb _ _ ?_
  rw[h2];refine List.mem_append_left _ ?_;unfold MemPlace.row;refine List.mem_map.2 ⟨i*size+j,?_,by simp[Nat.add_assoc]⟩
  rw[List.mem_range,hc,h6]
  calc i*size+j<i*size+size:=by omega
   _=(i+1)*size:=by rw[Nat.add_mul];omega
   _<=(len+rest.length)*size:=Nat.mul_le_mul_right _ (by omega)
 obtain⟨l,hl,hq⟩:=zSU len key
 refine⟨l,some a,cap,by rw[hl];simpa using h1,by omega,h5,(fun h=>by cases h),fun i x hx=>hq i x hx⟩
theorem zHL{N:Nat}{T:TypeId}(ht:P.underlying T=some (.int .u8)):zFg enc P w sp N T 1 (fun(k:Int) f=>f 0= .int .u8 k/\0<=k/\k<=255):=by
 intro fuel _ f x hx _
 obtain⟨n,h1,_,h2⟩:=DataW.trod_int ht (show DataW.trod enc P w 0 sp true fuel T [f 0]=some x from hx)
 refine⟨n,by simpa using h1,?_⟩
 simpa [Lit.wf,IntKind.min,IntKind.max,IntKind.signed,IntKind.bits]using h2
theorem zEl{N:Nat}{T:TypeId}(ht:P.underlying T=some (.int .i64)):zFg enc P w sp N T 1 (fun(k:Int) f=>f 0= .int .i64 k/\i64 k):=by
 intro fuel _ f x hx _
 obtain⟨n,h1,_,h2⟩:=DataW.trod_int ht (show DataW.trod enc P w 0 sp true fuel T [f 0]=some x from hx)
 refine⟨n,by simpa using h1,?_⟩
 unfold i64
 simpa [Lit.wf,IntKind.min,IntKind.max,IntKind.signed,IntKind.bits]using h2
theorem zBg{N:Nat}{T:TypeId}(ht:P.underlying T=some .string):zFg enc P w sp N T 1 zOf:=by
 intro fuel _ f x hx _
 obtain⟨s,h1,_,h2⟩:=DataW.trod_string ht (show DataW.trod enc P w 0 sp true fuel T [f 0]=some x from hx)
 exact⟨s,by simpa using h1,h2⟩
theorem zPl(f:Nat->Value)(size o k:Nat)(h:o+k<=size):(((List.range size).map f).drop o).take k=(List.range k).map fun j=>f (o+j):=by
 apply List.ext_getElem?
 intro j
 rcases Nat.lt_or_ge j k with hj|hj
 .rw[List.getElem?_take_of_lt hj,List.getElem?_drop]
  simp only[List.getElem?_map,List.getElem?_range (show o+j<size by omega),List.getElem?_range hj,Option.map_some]
 rw[List.getElem?_eq_none (by simp;omega),List.getElem?_eq_none (by simpa using hj)]
theorem zBZ{T:TypeId}{fs:Array Field}{size fuel:Nat}{f:Nat->Value}{x:DataW H × List MemPlace}(hT:P.underlying T=some (.struct fs))(hx:DataW.trod enc P w 0 sp true fuel T ((List.range size).map f)=some x)
  (nb:∀b o,MemPlace.cell b o∈x.2->w.frozen? ⟨b,o,none⟩=false):
  ∃n,fuel=n+1/\∀(i:Nat) (fd:Field),fs[i]? =some fd->∀T' o k,fd.type=T'->fd.offset=o->P.cellsOf T'=k->o+k<=size->∃y,DataW.trod enc P w 0 sp true n T' ((List.range k).map fun j=>f (o+j))=some y/\∀b o,MemPlace.cell b o∈y.2->w.frozen? ⟨b,o,none⟩=false:=by
 obtain⟨xs,n,hn,h1,h2,h3,h4⟩:=DataW.trod_struct hT hx
 refine⟨n,hn,fun i fd hi T' o k Kt ho hk hs=>?_⟩
 subst Kt ho
 have hlt:i<xs.length:=by rw[h3];exact(Array.getElem?_eq_some_iff.1 hi).1
 have h:=h4 i fd hi
 rw[hk,zPl _ _ _ _ hs,List.getElem?_eq_getElem hlt]at h;exact⟨_,h,fun b o hm=>nb b o (by rw[h1];exact List.mem_flatMap.2 ⟨_,List.getElem_mem hlt,hm⟩)⟩
theorem zPm{α:Type}{T:TypeId}{size:Nat}{R:α->(Nat->Value)->Prop}{r:Reach}{b0:Nat}{fs:Array Field}(hs:P.underlying T=some (.struct fs))(hc:P.cellsOf T=size)(h:∀N,zFg enc P w sp N T size R){v:Value}{d:DataW H}{p:List MemPlace}
  (hv:Value.okWide P w r b0 T v) (ht:DataW.Trod enc P w 0 sp true T v d p) (nb:∀b o,MemPlace.cell b o∈p->w.frozen? ⟨b,o,none⟩=false):∃a f,v= .agg ((List.range size).map f).toArray/\R a f:=by
 obtain⟨cs,rfl,cb⟩:=okWide_struct hs hv
 obtain⟨fuel,ht⟩:=ht
 have hl:cs.toList.length=size:=by simpa [hc]using cb
 have qc:cs.toList=(List.range size).map fun j=>cs.toList.getD j undef:=by
  apply List.ext_getElem?
  intro j
  rcases Nat.lt_or_ge j size with hj|hj
  .simp only[List.getElem?_map,List.getElem?_range hj,Option.map_some,List.getD,List.getElem?_eq_getElem (show j<cs.toList.length by omega),Option.getD_some]
  rw[List.getElem?_eq_none (by omega),List.getElem?_eq_none (by simpa using hj)]
 obtain⟨a,ha⟩:=h fuel fuel (Nat.le_refl _) (fun j=>cs.toList.getD j undef) (d,p) (by rw[<-qc];exact ht) nb
 exact⟨a,_,by rw[<-qc],ha⟩
theorem zOI(hl:laidOutB P=true){W W':World}(hb:Below W.heap.size W W'):∀(ts:List TypeId),(∀t∈ts,P.readableRec t=true/\t<P.types.size)->∀(vs:List Value) (ds:List (DataW H)) (ps:List MemPlace),
  DataW.TrodAll enc P W 0 (fun _=>true) true ts vs ds ps->(∀x∈ps,x.block<W.heap.size)->∀sp:Nat->Bool,(∀x∈ps,sp x.block=true)->DataW.TrodAll enc P W' 0 sp true ts vs ds ps
 | [],_,vs,ds,ps,h,_,_,_=>by
  obtain⟨rfl,rfl,rfl⟩:=trodAll_nil h
  exact rfl
 |t::ts,hr,vs,ds,ps,h,hlt,sp,tg=>by
  obtain⟨v,vs,d,ds,p,q,rfl,rfl,rfl,h1,h2⟩:=trodAll_cons h
  have ur:=hr t (by simp)
  exact⟨p,q,WideElems.Trod_stays hl ur.1 ur.2 h1 (fun x hx=>hb.same (hlt x (List.mem_append_left _ hx))) (fun x hx=>tg x (List.mem_append_left _ hx)),
   zOI hl hb ts (fun t ht=>hr t (List.mem_cons_of_mem _ ht)) vs ds q h2 (fun x hx=>hlt x (List.mem_append_right _ hx)) sp (fun x hx=>tg x (List.mem_append_right _ hx)),rfl⟩
theorem zVR{f:Func}{s:ChangeSpec}{W W':World}{args:Array Value}{ds:List (DataW H)}{ki:List MemPlace}{tb:TypeId}(hl:laidOutB P=true)(hr:∀t∈f.params.toList,P.readableRec t=true/\t<P.types.size)
  (hW:DataW.Whole enc P f.params.toList s.vars false W args.toList ds [] ki) (hv:s.vars=[]) (hs:s.fn H (ds++[])={results:=[.lit (.bool true)],args:=ds}) (bc:f.resultTypes= #[tb]) (fo:P.underlying tb=some .bool) (hb:Below W.heap.size W W'):
  s.post enc P f false true false false W args (.bool true) W':=by
 have hlt:=hW.lt
 have In:=hW
 obtain⟨p,q,hA,hV,rfl,_,_⟩:=hW
 have hq:q=[]:=by rw[hv]at hV;exact hV
 subst hq;simp only[List.append_nil]at hlt In hs;refine⟨ds,[],p,[],p,[],In,?_,?_,?_,World.keptBut_mono (fun x hx=>⟨hx,Or.inr (Or.inl hx)⟩) (hb.frame (· ∈p)),fun h=>by cases h⟩
 .rw[List.append_nil,hs,bc]
  exact trodAll_mk1 (shut_bool fo true)
 .rw[List.append_nil,hs]
  exact zOI hl hb _ hr _ _ _ hA hlt _ fun x hx=>by simpa using hlt x hx
 rw[hv,List.append_nil,hs]
 exact rfl
end
section
variable{H:Type}{enc:TypeId × Value->H}{w:World}{sp:Nat->Bool}
theorem zX6:laidOutB Tryz.prog=true:=by kernel_rfl
theorem own:ownKnob Tryz.prog.godebug=none:=by kernel_rfl
theorem zFA:Tryz.prog.cellsOf 36=3:=by kernel_rfl
theorem zF6:Tryz.prog.cellsOf 5=1:=by kernel_rfl
theorem zIM:Tryz.prog.cellsOf 3=1:=by kernel_rfl
theorem zLn:Tryz.prog.cellsOf 2=1:=by kernel_rfl
theorem zAX:Tryz.prog.cellsOf 9=1:=by kernel_rfl
theorem zMv:Tryz.prog.cellsOf 34=1:=by kernel_rfl
theorem zGe:∀N,zFg enc Tryz.prog w sp N 36 3 (TyIn w Any):=by
 intro N
 induction N using Nat.strongRecOn with
 |_ N ih=>
  intro fuel hf f x hx nb
  obtain⟨n,hn,pb⟩:=zBZ Tryz.underlying36 hx nb
  obtain⟨y0,a0,b0⟩:=pb 0 _ rfl 5 0 1 rfl rfl zF6 (by omega)
  obtain⟨y1,a1,b1⟩:=pb 1 _ rfl 9 1 1 rfl rfl zAX (by omega)
  obtain⟨y2,a2,b2⟩:=pb 2 _ rfl 34 2 1 rfl rfl zMv (by omega)
  obtain⟨k,k1,k2,k3⟩:=zHL (N:=n) Tryz.underlying5 n (Nat.le_refl _) (fun j=>f (0+j)) y0 a0 b0
  obtain⟨s,s1,s2⟩:=zBg (N:=n) Tryz.underlying9 n (Nat.le_refl _) (fun j=>f (1+j)) y1 a1 b1
  cases n with
  |zero=>simp[DataW.trod]at a0
  |succ n=>
   obtain⟨l,hl⟩:=zAt (N:=n) Tryz.underlying34 zFA (by omega) (ih n (by omega)) (n+1) (Nat.le_refl _) (fun j=>f (2+j)) y2 a2 b2
   exact⟨.mk k s l,TyIn.iff.2 ⟨k1,k2,k3,s1,s2,hl⟩⟩
end
end Go.Proofs.YtdflkegnmmkkoaaGreatDoor
namespace Go.Proofs.YtdflkegnmmkkoaaGreatDoor
open Go.ChangeShapes Go.WideShapes Go.ChangeAt Go.RowKit
section
variable{H:Type}{enc:TypeId × Value->H}{w:World}{sp:Nat->Bool}
theorem zGf:Tryz.prog.cellsOf 43=8:=by kernel_rfl
theorem zIN:Tryz.prog.cellsOf 40=2:=by kernel_rfl
theorem zJU:Tryz.prog.cellsOf 38=1:=by kernel_rfl
theorem zIO:Tryz.prog.cellsOf 41=1:=by kernel_rfl
theorem zIP:∀N,zFg enc Tryz.prog w sp N 40 2 (PlIn w Any):=by
 intro N fuel hf f x hx nb
 obtain⟨n,hn,pb⟩:=zBZ Tryz.underlying40 hx nb
 obtain⟨y0,a0,b0⟩:=pb 0 _ rfl 9 0 1 rfl rfl zAX (by omega)
 obtain⟨y1,a1,b1⟩:=pb 1 _ rfl 38 1 1 rfl rfl zJU (by omega)
 obtain⟨s,s1,s2⟩:=zBg (N:=n) Tryz.underlying9 n (Nat.le_refl _) (fun j=>f (0+j)) y0 a0 b0
 cases n with
 |zero=>simp[DataW.trod]at a0
 |succ n=>
  obtain⟨l,hl⟩:=zAt (N:=n) (R:=zOf) Tryz.underlying38 zAX (by omega) (zBg (N:=n) Tryz.underlying9) (n+1) (Nat.le_refl _) (fun j=>f (1+j)) y1 a1 b1
  exact⟨⟨s,l⟩,s1,s2,hl⟩
theorem zJV:∀N,zFg enc Tryz.prog w sp N 43 8 (ExIn w Any):=by
 intro N
 induction N using Nat.strongRecOn with
 |_ N ih=>
  intro fuel hf f x hx nb
  obtain⟨n,hn,pb⟩:=zBZ Tryz.underlying43 hx nb
  obtain⟨y0,a0,b0⟩:=pb 0 _ rfl 5 0 1 rfl rfl zF6 (by omega)
  obtain⟨y1,a1,b1⟩:=pb 1 _ rfl 2 1 1 rfl rfl zLn (by omega)
  obtain⟨y2,a2,b2⟩:=pb 2 _ rfl 9 2 1 rfl rfl zAX (by omega)
  obtain⟨y3,a3,b3⟩:=pb 3 _ rfl 9 3 1 rfl rfl zAX (by omega)
  obtain⟨y4,a4,b4⟩:=pb 4 _ rfl 40 4 2 rfl rfl zIN (by omega)
  obtain⟨y5,a5,b5⟩:=pb 5 _ rfl 41 6 1 rfl rfl zIO (by omega)
  obtain⟨y6,a6,b6⟩:=pb 6 _ rfl 3 7 1 rfl rfl zIM (by omega)
  obtain⟨k,k1,k2,k3⟩:=zHL (N:=n) Tryz.underlying5 n (Nat.le_refl _) (fun j=>f (0+j)) y0 a0 b0
  obtain⟨i,i1,i2⟩:=zEl (N:=n) Tryz.underlying2 n (Nat.le_refl _) (fun j=>f (1+j)) y1 a1 b1
  obtain⟨s,s1,s2⟩:=zBg (N:=n) Tryz.underlying9 n (Nat.le_refl _) (fun j=>f (2+j)) y2 a2 b2
  obtain⟨r,r1,r2⟩:=zBg (N:=n) Tryz.underlying9 n (Nat.le_refl _) (fun j=>f (3+j)) y3 a3 b3
  obtain⟨x,Lt⟩:=zIP (enc:=enc) (w:=w) (sp:=sp) n n (Nat.le_refl _) (fun j=>f (4+j)) y4 a4 b4
  obtain⟨q,q1,q2⟩:=zEl (N:=n) Tryz.underlying3 n (Nat.le_refl _) (fun j=>f (7+j)) y6 a6 b6
  cases n with
  |zero=>simp[DataW.trod]at a0
  |succ n=>
   obtain⟨l,hl⟩:=zAt (N:=n) Tryz.underlying41 zGf (by omega) (ih n (by omega)) (n+1) (Nat.le_refl _) (fun j=>f (6+j)) y5 a5 b5
   exact⟨.mk k i s r x l q,ExIn.iff.2 ⟨⟨k1,⟨k2,k3⟩,i1,i2,s1,s2,r1,r2,Lt,q1,q2⟩,hl⟩⟩
end
theorem zSV{P:Program}{x:String × DataW Unit}{r:List (String × DataW Unit)}{w:World}(h:laidMet P (x::r) w):laidMet P r w:=by
 obtain⟨ps,⟨g',t',cs,fuel,p,q,Gb,kl,Mt,hd,hr,rfl⟩,hn,hc⟩:=h
 exact⟨q,hr,(List.nodup_append.1 hn).2.1,fun b off hm=>hc b off (List.mem_append_right _ hm)⟩
theorem zSW{P:Program}{w:World}{name:String}{g:Nat}{cs:Array Value}(hg:P.globalNamed name=some g)(h:w.var? P name=some cs):∃t fz,w.heap[g]? =some (.cells cs t fz):=by
 unfold World.var? at h;rw[hg]at h;simp only[Option.bind_some]at h;split at h
 .rename_i c t fz hh
  cases h;exact⟨t,fz,hh⟩
 cases h
theorem zX7{P:Program}{w:World}{name:String}{g:Nat}{k:IntKind}{zs:List Int}(hg:P.globalNamed name=some g)(h:Lib.TabIs P w name k zs)(hne:zs≠ []):
  (zs.map fun z=>Value.int k z)≠ []/\(∀j x,(zs.map fun z=>Value.int k z)[j]? =some x->zDh w g j=some x)/\(∃t fz,w.heap[g]? =some (.cells (zs.map fun z=>Value.int k z).toArray t fz))/\∀d i e,get2 ([[]]:Fi2) d i=some e->e.blk≠some g:=by
 obtain⟨t,fz,hh⟩:=zSW hg h
 refine⟨by simpa using hne,fun j x hx=>?_,⟨t,fz,hh⟩,fun d i e he=>?_⟩
 .unfold zDh World.cell?
  simp[hh]
  simpa using hx
 cases d with
 |zero=>simp[get2]at he
 |succ d=>simp[get2]at he
end Go.Proofs.YtdflkegnmmkkoaaGreatDoor
namespace Go.Proofs.YtdflkegnmmkkoaaGreatDoor
open Go.ChangeShapes Go.WideShapes Go.ChangeAt Go.RowKit
section
variable{H:Type}{enc:TypeId × Value->H}{w:World}{sp:Nat->Bool}
theorem zG2:Tryz.prog.readableRec 24=true/\24<Tryz.prog.types.size:=⟨by kernel_rfl,of_decide_eq_true (by kernel_rfl)⟩
theorem zFB:Tryz.prog.cellsOf 49=15:=by kernel_rfl
theorem zSX:Tryz.prog.cellsOf 94=3:=by kernel_rfl
theorem zMw:Tryz.prog.cellsOf 60=4:=by kernel_rfl
theorem zPn:Tryz.prog.cellsOf 45=16:=by kernel_rfl
theorem zKS:Tryz.prog.cellsOf 24=1:=by kernel_rfl
theorem zEE:Tryz.prog.cellsOf 37=1:=by kernel_rfl
theorem zPo:Tryz.prog.cellsOf 47=1:=by kernel_rfl
theorem zLo:Tryz.prog.cellsOf 33=1:=by kernel_rfl
theorem zMx:Tryz.prog.cellsOf 22=1:=by kernel_rfl
theorem zSY{N:Nat}(ih:∀m,m<N->zFg enc Tryz.prog w sp m 49 15 (StIn w Any)):∀M,M<=N->zFg enc Tryz.prog w sp M 94 3 (ArIn w Any):=by
 intro M hM fuel hf f x hx nb
 obtain⟨n,hn,pb⟩:=zBZ Tryz.underlying94 hx nb
 obtain⟨y0,a0,b0⟩:=pb 0 _ rfl 9 0 1 rfl rfl zAX (by omega)
 obtain⟨y1,a1,b1⟩:=pb 1 _ rfl 9 1 1 rfl rfl zAX (by omega)
 obtain⟨y2,a2,b2⟩:=pb 2 _ rfl 37 2 1 rfl rfl zEE (by omega)
 obtain⟨s,s1,s2⟩:=zBg (N:=n) Tryz.underlying9 n (Nat.le_refl _) (fun j=>f (0+j)) y0 a0 b0
 obtain⟨r,r1,r2⟩:=zBg (N:=n) Tryz.underlying9 n (Nat.le_refl _) (fun j=>f (1+j)) y1 a1 b1
 cases n with
 |zero=>simp[DataW.trod]at a0
 |succ n=>
  obtain⟨l,hl⟩:=zAt (N:=n) Tryz.underlying37 zFB (by omega) (ih n (by omega)) (n+1) (Nat.le_refl _) (fun j=>f (2+j)) y2 a2 b2
  exact⟨⟨s,r,l⟩,⟨s1,s2,r1,r2⟩,hl⟩
theorem zPp:∀N,zFg enc Tryz.prog w sp N 49 15 (StIn w Any):=by
 intro N
 induction N using Nat.strongRecOn with
 |_ N ih=>
  intro fuel hf f x hx nb
  obtain⟨n,hn,pb⟩:=zBZ Tryz.underlying49 hx nb
  obtain⟨y0,a0,b0⟩:=pb 0 _ rfl 5 0 1 rfl rfl zF6 (by omega)
  obtain⟨y1,a1,b1⟩:=pb 1 _ rfl 9 1 1 rfl rfl zAX (by omega)
  obtain⟨y2,a2,b2⟩:=pb 2 _ rfl 9 2 1 rfl rfl zAX (by omega)
  obtain⟨y3,a3,b3⟩:=pb 3 _ rfl 38 3 1 rfl rfl zJU (by omega)
  obtain⟨y4,a4,b4⟩:=pb 4 _ rfl 36 4 3 rfl rfl zFA (by omega)
  obtain⟨y5,a5,b5⟩:=pb 5 _ rfl 2 7 1 rfl rfl zLn (by omega)
  obtain⟨y6,a6,b6⟩:=pb 6 _ rfl 40 8 2 rfl rfl zIN (by omega)
  obtain⟨y7,a7,b7⟩:=pb 7 _ rfl 41 10 1 rfl rfl zIO (by omega)
  obtain⟨y8,a8,b8⟩:=pb 8 _ rfl 37 11 1 rfl rfl zEE (by omega)
  obtain⟨y9,a9,b9⟩:=pb 9 _ rfl 37 12 1 rfl rfl zEE (by omega)
  obtain⟨Nt,ll,vr⟩:=pb 10 _ rfl 47 13 1 rfl rfl zPo (by omega)
  obtain⟨Ot,Jn,xr⟩:=pb 11 _ rfl 3 14 1 rfl rfl zIM (by omega)
  obtain⟨k,k1,k2,k3⟩:=zHL (N:=n) Tryz.underlying5 n (Nat.le_refl _) (fun j=>f (0+j)) y0 a0 b0
  obtain⟨s,s1,s2⟩:=zBg (N:=n) Tryz.underlying9 n (Nat.le_refl _) (fun j=>f (1+j)) y1 a1 b1
  obtain⟨r,r1,r2⟩:=zBg (N:=n) Tryz.underlying9 n (Nat.le_refl _) (fun j=>f (2+j)) y2 a2 b2
  obtain⟨t,ht⟩:=zGe (enc:=enc) (w:=w) (sp:=sp) n n (Nat.le_refl _) (fun j=>f (4+j)) y4 a4 b4
  obtain⟨i,i1,i2⟩:=zEl (N:=n) Tryz.underlying2 n (Nat.le_refl _) (fun j=>f (7+j)) y5 a5 b5
  obtain⟨pl,Na⟩:=zIP (enc:=enc) (w:=w) (sp:=sp) n n (Nat.le_refl _) (fun j=>f (8+j)) y6 a6 b6
  obtain⟨q,q1,q2⟩:=zEl (N:=n) Tryz.underlying3 n (Nat.le_refl _) (fun j=>f (14+j)) Ot Jn xr
  cases n with
  |zero=>simp[DataW.trod]at a0
  |succ n=>
   obtain⟨nm,Ja⟩:=zAt (N:=n) (R:=zOf) Tryz.underlying38 zAX (by omega) (zBg (N:=n) Tryz.underlying9) (n+1) (Nat.le_refl _) (fun j=>f (3+j)) y3 a3 b3
   obtain⟨es,Ie⟩:=zAt (N:=n) Tryz.underlying41 zGf (by omega) (zJV n) (n+1) (Nat.le_refl _) (fun j=>f (10+j)) y7 a7 b7
   obtain⟨bd,Og⟩:=zAt (N:=n) Tryz.underlying37 zFB (by omega) (ih n (by omega)) (n+1) (Nat.le_refl _) (fun j=>f (11+j)) y8 a8 b8
   obtain⟨el,Xb⟩:=zAt (N:=n) Tryz.underlying37 zFB (by omega) (ih n (by omega)) (n+1) (Nat.le_refl _) (fun j=>f (12+j)) y9 a9 b9
   obtain⟨ar,ee⟩:=zAt (N:=n) Tryz.underlying47 zSX (by omega) (zSY (fun m hm=>ih m (by omega)) n (Nat.le_refl _)) (n+1) (Nat.le_refl _) (fun j=>f (13+j)) Nt ll vr
   exact⟨.mk k s r nm t i pl es bd el ar q,StIn.iff.2 ⟨⟨k1,⟨k2,k3⟩,s1,s2,r1,r2,Ja,ht,i1,i2,Na,Ie,q1,q2⟩,Og,Xb,ee⟩⟩
theorem zMy:∀N,zFg enc Tryz.prog w sp N 60 4 (FiIn w Any):=by
 intro N fuel hf f x hx nb
 obtain⟨n,hn,pb⟩:=zBZ Tryz.underlying60 hx nb
 obtain⟨y0,a0,b0⟩:=pb 0 _ rfl 9 0 1 rfl rfl zAX (by omega)
 obtain⟨y1,a1,b1⟩:=pb 1 _ rfl 36 1 3 rfl rfl zFA (by omega)
 obtain⟨s,s1,s2⟩:=zBg (N:=n) Tryz.underlying9 n (Nat.le_refl _) (fun j=>f (0+j)) y0 a0 b0
 obtain⟨t,ht⟩:=zGe (enc:=enc) (w:=w) (sp:=sp) n n (Nat.le_refl _) (fun j=>f (1+j)) y1 a1 b1
 exact⟨⟨s,t⟩,s1,s2,ht⟩
theorem zPq:∀N,zFg enc Tryz.prog w sp N 45 16 (ItIn w Any):=by
 intro N fuel hf f x hx nb
 obtain⟨n,hn,pb⟩:=zBZ Tryz.underlying45 hx nb
 obtain⟨y0,a0,b0⟩:=pb 0 _ rfl 5 0 1 rfl rfl zF6 (by omega)
 obtain⟨y1,a1,b1⟩:=pb 1 _ rfl 9 1 1 rfl rfl zAX (by omega)
 obtain⟨y2,a2,b2⟩:=pb 2 _ rfl 33 2 1 rfl rfl zLo (by omega)
 obtain⟨y3,a3,b3⟩:=pb 3 _ rfl 36 3 3 rfl rfl zFA (by omega)
 obtain⟨y4,a4,b4⟩:=pb 4 _ rfl 37 6 1 rfl rfl zEE (by omega)
 obtain⟨y5,a5,b5⟩:=pb 5 _ rfl 43 7 8 rfl rfl zGf (by omega)
 obtain⟨y6,a6,b6⟩:=pb 6 _ rfl 3 15 1 rfl rfl zIM (by omega)
 obtain⟨k,k1,k2,k3⟩:=zHL (N:=n) Tryz.underlying5 n (Nat.le_refl _) (fun j=>f (0+j)) y0 a0 b0
 obtain⟨s,s1,s2⟩:=zBg (N:=n) Tryz.underlying9 n (Nat.le_refl _) (fun j=>f (1+j)) y1 a1 b1
 obtain⟨t,ht⟩:=zGe (enc:=enc) (w:=w) (sp:=sp) n n (Nat.le_refl _) (fun j=>f (3+j)) y3 a3 b3
 obtain⟨e,he⟩:=zJV (enc:=enc) (w:=w) (sp:=sp) n n (Nat.le_refl _) (fun j=>f (7+j)) y5 a5 b5
 obtain⟨q,q1,q2⟩:=zEl (N:=n) Tryz.underlying3 n (Nat.le_refl _) (fun j=>f (15+j)) y6 a6 b6
 cases n with
 |zero=>simp[DataW.trod]at a0
 |succ n=>
  obtain⟨fs,Tb⟩:=zAt (N:=n) Tryz.underlying33 zMw (by omega) (zMy n) (n+1) (Nat.le_refl _) (fun j=>f (2+j)) y2 a2 b2
  obtain⟨bd,Og⟩:=zAt (N:=n) Tryz.underlying37 zFB (by omega) (zPp n) (n+1) (Nat.le_refl _) (fun j=>f (6+j)) y4 a4 b4
  exact⟨⟨k,s,fs,t,bd,e,q⟩,k1,⟨k2,k3⟩,s1,s2,Tb,ht,Og,he,q1,q2⟩
theorem zKT:∀N,zFg enc Tryz.prog w sp N 24 1 (fun p f=>PrIn w Any p (f 0)):=by
 intro N fuel hf f x hx nb
 obtain⟨n,hn,pb⟩:=zBZ Tryz.underlying24 hx nb
 obtain⟨y0,a0,b0⟩:=pb 0 _ rfl 22 0 1 rfl rfl zMx (by omega)
 cases n with
 |zero=>simp[DataW.trod]at a0
 |succ n=>
  obtain⟨l,hl⟩:=zAt (N:=n) Tryz.underlying22 zPn (by omega) (zPq n) (n+1) (Nat.le_refl _) (fun j=>f (0+j)) y0 a0 b0
  exact⟨l,hl⟩
end
end Go.Proofs.YtdflkegnmmkkoaaGreatDoor
