/- A part of the proof. -/
import Derived.ProofKit
import Derived.Test.YtgpajpilkapciaaGreatDoorXMWp
set_option linter.unusedVariables false
set_option linter.unusedSimpArgs false
set_option maxRecDepth 100000
set_option maxHeartbeats 32000000
namespace Go.Proofs.YtgpajpilkapciaaGreatDoor
open Go.ChangeShapes Go.WideShapes Go.ChangeAt Go.RowKit
section
variable{H:Type}{enc:TypeId × Value->H}{P:Program}{w:World}{sp:Nat->Bool}
def zFN{α:Type}(enc:TypeId × Value->H)(P:Program)(w:World)(sp:Nat->Bool)(N:Nat)(T:TypeId)(size:Nat)(R:α->(Nat->Value)->Prop):Prop:=
 ∀fuel,fuel<=N->∀(f:Nat->Value) (x:DataW H × List MemPlace),DataW.trod enc P w 0 sp true fuel T ((List.range size).map f)=some x->
  (∀b o,MemPlace.cell b o∈x.2->w.frozen? ⟨b,o,none⟩=false)->∃a,R a f
theorem zQ6{α:Type}{Q:Nat->α->Prop}:∀n,(∀i,i<n->∃a,Q i a)->∃l:List α,l.length=n/\∀i x,l[i]? =some x->Q i x
 |0,_=>⟨[],rfl,fun i x h=>by simp at h⟩
 |n+1,h=>by
  obtain⟨l,hl,hq⟩:=zQ6 n fun i hi=>h i (by omega)
  obtain⟨a,ha⟩:=h n (by omega)
  refine⟨l++[a],by simp[hl],fun i x hx=>?_⟩
  rcases Nat.lt_or_ge i n with hi|hi
  .rw[List.getElem?_append_left (by omega)]at hx
   exact hq i x hx
  have h1:=(List.getElem?_eq_some_iff.1 hx).1
  simp[hl]at h1
  obtain rfl:i=n:=by omega
  rw[List.getElem?_append_right (by omega),hl]at hx
  simp at hx;exact hx ▸ ha
theorem zLA{a:Addr}{v:Value}(h:w.cell? a=some v):a=⟨a.block,a.off,none⟩:=by
 have:a.spot=none:=by
  cases hs:a.spot with
  |none=>rfl
  |some k=>
   unfold World.cell? at h;split at h
   .simp[hs]at h
   cases h
 cases a;simp_all
theorem zNV(b o n:Nat):(⟨b,o,none⟩:Addr).add n=⟨b,o+n,none⟩:=by
 unfold Addr.add;split<;>simp_all
theorem zAo{α:Type}{N:Nat}{T e:TypeId}{size:Nat}{R:α->(Nat->Value)->Prop}(ht:P.underlying T=some (.slice e))(hc:P.cellsOf e=size)(hs:0<size)(h:zFN enc P w sp N e size R):
  zFN enc P w sp (N+1) T 1 (fun l f=>RdSl w Any size R l (f 0)):=by
 intro fuel hf f x hx eb
 have Jg:DataW.trod enc P w 0 sp true fuel T [f 0]=some x:=hx
 rcases DataW.trod_slice ht Jg with⟨h1,h2⟩|⟨a,len,cap,Zh,rest,n,hn,h1,h2,h3,h4,h5,h6,h7,h8,h9⟩
 .refine⟨[],none,0,by simpa using h1,Nat.le_refl _,by simp[maxLen],fun _=>rfl,fun i x h=>by simp at h⟩
 have key:∀i,i<len->∃y:α,∃b off,some a=some (⟨b,off,none⟩:Addr)/\Any b/\∃g:Nat->Value,R y g/\∀j,j<size->w.cell? ⟨b,off+i*size+j,none⟩=some (g j)/\w.frozen? ⟨b,off+i*size+j,none⟩=false:=by
  have at0:∀i,i<len->∃cs y,w.cells? 0 (a.add (i*P.cellsOf e)) (P.cellsOf e)=some cs/\DataW.trod enc P w 0 sp true n e cs=some y/\Zh[i]? =some y:=by
   intro i hi
   have:=h7 i hi
   have he:Zh[i]? =some (Zh[i]'(by omega)):=List.getElem?_eq_getElem (by omega)
   rw[he]at this
   obtain⟨cs,k1,k2⟩:=Option.bind_eq_some_iff.1 this
   exact⟨cs,_,k1,k2,he⟩
  intro i hi
  obtain⟨pq,y0,k0,_,_⟩:=at0 0 (by omega)
  obtain⟨_,Ve,Ek⟩:=World.cells?_some k0
  have Ij:a=⟨a.block,a.off,none⟩:=by
   have:=Ek 0 (by omega)
   rw[Nat.zero_mul]at this
   have e1:(a.add 0).add 0=a:=by unfold Addr.add;simp
   rw[e1,List.getElem?_eq_getElem (by omega)]at this
   exact zLA this
  obtain⟨cs,y,k1,k2,k3⟩:=at0 i hi
  obtain⟨_,hl,Ja⟩:=World.cells?_some k1
  have ld:cs=(List.range size).map fun j=>cs.getD j undef:=by
   apply List.ext_getElem?
   intro j
   rcases Nat.lt_or_ge j size with hj|hj
   .simp[hj,List.getD,List.getElem?_eq_getElem (show j<cs.length by omega)]
   rw[List.getElem?_eq_none (by omega),List.getElem?_eq_none (by simpa using hj)]
  rw[ld]at k2
  have Qo:∀b o,MemPlace.cell b o∈y.2->w.frozen? ⟨b,o,none⟩=false:=by
   intro b o hm;refine eb b o ?_;rw[h2];refine List.mem_append_right _ (List.mem_flatMap.2 ⟨y,List.mem_append_left _ (List.mem_of_getElem? k3),hm⟩)
  obtain⟨z,hz⟩:=h n (by omega) _ y k2 Qo
  refine⟨z,a.block,a.off,by rw[<-Ij],trivial,_,hz,fun j hj=>⟨?_,?_⟩⟩
  .have:=Ja j (by omega)
   rw[Ij,zNV,zNV,hc]at this;rw[this];simp[List.getD,List.getElem?_eq_getElem (show j<cs.length by omega)]
  refine eb _ _ ?_
  rw[h2];refine List.mem_append_left _ ?_;unfold MemPlace.row;refine List.mem_map.2 ⟨i*size+j,?_,by simp[Nat.add_assoc]⟩
  rw[List.mem_range,hc,h6]
  calc i*size+j<i*size+size:=by omega
   _=(i+1)*size:=by rw[Nat.add_mul];omega
   _<=(len+rest.length)*size:=Nat.mul_le_mul_right _ (by omega)
 obtain⟨l,hl,hq⟩:=zQ6 len key
 refine⟨l,some a,cap,by rw[hl];simpa using h1,by omega,h5,(fun h=>by cases h),fun i x hx=>hq i x hx⟩
theorem zG8{N:Nat}{T:TypeId}(ht:P.underlying T=some (.int .u8)):zFN enc P w sp N T 1 (fun(k:Int) f=>f 0= .int .u8 k/\0<=k/\k<=255):=by
 intro fuel _ f x hx _
 obtain⟨n,h1,_,h2⟩:=DataW.trod_int ht (show DataW.trod enc P w 0 sp true fuel T [f 0]=some x from hx)
 refine⟨n,by simpa using h1,?_⟩
 simpa [Lit.wf,IntKind.min,IntKind.max,IntKind.signed,IntKind.bits]using h2
theorem zEW{N:Nat}{T:TypeId}(ht:P.underlying T=some (.int .i64)):zFN enc P w sp N T 1 (fun(k:Int) f=>f 0= .int .i64 k/\i64 k):=by
 intro fuel _ f x hx _
 obtain⟨n,h1,_,h2⟩:=DataW.trod_int ht (show DataW.trod enc P w 0 sp true fuel T [f 0]=some x from hx)
 refine⟨n,by simpa using h1,?_⟩
 unfold i64
 simpa [Lit.wf,IntKind.min,IntKind.max,IntKind.signed,IntKind.bits]using h2
theorem zBd{N:Nat}{T:TypeId}(ht:P.underlying T=some .string):zFN enc P w sp N T 1 zN3:=by
 intro fuel _ f x hx _
 obtain⟨s,h1,_,h2⟩:=DataW.trod_string ht (show DataW.trod enc P w 0 sp true fuel T [f 0]=some x from hx)
 exact⟨s,by simpa using h1,h2⟩
theorem zOn(f:Nat->Value)(size o k:Nat)(h:o+k<=size):(((List.range size).map f).drop o).take k=(List.range k).map fun j=>f (o+j):=by
 apply List.ext_getElem?
 intro j
 rcases Nat.lt_or_ge j k with hj|hj
 .rw[List.getElem?_take_of_lt hj,List.getElem?_drop]
  simp only[List.getElem?_map,List.getElem?_range (show o+j<size by omega),List.getElem?_range hj,Option.map_some]
 rw[List.getElem?_eq_none (by simp;omega),List.getElem?_eq_none (by simpa using hj)]
theorem zBR{T:TypeId}{fs:Array Field}{size fuel:Nat}{f:Nat->Value}{x:DataW H × List MemPlace}(hT:P.underlying T=some (.struct fs))(hx:DataW.trod enc P w 0 sp true fuel T ((List.range size).map f)=some x)
  (eb:∀b o,MemPlace.cell b o∈x.2->w.frozen? ⟨b,o,none⟩=false):
  ∃n,fuel=n+1/\∀(i:Nat) (fd:Field),fs[i]? =some fd->∀T' o k,fd.type=T'->fd.offset=o->P.cellsOf T'=k->o+k<=size->∃y,DataW.trod enc P w 0 sp true n T' ((List.range k).map fun j=>f (o+j))=some y/\∀b o,MemPlace.cell b o∈y.2->w.frozen? ⟨b,o,none⟩=false:=by
 obtain⟨xs,n,hn,h1,h2,h3,h4⟩:=DataW.trod_struct hT hx
 refine⟨n,hn,fun i fd hi T' o k jt ho hk hs=>?_⟩
 subst jt ho
 have hlt:i<xs.length:=by rw[h3];exact(Array.getElem?_eq_some_iff.1 hi).1
 have h:=h4 i fd hi
 rw[hk,zOn _ _ _ _ hs,List.getElem?_eq_getElem hlt]at h;exact⟨_,h,fun b o hm=>eb b o (by rw[h1];exact List.mem_flatMap.2 ⟨_,List.getElem_mem hlt,hm⟩)⟩
theorem zOo{α:Type}{T:TypeId}{size:Nat}{R:α->(Nat->Value)->Prop}{r:Reach}{b0:Nat}{fs:Array Field}(hs:P.underlying T=some (.struct fs))(hc:P.cellsOf T=size)(h:∀N,zFN enc P w sp N T size R){v:Value}{d:DataW H}{p:List MemPlace}
  (hv:Value.okWide P w r b0 T v) (ht:DataW.Trod enc P w 0 sp true T v d p) (eb:∀b o,MemPlace.cell b o∈p->w.frozen? ⟨b,o,none⟩=false):∃a f,v= .agg ((List.range size).map f).toArray/\R a f:=by
 obtain⟨cs,rfl,Xa⟩:=okWide_struct hs hv
 obtain⟨fuel,ht⟩:=ht
 have hl:cs.toList.length=size:=by simpa [hc]using Xa
 have ld:cs.toList=(List.range size).map fun j=>cs.toList.getD j undef:=by
  apply List.ext_getElem?
  intro j
  rcases Nat.lt_or_ge j size with hj|hj
  .simp only[List.getElem?_map,List.getElem?_range hj,Option.map_some,List.getD,List.getElem?_eq_getElem (show j<cs.toList.length by omega),Option.getD_some]
  rw[List.getElem?_eq_none (by omega),List.getElem?_eq_none (by simpa using hj)]
 obtain⟨a,ha⟩:=h fuel fuel (Nat.le_refl _) (fun j=>cs.toList.getD j undef) (d,p) (by rw[<-ld];exact ht) eb
 exact⟨a,_,by rw[<-ld],ha⟩
theorem zNW(hl:laidOutB P=true){W W':World}(hb:Below W.heap.size W W'):∀(ts:List TypeId),(∀t∈ts,P.readableRec t=true/\t<P.types.size)->∀(vs:List Value) (ds:List (DataW H)) (ps:List MemPlace),
  DataW.TrodAll enc P W 0 (fun _=>true) true ts vs ds ps->(∀x∈ps,x.block<W.heap.size)->∀sp:Nat->Bool,(∀x∈ps,sp x.block=true)->DataW.TrodAll enc P W' 0 sp true ts vs ds ps
 | [],_,vs,ds,ps,h,_,_,_=>by
  obtain⟨rfl,rfl,rfl⟩:=trodAll_nil h
  exact rfl
 |t::ts,hr,vs,ds,ps,h,hlt,sp,Rg=>by
  obtain⟨v,vs,d,ds,p,q,rfl,rfl,rfl,h1,h2⟩:=trodAll_cons h
  have Rq:=hr t (by simp)
  exact⟨p,q,WideElems.Trod_stays hl Rq.1 Rq.2 h1 (fun x hx=>hb.same (hlt x (List.mem_append_left _ hx))) (fun x hx=>Rg x (List.mem_append_left _ hx)),
   zNW hl hb ts (fun t ht=>hr t (List.mem_cons_of_mem _ ht)) vs ds q h2 (fun x hx=>hlt x (List.mem_append_right _ hx)) sp (fun x hx=>Rg x (List.mem_append_right _ hx)),rfl⟩
theorem zNX{f:Func}{s:ChangeSpec}{W W':World}{args:Array Value}{ds:List (DataW H)}{mg:List MemPlace}{tb:TypeId}(hl:laidOutB P=true)(hr:∀t∈f.params.toList,P.readableRec t=true/\t<P.types.size)
  (hW:DataW.Whole enc P f.params.toList s.vars false W args.toList ds [] mg) (hv:s.vars=[]) (hs:s.fn H (ds++[])={results:=[.lit (.bool true)],args:=ds}) (Tb:f.resultTypes= #[tb]) (Tn:P.underlying tb=some .bool) (hb:Below W.heap.size W W'):
  s.post enc P f false true false false W args (.bool true) W':=by
 have hlt:=hW.lt
 have il:=hW
 obtain⟨p,q,hA,hV,rfl,_,_⟩:=hW
 have hq:q=[]:=by rw[hv]at hV;exact hV
 subst hq;simp only[List.append_nil]at hlt il hs;refine⟨ds,[],p,[],p,[],il,?_,?_,?_,World.keptBut_mono (fun x hx=>⟨hx,Or.inr (Or.inl hx)⟩) (hb.frame (· ∈p)),fun h=>by cases h⟩
 .rw[List.append_nil,hs,Tb]
  exact trodAll_mk1 (shut_bool Tn true)
 .rw[List.append_nil,hs]
  exact zNW hl hb _ hr _ _ _ hA hlt _ fun x hx=>by simpa using hlt x hx
 rw[hv,List.append_nil,hs]
 exact rfl
end
section
variable{H:Type}{enc:TypeId × Value->H}{w:World}{sp:Nat->Bool}
theorem zQ7:laidOutB Tryz.prog=true:=by kernel_rfl
theorem own:ownKnob Tryz.prog.godebug=none:=by kernel_rfl
theorem zEq:Tryz.prog.cellsOf 35=3:=by kernel_rfl
theorem zFq:Tryz.prog.cellsOf 5=1:=by kernel_rfl
theorem zHv:Tryz.prog.cellsOf 3=1:=by kernel_rfl
theorem zLB:Tryz.prog.cellsOf 2=1:=by kernel_rfl
theorem zAU:Tryz.prog.cellsOf 9=1:=by kernel_rfl
theorem zMN:Tryz.prog.cellsOf 33=1:=by kernel_rfl
theorem zGQ:∀N,zFN enc Tryz.prog w sp N 35 3 (TyIn w Any):=by
 intro N
 induction N using Nat.strongRecOn with
 |_ N ih=>
  intro fuel hf f x hx eb
  obtain⟨n,hn,ab⟩:=zBR Tryz.underlying35 hx eb
  obtain⟨y0,a0,b0⟩:=ab 0 _ rfl 5 0 1 rfl rfl zFq (by omega)
  obtain⟨y1,a1,b1⟩:=ab 1 _ rfl 9 1 1 rfl rfl zAU (by omega)
  obtain⟨y2,a2,b2⟩:=ab 2 _ rfl 33 2 1 rfl rfl zMN (by omega)
  obtain⟨k,k1,k2,k3⟩:=zG8 (N:=n) Tryz.underlying5 n (Nat.le_refl _) (fun j=>f (0+j)) y0 a0 b0
  obtain⟨s,s1,s2⟩:=zBd (N:=n) Tryz.underlying9 n (Nat.le_refl _) (fun j=>f (1+j)) y1 a1 b1
  cases n with
  |zero=>simp[DataW.trod]at a0
  |succ n=>
   obtain⟨l,hl⟩:=zAo (N:=n) Tryz.underlying33 zEq (by omega) (ih n (by omega)) (n+1) (Nat.le_refl _) (fun j=>f (2+j)) y2 a2 b2
   exact⟨.mk k s l,TyIn.iff.2 ⟨k1,k2,k3,s1,s2,hl⟩⟩
end
end Go.Proofs.YtgpajpilkapciaaGreatDoor
namespace Go.Proofs.YtgpajpilkapciaaGreatDoor
open Go.ChangeShapes Go.WideShapes Go.ChangeAt Go.RowKit
section
variable{H:Type}{enc:TypeId × Value->H}{w:World}{sp:Nat->Bool}
theorem zGR:Tryz.prog.cellsOf 42=8:=by kernel_rfl
theorem zHw:Tryz.prog.cellsOf 39=2:=by kernel_rfl
theorem zIx:Tryz.prog.cellsOf 37=1:=by kernel_rfl
theorem zHx:Tryz.prog.cellsOf 40=1:=by kernel_rfl
theorem zHy:∀N,zFN enc Tryz.prog w sp N 39 2 (PlIn w Any):=by
 intro N fuel hf f x hx eb
 obtain⟨n,hn,ab⟩:=zBR Tryz.underlying39 hx eb
 obtain⟨y0,a0,b0⟩:=ab 0 _ rfl 9 0 1 rfl rfl zAU (by omega)
 obtain⟨y1,a1,b1⟩:=ab 1 _ rfl 37 1 1 rfl rfl zIx (by omega)
 obtain⟨s,s1,s2⟩:=zBd (N:=n) Tryz.underlying9 n (Nat.le_refl _) (fun j=>f (0+j)) y0 a0 b0
 cases n with
 |zero=>simp[DataW.trod]at a0
 |succ n=>
  obtain⟨l,hl⟩:=zAo (N:=n) (R:=zN3) Tryz.underlying37 zAU (by omega) (zBd (N:=n) Tryz.underlying9) (n+1) (Nat.le_refl _) (fun j=>f (1+j)) y1 a1 b1
  exact⟨⟨s,l⟩,s1,s2,hl⟩
theorem zIy:∀N,zFN enc Tryz.prog w sp N 42 8 (ExIn w Any):=by
 intro N
 induction N using Nat.strongRecOn with
 |_ N ih=>
  intro fuel hf f x hx eb
  obtain⟨n,hn,ab⟩:=zBR Tryz.underlying42 hx eb
  obtain⟨y0,a0,b0⟩:=ab 0 _ rfl 5 0 1 rfl rfl zFq (by omega)
  obtain⟨y1,a1,b1⟩:=ab 1 _ rfl 2 1 1 rfl rfl zLB (by omega)
  obtain⟨y2,a2,b2⟩:=ab 2 _ rfl 9 2 1 rfl rfl zAU (by omega)
  obtain⟨y3,a3,b3⟩:=ab 3 _ rfl 9 3 1 rfl rfl zAU (by omega)
  obtain⟨y4,a4,b4⟩:=ab 4 _ rfl 39 4 2 rfl rfl zHw (by omega)
  obtain⟨y5,a5,b5⟩:=ab 5 _ rfl 40 6 1 rfl rfl zHx (by omega)
  obtain⟨y6,a6,b6⟩:=ab 6 _ rfl 3 7 1 rfl rfl zHv (by omega)
  obtain⟨k,k1,k2,k3⟩:=zG8 (N:=n) Tryz.underlying5 n (Nat.le_refl _) (fun j=>f (0+j)) y0 a0 b0
  obtain⟨i,i1,i2⟩:=zEW (N:=n) Tryz.underlying2 n (Nat.le_refl _) (fun j=>f (1+j)) y1 a1 b1
  obtain⟨s,s1,s2⟩:=zBd (N:=n) Tryz.underlying9 n (Nat.le_refl _) (fun j=>f (2+j)) y2 a2 b2
  obtain⟨r,r1,r2⟩:=zBd (N:=n) Tryz.underlying9 n (Nat.le_refl _) (fun j=>f (3+j)) y3 a3 b3
  obtain⟨x,Ro⟩:=zHy (enc:=enc) (w:=w) (sp:=sp) n n (Nat.le_refl _) (fun j=>f (4+j)) y4 a4 b4
  obtain⟨q,q1,q2⟩:=zEW (N:=n) Tryz.underlying3 n (Nat.le_refl _) (fun j=>f (7+j)) y6 a6 b6
  cases n with
  |zero=>simp[DataW.trod]at a0
  |succ n=>
   obtain⟨l,hl⟩:=zAo (N:=n) Tryz.underlying40 zGR (by omega) (ih n (by omega)) (n+1) (Nat.le_refl _) (fun j=>f (6+j)) y5 a5 b5
   exact⟨.mk k i s r x l q,ExIn.iff.2 ⟨⟨k1,⟨k2,k3⟩,i1,i2,s1,s2,r1,r2,Ro,q1,q2⟩,hl⟩⟩
end
theorem zQ8{P:Program}{x:String × DataW Unit}{r:List (String × DataW Unit)}{w:World}(h:laidMet P (x::r) w):laidMet P r w:=by
 obtain⟨ps,⟨g',t',cs,fuel,p,q,Cb,uj,mt,hd,hr,rfl⟩,hn,hc⟩:=h
 exact⟨q,hr,(List.nodup_append.1 hn).2.1,fun b off hm=>hc b off (List.mem_append_right _ hm)⟩
theorem zQ9{P:Program}{w:World}{name:String}{g:Nat}{cs:Array Value}(hg:P.globalNamed name=some g)(h:w.var? P name=some cs):∃t fz,w.heap[g]? =some (.cells cs t fz):=by
 unfold World.var? at h;rw[hg]at h;simp only[Option.bind_some]at h;split at h
 .rename_i c t fz hh
  cases h;exact⟨t,fz,hh⟩
 cases h
theorem zW3{P:Program}{w:World}{name:String}{g:Nat}{k:IntKind}{zs:List Int}(hg:P.globalNamed name=some g)(h:Lib.TabIs P w name k zs)(hne:zs≠ []):
  (zs.map fun z=>Value.int k z)≠ []/\(∀j x,(zs.map fun z=>Value.int k z)[j]? =some x->zCz w g j=some x)/\(∃t fz,w.heap[g]? =some (.cells (zs.map fun z=>Value.int k z).toArray t fz))/\∀d i e,get2 ([[]]:Fi2) d i=some e->e.blk≠some g:=by
 obtain⟨t,fz,hh⟩:=zQ9 hg h
 refine⟨by simpa using hne,fun j x hx=>?_,⟨t,fz,hh⟩,fun d i e he=>?_⟩
 .unfold zCz World.cell?
  simp[hh]
  simpa using hx
 cases d with
 |zero=>simp[get2]at he
 |succ d=>simp[get2]at he
end Go.Proofs.YtgpajpilkapciaaGreatDoor
namespace Go.Proofs.YtgpajpilkapciaaGreatDoor
open Go.ChangeShapes Go.WideShapes Go.ChangeAt Go.RowKit
section
variable{H:Type}{enc:TypeId × Value->H}{w:World}{sp:Nat->Bool}
theorem zGs:Tryz.prog.readableRec 27=true/\27<Tryz.prog.types.size:=⟨by kernel_rfl,of_decide_eq_true (by kernel_rfl)⟩
theorem zEr:Tryz.prog.cellsOf 57=15:=by kernel_rfl
theorem zRA:Tryz.prog.cellsOf 67=3:=by kernel_rfl
theorem zMO:Tryz.prog.cellsOf 79=4:=by kernel_rfl
theorem zOp:Tryz.prog.cellsOf 44=16:=by kernel_rfl
theorem zJq:Tryz.prog.cellsOf 27=1:=by kernel_rfl
theorem zDy:Tryz.prog.cellsOf 36=1:=by kernel_rfl
theorem zOq:Tryz.prog.cellsOf 55=1:=by kernel_rfl
theorem zLC:Tryz.prog.cellsOf 32=1:=by kernel_rfl
theorem zMP:Tryz.prog.cellsOf 25=1:=by kernel_rfl
theorem zRB{N:Nat}(ih:∀m,m<N->zFN enc Tryz.prog w sp m 57 15 (StIn w Any)):∀M,M<=N->zFN enc Tryz.prog w sp M 67 3 (ArIn w Any):=by
 intro M hM fuel hf f x hx eb
 obtain⟨n,hn,ab⟩:=zBR Tryz.underlying67 hx eb
 obtain⟨y0,a0,b0⟩:=ab 0 _ rfl 9 0 1 rfl rfl zAU (by omega)
 obtain⟨y1,a1,b1⟩:=ab 1 _ rfl 9 1 1 rfl rfl zAU (by omega)
 obtain⟨y2,a2,b2⟩:=ab 2 _ rfl 36 2 1 rfl rfl zDy (by omega)
 obtain⟨s,s1,s2⟩:=zBd (N:=n) Tryz.underlying9 n (Nat.le_refl _) (fun j=>f (0+j)) y0 a0 b0
 obtain⟨r,r1,r2⟩:=zBd (N:=n) Tryz.underlying9 n (Nat.le_refl _) (fun j=>f (1+j)) y1 a1 b1
 cases n with
 |zero=>simp[DataW.trod]at a0
 |succ n=>
  obtain⟨l,hl⟩:=zAo (N:=n) Tryz.underlying36 zEr (by omega) (ih n (by omega)) (n+1) (Nat.le_refl _) (fun j=>f (2+j)) y2 a2 b2
  exact⟨⟨s,r,l⟩,⟨s1,s2,r1,r2⟩,hl⟩
theorem zOr:∀N,zFN enc Tryz.prog w sp N 57 15 (StIn w Any):=by
 intro N
 induction N using Nat.strongRecOn with
 |_ N ih=>
  intro fuel hf f x hx eb
  obtain⟨n,hn,ab⟩:=zBR Tryz.underlying57 hx eb
  obtain⟨y0,a0,b0⟩:=ab 0 _ rfl 5 0 1 rfl rfl zFq (by omega)
  obtain⟨y1,a1,b1⟩:=ab 1 _ rfl 9 1 1 rfl rfl zAU (by omega)
  obtain⟨y2,a2,b2⟩:=ab 2 _ rfl 9 2 1 rfl rfl zAU (by omega)
  obtain⟨y3,a3,b3⟩:=ab 3 _ rfl 37 3 1 rfl rfl zIx (by omega)
  obtain⟨y4,a4,b4⟩:=ab 4 _ rfl 35 4 3 rfl rfl zEq (by omega)
  obtain⟨y5,a5,b5⟩:=ab 5 _ rfl 2 7 1 rfl rfl zLB (by omega)
  obtain⟨y6,a6,b6⟩:=ab 6 _ rfl 39 8 2 rfl rfl zHw (by omega)
  obtain⟨y7,a7,b7⟩:=ab 7 _ rfl 40 10 1 rfl rfl zHx (by omega)
  obtain⟨y8,a8,b8⟩:=ab 8 _ rfl 36 11 1 rfl rfl zDy (by omega)
  obtain⟨y9,a9,b9⟩:=ab 9 _ rfl 36 12 1 rfl rfl zDy (by omega)
  obtain⟨nt,Uk,ot⟩:=ab 10 _ rfl 55 13 1 rfl rfl zOq (by omega)
  obtain⟨qt,kn,rt⟩:=ab 11 _ rfl 3 14 1 rfl rfl zHv (by omega)
  obtain⟨k,k1,k2,k3⟩:=zG8 (N:=n) Tryz.underlying5 n (Nat.le_refl _) (fun j=>f (0+j)) y0 a0 b0
  obtain⟨s,s1,s2⟩:=zBd (N:=n) Tryz.underlying9 n (Nat.le_refl _) (fun j=>f (1+j)) y1 a1 b1
  obtain⟨r,r1,r2⟩:=zBd (N:=n) Tryz.underlying9 n (Nat.le_refl _) (fun j=>f (2+j)) y2 a2 b2
  obtain⟨t,ht⟩:=zGQ (enc:=enc) (w:=w) (sp:=sp) n n (Nat.le_refl _) (fun j=>f (4+j)) y4 a4 b4
  obtain⟨i,i1,i2⟩:=zEW (N:=n) Tryz.underlying2 n (Nat.le_refl _) (fun j=>f (7+j)) y5 a5 b5
  obtain⟨pl,Ua⟩:=zHy (enc:=enc) (w:=w) (sp:=sp) n n (Nat.le_refl _) (fun j=>f (8+j)) y6 a6 b6
  obtain⟨q,q1,q2⟩:=zEW (N:=n) Tryz.underlying3 n (Nat.le_refl _) (fun j=>f (14+j)) qt kn rt
  cases n with
  |zero=>simp[DataW.trod]at a0
  |succ n=>
   obtain⟨nm,Fa⟩:=zAo (N:=n) (R:=zN3) Tryz.underlying37 zAU (by omega) (zBd (N:=n) Tryz.underlying9) (n+1) (Nat.le_refl _) (fun j=>f (3+j)) y3 a3 b3
   obtain⟨es,Fc⟩:=zAo (N:=n) Tryz.underlying40 zGR (by omega) (zIy n) (n+1) (Nat.le_refl _) (fun j=>f (10+j)) y7 a7 b7
   obtain⟨bd,ah⟩:=zAo (N:=n) Tryz.underlying36 zEr (by omega) (ih n (by omega)) (n+1) (Nat.le_refl _) (fun j=>f (11+j)) y8 a8 b8
   obtain⟨el,jb⟩:=zAo (N:=n) Tryz.underlying36 zEr (by omega) (ih n (by omega)) (n+1) (Nat.le_refl _) (fun j=>f (12+j)) y9 a9 b9
   obtain⟨ar,Jd⟩:=zAo (N:=n) Tryz.underlying55 zRA (by omega) (zRB (fun m hm=>ih m (by omega)) n (Nat.le_refl _)) (n+1) (Nat.le_refl _) (fun j=>f (13+j)) nt Uk ot
   exact⟨.mk k s r nm t i pl es bd el ar q,StIn.iff.2 ⟨⟨k1,⟨k2,k3⟩,s1,s2,r1,r2,Fa,ht,i1,i2,Ua,Fc,q1,q2⟩,ah,jb,Jd⟩⟩
theorem zMQ:∀N,zFN enc Tryz.prog w sp N 79 4 (FiIn w Any):=by
 intro N fuel hf f x hx eb
 obtain⟨n,hn,ab⟩:=zBR Tryz.underlying79 hx eb
 obtain⟨y0,a0,b0⟩:=ab 0 _ rfl 9 0 1 rfl rfl zAU (by omega)
 obtain⟨y1,a1,b1⟩:=ab 1 _ rfl 35 1 3 rfl rfl zEq (by omega)
 obtain⟨s,s1,s2⟩:=zBd (N:=n) Tryz.underlying9 n (Nat.le_refl _) (fun j=>f (0+j)) y0 a0 b0
 obtain⟨t,ht⟩:=zGQ (enc:=enc) (w:=w) (sp:=sp) n n (Nat.le_refl _) (fun j=>f (1+j)) y1 a1 b1
 exact⟨⟨s,t⟩,s1,s2,ht⟩
theorem zOs:∀N,zFN enc Tryz.prog w sp N 44 16 (ItIn w Any):=by
 intro N fuel hf f x hx eb
 obtain⟨n,hn,ab⟩:=zBR Tryz.underlying44 hx eb
 obtain⟨y0,a0,b0⟩:=ab 0 _ rfl 5 0 1 rfl rfl zFq (by omega)
 obtain⟨y1,a1,b1⟩:=ab 1 _ rfl 9 1 1 rfl rfl zAU (by omega)
 obtain⟨y2,a2,b2⟩:=ab 2 _ rfl 32 2 1 rfl rfl zLC (by omega)
 obtain⟨y3,a3,b3⟩:=ab 3 _ rfl 35 3 3 rfl rfl zEq (by omega)
 obtain⟨y4,a4,b4⟩:=ab 4 _ rfl 36 6 1 rfl rfl zDy (by omega)
 obtain⟨y5,a5,b5⟩:=ab 5 _ rfl 42 7 8 rfl rfl zGR (by omega)
 obtain⟨y6,a6,b6⟩:=ab 6 _ rfl 3 15 1 rfl rfl zHv (by omega)
 obtain⟨k,k1,k2,k3⟩:=zG8 (N:=n) Tryz.underlying5 n (Nat.le_refl _) (fun j=>f (0+j)) y0 a0 b0
 obtain⟨s,s1,s2⟩:=zBd (N:=n) Tryz.underlying9 n (Nat.le_refl _) (fun j=>f (1+j)) y1 a1 b1
 obtain⟨t,ht⟩:=zGQ (enc:=enc) (w:=w) (sp:=sp) n n (Nat.le_refl _) (fun j=>f (3+j)) y3 a3 b3
 obtain⟨e,he⟩:=zIy (enc:=enc) (w:=w) (sp:=sp) n n (Nat.le_refl _) (fun j=>f (7+j)) y5 a5 b5
 obtain⟨q,q1,q2⟩:=zEW (N:=n) Tryz.underlying3 n (Nat.le_refl _) (fun j=>f (15+j)) y6 a6 b6
 cases n with
 |zero=>simp[DataW.trod]at a0
 |succ n=>
  obtain⟨fs,Db⟩:=zAo (N:=n) Tryz.underlying32 zMO (by omega) (zMQ n) (n+1) (Nat.le_refl _) (fun j=>f (2+j)) y2 a2 b2
  obtain⟨bd,ah⟩:=zAo (N:=n) Tryz.underlying36 zEr (by omega) (zOr n) (n+1) (Nat.le_refl _) (fun j=>f (6+j)) y4 a4 b4
  exact⟨⟨k,s,fs,t,bd,e,q⟩,k1,⟨k2,k3⟩,s1,s2,Db,ht,ah,he,q1,q2⟩
theorem zJr:∀N,zFN enc Tryz.prog w sp N 27 1 (fun p f=>PrIn w Any p (f 0)):=by
 intro N fuel hf f x hx eb
 obtain⟨n,hn,ab⟩:=zBR Tryz.underlying27 hx eb
 obtain⟨y0,a0,b0⟩:=ab 0 _ rfl 25 0 1 rfl rfl zMP (by omega)
 cases n with
 |zero=>simp[DataW.trod]at a0
 |succ n=>
  obtain⟨l,hl⟩:=zAo (N:=n) Tryz.underlying25 zOp (by omega) (zOs n) (n+1) (Nat.le_refl _) (fun j=>f (0+j)) y0 a0 b0
  exact⟨l,hl⟩
end
end Go.Proofs.YtgpajpilkapciaaGreatDoor
