/- A part of the proof. -/
import Derived.Test.YtdflkegnmmkkoaaGreatDoorYMShelf
import Derived.Maps.Own
import Derived.Maps.OwnOps
import Derived.Lib.AppendIntMem
import Derived.Handy
import Derived.Test.YtdflkegnmmkkoaaGreatDoorYMLt
set_option linter.unusedVariables false
set_option linter.unusedSimpArgs false
set_option maxRecDepth 100000
set_option maxHeartbeats 32000000
namespace Go.Proofs.YtdflkegnmmkkoaaGreatDoor
open Go.RowKit _root_.Go.Proofs.Tryz
def zEm:List (List UInt8):=[[108,101,116],[105,102],[101,108,115,101],[119,104,105,108,101],[109,97,116,99,104],[115,99,111,112,101],[115,112,97,119,110],[108,111,99,107],[97,115],[99,104,97,110],[100,114,111,112],[102,110],[115,116,114,117,99,116],[101,110,117,109],[116,114,117,101],[102,97,108,115,101],[97,110,100],[111,114],[110,111,116],[105,110,116],[98,111,111,108],[117,110,105,116],[109,117,116],[98,111,120],[117,110,98,111,120],[99,101,108,108],[103,101,116],[115,101,116],[114,99],[97,114,99],[99,108,111,110,101],[109,117,116,101,120],[111,112,101,110],[97,116,111,109,105,99],[108,111,97,100],[115,116,111,114,101],[102,101,116,99,104],[115,101,110,100],[114,101,99,118],[66,111,120],[67,101,108,108],[82,99],[65,114,99],[77,117,116,101,120],[65,116,111,109,105,99],[83,101,110,100,101,114],[82,101,99,101,105,118,101,114]]
theorem zRd:zEm.length=47:=rfl
def zEV(b:Int):Bool:=decide (97<=b)&&decide (b<=122)
def zEW(b:Int):Bool:=decide (65<=b)&&decide (b<=90)
def zA3(b:Int):Bool:=decide (48<=b)&&decide (b<=57)
def zDI(b:Int):Bool:=zEV b||zEW b||zA3 b||b==95
def zAY(p:Int->Bool):List UInt8->Nat
 | []=>0
 |b::l=>if p b.toNat then zAY p l+1 else 0
theorem zIH{p:Int->Bool}:∀{l:List UInt8} {q:Nat},zI7 (fun b=>p b.toNat=true) l q->q<=l.length->(∀h:q<l.length,p (l[q].toNat)=false)->zAY p l=q
 | [],q,_,hq,_=>by simp at hq;subst hq;rfl
 |b::l,0,_,_,h=>by
  have:=h (by simp)
  simp at this
  simp[zAY,this]
 |b::l,q+1,h,hq,h'=>by
  have h0:p b.toNat=true:=h 0 (by simp) (by omega)
  rw[zAY,if_pos h0,zIH (q:=q) (fun i hi hlt=>h (i+1) (by simpa using hi) (by omega)) (by simpa using hq) (fun hl=>h' (by simpa using hl))]
def zKD(s:BA):Bool:=decide (s.data.toList∈zEm)
def zG6(p:Int->Bool)(s:BA):Bool:=
 if h:0<s.size then decide (s.size<=16)&&(p (s[0].toNat)&&((zAY zDI s.data.toList==s.size)&& !zKD s))else false
theorem zO0{p:Int->Bool}{s:BA}(h:0<s.size):zG6 p s=(decide (s.size<=16)&&(p (s[0].toNat)&&((zAY zDI s.data.toList==s.size)&& !zKD s))):=by rw[zG6,dif_pos h]
theorem zDt(p:Int->Bool):∀l:List UInt8,zAY p l<=l.length
 | []=>Nat.le_refl _
 |b::l=>by have:=zDt p l;simp only[zAY];split<;>simp<;>omega
def zCU(s:BA):Bool:=zG6 zEW s
def zBT(s:BA):Bool:=zG6 zEV s
end Go.Proofs.YtdflkegnmmkkoaaGreatDoor
namespace Go.Proofs.YtdflkegnmmkkoaaGreatDoor
open Go.RowKit Go.WideMaps Go.Maps _root_.Go.Proofs.Tryz
def zHY:BA:=⟨[108,101,116,32,105,102,32,101,108,115,101,32,119,104,105,108,101,32,109,97,116,99,104,32,115,99,111,112,101,32,115,112,97,119,110,32,108,111,99,107,32,97,115,32,99,104,97,110,32,100,114,111,112,32,102,110,32,115,116,114,117,99,116,32,101,110,117,109,32,116,114,117,101,32,102,97,108,115,101,32,97,110,100,32,111,114,32,110,111,116,32,105,110,116,32,98,111,111,108,32,117,110,105,116,32,109,117,116,32,98,111,120,32,117,110,98,111,120,32,99,101,108,108,32,103,101,116,32,115,101,116,32,114,99,32,97,114,99,32,99,108,111,110,101,32,109,117,116,101,120,32,111,112,101,110,32,97,116,111,109,105,99,32,108,111,97,100,32,115,116,111,114,101,32,102,101,116,99,104,32,115,101,110,100,32,114,101,99,118,32,66,111,120,32,67,101,108,108,32,82,99,32,65,114,99,32,77,117,116,101,120,32,65,116,111,109,105,99,32,83,101,110,100,101,114,32,82,101,99,101,105,118,101,114].toArray⟩
abbrev Tab(w:World):Prop:=Lib.TabIs Tryz.prog w "strings.asciiSpace" .u8 Lib.asciiSpaceTab
theorem Tab.below{w w':World}(h:Tab w)(hb:Below w.heap.size w w'):Tab w':=Lib.tabBelow_of_tabIs h w' hb
theorem zLU(w:World)(h:Tab w):Calls Tryz.prog 194 #[.string zHY] w fun e w'=>
  e= .returned (.slice (some ⟨w.heap.size,0,none⟩) 47 47)/\w'=w.alloc (.cells (zEm.map fun l=>Value.string ⟨l.toArray⟩).toArray 9):=by
 have e:Lib.fields zHY.data.toList=zEm:=by kernel_rfl
 have h1:=Tryz.strings_Fields zHY w (of_decide_eq_true (by kernel_rfl)) (fun j b hb=>by
  have h2:zHY.data.toList.all (fun b=>decide (b.toNat<128))=true:=by kernel_rfl
  exact of_decide_eq_true (List.all_eq_true.1 h2 b (List.mem_of_getElem? hb))) h
 rw[e]at h1;exact h1
theorem zII(b:Int)(w:World):Calls Tryz.prog 109 #[.int .u8 b] w fun e w'=>e= .returned (.bool (zEV b))/\w=w':=by
 have hv:zEV b=(decide (97<=b)&&decide (b<=122)):=rfl
 generalize zEV b=c at*
 go_enter func109,ntmps109
 go_wp2
 all_goals go_ret
 all_goals exact⟨by first|(simp[*];done)|(simp[*];omega),rfl⟩
theorem zIJ(b:Int)(w:World):Calls Tryz.prog 126 #[.int .u8 b] w fun e w'=>e= .returned (.bool (zEW b))/\w=w':=by
 have hv:zEW b=(decide (65<=b)&&decide (b<=90)):=rfl
 generalize zEW b=c at*
 go_enter func126,ntmps126
 go_wp2
 all_goals go_ret
 all_goals exact⟨by first|(simp[*];done)|(simp[*];omega),rfl⟩
theorem zIK(b:Int)(w:World):Calls Tryz.prog 162 #[.int .u8 b] w fun e w'=>e= .returned (.bool (zA3 b))/\w=w':=by
 have hv:zA3 b=(decide (48<=b)&&decide (b<=57)):=rfl
 generalize zA3 b=c at*
 go_enter func162,ntmps162
 go_wp2
 all_goals go_ret
 all_goals exact⟨by first|(simp[*];done)|(simp[*];omega),rfl⟩
theorem zNn(b:Int)(w:World):Calls Tryz.prog 128 #[.int .u8 b] w fun e w'=>e= .returned (.bool (zDI b))/\w=w':=by
 have hv:zDI b=(zEV b||zEW b||zA3 b||b==95):=rfl
 have H1:=Lib.hid (zII b)
 have H2:=Lib.hid (zIJ b)
 have H3:=Lib.hid (zIK b)
 generalize zDI b=c at*
 generalize zEV b=c1 at*
 generalize zEW b=c2 at*
 generalize zA3 b=c3 at*
 go_enter func128,ntmps128
 go_wp2_with (first
  |(go_at_call 109;refine(H1.out _).mono ?_;rintro e w1 ⟨rfl,rfl⟩)
  |(go_at_call 126;refine(H2.out _).mono ?_;rintro e w1 ⟨rfl,rfl⟩)
  |(go_at_call 162;refine(H3.out _).mono ?_;rintro e w1 ⟨rfl,rfl⟩))
 all_goals go_ret
 all_goals exact⟨by first|(simp[*];done)|(simp[*];omega),rfl⟩
theorem zRe(p:Int->Bool)(K:FuncId)(C:Array Value)(s:BA)(hs:s.size<=maxLen)(hK:∀args w,(callFunc K args).run Tryz.prog w= .ok (.enter K args) w)
  (hp:∀(b:Int) (w:World),Calls Tryz.prog K (#[.int .u8 b]++C) w fun e w'=>e= .returned (.bool (p b))/\w=w') (w:World):
  Calls Tryz.prog 127 #[.string s,.func (.func K) #[] C] w fun e w'=>e= .returned (.int .i64 (zAY p s.data.toList))/\w=w':=by
 unfold maxLen at hs
 have Hp:=Lib.hid hp
 clear hp
 go_enter func127,ntmps127
 go_wp2
 go_loop [5] (fun i=>∃q:Nat,q<=s.size/\i= .int .i64 q/\zI7 (fun b=>p b.toNat=true) s.data.toList q) (fun i=>s.size-(intOf i).toNat)
 case atStart=>exact⟨0,Nat.zero_le _,rfl,zI7.zero _ _⟩
 case round=>
  obtain⟨q,hq,rfl,ia⟩:=hrel
  have ca:s.data.toList.length=s.size:=by simp
  have mj:=Lib.hid ca
  clear ca
  by_cases hlt:q<s.size
  .have aa:q<s.data.toList.length:=by rw[mj.out];exact hlt
   have vg:s[q]=s.data.toList[q]:=rfl
   have Pq:=Lib.hid vg
   clear vg
   go_wp2_with fail
   refine(Hp.out _ _).mono ?_
   rintro e w1 ⟨rfl,rfl⟩
   go_wp2
   .have hn:p (s[q].toNat)=true:=by assumption
    go_round
    case rel=>exact⟨q+1,by omega,by go_num,ia.succ aa (by rw[<-Pq.out];exact hn)⟩
    case measure=>simp[intOf];omega
   have hn:p (s[q].toNat)=false:=by assumption
   go_ret
   exact⟨by rw[zIH ia (by rw[mj.out];omega) (fun h=>by rw[<-Pq.out];exact hn)];rfl,rfl⟩
  go_wp2
  go_ret
  exact⟨by rw[zIH ia (by rw[mj.out];omega) (fun h=>by rw[mj.out]at h;omega)];rfl,rfl⟩
theorem zLV:Keyed Tryz.prog 9:=string_keyed underlying9
theorem zO1(w:World):(zeroValue 3).run Tryz.prog w= .ok (.int .i64 0) w:=by kernel_rfl
theorem zMY:zEm.all (fun l=>decide (l.length<=100))=true:=by decide
def zNo(H:Type)(w:World)(B q:Nat):Prop:=
 ∃D:DataW H,w.ownsMap Tryz.prog 9 (plainElem Tryz.prog 3) B q D/\IsMap D/\∀s:List UInt8,∃c:Int,D.atKey (.string s) (.lit (.int .i64 0))= .lit (.int .i64 c)/\0<=c/\c<=1000/\(0<c ↔ s∈zEm.take q)
theorem zRf(H:Type)(w:World)(h:Tab w):
  Calls Tryz.prog 163 #[] w fun e w'=>e= .returned (.map (some w.heap.size))/\zNo H w' w.heap.size 47/\Below w.heap.size w w':=by
 have Qq:=@run_makeMap Tryz.prog
 have Hf:=Lib.hid (zLU (w.alloc (.map #[] 0)) (h.below ((Below.refl _ _).alloc (Nat.le_refl _) _)))
 clear h
 go_enter func163,ntmps163
 go_wp2_with (go_at_call 194;refine Hf.out.mono ?_;rintro e w1 ⟨rfl,rfl⟩)
 go_loopw [7] (fun i wr=>∃q:Nat,q<=47/\i= .int .i64 q/\zNo H wr w.heap.size q/\Below w.heap.size w wr/\wr.heap[w.heap.size+1]? =some (.cells (zEm.map fun l=>Value.string ⟨l.toArray⟩).toArray 9)) (fun i _=>47-(intOf i).toNat)
 case atStart=>
  refine⟨0,by omega,rfl,⟨.map [],(World.ownsMap_made _ _ _ _).alloc _,⟨_,rfl⟩,fun s=>⟨0,rfl,by omega,by omega,by simp⟩⟩,((Below.refl _ _).alloc (Nat.le_refl _) _).alloc (by simp) _,by simpa using zDh (w.alloc (.map #[] 0)) _⟩
 case round=>
  obtain⟨q,hq,rfl,⟨D,ma,nj,hat⟩,hb,ac⟩:=hrel
  have hz:w.heap.size+1<wr.heap.size:=zFw ac
  have Eo:=Lib.hid ac
  have vn:=Lib.hid hat
  have oj:=Lib.hid ma
  have Mk:=Lib.hid nj
  clear hat nj ma
  by_cases hlt:q<47
  .have Ei:q<zEm.length:=hlt
   have c0:wr.cell? ⟨w.heap.size+1,q,none⟩=some (.string ⟨(zEm[q]'Ei).toArray⟩):=by
    rw[zBt ac];simp[List.getElem?_eq_getElem Ei]
   have wa:(zEm[q]'Ei).length<=100:=of_decide_eq_true (List.all_eq_true.1 zMY _ (List.getElem_mem Ei))
   have ef:keyOf Tryz.prog 9 (.string ⟨(zEm[q]'Ei).toArray⟩)=some (.string (zEm[q]'Ei)):=keyOf_string_mk underlying9 (by show(zEm[q]'Ei).toArray.size<=maxLen;simp[maxLen];omega)
   have Nk:=Lib.hid ef
   have Ke:zEm.take (q+1)=zEm.take q++[zEm[q]'Ei]:=by rw[List.take_add_one,List.getElem?_eq_getElem Ei];rfl
   have Rq:=Lib.hid Ke
   clear ac ef Ke
   generalize zEm[q]'Ei=k at*
   go_wp2_with (at_mapUpdate;refine wpList_mapUpdate_own _ rfl _ _ _ 173 rfl 9 3 zLV underlying173 _ w.heap.size q _ rfl oj.out (by unfold maxLen;omega) _ _ _ rfl rfl Nk.out _ [] (plainElem_int underlying3 (WalkArith.wf_i64 (by omega))) ?_;intro w1 hown1 hgrow1)
   refine⟨⟨q+1,by omega,by go_num,⟨_,hown1,Mk.out.put _ _,fun s=>?_⟩,hb.grown hgrow1 hb.size (fun j hj=>by cases hj;exact Nat.le_refl _),(hgrow1.block _ hz (by simp)).trans Eo.out⟩,by simp[intOf];omega⟩
   by_cases hs:s=k
   .subst hs
    exact⟨q+1,atKey_put_same Mk.out (by simp[WideAt.IsKeyLit]) _ _,by omega,by omega,by rw[Rq.out];simp⟩
   obtain⟨c,h1,h2,h3,h4⟩:=vn.out s
   exact⟨c,(atKey_put_other (by simpa using hs) _ _).trans h1,h2,h3,by rw[Rq.out,h4];simp[hs]⟩
  obtain rfl:q=47:=by omega
  clear ac
  go_wp2
  go_ret
  exact⟨rfl,⟨D,oj.out,Mk.out,vn.out⟩,hb⟩
theorem zNp(s:BA)(hs:s.size<=maxLen)(w:World)(h:Tab w):
  Calls Tryz.prog 129 #[.string s] w fun e w'=>e= .returned (.bool (zKD s))/\Below w.heap.size w w':=by
 have ef:keyOf Tryz.prog 9 (.string s)=some (.string s.data.toList):=keyOf_string_mk underlying9 hs
 have Nk:=Lib.hid ef
 have Hw:=Lib.hid (zRf Unit w h)
 clear ef h
 go_enter func129,ntmps129
 go_wp2_with fail
 refine Hw.out.mono ?_
 rintro e w1 ⟨rfl,⟨D,ma,nj,hat⟩,hb⟩
 have oj:=Lib.hid ma
 have vn:=Lib.hid (hat s.data.toList)
 clear ma nj hat
 go_wp2_with (at_lookup;refine wpList_lookup_own_int _ rfl _ _ 173 rfl 9 3 .i64 zLV underlying173 underlying3 (zO1 _) w.heap.size 47 _ rfl oj.out _ _ rfl Nk.out ?_;intro c hat2 wl)
 go_ret
 refine⟨?_,hb⟩
 obtain⟨c',h1,h2,h3,h4⟩:=vn.out
 have hc:c=c':=by
  have:=hat2.symm.trans h1
  injection this with this
  injection this
 subst hc
 have h5:decide (0<c)=zKD s:=by
  unfold zKD;rw[List.take_of_length_le (by simp[zRd])]at h4
  simpa using h4
 rw[<-h5];rfl
end Go.Proofs.YtdflkegnmmkkoaaGreatDoor
namespace Go.Proofs.YtdflkegnmmkkoaaGreatDoor
open Go.RowKit _root_.Go.Proofs.Tryz
theorem zLW(p:Int->Bool)(K:FuncId)(C:Array Value)(s:BA)(hs:s.size<=maxLen)(hK:∀args w,(callFunc K args).run Tryz.prog w= .ok (.enter K args) w)
  (hp:∀(b:Int) (w:World),Calls Tryz.prog K (#[.int .u8 b]++C) w fun e w'=>e= .returned (.bool (p b))/\w=w') (w:World) (h:Tab w):
  Calls Tryz.prog 108 #[.string s,.func (.func K) #[] C] w fun e w'=>e= .returned (.bool (zG6 p s))/\Below w.heap.size w w':=by
 have Hr:=Lib.hid (zRe zDI 128 #[] s hs call128 (fun b w=>zNn b w) w)
 have Hw:=Lib.hid (zNp s hs w h)
 have Hp:=Lib.hid hp
 have Od:=zDt zDI s.data.toList
 have Ce:s.data.toList.length=s.size:=by simp
 rw[Ce]at Od;unfold maxLen at hs;clear hp h Ce
 by_cases h0:0<s.size
 .have hv:=Lib.hid (zO0 (p:=p) h0)
  have e0:s.toList.isEmpty=false:=by
   rw[ByteArray.toList_eq]
   cases hl:s.data.toList with
   |nil=>
    have:s.data.toList.length=0:=by rw[hl];rfl
    have h2:s.data.toList.length=s.size:=by simp
    omega
   |cons=>rfl
  have e1:¬s.toList=[]:=by intro h;rw[h]at e0;cases e0
  by_cases Sq:s.size<=16
  .generalize Tq:zAY zDI s.data.toList=R at*
   have fv:=Lib.hid Tq
   clear Tq
   go_enter func108,ntmps108
   go_wp2_with fail
   refine(Hp.out _ _).mono ?_
   rintro e w1 ⟨rfl,rfl⟩
   go_wp2_with (first
    |(go_at_call 127;refine Hr.out.mono ?_;rintro e w1 ⟨rfl,rfl⟩)
    |(go_at_call 129;refine Hw.out.mono ?_;rintro e w1 ⟨rfl,hb⟩))
   .have Ok:p (s[0].toNat)=true:=by assumption
    have Fo:(R:Int)=s.size:=by assumption
    have Uc:R=s.size:=by omega
    go_ret
    exact⟨by rw[hv.out,Ok,Uc];simp[Sq],hb⟩
   .have Ok:p (s[0].toNat)=true:=by assumption
    have Fo:¬(R:Int)=s.size:=by assumption
    have Uc:(R==s.size)=false:=by simp;omega
    go_ret
    exact⟨by rw[hv.out,Ok,Uc];simp,Below.refl _ _⟩
   have Ok:p (s[0].toNat)=false:=by simpa using(show ¬p (s[0].toNat)=true by assumption)
   go_ret
   exact⟨by rw[hv.out,Ok];simp,Below.refl _ _⟩
  go_enter func108,ntmps108
  go_wp2
  go_ret
  exact⟨by rw[hv.out];simp[Sq],Below.refl _ _⟩
 have hv:Hid (zG6 p s=false):=by show zG6 p s=false;rw[zG6,dif_neg h0]
 have e1:s.toList=[]:=by
  rw[ByteArray.toList_eq];refine List.eq_nil_of_length_eq_zero ?_
  have h2:s.data.toList.length=s.size:=by simp
  omega
 have e0:s.toList.isEmpty=true:=by rw[e1];rfl
 go_enter func108,ntmps108
 go_wp2
 go_ret
 exact⟨by rw[hv.out];rfl,Below.refl _ _⟩
theorem zUX(s:BA)(hs:s.size<=maxLen)(w:World)(h:Tab w):
  Calls Tryz.prog 105 #[.string s] w fun e w'=>e= .returned (.bool (zCU s))/\Below w.heap.size w w':=by
 have Hn:=Lib.hid (zLW zEW 126 #[] s hs call126 (fun b w=>zIJ b w) w h)
 clear h;unfold zCU
 go_enter func105,ntmps105
 go_wp2_with (go_at_call 108;refine Hn.out.mono ?_;rintro e w1 ⟨rfl,hb⟩)
 go_ret
 exact⟨rfl,hb⟩
theorem zCV{a b:BA}(h:a≠b):sEq a b=false:=by
 rw[sEq,beq_eq_false_iff_ne];exact fun h'=>h (zOd h')
theorem zDk{a b:BA}:sEq a b=true ↔ a=b:=by
 constructor
 .intro h
  rcases Classical.em (a=b)with h'|h'
  .exact h'
  rw[zCV h']at h;cases h
 rintro rfl;exact sEq_self a
theorem zCN(s:BA)(a b:Nat):(s.extract a b).data.toList=(s.data.toList.take b).drop a:=by
 rw[ByteArray.data_extract];simp[List.drop_take]
theorem zLX{a b:BA}(h:a.data.toList=b.data.toList):a=b:=by
 apply ByteArray.ext
 exact Array.ext' h
theorem zDJ(d:TypeDesc)(k:Value)(i:Nat):zAr d k [] i=some none:=rfl
theorem zl(s t:BA)(v:AV)(es:List (Value × AV))(i:Nat):zAr .string (.string s) ((.string t,v)::es) i=if sEq s t=true then some (some (i,v))else zAr .string (.string s) es (i+1):=by
 have h:Instr.sameNow .string (.string s) (.string t)=some (sEq s t):=by
  show some (s.data==t.data)=_
  congr 1
  rw[Bool.eq_iff_iff,zDk,beq_iff_eq];exact⟨fun h=>ByteArray.ext h,fun h=>by rw[h]⟩
 rw[zAr,h];cases sEq s t<;>rfl
end Go.Proofs.YtdflkegnmmkkoaaGreatDoor
