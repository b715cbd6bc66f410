/- A part of the proof. -/
import Derived.Test.YtgpajpilkapciaaGreatDoorXMShelf
import Derived.Maps.Own
import Derived.Maps.OwnOps
import Derived.Lib.AppendIntMem
import Derived.Handy
import Derived.Test.YtgpajpilkapciaaGreatDoorXMLt
set_option linter.unusedVariables false
set_option linter.unusedSimpArgs false
set_option maxRecDepth 100000
set_option maxHeartbeats 32000000
namespace Go.Proofs.YtgpajpilkapciaaGreatDoor
open Go.RowKit _root_.Go.Proofs.Tryz
def zEN:List (List UInt8):=[[108,101,116],[105,102],[101,108,115,101],[119,104,105,108,101],[109,97,116,99,104],[115,99,111,112,101],[115,112,97,119,110],[108,111,99,107],[97,115],[99,104,97,110],[100,114,111,112],[102,110],[115,116,114,117,99,116],[101,110,117,109],[116,114,117,101],[102,97,108,115,101],[97,110,100],[111,114],[110,111,116],[105,110,116],[98,111,111,108],[117,110,105,116],[109,117,116],[98,111,120],[117,110,98,111,120],[99,101,108,108],[103,101,116],[115,101,116],[114,99],[97,114,99],[99,108,111,110,101],[109,117,116,101,120],[111,112,101,110],[97,116,111,109,105,99],[108,111,97,100],[115,116,111,114,101],[102,101,116,99,104],[115,101,110,100],[114,101,99,118],[66,111,120],[67,101,108,108],[82,99],[65,114,99],[77,117,116,101,120],[65,116,111,109,105,99],[83,101,110,100,101,114],[82,101,99,101,105,118,101,114]]
theorem zQV:zEN.length=47:=rfl
def zGg(b:Int):Bool:=decide (97<=b)&&decide (b<=122)
def zGh(b:Int):Bool:=decide (65<=b)&&decide (b<=90)
def zIq(b:Int):Bool:=decide (48<=b)&&decide (b<=57)
def zKl(b:Int):Bool:=zGg b||zGh b||zIq b||b==95
def zE3(p:Int->Bool):List UInt8->Nat
 | []=>0
 |b::l=>if p b.toNat then zE3 p l+1 else 0
theorem zHl{p:Int->Bool}:∀{l:List UInt8} {q:Nat},zIN (fun b=>p b.toNat=true) l q->q<=l.length->(∀h:q<l.length,p (l[q].toNat)=false)->zE3 p l=q
 | [],q,_,hq,_=>by simp at hq;subst hq;rfl
 |b::l,0,_,_,h=>by
  have:=h (by simp)
  simp at this
  simp[zE3,this]
 |b::l,q+1,h,hq,h'=>by
  have h0:p b.toNat=true:=h 0 (by simp) (by omega)
  rw[zE3,if_pos h0,zHl (q:=q) (fun i hi hlt=>h (i+1) (by simpa using hi) (by omega)) (by simpa using hq) (fun hl=>h' (by simpa using hl))]
def zQW(s:BA):Bool:=decide (s.data.toList∈zEN)
def zGi(p:Int->Bool)(s:BA):Bool:=
 if h:0<s.size then decide (s.size<=16)&&(p (s[0].toNat)&&((zE3 zKl s.data.toList==s.size)&& !zQW s))else false
theorem zOO{p:Int->Bool}{s:BA}(h:0<s.size):zGi p s=(decide (s.size<=16)&&(p (s[0].toNat)&&((zE3 zKl s.data.toList==s.size)&& !zQW s))):=by rw[zGi,dif_pos h]
theorem zKm(p:Int->Bool):∀l:List UInt8,zE3 p l<=l.length
 | []=>Nat.le_refl _
 |b::l=>by have:=zKm p l;simp only[zE3];split<;>simp<;>omega
def zCg(s:BA):Bool:=zGi zGh s
def zBO(s:BA):Bool:=zGi zGg s
end Go.Proofs.YtgpajpilkapciaaGreatDoor
namespace Go.Proofs.YtgpajpilkapciaaGreatDoor
open Go.RowKit Go.WideMaps Go.Maps _root_.Go.Proofs.Tryz
def zG1:BA:=⟨[108,101,116,32,105,102,32,101,108,115,101,32,119,104,105,108,101,32,109,97,116,99,104,32,115,99,111,112,101,32,115,112,97,119,110,32,108,111,99,107,32,97,115,32,99,104,97,110,32,100,114,111,112,32,102,110,32,115,116,114,117,99,116,32,101,110,117,109,32,116,114,117,101,32,102,97,108,115,101,32,97,110,100,32,111,114,32,110,111,116,32,105,110,116,32,98,111,111,108,32,117,110,105,116,32,109,117,116,32,98,111,120,32,117,110,98,111,120,32,99,101,108,108,32,103,101,116,32,115,101,116,32,114,99,32,97,114,99,32,99,108,111,110,101,32,109,117,116,101,120,32,111,112,101,110,32,97,116,111,109,105,99,32,108,111,97,100,32,115,116,111,114,101,32,102,101,116,99,104,32,115,101,110,100,32,114,101,99,118,32,66,111,120,32,67,101,108,108,32,82,99,32,65,114,99,32,77,117,116,101,120,32,65,116,111,109,105,99,32,83,101,110,100,101,114,32,82,101,99,101,105,118,101,114].toArray⟩
abbrev Tab(w:World):Prop:=Lib.TabIs Tryz.prog w "strings.asciiSpace" .u8 Lib.asciiSpaceTab
theorem Tab.below{w w':World}(h:Tab w)(hb:Below w.heap.size w w'):Tab w':=Lib.tabBelow_of_tabIs h w' hb
theorem zKn(w:World)(h:Tab w):Calls Tryz.prog 168 #[.string zG1] w fun e w'=>
  e= .returned (.slice (some ⟨w.heap.size,0,none⟩) 47 47)/\w'=w.alloc (.cells (zEN.map fun l=>Value.string ⟨l.toArray⟩).toArray 9):=by
 have e:Lib.fields zG1.data.toList=zEN:=by kernel_rfl
 have h1:=Tryz.strings_Fields zG1 w (of_decide_eq_true (by kernel_rfl)) (fun j b hb=>by
  have h2:zG1.data.toList.all (fun b=>decide (b.toNat<128))=true:=by kernel_rfl
  exact of_decide_eq_true (List.all_eq_true.1 h2 b (List.mem_of_getElem? hb))) h
 rw[e]at h1;exact h1
theorem zKo(b:Int)(w:World):Calls Tryz.prog 118 #[.int .u8 b] w fun e w'=>e= .returned (.bool (zGg b))/\w=w':=by
 have hv:zGg b=(decide (97<=b)&&decide (b<=122)):=rfl
 generalize zGg b=c at*
 go_enter func118,ntmps118
 go_wp2
 all_goals go_ret
 all_goals exact⟨by first|(simp[*];done)|(simp[*];omega),rfl⟩
theorem zKp(b:Int)(w:World):Calls Tryz.prog 117 #[.int .u8 b] w fun e w'=>e= .returned (.bool (zGh b))/\w=w':=by
 have hv:zGh b=(decide (65<=b)&&decide (b<=90)):=rfl
 generalize zGh b=c at*
 go_enter func117,ntmps117
 go_wp2
 all_goals go_ret
 all_goals exact⟨by first|(simp[*];done)|(simp[*];omega),rfl⟩
theorem zQX(b:Int)(w:World):Calls Tryz.prog 165 #[.int .u8 b] w fun e w'=>e= .returned (.bool (zIq b))/\w=w':=by
 have hv:zIq b=(decide (48<=b)&&decide (b<=57)):=rfl
 generalize zIq b=c at*
 go_enter func165,ntmps165
 go_wp2
 all_goals go_ret
 all_goals exact⟨by first|(simp[*];done)|(simp[*];omega),rfl⟩
theorem zTh(b:Int)(w:World):Calls Tryz.prog 145 #[.int .u8 b] w fun e w'=>e= .returned (.bool (zKl b))/\w=w':=by
 have hv:zKl b=(zGg b||zGh b||zIq b||b==95):=rfl
 have H1:=Lib.hid (zKo b)
 have H2:=Lib.hid (zKp b)
 have H3:=Lib.hid (zQX b)
 generalize zKl b=c at*
 generalize zGg b=c1 at*
 generalize zGh b=c2 at*
 generalize zIq b=c3 at*
 go_enter func145,ntmps145
 go_wp2_with (first
  |(go_at_call 118;refine(H1.out _).mono ?_;rintro e w1 ⟨rfl,rfl⟩)
  |(go_at_call 117;refine(H2.out _).mono ?_;rintro e w1 ⟨rfl,rfl⟩)
  |(go_at_call 165;refine(H3.out _).mono ?_;rintro e w1 ⟨rfl,rfl⟩))
 all_goals go_ret
 all_goals exact⟨by first|(simp[*];done)|(simp[*];omega),rfl⟩
theorem zWY(p:Int->Bool)(K:FuncId)(C:Array Value)(s:BA)(hs:s.size<=maxLen)(hK:∀args w,(callFunc K args).run Tryz.prog w= .ok (.enter K args) w)
  (hp:∀(b:Int) (w:World),Calls Tryz.prog K (#[.int .u8 b]++C) w fun e w'=>e= .returned (.bool (p b))/\w=w') (w:World):
  Calls Tryz.prog 144 #[.string s,.func (.func K) #[] C] w fun e w'=>e= .returned (.int .i64 (zE3 p s.data.toList))/\w=w':=by
 unfold maxLen at hs
 have Hp:=Lib.hid hp
 clear hp
 go_enter func144,ntmps144
 go_wp2
 go_loop [5] (fun i=>∃q:Nat,q<=s.size/\i= .int .i64 q/\zIN (fun b=>p b.toNat=true) s.data.toList q) (fun i=>s.size-(intOf i).toNat)
 case atStart=>exact⟨0,Nat.zero_le _,rfl,zIN.zero _ _⟩
 case round=>
  obtain⟨q,hq,rfl,ja⟩:=hrel
  have ca:s.data.toList.length=s.size:=by simp
  have Vi:=Lib.hid ca
  clear ca
  by_cases hlt:q<s.size
  .have aa:q<s.data.toList.length:=by rw[Vi.out];exact hlt
   have Rg:s[q]=s.data.toList[q]:=rfl
   have Fq:=Lib.hid Rg
   clear Rg
   go_wp2_with fail
   refine(Hp.out _ _).mono ?_
   rintro e w1 ⟨rfl,rfl⟩
   go_wp2
   .have hn:p (s[q].toNat)=true:=by assumption
    go_round
    case rel=>exact⟨q+1,by omega,by go_num,ja.succ aa (by rw[<-Fq.out];exact hn)⟩
    case measure=>simp[intOf];omega
   have hn:p (s[q].toNat)=false:=by assumption
   go_ret
   exact⟨by rw[zHl ja (by rw[Vi.out];omega) (fun h=>by rw[<-Fq.out];exact hn)];rfl,rfl⟩
  go_wp2
  go_ret
  exact⟨by rw[zHl ja (by rw[Vi.out];omega) (fun h=>by rw[Vi.out]at h;omega)];rfl,rfl⟩
theorem zKq:Keyed Tryz.prog 9:=string_keyed underlying9
theorem zOP(w:World):(zeroValue 3).run Tryz.prog w= .ok (.int .i64 0) w:=by kernel_rfl
theorem zL0:zEN.all (fun l=>decide (l.length<=100))=true:=by decide
def zM8(H:Type)(w:World)(B q:Nat):Prop:=
 ∃D:DataW H,w.ownsMap Tryz.prog 9 (plainElem Tryz.prog 3) B q D/\IsMap D/\∀s:List UInt8,∃c:Int,D.atKey (.string s) (.lit (.int .i64 0))= .lit (.int .i64 c)/\0<=c/\c<=1000/\(0<c ↔ s∈zEN.take q)
theorem zQY(H:Type)(w:World)(h:Tab w):
  Calls Tryz.prog 166 #[] w fun e w'=>e= .returned (.map (some w.heap.size))/\zM8 H w' w.heap.size 47/\Below w.heap.size w w':=by
 have sk:=@run_makeMap Tryz.prog
 have Hf:=Lib.hid (zKn (w.alloc (.map #[] 0)) (h.below ((Below.refl _ _).alloc (Nat.le_refl _) _)))
 clear h
 go_enter func166,ntmps166
 go_wp2_with (go_at_call 168;refine Hf.out.mono ?_;rintro e w1 ⟨rfl,rfl⟩)
 go_loopw [7] (fun i wr=>∃q:Nat,q<=47/\i= .int .i64 q/\zM8 H wr w.heap.size q/\Below w.heap.size w wr/\wr.heap[w.heap.size+1]? =some (.cells (zEN.map fun l=>Value.string ⟨l.toArray⟩).toArray 9)) (fun i _=>47-(intOf i).toNat)
 case atStart=>
  refine⟨0,by omega,rfl,⟨.map [],(World.ownsMap_made _ _ _ _).alloc _,⟨_,rfl⟩,fun s=>⟨0,rfl,by omega,by omega,by simp⟩⟩,((Below.refl _ _).alloc (Nat.le_refl _) _).alloc (by simp) _,by simpa using zDL (w.alloc (.map #[] 0)) _⟩
 case round=>
  obtain⟨q,hq,rfl,⟨D,oa,Wi,hat⟩,hb,Rb⟩:=hrel
  have hz:w.heap.size+1<wr.heap.size:=zFU Rb
  have so:=Lib.hid Rb
  have an:=Lib.hid hat
  have Xi:=Lib.hid oa
  have tk:=Lib.hid Wi
  clear hat Wi oa
  by_cases hlt:q<47
  .have li:q<zEN.length:=hlt
   have c0:wr.cell? ⟨w.heap.size+1,q,none⟩=some (.string ⟨(zEN[q]'li).toArray⟩):=by
    rw[zBS Rb];simp[List.getElem?_eq_getElem li]
   have ka:(zEN[q]'li).length<=100:=of_decide_eq_true (List.all_eq_true.1 zL0 _ (List.getElem_mem li))
   have Ue:keyOf Tryz.prog 9 (.string ⟨(zEN[q]'li).toArray⟩)=some (.string (zEN[q]'li)):=keyOf_string_mk underlying9 (by show(zEN[q]'li).toArray.size<=maxLen;simp[maxLen];omega)
   have uk:=Lib.hid Ue
   have Ye:zEN.take (q+1)=zEN.take q++[zEN[q]'li]:=by rw[List.take_add_one,List.getElem?_eq_getElem li];rfl
   have Gq:=Lib.hid Ye
   clear Rb Ue Ye
   generalize zEN[q]'li=k at*
   go_wp2_with (at_mapUpdate;refine wpList_mapUpdate_own _ rfl _ _ _ 123 rfl 9 3 zKq underlying123 _ w.heap.size q _ rfl Xi.out (by unfold maxLen;omega) _ _ _ rfl rfl uk.out _ [] (plainElem_int underlying3 (WalkArith.wf_i64 (by omega))) ?_;intro w1 hown1 hgrow1)
   refine⟨⟨q+1,by omega,by go_num,⟨_,hown1,tk.out.put _ _,fun s=>?_⟩,hb.grown hgrow1 hb.size (fun j hj=>by cases hj;exact Nat.le_refl _),(hgrow1.block _ hz (by simp)).trans so.out⟩,by simp[intOf];omega⟩
   by_cases hs:s=k
   .subst hs
    exact⟨q+1,atKey_put_same tk.out (by simp[WideAt.IsKeyLit]) _ _,by omega,by omega,by rw[Gq.out];simp⟩
   obtain⟨c,h1,h2,h3,h4⟩:=an.out s
   exact⟨c,(atKey_put_other (by simpa using hs) _ _).trans h1,h2,h3,by rw[Gq.out,h4];simp[hs]⟩
  obtain rfl:q=47:=by omega
  clear Rb
  go_wp2
  go_ret
  exact⟨rfl,⟨D,Xi.out,tk.out,an.out⟩,hb⟩
theorem zTi(s:BA)(hs:s.size<=maxLen)(w:World)(h:Tab w):
  Calls Tryz.prog 146 #[.string s] w fun e w'=>e= .returned (.bool (zQW s))/\Below w.heap.size w w':=by
 have Ue:keyOf Tryz.prog 9 (.string s)=some (.string s.data.toList):=keyOf_string_mk underlying9 hs
 have uk:=Lib.hid Ue
 have Hw:=Lib.hid (zQY Unit w h)
 clear Ue h
 go_enter func146,ntmps146
 go_wp2_with fail
 refine Hw.out.mono ?_
 rintro e w1 ⟨rfl,⟨D,oa,Wi,hat⟩,hb⟩
 have Xi:=Lib.hid oa
 have an:=Lib.hid (hat s.data.toList)
 clear oa Wi hat
 go_wp2_with (at_lookup;refine wpList_lookup_own_int _ rfl _ _ 123 rfl 9 3 .i64 zKq underlying123 underlying3 (zOP _) w.heap.size 47 _ rfl Xi.out _ _ rfl uk.out ?_;intro c hat2 dl)
 go_ret
 refine⟨?_,hb⟩
 obtain⟨c',h1,h2,h3,h4⟩:=an.out
 have hc:c=c':=by
  have:=hat2.symm.trans h1
  injection this with this
  injection this
 subst hc
 have h5:decide (0<c)=zQW s:=by
  unfold zQW;rw[List.take_of_length_le (by simp[zQV])]at h4
  simpa using h4
 rw[<-h5];rfl
end Go.Proofs.YtgpajpilkapciaaGreatDoor
namespace Go.Proofs.YtgpajpilkapciaaGreatDoor
open Go.RowKit _root_.Go.Proofs.Tryz
theorem zKr(p:Int->Bool)(K:FuncId)(C:Array Value)(s:BA)(hs:s.size<=maxLen)(hK:∀args w,(callFunc K args).run Tryz.prog w= .ok (.enter K args) w)
  (hp:∀(b:Int) (w:World),Calls Tryz.prog K (#[.int .u8 b]++C) w fun e w'=>e= .returned (.bool (p b))/\w=w') (w:World) (h:Tab w):
  Calls Tryz.prog 116 #[.string s,.func (.func K) #[] C] w fun e w'=>e= .returned (.bool (zGi p s))/\Below w.heap.size w w':=by
 have Hr:=Lib.hid (zWY zKl 145 #[] s hs call145 (fun b w=>zTh b w) w)
 have Hw:=Lib.hid (zTi s hs w h)
 have Hp:=Lib.hid hp
 have Qd:=zKm zKl s.data.toList
 have xe:s.data.toList.length=s.size:=by simp
 rw[xe]at Qd;unfold maxLen at hs;clear hp h xe
 by_cases h0:0<s.size
 .have hv:=Lib.hid (zOO (p:=p) h0)
  have e0:s.toList.isEmpty=false:=by
   rw[ByteArray.toList_eq]
   cases hl:s.data.toList with
   |nil=>
    have:s.data.toList.length=0:=by rw[hl];rfl
    have h2:s.data.toList.length=s.size:=by simp
    omega
   |cons=>rfl
  have e1:¬s.toList=[]:=by intro h;rw[h]at e0;cases e0
  by_cases Hq:s.size<=16
  .generalize Iq:zE3 zKl s.data.toList=R at*
   have jv:=Lib.hid Iq
   clear Iq
   go_enter func116,ntmps116
   go_wp2_with fail
   refine(Hp.out _ _).mono ?_
   rintro e w1 ⟨rfl,rfl⟩
   go_wp2_with (first
    |(go_at_call 144;refine Hr.out.mono ?_;rintro e w1 ⟨rfl,rfl⟩)
    |(go_at_call 146;refine Hw.out.mono ?_;rintro e w1 ⟨rfl,hb⟩))
   .have Ej:p (s[0].toNat)=true:=by assumption
    have gl:(R:Int)=s.size:=by assumption
    have Oc:R=s.size:=by omega
    go_ret
    exact⟨by rw[hv.out,Ej,Oc];simp[Hq],hb⟩
   .have Ej:p (s[0].toNat)=true:=by assumption
    have gl:¬(R:Int)=s.size:=by assumption
    have Oc:(R==s.size)=false:=by simp;omega
    go_ret
    exact⟨by rw[hv.out,Ej,Oc];simp,Below.refl _ _⟩
   have Ej:p (s[0].toNat)=false:=by simpa using(show ¬p (s[0].toNat)=true by assumption)
   go_ret
   exact⟨by rw[hv.out,Ej];simp,Below.refl _ _⟩
  go_enter func116,ntmps116
  go_wp2
  go_ret
  exact⟨by rw[hv.out];simp[Hq],Below.refl _ _⟩
 have hv:Hid (zGi p s=false):=by show zGi p s=false;rw[zGi,dif_neg h0]
 have e1:s.toList=[]:=by
  rw[ByteArray.toList_eq];refine List.eq_nil_of_length_eq_zero ?_
  have h2:s.data.toList.length=s.size:=by simp
  omega
 have e0:s.toList.isEmpty=true:=by rw[e1];rfl
 go_enter func116,ntmps116
 go_wp2
 go_ret
 exact⟨by rw[hv.out];rfl,Below.refl _ _⟩
theorem zTj(s:BA)(hs:s.size<=maxLen)(w:World)(h:Tab w):
  Calls Tryz.prog 83 #[.string s] w fun e w'=>e= .returned (.bool (zCg s))/\Below w.heap.size w w':=by
 have Hn:=Lib.hid (zKr zGh 117 #[] s hs call117 (fun b w=>zKp b w) w h)
 clear h;unfold zCg
 go_enter func83,ntmps83
 go_wp2_with (go_at_call 116;refine Hn.out.mono ?_;rintro e w1 ⟨rfl,hb⟩)
 go_ret
 exact⟨rfl,hb⟩
theorem zDW{a b:BA}(h:a≠b):sEq a b=false:=by
 rw[sEq,beq_eq_false_iff_ne];exact fun h'=>h (zN2 h')
theorem zB3{a b:BA}:sEq a b=true ↔ a=b:=by
 constructor
 .intro h
  rcases Classical.em (a=b)with h'|h'
  .exact h'
  rw[zDW h']at h;cases h
 rintro rfl;exact sEq_self a
theorem zDr(s t:BA)(v:AV)(es:List (Value × AV))(i:Nat):zA0 .string (.string s) ((.string t,v)::es) i=if sEq s t=true then some (some (i,v))else zA0 .string (.string s) es (i+1):=by
 have h:Instr.sameNow .string (.string s) (.string t)=some (sEq s t):=by
  show some (s.data==t.data)=_
  congr 1
  rw[Bool.eq_iff_iff,zB3,beq_iff_eq];exact⟨fun h=>ByteArray.ext h,fun h=>by rw[h]⟩
 rw[zA0,h];cases sEq s t<;>rfl
end Go.Proofs.YtgpajpilkapciaaGreatDoor
