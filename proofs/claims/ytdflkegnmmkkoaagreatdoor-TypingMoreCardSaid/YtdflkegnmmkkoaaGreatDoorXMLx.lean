/- A part of the proof. -/
import Derived.Test.YtdflkegnmmkkoaaGreatDoorXMShelf
import Derived.Maps.Own
import Derived.Maps.OwnOps
import Derived.Lib.AppendIntMem
import Derived.Handy
import Derived.Test.YtdflkegnmmkkoaaGreatDoorXMLt
set_option linter.unusedVariables false
set_option linter.unusedSimpArgs false
set_option maxRecDepth 100000
set_option maxHeartbeats 32000000
namespace Go.Proofs.YtdflkegnmmkkoaaGreatDoor
open Go.RowKit _root_.Go.Proofs.Tryz
def zEo:List (List UInt8):=[[108,101,116],[105,102],[101,108,115,101],[119,104,105,108,101],[109,97,116,99,104],[115,99,111,112,101],[115,112,97,119,110],[108,111,99,107],[97,115],[99,104,97,110],[100,114,111,112],[102,110],[115,116,114,117,99,116],[101,110,117,109],[116,114,117,101],[102,97,108,115,101],[97,110,100],[111,114],[110,111,116],[105,110,116],[98,111,111,108],[117,110,105,116],[109,117,116],[98,111,120],[117,110,98,111,120],[99,101,108,108],[103,101,116],[115,101,116],[114,99],[97,114,99],[99,108,111,110,101],[109,117,116,101,120],[111,112,101,110],[97,116,111,109,105,99],[108,111,97,100],[115,116,111,114,101],[102,101,116,99,104],[115,101,110,100],[114,101,99,118],[66,111,120],[67,101,108,108],[82,99],[65,114,99],[77,117,116,101,120],[65,116,111,109,105,99],[83,101,110,100,101,114],[82,101,99,101,105,118,101,114]]
theorem zRy:zEo.length=47:=rfl
def zEW(b:Int):Bool:=decide (97<=b)&&decide (b<=122)
def zEX(b:Int):Bool:=decide (65<=b)&&decide (b<=90)
def zAy(b:Int):Bool:=decide (48<=b)&&decide (b<=57)
def zDJ(b:Int):Bool:=zEW b||zEX b||zAy b||b==95
def zAY(p:Int->Bool):List UInt8->Nat
 | []=>0
 |b::l=>if p b.toNat then zAY p l+1 else 0
theorem zIJ{p:Int->Bool}:∀{l:List UInt8} {q:Nat},zJC (fun b=>p b.toNat=true) l q->q<=l.length->(∀h:q<l.length,p (l[q].toNat)=false)->zAY p l=q
 | [],q,_,hq,_=>by simp at hq;subst hq;rfl
 |b::l,0,_,_,h=>by
  have:=h (by simp)
  simp at this
  simp[zAY,this]
 |b::l,q+1,h,hq,h'=>by
  have h0:p b.toNat=true:=h 0 (by simp) (by omega)
  rw[zAY,if_pos h0,zIJ (q:=q) (fun i hi hlt=>h (i+1) (by simpa using hi) (by omega)) (by simpa using hq) (fun hl=>h' (by simpa using hl))]
def zKN(s:BA):Bool:=decide (s.data.toList∈zEo)
def zHA(p:Int->Bool)(s:BA):Bool:=
 if h:0<s.size then decide (s.size<=16)&&(p (s[0].toNat)&&((zAY zDJ s.data.toList==s.size)&& !zKN s))else false
theorem zPE{p:Int->Bool}{s:BA}(h:0<s.size):zHA p s=(decide (s.size<=16)&&(p (s[0].toNat)&&((zAY zDJ s.data.toList==s.size)&& !zKN s))):=by rw[zHA,dif_pos h]
theorem zDt(p:Int->Bool):∀l:List UInt8,zAY p l<=l.length
 | []=>Nat.le_refl _
 |b::l=>by have:=zDt p l;simp only[zAY];split<;>simp<;>omega
def zCf(s:BA):Bool:=zHA zEX s
def zBR(s:BA):Bool:=zHA zEW s
end Go.Proofs.YtdflkegnmmkkoaaGreatDoor
namespace Go.Proofs.YtdflkegnmmkkoaaGreatDoor
open Go.RowKit Go.WideMaps Go.Maps _root_.Go.Proofs.Tryz
def zHZ:BA:=⟨[108,101,116,32,105,102,32,101,108,115,101,32,119,104,105,108,101,32,109,97,116,99,104,32,115,99,111,112,101,32,115,112,97,119,110,32,108,111,99,107,32,97,115,32,99,104,97,110,32,100,114,111,112,32,102,110,32,115,116,114,117,99,116,32,101,110,117,109,32,116,114,117,101,32,102,97,108,115,101,32,97,110,100,32,111,114,32,110,111,116,32,105,110,116,32,98,111,111,108,32,117,110,105,116,32,109,117,116,32,98,111,120,32,117,110,98,111,120,32,99,101,108,108,32,103,101,116,32,115,101,116,32,114,99,32,97,114,99,32,99,108,111,110,101,32,109,117,116,101,120,32,111,112,101,110,32,97,116,111,109,105,99,32,108,111,97,100,32,115,116,111,114,101,32,102,101,116,99,104,32,115,101,110,100,32,114,101,99,118,32,66,111,120,32,67,101,108,108,32,82,99,32,65,114,99,32,77,117,116,101,120,32,65,116,111,109,105,99,32,83,101,110,100,101,114,32,82,101,99,101,105,118,101,114].toArray⟩
abbrev Tab(w:World):Prop:=Lib.TabIs Tryz.prog w "strings.asciiSpace" .u8 Lib.asciiSpaceTab
theorem Tab.below{w w':World}(h:Tab w)(hb:Below w.heap.size w w'):Tab w':=Lib.tabBelow_of_tabIs h w' hb
theorem zLa(w:World)(h:Tab w):Calls Tryz.prog 194 #[.string zHZ] w fun e w'=>
  e= .returned (.slice (some ⟨w.heap.size,0,none⟩) 47 47)/\w'=w.alloc (.cells (zEo.map fun l=>Value.string ⟨l.toArray⟩).toArray 9):=by
 have e:Lib.fields zHZ.data.toList=zEo:=by kernel_rfl
 have h1:=Tryz.strings_Fields zHZ w (of_decide_eq_true (by kernel_rfl)) (fun j b hb=>by
  have h2:zHZ.data.toList.all (fun b=>decide (b.toNat<128))=true:=by kernel_rfl
  exact of_decide_eq_true (List.all_eq_true.1 h2 b (List.mem_of_getElem? hb))) h
 rw[e]at h1;exact h1
theorem zIK(b:Int)(w:World):Calls Tryz.prog 109 #[.int .u8 b] w fun e w'=>e= .returned (.bool (zEW b))/\w=w':=by
 have hv:zEW b=(decide (97<=b)&&decide (b<=122)):=rfl
 generalize zEW b=c at*
 go_enter func109,ntmps109
 go_wp2
 all_goals go_ret
 all_goals exact⟨by first|(simp[*];done)|(simp[*];omega),rfl⟩
theorem zIL(b:Int)(w:World):Calls Tryz.prog 126 #[.int .u8 b] w fun e w'=>e= .returned (.bool (zEX b))/\w=w':=by
 have hv:zEX b=(decide (65<=b)&&decide (b<=90)):=rfl
 generalize zEX b=c at*
 go_enter func126,ntmps126
 go_wp2
 all_goals go_ret
 all_goals exact⟨by first|(simp[*];done)|(simp[*];omega),rfl⟩
theorem zIM(b:Int)(w:World):Calls Tryz.prog 162 #[.int .u8 b] w fun e w'=>e= .returned (.bool (zAy b))/\w=w':=by
 have hv:zAy b=(decide (48<=b)&&decide (b<=57)):=rfl
 generalize zAy b=c at*
 go_enter func162,ntmps162
 go_wp2
 all_goals go_ret
 all_goals exact⟨by first|(simp[*];done)|(simp[*];omega),rfl⟩
theorem zNv(b:Int)(w:World):Calls Tryz.prog 128 #[.int .u8 b] w fun e w'=>e= .returned (.bool (zDJ b))/\w=w':=by
 have hv:zDJ b=(zEW b||zEX b||zAy b||b==95):=rfl
 have H1:=Lib.hid (zIK b)
 have H2:=Lib.hid (zIL b)
 have H3:=Lib.hid (zIM b)
 generalize zDJ b=c at*
 generalize zEW b=c1 at*
 generalize zEX b=c2 at*
 generalize zAy b=c3 at*
 go_enter func128,ntmps128
 go_wp2_with (first
  |(go_at_call 109;refine(H1.out _).mono ?_;rintro e w1 ⟨rfl,rfl⟩)
  |(go_at_call 126;refine(H2.out _).mono ?_;rintro e w1 ⟨rfl,rfl⟩)
  |(go_at_call 162;refine(H3.out _).mono ?_;rintro e w1 ⟨rfl,rfl⟩))
 all_goals go_ret
 all_goals exact⟨by first|(simp[*];done)|(simp[*];omega),rfl⟩
theorem zRz(p:Int->Bool)(K:FuncId)(C:Array Value)(s:BA)(hs:s.size<=maxLen)(hK:∀args w,(callFunc K args).run Tryz.prog w= .ok (.enter K args) w)
  (hp:∀(b:Int) (w:World),Calls Tryz.prog K (#[.int .u8 b]++C) w fun e w'=>e= .returned (.bool (p b))/\w=w') (w:World):
  Calls Tryz.prog 127 #[.string s,.func (.func K) #[] C] w fun e w'=>e= .returned (.int .i64 (zAY p s.data.toList))/\w=w':=by
 unfold maxLen at hs
 have Hp:=Lib.hid hp
 clear hp
 go_enter func127,ntmps127
 go_wp2
 go_loop [5] (fun i=>∃q:Nat,q<=s.size/\i= .int .i64 q/\zJC (fun b=>p b.toNat=true) s.data.toList q) (fun i=>s.size-(intOf i).toNat)
 case atStart=>exact⟨0,Nat.zero_le _,rfl,zJC.zero _ _⟩
 case round=>
  obtain⟨q,hq,rfl,ia⟩:=hrel
  have ca:s.data.toList.length=s.size:=by simp
  have ej:=Lib.hid ca
  clear ca
  by_cases hlt:q<s.size
  .have aa:q<s.data.toList.length:=by rw[ej.out];exact hlt
   have qg:s[q]=s.data.toList[q]:=rfl
   have Tq:=Lib.hid qg
   clear qg
   go_wp2_with fail
   refine(Hp.out _ _).mono ?_
   rintro e w1 ⟨rfl,rfl⟩
   go_wp2
   .have hn:p (s[q].toNat)=true:=by assumption
    go_round
    case rel=>exact⟨q+1,by omega,by go_num,ia.succ aa (by rw[<-Tq.out];exact hn)⟩
    case measure=>simp[intOf];omega
   have hn:p (s[q].toNat)=false:=by assumption
   go_ret
   exact⟨by rw[zIJ ia (by rw[ej.out];omega) (fun h=>by rw[<-Tq.out];exact hn)];rfl,rfl⟩
  go_wp2
  go_ret
  exact⟨by rw[zIJ ia (by rw[ej.out];omega) (fun h=>by rw[ej.out]at h;omega)];rfl,rfl⟩
theorem zLb:Keyed Tryz.prog 9:=string_keyed underlying9
theorem zPF(w:World):(zeroValue 3).run Tryz.prog w= .ok (.int .i64 0) w:=by kernel_rfl
theorem zMe:zEo.all (fun l=>decide (l.length<=100))=true:=by decide
def zNw(H:Type)(w:World)(B q:Nat):Prop:=
 ∃D:DataW H,w.ownsMap Tryz.prog 9 (plainElem Tryz.prog 3) B q D/\IsMap D/\∀s:List UInt8,∃c:Int,D.atKey (.string s) (.lit (.int .i64 0))= .lit (.int .i64 c)/\0<=c/\c<=1000/\(0<c ↔ s∈zEo.take q)
theorem zR0(H:Type)(w:World)(h:Tab w):
  Calls Tryz.prog 163 #[] w fun e w'=>e= .returned (.map (some w.heap.size))/\zNw H w' w.heap.size 47/\Below w.heap.size w w':=by
 have Uq:=@run_makeMap Tryz.prog
 have Hf:=Lib.hid (zLa (w.alloc (.map #[] 0)) (h.below ((Below.refl _ _).alloc (Nat.le_refl _) _)))
 clear h
 go_enter func163,ntmps163
 go_wp2_with (go_at_call 194;refine Hf.out.mono ?_;rintro e w1 ⟨rfl,rfl⟩)
 go_loopw [7] (fun i wr=>∃q:Nat,q<=47/\i= .int .i64 q/\zNw H wr w.heap.size q/\Below w.heap.size w wr/\wr.heap[w.heap.size+1]? =some (.cells (zEo.map fun l=>Value.string ⟨l.toArray⟩).toArray 9)) (fun i _=>47-(intOf i).toNat)
 case atStart=>
  refine⟨0,by omega,rfl,⟨.map [],(World.ownsMap_made _ _ _ _).alloc _,⟨_,rfl⟩,fun s=>⟨0,rfl,by omega,by omega,by simp⟩⟩,((Below.refl _ _).alloc (Nat.le_refl _) _).alloc (by simp) _,by simpa using zDj (w.alloc (.map #[] 0)) _⟩
 case round=>
  obtain⟨q,hq,rfl,⟨D,ra,fj,hat⟩,hb,Yb⟩:=hrel
  have hz:w.heap.size+1<wr.heap.size:=zFy Yb
  have Do:=Lib.hid Yb
  have ln:=Lib.hid hat
  have gj:=Lib.hid ra
  have Ek:=Lib.hid fj
  clear hat fj ra
  by_cases hlt:q<47
  .have Bi:q<zEo.length:=hlt
   have c0:wr.cell? ⟨w.heap.size+1,q,none⟩=some (.string ⟨(zEo[q]'Bi).toArray⟩):=by
    rw[zBw Yb];simp[List.getElem?_eq_getElem Bi]
   have xa:(zEo[q]'Bi).length<=100:=of_decide_eq_true (List.all_eq_true.1 zMe _ (List.getElem_mem Bi))
   have Ve:keyOf Tryz.prog 9 (.string ⟨(zEo[q]'Bi).toArray⟩)=some (.string (zEo[q]'Bi)):=keyOf_string_mk underlying9 (by show(zEo[q]'Bi).toArray.size<=maxLen;simp[maxLen];omega)
   have Fk:=Lib.hid Ve
   have De:zEo.take (q+1)=zEo.take q++[zEo[q]'Bi]:=by rw[List.take_add_one,List.getElem?_eq_getElem Bi];rfl
   have Vq:=Lib.hid De
   clear Yb Ve De
   generalize zEo[q]'Bi=k at*
   go_wp2_with (at_mapUpdate;refine wpList_mapUpdate_own _ rfl _ _ _ 173 rfl 9 3 zLb underlying173 _ w.heap.size q _ rfl gj.out (by unfold maxLen;omega) _ _ _ rfl rfl Fk.out _ [] (plainElem_int underlying3 (WalkArith.wf_i64 (by omega))) ?_;intro w1 hown1 hgrow1)
   refine⟨⟨q+1,by omega,by go_num,⟨_,hown1,Ek.out.put _ _,fun s=>?_⟩,hb.grown hgrow1 hb.size (fun j hj=>by cases hj;exact Nat.le_refl _),(hgrow1.block _ hz (by simp)).trans Do.out⟩,by simp[intOf];omega⟩
   by_cases hs:s=k
   .subst hs
    exact⟨q+1,atKey_put_same Ek.out (by simp[WideAt.IsKeyLit]) _ _,by omega,by omega,by rw[Vq.out];simp⟩
   obtain⟨c,h1,h2,h3,h4⟩:=ln.out s
   exact⟨c,(atKey_put_other (by simpa using hs) _ _).trans h1,h2,h3,by rw[Vq.out,h4];simp[hs]⟩
  obtain rfl:q=47:=by omega
  clear Yb
  go_wp2
  go_ret
  exact⟨rfl,⟨D,gj.out,Ek.out,ln.out⟩,hb⟩
theorem zNx(s:BA)(hs:s.size<=maxLen)(w:World)(h:Tab w):
  Calls Tryz.prog 129 #[.string s] w fun e w'=>e= .returned (.bool (zKN s))/\Below w.heap.size w w':=by
 have Ve:keyOf Tryz.prog 9 (.string s)=some (.string s.data.toList):=keyOf_string_mk underlying9 hs
 have Fk:=Lib.hid Ve
 have Hw:=Lib.hid (zR0 Unit w h)
 clear Ve h
 go_enter func129,ntmps129
 go_wp2_with fail
 refine Hw.out.mono ?_
 rintro e w1 ⟨rfl,⟨D,ra,fj,hat⟩,hb⟩
 have gj:=Lib.hid ra
 have ln:=Lib.hid (hat s.data.toList)
 clear ra fj hat
 go_wp2_with (at_lookup;refine wpList_lookup_own_int _ rfl _ _ 173 rfl 9 3 .i64 zLb underlying173 underlying3 (zPF _) w.heap.size 47 _ rfl gj.out _ _ rfl Fk.out ?_;intro c hat2 ml)
 go_ret
 refine⟨?_,hb⟩
 obtain⟨c',h1,h2,h3,h4⟩:=ln.out
 have hc:c=c':=by
  have:=hat2.symm.trans h1
  injection this with this
  injection this
 subst hc
 have h5:decide (0<c)=zKN s:=by
  unfold zKN;rw[List.take_of_length_le (by simp[zRy])]at h4
  simpa using h4
 rw[<-h5];rfl
end Go.Proofs.YtdflkegnmmkkoaaGreatDoor
namespace Go.Proofs.YtdflkegnmmkkoaaGreatDoor
open Go.RowKit _root_.Go.Proofs.Tryz
theorem zLc(p:Int->Bool)(K:FuncId)(C:Array Value)(s:BA)(hs:s.size<=maxLen)(hK:∀args w,(callFunc K args).run Tryz.prog w= .ok (.enter K args) w)
  (hp:∀(b:Int) (w:World),Calls Tryz.prog K (#[.int .u8 b]++C) w fun e w'=>e= .returned (.bool (p b))/\w=w') (w:World) (h:Tab w):
  Calls Tryz.prog 108 #[.string s,.func (.func K) #[] C] w fun e w'=>e= .returned (.bool (zHA p s))/\Below w.heap.size w w':=by
 have Hr:=Lib.hid (zRz zDJ 128 #[] s hs call128 (fun b w=>zNv b w) w)
 have Hw:=Lib.hid (zNx s hs w h)
 have Hp:=Lib.hid hp
 have Kd:=zDt zDJ s.data.toList
 have te:s.data.toList.length=s.size:=by simp
 rw[te]at Kd;unfold maxLen at hs;clear hp h te
 by_cases h0:0<s.size
 .have hv:=Lib.hid (zPE (p:=p) h0)
  have e0:s.toList.isEmpty=false:=by
   rw[ByteArray.toList_eq]
   cases hl:s.data.toList with
   |nil=>
    have:s.data.toList.length=0:=by rw[hl];rfl
    have h2:s.data.toList.length=s.size:=by simp
    omega
   |cons=>rfl
  have e1:¬s.toList=[]:=by intro h;rw[h]at e0;cases e0
  by_cases Wq:s.size<=16
  .generalize Xq:zAY zDJ s.data.toList=R at*
   have Tu:=Lib.hid Xq
   clear Xq
   go_enter func108,ntmps108
   go_wp2_with fail
   refine(Hp.out _ _).mono ?_
   rintro e w1 ⟨rfl,rfl⟩
   go_wp2_with (first
    |(go_at_call 127;refine Hr.out.mono ?_;rintro e w1 ⟨rfl,rfl⟩)
    |(go_at_call 129;refine Hw.out.mono ?_;rintro e w1 ⟨rfl,hb⟩))
   .have Gk:p (s[0].toNat)=true:=by assumption
    have mn:(R:Int)=s.size:=by assumption
    have Vc:R=s.size:=by omega
    go_ret
    exact⟨by rw[hv.out,Gk,Vc];simp[Wq],hb⟩
   .have Gk:p (s[0].toNat)=true:=by assumption
    have mn:¬(R:Int)=s.size:=by assumption
    have Vc:(R==s.size)=false:=by simp;omega
    go_ret
    exact⟨by rw[hv.out,Gk,Vc];simp,Below.refl _ _⟩
   have Gk:p (s[0].toNat)=false:=by simpa using(show ¬p (s[0].toNat)=true by assumption)
   go_ret
   exact⟨by rw[hv.out,Gk];simp,Below.refl _ _⟩
  go_enter func108,ntmps108
  go_wp2
  go_ret
  exact⟨by rw[hv.out];simp[Wq],Below.refl _ _⟩
 have hv:Hid (zHA p s=false):=by show zHA p s=false;rw[zHA,dif_neg h0]
 have e1:s.toList=[]:=by
  rw[ByteArray.toList_eq];refine List.eq_nil_of_length_eq_zero ?_
  have h2:s.data.toList.length=s.size:=by simp
  omega
 have e0:s.toList.isEmpty=true:=by rw[e1];rfl
 go_enter func108,ntmps108
 go_wp2
 go_ret
 exact⟨by rw[hv.out];rfl,Below.refl _ _⟩
theorem zVA(s:BA)(hs:s.size<=maxLen)(w:World)(h:Tab w):
  Calls Tryz.prog 105 #[.string s] w fun e w'=>e= .returned (.bool (zCf s))/\Below w.heap.size w w':=by
 have Hn:=Lib.hid (zLc zEX 126 #[] s hs call126 (fun b w=>zIL b w) w h)
 clear h;unfold zCf
 go_enter func105,ntmps105
 go_wp2_with (go_at_call 108;refine Hn.out.mono ?_;rintro e w1 ⟨rfl,hb⟩)
 go_ret
 exact⟨rfl,hb⟩
theorem zCg{a b:BA}(h:a≠b):sEq a b=false:=by
 rw[sEq,beq_eq_false_iff_ne];exact fun h'=>h (zOr h')
theorem zCR{a b:BA}:sEq a b=true ↔ a=b:=by
 constructor
 .intro h
  rcases Classical.em (a=b)with h'|h'
  .exact h'
  rw[zCg h']at h;cases h
 rintro rfl;exact sEq_self a
theorem zCV(s:BA)(a b:Nat):(s.extract a b).data.toList=(s.data.toList.take b).drop a:=by
 rw[ByteArray.data_extract];simp[List.drop_take]
theorem zLd{a b:BA}(h:a.data.toList=b.data.toList):a=b:=by
 apply ByteArray.ext
 exact Array.ext' h
theorem zDK(d:TypeDesc)(k:Value)(i:Nat):zAm d k [] i=some none:=rfl
theorem zj(s t:BA)(v:AV)(es:List (Value × AV))(i:Nat):zAm .string (.string s) ((.string t,v)::es) i=if sEq s t=true then some (some (i,v))else zAm .string (.string s) es (i+1):=by
 have h:Instr.sameNow .string (.string s) (.string t)=some (sEq s t):=by
  show some (s.data==t.data)=_
  congr 1
  rw[Bool.eq_iff_iff,zCR,beq_iff_eq];exact⟨fun h=>ByteArray.ext h,fun h=>by rw[h]⟩
 rw[zAm,h];cases sEq s t<;>rfl
end Go.Proofs.YtdflkegnmmkkoaaGreatDoor
