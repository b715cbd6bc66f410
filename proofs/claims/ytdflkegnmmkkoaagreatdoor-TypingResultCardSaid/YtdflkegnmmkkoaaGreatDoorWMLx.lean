/- A part of the proof. -/
import Derived.Test.YtdflkegnmmkkoaaGreatDoorWMShelf
import Derived.Maps.Own
import Derived.Maps.OwnOps
import Derived.Lib.AppendIntMem
import Derived.Handy
import Derived.Test.YtdflkegnmmkkoaaGreatDoorWMLt
set_option linter.unusedVariables false
set_option linter.unusedSimpArgs false
set_option maxRecDepth 100000
set_option maxHeartbeats 32000000
namespace Go.Proofs.YtdflkegnmmkkoaaGreatDoor
open Go.RowKit _root_.Go.Proofs.Tryz
def zEa:List (List UInt8):=[[108,101,116],[105,102],[101,108,115,101],[119,104,105,108,101],[109,97,116,99,104],[115,99,111,112,101],[115,112,97,119,110],[108,111,99,107],[97,115],[99,104,97,110],[100,114,111,112],[102,110],[115,116,114,117,99,116],[101,110,117,109],[116,114,117,101],[102,97,108,115,101],[97,110,100],[111,114],[110,111,116],[105,110,116],[98,111,111,108],[117,110,105,116],[109,117,116],[98,111,120],[117,110,98,111,120],[99,101,108,108],[103,101,116],[115,101,116],[114,99],[97,114,99],[99,108,111,110,101],[109,117,116,101,120],[111,112,101,110],[97,116,111,109,105,99],[108,111,97,100],[115,116,111,114,101],[102,101,116,99,104],[115,101,110,100],[114,101,99,118],[66,111,120],[67,101,108,108],[82,99],[65,114,99],[77,117,116,101,120],[65,116,111,109,105,99],[83,101,110,100,101,114],[82,101,99,101,105,118,101,114]]
theorem zRh:zEa.length=47:=rfl
def zEJ(b:Int):Bool:=decide (97<=b)&&decide (b<=122)
def zEK(b:Int):Bool:=decide (65<=b)&&decide (b<=90)
def zAx(b:Int):Bool:=decide (48<=b)&&decide (b<=57)
def zDB(b:Int):Bool:=zEJ b||zEK b||zAx b||b==95
def zAW(p:Int->Bool):List UInt8->Nat
 | []=>0
 |b::l=>if p b.toNat then zAW p l+1 else 0
theorem zHx{p:Int->Bool}:∀{l:List UInt8} {q:Nat},zIn (fun b=>p b.toNat=true) l q->q<=l.length->(∀h:q<l.length,p (l[q].toNat)=false)->zAW p l=q
 | [],q,_,hq,_=>by simp at hq;subst hq;rfl
 |b::l,0,_,_,h=>by
  have:=h (by simp)
  simp at this
  simp[zAW,this]
 |b::l,q+1,h,hq,h'=>by
  have h0:p b.toNat=true:=h 0 (by simp) (by omega)
  rw[zAW,if_pos h0,zHx (q:=q) (fun i hi hlt=>h (i+1) (by simpa using hi) (by omega)) (by simpa using hq) (fun hl=>h' (by simpa using hl))]
def zJ3(s:BA):Bool:=decide (s.data.toList∈zEa)
def zGr(p:Int->Bool)(s:BA):Bool:=
 if h:0<s.size then decide (s.size<=16)&&(p (s[0].toNat)&&((zAW zDB s.data.toList==s.size)&& !zJ3 s))else false
theorem zO0{p:Int->Bool}{s:BA}(h:0<s.size):zGr p s=(decide (s.size<=16)&&(p (s[0].toNat)&&((zAW zDB s.data.toList==s.size)&& !zJ3 s))):=by rw[zGr,dif_pos h]
theorem zDi(p:Int->Bool):∀l:List UInt8,zAW p l<=l.length
 | []=>Nat.le_refl _
 |b::l=>by have:=zDi p l;simp only[zAW];split<;>simp<;>omega
def zCW(s:BA):Bool:=zGr zEK s
def zBO(s:BA):Bool:=zGr zEJ s
end Go.Proofs.YtdflkegnmmkkoaaGreatDoor
namespace Go.Proofs.YtdflkegnmmkkoaaGreatDoor
open Go.RowKit Go.WideMaps Go.Maps _root_.Go.Proofs.Tryz
def zHC:BA:=⟨[108,101,116,32,105,102,32,101,108,115,101,32,119,104,105,108,101,32,109,97,116,99,104,32,115,99,111,112,101,32,115,112,97,119,110,32,108,111,99,107,32,97,115,32,99,104,97,110,32,100,114,111,112,32,102,110,32,115,116,114,117,99,116,32,101,110,117,109,32,116,114,117,101,32,102,97,108,115,101,32,97,110,100,32,111,114,32,110,111,116,32,105,110,116,32,98,111,111,108,32,117,110,105,116,32,109,117,116,32,98,111,120,32,117,110,98,111,120,32,99,101,108,108,32,103,101,116,32,115,101,116,32,114,99,32,97,114,99,32,99,108,111,110,101,32,109,117,116,101,120,32,111,112,101,110,32,97,116,111,109,105,99,32,108,111,97,100,32,115,116,111,114,101,32,102,101,116,99,104,32,115,101,110,100,32,114,101,99,118,32,66,111,120,32,67,101,108,108,32,82,99,32,65,114,99,32,77,117,116,101,120,32,65,116,111,109,105,99,32,83,101,110,100,101,114,32,82,101,99,101,105,118,101,114].toArray⟩
abbrev Tab(w:World):Prop:=Lib.TabIs Tryz.prog w "strings.asciiSpace" .u8 Lib.asciiSpaceTab
theorem Tab.below{w w':World}(h:Tab w)(hb:Below w.heap.size w w'):Tab w':=Lib.tabBelow_of_tabIs h w' hb
theorem zLL(w:World)(h:Tab w):Calls Tryz.prog 194 #[.string zHC] w fun e w'=>
  e= .returned (.slice (some ⟨w.heap.size,0,none⟩) 47 47)/\w'=w.alloc (.cells (zEa.map fun l=>Value.string ⟨l.toArray⟩).toArray 9):=by
 have e:Lib.fields zHC.data.toList=zEa:=by kernel_rfl
 have h1:=Tryz.strings_Fields zHC w (of_decide_eq_true (by kernel_rfl)) (fun j b hb=>by
  have h2:zHC.data.toList.all (fun b=>decide (b.toNat<128))=true:=by kernel_rfl
  exact of_decide_eq_true (List.all_eq_true.1 h2 b (List.mem_of_getElem? hb))) h
 rw[e]at h1;exact h1
theorem zHy(b:Int)(w:World):Calls Tryz.prog 109 #[.int .u8 b] w fun e w'=>e= .returned (.bool (zEJ b))/\w=w':=by
 have hv:zEJ b=(decide (97<=b)&&decide (b<=122)):=rfl
 generalize zEJ b=c at*
 go_enter func109,ntmps109
 go_wp2
 all_goals go_ret
 all_goals exact⟨by first|(simp[*];done)|(simp[*];omega),rfl⟩
theorem zHz(b:Int)(w:World):Calls Tryz.prog 126 #[.int .u8 b] w fun e w'=>e= .returned (.bool (zEK b))/\w=w':=by
 have hv:zEK b=(decide (65<=b)&&decide (b<=90)):=rfl
 generalize zEK b=c at*
 go_enter func126,ntmps126
 go_wp2
 all_goals go_ret
 all_goals exact⟨by first|(simp[*];done)|(simp[*];omega),rfl⟩
theorem zH0(b:Int)(w:World):Calls Tryz.prog 162 #[.int .u8 b] w fun e w'=>e= .returned (.bool (zAx b))/\w=w':=by
 have hv:zAx b=(decide (48<=b)&&decide (b<=57)):=rfl
 generalize zAx b=c at*
 go_enter func162,ntmps162
 go_wp2
 all_goals go_ret
 all_goals exact⟨by first|(simp[*];done)|(simp[*];omega),rfl⟩
theorem zNk(b:Int)(w:World):Calls Tryz.prog 128 #[.int .u8 b] w fun e w'=>e= .returned (.bool (zDB b))/\w=w':=by
 have hv:zDB b=(zEJ b||zEK b||zAx b||b==95):=rfl
 have H1:=Lib.hid (zHy b)
 have H2:=Lib.hid (zHz b)
 have H3:=Lib.hid (zH0 b)
 generalize zDB b=c at*
 generalize zEJ b=c1 at*
 generalize zEK b=c2 at*
 generalize zAx b=c3 at*
 go_enter func128,ntmps128
 go_wp2_with (first
  |(go_at_call 109;refine(H1.out _).mono ?_;rintro e w1 ⟨rfl,rfl⟩)
  |(go_at_call 126;refine(H2.out _).mono ?_;rintro e w1 ⟨rfl,rfl⟩)
  |(go_at_call 162;refine(H3.out _).mono ?_;rintro e w1 ⟨rfl,rfl⟩))
 all_goals go_ret
 all_goals exact⟨by first|(simp[*];done)|(simp[*];omega),rfl⟩
theorem zRi(p:Int->Bool)(K:FuncId)(C:Array Value)(s:BA)(hs:s.size<=maxLen)(hK:∀args w,(callFunc K args).run Tryz.prog w= .ok (.enter K args) w)
  (hp:∀(b:Int) (w:World),Calls Tryz.prog K (#[.int .u8 b]++C) w fun e w'=>e= .returned (.bool (p b))/\w=w') (w:World):
  Calls Tryz.prog 127 #[.string s,.func (.func K) #[] C] w fun e w'=>e= .returned (.int .i64 (zAW p s.data.toList))/\w=w':=by
 unfold maxLen at hs
 have Hp:=Lib.hid hp
 clear hp
 go_enter func127,ntmps127
 go_wp2
 go_loop [5] (fun i=>∃q:Nat,q<=s.size/\i= .int .i64 q/\zIn (fun b=>p b.toNat=true) s.data.toList q) (fun i=>s.size-(intOf i).toNat)
 case atStart=>exact⟨0,Nat.zero_le _,rfl,zIn.zero _ _⟩
 case round=>
  obtain⟨q,hq,rfl,ia⟩:=hrel
  have ca:s.data.toList.length=s.size:=by simp
  have dj:=Lib.hid ca
  clear ca
  by_cases hlt:q<s.size
  .have aa:q<s.data.toList.length:=by rw[dj.out];exact hlt
   have tg:s[q]=s.data.toList[q]:=rfl
   have Vq:=Lib.hid tg
   clear tg
   go_wp2_with fail
   refine(Hp.out _ _).mono ?_
   rintro e w1 ⟨rfl,rfl⟩
   go_wp2
   .have hn:p (s[q].toNat)=true:=by assumption
    go_round
    case rel=>exact⟨q+1,by omega,by go_num,ia.succ aa (by rw[<-Vq.out];exact hn)⟩
    case measure=>simp[intOf];omega
   have hn:p (s[q].toNat)=false:=by assumption
   go_ret
   exact⟨by rw[zHx ia (by rw[dj.out];omega) (fun h=>by rw[<-Vq.out];exact hn)];rfl,rfl⟩
  go_wp2
  go_ret
  exact⟨by rw[zHx ia (by rw[dj.out];omega) (fun h=>by rw[dj.out]at h;omega)];rfl,rfl⟩
theorem zLM:Keyed Tryz.prog 9:=string_keyed underlying9
theorem zO1(w:World):(zeroValue 3).run Tryz.prog w= .ok (.int .i64 0) w:=by kernel_rfl
theorem zMS:zEa.all (fun l=>decide (l.length<=100))=true:=by decide
def zNl(H:Type)(w:World)(B q:Nat):Prop:=
 ∃D:DataW H,w.ownsMap Tryz.prog 9 (plainElem Tryz.prog 3) B q D/\IsMap D/\∀s:List UInt8,∃c:Int,D.atKey (.string s) (.lit (.int .i64 0))= .lit (.int .i64 c)/\0<=c/\c<=1000/\(0<c ↔ s∈zEa.take q)
theorem zRj(H:Type)(w:World)(h:Tab w):
  Calls Tryz.prog 163 #[] w fun e w'=>e= .returned (.map (some w.heap.size))/\zNl H w' w.heap.size 47/\Below w.heap.size w w':=by
 have Wq:=@run_makeMap Tryz.prog
 have Hf:=Lib.hid (zLL (w.alloc (.map #[] 0)) (h.below ((Below.refl _ _).alloc (Nat.le_refl _) _)))
 clear h
 go_enter func163,ntmps163
 go_wp2_with (go_at_call 194;refine Hf.out.mono ?_;rintro e w1 ⟨rfl,rfl⟩)
 go_loopw [7] (fun i wr=>∃q:Nat,q<=47/\i= .int .i64 q/\zNl H wr w.heap.size q/\Below w.heap.size w wr/\wr.heap[w.heap.size+1]? =some (.cells (zEa.map fun l=>Value.string ⟨l.toArray⟩).toArray 9)) (fun i _=>47-(intOf i).toNat)
 case atStart=>
  refine⟨0,by omega,rfl,⟨.map [],(World.ownsMap_made _ _ _ _).alloc _,⟨_,rfl⟩,fun s=>⟨0,rfl,by omega,by omega,by simp⟩⟩,((Below.refl _ _).alloc (Nat.le_refl _) _).alloc (by simp) _,by simpa using zDY (w.alloc (.map #[] 0)) _⟩
 case round=>
  obtain⟨q,hq,rfl,⟨D,ra,ej,hat⟩,hb,Zb⟩:=hrel
  have hz:w.heap.size+1<wr.heap.size:=zFk Zb
  have Ho:=Lib.hid Zb
  have vn:=Lib.hid hat
  have fj:=Lib.hid ra
  have Fk:=Lib.hid ej
  clear hat ej ra
  by_cases hlt:q<47
  .have dh:q<zEa.length:=hlt
   have c0:wr.cell? ⟨w.heap.size+1,q,none⟩=some (.string ⟨(zEa[q]'dh).toArray⟩):=by
    rw[zBb Zb];simp[List.getElem?_eq_getElem dh]
   have wa:(zEa[q]'dh).length<=100:=of_decide_eq_true (List.all_eq_true.1 zMS _ (List.getElem_mem dh))
   have af:keyOf Tryz.prog 9 (.string ⟨(zEa[q]'dh).toArray⟩)=some (.string (zEa[q]'dh)):=keyOf_string_mk underlying9 (by show(zEa[q]'dh).toArray.size<=maxLen;simp[maxLen];omega)
   have Gk:=Lib.hid af
   have He:zEa.take (q+1)=zEa.take q++[zEa[q]'dh]:=by rw[List.take_add_one,List.getElem?_eq_getElem dh];rfl
   have Xq:=Lib.hid He
   clear Zb af He
   generalize zEa[q]'dh=k at*
   go_wp2_with (at_mapUpdate;refine wpList_mapUpdate_own _ rfl _ _ _ 173 rfl 9 3 zLM underlying173 _ w.heap.size q _ rfl fj.out (by unfold maxLen;omega) _ _ _ rfl rfl Gk.out _ [] (plainElem_int underlying3 (WalkArith.wf_i64 (by omega))) ?_;intro w1 hown1 hgrow1)
   refine⟨⟨q+1,by omega,by go_num,⟨_,hown1,Fk.out.put _ _,fun s=>?_⟩,hb.grown hgrow1 hb.size (fun j hj=>by cases hj;exact Nat.le_refl _),(hgrow1.block _ hz (by simp)).trans Ho.out⟩,by simp[intOf];omega⟩
   by_cases hs:s=k
   .subst hs
    exact⟨q+1,atKey_put_same Fk.out (by simp[WideAt.IsKeyLit]) _ _,by omega,by omega,by rw[Xq.out];simp⟩
   obtain⟨c,h1,h2,h3,h4⟩:=vn.out s
   exact⟨c,(atKey_put_other (by simpa using hs) _ _).trans h1,h2,h3,by rw[Xq.out,h4];simp[hs]⟩
  obtain rfl:q=47:=by omega
  clear Zb
  go_wp2
  go_ret
  exact⟨rfl,⟨D,fj.out,Fk.out,vn.out⟩,hb⟩
theorem zNm(s:BA)(hs:s.size<=maxLen)(w:World)(h:Tab w):
  Calls Tryz.prog 129 #[.string s] w fun e w'=>e= .returned (.bool (zJ3 s))/\Below w.heap.size w w':=by
 have af:keyOf Tryz.prog 9 (.string s)=some (.string s.data.toList):=keyOf_string_mk underlying9 hs
 have Gk:=Lib.hid af
 have Hw:=Lib.hid (zRj Unit w h)
 clear af h
 go_enter func129,ntmps129
 go_wp2_with fail
 refine Hw.out.mono ?_
 rintro e w1 ⟨rfl,⟨D,ra,ej,hat⟩,hb⟩
 have fj:=Lib.hid ra
 have vn:=Lib.hid (hat s.data.toList)
 clear ra ej hat
 go_wp2_with (at_lookup;refine wpList_lookup_own_int _ rfl _ _ 173 rfl 9 3 .i64 zLM underlying173 underlying3 (zO1 _) w.heap.size 47 _ rfl fj.out _ _ rfl Gk.out ?_;intro c hat2 rl)
 go_ret
 refine⟨?_,hb⟩
 obtain⟨c',h1,h2,h3,h4⟩:=vn.out
 have hc:c=c':=by
  have:=hat2.symm.trans h1
  injection this with this
  injection this
 subst hc
 have h5:decide (0<c)=zJ3 s:=by
  unfold zJ3;rw[List.take_of_length_le (by simp[zRh])]at h4
  simpa using h4
 rw[<-h5];rfl
end Go.Proofs.YtdflkegnmmkkoaaGreatDoor
namespace Go.Proofs.YtdflkegnmmkkoaaGreatDoor
open Go.RowKit _root_.Go.Proofs.Tryz
theorem zLN(p:Int->Bool)(K:FuncId)(C:Array Value)(s:BA)(hs:s.size<=maxLen)(hK:∀args w,(callFunc K args).run Tryz.prog w= .ok (.enter K args) w)
  (hp:∀(b:Int) (w:World),Calls Tryz.prog K (#[.int .u8 b]++C) w fun e w'=>e= .returned (.bool (p b))/\w=w') (w:World) (h:Tab w):
  Calls Tryz.prog 108 #[.string s,.func (.func K) #[] C] w fun e w'=>e= .returned (.bool (zGr p s))/\Below w.heap.size w w':=by
 have Hr:=Lib.hid (zRi zDB 128 #[] s hs call128 (fun b w=>zNk b w) w)
 have Hw:=Lib.hid (zNm s hs w h)
 have Hp:=Lib.hid hp
 have Dd:=zDi zDB s.data.toList
 have xe:s.data.toList.length=s.size:=by simp
 rw[xe]at Dd;unfold maxLen at hs;clear hp h xe
 by_cases h0:0<s.size
 .have hv:=Lib.hid (zO0 (p:=p) h0)
  have e0:s.toList.isEmpty=false:=by
   rw[ByteArray.toList_eq]
   cases hl:s.data.toList with
   |nil=>
    have:s.data.toList.length=0:=by rw[hl];rfl
    have h2:s.data.toList.length=s.size:=by simp
    omega
   |cons=>rfl
  have e1:¬s.toList=[]:=by intro h;rw[h]at e0;cases e0
  by_cases Yq:s.size<=16
  .generalize Zq:zAW zDB s.data.toList=R at*
   have Dv:=Lib.hid Zq
   clear Zq
   go_enter func108,ntmps108
   go_wp2_with fail
   refine(Hp.out _ _).mono ?_
   rintro e w1 ⟨rfl,rfl⟩
   go_wp2_with (first
    |(go_at_call 127;refine Hr.out.mono ?_;rintro e w1 ⟨rfl,rfl⟩)
    |(go_at_call 129;refine Hw.out.mono ?_;rintro e w1 ⟨rfl,hb⟩))
   .have Hk:p (s[0].toNat)=true:=by assumption
    have Io:(R:Int)=s.size:=by assumption
    have Tc:R=s.size:=by omega
    go_ret
    exact⟨by rw[hv.out,Hk,Tc];simp[Yq],hb⟩
   .have Hk:p (s[0].toNat)=true:=by assumption
    have Io:¬(R:Int)=s.size:=by assumption
    have Tc:(R==s.size)=false:=by simp;omega
    go_ret
    exact⟨by rw[hv.out,Hk,Tc];simp,Below.refl _ _⟩
   have Hk:p (s[0].toNat)=false:=by simpa using(show ¬p (s[0].toNat)=true by assumption)
   go_ret
   exact⟨by rw[hv.out,Hk];simp,Below.refl _ _⟩
  go_enter func108,ntmps108
  go_wp2
  go_ret
  exact⟨by rw[hv.out];simp[Yq],Below.refl _ _⟩
 have hv:Hid (zGr p s=false):=by show zGr p s=false;rw[zGr,dif_neg h0]
 have e1:s.toList=[]:=by
  rw[ByteArray.toList_eq];refine List.eq_nil_of_length_eq_zero ?_
  have h2:s.data.toList.length=s.size:=by simp
  omega
 have e0:s.toList.isEmpty=true:=by rw[e1];rfl
 go_enter func108,ntmps108
 go_wp2
 go_ret
 exact⟨by rw[hv.out];rfl,Below.refl _ _⟩
theorem zUa(s:BA)(hs:s.size<=maxLen)(w:World)(h:Tab w):
  Calls Tryz.prog 105 #[.string s] w fun e w'=>e= .returned (.bool (zCW s))/\Below w.heap.size w w':=by
 have Hn:=Lib.hid (zLN zEK 126 #[] s hs call126 (fun b w=>zHz b w) w h)
 clear h;unfold zCW
 go_enter func105,ntmps105
 go_wp2_with (go_at_call 108;refine Hn.out.mono ?_;rintro e w1 ⟨rfl,hb⟩)
 go_ret
 exact⟨rfl,hb⟩
theorem zCX{a b:BA}(h:a≠b):sEq a b=false:=by
 rw[sEq,beq_eq_false_iff_ne];exact fun h'=>h (zOe h')
theorem zDZ{a b:BA}:sEq a b=true ↔ a=b:=by
 constructor
 .intro h
  rcases Classical.em (a=b)with h'|h'
  .exact h'
  rw[zCX h']at h;cases h
 rintro rfl;exact sEq_self a
theorem zCO(s:BA)(a b:Nat):(s.extract a b).data.toList=(s.data.toList.take b).drop a:=by
 rw[ByteArray.data_extract];simp[List.drop_take]
theorem zLO{a b:BA}(h:a.data.toList=b.data.toList):a=b:=by
 apply ByteArray.ext
 exact Array.ext' h
theorem zDC(d:TypeDesc)(k:Value)(i:Nat):zAk d k [] i=some none:=rfl
theorem zj(s t:BA)(v:AV)(es:List (Value × AV))(i:Nat):zAk .string (.string s) ((.string t,v)::es) i=if sEq s t=true then some (some (i,v))else zAk .string (.string s) es (i+1):=by
 have h:Instr.sameNow .string (.string s) (.string t)=some (sEq s t):=by
  show some (s.data==t.data)=_
  congr 1
  rw[Bool.eq_iff_iff,zDZ,beq_iff_eq];exact⟨fun h=>ByteArray.ext h,fun h=>by rw[h]⟩
 rw[zAk,h];cases sEq s t<;>rfl
end Go.Proofs.YtdflkegnmmkkoaaGreatDoor
