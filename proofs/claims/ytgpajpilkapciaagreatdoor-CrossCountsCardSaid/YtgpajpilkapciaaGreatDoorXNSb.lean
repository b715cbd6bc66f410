/- A part of the proof. -/
import Derived.Test.YtgpajpilkapciaaGreatDoorXMWp
set_option linter.unusedVariables false
set_option linter.unusedSimpArgs false
set_option maxRecDepth 100000
set_option maxHeartbeats 32000000
namespace Go.Proofs.YtgpajpilkapciaaGreatDoor
open Go.RowKit _root_.Go.Proofs.Tryz
theorem zTr(s:BA)(hs:s.size<=maxLen)(w:World)(h:Tab w):
  Calls Tryz.prog 84 #[.string s] w fun e w'=>e= .returned (.bool (zBO s))/\Below w.heap.size w w':=by
 have Hn:=Lib.hid (zKr zGg 118 #[] s hs call118 (fun b w=>zKo b w) w h)
 clear h;unfold zBO
 go_enter func84,ntmps84
 go_wp2_with (go_at_call 116;refine Hn.out.mono ?_;rintro e w1 ⟨rfl,hb⟩)
 go_ret
 exact⟨rfl,hb⟩
theorem zQo:Tryz.prog.globalNamed "strings.asciiSpace" =some 0:=by kernel_rfl
theorem zNI:((0:Nat),Lib.asciiSpaceTab.map fun z=>Value.int .u8 z)∈zGE:=by simp[zGE]
theorem zVJ{Pr:Prot}{φ:Fi2}{s:BA}{xs:Array Value}(h:RL Pr φ [Sg s] xs):xs= #[.string s]:=zWg (l:=[.string s]) h
theorem zCO(s:BA)(hs:s.size<=maxLen)(S:ASt):ADet Tryz.prog 84 [Sg s] S (B (zBO s)) S:=
 ADet.of_calls rfl call84 fun Pr φ xs w ea hR=>by
  obtain rfl:=zVJ ea
  exact zTr s hs w (zVF hR zQo zNI)
theorem zES(s:BA)(hs:s.size<=maxLen)(S:ASt):ADet Tryz.prog 83 [Sg s] S (B (zCg s)) S:=
 ADet.of_calls rfl call83 fun Pr φ xs w ea hR=>by
  obtain rfl:=zVJ ea
  exact zTj s hs w (zVF hR zQo zNI)
attribute [local simp] List.replicate List.range List.range.loop zf za zn zb List.forall_mem_cons List.contains_cons List.contains_nil List.find? zm zl zZ
theorem zAz{n:Nat}(h:n<=20000):n<=maxLen:=by unfold maxLen;omega
theorem wrd(d:Int)(h: -1000<=d/\d<=1000):IntKind.i64.wrap (d-1)=d-1:=IntWalk.i64_in _ (by omega)
def WTC(t:Ty):Prop:=∀(d:Int) (S:ASt),-1<=d->d<=1000->ADet Tryz.prog 77 [tyV t,I d] S (B (t.whole d)) S
theorem zL8(x:Ty)(hx:WTC x)(d:Int)(h0: -1<=d-1)(h1:d<=1000)(L0 L:List AObj)(S:ASt)(j:Nat)(hj:L0[j]? =some (.cells [I d] 3)):ADet Tryz.prog 113 [tyV x,.ptr 1 j 0] (L::L0::S) (B (x.whole (d-1))) (L::L0::S):=by
 refine ADet.intro mixed call113 func113 rfl ?_;simp[ntmps113,hj,wrd d (by omega)]
 refine cq (hx (d-1) _ (by omega) (by omega)) ?_
 simp
theorem zAn:∀(t:Ty),TySm t->WTC t:=by
 refine Ty.ind fun t ih ka d S kc Ia=>?_
 obtain⟨_,hn,Xa,ka⟩:=ka
 have td:∀(L0:List AObj) (j:Nat),L0[j]? =some (.cells [I d] 3)->0<d->ADet Tryz.prog 112 [.p (.sl 3 (t.args.map Ty.enc)),I 1,.fn (.func 113) [] [.ptr 0 j 0]] (L0::S) (B (zq (fun x=>x.whole (d-1)) t.args 1)) (L0::S):=fun L0 j hj hd=>
  zTl _ t.args 1 (by omega) _ [] [.ptr 0 j 0] _ fun x hx L=>by
   simp only[AV.ups,AV.up,List.nil_append];exact zL8 x (ih x hx (ka x hx)) d (by omega) Ia L0 L S j hj
 have Eb:=fun S=>zES t.name (zAz hn) S
 have Sd:∀(p:Ty->Bool),zq p [] 1=true:=fun p=>by simp[zq]
 have Yf:∀(p:Ty->Bool),t.args.length=1->zq p t.args 1=t.args.all p:=fun p h=>zBs (by omega)
 rw[zFh];refine ADet.intro mixed call77 func77 rfl ?_
 by_cases Da:t.kind=1
 .by_cases h0:0<d
  .cases Fa:sEq t.name emS
   .simp[ntmps77,Da,Fa]
    refine dB [] (by kernel_rfl) ?_
    simp[Da,h0,Fa,ze]
   by_cases hl:t.args=[]
   .simp[ntmps77,Da,Fa]
    refine dB [] (by kernel_rfl) ?_
    simp[Da,h0,Fa,hl,ze]
    have Tc:=td
    simp only[hl,List.map_nil]at Tc;refine cq (Tc _ 1 rfl h0) ?_;simp[Da,h0,Fa,hl,ze,Sd]
   simp[ntmps77,Da,Fa]
   refine dB [] (by kernel_rfl) ?_
   simp[Da,h0,Fa,hl,ze]
  simp[ntmps77,Da]
  refine dB [] (by kernel_rfl) ?_
  simp[Da,h0,ze]
 by_cases Ta:t.kind=2
 .by_cases h0:0<d
  .cases Fa:sEq t.name emS
   .simp[ntmps77,Ta,Fa]
    refine dB [] (by kernel_rfl) ?_
    simp[Ta,h0,Fa,ze]
   by_cases hl:t.args=[]
   .simp[ntmps77,Ta,Fa]
    refine dB [] (by kernel_rfl) ?_
    simp[Ta,h0,Fa,hl,ze]
    have Tc:=td
    simp only[hl,List.map_nil]at Tc;refine cq (Tc _ 1 rfl h0) ?_;simp[Ta,h0,Fa,hl,ze,Sd]
   simp[ntmps77,Ta,Fa]
   refine dB [] (by kernel_rfl) ?_
   simp[Ta,h0,Fa,hl,ze]
  simp[ntmps77,Ta]
  refine dB [] (by kernel_rfl) ?_
  simp[Ta,h0,ze]
 by_cases db:t.kind=3
 .by_cases h0:0<d
  .cases Fa:sEq t.name emS
   .simp[ntmps77,db,Fa]
    refine dB [] (by kernel_rfl) ?_
    simp[db,h0,Fa,ze]
   by_cases hl:t.args=[]
   .simp[ntmps77,db,Fa]
    refine dB [] (by kernel_rfl) ?_
    simp[db,h0,Fa,hl,ze]
    have Tc:=td
    simp only[hl,List.map_nil]at Tc;refine cq (Tc _ 1 rfl h0) ?_;simp[db,h0,Fa,hl,ze,Sd]
   simp[ntmps77,db,Fa]
   refine dB [] (by kernel_rfl) ?_
   simp[db,h0,Fa,hl,ze]
  simp[ntmps77,db]
  refine dB [] (by kernel_rfl) ?_
  simp[db,h0,ze]
 by_cases Ca:t.kind=10
 .by_cases h0:0<d
  .cases Fa:sEq t.name emS
   .simp[ntmps77,Ca,Fa]
    refine dB [] (by kernel_rfl) ?_
    simp[Ca,h0,Fa,ze]
   by_cases hl:t.args=[]
   .simp[ntmps77,Ca,Fa]
    refine dB [] (by kernel_rfl) ?_
    simp[Ca,h0,Fa,hl,ze]
    have Tc:=td
    simp only[hl,List.map_nil]at Tc;refine cq (Tc _ 1 rfl h0) ?_;simp[Ca,h0,Fa,hl,ze,Sd]
   simp[ntmps77,Ca,Fa]
   refine dB [] (by kernel_rfl) ?_
   simp[Ca,h0,Fa,hl,ze]
  simp[ntmps77,Ca]
  refine dB [] (by kernel_rfl) ?_
  simp[Ca,h0,ze]
 skip
 by_cases ib:t.kind=4
 .simp[ntmps77,ib]
  refine dB [] (by kernel_rfl) ?_
  simp[ib,ze];refine cq (Eb _) ?_
  by_cases h0:0<d
  .cases Fa:zCg t.name
   .simp[ib,h0,Fa]
   by_cases hl:t.args=[]
   .simp[ib,h0,Fa,hl]
    have Tc:=td
    simp only[hl,List.map_nil]at Tc;refine cq (Tc _ 1 rfl h0) ?_;simp[ib,h0,Fa,hl,Sd]
   simp[ib,h0,Fa,hl]
  simp[ib,h0]
 have Ua:ze t.kind=false:=by simp[ze];omega
 by_cases h0:0<d
 .by_cases h1:1<=t.kind
  .by_cases h2:t.kind<=14
   .cases Fa:sEq t.name emS
    .skip
     simp[ntmps77,Da,Ta,db,ib,Ca,Ua];refine dB [] (by kernel_rfl) ?_
     simp[Da,Ta,db,ib,Ca,Ua,h0,h1,h2,Fa]
    by_cases hl:t.args.length=1
    .skip
     simp[ntmps77,Da,Ta,db,ib,Ca,Ua];refine dB [] (by kernel_rfl) ?_
     simp[Da,Ta,db,ib,Ca,Ua,h0,h1,h2,Fa,hl];refine cq (td _ 1 rfl h0) ?_;simp[Da,Ta,db,ib,Ca,Ua,h0,h1,h2,Fa,hl,Yf]
    skip
    simp[ntmps77,Da,Ta,db,ib,Ca,Ua];refine dB [] (by kernel_rfl) ?_
    simp[Da,Ta,db,ib,Ca,Ua,h0,h1,h2,Fa,hl]
   skip
   simp[ntmps77,Da,Ta,db,ib,Ca,Ua];refine dB [] (by kernel_rfl) ?_
   simp[Da,Ta,db,ib,Ca,Ua,h0,h1,h2]
  skip
  simp[ntmps77,Da,Ta,db,ib,Ca,Ua];refine dB [] (by kernel_rfl) ?_
  simp[Da,Ta,db,ib,Ca,Ua,h0,h1]
 skip
 simp[ntmps77,Da,Ta,db,ib,Ca,Ua];refine dB [] (by kernel_rfl) ?_
 simp[Da,Ta,db,ib,Ca,Ua,h0]
end Go.Proofs.YtgpajpilkapciaaGreatDoor
namespace Go.Proofs.YtgpajpilkapciaaGreatDoor
open Go.RowKit _root_.Go.Proofs.Tryz
attribute [local simp] List.replicate List.range List.range.loop
theorem zY4(s:BA)(h:s.size<=20000)(S:ASt):ADet Tryz.prog 148 [Sg s] S (B (zTk s)) S:=by
 refine ADet.intro mixed call148 func148 rfl ?_;unfold zTk
 cases hs:sEq s zFg with
 |true=>simp[ntmps148,hs]
 |false=>
  simp[ntmps148,hs];refine cq (zCO s (zAz h) _) ?_;simp[hs]
theorem zBt(x:Pl)(h:PlSm x)(S:ASt):ADet Tryz.prog 127 [plV x] S (B x.whole) S:=by
 refine ADet.intro mixed call127 func127 rfl ?_;unfold Pl.whole;simp[ntmps127];refine cq (zCO x.name (zAz h.1) _) ?_
 cases hs:zBO x.name with
 |false=>simp[hs]
 |true=>
  simp[hs];refine⟨_,_,zBv zTk x.path 40 (by omega) 148 [] [] _ (fun s hs L=>zY4 s (h.2.2 s hs) _),?_⟩
  simp[hs]
theorem zL9(e:Ex)(S:ASt):ADet Tryz.prog 85 [exV e] S (B (zB6 e.op)) S:=by
 refine ADet.intro mixed call85 func85 rfl ?_;unfold zB6
 by_cases h5:e.op=5
 .simp[ntmps85,h5]
 have:(e.op==5)=false:=by simp[h5]
 simp[ntmps85,this]
theorem zY5(op:Int)(S:ASt):ADet Tryz.prog 119 [U op] S (.tup [.agg [B (shP op),I (shL op),I (shM op)],B (shO op)]) S:=by
 refine ADet.intro mixed call119 func119 rfl ?_
 by_cases Da:op=1
 .simp[ntmps119,Da,shP,shL,shM,shO]
 by_cases Ta:op=2
 .simp[ntmps119,Ta,shP,shL,shM,shO]
 by_cases db:op=3
 .simp[ntmps119,db,shP,shL,shM,shO]
 by_cases ib:op=4
 .simp[ntmps119,ib,shP,shL,shM,shO]
 by_cases Tg:op=5
 .simp[ntmps119,Tg,shP,shL,shM,shO]
 by_cases Ug:op=6
 .simp[ntmps119,Ug,shP,shL,shM,shO]
 by_cases Vg:op=9
 .simp[ntmps119,Vg,shP,shL,shM,shO]
 by_cases Ca:op=10
 .simp[ntmps119,Ca,shP,shL,shM,shO]
 by_cases Ke:op=11
 .simp[ntmps119,Ke,shP,shL,shM,shO]
 by_cases Le:op=12
 .simp[ntmps119,Le,shP,shL,shM,shO]
 by_cases Me:op=13
 .simp[ntmps119,Me,shP,shL,shM,shO]
 by_cases Kh:op=14
 .simp[ntmps119,Kh,shP,shL,shM,shO]
 by_cases Lh:op=15
 .simp[ntmps119,Lh,shP,shL,shM,shO]
 by_cases Mh:op=16
 .simp[ntmps119,Mh,shP,shL,shM,shO]
 by_cases Nh:op=17
 .simp[ntmps119,Nh,shP,shL,shM,shO]
 by_cases Oe:op=18
 .simp[ntmps119,Oe,shP,shL,shM,shO]
 by_cases Ub:op=19
 .simp[ntmps119,Ub,shP,shL,shM,shO]
 by_cases Pe:op=20
 .simp[ntmps119,Pe,shP,shL,shM,shO]
 by_cases Oh:op=24
 .simp[ntmps119,Oh,shP,shL,shM,shO]
 by_cases Ph:op=25
 .simp[ntmps119,Ph,shP,shL,shM,shO]
 by_cases Qh:op=28
 .simp[ntmps119,Qh,shP,shL,shM,shO]
 by_cases Rh:op=32
 .simp[ntmps119,Rh,shP,shL,shM,shO]
 by_cases Sh:op=33
 .simp[ntmps119,Sh,shP,shL,shM,shO]
 by_cases Th:op=34
 .simp[ntmps119,Th,shP,shL,shM,shO]
 by_cases Uh:op=35
 .simp[ntmps119,Uh,shP,shL,shM,shO]
 by_cases Vh:op=36
 .simp[ntmps119,Vh,shP,shL,shM,shO]
 have hm:¬(9<=op/\op<=17):=by omega
 by_cases h1:1<=op
 .simp[ntmps119,Da,Ta,db,ib,Tg,Ug,Vg,Ca,Ke,Le,Me,Kh,Lh,Mh,Nh,Oe,Ub,Pe,Oh,Ph,Qh,Rh,Sh,Th,Uh,Vh,shP,shL,shM,shO,hm,h1]
 simp[ntmps119,Da,Ta,db,ib,Tg,Ug,Vg,Ca,Ke,Le,Me,Kh,Lh,Mh,Nh,Oe,Ub,Pe,Oh,Ph,Qh,Rh,Sh,Th,Uh,Vh,shP,shL,shM,shO,hm,h1]
theorem zDI(x:Pl)(S:ASt):ADet Tryz.prog 128 [plV x] S (B (zJd x)) S:=by
 refine ADet.intro mixed call128 func128 rfl ?_;unfold zJd
 cases hs:sEq x.name emS with
 |false=>simp[ntmps128,hs,strs]
 |true=>simp[ntmps128,hs,strs]
attribute [local simp] zf za zn zb List.forall_mem_cons List.contains_cons List.contains_nil List.find? zm zl zZ
theorem zQp(e:Ex)(h1:e.name.size<=20000)(h2:e.u4.size<=20000)(S:ASt):ADet Tryz.prog 120 [exV e] S (B (labB e.op e.int e.name e.u4)) S:=by
 refine ADet.intro mixed call120 func120 rfl ?_;unfold labB
 have g1:=fun S=>zCO e.name (zAz h1) S
 have g2:=fun S=>zES e.name (zAz h1) S
 have g3:=fun S=>zES e.u4 (zAz h2) S
 simp[ntmps120];refine dB [] (by kernel_rfl) ?_
 by_cases Da:e.op=1
 .simp[Da]
  cases hn:sEq e.name emS<;>cases hs:sEq e.u4 emS<;>simp[hn,hs]
 by_cases Ta:e.op=2
 .cases h0:(e.int==0)
  .simp[Ta,h0]
   cases hn:sEq e.name emS<;>cases hs:sEq e.u4 emS<;>simp[hn,hs,h0]
  simp[Ta,h0]
  cases hn:sEq e.name emS<;>cases hs:sEq e.u4 emS<;>simp[hn,hs,h0]
 by_cases Oe:e.op=18
 .simp[Oe]
  refine cq (g1 _) ?_;cases hn:zBO e.name<;>cases hs:sEq e.u4 emS<;>simp[hn,hs]
 by_cases Ub:e.op=19
 .simp[Ub]
  refine cq (g2 _) ?_;cases hn:zCg e.name<;>cases hs:sEq e.u4 emS<;>simp[hn,hs]
 by_cases Pe:e.op=20
 .simp[Pe]
  refine dB [(4,2)] (by kernel_rfl) ?_
  simp;refine cq (g2 _) ?_;simp;refine cq (g3 _) ?_;simp;cases hn:zCg e.name<;>cases hs:zCg e.u4<;>simp[hn,hs]
 simp[Da,Ta,Oe,Ub,Pe];cases hn:sEq e.name emS<;>cases hs:sEq e.u4 emS<;>simp[hn,hs]
theorem zWq(e:Ex)(hp:PlSm e.place)(is:Bool)(S:ASt):ADet Tryz.prog 121 [exV e,B is] S (B (zHp e.op e.place e.args.length is)) S:=by
 refine ADet.intro mixed call121 func121 rfl ?_;unfold zHp
 cases is with
 |true=>
  simp[ntmps121];refine cq (zBt e.place hp _) ?_
  simp
 |false=>
  by_cases Ub:e.op=19
  .have td:=fun S=>zBv zBO e.place.path 6 (by omega) 84 [] [] S (fun s hs L=>zCO s (zAz (hp.2.2 s hs)) _)
   simp only[strs]at td
   cases hs:sEq e.place.name emS with
   |false=>simp[ntmps121,Ub,hs]
   |true=>
    by_cases hl:e.place.path.length=e.args.length
    .have xf:((e.place.path.length:Int)==(e.args.length:Int))=true:=by simp[hl]
     simp[ntmps121,Ub,hs,strs,xf];refine cq (td _) ?_;simp[Ub,hs,hl]
    have xf:((e.place.path.length:Int)==(e.args.length:Int))=false:=by simp;omega
    simp[ntmps121,Ub,hs,strs,xf,hl]
  simp[ntmps121,Ub]
  refine cq (zDI e.place _) ?_;simp[Ub]
def WEC(e:Ex):Prop:=∀(d:Int) (S:ASt),-1<=d->d<=1000->ADet Tryz.prog 86 [exV e,I d] S (B (e.whole d)) S
theorem zMA(e x:Ex)(hx:WEC x)(d:Int)(h0: -1<=d-1)(h1:d<=1000)(L0 L:List AObj)(S:ASt)(i j:Nat)(hi:L0[i]? =some (.cells [U e.op,I e.int,Sg e.name,Sg e.u4,Sg e.place.name,.p (strs e.place.path),.p (.sl 8 (e.args.map Ex.enc)),I e.pos] 42))(hj:L0[j]? =some (.cells [I d] 3)):
  ADet Tryz.prog 123 [exV x,.ptr 1 i 0,.ptr 1 j 0] (L::L0::S) (B (((e.op==18)|| !zB6 x.op)&&x.whole (d-1))) (L::L0::S):=by
 refine ADet.intro mixed call123 func123 rfl ?_
 have g:=fun S=>hx (d-1) S (by omega) (by omega)
 by_cases hop:e.op=18
 .simp[ntmps123,hi,hj,hop,wrd d (by omega)]
  refine cq (g _) ?_;simp[hop]
 have Yi:(e.op==18)=false:=by simp[hop]
 simp[ntmps123,hi,hj,Yi];refine cq (zL9 x _) ?_
 cases hl:zB6 x.op with
 |true=>simp[hl,Yi]
 |false=>
  simp[hl,Yi,hi,hj,wrd d (by omega)]
  refine cq (g _) ?_;simp[hl,Yi]
theorem zA2:∀(e:Ex),ExSm e->WEC e:=by
 refine Ex.ind fun e ih ka d S kc Ia=>?_
 obtain⟨_,hn,pb,Ua,Xa,ka⟩:=ka
 rw[zGK];unfold zKv;refine ADet.okA call86 0 6 rfl rfl fun na=>?_
 have ca:=okl na
 have Ks:shM e.op<=6:=by
  unfold shM
  repeat' split
  all_goals omega
 have td:∀(L0:List AObj) (i j:Nat),L0[i]? =some (.cells [U e.op,I e.int,Sg e.name,Sg e.u4,Sg e.place.name,.p (strs e.place.path),.p (.sl 8 (e.args.map Ex.enc)),I e.pos] 42)->L0[j]? =some (.cells [I d] 3)->0<d->ADet Tryz.prog 122 [.p (.sl 8 (e.args.map Ex.enc)),I (shM e.op),.fn (.func 123) [] [.ptr 0 i 0,.ptr 0 j 0]] (L0::S) (B (zq (fun x=>((e.op==18)|| !zB6 x.op)&&x.whole (d-1)) e.args (shM e.op))) (L0::S):=fun L0 i j hi hj hd=>
  zNC _ e.args (shM e.op) (by omega) _ [] [.ptr 0 i 0,.ptr 0 j 0] _ fun x hx L=>by
   simp only[AV.ups,AV.up,List.nil_append];exact zMA e x (ih x hx (ka x hx)) d (by omega) Ia L0 L S i j hi hj
 refine ADet.intro mixed call86 func86 rfl ?_;simp[ntmps86];refine cq (zY5 e.op _) ?_
 by_cases h0:1<=d
 .have fa:¬d<1:=by omega
  cases ho:shO e.op with
  |false=>simp[h0,fa,ho]
  |true=>
   simp[h0,fa,ho];refine cq (zQp e hn pb _) ?_
   cases hl:labB e.op e.int e.name e.u4 with
   |false=>simp[h0,fa,ho,hl]
   |true=>
    by_cases xe:shL e.op<=e.args.length
    .have Wg:¬(e.args.length:Int)<shL e.op:=by omega
     simp[h0,fa,ho,hl,xe,Wg];refine cq (zWq e Ua (shP e.op) _) ?_
     cases hp:zHp e.op e.place e.args.length (shP e.op)with
     |false=>simp[h0,fa,ho,hl,xe,Wg,hp]
     |true=>
      simp[h0,fa,ho,hl,xe,Wg,hp];refine cq (td _ 0 1 rfl rfl (by omega)) ?_
      simp[h0,fa,ho,hl,xe,Wg,hp]
    have Wg:(e.args.length:Int)<shL e.op:=by omega
    simp[h0,fa,ho,hl,xe,Wg]
 have fa:d<1:=by omega
 simp[h0,fa]
theorem zHq(e:Ex)(h:ExSm e)(S:ASt):ADet Tryz.prog 141 [exV e] S (B (zCL e)) S:=by
 refine ADet.intro mixed call141 func141 rfl ?_;unfold zCL;simp[ntmps141];refine cq (zL9 e _) ?_
 cases hl:zB6 e.op with
 |true=>simp[hl]
 |false=>
  simp[hl];refine cq (zA2 e h 40 _ (by omega) (by omega)) ?_
  simp[hl]
theorem zY6(s:BA)(S:ASt):ADet Tryz.prog 147 [Sg s] S (B (sEq s emS)) S:=by
 refine ADet.intro mixed call147 func147 rfl ?_;simp[ntmps147]
def fnN(op:Int):Nat:=if op=1\/op=5\/op=8\/op=11\/op=12 then 84 else if op=2 then 83 else 147
def fnS(op:Int):Nat:=if op=8 then 83 else if op=12 then 84 else 147
theorem fnNC(op:Int)(s:BA)(h:s.size<=20000)(S:ASt):ADet Tryz.prog (fnN op) [Sg s] S (B (fmN op s)) S:=by
 unfold fnN fmN;split
 .exact zCO s (zAz h) S
 split
 .exact zES s (zAz h) S
 exact zY6 s S
theorem fnSC(op:Int)(s:BA)(h:s.size<=20000)(S:ASt):ADet Tryz.prog (fnS op) [Sg s] S (B (fmS op s)) S:=by
 unfold fnS fmS;split
 .exact zES s (zAz h) S
 split
 .exact zCO s (zAz h) S
 exact zY6 s S
theorem zCo(t:Ty)(S:ASt):ADet Tryz.prog 81 [tyV t] S (B (zBW t)) S:=by
 refine ADet.intro mixed call81 func81 rfl ?_;unfold zBW
 cases hk:(t.kind==0)with
 |false=>simp[ntmps81,hk]
 |true=>
  cases hs:sEq t.name emS with
  |false=>simp[ntmps81,hk,hs]
  |true=>simp[ntmps81,hk,hs]
theorem zDv(s:St)(S:ASt):ADet Tryz.prog 125 [stmV s] S (B (zE4 s.op s.int)) S:=by
 refine ADet.intro mixed call125 func125 rfl ?_;unfold zE4
 by_cases hop:s.op=12
 .have t:(s.op==12)=true:=by rw[hop];rfl
  by_cases h1:1<=s.int
  .simp[ntmps125,t,hop,h1]
  simp[ntmps125,t,hop,h1]
 have t:(s.op==12)=false:=by rw[beq_eq_false_iff_ne];exact hop
 simp[ntmps125,t,hop]
def fmV(op:Int)(n:Nat):List AV:=[I (zd op),I (zg op n),B (zAD op),B (zk op),B (zAm op),B (zAf op),B (zAS op),B (zCM op),.fn (.func (fnN op)) [] [],.fn (.func (fnS op)) [] []]
theorem zET(s:St)(S:ASt):ADet Tryz.prog 124 [stmV s] S (.tup [.agg (fmV s.op s.names.length),B (fmOk s.op)]) S:=by
 refine ADet.intro mixed call124 func124 rfl ?_
 by_cases Da:s.op=1
 .simp[ntmps124,Da,fmV,zd,zg,zAD,zk,zAm,zAf,zAS,zCM,fmOk,fnN,fnS]
 by_cases Ta:s.op=2
 .simp[ntmps124,Ta,fmV,zd,zg,zAD,zk,zAm,zAf,zAS,zCM,fmOk,fnN,fnS]
 by_cases db:s.op=3
 .simp[ntmps124,db,fmV,zd,zg,zAD,zk,zAm,zAf,zAS,zCM,fmOk,fnN,fnS]
 by_cases ib:s.op=4
 .simp[ntmps124,ib,fmV,zd,zg,zAD,zk,zAm,zAf,zAS,zCM,fmOk,fnN,fnS]
 by_cases Tg:s.op=5
 .simp[ntmps124,Tg,fmV,zd,zg,zAD,zk,zAm,zAf,zAS,zCM,fmOk,fnN,fnS]
 by_cases Ug:s.op=6
 .simp[ntmps124,Ug,fmV,zd,zg,zAD,zk,zAm,zAf,zAS,zCM,fmOk,fnN,fnS]
 by_cases Wl:s.op=7
 .simp[ntmps124,Wl,fmV,zd,zg,zAD,zk,zAm,zAf,zAS,zCM,fmOk,fnN,fnS]
 by_cases Xl:s.op=8
 .simp[ntmps124,Xl,fmV,zd,zg,zAD,zk,zAm,zAf,zAS,zCM,fmOk,fnN,fnS]
 by_cases Vg:s.op=9
 .simp[ntmps124,Vg,fmV,zd,zg,zAD,zk,zAm,zAf,zAS,zCM,fmOk,fnN,fnS]
 by_cases Ke:s.op=11
 .simp[ntmps124,Ke,fmV,zd,zg,zAD,zk,zAm,zAf,zAS,zCM,fmOk,fnN,fnS]
 by_cases Le:s.op=12
 .simp[ntmps124,Le,fmV,zd,zg,zAD,zk,zAm,zAf,zAS,zCM,fmOk,fnN,fnS]
 by_cases Me:s.op=13
 .simp[ntmps124,Me,fmV,zd,zg,zAD,zk,zAm,zAf,zAS,zCM,fmOk,fnN,fnS]
 skip
 by_cases Ca:s.op=10
 .simp[ntmps124,Ca]
  refine dB [(1,4)] (by kernel_rfl) ?_
  simp[Ca,fmV,zd,zg,zAD,zk,zAm,zAf,zAS,zCM,fmOk,fnN,fnS,strs]
 have ho:fmOk s.op=false:=by
  unfold fmOk;rw[Bool.and_eq_false_iff,decide_eq_false_iff_not,decide_eq_false_iff_not];omega
 simp[ntmps124,Da,Ta,db,ib,Tg,Ug,Wl,Xl,Vg,Ca,Ke,Le,Me,fmV,zd,zg,zAD,zk,zAm,zAf,zAS,zCM,ho,fnN,fnS]
def WSC(s:St):Prop:=∀(d:Int) (S:ASt),-1<=d->d<=1000->ADet Tryz.prog 89 [stmV s,I d] S (B (s.whole d)) S
theorem zMB(x:St)(hx:WSC x)(d:Int)(h0: -1<=d-1)(h1:d<=1000)(S:ASt)(n j:Nat)(hj:get2 S n j=some (.cells [I d] 3)):ADet Tryz.prog 129 [stmV x,.ptr n j 0] S (B (x.whole (d-1))) S:=by
 refine ADet.intro mixed call129 func129 rfl ?_;simp[ntmps129,hj,wrd d (by omega)]
 refine cq (hx (d-1) _ (by omega) (by omega)) ?_
 simp
theorem zBY(l:List St)(hx:∀x∈l,WSC x)(hm:l.length<=20000)(d:Int)(h0: -1<=d-1)(h1:d<=1000)(S:ASt)(n j:Nat)(hj:get2 S n j=some (.cells [I d] 3)):
  ADet Tryz.prog 87 [.p (.sl 15 (l.map St.enc)),I l.length,.fn (.func 129) [] [.ptr n j 0]] S (B (l.all fun x=>x.whole (d-1))) S:=by
 have:=zND (fun x=>x.whole (d-1)) l l.length (by omega) 129 [] [.ptr n j 0] S fun x hm L=>by
  simp only[AV.ups,AV.up,List.nil_append];exact zMB x (hx x hm) d h0 h1 (L::S) (n+1) j hj
 rw[zBs (Int.le_refl _)]at this;exact this
theorem zMC(op:Int)(k:Nat)(x:Ex)(hx:WEC x)(d:Int)(h0: -1<=d-1)(h1:d<=1000)(S:ASt)(n i j:Nat)(hi:get2 S n i=some (.cells (fmV op k) 190))(hj:get2 S n j=some (.cells [I d] 3)):
  ADet Tryz.prog 130 [exV x,.ptr n i 0,.ptr n j 0] S (B ((zCM op|| !zB6 x.op)&&x.whole (d-1))) S:=by
 refine ADet.intro mixed call130 func130 rfl ?_
 have g:=fun S=>hx (d-1) S (by omega) (by omega)
 cases hf:zCM op with
 |true=>
  simp[ntmps130,hi,hj,fmV,hf,wrd d (by omega)]
  refine cq (g _) ?_
  simp
 |false=>
  simp[ntmps130,hi,hj,fmV,hf];refine cq (zL9 x _) ?_
  cases hl:zB6 x.op with
  |true=>simp[hl]
  |false=>
   simp[hl,hi,hj,fmV,hf,wrd d (by omega)]
   refine cq (g _) ?_;simp
theorem zDw(op:Int)(k:Nat)(l:List Ex)(hx:∀x∈l,WEC x)(d:Int)(h0: -1<=d-1)(h1:d<=1000)(S:ASt)(n i j:Nat)(hi:get2 S n i=some (.cells (fmV op k) 190))(hj:get2 S n j=some (.cells [I d] 3)):
  ADet Tryz.prog 122 [.p (.sl 8 (l.map Ex.enc)),I 6,.fn (.func 130) [] [.ptr n i 0,.ptr n j 0]] S (B (exsB op l d)) S:=
 zNC (fun x=>(zCM op|| !zB6 x.op)&&x.whole (d-1)) l 6 (by omega) 130 [] [.ptr n i 0,.ptr n j 0] S fun x hm L=>by
  simp only[AV.ups,AV.up,List.nil_append];exact zMC op k x (hx x hm) d h0 h1 (L::S) (n+1) i j hi hj
theorem zMD(a:Ar)(hv:a.variant.size<=20000)(hn:a.name.size<=20000)(hm:a.body.length<=20000)(hx:∀x∈a.body,WSC x)(d:Int)(h0: -1<=d-1)(h1:d<=1000)(S:ASt)(n w j:Nat)(hw:get2 S n w=some (.cells [.fn (.func 129) [] [.ptr 0 j 0]] 160))(hj:get2 S n j=some (.cells [I d] 3)):
  ADet Tryz.prog 132 [arV a,.ptr n w 0] S (B (a.whole (d-1))) S:=by
 refine ADet.intro mixed call132 func132 rfl ?_;unfold Ar.whole
 have g1:=fun S=>zES a.variant (zAz hv) S
 have g2:=fun S=>zCO a.name (zAz hn) S
 have g3:=fun L=>zBY a.body hx hm d h0 h1 (L::S) (n+1) j hj
 simp[ntmps132];refine cq (g1 _) ?_
 cases ht:zCg a.variant with
 |false=>simp[ht]
 |true=>
  cases he:sEq a.name emS with
  |true=>
   simp[ht,he,hw];refine cq (g3 _) ?_
   simp
  |false=>
   simp[ht,he];refine cq (g2 _) ?_
   cases hb:zBO a.name with
   |false=>simp[hb]
   |true=>
    simp[hb,hw];refine cq (g3 _) ?_;simp
theorem zFJ(l:List Ar)(hs:∀a∈l,a.variant.size<=20000/\a.name.size<=20000/\a.body.length<=20000)(hx:∀a∈l,∀x∈a.body,WSC x)(d:Int)(h0: -1<=d-1)(h1:d<=1000)(S:ASt)(n w j:Nat)(hw:get2 S n w=some (.cells [.fn (.func 129) [] [.ptr 0 j 0]] 160))(hj:get2 S n j=some (.cells [I d] 3)):
  ADet Tryz.prog 131 [.p (.sl 3 (l.map Ar.enc)),I 6,.fn (.func 132) [] [.ptr n w 0]] S (B (zq (fun a=>a.whole (d-1)) l 6)) S:=
 zWf (fun a=>a.whole (d-1)) l 6 (by omega) 132 [] [.ptr n w 0] S fun x hm L=>by
  simp only[AV.ups,AV.up,List.nil_append];exact zMD x (hs x hm).1 (hs x hm).2.1 (hs x hm).2.2 (hx x hm) d h0 h1 (L::S) (n+1) w j hw hj
end Go.Proofs.YtgpajpilkapciaaGreatDoor
