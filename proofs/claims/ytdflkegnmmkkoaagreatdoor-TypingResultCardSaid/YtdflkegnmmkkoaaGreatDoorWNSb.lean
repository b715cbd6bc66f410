/- A part of the proof. -/
import Derived.Test.YtdflkegnmmkkoaaGreatDoorWMWp
set_option linter.unusedVariables false
set_option linter.unusedSimpArgs false
set_option maxRecDepth 100000
set_option maxHeartbeats 32000000
namespace Go.Proofs.YtdflkegnmmkkoaaGreatDoor
open Go.RowKit _root_.Go.Proofs.Tryz
theorem zUj(s:BA)(hs:s.size<=maxLen)(w:World)(h:Tab w):
  Calls Tryz.prog 51 #[.string s] w fun e w'=>e= .returned (.bool (zBO s))/\Below w.heap.size w w':=by
 have Hn:=Lib.hid (zLN zEJ 109 #[] s hs call109 (fun b w=>zHy b w) w h)
 clear h;unfold zBO
 go_enter func51,ntmps51
 go_wp2_with (go_at_call 108;refine Hn.out.mono ?_;rintro e w1 ⟨rfl,hb⟩)
 go_ret
 exact⟨rfl,hb⟩
theorem zMa:Tryz.prog.globalNamed "strings.asciiSpace" =some 0:=by kernel_rfl
theorem zKB:((0:Nat),Lib.asciiSpaceTab.map fun z=>Value.int .u8 z)∈zGO:=by simp[zGO]
theorem zR1{Pr:Prot}{φ:Fi2}{s:BA}{xs:Array Value}(h:RL Pr φ [Sg s] xs):xs= #[.string s]:=zGT (l:=[.string s]) h
theorem zCE(s:BA)(hs:s.size<=maxLen)(S:ASt):ADet Tryz.prog 51 [Sg s] S (B (zBO s)) S:=
 ADet.of_calls rfl call51 fun Pr φ xs w da hR=>by
  obtain rfl:=zR1 da
  exact zUj s hs w (zRs hR zMa zKB)
theorem zDj(s:BA)(hs:s.size<=maxLen)(S:ASt):ADet Tryz.prog 105 [Sg s] S (B (zCW s)) S:=
 ADet.of_calls rfl call105 fun Pr φ xs w da hR=>by
  obtain rfl:=zR1 da
  exact zUa s hs w (zRs hR zMa zKB)
attribute [local simp] List.replicate List.range List.range.loop List.forall_mem_cons List.contains_cons List.contains_nil List.find?
theorem zBD{n:Nat}(h:n<=20000):n<=maxLen:=by unfold maxLen;omega
theorem wrd(d:Int)(h: -1000<=d/\d<=1000):IntKind.i64.wrap (d-1)=d-1:=IntWalk.i64_in _ (by omega)
def WTC(t:Ty):Prop:=∀(d:Int) (S:ASt),-1<=d->d<=1000->ADet Tryz.prog 50 [tyV t,I d] S (B (t.whole d)) S
theorem zMb(x:Ty)(hx:WTC x)(d:Int)(h0: -1<=d-1)(h1:d<=1000)(L0 L:List AObj)(S:ASt)(j:Nat)(hj:L0[j]? =some (.cells [I d] 3)):ADet Tryz.prog 107 [tyV x,.ptr 1 j 0] (L::L0::S) (B (x.whole (d-1))) (L::L0::S):=by
 refine ADet.intro mixed call107 func107 rfl ?_;simp[ntmps107,hj,wrd d (by omega)]
 refine cq (hx (d-1) _ (by omega) (by omega)) ?_
 simp
theorem zA3:∀(t:Ty),TySm t->WTC t:=by
 refine Ty.ind fun t ih wa d S Dc Ta=>?_
 obtain⟨_,hn,cb,wa⟩:=wa
 have Fd:∀(L0:List AObj) (j:Nat),L0[j]? =some (.cells [I d] 3)->0<d->ADet Tryz.prog 106 [.p (.sl 3 (t.args.map Ty.enc)),I 1,.fn (.func 107) [] [.ptr 0 j 0]] (L0::S) (B (zt (fun x=>x.whole (d-1)) t.args 1)) (L0::S):=fun L0 j hj hd=>
  zUc _ t.args 1 (by omega) _ [] [.ptr 0 j 0] _ fun x hx L=>by
   simp only[AV.ups,AV.up,List.nil_append];exact zMb x (ih x hx (wa x hx)) d (by omega) Ta L0 L S j hj
 have Sb:=fun S=>zDj t.name (zBD hn) S
 have Yd:∀(p:Ty->Bool),zt p [] 1=true:=fun p=>by simp[zt]
 have pg:∀(p:Ty->Bool),t.args.length=1->zt p t.args 1=t.args.all p:=fun p h=>zBx (by omega)
 rw[zHF];refine ADet.intro mixed call50 func50 rfl ?_
 by_cases Ga:t.kind=1
 .by_cases h0:0<d
  .cases Ja:sEq t.name emS
   .simp[ntmps50,Ga,Ja]
    refine dB [] (by kernel_rfl) ?_
    simp[Ga,h0,Ja,zl]
   by_cases hl:t.args=[]
   .simp[ntmps50,Ga,Ja]
    refine dB [] (by kernel_rfl) ?_
    simp[Ga,h0,Ja,hl,zl]
    have Yc:=Fd
    simp only[hl,List.map_nil]at Yc;refine cq (Yc _ 1 rfl h0) ?_;simp[Ga,h0,Ja,hl,zl,Yd]
   simp[ntmps50,Ga,Ja]
   refine dB [] (by kernel_rfl) ?_
   simp[Ga,h0,Ja,hl,zl]
  simp[ntmps50,Ga]
  refine dB [] (by kernel_rfl) ?_
  simp[Ga,h0,zl]
 by_cases Qa:t.kind=2
 .by_cases h0:0<d
  .cases Ja:sEq t.name emS
   .simp[ntmps50,Qa,Ja]
    refine dB [] (by kernel_rfl) ?_
    simp[Qa,h0,Ja,zl]
   by_cases hl:t.args=[]
   .simp[ntmps50,Qa,Ja]
    refine dB [] (by kernel_rfl) ?_
    simp[Qa,h0,Ja,hl,zl]
    have Yc:=Fd
    simp only[hl,List.map_nil]at Yc;refine cq (Yc _ 1 rfl h0) ?_;simp[Qa,h0,Ja,hl,zl,Yd]
   simp[ntmps50,Qa,Ja]
   refine dB [] (by kernel_rfl) ?_
   simp[Qa,h0,Ja,hl,zl]
  simp[ntmps50,Qa]
  refine dB [] (by kernel_rfl) ?_
  simp[Qa,h0,zl]
 by_cases ub:t.kind=3
 .by_cases h0:0<d
  .cases Ja:sEq t.name emS
   .simp[ntmps50,ub,Ja]
    refine dB [] (by kernel_rfl) ?_
    simp[ub,h0,Ja,zl]
   by_cases hl:t.args=[]
   .simp[ntmps50,ub,Ja]
    refine dB [] (by kernel_rfl) ?_
    simp[ub,h0,Ja,hl,zl]
    have Yc:=Fd
    simp only[hl,List.map_nil]at Yc;refine cq (Yc _ 1 rfl h0) ?_;simp[ub,h0,Ja,hl,zl,Yd]
   simp[ntmps50,ub,Ja]
   refine dB [] (by kernel_rfl) ?_
   simp[ub,h0,Ja,hl,zl]
  simp[ntmps50,ub]
  refine dB [] (by kernel_rfl) ?_
  simp[ub,h0,zl]
 by_cases Ea:t.kind=10
 .by_cases h0:0<d
  .cases Ja:sEq t.name emS
   .simp[ntmps50,Ea,Ja]
    refine dB [] (by kernel_rfl) ?_
    simp[Ea,h0,Ja,zl]
   by_cases hl:t.args=[]
   .simp[ntmps50,Ea,Ja]
    refine dB [] (by kernel_rfl) ?_
    simp[Ea,h0,Ja,hl,zl]
    have Yc:=Fd
    simp only[hl,List.map_nil]at Yc;refine cq (Yc _ 1 rfl h0) ?_;simp[Ea,h0,Ja,hl,zl,Yd]
   simp[ntmps50,Ea,Ja]
   refine dB [] (by kernel_rfl) ?_
   simp[Ea,h0,Ja,hl,zl]
  simp[ntmps50,Ea]
  refine dB [] (by kernel_rfl) ?_
  simp[Ea,h0,zl]
 skip
 by_cases wb:t.kind=4
 .simp[ntmps50,wb]
  refine dB [] (by kernel_rfl) ?_
  simp[wb,zl];refine cq (Sb _) ?_
  by_cases h0:0<d
  .cases Ja:zCW t.name
   .simp[wb,h0,Ja]
   by_cases hl:t.args=[]
   .simp[wb,h0,Ja,hl]
    have Yc:=Fd
    simp only[hl,List.map_nil]at Yc;refine cq (Yc _ 1 rfl h0) ?_;simp[wb,h0,Ja,hl,Yd]
   simp[wb,h0,Ja,hl]
  simp[wb,h0]
 have Na:zl t.kind=false:=by simp[zl];omega
 by_cases h0:0<d
 .by_cases h1:1<=t.kind
  .by_cases h2:t.kind<=14
   .cases Ja:sEq t.name emS
    .skip
     simp[ntmps50,Ga,Qa,ub,wb,Ea,Na];refine dB [] (by kernel_rfl) ?_
     simp[Ga,Qa,ub,wb,Ea,Na,h0,h1,h2,Ja]
    by_cases hl:t.args.length=1
    .skip
     simp[ntmps50,Ga,Qa,ub,wb,Ea,Na];refine dB [] (by kernel_rfl) ?_
     simp[Ga,Qa,ub,wb,Ea,Na,h0,h1,h2,Ja,hl];refine cq (Fd _ 1 rfl h0) ?_;simp[Ga,Qa,ub,wb,Ea,Na,h0,h1,h2,Ja,hl,pg]
    skip
    simp[ntmps50,Ga,Qa,ub,wb,Ea,Na];refine dB [] (by kernel_rfl) ?_
    simp[Ga,Qa,ub,wb,Ea,Na,h0,h1,h2,Ja,hl]
   skip
   simp[ntmps50,Ga,Qa,ub,wb,Ea,Na];refine dB [] (by kernel_rfl) ?_
   simp[Ga,Qa,ub,wb,Ea,Na,h0,h1,h2]
  skip
  simp[ntmps50,Ga,Qa,ub,wb,Ea,Na];refine dB [] (by kernel_rfl) ?_
  simp[Ga,Qa,ub,wb,Ea,Na,h0,h1]
 skip
 simp[ntmps50,Ga,Qa,ub,wb,Ea,Na];refine dB [] (by kernel_rfl) ?_
 simp[Ga,Qa,ub,wb,Ea,Na,h0]
end Go.Proofs.YtdflkegnmmkkoaaGreatDoor
namespace Go.Proofs.YtdflkegnmmkkoaaGreatDoor
open Go.RowKit _root_.Go.Proofs.Tryz
attribute [local simp] List.replicate List.range List.range.loop
theorem zaC(s:BA)(h:s.size<=20000)(S:ASt):ADet Tryz.prog 53 [Sg s] S (B (zUb s)) S:=by
 refine ADet.intro mixed call53 func53 rfl ?_;unfold zUb
 cases hs:sEq s zFu with
 |true=>simp[ntmps53,hs]
 |false=>
  simp[ntmps53,hs];refine cq (zCE s (zBD h) _) ?_;simp[hs]
theorem zBz(x:Pl)(h:PlSm x)(S:ASt):ADet Tryz.prog 22 [plV x] S (B x.whole) S:=by
 refine ADet.intro mixed call22 func22 rfl ?_;unfold Pl.whole;simp[ntmps22];refine cq (zCE x.name (zBD h.1) _) ?_
 cases hs:zBO x.name with
 |false=>simp[hs]
 |true=>
  simp[hs];refine⟨_,_,zB5 zUb x.path 40 (by omega) 53 [] [] _ (fun s hs L=>zaC s (h.2.2 s hs) _),?_⟩
  simp[hs]
theorem zMc(e:Ex)(S:ASt):ADet Tryz.prog 45 [exV e] S (B (zCC e.op)) S:=by
 refine ADet.intro mixed call45 func45 rfl ?_;unfold zCC
 by_cases h5:e.op=5
 .simp[ntmps45,h5]
 have:(e.op==5)=false:=by simp[h5]
 simp[ntmps45,this]
theorem zaD(op:Int)(S:ASt):ADet Tryz.prog 99 [U op] S (.tup [.agg [B (shP op),I (shL op),I (shM op)],B (shO op)]) S:=by
 refine ADet.intro mixed call99 func99 rfl ?_
 by_cases Ga:op=1
 .simp[ntmps99,Ga,shP,shL,shM,shO]
 by_cases Qa:op=2
 .simp[ntmps99,Qa,shP,shL,shM,shO]
 by_cases ub:op=3
 .simp[ntmps99,ub,shP,shL,shM,shO]
 by_cases wb:op=4
 .simp[ntmps99,wb,shP,shL,shM,shO]
 by_cases fh:op=5
 .simp[ntmps99,fh,shP,shL,shM,shO]
 by_cases gh:op=6
 .simp[ntmps99,gh,shP,shL,shM,shO]
 by_cases jh:op=9
 .simp[ntmps99,jh,shP,shL,shM,shO]
 by_cases Ea:op=10
 .simp[ntmps99,Ea,shP,shL,shM,shO]
 by_cases Re:op=11
 .simp[ntmps99,Re,shP,shL,shM,shO]
 by_cases Se:op=12
 .simp[ntmps99,Se,shP,shL,shM,shO]
 by_cases Te:op=13
 .simp[ntmps99,Te,shP,shL,shM,shO]
 by_cases Rh:op=14
 .simp[ntmps99,Rh,shP,shL,shM,shO]
 by_cases Sh:op=15
 .simp[ntmps99,Sh,shP,shL,shM,shO]
 by_cases Th:op=16
 .simp[ntmps99,Th,shP,shL,shM,shO]
 by_cases Uh:op=17
 .simp[ntmps99,Uh,shP,shL,shM,shO]
 by_cases Ue:op=18
 .simp[ntmps99,Ue,shP,shL,shM,shO]
 by_cases dc:op=19
 .simp[ntmps99,dc,shP,shL,shM,shO]
 by_cases Ve:op=20
 .simp[ntmps99,Ve,shP,shL,shM,shO]
 by_cases Vh:op=24
 .simp[ntmps99,Vh,shP,shL,shM,shO]
 by_cases Wh:op=25
 .simp[ntmps99,Wh,shP,shL,shM,shO]
 by_cases Xh:op=28
 .simp[ntmps99,Xh,shP,shL,shM,shO]
 by_cases Yh:op=32
 .simp[ntmps99,Yh,shP,shL,shM,shO]
 by_cases Zh:op=33
 .simp[ntmps99,Zh,shP,shL,shM,shO]
 by_cases ai:op=34
 .simp[ntmps99,ai,shP,shL,shM,shO]
 by_cases bi:op=35
 .simp[ntmps99,bi,shP,shL,shM,shO]
 by_cases ci:op=36
 .simp[ntmps99,ci,shP,shL,shM,shO]
 have hm:¬(9<=op/\op<=17):=by omega
 by_cases h1:1<=op
 .simp[ntmps99,Ga,Qa,ub,wb,fh,gh,jh,Ea,Re,Se,Te,Rh,Sh,Th,Uh,Ue,dc,Ve,Vh,Wh,Xh,Yh,Zh,ai,bi,ci,shP,shL,shM,shO,hm,h1]
 simp[ntmps99,Ga,Qa,ub,wb,fh,gh,jh,Ea,Re,Se,Te,Rh,Sh,Th,Uh,Ue,dc,Ve,Vh,Wh,Xh,Yh,Zh,ai,bi,ci,shP,shL,shM,shO,hm,h1]
theorem zDS(x:Pl)(S:ASt):ADet Tryz.prog 125 [plV x] S (B (zJ7 x)) S:=by
 refine ADet.intro mixed call125 func125 rfl ?_;unfold zJ7
 cases hs:sEq x.name emS with
 |false=>simp[ntmps125,hs,strs]
 |true=>simp[ntmps125,hs,strs]
attribute [local simp] List.forall_mem_cons List.contains_cons List.contains_nil List.find?
theorem zR2(e:Ex)(h1:e.name.size<=20000)(h2:e.u2.size<=20000)(S:ASt):ADet Tryz.prog 100 [exV e] S (B (labB e.op e.int e.name e.u2)) S:=by
 refine ADet.intro mixed call100 func100 rfl ?_;unfold labB
 have g1:=fun S=>zCE e.name (zBD h1) S
 have g2:=fun S=>zDj e.name (zBD h1) S
 have g3:=fun S=>zDj e.u2 (zBD h2) S
 simp[ntmps100];refine dB [] (by kernel_rfl) ?_
 by_cases Ga:e.op=1
 .simp[Ga]
  cases hn:sEq e.name emS<;>cases hs:sEq e.u2 emS<;>simp[hn,hs]
 by_cases Qa:e.op=2
 .cases h0:(e.int==0)
  .simp[Qa,h0]
   cases hn:sEq e.name emS<;>cases hs:sEq e.u2 emS<;>simp[hn,hs,h0]
  simp[Qa,h0]
  cases hn:sEq e.name emS<;>cases hs:sEq e.u2 emS<;>simp[hn,hs,h0]
 by_cases Ue:e.op=18
 .simp[Ue]
  refine cq (g1 _) ?_;cases hn:zBO e.name<;>cases hs:sEq e.u2 emS<;>simp[hn,hs]
 by_cases dc:e.op=19
 .simp[dc]
  refine cq (g2 _) ?_;cases hn:zCW e.name<;>cases hs:sEq e.u2 emS<;>simp[hn,hs]
 by_cases Ve:e.op=20
 .simp[Ve]
  refine dB [(4,2)] (by kernel_rfl) ?_
  simp;refine cq (g2 _) ?_;simp;refine cq (g3 _) ?_;simp;cases hn:zCW e.name<;>cases hs:zCW e.u2<;>simp[hn,hs]
 simp[Ga,Qa,Ue,dc,Ve];cases hn:sEq e.name emS<;>cases hs:sEq e.u2 emS<;>simp[hn,hs]
theorem zXm(e:Ex)(hp:PlSm e.place)(is:Bool)(S:ASt):ADet Tryz.prog 101 [exV e,B is] S (B (zH3 e.op e.place e.args.length is)) S:=by
 refine ADet.intro mixed call101 func101 rfl ?_;unfold zH3
 cases is with
 |true=>
  simp[ntmps101];refine cq (zBz e.place hp _) ?_
  simp
 |false=>
  by_cases dc:e.op=19
  .have Fd:=fun S=>zB5 zBO e.place.path 6 (by omega) 51 [] [] S (fun s hs L=>zCE s (zBD (hp.2.2 s hs)) _)
   simp only[strs]at Fd
   cases hs:sEq e.place.name emS with
   |false=>simp[ntmps101,dc,hs]
   |true=>
    by_cases hl:e.place.path.length=e.args.length
    .have rg:((e.place.path.length:Int)==(e.args.length:Int))=true:=by simp[hl]
     simp[ntmps101,dc,hs,strs,rg];refine cq (Fd _) ?_;simp[dc,hs,hl]
    have rg:((e.place.path.length:Int)==(e.args.length:Int))=false:=by simp;omega
    simp[ntmps101,dc,hs,strs,rg,hl]
  simp[ntmps101,dc]
  refine cq (zDS e.place _) ?_;simp[dc]
def WEC(e:Ex):Prop:=∀(d:Int) (S:ASt),-1<=d->d<=1000->ADet Tryz.prog 46 [exV e,I d] S (B (e.whole d)) S
theorem zMd(e x:Ex)(hx:WEC x)(d:Int)(h0: -1<=d-1)(h1:d<=1000)(L0 L:List AObj)(S:ASt)(i j:Nat)(hi:L0[i]? =some (.cells [U e.op,I e.int,Sg e.name,Sg e.u2,Sg e.place.name,.p (strs e.place.path),.p (.sl 8 (e.args.map Ex.enc)),I e.pos] 43))(hj:L0[j]? =some (.cells [I d] 3)):
  ADet Tryz.prog 103 [exV x,.ptr 1 i 0,.ptr 1 j 0] (L::L0::S) (B (((e.op==18)|| !zCC x.op)&&x.whole (d-1))) (L::L0::S):=by
 refine ADet.intro mixed call103 func103 rfl ?_
 have g:=fun S=>hx (d-1) S (by omega) (by omega)
 by_cases hop:e.op=18
 .simp[ntmps103,hi,hj,hop,wrd d (by omega)]
  refine cq (g _) ?_;simp[hop]
 have gj:(e.op==18)=false:=by simp[hop]
 simp[ntmps103,hi,hj,gj];refine cq (zMc x _) ?_
 cases hl:zCC x.op with
 |true=>simp[hl,gj]
 |false=>
  simp[hl,gj,hi,hj,wrd d (by omega)]
  refine cq (g _) ?_;simp[hl,gj]
theorem zBG:∀(e:Ex),ExSm e->WEC e:=by
 refine Ex.ind fun e ih wa d S Dc Ta=>?_
 obtain⟨_,hn,Ra,Na,cb,wa⟩:=wa
 rw[zE2];unfold zLS;refine ADet.okA call46 0 6 rfl rfl fun na=>?_
 have ca:=okl na
 have dt:shM e.op<=6:=by
  unfold shM
  repeat' split
  all_goals omega
 have Fd:∀(L0:List AObj) (i j:Nat),L0[i]? =some (.cells [U e.op,I e.int,Sg e.name,Sg e.u2,Sg e.place.name,.p (strs e.place.path),.p (.sl 8 (e.args.map Ex.enc)),I e.pos] 43)->L0[j]? =some (.cells [I d] 3)->0<d->ADet Tryz.prog 102 [.p (.sl 8 (e.args.map Ex.enc)),I (shM e.op),.fn (.func 103) [] [.ptr 0 i 0,.ptr 0 j 0]] (L0::S) (B (zt (fun x=>((e.op==18)|| !zCC x.op)&&x.whole (d-1)) e.args (shM e.op))) (L0::S):=fun L0 i j hi hj hd=>
  zNq _ e.args (shM e.op) (by omega) _ [] [.ptr 0 i 0,.ptr 0 j 0] _ fun x hx L=>by
   simp only[AV.ups,AV.up,List.nil_append];exact zMd e x (ih x hx (wa x hx)) d (by omega) Ta L0 L S i j hi hj
 refine ADet.intro mixed call46 func46 rfl ?_;simp[ntmps46];refine cq (zaD e.op _) ?_
 by_cases h0:1<=d
 .have ga:¬d<1:=by omega
  cases ho:shO e.op with
  |false=>simp[h0,ga,ho]
  |true=>
   simp[h0,ga,ho];refine cq (zR2 e hn Ra _) ?_
   cases hl:labB e.op e.int e.name e.u2 with
   |false=>simp[h0,ga,ho,hl]
   |true=>
    by_cases xe:shL e.op<=e.args.length
    .have Kf:¬(e.args.length:Int)<shL e.op:=by omega
     simp[h0,ga,ho,hl,xe,Kf];refine cq (zXm e Na (shP e.op) _) ?_
     cases hp:zH3 e.op e.place e.args.length (shP e.op)with
     |false=>simp[h0,ga,ho,hl,xe,Kf,hp]
     |true=>
      simp[h0,ga,ho,hl,xe,Kf,hp];refine cq (Fd _ 0 1 rfl rfl (by omega)) ?_
      simp[h0,ga,ho,hl,xe,Kf,hp]
    have Kf:(e.args.length:Int)<shL e.op:=by omega
    simp[h0,ga,ho,hl,xe,Kf]
 have ga:d<1:=by omega
 simp[h0,ga]
theorem zH7(e:Ex)(h:ExSm e)(S:ASt):ADet Tryz.prog 18 [exV e] S (B (zBp e)) S:=by
 refine ADet.intro mixed call18 func18 rfl ?_;unfold zBp;simp[ntmps18];refine cq (zMc e _) ?_
 cases hl:zCC e.op with
 |true=>simp[hl]
 |false=>
  simp[hl];refine cq (zBG e h 40 _ (by omega) (by omega)) ?_
  simp[hl]
theorem zaE(s:BA)(S:ASt):ADet Tryz.prog 207 [Sg s] S (B (sEq s emS)) S:=by
 refine ADet.intro mixed call207 func207 rfl ?_;simp[ntmps207]
def fnN(op:Int):Nat:=if op=1\/op=5\/op=8\/op=11\/op=12 then 51 else if op=2 then 105 else 207
def fnS(op:Int):Nat:=if op=8 then 105 else if op=12 then 51 else 207
theorem fnNC(op:Int)(s:BA)(h:s.size<=20000)(S:ASt):ADet Tryz.prog (fnN op) [Sg s] S (B (fmN op s)) S:=by
 unfold fnN fmN;split
 .exact zCE s (zBD h) S
 split
 .exact zDj s (zBD h) S
 exact zaE s S
theorem fnSC(op:Int)(s:BA)(h:s.size<=20000)(S:ASt):ADet Tryz.prog (fnS op) [Sg s] S (B (fmS op s)) S:=by
 unfold fnS fmS;split
 .exact zDj s (zBD h) S
 split
 .exact zCE s (zBD h) S
 exact zaE s S
theorem zCv(t:Ty)(S:ASt):ADet Tryz.prog 148 [tyV t] S (B (zBl t)) S:=by
 refine ADet.intro mixed call148 func148 rfl ?_;unfold zBl
 cases hk:(t.kind==0)with
 |false=>simp[ntmps148,hk]
 |true=>
  cases hs:sEq t.name emS with
  |false=>simp[ntmps148,hk,hs]
  |true=>simp[ntmps148,hk,hs]
theorem zD8(s:St)(S:ASt):ADet Tryz.prog 185 [stmV s] S (B (zFM s.op s.int)) S:=by
 refine ADet.intro mixed call185 func185 rfl ?_;unfold zFM
 by_cases hop:s.op=12
 .have t:(s.op==12)=true:=by rw[hop];rfl
  by_cases h1:1<=s.int
  .simp[ntmps185,t,hop,h1]
  simp[ntmps185,t,hop,h1]
 have t:(s.op==12)=false:=by rw[beq_eq_false_iff_ne];exact hop
 simp[ntmps185,t,hop]
def fmV(op:Int)(n:Nat):List AV:=[I (zi op),I (zm op n),B (zAE op),B (zp op),B (zA1 op),B (zAp op),B (zAq op),B (zCZ op),.fn (.func (fnN op)) [] [],.fn (.func (fnS op)) [] []]
theorem zEg(s:St)(S:ASt):ADet Tryz.prog 184 [stmV s] S (.tup [.agg (fmV s.op s.names.length),B (fmOk s.op)]) S:=by
 refine ADet.intro mixed call184 func184 rfl ?_
 by_cases Ga:s.op=1
 .simp[ntmps184,Ga,fmV,zi,zm,zAE,zp,zA1,zAp,zAq,zCZ,fmOk,fnN,fnS]
 by_cases Qa:s.op=2
 .simp[ntmps184,Qa,fmV,zi,zm,zAE,zp,zA1,zAp,zAq,zCZ,fmOk,fnN,fnS]
 by_cases ub:s.op=3
 .simp[ntmps184,ub,fmV,zi,zm,zAE,zp,zA1,zAp,zAq,zCZ,fmOk,fnN,fnS]
 by_cases wb:s.op=4
 .simp[ntmps184,wb,fmV,zi,zm,zAE,zp,zA1,zAp,zAq,zCZ,fmOk,fnN,fnS]
 by_cases fh:s.op=5
 .simp[ntmps184,fh,fmV,zi,zm,zAE,zp,zA1,zAp,zAq,zCZ,fmOk,fnN,fnS]
 by_cases gh:s.op=6
 .simp[ntmps184,gh,fmV,zi,zm,zAE,zp,zA1,zAp,zAq,zCZ,fmOk,fnN,fnS]
 by_cases lm:s.op=7
 .simp[ntmps184,lm,fmV,zi,zm,zAE,zp,zA1,zAp,zAq,zCZ,fmOk,fnN,fnS]
 by_cases mm:s.op=8
 .simp[ntmps184,mm,fmV,zi,zm,zAE,zp,zA1,zAp,zAq,zCZ,fmOk,fnN,fnS]
 by_cases jh:s.op=9
 .simp[ntmps184,jh,fmV,zi,zm,zAE,zp,zA1,zAp,zAq,zCZ,fmOk,fnN,fnS]
 by_cases Re:s.op=11
 .simp[ntmps184,Re,fmV,zi,zm,zAE,zp,zA1,zAp,zAq,zCZ,fmOk,fnN,fnS]
 by_cases Se:s.op=12
 .simp[ntmps184,Se,fmV,zi,zm,zAE,zp,zA1,zAp,zAq,zCZ,fmOk,fnN,fnS]
 by_cases Te:s.op=13
 .simp[ntmps184,Te,fmV,zi,zm,zAE,zp,zA1,zAp,zAq,zCZ,fmOk,fnN,fnS]
 skip
 by_cases Ea:s.op=10
 .simp[ntmps184,Ea]
  refine dB [(1,4)] (by kernel_rfl) ?_
  simp[Ea,fmV,zi,zm,zAE,zp,zA1,zAp,zAq,zCZ,fmOk,fnN,fnS,strs]
 have ho:fmOk s.op=false:=by
  unfold fmOk;rw[Bool.and_eq_false_iff,decide_eq_false_iff_not,decide_eq_false_iff_not];omega
 simp[ntmps184,Ga,Qa,ub,wb,fh,gh,lm,mm,jh,Ea,Re,Se,Te,fmV,zi,zm,zAE,zp,zA1,zAp,zAq,zCZ,ho,fnN,fnS]
def WSC(s:St):Prop:=∀(d:Int) (S:ASt),-1<=d->d<=1000->ADet Tryz.prog 152 [stmV s,I d] S (B (s.whole d)) S
theorem zMe(x:St)(hx:WSC x)(d:Int)(h0: -1<=d-1)(h1:d<=1000)(S:ASt)(n j:Nat)(hj:get2 S n j=some (.cells [I d] 3)):ADet Tryz.prog 186 [stmV x,.ptr n j 0] S (B (x.whole (d-1))) S:=by
 refine ADet.intro mixed call186 func186 rfl ?_;simp[ntmps186,hj,wrd d (by omega)]
 refine cq (hx (d-1) _ (by omega) (by omega)) ?_
 simp
theorem zBd(l:List St)(hx:∀x∈l,WSC x)(hm:l.length<=20000)(d:Int)(h0: -1<=d-1)(h1:d<=1000)(S:ASt)(n j:Nat)(hj:get2 S n j=some (.cells [I d] 3)):
  ADet Tryz.prog 150 [.p (.sl 15 (l.map St.enc)),I l.length,.fn (.func 186) [] [.ptr n j 0]] S (B (l.all fun x=>x.whole (d-1))) S:=by
 have:=zNr (fun x=>x.whole (d-1)) l l.length (by omega) 186 [] [.ptr n j 0] S fun x hm L=>by
  simp only[AV.ups,AV.up,List.nil_append];exact zMe x (hx x hm) d h0 h1 (L::S) (n+1) j hj
 rw[zBx (Int.le_refl _)]at this;exact this
theorem zMf(op:Int)(k:Nat)(x:Ex)(hx:WEC x)(d:Int)(h0: -1<=d-1)(h1:d<=1000)(S:ASt)(n i j:Nat)(hi:get2 S n i=some (.cells (fmV op k) 231))(hj:get2 S n j=some (.cells [I d] 3)):
  ADet Tryz.prog 187 [exV x,.ptr n i 0,.ptr n j 0] S (B ((zCZ op|| !zCC x.op)&&x.whole (d-1))) S:=by
 refine ADet.intro mixed call187 func187 rfl ?_
 have g:=fun S=>hx (d-1) S (by omega) (by omega)
 cases hf:zCZ op with
 |true=>
  simp[ntmps187,hi,hj,fmV,hf,wrd d (by omega)]
  refine cq (g _) ?_
  simp
 |false=>
  simp[ntmps187,hi,hj,fmV,hf];refine cq (zMc x _) ?_
  cases hl:zCC x.op with
  |true=>simp[hl]
  |false=>
   simp[hl,hi,hj,fmV,hf,wrd d (by omega)]
   refine cq (g _) ?_;simp
theorem zD9(op:Int)(k:Nat)(l:List Ex)(hx:∀x∈l,WEC x)(d:Int)(h0: -1<=d-1)(h1:d<=1000)(S:ASt)(n i j:Nat)(hi:get2 S n i=some (.cells (fmV op k) 231))(hj:get2 S n j=some (.cells [I d] 3)):
  ADet Tryz.prog 102 [.p (.sl 8 (l.map Ex.enc)),I 6,.fn (.func 187) [] [.ptr n i 0,.ptr n j 0]] S (B (exsB op l d)) S:=
 zNq (fun x=>(zCZ op|| !zCC x.op)&&x.whole (d-1)) l 6 (by omega) 187 [] [.ptr n i 0,.ptr n j 0] S fun x hm L=>by
  simp only[AV.ups,AV.up,List.nil_append];exact zMf op k x (hx x hm) d h0 h1 (L::S) (n+1) i j hi hj
theorem zMg(a:Ar)(hv:a.variant.size<=20000)(hn:a.name.size<=20000)(hm:a.body.length<=20000)(hx:∀x∈a.body,WSC x)(d:Int)(h0: -1<=d-1)(h1:d<=1000)(S:ASt)(n w j:Nat)(hw:get2 S n w=some (.cells [.fn (.func 186) [] [.ptr 0 j 0]] 202))(hj:get2 S n j=some (.cells [I d] 3)):
  ADet Tryz.prog 189 [arV a,.ptr n w 0] S (B (a.whole (d-1))) S:=by
 refine ADet.intro mixed call189 func189 rfl ?_;unfold Ar.whole
 have g1:=fun S=>zDj a.variant (zBD hv) S
 have g2:=fun S=>zCE a.name (zBD hn) S
 have g3:=fun L=>zBd a.body hx hm d h0 h1 (L::S) (n+1) j hj
 simp[ntmps189];refine cq (g1 _) ?_
 cases ht:zCW a.variant with
 |false=>simp[ht]
 |true=>
  cases he:sEq a.name emS with
  |true=>
   simp[ht,he,hw];refine cq (g3 _) ?_
   simp
  |false=>
   simp[ht,he];refine cq (g2 _) ?_
   cases hb:zBO a.name with
   |false=>simp[hb]
   |true=>
    simp[hb,hw];refine cq (g3 _) ?_;simp
theorem zFY(l:List Ar)(hs:∀a∈l,a.variant.size<=20000/\a.name.size<=20000/\a.body.length<=20000)(hx:∀a∈l,∀x∈a.body,WSC x)(d:Int)(h0: -1<=d-1)(h1:d<=1000)(S:ASt)(n w j:Nat)(hw:get2 S n w=some (.cells [.fn (.func 186) [] [.ptr 0 j 0]] 202))(hj:get2 S n j=some (.cells [I d] 3)):
  ADet Tryz.prog 188 [.p (.sl 3 (l.map Ar.enc)),I 6,.fn (.func 189) [] [.ptr n w 0]] S (B (zt (fun a=>a.whole (d-1)) l 6)) S:=
 zXe (fun a=>a.whole (d-1)) l 6 (by omega) 189 [] [.ptr n w 0] S fun x hm L=>by
  simp only[AV.ups,AV.up,List.nil_append];exact zMg x (hs x hm).1 (hs x hm).2.1 (hs x hm).2.2 (hx x hm) d h0 h1 (L::S) (n+1) w j hw hj
end Go.Proofs.YtdflkegnmmkkoaaGreatDoor
