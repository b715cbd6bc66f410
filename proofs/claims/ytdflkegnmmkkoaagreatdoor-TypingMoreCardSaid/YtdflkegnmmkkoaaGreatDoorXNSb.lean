/- A part of the proof. -/
import Derived.Test.YtdflkegnmmkkoaaGreatDoorXMWp
set_option linter.unusedVariables false
set_option linter.unusedSimpArgs false
set_option maxRecDepth 100000
set_option maxHeartbeats 32000000
namespace Go.Proofs.YtdflkegnmmkkoaaGreatDoor
open Go.RowKit _root_.Go.Proofs.Tryz
theorem zVJ(s:BA)(hs:s.size<=maxLen)(w:World)(h:Tab w):
  Calls Tryz.prog 51 #[.string s] w fun e w'=>e= .returned (.bool (zBR s))/\Below w.heap.size w w':=by
 have Hn:=Lib.hid (zLc zEW 109 #[] s hs call109 (fun b w=>zIK b w) w h)
 clear h;unfold zBR
 go_enter func51,ntmps51
 go_wp2_with (go_at_call 108;refine Hn.out.mono ?_;rintro e w1 ⟨rfl,hb⟩)
 go_ret
 exact⟨rfl,hb⟩
theorem zMm:Tryz.prog.globalNamed "strings.asciiSpace" =some 0:=by kernel_rfl
theorem zKV:((0:Nat),Lib.asciiSpaceTab.map fun z=>Value.int .u8 z)∈zGg:=by simp[zGg]
theorem zSI{Pr:Prot}{φ:Fi2}{s:BA}{xs:Array Value}(h:RL Pr φ [Sg s] xs):xs= #[.string s]:=zGl (l:=[.string s]) h
theorem zCL(s:BA)(hs:s.size<=maxLen)(S:ASt):ADet Tryz.prog 51 [Sg s] S (B (zBR s)) S:=
 ADet.of_calls rfl call51 fun Pr φ xs w da hR=>by
  obtain rfl:=zSI da
  exact zVJ s hs w (zR9 hR zMm zKV)
theorem zDx(s:BA)(hs:s.size<=maxLen)(S:ASt):ADet Tryz.prog 105 [Sg s] S (B (zCf s)) S:=
 ADet.of_calls rfl call105 fun Pr φ xs w da hR=>by
  obtain rfl:=zSI da
  exact zVA s hs w (zR9 hR zMm zKV)
attribute [local simp] List.replicate List.range List.range.loop List.forall_mem_cons List.contains_cons List.contains_nil List.find?
theorem zBI{n:Nat}(h:n<=20000):n<=maxLen:=by unfold maxLen;omega
theorem wrd(d:Int)(h: -1000<=d/\d<=1000):IntKind.i64.wrap (d-1)=d-1:=IntWalk.i64_in _ (by omega)
def WTC(t:Ty):Prop:=∀(d:Int) (S:ASt),-1<=d->d<=1000->ADet Tryz.prog 50 [tyV t,I d] S (B (t.whole d)) S
theorem zMn(x:Ty)(hx:WTC x)(d:Int)(h0: -1<=d-1)(h1:d<=1000)(L0 L:List AObj)(S:ASt)(j:Nat)(hj:L0[j]? =some (.cells [I d] 3)):ADet Tryz.prog 107 [tyV x,.ptr 1 j 0] (L::L0::S) (B (x.whole (d-1))) (L::L0::S):=by
 refine ADet.intro mixed call107 func107 rfl ?_;simp[ntmps107,hj,wrd d (by omega)]
 refine cq (hx (d-1) _ (by omega) (by omega)) ?_
 simp
theorem zA7:∀(t:Ty),TySm t->WTC t:=by
 refine Ty.ind fun t ih xa d S Cc Ua=>?_
 obtain⟨_,hn,cb,xa⟩:=xa
 have Dd:∀(L0:List AObj) (j:Nat),L0[j]? =some (.cells [I d] 3)->0<d->ADet Tryz.prog 106 [.p (.sl 3 (t.args.map Ty.enc)),I 1,.fn (.func 107) [] [.ptr 0 j 0]] (L0::S) (B (zv (fun x=>x.whole (d-1)) t.args 1)) (L0::S):=fun L0 j hj hd=>
  zVD _ t.args 1 (by omega) _ [] [.ptr 0 j 0] _ fun x hx L=>by
   simp only[AV.ups,AV.up,List.nil_append];exact zMn x (ih x hx (xa x hx)) d (by omega) Ua L0 L S j hj
 have Qb:=fun S=>zDx t.name (zBI hn) S
 have Xd:∀(p:Ty->Bool),zv p [] 1=true:=fun p=>by simp[zv]
 have gg:∀(p:Ty->Bool),t.args.length=1->zv p t.args 1=t.args.all p:=fun p h=>zB4 (by omega)
 rw[zHc];refine ADet.intro mixed call50 func50 rfl ?_
 by_cases Fa:t.kind=1
 .by_cases h0:0<d
  .cases Ha:sEq t.name emS
   .simp[ntmps50,Fa,Ha]
    refine dB [] (by kernel_rfl) ?_
    simp[Fa,h0,Ha,zl]
   by_cases hl:t.args=[]
   .simp[ntmps50,Fa,Ha]
    refine dB [] (by kernel_rfl) ?_
    simp[Fa,h0,Ha,hl,zl]
    have Zc:=Dd
    simp only[hl,List.map_nil]at Zc;refine cq (Zc _ 1 rfl h0) ?_;simp[Fa,h0,Ha,hl,zl,Xd]
   simp[ntmps50,Fa,Ha]
   refine dB [] (by kernel_rfl) ?_
   simp[Fa,h0,Ha,hl,zl]
  simp[ntmps50,Fa]
  refine dB [] (by kernel_rfl) ?_
  simp[Fa,h0,zl]
 by_cases Qa:t.kind=2
 .by_cases h0:0<d
  .cases Ha:sEq t.name emS
   .simp[ntmps50,Qa,Ha]
    refine dB [] (by kernel_rfl) ?_
    simp[Qa,h0,Ha,zl]
   by_cases hl:t.args=[]
   .simp[ntmps50,Qa,Ha]
    refine dB [] (by kernel_rfl) ?_
    simp[Qa,h0,Ha,hl,zl]
    have Zc:=Dd
    simp only[hl,List.map_nil]at Zc;refine cq (Zc _ 1 rfl h0) ?_;simp[Qa,h0,Ha,hl,zl,Xd]
   simp[ntmps50,Qa,Ha]
   refine dB [] (by kernel_rfl) ?_
   simp[Qa,h0,Ha,hl,zl]
  simp[ntmps50,Qa]
  refine dB [] (by kernel_rfl) ?_
  simp[Qa,h0,zl]
 by_cases mb:t.kind=3
 .by_cases h0:0<d
  .cases Ha:sEq t.name emS
   .simp[ntmps50,mb,Ha]
    refine dB [] (by kernel_rfl) ?_
    simp[mb,h0,Ha,zl]
   by_cases hl:t.args=[]
   .simp[ntmps50,mb,Ha]
    refine dB [] (by kernel_rfl) ?_
    simp[mb,h0,Ha,hl,zl]
    have Zc:=Dd
    simp only[hl,List.map_nil]at Zc;refine cq (Zc _ 1 rfl h0) ?_;simp[mb,h0,Ha,hl,zl,Xd]
   simp[ntmps50,mb,Ha]
   refine dB [] (by kernel_rfl) ?_
   simp[mb,h0,Ha,hl,zl]
  simp[ntmps50,mb]
  refine dB [] (by kernel_rfl) ?_
  simp[mb,h0,zl]
 by_cases Ea:t.kind=10
 .by_cases h0:0<d
  .cases Ha:sEq t.name emS
   .simp[ntmps50,Ea,Ha]
    refine dB [] (by kernel_rfl) ?_
    simp[Ea,h0,Ha,zl]
   by_cases hl:t.args=[]
   .simp[ntmps50,Ea,Ha]
    refine dB [] (by kernel_rfl) ?_
    simp[Ea,h0,Ha,hl,zl]
    have Zc:=Dd
    simp only[hl,List.map_nil]at Zc;refine cq (Zc _ 1 rfl h0) ?_;simp[Ea,h0,Ha,hl,zl,Xd]
   simp[ntmps50,Ea,Ha]
   refine dB [] (by kernel_rfl) ?_
   simp[Ea,h0,Ha,hl,zl]
  simp[ntmps50,Ea]
  refine dB [] (by kernel_rfl) ?_
  simp[Ea,h0,zl]
 skip
 by_cases vb:t.kind=4
 .simp[ntmps50,vb]
  refine dB [] (by kernel_rfl) ?_
  simp[vb,zl];refine cq (Qb _) ?_
  by_cases h0:0<d
  .cases Ha:zCf t.name
   .simp[vb,h0,Ha]
   by_cases hl:t.args=[]
   .simp[vb,h0,Ha,hl]
    have Zc:=Dd
    simp only[hl,List.map_nil]at Zc;refine cq (Zc _ 1 rfl h0) ?_;simp[vb,h0,Ha,hl,Xd]
   simp[vb,h0,Ha,hl]
  simp[vb,h0]
 have Ma:zl t.kind=false:=by simp[zl];omega
 by_cases h0:0<d
 .by_cases h1:1<=t.kind
  .by_cases h2:t.kind<=14
   .cases Ha:sEq t.name emS
    .skip
     simp[ntmps50,Fa,Qa,mb,vb,Ea,Ma];refine dB [] (by kernel_rfl) ?_
     simp[Fa,Qa,mb,vb,Ea,Ma,h0,h1,h2,Ha]
    by_cases hl:t.args.length=1
    .skip
     simp[ntmps50,Fa,Qa,mb,vb,Ea,Ma];refine dB [] (by kernel_rfl) ?_
     simp[Fa,Qa,mb,vb,Ea,Ma,h0,h1,h2,Ha,hl];refine cq (Dd _ 1 rfl h0) ?_;simp[Fa,Qa,mb,vb,Ea,Ma,h0,h1,h2,Ha,hl,gg]
    skip
    simp[ntmps50,Fa,Qa,mb,vb,Ea,Ma];refine dB [] (by kernel_rfl) ?_
    simp[Fa,Qa,mb,vb,Ea,Ma,h0,h1,h2,Ha,hl]
   skip
   simp[ntmps50,Fa,Qa,mb,vb,Ea,Ma];refine dB [] (by kernel_rfl) ?_
   simp[Fa,Qa,mb,vb,Ea,Ma,h0,h1,h2]
  skip
  simp[ntmps50,Fa,Qa,mb,vb,Ea,Ma];refine dB [] (by kernel_rfl) ?_
  simp[Fa,Qa,mb,vb,Ea,Ma,h0,h1]
 skip
 simp[ntmps50,Fa,Qa,mb,vb,Ea,Ma];refine dB [] (by kernel_rfl) ?_
 simp[Fa,Qa,mb,vb,Ea,Ma,h0]
end Go.Proofs.YtdflkegnmmkkoaaGreatDoor
namespace Go.Proofs.YtdflkegnmmkkoaaGreatDoor
open Go.RowKit _root_.Go.Proofs.Tryz
attribute [local simp] List.replicate List.range List.range.loop
theorem zav(s:BA)(h:s.size<=20000)(S:ASt):ADet Tryz.prog 53 [Sg s] S (B (zVC s)) S:=by
 refine ADet.intro mixed call53 func53 rfl ?_;unfold zVC
 cases hs:sEq s zGB with
 |true=>simp[ntmps53,hs]
 |false=>
  simp[ntmps53,hs];refine cq (zCL s (zBI h) _) ?_;simp[hs]
theorem zB6(x:Pl)(h:PlSm x)(S:ASt):ADet Tryz.prog 22 [plV x] S (B x.whole) S:=by
 refine ADet.intro mixed call22 func22 rfl ?_;unfold Pl.whole;simp[ntmps22];refine cq (zCL x.name (zBI h.1) _) ?_
 cases hs:zBR x.name with
 |false=>simp[hs]
 |true=>
  simp[hs];refine⟨_,_,zCC zVC x.path 40 (by omega) 53 [] [] _ (fun s hs L=>zav s (h.2.2 s hs) _),?_⟩
  simp[hs]
theorem zPP(e:Ex)(S:ASt):ADet Tryz.prog 45 [exV e] S (B (zCW e.op)) S:=by
 refine ADet.intro mixed call45 func45 rfl ?_;unfold zCW
 by_cases h5:e.op=5
 .simp[ntmps45,h5]
 have:(e.op==5)=false:=by simp[h5]
 simp[ntmps45,this]
theorem zaw(op:Int)(S:ASt):ADet Tryz.prog 99 [U op] S (.tup [.agg [B (shP op),I (shL op),I (shM op)],B (shO op)]) S:=by
 refine ADet.intro mixed call99 func99 rfl ?_
 by_cases Fa:op=1
 .simp[ntmps99,Fa,shP,shL,shM,shO]
 by_cases Qa:op=2
 .simp[ntmps99,Qa,shP,shL,shM,shO]
 by_cases mb:op=3
 .simp[ntmps99,mb,shP,shL,shM,shO]
 by_cases vb:op=4
 .simp[ntmps99,vb,shP,shL,shM,shO]
 by_cases Zg:op=5
 .simp[ntmps99,Zg,shP,shL,shM,shO]
 by_cases ah:op=6
 .simp[ntmps99,ah,shP,shL,shM,shO]
 by_cases bh:op=9
 .simp[ntmps99,bh,shP,shL,shM,shO]
 by_cases Ea:op=10
 .simp[ntmps99,Ea,shP,shL,shM,shO]
 by_cases Le:op=11
 .simp[ntmps99,Le,shP,shL,shM,shO]
 by_cases Me:op=12
 .simp[ntmps99,Me,shP,shL,shM,shO]
 by_cases Oe:op=13
 .simp[ntmps99,Oe,shP,shL,shM,shO]
 by_cases Qh:op=14
 .simp[ntmps99,Qh,shP,shL,shM,shO]
 by_cases Rh:op=15
 .simp[ntmps99,Rh,shP,shL,shM,shO]
 by_cases Sh:op=16
 .simp[ntmps99,Sh,shP,shL,shM,shO]
 by_cases Th:op=17
 .simp[ntmps99,Th,shP,shL,shM,shO]
 by_cases Pe:op=18
 .simp[ntmps99,Pe,shP,shL,shM,shO]
 by_cases bc:op=19
 .simp[ntmps99,bc,shP,shL,shM,shO]
 by_cases Qe:op=20
 .simp[ntmps99,Qe,shP,shL,shM,shO]
 by_cases Uh:op=24
 .simp[ntmps99,Uh,shP,shL,shM,shO]
 by_cases Vh:op=25
 .simp[ntmps99,Vh,shP,shL,shM,shO]
 by_cases Wh:op=28
 .simp[ntmps99,Wh,shP,shL,shM,shO]
 by_cases Xh:op=32
 .simp[ntmps99,Xh,shP,shL,shM,shO]
 by_cases Yh:op=33
 .simp[ntmps99,Yh,shP,shL,shM,shO]
 by_cases Zh:op=34
 .simp[ntmps99,Zh,shP,shL,shM,shO]
 by_cases ai:op=35
 .simp[ntmps99,ai,shP,shL,shM,shO]
 by_cases bi:op=36
 .simp[ntmps99,bi,shP,shL,shM,shO]
 have hm:¬(9<=op/\op<=17):=by omega
 by_cases h1:1<=op
 .simp[ntmps99,Fa,Qa,mb,vb,Zg,ah,bh,Ea,Le,Me,Oe,Qh,Rh,Sh,Th,Pe,bc,Qe,Uh,Vh,Wh,Xh,Yh,Zh,ai,bi,shP,shL,shM,shO,hm,h1]
 simp[ntmps99,Fa,Qa,mb,vb,Zg,ah,bh,Ea,Le,Me,Oe,Qh,Rh,Sh,Th,Pe,bc,Qe,Uh,Vh,Wh,Xh,Yh,Zh,ai,bi,shP,shL,shM,shO,hm,h1]
theorem zDd(x:Pl)(S:ASt):ADet Tryz.prog 125 [plV x] S (B (zKR x)) S:=by
 refine ADet.intro mixed call125 func125 rfl ?_;unfold zKR
 cases hs:sEq x.name emS with
 |false=>simp[ntmps125,hs,strs]
 |true=>simp[ntmps125,hs,strs]
attribute [local simp] List.forall_mem_cons List.contains_cons List.contains_nil List.find?
theorem zSJ(e:Ex)(h1:e.name.size<=20000)(h2:e.u2.size<=20000)(S:ASt):ADet Tryz.prog 100 [exV e] S (B (labB e.op e.int e.name e.u2)) S:=by
 refine ADet.intro mixed call100 func100 rfl ?_;unfold labB
 have g1:=fun S=>zCL e.name (zBI h1) S
 have g2:=fun S=>zDx e.name (zBI h1) S
 have g3:=fun S=>zDx e.u2 (zBI h2) S
 simp[ntmps100];refine dB [] (by kernel_rfl) ?_
 by_cases Fa:e.op=1
 .simp[Fa]
  cases hn:sEq e.name emS<;>cases hs:sEq e.u2 emS<;>simp[hn,hs]
 by_cases Qa:e.op=2
 .cases h0:(e.int==0)
  .simp[Qa,h0]
   cases hn:sEq e.name emS<;>cases hs:sEq e.u2 emS<;>simp[hn,hs,h0]
  simp[Qa,h0]
  cases hn:sEq e.name emS<;>cases hs:sEq e.u2 emS<;>simp[hn,hs,h0]
 by_cases Pe:e.op=18
 .simp[Pe]
  refine cq (g1 _) ?_;cases hn:zBR e.name<;>cases hs:sEq e.u2 emS<;>simp[hn,hs]
 by_cases bc:e.op=19
 .simp[bc]
  refine cq (g2 _) ?_;cases hn:zCf e.name<;>cases hs:sEq e.u2 emS<;>simp[hn,hs]
 by_cases Qe:e.op=20
 .simp[Qe]
  refine dB [(4,2)] (by kernel_rfl) ?_
  simp;refine cq (g2 _) ?_;simp;refine cq (g3 _) ?_;simp;cases hn:zCf e.name<;>cases hs:zCf e.u2<;>simp[hn,hs]
 simp[Fa,Qa,Pe,bc,Qe];cases hn:sEq e.name emS<;>cases hs:sEq e.u2 emS<;>simp[hn,hs]
theorem zYZ(e:Ex)(hp:PlSm e.place)(is:Bool)(S:ASt):ADet Tryz.prog 101 [exV e,B is] S (B (zIP e.op e.place e.args.length is)) S:=by
 refine ADet.intro mixed call101 func101 rfl ?_;unfold zIP
 cases is with
 |true=>
  simp[ntmps101];refine cq (zB6 e.place hp _) ?_
  simp
 |false=>
  by_cases bc:e.op=19
  .have Dd:=fun S=>zCC zBR e.place.path 6 (by omega) 51 [] [] S (fun s hs L=>zCL s (zBI (hp.2.2 s hs)) _)
   simp only[strs]at Dd
   cases hs:sEq e.place.name emS with
   |false=>simp[ntmps101,bc,hs]
   |true=>
    by_cases hl:e.place.path.length=e.args.length
    .have mg:((e.place.path.length:Int)==(e.args.length:Int))=true:=by simp[hl]
     simp[ntmps101,bc,hs,strs,mg];refine cq (Dd _) ?_;simp[bc,hs,hl]
    have mg:((e.place.path.length:Int)==(e.args.length:Int))=false:=by simp;omega
    simp[ntmps101,bc,hs,strs,mg,hl]
  simp[ntmps101,bc]
  refine cq (zDd e.place _) ?_;simp[bc]
def WEC(e:Ex):Prop:=∀(d:Int) (S:ASt),-1<=d->d<=1000->ADet Tryz.prog 46 [exV e,I d] S (B (e.whole d)) S
theorem zMo(e x:Ex)(hx:WEC x)(d:Int)(h0: -1<=d-1)(h1:d<=1000)(L0 L:List AObj)(S:ASt)(i j:Nat)(hi:L0[i]? =some (.cells [U e.op,I e.int,Sg e.name,Sg e.u2,Sg e.place.name,.p (strs e.place.path),.p (.sl 8 (e.args.map Ex.enc)),I e.pos] 43))(hj:L0[j]? =some (.cells [I d] 3)):
  ADet Tryz.prog 103 [exV x,.ptr 1 i 0,.ptr 1 j 0] (L::L0::S) (B (((e.op==18)|| !zCW x.op)&&x.whole (d-1))) (L::L0::S):=by
 refine ADet.intro mixed call103 func103 rfl ?_
 have g:=fun S=>hx (d-1) S (by omega) (by omega)
 by_cases hop:e.op=18
 .simp[ntmps103,hi,hj,hop,wrd d (by omega)]
  refine cq (g _) ?_;simp[hop]
 have ij:(e.op==18)=false:=by simp[hop]
 simp[ntmps103,hi,hj,ij];refine cq (zPP x _) ?_
 cases hl:zCW x.op with
 |true=>simp[hl,ij]
 |false=>
  simp[hl,ij,hi,hj,wrd d (by omega)]
  refine cq (g _) ?_;simp[hl,ij]
theorem zBZ:∀(e:Ex),ExSm e->WEC e:=by
 refine Ex.ind fun e ih xa d S Cc Ua=>?_
 obtain⟨_,hn,Ra,Ma,cb,xa⟩:=xa
 rw[zDu];unfold zLh;refine ADet.okA call46 0 6 rfl rfl fun na=>?_
 have ca:=okl na
 have Is:shM e.op<=6:=by
  unfold shM
  repeat' split
  all_goals omega
 have Dd:∀(L0:List AObj) (i j:Nat),L0[i]? =some (.cells [U e.op,I e.int,Sg e.name,Sg e.u2,Sg e.place.name,.p (strs e.place.path),.p (.sl 8 (e.args.map Ex.enc)),I e.pos] 43)->L0[j]? =some (.cells [I d] 3)->0<d->ADet Tryz.prog 102 [.p (.sl 8 (e.args.map Ex.enc)),I (shM e.op),.fn (.func 103) [] [.ptr 0 i 0,.ptr 0 j 0]] (L0::S) (B (zv (fun x=>((e.op==18)|| !zCW x.op)&&x.whole (d-1)) e.args (shM e.op))) (L0::S):=fun L0 i j hi hj hd=>
  zN1 _ e.args (shM e.op) (by omega) _ [] [.ptr 0 i 0,.ptr 0 j 0] _ fun x hx L=>by
   simp only[AV.ups,AV.up,List.nil_append];exact zMo e x (ih x hx (xa x hx)) d (by omega) Ua L0 L S i j hi hj
 refine ADet.intro mixed call46 func46 rfl ?_;simp[ntmps46];refine cq (zaw e.op _) ?_
 by_cases h0:1<=d
 .have ga:¬d<1:=by omega
  cases ho:shO e.op with
  |false=>simp[h0,ga,ho]
  |true=>
   simp[h0,ga,ho];refine cq (zSJ e hn Ra _) ?_
   cases hl:labB e.op e.int e.name e.u2 with
   |false=>simp[h0,ga,ho,hl]
   |true=>
    by_cases te:shL e.op<=e.args.length
    .have Af:¬(e.args.length:Int)<shL e.op:=by omega
     simp[h0,ga,ho,hl,te,Af];refine cq (zYZ e Ma (shP e.op) _) ?_
     cases hp:zIP e.op e.place e.args.length (shP e.op)with
     |false=>simp[h0,ga,ho,hl,te,Af,hp]
     |true=>
      simp[h0,ga,ho,hl,te,Af,hp];refine cq (Dd _ 0 1 rfl rfl (by omega)) ?_
      simp[h0,ga,ho,hl,te,Af,hp]
    have Af:(e.args.length:Int)<shL e.op:=by omega
    simp[h0,ga,ho,hl,te,Af]
 have ga:d<1:=by omega
 simp[h0,ga]
theorem zax(s:BA)(S:ASt):ADet Tryz.prog 207 [Sg s] S (B (sEq s emS)) S:=by
 refine ADet.intro mixed call207 func207 rfl ?_;simp[ntmps207]
def fnN(op:Int):Nat:=if op=1\/op=5\/op=8\/op=11\/op=12 then 51 else if op=2 then 105 else 207
def fnS(op:Int):Nat:=if op=8 then 105 else if op=12 then 51 else 207
theorem fnNC(op:Int)(s:BA)(h:s.size<=20000)(S:ASt):ADet Tryz.prog (fnN op) [Sg s] S (B (fmN op s)) S:=by
 unfold fnN fmN;split
 .exact zCL s (zBI h) S
 split
 .exact zDx s (zBI h) S
 exact zax s S
theorem fnSC(op:Int)(s:BA)(h:s.size<=20000)(S:ASt):ADet Tryz.prog (fnS op) [Sg s] S (B (fmS op s)) S:=by
 unfold fnS fmS;split
 .exact zDx s (zBI h) S
 split
 .exact zCL s (zBI h) S
 exact zax s S
theorem zC6(t:Ty)(S:ASt):ADet Tryz.prog 148 [tyV t] S (B (zBt t)) S:=by
 refine ADet.intro mixed call148 func148 rfl ?_;unfold zBt
 cases hk:(t.kind==0)with
 |false=>simp[ntmps148,hk]
 |true=>
  cases hs:sEq t.name emS with
  |false=>simp[ntmps148,hk,hs]
  |true=>simp[ntmps148,hk,hs]
theorem zEM(s:St)(S:ASt):ADet Tryz.prog 185 [stmV s] S (B (zFa s.op s.int)) S:=by
 refine ADet.intro mixed call185 func185 rfl ?_;unfold zFa
 by_cases hop:s.op=12
 .have t:(s.op==12)=true:=by rw[hop];rfl
  by_cases h1:1<=s.int
  .simp[ntmps185,t,hop,h1]
  simp[ntmps185,t,hop,h1]
 have t:(s.op==12)=false:=by rw[beq_eq_false_iff_ne];exact hop
 simp[ntmps185,t,hop]
def fmV(op:Int)(n:Nat):List AV:=[I (zi op),I (zn op n),B (zAJ op),B (zq op),B (zA4 op),B (zAr op),B (zAs op),B (zCj op),.fn (.func (fnN op)) [] [],.fn (.func (fnS op)) [] []]
theorem zEs(s:St)(S:ASt):ADet Tryz.prog 184 [stmV s] S (.tup [.agg (fmV s.op s.names.length),B (fmOk s.op)]) S:=by
 refine ADet.intro mixed call184 func184 rfl ?_
 by_cases Fa:s.op=1
 .simp[ntmps184,Fa,fmV,zi,zn,zAJ,zq,zA4,zAr,zAs,zCj,fmOk,fnN,fnS]
 by_cases Qa:s.op=2
 .simp[ntmps184,Qa,fmV,zi,zn,zAJ,zq,zA4,zAr,zAs,zCj,fmOk,fnN,fnS]
 by_cases mb:s.op=3
 .simp[ntmps184,mb,fmV,zi,zn,zAJ,zq,zA4,zAr,zAs,zCj,fmOk,fnN,fnS]
 by_cases vb:s.op=4
 .simp[ntmps184,vb,fmV,zi,zn,zAJ,zq,zA4,zAr,zAs,zCj,fmOk,fnN,fnS]
 by_cases Zg:s.op=5
 .simp[ntmps184,Zg,fmV,zi,zn,zAJ,zq,zA4,zAr,zAs,zCj,fmOk,fnN,fnS]
 by_cases ah:s.op=6
 .simp[ntmps184,ah,fmV,zi,zn,zAJ,zq,zA4,zAr,zAs,zCj,fmOk,fnN,fnS]
 by_cases dm:s.op=7
 .simp[ntmps184,dm,fmV,zi,zn,zAJ,zq,zA4,zAr,zAs,zCj,fmOk,fnN,fnS]
 by_cases gm:s.op=8
 .simp[ntmps184,gm,fmV,zi,zn,zAJ,zq,zA4,zAr,zAs,zCj,fmOk,fnN,fnS]
 by_cases bh:s.op=9
 .simp[ntmps184,bh,fmV,zi,zn,zAJ,zq,zA4,zAr,zAs,zCj,fmOk,fnN,fnS]
 by_cases Le:s.op=11
 .simp[ntmps184,Le,fmV,zi,zn,zAJ,zq,zA4,zAr,zAs,zCj,fmOk,fnN,fnS]
 by_cases Me:s.op=12
 .simp[ntmps184,Me,fmV,zi,zn,zAJ,zq,zA4,zAr,zAs,zCj,fmOk,fnN,fnS]
 by_cases Oe:s.op=13
 .simp[ntmps184,Oe,fmV,zi,zn,zAJ,zq,zA4,zAr,zAs,zCj,fmOk,fnN,fnS]
 skip
 by_cases Ea:s.op=10
 .simp[ntmps184,Ea]
  refine dB [(1,4)] (by kernel_rfl) ?_
  simp[Ea,fmV,zi,zn,zAJ,zq,zA4,zAr,zAs,zCj,fmOk,fnN,fnS,strs]
 have ho:fmOk s.op=false:=by
  unfold fmOk;rw[Bool.and_eq_false_iff,decide_eq_false_iff_not,decide_eq_false_iff_not];omega
 simp[ntmps184,Fa,Qa,mb,vb,Zg,ah,dm,gm,bh,Ea,Le,Me,Oe,fmV,zi,zn,zAJ,zq,zA4,zAr,zAs,zCj,ho,fnN,fnS]
def WSC(s:St):Prop:=∀(d:Int) (S:ASt),-1<=d->d<=1000->ADet Tryz.prog 152 [stmV s,I d] S (B (s.whole d)) S
theorem zMp(x:St)(hx:WSC x)(d:Int)(h0: -1<=d-1)(h1:d<=1000)(S:ASt)(n j:Nat)(hj:get2 S n j=some (.cells [I d] 3)):ADet Tryz.prog 186 [stmV x,.ptr n j 0] S (B (x.whole (d-1))) S:=by
 refine ADet.intro mixed call186 func186 rfl ?_;simp[ntmps186,hj,wrd d (by omega)]
 refine cq (hx (d-1) _ (by omega) (by omega)) ?_
 simp
theorem zBi(l:List St)(hx:∀x∈l,WSC x)(hm:l.length<=20000)(d:Int)(h0: -1<=d-1)(h1:d<=1000)(S:ASt)(n j:Nat)(hj:get2 S n j=some (.cells [I d] 3)):
  ADet Tryz.prog 150 [.p (.sl 15 (l.map St.enc)),I l.length,.fn (.func 186) [] [.ptr n j 0]] S (B (l.all fun x=>x.whole (d-1))) S:=by
 have:=zN2 (fun x=>x.whole (d-1)) l l.length (by omega) 186 [] [.ptr n j 0] S fun x hm L=>by
  simp only[AV.ups,AV.up,List.nil_append];exact zMp x (hx x hm) d h0 h1 (L::S) (n+1) j hj
 rw[zB4 (Int.le_refl _)]at this;exact this
theorem zMq(op:Int)(k:Nat)(x:Ex)(hx:WEC x)(d:Int)(h0: -1<=d-1)(h1:d<=1000)(S:ASt)(n i j:Nat)(hi:get2 S n i=some (.cells (fmV op k) 231))(hj:get2 S n j=some (.cells [I d] 3)):
  ADet Tryz.prog 187 [exV x,.ptr n i 0,.ptr n j 0] S (B ((zCj op|| !zCW x.op)&&x.whole (d-1))) S:=by
 refine ADet.intro mixed call187 func187 rfl ?_
 have g:=fun S=>hx (d-1) S (by omega) (by omega)
 cases hf:zCj op with
 |true=>
  simp[ntmps187,hi,hj,fmV,hf,wrd d (by omega)]
  refine cq (g _) ?_
  simp
 |false=>
  simp[ntmps187,hi,hj,fmV,hf];refine cq (zPP x _) ?_
  cases hl:zCW x.op with
  |true=>simp[hl]
  |false=>
   simp[hl,hi,hj,fmV,hf,wrd d (by omega)]
   refine cq (g _) ?_;simp
theorem zEN(op:Int)(k:Nat)(l:List Ex)(hx:∀x∈l,WEC x)(d:Int)(h0: -1<=d-1)(h1:d<=1000)(S:ASt)(n i j:Nat)(hi:get2 S n i=some (.cells (fmV op k) 231))(hj:get2 S n j=some (.cells [I d] 3)):
  ADet Tryz.prog 102 [.p (.sl 8 (l.map Ex.enc)),I 6,.fn (.func 187) [] [.ptr n i 0,.ptr n j 0]] S (B (exsB op l d)) S:=
 zN1 (fun x=>(zCj op|| !zCW x.op)&&x.whole (d-1)) l 6 (by omega) 187 [] [.ptr n i 0,.ptr n j 0] S fun x hm L=>by
  simp only[AV.ups,AV.up,List.nil_append];exact zMq op k x (hx x hm) d h0 h1 (L::S) (n+1) i j hi hj
theorem zMr(a:Ar)(hv:a.variant.size<=20000)(hn:a.name.size<=20000)(hm:a.body.length<=20000)(hx:∀x∈a.body,WSC x)(d:Int)(h0: -1<=d-1)(h1:d<=1000)(S:ASt)(n w j:Nat)(hw:get2 S n w=some (.cells [.fn (.func 186) [] [.ptr 0 j 0]] 202))(hj:get2 S n j=some (.cells [I d] 3)):
  ADet Tryz.prog 189 [arV a,.ptr n w 0] S (B (a.whole (d-1))) S:=by
 refine ADet.intro mixed call189 func189 rfl ?_;unfold Ar.whole
 have g1:=fun S=>zDx a.variant (zBI hv) S
 have g2:=fun S=>zCL a.name (zBI hn) S
 have g3:=fun L=>zBi a.body hx hm d h0 h1 (L::S) (n+1) j hj
 simp[ntmps189];refine cq (g1 _) ?_
 cases ht:zCf a.variant with
 |false=>simp[ht]
 |true=>
  cases he:sEq a.name emS with
  |true=>
   simp[ht,he,hw];refine cq (g3 _) ?_
   simp
  |false=>
   simp[ht,he];refine cq (g2 _) ?_
   cases hb:zBR a.name with
   |false=>simp[hb]
   |true=>
    simp[hb,hw];refine cq (g3 _) ?_;simp
theorem zFl(l:List Ar)(hs:∀a∈l,a.variant.size<=20000/\a.name.size<=20000/\a.body.length<=20000)(hx:∀a∈l,∀x∈a.body,WSC x)(d:Int)(h0: -1<=d-1)(h1:d<=1000)(S:ASt)(n w j:Nat)(hw:get2 S n w=some (.cells [.fn (.func 186) [] [.ptr 0 j 0]] 202))(hj:get2 S n j=some (.cells [I d] 3)):
  ADet Tryz.prog 188 [.p (.sl 3 (l.map Ar.enc)),I 6,.fn (.func 189) [] [.ptr n w 0]] S (B (zv (fun a=>a.whole (d-1)) l 6)) S:=
 zYN (fun a=>a.whole (d-1)) l 6 (by omega) 189 [] [.ptr n w 0] S fun x hm L=>by
  simp only[AV.ups,AV.up,List.nil_append];exact zMr x (hs x hm).1 (hs x hm).2.1 (hs x hm).2.2 (hx x hm) d h0 h1 (L::S) (n+1) w j hw hj
end Go.Proofs.YtdflkegnmmkkoaaGreatDoor
