/- A part of the proof. -/
import Derived.Test.YtgpajpilkapciaaGreatDoorXNSb
set_option linter.unusedVariables false
set_option linter.unusedSimpArgs false
set_option maxRecDepth 100000
set_option maxHeartbeats 32000000
namespace Go.Proofs.YtgpajpilkapciaaGreatDoor
open Go.RowKit _root_.Go.Proofs.Tryz
theorem zDx{α β:Type}(f:α->β)(l:List α){q:Nat}(h:q<l.length):(l.map f).take q++[f l[q]]=(l.map f).take (q+1):=by
 rw[List.take_succ_eq_append_getElem (by simpa using h)];simp
attribute [local simp] List.replicate List.range List.range.loop zJV zHc zJU
theorem zOX(s:St)(ka:StSm s)(Ob:∀x∈s.body,WSC x)(Nb:∀x∈s.els,WSC x)(Ed:∀a∈s.arms,∀x∈a.body,WSC x)(d:Int)(S:ASt)(kc: -1<=d)(Ia:d<=1000)(h0:1<=d)(ho:fmOk s.op=true)
  (fT:zAD s.op=true) (fP:zk s.op=false) (fB:zAm s.op=false) (fE:zAf s.op=false) (fA:zAS s.op=false):ADet Tryz.prog 89 [stmV s,I d] S (B (s.whole d)) S:=by
 obtain⟨_,hn,pb,Fa,Eb,Ua,xa,hb,jb,Jd,Kd,Fc,has,qf⟩:=ka
 have ni:zd s.op<=6:=by unfold zd;split<;>omega
 have g1:=fun S=>fnNC s.op s.name hn S
 have g2:=fun S=>fnSC s.op s.u4 pb S
 have g3:=fun S=>zBv zBO s.names (zd s.op) (by omega) 84 [] [] S (fun x hx L=>zCO x (zAz (Fa.2 x hx)) _)
 have g4:=fun S h=>zAn s.type Eb (d-1) S h (by omega)
 have g5:=fun S=>zCo s.type S
 have g6:=fun S=>zBt s.place Ua S
 have g7:=fun S=>zDI s.place S
 have hd: -1<=d-1:=by omega
 have x1:=fun S h k=>zDw s.op s.names.length s.u5 (fun x hx=>zA2 x (xa.2 x hx)) d hd Ia S 0 2 1 h k
 have x2:=fun S h=>zBY s.body Ob hb d hd Ia S 0 1 h
 have x3:=fun S h=>zBY s.els Nb jb d hd Ia S 0 1 h
 have x4:=fun S h k=>zFJ s.arms has Ed d hd Ia S 0 3 1 h k
 have fa:¬d<1:=by omega
 refine ADet.intro mixed call89 func89 rfl ?_;simp[ntmps89];refine cq (zET s _) ?_;simp[h0,fa,ho,fT,fP,fB,fE,fA,fmV];refine cq (zDv s _) ?_
 rcases(Bool.eq_false_or_eq_true (zE4 s.op s.int)).symm with hc|hc
 .have e:s.whole d=false:=by rw[zB];simp[zM,h0,fa,ho,fT,fP,fB,fE,fA,hc]
  simp (config:={maxSteps:=2000000}) [h0,fa,ho,fT,fP,fB,fE,fA,hc,fmV,e]
 simp[h0,fa,ho,fT,fP,fB,fE,fA,hc,fmV];refine cq (g1 _) ?_
 rcases(Bool.eq_false_or_eq_true (fmN s.op s.name)).symm with h1|h1
 .have e:s.whole d=false:=by rw[zB];simp[zM,h0,fa,ho,fT,fP,fB,fE,fA,hc,h1]
  simp (config:={maxSteps:=2000000}) [h0,fa,ho,fT,fP,fB,fE,fA,hc,h1,fmV,e]
 simp[h0,fa,ho,fT,fP,fB,fE,fA,hc,h1,fmV];refine cq (g2 _) ?_
 rcases(Bool.eq_false_or_eq_true (fmS s.op s.u4)).symm with h2|h2
 .have e:s.whole d=false:=by rw[zB];simp[zM,h0,fa,ho,fT,fP,fB,fE,fA,hc,h1,h2]
  simp (config:={maxSteps:=2000000}) [h0,fa,ho,fT,fP,fB,fE,fA,hc,h1,h2,fmV,e]
 by_cases Ac:¬(s.u5.length:Int)=zg s.op s.names.length
 .have da:((s.u5.length:Int) !=zg s.op s.names.length)=true:=by simp[Ac]
  have e:s.whole d=false:=by rw[zB];simp[zM,h0,fa,ho,fT,fP,fB,fE,fA,hc,h1,h2,da,Ac]
  simp (config:={maxSteps:=2000000}) [h0,fa,ho,fT,fP,fB,fE,fA,hc,h1,h2,da,Ac,fmV,e]
 have ta:=Decidable.not_not.1 Ac
 have da:((s.u5.length:Int) !=zg s.op s.names.length)=false:=by simp[ta]
 simp[h0,fa,ho,fT,fP,fB,fE,fA,hc,h1,h2,da,fmV];refine cq (g3 _) ?_
 rcases(Bool.eq_false_or_eq_true (zq zBO s.names (zd s.op))).symm with h3|h3
 .have e:s.whole d=false:=by rw[zB];simp[zM,h0,fa,ho,fT,fP,fB,fE,fA,hc,h1,h2,da,h3]
  simp (config:={maxSteps:=2000000}) [h0,fa,ho,fT,fP,fB,fE,fA,hc,h1,h2,da,h3,fmV,e]
 simp[h0,fa,ho,fT,fP,fB,fE,fA,hc,h1,h2,da,h3,fmV];refine zC0 [(1,6),(21,24)] (by kernel_rfl) (by kernel_rfl) (by decide) ?_
 simp (config:={maxSteps:=2000000}) [h0,fa,ho,fT,fP,fB,fE,fA,hc,h1,h2,da,h3,fmV,wrd d (by omega)]
 refine⟨_,g4 _ (by omega),?_⟩
 rcases(Bool.eq_false_or_eq_true (s.type.whole (d-1))).symm with ht|ht
 .have e:s.whole d=false:=by rw[zB];simp[zM,h0,fa,ho,fT,fP,fB,fE,fA,hc,h1,h2,da,h3,ht]
  simp (config:={maxSteps:=2000000}) [h0,fa,ho,fT,fP,fB,fE,fA,hc,h1,h2,da,h3,ht,fmV,e]
 simp (config:={maxSteps:=2000000}) [h0,fa,ho,fT,fP,fB,fE,fA,hc,h1,h2,da,h3,ht,fmV]
 refine⟨_,g6 _,?_⟩
 rcases(Bool.eq_false_or_eq_true (s.place.whole))with hw|hw
 .have e:s.whole d=false:=by rw[zB];simp[zM,h0,fa,ho,fT,fP,fB,fE,fA,hc,h1,h2,da,h3,ht,hw]
  simp (config:={maxSteps:=2000000}) [h0,fa,ho,fT,fP,fB,fE,fA,hc,h1,h2,da,h3,ht,hw,fmV,e]
 simp (config:={maxSteps:=2000000}) [h0,fa,ho,fT,fP,fB,fE,fA,hc,h1,h2,da,h3,ht,hw,fmV]
 refine⟨_,g7 _,?_⟩
 rcases(Bool.eq_false_or_eq_true (zJd s.place)).symm with hn0|hn0
 .have e:s.whole d=false:=by rw[zB];simp[zM,h0,fa,ho,fT,fP,fB,fE,fA,hc,h1,h2,da,h3,ht,hw,hn0]
  simp (config:={maxSteps:=2000000}) [h0,fa,ho,fT,fP,fB,fE,fA,hc,h1,h2,da,h3,ht,hw,hn0,fmV,e]
 rcases(Nat.eq_zero_or_pos s.body.length).symm with lb|lbz
 .have cg:¬s.body.length=0:=by omega
  have Yd:s.body≠ []:=fun e=>cg (by rw[e];rfl)
  have e:s.whole d=false:=by rw[zB];simp[zM,h0,fa,ho,fT,fP,fB,fE,fA,hc,h1,h2,da,h3,ht,hw,hn0,lb,cg,Yd]
  simp (config:={maxSteps:=2000000}) [h0,fa,ho,fT,fP,fB,fE,fA,hc,h1,h2,da,h3,ht,hw,hn0,lb,cg,Yd,fmV,e]
 have lb:¬0<s.body.length:=by omega
 rcases(Nat.eq_zero_or_pos s.els.length).symm with le|lez
 .have Zd:¬s.els.length=0:=by omega
  have pc:s.els≠ []:=fun e=>Zd (by rw[e];rfl)
  have e:s.whole d=false:=by rw[zB];simp[zM,h0,fa,ho,fT,fP,fB,fE,fA,hc,h1,h2,da,h3,ht,hw,hn0,lb,le,Zd,pc]
  simp (config:={maxSteps:=2000000}) [h0,fa,ho,fT,fP,fB,fE,fA,hc,h1,h2,da,h3,ht,hw,hn0,lb,le,Zd,pc,fmV,e]
 have le:¬0<s.els.length:=by omega
 rcases(Nat.eq_zero_or_pos s.arms.length).symm with la|laz
 .have ae:¬s.arms.length=0:=by omega
  have qc:s.arms≠ []:=fun e=>ae (by rw[e];rfl)
  have e:s.whole d=false:=by rw[zB];simp[zM,h0,fa,ho,fT,fP,fB,fE,fA,hc,h1,h2,da,h3,ht,hw,hn0,lb,le,la,ae,qc]
  simp (config:={maxSteps:=2000000}) [h0,fa,ho,fT,fP,fB,fE,fA,hc,h1,h2,da,h3,ht,hw,hn0,lb,le,la,ae,qc,fmV,e]
 have la:¬0<s.arms.length:=by omega
 have e:s.whole d=(exsB s.op s.u5 d&&(s.body.all (fun t=>t.whole (d-1))&&(s.els.all (fun t=>t.whole (d-1))&&zq (fun a=>a.whole (d-1)) s.arms 6))):=by
  rw[zB];simp only[zM,ho,hc,h1,h2,ta,h3,ht,hw,hn0,fT,fP,fB,fE,fA,lbz,lez,laz,decide_true,Bool.true_and,Bool.true_or,Bool.false_or,beq_self_eq_true,h0]
 rw[e];simp (config:={maxSteps:=2000000}) [h0,fa,ho,fT,fP,fB,fE,fA,hc,h1,h2,da,h3,ht,hw,hn0,lb,le,la,fmV]
 refine cq (x1 _ (by simp[zBE,fmV,fT,fP,fB,fE,fA]) rfl) ?_
 cases k1:exsB s.op s.u5 d with
 |false=>simp[k1]
 |true=>
  simp[k1];refine cq (x2 _ rfl) ?_
  generalize s.body.all (fun t=>t.whole (d-1))=b2
  cases b2 with
  |false=>simp
  |true=>
   simp;refine cq (x3 _ rfl) ?_
   generalize s.els.all (fun t=>t.whole (d-1))=b3
   cases b3 with
   |false=>simp
   |true=>
    simp;refine cq (x4 _ rfl rfl) ?_;simp
theorem zOY(s:St)(ka:StSm s)(Ob:∀x∈s.body,WSC x)(Nb:∀x∈s.els,WSC x)(Ed:∀a∈s.arms,∀x∈a.body,WSC x)(d:Int)(S:ASt)(kc: -1<=d)(Ia:d<=1000)(h0:1<=d)(ho:fmOk s.op=true)
  (fT:zAD s.op=false) (fP:zk s.op=true) (fB:zAm s.op=false) (fE:zAf s.op=false) (fA:zAS s.op=false):ADet Tryz.prog 89 [stmV s,I d] S (B (s.whole d)) S:=by
 obtain⟨_,hn,pb,Fa,Eb,Ua,xa,hb,jb,Jd,Kd,Fc,has,qf⟩:=ka
 have ni:zd s.op<=6:=by unfold zd;split<;>omega
 have g1:=fun S=>fnNC s.op s.name hn S
 have g2:=fun S=>fnSC s.op s.u4 pb S
 have g3:=fun S=>zBv zBO s.names (zd s.op) (by omega) 84 [] [] S (fun x hx L=>zCO x (zAz (Fa.2 x hx)) _)
 have g4:=fun S h=>zAn s.type Eb (d-1) S h (by omega)
 have g5:=fun S=>zCo s.type S
 have g6:=fun S=>zBt s.place Ua S
 have g7:=fun S=>zDI s.place S
 have hd: -1<=d-1:=by omega
 have x1:=fun S h k=>zDw s.op s.names.length s.u5 (fun x hx=>zA2 x (xa.2 x hx)) d hd Ia S 0 2 1 h k
 have x2:=fun S h=>zBY s.body Ob hb d hd Ia S 0 1 h
 have x3:=fun S h=>zBY s.els Nb jb d hd Ia S 0 1 h
 have x4:=fun S h k=>zFJ s.arms has Ed d hd Ia S 0 3 1 h k
 have fa:¬d<1:=by omega
 refine ADet.intro mixed call89 func89 rfl ?_;simp[ntmps89];refine cq (zET s _) ?_;simp[h0,fa,ho,fT,fP,fB,fE,fA,fmV];refine cq (zDv s _) ?_
 rcases(Bool.eq_false_or_eq_true (zE4 s.op s.int)).symm with hc|hc
 .have e:s.whole d=false:=by rw[zB];simp[zM,h0,fa,ho,fT,fP,fB,fE,fA,hc]
  simp (config:={maxSteps:=2000000}) [h0,fa,ho,fT,fP,fB,fE,fA,hc,fmV,e]
 simp[h0,fa,ho,fT,fP,fB,fE,fA,hc,fmV];refine cq (g1 _) ?_
 rcases(Bool.eq_false_or_eq_true (fmN s.op s.name)).symm with h1|h1
 .have e:s.whole d=false:=by rw[zB];simp[zM,h0,fa,ho,fT,fP,fB,fE,fA,hc,h1]
  simp (config:={maxSteps:=2000000}) [h0,fa,ho,fT,fP,fB,fE,fA,hc,h1,fmV,e]
 simp[h0,fa,ho,fT,fP,fB,fE,fA,hc,h1,fmV];refine cq (g2 _) ?_
 rcases(Bool.eq_false_or_eq_true (fmS s.op s.u4)).symm with h2|h2
 .have e:s.whole d=false:=by rw[zB];simp[zM,h0,fa,ho,fT,fP,fB,fE,fA,hc,h1,h2]
  simp (config:={maxSteps:=2000000}) [h0,fa,ho,fT,fP,fB,fE,fA,hc,h1,h2,fmV,e]
 by_cases Ac:¬(s.u5.length:Int)=zg s.op s.names.length
 .have da:((s.u5.length:Int) !=zg s.op s.names.length)=true:=by simp[Ac]
  have e:s.whole d=false:=by rw[zB];simp[zM,h0,fa,ho,fT,fP,fB,fE,fA,hc,h1,h2,da,Ac]
  simp (config:={maxSteps:=2000000}) [h0,fa,ho,fT,fP,fB,fE,fA,hc,h1,h2,da,Ac,fmV,e]
 have ta:=Decidable.not_not.1 Ac
 have da:((s.u5.length:Int) !=zg s.op s.names.length)=false:=by simp[ta]
 simp[h0,fa,ho,fT,fP,fB,fE,fA,hc,h1,h2,da,fmV];refine cq (g3 _) ?_
 rcases(Bool.eq_false_or_eq_true (zq zBO s.names (zd s.op))).symm with h3|h3
 .have e:s.whole d=false:=by rw[zB];simp[zM,h0,fa,ho,fT,fP,fB,fE,fA,hc,h1,h2,da,h3]
  simp (config:={maxSteps:=2000000}) [h0,fa,ho,fT,fP,fB,fE,fA,hc,h1,h2,da,h3,fmV,e]
 simp[h0,fa,ho,fT,fP,fB,fE,fA,hc,h1,h2,da,h3,fmV];refine zC0 [(1,6),(21,24)] (by kernel_rfl) (by kernel_rfl) (by decide) ?_
 simp (config:={maxSteps:=2000000}) [h0,fa,ho,fT,fP,fB,fE,fA,hc,h1,h2,da,h3,fmV,wrd d (by omega)]
 refine⟨_,g4 _ (by omega),?_⟩
 rcases(Bool.eq_false_or_eq_true (s.type.whole (d-1)))with ht|ht
 .have e:s.whole d=false:=by rw[zB];simp[zM,h0,fa,ho,fT,fP,fB,fE,fA,hc,h1,h2,da,h3,ht]
  simp (config:={maxSteps:=2000000}) [h0,fa,ho,fT,fP,fB,fE,fA,hc,h1,h2,da,h3,ht,fmV,e]
 simp (config:={maxSteps:=2000000}) [h0,fa,ho,fT,fP,fB,fE,fA,hc,h1,h2,da,h3,ht,fmV]
 refine⟨_,g5 _,?_⟩
 rcases(Bool.eq_false_or_eq_true (zBW s.type)).symm with hz|hz
 .have e:s.whole d=false:=by rw[zB];simp[zM,h0,fa,ho,fT,fP,fB,fE,fA,hc,h1,h2,da,h3,ht,hz]
  simp (config:={maxSteps:=2000000}) [h0,fa,ho,fT,fP,fB,fE,fA,hc,h1,h2,da,h3,ht,hz,fmV,e]
 simp (config:={maxSteps:=2000000}) [h0,fa,ho,fT,fP,fB,fE,fA,hc,h1,h2,da,h3,ht,hz,fmV]
 refine⟨_,g6 _,?_⟩
 rcases(Bool.eq_false_or_eq_true (s.place.whole)).symm with hw|hw
 .have e:s.whole d=false:=by rw[zB];simp[zM,h0,fa,ho,fT,fP,fB,fE,fA,hc,h1,h2,da,h3,ht,hz,hw]
  simp (config:={maxSteps:=2000000}) [h0,fa,ho,fT,fP,fB,fE,fA,hc,h1,h2,da,h3,ht,hz,hw,fmV,e]
 rcases(Nat.eq_zero_or_pos s.body.length).symm with lb|lbz
 .have cg:¬s.body.length=0:=by omega
  have Yd:s.body≠ []:=fun e=>cg (by rw[e];rfl)
  have e:s.whole d=false:=by rw[zB];simp[zM,h0,fa,ho,fT,fP,fB,fE,fA,hc,h1,h2,da,h3,ht,hz,hw,lb,cg,Yd]
  simp (config:={maxSteps:=2000000}) [h0,fa,ho,fT,fP,fB,fE,fA,hc,h1,h2,da,h3,ht,hz,hw,lb,cg,Yd,fmV,e]
 have lb:¬0<s.body.length:=by omega
 rcases(Nat.eq_zero_or_pos s.els.length).symm with le|lez
 .have Zd:¬s.els.length=0:=by omega
  have pc:s.els≠ []:=fun e=>Zd (by rw[e];rfl)
  have e:s.whole d=false:=by rw[zB];simp[zM,h0,fa,ho,fT,fP,fB,fE,fA,hc,h1,h2,da,h3,ht,hz,hw,lb,le,Zd,pc]
  simp (config:={maxSteps:=2000000}) [h0,fa,ho,fT,fP,fB,fE,fA,hc,h1,h2,da,h3,ht,hz,hw,lb,le,Zd,pc,fmV,e]
 have le:¬0<s.els.length:=by omega
 rcases(Nat.eq_zero_or_pos s.arms.length).symm with la|laz
 .have ae:¬s.arms.length=0:=by omega
  have qc:s.arms≠ []:=fun e=>ae (by rw[e];rfl)
  have e:s.whole d=false:=by rw[zB];simp[zM,h0,fa,ho,fT,fP,fB,fE,fA,hc,h1,h2,da,h3,ht,hz,hw,lb,le,la,ae,qc]
  simp (config:={maxSteps:=2000000}) [h0,fa,ho,fT,fP,fB,fE,fA,hc,h1,h2,da,h3,ht,hz,hw,lb,le,la,ae,qc,fmV,e]
 have la:¬0<s.arms.length:=by omega
 have e:s.whole d=(exsB s.op s.u5 d&&(s.body.all (fun t=>t.whole (d-1))&&(s.els.all (fun t=>t.whole (d-1))&&zq (fun a=>a.whole (d-1)) s.arms 6))):=by
  rw[zB];simp only[zM,ho,hc,h1,h2,ta,h3,ht,hz,hw,fT,fP,fB,fE,fA,lbz,lez,laz,decide_true,Bool.true_and,Bool.true_or,Bool.false_or,beq_self_eq_true,h0]
 rw[e];simp (config:={maxSteps:=2000000}) [h0,fa,ho,fT,fP,fB,fE,fA,hc,h1,h2,da,h3,ht,hz,hw,lb,le,la,fmV]
 refine cq (x1 _ (by simp[zBE,fmV,fT,fP,fB,fE,fA]) rfl) ?_
 cases k1:exsB s.op s.u5 d with
 |false=>simp[k1]
 |true=>
  simp[k1];refine cq (x2 _ rfl) ?_
  generalize s.body.all (fun t=>t.whole (d-1))=b2
  cases b2 with
  |false=>simp
  |true=>
   simp;refine cq (x3 _ rfl) ?_
   generalize s.els.all (fun t=>t.whole (d-1))=b3
   cases b3 with
   |false=>simp
   |true=>
    simp;refine cq (x4 _ rfl rfl) ?_;simp
end Go.Proofs.YtgpajpilkapciaaGreatDoor
