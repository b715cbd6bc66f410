/- A part of the proof. The statement is proved in the claim's last text. -/
import Derived.Test.YtlclonljdagpkaaGreatDoorQNPr
set_option linter.unusedVariables false
set_option linter.unusedSimpArgs false
set_option maxRecDepth 100000
set_option maxHeartbeats 32000000
namespace Go.Proofs.YtlclonljdagpkaaGreatDoor
open Go.RowKit
attribute [local simp] List.replicate List.range List.range.loop resA zR retA AV.cuts AV.cut AObj.cut trim wkR wkT wkL wkN wkNR wkNL wkM wkMR wkML zAi zAZ zY zAj zAb zQ rowA zf zT List.forall_mem_cons List.contains_cons List.contains_nil List.find? ze zd zS LCp LCl refL
theorem zN2 {l : List Tok} {s s1 : RS} {e : Ex} (hs : s.at_ <= l.length) (hb : s.bad = false) (ih : RdC 214 [I (1 : Nat)] l s s1 (exV e)) (hs1 : s1.at_ <= l.length) (hb1 : s1.bad = true) : RdC 214 [I (0 : Nat)] l s s1 (exV e):=RdC.intro fun S d i hR=>by
 have ho:=(hR.upd s hs).o
 have ho1:=(hR.upd s1 hs1).o
 refine ADet.intro mixed Tryz.call214 Tryz.func214 rfl ?_;simp [Tryz.ntmps214];refine ⟨_,_,(zW s).at hR hs _,?_⟩;simp [ho,hb];refine ⟨_,_,ih.at hR hs _,?_⟩;simp;refine zE (fun _ : Unit=>True) (fun _=>([.ptr (d + 1) i 0,I 0,.any,.any,.ptr 0 0 0,.any,.ptr 0 1 0] ++ List.replicate 103 .any)) (fun _=>[.cells [.any,.any,.any,.any,.any,.any,.any,.any] 40,.cells [U e.op,I e.int,Sg e.name,Sg e.second,Sg e.place.name,.p (strs e.place.path),.p (.sl 8 (e.args.map Ex.enc)),I e.pos] 40] :: set2 S d i (rdO l s1)) (fun _=>0) () trivial ?_ ?_ ?_
 .simp
 .simp
 rintro ⟨⟩ -
 simp;refine zA [] (by kernel_rfl) (by kernel_rfl) ?_
 simp [ho1,hb1]
theorem zN3 {l : List Tok} {s s1 : RS} {e : Ex} (hs : s.at_ <= l.length) (hb : s.bad = false) (ih : RdC 214 [I (1 : Nat)] l s s1 (exV e)) (hs1 : s1.at_ <= l.length) (hb1 : s1.bad = false) (hlt1 : ¬ (s1.at_ : Int) < (l.length : Int)) : RdC 214 [I (0 : Nat)] l s s1 (exV e):=RdC.intro fun S d i hR=>by
 have ho:=(hR.upd s hs).o
 have ho1:=(hR.upd s1 hs1).o
 refine ADet.intro mixed Tryz.call214 Tryz.func214 rfl ?_;simp [Tryz.ntmps214];refine ⟨_,_,(zW s).at hR hs _,?_⟩;simp [ho,hb];refine ⟨_,_,ih.at hR hs _,?_⟩;simp;refine zE (fun _ : Unit=>True) (fun _=>([.ptr (d + 1) i 0,I 0,.any,.any,.ptr 0 0 0,.any,.ptr 0 1 0] ++ List.replicate 103 .any)) (fun _=>[.cells [.any,.any,.any,.any,.any,.any,.any,.any] 40,.cells [U e.op,I e.int,Sg e.name,Sg e.second,Sg e.place.name,.p (strs e.place.path),.p (.sl 8 (e.args.map Ex.enc)),I e.pos] 40] :: set2 S d i (rdO l s1)) (fun _=>0) () trivial ?_ ?_ ?_
 .simp
 .simp
 rintro ⟨⟩ -
 simp;refine zA [] (by kernel_rfl) (by kernel_rfl) ?_
 simp [ho1,hb1,hlt1]
theorem zN4 {l : List Tok} {s s1 : RS} {e : Ex} (hs : s.at_ <= l.length) (hb : s.bad = false) (ih : RdC 214 [I (1 : Nat)] l s s1 (exV e)) (hs1 : s1.at_ <= l.length) (hb1 : s1.bad = false) (hlt1 : (s1.at_ : Int) < (l.length : Int)) {x : Tok} (hx1 : l[s1.at_]? = some x) (hf : zAn x.text (zAK 0) = none) : RdC 214 [I (0 : Nat)] l s s1 (exV e):=RdC.intro fun S d i hR=>by
 have ho:=(hR.upd s hs).o
 have ho1:=(hR.upd s1 hs1).o
 obtain ⟨j,hj⟩:=zb x.text (zAK 0) 0
 rw [hf,Option.map_none] at hj;refine ADet.intro mixed Tryz.call214 Tryz.func214 rfl ?_;simp [Tryz.ntmps214];refine ⟨_,_,(zW s).at hR hs _,?_⟩;simp [ho,hb];refine ⟨_,_,ih.at hR hs _,?_⟩;simp;refine zE (fun _ : Unit=>True) (fun _=>([.ptr (d + 1) i 0,I 0,.any,.any,.ptr 0 0 0,.any,.ptr 0 1 0] ++ List.replicate 103 .any)) (fun _=>[.cells [.any,.any,.any,.any,.any,.any,.any,.any] 40,.cells [U e.op,I e.int,Sg e.name,Sg e.second,Sg e.place.name,.p (strs e.place.path),.p (.sl 8 (e.args.map Ex.enc)),I e.pos] 40] :: set2 S d i (rdO l s1)) (fun _=>0) () trivial ?_ ?_ ?_
 .simp
 .simp
 rintro ⟨⟩ -
 simp;refine zA [] (by kernel_rfl) (by kernel_rfl) ?_
 simp [ho1,hb1,hlt1];refine zA [(5,1),(9,1),(12,1)] (by kernel_rfl) (by kernel_rfl) ?_
 simp [ho1,hb1,hlt1]
 obtain ⟨X,sC⟩:=zDT 0 (by omega) [.cells [.any,.any,.any,.any,.any,.any,.any,.any] 40,.cells [U e.op,I e.int,Sg e.name,Sg e.second,Sg e.place.name,.p (strs e.place.path),.p (.sl 8 (e.args.map Ex.enc)),I e.pos] 40] (set2 S d i (rdO l s1))
 refine ⟨_,_,sC,?_⟩;simp [ho1,hb1,hlt1,hx1,Tok.enc,zCt,mapK,hj]
theorem zN5 {l : List Tok} {s s1 : RS} {e : Ex} (hs : s.at_ <= l.length) (hb : s.bad = false) (ih : RdC 214 [I (2 : Nat)] l s s1 (exV e)) (hs1 : s1.at_ <= l.length) (hb1 : s1.bad = true) : RdC 214 [I (1 : Nat)] l s s1 (exV e):=RdC.intro fun S d i hR=>by
 have ho:=(hR.upd s hs).o
 have ho1:=(hR.upd s1 hs1).o
 refine ADet.intro mixed Tryz.call214 Tryz.func214 rfl ?_;simp [Tryz.ntmps214];refine ⟨_,_,(zW s).at hR hs _,?_⟩;simp [ho,hb];refine ⟨_,_,ih.at hR hs _,?_⟩;simp;refine zE (fun _ : Unit=>True) (fun _=>([.ptr (d + 1) i 0,I 1,.any,.any,.ptr 0 0 0,.any,.ptr 0 1 0] ++ List.replicate 103 .any)) (fun _=>[.cells [.any,.any,.any,.any,.any,.any,.any,.any] 40,.cells [U e.op,I e.int,Sg e.name,Sg e.second,Sg e.place.name,.p (strs e.place.path),.p (.sl 8 (e.args.map Ex.enc)),I e.pos] 40] :: set2 S d i (rdO l s1)) (fun _=>0) () trivial ?_ ?_ ?_
 .simp
 .simp
 rintro ⟨⟩ -
 simp;refine zA [] (by kernel_rfl) (by kernel_rfl) ?_
 simp [ho1,hb1]
theorem zN6 {l : List Tok} {s s1 : RS} {e : Ex} (hs : s.at_ <= l.length) (hb : s.bad = false) (ih : RdC 214 [I (2 : Nat)] l s s1 (exV e)) (hs1 : s1.at_ <= l.length) (hb1 : s1.bad = false) (hlt1 : ¬ (s1.at_ : Int) < (l.length : Int)) : RdC 214 [I (1 : Nat)] l s s1 (exV e):=RdC.intro fun S d i hR=>by
 have ho:=(hR.upd s hs).o
 have ho1:=(hR.upd s1 hs1).o
 refine ADet.intro mixed Tryz.call214 Tryz.func214 rfl ?_;simp [Tryz.ntmps214];refine ⟨_,_,(zW s).at hR hs _,?_⟩;simp [ho,hb];refine ⟨_,_,ih.at hR hs _,?_⟩;simp;refine zE (fun _ : Unit=>True) (fun _=>([.ptr (d + 1) i 0,I 1,.any,.any,.ptr 0 0 0,.any,.ptr 0 1 0] ++ List.replicate 103 .any)) (fun _=>[.cells [.any,.any,.any,.any,.any,.any,.any,.any] 40,.cells [U e.op,I e.int,Sg e.name,Sg e.second,Sg e.place.name,.p (strs e.place.path),.p (.sl 8 (e.args.map Ex.enc)),I e.pos] 40] :: set2 S d i (rdO l s1)) (fun _=>0) () trivial ?_ ?_ ?_
 .simp
 .simp
 rintro ⟨⟩ -
 simp;refine zA [] (by kernel_rfl) (by kernel_rfl) ?_
 simp [ho1,hb1,hlt1]
theorem zN7 {l : List Tok} {s s1 : RS} {e : Ex} (hs : s.at_ <= l.length) (hb : s.bad = false) (ih : RdC 214 [I (2 : Nat)] l s s1 (exV e)) (hs1 : s1.at_ <= l.length) (hb1 : s1.bad = false) (hlt1 : (s1.at_ : Int) < (l.length : Int)) {x : Tok} (hx1 : l[s1.at_]? = some x) (hf : zAn x.text (zAK 1) = none) : RdC 214 [I (1 : Nat)] l s s1 (exV e):=RdC.intro fun S d i hR=>by
 have ho:=(hR.upd s hs).o
 have ho1:=(hR.upd s1 hs1).o
 obtain ⟨j,hj⟩:=zb x.text (zAK 1) 0
 rw [hf,Option.map_none] at hj;refine ADet.intro mixed Tryz.call214 Tryz.func214 rfl ?_;simp [Tryz.ntmps214];refine ⟨_,_,(zW s).at hR hs _,?_⟩;simp [ho,hb];refine ⟨_,_,ih.at hR hs _,?_⟩;simp;refine zE (fun _ : Unit=>True) (fun _=>([.ptr (d + 1) i 0,I 1,.any,.any,.ptr 0 0 0,.any,.ptr 0 1 0] ++ List.replicate 103 .any)) (fun _=>[.cells [.any,.any,.any,.any,.any,.any,.any,.any] 40,.cells [U e.op,I e.int,Sg e.name,Sg e.second,Sg e.place.name,.p (strs e.place.path),.p (.sl 8 (e.args.map Ex.enc)),I e.pos] 40] :: set2 S d i (rdO l s1)) (fun _=>0) () trivial ?_ ?_ ?_
 .simp
 .simp
 rintro ⟨⟩ -
 simp;refine zA [] (by kernel_rfl) (by kernel_rfl) ?_
 simp [ho1,hb1,hlt1];refine zA [(5,1),(9,1),(12,1)] (by kernel_rfl) (by kernel_rfl) ?_
 simp [ho1,hb1,hlt1]
 obtain ⟨X,sC⟩:=zDT 1 (by omega) [.cells [.any,.any,.any,.any,.any,.any,.any,.any] 40,.cells [U e.op,I e.int,Sg e.name,Sg e.second,Sg e.place.name,.p (strs e.place.path),.p (.sl 8 (e.args.map Ex.enc)),I e.pos] 40] (set2 S d i (rdO l s1))
 refine ⟨_,_,sC,?_⟩;simp [ho1,hb1,hlt1,hx1,Tok.enc,zCt,mapK,hj]
theorem zN8 {l : List Tok} {s s1 : RS} {e : Ex} (hs : s.at_ <= l.length) (hb : s.bad = false) (hno : isP l s (⟨#[110,111,116]⟩ : ByteArray) 0 = false) (ih : RdC 214 [I (3 : Nat)] l s s1 (exV e)) (hs1 : s1.at_ <= l.length) (hb1 : s1.bad = true) : RdC 214 [I (2 : Nat)] l s s1 (exV e):=RdC.intro fun S d i hR=>by
 have ho:=(hR.upd s hs).o
 have ho1:=(hR.upd s1 hs1).o
 have hm : mayP l s (⟨#[110,111,116]⟩ : ByteArray) = s:=by unfold mayP; rw [hno]; rfl
 refine ADet.intro mixed Tryz.call214 Tryz.func214 rfl ?_;simp [Tryz.ntmps214];refine ⟨_,_,(zW s).at hR hs _,?_⟩;simp [ho,hb];refine ⟨_,_,(mayW s (⟨#[110,111,116]⟩ : ByteArray)).at hR hs _,?_⟩;rw [hno,hm];simp;refine ⟨_,_,ih.at hR hs _,?_⟩;simp;refine zE (fun _ : Unit=>True) (fun _=>([.ptr (d + 1) i 0,I 2,.any,.any,.ptr 0 0 0,.any,.ptr 0 1 0] ++ List.replicate 103 .any)) (fun _=>[.cells [.any,.any,.any,.any,.any,.any,.any,.any] 40,.cells [U e.op,I e.int,Sg e.name,Sg e.second,Sg e.place.name,.p (strs e.place.path),.p (.sl 8 (e.args.map Ex.enc)),I e.pos] 40] :: set2 S d i (rdO l s1)) (fun _=>0) () trivial ?_ ?_ ?_
 .simp
 .simp
 rintro ⟨⟩ -
 simp;refine zA [] (by kernel_rfl) (by kernel_rfl) ?_
 simp [ho1,hb1]
theorem zN9 {l : List Tok} {s s1 : RS} {e : Ex} (hs : s.at_ <= l.length) (hb : s.bad = false) (hno : isP l s (⟨#[110,111,116]⟩ : ByteArray) 0 = false) (ih : RdC 214 [I (3 : Nat)] l s s1 (exV e)) (hs1 : s1.at_ <= l.length) (hb1 : s1.bad = false) (hlt1 : ¬ (s1.at_ : Int) < (l.length : Int)) : RdC 214 [I (2 : Nat)] l s s1 (exV e):=RdC.intro fun S d i hR=>by
 have ho:=(hR.upd s hs).o
 have ho1:=(hR.upd s1 hs1).o
 have hm : mayP l s (⟨#[110,111,116]⟩ : ByteArray) = s:=by unfold mayP; rw [hno]; rfl
 refine ADet.intro mixed Tryz.call214 Tryz.func214 rfl ?_;simp [Tryz.ntmps214];refine ⟨_,_,(zW s).at hR hs _,?_⟩;simp [ho,hb];refine ⟨_,_,(mayW s (⟨#[110,111,116]⟩ : ByteArray)).at hR hs _,?_⟩;rw [hno,hm];simp;refine ⟨_,_,ih.at hR hs _,?_⟩;simp;refine zE (fun _ : Unit=>True) (fun _=>([.ptr (d + 1) i 0,I 2,.any,.any,.ptr 0 0 0,.any,.ptr 0 1 0] ++ List.replicate 103 .any)) (fun _=>[.cells [.any,.any,.any,.any,.any,.any,.any,.any] 40,.cells [U e.op,I e.int,Sg e.name,Sg e.second,Sg e.place.name,.p (strs e.place.path),.p (.sl 8 (e.args.map Ex.enc)),I e.pos] 40] :: set2 S d i (rdO l s1)) (fun _=>0) () trivial ?_ ?_ ?_
 .simp
 .simp
 rintro ⟨⟩ -
 simp;refine zA [] (by kernel_rfl) (by kernel_rfl) ?_
 simp [ho1,hb1,hlt1]
theorem zOA {l : List Tok} {s s1 : RS} {e : Ex} (hs : s.at_ <= l.length) (hb : s.bad = false) (hno : isP l s (⟨#[110,111,116]⟩ : ByteArray) 0 = false) (ih : RdC 214 [I (3 : Nat)] l s s1 (exV e)) (hs1 : s1.at_ <= l.length) (hb1 : s1.bad = false) (hlt1 : (s1.at_ : Int) < (l.length : Int)) {x : Tok} (hx1 : l[s1.at_]? = some x) (hf : zAn x.text (zAK 2) = none) : RdC 214 [I (2 : Nat)] l s s1 (exV e):=RdC.intro fun S d i hR=>by
 have ho:=(hR.upd s hs).o
 have ho1:=(hR.upd s1 hs1).o
 have hm : mayP l s (⟨#[110,111,116]⟩ : ByteArray) = s:=by unfold mayP; rw [hno]; rfl
 obtain ⟨j,hj⟩:=zb x.text (zAK 2) 0
 rw [hf,Option.map_none] at hj;refine ADet.intro mixed Tryz.call214 Tryz.func214 rfl ?_;simp [Tryz.ntmps214];refine ⟨_,_,(zW s).at hR hs _,?_⟩;simp [ho,hb];refine ⟨_,_,(mayW s (⟨#[110,111,116]⟩ : ByteArray)).at hR hs _,?_⟩;rw [hno,hm];simp;refine ⟨_,_,ih.at hR hs _,?_⟩;simp;refine zE (fun _ : Unit=>True) (fun _=>([.ptr (d + 1) i 0,I 2,.any,.any,.ptr 0 0 0,.any,.ptr 0 1 0] ++ List.replicate 103 .any)) (fun _=>[.cells [.any,.any,.any,.any,.any,.any,.any,.any] 40,.cells [U e.op,I e.int,Sg e.name,Sg e.second,Sg e.place.name,.p (strs e.place.path),.p (.sl 8 (e.args.map Ex.enc)),I e.pos] 40] :: set2 S d i (rdO l s1)) (fun _=>0) () trivial ?_ ?_ ?_
 .simp
 .simp
 rintro ⟨⟩ -
 simp;refine zA [] (by kernel_rfl) (by kernel_rfl) ?_
 simp [ho1,hb1,hlt1];refine zA [(5,1),(9,1),(12,1)] (by kernel_rfl) (by kernel_rfl) ?_
 simp [ho1,hb1,hlt1]
 obtain ⟨X,sC⟩:=zDT 2 (by omega) [.cells [.any,.any,.any,.any,.any,.any,.any,.any] 40,.cells [U e.op,I e.int,Sg e.name,Sg e.second,Sg e.place.name,.p (strs e.place.path),.p (.sl 8 (e.args.map Ex.enc)),I e.pos] 40] (set2 S d i (rdO l s1))
 refine ⟨_,_,sC,?_⟩;simp [ho1,hb1,hlt1,hx1,Tok.enc,zCt,mapK,hj]
theorem zOB {l : List Tok} {s s1 : RS} {e : Ex} (hs : s.at_ <= l.length) (hb : s.bad = false) (ih : RdC 214 [I (4 : Nat)] l s s1 (exV e)) (hs1 : s1.at_ <= l.length) (hb1 : s1.bad = true) : RdC 214 [I (3 : Nat)] l s s1 (exV e):=RdC.intro fun S d i hR=>by
 have ho:=(hR.upd s hs).o
 have ho1:=(hR.upd s1 hs1).o
 refine ADet.intro mixed Tryz.call214 Tryz.func214 rfl ?_;simp [Tryz.ntmps214];refine ⟨_,_,(zW s).at hR hs _,?_⟩;simp [ho,hb];refine ⟨_,_,ih.at hR hs _,?_⟩;simp;refine zE (fun _ : Unit=>True) (fun _=>([.ptr (d + 1) i 0,I 3,.any,.any,.ptr 0 0 0,.any,.ptr 0 1 0] ++ List.replicate 103 .any)) (fun _=>[.cells [.any,.any,.any,.any,.any,.any,.any,.any] 40,.cells [U e.op,I e.int,Sg e.name,Sg e.second,Sg e.place.name,.p (strs e.place.path),.p (.sl 8 (e.args.map Ex.enc)),I e.pos] 40] :: set2 S d i (rdO l s1)) (fun _=>0) () trivial ?_ ?_ ?_
 .simp
 .simp
 rintro ⟨⟩ -
 simp;refine zA [] (by kernel_rfl) (by kernel_rfl) ?_
 simp [ho1,hb1]
theorem zOC {l : List Tok} {s s1 : RS} {e : Ex} (hs : s.at_ <= l.length) (hb : s.bad = false) (ih : RdC 214 [I (4 : Nat)] l s s1 (exV e)) (hs1 : s1.at_ <= l.length) (hb1 : s1.bad = false) (hlt1 : ¬ (s1.at_ : Int) < (l.length : Int)) : RdC 214 [I (3 : Nat)] l s s1 (exV e):=RdC.intro fun S d i hR=>by
 have ho:=(hR.upd s hs).o
 have ho1:=(hR.upd s1 hs1).o
 refine ADet.intro mixed Tryz.call214 Tryz.func214 rfl ?_;simp [Tryz.ntmps214];refine ⟨_,_,(zW s).at hR hs _,?_⟩;simp [ho,hb];refine ⟨_,_,ih.at hR hs _,?_⟩;simp;refine zE (fun _ : Unit=>True) (fun _=>([.ptr (d + 1) i 0,I 3,.any,.any,.ptr 0 0 0,.any,.ptr 0 1 0] ++ List.replicate 103 .any)) (fun _=>[.cells [.any,.any,.any,.any,.any,.any,.any,.any] 40,.cells [U e.op,I e.int,Sg e.name,Sg e.second,Sg e.place.name,.p (strs e.place.path),.p (.sl 8 (e.args.map Ex.enc)),I e.pos] 40] :: set2 S d i (rdO l s1)) (fun _=>0) () trivial ?_ ?_ ?_
 .simp
 .simp
 rintro ⟨⟩ -
 simp;refine zA [] (by kernel_rfl) (by kernel_rfl) ?_
 simp [ho1,hb1,hlt1]
theorem zOD {l : List Tok} {s s1 : RS} {e : Ex} (hs : s.at_ <= l.length) (hb : s.bad = false) (ih : RdC 214 [I (4 : Nat)] l s s1 (exV e)) (hs1 : s1.at_ <= l.length) (hb1 : s1.bad = false) (hlt1 : (s1.at_ : Int) < (l.length : Int)) {x : Tok} (hx1 : l[s1.at_]? = some x) (hf : zAn x.text (zAK 3) = none) : RdC 214 [I (3 : Nat)] l s s1 (exV e):=RdC.intro fun S d i hR=>by
 have ho:=(hR.upd s hs).o
 have ho1:=(hR.upd s1 hs1).o
 obtain ⟨j,hj⟩:=zb x.text (zAK 3) 0
 rw [hf,Option.map_none] at hj;refine ADet.intro mixed Tryz.call214 Tryz.func214 rfl ?_;simp [Tryz.ntmps214];refine ⟨_,_,(zW s).at hR hs _,?_⟩;simp [ho,hb];refine ⟨_,_,ih.at hR hs _,?_⟩;simp;refine zE (fun _ : Unit=>True) (fun _=>([.ptr (d + 1) i 0,I 3,.any,.any,.ptr 0 0 0,.any,.ptr 0 1 0] ++ List.replicate 103 .any)) (fun _=>[.cells [.any,.any,.any,.any,.any,.any,.any,.any] 40,.cells [U e.op,I e.int,Sg e.name,Sg e.second,Sg e.place.name,.p (strs e.place.path),.p (.sl 8 (e.args.map Ex.enc)),I e.pos] 40] :: set2 S d i (rdO l s1)) (fun _=>0) () trivial ?_ ?_ ?_
 .simp
 .simp
 rintro ⟨⟩ -
 simp;refine zA [] (by kernel_rfl) (by kernel_rfl) ?_
 simp [ho1,hb1,hlt1];refine zA [(5,1),(9,1),(12,1)] (by kernel_rfl) (by kernel_rfl) ?_
 simp [ho1,hb1,hlt1]
 obtain ⟨X,sC⟩:=zDT 3 (by omega) [.cells [.any,.any,.any,.any,.any,.any,.any,.any] 40,.cells [U e.op,I e.int,Sg e.name,Sg e.second,Sg e.place.name,.p (strs e.place.path),.p (.sl 8 (e.args.map Ex.enc)),I e.pos] 40] (set2 S d i (rdO l s1))
 refine ⟨_,_,sC,?_⟩;simp [ho1,hb1,hlt1,hx1,Tok.enc,zCt,mapK,hj]
theorem zOE {l : List Tok} {s s1 : RS} {e : Ex} (hs : s.at_ <= l.length) (hb : s.bad = false) (ih : RdC 214 [I (5 : Nat)] l s s1 (exV e)) (hs1 : s1.at_ <= l.length) (hb1 : s1.bad = true) : RdC 214 [I (4 : Nat)] l s s1 (exV e):=RdC.intro fun S d i hR=>by
 have ho:=(hR.upd s hs).o
 have ho1:=(hR.upd s1 hs1).o
 refine ADet.intro mixed Tryz.call214 Tryz.func214 rfl ?_;simp [Tryz.ntmps214];refine ⟨_,_,(zW s).at hR hs _,?_⟩;simp [ho,hb];refine ⟨_,_,ih.at hR hs _,?_⟩;simp;refine zE (fun _ : Unit=>True) (fun _=>([.ptr (d + 1) i 0,I 4,.any,.any,.ptr 0 0 0,.any,.ptr 0 1 0] ++ List.replicate 103 .any)) (fun _=>[.cells [.any,.any,.any,.any,.any,.any,.any,.any] 40,.cells [U e.op,I e.int,Sg e.name,Sg e.second,Sg e.place.name,.p (strs e.place.path),.p (.sl 8 (e.args.map Ex.enc)),I e.pos] 40] :: set2 S d i (rdO l s1)) (fun _=>0) () trivial ?_ ?_ ?_
 .simp
 .simp
 rintro ⟨⟩ -
 simp;refine zA [] (by kernel_rfl) (by kernel_rfl) ?_
 simp [ho1,hb1]
theorem zOF {l : List Tok} {s s1 : RS} {e : Ex} (hs : s.at_ <= l.length) (hb : s.bad = false) (ih : RdC 214 [I (5 : Nat)] l s s1 (exV e)) (hs1 : s1.at_ <= l.length) (hb1 : s1.bad = false) (hlt1 : ¬ (s1.at_ : Int) < (l.length : Int)) : RdC 214 [I (4 : Nat)] l s s1 (exV e):=RdC.intro fun S d i hR=>by
 have ho:=(hR.upd s hs).o
 have ho1:=(hR.upd s1 hs1).o
 refine ADet.intro mixed Tryz.call214 Tryz.func214 rfl ?_;simp [Tryz.ntmps214];refine ⟨_,_,(zW s).at hR hs _,?_⟩;simp [ho,hb];refine ⟨_,_,ih.at hR hs _,?_⟩;simp;refine zE (fun _ : Unit=>True) (fun _=>([.ptr (d + 1) i 0,I 4,.any,.any,.ptr 0 0 0,.any,.ptr 0 1 0] ++ List.replicate 103 .any)) (fun _=>[.cells [.any,.any,.any,.any,.any,.any,.any,.any] 40,.cells [U e.op,I e.int,Sg e.name,Sg e.second,Sg e.place.name,.p (strs e.place.path),.p (.sl 8 (e.args.map Ex.enc)),I e.pos] 40] :: set2 S d i (rdO l s1)) (fun _=>0) () trivial ?_ ?_ ?_
 .simp
 .simp
 rintro ⟨⟩ -
 simp;refine zA [] (by kernel_rfl) (by kernel_rfl) ?_
 simp [ho1,hb1,hlt1]
theorem zOG {l : List Tok} {s s1 : RS} {e : Ex} (hs : s.at_ <= l.length) (hb : s.bad = false) (ih : RdC 214 [I (5 : Nat)] l s s1 (exV e)) (hs1 : s1.at_ <= l.length) (hb1 : s1.bad = false) (hlt1 : (s1.at_ : Int) < (l.length : Int)) {x : Tok} (hx1 : l[s1.at_]? = some x) (hf : zAn x.text (zAK 4) = none) : RdC 214 [I (4 : Nat)] l s s1 (exV e):=RdC.intro fun S d i hR=>by
 have ho:=(hR.upd s hs).o
 have ho1:=(hR.upd s1 hs1).o
 obtain ⟨j,hj⟩:=zb x.text (zAK 4) 0
 rw [hf,Option.map_none] at hj;refine ADet.intro mixed Tryz.call214 Tryz.func214 rfl ?_;simp [Tryz.ntmps214];refine ⟨_,_,(zW s).at hR hs _,?_⟩;simp [ho,hb];refine ⟨_,_,ih.at hR hs _,?_⟩;simp;refine zE (fun _ : Unit=>True) (fun _=>([.ptr (d + 1) i 0,I 4,.any,.any,.ptr 0 0 0,.any,.ptr 0 1 0] ++ List.replicate 103 .any)) (fun _=>[.cells [.any,.any,.any,.any,.any,.any,.any,.any] 40,.cells [U e.op,I e.int,Sg e.name,Sg e.second,Sg e.place.name,.p (strs e.place.path),.p (.sl 8 (e.args.map Ex.enc)),I e.pos] 40] :: set2 S d i (rdO l s1)) (fun _=>0) () trivial ?_ ?_ ?_
 .simp
 .simp
 rintro ⟨⟩ -
 simp;refine zA [] (by kernel_rfl) (by kernel_rfl) ?_
 simp [ho1,hb1,hlt1];refine zA [(5,1),(9,1),(12,1)] (by kernel_rfl) (by kernel_rfl) ?_
 simp [ho1,hb1,hlt1]
 obtain ⟨X,sC⟩:=zDT 4 (by omega) [.cells [.any,.any,.any,.any,.any,.any,.any,.any] 40,.cells [U e.op,I e.int,Sg e.name,Sg e.second,Sg e.place.name,.p (strs e.place.path),.p (.sl 8 (e.args.map Ex.enc)),I e.pos] 40] (set2 S d i (rdO l s1))
 refine ⟨_,_,sC,?_⟩;simp [ho1,hb1,hlt1,hx1,Tok.enc,zCt,mapK,hj]
theorem zOH {l : List Tok} {s s1 : RS} {e : Ex} (hs : s.at_ <= l.length) (hb : s.bad = false) (ih : RdC 214 [I (6 : Nat)] l s s1 (exV e)) (hs1 : s1.at_ <= l.length) (hb1 : s1.bad = true) : RdC 214 [I (5 : Nat)] l s s1 (exV e):=RdC.intro fun S d i hR=>by
 have ho:=(hR.upd s hs).o
 have ho1:=(hR.upd s1 hs1).o
 refine ADet.intro mixed Tryz.call214 Tryz.func214 rfl ?_;simp [Tryz.ntmps214];refine ⟨_,_,(zW s).at hR hs _,?_⟩;simp [ho,hb];refine ⟨_,_,ih.at hR hs _,?_⟩;simp;refine zE (fun _ : Unit=>True) (fun _=>([.ptr (d + 1) i 0,I 5,.any,.any,.ptr 0 0 0,.any,.ptr 0 1 0] ++ List.replicate 103 .any)) (fun _=>[.cells [.any,.any,.any,.any,.any,.any,.any,.any] 40,.cells [U e.op,I e.int,Sg e.name,Sg e.second,Sg e.place.name,.p (strs e.place.path),.p (.sl 8 (e.args.map Ex.enc)),I e.pos] 40] :: set2 S d i (rdO l s1)) (fun _=>0) () trivial ?_ ?_ ?_
 .simp
 .simp
 rintro ⟨⟩ -
 simp;refine zA [] (by kernel_rfl) (by kernel_rfl) ?_
 simp [ho1,hb1]
theorem zOI {l : List Tok} {s s1 : RS} {e : Ex} (hs : s.at_ <= l.length) (hb : s.bad = false) (ih : RdC 214 [I (6 : Nat)] l s s1 (exV e)) (hs1 : s1.at_ <= l.length) (hb1 : s1.bad = false) (hlt1 : ¬ (s1.at_ : Int) < (l.length : Int)) : RdC 214 [I (5 : Nat)] l s s1 (exV e):=RdC.intro fun S d i hR=>by
 have ho:=(hR.upd s hs).o
 have ho1:=(hR.upd s1 hs1).o
 refine ADet.intro mixed Tryz.call214 Tryz.func214 rfl ?_;simp [Tryz.ntmps214];refine ⟨_,_,(zW s).at hR hs _,?_⟩;simp [ho,hb];refine ⟨_,_,ih.at hR hs _,?_⟩;simp;refine zE (fun _ : Unit=>True) (fun _=>([.ptr (d + 1) i 0,I 5,.any,.any,.ptr 0 0 0,.any,.ptr 0 1 0] ++ List.replicate 103 .any)) (fun _=>[.cells [.any,.any,.any,.any,.any,.any,.any,.any] 40,.cells [U e.op,I e.int,Sg e.name,Sg e.second,Sg e.place.name,.p (strs e.place.path),.p (.sl 8 (e.args.map Ex.enc)),I e.pos] 40] :: set2 S d i (rdO l s1)) (fun _=>0) () trivial ?_ ?_ ?_
 .simp
 .simp
 rintro ⟨⟩ -
 simp;refine zA [] (by kernel_rfl) (by kernel_rfl) ?_
 simp [ho1,hb1,hlt1]
theorem zOJ {l : List Tok} {s s1 : RS} {e : Ex} (hs : s.at_ <= l.length) (hb : s.bad = false) (ih : RdC 214 [I (6 : Nat)] l s s1 (exV e)) (hs1 : s1.at_ <= l.length) (hb1 : s1.bad = false) (hlt1 : (s1.at_ : Int) < (l.length : Int)) {x : Tok} (hx1 : l[s1.at_]? = some x) (hf : zAn x.text (zAK 5) = none) : RdC 214 [I (5 : Nat)] l s s1 (exV e):=RdC.intro fun S d i hR=>by
 have ho:=(hR.upd s hs).o
 have ho1:=(hR.upd s1 hs1).o
 obtain ⟨j,hj⟩:=zb x.text (zAK 5) 0
 rw [hf,Option.map_none] at hj;refine ADet.intro mixed Tryz.call214 Tryz.func214 rfl ?_;simp [Tryz.ntmps214];refine ⟨_,_,(zW s).at hR hs _,?_⟩;simp [ho,hb];refine ⟨_,_,ih.at hR hs _,?_⟩;simp;refine zE (fun _ : Unit=>True) (fun _=>([.ptr (d + 1) i 0,I 5,.any,.any,.ptr 0 0 0,.any,.ptr 0 1 0] ++ List.replicate 103 .any)) (fun _=>[.cells [.any,.any,.any,.any,.any,.any,.any,.any] 40,.cells [U e.op,I e.int,Sg e.name,Sg e.second,Sg e.place.name,.p (strs e.place.path),.p (.sl 8 (e.args.map Ex.enc)),I e.pos] 40] :: set2 S d i (rdO l s1)) (fun _=>0) () trivial ?_ ?_ ?_
 .simp
 .simp
 rintro ⟨⟩ -
 simp;refine zA [] (by kernel_rfl) (by kernel_rfl) ?_
 simp [ho1,hb1,hlt1];refine zA [(5,1),(9,1),(12,1)] (by kernel_rfl) (by kernel_rfl) ?_
 simp [ho1,hb1,hlt1]
 obtain ⟨X,sC⟩:=zDT 5 (by omega) [.cells [.any,.any,.any,.any,.any,.any,.any,.any] 40,.cells [U e.op,I e.int,Sg e.name,Sg e.second,Sg e.place.name,.p (strs e.place.path),.p (.sl 8 (e.args.map Ex.enc)),I e.pos] 40] (set2 S d i (rdO l s1))
 refine ⟨_,_,sC,?_⟩;simp [ho1,hb1,hlt1,hx1,Tok.enc,zCt,mapK,hj]
end Go.Proofs.YtlclonljdagpkaaGreatDoor
namespace Go.Proofs.YtlclonljdagpkaaGreatDoor
open Go.RowKit
attribute [local simp] List.replicate List.range List.range.loop resA zR retA
theorem zIM {l : List Tok} {s : RS} (hs : s.at_ <= l.length) (k : Nat) (hb : s.bad = true) : RdC 214 [I k] l s s exZ:=RdC.intro fun S d i hR=>by
 have ho:=(hR.upd s hs).o
 refine ADet.intro mixed Tryz.call214 Tryz.func214 rfl ?_;simp [Tryz.ntmps214];refine ⟨_,_,(zW s).at hR hs _,?_⟩;simp [ho,hb]
theorem zTO {l : List Tok} {s s1 : RS} {e : Ex} (hs : s.at_ <= l.length) (hb : s.bad = false) (hno : isP l s (⟨#[45]⟩ : ByteArray) 0 = false) (ih : RdC 242 [] l s s1 (exV e)) : RdC 214 [I (6 : Nat)] l s s1 (exV e):=RdC.intro fun S d i hR=>by
 have ho:=(hR.upd s hs).o
 have hm : mayP l s (⟨#[45]⟩ : ByteArray) = s:=by unfold mayP; rw [hno]; rfl
 refine ADet.intro mixed Tryz.call214 Tryz.func214 rfl ?_;simp [Tryz.ntmps214];refine ⟨_,_,(zW s).at hR hs _,?_⟩;simp [ho,hb];refine ⟨_,_,(mayW s (⟨#[45]⟩ : ByteArray)).at hR hs _,?_⟩;rw [hno,hm];simp;refine ⟨_,_,ih.at hR hs _,?_⟩;simp
theorem zLW {n : Nat} (hn : n <= 100000) {l : List Tok} : ∀ (j : Nat),j <= 6 -> ∀ {s : RS} {e : Ex} {s' : RS},s.at_ <= l.length -> zEl l n j s = some (e,s') -> RdC 214 [I (6 - j : Nat)] l s s' (exV e) /\ s'.at_ <= l.length
 | 0,hj,s,e,s',hs,h=>by
  unfold zEl at h
  cases hb : s.bad with
  | true =>
   rw [hb,if_pos rfl] at h;cases h
   exact ⟨(zIM hs 6 hb).less zET,hs⟩
  | false =>
   rw [hb,if_neg (by simp)] at h
   cases hno : isP l s (⟨#[45]⟩ : ByteArray) 0 with
   | true=>rw [hno,if_pos rfl] at h; cases h
   | false =>
    rw [hno,if_neg (by simp)] at h
    exact ⟨zTO hs hb hno (zWC hn hs h),zN1 hs h⟩
 | j + 1,hj,s,e,s',hs,h=>by
  unfold zEl at h
  cases hb : s.bad with
  | true =>
   rw [hb,if_pos rfl] at h;cases h
   exact ⟨(zIM hs _ hb).less zET,hs⟩
  | false =>
   rw [hb,if_neg (by simp)] at h
   split at h
   .cases h
   rename_i hnot
   split at h
   .cases h
   rename_i e1 s1 h1
   obtain ⟨ih,hs1⟩:=zLW hn j (by omega) hs h1
   have key : s1 = s' /\ e1 = e /\ (s1.bad = true \/ (s1.bad = false /\ ¬ (s1.at_ : Int) < (l.length : Int)) \/ (s1.bad = false /\ (s1.at_ : Int) < (l.length : Int) /\ ∃ x,l[s1.at_]? = some x /\ zAn x.text (zAK (5 - j)) = none)):=by
    cases hb1 : s1.bad with
    | true =>
     rw [hb1,if_pos rfl] at h;cases h
     exact ⟨rfl,rfl,.inl rfl⟩
    | false =>
     rw [hb1,if_neg (by simp)] at h
     cases hx : l[s1.at_]? with
     | none =>
      rw [hx] at h;cases h
      have:=List.getElem?_eq_none_iff.1 hx
      exact ⟨rfl,rfl,.inr (.inl ⟨rfl,by omega⟩)⟩
     | some x =>
      rw [hx] at h
      dsimp only at h
      have hlt:=(List.getElem?_eq_some_iff.1 hx).1
      cases hf : zAn x.text (zAK (5 - j)) with
      | some k=>rw [hf] at h; simp at h
      | none =>
       rw [hf] at h;simp at h
       obtain ⟨rfl,rfl⟩:=h
       exact ⟨rfl,rfl,.inr (.inr ⟨rfl,by omega,x,rfl,hf⟩)⟩
   obtain ⟨rfl,rfl,hend⟩:=key
   refine ⟨?_,hs1⟩
   rcases (by omega : j = 0 \/ j = 1 \/ j = 2 \/ j = 3 \/ j = 4 \/ j = 5) with rfl | rfl | rfl | rfl | rfl | rfl
   .rcases hend with g | ⟨g,g1⟩ | ⟨g,g1,x,g2,g3⟩
    .exact zOH hs hb ih hs1 g
    .exact zOI hs hb ih hs1 g g1
    .exact zOJ hs hb ih hs1 g g1 g2 g3
   .rcases hend with g | ⟨g,g1⟩ | ⟨g,g1,x,g2,g3⟩
    .exact zOE hs hb ih hs1 g
    .exact zOF hs hb ih hs1 g g1
    .exact zOG hs hb ih hs1 g g1 g2 g3
   .rcases hend with g | ⟨g,g1⟩ | ⟨g,g1,x,g2,g3⟩
    .exact zOB hs hb ih hs1 g
    .exact zOC hs hb ih hs1 g g1
    .exact zOD hs hb ih hs1 g g1 g2 g3
   .rcases hend with g | ⟨g,g1⟩ | ⟨g,g1,x,g2,g3⟩
    .exact zN8 hs hb (by simpa using hnot) ih hs1 g
    .exact zN9 hs hb (by simpa using hnot) ih hs1 g g1
    .exact zOA hs hb (by simpa using hnot) ih hs1 g g1 g2 g3
   .rcases hend with g | ⟨g,g1⟩ | ⟨g,g1,x,g2,g3⟩
    .exact zN5 hs hb ih hs1 g
    .exact zN6 hs hb ih hs1 g g1
    .exact zN7 hs hb ih hs1 g g1 g2 g3
   .rcases hend with g | ⟨g,g1⟩ | ⟨g,g1,x,g2,g3⟩
    .exact zN2 hs hb ih hs1 g
    .exact zN3 hs hb ih hs1 g g1
    .exact zN4 hs hb ih hs1 g g1 g2 g3
theorem zYJ {n : Nat} (hn : n <= 100000) {l : List Tok} {s : RS} {e : Ex} {s' : RS} (hs : s.at_ <= l.length) (h : zEl l n 6 s = some (e,s')) : RdC 162 [] l s s' (exV e):=by
 have ih:=(zLW hn 6 (by omega) hs h).1
 refine RdC.intro fun S d i hR=>?_
 refine ADet.intro mixed Tryz.call162 Tryz.func162 rfl ?_;simp [Tryz.ntmps162];refine ⟨_,_,ih.at hR hs _,?_⟩;simp
end Go.Proofs.YtlclonljdagpkaaGreatDoor
