/-
  What some of the program's functions compute: their models, and that the functions compute these; no condition.
-/
import Derived.Test.YtoknnjiangjccaaGreatDoorTyz
import Derived.Test.YtoknnjiangjccaaGreatDoorTbz
import Derived.Test.YtoknnjiangjccaaGreatDoorLayz
import Derived.Test.YtoknnjiangjccaaGreatDoorLay4z
import Derived.Test.YtoknnjiangjccaaGreatDoorAbz8
import Derived.BigCall
import Derived.BigGuard
import Derived.BigQuiet
import Derived.Deep.QuietTactic
import Derived.Laws.OwnMore
import Derived.Maps.AppendAt
import Derived.Maps.OwnSet
import Derived.Maps.RangeWalk
import Derived.OwnWalk
import Derived.Sort.OwnSorted
import Derived.StringKeys
import Derived.WalkKit
import Derived.Test.YtoknnjiangjccaaGreatDoorKz4
set_option linter.all false
namespace Go.Proofs.YtoknnjiangjccaaGreatDoor
open Go Go.Ab Tryz
set_option maxRecDepth 100000
set_option maxHeartbeats 40000000
noncomputable section
def QeT (a0:Int):Option (Int):=
 bd (α:=Int×Int) ((if(decide (a0>=4294967296))=true then
 gd ((0:Int)<=32)<|
 some (((a0:Int).fdiv (2^min (32:Int).toNat IntKind.u64.bits)),32)
else
 some (a0,0))) fun I=>
 bd (α:=Int×Int) ((if(decide (I.1>=65536))=true then
 gd ((0:Int)<=16)<|
 some (((I.1:Int).fdiv (2^min (16:Int).toNat IntKind.u64.bits)),IntKind.i64.wrap (I.2+16))
else
 some (I.1,I.2))) fun G=>
(if(decide (G.1>=256))=true then
 gd ((0:Int)<=8)<|
 gd ((0:Int)<=IntKind.u8.wrap ((G.1:Int).fdiv (2^min (8:Int).toNat IntKind.u64.bits))∧IntKind.u8.wrap ((G.1:Int).fdiv (2^min (8:Int).toNat IntKind.u64.bits))<(((⟨#[0,1,2,2,3,3,3,3,4,4,4,4,4,4,4,4,5,5,5,5,5,5,5,5,5,5,5,5,5,5,5,5,6,6,6,6,6,6,6,6,6,6,6,6,6,6,6,6,6,6,6,6,6,6,6,6,6,6,6,6,6,6,6,6,7,7,7,7,7,7,7,7,7,7,7,7,7,7,7,7,7,7,7,7,7,7,7,7,7,7,7,7,7,7,7,7,7,7,7,7,7,7,7,7,7,7,7,7,7,7,7,7,7,7,7,7,7,7,7,7,7,7,7,7,7,7,7,7,8,8,8,8,8,8,8,8,8,8,8,8,8,8,8,8,8,8,8,8,8,8,8,8,8,8,8,8,8,8,8,8,8,8,8,8,8,8,8,8,8,8,8,8,8,8,8,8,8,8,8,8,8,8,8,8,8,8,8,8,8,8,8,8,8,8,8,8,8,8,8,8,8,8,8,8,8,8,8,8,8,8,8,8,8,8,8,8,8,8,8,8,8,8,8,8,8,8,8,8,8,8,8,8,8,8,8,8,8,8,8,8,8,8,8,8,8,8,8,8,8,8,8,8,8,8,8,8]⟩:Bt).size:Nat):Int))<|
 some (IntKind.i64.wrap ((IntKind.i64.wrap (G.2+8))+(IntKind.i64.wrap (J9 (⟨#[0,1,2,2,3,3,3,3,4,4,4,4,4,4,4,4,5,5,5,5,5,5,5,5,5,5,5,5,5,5,5,5,6,6,6,6,6,6,6,6,6,6,6,6,6,6,6,6,6,6,6,6,6,6,6,6,6,6,6,6,6,6,6,6,7,7,7,7,7,7,7,7,7,7,7,7,7,7,7,7,7,7,7,7,7,7,7,7,7,7,7,7,7,7,7,7,7,7,7,7,7,7,7,7,7,7,7,7,7,7,7,7,7,7,7,7,7,7,7,7,7,7,7,7,7,7,7,7,8,8,8,8,8,8,8,8,8,8,8,8,8,8,8,8,8,8,8,8,8,8,8,8,8,8,8,8,8,8,8,8,8,8,8,8,8,8,8,8,8,8,8,8,8,8,8,8,8,8,8,8,8,8,8,8,8,8,8,8,8,8,8,8,8,8,8,8,8,8,8,8,8,8,8,8,8,8,8,8,8,8,8,8,8,8,8,8,8,8,8,8,8,8,8,8,8,8,8,8,8,8,8,8,8,8,8,8,8,8,8,8,8,8,8,8,8,8,8,8,8,8,8,8,8,8,8,8]⟩:Bt) (IntKind.u8.wrap ((G.1:Int).fdiv (2^min (8:Int).toNat IntKind.u64.bits))).toNat))))
else
 gd ((0:Int)<=IntKind.u8.wrap G.1∧IntKind.u8.wrap G.1<(((⟨#[0,1,2,2,3,3,3,3,4,4,4,4,4,4,4,4,5,5,5,5,5,5,5,5,5,5,5,5,5,5,5,5,6,6,6,6,6,6,6,6,6,6,6,6,6,6,6,6,6,6,6,6,6,6,6,6,6,6,6,6,6,6,6,6,7,7,7,7,7,7,7,7,7,7,7,7,7,7,7,7,7,7,7,7,7,7,7,7,7,7,7,7,7,7,7,7,7,7,7,7,7,7,7,7,7,7,7,7,7,7,7,7,7,7,7,7,7,7,7,7,7,7,7,7,7,7,7,7,8,8,8,8,8,8,8,8,8,8,8,8,8,8,8,8,8,8,8,8,8,8,8,8,8,8,8,8,8,8,8,8,8,8,8,8,8,8,8,8,8,8,8,8,8,8,8,8,8,8,8,8,8,8,8,8,8,8,8,8,8,8,8,8,8,8,8,8,8,8,8,8,8,8,8,8,8,8,8,8,8,8,8,8,8,8,8,8,8,8,8,8,8,8,8,8,8,8,8,8,8,8,8,8,8,8,8,8,8,8,8,8,8,8,8,8,8,8,8,8,8,8,8,8,8,8,8,8]⟩:Bt).size:Nat):Int))<|
 some (IntKind.i64.wrap (G.2+(IntKind.i64.wrap (J9 (⟨#[0,1,2,2,3,3,3,3,4,4,4,4,4,4,4,4,5,5,5,5,5,5,5,5,5,5,5,5,5,5,5,5,6,6,6,6,6,6,6,6,6,6,6,6,6,6,6,6,6,6,6,6,6,6,6,6,6,6,6,6,6,6,6,6,7,7,7,7,7,7,7,7,7,7,7,7,7,7,7,7,7,7,7,7,7,7,7,7,7,7,7,7,7,7,7,7,7,7,7,7,7,7,7,7,7,7,7,7,7,7,7,7,7,7,7,7,7,7,7,7,7,7,7,7,7,7,7,7,8,8,8,8,8,8,8,8,8,8,8,8,8,8,8,8,8,8,8,8,8,8,8,8,8,8,8,8,8,8,8,8,8,8,8,8,8,8,8,8,8,8,8,8,8,8,8,8,8,8,8,8,8,8,8,8,8,8,8,8,8,8,8,8,8,8,8,8,8,8,8,8,8,8,8,8,8,8,8,8,8,8,8,8,8,8,8,8,8,8,8,8,8,8,8,8,8,8,8,8,8,8,8,8,8,8,8,8,8,8,8,8,8,8,8,8,8,8,8,8,8,8,8,8,8,8,8,8]⟩:Bt) (IntKind.u8.wrap G.1).toNat)))))
theorem QiS {a0:Int} {r:Int} (h:QeT a0=some r):PureC prog 199 [.d (.int .u64 a0)] (dI r) []:=by
 refine pY tOk f199 rfl ?_;obtain⟨Y,I,h⟩:=Qb h;refine Zo tOk (fun J=>⟨0,25,[(0,.d (.int .u64 J.1)),(2,dI J.2)],[],[],[]⟩) (fun J=>Y=J) ?_ ?_
 ·apply Qm I<;>intro _ I
  ·refine gdI I fun I=>?_;exact eZ I []
  ·exact eZ I []
 ·rintro _ rfl;obtain⟨U,G,h⟩:=Qb h;refine Zo tOk (fun O=>⟨0,25,[(0,.d (.int .u64 O.1)),(2,dI O.2)],[],[],[]⟩) (fun O=>U=O) ?_ ?_
  ·apply Qm G<;>intro _ G
   ·refine gdI G fun G=>?_;exact eZ G []
   ·exact eZ G []
  ·rintro _ rfl;refine Qc tOk ?_;apply Qm h<;>intro _ h
   ·refine gdI h fun h=>gdI h fun h=>?_;cases h;exact lfP []
   ·refine gdI h fun h=>?_;cases h;exact lfP []
def Qga (a0:Int):Option (Int):=
 bd (QeT a0) fun G=>
 some G
theorem QkN {a0:Int} {r:Int} (h:Qga a0=some r):PureC prog 167 [.d (.int .u64 a0)] (dI r) []:=by
 refine pY tOk f167 rfl (Qc tOk (aI (fun e=>Bool.noConfusion e) (fun _=>bC h 0 (fun _=>QiS) fun x1 h=>?_)));cases h;exact lfP []
def Qce (a0:QAg) (G:QAg):Option (Int):=
(if(bsl a0.User G.User)=true then
 some (-1)
else
 some 1)
theorem QeU {a0:QAg} {G:QAg} {r:Int} (h:Qce a0 G=some r):PureC prog 126 [.agg [.d (.str a0.User),dI a0.Base,.d (slD encSb a0.From),.d (slD encSb a0.Lines)],.agg [.d (.str G.User),dI G.Base,.d (slD encSb G.From),.d (slD encSb G.Lines)]] (dI r) []:=by
 refine pY tOk f126 rfl (Qc tOk ?_);apply Qm h<;>intro _ h
 ·cases h
  exact lfP []
 ·cases h
  exact lfP []
def Q6 (a0:(List QAg)) (I:Int) (a2:Int):Option ((List QAg)):=
 bd (lp (σ:=List QAg×Int) (β:=((List QAg)×Nat)) (fun s1=>
(if(decide (s1.2<a2))=true then
 bd (lp (σ:=List QAg×Int) (β:=(Nat×(List QAg))) (fun G=>
 gd ((decide (G.2>I))=true->((0:Int)<=G.2∧G.2<((G.1.length:Nat):Int)))<|
 gd ((decide (G.2>I))=true->((0:Int)<=IntKind.i64.wrap (G.2-1)∧IntKind.i64.wrap (G.2-1)<((G.1.length:Nat):Int)))<|
 bd (gcall ((decide (G.2>I))=true) (Qce (G.1.getD G.2.toNat default) (G.1.getD ((IntKind.i64.wrap (G.2-1)).toNat) default))) fun U=>
(if((decide (G.2>I))&&(decide (U<0)))=true then
 gd ((0:Int)<=IntKind.i64.wrap (G.2-1)∧IntKind.i64.wrap (G.2-1)<((G.1.length:Nat):Int))<|
 gd ((0:Int)<=G.2∧G.2<((G.1.length:Nat):Int))<|
 gd ((0:Int)<=G.2∧G.2<((G.1.length:Nat):Int))<|
 bd (some (G.1.set G.2.toNat (G.1.getD ((IntKind.i64.wrap (G.2-1)).toNat) default))) fun O=>
 gd ((0:Int)<=IntKind.i64.wrap (G.2-1)∧IntKind.i64.wrap (G.2-1)<((G.1.length:Nat):Int))<|
 bd (some (O.set ((IntKind.i64.wrap (G.2-1)).toNat) (G.1.getD G.2.toNat default))) fun J=>
 some (.inl (J,IntKind.i64.wrap (G.2-1)))
else
 some (.inr (G.1.length,G.1)))) (s1.1,s1.2)) fun x8=>
 some (.inl (x8.2,IntKind.i64.wrap (s1.2+1)))
else
 some (.inr (s1.1,s1.1.length)))) (a0,IntKind.i64.wrap (I+1))) fun Y=>
 gd (Y.2=a0.length)<|
 some Y.1
theorem Je {a0:(List QAg)} {a1:Int} {a2:Int} {r:(List QAg)} (h:Q6 a0 a1 a2=some r):EffC prog 190 [.osl 9000 0 a0.length,dI a1,dI a2,.fn 126 []] [(9000,.arr 93 4 a0.length (rows QAg.enc a0))] (.tup []) [(9000,.arr 93 4 a0.length (rows QAg.enc r))]:=by
 refine eY tOk f190 rfl ?_;obtain⟨x4,a4,h⟩:=Qb h;refine QA tOk a4 (fun s1=>⟨0,53,[(0,.osl 9000 0 s1.1.length),(1,dI a1),(2,dI a2),(3,.fn 126 []),(8,dI s1.2)],[],[(9000,.arr 93 4 s1.1.length (rows QAg.enc s1.1))],[⟨[(0,.osl 9000 0 s1.1.length)],[]⟩]⟩) ?_ ?_
 ·exact leX []
 ·clear a4;intro s1 y2 O b5;refine Qc tOk ?_;apply Qm O<;>intro _ O
  ·refine Qc tOk ?_;obtain⟨x8,Y,O⟩:=Qb O;refine QA tOk Y (fun G=>⟨0,53,[(0,.osl 9000 0 G.1.length),(1,dI a1),(2,dI a2),(3,.fn 126 []),(8,dI s1.2),(9,dI G.2)],[],[(9000,.arr 93 4 G.1.length (rows QAg.enc G.1))],[⟨[(0,.osl 9000 0 G.1.length)],[]⟩]⟩) ?_ ?_
   ·exact leX []
   ·clear Y;intro G y6 I a6;refine Qc tOk ?_;obtain⟨g9,I⟩:=Qf I;obtain⟨b3,I⟩:=Qf I;obtain⟨b6,a5,I⟩:=Qb I;refine QP tOk [.u 14 0 (dI b6) []] 17 [] [0,0,3,7,15,15,15,111,239,15,15,1039,3599,7695,16383,32767,65535] [] (aI g9 (aI b3 (aI (Qs rfl rfl rfl rfl (by intro c0;exact QeU (Qn a5 c0))) (aK ?_))));apply Qm I<;>intro _ I
    ·refine Qc tOk ?_;obtain⟨a9,I⟩:=Qf I;obtain⟨b2,I⟩:=Qf I;obtain⟨a8,I⟩:=Qf I;obtain⟨J,U,hlx15,I⟩:=Qee I;obtain⟨b4,I⟩:=Qf I;obtain⟨a7,a3,hlx17,I⟩:=Qee I;refine Qaj tOk [.l 8 [(9000,.arr 93 4 G.1.length (rows QAg.enc G.1))] (.ref 9000 ((IntKind.i64.wrap (G.2-1)).toNat) 0),.l 9 [(9000,.arr 93 4 G.1.length (rows QAg.enc G.1))] (.agg [.d (.str ((G.1.getD ((IntKind.i64.wrap (G.2-1)).toNat) default).User)),dI ((G.1.getD ((IntKind.i64.wrap (G.2-1)).toNat) default).Base),.d (slD encSb ((G.1.getD ((IntKind.i64.wrap (G.2-1)).toNat) default).From)),.d (slD encSb ((G.1.getD ((IntKind.i64.wrap (G.2-1)).toNat) default).Lines))]),.l 12 [(9000,.arr 93 4 G.1.length (rows QAg.enc G.1))] (.ref 9000 G.2.toNat 0),.l 13 [(9000,.arr 93 4 G.1.length (rows QAg.enc G.1))] (.agg [.d (.str ((G.1.getD G.2.toNat default).User)),dI ((G.1.getD G.2.toNat default).Base),.d (slD encSb ((G.1.getD G.2.toNat default).From)),.d (slD encSb ((G.1.getD G.2.toNat default).Lines))]),.l 14 [(9000,.arr 93 4 G.1.length (rows QAg.enc G.1))] (.ref 9000 G.2.toNat 0),.a 15 [(9000,.arr 93 4 G.1.length (rows QAg.enc G.1))] (.any) [(9000,.arr 93 4 G.1.length (rows QAg.enc J))],.l 16 [(9000,.arr 93 4 G.1.length (rows QAg.enc J))] (.ref 9000 ((IntKind.i64.wrap (G.2-1)).toNat) 0),.a 17 [(9000,.arr 93 4 G.1.length (rows QAg.enc J))] (.any) [(9000,.arr 93 4 G.1.length (rows QAg.enc a7))]] 18 [] [0,0,0,0,8,0,0,64,224,480,0,0,3072,7168,16355,32739,65535,131071] [] [9000] (aI (by(conv=>whnf);exact⟨a9,rfl,rfl⟩) (aI (by(conv=>whnf);exact⟨rfl,rfl⟩) (aI (by(conv=>whnf);exact⟨b2,rfl,rfl⟩) (aI (by(conv=>whnf);exact⟨rfl,rfl⟩) (aI (by(conv=>whnf);exact⟨a8,rfl,rfl⟩) (aI (by(conv=>whnf);exact Qpo (enc:=QAg.enc) U ⟨rfl,rfl⟩) (aI (by(conv=>whnf);exact⟨b4,rfl,rfl⟩) (aI (by(conv=>whnf);exact Qpo (enc:=QAg.enc) a3 ⟨rfl,rfl⟩) (aK ?_)))))))));exact eX I []
    ·cases I
     cases a6 _ rfl
     exact eX O []
  ·cases O
   cases b5 _ rfl
   obtain⟨g20,h⟩:=Qf h;cases h;exact lfE []
def Zh (a0:(List QAg)) (J:Int) (I:Int) (U:Int):Option ((List QAg)):=
 bd (lp (σ:=Unit) (β:=((List QAg))) (fun s1=>
(if(decide ((IntKind.i64.wrap (I-J))<=12))=true then
 bd (Q6 a0 J I) fun G=>
 gd (G.length=a0.length)<|
 some (.inr G)
else
(if(U==0)=true then
 none
else
 none))) ()) fun O=>
 some O
theorem JC {a0:(List QAg)} {a1:Int} {O:Int} {Y:Int} {r:(List QAg)} (h:Zh a0 a1 O Y=some r):EffC prog 166 [.osl 9000 0 a0.length,dI a1,dI O,dI Y,.fn 126 []] [(9000,.arr 93 4 a0.length (rows QAg.enc a0))] (.tup []) [(9000,.arr 93 4 a0.length (rows QAg.enc r))]:=by
 refine eY tOk f166 rfl ?_;obtain⟨x4,I,h⟩:=Qb h;refine QA tOk I (fun s1=>⟨0,148,[(0,.osl 9000 0 a0.length),(1,dI a1),(2,dI O),(3,dI Y),(4,.fn 126 []),(10,dB true),(11,dB true)],[],[(9000,.arr 93 4 a0.length (rows QAg.enc a0))],[⟨[(0,.osl 9000 0 a0.length)],[]⟩]⟩) ?_ ?_
 ·exact leX []
 ·clear I;intro s1 y2 G U;refine Qc tOk ?_;apply Qm G<;>intro _ G
  ·obtain⟨x5,J,G⟩:=Qb G;obtain⟨g6,G⟩:=Qf G;refine cE [(9000,9000)] 0 (Je J) ?_;cases G;cases U _ rfl;cases h;exact lfE []
  ·refine Qc tOk ?_;apply Qm G<;>intro _ G
   ·cases G
   ·refine Qc tOk (aI (fun e=>Bool.noConfusion e) (fun _=>?_));cases G
def Zc (a0:(List QAg)):Option ((List QAg)):=
 bd (Qga (IntKind.u64.wrap ((a0.length:Nat):Int))) fun I=>
 bd (Zh a0 0 ((a0.length:Nat):Int) I) fun G=>
 gd (G.length=a0.length)<|
 some G
theorem Jn {a0:(List QAg)} {r:(List QAg)} (h:Zc a0=some r):EffC prog 125 [.osl 9000 0 a0.length,.fn 126 []] [(9000,.arr 93 4 a0.length (rows QAg.enc a0))] (.tup []) [(9000,.arr 93 4 a0.length (rows QAg.enc r))]:=by
 refine eY tOk f125 rfl (bC h 0 (fun _=>QkN) fun x1 h=>?_);obtain⟨x2,G,h⟩:=Qb h;obtain⟨g3,h⟩:=Qf h;refine cE [(9000,9000)] 0 (JC G) ?_;cases h;exact lfE []
def QcY (a0:QAk) (U:Bt):Option (Int×QAk):=
 bd (QcE a0.Box.Lines U) fun x1=>
(if(!x1.2)=true then
 some (3,a0)
else
 bd (α:=Unit⊕Unit) (bd (lp (σ:=Int) (β:=(Nat⊕Unit)) (fun G=>
(if(decide (G<((a0.Box.Cands.length:Nat):Int)))=true then
 gd ((0:Int)<=G∧G<((a0.Box.Cands.length:Nat):Int))<|
(if(((a0.Box.Cands.getD G.toNat default).User)==U)=true then
 gd ((0:Int)<=G∧G<((a0.Box.Cands.length:Nat):Int))<|
 some (.inr (.inl G.toNat))
else
 some (.inl (IntKind.i64.wrap (G+1))))
else
 some (.inr (.inr ())))) 0) fun x8=>
(match x8 with
| .inl d11=>
(if(false&&(((a0.Box.Cands.length:Nat):Int)==3))=true then
 some (.inr ())
else
 some (.inl ()))
| .inr d12=>
(if(true&&(((a0.Box.Cands.length:Nat):Int)==3))=true then
 some (.inr ())
else
 some (.inl ())))) fun x2=>
(match x2 with
| .inl d4=>
 bd (Qar a0 U) fun O=>
 bd (QW a0.Box.Lines) fun I=>
 bd (QW a0.Box.Lines) fun J=>
 gd (((O.Box.Cands.length)+(([(⟨U,a0.Box.Edition,I,J⟩:QAg)]:List QAg).length))*(72+1)<=70368744177664)<|
 bd (Zc (O.Box.Cands++([(⟨U,a0.Box.Edition,I,J⟩:QAg)]:List QAg))) fun Y=>
 gd (Y.length=(O.Box.Cands++([(⟨U,a0.Box.Edition,I,J⟩:QAg)]:List QAg)).length)<|
 some (0,{a0 with Box:={a0.Box with Cands:=Y}})
| .inr d19=>
 some (4,a0)))
theorem QfV {a0:QAk} {U:Bt} {r:Int×QAk} (h:QcY a0 U=some r):EffC prog 59 [.ref 9000 0 0,.d (.str U)] [(9000,.box 34 [dB a0.Up,dI a0.Box.Edition,.d (slD encSb a0.Box.Lines),dI a0.Box.Trial,.d (slD encSb a0.Box.Back),.osl 9001 0 a0.Box.Cands.length,.d (slD QAj.enc a0.Slots),dI a0.Live,dI a0.Last,dI a0.Job.Kind,dI a0.Job.Step,dI a0.Job.Edition,dI a0.Job.Ticks,.d (slD encSb a0.Job.Lines)]),(9001,.arr 93 4 a0.Box.Cands.length (rows QAg.enc a0.Box.Cands))] (dI r.1) [(9000,.box 34 [dB a0.Up,dI a0.Box.Edition,.d (slD encSb a0.Box.Lines),dI a0.Box.Trial,.d (slD encSb a0.Box.Back),.osl 5001 0 r.2.Box.Cands.length,.d (slD QAj.enc a0.Slots),dI a0.Live,dI a0.Last,dI a0.Job.Kind,dI a0.Job.Step,dI a0.Job.Edition,dI a0.Job.Ticks,.d (slD encSb a0.Job.Lines)]),(5001,.arr 93 4 r.2.Box.Cands.length (rows QAg.enc r.2.Box.Cands))]:=by
 refine eY tOk f59 rfl (Qc tOk (bC h 1000 (fun _=>Qei) fun Y h=>?_));apply Qm h<;>intro _ h
 ·cases h
  exact lfE [.s [(5001,9001),(9001,5001)]]
 ·obtain⟨x2,G,h⟩:=Qb h;refine Zo tOk (fun s3=>⟨0,71,[(0,.ref 9000 0 0),(1,.d (.str U))],[],[(9000,.box 34 [dB a0.Up,dI a0.Box.Edition,.d (slD encSb a0.Box.Lines),dI a0.Box.Trial,.d (slD encSb a0.Box.Back),.osl 9001 0 a0.Box.Cands.length,.d (slD QAj.enc a0.Slots),dI a0.Live,dI a0.Last,dI a0.Job.Kind,dI a0.Job.Step,dI a0.Job.Edition,dI a0.Job.Ticks,.d (slD encSb a0.Job.Lines)]),(9001,.arr 93 4 a0.Box.Cands.length (rows QAg.enc a0.Box.Cands))],[⟨[(0,.ref 9000 0 0)],[]⟩]⟩) (fun s3=>x2=.inl s3) ?_ ?_
  ·refine Qh6 tOk 20000 (fn:=f123) (c:=Jw f123) rfl rfl (by kernel_rfl) rfl (Qc tOk ?_);obtain⟨x8,a5,G⟩:=Qb G;refine QA tOk a5 (fun s5=>⟨20000,34,[(0,.ref 9000 0 0),(1,.d (.str U)),(11,dI ((a0.Box.Cands.length:Nat):Int)),(12,dI s5)],[],[(6001,.arr 9 1 Y.1.length (rows encSb Y.1)),(9000,.box 34 [dB a0.Up,dI a0.Box.Edition,.d (slD encSb a0.Box.Lines),dI a0.Box.Trial,.d (slD encSb a0.Box.Back),.osl 9001 0 a0.Box.Cands.length,.d (slD QAj.enc a0.Slots),dI a0.Live,dI a0.Last,dI a0.Job.Kind,dI a0.Job.Step,dI a0.Job.Edition,dI a0.Job.Ticks,.d (slD encSb a0.Job.Lines)]),(9001,.arr 93 4 a0.Box.Cands.length (rows QAg.enc a0.Box.Cands))],[⟨[(0,.ref 9000 0 0),(1,.d (.str U)),(4,dI 0),(5,.osl 6001 0 Y.1.length),(6,dB Y.2),(7,.tup [.osl 6001 0 Y.1.length,dB Y.2]),(8,.ref 9000 0 0),(9,.ref 9000 0 0),(10,.ref 9000 0 1),(11,.ref 9000 0 2),(12,.d (slD encSb a0.Box.Lines)),(13,.d (.str U)),(14,.tup [.osl 6001 0 Y.1.length,dB Y.2]),(15,.osl 6001 0 Y.1.length),(16,dB Y.2),(17,dB Y.2),(18,dB (!Y.2)),(19,.ref 9000 0 0),(20,.d (.str U))],[]⟩,⟨[(0,.ref 9000 0 0)],[]⟩]⟩) ?_ ?_
   ·exact leX []
   ·clear a5;intro s5 y6 g7 a2;refine Qc tOk ?_;apply Qm g7<;>intro _ g7
    ·refine Qc tOk (gdI g7 fun g7=>?_);apply Qm g7<;>intro _ g7
     ·refine gdI g7 fun g7=>?_;cases g7;cases a2 _ rfl;apply Qm G<;>intro _ G
      ·cases G
       cases h
       exact lfE [.s [(5001,9001),(9001,5001)]]
      ·exact eX G []
     ·exact eX g7 []
    ·cases g7
     cases a2 _ rfl
     apply Qm G<;>intro _ G
     ·cases G
      cases h
      exact lfE [.s [(5001,9001),(9001,5001)]]
     ·exact eX G []
  ·intro d4 a4;subst a4;refine bE h [(9000,9000),(9001,9001)] 1000 (fun _=>QbQ) fun O h=>?_;obtain⟨I,a6,h⟩:=Qb h;obtain⟨J,a3,h⟩:=Qb h;obtain⟨a8,h⟩:=Qf h;refine Qaj tOk [.e 17 [] (.d (slD encSb I)) [] [],.e 23 [] (.d (slD encSb J)) [] [],.a 26 [(6001,.arr 93 4 O.Box.Cands.length (rows QAg.enc O.Box.Cands))] (.osl 61 0 ((O.Box.Cands++([(⟨U,a0.Box.Edition,I,J⟩:QAg)]:List QAg)).length)) [(61,.arr 93 4 ((O.Box.Cands++([(⟨U,a0.Box.Edition,I,J⟩:QAg)]:List QAg)).length) (rows QAg.enc (O.Box.Cands++([(⟨U,a0.Box.Edition,I,J⟩:QAg)]:List QAg))))]] 30 [] [0,0,2,6,14,30,0,0,128,384,896,1920,0,4096,12288,28672,61440,126976,0,262144,786432,1835008,3932160,8384512,16777152,33554368,67108862,134217727,268435455,536870911] [1073741823] [6001] (aI (eD [] 0 (ZU a6)) (aI (eD [] 0 (ZU a3)) (Qbh (enc:=QAg.enc) ([(⟨U,a0.Box.Edition,I,J⟩:QAg)]:List QAg) (aI (by(conv=>whnf);exact⟨a8,QfK (enc:=QAg.enc) (xs:=O.Box.Cands) (ys:=([(⟨U,a0.Box.Edition,I,J⟩:QAg)]:List QAg)) ⟨rfl,rfl⟩⟩) (aK ?_)))));obtain⟨x17,a7,h⟩:=Qb h;obtain⟨g18,h⟩:=Qf h;refine cE [(9000,61)] 0 (Jn a7) ?_;cases h;exact lfE [.s [(61,5001),(5001,61)]]
def QaN (a0:Bt) (I:Bt):Option (Bool):=
 bd (Zu a0) fun G=>
 bd (Zu I) fun J=>
 some (G==J)
theorem QcF {a0:Bt} {J:Bt} {r:Bool} (h:QaN a0 J=some r):PureC prog 131 [.d (.str a0),.rp [.str J]] (dB r) []:=by
 refine pY tOk f131 rfl ?_;obtain⟨O,G,h⟩:=Qb h;obtain⟨U,I,h⟩:=Qb h;refine QP tOk [.u 1 0 (.d (.str O)) [],.u 3 0 (.d (.str U)) []] 6 [] [0,1,0,7,15,31] [] (aI (QB (QeK G) (by kernel_rfl)) (aI (QB (QeK I) (by kernel_rfl)) (aK ?_)));cases h;exact lfP []
def Zj (a0:(List Bt)) (G:Bt):Option (Int):=
 bd (lp (σ:=Int) (β:=(Int⊕Unit)) (fun s1=>
(if(decide (s1<((a0.length:Nat):Int)))=true then
 gd ((0:Int)<=s1∧s1<((a0.length:Nat):Int))<|
 bd (QaN (a0.getD s1.toNat default) G) fun I=>
(if I=true then
 some (.inr (.inl s1))
else
 some (.inl (IntKind.i64.wrap (s1+1))))
else
 some (.inr (.inr ())))) 0) fun O=>
(match O with
| .inl J=>
 some J
| .inr d8=>
 some (-1))
theorem JF {a0:(List Bt)} {G:Bt} {r:Int} (h:Zj a0 G=some r):PureC prog 153 [.d (slD encSb a0),.fn 131 [.rp [.str G]]] (dI r) []:=by
 refine pY tOk f153 rfl (Qc tOk ?_);obtain⟨x4,J,h⟩:=Qb h;refine QA tOk J (fun s1=>⟨0,19,[(0,.d (slD encSb a0)),(1,.fn 131 [.rp [.str G]]),(7,dI ((a0.length:Nat):Int)),(8,dI s1)],[],[],[]⟩) ?_ ?_
 ·exact leX []
 ·clear J;intro s1 y2 I O;refine Qc tOk ?_;apply Qm I<;>intro _ I
  ·refine Qc tOk (gdI I fun I=>bC I 0 (fun _=>QcF) fun x6 I=>?_);apply Qm I<;>intro _ I
   ·cases I
    cases O _ rfl
    cases h
    exact lfP []
   ·exact eX I []
  ·cases I
   cases O _ rfl
   cases h
   exact lfP []
def Zq (a0:(List Bt)):Option ((List Bt)):=
 gd (a0.length<4611686018427387904)<|
 some (Qof a0)
theorem J0 {a0:(List Bt)} {r:(List Bt)} (h:Zq a0=some r):EffC prog 132 [.osl 9000 0 a0.length] [(9000,.arr 9 1 a0.length (rows encSb a0))] (.tup []) [(9000,.arr 9 1 a0.length (rows encSb r))]:=by
 unfold Zq at h;obtain⟨g,h⟩:=Qf h;obtain rfl:=sj_ h;exact Qpq g (Qpr (fn:=f132) (c:=Jw f132) rfl rfl (by kernel_rfl)) (fun blk off cap ss w G hb g=>AnyM.slices_Sort_string Lay.srts blk off cap ss w G hb g) (fun p cap w=>AnyM.slices_Sort_string_none Lay.srts p cap w)
def Qdz (a0:QAk) (a1:QAl):Option (Int×QAk):=
 bd (lp (σ:=Int) (β:=(Nat⊕Unit)) (fun s1=>
(if(decide (s1<((a0.Box.Cands.length:Nat):Int)))=true then
 gd ((0:Int)<=s1∧s1<((a0.Box.Cands.length:Nat):Int))<|
(if(((a0.Box.Cands.getD s1.toNat default).User)==a1.User)=true then
 gd ((0:Int)<=s1∧s1<((a0.Box.Cands.length:Nat):Int))<|
 some (.inr (.inl s1.toNat))
else
 some (.inl (IntKind.i64.wrap (s1+1))))
else
 some (.inr (.inr ())))) 0) fun x4=>
(match x4 with
| .inl U=>
 bd (Qbk a1.Line) fun O=>
(if(!O.2)=true then
 some (2,a0)
else
(if(a1.Kind==3)=true then
 bd (ZY ((a0.Box.Cands.getD U default).Lines) O.1) fun x9=>
(if(decide (x9<0))=true then
 some (5,a0)
else
 none)
else
 bd (Qy ((a0.Box.Cands.getD U default).Lines)) fun J=>
 bd (Zj J O.1) fun Y=>
(if(Y==(-1))=true then
(if(((J.length:Nat):Int)==16)=true then
 some (4,a0)
else
 gd (U<a0.Box.Cands.length∧a0.Box.Cands.length<=3∧J.length=(J).length)<|
 gd (((J.length)+(([O.1]:List Bt).length))*(16+1)<=70368744177664)<|
 bd (Zq (J++([O.1]:List Bt))) fun a2=>
 gd (a2.length=(J++([O.1]:List Bt)).length)<|
 some (0,{a0 with Box:={a0.Box with Cands:=a0.Box.Cands.set U {(a0.Box.Cands.getD U default) with Lines:=a2}}}))
else
 bd (lp (σ:=List Bt×Int×Int) (β:=(Nat×Int×(List Bt))) (fun I=>
(if(decide (I.2.2<((I.1.length:Nat):Int)))=true then
 gd ((0:Int)<=I.2.2∧I.2.2<((I.1.length:Nat):Int))<|
 bd (QaN (I.1.getD I.2.2.toNat default) O.1) fun a4=>
(if(!a4)=true then
 gd ((0:Int)<=I.2.1∧I.2.1<((I.1.length:Nat):Int))<|
 some (.inl (I.1.set I.2.1.toNat (I.1.getD I.2.2.toNat default),IntKind.i64.wrap (I.2.1+1),IntKind.i64.wrap (I.2.2+1)))
else
 some (.inl (I.1,I.2.1,IntKind.i64.wrap (I.2.2+1))))
else
 some (.inr (I.1.length,I.2.1,I.1)))) (J,Y,IntKind.i64.wrap (Y+1))) fun G=>
 gd ((0:Int)<=G.2.1∧G.2.1<=((G.1:Nat):Int)∧((G.1:Nat):Int)<=((G.1:Nat):Int))<|
 gd ((0:Int)<=(0:Int)∧(0:Int)<=G.2.1∧G.2.1<=((G.1:Nat):Int))<|
(if(((G.2.1.toNat:Nat):Int)==16)=true then
 some (4,a0)
else
 gd (U<a0.Box.Cands.length∧a0.Box.Cands.length<=3∧G.2.1.toNat=(((Qmj G.2.2 G.2.1.toNat (Qfg ((G.1:Nat):Int) G.2.1)).take G.2.1.toNat)).length)<|
 gd (((G.2.1.toNat)+(([O.1]:List Bt).length))*(16+1)<=70368744177664)<|
 bd (Zq (((Qmj G.2.2 G.2.1.toNat (Qfg ((G.1:Nat):Int) G.2.1)).take G.2.1.toNat)++([O.1]:List Bt))) fun a3=>
 gd (a3.length=(((Qmj G.2.2 G.2.1.toNat (Qfg ((G.1:Nat):Int) G.2.1)).take G.2.1.toNat)++([O.1]:List Bt)).length)<|
 some (0,{a0 with Box:={a0.Box with Cands:=a0.Box.Cands.set U {(a0.Box.Cands.getD U default) with Lines:=a3}}})))))
| .inr d24=>
 some (3,a0))
theorem Qgb {a0:QAk} {J:QAl} {r:Int×QAk} (h:Qdz a0 J=some r):EffC prog 60 [.ref 9000 0 0,.agg [dI J.Kind,.d (.str J.User),.d (.str J.Line),dI J.N]] [(9000,.box 34 [dB a0.Up,dI a0.Box.Edition,.d (slD encSb a0.Box.Lines),dI a0.Box.Trial,.d (slD encSb a0.Box.Back),.osl 9001 0 a0.Box.Cands.length,.d (slD QAj.enc a0.Slots),dI a0.Live,dI a0.Last,dI a0.Job.Kind,dI a0.Job.Step,dI a0.Job.Edition,dI a0.Job.Ticks,.d (slD encSb a0.Job.Lines)]),(9001,.arr 93 4 a0.Box.Cands.length (rows QAg.enc a0.Box.Cands))] (dI r.1) [(9000,.box 34 [dB a0.Up,dI a0.Box.Edition,.d (slD encSb a0.Box.Lines),dI a0.Box.Trial,.d (slD encSb a0.Box.Back),.d (slD QAg.enc r.2.Box.Cands),.d (slD QAj.enc a0.Slots),dI a0.Live,dI a0.Last,dI a0.Job.Kind,dI a0.Job.Step,dI a0.Job.Edition,dI a0.Job.Ticks,.d (slD encSb a0.Job.Lines)])]:=by
 refine eY tOk f60 rfl (Qh6 tOk 20000 (fn:=f123) (c:=Jw f123) rfl rfl (by kernel_rfl) rfl (Qc tOk ?_));obtain⟨x4,a6,h⟩:=Qb h;refine QA tOk a6 (fun s1=>⟨20000,34,[(0,.ref 9000 0 0),(1,.d (.str J.User)),(11,dI ((a0.Box.Cands.length:Nat):Int)),(12,dI s1)],[],[(3,.box 41 [dI J.Kind,.d (.str J.User),.d (.str J.Line),dI J.N]),(9000,.box 34 [dB a0.Up,dI a0.Box.Edition,.d (slD encSb a0.Box.Lines),dI a0.Box.Trial,.d (slD encSb a0.Box.Back),.osl 9001 0 a0.Box.Cands.length,.d (slD QAj.enc a0.Slots),dI a0.Live,dI a0.Last,dI a0.Job.Kind,dI a0.Job.Step,dI a0.Job.Edition,dI a0.Job.Ticks,.d (slD encSb a0.Job.Lines)]),(9001,.arr 93 4 a0.Box.Cands.length (rows QAg.enc a0.Box.Cands))],[⟨[(0,.ref 9000 0 0),(1,.agg [dI J.Kind,.d (.str J.User),.d (.str J.Line),dI J.N]),(3,.ref 3 0 0),(4,dI 0),(10,.ref 9000 0 0),(11,.ref 3 0 1),(12,.d (.str J.User))],[]⟩,⟨[(0,.ref 9000 0 0)],[]⟩]⟩) ?_ ?_
 ·exact leX []
 ·clear a6;intro s1 y2 U a4;refine Qc tOk ?_;apply Qm U<;>intro _ U
  ·refine Qc tOk (gdI U fun U=>?_);apply Qm U<;>intro _ U
   ·refine gdI U fun U=>?_;cases U;cases a4 _ rfl;refine Qc tOk (aI (fun e=>Bool.noConfusion e) (fun _=>bC h 0 (fun _=>Qf4) fun O h=>Qc tOk ?_));apply Qm h<;>intro _ h
    ·cases h
     exact lfE [.f [9001]]
    ·refine Qc tOk ?_;apply Qm h<;>intro _ h
     ·obtain⟨x9,a9,h⟩:=Qb h;refine QP tOk [.u 5 0 (dI x9) []] 7 [] [0,1,3,7,0,31,63] [] (aI (QB (Qbd a9) (by kernel_rfl)) (aK (Qc tOk ?_)));apply Qm h<;>intro _ h
      ·cases h
       exact lfE [.f [9001]]
      ·cases h
     ·refine bC h 1000 (fun _=>QS) fun b3 h=>Qh6 tOk 20000 (fn:=f130) (c:=Jw f130) rfl rfl (by kernel_rfl) rfl (bC h 0 (fun _=>JF) fun x11 h=>Qc tOk ?_);apply Qm h<;>intro _ h
      ·refine Qwb tOk ?_;apply Qm h<;>intro _ h
       ·cases h
        exact lfE [.f [9001]]
       ·obtain⟨⟨q1,q2,q5⟩,h⟩:=Qf h;obtain⟨q3,h⟩:=Qf h;obtain⟨x12,a5,h⟩:=Qb h;obtain⟨q4,h⟩:=Qf h;refine Qqp [4,5,6,9] 9001 ?_;generalize s1.toNat=kx at q1 h|-;obtain⟨cs,a2⟩:∃cs,a0.Box.Cands=cs:=⟨_,rfl⟩;rw[a2] at q1 q2 h|-;rcases cs with _|⟨c1,_|⟨c2,_|⟨c3,_|⟨c4,cs⟩⟩⟩⟩;all_goals rcases kx with _|_|_|kx
        all_goals first|(exfalso;simp only[Yi,Yv] at q1 q2;omega)|skip
        all_goals first|refine⟨1,_,rfl,BoxOk.rows (enc:=QAg.enc) (fun _=>rfl) (by simp) (by decide),?_⟩|refine⟨2,_,rfl,BoxOk.rows (enc:=QAg.enc) (fun _=>rfl) (by simp) (by decide),?_⟩|refine⟨3,_,rfl,BoxOk.rows (enc:=QAg.enc) (fun _=>rfl) (by simp) (by decide),?_⟩
        all_goals conv=>whnf
        all_goals refine QsH tOk ?_
        all_goals conv=>whnf
        all_goals refine Qbh (enc:=encSb) ([O.1]:List Bt) ?_
        all_goals conv=>whnf
        all_goals refine aI q3 ?_
        all_goals refine QfK (enc:=encSb) (xs:=b3) (ys:=([O.1]:List Bt)) ?_ (hn:=q5)
        all_goals conv=>whnf
        all_goals refine cE [(9000,6001)] 0 (J0 a5) ?_
        all_goals conv=>whnf
        all_goals rw[<-q4]
        all_goals obtain rfl:=sj_ h
        all_goals exact lfE [.f [6001,9001]]
      ·refine Qc tOk ?_;obtain⟨x16,Y,h⟩:=Qb h;refine QA tOk Y (fun G=>⟨20000,42,[(0,.osl 6001 0 G.1.length),(1,.fn 131 [.ref 6 0 0]),(5,dI G.2.1),(6,dI G.2.2)],[],[(6001,.arr 9 1 G.1.length (rows encSb G.1)),(6,.box 9 [.d (.str O.1)]),(3,.box 41 [dI J.Kind,.d (.str J.User),.d (.str J.Line),dI J.N]),(9000,.box 34 [dB a0.Up,dI a0.Box.Edition,.d (slD encSb a0.Box.Lines),dI a0.Box.Trial,.d (slD encSb a0.Box.Back),.osl 9001 0 a0.Box.Cands.length,.d (slD QAj.enc a0.Slots),dI a0.Live,dI a0.Last,dI a0.Job.Kind,dI a0.Job.Step,dI a0.Job.Edition,dI a0.Job.Ticks,.d (slD encSb a0.Job.Lines)]),(9001,.arr 93 4 a0.Box.Cands.length (rows QAg.enc a0.Box.Cands))],[⟨[(0,.ref 9000 0 0),(1,.agg [dI J.Kind,.d (.str J.User),.d (.str J.Line),dI J.N]),(3,.ref 3 0 0),(4,dI 0),(5,.ref 9001 s1.toNat 0),(6,.ref 6 0 0),(7,dB O.2),(10,.ref 9000 0 0),(11,.ref 3 0 1),(12,.d (.str J.User)),(13,.ref 9001 s1.toNat 0),(14,.ref 9001 s1.toNat 0),(15,dB false),(16,.tup [.d (.str O.1),dB O.2]),(17,.ref 3 0 2),(18,.d (.str J.Line)),(19,.tup [.d (.str O.1),dB O.2]),(20,.d (.str O.1)),(21,dB O.2),(22,dB O.2),(23,dB (!O.2)),(24,.ref 3 0 0),(25,dI J.Kind),(26,dB (J.Kind==3)),(46,.ref 9001 s1.toNat 0),(47,.ref 9001 s1.toNat 0),(48,.ref 9001 s1.toNat 3),(49,.d (slD encSb ((a0.Box.Cands.getD s1.toNat default).Lines))),(50,.osl 6001 0 G.1.length),(51,.fn 131 [.ref 6 0 0])],[]⟩,⟨[(0,.ref 9000 0 0)],[]⟩]⟩) ?_ ?_
       ·exact leX []
       ·clear Y;intro G y14 I a7;refine Qc tOk ?_;apply Qm I<;>intro _ I
        ·refine Qc tOk (gdI I fun I=>bC I 0 (fun _=>QcF) fun x18 I=>?_);apply Qm I<;>intro _ I
         ·refine gdI I fun I=>⟨rows encSb (G.1.set G.2.1.toNat (G.1.getD G.2.2.toNat default)),Qap Qrr rfl,?_⟩;exact eX I []
         ·exact eX I []
        ·cases I
         cases a7 _ rfl
         obtain⟨b2,h⟩:=Qf h;refine aI b2 (⟨rows encSb (Qmj (G.1.length,G.2.1,G.1).2.2 (G.1.length,G.2.1,G.1).2.1.toNat (Qfg (((G.1.length,G.2.1,G.1).1:Nat):Int) (G.1.length,G.2.1,G.1).2.1)),Qka Qrr zlA,?_⟩);obtain⟨a8,h⟩:=Qf h;refine aI a8 (Qwb tOk ?_);apply Qm h<;>intro _ h
         ·cases h
          exact lfE [.f [9001]]
         ·obtain⟨⟨q1,q2,q5⟩,h⟩:=Qf h;obtain⟨q3,h⟩:=Qf h;obtain⟨x23,a3,h⟩:=Qb h;obtain⟨q4,h⟩:=Qf h;refine Qqp [4,5,6,9] 9001 ?_;generalize s1.toNat=kx at q1 h|-;obtain⟨cs,a2⟩:∃cs,a0.Box.Cands=cs:=⟨_,rfl⟩;rw[a2] at q1 q2 h|-;rcases cs with _|⟨c1,_|⟨c2,_|⟨c3,_|⟨c4,cs⟩⟩⟩⟩;all_goals rcases kx with _|_|_|kx
          all_goals first|(exfalso;simp only[Yi,Yv] at q1 q2;omega)|skip
          all_goals first|refine⟨1,_,rfl,BoxOk.rows (enc:=QAg.enc) (fun _=>rfl) (by simp) (by decide),?_⟩|refine⟨2,_,rfl,BoxOk.rows (enc:=QAg.enc) (fun _=>rfl) (by simp) (by decide),?_⟩|refine⟨3,_,rfl,BoxOk.rows (enc:=QAg.enc) (fun _=>rfl) (by simp) (by decide),?_⟩
          all_goals conv=>whnf
          all_goals refine QsH tOk ?_
          all_goals conv=>whnf
          all_goals refine Qbh (enc:=encSb) ([O.1]:List Bt) ?_
          all_goals conv=>whnf
          all_goals refine aI q3 ?_
          all_goals refine QfK (enc:=encSb) (xs:=((Qmj (G.1.length,G.2.1,G.1).2.2 (G.1.length,G.2.1,G.1).2.1.toNat (Qfg (((G.1.length,G.2.1,G.1).1:Nat):Int) (G.1.length,G.2.1,G.1).2.1)).take (G.1.length,G.2.1,G.1).2.1.toNat)) (ys:=([O.1]:List Bt)) ?_ (hn:=q5)
          all_goals conv=>whnf
          all_goals refine cE [(9000,6001)] 0 (J0 a3) ?_
          all_goals conv=>whnf
          all_goals rw[<-q4]
          all_goals obtain rfl:=sj_ h
          all_goals exact lfE [.f [6001,9001]]
   ·exact eX U []
  ·cases U
   cases a4 _ rfl
   refine Qc tOk (aI (fun _=>?_) (fun e=>Bool.noConfusion e));cases h;exact lfE [.f [9001]]
def ZB (xs I:List Bt) (s:Bt):Bt:=(xs.zip I).foldl (fun G p=>if(p.2==s)=true then p.1 else G) ByteArray.empty
def Qsx:List Bt->List Bt
 |[]=>[]
 |x::r=>if(Qsx r).any (· ==x)=true then Qsx r else x::Qsx r
def QcG (b m t:Bt):Bool:=!(m==b)&&(!(t==b)&& !(t==m))
def Qhn (b m t:Bt):Bt:=if(m==b)=true then t else m
def Qia (B M T:Bt->Bt) (G:List Bt):List Bt×Int:=
 if(G.any fun k=>QcG (B k) (M k) (T k))=true then([],2)
 else if 16<(Qof (((Qsx G).map fun k=>Qhn (B k) (M k) (T k)).filter fun l=>!(l==ByteArray.empty))).length then([],3)
 else(Qof (((Qsx G).map fun k=>Qhn (B k) (M k) (T k)).filter fun l=>!(l==ByteArray.empty)),0)
def QdL (a0:(List Bt)) (I:(List Bt)) (G:(List Bt)):Option ((List Bt)×Int):=
 bd (JB a0) fun n0=>gd (n0=true)<|
 bd (JB I) fun Y=>gd (Y=true)<|
 bd (JB G) fun n2=>gd (n2=true)<|
 bd (QkK a0) fun U=>bd (QkK I) fun J=>bd (QkK G) fun O=>
 gd ((0<a0.length∧0<I.length∧0<G.length)∧(a0.length<=16∧I.length<=16∧G.length<=16)∧∀x∈a0++I++G,x.size<=1000000)<|
 some (Qia (ZB a0 U) (ZB I J) (ZB G O) (U++J++O))
namespace Mg
open Go.RowKit Go.Maps Go.Sort Go.Proofs
open Nc
theorem QsI {xs ks:List Bt} {j:Nat} (h1:j<xs.length) (h2:j<ks.length) (s:Bt):ZB (xs.take (j+1)) (ks.take (j+1)) s=if(ks.getD j default==s)=true then xs.getD j default else ZB (xs.take j) (ks.take j) s:=by
 unfold ZB
 have e1:xs[j]? =some (xs.getD j default):=by simp[List.getD_eq_getElem?_getD,h1]
 have e2:ks[j]? =some (ks.getD j default):=by simp[List.getD_eq_getElem?_getD,h2]
 rw[List.take_add_one,List.take_add_one,e1,e2]
 rw[List.zip_append (by simp;omega),List.foldl_append]
 simp
theorem Qib (zs:List Bt):∀u∈zs.map Value.string,u.oneCell'=true:=by
 intro u hu
 obtain⟨s,_,rfl⟩:=List.mem_map.1 hu
 rfl
theorem QyJ:(prog.info? 9).map (fun i=>(i.zero,i.size,i.bytes))=some (some (.string ByteArray.empty),1,16):=by kernel_rfl
theorem QkO {w w1:World} {b o n:Nat} {xs:List Bt} (hx:xs.length=n) (hc:∀i,i<n→w.cell? ⟨b,o+i,none⟩=some (.string (xs.getD i default))) (hb:w1.heap[b]? =w.heap[b]?) (j:Nat) (u:Value) (hj:(xs.map Value.string)[j]? =some u):
  w1.cell? ((⟨b,o,none⟩:Addr).add j)=some u:=by
 have hj1:j<n:=by
  have:=(List.getElem?_eq_some_iff.1 hj).1
  simpa[hx] using this
 have:=hc j hj1
 have e:w1.cell? ⟨b,o+j,none⟩=w.cell? ⟨b,o+j,none⟩:=World.cell?_of_block hb
 rw[Addr.add_mid,e,this]
 rw[←hj]
 simp[List.getD_eq_getElem?_getD,show j<xs.length by omega]
theorem Qru (w:World) (b o c n:Nat) (xs:List Bt) (hx:xs.length=n) (hn:n≤1000) (hc:∀i,i<n→w.cell? ⟨b,o+i,none⟩=some (.string (xs.getD i default))) (hb:b<w.heap.size):
  Calls prog 25 #[.slice (some ⟨b,o,none⟩) n c] w fun e w'=>∃g cap,e=.returned (.slice (some ⟨g,0,none⟩) n cap)∧w'.ownsRow w.heap.size 9 1 (.slice (some ⟨g,0,none⟩) n cap) n (xs.map Value.string)∧Below w.heap.size w w':=by
 obtain⟨i0,hi,hz0,hz1,hz2⟩:=info_parts QyJ
 go_enter func25,ntmps25
 go_wp2_with (first
  |(at_make;refine wpList_make_own _ rfl _ _ 23 rfl w.heap.size 9 i0 (.string ByteArray.empty) 1 underlying23 hi hz0 hz1 .i64 .i64 _ n rfl rfl rfl (by rw[hz2];omega) (by unfold maxLen;omega) (Nat.le_refl _) ?_;intro w1 hown1 hg1)
  |(at_builtin;refine wpList_append_fits _ rfl _ _ 23 rfl w.heap.size 9 i0 1 underlying23 hi hz1 w.heap.size 0 n _ rfl hown1 ⟨b,o,none⟩ n c (xs.map Value.string) rfl (by simp[hx]) (QkO hx hc (hg1.block b hb (by simp))) (Qib _) (by omega) ?_;intro w2 hown2 hg2)
  |go_in)
 go_ret
 refine⟨w.heap.size,n,by simp,by simpa using hown2,?_⟩
 exact((Below.refl _ _).grown hg1 (Nat.le_refl _) (fun j hj=>by cases hj)).grown hg2 hg1.size (fun j hj=>by cases hj;exact Nat.le_refl _)
theorem QyK:(Lit.string (ByteArray.empty).data.toList)=.string []:=rfl
theorem QiT (w:World) (b o c n:Nat) (xs ks:List Bt) (hx:xs.length=n) (hks:ks.length=n) (hn:n≤1000) (hxz:∀x∈xs,x.size≤1000000) (hsz:∀k∈ks,k.size≤1000000) (hc:∀i,i<n→w.cell? ⟨b,o+i,none⟩=some (.string (xs.getD i default))) (hb:b<w.heap.size)
  (hkey:∀w',Below w.heap.size w w'→∀i,i<n→Calls prog 107 #[.string (xs.getD i default)] w' fun e w''=>e=.returned (.string (ks.getD i default))∧Below w'.heap.size w' w''):
  Calls prog 170 #[.slice (some ⟨b,o,none⟩) n c] w fun e w'=>∃(mb:Nat) (D:DataW Unit),e=.returned (.map (some mb))∧w.heap.size≤mb∧w'.ownsMap prog 9 (plainElem prog 9) mb n D∧
   (∀s,D.atKey (kl s) (.lit (.string []))=.lit (.string (ZB xs ks s).data.toList))∧Below w.heap.size w w':=by
 have hmm:=@run_makeMap prog
 go_enter func170,ntmps170
 go_wp2
 have hown:=World.ownsMap_made (H:=Unit) w prog 9 (plainElem prog 9)
 have hB2:Below w.heap.size w (w.alloc (Obj.map #[] 0)):=(Below.refl w.heap.size w).alloc (Nat.le_refl _) _
 generalize w.alloc (Obj.map #[] 0)=w2 at hown hB2⊢
 have hbs:w.heap.size≤w.heap.size:=Nat.le_refl _
 generalize hmb:w.heap.size=mb at hown hbs⊢
 rw[hmb] at hB2
 go_loopw [9] (fun i wr=>∃(j:Nat) (D:DataW Unit),j≤n∧i=.int .i64 j∧wr.ownsMap prog 9 (plainElem prog 9) mb j D∧(∀s,D.atKey (kl s) (.lit (.string []))=.lit (.string (ZB (xs.take j) (ks.take j) s).data.toList))∧Below mb w wr)
  (fun i _=>n-(intOf i).toNat)
 case atStart=>
  exact⟨0,.map [],Nat.zero_le _,rfl,hown,fun s=>rfl,hB2⟩
 case round=>
  obtain⟨j,D,hjk,rfl,hown,hat,hB⟩:=hrel
  have g1:j<n→wr.cell? ⟨b,o+j,none⟩=some (.string (xs.getD j default)):=fun h=>(World.cell?_of_block (hB.block b (by omega))).trans (hc j h)
  have hkj:=fun h=>hkey wr (hmb▸hB) j h
  have hxj:j<n→(xs.getD j default).size≤1000000:=fun h=>hxz _ (by rw[List.getD_eq_getElem?_getD,List.getElem?_eq_getElem (by omega)];exact List.getElem_mem (by omega))
  have hsj:j<n→(ks.getD j default).size≤1000000:=fun h=>hsz _ (by rw[List.getD_eq_getElem?_getD,List.getElem?_eq_getElem (by omega)];exact List.getElem_mem (by omega))
  have hls:=fun h:j<n=>@QsI xs ks j (by omega) (by omega)
  clear hkey
  generalize xs.getD j default=x at g1 hkj hxj hls
  generalize ks.getD j default=y at hkj hsj hls
  go_wp2_with (first
   |(go_at_call 107;have hlt:j<n:=by assumption
     refine(hkj hlt).mono ?_;rintro e w3 ⟨rfl,hB3⟩)
   |(at_mapUpdate;have hlt:j<n:=by assumption
     have hys:=hsj hlt
     have hk1:=hown.kept (Jp hB3) (by simp)
     have hk2:keyOf prog 9 (.string y)=some (kl y):=Go.WideMaps.keyOf_string_mk underlying9 (by unfold maxLen;omega)
     have hk3:j<maxLen:=by unfold maxLen;omega
     have hk4:=plainElem_string (H:=Unit) underlying9 (s:=x) (by have:=hxj hlt;unfold maxLen;omega)
     refine wpList_mapUpdate_own _ rfl _ _ _ 166 rfl 9 9 Qnf underlying166 (plainElem prog 9) mb j D rfl hk1 hk3 _ _ (kl y) rfl rfl hk2 _ [] hk4 ?_
     intro w4 hown4 hgrow4)
   |go_in)
  ·have hlt:j<n:=by assumption
   go_roundw
   case rel=>
    refine⟨j+1,D.put (kl y) (.lit (.string x.data.toList)),by omega,by go_num,hown4,fun s=>?_,?_⟩
    ·rw[hls hlt]
     by_cases hy:y=s
     ·subst hy
      rw[atKey_put_same hown.isMap (show WideAt.IsKeyLit (kl y) from trivial),if_pos (bq.2 rfl)]
     ·rw[atKey_put_other (fun h=>hy (Qmk h).symm),hat,if_neg (fun h=>hy (bq.1 h))]
    ·exact(hB.trans (hB3.mono (hmb▸hB.size))).grown hgrow4 (Nat.le_trans (hmb▸hB.size) hB3.size) (fun j hj=>by cases hj;exact hbs)
   case measure=>simp[intOf];omega
  ·have hjn:j=n:=by omega
   subst hjn
   go_ret
   refine⟨mb,D,rfl,by omega,hown,fun s=>?_,by rw[hmb];exact hB⟩
   rw[hat,List.take_of_length_le (by omega),List.take_of_length_le (by omega)]
theorem Qps {H:Type} {P:Program} (w:World) {ops:Array Oper} {rest:List Oper} {o:Oper} {a:Act} {Q:Exit→Act→World→Prop}
  (hg:o.guard=none) (m x:Operand) (t:TypeId) (hop:o.op=Op.lookup t m x false)
  (k e:TypeId) (K:Keyed P k) (ht:P.underlying t=some (.map k e)) (he:P.underlying e=some .string) (hz:(zeroValue e).run P w=.ok (.string ByteArray.empty) w) (b n:Nat) (D:DataW H)
  (hm:a.eval m=.map (some b)) (hown:w.ownsMap P k (plainElem P e) b n D) (key:Value) (kl:Lit) (hx:a.eval x=key) (hkey:keyOf P k key=some kl) (c:Bt)
  (hat:D.atKey kl (.lit (.string []))=.lit (.string c.data.toList)) (hK:wpList P ops Q rest (a.put o.dst (.string c)) w):
  wpList P ops Q (o::rest) a w:=by
 refine wpList_plain hg fun K' hK'=>?_
 obtain⟨v,ps,hrun,hv⟩:=hown.lookup K ht hz (plainElem_string he (s:=ByteArray.empty) (by decide)) hkey
 have hat':D.atKey kl (.lit (.string (ByteArray.empty).data.toList))=.lit (.string c.data.toList):=hat
 rw[hat'] at hv
 have hvc:v=.string c:=by
  unfold plainElem at hv
  rw[he] at hv
  cases v<;>simp at hv
  rename_i s
  have h1:s.data.toList=c.data.toList:=congrArg Array.toList hv.2.1
  have:s=c:=Qmk (congrArg Lit.string h1)
  rw[this]
 subst hvc
 unfold Oper.wp
 simp[execOp,hop,hm,hx,hrun,Result.andThen]
 exact hK' _ _ hK
theorem QsJ {H:Type} {P:Program} {w:World} {t k e:TypeId} (K:Keyed P k) (ht:P.underlying t=some (.map k e)) (he:P.underlying e=some .string) (hz:(zeroValue e).run P w=.ok (.string ByteArray.empty) w) {b n:Nat} {D:DataW H}
  (hown:w.ownsMap P k (plainElem P e) b n D) {key:Value} {kl:Lit} (hkey:keyOf P k key=some kl) {c:Bt} (hat:D.atKey kl (.lit (.string []))=.lit (.string c.data.toList)):
  (Instr.lookup t (.map (some b)) key false).run P w=.ok (.string c) w:=by
 obtain⟨v,ps,hrun,hv⟩:=hown.lookup K ht hz (plainElem_string he (s:=ByteArray.empty) (by decide)) hkey
 have hat':D.atKey kl (.lit (.string (ByteArray.empty).data.toList))=.lit (.string c.data.toList):=hat
 rw[hat'] at hv
 have hvc:v=.string c:=by
  unfold plainElem at hv
  rw[he] at hv
  cases v<;>simp at hv
  rename_i s
  have h1:s.data.toList=c.data.toList:=congrArg Array.toList hv.2.1
  have:s=c:=Qmk (congrArg Lit.string h1)
  rw[this]
 subst hvc
 exact hrun
theorem QwW (w:World):(zeroValue 9).run prog w=.ok (.string ByteArray.empty) w:=by kernel_rfl
theorem Qng {key:Value} {kl:Lit} (h:keyOf prog 9 key=some kl):∃x,key=Value.string x:=by
 have hk:=underlying9
 cases key<;>simp[keyOf,hk,mapKey] at h
 exact⟨_,rfl⟩
theorem bool_inv {H:Type} {v:Value} {y:DataW H×List MemPlace} (h:plainElem prog 4 v=some y):∃c,v=Value.bool c:=by
 unfold plainElem at h
 rw[underlying4] at h
 cases v<;>simp at h
 exact⟨_,rfl⟩
theorem tlE {a b:Bt}:(a.toList==b.toList)=(a==b):=(beq_toListBytes a b).symm
theorem tlP {a b:Bt}:a.toList=b.toList↔(a==b)=true:=by rw[←tlE];simp
theorem tlI {a:Bt}:a.toList.isEmpty=(a==ByteArray.empty):=by
 rw[←tlE]
 have:(ByteArray.empty).toList=[]:=by
  unfold ByteArray.toList ByteArray.toList.loop
  rfl
 rw[this]
 cases a.toList<;>rfl
theorem QiU {l l':List (List UInt8)} (h:l.Perm l'):(l.mergeSort fun x y=>decide (x≤y))=l'.mergeSort fun x y=>decide (x≤y):=by
 have tr:∀a b c:List UInt8,decide (a≤b)=true→decide (b≤c)=true→decide (a≤c)=true:=fun a b c h1 h2=>by simp only[decide_eq_true_eq] at*;exact List.le_trans h1 h2
 have to:∀a b:List UInt8,(decide (a≤b)||decide (b≤a))=true:=fun a b=>by simp only[Bool.or_eq_true,decide_eq_true_eq];exact List.le_total a b
 refine List.Perm.eq_of_pairwise (le:=fun a b=>decide (a≤b)=true) (fun a b _ _ h1 h2=>?_) (List.pairwise_mergeSort tr to l) (List.pairwise_mergeSort tr to l') (((List.mergeSort_perm l _).trans h).trans (List.mergeSort_perm l' _).symm)
 simp only[decide_eq_true_eq] at h1 h2
 exact List.le_antisymm h1 h2
theorem QsK {xs ys:List Bt} (h:xs.Perm ys):Qof xs=Qof ys:=by
 unfold Qof
 rw[QiU (h.map _)]
theorem Qqq (xs:List Bt):(Qof xs).length=xs.length:=by
 unfold Qof
 rw[List.length_map,List.length_mergeSort,List.length_map]
theorem Qqr:∀ {xs:List Bt} {s:Bt},s∈Qsx xs↔s∈xs
 |[],s=>by simp[Qsx]
 |x::r,s=>by
  unfold Qsx
  have ih:=@Qqr r
  split
  ·rename_i h
   have hx:x∈Qsx r:=by
    obtain⟨y,hy,e⟩:=List.any_eq_true.1 h
    rw[←bq.1 e];exact hy
   rw[ih,List.mem_cons]
   constructor
   ·exact .inr
   ·rintro(rfl|h)
    ·exact ih.1 hx
    ·exact h
  ·rw[List.mem_cons,List.mem_cons,ih]
theorem QiV:∀(xs:List Bt),(Qsx xs).Nodup
 |[]=>List.nodup_nil
 |x::r=>by
  unfold Qsx
  split
  ·exact QiV r
  ·rename_i h
   refine List.nodup_cons.2 ⟨fun hx=>h (List.any_eq_true.2 ⟨x,hx,bq.2 rfl⟩),QiV r⟩
theorem QuJ {dn ks:List Bt} (hnd:dn.Nodup) (h:∀s,s∈dn↔s∈ks):dn.Perm (Qsx ks):=
 (List.perm_ext_iff_of_nodup hnd (QiV ks)).2 fun s=>(h s).trans Qqr.symm
theorem QsL {f:Bt→Bt} {dn:List Bt} {x:Bt} (h:(f x==ByteArray.empty)=true):((dn++[x]).map f).filter (fun l=>!(l==ByteArray.empty))=(dn.map f).filter fun l=>!(l==ByteArray.empty):=by
 rw[List.map_append,List.filter_append]
 simp[h]
theorem QuK {f:Bt→Bt} {dn:List Bt} {x:Bt} (h:(f x==ByteArray.empty)=false):((dn++[x]).map f).filter (fun l=>!(l==ByteArray.empty))=((dn.map f).filter fun l=>!(l==ByteArray.empty))++[f x]:=by
 rw[List.map_append,List.filter_append]
 simp[h]
theorem QwX {D:DataW Unit} {left:Lit→Bool} {dn:List Bt} {x:Bt} (hnd:dn.Nodup) (hdn:∀s,s∈dn↔(Maps.has D (kl s)=true∧left (kl s)=false)) (hx:Maps.has D (kl x)=true) (hl:left (kl x)=true):
  (dn++[x]).Nodup∧∀s,s∈dn++[x]↔(Maps.has D (kl s)=true∧(left (kl s)&& !(kl s).sameKey (kl x))=false):=by
 have hnx:x∉dn:=fun h=>by have:=(hdn x).1 h;rw[hl] at this;cases this.2
 refine⟨?_,fun s=>?_⟩
 ·rw[List.nodup_append]
  refine⟨hnd,by simp,fun a ha b hb e=>?_⟩
  simp at hb
  subst hb e
  exact hnx ha
 ·rw[List.mem_append,hdn s,List.mem_singleton]
  by_cases hs:s=x
  ·subst hs
   rw[WideAt.sameKey_self (show WideAt.IsKeyLit (kl s) from trivial)]
   simp[hx]
  ·rw[Maps.sameKey_ne (fun h=>hs (Qmk h))]
   simp[hs]
theorem QwY (xs:List Bt):(xs.map fun s=>s.data.toList).map encStr=xs.map Value.string:=by
 rw[List.map_map]
 rfl
theorem Qpt {B M T:Bt→Bt} {ks:List Bt} {x:Bt} (hx:x∈ks) (h:QcG (B x) (M x) (T x)=true):Qia B M T ks=([],2):=by
 unfold Qia
 rw[if_pos (List.any_eq_true.2 ⟨x,hx,h⟩)]
theorem Qrv {B M T:Bt→Bt} {ks dn:List Bt} (hnd:dn.Nodup) (h:∀s,s∈dn↔s∈ks) (hc:∀s∈dn,QcG (B s) (M s) (T s)=false):
  Qia B M T ks=if 16<((dn.map fun k=>Qhn (B k) (M k) (T k)).filter fun l=>!(l==ByteArray.empty)).length then([],3) else(Qof ((dn.map fun k=>Qhn (B k) (M k) (T k)).filter fun l=>!(l==ByteArray.empty)),0):=by
 unfold Qia
 rw[if_neg (fun e=>by
  obtain⟨x,hx,e⟩:=List.any_eq_true.1 e
  rw[hc x ((h x).2 hx)] at e
  cases e),Qqq]
 have hp:=((QuJ hnd h).map fun k=>Qhn (B k) (M k) (T k)).filter fun l=>!(l==ByteArray.empty)
 rw[←QsK hp,←hp.length_eq]
theorem Qwc {w w':World} {base:Nat} {e:TypeId} {size:Nat} {v:Value} {n:Nat} {xs:List Value} {B:Nat} {a:World} (hB:Below B a w) (h:w.ownsRow base e size v n xs) (hg:w.grownBy w' v.ownBlock) (hb:B≤base) (hs:B≤w.heap.size):Below B a w':=
 hB.grown hg hs fun k hk=>Nat.le_trans hb (h.lt k hk).1
set_option maxHeartbeats 400000000 in
theorem merge_walk (w:World) (b1 o1 c1 n1 b2 o2 c2 n2 b3 o3 c3 n3:Nat) (xs1 ks1 xs2 ks2 xs3 ks3:List Bt) (hx1:xs1.length=n1) (hx2:xs2.length=n2) (hx3:xs3.length=n3) (hk1:ks1.length=n1) (hk2:ks2.length=n2) (hk3:ks3.length=n3)
  (hn1:n1≤100) (hn2:n2≤100) (hn3:n3≤100) (hp:0<n1) (hz1:∀x∈xs1,x.size≤1000000) (hz2:∀x∈xs2,x.size≤1000000) (hz3:∀x∈xs3,x.size≤1000000)
  (hs1:∀x∈ks1,x.size≤1000000) (hs2:∀x∈ks2,x.size≤1000000) (hs3:∀x∈ks3,x.size≤1000000) (hb1:b1<w.heap.size) (hb2:b2<w.heap.size) (hb3:b3<w.heap.size)
  (hc1:∀i,i<n1→w.cell? ⟨b1,o1+i,none⟩=some (.string (xs1.getD i default))) (hc2:∀i,i<n2→w.cell? ⟨b2,o2+i,none⟩=some (.string (xs2.getD i default))) (hc3:∀i,i<n3→w.cell? ⟨b3,o3+i,none⟩=some (.string (xs3.getD i default)))
  (hN1:∀w',Below w.heap.size w w'→Calls prog 79 #[.slice (some ⟨b1,o1,none⟩) n1 c1] w' fun e w''=>e=.returned (.bool true)∧Below w'.heap.size w' w'')
  (hN2:∀w',Below w.heap.size w w'→Calls prog 79 #[.slice (some ⟨b2,o2,none⟩) n2 c2] w' fun e w''=>e=.returned (.bool true)∧Below w'.heap.size w' w'')
  (hN3:∀w',Below w.heap.size w w'→Calls prog 79 #[.slice (some ⟨b3,o3,none⟩) n3 c3] w' fun e w''=>e=.returned (.bool true)∧Below w'.heap.size w' w'')
  (hK1:∀w',Below w.heap.size w w'→∀i,i<n1→Calls prog 107 #[.string (xs1.getD i default)] w' fun e w''=>e=.returned (.string (ks1.getD i default))∧Below w'.heap.size w' w'')
  (hK2:∀w',Below w.heap.size w w'→∀i,i<n2→Calls prog 107 #[.string (xs2.getD i default)] w' fun e w''=>e=.returned (.string (ks2.getD i default))∧Below w'.heap.size w' w'')
  (hK3:∀w',Below w.heap.size w w'→∀i,i<n3→Calls prog 107 #[.string (xs3.getD i default)] w' fun e w''=>e=.returned (.string (ks3.getD i default))∧Below w'.heap.size w' w'')
  (hKK:∀w',Below w.heap.size w w'→∀i,i<n1+n2+n3→Calls prog 107 #[.string ((xs1++xs2++xs3).getD i default)] w' fun e w''=>e=.returned (.string ((ks1++ks2++ks3).getD i default))∧Below w'.heap.size w' w'')
  (hsort:∀g cap (ss:List (List UInt8)) (W:World),Holds encStr W g 0 ss.toArray→g<W.heap.size→ss.length<4611686018427387904→Calls prog 132 #[.slice (some ⟨g,0,none⟩) ss.length cap] W fun e w'=>e=.returned (.tuple #[])∧∃n os,w'=grow (putRow encStr (Sort.ahead W n) g 0 (ss.mergeSort fun x y=>decide (x≤y)).toArray) os)
  (hsort0:∀p cap (W:World),Calls prog 132 #[.slice p 0 cap] W fun e w'=>e=.returned (.tuple #[])∧w'=W):
  Calls prog 133 #[.slice (some ⟨b1,o1,none⟩) n1 c1,.slice (some ⟨b2,o2,none⟩) n2 c2,.slice (some ⟨b3,o3,none⟩) n3 c3] w fun e w'=>
   (∃v,e=.returned (.tuple #[v,.int .i64 (Qia (ZB xs1 ks1) (ZB xs2 ks2) (ZB xs3 ks3) (ks1++ks2++ks3)).2])∧∃base,w.heap.size≤base∧w'.ownsRow base 9 1 v (Qia (ZB xs1 ks1) (ZB xs2 ks2) (ZB xs3 ks3) (ks1++ks2++ks3)).1.length ((Qia (ZB xs1 ks1) (ZB xs2 ks2) (ZB xs3 ks3) (ks1++ks2++ks3)).1.map Value.string))∧Below w.heap.size w w':=by
 obtain⟨i0,hi,hi0,hi1,hi2⟩:=info_parts QyJ
 have hmm:=@run_makeMap prog
 go_enter func133,ntmps133
 go_wp2_with (first
  |(go_at_call 79;first
    |(have hq:=hB2;refine(hN3 _ hB2).mono ?_;rintro e w3 ⟨rfl,hB3⟩;replace hB3:=hB2.trans (hB3.mono hB2.size))
    |(have hq:=hB1;refine(hN2 _ hB1).mono ?_;rintro e w2 ⟨rfl,hB2⟩;replace hB2:=hB1.trans (hB2.mono hB1.size))
    |(refine(hN1 _ (Below.refl _ _)).mono ?_;rintro e w1 ⟨rfl,hB1⟩))
  |(go_at_call 170;first
    |(have hq:=hB5;refine(QiT _ b3 o3 c3 n3 xs3 ks3 hx3 hk3 (by omega) hz3 hs3 (fun i h=>(World.cell?_of_block (hB5.block b3 hb3)).trans (hc3 i h)) (Nat.lt_of_lt_of_le hb3 hB5.size) (fun w' hB i h=>hK3 w' (hB5.trans (hB.mono hB5.size)) i h)).mono ?_;rintro e w6 ⟨m3,D3,rfl,hm3,hown3,hat3,hB6⟩
      replace hown1:=hown1.kept (Jp hB6) (by simp);replace hown2:=hown2.kept (Jp hB6) (by simp);replace hB6:=hB5.trans (hB6.mono hB5.size))
    |(have hq:=hB4;refine(QiT _ b2 o2 c2 n2 xs2 ks2 hx2 hk2 (by omega) hz2 hs2 (fun i h=>(World.cell?_of_block (hB4.block b2 hb2)).trans (hc2 i h)) (Nat.lt_of_lt_of_le hb2 hB4.size) (fun w' hB i h=>hK2 w' (hB4.trans (hB.mono hB4.size)) i h)).mono ?_;rintro e w5 ⟨m2,D2,rfl,hm2,hown2,hat2,hB5⟩
      replace hown1:=hown1.kept (Jp hB5) (by simp);replace hB5:=hB4.trans (hB5.mono hB4.size))
    |(refine(QiT _ b1 o1 c1 n1 xs1 ks1 hx1 hk1 (by omega) hz1 hs1 (fun i h=>(World.cell?_of_block (hB3.block b1 hb1)).trans (hc1 i h)) (Nat.lt_of_lt_of_le hb1 hB3.size) (fun w' hB i h=>hK1 w' (hB3.trans (hB.mono hB3.size)) i h)).mono ?_;rintro e w4 ⟨m1,D1,rfl,hm1,hown1,hat1,hB4⟩;replace hB4:=hB3.trans (hB4.mono hB3.size)))
  |(go_at_call 25
    have hown:=World.ownsMap_made (H:=Unit) w6 prog 9 (plainElem prog 4)
    have hBm:Below w.heap.size w (w6.alloc (Obj.map #[] 0)):=hB6.alloc hB6.size _
    have hl1:=hown1.lt
    have hl2:=hown2.lt
    have hl3:=hown3.lt
    have hba:(w6.alloc (Obj.map #[] 0)).heap.size=w6.heap.size+1:=by simp
    replace hown1:=hown1.alloc (Obj.map #[] 0)
    replace hown2:=hown2.alloc (Obj.map #[] 0)
    replace hown3:=hown3.alloc (Obj.map #[] 0)
    have hm4:w.heap.size≤w6.heap.size:=hB6.size
    generalize hw6:w6.alloc (Obj.map #[] 0)=wa at*
    refine(Qru wa b1 o1 c1 n1 xs1 hx1 (by omega) (fun i h=>(World.cell?_of_block (hBm.block b1 hb1)).trans (hc1 i h)) (Nat.lt_of_lt_of_le hb1 hBm.size)).mono ?_;rintro e w7 ⟨g7,cap7,rfl,hown7,hB7⟩
    replace hown:=hown.kept (Jp hB7) (by simp)
    replace hown1:=hown1.kept (Jp hB7) (by simp)
    replace hown2:=hown2.kept (Jp hB7) (by simp)
    replace hown3:=hown3.kept (Jp hB7) (by simp)
    have hs7:=hB7.size
    replace hB7:=hBm.trans (hB7.mono hBm.size))
  |(at_builtin;first
    |(have hq:=hown8;refine wpList_append_own _ rfl _ _ 23 rfl _ 9 i0 (.string ByteArray.empty) 1 16 underlying23 hi hi0 hi1 hi2 rfl (by decide) _ _ _ rfl hown8 ⟨b3,o3,none⟩ n3 c3 (xs3.map Value.string) rfl (by simp[hx3]) (QkO hx3 hc3 (hB8.block b3 hb3)) (Qib _) (by unfold maxLen;omega) (by omega) hs8 ?_
      intro v9 w9 hown9 hg9 _
      replace hown:=hown.kept hg9 (row_ne_low hown8 (by omega))
      replace hown1:=hown1.kept hg9 (row_ne_low hown8 (by omega))
      replace hown2:=hown2.kept hg9 (row_ne_low hown8 (by omega))
      replace hown3:=hown3.kept hg9 (row_ne_low hown8 (by omega))
      have hB9:=Qwc hB8 hown8 hg9 (by omega) (by omega)
      rcases hown9.2 with ⟨_,h0⟩|⟨g9,cap9,cur9,rfl,q1,q2,q3,q4,q5,q6⟩
      ·exact absurd h0 (by omega))
    |(refine wpList_append_own _ rfl _ _ 23 rfl _ 9 i0 (.string ByteArray.empty) 1 16 underlying23 hi hi0 hi1 hi2 rfl (by decide) _ _ _ rfl hown7 ⟨b2,o2,none⟩ n2 c2 (xs2.map Value.string) rfl (by simp[hx2]) (QkO hx2 hc2 (hB7.block b2 hb2)) (Qib _) (by unfold maxLen;omega) (by omega) hs7 ?_
      intro v8 w8 hown8 hg8 _
      replace hown:=hown.kept hg8 (row_ne_low hown7 (by omega))
      replace hown1:=hown1.kept hg8 (row_ne_low hown7 (by omega))
      replace hown2:=hown2.kept hg8 (row_ne_low hown7 (by omega))
      replace hown3:=hown3.kept hg8 (row_ne_low hown7 (by omega))
      have hB8:=Qwc hB7 hown7 hg8 (by omega) (by omega)
      have hs8:=Nat.le_trans hs7 hg8.size))
  |go_in)
 have hcl:∀j,j<n1+n2+n3→w9.cell? ⟨g9,j,none⟩=some (.string ((xs1++xs2++xs3).getD j default)):=fun j hj=>by
  rw[hown9.cellAt j (by omega),←List.map_append,←List.map_append,List.getElem?_map,List.getD_eq_getElem?_getD,List.getElem?_eq_getElem (by simp[hx1,hx2,hx3];omega)]
  rfl
 have hgl:g9<w9.heap.size:=(Array.getElem?_eq_some_iff.1 q2).1
 have hksz:∀k∈ks1++ks2++ks3,k.size≤1000000:=by
  intro k hk
  rcases List.mem_append.1 hk with hk|hk
  ·rcases List.mem_append.1 hk with hk|hk
   ·exact hs1 k hk
   ·exact hs2 k hk
  ·exact hs3 k hk
 have hkl:(ks1++ks2++ks3).length=n1+n2+n3:=by simp[hk1,hk2,hk3];omega
 have hg96:w6.heap.size<g9:=by omega
 have hw69:w6.heap.size<w9.heap.size:=by omega
 clear hown9 q2 q3 q4 q5 q6 hown8 hown7 hg9 hg8 hB8 hB7 hs7 hs8 hBm hba hN1 hN2 hN3 hK1 hK2 hK3 hc1 hc2 hc3 hB1 hB2 hB3 hB4 hB5 hw6 hz1 hz2 hz3 hs1 hs2 hs3 hB6 hm1 hm2 hm3
 generalize hNN:n1+n2+n3=NN at*
 generalize hXX:xs1++xs2++xs3=XX at*
 generalize hKK2:ks1++ks2++ks3=KS at*
 have eNN:((n1:Int)+(n2:Int)+(n3:Int))=(NN:Int):=by omega
 rw[eNN]
 go_loopw [44] (fun i wr=>∃(j:Nat) (D:DataW Unit),j≤NN∧i=.int .i64 j∧wr.ownsMap prog 9 (plainElem prog 4) w6.heap.size j D∧(∀s,Maps.has D (kl s)=(KS.take j).any (· ==s))∧w9.grownBy wr (some w6.heap.size))
  (fun i _=>NN-(intOf i).toNat)
 case atStart=>
  exact⟨0,.map [],Nat.zero_le _,rfl,hown,fun s=>rfl,World.grownBy.refl _ _⟩
 case round=>
  obtain⟨j,D,hjk,rfl,hown,hhas,hgr⟩:=hrel
  have g1:j<NN→wr.cell? ⟨g9,j,none⟩=some (.string (XX.getD j default)):=fun h=>(World.cell?_of_block (hgr.block g9 hgl (by simp;omega))).trans (hcl j h)
  have hBr:Below w.heap.size w wr:=hB9.grown hgr hB9.size (fun k hk=>by cases hk;exact hm4)
  have hkj:=fun h=>hKK wr hBr j h
  have hsj:j<NN→(KS.getD j default).size≤1000000:=fun h=>hksz _ (by rw[List.getD_eq_getElem?_getD,List.getElem?_eq_getElem (by omega)];exact List.getElem_mem (by omega))
  have hsn:=fun h:j<NN=>fun s=>@Qqn KS j (by omega) s
  generalize XX.getD j default=x at g1 hkj
  generalize KS.getD j default=y at hkj hsj hsn
  go_wp2_with (first
   |(go_at_call 107;have hlt:j<NN:=by assumption
     refine(hkj hlt).mono ?_;rintro e w3 ⟨rfl,hB3⟩)
   |(at_mapUpdate;have hlt:j<NN:=by assumption
     have hys:=hsj hlt
     have hk1:=hown.kept (Jp hB3) (by simp)
     have hk2:keyOf prog 9 (.string y)=some (kl y):=Go.WideMaps.keyOf_string_mk underlying9 (by unfold maxLen;omega)
     have hk3:j<maxLen:=by unfold maxLen;omega
     refine wpList_mapUpdate_own _ rfl _ _ _ 115 rfl 9 4 Qnf underlying115 (plainElem prog 4) w6.heap.size j D rfl hk1 hk3 _ _ (kl y) rfl rfl hk2 _ [] (plainElem_bool underlying4 true) ?_
     intro w4 hown4 hgrow4)
   |(at_range
     have hownA:=hown.alloc (.cells #[] 9)
     refine wpList_range_own _ rfl _ 115 rfl 9 4 Qnf underlying115 _ w6.heap.size j D rfl hownA ?_
     intro w10 hrg10 hg10 hs10)
   |go_in)
  ·have hlt:j<NN:=by assumption
   go_roundw
   case rel=>
    refine⟨j+1,D.put (kl y) (.lit (.bool true)),by omega,by go_num,hown4,fun s=>?_,?_⟩
    ·rw[hsn hlt]
     by_cases hy:y=s
     ·subst hy
      rw[has_put_same hown.isMap (show WideAt.IsKeyLit (kl y) from trivial),bq.2 rfl,Bool.or_true]
     ·rw[has_put_other (fun h=>hy (Qmk h).symm),hhas]
      have:(y==s)=false:=Bool.eq_false_iff.2 fun h=>hy (bq.1 h)
      rw[this,Bool.or_false]
    ·exact(hgr.andThen (Jp hB3) (fun k hk=>by cases hk)).andThen hgrow4 (fun k hk=>.inr hk)
   case measure=>simp[intOf];omega
  obtain⟨wp,hwp⟩:∃x,x=wr:=⟨wr,rfl⟩
  subst hwp
  have hjN:j=NN:=by omega
  subst hjN
  have hL1:=hown1.kept hgr (by simp;omega)
  have hL2:=hown2.kept hgr (by simp;omega)
  have hL3:=hown3.kept hgr (by simp;omega)
  have hsz:=hown.size_le
  have hml:=hown.lt
  have hgW:wp.grownBy w10 none:=(World.grownBy_alloc wp (.cells #[] 9) none).andThen hg10 (fun k hk=>by cases hk)
  have hrow10:w10.ownsRow wp.heap.size 9 1 (.slice (some ⟨wp.heap.size,0,none⟩) 0 0) 0 []:=(World.ownsRow_lit (e:=9) (size:=1) wp #[] 0 (Nat.le_refl _) (by decide) rfl).kept hg10 (.inr (by simp[Value.ownBlock]))
  have hrr:(wp.alloc (.cells #[] 9)).heap.size=wp.heap.size+1:=by simp
  rw[hrr] at hrg10
  clear hown hown1 hown2 hown3 hgr hB9 hsj hsn hg10 hKK hcl hgl
  try go_frame
  go_loopw [14] (fun v wz=>∃(left:Lit→Bool) (cnt:Nat) (dn:List Bt),wz.ranges prog 9 (plainElem prog 4) w6.heap.size (wp.heap.size+1) j D left cnt∧
    wz.ownsRow wp.heap.size 9 1 v ((dn.map fun k=>Qhn (ZB xs1 ks1 k) (ZB xs2 ks2 k) (ZB xs3 ks3 k)).filter fun l=>!(l==ByteArray.empty)).length (((dn.map fun k=>Qhn (ZB xs1 ks1 k) (ZB xs2 ks2 k) (ZB xs3 ks3 k)).filter fun l=>!(l==ByteArray.empty)).map Value.string)∧
    dn.Nodup∧(∀s,s∈dn↔(Maps.has D (kl s)=true∧left (kl s)=false))∧(∀s∈dn,QcG (ZB xs1 ks1 s) (ZB xs2 ks2 s) (ZB xs3 ks3 s)=false)∧dn.length+cnt≤j∧wp.grownBy wz none)
   (fun _ wz=>wz.rangeLeft w6.heap.size (wp.heap.size+1))
  case atStart=>
   refine⟨_,_,[],hrg10,hrow10,List.nodup_nil,fun s=>?_,by simp,by simpa using hsz,hgW⟩
   cases Maps.has D (kl s)<;>simp
  case round=>
   obtain⟨left,cnt,dn,hrg,hrow,hnd,hdn,hcl,hlen,hgz⟩:=hrel
   have hmm0:wr.rangeLeft w6.heap.size (wp.heap.size+1)=cnt:=hrg.left_eq
   have hout:((dn.map fun k=>Qhn (ZB xs1 ks1 k) (ZB xs2 ks2 k) (ZB xs3 ks3 k)).filter fun l=>!(l==ByteArray.empty)).length≤j:=Nat.le_trans (List.length_filter_le _ _) (by simp;omega)
   go_wp2_with (first
    |(at_next;refine wpList_next_ranges _ rfl _ rfl 9 Qnf (plainElem prog 4) Value.string (fun v:Value=>v) (fun key kl h=>Qng h) (fun v y _=>⟨v,rfl⟩) w6.heap.size (wp.heap.size+1) j D left cnt rfl hrg ?_ ?_)
    |go_in)
   ·intro hc0 hl0
    have hset:∀s,s∈dn↔s∈KS:=fun s=>by
     rw[hdn s,hl0,hhas,List.take_of_length_le (by omega),List.any_eq_true]
     constructor
     ·rintro⟨⟨y,hy,e⟩,_⟩
      rw[←bq.1 e];exact hy
     ·intro h
      exact⟨⟨s,h,bq.2 rfl⟩,rfl⟩
    have hres:=Qrv (B:=ZB xs1 ks1) (M:=ZB xs2 ks2) (T:=ZB xs3 ks3) hnd hset hcl
    generalize ((dn.map fun k=>Qhn (ZB xs1 ks1 k) (ZB xs2 ks2 k) (ZB xs3 ks3 k)).filter fun l=>!(l==ByteArray.empty))=outs at hrow hout hres
    have hBz:Below w.heap.size w wr:=hBr.grown hgz hBr.size (fun k hk=>by cases hk)
    have hbase:w.heap.size≤wp.heap.size:=hBr.size
    rcases hrow.2 with ⟨hnil,hk0⟩|⟨g,cap,cur,hv,hbg,hbk,z1,z2,z3,z4⟩
    ·have ho:outs=[]:=List.eq_nil_of_length_eq_zero hk0
     subst hnil ho
     clear hrg
     go_wp2_with (go_at_call 132;refine(hsort0 none 0 _).mono ?_;rintro e w' ⟨rfl,rfl⟩)
     go_ret2
     rw[if_neg (by simp),show Qof []=[] by simp[Qof]] at hres
     rw[hKK2,hres]
     exact⟨⟨.slice none 0 0,rfl,wp.heap.size,hbase,hrow⟩,hBz⟩
    ·subst hv
     have hH:Holds encStr wr g 0 (outs.map fun s=>s.data.toList).toArray:=holds_of_block hbk (by rw[QwY];simpa using z4)
     have hgl:g<wr.heap.size:=(Array.getElem?_eq_some_iff.1 hbk).1
     have hso:=hsort g cap (outs.map fun s=>s.data.toList) wr hH hgl (by simp;omega)
     rw[List.length_map] at hso
     clear hrg hH
     go_wp2_with (go_at_call 132;refine hso.mono ?_;rintro e w' ⟨rfl,nn,os,rfl⟩)
     ·have h16:16<outs.length:=by omega
      go_ret2
      rw[if_pos h16] at hres
      rw[hKK2,hres]
      exact⟨⟨.slice none 0 0,rfl,w.heap.size,Nat.le_refl _,World.ownsRow_nil _ _ _ _⟩,hBz.grown (grownBy_sorted _) hBz.size (fun k hk=>by cases hk;omega)⟩
     ·have h16:¬16<outs.length:=by omega
      go_ret2
      rw[if_neg h16] at hres
      rw[hKK2,hres]
      have hro:=ownsRow_sorted (n:=nn) (os:=os) (ss:=outs.map fun s=>s.data.toList) (ts:=(outs.map fun s=>s.data.toList).mergeSort fun x y=>decide (x≤y)) (by simp) hbg hbk (by simpa using z1) z2 z3
      rw[List.length_map] at hro
      refine⟨⟨.slice (some ⟨g,0,none⟩) outs.length cap,rfl,wp.heap.size,hbase,?_⟩,hBz.grown (grownBy_sorted _) hBz.size (fun k hk=>by cases hk;omega)⟩
      show World.ownsRow _ _ _ _ _ (Qof outs).length ((Qof outs).map Value.string)
      rw[Qqq]
      have e:(Qof outs).map Value.string=((outs.map fun s=>s.data.toList).mergeSort fun x y=>decide (x≤y)).map encStr:=by
       unfold Qof
       rw[List.map_map]
       rfl
      rw[e]
      exact hro
   ·intro x c k0 ya yb w11 cnt1 hkey hlk hv hat hrg1 hlt hg1 hs1 hen
    have hM1:=hL1.kept (hgz.andThen hg1 (fun k hk=>.inl (by cases hk;omega))) (by simp)
    have hM2:=hL2.kept (hgz.andThen hg1 (fun k hk=>.inl (by cases hk;omega))) (by simp)
    have hM3:=hL3.kept (hgz.andThen hg1 (fun k hk=>.inl (by cases hk;omega))) (by simp)
    have hkx:keyOf prog 9 (.string x)=some (kl x):=by
     rw[hkey]
     have h1:=hkey
     simp[keyOf,underlying9,mapKey] at h1
     rw[←h1.2]
     rfl
    have hk0:k0=kl x:=by rw[hkey] at hkx;exact sj_ hkx
    subst hk0
    obtain⟨bv,hbv⟩:∃b,ZB xs1 ks1 x=b:=⟨_,rfl⟩
    obtain⟨mv,hmv⟩:∃b,ZB xs2 ks2 x=b:=⟨_,rfl⟩
    obtain⟨tv,htv⟩:∃b,ZB xs3 ks3 x=b:=⟨_,rfl⟩
    have ha1:=hat1 x
    have ha2:=hat2 x
    have ha3:=hat3 x
    rw[hbv] at ha1
    rw[hmv] at ha2
    rw[htv] at ha3
    have er1:=QsJ Qnf underlying166 underlying9 (QwW _) hM1 hkx ha1
    have er2:=QsJ Qnf underlying166 underlying9 (QwW _) hM2 hkx ha2
    have er3:=QsJ Qnf underlying166 underlying9 (QwW _) hM3 hkx ha3
    have hrow1:=hrow.kept hg1 (by
     cases hob:u14.ownBlock with
     |none=>exact Or.inl rfl
     |some g=>exact Or.inr (fun e=>row_ne_iter hrow hrg (by rw[hob];exact e.symm)))
    have hgz1:=hgz.andThen hg1 (fun k hk=>.inl (by cases hk;omega))
    have hsz11:=hgz1.size
    have hxD:Maps.has D (kl x)=true:=has_true_of_atKey hat
    have hst:=QwX hnd hdn hxD hlk
    have hxK:x∈KS:=by
     have h1:=hhas x
     rw[hxD,List.take_of_length_le (by omega)] at h1
     obtain⟨y,hy,e⟩:=List.any_eq_true.1 h1.symm
     rw[←bq.1 e];exact hy
    have hBz:Below w.heap.size w w11:=hBr.grown hgz1 hBr.size (fun k hk=>by cases hk)
    have hcl2:QcG bv mv tv=false→∀s∈dn++[x],QcG (ZB xs1 ks1 s) (ZB xs2 ks2 s) (ZB xs3 ks3 s)=false:=fun h s hs=>by
     rcases List.mem_append.1 hs with hs|hs
     ·exact hcl s hs
     ·simp at hs;subst hs;rw[hbv,hmv,htv];exact h
    have hskip:(Qhn bv mv tv==ByteArray.empty)=true→w11.ownsRow wp.heap.size 9 1 u14 (((dn++[x]).map fun k=>Qhn (ZB xs1 ks1 k) (ZB xs2 ks2 k) (ZB xs3 ks3 k)).filter fun l=>!(l==ByteArray.empty)).length ((((dn++[x]).map fun k=>Qhn (ZB xs1 ks1 k) (ZB xs2 ks2 k) (ZB xs3 ks3 k)).filter fun l=>!(l==ByteArray.empty)).map Value.string):=fun h=>by
     rw[QsL (f:=fun k=>Qhn (ZB xs1 ks1 k) (ZB xs2 ks2 k) (ZB xs3 ks3 k)) (by simp only[hbv,hmv,htv];exact h)];exact hrow1
    have hadd:∀(w12:World) (v12:Value) (l:Bt),Qhn bv mv tv=l→(l==ByteArray.empty)=false→w12.ownsRow wp.heap.size 9 1 v12 (((dn.map fun k=>Qhn (ZB xs1 ks1 k) (ZB xs2 ks2 k) (ZB xs3 ks3 k)).filter fun l=>!(l==ByteArray.empty)).length+1) ((((dn.map fun k=>Qhn (ZB xs1 ks1 k) (ZB xs2 ks2 k) (ZB xs3 ks3 k)).filter fun l=>!(l==ByteArray.empty)).map Value.string)++[.string l])→
      w12.ownsRow wp.heap.size 9 1 v12 (((dn++[x]).map fun k=>Qhn (ZB xs1 ks1 k) (ZB xs2 ks2 k) (ZB xs3 ks3 k)).filter fun l=>!(l==ByteArray.empty)).length ((((dn++[x]).map fun k=>Qhn (ZB xs1 ks1 k) (ZB xs2 ks2 k) (ZB xs3 ks3 k)).filter fun l=>!(l==ByteArray.empty)).map Value.string):=fun w12 v12 l h1 h2 h3=>by
     rw[QuK (f:=fun k=>Qhn (ZB xs1 ks1 k) (ZB xs2 ks2 k) (ZB xs3 ks3 k)) (by simp only[hbv,hmv,htv,h1];exact h2)]
     simp only[hbv,hmv,htv,h1,List.length_append,List.length_singleton,List.map_append,List.map_cons,List.map_nil]
     exact h3
    have hgA:∀(l:Value) (w12:World),(w11.alloc (.cells #[l] 9)).grownBy w12 u14.ownBlock→wp.grownBy w12 none∧w12.ranges prog 9 (plainElem prog 4) w6.heap.size (wp.heap.size+1) j D (fun z=>left z&& !z.sameKey (kl x)) cnt1:=fun l w12 hg=>
     ⟨(hgz1.andThen (World.grownBy_alloc w11 (.cells #[l] 9) none) (fun k hk=>by cases hk)).andThen hg (fun k hk=>.inl ((hrow1.alloc (.cells #[l] 9)).lt k hk).1),
      (hrg1.alloc (.cells #[l] 9)).kept hg (row_ne_low (hrow1.alloc (.cells #[l] 9)) hml) (row_ne_iter (hrow1.alloc (.cells #[l] 9)) (hrg1.alloc (.cells #[l] 9)))⟩
    clear hdn hnd hL1 hL2 hL3 hrg hrow hhas hs1 hat
    go_wp2_with (first
     |(at_builtin;first
       |(refine wpList_append_own _ rfl _ _ 23 rfl wp.heap.size 9 i0 (.string ByteArray.empty) 1 16 underlying23 hi hi0 hi1 hi2 rfl (by decide) _ _ _ rfl (hrow1.alloc _) ⟨w11.heap.size,0,none⟩ 1 1 [.string tv] rfl rfl (cell_one_new _ _ _) (Qib [tv]) (by unfold maxLen;omega) (by omega) (by simp;omega) ?_
         intro v12 w12 hown12 hg12 hnl12)
       |(refine wpList_append_own _ rfl _ _ 23 rfl wp.heap.size 9 i0 (.string ByteArray.empty) 1 16 underlying23 hi hi0 hi1 hi2 rfl (by decide) _ _ _ rfl (hrow1.alloc _) ⟨w11.heap.size,0,none⟩ 1 1 [.string mv] rfl rfl (cell_one_new _ _ _) (Qib [mv]) (by unfold maxLen;omega) (by omega) (by simp;omega) ?_
         intro v12 w12 hown12 hg12 hnl12))
     |go_in)
    ·rename_i q1 q2
     rw[tlE] at q1
     rw[tlI] at q2
     have ho:Qhn bv mv tv=tv:=by unfold Qhn;rw[if_pos q1]
     obtain⟨hgz2,hrg2⟩:=hgA _ _ hg12
     go_roundw
     case rel=>first|exact⟨_,cnt1,dn++[x],hrg2,hadd _ _ tv ho (by simpa using q2) hown12,hst.1,hst.2,hcl2 (by unfold QcG;rw[q1];rfl),by simp;omega,hgz2⟩|((repeat apply Exists.intro);exact⟨⟨_,cnt1,dn++[x],hrg2,hadd _ _ tv ho (by simpa using q2) hown12,hst.1,hst.2,hcl2 (by unfold QcG;rw[q1];rfl),by simp;omega,hgz2⟩,rfl⟩)
     case measure=>rw[hrg2.left_eq,hmm0];exact hlt
    ·rename_i q1 q2
     rw[tlE] at q1
     rw[tlI] at q2
     have ho:Qhn bv mv tv=tv:=by unfold Qhn;rw[if_pos q1]
     go_roundw
     case rel=>first|exact⟨_,cnt1,dn++[x],hrg1,hskip (by rw[ho];simpa using q2),hst.1,hst.2,hcl2 (by unfold QcG;rw[q1];rfl),by simp;omega,hgz1⟩|((repeat apply Exists.intro);exact⟨⟨_,cnt1,dn++[x],hrg1,hskip (by rw[ho];simpa using q2),hst.1,hst.2,hcl2 (by unfold QcG;rw[q1];rfl),by simp;omega,hgz1⟩,rfl⟩)
     case measure=>rw[hrg1.left_eq,hmm0];exact hlt
    ·rename_i q1 q3 q2
     rw[tlE] at q1
     rw[tlP] at q3
     rw[tlI] at q2
     have ho:Qhn bv mv tv=mv:=by unfold Qhn;rw[if_neg (by rw[q1];decide)]
     obtain⟨hgz2,hrg2⟩:=hgA _ _ hg12
     go_roundw
     case rel=>first|exact⟨_,cnt1,dn++[x],hrg2,hadd _ _ mv ho (by simpa using q2) hown12,hst.1,hst.2,hcl2 (by unfold QcG;rw[q3];simp),by simp;omega,hgz2⟩|((repeat apply Exists.intro);exact⟨⟨_,cnt1,dn++[x],hrg2,hadd _ _ mv ho (by simpa using q2) hown12,hst.1,hst.2,hcl2 (by unfold QcG;rw[q3];simp),by simp;omega,hgz2⟩,rfl⟩)
     case measure=>rw[hrg2.left_eq,hmm0];exact hlt
    ·rename_i q1 q3 q2
     rw[tlE] at q1
     rw[tlP] at q3
     rw[tlI] at q2
     have ho:Qhn bv mv tv=mv:=by unfold Qhn;rw[if_neg (by rw[q1];decide)]
     go_roundw
     case rel=>first|exact⟨_,cnt1,dn++[x],hrg1,hskip (by rw[ho];simpa using q2),hst.1,hst.2,hcl2 (by unfold QcG;rw[q3];simp),by simp;omega,hgz1⟩|((repeat apply Exists.intro);exact⟨⟨_,cnt1,dn++[x],hrg1,hskip (by rw[ho];simpa using q2),hst.1,hst.2,hcl2 (by unfold QcG;rw[q3];simp),by simp;omega,hgz1⟩,rfl⟩)
     case measure=>rw[hrg1.left_eq,hmm0];exact hlt
    ·rename_i q1 q3 q2
     rw[tlE] at q1
     rw[tlP] at q3
     rw[tlE,tlE] at q2
     have hc:Qia (ZB xs1 ks1) (ZB xs2 ks2) (ZB xs3 ks3) KS=([],2):=Qpt hxK (by rw[hbv,hmv,htv];unfold QcG;rw[q1,q2.1,q2.2];rfl)
     go_ret2
     rw[hKK2,hc]
     exact⟨⟨.slice none 0 0,rfl,w.heap.size,Nat.le_refl _,World.ownsRow_nil _ _ _ _⟩,hBz⟩
    ·rename_i q1 q3 q4 q2
     rw[tlE] at q1
     rw[tlE,tlE] at q4
     rw[tlI] at q2
     have ho:Qhn bv mv tv=mv:=by unfold Qhn;rw[if_neg (by rw[q1];decide)]
     obtain⟨hgz2,hrg2⟩:=hgA _ _ hg12
     go_roundw
     case rel=>first|exact⟨_,cnt1,dn++[x],hrg2,hadd _ _ mv ho (by simpa using q2) hown12,hst.1,hst.2,hcl2 (by unfold QcG;rcases q4 with q4|q4<;>rw[q4]<;>simp),by simp;omega,hgz2⟩|((repeat apply Exists.intro);exact⟨⟨_,cnt1,dn++[x],hrg2,hadd _ _ mv ho (by simpa using q2) hown12,hst.1,hst.2,hcl2 (by unfold QcG;rcases q4 with q4|q4<;>rw[q4]<;>simp),by simp;omega,hgz2⟩,rfl⟩)
     case measure=>rw[hrg2.left_eq,hmm0];exact hlt
    ·rename_i q1 q3 q4 q2
     rw[tlE] at q1
     rw[tlE,tlE] at q4
     rw[tlI] at q2
     have ho:Qhn bv mv tv=mv:=by unfold Qhn;rw[if_neg (by rw[q1];decide)]
     go_roundw
     case rel=>first|exact⟨_,cnt1,dn++[x],hrg1,hskip (by rw[ho];simpa using q2),hst.1,hst.2,hcl2 (by unfold QcG;rcases q4 with q4|q4<;>rw[q4]<;>simp),by simp;omega,hgz1⟩|((repeat apply Exists.intro);exact⟨⟨_,cnt1,dn++[x],hrg1,hskip (by rw[ho];simpa using q2),hst.1,hst.2,hcl2 (by unfold QcG;rcases q4 with q4|q4<;>rw[q4]<;>simp),by simp;omega,hgz1⟩,rfl⟩)
     case measure=>rw[hrg1.left_eq,hmm0];exact hlt
theorem row_out {w' W:World} {base:Nat} {v:Value} {ys:List Bt} (h:w'.ownsRow base 9 1 v ys.length (ys.map Value.string)) (hb:W.heap.size≤base):
  ∃ρ:Env,VR w' (fun b=>b<W.heap.size) ρ (.osl 5001 0 ys.length) v∧BR w' (fun b=>b<W.heap.size) ρ 5001 (.arr 9 1 ys.length (Go.Ab.rows encSb ys))∧((ρ 5001).ph=false→W.heap.size≤(ρ 5001).b):=by
 rcases h.2 with ⟨rfl,h0⟩|⟨g,cap,cur,rfl,h1,h2,h3,h4,h5,h6⟩
 ·refine⟨fun _=>⟨0,0,1,ys.length,0,true⟩,.osl0 h0 (Nat.zero_le _),.arr0 rfl rfl rfl h0,fun h=>by cases h⟩
 ·refine⟨fun _=>⟨g,0,1,ys.length,cap,false⟩,?_,.arr cur 9 rfl rfl rfl h3 (fun i _=>rfl) h2 (by simp[h5]) fun i j d hi hd=>?_,fun _=>Nat.le_trans hb h1⟩
  ·have:=VR.osl (w:=w') (own:=fun b=>b<W.heap.size) (ρ:=fun _=>⟨g,0,1,ys.length,cap,false⟩) (id:=5001) (off:=0) (len:=ys.length) rfl (by simp) h3
   simpa using this
  ·cases j with
   |succ j=>simp[Go.Ab.rows,encSb] at hd
   |zero=>
    simp only[Go.Ab.rows,encSb,List.getElem?_cons_zero,Option.some.injEq] at hd
    subst hd
    have e:cur.getD (0+i*1+0) undef=Value.string (ys.getD i default):=by
     have h7:(cur.toList.take (ys.length*1))[i]? =(ys.map Value.string)[i]?:=by rw[h6]
     rw[List.getElem?_take_of_lt (by omega),List.getElem?_map,List.getElem?_eq_getElem hi] at h7
     rw[Array.getD_eq_getD_getElem?,show 0+i*1+0=i by omega,←Array.getElem?_toList,h7]
     simp[List.getD_eq_getElem?_getD,hi]
    rw[e]
    exact .str
theorem str_form {w:World} {xs:List Bt} {v:Value} {ρ0:Env} (hv:VR w (fun _=>False) ρ0 (.d (slD encSb xs)) v) (h0:0<xs.length):∃b o c,v=.slice (some ⟨b,o,none⟩) xs.length c∧b<w.heap.size∧∀i,i<xs.length→w.cell? ⟨b,o+i,none⟩=some (.string (xs.getD i default)):=by
 cases hv with
 |d hd=>
  cases hd with
  |sl0 hn=>omega
  |sl vals ho hb hl hcell hval hcap=>
   refine⟨_,_,_,rfl,hb,fun i hi=>?_⟩
   have er:Go.Ab.rows encSb xs i=[.str (xs.getD i default)]:=rfl
   have h1:=hl i hi
   rw[er] at h1
   have h2:=hcell i 0 (.str (xs.getD i default)) hi (by rw[er];rfl)
   have h3:=hval i 0 (.str (xs.getD i default)) hi (by rw[er];rfl)
   rw[←h1] at h2
   generalize vals i 0=u at h2 h3
   cases h3
   simpa using h2
theorem neat_call {xs:List Bt} {r:Bool} (h:JB xs=some r) {w w':World} {v:Value} {ρ0:Env} (hv:VR w (fun _=>False) ρ0 (.d (slD encSb xs)) v) (ht:TabB prog (fun b=>b<w.heap.size) w) (hB:Below w.heap.size w w'):
  Calls prog 79 #[v] w' fun e w''=>e=.returned (.bool r)∧Below w'.heap.size w' w'':=by
 have hv':VR w' (fun _=>False) ρ0 (.d (slD encSb xs)) v:=hv.keep ⟨hB.size,fun b hb _=>⟨hB.block b hb,fun h=>h⟩⟩ fun _ _=>rfl
 refine((Qc0 h).out w' #[v] ρ0 ⟨rfl,fun j u hj=>?_⟩ (QsF ht hB)).mono ?_
 ·rcases j with _|j
  ·simp only[List.getElem?_cons_zero,Option.some.injEq] at hj;subst hj;exact hv'
  ·simp at hj
 ·rintro e w'' ⟨v,ρ,rfl,hp,hv,_⟩
  cases hv with
  |d hd=>cases hd with
   |bool=>exact⟨rfl,hp.below⟩
theorem key_all {xs ks:List Bt} (h3:∀i,i<xs.length→Zu (xs.getD i default)=some (ks.getD i default)) {w:World} (ρ0:Env) (ht:TabB prog (fun b=>b<w.heap.size) w) (w':World) (hB:Below w.heap.size w w') (i:Nat) (hi:i<xs.length):
  Calls prog 107 #[.string (xs.getD i default)] w' fun e w''=>e=.returned (.string (ks.getD i default))∧Below w'.heap.size w' w'':=Qqo (h3 i hi) ρ0 (QsF ht hB)
theorem keys_app {xs ks ys ls:List Bt} (hl:ks.length=xs.length) (h:∀i,i<xs.length→Zu (xs.getD i default)=some (ks.getD i default)) (h':∀i,i<ys.length→Zu (ys.getD i default)=some (ls.getD i default)) (i:Nat) (hi:i<(xs++ys).length):
  Zu ((xs++ys).getD i default)=some ((ks++ls).getD i default):=by
 rw[List.length_append] at hi
 by_cases hx:i<xs.length
 ·have h1:=h i hx
  simp only[List.getD_eq_getElem?_getD] at h1⊢
  rw[List.getElem?_append_left hx,List.getElem?_append_left (by omega)]
  exact h1
 ·have h1:=h' (i-xs.length) (by omega)
  simp only[List.getD_eq_getElem?_getD] at h1⊢
  rw[List.getElem?_append_right (by omega),List.getElem?_append_right (by omega),hl]
  exact h1
end Mg
theorem QjV {a0:(List Bt)} {a1:(List Bt)} {a2:(List Bt)} {r:(List Bt)×Int} (h:QdL a0 a1 a2=some r):PureC prog 133 [.d (slD encSb a0),.d (slD encSb a1),.d (slD encSb a2)] (.tup [.osl 5001 0 r.1.length,dI r.2]) [⟨5001,9,1,r.1.length,rows encSb r.1⟩]:=by
 unfold QdL at h
 obtain⟨n0,J,h⟩:=Qb h
 obtain⟨e0,h⟩:=Qf h
 obtain⟨n1,a6,h⟩:=Qb h
 obtain⟨e1,h⟩:=Qf h
 obtain⟨n2,U,h⟩:=Qb h
 obtain⟨e2,h⟩:=Qf h
 obtain⟨k0,a8,h⟩:=Qb h
 obtain⟨k1,a9,h⟩:=Qb h
 obtain⟨k2,b5,h⟩:=Qb h
 obtain⟨⟨⟨p0,p1,p2⟩,⟨q0,q1,q2⟩,hz⟩,h⟩:=Qf h
 rw[e0] at J
 rw[e1] at a6
 rw[e2] at U
 obtain rfl:=sj_ h
 obtain⟨I,c0,a7⟩:=Nc.keysM_some a8
 obtain⟨a5,c4,Y⟩:=Nc.keysM_some a9
 obtain⟨c5,b6,O⟩:=Nc.keysM_some b5
 refine⟨⟨f133,rfl,by kernel_rfl,by kernel_rfl⟩,rfl,?_,List.pairwise_singleton _ _,fun id h=>?_,fun w vals ρ0 hv ht=>?_⟩
 ·intro b hb i hi d hd
  obtain rfl:=YJ.1 hb
  simp[Go.Ab.rows,encSb] at hd;subst hd;rfl
 ·simp[V.mentions,QN] at h
  have hq:Nat.beq 5001 id=true:=by cases hq:Nat.beq 5001 id<;>simp[hq] at h|-
  exact⟨_,YJ.2 rfl,Y5 hq⟩
 obtain⟨v1,v2⟩:=hv
 have e:vals=#[vals.getD 0 undef,vals.getD 1 undef,vals.getD 2 undef]:=by
  apply Y0y
  ·simpa using v1
  ·intro i hi b9
   have hi3:i<3:=by simpa using b9
   rcases i with _|_|_|i
   ·simp[hi]
   ·simp[hi]
   ·simp[hi]
   ·omega
 have f0:=v2 0 _ rfl
 have f1:=v2 1 _ rfl
 have f2:=v2 2 _ rfl
 rw[e]
 generalize vals.getD 0 undef=u0 at f0|-
 generalize vals.getD 1 undef=u1 at f1|-
 generalize vals.getD 2 undef=u2 at f2|-
 have N0:=fun w' hB=>Mg.neat_call J (w':=w') f0 ht hB
 have N1:=fun w' hB=>Mg.neat_call a6 (w':=w') f1 ht hB
 have N2:=fun w' hB=>Mg.neat_call U (w':=w') f2 ht hB
 obtain⟨b0,o0,x0,rfl,s0,t0⟩:=Mg.str_form f0 p0
 obtain⟨b1,o1,x1,rfl,s1,t1⟩:=Mg.str_form f1 p1
 obtain⟨b2,o2,x2,rfl,s2,t2⟩:=Mg.str_form f2 p2
 refine(Mg.merge_walk w b0 o0 x0 _ b1 o1 x1 _ b2 o2 x2 _ a0 k0 a1 k1 a2 k2 rfl rfl rfl I a5 c5 (by omega) (by omega) (by omega) p0 (fun x G=>hz x (by simp[G])) (fun x G=>hz x (by simp[G])) (fun x G=>hz x (by simp[G])) c0 c4 b6 s0 s1 s2 t0 t1 t2 N0 N1 N2
  (Mg.key_all a7 ρ0 ht) (Mg.key_all Y ρ0 ht) (Mg.key_all O ρ0 ht) (fun w' hB i hi=>Mg.key_all (Mg.keys_app (by simp[I,a5]) (Mg.keys_app I a7 Y) O) ρ0 ht w' hB i (by simp;omega))
  (fun g cap ss W hH hg hs=>AnyM.slices_Sort_string Lay.srts g 0 cap ss W hH hg hs) (fun p cap W=>AnyM.slices_Sort_string_none Lay.srts p cap W)).mono ?_
 rintro e w' ⟨⟨v,rfl,base,b4,a4⟩,hB⟩
 obtain⟨ρ,hv,b7,b8⟩:=Mg.row_out (W:=w) a4 b4
 refine⟨_,ρ,rfl,Below.pure hB,.tup rfl fun j u hj=>?_,?_,?_,?_⟩
 ·rcases j with _|_|j
  ·simp only[YY,Y9] at hj;subst hj;exact hv
  ·simp only[XH,YY,Y9] at hj;subst hj;exact .d .int
  ·simp at hj
 ·intro b hb
  obtain rfl:=YJ.1 hb
  exact b7
 ·intro x G y hy _ _ _;rw[YJ.1 G,YJ.1 hy]
 ·intro x G hp;obtain rfl:=YJ.1 G;exact b8 hp
def QcH (a0:QAk) (a1:Bt):Option (Int×QAk):=
 bd (lp (σ:=Int) (β:=(Nat⊕Unit)) (fun s1=>
(if(decide (s1<((a0.Box.Cands.length:Nat):Int)))=true then
 gd ((0:Int)<=s1∧s1<((a0.Box.Cands.length:Nat):Int))<|
(if(((a0.Box.Cands.getD s1.toNat default).User)==a1)=true then
 gd ((0:Int)<=s1∧s1<((a0.Box.Cands.length:Nat):Int))<|
 some (.inr (.inl s1.toNat))
else
 some (.inl (IntKind.i64.wrap (s1+1))))
else
 some (.inr (.inr ())))) 0) fun x4=>
(match x4 with
| .inl G=>
 bd (QdL ((a0.Box.Cands.getD G default).From) ((a0.Box.Cands.getD G default).Lines) a0.Box.Lines) fun O=>
(if(O.2==2)=true then
 some (6,a0)
else
(if(O.2==3)=true then
 some (4,a0)
else
 bd (QW a0.Box.Lines) fun Y=>
 bd (some (a0.Box.Cands.set G ({(a0.Box.Cands.getD G default) with Lines:=O.1}))) fun I=>
 bd (some (I.set G ({(I.getD G default) with Base:=a0.Box.Edition}))) fun J=>
 bd (some (J.set G ({(J.getD G default) with From:=Y}))) fun U=>
 some (0,{a0 with Box:={a0.Box with Cands:=U}})))
| .inr d13=>
 some (3,a0))
theorem Qfm {a0:QAk} {J:Bt} {r:Int×QAk} (h:QcH a0 J=some r):EffC prog 61 [.ref 9000 0 0,.d (.str J)] [(9000,.box 34 [dB a0.Up,dI a0.Box.Edition,.d (slD encSb a0.Box.Lines),dI a0.Box.Trial,.d (slD encSb a0.Box.Back),.osl 9001 0 a0.Box.Cands.length,.d (slD QAj.enc a0.Slots),dI a0.Live,dI a0.Last,dI a0.Job.Kind,dI a0.Job.Step,dI a0.Job.Edition,dI a0.Job.Ticks,.d (slD encSb a0.Job.Lines)]),(9001,.arr 93 4 a0.Box.Cands.length (rows QAg.enc a0.Box.Cands))] (dI r.1) [(9000,.box 34 [dB a0.Up,dI a0.Box.Edition,.d (slD encSb a0.Box.Lines),dI a0.Box.Trial,.d (slD encSb a0.Box.Back),.osl 5001 0 r.2.Box.Cands.length,.d (slD QAj.enc a0.Slots),dI a0.Live,dI a0.Last,dI a0.Job.Kind,dI a0.Job.Step,dI a0.Job.Edition,dI a0.Job.Ticks,.d (slD encSb a0.Job.Lines)]),(5001,.arr 93 4 r.2.Box.Cands.length (rows QAg.enc r.2.Box.Cands))]:=by
 refine eY tOk f61 rfl (Qh6 tOk 20000 (fn:=f123) (c:=Jw f123) rfl rfl (by kernel_rfl) rfl (Qc tOk ?_));obtain⟨x4,Y,h⟩:=Qb h;refine QA tOk Y (fun s1=>⟨20000,34,[(0,.ref 9000 0 0),(1,.d (.str J)),(11,dI ((a0.Box.Cands.length:Nat):Int)),(12,dI s1)],[],[(9000,.box 34 [dB a0.Up,dI a0.Box.Edition,.d (slD encSb a0.Box.Lines),dI a0.Box.Trial,.d (slD encSb a0.Box.Back),.osl 9001 0 a0.Box.Cands.length,.d (slD QAj.enc a0.Slots),dI a0.Live,dI a0.Last,dI a0.Job.Kind,dI a0.Job.Step,dI a0.Job.Edition,dI a0.Job.Ticks,.d (slD encSb a0.Job.Lines)]),(9001,.arr 93 4 a0.Box.Cands.length (rows QAg.enc a0.Box.Cands))],[⟨[(0,.ref 9000 0 0),(1,.d (.str J)),(4,dI 0),(8,.ref 9000 0 0),(9,.d (.str J))],[]⟩,⟨[(0,.ref 9000 0 0)],[]⟩]⟩) ?_ ?_
 ·exact leX []
 ·clear Y;intro s1 y2 G a3;refine Qc tOk ?_;apply Qm G<;>intro _ G
  ·refine Qc tOk (gdI G fun G=>?_);apply Qm G<;>intro _ G
   ·refine gdI G fun G=>?_;cases G;cases a3 _ rfl;refine Qc tOk (aI (fun e=>Bool.noConfusion e) (fun _=>?_));obtain⟨x8,a5,h⟩:=Qb h;refine QP tOk [.u 13 1000 (.tup [.osl 5001 0 x8.1.length,dI x8.2]) [⟨5001,9,1,x8.1.length,rows encSb x8.1⟩]] 19 [] [0,1,3,7,0,16,48,112,0,256,768,1792,3840,8191,16383,32767,32767,65535,262143] [] (aI (QB (QjV a5) (by kernel_rfl)) (aK (Qc tOk ?_)));apply Qm h<;>intro _ h
    ·cases h
     exact lfE [.s [(5001,9001),(9001,5001)]]
    ·apply Qm h<;>intro _ h
     ·cases h
      exact lfE [.s [(5001,9001),(9001,5001)]]
     ·obtain⟨x9,a7,h⟩:=Qb h;obtain⟨O,I,hlx10,h⟩:=Qee h;obtain⟨a4,a2,hlx11,h⟩:=Qee h;obtain⟨a6,U,hlx12,h⟩:=Qee h;refine Qwd [6001] (Qaj tOk [.e 14 [] (.d (slD encSb x9)) [] [],.a 17 [(9001,.arr 93 4 a0.Box.Cands.length (rows QAg.enc a0.Box.Cands))] (.any) [(9001,.arr 93 4 a0.Box.Cands.length (rows QAg.enc O))],.a 20 [(9001,.arr 93 4 a0.Box.Cands.length (rows QAg.enc O))] (.any) [(9001,.arr 93 4 a0.Box.Cands.length (rows QAg.enc a4))],.a 23 [(9001,.arr 93 4 a0.Box.Cands.length (rows QAg.enc a4))] (.any) [(9001,.arr 93 4 a0.Box.Cands.length (rows QAg.enc a6))]] 24 [] [0,0,0,0,0,16,48,112,240,0,512,1536,3584,7680,15872,32761,65529,131065,262139,524283,1048571,2097151,4194303,8388607] [] [9001] (aI (eD [] 0 (ZU a7)) (aI (by(conv=>whnf);exact Qpo (enc:=QAg.enc) I ⟨rfl,rfl⟩) (aI (by(conv=>whnf);exact Qpo (enc:=QAg.enc) a2 ⟨rfl,rfl⟩) (aI (by(conv=>whnf);exact Qpo (enc:=QAg.enc) U ⟨rfl,rfl⟩) (aK ?_))))));cases h;exact lfE [.s [(5001,9001),(9001,5001)]]
   ·exact eX G []
  ·cases G
   cases a3 _ rfl
   refine Qc tOk (aI (fun _=>?_) (fun e=>Bool.noConfusion e));cases h;exact lfE [.s [(5001,9001),(9001,5001)]]
def Qg3 (a0:(List Bt)) (I:(List Bt)):Option ((List Bt)):=
 bd (Qy a0) fun J=>
 gd (((J.length)+(I.length))*(16+1)<=70368744177664)<|
 bd (lp (σ:=List Bt×Int) (β:=(Nat×(List Bt))) (fun G=>
(if(decide (G.2<(((J++I).length:Nat):Int)))=true then
 gd ((0:Int)<=G.2∧G.2<(((J++I).length:Nat):Int))<|
 bd (Qr a0 ((J++I).getD G.2.toNat default)) fun x7=>
 bd (Qr I ((J++I).getD G.2.toNat default)) fun Y=>
(if(!(x7==Y))=true then
 gd (((G.1.length)+(([((J++I).getD G.2.toNat default)]:List Bt).length))*(16+1)<=70368744177664)<|
 some (.inl ((G.1++([((J++I).getD G.2.toNat default)]:List Bt)),IntKind.i64.wrap (G.2+1)))
else
 some (.inl (G.1,IntKind.i64.wrap (G.2+1))))
else
 some (.inr (G.1.length,G.1)))) (([]:List Bt),0)) fun U=>
 bd (Zq U.2) fun O=>
 gd (O.length=U.1)<|
 some O
theorem Ql7 {a0:(List Bt)} {I:(List Bt)} {r:(List Bt)} (h:Qg3 a0 I=some r):PureC prog 171 [.d (slD encSb a0),.d (slD encSb I)] (.osl 5001 0 r.length) [⟨5001,9,1,r.length,rows encSb r⟩]:=by
 refine pY tOk f171 rfl (Qc tOk (bC h 1000 (fun _=>QS) fun O h=>gdI h fun h=>QfK (enc:=encSb) (xs:=O) (ys:=I) ?_));obtain⟨x5,U,h⟩:=Qb h;refine QA tOk U (fun J=>⟨0,33,[(0,.d (slD encSb a0)),(1,.d (slD encSb I)),(5,.osl 7001 0 J.1.length),(12,.osl 6001 0 ((O++I).length)),(13,dI (((O++I).length:Nat):Int)),(14,dI J.2)],[],[(7001,.arr 9 1 J.1.length (rows encSb J.1)),(6001,.arr 9 1 ((O++I).length) (rows encSb (O++I)))],[]⟩) ?_ ?_
 ·exact leX [.k [7001],.p 7001 9 1 (rows encSb ([]:List Bt))]
 ·clear U;intro J y3 G a2;refine Qc tOk ?_;apply Qm G<;>intro _ G
  ·refine Qc tOk (gdI G fun G=>bC G 0 (fun _=>QV) fun x7 G=>bC G 0 (fun _=>QV) fun x8 G=>?_);apply Qm G<;>intro _ G
   ·refine Qbh (enc:=encSb) ([((O++I).getD J.2.toNat default)]:List Bt) (gdI G fun G=>QfK (enc:=encSb) (xs:=J.1) (ys:=([((O++I).getD J.2.toNat default)]:List Bt)) ?_);exact eX G []
   ·exact eX G []
  ·cases G
   cases a2 _ rfl
   obtain⟨x11,Y,h⟩:=Qb h;obtain⟨g12,h⟩:=Qf h;refine cE [(9000,7001)] 0 (J0 Y) ?_;cases h;exact lfP [.s [(5001,7001),(7001,5001)]]
def Qg4 (a0:(List Bt)) (a1:(List Bt)) (a2:Bt):Option (Bool):=
 bd (JB a0) fun x1=>
 bd (gcall ((!x1)=false) (JB a1)) fun x2=>
(if((!x1)||(!x2))=true then
 some false
else
 bd (QcE a0 a2) fun Y=>
(if(!Y.2)=true then
 some false
else
 bd (Qg3 a0 a1) fun O=>
 bd (lp (σ:=Int) (β:=(Unit⊕Unit)) (fun G=>
(if(decide (G<((O.length:Nat):Int)))=true then
 gd ((0:Int)<=G∧G<((O.length:Nat):Int))<|
 bd (JL (O.getD G.toNat default) (⟨#[32]⟩:Bt)) fun J=>
 bd (Qr Y.1 (⟨#[97,108,108]⟩:Bt)) fun I=>
 bd (gcall ((!I)=true) (Qr Y.1 J.1)) fun U=>
(if((!I)&&(!U))=true then
 some (.inr (.inl ()))
else
 some (.inl (IntKind.i64.wrap (G+1))))
else
 some (.inr (.inr ())))) 0) fun x8=>
(match x8 with
| .inl d13=>
 some false
| .inr d14=>
 some true)))
theorem Ql8 {a0:(List Bt)} {a1:(List Bt)} {Y:Bt} {r:Bool} (h:Qg4 a0 a1 Y=some r):PureC prog 134 [.d (slD encSb a0),.d (slD encSb a1),.d (.str Y)] (dB r) []:=by
 refine pY tOk f134 rfl (Qc tOk (bC h 0 (fun _=>Qc0) fun x1 h=>bG h (fun _=>Qc0) fun x2 h=>?_));apply Qm h<;>intro _ h
 ·cases h
  exact lfP []
 ·refine bC h 1000 (fun _=>Qei) fun U h=>Qc tOk ?_;apply Qm h<;>intro _ h
  ·cases h
   exact lfP []
  ·refine Qc tOk (bC h 2000 (fun _=>Ql7) fun O h=>?_);obtain⟨x8,I,h⟩:=Qb h;refine QA tOk I (fun s5=>⟨0,54,[(7,.osl 6001 0 U.1.length),(32,.osl 7001 0 O.length),(33,dI ((O.length:Nat):Int)),(34,dI s5)],[],[(7001,.arr 9 1 O.length (rows encSb O)),(6001,.arr 9 1 U.1.length (rows encSb U.1))],[]⟩) ?_ ?_
   ·exact leX []
   ·clear I;intro s5 y6 G J;refine Qc tOk ?_;apply Qm G<;>intro _ G
    ·refine Qc tOk (gdI G fun G=>bC G 0 (fun _=>QdZ) fun x10 G=>bC G 0 (fun _=>QV) fun x11 G=>bG G (fun _=>QV) fun x12 G=>?_);apply Qm G<;>intro _ G
     ·cases G
      cases J _ rfl
      cases h
      exact lfP []
     ·exact eX G []
    ·cases G
     cases J _ rfl
     cases h
     exact lfP []
def QcI (a0:QAk) (Y:Bt) (J:Int):Option (Int×QAk):=
 bd (lp (σ:=Int) (β:=(Nat⊕Unit)) (fun s1=>
(if(decide (s1<((a0.Box.Cands.length:Nat):Int)))=true then
 gd ((0:Int)<=s1∧s1<((a0.Box.Cands.length:Nat):Int))<|
(if(((a0.Box.Cands.getD s1.toNat default).User)==Y)=true then
 gd ((0:Int)<=s1∧s1<((a0.Box.Cands.length:Nat):Int))<|
 some (.inr (.inl s1.toNat))
else
 some (.inl (IntKind.i64.wrap (s1+1))))
else
 some (.inr (.inr ())))) 0) fun x4=>
(match x4 with
| .inl I=>
 bd (Qv J 0 9) fun x8=>
(if(!x8)=true then
 some (2,a0)
else
(if(a0.Job.Kind !=0)=true then
 some (10,a0)
else
(if(decide (a0.Box.Trial>0))=true then
 some (8,a0)
else
(if(((a0.Box.Cands.getD I default).Base) !=a0.Box.Edition)=true then
 some (5,a0)
else
 bd (Jb ((a0.Box.Cands.getD I default).Lines)) fun x9=>
(if(x9 !=0)=true then
 some (6,a0)
else
 bd (Qg4 a0.Box.Lines ((a0.Box.Cands.getD I default).Lines) Y) fun O=>
(if(!O)=true then
 some (7,a0)
else
(if(decide (a0.Box.Edition>=1000000))=true then
 some (9,a0)
else
 bd (Qy ((a0.Box.Cands.getD I default).Lines)) fun G=>
 bd (Qar ({a0 with Job:=(⟨1,0,IntKind.i64.wrap (a0.Box.Edition+1),J,G⟩:QAi)}) Y) fun U=>
 some (0,{a0 with Box:={a0.Box with Cands:=U.Box.Cands},Job:=(⟨1,0,IntKind.i64.wrap (a0.Box.Edition+1),J,G⟩:QAi)}))))))))
| .inr d13=>
 some (3,a0))
theorem Qfn {a0:QAk} {a1:Bt} {a2:Int} {r:Int×QAk} (h:QcI a0 a1 a2=some r):EffC prog 62 [.ref 9000 0 0,.d (.str a1),dI a2] [(9000,.box 34 [dB a0.Up,dI a0.Box.Edition,.d (slD encSb a0.Box.Lines),dI a0.Box.Trial,.d (slD encSb a0.Box.Back),.osl 9001 0 a0.Box.Cands.length,.d (slD QAj.enc a0.Slots),dI a0.Live,dI a0.Last,dI a0.Job.Kind,dI a0.Job.Step,dI a0.Job.Edition,dI a0.Job.Ticks,.d (slD encSb a0.Job.Lines)]),(9001,.arr 93 4 a0.Box.Cands.length (rows QAg.enc a0.Box.Cands))] (dI r.1) [(9000,.box 34 [dB a0.Up,dI a0.Box.Edition,.d (slD encSb a0.Box.Lines),dI a0.Box.Trial,.d (slD encSb a0.Box.Back),.osl 5001 0 r.2.Box.Cands.length,.d (slD QAj.enc a0.Slots),dI a0.Live,dI a0.Last,dI r.2.Job.Kind,dI r.2.Job.Step,dI r.2.Job.Edition,dI r.2.Job.Ticks,.d (slD encSb r.2.Job.Lines)]),(5001,.arr 93 4 r.2.Box.Cands.length (rows QAg.enc r.2.Box.Cands))]:=by
 refine eY tOk f62 rfl (Qh6 tOk 20000 (fn:=f123) (c:=Jw f123) rfl rfl (by kernel_rfl) rfl (Qc tOk ?_));obtain⟨x4,J,h⟩:=Qb h;refine QA tOk J (fun s1=>⟨20000,34,[(0,.ref 9000 0 0),(1,.d (.str a1)),(11,dI ((a0.Box.Cands.length:Nat):Int)),(12,dI s1)],[],[(9000,.box 34 [dB a0.Up,dI a0.Box.Edition,.d (slD encSb a0.Box.Lines),dI a0.Box.Trial,.d (slD encSb a0.Box.Back),.osl 9001 0 a0.Box.Cands.length,.d (slD QAj.enc a0.Slots),dI a0.Live,dI a0.Last,dI a0.Job.Kind,dI a0.Job.Step,dI a0.Job.Edition,dI a0.Job.Ticks,.d (slD encSb a0.Job.Lines)]),(9001,.arr 93 4 a0.Box.Cands.length (rows QAg.enc a0.Box.Cands))],[⟨[(0,.ref 9000 0 0),(1,.d (.str a1)),(2,dI a2),(6,dI 0),(8,.ref 9000 0 0),(9,.d (.str a1))],[]⟩,⟨[(0,.ref 9000 0 0)],[]⟩]⟩) ?_ ?_
 ·exact leX []
 ·clear J;intro s1 y2 G a3;refine Qc tOk ?_;apply Qm G<;>intro _ G
  ·refine Qc tOk (gdI G fun G=>?_);apply Qm G<;>intro _ G
   ·refine gdI G fun G=>?_;cases G;cases a3 _ rfl;refine Qc tOk (aI (fun e=>Bool.noConfusion e) (fun _=>bC h 0 (fun _=>QQ) fun x8 h=>?_));apply Qm h<;>intro _ h
    ·cases h
     exact lfE [.s [(5001,9001),(9001,5001)]]
    ·apply Qm h<;>intro _ h
     ·cases h
      exact lfE [.s [(5001,9001),(9001,5001)]]
     ·apply Qm h<;>intro _ h
      ·cases h
       exact lfE [.s [(5001,9001),(9001,5001)]]
      ·refine QP tOk [] 11 [] [0,1,3,7,0,16,48,112,240,511,1023] [] (aK ?_);apply Qm h<;>intro _ h
       ·cases h
        exact lfE [.s [(5001,9001),(9001,5001)]]
       ·refine bC h 0 (fun _=>QdK) fun x9 h=>?_;apply Qm h<;>intro _ h
        ·cases h
         exact lfE [.s [(5001,9001),(9001,5001)]]
        ·obtain⟨a4,O,h⟩:=Qb h;refine QP tOk [.u 10 0 (dB a4) []] 13 [] [0,1,3,7,15,0,32,96,224,0,1023,2047,4095] [] (aI (QB (Ql8 O) (by kernel_rfl)) (aK ?_));apply Qm h<;>intro _ h
         ·cases h
          exact lfE [.s [(5001,9001),(9001,5001)]]
         ·apply Qm h<;>intro _ h
          ·cases h
           exact lfE [.s [(5001,9001),(9001,5001)]]
          ·obtain⟨I,U,h⟩:=Qb h;refine QP tOk [.u 12 1000 (.osl 5001 0 I.length) [⟨5001,9,1,I.length,rows encSb I⟩]] 16 [] [0,0,2,6,14,30,62,0,0,256,768,1792,3840,8190,16383,32767] [65535] (aI (QB (QS U) (by kernel_rfl)) (aK ?_));obtain⟨x12,Y,h⟩:=Qb h;refine Zl [6001] (cE [(9000,9000),(9001,9001)] 1000 (QbQ Y) ?_);cases h;exact lfE [.s [(5001,6001),(6001,5001)]]
   ·exact eX G []
  ·cases G
   cases a3 _ rfl
   refine Qc tOk (aI (fun _=>?_) (fun e=>Bool.noConfusion e));cases h;exact lfE [.s [(5001,9001),(9001,5001)]]
def Qcf (a0:QAk) (I:Bt) (G:Int):Option (Int×QAk):=
 bd (QcE a0.Box.Lines I) fun J=>
(if(a0.Box.Trial==0)=true then
 some (8,a0)
else
(if(G !=a0.Box.Edition)=true then
 some (5,a0)
else
(if(!J.2)=true then
 some (3,a0)
else
(if(a0.Job.Kind !=0)=true then
 some (10,a0)
else
 some (0,{a0 with Job:=(⟨2,0,0,0,[]⟩:QAi)})))))
theorem QeV {a0:QAk} {G:Bt} {I:Int} {r:Int×QAk} (h:Qcf a0 G I=some r):EffC prog 63 [.ref 9000 0 0,.d (.str G),dI I] [(9000,.box 34 [dB a0.Up,dI a0.Box.Edition,.d (slD encSb a0.Box.Lines),dI a0.Box.Trial,.d (slD encSb a0.Box.Back),.d (slD QAg.enc a0.Box.Cands),.d (slD QAj.enc a0.Slots),dI a0.Live,dI a0.Last,dI a0.Job.Kind,dI a0.Job.Step,dI a0.Job.Edition,dI a0.Job.Ticks,.d (slD encSb a0.Job.Lines)])] (dI r.1) [(9000,.box 34 [dB a0.Up,dI a0.Box.Edition,.d (slD encSb a0.Box.Lines),dI a0.Box.Trial,.d (slD encSb a0.Box.Back),.d (slD QAg.enc a0.Box.Cands),.d (slD QAj.enc a0.Slots),dI a0.Live,dI a0.Last,dI r.2.Job.Kind,dI r.2.Job.Step,dI r.2.Job.Edition,dI r.2.Job.Ticks,.d (slD encSb r.2.Job.Lines)])]:=by
 refine eY tOk f63 rfl (bC h 1000 (fun _=>Qei) fun x1 h=>Qc tOk ?_);apply Qm h<;>intro _ h
 ·cases h
  exact lfE []
 ·apply Qm h<;>intro _ h
  ·cases h
   exact lfE []
  ·apply Qm h<;>intro _ h
   ·cases h
    exact lfE []
   ·apply Qm h<;>intro _ h
    ·cases h
     exact lfE []
    ·cases h
     exact lfE []
end
end Go.Proofs.YtoknnjiangjccaaGreatDoor
