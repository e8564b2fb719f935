/-
  What some of the program's functions compute: their models, and that the functions compute these; no condition.
-/
import Derived.Test.YtoknnjiangjccaaGreatDoorTyz
import Derived.Test.YtoknnjiangjccaaGreatDoorTbz
import Derived.Test.YtoknnjiangjccaaGreatDoorLayz
import Derived.Test.YtoknnjiangjccaaGreatDoorLay4z
import Derived.Test.YtoknnjiangjccaaGreatDoorAbz8
import Derived.BigCall
import Derived.BigGuard
import Derived.BigQuiet
import Derived.Deep.QuietTactic
import Derived.Maps.OwnSet
import Derived.StringKeys
import Derived.WalkKit
import Derived.Test.YtoknnjiangjccaaGreatDoorKz4
set_option linter.all false
namespace Go.Proofs.YtoknnjiangjccaaGreatDoor
open Go Go.Ab Tryz
set_option maxRecDepth 100000
set_option maxHeartbeats 40000000
noncomputable section
def Qc1 (a0:Int):Option (Int):=
 bd (α:=Int×Int) ((if(decide (a0>=4294967296))=true then
 gd ((0:Int)<=32)<|
 some (((a0:Int).fdiv (2^min (32:Int).toNat IntKind.u64.bits)),32)
else
 some (a0,0))) fun I=>
 bd (α:=Int×Int) ((if(decide (I.1>=65536))=true then
 gd ((0:Int)<=16)<|
 some (((I.1:Int).fdiv (2^min (16:Int).toNat IntKind.u64.bits)),IntKind.i64.wrap (I.2+16))
else
 some (I.1,I.2))) fun G=>
(if(decide (G.1>=256))=true then
 gd ((0:Int)<=8)<|
 gd ((0:Int)<=IntKind.u8.wrap ((G.1:Int).fdiv (2^min (8:Int).toNat IntKind.u64.bits))∧IntKind.u8.wrap ((G.1:Int).fdiv (2^min (8:Int).toNat IntKind.u64.bits))<(((⟨#[0,1,2,2,3,3,3,3,4,4,4,4,4,4,4,4,5,5,5,5,5,5,5,5,5,5,5,5,5,5,5,5,6,6,6,6,6,6,6,6,6,6,6,6,6,6,6,6,6,6,6,6,6,6,6,6,6,6,6,6,6,6,6,6,7,7,7,7,7,7,7,7,7,7,7,7,7,7,7,7,7,7,7,7,7,7,7,7,7,7,7,7,7,7,7,7,7,7,7,7,7,7,7,7,7,7,7,7,7,7,7,7,7,7,7,7,7,7,7,7,7,7,7,7,7,7,7,7,8,8,8,8,8,8,8,8,8,8,8,8,8,8,8,8,8,8,8,8,8,8,8,8,8,8,8,8,8,8,8,8,8,8,8,8,8,8,8,8,8,8,8,8,8,8,8,8,8,8,8,8,8,8,8,8,8,8,8,8,8,8,8,8,8,8,8,8,8,8,8,8,8,8,8,8,8,8,8,8,8,8,8,8,8,8,8,8,8,8,8,8,8,8,8,8,8,8,8,8,8,8,8,8,8,8,8,8,8,8,8,8,8,8,8,8,8,8,8,8,8,8,8,8,8,8,8,8]⟩:Bt).size:Nat):Int))<|
 some (IntKind.i64.wrap ((IntKind.i64.wrap (G.2+8))+(IntKind.i64.wrap (Qaa (⟨#[0,1,2,2,3,3,3,3,4,4,4,4,4,4,4,4,5,5,5,5,5,5,5,5,5,5,5,5,5,5,5,5,6,6,6,6,6,6,6,6,6,6,6,6,6,6,6,6,6,6,6,6,6,6,6,6,6,6,6,6,6,6,6,6,7,7,7,7,7,7,7,7,7,7,7,7,7,7,7,7,7,7,7,7,7,7,7,7,7,7,7,7,7,7,7,7,7,7,7,7,7,7,7,7,7,7,7,7,7,7,7,7,7,7,7,7,7,7,7,7,7,7,7,7,7,7,7,7,8,8,8,8,8,8,8,8,8,8,8,8,8,8,8,8,8,8,8,8,8,8,8,8,8,8,8,8,8,8,8,8,8,8,8,8,8,8,8,8,8,8,8,8,8,8,8,8,8,8,8,8,8,8,8,8,8,8,8,8,8,8,8,8,8,8,8,8,8,8,8,8,8,8,8,8,8,8,8,8,8,8,8,8,8,8,8,8,8,8,8,8,8,8,8,8,8,8,8,8,8,8,8,8,8,8,8,8,8,8,8,8,8,8,8,8,8,8,8,8,8,8,8,8,8,8,8,8]⟩:Bt) (IntKind.u8.wrap ((G.1:Int).fdiv (2^min (8:Int).toNat IntKind.u64.bits))).toNat))))
else
 gd ((0:Int)<=IntKind.u8.wrap G.1∧IntKind.u8.wrap G.1<(((⟨#[0,1,2,2,3,3,3,3,4,4,4,4,4,4,4,4,5,5,5,5,5,5,5,5,5,5,5,5,5,5,5,5,6,6,6,6,6,6,6,6,6,6,6,6,6,6,6,6,6,6,6,6,6,6,6,6,6,6,6,6,6,6,6,6,7,7,7,7,7,7,7,7,7,7,7,7,7,7,7,7,7,7,7,7,7,7,7,7,7,7,7,7,7,7,7,7,7,7,7,7,7,7,7,7,7,7,7,7,7,7,7,7,7,7,7,7,7,7,7,7,7,7,7,7,7,7,7,7,8,8,8,8,8,8,8,8,8,8,8,8,8,8,8,8,8,8,8,8,8,8,8,8,8,8,8,8,8,8,8,8,8,8,8,8,8,8,8,8,8,8,8,8,8,8,8,8,8,8,8,8,8,8,8,8,8,8,8,8,8,8,8,8,8,8,8,8,8,8,8,8,8,8,8,8,8,8,8,8,8,8,8,8,8,8,8,8,8,8,8,8,8,8,8,8,8,8,8,8,8,8,8,8,8,8,8,8,8,8,8,8,8,8,8,8,8,8,8,8,8,8,8,8,8,8,8,8]⟩:Bt).size:Nat):Int))<|
 some (IntKind.i64.wrap (G.2+(IntKind.i64.wrap (Qaa (⟨#[0,1,2,2,3,3,3,3,4,4,4,4,4,4,4,4,5,5,5,5,5,5,5,5,5,5,5,5,5,5,5,5,6,6,6,6,6,6,6,6,6,6,6,6,6,6,6,6,6,6,6,6,6,6,6,6,6,6,6,6,6,6,6,6,7,7,7,7,7,7,7,7,7,7,7,7,7,7,7,7,7,7,7,7,7,7,7,7,7,7,7,7,7,7,7,7,7,7,7,7,7,7,7,7,7,7,7,7,7,7,7,7,7,7,7,7,7,7,7,7,7,7,7,7,7,7,7,7,8,8,8,8,8,8,8,8,8,8,8,8,8,8,8,8,8,8,8,8,8,8,8,8,8,8,8,8,8,8,8,8,8,8,8,8,8,8,8,8,8,8,8,8,8,8,8,8,8,8,8,8,8,8,8,8,8,8,8,8,8,8,8,8,8,8,8,8,8,8,8,8,8,8,8,8,8,8,8,8,8,8,8,8,8,8,8,8,8,8,8,8,8,8,8,8,8,8,8,8,8,8,8,8,8,8,8,8,8,8,8,8,8,8,8,8,8,8,8,8,8,8,8,8,8,8,8,8]⟩:Bt) (IntKind.u8.wrap G.1).toNat)))))
theorem QiU {a0:Int} {r:Int} (h:Qc1 a0=some r):PureC prog 199 [.d (.int .u64 a0)] (dI r) []:=by
 refine pY tOk f199 rfl ?_;obtain⟨U,G,h⟩:=Qb h;refine Zm tOk (fun J=>⟨0,25,[(0,.d (.int .u64 J.1)),(2,dI J.2)],[],[],[]⟩) (fun J=>U=J) ?_ ?_
 ·apply Qo G<;>intro _ G
  ·refine gdI G fun G=>?_;exact eZ G []
  ·exact eZ G []
 ·rintro _ rfl;obtain⟨Y,I,h⟩:=Qb h;refine Zm tOk (fun O=>⟨0,25,[(0,.d (.int .u64 O.1)),(2,dI O.2)],[],[],[]⟩) (fun O=>Y=O) ?_ ?_
  ·apply Qo I<;>intro _ I
   ·refine gdI I fun I=>?_;exact eZ I []
   ·exact eZ I []
  ·rintro _ rfl;refine Qc tOk ?_;apply Qo h<;>intro _ h
   ·refine gdI h fun h=>gdI h fun h=>?_;cases h;exact lfP []
   ·refine gdI h fun h=>?_;cases h;exact lfP []
def QcK (a0:Int):Option (Int):=
 bd (Qc1 a0) fun G=>
 some G
theorem QkP {a0:Int} {r:Int} (h:QcK a0=some r):PureC prog 167 [.d (.int .u64 a0)] (dI r) []:=by
 refine pY tOk f167 rfl (Qc tOk (aI (fun e=>Bool.noConfusion e) (fun _=>bC h 0 (fun _=>QiU) fun x1 h=>?_)));cases h;exact lfP []
def ZU (a0:QAr) (G:QAr):Option (Int):=
(if(bsl a0.User G.User)=true then
 some (-1)
else
 some 1)
theorem QeU {a0:QAr} {G:QAr} {r:Int} (h:ZU a0 G=some r):PureC prog 126 [.agg [.d (.str a0.User),dI a0.Base,.d (slD encSb a0.From),.d (slD encSb a0.Lines)],.agg [.d (.str G.User),dI G.Base,.d (slD encSb G.From),.d (slD encSb G.Lines)]] (dI r) []:=by
 refine pY tOk f126 rfl (Qc tOk ?_);apply Qo h<;>intro _ h
 ·cases h
  exact lfP []
 ·cases h
  exact lfP []
def QA (a0:(List QAr)) (I:Int) (a2:Int):Option ((List QAr)):=
 bd (lp (σ:=List QAr×Int) (β:=((List QAr)×Nat)) (fun s1=>
(if(decide (s1.2<a2))=true then
 bd (lp (σ:=List QAr×Int) (β:=(Nat×(List QAr))) (fun G=>
 gd ((decide (G.2>I))=true->((0:Int)<=G.2∧G.2<((G.1.length:Nat):Int)))<|
 gd ((decide (G.2>I))=true->((0:Int)<=IntKind.i64.wrap (G.2-1)∧IntKind.i64.wrap (G.2-1)<((G.1.length:Nat):Int)))<|
 bd (gcall ((decide (G.2>I))=true) (ZU (G.1.getD G.2.toNat default) (G.1.getD ((IntKind.i64.wrap (G.2-1)).toNat) default))) fun U=>
(if((decide (G.2>I))&&(decide (U<0)))=true then
 gd ((0:Int)<=IntKind.i64.wrap (G.2-1)∧IntKind.i64.wrap (G.2-1)<((G.1.length:Nat):Int))<|
 gd ((0:Int)<=G.2∧G.2<((G.1.length:Nat):Int))<|
 gd ((0:Int)<=G.2∧G.2<((G.1.length:Nat):Int))<|
 bd (some (G.1.set G.2.toNat (G.1.getD ((IntKind.i64.wrap (G.2-1)).toNat) default))) fun J=>
 gd ((0:Int)<=IntKind.i64.wrap (G.2-1)∧IntKind.i64.wrap (G.2-1)<((G.1.length:Nat):Int))<|
 bd (some (J.set ((IntKind.i64.wrap (G.2-1)).toNat) (G.1.getD G.2.toNat default))) fun O=>
 some (.inl (O,IntKind.i64.wrap (G.2-1)))
else
 some (.inr (G.1.length,G.1)))) (s1.1,s1.2)) fun x8=>
 some (.inl (x8.2,IntKind.i64.wrap (s1.2+1)))
else
 some (.inr (s1.1,s1.1.length)))) (a0,IntKind.i64.wrap (I+1))) fun Y=>
 gd (Y.2=a0.length)<|
 some Y.1
theorem Jf {a0:(List QAr)} {a1:Int} {a2:Int} {r:(List QAr)} (h:QA a0 a1 a2=some r):EffC prog 190 [.osl 9000 0 a0.length,dI a1,dI a2,.fn 126 []] [(9000,.arr 93 4 a0.length (rows QAr.enc a0))] (.tup []) [(9000,.arr 93 4 a0.length (rows QAr.enc r))]:=by
 refine eY tOk f190 rfl ?_;obtain⟨x4,U,h⟩:=Qb h;refine QF tOk U (fun s1=>⟨0,53,[(0,.osl 9000 0 s1.1.length),(1,dI a1),(2,dI a2),(3,.fn 126 []),(8,dI s1.2)],[],[(9000,.arr 93 4 s1.1.length (rows QAr.enc s1.1))],[⟨[(0,.osl 9000 0 s1.1.length)],[]⟩]⟩) ?_ ?_
 ·exact leX []
 ·clear U;intro s1 y2 O a6;refine Qc tOk ?_;apply Qo O<;>intro _ O
  ·refine Qc tOk ?_;obtain⟨x8,a4,O⟩:=Qb O;refine QF tOk a4 (fun G=>⟨0,53,[(0,.osl 9000 0 G.1.length),(1,dI a1),(2,dI a2),(3,.fn 126 []),(8,dI s1.2),(9,dI G.2)],[],[(9000,.arr 93 4 G.1.length (rows QAr.enc G.1))],[⟨[(0,.osl 9000 0 G.1.length)],[]⟩]⟩) ?_ ?_
   ·exact leX []
   ·clear a4;intro G y6 I b5;refine Qc tOk ?_;obtain⟨g9,I⟩:=Qf I;obtain⟨b6,I⟩:=Qf I;obtain⟨b2,a3,I⟩:=Qb I;refine QW tOk [.u 14 0 (dI b2) []] 17 [] [0,0,3,7,15,15,15,111,239,15,15,1039,3599,7695,16383,32767,65535] [] (aI g9 (aI b6 (aI (Qw rfl rfl rfl rfl (by intro c0;exact QeU (Qn a3 c0))) (aK ?_))));apply Qo I<;>intro _ I
    ·refine Qc tOk ?_;obtain⟨a7,I⟩:=Qf I;obtain⟨b4,I⟩:=Qf I;obtain⟨b3,I⟩:=Qf I;obtain⟨J,Y,hlx15,I⟩:=QfO I;obtain⟨a8,I⟩:=Qf I;obtain⟨a9,a5,hlx17,I⟩:=QfO I;refine Qas tOk [.l 8 [(9000,.arr 93 4 G.1.length (rows QAr.enc G.1))] (.ref 9000 ((IntKind.i64.wrap (G.2-1)).toNat) 0),.l 9 [(9000,.arr 93 4 G.1.length (rows QAr.enc G.1))] (.agg [.d (.str ((G.1.getD ((IntKind.i64.wrap (G.2-1)).toNat) default).User)),dI ((G.1.getD ((IntKind.i64.wrap (G.2-1)).toNat) default).Base),.d (slD encSb ((G.1.getD ((IntKind.i64.wrap (G.2-1)).toNat) default).From)),.d (slD encSb ((G.1.getD ((IntKind.i64.wrap (G.2-1)).toNat) default).Lines))]),.l 12 [(9000,.arr 93 4 G.1.length (rows QAr.enc G.1))] (.ref 9000 G.2.toNat 0),.l 13 [(9000,.arr 93 4 G.1.length (rows QAr.enc G.1))] (.agg [.d (.str ((G.1.getD G.2.toNat default).User)),dI ((G.1.getD G.2.toNat default).Base),.d (slD encSb ((G.1.getD G.2.toNat default).From)),.d (slD encSb ((G.1.getD G.2.toNat default).Lines))]),.l 14 [(9000,.arr 93 4 G.1.length (rows QAr.enc G.1))] (.ref 9000 G.2.toNat 0),.a 15 [(9000,.arr 93 4 G.1.length (rows QAr.enc G.1))] (.any) [(9000,.arr 93 4 G.1.length (rows QAr.enc J))],.l 16 [(9000,.arr 93 4 G.1.length (rows QAr.enc J))] (.ref 9000 ((IntKind.i64.wrap (G.2-1)).toNat) 0),.a 17 [(9000,.arr 93 4 G.1.length (rows QAr.enc J))] (.any) [(9000,.arr 93 4 G.1.length (rows QAr.enc a9))]] 18 [] [0,0,0,0,8,0,0,64,224,480,0,0,3072,7168,16355,32739,65535,131071] [] [9000] (aI (by(conv=>whnf);exact⟨a7,rfl,rfl⟩) (aI (by(conv=>whnf);exact⟨rfl,rfl⟩) (aI (by(conv=>whnf);exact⟨b4,rfl,rfl⟩) (aI (by(conv=>whnf);exact⟨rfl,rfl⟩) (aI (by(conv=>whnf);exact⟨b3,rfl,rfl⟩) (aI (by(conv=>whnf);exact QsH (enc:=QAr.enc) Y ⟨rfl,rfl⟩) (aI (by(conv=>whnf);exact⟨a8,rfl,rfl⟩) (aI (by(conv=>whnf);exact QsH (enc:=QAr.enc) a5 ⟨rfl,rfl⟩) (aK ?_)))))))));exact eX I []
    ·cases I
     cases b5 _ rfl
     exact eX O []
  ·cases O
   cases a6 _ rfl
   obtain⟨g20,h⟩:=Qf h;cases h;exact lfE []
def QY (a0:(List QAr)) (J:Int) (G:Int) (O:Int):Option ((List QAr)):=
 bd (lp (σ:=Unit) (β:=((List QAr))) (fun s1=>
(if(decide ((IntKind.i64.wrap (G-J))<=12))=true then
 bd (QA a0 J G) fun I=>
 gd (I.length=a0.length)<|
 some (.inr I)
else
(if(O==0)=true then
 none
else
 none))) ()) fun U=>
 some U
theorem JD {a0:(List QAr)} {a1:Int} {O:Int} {U:Int} {r:(List QAr)} (h:QY a0 a1 O U=some r):EffC prog 166 [.osl 9000 0 a0.length,dI a1,dI O,dI U,.fn 126 []] [(9000,.arr 93 4 a0.length (rows QAr.enc a0))] (.tup []) [(9000,.arr 93 4 a0.length (rows QAr.enc r))]:=by
 refine eY tOk f166 rfl ?_;obtain⟨x4,I,h⟩:=Qb h;refine QF tOk I (fun s1=>⟨0,148,[(0,.osl 9000 0 a0.length),(1,dI a1),(2,dI O),(3,dI U),(4,.fn 126 []),(10,dB true),(11,dB true)],[],[(9000,.arr 93 4 a0.length (rows QAr.enc a0))],[⟨[(0,.osl 9000 0 a0.length)],[]⟩]⟩) ?_ ?_
 ·exact leX []
 ·clear I;intro s1 y2 G J;refine Qc tOk ?_;apply Qo G<;>intro _ G
  ·obtain⟨x5,Y,G⟩:=Qb G;obtain⟨g6,G⟩:=Qf G;refine cE [(9000,9000)] 0 (Jf Y) ?_;cases G;cases J _ rfl;cases h;exact lfE []
  ·refine Qc tOk ?_;apply Qo G<;>intro _ G
   ·cases G
   ·refine Qc tOk (aI (fun e=>Bool.noConfusion e) (fun _=>?_));cases G
def Qp (a0:(List QAr)):Option ((List QAr)):=
 bd (QcK (IntKind.u64.wrap ((a0.length:Nat):Int))) fun I=>
 bd (QY a0 0 ((a0.length:Nat):Int) I) fun G=>
 gd (G.length=a0.length)<|
 some G
theorem Jo {a0:(List QAr)} {r:(List QAr)} (h:Qp a0=some r):EffC prog 125 [.osl 9000 0 a0.length,.fn 126 []] [(9000,.arr 93 4 a0.length (rows QAr.enc a0))] (.tup []) [(9000,.arr 93 4 a0.length (rows QAr.enc r))]:=by
 refine eY tOk f125 rfl (bC h 0 (fun _=>QkP) fun x1 h=>?_);obtain⟨x2,G,h⟩:=Qb h;obtain⟨g3,h⟩:=Qf h;refine cE [(9000,9000)] 0 (JD G) ?_;cases h;exact lfE []
def Qbc (a0:QAv) (U:Bt):Option (Int×QAv):=
 bd (J1 a0.Box.Lines U) fun x1=>
(if(!x1.2)=true then
 some (3,a0)
else
 bd (α:=Unit⊕Unit) (bd (lp (σ:=Int) (β:=(Nat⊕Unit)) (fun G=>
(if(decide (G<((a0.Box.Cands.length:Nat):Int)))=true then
 gd ((0:Int)<=G∧G<((a0.Box.Cands.length:Nat):Int))<|
(if(((a0.Box.Cands.getD G.toNat default).User)==U)=true then
 gd ((0:Int)<=G∧G<((a0.Box.Cands.length:Nat):Int))<|
 some (.inr (.inl G.toNat))
else
 some (.inl (IntKind.i64.wrap (G+1))))
else
 some (.inr (.inr ())))) 0) fun x8=>
(match x8 with
| .inl d11=>
(if(false&&(((a0.Box.Cands.length:Nat):Int)==3))=true then
 some (.inr ())
else
 some (.inl ()))
| .inr d12=>
(if(true&&(((a0.Box.Cands.length:Nat):Int)==3))=true then
 some (.inr ())
else
 some (.inl ())))) fun x2=>
(match x2 with
| .inl d4=>
 bd (Q8 a0 U) fun J=>
 bd (QS a0.Box.Lines) fun O=>
 bd (QS a0.Box.Lines) fun I=>
 gd (((J.Box.Cands.length)+(([(⟨U,a0.Box.Edition,O,I⟩:QAr)]:List QAr).length))*(72+1)<=70368744177664)<|
 bd (Qp (J.Box.Cands++([(⟨U,a0.Box.Edition,O,I⟩:QAr)]:List QAr))) fun Y=>
 gd (Y.length=(J.Box.Cands++([(⟨U,a0.Box.Edition,O,I⟩:QAr)]:List QAr)).length)<|
 some (0,{a0 with Box:={a0.Box with Cands:=Y}})
| .inr d19=>
 some (4,a0)))
theorem Qf0 {a0:QAv} {U:Bt} {r:Int×QAv} (h:Qbc a0 U=some r):EffC prog 59 [.ref 9000 0 0,.d (.str U)] [(9000,.box 34 [dB a0.Up,dI a0.Box.Edition,.d (slD encSb a0.Box.Lines),dI a0.Box.Trial,.d (slD encSb a0.Box.Back),.osl 9001 0 a0.Box.Cands.length,.d (slD QAu.enc a0.Slots),dI a0.Live,dI a0.Last,dI a0.Job.Kind,dI a0.Job.Step,dI a0.Job.Edition,dI a0.Job.Ticks,.d (slD encSb a0.Job.Lines)]),(9001,.arr 93 4 a0.Box.Cands.length (rows QAr.enc a0.Box.Cands))] (dI r.1) [(9000,.box 34 [dB a0.Up,dI a0.Box.Edition,.d (slD encSb a0.Box.Lines),dI a0.Box.Trial,.d (slD encSb a0.Box.Back),.osl 5001 0 r.2.Box.Cands.length,.d (slD QAu.enc a0.Slots),dI a0.Live,dI a0.Last,dI a0.Job.Kind,dI a0.Job.Step,dI a0.Job.Edition,dI a0.Job.Ticks,.d (slD encSb a0.Job.Lines)]),(5001,.arr 93 4 r.2.Box.Cands.length (rows QAr.enc r.2.Box.Cands))]:=by
 refine eY tOk f59 rfl (Qc tOk (bC h 1000 (fun _=>Qeh) fun Y h=>?_));apply Qo h<;>intro _ h
 ·cases h
  exact lfE [.s [(5001,9001),(9001,5001)]]
 ·obtain⟨x2,G,h⟩:=Qb h;refine Zm tOk (fun s3=>⟨0,71,[(0,.ref 9000 0 0),(1,.d (.str U))],[],[(9000,.box 34 [dB a0.Up,dI a0.Box.Edition,.d (slD encSb a0.Box.Lines),dI a0.Box.Trial,.d (slD encSb a0.Box.Back),.osl 9001 0 a0.Box.Cands.length,.d (slD QAu.enc a0.Slots),dI a0.Live,dI a0.Last,dI a0.Job.Kind,dI a0.Job.Step,dI a0.Job.Edition,dI a0.Job.Ticks,.d (slD encSb a0.Job.Lines)]),(9001,.arr 93 4 a0.Box.Cands.length (rows QAr.enc a0.Box.Cands))],[⟨[(0,.ref 9000 0 0)],[]⟩]⟩) (fun s3=>x2=.inl s3) ?_ ?_
  ·refine QkH tOk 20000 (fn:=f123) (c:=JW f123) rfl rfl (by kernel_rfl) rfl (Qc tOk ?_);obtain⟨x8,a4,G⟩:=Qb G;refine QF tOk a4 (fun s5=>⟨20000,34,[(0,.ref 9000 0 0),(1,.d (.str U)),(11,dI ((a0.Box.Cands.length:Nat):Int)),(12,dI s5)],[],[(6001,.arr 9 1 Y.1.length (rows encSb Y.1)),(9000,.box 34 [dB a0.Up,dI a0.Box.Edition,.d (slD encSb a0.Box.Lines),dI a0.Box.Trial,.d (slD encSb a0.Box.Back),.osl 9001 0 a0.Box.Cands.length,.d (slD QAu.enc a0.Slots),dI a0.Live,dI a0.Last,dI a0.Job.Kind,dI a0.Job.Step,dI a0.Job.Edition,dI a0.Job.Ticks,.d (slD encSb a0.Job.Lines)]),(9001,.arr 93 4 a0.Box.Cands.length (rows QAr.enc a0.Box.Cands))],[⟨[(0,.ref 9000 0 0),(1,.d (.str U)),(4,dI 0),(5,.osl 6001 0 Y.1.length),(6,dB Y.2),(7,.tup [.osl 6001 0 Y.1.length,dB Y.2]),(8,.ref 9000 0 0),(9,.ref 9000 0 0),(10,.ref 9000 0 1),(11,.ref 9000 0 2),(12,.d (slD encSb a0.Box.Lines)),(13,.d (.str U)),(14,.tup [.osl 6001 0 Y.1.length,dB Y.2]),(15,.osl 6001 0 Y.1.length),(16,dB Y.2),(17,dB Y.2),(18,dB (!Y.2)),(19,.ref 9000 0 0),(20,.d (.str U))],[]⟩,⟨[(0,.ref 9000 0 0)],[]⟩]⟩) ?_ ?_
   ·exact leX []
   ·clear a4;intro s5 y6 g7 a7;refine Qc tOk ?_;apply Qo g7<;>intro _ g7
    ·refine Qc tOk (gdI g7 fun g7=>?_);apply Qo g7<;>intro _ g7
     ·refine gdI g7 fun g7=>?_;cases g7;cases a7 _ rfl;apply Qo G<;>intro _ G
      ·cases G
       cases h
       exact lfE [.s [(5001,9001),(9001,5001)]]
      ·exact eX G []
     ·exact eX g7 []
    ·cases g7
     cases a7 _ rfl
     apply Qo G<;>intro _ G
     ·cases G
      cases h
      exact lfE [.s [(5001,9001),(9001,5001)]]
     ·exact eX G []
  ·intro d4 a3;subst a3;refine bE h [(9000,9000),(9001,9001)] 1000 (fun _=>QbV) fun O h=>?_;obtain⟨I,a6,h⟩:=Qb h;obtain⟨J,a2,h⟩:=Qb h;obtain⟨a8,h⟩:=Qf h;refine Qas tOk [.e 17 [] (.d (slD encSb I)) [] [],.e 23 [] (.d (slD encSb J)) [] [],.a 26 [(6001,.arr 93 4 O.Box.Cands.length (rows QAr.enc O.Box.Cands))] (.osl 61 0 ((O.Box.Cands++([(⟨U,a0.Box.Edition,I,J⟩:QAr)]:List QAr)).length)) [(61,.arr 93 4 ((O.Box.Cands++([(⟨U,a0.Box.Edition,I,J⟩:QAr)]:List QAr)).length) (rows QAr.enc (O.Box.Cands++([(⟨U,a0.Box.Edition,I,J⟩:QAr)]:List QAr))))]] 30 [] [0,0,2,6,14,30,0,0,128,384,896,1920,0,4096,12288,28672,61440,126976,0,262144,786432,1835008,3932160,8384512,16777152,33554368,67108862,134217727,268435455,536870911] [1073741823] [6001] (aI (eD [] 0 (JA a6)) (aI (eD [] 0 (JA a2)) (QbB (enc:=QAr.enc) ([(⟨U,a0.Box.Edition,I,J⟩:QAr)]:List QAr) (aI (by(conv=>whnf);exact⟨a8,Qf7 (enc:=QAr.enc) (xs:=O.Box.Cands) (ys:=([(⟨U,a0.Box.Edition,I,J⟩:QAr)]:List QAr)) ⟨rfl,rfl⟩⟩) (aK ?_)))));obtain⟨x17,a5,h⟩:=Qb h;obtain⟨g18,h⟩:=Qf h;refine cE [(9000,61)] 0 (Jo a5) ?_;cases h;exact lfE [.s [(61,5001),(5001,61)]]
def Z6 (a0:(List Bt)):Option ((List Bt)):=
 gd (a0.length<4611686018427387904)<|
 some (srtB a0)
theorem Qei {a0:(List Bt)} {r:(List Bt)} (h:Z6 a0=some r):EffC prog 132 [.osl 9000 0 a0.length] [(9000,.arr 9 1 a0.length (rows encSb a0))] (.tup []) [(9000,.arr 9 1 a0.length (rows encSb r))]:=by
 unfold Z6 at h;obtain⟨g,h⟩:=Qf h;obtain rfl:=sj_ h;exact QpH g (QpI (fn:=f132) (c:=JW f132) rfl rfl (by kernel_rfl)) (fun blk off cap G w I hb g=>AnyM.slices_Sort_string Lay.srts blk off cap G w I hb g) (fun p cap w=>AnyM.slices_Sort_string_none Lay.srts p cap w)
def Qbr (a0:QAv) (a1:QAw):Option (Int×QAv):=
 none
theorem Qgi {a0:QAv} {G:QAw} {r:Int×QAv} (h:Qbr a0 G=some r):EffC prog 60 [.ref 9000 0 0,.agg [dI G.Kind,.d (.str G.User),.d (.str G.Line),dI G.N]] [(9000,.box 34 [dB a0.Up,dI a0.Box.Edition,.d (slD encSb a0.Box.Lines),dI a0.Box.Trial,.d (slD encSb a0.Box.Back),.osl 9001 0 a0.Box.Cands.length,.d (slD QAu.enc a0.Slots),dI a0.Live,dI a0.Last,dI a0.Job.Kind,dI a0.Job.Step,dI a0.Job.Edition,dI a0.Job.Ticks,.d (slD encSb a0.Job.Lines)]),(9001,.arr 93 4 a0.Box.Cands.length (rows QAr.enc a0.Box.Cands))] (dI r.1) [(9000,.box 34 [dB a0.Up,dI a0.Box.Edition,.d (slD encSb a0.Box.Lines),dI a0.Box.Trial,.d (slD encSb a0.Box.Back),.d (slD QAr.enc r.2.Box.Cands),.d (slD QAu.enc a0.Slots),dI a0.Live,dI a0.Last,dI a0.Job.Kind,dI a0.Job.Step,dI a0.Job.Edition,dI a0.Job.Ticks,.d (slD encSb a0.Job.Lines)])]:=by
 unfold Qbr at h;cases h
def QaO (a0:QAv) (a1:Bt):Option (Int×QAv):=
 none
theorem Qfl {a0:QAv} {G:Bt} {r:Int×QAv} (h:QaO a0 G=some r):EffC prog 61 [.ref 9000 0 0,.d (.str G)] [(9000,.box 34 [dB a0.Up,dI a0.Box.Edition,.d (slD encSb a0.Box.Lines),dI a0.Box.Trial,.d (slD encSb a0.Box.Back),.osl 9001 0 a0.Box.Cands.length,.d (slD QAu.enc a0.Slots),dI a0.Live,dI a0.Last,dI a0.Job.Kind,dI a0.Job.Step,dI a0.Job.Edition,dI a0.Job.Ticks,.d (slD encSb a0.Job.Lines)]),(9001,.arr 93 4 a0.Box.Cands.length (rows QAr.enc a0.Box.Cands))] (dI r.1) [(9000,.box 34 [dB a0.Up,dI a0.Box.Edition,.d (slD encSb a0.Box.Lines),dI a0.Box.Trial,.d (slD encSb a0.Box.Back),.osl 5001 0 r.2.Box.Cands.length,.d (slD QAu.enc a0.Slots),dI a0.Live,dI a0.Last,dI a0.Job.Kind,dI a0.Job.Step,dI a0.Job.Edition,dI a0.Job.Ticks,.d (slD encSb a0.Job.Lines)]),(5001,.arr 93 4 r.2.Box.Cands.length (rows QAr.enc r.2.Box.Cands))]:=by
 unfold QaO at h;cases h
def Qdp (a0:(List Bt)) (I:(List Bt)):Option ((List Bt)):=
 bd (QD a0) fun J=>
 gd (((J.length)+(I.length))*(16+1)<=70368744177664)<|
 bd (lp (σ:=List Bt×Int) (β:=(Nat×(List Bt))) (fun G=>
(if(decide (G.2<(((J++I).length:Nat):Int)))=true then
 gd ((0:Int)<=G.2∧G.2<(((J++I).length:Nat):Int))<|
 bd (Qv a0 ((J++I).getD G.2.toNat default)) fun Y=>
 bd (Qv I ((J++I).getD G.2.toNat default)) fun x8=>
(if(!(Y==x8))=true then
 gd (((G.1.length)+(([((J++I).getD G.2.toNat default)]:List Bt).length))*(16+1)<=70368744177664)<|
 some (.inl ((G.1++([((J++I).getD G.2.toNat default)]:List Bt)),IntKind.i64.wrap (G.2+1)))
else
 some (.inl (G.1,IntKind.i64.wrap (G.2+1))))
else
 some (.inr (G.1.length,G.1)))) (([]:List Bt),0)) fun U=>
 bd (Z6 U.2) fun O=>
 gd (O.length=U.1)<|
 some O
theorem Ql7 {a0:(List Bt)} {I:(List Bt)} {r:(List Bt)} (h:Qdp a0 I=some r):PureC prog 171 [.d (slD encSb a0),.d (slD encSb I)] (.osl 5001 0 r.length) [⟨5001,9,1,r.length,rows encSb r⟩]:=by
 refine pY tOk f171 rfl (Qc tOk (bC h 1000 (fun _=>Q2) fun O h=>gdI h fun h=>Qf7 (enc:=encSb) (xs:=O) (ys:=I) ?_));obtain⟨x5,Y,h⟩:=Qb h;refine QF tOk Y (fun J=>⟨0,33,[(0,.d (slD encSb a0)),(1,.d (slD encSb I)),(5,.osl 7001 0 J.1.length),(12,.osl 6001 0 ((O++I).length)),(13,dI (((O++I).length:Nat):Int)),(14,dI J.2)],[],[(7001,.arr 9 1 J.1.length (rows encSb J.1)),(6001,.arr 9 1 ((O++I).length) (rows encSb (O++I)))],[]⟩) ?_ ?_
 ·exact leX [.k [7001],.p 7001 9 1 (rows encSb ([]:List Bt))]
 ·clear Y;intro J y3 G a2;refine Qc tOk ?_;apply Qo G<;>intro _ G
  ·refine Qc tOk (gdI G fun G=>bC G 0 (fun _=>Q1) fun x7 G=>bC G 0 (fun _=>Q1) fun x8 G=>?_);apply Qo G<;>intro _ G
   ·refine QbB (enc:=encSb) ([((O++I).getD J.2.toNat default)]:List Bt) (gdI G fun G=>Qf7 (enc:=encSb) (xs:=J.1) (ys:=([((O++I).getD J.2.toNat default)]:List Bt)) ?_);exact eX G []
   ·exact eX G []
  ·cases G
   cases a2 _ rfl
   obtain⟨x11,U,h⟩:=Qb h;obtain⟨g12,h⟩:=Qf h;refine cE [(9000,7001)] 0 (Qei U) ?_;cases h;exact lfP [.s [(5001,7001),(7001,5001)]]
def Qdq (a0:(List Bt)) (a1:(List Bt)) (a2:Bt):Option (Bool):=
 bd (Qbn a0) fun x1=>
 bd (gcall ((!x1)=false) (Qbn a1)) fun x2=>
(if((!x1)||(!x2))=true then
 some false
else
 bd (J1 a0 a2) fun J=>
(if(!J.2)=true then
 some false
else
 bd (Qdp a0 a1) fun Y=>
 bd (lp (σ:=Int) (β:=(Unit⊕Unit)) (fun G=>
(if(decide (G<((Y.length:Nat):Int)))=true then
 gd ((0:Int)<=G∧G<((Y.length:Nat):Int))<|
 bd (Jm (Y.getD G.toNat default) (⟨#[32]⟩:Bt)) fun U=>
 bd (Qv J.1 (⟨#[97,108,108]⟩:Bt)) fun I=>
 bd (gcall ((!I)=true) (Qv J.1 U.1)) fun O=>
(if((!I)&&(!O))=true then
 some (.inr (.inl ()))
else
 some (.inl (IntKind.i64.wrap (G+1))))
else
 some (.inr (.inr ())))) 0) fun x8=>
(match x8 with
| .inl d13=>
 some false
| .inr d14=>
 some true)))
theorem Ql8 {a0:(List Bt)} {a1:(List Bt)} {a2:Bt} {r:Bool} (h:Qdq a0 a1 a2=some r):PureC prog 134 [.d (slD encSb a0),.d (slD encSb a1),.d (.str a2)] (dB r) []:=by
 refine pY tOk f134 rfl (Qc tOk (bC h 0 (fun _=>Qeg) fun x1 h=>bG h (fun _=>Qeg) fun x2 h=>?_));apply Qo h<;>intro _ h
 ·cases h
  exact lfP []
 ·refine bC h 1000 (fun _=>Qeh) fun U h=>Qc tOk ?_;apply Qo h<;>intro _ h
  ·cases h
   exact lfP []
  ·refine Qc tOk (bC h 2000 (fun _=>Ql7) fun O h=>?_);obtain⟨x8,J,h⟩:=Qb h;refine QF tOk J (fun Y=>⟨0,54,[(7,.osl 6001 0 U.1.length),(32,.osl 7001 0 O.length),(33,dI ((O.length:Nat):Int)),(34,dI Y)],[],[(7001,.arr 9 1 O.length (rows encSb O)),(6001,.arr 9 1 U.1.length (rows encSb U.1))],[]⟩) ?_ ?_
   ·exact leX []
   ·clear J;intro Y y6 G I;refine Qc tOk ?_;apply Qo G<;>intro _ G
    ·refine Qc tOk (gdI G fun G=>bC G 0 (fun _=>QdY) fun x10 G=>bC G 0 (fun _=>Q1) fun x11 G=>bG G (fun _=>Q1) fun x12 G=>?_);apply Qo G<;>intro _ G
     ·cases G
      cases I _ rfl
      cases h
      exact lfP []
     ·exact eX G []
    ·cases G
     cases I _ rfl
     cases h
     exact lfP []
def QaP (a0:QAv) (Y:Bt) (J:Int):Option (Int×QAv):=
 bd (lp (σ:=Int) (β:=(Nat⊕Unit)) (fun s1=>
(if(decide (s1<((a0.Box.Cands.length:Nat):Int)))=true then
 gd ((0:Int)<=s1∧s1<((a0.Box.Cands.length:Nat):Int))<|
(if(((a0.Box.Cands.getD s1.toNat default).User)==Y)=true then
 gd ((0:Int)<=s1∧s1<((a0.Box.Cands.length:Nat):Int))<|
 some (.inr (.inl s1.toNat))
else
 some (.inl (IntKind.i64.wrap (s1+1))))
else
 some (.inr (.inr ())))) 0) fun x4=>
(match x4 with
| .inl I=>
 bd (Qs J 0 9) fun x8=>
(if(!x8)=true then
 some (2,a0)
else
(if(a0.Job.Kind !=0)=true then
 some (10,a0)
else
(if(decide (a0.Box.Trial>0))=true then
 some (8,a0)
else
(if(((a0.Box.Cands.getD I default).Base) !=a0.Box.Edition)=true then
 some (5,a0)
else
 bd (Jd ((a0.Box.Cands.getD I default).Lines)) fun x9=>
(if(x9 !=0)=true then
 some (6,a0)
else
 bd (Qdq a0.Box.Lines ((a0.Box.Cands.getD I default).Lines) Y) fun U=>
(if(!U)=true then
 some (7,a0)
else
(if(decide (a0.Box.Edition>=1000000))=true then
 some (9,a0)
else
 bd (QD ((a0.Box.Cands.getD I default).Lines)) fun G=>
 bd (Q8 ({a0 with Job:=(⟨1,0,IntKind.i64.wrap (a0.Box.Edition+1),J,G⟩:QAt)}) Y) fun O=>
 some (0,{a0 with Box:={a0.Box with Cands:=O.Box.Cands},Job:=(⟨1,0,IntKind.i64.wrap (a0.Box.Edition+1),J,G⟩:QAt)}))))))))
| .inr d13=>
 some (3,a0))
theorem Qfm {a0:QAv} {a1:Bt} {a2:Int} {r:Int×QAv} (h:QaP a0 a1 a2=some r):EffC prog 62 [.ref 9000 0 0,.d (.str a1),dI a2] [(9000,.box 34 [dB a0.Up,dI a0.Box.Edition,.d (slD encSb a0.Box.Lines),dI a0.Box.Trial,.d (slD encSb a0.Box.Back),.osl 9001 0 a0.Box.Cands.length,.d (slD QAu.enc a0.Slots),dI a0.Live,dI a0.Last,dI a0.Job.Kind,dI a0.Job.Step,dI a0.Job.Edition,dI a0.Job.Ticks,.d (slD encSb a0.Job.Lines)]),(9001,.arr 93 4 a0.Box.Cands.length (rows QAr.enc a0.Box.Cands))] (dI r.1) [(9000,.box 34 [dB a0.Up,dI a0.Box.Edition,.d (slD encSb a0.Box.Lines),dI a0.Box.Trial,.d (slD encSb a0.Box.Back),.osl 5001 0 r.2.Box.Cands.length,.d (slD QAu.enc a0.Slots),dI a0.Live,dI a0.Last,dI r.2.Job.Kind,dI r.2.Job.Step,dI r.2.Job.Edition,dI r.2.Job.Ticks,.d (slD encSb r.2.Job.Lines)]),(5001,.arr 93 4 r.2.Box.Cands.length (rows QAr.enc r.2.Box.Cands))]:=by
 refine eY tOk f62 rfl (QkH tOk 20000 (fn:=f123) (c:=JW f123) rfl rfl (by kernel_rfl) rfl (Qc tOk ?_));obtain⟨x4,O,h⟩:=Qb h;refine QF tOk O (fun s1=>⟨20000,34,[(0,.ref 9000 0 0),(1,.d (.str a1)),(11,dI ((a0.Box.Cands.length:Nat):Int)),(12,dI s1)],[],[(9000,.box 34 [dB a0.Up,dI a0.Box.Edition,.d (slD encSb a0.Box.Lines),dI a0.Box.Trial,.d (slD encSb a0.Box.Back),.osl 9001 0 a0.Box.Cands.length,.d (slD QAu.enc a0.Slots),dI a0.Live,dI a0.Last,dI a0.Job.Kind,dI a0.Job.Step,dI a0.Job.Edition,dI a0.Job.Ticks,.d (slD encSb a0.Job.Lines)]),(9001,.arr 93 4 a0.Box.Cands.length (rows QAr.enc a0.Box.Cands))],[⟨[(0,.ref 9000 0 0),(1,.d (.str a1)),(2,dI a2),(6,dI 0),(8,.ref 9000 0 0),(9,.d (.str a1))],[]⟩,⟨[(0,.ref 9000 0 0)],[]⟩]⟩) ?_ ?_
 ·exact leX []
 ·clear O;intro s1 y2 G U;refine Qc tOk ?_;apply Qo G<;>intro _ G
  ·refine Qc tOk (gdI G fun G=>?_);apply Qo G<;>intro _ G
   ·refine gdI G fun G=>?_;cases G;cases U _ rfl;refine Qc tOk (aI (fun e=>Bool.noConfusion e) (fun _=>bC h 0 (fun _=>QX) fun x8 h=>?_));apply Qo h<;>intro _ h
    ·cases h
     exact lfE [.s [(5001,9001),(9001,5001)]]
    ·apply Qo h<;>intro _ h
     ·cases h
      exact lfE [.s [(5001,9001),(9001,5001)]]
     ·apply Qo h<;>intro _ h
      ·cases h
       exact lfE [.s [(5001,9001),(9001,5001)]]
      ·refine QW tOk [] 11 [] [0,1,3,7,0,16,48,112,240,511,1023] [] (aK ?_);apply Qo h<;>intro _ h
       ·cases h
        exact lfE [.s [(5001,9001),(9001,5001)]]
       ·refine bC h 0 (fun _=>QdJ) fun x9 h=>?_;apply Qo h<;>intro _ h
        ·cases h
         exact lfE [.s [(5001,9001),(9001,5001)]]
        ·obtain⟨a4,Y,h⟩:=Qb h;refine QW tOk [.u 10 0 (dB a4) []] 13 [] [0,1,3,7,15,0,32,96,224,0,1023,2047,4095] [] (aI (QN (Ql8 Y) (by kernel_rfl)) (aK ?_));apply Qo h<;>intro _ h
         ·cases h
          exact lfE [.s [(5001,9001),(9001,5001)]]
         ·apply Qo h<;>intro _ h
          ·cases h
           exact lfE [.s [(5001,9001),(9001,5001)]]
          ·obtain⟨I,J,h⟩:=Qb h;refine QW tOk [.u 12 1000 (.osl 5001 0 I.length) [⟨5001,9,1,I.length,rows encSb I⟩]] 16 [] [0,0,2,6,14,30,62,0,0,256,768,1792,3840,8190,16383,32767] [65535] (aI (QN (Q2 J) (by kernel_rfl)) (aK ?_));obtain⟨x12,a3,h⟩:=Qb h;refine Zp [6001] (cE [(9000,9000),(9001,9001)] 1000 (QbV a3) ?_);cases h;exact lfE [.s [(5001,6001),(6001,5001)]]
   ·exact eX G []
  ·cases G
   cases U _ rfl
   refine Qc tOk (aI (fun _=>?_) (fun e=>Bool.noConfusion e));cases h;exact lfE [.s [(5001,9001),(9001,5001)]]
def Qaw (a0:QAv) (I:Bt) (J:Int):Option (Int×QAv):=
 bd (J1 a0.Box.Lines I) fun G=>
(if(a0.Box.Trial==0)=true then
 some (8,a0)
else
(if(J !=a0.Box.Edition)=true then
 some (5,a0)
else
(if(!G.2)=true then
 some (3,a0)
else
(if(a0.Job.Kind !=0)=true then
 some (10,a0)
else
 some (0,{a0 with Job:=(⟨2,0,0,0,[]⟩:QAt)})))))
theorem QeV {a0:QAv} {G:Bt} {I:Int} {r:Int×QAv} (h:Qaw a0 G I=some r):EffC prog 63 [.ref 9000 0 0,.d (.str G),dI I] [(9000,.box 34 [dB a0.Up,dI a0.Box.Edition,.d (slD encSb a0.Box.Lines),dI a0.Box.Trial,.d (slD encSb a0.Box.Back),.d (slD QAr.enc a0.Box.Cands),.d (slD QAu.enc a0.Slots),dI a0.Live,dI a0.Last,dI a0.Job.Kind,dI a0.Job.Step,dI a0.Job.Edition,dI a0.Job.Ticks,.d (slD encSb a0.Job.Lines)])] (dI r.1) [(9000,.box 34 [dB a0.Up,dI a0.Box.Edition,.d (slD encSb a0.Box.Lines),dI a0.Box.Trial,.d (slD encSb a0.Box.Back),.d (slD QAr.enc a0.Box.Cands),.d (slD QAu.enc a0.Slots),dI a0.Live,dI a0.Last,dI r.2.Job.Kind,dI r.2.Job.Step,dI r.2.Job.Edition,dI r.2.Job.Ticks,.d (slD encSb r.2.Job.Lines)])]:=by
 refine eY tOk f63 rfl (bC h 1000 (fun _=>Qeh) fun x1 h=>Qc tOk ?_);apply Qo h<;>intro _ h
 ·cases h
  exact lfE []
 ·apply Qo h<;>intro _ h
  ·cases h
   exact lfE []
  ·apply Qo h<;>intro _ h
   ·cases h
    exact lfE []
   ·apply Qo h<;>intro _ h
    ·cases h
     exact lfE []
    ·cases h
     exact lfE []
def Qbs (a0:QAv):Option (Int×QAv):=
(if(a0.Box.Trial==0)=true then
 some (0,a0)
else
(if((IntKind.i64.wrap (a0.Box.Trial-1))==0)=true then
 some (0,{a0 with Box:=(⟨IntKind.i64.wrap (a0.Box.Edition+1),a0.Box.Back,IntKind.i64.wrap (a0.Box.Trial-1),[],a0.Box.Cands⟩:QAs),Job:=(⟨3,0,0,0,[]⟩:QAt)})
else
 some (0,{a0 with Box:={a0.Box with Trial:=IntKind.i64.wrap (a0.Box.Trial-1)}})))
theorem Qgj {a0:QAv} {r:Int×QAv} (h:Qbs a0=some r):EffC prog 64 [.ref 9000 0 0] [(9000,.box 34 [dB a0.Up,dI a0.Box.Edition,.d (slD encSb a0.Box.Lines),dI a0.Box.Trial,.d (slD encSb a0.Box.Back),.d (slD QAr.enc a0.Box.Cands),.d (slD QAu.enc a0.Slots),dI a0.Live,dI a0.Last,dI a0.Job.Kind,dI a0.Job.Step,dI a0.Job.Edition,dI a0.Job.Ticks,.d (slD encSb a0.Job.Lines)])] (dI r.1) [(9000,.box 34 [dB a0.Up,dI r.2.Box.Edition,.d (slD encSb r.2.Box.Lines),dI r.2.Box.Trial,.d (slD encSb r.2.Box.Back),.d (slD QAr.enc a0.Box.Cands),.d (slD QAu.enc a0.Slots),dI a0.Live,dI a0.Last,dI r.2.Job.Kind,dI r.2.Job.Step,dI r.2.Job.Edition,dI r.2.Job.Ticks,.d (slD encSb r.2.Job.Lines)])]:=by
 refine eY tOk f64 rfl (Qc tOk ?_);apply Qo h<;>intro _ h
 ·cases h
  exact lfE []
 ·refine Qc tOk ?_;apply Qo h<;>intro _ h
  ·cases h
   exact lfE []
  ·cases h
   exact lfE []
def Zo (a0:QAv):Option (QAv):=
 gd ((0:Int)<=IntKind.i64.wrap (1-a0.Live)∧IntKind.i64.wrap (1-a0.Live)<((a0.Slots.length:Nat):Int))<|
(if(a0.Job.Step==0)=true then
 some ({a0 with Slots:=a0.Slots.set ((IntKind.i64.wrap (1-a0.Live)).toNat) (⟨false,0,false,[]⟩:QAu),Last:=a0.Job.Edition,Job:={a0.Job with Step:=IntKind.i64.wrap (a0.Job.Step+1)}})
else
(if(decide (a0.Job.Step<=((a0.Job.Lines.length:Nat):Int)))=true then
 none
else
(if(a0.Job.Step==(IntKind.i64.wrap (((a0.Job.Lines.length:Nat):Int)+1)))=true then
 bd (some (a0.Slots.set ((IntKind.i64.wrap (1-a0.Live)).toNat) ({(a0.Slots.getD ((IntKind.i64.wrap (1-a0.Live)).toNat) default) with Whole:=true}))) fun G=>
 bd (some (G.set ((IntKind.i64.wrap (1-a0.Live)).toNat) ({(G.getD ((IntKind.i64.wrap (1-a0.Live)).toNat) default) with Edition:=a0.Job.Edition}))) fun I=>
 bd (some (I.set ((IntKind.i64.wrap (1-a0.Live)).toNat) ({(I.getD ((IntKind.i64.wrap (1-a0.Live)).toNat) default) with Trial:=(decide (a0.Job.Ticks>0))}))) fun O=>
 some ({a0 with Slots:=O,Job:={a0.Job with Step:=IntKind.i64.wrap (a0.Job.Step+1)}})
else
 bd (α:=Int×List Bt) ((if(decide (a0.Job.Ticks>0))=true then
 some (a0.Job.Ticks,a0.Box.Lines)
else
 some (a0.Box.Trial,a0.Box.Back))) fun J=>
 some ({a0 with Box:=(⟨a0.Job.Edition,a0.Job.Lines,J.1,J.2,a0.Box.Cands⟩:QAs),Live:=IntKind.i64.wrap (1-a0.Live),Job:=(⟨0,0,0,0,[]⟩:QAt)}))))
theorem Qd2 {a0:QAv} {r:QAv} (h:Zo a0=some r):EffC prog 135 [.ref 9000 0 0] [(9000,.box 34 [dB a0.Up,dI a0.Box.Edition,.d (slD encSb a0.Box.Lines),dI a0.Box.Trial,.d (slD encSb a0.Box.Back),.d (slD QAr.enc a0.Box.Cands),.osl 9001 0 a0.Slots.length,dI a0.Live,dI a0.Last,dI a0.Job.Kind,dI a0.Job.Step,dI a0.Job.Edition,dI a0.Job.Ticks,.d (slD encSb a0.Job.Lines)]),(9001,.arr 61 4 a0.Slots.length (rows QAu.enc a0.Slots))] (.tup []) [(9000,.box 34 [dB a0.Up,dI r.Box.Edition,.d (slD encSb r.Box.Lines),dI r.Box.Trial,.d (slD encSb r.Box.Back),.d (slD QAr.enc a0.Box.Cands),.osl 5001 0 r.Slots.length,dI r.Live,dI r.Last,dI r.Job.Kind,dI r.Job.Step,dI r.Job.Edition,dI r.Job.Ticks,.d (slD encSb r.Job.Lines)]),(5001,.arr 61 4 r.Slots.length (rows QAu.enc r.Slots))]:=by
 refine eY tOk f135 rfl ?_;obtain⟨g1,h⟩:=Qf h;refine Qas tOk [.r 1 [(9000,.box 34 [dB a0.Up,dI a0.Box.Edition,.d (slD encSb a0.Box.Lines),dI a0.Box.Trial,.d (slD encSb a0.Box.Back),.d (slD QAr.enc a0.Box.Cands),.osl 9001 0 a0.Slots.length,dI a0.Live,dI a0.Last,dI a0.Job.Kind,dI a0.Job.Step,dI a0.Job.Edition,dI a0.Job.Ticks,.d (slD encSb a0.Job.Lines)]),(9001,.arr 61 4 a0.Slots.length (rows QAu.enc a0.Slots))] (.ref 9001 ((IntKind.i64.wrap (1-a0.Live)).toNat) 0) [],.l 6 [(9000,.box 34 [dB a0.Up,dI a0.Box.Edition,.d (slD encSb a0.Box.Lines),dI a0.Box.Trial,.d (slD encSb a0.Box.Back),.d (slD QAr.enc a0.Box.Cands),.osl 9001 0 a0.Slots.length,dI a0.Live,dI a0.Last,dI a0.Job.Kind,dI a0.Job.Step,dI a0.Job.Edition,dI a0.Job.Ticks,.d (slD encSb a0.Job.Lines)])] (.d (slD encSb a0.Job.Lines))] 10 [] [0,1,0,4,12,28,60,124,3,511] [] [9000,9001] (aI (eD [(9000,9000),(9001,9001)] 0 (QdM tOk (fn:=f81) (c:=JW f81) (args:=[.ref 9000 0 0]) (bs:=[(9000,.box 34 [dB a0.Up,dI a0.Box.Edition,.d (slD encSb a0.Box.Lines),dI a0.Box.Trial,.d (slD encSb a0.Box.Back),.d (slD QAr.enc a0.Box.Cands),.osl 9001 0 a0.Slots.length,dI a0.Live,dI a0.Last,dI a0.Job.Kind,dI a0.Job.Step,dI a0.Job.Edition,dI a0.Job.Ticks,.d (slD encSb a0.Job.Lines)]),(9001,.arr 61 4 a0.Slots.length (rows QAu.enc a0.Slots))]) (res:=.ref 9001 ((IntKind.i64.wrap (1-a0.Live)).toNat) 0) (M:=[(9000,.box 34 [dB a0.Up,dI a0.Box.Edition,.d (slD encSb a0.Box.Lines),dI a0.Box.Trial,.d (slD encSb a0.Box.Back),.d (slD QAr.enc a0.Box.Cands),.osl 9001 0 a0.Slots.length,dI a0.Live,dI a0.Last,dI a0.Job.Kind,dI a0.Job.Step,dI a0.Job.Edition,dI a0.Job.Ticks,.d (slD encSb a0.Job.Lines)]),(9001,.arr 61 4 a0.Slots.length (rows QAu.enc a0.Slots))]) rfl rfl (by((conv=>whnf);(refine QW tOk [] 11 [] [0,1,3,7,0,16,48,112,240,511,1023] [] ?_);(conv=>whnf);(refine aI g1 ?_);(clear g1);(conv=>whnf);(refine aI (by kernel_rfl) ?_);(conv=>whnf);(exact lfE []))))) ?_);refine aI (by(conv=>whnf);exact⟨rfl,rfl⟩) (aK ?_);apply Qo h<;>intro _ h
 ·refine⟨(fun i=>if i=((IntKind.i64.wrap (1-a0.Live)).toNat) then [(.bool false:D),(.int .i64 0:D),(.bool false:D),(.nil:D)] else rows QAu.enc a0.Slots i),fun _ _=>rfl,?_⟩;cases h;exact lfE [.w 9001 a0.Slots.length (fun i=>if i=((IntKind.i64.wrap (1-a0.Live)).toNat) then [(.bool false:D),(.int .i64 0:D),(.bool false:D),(.nil:D)] else rows QAu.enc a0.Slots i) (rows QAu.enc (a0.Slots.set ((IntKind.i64.wrap (1-a0.Live)).toNat) (⟨false,0,false,[]⟩:QAu))) (rowsW (.same (.same (.same (.zero rfl .nilL))))),.s [(5001,9001),(9001,5001)]]
 ·apply Qo h<;>intro _ h
  ·cases h
  ·apply Qo h<;>intro _ h
   ·obtain⟨x2,Y,hlx2,h⟩:=QfO h;obtain⟨x3,O,hlx3,h⟩:=QfO h;obtain⟨x4,U,hlx4,h⟩:=QfO h;refine Qas tOk [.a 16 [(9001,.arr 61 4 a0.Slots.length (rows QAu.enc a0.Slots))] (.any) [(9001,.arr 61 4 a0.Slots.length (rows QAu.enc x2))],.a 19 [(9001,.arr 61 4 a0.Slots.length (rows QAu.enc x2))] (.any) [(9001,.arr 61 4 a0.Slots.length (rows QAu.enc x3))],.a 22 [(9001,.arr 61 4 a0.Slots.length (rows QAu.enc x3))] (.any) [(9001,.arr 61 4 a0.Slots.length (rows QAu.enc x4))]] 23 [] [0,0,0,0,8,24,56,120,0,256,768,1792,3840,7936,8185,24569,57337,122875,253947,516091,1048575,2097151,4194303] [] [9001] (aI (by(conv=>whnf);exact QsH (enc:=QAu.enc) Y ⟨rfl,rfl⟩) (aI (by(conv=>whnf);exact QsH (enc:=QAu.enc) O ⟨rfl,rfl⟩) (aI (by(conv=>whnf);exact QsH (enc:=QAu.enc) U ⟨rfl,rfl⟩) (aK ?_))));cases h;exact lfE [.s [(5001,9001),(9001,5001)]]
   ·obtain⟨G,I,h⟩:=Qb h;refine Zm tOk (fun J=>⟨0,142,[(0,.ref 9000 0 0)],[],[(9000,.box 34 [dB a0.Up,dI a0.Box.Edition,.d (slD encSb a0.Box.Lines),dI J.1,.d (slD encSb J.2),.d (slD QAr.enc a0.Box.Cands),.osl 9001 0 a0.Slots.length,dI (IntKind.i64.wrap (1-a0.Live)),dI a0.Last,dI a0.Job.Kind,dI (IntKind.i64.wrap (a0.Job.Step+1)),dI a0.Job.Edition,dI a0.Job.Ticks,.d (slD encSb a0.Job.Lines)]),(9001,.arr 61 4 a0.Slots.length (rows QAu.enc a0.Slots))],[⟨[(0,.ref 9000 0 0)],[]⟩]⟩) (fun J=>G=J) ?_ ?_
    ·apply Qo I<;>intro _ I
     ·refine Qas tOk [.l 6 [(9000,.box 34 [dB a0.Up,dI a0.Box.Edition,.d (slD encSb a0.Box.Lines),dI a0.Box.Trial,.d (slD encSb a0.Box.Back),.d (slD QAr.enc a0.Box.Cands),.osl 9001 0 a0.Slots.length,dI (IntKind.i64.wrap (1-a0.Live)),dI a0.Last,dI a0.Job.Kind,dI (IntKind.i64.wrap (a0.Job.Step+1)),dI a0.Job.Edition,dI a0.Job.Ticks,.d (slD encSb a0.Job.Lines)])] (dI a0.Job.Ticks),.l 11 [(9000,.box 34 [dB a0.Up,dI a0.Box.Edition,.d (slD encSb a0.Box.Lines),dI a0.Box.Trial,.d (slD encSb a0.Box.Back),.d (slD QAr.enc a0.Box.Cands),.osl 9001 0 a0.Slots.length,dI (IntKind.i64.wrap (1-a0.Live)),dI a0.Last,dI a0.Job.Kind,dI (IntKind.i64.wrap (a0.Job.Step+1)),dI a0.Job.Edition,dI a0.Job.Ticks,.d (slD encSb a0.Job.Lines)])] (.d (slD encSb a0.Box.Lines)),.a 15 [(9000,.box 34 [dB a0.Up,dI a0.Box.Edition,.d (slD encSb a0.Box.Lines),dI a0.Box.Trial,.d (slD encSb a0.Box.Back),.d (slD QAr.enc a0.Box.Cands),.osl 9001 0 a0.Slots.length,dI (IntKind.i64.wrap (1-a0.Live)),dI a0.Last,dI a0.Job.Kind,dI (IntKind.i64.wrap (a0.Job.Step+1)),dI a0.Job.Edition,dI a0.Job.Ticks,.d (slD encSb a0.Job.Lines)])] (.any) [(9000,.box 34 [dB a0.Up,dI a0.Box.Edition,.d (slD encSb a0.Box.Lines),dI a0.Job.Ticks,.d (slD encSb a0.Box.Back),.d (slD QAr.enc a0.Box.Cands),.osl 9001 0 a0.Slots.length,dI (IntKind.i64.wrap (1-a0.Live)),dI a0.Last,dI a0.Job.Kind,dI (IntKind.i64.wrap (a0.Job.Step+1)),dI a0.Job.Edition,dI a0.Job.Ticks,.d (slD encSb a0.Job.Lines)])],.a 19 [(9000,.box 34 [dB a0.Up,dI a0.Box.Edition,.d (slD encSb a0.Box.Lines),dI a0.Job.Ticks,.d (slD encSb a0.Box.Back),.d (slD QAr.enc a0.Box.Cands),.osl 9001 0 a0.Slots.length,dI (IntKind.i64.wrap (1-a0.Live)),dI a0.Last,dI a0.Job.Kind,dI (IntKind.i64.wrap (a0.Job.Step+1)),dI a0.Job.Edition,dI a0.Job.Ticks,.d (slD encSb a0.Job.Lines)])] (.any) [(9000,.box 34 [dB a0.Up,dI a0.Box.Edition,.d (slD encSb a0.Box.Lines),dI a0.Job.Ticks,.d (slD encSb a0.Box.Lines),.d (slD QAr.enc a0.Box.Cands),.osl 9001 0 a0.Slots.length,dI (IntKind.i64.wrap (1-a0.Live)),dI a0.Last,dI a0.Job.Kind,dI (IntKind.i64.wrap (a0.Job.Step+1)),dI a0.Job.Edition,dI a0.Job.Ticks,.d (slD encSb a0.Job.Lines)])]] 20 [] [0,0,0,4,12,28,60,0,128,384,896,1920,4093,8189,16381,32765,65535,131071,262143,524287] [] [9000] (aI (by(conv=>whnf);exact⟨rfl,rfl⟩) (aI (by(conv=>whnf);exact⟨rfl,rfl⟩) (aI (by(conv=>whnf);exact⟨rfl,rfl⟩) (aI (by(conv=>whnf);exact⟨rfl,rfl⟩) (aK ?_)))));exact eZ I []
     ·exact eZ I []
    ·rintro _ rfl;refine Qas tOk [.l 6 [(9000,.box 34 [dB a0.Up,dI a0.Box.Edition,.d (slD encSb a0.Box.Lines),dI G.1,.d (slD encSb G.2),.d (slD QAr.enc a0.Box.Cands),.osl 9001 0 a0.Slots.length,dI (IntKind.i64.wrap (1-a0.Live)),dI a0.Last,dI a0.Job.Kind,dI (IntKind.i64.wrap (a0.Job.Step+1)),dI a0.Job.Edition,dI a0.Job.Ticks,.d (slD encSb a0.Job.Lines)])] (.d (slD encSb a0.Job.Lines)),.l 11 [(9000,.box 34 [dB a0.Up,dI a0.Box.Edition,.d (slD encSb a0.Box.Lines),dI G.1,.d (slD encSb G.2),.d (slD QAr.enc a0.Box.Cands),.osl 9001 0 a0.Slots.length,dI (IntKind.i64.wrap (1-a0.Live)),dI a0.Last,dI a0.Job.Kind,dI (IntKind.i64.wrap (a0.Job.Step+1)),dI a0.Job.Edition,dI a0.Job.Ticks,.d (slD encSb a0.Job.Lines)])] (dI a0.Job.Edition),.a 15 [(9000,.box 34 [dB a0.Up,dI a0.Box.Edition,.d (slD encSb a0.Box.Lines),dI G.1,.d (slD encSb G.2),.d (slD QAr.enc a0.Box.Cands),.osl 9001 0 a0.Slots.length,dI (IntKind.i64.wrap (1-a0.Live)),dI a0.Last,dI a0.Job.Kind,dI (IntKind.i64.wrap (a0.Job.Step+1)),dI a0.Job.Edition,dI a0.Job.Ticks,.d (slD encSb a0.Job.Lines)])] (.any) [(9000,.box 34 [dB a0.Up,dI a0.Box.Edition,.d (slD encSb a0.Job.Lines),dI G.1,.d (slD encSb G.2),.d (slD QAr.enc a0.Box.Cands),.osl 9001 0 a0.Slots.length,dI (IntKind.i64.wrap (1-a0.Live)),dI a0.Last,dI a0.Job.Kind,dI (IntKind.i64.wrap (a0.Job.Step+1)),dI a0.Job.Edition,dI a0.Job.Ticks,.d (slD encSb a0.Job.Lines)])],.a 19 [(9000,.box 34 [dB a0.Up,dI a0.Box.Edition,.d (slD encSb a0.Job.Lines),dI G.1,.d (slD encSb G.2),.d (slD QAr.enc a0.Box.Cands),.osl 9001 0 a0.Slots.length,dI (IntKind.i64.wrap (1-a0.Live)),dI a0.Last,dI a0.Job.Kind,dI (IntKind.i64.wrap (a0.Job.Step+1)),dI a0.Job.Edition,dI a0.Job.Ticks,.d (slD encSb a0.Job.Lines)])] (.any) [(9000,.box 34 [dB a0.Up,dI a0.Job.Edition,.d (slD encSb a0.Job.Lines),dI G.1,.d (slD encSb G.2),.d (slD QAr.enc a0.Box.Cands),.osl 9001 0 a0.Slots.length,dI (IntKind.i64.wrap (1-a0.Live)),dI a0.Last,dI a0.Job.Kind,dI (IntKind.i64.wrap (a0.Job.Step+1)),dI a0.Job.Edition,dI a0.Job.Ticks,.d (slD encSb a0.Job.Lines)])]] 20 [] [0,0,0,4,12,28,60,0,128,384,896,1920,4093,8189,16381,32765,65535,131071,262143,524287] [] [9000] (aI (by(conv=>whnf);exact⟨rfl,rfl⟩) (aI (by(conv=>whnf);exact⟨rfl,rfl⟩) (aI (by(conv=>whnf);exact⟨rfl,rfl⟩) (aI (by(conv=>whnf);exact⟨rfl,rfl⟩) (aK ?_)))));cases h;exact lfE [.s [(5001,9001),(9001,5001)]]
def ZG (a0:QAv):Option (Int×QAv):=
(if(a0.Job.Kind==1)=true then
 bd (Zo a0) fun G=>
 some (0,{G with Up:=a0.Up,Box:={G.Box with Cands:=a0.Box.Cands}})
else
(if(a0.Job.Kind==2)=true then
 gd ((0:Int)<=a0.Live∧a0.Live<((a0.Slots.length:Nat):Int))<|
 some (0,{a0 with Box:={a0.Box with Trial:=0,Back:=[]},Slots:=a0.Slots.set a0.Live.toNat ({(a0.Slots.getD a0.Live.toNat default) with Trial:=false}),Job:=(⟨0,0,0,0,[]⟩:QAt)})
else
(if(a0.Job.Kind==3)=true then
 some (0,{a0 with Live:=IntKind.i64.wrap (1-a0.Live),Job:=(⟨0,0,0,0,[]⟩:QAt)})
else
 some (11,a0))))
theorem Qf1 {a0:QAv} {r:Int×QAv} (h:ZG a0=some r):EffC prog 65 [.ref 9000 0 0] [(9000,.box 34 [dB a0.Up,dI a0.Box.Edition,.d (slD encSb a0.Box.Lines),dI a0.Box.Trial,.d (slD encSb a0.Box.Back),.d (slD QAr.enc a0.Box.Cands),.osl 9001 0 a0.Slots.length,dI a0.Live,dI a0.Last,dI a0.Job.Kind,dI a0.Job.Step,dI a0.Job.Edition,dI a0.Job.Ticks,.d (slD encSb a0.Job.Lines)]),(9001,.arr 61 4 a0.Slots.length (rows QAu.enc a0.Slots))] (dI r.1) [(9000,.box 34 [dB a0.Up,dI r.2.Box.Edition,.d (slD encSb r.2.Box.Lines),dI r.2.Box.Trial,.d (slD encSb r.2.Box.Back),.d (slD QAr.enc a0.Box.Cands),.osl 5001 0 r.2.Slots.length,dI r.2.Live,dI r.2.Last,dI r.2.Job.Kind,dI r.2.Job.Step,dI r.2.Job.Edition,dI r.2.Job.Ticks,.d (slD encSb r.2.Job.Lines)]),(5001,.arr 61 4 r.2.Slots.length (rows QAu.enc r.2.Slots))]:=by
 refine eY tOk f65 rfl (Qc tOk ?_);apply Qo h<;>intro _ h
 ·refine bE h [(9000,9000),(9001,9001)] 1000 (fun _=>Qd2) fun x1 h=>?_;cases h;exact lfE [.s [(5001,6001),(6001,5001)]]
 ·apply Qo h<;>intro _ h
  ·refine QkH tOk 20000 (fn:=f80) (c:=JW f80) rfl rfl (by kernel_rfl) rfl ?_;obtain⟨G,h⟩:=Qf h;refine QW tOk [] 10 [] [0,1,3,7,0,16,48,112,255,511] [] (aI G (aK (⟨rows QAu.enc (a0.Slots.set a0.Live.toNat ({(a0.Slots.getD a0.Live.toNat default) with Trial:=false})),QaJ QsN rfl,?_⟩)));cases h;exact lfE [.s [(5001,9001),(9001,5001)]]
  ·apply Qo h<;>intro _ h
   ·cases h
    exact lfE [.s [(5001,9001),(9001,5001)]]
   ·cases h
    exact lfE [.s [(5001,9001),(9001,5001)]]
def Qbt (a0:QAv):Option (QAv):=
 gd ((0:Int)<=a0.Live∧a0.Live<((a0.Slots.length:Nat):Int))<|
(if(a0.Slots.getD a0.Live.toNat default).Trial=true then
 gd ((0:Int)<=IntKind.i64.wrap (1-a0.Live)∧IntKind.i64.wrap (1-a0.Live)<((a0.Slots.length:Nat):Int))<|
 bd (QD ((a0.Slots.getD ((IntKind.i64.wrap (1-a0.Live)).toNat) default).Lines)) fun I=>
 some ({a0 with Up:=true,Box:=(⟨IntKind.i64.wrap (a0.Last+1),I,0,[],[]⟩:QAs),Job:=(⟨3,0,0,0,[]⟩:QAt)})
else
 gd ((0:Int)<=a0.Live∧a0.Live<((a0.Slots.length:Nat):Int))<|
 bd (QD ((a0.Slots.getD a0.Live.toNat default).Lines)) fun G=>
 gd ((0:Int)<=a0.Live∧a0.Live<((a0.Slots.length:Nat):Int))<|
(if(((a0.Slots.getD a0.Live.toNat default).Edition) !=a0.Last)=true then
 some ({a0 with Up:=true,Box:=(⟨IntKind.i64.wrap (a0.Last+1),G,0,[],[]⟩:QAs)})
else
 some ({a0 with Up:=true,Box:=(⟨a0.Last,G,0,[],[]⟩:QAs)})))
theorem Qgk {a0:QAv} {r:QAv} (h:Qbt a0=some r):EffC prog 66 [.ref 9000 0 0] [(9000,.box 34 [dB a0.Up,dI a0.Box.Edition,.d (slD encSb a0.Box.Lines),dI a0.Box.Trial,.d (slD encSb a0.Box.Back),.d (slD QAr.enc a0.Box.Cands),.d (slD QAu.enc a0.Slots),dI a0.Live,dI a0.Last,dI a0.Job.Kind,dI a0.Job.Step,dI a0.Job.Edition,dI a0.Job.Ticks,.d (slD encSb a0.Job.Lines)])] (.tup []) [(9000,.box 34 [dB r.Up,dI r.Box.Edition,.d (slD encSb r.Box.Lines),dI r.Box.Trial,.d (slD encSb r.Box.Back),.d (slD QAr.enc r.Box.Cands),.d (slD QAu.enc a0.Slots),dI a0.Live,dI a0.Last,dI r.Job.Kind,dI r.Job.Step,dI r.Job.Edition,dI r.Job.Ticks,.d (slD encSb r.Job.Lines)])]:=by
 refine eY tOk f66 rfl (Qc tOk (QkH tOk 20000 (fn:=f80) (c:=JW f80) rfl rfl (by kernel_rfl) rfl ?_));obtain⟨g1,h⟩:=Qf h;refine QW tOk [] 10 [] [0,1,3,7,0,16,48,112,255,511] [] (aI g1 (aK ?_));apply Qo h<;>intro _ h
 ·obtain⟨Y,h⟩:=Qf h;obtain⟨I,J,h⟩:=Qb h;refine Qas tOk [.r 3 [(9000,.box 34 [dB true,dI a0.Box.Edition,.d (slD encSb a0.Box.Lines),dI a0.Box.Trial,.d (slD encSb a0.Box.Back),.d (slD QAr.enc a0.Box.Cands),.d (slD QAu.enc a0.Slots),dI a0.Live,dI a0.Last,dI a0.Job.Kind,dI a0.Job.Step,dI a0.Job.Edition,dI a0.Job.Ticks,.d (slD encSb a0.Job.Lines)])] (.rp [.bool ((a0.Slots.getD ((IntKind.i64.wrap (1-a0.Live)).toNat) default).Whole),.int .i64 ((a0.Slots.getD ((IntKind.i64.wrap (1-a0.Live)).toNat) default).Edition),.bool ((a0.Slots.getD ((IntKind.i64.wrap (1-a0.Live)).toNat) default).Trial),slD encSb ((a0.Slots.getD ((IntKind.i64.wrap (1-a0.Live)).toNat) default).Lines)]) [],.e 7 [] (.osl 6001 0 I.length) [] [(6001,.arr 9 1 I.length (rows encSb I))],.l 11 [(9000,.box 34 [dB true,dI a0.Box.Edition,.d (slD encSb a0.Box.Lines),dI a0.Box.Trial,.d (slD encSb a0.Box.Back),.d (slD QAr.enc a0.Box.Cands),.d (slD QAu.enc a0.Slots),dI a0.Live,dI a0.Last,dI a0.Job.Kind,dI a0.Job.Step,dI a0.Job.Edition,dI a0.Job.Ticks,.d (slD encSb a0.Job.Lines)])] (dI a0.Last),.a 17 [(9000,.box 34 [dB true,dI a0.Box.Edition,.d (slD encSb a0.Box.Lines),dI a0.Box.Trial,.d (slD encSb a0.Box.Back),.d (slD QAr.enc a0.Box.Cands),.d (slD QAu.enc a0.Slots),dI a0.Live,dI a0.Last,dI a0.Job.Kind,dI a0.Job.Step,dI a0.Job.Edition,dI a0.Job.Ticks,.d (slD encSb a0.Job.Lines)])] (.any) [(9000,.box 34 [dB true,dI (IntKind.i64.wrap (a0.Last+1)),.osl 6001 0 I.length,dI 0,.d (.nil),.d (.nil),.d (slD QAu.enc a0.Slots),dI a0.Live,dI a0.Last,dI a0.Job.Kind,dI a0.Job.Step,dI a0.Job.Edition,dI a0.Job.Ticks,.d (slD encSb a0.Job.Lines)])],.a 20 [(9000,.box 34 [dB true,dI (IntKind.i64.wrap (a0.Last+1)),.osl 6001 0 I.length,dI 0,.d (.nil),.d (.nil),.d (slD QAu.enc a0.Slots),dI a0.Live,dI a0.Last,dI a0.Job.Kind,dI a0.Job.Step,dI a0.Job.Edition,dI a0.Job.Ticks,.d (slD encSb a0.Job.Lines)])] (.any) [(9000,.box 34 [dB true,dI (IntKind.i64.wrap (a0.Last+1)),.osl 6001 0 I.length,dI 0,.d (.nil),.d (.nil),.d (slD QAu.enc a0.Slots),dI a0.Live,dI a0.Last,dI 3,dI 0,dI 0,dI 0,.d (.nil)])]] 21 [] [0,0,0,4,12,28,60,124,0,256,768,1792,3840,8188,0,16381,49149,114685,262143,524287,1048575] [] [9000] (aI (eD [(9000,9000)] 0 (QdM tOk (fn:=f81) (c:=JW f81) (args:=[.ref 9000 0 0]) (bs:=[(9000,.box 34 [dB true,dI a0.Box.Edition,.d (slD encSb a0.Box.Lines),dI a0.Box.Trial,.d (slD encSb a0.Box.Back),.d (slD QAr.enc a0.Box.Cands),.d (slD QAu.enc a0.Slots),dI a0.Live,dI a0.Last,dI a0.Job.Kind,dI a0.Job.Step,dI a0.Job.Edition,dI a0.Job.Ticks,.d (slD encSb a0.Job.Lines)])]) (res:=.rp [.bool ((a0.Slots.getD ((IntKind.i64.wrap (1-a0.Live)).toNat) default).Whole),.int .i64 ((a0.Slots.getD ((IntKind.i64.wrap (1-a0.Live)).toNat) default).Edition),.bool ((a0.Slots.getD ((IntKind.i64.wrap (1-a0.Live)).toNat) default).Trial),slD encSb ((a0.Slots.getD ((IntKind.i64.wrap (1-a0.Live)).toNat) default).Lines)]) (M:=[(9000,.box 34 [dB true,dI a0.Box.Edition,.d (slD encSb a0.Box.Lines),dI a0.Box.Trial,.d (slD encSb a0.Box.Back),.d (slD QAr.enc a0.Box.Cands),.d (slD QAu.enc a0.Slots),dI a0.Live,dI a0.Last,dI a0.Job.Kind,dI a0.Job.Step,dI a0.Job.Edition,dI a0.Job.Ticks,.d (slD encSb a0.Job.Lines)])]) rfl rfl (by((conv=>whnf);(refine QW tOk [] 11 [] [0,1,3,7,0,16,48,112,240,511,1023] [] ?_);(conv=>whnf);(refine aI Y ?_);(clear Y);(conv=>whnf);(refine aI (by kernel_rfl) ?_);(conv=>whnf);(exact lfE []))))) ?_);refine aI (eH [] 1000 ((Q2 J).eff rfl rfl)) (aI (by(conv=>whnf);exact⟨rfl,rfl⟩) (aI (by(conv=>whnf);exact⟨rfl,rfl⟩) (aI (by(conv=>whnf);exact⟨rfl,rfl⟩) (aK ?_))));cases h;exact lfE [.f [6001]]
 ·obtain⟨g4,h⟩:=Qf h;obtain⟨G,O,h⟩:=Qb h;refine Qas tOk [.r 2 [(9000,.box 34 [dB true,dI a0.Box.Edition,.d (slD encSb a0.Box.Lines),dI a0.Box.Trial,.d (slD encSb a0.Box.Back),.d (slD QAr.enc a0.Box.Cands),.d (slD QAu.enc a0.Slots),dI a0.Live,dI a0.Last,dI a0.Job.Kind,dI a0.Job.Step,dI a0.Job.Edition,dI a0.Job.Ticks,.d (slD encSb a0.Job.Lines)])] (.rp [.bool ((a0.Slots.getD a0.Live.toNat default).Whole),.int .i64 ((a0.Slots.getD a0.Live.toNat default).Edition),.bool ((a0.Slots.getD a0.Live.toNat default).Trial),slD encSb ((a0.Slots.getD a0.Live.toNat default).Lines)]) [],.u 6 1000 (.osl 5001 0 G.length) [⟨5001,9,1,G.length,rows encSb G⟩],.l 10 [(9000,.box 34 [dB true,dI a0.Box.Edition,.d (slD encSb a0.Box.Lines),dI a0.Box.Trial,.d (slD encSb a0.Box.Back),.d (slD QAr.enc a0.Box.Cands),.d (slD QAu.enc a0.Slots),dI a0.Live,dI a0.Last,dI a0.Job.Kind,dI a0.Job.Step,dI a0.Job.Edition,dI a0.Job.Ticks,.d (slD encSb a0.Job.Lines)])] (dI a0.Last)] 14 [] [0,0,2,6,14,30,62,0,128,384,896,2046,4095,8191] [16383] [9000] (aI (eD [(9000,9000)] 0 (QdM tOk (fn:=f80) (c:=JW f80) (args:=[.ref 9000 0 0]) (bs:=[(9000,.box 34 [dB true,dI a0.Box.Edition,.d (slD encSb a0.Box.Lines),dI a0.Box.Trial,.d (slD encSb a0.Box.Back),.d (slD QAr.enc a0.Box.Cands),.d (slD QAu.enc a0.Slots),dI a0.Live,dI a0.Last,dI a0.Job.Kind,dI a0.Job.Step,dI a0.Job.Edition,dI a0.Job.Ticks,.d (slD encSb a0.Job.Lines)])]) (res:=.rp [.bool ((a0.Slots.getD a0.Live.toNat default).Whole),.int .i64 ((a0.Slots.getD a0.Live.toNat default).Edition),.bool ((a0.Slots.getD a0.Live.toNat default).Trial),slD encSb ((a0.Slots.getD a0.Live.toNat default).Lines)]) (M:=[(9000,.box 34 [dB true,dI a0.Box.Edition,.d (slD encSb a0.Box.Lines),dI a0.Box.Trial,.d (slD encSb a0.Box.Back),.d (slD QAr.enc a0.Box.Cands),.d (slD QAu.enc a0.Slots),dI a0.Live,dI a0.Last,dI a0.Job.Kind,dI a0.Job.Step,dI a0.Job.Edition,dI a0.Job.Ticks,.d (slD encSb a0.Job.Lines)])]) rfl rfl (by((conv=>whnf);(refine QW tOk [] 10 [] [0,1,3,7,0,16,48,112,255,511] [] ?_);(conv=>whnf);(refine aI g4 ?_);(clear g4);(conv=>whnf);(refine aI (by kernel_rfl) ?_);(conv=>whnf);(exact lfE []))))) ?_);refine aI (QN (Q2 O) (by kernel_rfl)) (aI (by(conv=>whnf);exact⟨rfl,rfl⟩) (aK ?_));obtain⟨U,h⟩:=Qf h;refine Qas tOk [.r 1 [(6001,.arr 9 1 G.length (rows encSb G)),(9000,.box 34 [dB true,dI a0.Last,.osl 6001 0 G.length,dI 0,.d (.nil),.d (.nil),.d (slD QAu.enc a0.Slots),dI a0.Live,dI a0.Last,dI a0.Job.Kind,dI a0.Job.Step,dI a0.Job.Edition,dI a0.Job.Ticks,.d (slD encSb a0.Job.Lines)])] (.rp [.bool ((a0.Slots.getD a0.Live.toNat default).Whole),.int .i64 ((a0.Slots.getD a0.Live.toNat default).Edition),.bool ((a0.Slots.getD a0.Live.toNat default).Trial),slD encSb ((a0.Slots.getD a0.Live.toNat default).Lines)]) [],.l 8 [(9000,.box 34 [dB true,dI a0.Last,.osl 6001 0 G.length,dI 0,.d (.nil),.d (.nil),.d (slD QAu.enc a0.Slots),dI a0.Live,dI a0.Last,dI a0.Job.Kind,dI a0.Job.Step,dI a0.Job.Edition,dI a0.Job.Ticks,.d (slD encSb a0.Job.Lines)])] (dI a0.Last)] 10 [] [0,1,3,7,15,0,32,96,224,511] [] [6001,9000] (aI (eD [(6001,6001),(9000,9000)] 0 (QdM tOk (fn:=f80) (c:=JW f80) (args:=[.ref 9000 0 0]) (bs:=[(6001,.arr 9 1 G.length (rows encSb G)),(9000,.box 34 [dB true,dI a0.Last,.osl 6001 0 G.length,dI 0,.d (.nil),.d (.nil),.d (slD QAu.enc a0.Slots),dI a0.Live,dI a0.Last,dI a0.Job.Kind,dI a0.Job.Step,dI a0.Job.Edition,dI a0.Job.Ticks,.d (slD encSb a0.Job.Lines)])]) (res:=.rp [.bool ((a0.Slots.getD a0.Live.toNat default).Whole),.int .i64 ((a0.Slots.getD a0.Live.toNat default).Edition),.bool ((a0.Slots.getD a0.Live.toNat default).Trial),slD encSb ((a0.Slots.getD a0.Live.toNat default).Lines)]) (M:=[(6001,.arr 9 1 G.length (rows encSb G)),(9000,.box 34 [dB true,dI a0.Last,.osl 6001 0 G.length,dI 0,.d (.nil),.d (.nil),.d (slD QAu.enc a0.Slots),dI a0.Live,dI a0.Last,dI a0.Job.Kind,dI a0.Job.Step,dI a0.Job.Edition,dI a0.Job.Ticks,.d (slD encSb a0.Job.Lines)])]) rfl rfl (by((conv=>whnf);(refine QW tOk [] 10 [] [0,1,3,7,0,16,48,112,255,511] [] ?_);(conv=>whnf);(refine aI U ?_);(clear U);(conv=>whnf);(refine aI (by kernel_rfl) ?_);(conv=>whnf);(exact lfE []))))) ?_);refine aI (by(conv=>whnf);exact⟨rfl,rfl⟩) (aK ?_);apply Qo h<;>intro _ h
  ·cases h
   exact lfE [.f [6001]]
  ·cases h
   exact lfE [.f [6001]]
def Qr (a0:QAv) (G:QAw):Option (Int×QAv):=
(if(G.Kind==1)=true then
 bd (Qbc a0 G.User) fun x1=>
 some (x1.1,{a0 with Box:={a0.Box with Cands:=x1.2.Box.Cands}})
else
 bd (α:=Bool) ((if(G.Kind==2)=true then
 some (G.Kind==2)
else
 some (G.Kind==3))) fun x2=>
(if x2=true then
 bd (Qbr a0 G) fun x5=>
 some (x5.1,{a0 with Box:={a0.Box with Cands:=x5.2.Box.Cands}})
else
(if(G.Kind==4)=true then
 bd (QaO a0 G.User) fun Y=>
 some (Y.1,{a0 with Box:={a0.Box with Cands:=Y.2.Box.Cands}})
else
(if(G.Kind==5)=true then
 bd (QaP a0 G.User G.N) fun J=>
 some (J.1,{a0 with Box:={a0.Box with Cands:=J.2.Box.Cands},Job:=J.2.Job})
else
(if(G.Kind==6)=true then
 bd (Qaw a0 G.User G.N) fun x8=>
 some (x8.1,{a0 with Job:=x8.2.Job})
else
(if(G.Kind==7)=true then
 bd (Qbs a0) fun U=>
 some (U.1,{a0 with Box:={U.2.Box with Cands:=a0.Box.Cands},Job:=U.2.Job})
else
(if(G.Kind==8)=true then
 bd (ZG a0) fun I=>
 some (I.1,{I.2 with Up:=a0.Up,Box:={I.2.Box with Cands:=a0.Box.Cands}})
else
(if(G.Kind==9)=true then
 some (0,{a0 with Up:=false,Box:=(⟨0,[],0,[],[]⟩:QAs),Job:=(⟨0,0,0,0,[]⟩:QAt)})
else
(if(G.Kind==10)=true then
 bd (Qbt a0) fun O=>
 some (0,{O with Slots:=a0.Slots,Live:=a0.Live,Last:=a0.Last})
else
 some (0,a0))))))))))
theorem Qhs {a0:QAv} {G:QAw} {r:Int×QAv} (h:Qr a0 G=some r):EffC prog 28 [.ref 9000 0 0,.agg [dI G.Kind,.d (.str G.User),.d (.str G.Line),dI G.N]] [(9000,.box 34 [dB a0.Up,dI a0.Box.Edition,.d (slD encSb a0.Box.Lines),dI a0.Box.Trial,.d (slD encSb a0.Box.Back),.osl 9001 0 a0.Box.Cands.length,.osl 9002 0 a0.Slots.length,dI a0.Live,dI a0.Last,dI a0.Job.Kind,dI a0.Job.Step,dI a0.Job.Edition,dI a0.Job.Ticks,.d (slD encSb a0.Job.Lines)]),(9001,.arr 93 4 a0.Box.Cands.length (rows QAr.enc a0.Box.Cands)),(9002,.arr 61 4 a0.Slots.length (rows QAu.enc a0.Slots))] (dI r.1) [(9000,.box 34 [dB r.2.Up,dI r.2.Box.Edition,.d (slD encSb r.2.Box.Lines),dI r.2.Box.Trial,.d (slD encSb r.2.Box.Back),.d (slD QAr.enc r.2.Box.Cands),.d (slD QAu.enc r.2.Slots),dI r.2.Live,dI r.2.Last,dI r.2.Job.Kind,dI r.2.Job.Step,dI r.2.Job.Edition,dI r.2.Job.Ticks,.d (slD encSb r.2.Job.Lines)])]:=by
 refine eY tOk f28 rfl (Qc tOk ?_);apply Qo h<;>intro _ h
 ·obtain⟨x1,a5,h⟩:=Qb h;refine Zp [9002] (cE [(9000,9000),(9001,9001)] 1000 (Qf0 a5) ?_);cases h;exact lfE [.f [6001]]
 ·obtain⟨x2,I,h⟩:=Qb h;refine Zm tOk (fun s3=>⟨0,66,[(0,.ref 9000 0 0),(3,.ref 3 0 0),(6,dI G.Kind),(13,dB s3)],[],[(3,.box 41 [dI G.Kind,.d (.str G.User),.d (.str G.Line),dI G.N]),(9000,.box 34 [dB a0.Up,dI a0.Box.Edition,.d (slD encSb a0.Box.Lines),dI a0.Box.Trial,.d (slD encSb a0.Box.Back),.osl 9001 0 a0.Box.Cands.length,.osl 9002 0 a0.Slots.length,dI a0.Live,dI a0.Last,dI a0.Job.Kind,dI a0.Job.Step,dI a0.Job.Edition,dI a0.Job.Ticks,.d (slD encSb a0.Job.Lines)]),(9001,.arr 93 4 a0.Box.Cands.length (rows QAr.enc a0.Box.Cands)),(9002,.arr 61 4 a0.Slots.length (rows QAu.enc a0.Slots))],[⟨[(0,.ref 9000 0 0)],[]⟩]⟩) (fun s3=>x2=s3) ?_ ?_
  ·apply Qo I<;>intro _ I
   ·exact eZ I []
   ·exact eZ I []
  ·rintro _ rfl;apply Qo h<;>intro _ h
   ·obtain⟨x5,a3,h⟩:=Qb h;refine Zp [9002] (cE [(9000,9000),(9001,9001)] 0 (Qgi a3) ?_);cases h;exact lfE []
   ·apply Qo h<;>intro _ h
    ·obtain⟨x6,U,h⟩:=Qb h;refine Zp [9002] (cE [(9000,9000),(9001,9001)] 1000 (Qfl U) ?_);cases h;exact lfE [.f [6001]]
    ·apply Qo h<;>intro _ h
     ·obtain⟨x7,a4,h⟩:=Qb h;refine Zp [9002] (cE [(9000,9000),(9001,9001)] 1000 (Qfm a4) ?_);cases h;exact lfE [.f [6001]]
     ·apply Qo h<;>intro _ h
      ·obtain⟨x8,a2,h⟩:=Qb h;refine Zp [9001,9002] (cE [(9000,9000)] 0 (QeV a2) ?_);cases h;exact lfE []
      ·apply Qo h<;>intro _ h
       ·obtain⟨x9,Y,h⟩:=Qb h;refine Zp [9001,9002] (cE [(9000,9000)] 0 (Qgj Y) ?_);cases h;exact lfE []
       ·apply Qo h<;>intro _ h
        ·obtain⟨x10,O,h⟩:=Qb h;refine Zp [9001] (cE [(9000,9000),(9001,9002)] 1000 (Qf1 O) ?_);cases h;exact lfE [.f [6001]]
        ·apply Qo h<;>intro _ h
         ·cases h
          exact lfE [.f [9002]]
         ·apply Qo h<;>intro _ h
          ·obtain⟨x11,J,h⟩:=Qb h;refine Zp [9001,9002] (cE [(9000,9000)] 0 (Qgk J) ?_);cases h;exact lfE []
          ·cases h
           exact lfE [.f [9001,9002]]
def Qax (a0:QAv) (I:QAw):Option (QAv×Int):=
 bd (Z5 a0) fun O=>
(if(!O)=true then
 some ((⟨false,(⟨0,[],0,[],[]⟩:QAs),[],0,0,(⟨0,0,0,0,[]⟩:QAt)⟩:QAv),1)
else
 bd (Qbp a0) fun G=>
 bd (Qs I.Kind 1 10) fun Y=>
(if(!Y)=true then
 some (G,2)
else
(if(a0.Up==(I.Kind==10))=true then
 some (G,12)
else
 bd (Qr G I) fun J=>
(if(J.1 !=0)=true then
 bd (Qbp a0) fun U=>
 some (U,J.1)
else
 some (J.2,0)))))
theorem QkQ {a0:QAv} {G:QAw} {r:QAv×Int} (h:Qax a0 G=some r):EffC prog 8 [.agg [dB a0.Up,dI a0.Box.Edition,.d (slD encSb a0.Box.Lines),dI a0.Box.Trial,.d (slD encSb a0.Box.Back),.d (slD QAr.enc a0.Box.Cands),.d (slD QAu.enc a0.Slots),dI a0.Live,dI a0.Last,dI a0.Job.Kind,dI a0.Job.Step,dI a0.Job.Edition,dI a0.Job.Ticks,.d (slD encSb a0.Job.Lines)],.agg [dI G.Kind,.d (.str G.User),.d (.str G.Line),dI G.N]] [] (.tup [.agg [dB r.1.Up,dI r.1.Box.Edition,.d (slD encSb r.1.Box.Lines),dI r.1.Box.Trial,.d (slD encSb r.1.Box.Back),.d (slD QAr.enc r.1.Box.Cands),.d (slD QAu.enc r.1.Slots),dI r.1.Live,dI r.1.Last,dI r.1.Job.Kind,dI r.1.Job.Step,dI r.1.Job.Edition,dI r.1.Job.Ticks,.d (slD encSb r.1.Job.Lines)],dI r.2]) []:=by
 refine eY tOk f8 rfl (Qc tOk (bC h 0 (fun _=>QcJ) fun x1 h=>?_));apply Qo h<;>intro _ h
 ·cases h
  exact lfE []
 ·refine bE h [] 1000 (fun _=>Qgh) fun x2 h=>Qc tOk (bC h 0 (fun _=>QX) fun x3 h=>?_);apply Qo h<;>intro _ h
  ·cases h
   exact lfE [.f [6001,6002,6003,6004,6005]]
  ·apply Qo h<;>intro _ h
   ·cases h
    exact lfE [.f [6001,6002,6003,6004,6005]]
   ·refine Qc tOk ?_;obtain⟨x4,I,h⟩:=Qb h;refine Zp [6001,6002,6005] (cE [(9000,6),(9001,6003),(9002,6004)] 0 (Qhs I) ?_);apply Qo h<;>intro _ h
    ·refine bE h [] 2000 (fun _=>Qgh) fun x5 h=>?_;cases h;exact lfE [.f [7001,7002,7003,7004,7005]]
    ·cases h
     exact lfE []
@[reducible] def csC (a:QAv) (ed:Int) (ln:V) (tr:Int) (bk cd sl:V) (lv:Int) (jl:V):List V:=[dB a.Up,dI ed,ln,dI tr,bk,cd,sl,dI lv,dI a.Last,dI a.Job.Kind,dI a.Job.Step,dI a.Job.Edition,dI a.Job.Ticks,jl]
@[reducible] def csD (a:QAv) (ss:List QAu) (lv:Int):List V:=csC a a.Box.Edition (.d (slD encSb a.Box.Lines)) a.Box.Trial (.d (slD encSb a.Box.Back)) (.d (slD QAr.enc a.Box.Cands)) (.d (slD QAu.enc ss)) lv (.d (slD encSb a.Job.Lines))
@[reducible] def sl2 (s0 s1:QAu) (l0 l1:V):List V:=[dB s0.Whole,dI s0.Edition,dB s0.Trial,l0,dB s1.Whole,dI s1.Edition,dB s1.Trial,l1]
@[reducible] def stA (xs:List Bt):Blk:=.arr 9 1 xs.length (rows encSb xs)
def QbW (a0:QAv) (s0 s1:QAu):Option (QAs×List Bt×List Bt×List Bt):=
 bd (QbU a0.Box) fun I=>
 bd (QD a0.Job.Lines) fun O=>
 bd (Ju [s0,s1]) fun U=>
 gd (U=[s0,s1])<|
 bd (QD s0.Lines) fun G=>
 bd (QD s1.Lines) fun J=>
 some (I,O,G,J)
theorem Qon {a0:QAv} {s0 s1:QAu} {lv:Int} {r:QAs×List Bt×List Bt×List Bt} (h:QbW a0 s0 s1=some r):EffC prog 26 [.agg (csD a0 [s0,s1] lv)] [] (.agg (csC a0 r.1.Edition (.osl 5001 0 r.1.Lines.length) r.1.Trial (.osl 5002 0 r.1.Back.length) (.osl 5003 0 r.1.Cands.length) (.osl 5004 0 2) lv (.osl 5005 0 r.2.1.length))) [(5001,stA r.1.Lines),(5002,stA r.1.Back),(5003,.arr 93 4 r.1.Cands.length (rows QAr.enc r.1.Cands)),(5004,.box 2000061 (sl2 s0 s1 (.osl 5006 0 r.2.2.1.length) (.osl 5007 0 r.2.2.2.length))),(5005,stA r.2.1),(5006,stA r.2.2.1),(5007,stA r.2.2.2)]:=by
 refine QdM tOk (fn:=f26) (c:=JW f26) rfl rfl ?_;unfold QbW at h;(conv=>whnf);obtain⟨G,a2,h⟩:=Qb h;obtain⟨x2,a3,h⟩:=Qb h;obtain⟨x3,J,h⟩:=Qb h;obtain⟨hx,h⟩:=Qf h;rw[hx] at J;clear hx;obtain⟨U,O,h⟩:=Qb h;obtain⟨Y,a1,h⟩:=Qb h;refine Qas tOk [.e 2 [] (.agg [dI G.Edition,.osl 6001 0 G.Lines.length,dI G.Trial,.osl 6002 0 G.Back.length,.osl 6003 0 G.Cands.length]) [(6001,stA G.Lines),(6002,stA G.Back),(6003,.arr 93 4 G.Cands.length (rows QAr.enc G.Cands))] [],.u 6 2000 (.osl 5001 0 x2.length) [⟨5001,9,1,x2.length,rows encSb x2⟩],.e 9 [] (.osl 8001 0 [s0,s1].length) [(8001,.arr 61 4 [s0,s1].length (rows QAu.enc [s0,s1]))] []] 11 [] [0,1,3,0,8,24,63,0,128,511,7] [2047,4095,8191,16383,32767,65535] [] ?_;(conv=>whnf);refine YD (eD [] 1000 (Qg9 a2)) ?_;(conv=>whnf);refine YD (QN (Q2 a3) (by kernel_rfl)) ?_;(conv=>whnf);refine YD (eD [] 3000 (QdA J)) ?_;(conv=>whnf);refine YD (by kernel_rfl) ?_;(conv=>whnf);refine Qw0 [1,2,3,22,23] 8001 ?_;(conv=>whnf);refine⟨2,_,rfl,BoxOk.rows (enc:=QAu.enc) (ys:=[s0,s1]) (fun _=>rfl) (by simp) (by decide),?_⟩;(conv=>whnf);refine Qc tOk ?_;(conv=>whnf);refine QyY tOk 3 ?_;(conv=>whnf);refine Qc tOk ?_;(conv=>whnf);refine⟨fun _=>?_,fun I=>absurd I (by simp<;>decide)⟩;(conv=>whnf);refine Qc tOk ?_;(conv=>whnf);refine QW tOk [.u 9 4000 (.osl 5001 0 U.length) [⟨5001,9,1,U.length,rows encSb U⟩]] 12 [] [0,1,0,0,8,0,56,120,248,504,1023,2047] [4095] ?_;(conv=>whnf);refine YD (by constructor<;>simp<;>decide) ?_;(conv=>whnf);refine YD (QN (Q2 O) (by kernel_rfl)) ?_;(conv=>whnf);refine YD (by constructor<;>simp<;>decide) ?_;(conv=>whnf);refine YD (by kernel_rfl) ?_;(conv=>whnf);refine QyZ [1,2,3,22,23,24] [.s [(9001,7101),(7101,9001)]] ?_;(conv=>whnf);refine⟨⟨by kernel_rfl⟩,?_⟩;(conv=>whnf);refine Qc tOk ?_;(conv=>whnf);refine⟨fun _=>?_,fun I=>absurd I (by simp<;>decide)⟩;(conv=>whnf);refine Qc tOk ?_;(conv=>whnf);refine QW tOk [.u 9 4000 (.osl 5001 0 Y.length) [⟨5001,9,1,Y.length,rows encSb Y⟩]] 12 [] [0,1,0,0,8,0,56,120,248,504,1023,2047] [4095] ?_;(conv=>whnf);refine YD (by constructor<;>simp<;>decide) ?_;(conv=>whnf);refine YD (QN (Q2 a1) (by kernel_rfl)) ?_;(conv=>whnf);refine YD (by constructor<;>simp<;>decide) ?_;(conv=>whnf);refine YD (by kernel_rfl) ?_;(conv=>whnf);refine Qc tOk ?_;(conv=>whnf);refine⟨fun I=>absurd I (by simp<;>decide),fun _=>?_⟩;(conv=>whnf);obtain rfl:=sj_ h;exact lfE [.s [(5001,6001),(5002,6002),(5003,6003),(5004,8001),(5005,7001),(6001,5001),(6002,5002),(6003,5003),(7001,5005),(8001,5004),(7101,5006),(5006,7101),(9001,5007),(5007,9001)]]
@[reducible] def csE (a:QAv) (st:Int) (sl:V) (lv:Int):List V:=[dB a.Up,dI a.Box.Edition,.d (slD encSb a.Box.Lines),dI a.Box.Trial,.d (slD encSb a.Box.Back),.d (slD QAr.enc a.Box.Cands),sl,dI lv,dI a.Last,dI a.Job.Kind,dI st,dI a.Job.Edition,dI a.Job.Ticks,.d (slD encSb a.Job.Lines)]
def Qbg (G:Int) (js l:List Bt):Option (List Bt):=
(if(G==0)=true then
 none
else
(if(decide (G<=((js.length:Nat):Int)))=true then
 gd ((0:Int)<=IntKind.i64.wrap (G-1)∧IntKind.i64.wrap (G-1)<((js.length:Nat):Int))<|
 gd (((l.length)+(([js.getD (IntKind.i64.wrap (G-1)).toNat default]:List Bt).length))*(16+1)<=70368744177664)<|
 some (l++([js.getD (IntKind.i64.wrap (G-1)).toNat default]:List Bt))
else
 none))
theorem QsR {a0:QAv} {s0 s1:QAu} {l:List Bt}:EffC prog 81 [.ref 9000 0 0] [(9000,.box 34 (csE a0 a0.Job.Step (.osl 9001 0 2) 0)),(9001,.box 2000061 (sl2 s0 s1 (.d (slD encSb s0.Lines)) (.osl 9002 0 l.length))),(9002,stA l)] (.ref 9001 0 4) [(9000,.box 34 (csE a0 a0.Job.Step (.osl 9001 0 2) 0)),(9001,.box 2000061 (sl2 s0 s1 (.d (slD encSb s0.Lines)) (.osl 9002 0 l.length))),(9002,stA l)]:=by
 refine QdM tOk (fn:=f81) (c:=JW f81) rfl rfl ?_;(conv=>whnf);refine QW tOk [] 11 [] [0,1,3,7,0,16,48,112,240,511,1023] [] ?_;(conv=>whnf);refine YD (by constructor<;>decide) ?_;(conv=>whnf);refine YD (by kernel_rfl) ?_;(conv=>whnf);exact lfE []
theorem QsS {a0:QAv} {s0 s1:QAu} {l r:List Bt} (h:Qbg a0.Job.Step a0.Job.Lines l=some r):EffC prog 135 [.ref 9000 0 0] [(9000,.box 34 (csE a0 a0.Job.Step (.osl 9001 0 2) 0)),(9001,.box 2000061 (sl2 s0 s1 (.d (slD encSb s0.Lines)) (.osl 9002 0 l.length))),(9002,stA l)] (.tup []) [(9000,.box 34 (csE a0 (IntKind.i64.wrap (a0.Job.Step+1)) (.osl 5001 0 2) 0)),(5001,.box 2000061 (sl2 s0 s1 (.d (slD encSb s0.Lines)) (.osl 5002 0 r.length))),(5002,stA r)]:=by
 refine QdM tOk (fn:=f135) (c:=JW f135) rfl rfl ?_;unfold Qbg at h;(conv=>whnf);refine Qas tOk [.r 1 [(9000,.box 34 (csE a0 a0.Job.Step (.osl 9001 0 2) 0)),(9001,.box 2000061 (sl2 s0 s1 (.d (slD encSb s0.Lines)) (.osl 9002 0 l.length))),(9002,stA l)] (.ref 9001 0 4) [],.l 6 [(9000,.box 34 (csE a0 a0.Job.Step (.osl 9001 0 2) 0)),(9001,.box 2000061 (sl2 s0 s1 (.d (slD encSb s0.Lines)) (.osl 9002 0 l.length))),(9002,stA l)] (.d (slD encSb a0.Job.Lines))] 10 [] [0,1,0,4,12,28,60,124,3,511] [] [9000,9001,9002] ?_;(conv=>whnf);refine YD (eD [(9000,9000),(9001,9001),(9002,9002)] 0 QsR) ?_;(conv=>whnf);refine YD (by(conv=>whnf);exact⟨rfl,rfl⟩) ?_;(conv=>whnf);refine YD (by kernel_rfl) ?_;(conv=>whnf);refine Qo h (fun _ h=>?_) (fun _ h=>?_)
 ·cases h
 ·(conv=>whnf);refine Qo h (fun _ h=>?_) (fun _ h=>?_)
  ·(conv=>whnf);obtain⟨I,h⟩:=Qf h;obtain⟨G,h⟩:=Qf h;refine Qas tOk [.a 15 [(9002,stA l)] (.osl 114 0 ((l++([a0.Job.Lines.getD (IntKind.i64.wrap (a0.Job.Step-1)).toNat default]:List Bt)).length)) [(114,stA (l++([a0.Job.Lines.getD (IntKind.i64.wrap (a0.Job.Step-1)).toNat default]:List Bt)))]] 16 [] [0,0,2,6,14,0,32,96,224,480,0,1024,4064,8160,16352,32766] [65535,131071,262143] [9002] ?_;(conv=>whnf);refine YD I ?_;(conv=>whnf);refine QbB (enc:=encSb) ([a0.Job.Lines.getD (IntKind.i64.wrap (a0.Job.Step-1)).toNat default]:List Bt) ?_;(conv=>whnf);refine YD (by(conv=>whnf);exact⟨G,Qf7 (enc:=encSb) (xs:=l) (ys:=([a0.Job.Lines.getD (IntKind.i64.wrap (a0.Job.Step-1)).toNat default]:List Bt)) ⟨rfl,rfl⟩⟩) ?_;(conv=>whnf);refine YD (by kernel_rfl) ?_;(conv=>whnf);obtain rfl:=sj_ h;exact lfE [.s [(9001,5001),(5001,9001),(114,5002),(5002,114)]]
  ·cases h
theorem QsT {a0:QAv} {s0 s1:QAu} {l:List Bt}:EffC prog 81 [.ref 9000 0 0] [(9000,.box 34 (csE a0 a0.Job.Step (.osl 9001 0 2) 1)),(9001,.box 2000061 (sl2 s0 s1 (.osl 9002 0 l.length) (.d (slD encSb s1.Lines)))),(9002,stA l)] (.ref 9001 0 0) [(9000,.box 34 (csE a0 a0.Job.Step (.osl 9001 0 2) 1)),(9001,.box 2000061 (sl2 s0 s1 (.osl 9002 0 l.length) (.d (slD encSb s1.Lines)))),(9002,stA l)]:=by
 refine QdM tOk (fn:=f81) (c:=JW f81) rfl rfl ?_;(conv=>whnf);refine QW tOk [] 11 [] [0,1,3,7,0,16,48,112,240,511,1023] [] ?_;(conv=>whnf);refine YD (by constructor<;>decide) ?_;(conv=>whnf);refine YD (by kernel_rfl) ?_;(conv=>whnf);exact lfE []
theorem QsU {a0:QAv} {s0 s1:QAu} {l r:List Bt} (h:Qbg a0.Job.Step a0.Job.Lines l=some r):EffC prog 135 [.ref 9000 0 0] [(9000,.box 34 (csE a0 a0.Job.Step (.osl 9001 0 2) 1)),(9001,.box 2000061 (sl2 s0 s1 (.osl 9002 0 l.length) (.d (slD encSb s1.Lines)))),(9002,stA l)] (.tup []) [(9000,.box 34 (csE a0 (IntKind.i64.wrap (a0.Job.Step+1)) (.osl 5001 0 2) 1)),(5001,.box 2000061 (sl2 s0 s1 (.osl 5002 0 r.length) (.d (slD encSb s1.Lines)))),(5002,stA r)]:=by
 refine QdM tOk (fn:=f135) (c:=JW f135) rfl rfl ?_;unfold Qbg at h;(conv=>whnf);refine Qas tOk [.r 1 [(9000,.box 34 (csE a0 a0.Job.Step (.osl 9001 0 2) 1)),(9001,.box 2000061 (sl2 s0 s1 (.osl 9002 0 l.length) (.d (slD encSb s1.Lines)))),(9002,stA l)] (.ref 9001 0 0) [],.l 6 [(9000,.box 34 (csE a0 a0.Job.Step (.osl 9001 0 2) 1)),(9001,.box 2000061 (sl2 s0 s1 (.osl 9002 0 l.length) (.d (slD encSb s1.Lines)))),(9002,stA l)] (.d (slD encSb a0.Job.Lines))] 10 [] [0,1,0,4,12,28,60,124,3,511] [] [9000,9001,9002] ?_;(conv=>whnf);refine YD (eD [(9000,9000),(9001,9001),(9002,9002)] 0 QsT) ?_;(conv=>whnf);refine YD (by(conv=>whnf);exact⟨rfl,rfl⟩) ?_;(conv=>whnf);refine YD (by kernel_rfl) ?_;(conv=>whnf);refine Qo h (fun _ h=>?_) (fun _ h=>?_)
 ·cases h
 ·(conv=>whnf);refine Qo h (fun _ h=>?_) (fun _ h=>?_)
  ·(conv=>whnf);obtain⟨I,h⟩:=Qf h;obtain⟨G,h⟩:=Qf h;refine Qas tOk [.a 15 [(9002,stA l)] (.osl 114 0 ((l++([a0.Job.Lines.getD (IntKind.i64.wrap (a0.Job.Step-1)).toNat default]:List Bt)).length)) [(114,stA (l++([a0.Job.Lines.getD (IntKind.i64.wrap (a0.Job.Step-1)).toNat default]:List Bt)))]] 16 [] [0,0,2,6,14,0,32,96,224,480,0,1024,4064,8160,16352,32766] [65535,131071,262143] [9002] ?_;(conv=>whnf);refine YD I ?_;(conv=>whnf);refine QbB (enc:=encSb) ([a0.Job.Lines.getD (IntKind.i64.wrap (a0.Job.Step-1)).toNat default]:List Bt) ?_;(conv=>whnf);refine YD (by(conv=>whnf);exact⟨G,Qf7 (enc:=encSb) (xs:=l) (ys:=([a0.Job.Lines.getD (IntKind.i64.wrap (a0.Job.Step-1)).toNat default]:List Bt)) ⟨rfl,rfl⟩⟩) ?_;(conv=>whnf);refine YD (by kernel_rfl) ?_;(conv=>whnf);obtain rfl:=sj_ h;exact lfE [.s [(9001,5001),(5001,9001),(114,5002),(5002,114)]]
  ·cases h
theorem QpJ {a0:QAv} {s0 s1:QAu} {l r:List Bt} (hk:(a0.Job.Kind==1)=true) (h:Qbg a0.Job.Step a0.Job.Lines l=some r):EffC prog 65 [.ref 9000 0 0] [(9000,.box 34 (csE a0 a0.Job.Step (.osl 9001 0 2) 0)),(9001,.box 2000061 (sl2 s0 s1 (.d (slD encSb s0.Lines)) (.osl 9002 0 l.length))),(9002,stA l)] (dI 0) [(9000,.box 34 (csE a0 (IntKind.i64.wrap (a0.Job.Step+1)) (.osl 5001 0 2) 0)),(5001,.box 2000061 (sl2 s0 s1 (.d (slD encSb s0.Lines)) (.osl 5002 0 r.length))),(5002,stA r)]:=by
 refine QdM tOk (fn:=f65) (c:=JW f65) rfl rfl ?_;(conv=>whnf);refine Qc tOk ?_;(conv=>whnf);refine⟨fun _=>?_,fun G=>by rw[hk] at G;cases G⟩;(conv=>whnf);refine cE [(9000,9000),(9001,9001),(9002,9002)] 1000 (QsS h) ?_;(conv=>whnf);exact lfE [.s [(5001,6001),(6001,5001),(5002,6002),(6002,5002)]]
theorem QuR {a0:QAv} {s0 s1:QAu} {l r:List Bt} (hk:(a0.Job.Kind==1)=true) (h:Qbg a0.Job.Step a0.Job.Lines l=some r) (u I:Bt) (n:Int):EffC prog 28 [.ref 9000 0 0,.agg [dI 8,.d (.str u),.d (.str I),dI n]] [(9000,.box 34 (csE a0 a0.Job.Step (.osl 9001 0 2) 0)),(9001,.box 2000061 (sl2 s0 s1 (.d (slD encSb s0.Lines)) (.osl 9002 0 l.length))),(9002,stA l)] (dI 0) [(9000,.box 34 (csE a0 (IntKind.i64.wrap (a0.Job.Step+1)) (.osl 5001 0 2) 0)),(5001,.box 2000061 (sl2 s0 s1 (.d (slD encSb s0.Lines)) (.osl 5002 0 r.length))),(5002,stA r)]:=by
 refine QdM tOk (fn:=f28) (c:=JW f28) rfl rfl ?_;(conv=>whnf);refine Qc tOk ?_;(conv=>whnf);refine⟨fun G=>absurd G (by decide),fun _=>?_⟩;(conv=>whnf);refine Qc tOk ?_;(conv=>whnf);refine⟨fun G=>absurd G (by decide),fun _=>?_⟩;(conv=>whnf);refine⟨fun G=>absurd G (by decide),fun _=>?_⟩;(conv=>whnf);refine⟨fun G=>absurd G (by decide),fun _=>?_⟩;(conv=>whnf);refine⟨fun G=>absurd G (by decide),fun _=>?_⟩;(conv=>whnf);refine⟨fun G=>absurd G (by decide),fun _=>?_⟩;(conv=>whnf);refine⟨fun G=>absurd G (by decide),fun _=>?_⟩;(conv=>whnf);refine⟨fun _=>?_,fun G=>absurd G (by decide)⟩;(conv=>whnf);refine cE [(9000,9000),(9001,9001),(9002,9002)] 1000 (QpJ hk h) ?_;(conv=>whnf);exact lfE [.s [(5001,6001),(6001,5001),(5002,6002),(6002,5002)]]
theorem QpK {a0:QAv} {s0 s1:QAu} {l r:List Bt} (hk:(a0.Job.Kind==1)=true) (h:Qbg a0.Job.Step a0.Job.Lines l=some r):EffC prog 65 [.ref 9000 0 0] [(9000,.box 34 (csE a0 a0.Job.Step (.osl 9001 0 2) 1)),(9001,.box 2000061 (sl2 s0 s1 (.osl 9002 0 l.length) (.d (slD encSb s1.Lines)))),(9002,stA l)] (dI 0) [(9000,.box 34 (csE a0 (IntKind.i64.wrap (a0.Job.Step+1)) (.osl 5001 0 2) 1)),(5001,.box 2000061 (sl2 s0 s1 (.osl 5002 0 r.length) (.d (slD encSb s1.Lines)))),(5002,stA r)]:=by
 refine QdM tOk (fn:=f65) (c:=JW f65) rfl rfl ?_;(conv=>whnf);refine Qc tOk ?_;(conv=>whnf);refine⟨fun _=>?_,fun G=>by rw[hk] at G;cases G⟩;(conv=>whnf);refine cE [(9000,9000),(9001,9001),(9002,9002)] 1000 (QsU h) ?_;(conv=>whnf);exact lfE [.s [(5001,6001),(6001,5001),(5002,6002),(6002,5002)]]
theorem QuS {a0:QAv} {s0 s1:QAu} {l r:List Bt} (hk:(a0.Job.Kind==1)=true) (h:Qbg a0.Job.Step a0.Job.Lines l=some r) (u I:Bt) (n:Int):EffC prog 28 [.ref 9000 0 0,.agg [dI 8,.d (.str u),.d (.str I),dI n]] [(9000,.box 34 (csE a0 a0.Job.Step (.osl 9001 0 2) 1)),(9001,.box 2000061 (sl2 s0 s1 (.osl 9002 0 l.length) (.d (slD encSb s1.Lines)))),(9002,stA l)] (dI 0) [(9000,.box 34 (csE a0 (IntKind.i64.wrap (a0.Job.Step+1)) (.osl 5001 0 2) 1)),(5001,.box 2000061 (sl2 s0 s1 (.osl 5002 0 r.length) (.d (slD encSb s1.Lines)))),(5002,stA r)]:=by
 refine QdM tOk (fn:=f28) (c:=JW f28) rfl rfl ?_;(conv=>whnf);refine Qc tOk ?_;(conv=>whnf);refine⟨fun G=>absurd G (by decide),fun _=>?_⟩;(conv=>whnf);refine Qc tOk ?_;(conv=>whnf);refine⟨fun G=>absurd G (by decide),fun _=>?_⟩;(conv=>whnf);refine⟨fun G=>absurd G (by decide),fun _=>?_⟩;(conv=>whnf);refine⟨fun G=>absurd G (by decide),fun _=>?_⟩;(conv=>whnf);refine⟨fun G=>absurd G (by decide),fun _=>?_⟩;(conv=>whnf);refine⟨fun G=>absurd G (by decide),fun _=>?_⟩;(conv=>whnf);refine⟨fun G=>absurd G (by decide),fun _=>?_⟩;(conv=>whnf);refine⟨fun _=>?_,fun G=>absurd G (by decide)⟩;(conv=>whnf);refine cE [(9000,9000),(9001,9001),(9002,9002)] 1000 (QpK hk h) ?_;(conv=>whnf);exact lfE [.s [(5001,6001),(6001,5001),(5002,6002),(6002,5002)]]
def QkR (a0:QAv):Option QAv:=
 bd (Z5 a0) fun G=>gd (G=true∧a0.Up=true∧(a0.Job.Kind==1)=true)<|
 bd (Qs 8 1 10) fun I=>gd (I=true)<|
(match a0.Slots with
|[s0,s1]=>
 bd (QbW a0 s0 s1) fun x=>
(if a0.Live=0 then
 bd (Qbg a0.Job.Step x.2.1 x.2.2.2) fun z=>some ({a0 with Box:=x.1,Slots:=[{s0 with Lines:=x.2.2.1},{s1 with Lines:=z}],Job:={a0.Job with Step:=IntKind.i64.wrap (a0.Job.Step+1),Lines:=x.2.1}})
else
 gd (a0.Live=1)<|
 bd (Qbg a0.Job.Step x.2.1 x.2.2.1) fun z=>some ({a0 with Box:=x.1,Slots:=[{s0 with Lines:=z},{s1 with Lines:=x.2.2.2}],Job:={a0.Job with Step:=IntKind.i64.wrap (a0.Job.Step+1),Lines:=x.2.1}}))
|_=>none)
theorem QuT {a0:QAv} {s0 s1:QAu} {x:QAs×List Bt×List Bt×List Bt} {z:List Bt} (J:Z5 ({a0 with Slots:=[s0,s1],Live:=0}:QAv)=some true) (I:a0.Up=true) (hk:(a0.Job.Kind==1)=true) (U:Qs 8 1 10=some true)
  (hc:QbW a0 s0 s1=some x) (hm:Qbg a0.Job.Step x.2.1 x.2.2.2=some z) (u O:Bt) (n:Int):EffC prog 8 [.agg (csD a0 [s0,s1] 0),.agg [dI 8,.d (.str u),.d (.str O),dI n]] [] (.tup [.agg (csD ({a0 with Box:=x.1,Job:={a0.Job with Step:=IntKind.i64.wrap (a0.Job.Step+1),Lines:=x.2.1}}:QAv) [({s0 with Lines:=x.2.2.1}:QAu),({s1 with Lines:=z}:QAu)] 0),dI 0]) []:=by
 refine QdM tOk (fn:=f8) (c:=JW f8) rfl rfl ?_;(conv=>whnf);refine Qc tOk ?_;(conv=>whnf);refine cC 0 (QcJ J) ?_;(conv=>whnf);refine⟨fun G=>absurd G (by decide),fun _=>?_⟩;(conv=>whnf);refine cE [] 1000 (Qon (lv:=0) hc) ?_;(conv=>whnf);refine Qc tOk ?_;(conv=>whnf);refine cC 0 (QX U) ?_;(conv=>whnf);refine⟨fun G=>absurd G (by decide),fun _=>?_⟩;(conv=>whnf);refine⟨fun G=>by rw[I] at G;exact absurd G (by decide),fun _=>?_⟩;(conv=>whnf);refine Qc tOk ?_;(conv=>whnf);refine Zp [6001,6002,6003,6005,6006] ?_;(conv=>whnf);refine cE [(9000,6),(9001,6004),(9002,6007)] 0 (QuR (a0:={a0 with Box:=x.1,Job:={a0.Job with Lines:=x.2.1}}) (s0:={s0 with Lines:=x.2.2.1}) (s1:=s1) hk hm u O n) ?_;(conv=>whnf);refine⟨fun G=>absurd G (by decide),fun _=>?_⟩;(conv=>whnf);exact lfE [.f [5002,5001]]
theorem QuU {a0:QAv} {s0 s1:QAu} {x:QAs×List Bt×List Bt×List Bt} {z:List Bt} (J:Z5 ({a0 with Slots:=[s0,s1],Live:=1}:QAv)=some true) (I:a0.Up=true) (hk:(a0.Job.Kind==1)=true) (U:Qs 8 1 10=some true)
  (hc:QbW a0 s0 s1=some x) (hm:Qbg a0.Job.Step x.2.1 x.2.2.1=some z) (u O:Bt) (n:Int):EffC prog 8 [.agg (csD a0 [s0,s1] 1),.agg [dI 8,.d (.str u),.d (.str O),dI n]] [] (.tup [.agg (csD ({a0 with Box:=x.1,Job:={a0.Job with Step:=IntKind.i64.wrap (a0.Job.Step+1),Lines:=x.2.1}}:QAv) [({s0 with Lines:=z}:QAu),({s1 with Lines:=x.2.2.2}:QAu)] 1),dI 0]) []:=by
 refine QdM tOk (fn:=f8) (c:=JW f8) rfl rfl ?_;(conv=>whnf);refine Qc tOk ?_;(conv=>whnf);refine cC 0 (QcJ J) ?_;(conv=>whnf);refine⟨fun G=>absurd G (by decide),fun _=>?_⟩;(conv=>whnf);refine cE [] 1000 (Qon (lv:=1) hc) ?_;(conv=>whnf);refine Qc tOk ?_;(conv=>whnf);refine cC 0 (QX U) ?_;(conv=>whnf);refine⟨fun G=>absurd G (by decide),fun _=>?_⟩;(conv=>whnf);refine⟨fun G=>by rw[I] at G;exact absurd G (by decide),fun _=>?_⟩;(conv=>whnf);refine Qc tOk ?_;(conv=>whnf);refine Zp [6001,6002,6003,6005,6007] ?_;(conv=>whnf);refine cE [(9000,6),(9001,6004),(9002,6006)] 0 (QuS (a0:={a0 with Box:=x.1,Job:={a0.Job with Lines:=x.2.1}}) (s0:=s0) (s1:={s1 with Lines:=x.2.2.2}) hk hm u O n) ?_;(conv=>whnf);refine⟨fun G=>absurd G (by decide),fun _=>?_⟩;(conv=>whnf);exact lfE [.f [5002,5001]]
theorem Qw1 {a0 r:QAv} (h:QkR a0=some r) (u O:Bt) (n:Int):EffC prog 8 [.agg (csD a0 a0.Slots a0.Live),.agg [dI 8,.d (.str u),.d (.str O),dI n]] [] (.tup [.agg (csD r r.Slots r.Live),dI 0]) []:=by
 unfold QkR at h;obtain⟨x1,G,h⟩:=Qb h;obtain⟨⟨e1,I,hk⟩,h⟩:=Qf h;rw[e1] at G;obtain⟨x3,U,h⟩:=Qb h;obtain⟨e3,h⟩:=Qf h;rw[e3] at U;obtain⟨up,bx,sl,lv,la,jb⟩:=a0;rcases sl with _|⟨s0,_|⟨s1,_|⟨_,_⟩⟩⟩
 ·cases h
 ·cases h
 ·obtain⟨x,hc,h⟩:=Qb (show bd (QbW ⟨up,bx,[s0,s1],lv,la,jb⟩ s0 s1) _=some r from h);by_cases Y:lv=0
  ·subst Y;rw[Y2 rfl] at h;obtain⟨z,J,h⟩:=Qb h;obtain rfl:=sj_ h;exact QuT G I hk U hc J u O n
  ·rw[Y0 Y] at h;obtain⟨h1,h⟩:=Qf h;obtain⟨z,J,h⟩:=Qb h;obtain rfl:=sj_ h;have h1:lv=1:=h1;subst h1;exact QuU G I hk U hc J u O n
 ·cases h
def Qcb (a0:QAv) (G:QAw):Option (QAv×Int):=match Qax a0 G with
|some r=>some r
|none=>gd (G.Kind=8)<|bd (QkR a0) fun r=>some (r,0)
theorem QpL {a0:QAv} {G:QAw} {r:QAv×Int} (h:Qcb a0 G=some r):EffC prog 8 [.agg (csD a0 a0.Slots a0.Live),.agg [dI G.Kind,.d (.str G.User),.d (.str G.Line),dI G.N]] [] (.tup [.agg (csD r.1 r.1.Slots r.1.Live),dI r.2]) []:=by
 unfold Qcb at h;split at h
 ·rename_i r' I;obtain rfl:=sj_ h;exact QkQ I
 ·obtain⟨e,h⟩:=Qf h;obtain⟨x,J,h⟩:=Qb h;obtain rfl:=sj_ h;rw[e];exact Qw1 J G.User G.Line G.N
def Qu (a0:QAv) (G:QAw):Option (QAv×Int):=
 Qcb a0 G
theorem QaQ {a0:QAv} {G:QAw} {r:QAv×Int} (h:Qu a0 G=some r):EffC prog 8 [.agg [dB a0.Up,dI a0.Box.Edition,.d (slD encSb a0.Box.Lines),dI a0.Box.Trial,.d (slD encSb a0.Box.Back),.d (slD QAr.enc a0.Box.Cands),.d (slD QAu.enc a0.Slots),dI a0.Live,dI a0.Last,dI a0.Job.Kind,dI a0.Job.Step,dI a0.Job.Edition,dI a0.Job.Ticks,.d (slD encSb a0.Job.Lines)],.agg [dI G.Kind,.d (.str G.User),.d (.str G.Line),dI G.N]] [] (.tup [.agg [dB r.1.Up,dI r.1.Box.Edition,.d (slD encSb r.1.Box.Lines),dI r.1.Box.Trial,.d (slD encSb r.1.Box.Back),.d (slD QAr.enc r.1.Box.Cands),.d (slD QAu.enc r.1.Slots),dI r.1.Live,dI r.1.Last,dI r.1.Job.Kind,dI r.1.Job.Step,dI r.1.Job.Edition,dI r.1.Job.Ticks,.d (slD encSb r.1.Job.Lines)],dI r.2]) []:=by
 unfold Qu at h;exact QpL h
def QI (a0:QAv) (J:QAw) (O:Int):Option (QAv):=
 bd (lp (σ:=Bool×Int×Int×Int×Int×List Bt×List Bt×Int×List Bt×List QAr×List QAu×Int×Int×Int×Int) (β:=(Bool×Int×(List Bt)×Int×(List Bt)×(List QAr)×(List QAu)×Int×Int×Int×Int×Int×Int×(List Bt))) (fun s1=>
(if(decide (s1.2.2.2.2.2.2.2.2.2.2.2.2.2.2>0))=true then
 bd (Qu (⟨s1.1,(⟨s1.2.1,s1.2.2.2.2.2.2.1,s1.2.2.2.2.2.2.2.1,s1.2.2.2.2.2.2.2.2.1,s1.2.2.2.2.2.2.2.2.2.1⟩:QAs),s1.2.2.2.2.2.2.2.2.2.2.1,s1.2.2.2.2.2.2.2.2.2.2.2.1,s1.2.2.2.2.2.2.2.2.2.2.2.2.1,(⟨s1.2.2.2.2.2.2.2.2.2.2.2.2.2.1,s1.2.2.1,s1.2.2.2.1,s1.2.2.2.2.1,s1.2.2.2.2.2.1⟩:QAt)⟩:QAv) J) fun I=>
 some (.inl (I.1.Up,I.1.Box.Edition,I.1.Job.Step,I.1.Job.Edition,I.1.Job.Ticks,I.1.Job.Lines,I.1.Box.Lines,I.1.Box.Trial,I.1.Box.Back,I.1.Box.Cands,I.1.Slots,I.1.Live,I.1.Last,I.1.Job.Kind,IntKind.i64.wrap (s1.2.2.2.2.2.2.2.2.2.2.2.2.2.2-1)))
else
 some (.inr (s1.1,s1.2.1,s1.2.2.2.2.2.2.1,s1.2.2.2.2.2.2.2.1,s1.2.2.2.2.2.2.2.2.1,s1.2.2.2.2.2.2.2.2.2.1,s1.2.2.2.2.2.2.2.2.2.2.1,s1.2.2.2.2.2.2.2.2.2.2.2.1,s1.2.2.2.2.2.2.2.2.2.2.2.2.1,s1.2.2.2.2.2.2.2.2.2.2.2.2.2.1,s1.2.2.1,s1.2.2.2.1,s1.2.2.2.2.1,s1.2.2.2.2.2.1)))) (a0.Up,a0.Box.Edition,a0.Job.Step,a0.Job.Edition,a0.Job.Ticks,a0.Job.Lines,a0.Box.Lines,a0.Box.Trial,a0.Box.Back,a0.Box.Cands,a0.Slots,a0.Live,a0.Last,a0.Job.Kind,O)) fun G=>
 some (⟨G.1,(⟨G.2.1,G.2.2.1,G.2.2.2.1,G.2.2.2.2.1,G.2.2.2.2.2.1⟩:QAs),G.2.2.2.2.2.2.1,G.2.2.2.2.2.2.2.1,G.2.2.2.2.2.2.2.2.1,(⟨G.2.2.2.2.2.2.2.2.2.1,G.2.2.2.2.2.2.2.2.2.2.1,G.2.2.2.2.2.2.2.2.2.2.2.1,G.2.2.2.2.2.2.2.2.2.2.2.2.1,G.2.2.2.2.2.2.2.2.2.2.2.2.2⟩:QAt)⟩:QAv)
theorem Z7 {a0:QAv} {G:QAw} {U:Int} {r:QAv} (h:QI a0 G U=some r):EffC prog 16 [.agg [dB a0.Up,dI a0.Box.Edition,.d (slD encSb a0.Box.Lines),dI a0.Box.Trial,.d (slD encSb a0.Box.Back),.d (slD QAr.enc a0.Box.Cands),.d (slD QAu.enc a0.Slots),dI a0.Live,dI a0.Last,dI a0.Job.Kind,dI a0.Job.Step,dI a0.Job.Edition,dI a0.Job.Ticks,.d (slD encSb a0.Job.Lines)],.agg [dI G.Kind,.d (.str G.User),.d (.str G.Line),dI G.N],dI U] [] (.agg [dB r.Up,dI r.Box.Edition,.d (slD encSb r.Box.Lines),dI r.Box.Trial,.d (slD encSb r.Box.Back),.d (slD QAr.enc r.Box.Cands),.d (slD QAu.enc r.Slots),dI r.Live,dI r.Last,dI r.Job.Kind,dI r.Job.Step,dI r.Job.Edition,dI r.Job.Ticks,.d (slD encSb r.Job.Lines)]) []:=by
 refine eY tOk f16 rfl (Qc tOk ?_);obtain⟨x4,J,h⟩:=Qb h;refine QF tOk J (fun s1=>⟨0,18,[(2,dI s1.2.2.2.2.2.2.2.2.2.2.2.2.2.2),(3,.ref 3 0 0),(4,.ref 4 0 0),(6,.ref 6 0 0)],[],[(6,.box 34 [dB false,dI 0,.d (.nil),dI 0,.d (.nil),.d (.nil),.d (.nil),dI 0,dI 0,dI 0,dI 0,dI 0,dI 0,.d (.nil)]),(4,.box 41 [dI G.Kind,.d (.str G.User),.d (.str G.Line),dI G.N]),(3,.box 34 [dB s1.1,dI s1.2.1,.d (slD encSb s1.2.2.2.2.2.2.1),dI s1.2.2.2.2.2.2.2.1,.d (slD encSb s1.2.2.2.2.2.2.2.2.1),.d (slD QAr.enc s1.2.2.2.2.2.2.2.2.2.1),.d (slD QAu.enc s1.2.2.2.2.2.2.2.2.2.2.1),dI s1.2.2.2.2.2.2.2.2.2.2.2.1,dI s1.2.2.2.2.2.2.2.2.2.2.2.2.1,dI s1.2.2.2.2.2.2.2.2.2.2.2.2.2.1,dI s1.2.2.1,dI s1.2.2.2.1,dI s1.2.2.2.2.1,.d (slD encSb s1.2.2.2.2.2.1)])],[⟨[],[]⟩]⟩) ?_ ?_
 ·exact leX []
 ·clear J;intro s1 y2 I O;refine Qc tOk ?_;apply Qo I<;>intro _ I
  ·refine Qc tOk (bE I [] 0 (fun _=>QaQ) fun x5 I=>?_);exact eX I []
  ·cases I
   cases O _ rfl
   cases h
   exact lfE []
def QcL (a0:(List Bt)) (G:(List Bt)):Option (Bool):=
(if(((a0.length:Nat):Int) !=((G.length:Nat):Int))=true then
 some false
else
 bd (lp (σ:=Int) (β:=(Unit⊕Unit)) (fun s1=>
(if(decide (s1<((a0.length:Nat):Int)))=true then
 gd ((0:Int)<=s1∧s1<((a0.length:Nat):Int))<|
 gd ((0:Int)<=s1∧s1<((G.length:Nat):Int))<|
(if(!((a0.getD s1.toNat default)==(G.getD s1.toNat default)))=true then
 some (.inr (.inl ()))
else
 some (.inl (IntKind.i64.wrap (s1+1))))
else
 some (.inr (.inr ())))) 0) fun I=>
(match I with
| .inl d7=>
 some false
| .inr d8=>
 some true))
theorem Qia {a0:(List Bt)} {O:(List Bt)} {r:Bool} (h:QcL a0 O=some r):PureC prog 17 [.d (slD encSb a0),.d (slD encSb O)] (dB r) []:=by
 refine pY tOk f17 rfl (Qc tOk ?_);apply Qo h<;>intro _ h
 ·cases h
  exact lfP []
 ·refine Qc tOk ?_;obtain⟨x4,I,h⟩:=Qb h;refine QF tOk I (fun s1=>⟨0,26,[(0,.d (slD encSb a0)),(1,.d (slD encSb O)),(5,dI s1)],[],[],[]⟩) ?_ ?_
  ·exact leX []
  ·clear I;intro s1 y2 G J;refine Qc tOk ?_;apply Qo G<;>intro _ G
   ·refine Qc tOk ?_;obtain⟨Y,G⟩:=Qf G;obtain⟨U,G⟩:=Qf G;refine QW tOk [] 9 [] [0,0,3,7,0,0,48,112,255] [] (aI Y (aI U (aK ?_)));apply Qo G<;>intro _ G
    ·cases G
     cases J _ rfl
     cases h
     exact lfP []
    ·exact eX G []
   ·cases G
    cases J _ rfl
    cases h
    exact lfP []
end
end Go.Proofs.YtoknnjiangjccaaGreatDoor
