/-
  What some of the program's functions compute: their models, and that the functions compute these; no condition.
-/
import Derived.Test.YtoknnjiangjccaaGreatDoorTyz
import Derived.Test.YtoknnjiangjccaaGreatDoorTbz
import Derived.Test.YtoknnjiangjccaaGreatDoorLayz
import Derived.Test.YtoknnjiangjccaaGreatDoorLay4z
import Derived.Test.YtoknnjiangjccaaGreatDoorAbz8
import Derived.BigCall
import Derived.BigGuard
import Derived.BigQuiet
import Derived.Deep.QuietTactic
import Derived.Maps.OwnSet
import Derived.StringKeys
import Derived.WalkKit
import Derived.Test.YtoknnjiangjccaaGreatDoorKz5
set_option linter.all false
namespace Go.Proofs.YtoknnjiangjccaaGreatDoor
open Go Go.Ab Tryz
set_option maxRecDepth 100000
set_option maxHeartbeats 40000000
noncomputable section
def Qbh (a0:(List Int)) (a1:(List Int)):Option (Bool):=
(if((decide (((a0.length:Nat):Int)>1048576))||(decide (((a1.length:Nat):Int)>1048576)))=true then
 some true
else
 bd (J4 a0) fun x1=>
 bd (α:=Bool×Int×Int×Int×Int×List Bt×List Bt×Int×List Bt×List QAr×List QAu×Int×Int×Int) ((if(!x1.Up)=true then
 bd (Qu x1 (⟨10,ByteArray.empty,ByteArray.empty,0⟩:QAw)) fun x5=>
 some (x5.1.Up,x5.1.Box.Edition,x5.1.Job.Step,x5.1.Job.Edition,x5.1.Job.Ticks,x5.1.Job.Lines,x5.1.Box.Lines,x5.1.Box.Trial,x5.1.Box.Back,x5.1.Box.Cands,x5.1.Slots,x5.1.Live,x5.1.Last,x5.1.Job.Kind)
else
 some (x1.Up,x1.Box.Edition,x1.Job.Step,x1.Job.Edition,x1.Job.Ticks,x1.Job.Lines,x1.Box.Lines,x1.Box.Trial,x1.Box.Back,x1.Box.Cands,x1.Slots,x1.Live,x1.Last,x1.Job.Kind))) fun x2=>
 bd (QI (⟨x2.1,(⟨x2.2.1,x2.2.2.2.2.2.2.1,x2.2.2.2.2.2.2.2.1,x2.2.2.2.2.2.2.2.2.1,x2.2.2.2.2.2.2.2.2.2.1⟩:QAs),x2.2.2.2.2.2.2.2.2.2.2.1,x2.2.2.2.2.2.2.2.2.2.2.2.1,x2.2.2.2.2.2.2.2.2.2.2.2.2.1,(⟨x2.2.2.2.2.2.2.2.2.2.2.2.2.2,x2.2.2.1,x2.2.2.2.1,x2.2.2.2.2.1,x2.2.2.2.2.2.1⟩:QAt)⟩:QAv) (⟨8,ByteArray.empty,ByteArray.empty,0⟩:QAw) 19) fun x6=>
 bd (α:=(Bool×Int×Int×Int×Int×List Bt×List Bt×Int×List Bt×List QAr×List QAu×Int×Int×Int)⊕Bool) ((if(x6.Box.Trial==0)=true then
 bd (Qu x6 (⟨1,(⟨#[97,110,110]⟩:Bt),ByteArray.empty,0⟩:QAw)) fun O=>
 bd (α:=Bool×Int×Int×Int×Int×List Bt×List Bt×Int×List Bt×List QAr×List QAu×Int×Int×Int×Int) ((if(O.2==4)=true then
 bd (QI x6 (⟨9,ByteArray.empty,ByteArray.empty,0⟩:QAw) 1) fun b4=>
 bd (QI b4 (⟨10,ByteArray.empty,ByteArray.empty,0⟩:QAw) 1) fun b6=>
 bd (Qu b6 (⟨1,(⟨#[97,110,110]⟩:Bt),ByteArray.empty,0⟩:QAw)) fun Y=>
 some (Y.1.Up,Y.1.Box.Edition,Y.1.Job.Step,Y.1.Job.Edition,Y.1.Job.Ticks,Y.1.Job.Lines,Y.1.Box.Lines,Y.1.Box.Trial,Y.1.Box.Back,Y.1.Box.Cands,Y.1.Slots,Y.1.Live,Y.1.Last,Y.1.Job.Kind,Y.2)
else
 some (O.1.Up,O.1.Box.Edition,O.1.Job.Step,O.1.Job.Edition,O.1.Job.Ticks,O.1.Job.Lines,O.1.Box.Lines,O.1.Box.Trial,O.1.Box.Back,O.1.Box.Cands,O.1.Slots,O.1.Live,O.1.Last,O.1.Job.Kind,O.2))) fun U=>
 gd ((9:Int)≠0)<|
 bd (Qu (⟨U.1,(⟨U.2.1,U.2.2.2.2.2.2.1,U.2.2.2.2.2.2.2.1,U.2.2.2.2.2.2.2.2.1,U.2.2.2.2.2.2.2.2.2.1⟩:QAs),U.2.2.2.2.2.2.2.2.2.2.1,U.2.2.2.2.2.2.2.2.2.2.2.1,U.2.2.2.2.2.2.2.2.2.2.2.2.1,(⟨U.2.2.2.2.2.2.2.2.2.2.2.2.2.1,U.2.2.1,U.2.2.2.1,U.2.2.2.2.1,U.2.2.2.2.2.1⟩:QAt)⟩:QAv) (⟨5,(⟨#[97,110,110]⟩:Bt),ByteArray.empty,IntKind.i64.wrap (1+((((a1.length:Nat):Int):Int).tmod 9))⟩:QAw)) fun a6=>
(if((U.2.2.2.2.2.2.2.2.2.2.2.2.2.2 !=0)||(a6.2 !=0))=true then
 some (.inr ((U.2.2.2.2.2.2.2.2.2.2.2.2.2.2==3)||((a6.2==9)&&(decide (x6.Box.Edition>=999999)))))
else
 bd (QI a6.1 (⟨8,ByteArray.empty,ByteArray.empty,0⟩:QAw) 19) fun a4=>
 some (.inl (a4.Up,a4.Box.Edition,a4.Job.Step,a4.Job.Edition,a4.Job.Ticks,a4.Job.Lines,a4.Box.Lines,a4.Box.Trial,a4.Box.Back,a4.Box.Cands,a4.Slots,a4.Live,a4.Last,a4.Job.Kind)))
else
 some (.inl (x6.Up,x6.Box.Edition,x6.Job.Step,x6.Job.Edition,x6.Job.Ticks,x6.Job.Lines,x6.Box.Lines,x6.Box.Trial,x6.Box.Back,x6.Box.Cands,x6.Slots,x6.Live,x6.Last,x6.Job.Kind)))) fun x7=>
(match x7 with
| .inl I=>
(if((I.2.2.2.2.2.2.2.1==0)||(I.2.2.2.2.2.2.2.2.2.2.2.2.2 !=0))=true then
 some false
else
 bd (lp (σ:=Bool×Int×Int×Int×Int×List Bt×List Bt×Int×List Bt×List QAr×List QAu×Int×Int×Int×Int) (β:=(Bool×Int×(List Bt)×Int×(List Bt)×(List QAr)×(List QAu)×Int×Int×Int×Int×Int×Int×(List Bt))) (fun G=>
(if(decide (G.2.2.2.2.2.2.2.2.2.2.2.2.2.2>0))=true then
 gd ((2:Int)≠0)<|
(if(((((a0.length:Nat):Int):Int).tmod 2)==0)=true then
 bd (QI (⟨G.1,(⟨G.2.1,G.2.2.2.2.2.2.1,G.2.2.2.2.2.2.2.1,G.2.2.2.2.2.2.2.2.1,G.2.2.2.2.2.2.2.2.2.1⟩:QAs),G.2.2.2.2.2.2.2.2.2.2.1,G.2.2.2.2.2.2.2.2.2.2.2.1,G.2.2.2.2.2.2.2.2.2.2.2.2.1,(⟨G.2.2.2.2.2.2.2.2.2.2.2.2.2.1,G.2.2.1,G.2.2.2.1,G.2.2.2.2.1,G.2.2.2.2.2.1⟩:QAt)⟩:QAv) (⟨8,ByteArray.empty,ByteArray.empty,0⟩:QAw) 1) fun b5=>
 bd (QI b5 (⟨7,ByteArray.empty,ByteArray.empty,0⟩:QAw) 1) fun a2=>
 some (.inl (a2.Up,a2.Box.Edition,a2.Job.Step,a2.Job.Edition,a2.Job.Ticks,a2.Job.Lines,a2.Box.Lines,a2.Box.Trial,a2.Box.Back,a2.Box.Cands,a2.Slots,a2.Live,a2.Last,a2.Job.Kind,IntKind.i64.wrap (G.2.2.2.2.2.2.2.2.2.2.2.2.2.2-1)))
else
 bd (QI (⟨G.1,(⟨G.2.1,G.2.2.2.2.2.2.1,G.2.2.2.2.2.2.2.1,G.2.2.2.2.2.2.2.2.1,G.2.2.2.2.2.2.2.2.2.1⟩:QAs),G.2.2.2.2.2.2.2.2.2.2.1,G.2.2.2.2.2.2.2.2.2.2.2.1,G.2.2.2.2.2.2.2.2.2.2.2.2.1,(⟨G.2.2.2.2.2.2.2.2.2.2.2.2.2.1,G.2.2.1,G.2.2.2.1,G.2.2.2.2.1,G.2.2.2.2.2.1⟩:QAt)⟩:QAv) (⟨7,ByteArray.empty,ByteArray.empty,0⟩:QAw) 1) fun a3=>
 some (.inl (a3.Up,a3.Box.Edition,a3.Job.Step,a3.Job.Edition,a3.Job.Ticks,a3.Job.Lines,a3.Box.Lines,a3.Box.Trial,a3.Box.Back,a3.Box.Cands,a3.Slots,a3.Live,a3.Last,a3.Job.Kind,IntKind.i64.wrap (G.2.2.2.2.2.2.2.2.2.2.2.2.2.2-1))))
else
 some (.inr (G.1,G.2.1,G.2.2.2.2.2.2.1,G.2.2.2.2.2.2.2.1,G.2.2.2.2.2.2.2.2.1,G.2.2.2.2.2.2.2.2.2.1,G.2.2.2.2.2.2.2.2.2.2.1,G.2.2.2.2.2.2.2.2.2.2.2.1,G.2.2.2.2.2.2.2.2.2.2.2.2.1,G.2.2.2.2.2.2.2.2.2.2.2.2.2.1,G.2.2.1,G.2.2.2.1,G.2.2.2.2.1,G.2.2.2.2.2.1)))) (I.1,I.2.1,I.2.2.1,I.2.2.2.1,I.2.2.2.2.1,I.2.2.2.2.2.1,I.2.2.2.2.2.2.1,I.2.2.2.2.2.2.2.1,I.2.2.2.2.2.2.2.2.1,I.2.2.2.2.2.2.2.2.2.1,I.2.2.2.2.2.2.2.2.2.2.1,I.2.2.2.2.2.2.2.2.2.2.2.1,I.2.2.2.2.2.2.2.2.2.2.2.2.1,I.2.2.2.2.2.2.2.2.2.2.2.2.2,I.2.2.2.2.2.2.2.1)) fun J=>
 bd (QcL J.2.2.1 I.2.2.2.2.2.2.2.2.1) fun b3=>
(if(((!b3)||(J.2.2.2.1 !=0))||(J.2.1 !=(IntKind.i64.wrap (I.2.1+1))))=true then
 some false
else
 bd (Qu (⟨J.1,(⟨J.2.1,J.2.2.1,J.2.2.2.1,J.2.2.2.2.1,J.2.2.2.2.2.1⟩:QAs),J.2.2.2.2.2.2.1,J.2.2.2.2.2.2.2.1,J.2.2.2.2.2.2.2.2.1,(⟨J.2.2.2.2.2.2.2.2.2.1,J.2.2.2.2.2.2.2.2.2.2.1,J.2.2.2.2.2.2.2.2.2.2.2.1,J.2.2.2.2.2.2.2.2.2.2.2.2.1,J.2.2.2.2.2.2.2.2.2.2.2.2.2⟩:QAt)⟩:QAv) (⟨6,(⟨#[97,110,110]⟩:Bt),ByteArray.empty,I.2.1⟩:QAw)) fun b2=>
(if(b2.2 !=8)=true then
 some false
else
 bd (Qu (⟨I.1,(⟨I.2.1,I.2.2.2.2.2.2.1,I.2.2.2.2.2.2.2.1,I.2.2.2.2.2.2.2.2.1,I.2.2.2.2.2.2.2.2.2.1⟩:QAs),I.2.2.2.2.2.2.2.2.2.2.1,I.2.2.2.2.2.2.2.2.2.2.2.1,I.2.2.2.2.2.2.2.2.2.2.2.2.1,(⟨I.2.2.2.2.2.2.2.2.2.2.2.2.2,I.2.2.1,I.2.2.2.1,I.2.2.2.2.1,I.2.2.2.2.2.1⟩:QAt)⟩:QAv) (⟨6,(⟨#[97,110,110]⟩:Bt),ByteArray.empty,I.2.1⟩:QAw)) fun a5=>
(if(a5.2==3)=true then
 some true
else
 bd (QI a5.1 (⟨8,ByteArray.empty,ByteArray.empty,0⟩:QAw) 1) fun b7=>
 bd (QI b7 (⟨7,ByteArray.empty,ByteArray.empty,0⟩:QAw) 10) fun a9=>
 bd (QI a9 (⟨9,ByteArray.empty,ByteArray.empty,0⟩:QAw) 1) fun b9=>
 bd (QI b9 (⟨10,ByteArray.empty,ByteArray.empty,0⟩:QAw) 1) fun a7=>
 bd (gcall ((a5.2==0)=true) (QcL a7.Box.Lines I.2.2.2.2.2.2.1)) fun a8=>
 some ((((a5.2==0)&&a8)&&(a7.Box.Trial==0))&&(a7.Box.Edition==I.2.1))))))
| .inr b8=>
 some b8))
theorem Qib {a0:(List Int)} {a1:(List Int)} {r:Bool} (h:Qbh a0 a1=some r):PureC prog 5 [.d (slD Qt a0),.d (slD Qt a1)] (dB r) []:=by
 refine pY tOk f5 rfl (Qc tOk ?_);apply Qo h<;>intro _ h
 ·cases h
  exact lfP []
 ·refine bE h [] 0 (fun _=>QfX) fun x1 h=>?_;obtain⟨x2,a2,h⟩:=Qb h;refine Zm tOk (fun s3=>⟨0,207,[(0,.d (slD Qt a0)),(1,.d (slD Qt a1)),(5,.ref 5 0 0)],[],[(5,.box 34 [dB s3.1,dI s3.2.1,.d (slD encSb s3.2.2.2.2.2.2.1),dI s3.2.2.2.2.2.2.2.1,.d (slD encSb s3.2.2.2.2.2.2.2.2.1),.d (slD QAr.enc s3.2.2.2.2.2.2.2.2.2.1),.d (slD QAu.enc s3.2.2.2.2.2.2.2.2.2.2.1),dI s3.2.2.2.2.2.2.2.2.2.2.2.1,dI s3.2.2.2.2.2.2.2.2.2.2.2.2.1,dI s3.2.2.2.2.2.2.2.2.2.2.2.2.2,dI s3.2.2.1,dI s3.2.2.2.1,dI s3.2.2.2.2.1,.d (slD encSb s3.2.2.2.2.2.1)])],[]⟩) (fun s3=>x2=s3) ?_ ?_
  ·apply Qo a2<;>intro _ a2
   ·refine bE a2 [] 0 (fun _=>QaQ) fun x5 a2=>?_;exact eZ a2 []
   ·exact eZ a2 []
  ·rintro _ rfl;refine bE h [] 0 (fun _=>Z7) fun x6 h=>?_;obtain⟨x7,G,h⟩:=Qb h;refine Zm tOk (fun s8=>⟨0,207,[(0,.d (slD Qt a0)),(5,.ref 5 0 0)],[],[(5,.box 34 [dB s8.1,dI s8.2.1,.d (slD encSb s8.2.2.2.2.2.2.1),dI s8.2.2.2.2.2.2.2.1,.d (slD encSb s8.2.2.2.2.2.2.2.2.1),.d (slD QAr.enc s8.2.2.2.2.2.2.2.2.2.1),.d (slD QAu.enc s8.2.2.2.2.2.2.2.2.2.2.1),dI s8.2.2.2.2.2.2.2.2.2.2.2.1,dI s8.2.2.2.2.2.2.2.2.2.2.2.2.1,dI s8.2.2.2.2.2.2.2.2.2.2.2.2.2,dI s8.2.2.1,dI s8.2.2.2.1,dI s8.2.2.2.2.1,.d (slD encSb s8.2.2.2.2.2.1)])],[]⟩) (fun s8=>x7=.inl s8) ?_ ?_
   ·apply Qo G<;>intro _ G
    ·refine bE G [] 0 (fun _=>QaQ) fun x10 G=>?_;obtain⟨a6,O,G⟩:=Qb G;refine Zm tOk (fun I=>⟨0,207,[(0,.d (slD Qt a0)),(1,.d (slD Qt a1)),(5,.ref 5 0 0),(6,.ref 6 0 0),(7,dI I.2.2.2.2.2.2.2.2.2.2.2.2.2.2)],[],[(6,.box 34 [dB I.1,dI I.2.1,.d (slD encSb I.2.2.2.2.2.2.1),dI I.2.2.2.2.2.2.2.1,.d (slD encSb I.2.2.2.2.2.2.2.2.1),.d (slD QAr.enc I.2.2.2.2.2.2.2.2.2.1),.d (slD QAu.enc I.2.2.2.2.2.2.2.2.2.2.1),dI I.2.2.2.2.2.2.2.2.2.2.2.1,dI I.2.2.2.2.2.2.2.2.2.2.2.2.1,dI I.2.2.2.2.2.2.2.2.2.2.2.2.2.1,dI I.2.2.1,dI I.2.2.2.1,dI I.2.2.2.2.1,.d (slD encSb I.2.2.2.2.2.1)]),(5,.box 34 [dB x6.Up,dI x6.Box.Edition,.d (slD encSb x6.Box.Lines),dI x6.Box.Trial,.d (slD encSb x6.Box.Back),.d (slD QAr.enc x6.Box.Cands),.d (slD QAu.enc x6.Slots),dI x6.Live,dI x6.Last,dI x6.Job.Kind,dI x6.Job.Step,dI x6.Job.Edition,dI x6.Job.Ticks,.d (slD encSb x6.Job.Lines)])],[]⟩) (fun I=>a6=I) ?_ ?_
     ·apply Qo O<;>intro _ O
      ·refine bE O [] 0 (fun _=>Z7) fun x14 O=>bE O [] 0 (fun _=>Z7) fun x15 O=>bE O [] 0 (fun _=>QaQ) fun x16 O=>?_;exact eZ O []
      ·exact eZ O []
     ·rintro _ rfl;refine gdI G fun G=>bE G [] 0 (fun _=>QaQ) fun x18 G=>Qc tOk ?_;apply Qo G<;>intro _ G
      ·cases G
       cases h
       exact lfP []
      ·refine bE G [] 0 (fun _=>Z7) fun x19 G=>?_;exact eX G []
    ·exact eX G []
   ·intro Y a4;subst a4;refine Qc tOk ?_;apply Qo h<;>intro _ h
    ·cases h
     exact lfP []
    ·refine Qc tOk ?_;obtain⟨x23,a3,h⟩:=Qb h;refine QF tOk a3 (fun J=>⟨0,207,[(0,.d (slD Qt a0)),(5,.ref 5 0 0),(9,.d (slD encSb Y.2.2.2.2.2.2.2.2.1)),(10,.d (slD encSb Y.2.2.2.2.2.2.1)),(11,.ref 11 0 0),(12,dI J.2.2.2.2.2.2.2.2.2.2.2.2.2.2)],[],[(11,.box 34 [dB J.1,dI J.2.1,.d (slD encSb J.2.2.2.2.2.2.1),dI J.2.2.2.2.2.2.2.1,.d (slD encSb J.2.2.2.2.2.2.2.2.1),.d (slD QAr.enc J.2.2.2.2.2.2.2.2.2.1),.d (slD QAu.enc J.2.2.2.2.2.2.2.2.2.2.1),dI J.2.2.2.2.2.2.2.2.2.2.2.1,dI J.2.2.2.2.2.2.2.2.2.2.2.2.1,dI J.2.2.2.2.2.2.2.2.2.2.2.2.2.1,dI J.2.2.1,dI J.2.2.2.1,dI J.2.2.2.2.1,.d (slD encSb J.2.2.2.2.2.1)]),(5,.box 34 [dB Y.1,dI Y.2.1,.d (slD encSb Y.2.2.2.2.2.2.1),dI Y.2.2.2.2.2.2.2.1,.d (slD encSb Y.2.2.2.2.2.2.2.2.1),.d (slD QAr.enc Y.2.2.2.2.2.2.2.2.2.1),.d (slD QAu.enc Y.2.2.2.2.2.2.2.2.2.2.1),dI Y.2.2.2.2.2.2.2.2.2.2.2.1,dI Y.2.2.2.2.2.2.2.2.2.2.2.2.1,dI Y.2.2.2.2.2.2.2.2.2.2.2.2.2,dI Y.2.2.1,dI Y.2.2.2.1,dI Y.2.2.2.2.1,.d (slD encSb Y.2.2.2.2.2.1)])],[]⟩) ?_ ?_
     ·exact leX []
     ·clear a3;intro J y21 U a5;refine Qc tOk ?_;apply Qo U<;>intro _ U
      ·refine Qc tOk (Qc tOk (gdI U fun U=>?_));apply Qo U<;>intro _ U
       ·refine bE U [] 0 (fun _=>Z7) fun x25 U=>bE U [] 0 (fun _=>Z7) fun x26 U=>?_;exact eX U []
       ·refine bE U [] 0 (fun _=>Z7) fun x27 U=>?_;exact eX U []
      ·cases U
       cases a5 _ rfl
       refine Qc tOk (bC h 0 (fun _=>Qia) fun x29 h=>?_);apply Qo h<;>intro _ h
       ·cases h
        exact lfP []
       ·refine bE h [] 0 (fun _=>QaQ) fun x30 h=>Qc tOk ?_;apply Qo h<;>intro _ h
        ·cases h
         exact lfP []
        ·refine bE h [] 0 (fun _=>QaQ) fun x31 h=>Qc tOk ?_;apply Qo h<;>intro _ h
         ·cases h
          exact lfP []
         ·refine bE h [] 0 (fun _=>Z7) fun x32 h=>bE h [] 0 (fun _=>Z7) fun x33 h=>bE h [] 0 (fun _=>Z7) fun x34 h=>bE h [] 0 (fun _=>Z7) fun x35 h=>bG h (fun _=>Qia) fun x36 h=>?_;cases h;exact lfP []
end
end Go.Proofs.YtoknnjiangjccaaGreatDoor
