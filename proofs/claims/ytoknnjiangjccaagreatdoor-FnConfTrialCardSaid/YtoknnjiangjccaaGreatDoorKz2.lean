/-
  What some of the program's functions compute: their models, and that the functions compute these; no condition.
-/
import Derived.Test.YtoknnjiangjccaaGreatDoorTyz
import Derived.Test.YtoknnjiangjccaaGreatDoorTbz
import Derived.Test.YtoknnjiangjccaaGreatDoorLayz
import Derived.Test.YtoknnjiangjccaaGreatDoorLay4z
import Derived.Test.YtoknnjiangjccaaGreatDoorAbz8
import Derived.BigCall
import Derived.BigGuard
import Derived.BigQuiet
import Derived.Deep.QuietTactic
import Derived.Maps.OwnSet
import Derived.StringKeys
import Derived.WalkKit
import Derived.Test.YtoknnjiangjccaaGreatDoorKz1
set_option linter.all false
namespace Go.Proofs.YtoknnjiangjccaaGreatDoor
open Go Go.Ab Tryz
set_option maxRecDepth 100000
set_option maxHeartbeats 40000000
noncomputable section
def Qao (a0:QAp):Option (Bt×QAp):=
 bd (Ql a0 10) fun U=>
(if(U.1==9)=true then
 bd (Qy (⟨a0.b,U.2.p⟩:QAp) ([(⟨#[49,48,46,48,47,56]⟩:Bt),(⟨#[49,48,46,48,47,57]⟩:Bt),(⟨#[48,46,48,47,49]⟩:Bt)]:List Bt)) fun x2=>
 gd ((⟨#[110,97,116,32]⟩:Bt).size+x2.1.size<=9223372036854775807)<|
 gd (((⟨#[110,97,116,32]⟩:Bt)++x2.1).size+(⟨#[32]⟩:Bt).size<=9223372036854775807)<|
 bd (Qy (⟨a0.b,x2.2.p⟩:QAp) ([(⟨#[50,48,48,46,49]⟩:Bt),(⟨#[49,49,46,52]⟩:Bt),(⟨#[49,48,46,49]⟩:Bt)]:List Bt)) fun x5=>
 gd ((((⟨#[110,97,116,32]⟩:Bt)++x2.1)++(⟨#[32]⟩:Bt)).size+x5.1.size<=9223372036854775807)<|
 gd (((((⟨#[110,97,116,32]⟩:Bt)++x2.1)++(⟨#[32]⟩:Bt))++x5.1).size+(⟨#[32]⟩:Bt).size<=9223372036854775807)<|
 bd (Qy (⟨a0.b,x5.2.p⟩:QAp) ([(⟨#[52,48,32,52,51]⟩:Bt),(⟨#[50,50,32,50,50]⟩:Bt),(⟨#[57,32,56]⟩:Bt),(⟨#[49,32,54,53,53,51,53]⟩:Bt)]:List Bt)) fun x8=>
 gd ((((((⟨#[110,97,116,32]⟩:Bt)++x2.1)++(⟨#[32]⟩:Bt))++x5.1)++(⟨#[32]⟩:Bt)).size+x8.1.size<=9223372036854775807)<|
 some (((((((⟨#[110,97,116,32]⟩:Bt)++x2.1)++(⟨#[32]⟩:Bt))++x5.1)++(⟨#[32]⟩:Bt))++x8.1),(⟨a0.b,x8.2.p⟩:QAp))
else
(if(U.1==0)=true then
 bd (Qy (⟨a0.b,U.2.p⟩:QAp) ([(⟨#[116,101,114,110]⟩:Bt),(⟨#[116,50]⟩:Bt),(⟨#[97,45,98]⟩:Bt)]:List Bt)) fun b4=>
 gd ((⟨#[104,111,115,116,32]⟩:Bt).size+b4.1.size<=9223372036854775807)<|
 some (((⟨#[104,111,115,116,32]⟩:Bt)++b4.1),(⟨a0.b,b4.2.p⟩:QAp))
else
(if(U.1==1)=true then
 bd (Qy (⟨a0.b,U.2.p⟩:QAp) ([(⟨#[97,110,110]⟩:Bt),(⟨#[98,111,98]⟩:Bt),(⟨#[101,118,101]⟩:Bt),(⟨#[106,111,101]⟩:Bt)]:List Bt)) fun a6=>
 gd ((⟨#[117,115,101,114,32]⟩:Bt).size+a6.1.size<=9223372036854775807)<|
 gd (((⟨#[117,115,101,114,32]⟩:Bt)++a6.1).size+(⟨#[32]⟩:Bt).size<=9223372036854775807)<|
 bd (Qy (⟨a0.b,a6.2.p⟩:QAp) ([(⟨#[97,108,108]⟩:Bt),(⟨#[110,111,110,101]⟩:Bt),(⟨#[114,111,117,116,101]⟩:Bt),(⟨#[112,101,101,114,44,114,111,117,116,101,44,114,117,108,101]⟩:Bt),(⟨#[117,115,101,114]⟩:Bt),(⟨#[100,111,111,114,44,104,111,115,116]⟩:Bt)]:List Bt)) fun b6=>
 gd ((((⟨#[117,115,101,114,32]⟩:Bt)++a6.1)++(⟨#[32]⟩:Bt)).size+b6.1.size<=9223372036854775807)<|
 some (((((⟨#[117,115,101,114,32]⟩:Bt)++a6.1)++(⟨#[32]⟩:Bt))++b6.1),(⟨a0.b,b6.2.p⟩:QAp))
else
 bd (α:=Bool) ((if(U.1==2)=true then
 some (U.1==2)
else
 some (U.1==3))) fun c2=>
(if c2=true then
 bd (α:=Int×Bt) (bd (Ql (⟨a0.b,U.2.p⟩:QAp) 3) fun b8=>
(if(b8.1==0)=true then
 bd (Qy (⟨a0.b,b8.2.p⟩:QAp) ([(⟨#[119,101,98]⟩:Bt),(⟨#[115,115,104]⟩:Bt)]:List Bt)) fun b9=>
 gd ((⟨#[32,105,110,32]⟩:Bt).size+b9.1.size<=9223372036854775807)<|
 some (b9.2.p,((⟨#[32,105,110,32]⟩:Bt)++b9.1))
else
 some (b8.2.p,(⟨#[]⟩:Bt)))) fun b3=>
 bd (Qy (⟨a0.b,b3.1⟩:QAp) ([(⟨#[48]⟩:Bt),(⟨#[49]⟩:Bt),(⟨#[50]⟩:Bt),(⟨#[55]⟩:Bt)]:List Bt)) fun a3=>
 gd ((⟨#[112,111,114,116,32]⟩:Bt).size+a3.1.size<=9223372036854775807)<|
 gd (((⟨#[112,111,114,116,32]⟩:Bt)++a3.1).size+(⟨#[32]⟩:Bt).size<=9223372036854775807)<|
 bd (JC (⟨a0.b,a3.2.p⟩:QAp)) fun a9=>
 gd ((((⟨#[112,111,114,116,32]⟩:Bt)++a3.1)++(⟨#[32]⟩:Bt)).size+a9.1.size<=9223372036854775807)<|
 gd (((((⟨#[112,111,114,116,32]⟩:Bt)++a3.1)++(⟨#[32]⟩:Bt))++a9.1).size+b3.2.size<=9223372036854775807)<|
 some ((((((⟨#[112,111,114,116,32]⟩:Bt)++a3.1)++(⟨#[32]⟩:Bt))++a9.1)++b3.2),(⟨a0.b,a9.2.p⟩:QAp))
else
(if(U.1==4)=true then
 bd (Qy (⟨a0.b,U.2.p⟩:QAp) ([(⟨#[119,101,98]⟩:Bt),(⟨#[115,115,104]⟩:Bt)]:List Bt)) fun G=>
 gd ((⟨#[114,117,108,101,32]⟩:Bt).size+G.1.size<=9223372036854775807)<|
 gd (((⟨#[114,117,108,101,32]⟩:Bt)++G.1).size+(⟨#[32]⟩:Bt).size<=9223372036854775807)<|
 bd (Qy (⟨a0.b,G.2.p⟩:QAp) ([(⟨#[48]⟩:Bt),(⟨#[53]⟩:Bt),(⟨#[49,48]⟩:Bt),(⟨#[57,57]⟩:Bt)]:List Bt)) fun I=>
 gd ((((⟨#[114,117,108,101,32]⟩:Bt)++G.1)++(⟨#[32]⟩:Bt)).size+I.1.size<=9223372036854775807)<|
 gd (((((⟨#[114,117,108,101,32]⟩:Bt)++G.1)++(⟨#[32]⟩:Bt))++I.1).size+(⟨#[32]⟩:Bt).size<=9223372036854775807)<|
 bd (Qy (⟨a0.b,I.2.p⟩:QAp) ([(⟨#[112,101,114,109,105,116]⟩:Bt),(⟨#[100,101,110,121]⟩:Bt)]:List Bt)) fun J=>
 gd ((((((⟨#[114,117,108,101,32]⟩:Bt)++G.1)++(⟨#[32]⟩:Bt))++I.1)++(⟨#[32]⟩:Bt)).size+J.1.size<=9223372036854775807)<|
 gd (((((((⟨#[114,117,108,101,32]⟩:Bt)++G.1)++(⟨#[32]⟩:Bt))++I.1)++(⟨#[32]⟩:Bt))++J.1).size+(⟨#[32]⟩:Bt).size<=9223372036854775807)<|
 bd (JC (⟨a0.b,J.2.p⟩:QAp)) fun Y=>
 gd ((((((((⟨#[114,117,108,101,32]⟩:Bt)++G.1)++(⟨#[32]⟩:Bt))++I.1)++(⟨#[32]⟩:Bt))++J.1)++(⟨#[32]⟩:Bt)).size+Y.1.size<=9223372036854775807)<|
 gd (((((((((⟨#[114,117,108,101,32]⟩:Bt)++G.1)++(⟨#[32]⟩:Bt))++I.1)++(⟨#[32]⟩:Bt))++J.1)++(⟨#[32]⟩:Bt))++Y.1).size+(⟨#[32]⟩:Bt).size<=9223372036854775807)<|
 bd (JC (⟨a0.b,Y.2.p⟩:QAp)) fun a8=>
 gd ((((((((((⟨#[114,117,108,101,32]⟩:Bt)++G.1)++(⟨#[32]⟩:Bt))++I.1)++(⟨#[32]⟩:Bt))++J.1)++(⟨#[32]⟩:Bt))++Y.1)++(⟨#[32]⟩:Bt)).size+a8.1.size<=9223372036854775807)<|
 gd (((((((((((⟨#[114,117,108,101,32]⟩:Bt)++G.1)++(⟨#[32]⟩:Bt))++I.1)++(⟨#[32]⟩:Bt))++J.1)++(⟨#[32]⟩:Bt))++Y.1)++(⟨#[32]⟩:Bt))++a8.1).size+(⟨#[32]⟩:Bt).size<=9223372036854775807)<|
 bd (Qy (⟨a0.b,a8.2.p⟩:QAp) ([(⟨#[48]⟩:Bt),(⟨#[49]⟩:Bt),(⟨#[55]⟩:Bt)]:List Bt)) fun c0=>
 gd ((((((((((((⟨#[114,117,108,101,32]⟩:Bt)++G.1)++(⟨#[32]⟩:Bt))++I.1)++(⟨#[32]⟩:Bt))++J.1)++(⟨#[32]⟩:Bt))++Y.1)++(⟨#[32]⟩:Bt))++a8.1)++(⟨#[32]⟩:Bt)).size+c0.1.size<=9223372036854775807)<|
 some (((((((((((((⟨#[114,117,108,101,32]⟩:Bt)++G.1)++(⟨#[32]⟩:Bt))++I.1)++(⟨#[32]⟩:Bt))++J.1)++(⟨#[32]⟩:Bt))++Y.1)++(⟨#[32]⟩:Bt))++a8.1)++(⟨#[32]⟩:Bt))++c0.1),(⟨a0.b,c0.2.p⟩:QAp))
else
 bd (α:=Bool) ((if(U.1==5)=true then
 some (U.1==5)
else
 some (U.1==6))) fun c1=>
(if c1=true then
 bd (JC (⟨a0.b,U.2.p⟩:QAp)) fun a7=>
 gd ((⟨#[114,111,117,116,101,32]⟩:Bt).size+a7.1.size<=9223372036854775807)<|
 gd (((⟨#[114,111,117,116,101,32]⟩:Bt)++a7.1).size+(⟨#[32]⟩:Bt).size<=9223372036854775807)<|
 bd (Qa3 (⟨a0.b,a7.2.p⟩:QAp)) fun b7=>
 gd ((((⟨#[114,111,117,116,101,32]⟩:Bt)++a7.1)++(⟨#[32]⟩:Bt)).size+b7.1.size<=9223372036854775807)<|
 some (((((⟨#[114,111,117,116,101,32]⟩:Bt)++a7.1)++(⟨#[32]⟩:Bt))++b7.1),(⟨a0.b,b7.2.p⟩:QAp))
else
(if(U.1==7)=true then
 bd (Qa3 (⟨a0.b,U.2.p⟩:QAp)) fun a1=>
 gd ((⟨#[112,101,101,114,32]⟩:Bt).size+a1.1.size<=9223372036854775807)<|
 gd (((⟨#[112,101,101,114,32]⟩:Bt)++a1.1).size+(⟨#[32]⟩:Bt).size<=9223372036854775807)<|
 bd (Qy (⟨a0.b,a1.2.p⟩:QAp) ([(⟨#[49]⟩:Bt),(⟨#[57]⟩:Bt)]:List Bt)) fun a4=>
 gd ((((⟨#[112,101,101,114,32]⟩:Bt)++a1.1)++(⟨#[32]⟩:Bt)).size+a4.1.size<=9223372036854775807)<|
 gd (((((⟨#[112,101,101,114,32]⟩:Bt)++a1.1)++(⟨#[32]⟩:Bt))++a4.1).size+(⟨#[32]⟩:Bt).size<=9223372036854775807)<|
 bd (Qy (⟨a0.b,a4.2.p⟩:QAp) ([(⟨#[55]⟩:Bt),(⟨#[57,57,57,57,57,57]⟩:Bt)]:List Bt)) fun b2=>
 gd ((((((⟨#[112,101,101,114,32]⟩:Bt)++a1.1)++(⟨#[32]⟩:Bt))++a4.1)++(⟨#[32]⟩:Bt)).size+b2.1.size<=9223372036854775807)<|
 some (((((((⟨#[112,101,101,114,32]⟩:Bt)++a1.1)++(⟨#[32]⟩:Bt))++a4.1)++(⟨#[32]⟩:Bt))++b2.1),(⟨a0.b,b2.2.p⟩:QAp))
else
 bd (Qy (⟨a0.b,U.2.p⟩:QAp) ([(⟨#[49]⟩:Bt),(⟨#[55]⟩:Bt)]:List Bt)) fun O=>
 gd ((⟨#[100,111,111,114,32]⟩:Bt).size+O.1.size<=9223372036854775807)<|
 gd (((⟨#[100,111,111,114,32]⟩:Bt)++O.1).size+(⟨#[32]⟩:Bt).size<=9223372036854775807)<|
 bd (Qy (⟨a0.b,O.2.p⟩:QAp) ([(⟨#[50,50]⟩:Bt),(⟨#[56,48]⟩:Bt),(⟨#[54,53,53,51,53]⟩:Bt)]:List Bt)) fun a2=>
 gd ((((⟨#[100,111,111,114,32]⟩:Bt)++O.1)++(⟨#[32]⟩:Bt)).size+a2.1.size<=9223372036854775807)<|
 gd (((((⟨#[100,111,111,114,32]⟩:Bt)++O.1)++(⟨#[32]⟩:Bt))++a2.1).size+(⟨#[32]⟩:Bt).size<=9223372036854775807)<|
 bd (Qa3 (⟨a0.b,a2.2.p⟩:QAp)) fun a5=>
 gd ((((((⟨#[100,111,111,114,32]⟩:Bt)++O.1)++(⟨#[32]⟩:Bt))++a2.1)++(⟨#[32]⟩:Bt)).size+a5.1.size<=9223372036854775807)<|
 gd (((((((⟨#[100,111,111,114,32]⟩:Bt)++O.1)++(⟨#[32]⟩:Bt))++a2.1)++(⟨#[32]⟩:Bt))++a5.1).size+(⟨#[32]⟩:Bt).size<=9223372036854775807)<|
 bd (Qy (⟨a0.b,a5.2.p⟩:QAp) ([(⟨#[50,50]⟩:Bt),(⟨#[49]⟩:Bt)]:List Bt)) fun b5=>
 gd ((((((((⟨#[100,111,111,114,32]⟩:Bt)++O.1)++(⟨#[32]⟩:Bt))++a2.1)++(⟨#[32]⟩:Bt))++a5.1)++(⟨#[32]⟩:Bt)).size+b5.1.size<=9223372036854775807)<|
 some (((((((((⟨#[100,111,111,114,32]⟩:Bt)++O.1)++(⟨#[32]⟩:Bt))++a2.1)++(⟨#[32]⟩:Bt))++a5.1)++(⟨#[32]⟩:Bt))++b5.1),(⟨a0.b,b5.2.p⟩:QAp)))))))))
theorem Qdh {a0:QAp} {r:Bt×QAp} (h:Qao a0=some r):EffC prog 48 [.ref 9000 0 0] [(9000,.box 76 [.d (slD Qt a0.b),dI a0.p])] (.d (.str r.1)) [(9000,.box 76 [.d (slD Qt a0.b),dI r.2.p])]:=by
 refine eY tOk f48 rfl (Qc tOk (bE h [(9000,9000)] 0 (fun _=>Qq) fun x1 h=>?_));apply Qo h<;>intro _ h
 ·refine QbB (enc:=encSb) ([(⟨#[49,48,46,48,47,56]⟩:Bt),(⟨#[49,48,46,48,47,57]⟩:Bt),(⟨#[48,46,48,47,49]⟩:Bt)]:List Bt) ?_;obtain⟨x2,b8,h⟩:=Qb h;refine Zp [9] (cE [(9000,9000)] 0 (QG b8) (gdI h fun h=>gdI h fun h=>QbB (enc:=encSb) ([(⟨#[50,48,48,46,49]⟩:Bt),(⟨#[49,49,46,52]⟩:Bt),(⟨#[49,48,46,49]⟩:Bt)]:List Bt) ?_));obtain⟨x5,c1,h⟩:=Qb h;refine Zp [14] (cE [(9000,9000)] 0 (QG c1) (gdI h fun h=>gdI h fun h=>QbB (enc:=encSb) ([(⟨#[52,48,32,52,51]⟩:Bt),(⟨#[50,50,32,50,50]⟩:Bt),(⟨#[57,32,56]⟩:Bt),(⟨#[49,32,54,53,53,51,53]⟩:Bt)]:List Bt) ?_));obtain⟨x8,c0,h⟩:=Qb h;refine Zp [19] (cE [(9000,9000)] 0 (QG c0) (gdI h fun h=>?_));cases h;exact lfE []
 ·apply Qo h<;>intro _ h
  ·refine QbB (enc:=encSb) ([(⟨#[116,101,114,110]⟩:Bt),(⟨#[116,50]⟩:Bt),(⟨#[97,45,98]⟩:Bt)]:List Bt) ?_;obtain⟨x10,b4,h⟩:=Qb h;refine Zp [25] (cE [(9000,9000)] 0 (QG b4) (gdI h fun h=>?_));cases h;exact lfE []
  ·apply Qo h<;>intro _ h
   ·refine QbB (enc:=encSb) ([(⟨#[97,110,110]⟩:Bt),(⟨#[98,111,98]⟩:Bt),(⟨#[101,118,101]⟩:Bt),(⟨#[106,111,101]⟩:Bt)]:List Bt) ?_;obtain⟨x12,a7,h⟩:=Qb h;refine Zp [31] (cE [(9000,9000)] 0 (QG a7) (gdI h fun h=>gdI h fun h=>QbB (enc:=encSb) ([(⟨#[97,108,108]⟩:Bt),(⟨#[110,111,110,101]⟩:Bt),(⟨#[114,111,117,116,101]⟩:Bt),(⟨#[112,101,101,114,44,114,111,117,116,101,44,114,117,108,101]⟩:Bt),(⟨#[117,115,101,114]⟩:Bt),(⟨#[100,111,111,114,44,104,111,115,116]⟩:Bt)]:List Bt) ?_));obtain⟨x15,a2,h⟩:=Qb h;refine Zp [36] (cE [(9000,9000)] 0 (QG a2) (gdI h fun h=>?_));cases h;exact lfE []
   ·obtain⟨c2,J,h⟩:=Qb h;refine Zm tOk (fun Y=>⟨0,131,[(0,.ref 9000 0 0),(5,dI x1.1),(39,dB Y)],[],[(9000,.box 76 [.d (slD Qt a0.b),dI x1.2.p])],[⟨[(0,.ref 9000 0 0)],[]⟩]⟩) (fun Y=>c2=Y) ?_ ?_
    ·apply Qo J<;>intro _ J
     ·exact eZ J []
     ·exact eZ J []
    ·rintro _ rfl;apply Qo h<;>intro _ h
     ·obtain⟨b9,G,h⟩:=Qb h;refine Zm tOk (fun O=>⟨0,131,[(0,.ref 9000 0 0),(3,.d (.str O.2))],[],[(9000,.box 76 [.d (slD Qt a0.b),dI O.1])],[⟨[(0,.ref 9000 0 0)],[]⟩]⟩) (fun O=>b9=O) ?_ ?_
      ·refine bE G [(9000,9000)] 0 (fun _=>Qq) fun x23 G=>?_;apply Qo G<;>intro _ G
       ·refine QbB (enc:=encSb) ([(⟨#[119,101,98]⟩:Bt),(⟨#[115,115,104]⟩:Bt)]:List Bt) ?_;obtain⟨x24,a6,G⟩:=Qb G;refine Zp [46] (cE [(9000,9000)] 0 (QG a6) (gdI G fun G=>?_));exact eZ G []
       ·exact eZ G []
      ·rintro _ rfl;refine QbB (enc:=encSb) ([(⟨#[48]⟩:Bt),(⟨#[49]⟩:Bt),(⟨#[50]⟩:Bt),(⟨#[55]⟩:Bt)]:List Bt) ?_;obtain⟨x26,b3,h⟩:=Qb h;refine Zp [50] (cE [(9000,9000)] 0 (QG b3) (gdI h fun h=>gdI h fun h=>bE h [(9000,9000)] 0 (fun _=>Qb4) fun x29 h=>gdI h fun h=>gdI h fun h=>?_));cases h;exact lfE []
     ·apply Qo h<;>intro _ h
      ·refine QbB (enc:=encSb) ([(⟨#[119,101,98]⟩:Bt),(⟨#[115,115,104]⟩:Bt)]:List Bt) ?_;obtain⟨x32,a5,h⟩:=Qb h;refine Zp [62] (cE [(9000,9000)] 0 (QG a5) (gdI h fun h=>gdI h fun h=>QbB (enc:=encSb) ([(⟨#[48]⟩:Bt),(⟨#[53]⟩:Bt),(⟨#[49,48]⟩:Bt),(⟨#[57,57]⟩:Bt)]:List Bt) ?_));obtain⟨x35,a9,h⟩:=Qb h;refine Zp [67] (cE [(9000,9000)] 0 (QG a9) (gdI h fun h=>gdI h fun h=>QbB (enc:=encSb) ([(⟨#[112,101,114,109,105,116]⟩:Bt),(⟨#[100,101,110,121]⟩:Bt)]:List Bt) ?_));obtain⟨x38,b5,h⟩:=Qb h;refine Zp [72] (cE [(9000,9000)] 0 (QG b5) (gdI h fun h=>gdI h fun h=>bE h [(9000,9000)] 0 (fun _=>Qb4) fun x41 h=>gdI h fun h=>gdI h fun h=>bE h [(9000,9000)] 0 (fun _=>Qb4) fun x44 h=>gdI h fun h=>gdI h fun h=>QbB (enc:=encSb) ([(⟨#[48]⟩:Bt),(⟨#[49]⟩:Bt),(⟨#[55]⟩:Bt)]:List Bt) ?_));obtain⟨x47,a8,h⟩:=Qb h;refine Zp [85] (cE [(9000,9000)] 0 (QG a8) (gdI h fun h=>?_));cases h;exact lfE []
      ·obtain⟨b7,I,h⟩:=Qb h;refine Zm tOk (fun U=>⟨0,131,[(0,.ref 9000 0 0),(5,dI x1.1),(88,dB U)],[],[(9000,.box 76 [.d (slD Qt a0.b),dI x1.2.p])],[⟨[(0,.ref 9000 0 0)],[]⟩]⟩) (fun U=>b7=U) ?_ ?_
       ·apply Qo I<;>intro _ I
        ·exact eZ I []
        ·exact eZ I []
       ·rintro _ rfl;apply Qo h<;>intro _ h
        ·refine bE h [(9000,9000)] 0 (fun _=>Qb4) fun x52 h=>gdI h fun h=>gdI h fun h=>bE h [(9000,9000)] 0 (fun _=>QeH) fun x55 h=>gdI h fun h=>?_;cases h;exact lfE []
        ·apply Qo h<;>intro _ h
         ·refine bE h [(9000,9000)] 0 (fun _=>QeH) fun x57 h=>gdI h fun h=>gdI h fun h=>QbB (enc:=encSb) ([(⟨#[49]⟩:Bt),(⟨#[57]⟩:Bt)]:List Bt) ?_;obtain⟨x60,a3,h⟩:=Qb h;refine Zp [105] (cE [(9000,9000)] 0 (QG a3) (gdI h fun h=>gdI h fun h=>QbB (enc:=encSb) ([(⟨#[55]⟩:Bt),(⟨#[57,57,57,57,57,57]⟩:Bt)]:List Bt) ?_));obtain⟨x63,b6,h⟩:=Qb h;refine Zp [110] (cE [(9000,9000)] 0 (QG b6) (gdI h fun h=>?_));cases h;exact lfE []
         ·refine QbB (enc:=encSb) ([(⟨#[49]⟩:Bt),(⟨#[55]⟩:Bt)]:List Bt) ?_;obtain⟨x65,b2,h⟩:=Qb h;refine Zp [114] (cE [(9000,9000)] 0 (QG b2) (gdI h fun h=>gdI h fun h=>QbB (enc:=encSb) ([(⟨#[50,50]⟩:Bt),(⟨#[56,48]⟩:Bt),(⟨#[54,53,53,51,53]⟩:Bt)]:List Bt) ?_));obtain⟨x68,a4,h⟩:=Qb h;refine Zp [119] (cE [(9000,9000)] 0 (QG a4) (gdI h fun h=>gdI h fun h=>bE h [(9000,9000)] 0 (fun _=>QeH) fun x71 h=>gdI h fun h=>gdI h fun h=>QbB (enc:=encSb) ([(⟨#[50,50]⟩:Bt),(⟨#[49]⟩:Bt)]:List Bt) ?_));obtain⟨x74,a1,h⟩:=Qb h;refine Zp [128] (cE [(9000,9000)] 0 (QG a1) (gdI h fun h=>?_));cases h;exact lfE []
def Qdi (a0:QAp):Option ((List Bt)×QAp):=
 bd (α:=Int×List Bt) (bd (Ql a0 3) fun x4=>
(if(decide (x4.1>0))=true then
 bd (QaI ([(⟨#[117,115,101,114,32,97,110,110,32,97,108,108]⟩:Bt)]:List Bt) (⟨#[112,111,114,116,32,48,32,49,48,46,48,47,56]⟩:Bt)) fun x5=>
 some (x4.2.p,x5)
else
 some (x4.2.p,([(⟨#[117,115,101,114,32,97,110,110,32,97,108,108]⟩:Bt)]:List Bt)))) fun x1=>
 bd (α:=Int×List Bt) (bd (Ql (⟨a0.b,x1.1⟩:QAp) 3) fun x9=>
(if(decide (x9.1>0))=true then
 bd (Qy (⟨a0.b,x9.2.p⟩:QAp) ([(⟨#[114,111,117,116,101,44,114,117,108,101]⟩:Bt),(⟨#[97,108,108]⟩:Bt),(⟨#[110,111,110,101]⟩:Bt),(⟨#[112,111,114,116]⟩:Bt)]:List Bt)) fun J=>
 gd ((⟨#[117,115,101,114,32,98,111,98,32]⟩:Bt).size+J.1.size<=9223372036854775807)<|
 bd (QaI x1.2 ((⟨#[117,115,101,114,32,98,111,98,32]⟩:Bt)++J.1)) fun a5=>
 some (J.2.p,a5)
else
 some (x9.2.p,x1.2))) fun x6=>
 bd (α:=Int×List Bt) (bd (Ql (⟨a0.b,x6.1⟩:QAp) 3) fun O=>
(if(O.1==0)=true then
 bd (QaI x6.2 (⟨#[110,97,116,32,49,48,46,48,47,57,32,50,48,48,46,49,32,52,48,32,52,51]⟩:Bt)) fun a4=>
 some (O.2.p,a4)
else
 some (O.2.p,x6.2))) fun a1=>
 bd (Ql (⟨a0.b,a1.1⟩:QAp) 7) fun Y=>
 bd (α:=Int×Int) (bd (Ql (⟨a0.b,Y.2.p⟩:QAp) 9) fun I=>
(if(I.1==0)=true then
 some (I.2.p,40)
else
 some (I.2.p,Y.1))) fun a2=>
 bd (lp (σ:=Int×List Bt×Int) (β:=((List Bt)×Int)) (fun G=>
(if(decide (G.2.2>0))=true then
 bd (Qao (⟨a0.b,G.1⟩:QAp)) fun U=>
 bd (QaI G.2.1 U.1) fun a6=>
 some (.inl (U.2.p,a6,IntKind.i64.wrap (G.2.2-1)))
else
 some (.inr (G.2.1,G.1)))) (a2.1,a1.2,a2.2)) fun a3=>
 some (a3.1,(⟨a0.b,a3.2⟩:QAp))
theorem QlX {a0:QAp} {r:(List Bt)×QAp} (h:Qdi a0=some r):EffC prog 19 [.ref 9000 0 0] [(9000,.box 76 [.d (slD Qt a0.b),dI a0.p])] (.d (slD encSb r.1)) [(9000,.box 76 [.d (slD Qt a0.b),dI r.2.p])]:=by
 refine eY tOk f19 rfl (QbB (enc:=encSb) ([(⟨#[117,115,101,114,32,97,110,110,32,97,108,108]⟩:Bt)]:List Bt) ?_);obtain⟨x1,O,h⟩:=Qb h;refine Zm tOk (fun s2=>⟨0,39,[(0,.ref 9000 0 0),(3,.d (slD encSb s2.2))],[],[(9000,.box 76 [.d (slD Qt a0.b),dI s2.1])],[⟨[(0,.ref 9000 0 0)],[]⟩]⟩) (fun s2=>x1=s2) ?_ ?_
 ·refine bE O [(9000,9000)] 0 (fun _=>Qq) fun x4 O=>?_;apply Qo O<;>intro _ O
  ·obtain⟨x5,a7,O⟩:=Qb O;refine Zp [5] (cE [] 0 (QdT a7) ?_);exact eZ O []
  ·exact eZ O [.f [5]]
 ·rintro _ rfl;obtain⟨x6,I,h⟩:=Qb h;refine Zm tOk (fun s7=>⟨0,39,[(0,.ref 9000 0 0),(3,.d (slD encSb s7.2))],[],[(9000,.box 76 [.d (slD Qt a0.b),dI s7.1])],[⟨[(0,.ref 9000 0 0)],[]⟩]⟩) (fun s7=>x6=s7) ?_ ?_
  ·refine bE I [(9000,9000)] 0 (fun _=>Qq) fun x9 I=>?_;apply Qo I<;>intro _ I
   ·refine QbB (enc:=encSb) ([(⟨#[114,111,117,116,101,44,114,117,108,101]⟩:Bt),(⟨#[97,108,108]⟩:Bt),(⟨#[110,111,110,101]⟩:Bt),(⟨#[112,111,114,116]⟩:Bt)]:List Bt) ?_;obtain⟨x10,a6,I⟩:=Qb I;refine Zp [16] (cE [(9000,9000)] 0 (QG a6) (gdI I fun I=>bE I [] 0 (fun _=>QdT) fun x12 I=>?_));exact eZ I []
   ·exact eZ I []
  ·rintro _ rfl;obtain⟨a5,G,h⟩:=Qb h;refine Zm tOk (fun a2=>⟨0,39,[(0,.ref 9000 0 0),(3,.d (slD encSb a2.2))],[],[(9000,.box 76 [.d (slD Qt a0.b),dI a2.1])],[⟨[(0,.ref 9000 0 0)],[]⟩]⟩) (fun a2=>a5=a2) ?_ ?_
   ·refine bE G [(9000,9000)] 0 (fun _=>Qq) fun x16 G=>?_;apply Qo G<;>intro _ G
    ·refine bE G [] 0 (fun _=>QdT) fun x17 G=>?_;exact eZ G []
    ·exact eZ G []
   ·rintro _ rfl;refine bE h [(9000,9000)] 0 (fun _=>Qq) fun x18 h=>?_;obtain⟨a8,J,h⟩:=Qb h;refine Zm tOk (fun Y=>⟨0,39,[(0,.ref 9000 0 0),(3,.d (slD encSb a5.2)),(4,dI Y.2)],[],[(9000,.box 76 [.d (slD Qt a0.b),dI Y.1])],[⟨[(0,.ref 9000 0 0)],[]⟩]⟩) (fun Y=>a8=Y) ?_ ?_
    ·refine bE J [(9000,9000)] 0 (fun _=>Qq) fun x22 J=>?_;apply Qo J<;>intro _ J
     ·exact eZ J []
     ·exact eZ J []
    ·rintro _ rfl;refine Qc tOk ?_;obtain⟨x26,a3,h⟩:=Qb h;refine QF tOk a3 (fun a1=>⟨0,39,[(0,.ref 9000 0 0),(3,.d (slD encSb a1.2.1)),(4,dI a1.2.2)],[],[(9000,.box 76 [.d (slD Qt a0.b),dI a1.1])],[⟨[(0,.ref 9000 0 0)],[]⟩]⟩) ?_ ?_
     ·exact leX []
     ·clear a3;intro a1 y24 U a4;refine Qc tOk ?_;apply Qo U<;>intro _ U
      ·refine Qc tOk (bE U [(9000,9000)] 0 (fun _=>Qdh) fun x27 U=>bE U [] 0 (fun _=>QdT) fun x28 U=>?_);exact eX U []
      ·cases U
       cases a4 _ rfl
       cases h
       exact lfE []
def Z3 (a0:(List Bt)):Option ((List Bt)):=
 gd (((0)+(a0.length))*(16+1)<=70368744177664)<|
 some a0
theorem JV {a0:(List Bt)} {r:(List Bt)} (h:Z3 a0=some r):PureC prog 78 [.d (slD encSb a0)] (.osl 5001 0 r.length) [⟨5001,9,1,r.length,rows encSb r⟩]:=by
 refine pY tOk f78 rfl (gdI h fun h=>QyC (enc:=encSb) (ys:=a0) ?_);cases h;exact lfP [.s [(5,5001),(5001,5)]]
def Qa4 (a0:QAv):Option (QAv):=
 bd (Z3 a0.Box.Lines) fun x1=>
 bd (Z3 a0.Box.Back) fun x2=>
 bd (lp (σ:=List QAr×Int) (β:=(Nat×(List QAr))) (fun I=>
(if(decide (I.2<((a0.Box.Cands.length:Nat):Int)))=true then
 gd ((0:Int)<=I.2∧I.2<((a0.Box.Cands.length:Nat):Int))<|
 bd (Z3 ((a0.Box.Cands.getD I.2.toNat default).From)) fun x8=>
 bd (Z3 ((a0.Box.Cands.getD I.2.toNat default).Lines)) fun Y=>
 gd (((I.1.length)+(([{(a0.Box.Cands.getD I.2.toNat default) with From:=x8,Lines:=Y}]:List QAr).length))*(72+1)<=70368744177664)<|
 some (.inl ((I.1++([{(a0.Box.Cands.getD I.2.toNat default) with From:=x8,Lines:=Y}]:List QAr)),IntKind.i64.wrap (I.2+1)))
else
 some (.inr (I.1.length,I.1)))) (([]:List QAr),0)) fun x6=>
 bd (lp (σ:=List QAu×Int) (β:=(Nat×(List QAu))) (fun G=>
(if(decide (G.2<((a0.Slots.length:Nat):Int)))=true then
 gd ((0:Int)<=G.2∧G.2<((a0.Slots.length:Nat):Int))<|
 bd (Z3 ((a0.Slots.getD G.2.toNat default).Lines)) fun J=>
 gd (((G.1.length)+(([{(a0.Slots.getD G.2.toNat default) with Lines:=J}]:List QAu).length))*(48+1)<=70368744177664)<|
 some (.inl ((G.1++([{(a0.Slots.getD G.2.toNat default) with Lines:=J}]:List QAu)),IntKind.i64.wrap (G.2+1)))
else
 some (.inr (G.1.length,G.1)))) (([]:List QAu),0)) fun O=>
 bd (Z3 a0.Job.Lines) fun U=>
 some ({a0 with Box:={a0.Box with Lines:=x1,Back:=x2,Cands:=x6.2},Slots:=O.2,Job:={a0.Job with Lines:=U}})
theorem QeI {a0:QAv} {r:QAv} (h:Qa4 a0=some r):EffC prog 31 [.agg [dB a0.Up,dI a0.Box.Edition,.d (slD encSb a0.Box.Lines),dI a0.Box.Trial,.d (slD encSb a0.Box.Back),.d (slD QAr.enc a0.Box.Cands),.d (slD QAu.enc a0.Slots),dI a0.Live,dI a0.Last,dI a0.Job.Kind,dI a0.Job.Step,dI a0.Job.Edition,dI a0.Job.Ticks,.d (slD encSb a0.Job.Lines)]] [] (.agg [dB r.Up,dI r.Box.Edition,.osl 5001 0 r.Box.Lines.length,dI r.Box.Trial,.osl 5002 0 r.Box.Back.length,.osl 5003 0 r.Box.Cands.length,.osl 5004 0 r.Slots.length,dI r.Live,dI r.Last,dI r.Job.Kind,dI r.Job.Step,dI r.Job.Edition,dI r.Job.Ticks,.osl 5005 0 r.Job.Lines.length]) [(5001,.arr 9 1 r.Box.Lines.length (rows encSb r.Box.Lines)),(5002,.arr 9 1 r.Box.Back.length (rows encSb r.Box.Back)),(5003,.arr 93 4 r.Box.Cands.length (rows QAr.enc r.Box.Cands)),(5004,.arr 61 4 r.Slots.length (rows QAu.enc r.Slots)),(5005,.arr 9 1 r.Job.Lines.length (rows encSb r.Job.Lines))]:=by
 refine eY tOk f31 rfl (bC h 1000 (fun _=>JV) fun Y h=>bC h 2000 (fun _=>JV) fun x2 h=>Qc tOk ?_);obtain⟨x6,a2,h⟩:=Qb h;refine QF tOk a2 (fun J=>⟨0,81,[(1,.ref 1 0 0),(2,.ref 2 0 0),(3,.osl 7002 0 J.1.length),(4,dI J.2)],[],[(7002,.arr 93 4 J.1.length (rows QAr.enc J.1)),(7001,.arr 9 1 x2.length (rows encSb x2)),(6001,.arr 9 1 Y.length (rows encSb Y)),(2,.box 34 [dB false,dI 0,.d (.nil),dI 0,.d (.nil),.d (.nil),.d (.nil),dI 0,dI 0,dI 0,dI 0,dI 0,dI 0,.d (.nil)]),(1,.box 34 [dB a0.Up,dI a0.Box.Edition,.osl 6001 0 Y.length,dI a0.Box.Trial,.osl 7001 0 x2.length,.d (slD QAr.enc a0.Box.Cands),.d (slD QAu.enc a0.Slots),dI a0.Live,dI a0.Last,dI a0.Job.Kind,dI a0.Job.Step,dI a0.Job.Edition,dI a0.Job.Ticks,.d (slD encSb a0.Job.Lines)])],[⟨[],[]⟩]⟩) ?_ ?_
 ·exact leX [.k [7002],.p 7002 93 4 (rows QAr.enc ([]:List QAr))]
 ·clear a2;intro J y4 O a4;refine Qc tOk ?_;apply Qo O<;>intro _ O
  ·refine Qc tOk (gdI O fun O=>bC O 3000 (fun _=>JV) fun x8 O=>bC O 4000 (fun _=>JV) fun x9 O=>QbB (enc:=QAr.enc) ([{(a0.Box.Cands.getD J.2.toNat default) with From:=x8,Lines:=x9}]:List QAr) (gdI O fun O=>Qf7 (enc:=QAr.enc) (xs:=J.1) (ys:=([{(a0.Box.Cands.getD J.2.toNat default) with From:=x8,Lines:=x9}]:List QAr)) ?_));exact eX O []
  ·cases O
   cases a4 _ rfl
   refine Qc tOk ?_;obtain⟨x15,U,h⟩:=Qb h;refine QF tOk U (fun I=>⟨0,81,[(1,.ref 1 0 0),(2,.ref 2 0 0),(6,.osl 7003 0 I.1.length),(7,dI I.2)],[],[(7003,.arr 61 4 I.1.length (rows QAu.enc I.1)),(7002,.arr 93 4 (J.1.length,J.1).1 (rows QAr.enc (J.1.length,J.1).2)),(7001,.arr 9 1 x2.length (rows encSb x2)),(6001,.arr 9 1 Y.length (rows encSb Y)),(2,.box 34 [dB false,dI 0,.d (.nil),dI 0,.d (.nil),.d (.nil),.d (.nil),dI 0,dI 0,dI 0,dI 0,dI 0,dI 0,.d (.nil)]),(1,.box 34 [dB a0.Up,dI a0.Box.Edition,.osl 6001 0 Y.length,dI a0.Box.Trial,.osl 7001 0 x2.length,.osl 7002 0 (J.1.length,J.1).1,.d (slD QAu.enc a0.Slots),dI a0.Live,dI a0.Last,dI a0.Job.Kind,dI a0.Job.Step,dI a0.Job.Edition,dI a0.Job.Ticks,.d (slD encSb a0.Job.Lines)])],[⟨[],[]⟩]⟩) ?_ ?_
   ·exact leX [.k [7003],.p 7003 61 4 (rows QAu.enc ([]:List QAu))]
   ·clear U;intro I y13 G a1;refine Qc tOk ?_;apply Qo G<;>intro _ G
    ·refine Qc tOk (gdI G fun G=>bC G 3000 (fun _=>JV) fun a3 G=>QbB (enc:=QAu.enc) ([{(a0.Slots.getD I.2.toNat default) with Lines:=a3}]:List QAu) (gdI G fun G=>Qf7 (enc:=QAu.enc) (xs:=I.1) (ys:=([{(a0.Slots.getD I.2.toNat default) with Lines:=a3}]:List QAu)) ?_));exact eX G []
    ·cases G
     cases a1 _ rfl
     refine bC h 3000 (fun _=>JV) fun x20 h=>?_;cases h;exact lfE [.s [(5001,6001),(5002,7001),(5003,7002),(5004,7003),(5005,8001),(6001,5001),(7001,5002),(7002,5003),(7003,5004),(8001,5005)]]
def Qct (a0:(List Bt)):Option (QAv×Bool):=
 bd (Zu a0) fun G=>
(if(G !=0)=true then
 some ((⟨false,(⟨0,[],0,[],[]⟩:QAs),[],0,0,(⟨0,0,0,0,[]⟩:QAt)⟩:QAv),false)
else
 bd (Qa4 (⟨true,(⟨0,a0,0,[],[]⟩:QAs),([(⟨true,0,false,a0⟩:QAu),(⟨false,0,false,[]⟩:QAu)]:List QAu),0,0,(⟨0,0,0,0,[]⟩:QAt)⟩:QAv)) fun I=>
 some (I,true))
theorem QkA {a0:(List Bt)} {r:QAv×Bool} (h:Qct a0=some r):EffC prog 20 [.d (slD encSb a0)] [] (.tup [.agg [dB r.1.Up,dI r.1.Box.Edition,.osl 5001 0 r.1.Box.Lines.length,dI r.1.Box.Trial,.osl 5002 0 r.1.Box.Back.length,.osl 5003 0 r.1.Box.Cands.length,.osl 5004 0 r.1.Slots.length,dI r.1.Live,dI r.1.Last,dI r.1.Job.Kind,dI r.1.Job.Step,dI r.1.Job.Edition,dI r.1.Job.Ticks,.osl 5005 0 r.1.Job.Lines.length],dB r.2]) [(5001,.arr 9 1 r.1.Box.Lines.length (rows encSb r.1.Box.Lines)),(5002,.arr 9 1 r.1.Box.Back.length (rows encSb r.1.Box.Back)),(5003,.arr 93 4 r.1.Box.Cands.length (rows QAr.enc r.1.Box.Cands)),(5004,.arr 61 4 r.1.Slots.length (rows QAu.enc r.1.Slots)),(5005,.arr 9 1 r.1.Job.Lines.length (rows encSb r.1.Job.Lines))]:=by
 refine eY tOk f20 rfl (Qc tOk (bC h 0 (fun _=>QaU) fun x1 h=>?_));apply Qo h<;>intro _ h
 ·cases h
  exact lfE [.p 5001 9 1 (rows encSb ([]:List Bt)),.p 5002 9 1 (rows encSb ([]:List Bt)),.p 5003 93 4 (rows QAr.enc ([]:List QAr)),.p 5004 61 4 (rows QAu.enc ([]:List QAu)),.p 5005 9 1 (rows encSb ([]:List Bt))]
 ·refine⟨([(⟨true,0,false,a0⟩:QAu),(⟨false,0,false,[]⟩:QAu)]:List QAu).length,Go.Ab.rowAt [[(.bool true:D),(.int .i64 0:D),(.bool false:D),(slD encSb a0:D)],[(.bool false:D),(.int .i64 0:D),(.bool false:D),(.nil:D)]],rfl,fun _ _=>rfl,?_⟩;obtain⟨x2,G,h⟩:=Qb h;refine Zp [14] (cE [] 1000 (QeI G) ?_);cases h;exact lfE [.s [(5001,6001),(5002,6002),(5003,6003),(5004,6004),(5005,6005),(6001,5001),(6002,5002),(6003,5003),(6004,5004),(6005,5005)]]
def Qa5 (a0:QAp):Option (Bt×QAp):=
 bd (Qy a0 ([(⟨#[97,110,110]⟩:Bt),(⟨#[97,110,110]⟩:Bt),(⟨#[97,110,110]⟩:Bt),(⟨#[98,111,98]⟩:Bt),(⟨#[101,118,101]⟩:Bt),(⟨#[106,111,101]⟩:Bt)]:List Bt)) fun G=>
 some (G.1,(⟨a0.b,G.2.p⟩:QAp))
theorem QeJ {a0:QAp} {r:Bt×QAp} (h:Qa5 a0=some r):EffC prog 50 [.ref 9000 0 0] [(9000,.box 76 [.d (slD Qt a0.b),dI a0.p])] (.d (.str r.1)) [(9000,.box 76 [.d (slD Qt a0.b),dI r.2.p])]:=by
 refine eY tOk f50 rfl (QbB (enc:=encSb) ([(⟨#[97,110,110]⟩:Bt),(⟨#[97,110,110]⟩:Bt),(⟨#[97,110,110]⟩:Bt),(⟨#[98,111,98]⟩:Bt),(⟨#[101,118,101]⟩:Bt),(⟨#[106,111,101]⟩:Bt)]:List Bt) ?_);obtain⟨x1,G,h⟩:=Qb h;refine Zp [4] (cE [(9000,9000)] 0 (QG G) ?_);cases h;exact lfE []
def Qch (a0:QAs) (I:Bt):Option (Int):=
 bd (lp (σ:=Int) (β:=(Int⊕Unit)) (fun s1=>
(if(decide (s1<((a0.Cands.length:Nat):Int)))=true then
 gd ((0:Int)<=s1∧s1<((a0.Cands.length:Nat):Int))<|
(if(((a0.Cands.getD s1.toNat default).User)==I)=true then
 some (.inr (.inl s1))
else
 some (.inl (IntKind.i64.wrap (s1+1))))
else
 some (.inr (.inr ())))) 0) fun J=>
(match J with
| .inl G=>
 some G
| .inr d7=>
 some (-1))
theorem Qf9 {a0:QAs} {O:Bt} {r:Int} (h:Qch a0 O=some r):PureC prog 103 [.agg [dI a0.Edition,.d (slD encSb a0.Lines),dI a0.Trial,.d (slD encSb a0.Back),.d (slD QAr.enc a0.Cands)],.d (.str O)] (dI r) []:=by
 refine pY tOk f103 rfl (Qc tOk ?_);obtain⟨x4,I,h⟩:=Qb h;refine QF tOk I (fun s1=>⟨0,22,[(1,.d (.str O)),(2,.ref 2 0 0),(5,dI s1)],[],[(2,.box 29 [dI a0.Edition,.d (slD encSb a0.Lines),dI a0.Trial,.d (slD encSb a0.Back),.d (slD QAr.enc a0.Cands)])],[]⟩) ?_ ?_
 ·exact leX []
 ·clear I;intro s1 y2 G J;refine Qc tOk ?_;apply Qo G<;>intro _ G
  ·refine Qc tOk (gdI G fun G=>?_);apply Qo G<;>intro _ G
   ·cases G
    cases J _ rfl
    cases h
    exact lfP []
   ·exact eX G []
  ·cases G
   cases J _ rfl
   cases h
   exact lfP []
def Qcu (a0:QAp) (J:QAv):Option (QAw×QAp):=
 bd (Qa5 a0) fun x1=>
 bd (α:=Int×Bt) ((if(decide (((J.Box.Cands.length:Nat):Int)>0))=true then
 bd (Ql (⟨a0.b,x1.2.p⟩:QAp) 2) fun x6=>
(if((decide (((J.Box.Cands.length:Nat):Int)>0))&&(x6.1==0))=true then
 bd (Ql (⟨a0.b,x6.2.p⟩:QAp) ((J.Box.Cands.length:Nat):Int)) fun x7=>
 gd ((0:Int)<=x7.1∧x7.1<((J.Box.Cands.length:Nat):Int))<|
 some (x7.2.p,(J.Box.Cands.getD x7.1.toNat default).User)
else
 some (x6.2.p,x1.1))
else
(if((decide (((J.Box.Cands.length:Nat):Int)>0))&&((0:Int)==0))=true then
 bd (Ql (⟨a0.b,x1.2.p⟩:QAp) ((J.Box.Cands.length:Nat):Int)) fun U=>
 gd ((0:Int)<=U.1∧U.1<((J.Box.Cands.length:Nat):Int))<|
 some (U.2.p,(J.Box.Cands.getD U.1.toNat default).User)
else
 some (x1.2.p,x1.1)))) fun Y=>
 bd (Ql (⟨a0.b,Y.1⟩:QAp) 24) fun G=>
 bd (α:=Bool) ((if(G.1==0)=true then
 some (G.1==0)
else
(if(G.1==1)=true then
 some (G.1==1)
else
 some (G.1==2)))) fun b3=>
(if b3=true then
 some ((⟨1,Y.2,ByteArray.empty,0⟩:QAw),(⟨a0.b,G.2.p⟩:QAp))
else
 bd (α:=Bool) ((if(G.1==3)=true then
 some (G.1==3)
else
(if(G.1==4)=true then
 some (G.1==4)
else
 some (G.1==5)))) fun b2=>
(if b2=true then
 bd (Qao (⟨a0.b,G.2.p⟩:QAp)) fun a7=>
 some ((⟨2,Y.2,a7.1,0⟩:QAw),(⟨a0.b,a7.2.p⟩:QAp))
else
(if(G.1==6)=true then
 bd (Qao (⟨a0.b,G.2.p⟩:QAp)) fun a3=>
 bd (Qch J.Box Y.2) fun I=>
 gd ((decide (I>=0))=true->((0:Int)<=I∧I<((J.Box.Cands.length:Nat):Int)))<|
(if((decide (I>=0))&&(decide (((((J.Box.Cands.getD I.toNat default).Lines).length:Nat):Int)>0)))=true then
 gd ((0:Int)<=I∧I<((J.Box.Cands.length:Nat):Int))<|
 gd ((0:Int)<=I∧I<((J.Box.Cands.length:Nat):Int))<|
 bd (Ql (⟨a0.b,a3.2.p⟩:QAp) ((((J.Box.Cands.getD I.toNat default).Lines).length:Nat):Int)) fun a2=>
 gd ((0:Int)<=a2.1∧a2.1<((((J.Box.Cands.getD I.toNat default).Lines).length:Nat):Int))<|
 some ((⟨3,Y.2,(((J.Box.Cands.getD I.toNat default).Lines).getD a2.1.toNat default),0⟩:QAw),(⟨a0.b,a2.2.p⟩:QAp))
else
 some ((⟨3,Y.2,a3.1,0⟩:QAw),(⟨a0.b,a3.2.p⟩:QAp)))
else
 bd (α:=Bool) ((if(G.1==7)=true then
 some (G.1==7)
else
 some (G.1==8))) fun b4=>
(if b4=true then
 some ((⟨4,Y.2,ByteArray.empty,0⟩:QAw),(⟨a0.b,G.2.p⟩:QAp))
else
 bd (α:=Bool) ((if(G.1==9)=true then
 some (G.1==9)
else
(if(G.1==10)=true then
 some (G.1==10)
else
(if(G.1==11)=true then
 some (G.1==11)
else
 some (G.1==12))))) fun a8=>
(if a8=true then
 bd (Ql (⟨a0.b,G.2.p⟩:QAp) 5) fun O=>
 gd ((0:Int)<=O.1∧O.1<((([0,1,2,5,9]:List Int).length:Nat):Int))<|
 some ((⟨5,Y.2,ByteArray.empty,(([0,1,2,5,9]:List Int).getD O.1.toNat default)⟩:QAw),(⟨a0.b,O.2.p⟩:QAp))
else
(if(G.1==13)=true then
 bd (Ql (⟨a0.b,G.2.p⟩:QAp) 2) fun a6=>
 bd (Ql (⟨a0.b,a6.2.p⟩:QAp) 2) fun a5=>
 some ((⟨6,Y.2,ByteArray.empty,IntKind.i64.wrap (J.Box.Edition-(IntKind.i64.wrap (a6.1*a5.1)))⟩:QAw),(⟨a0.b,a5.2.p⟩:QAp))
else
 bd (α:=Bool) ((if(G.1==14)=true then
 some (G.1==14)
else
 some (G.1==15))) fun a9=>
(if a9=true then
 some ((⟨7,ByteArray.empty,ByteArray.empty,0⟩:QAw),(⟨a0.b,G.2.p⟩:QAp))
else
(if(G.1==16)=true then
 bd (Ql (⟨a0.b,G.2.p⟩:QAp) 2) fun a4=>
(if(a4.1==0)=true then
 some ((⟨9,ByteArray.empty,ByteArray.empty,0⟩:QAw),(⟨a0.b,a4.2.p⟩:QAp))
else
 some ((⟨8,ByteArray.empty,ByteArray.empty,0⟩:QAw),(⟨a0.b,a4.2.p⟩:QAp)))
else
(if(G.1==17)=true then
 some ((⟨10,ByteArray.empty,ByteArray.empty,0⟩:QAw),(⟨a0.b,G.2.p⟩:QAp))
else
 some ((⟨8,ByteArray.empty,ByteArray.empty,0⟩:QAw),(⟨a0.b,G.2.p⟩:QAp)))))))))))
theorem QkB {a0:QAp} {G:QAv} {r:QAw×QAp} (h:Qcu a0 G=some r):EffC prog 49 [.ref 9000 0 0,.agg [dB G.Up,dI G.Box.Edition,.d (slD encSb G.Box.Lines),dI G.Box.Trial,.d (slD encSb G.Box.Back),.d (slD QAr.enc G.Box.Cands),.d (slD QAu.enc G.Slots),dI G.Live,dI G.Last,dI G.Job.Kind,dI G.Job.Step,dI G.Job.Edition,dI G.Job.Ticks,.d (slD encSb G.Job.Lines)]] [(9000,.box 76 [.d (slD Qt a0.b),dI a0.p])] (.agg [dI r.1.Kind,.d (.str r.1.User),.d (.str r.1.Line),dI r.1.N]) [(9000,.box 76 [.d (slD Qt a0.b),dI r.2.p])]:=by
 refine eY tOk f49 rfl (bE h [(9000,9000)] 0 (fun _=>QeJ) fun x1 h=>?_);obtain⟨x2,I,h⟩:=Qb h;refine Zm tOk (fun s3=>⟨0,135,[(0,.ref 9000 0 0),(3,.ref 3 0 0),(4,.ref 4 0 0),(5,.d (.str s3.2))],[],[(4,.box 41 [dI 0,.d (.str ByteArray.empty),.d (.str ByteArray.empty),dI 0]),(3,.box 34 [dB G.Up,dI G.Box.Edition,.d (slD encSb G.Box.Lines),dI G.Box.Trial,.d (slD encSb G.Box.Back),.d (slD QAr.enc G.Box.Cands),.d (slD QAu.enc G.Slots),dI G.Live,dI G.Last,dI G.Job.Kind,dI G.Job.Step,dI G.Job.Edition,dI G.Job.Ticks,.d (slD encSb G.Job.Lines)]),(9000,.box 76 [.d (slD Qt a0.b),dI s3.1])],[⟨[(0,.ref 9000 0 0)],[]⟩]⟩) (fun s3=>x2=s3) ?_ ?_
 ·refine spI I (fun a9 I=>?_) (fun a9 I=>?_)
  ·obtain⟨x6,c0,I⟩:=Qb I;refine QwU [(9000,9000)] 0 (Qq c0) (by(conv=>whnf);exact fun q=>absurd (q.symm.trans a9) (by decide)) ?_;apply Qo I<;>intro _ I
   ·obtain⟨x7,c8,I⟩:=Qb I;obtain⟨g8,I⟩:=Qf I;refine Qas tOk [.e 8 [(9000,.box 76 [.d (slD Qt a0.b),dI x6.2.p])] (dI x7.1) [] [(9000,.box 76 [.d (slD Qt a0.b),dI x7.2.p])]] 13 [] [0,1,3,0,0,16,48,112,248,511,1023,2047,4095] [] [9000] (aI (eD [(9000,9000)] 0 (Qq c8)) (aI g8 (aK ?_)));exact eZ I []
   ·exact eZ I []
  ·refine QuM (dI 0) ?_ (by(conv=>whnf);exact fun q=>absurd (a9.symm.trans q) (by decide));apply Qo I<;>intro _ I
   ·obtain⟨b5,b9,I⟩:=Qb I;obtain⟨c5,I⟩:=Qf I;refine Qas tOk [.e 8 [(9000,.box 76 [.d (slD Qt a0.b),dI x1.2.p])] (dI b5.1) [] [(9000,.box 76 [.d (slD Qt a0.b),dI b5.2.p])]] 13 [] [0,1,3,0,0,16,48,112,248,511,1023,2047,4095] [] [9000] (aI (eD [(9000,9000)] 0 (Qq b9)) (aI c5 (aK ?_)));exact eZ I []
   ·exact eZ I []
 ·rintro _ rfl;refine Qc tOk (bE h [(9000,9000)] 0 (fun _=>Qq) fun Y h=>?_);obtain⟨c7,U,h⟩:=Qb h;refine Zm tOk (fun a8=>⟨0,135,[(0,.ref 9000 0 0),(3,.ref 3 0 0),(4,.ref 4 0 0),(5,.d (.str x2.2)),(33,dI Y.1),(34,dB a8)],[],[(4,.box 41 [dI 0,.d (.str ByteArray.empty),.d (.str ByteArray.empty),dI 0]),(3,.box 34 [dB G.Up,dI G.Box.Edition,.d (slD encSb G.Box.Lines),dI G.Box.Trial,.d (slD encSb G.Box.Back),.d (slD QAr.enc G.Box.Cands),.d (slD QAu.enc G.Slots),dI G.Live,dI G.Last,dI G.Job.Kind,dI G.Job.Step,dI G.Job.Edition,dI G.Job.Ticks,.d (slD encSb G.Job.Lines)]),(9000,.box 76 [.d (slD Qt a0.b),dI Y.2.p])],[⟨[(0,.ref 9000 0 0)],[]⟩]⟩) (fun a8=>c7=a8) ?_ ?_
  ·apply Qo U<;>intro _ U
   ·exact eZ U []
   ·apply Qo U<;>intro _ U
    ·exact eZ U []
    ·exact eZ U []
  ·rintro _ rfl;apply Qo h<;>intro _ h
   ·cases h
    exact lfE []
   ·obtain⟨c6,O,h⟩:=Qb h;refine Zm tOk (fun b2=>⟨0,135,[(0,.ref 9000 0 0),(3,.ref 3 0 0),(4,.ref 4 0 0),(5,.d (.str x2.2)),(33,dI Y.1),(40,dB b2)],[],[(4,.box 41 [dI 0,.d (.str ByteArray.empty),.d (.str ByteArray.empty),dI 0]),(3,.box 34 [dB G.Up,dI G.Box.Edition,.d (slD encSb G.Box.Lines),dI G.Box.Trial,.d (slD encSb G.Box.Back),.d (slD QAr.enc G.Box.Cands),.d (slD QAu.enc G.Slots),dI G.Live,dI G.Last,dI G.Job.Kind,dI G.Job.Step,dI G.Job.Edition,dI G.Job.Ticks,.d (slD encSb G.Job.Lines)]),(9000,.box 76 [.d (slD Qt a0.b),dI Y.2.p])],[⟨[(0,.ref 9000 0 0)],[]⟩]⟩) (fun b2=>c6=b2) ?_ ?_
    ·apply Qo O<;>intro _ O
     ·exact eZ O []
     ·apply Qo O<;>intro _ O
      ·exact eZ O []
      ·exact eZ O []
    ·rintro _ rfl;apply Qo h<;>intro _ h
     ·refine bE h [(9000,9000)] 0 (fun _=>Qdh) fun x19 h=>?_;cases h;exact lfE []
     ·apply Qo h<;>intro _ h
      ·refine bE h [(9000,9000)] 0 (fun _=>Qdh) fun c2 h=>bC h 0 (fun _=>Qf9) fun x21 h=>Qc tOk (gdI h fun h=>?_);apply Qo h<;>intro _ h
       ·obtain⟨d0,h⟩:=Qf h;obtain⟨c3,h⟩:=Qf h;obtain⟨b7,b6,h⟩:=Qb h;obtain⟨d1,h⟩:=Qf h;refine Qas tOk [.e 16 [(9000,.box 76 [.d (slD Qt a0.b),dI c2.2.p])] (dI b7.1) [] [(9000,.box 76 [.d (slD Qt a0.b),dI b7.2.p])]] 20 [] [0,1,3,0,15,31,63,0,0,256,768,0,3840,7936,16128,32512,65408,131071,262143,524287] [] [9000] (aI d0 (aI c3 (aI (eD [(9000,9000)] 0 (Qq b6)) (aI d1 (aK ?_)))));cases h;exact lfE []
       ·cases h
        exact lfE []
      ·obtain⟨c9,a2,h⟩:=Qb h;refine Zm tOk (fun a7=>⟨0,135,[(0,.ref 9000 0 0),(3,.ref 3 0 0),(4,.ref 4 0 0),(5,.d (.str x2.2)),(33,dI Y.1),(91,dB a7)],[],[(4,.box 41 [dI 0,.d (.str ByteArray.empty),.d (.str ByteArray.empty),dI 0]),(3,.box 34 [dB G.Up,dI G.Box.Edition,.d (slD encSb G.Box.Lines),dI G.Box.Trial,.d (slD encSb G.Box.Back),.d (slD QAr.enc G.Box.Cands),.d (slD QAu.enc G.Slots),dI G.Live,dI G.Last,dI G.Job.Kind,dI G.Job.Step,dI G.Job.Edition,dI G.Job.Ticks,.d (slD encSb G.Job.Lines)]),(9000,.box 76 [.d (slD Qt a0.b),dI Y.2.p])],[⟨[(0,.ref 9000 0 0)],[]⟩]⟩) (fun a7=>c9=a7) ?_ ?_
       ·apply Qo a2<;>intro _ a2
        ·exact eZ a2 []
        ·exact eZ a2 []
       ·rintro _ rfl;apply Qo h<;>intro _ h
        ·cases h
         exact lfE []
        ·obtain⟨c1,J,h⟩:=Qb h;refine Zm tOk (fun a6=>⟨0,135,[(0,.ref 9000 0 0),(3,.ref 3 0 0),(4,.ref 4 0 0),(5,.d (.str x2.2)),(33,dI Y.1),(96,dB a6)],[],[(4,.box 41 [dI 0,.d (.str ByteArray.empty),.d (.str ByteArray.empty),dI 0]),(3,.box 34 [dB G.Up,dI G.Box.Edition,.d (slD encSb G.Box.Lines),dI G.Box.Trial,.d (slD encSb G.Box.Back),.d (slD QAr.enc G.Box.Cands),.d (slD QAu.enc G.Slots),dI G.Live,dI G.Last,dI G.Job.Kind,dI G.Job.Step,dI G.Job.Edition,dI G.Job.Ticks,.d (slD encSb G.Job.Lines)]),(9000,.box 76 [.d (slD Qt a0.b),dI Y.2.p])],[⟨[(0,.ref 9000 0 0)],[]⟩]⟩) (fun a6=>c1=a6) ?_ ?_
         ·apply Qo J<;>intro _ J
          ·exact eZ J []
          ·apply Qo J<;>intro _ J
           ·exact eZ J []
           ·apply Qo J<;>intro _ J
            ·exact eZ J []
            ·exact eZ J []
         ·rintro _ rfl;apply Qo h<;>intro _ h
          ·refine QbB (enc:=QyR) ([0,1,2,5,9]:List Int) (bE h [(9000,9000)] 0 (fun _=>Qq) fun x33 h=>gdI h fun h=>?_);cases h;exact lfE []
          ·apply Qo h<;>intro _ h
           ·obtain⟨a5,b8,h⟩:=Qb h;obtain⟨b3,b4,h⟩:=Qb h;refine Qas tOk [.e 5 [(9000,.box 76 [.d (slD Qt a0.b),dI Y.2.p])] (dI a5.1) [] [(9000,.box 76 [.d (slD Qt a0.b),dI a5.2.p])],.e 7 [(9000,.box 76 [.d (slD Qt a0.b),dI a5.2.p])] (dI b3.1) [] [(9000,.box 76 [.d (slD Qt a0.b),dI b3.2.p])]] 11 [] [0,0,2,6,0,16,0,112,240,510,1023] [2047] [9000] (aI (eD [(9000,9000)] 0 (Qq b8)) (aI (eD [(9000,9000)] 0 (Qq b4)) (aK ?_)));cases h;exact lfE []
           ·obtain⟨c4,a3,h⟩:=Qb h;refine Zm tOk (fun a4=>⟨0,135,[(0,.ref 9000 0 0),(4,.ref 4 0 0),(33,dI Y.1),(121,dB a4)],[],[(4,.box 41 [dI 0,.d (.str ByteArray.empty),.d (.str ByteArray.empty),dI 0]),(9000,.box 76 [.d (slD Qt a0.b),dI Y.2.p])],[⟨[(0,.ref 9000 0 0)],[]⟩]⟩) (fun a4=>c4=a4) ?_ ?_
            ·apply Qo a3<;>intro _ a3
             ·exact eZ a3 []
             ·exact eZ a3 []
            ·rintro _ rfl;apply Qo h<;>intro _ h
             ·cases h
              exact lfE []
             ·apply Qo h<;>intro _ h
              ·refine bE h [(9000,9000)] 0 (fun _=>Qq) fun x40 h=>?_;apply Qo h<;>intro _ h
               ·cases h
                exact lfE []
               ·cases h
                exact lfE []
              ·apply Qo h<;>intro _ h
               ·cases h
                exact lfE []
               ·cases h
                exact lfE []
def Qdj (a0:QAp) (a1:QAv):Option ((List QAw)×QAp):=
 bd (Qcu a0 a1) fun Y=>
 bd (Ql (⟨a0.b,Y.2.p⟩:QAp) 8) fun J=>
(if(J.1==0)=true then
 bd (lp (σ:=List QAw×Int) (β:=(Nat×(List QAw))) (fun O=>
(if(decide (O.2<19))=true then
 gd (((O.1.length)+(([(⟨8,ByteArray.empty,ByteArray.empty,0⟩:QAw)]:List QAw).length))*(48+1)<=70368744177664)<|
 some (.inl ((O.1++([(⟨8,ByteArray.empty,ByteArray.empty,0⟩:QAw)]:List QAw)),IntKind.i64.wrap (O.2+1)))
else
 some (.inr (O.1.length,O.1)))) (([Y.1]:List QAw),0)) fun x6=>
 some (x6.2,(⟨a0.b,J.2.p⟩:QAp))
else
(if(J.1==1)=true then
 bd (Qa5 (⟨a0.b,J.2.p⟩:QAp)) fun x9=>
 bd (Qao (⟨a0.b,x9.2.p⟩:QAp)) fun a3=>
 bd (Ql (⟨a0.b,a3.2.p⟩:QAp) 2) fun a4=>
 bd (Ql (⟨a0.b,a4.2.p⟩:QAp) 4) fun a2=>
 bd (Ql (⟨a0.b,a2.2.p⟩:QAp) 20) fun U=>
 bd (lp (σ:=List QAw×Int) (β:=(Nat×(List QAw))) (fun G=>
(if(decide (G.2>0))=true then
 gd (((G.1.length)+(([(⟨8,ByteArray.empty,ByteArray.empty,0⟩:QAw)]:List QAw).length))*(48+1)<=70368744177664)<|
 some (.inl ((G.1++([(⟨8,ByteArray.empty,ByteArray.empty,0⟩:QAw)]:List QAw)),IntKind.i64.wrap (G.2-1)))
else
 some (.inr (G.1.length,G.1)))) (([(⟨1,x9.1,ByteArray.empty,0⟩:QAw),(⟨2,x9.1,a3.1,0⟩:QAw),(⟨5,x9.1,ByteArray.empty,IntKind.i64.wrap (a4.1*(IntKind.i64.wrap (1+a2.1)))⟩:QAw)]:List QAw),U.1)) fun a5=>
 some (a5.2,(⟨a0.b,U.2.p⟩:QAp))
else
(if(J.1==2)=true then
 bd (Qa5 (⟨a0.b,J.2.p⟩:QAp)) fun I=>
 gd (((([Y.1]:List QAw).length)+(([(⟨10,ByteArray.empty,ByteArray.empty,0⟩:QAw),(⟨1,I.1,ByteArray.empty,0⟩:QAw)]:List QAw).length))*(48+1)<=70368744177664)<|
 some ((([Y.1]:List QAw)++([(⟨10,ByteArray.empty,ByteArray.empty,0⟩:QAw),(⟨1,I.1,ByteArray.empty,0⟩:QAw)]:List QAw)),(⟨a0.b,I.2.p⟩:QAp))
else
 some (([Y.1]:List QAw),(⟨a0.b,J.2.p⟩:QAp)))))
theorem QlY {a0:QAp} {G:QAv} {r:(List QAw)×QAp} (h:Qdj a0 G=some r):EffC prog 22 [.ref 9000 0 0,.agg [dB G.Up,dI G.Box.Edition,.d (slD encSb G.Box.Lines),dI G.Box.Trial,.d (slD encSb G.Box.Back),.d (slD QAr.enc G.Box.Cands),.d (slD QAu.enc G.Slots),dI G.Live,dI G.Last,dI G.Job.Kind,dI G.Job.Step,dI G.Job.Edition,dI G.Job.Ticks,.d (slD encSb G.Job.Lines)]] [(9000,.box 76 [.d (slD Qt a0.b),dI a0.p])] (.osl 5001 0 r.1.length) [(9000,.box 76 [.d (slD Qt a0.b),dI r.2.p]),(5001,.arr 41 4 r.1.length (rows QAw.enc r.1))]:=by
 refine eY tOk f22 rfl (bE h [(9000,9000)] 0 (fun _=>QkB) fun x1 h=>QbB (enc:=QAw.enc) ([x1.1]:List QAw) (Qc tOk (bE h [(9000,9000)] 0 (fun _=>Qq) fun x2 h=>?_)));apply Qo h<;>intro _ h
 ·obtain⟨x6,a2,h⟩:=Qb h;refine QF tOk a2 (fun Y=>⟨0,64,[(5,.osl 12 0 Y.1.length),(6,dI Y.2)],[],[(12,.arr 41 4 Y.1.length (rows QAw.enc Y.1)),(9000,.box 76 [.d (slD Qt a0.b),dI x2.2.p])],[⟨[(0,.ref 9000 0 0)],[]⟩]⟩) ?_ ?_
  ·exact leX []
  ·clear a2;intro Y y4 U a5;refine Qc tOk ?_;apply Qo U<;>intro _ U
   ·refine Qc tOk (QbB (enc:=QAw.enc) ([(⟨8,ByteArray.empty,ByteArray.empty,0⟩:QAw)]:List QAw) (gdI U fun U=>Qf7 (enc:=QAw.enc) (xs:=Y.1) (ys:=([(⟨8,ByteArray.empty,ByteArray.empty,0⟩:QAw)]:List QAw)) ?_));exact eX U []
   ·cases U
    cases a5 _ rfl
    cases h
    exact lfE [.s [(12,5001),(5001,12)]]
 ·apply Qo h<;>intro _ h
  ·refine bE h [(9000,9000)] 0 (fun _=>QeJ) fun x9 h=>bE h [(9000,9000)] 0 (fun _=>Qdh) fun a6 h=>bE h [(9000,9000)] 0 (fun _=>Qq) fun a8 h=>bE h [(9000,9000)] 0 (fun _=>Qq) fun a9 h=>QbB (enc:=QAw.enc) ([(⟨1,x9.1,ByteArray.empty,0⟩:QAw),(⟨2,x9.1,a6.1,0⟩:QAw),(⟨5,x9.1,ByteArray.empty,IntKind.i64.wrap (a8.1*(IntKind.i64.wrap (1+a9.1)))⟩:QAw)]:List QAw) (bE h [(9000,9000)] 0 (fun _=>Qq) fun a7 h=>?_);obtain⟨x17,O,h⟩:=Qb h;refine QF tOk O (fun J=>⟨0,64,[(5,.osl 43 0 J.1.length),(8,dI J.2)],[],[(43,.arr 41 4 J.1.length (rows QAw.enc J.1)),(9000,.box 76 [.d (slD Qt a0.b),dI a7.2.p])],[⟨[(0,.ref 9000 0 0)],[]⟩]⟩) ?_ ?_
   ·exact leX []
   ·clear O;intro J y15 I a4;refine Qc tOk ?_;apply Qo I<;>intro _ I
    ·refine Qc tOk (QbB (enc:=QAw.enc) ([(⟨8,ByteArray.empty,ByteArray.empty,0⟩:QAw)]:List QAw) (gdI I fun I=>Qf7 (enc:=QAw.enc) (xs:=J.1) (ys:=([(⟨8,ByteArray.empty,ByteArray.empty,0⟩:QAw)]:List QAw)) ?_));exact eX I []
    ·cases I
     cases a4 _ rfl
     cases h
     exact lfE [.s [(43,5001),(5001,43)]]
  ·apply Qo h<;>intro _ h
   ·refine bE h [(9000,9000)] 0 (fun _=>QeJ) fun a3 h=>QbB (enc:=QAw.enc) ([(⟨10,ByteArray.empty,ByteArray.empty,0⟩:QAw),(⟨1,a3.1,ByteArray.empty,0⟩:QAw)]:List QAw) (gdI h fun h=>Qf7 (enc:=QAw.enc) (xs:=([x1.1]:List QAw)) (ys:=([(⟨10,ByteArray.empty,ByteArray.empty,0⟩:QAw),(⟨1,a3.1,ByteArray.empty,0⟩:QAw)]:List QAw)) ?_);cases h;exact lfE [.s [(12,5001),(5001,12)]]
   ·cases h
    exact lfE [.s [(12,5001),(5001,12)]]
def QaV (a0:QAv) (G:QAu):Option (Bool):=
(if(!G.Whole)=true then
 bd (gcall (((G.Edition==0)&&(!G.Trial))=true) (Q7 G.Lines)) fun J=>
 some (((G.Edition==0)&&(!G.Trial))&&(J==0))
else
 bd (QT G.Edition 0 a0.Last) fun I=>
 bd (gcall (I=true) (Zu G.Lines)) fun O=>
 some (I&&(O==0)))
theorem QfN {a0:QAv} {G:QAu} {r:Bool} (h:QaV a0 G=some r):PureC prog 136 [.agg [dB a0.Up,dI a0.Box.Edition,.d (slD encSb a0.Box.Lines),dI a0.Box.Trial,.d (slD encSb a0.Box.Back),.d (slD QAr.enc a0.Box.Cands),.d (slD QAu.enc a0.Slots),dI a0.Live,dI a0.Last,dI a0.Job.Kind,dI a0.Job.Step,dI a0.Job.Edition,dI a0.Job.Ticks,.d (slD encSb a0.Job.Lines)],.agg [dB G.Whole,dI G.Edition,dB G.Trial,.d (slD encSb G.Lines)]] (dB r) []:=by
 refine pY tOk f136 rfl (Qc tOk ?_);apply Qo h<;>intro _ h
 ·refine bG h (fun _=>ZI) fun x1 h=>?_;cases h;exact lfP []
 ·refine bC h 0 (fun _=>ZC) fun x2 h=>bG h (fun _=>QaU) fun x3 h=>?_;cases h;exact lfP []
def Qb5 (a0:QAv):Option (Bool):=
 bd (gcall ((((a0.Slots.length:Nat):Int) !=2)=false) (QT a0.Live 0 1)) fun G=>
 bd (gcall (((((a0.Slots.length:Nat):Int) !=2)||(!G))=false) (QT a0.Last 0 1000000)) fun I=>
 gd ((((((a0.Slots.length:Nat):Int) !=2)||(!G))||(!I))=false->((0:Int)<=0∧0<((a0.Slots.length:Nat):Int)))<|
 bd (gcall ((((((a0.Slots.length:Nat):Int) !=2)||(!G))||(!I))=false) (QaV a0 (a0.Slots.getD 0 default))) fun J=>
 gd (((((((a0.Slots.length:Nat):Int) !=2)||(!G))||(!I))||(!J))=false->((0:Int)<=1∧1<((a0.Slots.length:Nat):Int)))<|
 bd (gcall (((((((a0.Slots.length:Nat):Int) !=2)||(!G))||(!I))||(!J))=false) (QaV a0 (a0.Slots.getD 1 default))) fun O=>
(if(((((((a0.Slots.length:Nat):Int) !=2)||(!G))||(!I))||(!J))||(!O))=true then
 some false
else
 gd ((0:Int)<=a0.Live∧a0.Live<((a0.Slots.length:Nat):Int))<|
 gd ((0:Int)<=IntKind.i64.wrap (1-a0.Live)∧IntKind.i64.wrap (1-a0.Live)<((a0.Slots.length:Nat):Int))<|
 some ((a0.Slots.getD a0.Live.toNat default).Whole&&((!((a0.Slots.getD a0.Live.toNat default).Trial))||((((a0.Slots.getD ((IntKind.i64.wrap (1-a0.Live)).toNat) default).Whole&&(!((a0.Slots.getD ((IntKind.i64.wrap (1-a0.Live)).toNat) default).Trial)))&&(((a0.Slots.getD a0.Live.toNat default).Edition)==a0.Last))&&(decide (((a0.Slots.getD ((IntKind.i64.wrap (1-a0.Live)).toNat) default).Edition)<a0.Last))))))
theorem QjM {a0:QAv} {r:Bool} (h:Qb5 a0=some r):PureC prog 67 [.agg [dB a0.Up,dI a0.Box.Edition,.d (slD encSb a0.Box.Lines),dI a0.Box.Trial,.d (slD encSb a0.Box.Back),.d (slD QAr.enc a0.Box.Cands),.d (slD QAu.enc a0.Slots),dI a0.Live,dI a0.Last,dI a0.Job.Kind,dI a0.Job.Step,dI a0.Job.Edition,dI a0.Job.Ticks,.d (slD encSb a0.Job.Lines)]] (dB r) []:=by
 refine pY tOk f67 rfl (Qc tOk ?_);obtain⟨x1,O,h⟩:=Qb h;obtain⟨x2,U,h⟩:=Qb h;obtain⟨Y,h⟩:=Qf h;obtain⟨x4,I,h⟩:=Qb h;obtain⟨g5,h⟩:=Qf h;obtain⟨x6,J,h⟩:=Qb h;refine QW tOk [.u 7 0 (dB x1) [],.u 13 0 (dB x2) [],.u 22 0 (dB x4) [],.u 31 0 (dB x6) []] 34 [] [0,1,3,7,15,31,63,127,255,511,1023,2047,4095,8191,16383,32767,65535,131071,131071,393215,917503,1966079,4194303,8388607,16777215,33554431,67108863,67108863,201326591,469762047,1006632959,2147483647,4294967295,8589934591] [] (aI (Qw rfl rfl rfl rfl (by intro G;exact ZC (Qn O G))) (aI (Qw rfl rfl rfl rfl (by intro G;exact ZC (Qn U G))) (aI Y (aI (Qw rfl rfl rfl rfl (by intro G;exact QfN (Qn I G))) (aI g5 (aI (Qw rfl rfl rfl rfl (by intro G;exact QfN (Qn J G))) (aK ?_)))))));apply Qo h<;>intro _ h
 ·cases h
  exact lfP []
 ·refine gdI h fun h=>gdI h fun h=>?_;cases h;exact lfP []
def Zj (a0:QAt):Option (Bool):=
 some (((((a0.Kind==0)&&(a0.Step==0))&&(a0.Edition==0))&&(a0.Ticks==0))&&(((a0.Lines.length:Nat):Int)==0))
theorem Qec {a0:QAt} {r:Bool} (h:Zj a0=some r):PureC prog 68 [.agg [dI a0.Kind,dI a0.Step,dI a0.Edition,dI a0.Ticks,.d (slD encSb a0.Lines)]] (dB r) []:=by
 refine pY tOk f68 rfl ?_;unfold Zj at h;cases h;exact lfP []
def Jl (a0:(List Bt)) (G:(List Bt)):Option (Bool):=
(if(((a0.length:Nat):Int) !=((G.length:Nat):Int))=true then
 some false
else
 bd (lp (σ:=Int) (β:=(Unit⊕Unit)) (fun s1=>
(if(decide (s1<((a0.length:Nat):Int)))=true then
 gd ((0:Int)<=s1∧s1<((a0.length:Nat):Int))<|
 gd ((0:Int)<=s1∧s1<((G.length:Nat):Int))<|
(if(!((a0.getD s1.toNat default)==(G.getD s1.toNat default)))=true then
 some (.inr (.inl ()))
else
 some (.inl (IntKind.i64.wrap (s1+1))))
else
 some (.inr (.inr ())))) 0) fun I=>
(match I with
| .inl d7=>
 some false
| .inr d8=>
 some true))
theorem Qa6 {a0:(List Bt)} {O:(List Bt)} {r:Bool} (h:Jl a0 O=some r):PureC prog 137 [.d (slD encSb a0),.d (slD encSb O)] (dB r) []:=by
 refine pY tOk f137 rfl (Qc tOk ?_);apply Qo h<;>intro _ h
 ·cases h
  exact lfP []
 ·refine Qc tOk ?_;obtain⟨x4,I,h⟩:=Qb h;refine QF tOk I (fun s1=>⟨0,26,[(0,.d (slD encSb a0)),(1,.d (slD encSb O)),(5,dI s1)],[],[],[]⟩) ?_ ?_
  ·exact leX []
  ·clear I;intro s1 y2 G J;refine Qc tOk ?_;apply Qo G<;>intro _ G
   ·refine Qc tOk ?_;obtain⟨Y,G⟩:=Qf G;obtain⟨U,G⟩:=Qf G;refine QW tOk [] 9 [] [0,0,3,7,0,0,48,112,255] [] (aI Y (aI U (aK ?_)));apply Qo G<;>intro _ G
    ·cases G
     cases J _ rfl
     cases h
     exact lfP []
    ·exact eX G []
   ·cases G
    cases J _ rfl
    cases h
    exact lfP []
def Qa7 (a0:QAt) (G:Int):Option (Bool):=
 some (((((a0.Kind==G)&&(a0.Step==0))&&(a0.Edition==0))&&(a0.Ticks==0))&&(((a0.Lines.length:Nat):Int)==0))
theorem Qg4 {a0:QAt} {G:Int} {r:Bool} (h:Qa7 a0 G=some r):PureC prog 138 [.agg [dI a0.Kind,dI a0.Step,dI a0.Edition,dI a0.Ticks,.d (slD encSb a0.Lines)],dI G] (dB r) []:=by
 refine pY tOk f138 rfl ?_;unfold Qa7 at h;cases h;exact lfP []
def Qbl (a0:QAv):Option (Bool):=
 gd ((a0.Box.Edition==a0.Last)=true->((a0.Box.Edition==(IntKind.i64.wrap (a0.Last+1)))=false->((0:Int)<=a0.Live∧a0.Live<((a0.Slots.length:Nat):Int))))<|
 some ((a0.Box.Edition==(IntKind.i64.wrap (a0.Last+1)))||((a0.Box.Edition==a0.Last)&&(((a0.Slots.getD a0.Live.toNat default).Edition)==a0.Last)))
theorem Qga {a0:QAv} {r:Bool} (h:Qbl a0=some r):PureC prog 139 [.agg [dB a0.Up,dI a0.Box.Edition,.d (slD encSb a0.Box.Lines),dI a0.Box.Trial,.d (slD encSb a0.Box.Back),.d (slD QAr.enc a0.Box.Cands),.d (slD QAu.enc a0.Slots),dI a0.Live,dI a0.Last,dI a0.Job.Kind,dI a0.Job.Step,dI a0.Job.Edition,dI a0.Job.Ticks,.d (slD encSb a0.Job.Lines)]] (dB r) []:=by
 refine pY tOk f139 rfl ?_;obtain⟨G,h⟩:=Qf h;refine QW tOk [] 28 [] [0,1,3,0,8,24,63,127,255,511,1023,255,2303,8191,16383,32767,65535,32767,163839,524287,1048575,2097151,32767,4227071,16777215,33554431,67108863,134217727] [] (aI G (aK ?_));cases h;exact lfP []
def QdU (a0:QAv):Option (Bool):=
 gd ((0:Int)<=IntKind.i64.wrap (1-a0.Live)∧IntKind.i64.wrap (1-a0.Live)<((a0.Slots.length:Nat):Int))<|
(if(a0.Last !=a0.Job.Edition)=true then
 some false
else
(if(a0.Job.Step==(IntKind.i64.wrap (((a0.Job.Lines.length:Nat):Int)+2)))=true then
 bd (gcall ((((a0.Slots.getD ((IntKind.i64.wrap (1-a0.Live)).toNat) default).Whole&&(((a0.Slots.getD ((IntKind.i64.wrap (1-a0.Live)).toNat) default).Edition)==a0.Job.Edition))&&(((a0.Slots.getD ((IntKind.i64.wrap (1-a0.Live)).toNat) default).Trial)==(decide (a0.Job.Ticks>0))))=true) (Jl ((a0.Slots.getD ((IntKind.i64.wrap (1-a0.Live)).toNat) default).Lines) a0.Job.Lines)) fun G=>
 some ((((a0.Slots.getD ((IntKind.i64.wrap (1-a0.Live)).toNat) default).Whole&&(((a0.Slots.getD ((IntKind.i64.wrap (1-a0.Live)).toNat) default).Edition)==a0.Job.Edition))&&(((a0.Slots.getD ((IntKind.i64.wrap (1-a0.Live)).toNat) default).Trial)==(decide (a0.Job.Ticks>0))))&&G)
else
 gd ((!((a0.Slots.getD ((IntKind.i64.wrap (1-a0.Live)).toNat) default).Whole))=true->((0:Int)<=(0:Int)∧(0:Int)<=IntKind.i64.wrap (a0.Job.Step-1)∧IntKind.i64.wrap (a0.Job.Step-1)<=((a0.Job.Lines.length:Nat):Int)))<|
 bd (gcall ((!((a0.Slots.getD ((IntKind.i64.wrap (1-a0.Live)).toNat) default).Whole))=true) (Jl ((a0.Slots.getD ((IntKind.i64.wrap (1-a0.Live)).toNat) default).Lines) (a0.Job.Lines.take ((IntKind.i64.wrap (a0.Job.Step-1)).toNat)))) fun I=>
 some ((!((a0.Slots.getD ((IntKind.i64.wrap (1-a0.Live)).toNat) default).Whole))&&I)))
theorem Qm9 {a0:QAv} {r:Bool} (h:QdU a0=some r):PureC prog 173 [.agg [dB a0.Up,dI a0.Box.Edition,.d (slD encSb a0.Box.Lines),dI a0.Box.Trial,.d (slD encSb a0.Box.Back),.d (slD QAr.enc a0.Box.Cands),.d (slD QAu.enc a0.Slots),dI a0.Live,dI a0.Last,dI a0.Job.Kind,dI a0.Job.Step,dI a0.Job.Edition,dI a0.Job.Ticks,.d (slD encSb a0.Job.Lines)]] (dB r) []:=by
 refine pY tOk f173 rfl (gdI h fun h=>Qc tOk ?_);apply Qo h<;>intro _ h
 ·cases h
  exact lfP []
 ·refine Qc tOk ?_;apply Qo h<;>intro _ h
  ·refine bG h (fun _=>Qa6) fun x2 h=>?_;cases h;exact lfP []
  ·obtain⟨J,h⟩:=Qf h;obtain⟨O,I,h⟩:=Qb h;refine QW tOk [.u 12 0 (dB O) []] 15 [] [0,1,3,7,15,31,15,79,15,271,783,1999,4095,8191,16383] [] (aI (by intro G;exact⟨J G,.inr rfl⟩) (aI (Qw rfl rfl rfl rfl (by intro G;have q0:=J G;exact(Qa6 (Qn I G)).le QsG)) (aK ?_)));cases h;exact lfP []
def Jb (a0:QAv):Option (Bool):=
 bd (gcall ((a0.Job.Kind !=1)=false) (Zu a0.Job.Lines)) fun G=>
 bd (gcall (((a0.Job.Kind !=1)||(G !=0))=false) (QT a0.Job.Step 0 (IntKind.i64.wrap (((a0.Job.Lines.length:Nat):Int)+2)))) fun I=>
 bd (gcall ((((a0.Job.Kind !=1)||(G !=0))||(!I))=false) (QT a0.Job.Ticks 0 9)) fun J=>
(if((((((a0.Job.Kind !=1)||(G !=0))||(!I))||(!J))||(a0.Job.Edition !=(IntKind.i64.wrap (a0.Box.Edition+1))))||(decide (a0.Job.Edition>1000000)))=true then
 some false
else
 bd (gcall ((a0.Job.Step==0)=false) (QdU a0)) fun O=>
 some ((a0.Job.Step==0)||O))
theorem QjN {a0:QAv} {r:Bool} (h:Jb a0=some r):PureC prog 140 [.agg [dB a0.Up,dI a0.Box.Edition,.d (slD encSb a0.Box.Lines),dI a0.Box.Trial,.d (slD encSb a0.Box.Back),.d (slD QAr.enc a0.Box.Cands),.d (slD QAu.enc a0.Slots),dI a0.Live,dI a0.Last,dI a0.Job.Kind,dI a0.Job.Step,dI a0.Job.Edition,dI a0.Job.Ticks,.d (slD encSb a0.Job.Lines)]] (dB r) []:=by
 refine pY tOk f140 rfl (Qc tOk (bG h (fun _=>QaU) fun x1 h=>bG h (fun _=>ZC) fun x2 h=>bG h (fun _=>ZC) fun x3 h=>?_));apply Qo h<;>intro _ h
 ·cases h
  exact lfP []
 ·refine bG h (fun _=>Qm9) fun x4 h=>?_;cases h;exact lfP []
def Qcv (a0:QAv):Option (Bool):=
 gd ((0:Int)<=a0.Live∧a0.Live<((a0.Slots.length:Nat):Int))<|
 gd ((0:Int)<=IntKind.i64.wrap (1-a0.Live)∧IntKind.i64.wrap (1-a0.Live)<((a0.Slots.length:Nat):Int))<|
(if(decide (a0.Box.Trial>0))=true then
 bd (gcall (((decide (a0.Box.Trial<=9))&&(a0.Slots.getD a0.Live.toNat default).Trial)=true) (Jl a0.Box.Lines ((a0.Slots.getD a0.Live.toNat default).Lines))) fun I=>
 bd (gcall ((((decide (a0.Box.Trial<=9))&&(a0.Slots.getD a0.Live.toNat default).Trial)&&I)=true) (Jl a0.Box.Back ((a0.Slots.getD ((IntKind.i64.wrap (1-a0.Live)).toNat) default).Lines))) fun Y=>
 bd (gcall ((((((decide (a0.Box.Trial<=9))&&(a0.Slots.getD a0.Live.toNat default).Trial)&&I)&&Y)&&(a0.Box.Edition==a0.Last))=true) (Zj a0.Job)) fun x5=>
 bd (gcall (x5=false∧(((((decide (a0.Box.Trial<=9))&&(a0.Slots.getD a0.Live.toNat default).Trial)&&I)&&Y)&&(a0.Box.Edition==a0.Last))=true) (Qa7 a0.Job 2)) fun x6=>
 some ((((((decide (a0.Box.Trial<=9))&&(a0.Slots.getD a0.Live.toNat default).Trial)&&I)&&Y)&&(a0.Box.Edition==a0.Last))&&(x5||x6))
else
(if((decide (a0.Box.Trial<0))||(decide (((a0.Box.Back.length:Nat):Int)>0)))=true then
 some false
else
(if(a0.Slots.getD a0.Live.toNat default).Trial=true then
 bd (Jl a0.Box.Lines ((a0.Slots.getD ((IntKind.i64.wrap (1-a0.Live)).toNat) default).Lines)) fun x7=>
 bd (gcall ((x7&&(a0.Box.Edition==(IntKind.i64.wrap (a0.Last+1))))=true) (Qa7 a0.Job 3)) fun x8=>
 some ((x7&&(a0.Box.Edition==(IntKind.i64.wrap (a0.Last+1))))&&x8)
else
 bd (Jl a0.Box.Lines ((a0.Slots.getD a0.Live.toNat default).Lines)) fun x9=>
(if(!x9)=true then
 some false
else
 bd (Zj a0.Job) fun O=>
(if O=true then
 bd (Qbl a0) fun U=>
 some U
else
 bd (Jb a0) fun G=>
 bd (gcall ((decide (a0.Job.Step>0))=false∧G=true) (Qbl a0)) fun J=>
 some (G&&((decide (a0.Job.Step>0))||J)))))))
theorem QkC {a0:QAv} {r:Bool} (h:Qcv a0=some r):PureC prog 69 [.agg [dB a0.Up,dI a0.Box.Edition,.d (slD encSb a0.Box.Lines),dI a0.Box.Trial,.d (slD encSb a0.Box.Back),.d (slD QAr.enc a0.Box.Cands),.d (slD QAu.enc a0.Slots),dI a0.Live,dI a0.Last,dI a0.Job.Kind,dI a0.Job.Step,dI a0.Job.Edition,dI a0.Job.Ticks,.d (slD encSb a0.Job.Lines)]] (dB r) []:=by
 refine pY tOk f69 rfl (gdI h fun h=>gdI h fun h=>Qc tOk ?_);apply Qo h<;>intro _ h
 ·refine bG h (fun _=>Qa6) fun x3 h=>bG h (fun _=>Qa6) fun x4 h=>bG h (fun _=>Qec) fun x5 h=>?_;obtain⟨x6,J,h⟩:=Qb h;refine cG (fun O I=>Qg4 (Qn J ⟨O,I⟩)) ?_;cases h;exact lfP []
 ·refine Qc tOk ?_;apply Qo h<;>intro _ h
  ·cases h
   exact lfP []
  ·refine Qc tOk ?_;apply Qo h<;>intro _ h
   ·refine bC h 0 (fun _=>Qa6) fun x7 h=>bG h (fun _=>Qg4) fun x8 h=>?_;cases h;exact lfP []
   ·refine Qc tOk (bC h 0 (fun _=>Qa6) fun x9 h=>?_);apply Qo h<;>intro _ h
    ·cases h
     exact lfP []
    ·refine Qc tOk (bC h 0 (fun _=>Qec) fun x10 h=>?_);apply Qo h<;>intro _ h
     ·refine bC h 0 (fun _=>Qga) fun x11 h=>?_;cases h;exact lfP []
     ·refine bC h 0 (fun _=>QjN) fun x12 h=>?_;obtain⟨x13,G,h⟩:=Qb h;refine cG (fun O I=>Qga (Qn G ⟨O,I⟩)) ?_;cases h;exact lfP []
def Qcw (a0:QAs):Option (Bool):=
(if(decide (((a0.Cands.length:Nat):Int)>3))=true then
 some false
else
 bd (lp (σ:=Int) (β:=(Unit⊕Unit)) (fun s1=>
(if(decide (s1<((a0.Cands.length:Nat):Int)))=true then
 gd ((0:Int)<=s1∧s1<((a0.Cands.length:Nat):Int))<|
 bd (Zs ((a0.Cands.getD s1.toNat default).User)) fun G=>
 bd (gcall ((!G)=false) (QT ((a0.Cands.getD s1.toNat default).Base) 0 a0.Edition)) fun I=>
 bd (gcall (((!G)||(!I))=false) (Q7 ((a0.Cands.getD s1.toNat default).From))) fun J=>
 bd (gcall ((((!G)||(!I))||(J !=0))=false) (Q7 ((a0.Cands.getD s1.toNat default).Lines))) fun O=>
 gd ((decide (s1>0))=true->(((((!G)||(!I))||(J !=0))||(O !=0))=false->((0:Int)<=IntKind.i64.wrap (s1-1)∧IntKind.i64.wrap (s1-1)<((a0.Cands.length:Nat):Int))))<|
(if(((((!G)||(!I))||(J !=0))||(O !=0))||((decide (s1>0))&&(!(bsl ((a0.Cands.getD ((IntKind.i64.wrap (s1-1)).toNat) default).User) ((a0.Cands.getD s1.toNat default).User)))))=true then
 some (.inr (.inl ()))
else
 some (.inl (IntKind.i64.wrap (s1+1))))
else
 some (.inr (.inr ())))) 0) fun U=>
(match U with
| .inl d11=>
 some false
| .inr d12=>
 some true))
theorem QkD {a0:QAs} {r:Bool} (h:Qcw a0=some r):PureC prog 70 [.agg [dI a0.Edition,.d (slD encSb a0.Lines),dI a0.Trial,.d (slD encSb a0.Back),.d (slD QAr.enc a0.Cands)]] (dB r) []:=by
 refine pY tOk f70 rfl (Qc tOk ?_);apply Qo h<;>intro _ h
 ·cases h
  exact lfP []
 ·refine Qc tOk ?_;obtain⟨x4,I,h⟩:=Qb h;refine QF tOk I (fun s1=>⟨0,61,[(1,.ref 1 0 0),(3,dI s1)],[],[(1,.box 29 [dI a0.Edition,.d (slD encSb a0.Lines),dI a0.Trial,.d (slD encSb a0.Back),.d (slD QAr.enc a0.Cands)])],[]⟩) ?_ ?_
  ·exact leX []
  ·clear I;intro s1 y2 G J;refine Qc tOk ?_;apply Qo G<;>intro _ G
   ·refine Qc tOk (gdI G fun G=>?_);obtain⟨x6,U,G⟩:=Qb G;obtain⟨x7,a3,G⟩:=Qb G;obtain⟨x8,a2,G⟩:=Qb G;obtain⟨x9,a1,G⟩:=Qb G;obtain⟨Y,G⟩:=Qf G;refine QW tOk [.u 2 0 (dB x6) [],.u 9 0 (dB x7) [],.u 15 0 (dI x8) [],.u 21 0 (dI x9) []] 40 [] [0,1,3,7,15,31,63,31,159,511,1023,2047,4095,8191,16383,32767,65535,131071,262143,524287,1048575,2097151,4194303,8388607,16777215,33554431,67108863,134217727,268435455,536870911,268435455,1342177279,4294967295,8589934591,17179869183,268435455,34628173823,137438953471,274877906943,549755813887] [] (aI (QN (Qan U) (by kernel_rfl)) (aI (Qw rfl rfl rfl rfl (by intro O;exact ZC (Qn a3 O))) (aI (Qw rfl rfl rfl rfl (by intro O;exact ZI (Qn a2 O))) (aI (Qw rfl rfl rfl rfl (by intro O;exact ZI (Qn a1 O))) (aI Y (aK ?_))))));apply Qo G<;>intro _ G
    ·cases G
     cases J _ rfl
     cases h
     exact lfP []
    ·exact eX G []
   ·cases G
    cases J _ rfl
    cases h
    exact lfP []
def Qbe (a0:QAv):Option (Bool):=
 bd (Qb5 a0) fun I=>
(if(!I)=true then
 some false
else
(if(!a0.Up)=true then
 bd (gcall ((((((a0.Box.Edition==0)&&(((a0.Box.Lines.length:Nat):Int)==0))&&(a0.Box.Trial==0))&&(((a0.Box.Back.length:Nat):Int)==0))&&(((a0.Box.Cands.length:Nat):Int)==0))=true) (Zj a0.Job)) fun J=>
 some ((((((a0.Box.Edition==0)&&(((a0.Box.Lines.length:Nat):Int)==0))&&(a0.Box.Trial==0))&&(((a0.Box.Back.length:Nat):Int)==0))&&(((a0.Box.Cands.length:Nat):Int)==0))&&J)
else
 bd (Qcv a0) fun G=>
 bd (gcall (G=true) (Qcw a0.Box)) fun O=>
 some (G&&O)))
theorem Qh3 {a0:QAv} {r:Bool} (h:Qbe a0=some r):PureC prog 29 [.agg [dB a0.Up,dI a0.Box.Edition,.d (slD encSb a0.Box.Lines),dI a0.Box.Trial,.d (slD encSb a0.Box.Back),.d (slD QAr.enc a0.Box.Cands),.d (slD QAu.enc a0.Slots),dI a0.Live,dI a0.Last,dI a0.Job.Kind,dI a0.Job.Step,dI a0.Job.Edition,dI a0.Job.Ticks,.d (slD encSb a0.Job.Lines)]] (dB r) []:=by
 refine pY tOk f29 rfl (Qc tOk (bC h 0 (fun _=>QjM) fun x1 h=>?_));apply Qo h<;>intro _ h
 ·cases h
  exact lfP []
 ·refine Qc tOk ?_;apply Qo h<;>intro _ h
  ·refine bG h (fun _=>Qec) fun x2 h=>?_;cases h;exact lfP []
  ·refine bC h 0 (fun _=>QkC) fun x3 h=>bG h (fun _=>QkD) fun x4 h=>?_;cases h;exact lfP []
def Jc (a0:(List Bt)) (I:Bt):Option (Bt):=
 bd (Qai a0 I) fun G=>
(if(decide (G<0))=true then
 some (⟨#[]⟩:Bt)
else
 gd ((0:Int)<=G∧G<((a0.length:Nat):Int))<|
 some (a0.getD G.toNat default))
theorem Qdy {a0:(List Bt)} {G:Bt} {r:Bt} (h:Jc a0 G=some r):PureC prog 174 [.d (slD encSb a0),.d (.str G)] (.d (.str r)) []:=by
 refine pY tOk f174 rfl (bC h 0 (fun _=>Qff) fun x1 h=>Qc tOk ?_);apply Qo h<;>intro _ h
 ·cases h
  exact lfP []
 ·refine gdI h fun h=>?_;cases h;exact lfP []
def QbP (a0:(List Bt)) (I:Bt):Option (Bool):=
 bd (Zs I) fun G=>
 gd (G=true->((⟨#[117,115,101,114,32]⟩:Bt).size+I.size<=9223372036854775807))<|
 bd (gcall (G=true) (Jc a0 ((⟨#[117,115,101,114,32]⟩:Bt)++I))) fun J=>
 some (G&&(!(J==(⟨#[]⟩:Bt))))
theorem Qg5 {a0:(List Bt)} {G:Bt} {r:Bool} (h:QbP a0 G=some r):PureC prog 142 [.d (slD encSb a0),.d (.str G)] (dB r) []:=by
 refine pY tOk f142 rfl (bC h 0 (fun _=>Qan) fun x1 h=>gdI h fun h=>bG h (fun _=>Qdy) fun x3 h=>?_);cases h;exact lfP []
def Qcx (a0:QAv) (J:QAw):Option (QAv×Int):=
 bd (QbP a0.Box.Lines J.User) fun U=>
(if(!U)=true then
 some (a0,3)
else
 bd (Qch a0.Box J.User) fun O=>
(if(decide (O>=0))=true then
 gd ((0:Int)<=O∧O<((a0.Box.Cands.length:Nat):Int))<|
 bd (some (a0.Box.Cands.set O.toNat (⟨J.User,a0.Box.Edition,a0.Box.Lines,a0.Box.Lines⟩:QAr))) fun Y=>
 some ({a0 with Box:={a0.Box with Cands:=Y}},0)
else
(if(((a0.Box.Cands.length:Nat):Int)==3)=true then
 some (a0,4)
else
 bd (lp (σ:=Int) (β:=(Int)) (fun I=>
 gd ((decide (I<((a0.Box.Cands.length:Nat):Int)))=true->((0:Int)<=I∧I<((a0.Box.Cands.length:Nat):Int)))<|
(if((decide (I<((a0.Box.Cands.length:Nat):Int)))&&(bsl ((a0.Box.Cands.getD I.toNat default).User) J.User))=true then
 some (.inl (IntKind.i64.wrap (I+1)))
else
 some (.inr I))) 0) fun G=>
 gd ((0:Int)<=(0:Int)∧(0:Int)<=G∧G<=((a0.Box.Cands.length:Nat):Int))<|
 gd (((0)+(G.toNat))*(72+1)<=70368744177664)<|
 gd ((((a0.Box.Cands.take G.toNat).length)+(([(⟨J.User,a0.Box.Edition,a0.Box.Lines,a0.Box.Lines⟩:QAr)]:List QAr).length))*(72+1)<=70368744177664)<|
 gd ((0:Int)<=G∧G<=((a0.Box.Cands.length:Nat):Int)∧((a0.Box.Cands.length:Nat):Int)<=((a0.Box.Cands.length:Nat):Int))<|
 gd (((((a0.Box.Cands.take G.toNat)++([(⟨J.User,a0.Box.Edition,a0.Box.Lines,a0.Box.Lines⟩:QAr)]:List QAr)).length)+((QgL ((a0.Box.Cands.length:Nat):Int) G)))*(72+1)<=70368744177664)<|
 some ({a0 with Box:={a0.Box with Cands:=(((a0.Box.Cands.take G.toNat)++([(⟨J.User,a0.Box.Edition,a0.Box.Lines,a0.Box.Lines⟩:QAr)]:List QAr))++(((a0.Box.Cands).take (G.toNat+(QgL ((a0.Box.Cands.length:Nat):Int) G))).drop G.toNat))}},0))))
theorem QkE {a0:QAv} {I:QAw} {r:QAv×Int} (h:Qcx a0 I=some r):EffC prog 72 [.agg [dB a0.Up,dI a0.Box.Edition,.d (slD encSb a0.Box.Lines),dI a0.Box.Trial,.d (slD encSb a0.Box.Back),.osl 9000 0 a0.Box.Cands.length,.d (slD QAu.enc a0.Slots),dI a0.Live,dI a0.Last,dI a0.Job.Kind,dI a0.Job.Step,dI a0.Job.Edition,dI a0.Job.Ticks,.d (slD encSb a0.Job.Lines)],.agg [dI I.Kind,.d (.str I.User),.d (.str I.Line),dI I.N]] [(9000,.arr 93 4 a0.Box.Cands.length (rows QAr.enc a0.Box.Cands))] (.tup [.agg [dB r.1.Up,dI r.1.Box.Edition,.d (slD encSb r.1.Box.Lines),dI r.1.Box.Trial,.d (slD encSb r.1.Box.Back),.d (slD QAr.enc r.1.Box.Cands),.d (slD QAu.enc r.1.Slots),dI r.1.Live,dI r.1.Last,dI r.1.Job.Kind,dI r.1.Job.Step,dI r.1.Job.Edition,dI r.1.Job.Ticks,.d (slD encSb r.1.Job.Lines)],dI r.2]) []:=by
 refine eY tOk f72 rfl (Qc tOk (bC h 0 (fun _=>Qg5) fun x1 h=>?_));apply Qo h<;>intro _ h
 ·cases h
  exact lfE [.f [9000]]
 ·refine bC h 0 (fun _=>Qf9) fun x2 h=>Qc tOk ?_;apply Qo h<;>intro _ h
  ·refine gdI h fun h=>?_;obtain⟨x4,a2,hlx4,h⟩:=QfO h;refine QsH (enc:=QAr.enc) a2 ?_;cases h;exact lfE [.f [9000]]
  ·refine Qc tOk ?_;apply Qo h<;>intro _ h
   ·cases h
    exact lfE [.f [9000]]
   ·refine Qc tOk ?_;obtain⟨x8,O,h⟩:=Qb h;refine QF tOk O (fun G=>⟨0,87,[(2,.ref 2 0 0),(3,.ref 3 0 0),(4,.ref 4 0 0),(6,.ref 6 0 0),(7,dI G)],[],[(6,.box 93 [.d (.str I.User),dI a0.Box.Edition,.d (slD encSb a0.Box.Lines),.d (slD encSb a0.Box.Lines)]),(4,.box 34 [dB false,dI 0,.d (.nil),dI 0,.d (.nil),.d (.nil),.d (.nil),dI 0,dI 0,dI 0,dI 0,dI 0,dI 0,.d (.nil)]),(3,.box 41 [dI I.Kind,.d (.str I.User),.d (.str I.Line),dI I.N]),(2,.box 34 [dB a0.Up,dI a0.Box.Edition,.d (slD encSb a0.Box.Lines),dI a0.Box.Trial,.d (slD encSb a0.Box.Back),.osl 9000 0 a0.Box.Cands.length,.d (slD QAu.enc a0.Slots),dI a0.Live,dI a0.Last,dI a0.Job.Kind,dI a0.Job.Step,dI a0.Job.Edition,dI a0.Job.Ticks,.d (slD encSb a0.Job.Lines)]),(9000,.arr 93 4 a0.Box.Cands.length (rows QAr.enc a0.Box.Cands))],[⟨[],[]⟩]⟩) ?_ ?_
    ·exact leX []
    ·clear O;intro G y6 J a4;refine Qc tOk ?_;obtain⟨g9,J⟩:=Qf J;refine QW tOk [] 18 [] [0,0,2,6,14,31,63,127,255,511,127,2047,4095,8191,127,16511,65535,131071] [] (aI g9 (aK ?_));apply Qo J<;>intro _ J
     ·exact eX J []
     ·cases J
      obtain rfl:=a4 _ rfl;obtain⟨a6,h⟩:=Qf h;obtain⟨a5,h⟩:=Qf h;obtain⟨a3,h⟩:=Qf h;obtain⟨Y,h⟩:=Qf h;obtain⟨U,h⟩:=Qf h;refine Qas tOk [.a 6 [] (.osl 74 0 ((a0.Box.Cands.take G.toNat).length)) [(74,.arr 93 4 ((a0.Box.Cands.take G.toNat).length) (rows QAr.enc (a0.Box.Cands.take G.toNat)))],.a 9 [(74,.arr 93 4 ((a0.Box.Cands.take G.toNat).length) (rows QAr.enc (a0.Box.Cands.take G.toNat)))] (.osl 77 0 (((a0.Box.Cands.take G.toNat)++([(⟨I.User,a0.Box.Edition,a0.Box.Lines,a0.Box.Lines⟩:QAr)]:List QAr)).length)) [(77,.arr 93 4 (((a0.Box.Cands.take G.toNat)++([(⟨I.User,a0.Box.Edition,a0.Box.Lines,a0.Box.Lines⟩:QAr)]:List QAr)).length) (rows QAr.enc ((a0.Box.Cands.take G.toNat)++([(⟨I.User,a0.Box.Edition,a0.Box.Lines,a0.Box.Lines⟩:QAr)]:List QAr))))],.a 15 [(77,.arr 93 4 (((a0.Box.Cands.take G.toNat)++([(⟨I.User,a0.Box.Edition,a0.Box.Lines,a0.Box.Lines⟩:QAr)]:List QAr)).length) (rows QAr.enc ((a0.Box.Cands.take G.toNat)++([(⟨I.User,a0.Box.Edition,a0.Box.Lines,a0.Box.Lines⟩:QAr)]:List QAr))))] (.osl 83 0 ((((a0.Box.Cands.take G.toNat)++([(⟨I.User,a0.Box.Edition,a0.Box.Lines,a0.Box.Lines⟩:QAr)]:List QAr))++(((a0.Box.Cands).take (G.toNat+(QgL ((a0.Box.Cands.length:Nat):Int) G))).drop G.toNat)).length)) [(83,.arr 93 4 ((((a0.Box.Cands.take G.toNat)++([(⟨I.User,a0.Box.Edition,a0.Box.Lines,a0.Box.Lines⟩:QAr)]:List QAr))++(((a0.Box.Cands).take (G.toNat+(QgL ((a0.Box.Cands.length:Nat):Int) G))).drop G.toNat)).length) (rows QAr.enc (((a0.Box.Cands.take G.toNat)++([(⟨I.User,a0.Box.Edition,a0.Box.Lines,a0.Box.Lines⟩:QAr)]:List QAr))++(((a0.Box.Cands).take (G.toNat+(QgL ((a0.Box.Cands.length:Nat):Int) G))).drop G.toNat))))]] 18 [] [0,0,2,6,0,30,63,0,128,511,0,1024,3072,0,15360,32767,65535,131071] [262143] [] (aI a6 (aI (by(conv=>whnf);exact⟨a5,QyC (enc:=QAr.enc) (ys:=a0.Box.Cands.take G.toNat) ⟨rfl,rfl⟩⟩) (QbB (enc:=QAr.enc) ([(⟨I.User,a0.Box.Edition,a0.Box.Lines,a0.Box.Lines⟩:QAr)]:List QAr) (aI (by(conv=>whnf);exact⟨a3,Qf7 (enc:=QAr.enc) (xs:=(a0.Box.Cands.take G.toNat)) (ys:=([(⟨I.User,a0.Box.Edition,a0.Box.Lines,a0.Box.Lines⟩:QAr)]:List QAr)) ⟨rfl,rfl⟩⟩) (aI Y (aI (by(conv=>whnf);exact⟨U,Qf7 (enc:=QAr.enc) (xs:=((a0.Box.Cands.take G.toNat)++([(⟨I.User,a0.Box.Edition,a0.Box.Lines,a0.Box.Lines⟩:QAr)]:List QAr))) (ys:=((a0.Box.Cands).take (G.toNat+(QgL ((a0.Box.Cands.length:Nat):Int) G))).drop G.toNat) ⟨rfl,rfl⟩⟩) (aK ?_)))))));cases h;exact lfE [.f [83]]
def QbC (a0:QAv) (G:QAw):Option (QAv×Int):=
(if(a0.Box.Trial==0)=true then
 some (a0,8)
else
(if(G.N !=a0.Box.Edition)=true then
 some (a0,5)
else
 bd (QbP a0.Box.Lines G.User) fun I=>
(if(!I)=true then
 some (a0,3)
else
(if(decide (a0.Job.Kind>0))=true then
 some (a0,10)
else
 some ({a0 with Job:=(⟨2,0,0,0,[]⟩:QAt)},0)))))
theorem QiN {a0:QAv} {G:QAw} {r:QAv×Int} (h:QbC a0 G=some r):EffC prog 73 [.agg [dB a0.Up,dI a0.Box.Edition,.d (slD encSb a0.Box.Lines),dI a0.Box.Trial,.d (slD encSb a0.Box.Back),.d (slD QAr.enc a0.Box.Cands),.d (slD QAu.enc a0.Slots),dI a0.Live,dI a0.Last,dI a0.Job.Kind,dI a0.Job.Step,dI a0.Job.Edition,dI a0.Job.Ticks,.d (slD encSb a0.Job.Lines)],.agg [dI G.Kind,.d (.str G.User),.d (.str G.Line),dI G.N]] [] (.tup [.agg [dB r.1.Up,dI r.1.Box.Edition,.d (slD encSb r.1.Box.Lines),dI r.1.Box.Trial,.d (slD encSb r.1.Box.Back),.d (slD QAr.enc r.1.Box.Cands),.d (slD QAu.enc r.1.Slots),dI r.1.Live,dI r.1.Last,dI r.1.Job.Kind,dI r.1.Job.Step,dI r.1.Job.Edition,dI r.1.Job.Ticks,.d (slD encSb r.1.Job.Lines)],dI r.2]) []:=by
 refine eY tOk f73 rfl (Qc tOk ?_);apply Qo h<;>intro _ h
 ·cases h
  exact lfE []
 ·apply Qo h<;>intro _ h
  ·cases h
   exact lfE []
  ·refine bC h 0 (fun _=>Qg5) fun x1 h=>?_;apply Qo h<;>intro _ h
   ·cases h
    exact lfE []
   ·apply Qo h<;>intro _ h
    ·cases h
     exact lfE []
    ·cases h
     exact lfE []
def Qdk (a0:QAv):Option (QAv):=
(if(a0.Box.Trial==0)=true then
 some a0
else
(if(decide ((IntKind.i64.wrap (a0.Box.Trial-1))>0))=true then
 some ({a0 with Box:={a0.Box with Trial:=IntKind.i64.wrap (a0.Box.Trial-1)}})
else
 some ({a0 with Box:=(⟨IntKind.i64.wrap (a0.Box.Edition+1),a0.Box.Back,IntKind.i64.wrap (a0.Box.Trial-1),[],a0.Box.Cands⟩:QAs),Job:=(⟨3,0,0,0,[]⟩:QAt)})))
theorem QlZ {a0:QAv} {r:QAv} (h:Qdk a0=some r):EffC prog 74 [.agg [dB a0.Up,dI a0.Box.Edition,.d (slD encSb a0.Box.Lines),dI a0.Box.Trial,.d (slD encSb a0.Box.Back),.d (slD QAr.enc a0.Box.Cands),.d (slD QAu.enc a0.Slots),dI a0.Live,dI a0.Last,dI a0.Job.Kind,dI a0.Job.Step,dI a0.Job.Edition,dI a0.Job.Ticks,.d (slD encSb a0.Job.Lines)]] [] (.agg [dB r.Up,dI r.Box.Edition,.d (slD encSb r.Box.Lines),dI r.Box.Trial,.d (slD encSb r.Box.Back),.d (slD QAr.enc r.Box.Cands),.d (slD QAu.enc r.Slots),dI r.Live,dI r.Last,dI r.Job.Kind,dI r.Job.Step,dI r.Job.Edition,dI r.Job.Ticks,.d (slD encSb r.Job.Lines)]) []:=by
 refine eY tOk f74 rfl (Qc tOk ?_);apply Qo h<;>intro _ h
 ·cases h
  exact lfE []
 ·refine Qc tOk ?_;apply Qo h<;>intro _ h
  ·cases h
   exact lfE []
  ·cases h
   exact lfE []
def QeK (a0:QAv):Option (QAv):=
 bd (α:=Int×List Bt) ((if(decide (a0.Job.Ticks>0))=true then
 some (a0.Job.Ticks,a0.Box.Lines)
else
 some (a0.Box.Trial,a0.Box.Back))) fun G=>
 some ({a0 with Box:=(⟨a0.Job.Edition,a0.Job.Lines,G.1,G.2,a0.Box.Cands⟩:QAs),Live:=IntKind.i64.wrap (1-a0.Live),Job:=(⟨0,0,0,0,[]⟩:QAt)})
theorem Ql0 {a0:QAv} {r:QAv} (h:QeK a0=some r):EffC prog 175 [.agg [dB a0.Up,dI a0.Box.Edition,.d (slD encSb a0.Box.Lines),dI a0.Box.Trial,.d (slD encSb a0.Box.Back),.d (slD QAr.enc a0.Box.Cands),.d (slD QAu.enc a0.Slots),dI a0.Live,dI a0.Last,dI a0.Job.Kind,dI a0.Job.Step,dI a0.Job.Edition,dI a0.Job.Ticks,.d (slD encSb a0.Job.Lines)]] [] (.agg [dB r.Up,dI r.Box.Edition,.d (slD encSb r.Box.Lines),dI r.Box.Trial,.d (slD encSb r.Box.Back),.d (slD QAr.enc r.Box.Cands),.d (slD QAu.enc r.Slots),dI r.Live,dI r.Last,dI r.Job.Kind,dI r.Job.Step,dI r.Job.Edition,dI r.Job.Ticks,.osl 5001 0 r.Job.Lines.length]) [(5001,.arr 9 1 r.Job.Lines.length (rows encSb r.Job.Lines))]:=by
 refine eY tOk f175 rfl ?_;obtain⟨J,G,h⟩:=Qb h;refine Zm tOk (fun I=>⟨0,33,[(1,.ref 1 0 0),(2,.ref 2 0 0),(3,.ref 3 0 0)],[],[(3,.box 32 [dI a0.Job.Kind,dI a0.Job.Step,dI a0.Job.Edition,dI a0.Job.Ticks,.d (slD encSb a0.Job.Lines)]),(2,.box 34 [dB false,dI 0,.d (.nil),dI 0,.d (.nil),.d (.nil),.d (.nil),dI 0,dI 0,dI 0,dI 0,dI 0,dI 0,.d (.nil)]),(1,.box 34 [dB a0.Up,dI a0.Box.Edition,.d (slD encSb a0.Box.Lines),dI I.1,.d (slD encSb I.2),.d (slD QAr.enc a0.Box.Cands),.d (slD QAu.enc a0.Slots),dI (IntKind.i64.wrap (1-a0.Live)),dI a0.Last,dI a0.Job.Kind,dI a0.Job.Step,dI a0.Job.Edition,dI a0.Job.Ticks,.d (slD encSb a0.Job.Lines)])],[⟨[],[]⟩]⟩) (fun I=>J=I) ?_ ?_
 ·apply Qo G<;>intro _ G
  ·exact eZ G []
  ·exact eZ G []
 ·rintro _ rfl;cases h;exact lfE [.k [1,3],.p 5001 9 1 (rows encSb ([]:List Bt))]
def QdV (a0:QAv):Option (QAv):=
 bd (α:=(List QAu×Int)⊕((List Bt)×Nat×Bool×Int×(List Bt)×Int×(List Bt)×(List QAr)×(List QAu)×Int×Int×Int×Int×Int×Int)) ((if(a0.Job.Step==(IntKind.i64.wrap (((a0.Job.Lines.length:Nat):Int)+2)))=true then
 bd (QeK a0) fun I=>
 some (.inr (I.Job.Lines,I.Job.Lines.length,I.Up,I.Box.Edition,I.Box.Lines,I.Box.Trial,I.Box.Back,I.Box.Cands,I.Slots,I.Live,I.Last,I.Job.Kind,I.Job.Step,I.Job.Edition,I.Job.Ticks))
else
(if(a0.Job.Step==0)=true then
 gd ((0:Int)<=IntKind.i64.wrap (1-a0.Live)∧IntKind.i64.wrap (1-a0.Live)<((a0.Slots.length:Nat):Int))<|
 some (.inl (a0.Slots.set ((IntKind.i64.wrap (1-a0.Live)).toNat) (⟨false,0,false,[]⟩:QAu),a0.Job.Edition))
else
(if(decide (a0.Job.Step<=((a0.Job.Lines.length:Nat):Int)))=true then
 gd ((0:Int)<=IntKind.i64.wrap (1-a0.Live)∧IntKind.i64.wrap (1-a0.Live)<((a0.Slots.length:Nat):Int))<|
 bd (Z3 ((a0.Slots.getD ((IntKind.i64.wrap (1-a0.Live)).toNat) default).Lines)) fun x7=>
 gd ((0:Int)<=IntKind.i64.wrap (a0.Job.Step-1)∧IntKind.i64.wrap (a0.Job.Step-1)<((a0.Job.Lines.length:Nat):Int))<|
 gd (((x7.length)+(([(a0.Job.Lines.getD ((IntKind.i64.wrap (a0.Job.Step-1)).toNat) default)]:List Bt).length))*(16+1)<=70368744177664)<|
 gd ((0:Int)<=IntKind.i64.wrap (1-a0.Live)∧IntKind.i64.wrap (1-a0.Live)<((a0.Slots.length:Nat):Int))<|
 bd (some (a0.Slots.set ((IntKind.i64.wrap (1-a0.Live)).toNat) ({(a0.Slots.getD ((IntKind.i64.wrap (1-a0.Live)).toNat) default) with Lines:=(x7++([(a0.Job.Lines.getD ((IntKind.i64.wrap (a0.Job.Step-1)).toNat) default)]:List Bt))}))) fun Y=>
 some (.inl (Y,a0.Last))
else
 gd ((0:Int)<=IntKind.i64.wrap (1-a0.Live)∧IntKind.i64.wrap (1-a0.Live)<((a0.Slots.length:Nat):Int))<|
 bd (some (a0.Slots.set ((IntKind.i64.wrap (1-a0.Live)).toNat) ({(a0.Slots.getD ((IntKind.i64.wrap (1-a0.Live)).toNat) default) with Whole:=true}))) fun O=>
 gd ((0:Int)<=IntKind.i64.wrap (1-a0.Live)∧IntKind.i64.wrap (1-a0.Live)<((a0.Slots.length:Nat):Int))<|
 bd (some (O.set ((IntKind.i64.wrap (1-a0.Live)).toNat) ({(O.getD ((IntKind.i64.wrap (1-a0.Live)).toNat) default) with Edition:=a0.Job.Edition}))) fun J=>
 gd ((0:Int)<=IntKind.i64.wrap (1-a0.Live)∧IntKind.i64.wrap (1-a0.Live)<((a0.Slots.length:Nat):Int))<|
 bd (some (J.set ((IntKind.i64.wrap (1-a0.Live)).toNat) ({(J.getD ((IntKind.i64.wrap (1-a0.Live)).toNat) default) with Trial:=(decide (a0.Job.Ticks>0))}))) fun U=>
 some (.inl (U,a0.Last)))))) fun x1=>
(match x1 with
| .inl d3=>
 some ({a0 with Slots:=d3.1,Last:=d3.2,Job:={a0.Job with Step:=IntKind.i64.wrap (a0.Job.Step+1)}})
| .inr G=>
 some (⟨G.2.2.1,(⟨G.2.2.2.1,G.2.2.2.2.1,G.2.2.2.2.2.1,G.2.2.2.2.2.2.1,G.2.2.2.2.2.2.2.1⟩:QAs),G.2.2.2.2.2.2.2.2.1,G.2.2.2.2.2.2.2.2.2.1,G.2.2.2.2.2.2.2.2.2.2.1,(⟨G.2.2.2.2.2.2.2.2.2.2.2.1,G.2.2.2.2.2.2.2.2.2.2.2.2.1,G.2.2.2.2.2.2.2.2.2.2.2.2.2.1,G.2.2.2.2.2.2.2.2.2.2.2.2.2.2,G.1⟩:QAt)⟩:QAv))
theorem Qna {a0:QAv} {r:QAv} (h:QdV a0=some r):EffC prog 143 [.agg [dB a0.Up,dI a0.Box.Edition,.d (slD encSb a0.Box.Lines),dI a0.Box.Trial,.d (slD encSb a0.Box.Back),.d (slD QAr.enc a0.Box.Cands),.osl 9000 0 a0.Slots.length,dI a0.Live,dI a0.Last,dI a0.Job.Kind,dI a0.Job.Step,dI a0.Job.Edition,dI a0.Job.Ticks,.d (slD encSb a0.Job.Lines)]] [(9000,.arr 61 4 a0.Slots.length (rows QAu.enc a0.Slots))] (.agg [dB r.Up,dI r.Box.Edition,.d (slD encSb r.Box.Lines),dI r.Box.Trial,.d (slD encSb r.Box.Back),.d (slD QAr.enc r.Box.Cands),.d (slD QAu.enc r.Slots),dI r.Live,dI r.Last,dI r.Job.Kind,dI r.Job.Step,dI r.Job.Edition,dI r.Job.Ticks,.d (slD encSb r.Job.Lines)]) []:=by
 refine eY tOk f143 rfl ?_;obtain⟨x1,G,h⟩:=Qb h;refine Zm tOk (fun J=>⟨0,86,[(1,.ref 1 0 0),(2,.ref 2 0 0),(3,.ref 3 0 0)],[],[(3,.box 32 [dI a0.Job.Kind,dI a0.Job.Step,dI a0.Job.Edition,dI a0.Job.Ticks,.d (slD encSb a0.Job.Lines)]),(2,.box 34 [dB false,dI 0,.d (.nil),dI 0,.d (.nil),.d (.nil),.d (.nil),dI 0,dI 0,dI 0,dI 0,dI 0,dI 0,.d (.nil)]),(1,.box 34 [dB a0.Up,dI a0.Box.Edition,.d (slD encSb a0.Box.Lines),dI a0.Box.Trial,.d (slD encSb a0.Box.Back),.d (slD QAr.enc a0.Box.Cands),.osl 9000 0 J.1.length,dI a0.Live,dI J.2,dI a0.Job.Kind,dI a0.Job.Step,dI a0.Job.Edition,dI a0.Job.Ticks,.d (slD encSb a0.Job.Lines)]),(9000,.arr 61 4 J.1.length (rows QAu.enc J.1))],[⟨[],[]⟩]⟩) (fun J=>x1=.inl J) ?_ ?_
 ·apply Qo G<;>intro _ G
  ·obtain⟨x4,a3,G⟩:=Qb G;refine Zp [9000] (cE [] 1000 (Ql0 a3) ?_);cases G;cases h;exact lfE [.f [6001]]
  ·apply Qo G<;>intro _ G
   ·refine gdI G fun G=>⟨(fun i=>if i=((IntKind.i64.wrap (1-a0.Live)).toNat) then [(.bool false:D),(.int .i64 0:D),(.bool false:D),(.nil:D)] else rows QAu.enc a0.Slots i),fun _ _=>rfl,?_⟩;exact eX G [.w 9000 a0.Slots.length (fun i=>if i=((IntKind.i64.wrap (1-a0.Live)).toNat) then [(.bool false:D),(.int .i64 0:D),(.bool false:D),(.nil:D)] else rows QAu.enc a0.Slots i) (rows QAu.enc (a0.Slots.set ((IntKind.i64.wrap (1-a0.Live)).toNat) (⟨false,0,false,[]⟩:QAu))) (rowsW (.same (.same (.same (.zero rfl .nilL)))))]
   ·apply Qo G<;>intro _ G
    ·obtain⟨g6,G⟩:=Qf G;obtain⟨I,a4,G⟩:=Qb G;obtain⟨g8,G⟩:=Qf G;obtain⟨g9,G⟩:=Qf G;obtain⟨a5,G⟩:=Qf G;refine Qas tOk [.e 9 [] (.osl 6001 0 I.length) [] [(6001,.arr 9 1 I.length (rows encSb I))],.a 18 [(6001,.arr 9 1 I.length (rows encSb I))] (.osl 77 0 ((I++([(a0.Job.Lines.getD ((IntKind.i64.wrap (a0.Job.Step-1)).toNat) default)]:List Bt)).length)) [(77,.arr 9 1 ((I++([(a0.Job.Lines.getD ((IntKind.i64.wrap (a0.Job.Step-1)).toNat) default)]:List Bt)).length) (rows encSb (I++([(a0.Job.Lines.getD ((IntKind.i64.wrap (a0.Job.Step-1)).toNat) default)]:List Bt))))]] 21 [] [0,1,0,0,8,0,56,120,248,504,0,1024,0,4096,12288,31744,64512,130048,262136,524287,1048575] [2097151] [] (aI g6 (aI (eH [] 1000 ((JV a4).eff rfl rfl)) (aI g8 (QbB (enc:=encSb) ([(a0.Job.Lines.getD ((IntKind.i64.wrap (a0.Job.Step-1)).toNat) default)]:List Bt) (aI (by(conv=>whnf);exact⟨g9,Qf7 (enc:=encSb) (xs:=I) (ys:=([(a0.Job.Lines.getD ((IntKind.i64.wrap (a0.Job.Step-1)).toNat) default)]:List Bt)) ⟨rfl,rfl⟩⟩) (aI a5 (aK ?_)))))));obtain⟨x11,U,hlx11,G⟩:=QfO G;refine QsH (enc:=QAu.enc) U ?_;exact eX G []
    ·refine gdI G fun G=>?_;obtain⟨x13,Y,hlx13,G⟩:=QfO G;refine QsH (enc:=QAu.enc) Y (gdI G fun G=>?_);obtain⟨x15,O,hlx15,G⟩:=QfO G;refine QsH (enc:=QAu.enc) O (gdI G fun G=>?_);obtain⟨x17,a1,hlx17,G⟩:=QfO G;refine QsH (enc:=QAu.enc) a1 ?_;exact eX G []
 ·intro d3 a2;subst a2;cases h;exact lfE [.f [9000]]
def Qcy (a0:QAv):Option (QAv×Int):=
(if(a0.Job.Kind==1)=true then
 bd (QdV a0) fun G=>
 some (G,0)
else
(if(a0.Job.Kind==2)=true then
 gd ((0:Int)<=a0.Live∧a0.Live<((a0.Slots.length:Nat):Int))<|
 some ({a0 with Box:={a0.Box with Trial:=0,Back:=[]},Slots:=a0.Slots.set a0.Live.toNat ({(a0.Slots.getD a0.Live.toNat default) with Trial:=false}),Job:=(⟨0,0,0,0,[]⟩:QAt)},0)
else
(if(a0.Job.Kind==3)=true then
 some ({a0 with Live:=IntKind.i64.wrap (1-a0.Live),Job:=(⟨0,0,0,0,[]⟩:QAt)},0)
else
 some (a0,11))))
theorem QkF {a0:QAv} {r:QAv×Int} (h:Qcy a0=some r):EffC prog 75 [.agg [dB a0.Up,dI a0.Box.Edition,.d (slD encSb a0.Box.Lines),dI a0.Box.Trial,.d (slD encSb a0.Box.Back),.d (slD QAr.enc a0.Box.Cands),.osl 9000 0 a0.Slots.length,dI a0.Live,dI a0.Last,dI a0.Job.Kind,dI a0.Job.Step,dI a0.Job.Edition,dI a0.Job.Ticks,.d (slD encSb a0.Job.Lines)]] [(9000,.arr 61 4 a0.Slots.length (rows QAu.enc a0.Slots))] (.tup [.agg [dB r.1.Up,dI r.1.Box.Edition,.d (slD encSb r.1.Box.Lines),dI r.1.Box.Trial,.d (slD encSb r.1.Box.Back),.d (slD QAr.enc r.1.Box.Cands),.d (slD QAu.enc r.1.Slots),dI r.1.Live,dI r.1.Last,dI r.1.Job.Kind,dI r.1.Job.Step,dI r.1.Job.Edition,dI r.1.Job.Ticks,.d (slD encSb r.1.Job.Lines)],dI r.2]) []:=by
 refine eY tOk f75 rfl (Qc tOk ?_);apply Qo h<;>intro _ h
 ·refine bE h [(9000,9000)] 0 (fun _=>Qna) fun x1 h=>?_;cases h;exact lfE []
 ·apply Qo h<;>intro _ h
  ·refine gdI h fun h=>⟨rows QAu.enc (a0.Slots.set a0.Live.toNat ({(a0.Slots.getD a0.Live.toNat default) with Trial:=false})),QaJ QsN rfl,?_⟩;cases h;exact lfE [.f [9000]]
  ·apply Qo h<;>intro _ h
   ·cases h
    exact lfE [.f [9000]]
   ·cases h
    exact lfE [.f [9000]]
def Qdl (a0:QAv):Option (QAv):=
 gd ((0:Int)<=a0.Live∧a0.Live<((a0.Slots.length:Nat):Int))<|
(if(a0.Slots.getD a0.Live.toNat default).Trial=true then
 gd ((0:Int)<=IntKind.i64.wrap (1-a0.Live)∧IntKind.i64.wrap (1-a0.Live)<((a0.Slots.length:Nat):Int))<|
 some ({a0 with Up:=true,Box:=(⟨IntKind.i64.wrap (a0.Last+1),(a0.Slots.getD ((IntKind.i64.wrap (1-a0.Live)).toNat) default).Lines,0,[],[]⟩:QAs),Job:=(⟨3,0,0,0,[]⟩:QAt)})
else
(if(((a0.Slots.getD a0.Live.toNat default).Edition) !=a0.Last)=true then
 some ({a0 with Up:=true,Box:=(⟨IntKind.i64.wrap (a0.Last+1),(a0.Slots.getD a0.Live.toNat default).Lines,0,[],[]⟩:QAs)})
else
 some ({a0 with Up:=true,Box:=(⟨a0.Last,(a0.Slots.getD a0.Live.toNat default).Lines,0,[],[]⟩:QAs)})))
theorem Ql1 {a0:QAv} {r:QAv} (h:Qdl a0=some r):EffC prog 76 [.agg [dB a0.Up,dI a0.Box.Edition,.d (slD encSb a0.Box.Lines),dI a0.Box.Trial,.d (slD encSb a0.Box.Back),.d (slD QAr.enc a0.Box.Cands),.d (slD QAu.enc a0.Slots),dI a0.Live,dI a0.Last,dI a0.Job.Kind,dI a0.Job.Step,dI a0.Job.Edition,dI a0.Job.Ticks,.d (slD encSb a0.Job.Lines)]] [] (.agg [dB r.Up,dI r.Box.Edition,.d (slD encSb r.Box.Lines),dI r.Box.Trial,.osl 5001 0 r.Box.Back.length,.osl 5002 0 r.Box.Cands.length,.d (slD QAu.enc r.Slots),dI r.Live,dI r.Last,dI r.Job.Kind,dI r.Job.Step,dI r.Job.Edition,dI r.Job.Ticks,.d (slD encSb r.Job.Lines)]) [(5001,.arr 9 1 r.Box.Back.length (rows encSb r.Box.Back)),(5002,.arr 93 4 r.Box.Cands.length (rows QAr.enc r.Box.Cands))]:=by
 refine eY tOk f76 rfl (gdI h fun h=>Qc tOk ?_);apply Qo h<;>intro _ h
 ·obtain⟨G,h⟩:=Qf h;refine QW tOk [] 13 [] [0,1,3,0,8,0,32,96,248,504,1016,2047,4095] [8191] (aI G (aK ?_));cases h;exact lfE [.k [1,3],.p 5001 9 1 (rows encSb ([]:List Bt)),.p 5002 93 4 (rows QAr.enc ([]:List QAr))]
 ·refine Qc tOk ?_;apply Qo h<;>intro _ h
  ·cases h
   exact lfE [.k [1,3],.p 5001 9 1 (rows encSb ([]:List Bt)),.p 5002 93 4 (rows QAr.enc ([]:List QAr))]
  ·cases h
   exact lfE [.k [1,3],.p 5001 9 1 (rows encSb ([]:List Bt)),.p 5002 93 4 (rows QAr.enc ([]:List QAr))]
def Qcz (a0:QAv) (G:Int) (Y:Bt):Option (QAv×Int):=
 bd (JU Y) fun I=>
(if(!I.2)=true then
 some (a0,2)
else
 gd ((0:Int)<=G∧G<((a0.Box.Cands.length:Nat):Int))<|
 bd (ZH I.1) fun x3=>
 bd (Qai ((a0.Box.Cands.getD G.toNat default).Lines) x3) fun O=>
 bd (α:=List Bt) ((if(decide (O>=0))=true then
 bd (Zx ((a0.Box.Cands.getD G.toNat default).Lines) O) fun x8=>
 some x8
else
 some ((a0.Box.Cands.getD G.toNat default).Lines))) fun J=>
(if(((J.length:Nat):Int)==16)=true then
 some (a0,4)
else
 bd (JI J I.1) fun U=>
 gd ((0:Int)<=G∧G<((a0.Box.Cands.length:Nat):Int))<|
 some ({a0 with Box:={a0.Box with Cands:=a0.Box.Cands.set G.toNat ({(a0.Box.Cands.getD G.toNat default) with Lines:=U})}},0)))
theorem Qnb {a0:QAv} {I:Int} {a2:Bt} {r:QAv×Int} (h:Qcz a0 I a2=some r):EffC prog 144 [.agg [dB a0.Up,dI a0.Box.Edition,.d (slD encSb a0.Box.Lines),dI a0.Box.Trial,.d (slD encSb a0.Box.Back),.osl 9000 0 a0.Box.Cands.length,.d (slD QAu.enc a0.Slots),dI a0.Live,dI a0.Last,dI a0.Job.Kind,dI a0.Job.Step,dI a0.Job.Edition,dI a0.Job.Ticks,.d (slD encSb a0.Job.Lines)],dI I,.d (.str a2)] [(9000,.arr 93 4 a0.Box.Cands.length (rows QAr.enc a0.Box.Cands))] (.tup [.agg [dB r.1.Up,dI r.1.Box.Edition,.d (slD encSb r.1.Box.Lines),dI r.1.Box.Trial,.d (slD encSb r.1.Box.Back),.d (slD QAr.enc r.1.Box.Cands),.d (slD QAu.enc r.1.Slots),dI r.1.Live,dI r.1.Last,dI r.1.Job.Kind,dI r.1.Job.Step,dI r.1.Job.Edition,dI r.1.Job.Ticks,.d (slD encSb r.1.Job.Lines)],dI r.2]) []:=by
 refine eY tOk f144 rfl (bC h 0 (fun _=>Qeb) fun x1 h=>Qc tOk ?_);apply Qo h<;>intro _ h
 ·cases h
  exact lfE [.f [9000]]
 ·refine gdI h fun h=>bC h 0 (fun _=>Qa1) fun x3 h=>bC h 0 (fun _=>Qff) fun x4 h=>?_;obtain⟨x5,G,h⟩:=Qb h;refine Zm tOk (fun Y=>⟨0,50,[(1,dI I),(3,.ref 3 0 0),(6,.ref 6 0 0),(8,.d (.str x1.1)),(10,.d (slD encSb Y))],[],[(6,.box 34 [dB false,dI 0,.d (.nil),dI 0,.d (.nil),.d (.nil),.d (.nil),dI 0,dI 0,dI 0,dI 0,dI 0,dI 0,.d (.nil)]),(3,.box 34 [dB a0.Up,dI a0.Box.Edition,.d (slD encSb a0.Box.Lines),dI a0.Box.Trial,.d (slD encSb a0.Box.Back),.osl 9000 0 a0.Box.Cands.length,.d (slD QAu.enc a0.Slots),dI a0.Live,dI a0.Last,dI a0.Job.Kind,dI a0.Job.Step,dI a0.Job.Edition,dI a0.Job.Ticks,.d (slD encSb a0.Job.Lines)]),(9000,.arr 93 4 a0.Box.Cands.length (rows QAr.enc a0.Box.Cands))],[⟨[],[]⟩]⟩) (fun Y=>x5=Y) ?_ ?_
  ·apply Qo G<;>intro _ G
   ·refine bC G 1000 (fun _=>Qc0) fun x8 G=>?_;exact eZ G [.f [6001]]
   ·exact eZ G []
  ·rintro _ rfl;refine Qc tOk ?_;apply Qo h<;>intro _ h
   ·cases h
    exact lfE [.f [9000]]
   ·obtain⟨J,U,h⟩:=Qb h;obtain⟨O,h⟩:=Qf h;refine QW tOk [.u 6 1000 (.osl 5001 0 J.length) [⟨5001,9,1,J.length,rows encSb J⟩]] 9 [] [0,1,3,0,0,0,48,127,255] [511] (aI (QN (Qfg U) (by kernel_rfl)) (aI O (aK (⟨rows QAr.enc (a0.Box.Cands.set I.toNat ({(a0.Box.Cands.getD I.toNat default) with Lines:=J})),QaJ QsN rfl,?_⟩))));cases h;exact lfE [.f [9000]]
end
end Go.Proofs.YtoknnjiangjccaaGreatDoor
