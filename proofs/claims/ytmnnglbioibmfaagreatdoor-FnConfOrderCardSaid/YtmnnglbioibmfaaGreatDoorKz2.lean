/-
  What some of the program's functions compute: their models, and that the functions compute these; no condition.
-/
import Derived.Test.YtmnnglbioibmfaaGreatDoorTyz
import Derived.Test.YtmnnglbioibmfaaGreatDoorTbz
import Derived.Test.YtmnnglbioibmfaaGreatDoorLayz
import Derived.Test.YtmnnglbioibmfaaGreatDoorLay4z
import Derived.Test.YtmnnglbioibmfaaGreatDoorAbz8
import Derived.BigCall
import Derived.BigGuard
import Derived.BigQuiet
import Derived.Deep.QuietTactic
import Derived.Laws.OwnMore
import Derived.Maps.AppendAt
import Derived.Maps.OwnSet
import Derived.Maps.RangeWalk
import Derived.OwnWalk
import Derived.Sort.OwnSorted
import Derived.StringKeys
import Derived.WalkKit
import Derived.Test.YtmnnglbioibmfaaGreatDoorKz1
set_option linter.all false
namespace Go.Proofs.YtmnnglbioibmfaaGreatDoor
open Go Go.Ab Tryz
set_option maxRecDepth 100000
set_option maxHeartbeats 40000000
noncomputable section
def QaU (a0:Qyc):Option (Bt×Qyc):=
 bd (Q1 a0 10) fun x1=>
(if(x1.1==9)=true then
 bd (Qu (⟨a0.b,x1.2.p⟩:Qyc) ([(⟨#[49,48,46,48,47,56]⟩:Bt),(⟨#[49,48,46,48,47,57]⟩:Bt),(⟨#[48,46,48,47,49]⟩:Bt)]:List Bt)) fun x2=>
 gd ((⟨#[110,97,116,32]⟩:Bt).size+x2.1.size≤9223372036854775807)<|
 gd (((⟨#[110,97,116,32]⟩:Bt)++x2.1).size+(⟨#[32]⟩:Bt).size≤9223372036854775807)<|
 bd (Qu (⟨a0.b,x2.2.p⟩:Qyc) ([(⟨#[50,48,48,46,49]⟩:Bt),(⟨#[49,49,46,52]⟩:Bt),(⟨#[49,48,46,49]⟩:Bt)]:List Bt)) fun x5=>
 gd ((((⟨#[110,97,116,32]⟩:Bt)++x2.1)++(⟨#[32]⟩:Bt)).size+x5.1.size≤9223372036854775807)<|
 gd (((((⟨#[110,97,116,32]⟩:Bt)++x2.1)++(⟨#[32]⟩:Bt))++x5.1).size+(⟨#[32]⟩:Bt).size≤9223372036854775807)<|
 bd (Qu (⟨a0.b,x5.2.p⟩:Qyc) ([(⟨#[52,48,32,52,51]⟩:Bt),(⟨#[50,50,32,50,50]⟩:Bt),(⟨#[57,32,56]⟩:Bt),(⟨#[49,32,54,53,53,51,53]⟩:Bt)]:List Bt)) fun x8=>
 gd ((((((⟨#[110,97,116,32]⟩:Bt)++x2.1)++(⟨#[32]⟩:Bt))++x5.1)++(⟨#[32]⟩:Bt)).size+x8.1.size≤9223372036854775807)<|
 some (((((((⟨#[110,97,116,32]⟩:Bt)++x2.1)++(⟨#[32]⟩:Bt))++x5.1)++(⟨#[32]⟩:Bt))++x8.1),(⟨a0.b,x8.2.p⟩:Qyc))
else
(if(x1.1==0)=true then
 bd (Qu (⟨a0.b,x1.2.p⟩:Qyc) ([(⟨#[116,101,114,110]⟩:Bt),(⟨#[116,50]⟩:Bt),(⟨#[97,45,98]⟩:Bt)]:List Bt)) fun x10=>
 gd ((⟨#[104,111,115,116,32]⟩:Bt).size+x10.1.size≤9223372036854775807)<|
 some (((⟨#[104,111,115,116,32]⟩:Bt)++x10.1),(⟨a0.b,x10.2.p⟩:Qyc))
else
(if(x1.1==1)=true then
 bd (Qu (⟨a0.b,x1.2.p⟩:Qyc) ([(⟨#[97,110,110]⟩:Bt),(⟨#[98,111,98]⟩:Bt),(⟨#[101,118,101]⟩:Bt),(⟨#[106,111,101]⟩:Bt)]:List Bt)) fun x12=>
 gd ((⟨#[117,115,101,114,32]⟩:Bt).size+x12.1.size≤9223372036854775807)<|
 gd (((⟨#[117,115,101,114,32]⟩:Bt)++x12.1).size+(⟨#[32]⟩:Bt).size≤9223372036854775807)<|
 bd (Qu (⟨a0.b,x12.2.p⟩:Qyc) ([(⟨#[97,108,108]⟩:Bt),(⟨#[110,111,110,101]⟩:Bt),(⟨#[114,111,117,116,101]⟩:Bt),(⟨#[112,101,101,114,44,114,111,117,116,101,44,114,117,108,101]⟩:Bt),(⟨#[117,115,101,114]⟩:Bt),(⟨#[100,111,111,114,44,104,111,115,116]⟩:Bt)]:List Bt)) fun x15=>
 gd ((((⟨#[117,115,101,114,32]⟩:Bt)++x12.1)++(⟨#[32]⟩:Bt)).size+x15.1.size≤9223372036854775807)<|
 some (((((⟨#[117,115,101,114,32]⟩:Bt)++x12.1)++(⟨#[32]⟩:Bt))++x15.1),(⟨a0.b,x15.2.p⟩:Qyc))
else
 bd (α:=Bool) ((if(x1.1==2)=true then
 some (x1.1==2)
else
 some (x1.1==3))) fun x17=>
(if x17=true then
 bd (α:=Int×Bt) (bd (Q1 (⟨a0.b,x1.2.p⟩:Qyc) 3) fun x23=>
(if(x23.1==0)=true then
 bd (Qu (⟨a0.b,x23.2.p⟩:Qyc) ([(⟨#[119,101,98]⟩:Bt),(⟨#[115,115,104]⟩:Bt)]:List Bt)) fun x24=>
 gd ((⟨#[32,105,110,32]⟩:Bt).size+x24.1.size≤9223372036854775807)<|
 some (x24.2.p,((⟨#[32,105,110,32]⟩:Bt)++x24.1))
else
 some (x23.2.p,(⟨#[]⟩:Bt)))) fun x20=>
 bd (Qu (⟨a0.b,x20.1⟩:Qyc) ([(⟨#[48]⟩:Bt),(⟨#[49]⟩:Bt),(⟨#[50]⟩:Bt),(⟨#[55]⟩:Bt)]:List Bt)) fun x26=>
 gd ((⟨#[112,111,114,116,32]⟩:Bt).size+x26.1.size≤9223372036854775807)<|
 gd (((⟨#[112,111,114,116,32]⟩:Bt)++x26.1).size+(⟨#[32]⟩:Bt).size≤9223372036854775807)<|
 bd (JC (⟨a0.b,x26.2.p⟩:Qyc)) fun x29=>
 gd ((((⟨#[112,111,114,116,32]⟩:Bt)++x26.1)++(⟨#[32]⟩:Bt)).size+x29.1.size≤9223372036854775807)<|
 gd (((((⟨#[112,111,114,116,32]⟩:Bt)++x26.1)++(⟨#[32]⟩:Bt))++x29.1).size+x20.2.size≤9223372036854775807)<|
 some ((((((⟨#[112,111,114,116,32]⟩:Bt)++x26.1)++(⟨#[32]⟩:Bt))++x29.1)++x20.2),(⟨a0.b,x29.2.p⟩:Qyc))
else
(if(x1.1==4)=true then
 bd (Qu (⟨a0.b,x1.2.p⟩:Qyc) ([(⟨#[119,101,98]⟩:Bt),(⟨#[115,115,104]⟩:Bt)]:List Bt)) fun x32=>
 gd ((⟨#[114,117,108,101,32]⟩:Bt).size+x32.1.size≤9223372036854775807)<|
 gd (((⟨#[114,117,108,101,32]⟩:Bt)++x32.1).size+(⟨#[32]⟩:Bt).size≤9223372036854775807)<|
 bd (Qu (⟨a0.b,x32.2.p⟩:Qyc) ([(⟨#[48]⟩:Bt),(⟨#[53]⟩:Bt),(⟨#[49,48]⟩:Bt),(⟨#[57,57]⟩:Bt)]:List Bt)) fun x35=>
 gd ((((⟨#[114,117,108,101,32]⟩:Bt)++x32.1)++(⟨#[32]⟩:Bt)).size+x35.1.size≤9223372036854775807)<|
 gd (((((⟨#[114,117,108,101,32]⟩:Bt)++x32.1)++(⟨#[32]⟩:Bt))++x35.1).size+(⟨#[32]⟩:Bt).size≤9223372036854775807)<|
 bd (Qu (⟨a0.b,x35.2.p⟩:Qyc) ([(⟨#[112,101,114,109,105,116]⟩:Bt),(⟨#[100,101,110,121]⟩:Bt)]:List Bt)) fun x38=>
 gd ((((((⟨#[114,117,108,101,32]⟩:Bt)++x32.1)++(⟨#[32]⟩:Bt))++x35.1)++(⟨#[32]⟩:Bt)).size+x38.1.size≤9223372036854775807)<|
 gd (((((((⟨#[114,117,108,101,32]⟩:Bt)++x32.1)++(⟨#[32]⟩:Bt))++x35.1)++(⟨#[32]⟩:Bt))++x38.1).size+(⟨#[32]⟩:Bt).size≤9223372036854775807)<|
 bd (JC (⟨a0.b,x38.2.p⟩:Qyc)) fun x41=>
 gd ((((((((⟨#[114,117,108,101,32]⟩:Bt)++x32.1)++(⟨#[32]⟩:Bt))++x35.1)++(⟨#[32]⟩:Bt))++x38.1)++(⟨#[32]⟩:Bt)).size+x41.1.size≤9223372036854775807)<|
 gd (((((((((⟨#[114,117,108,101,32]⟩:Bt)++x32.1)++(⟨#[32]⟩:Bt))++x35.1)++(⟨#[32]⟩:Bt))++x38.1)++(⟨#[32]⟩:Bt))++x41.1).size+(⟨#[32]⟩:Bt).size≤9223372036854775807)<|
 bd (JC (⟨a0.b,x41.2.p⟩:Qyc)) fun x44=>
 gd ((((((((((⟨#[114,117,108,101,32]⟩:Bt)++x32.1)++(⟨#[32]⟩:Bt))++x35.1)++(⟨#[32]⟩:Bt))++x38.1)++(⟨#[32]⟩:Bt))++x41.1)++(⟨#[32]⟩:Bt)).size+x44.1.size≤9223372036854775807)<|
 gd (((((((((((⟨#[114,117,108,101,32]⟩:Bt)++x32.1)++(⟨#[32]⟩:Bt))++x35.1)++(⟨#[32]⟩:Bt))++x38.1)++(⟨#[32]⟩:Bt))++x41.1)++(⟨#[32]⟩:Bt))++x44.1).size+(⟨#[32]⟩:Bt).size≤9223372036854775807)<|
 bd (Qu (⟨a0.b,x44.2.p⟩:Qyc) ([(⟨#[48]⟩:Bt),(⟨#[49]⟩:Bt),(⟨#[55]⟩:Bt)]:List Bt)) fun x47=>
 gd ((((((((((((⟨#[114,117,108,101,32]⟩:Bt)++x32.1)++(⟨#[32]⟩:Bt))++x35.1)++(⟨#[32]⟩:Bt))++x38.1)++(⟨#[32]⟩:Bt))++x41.1)++(⟨#[32]⟩:Bt))++x44.1)++(⟨#[32]⟩:Bt)).size+x47.1.size≤9223372036854775807)<|
 some (((((((((((((⟨#[114,117,108,101,32]⟩:Bt)++x32.1)++(⟨#[32]⟩:Bt))++x35.1)++(⟨#[32]⟩:Bt))++x38.1)++(⟨#[32]⟩:Bt))++x41.1)++(⟨#[32]⟩:Bt))++x44.1)++(⟨#[32]⟩:Bt))++x47.1),(⟨a0.b,x47.2.p⟩:Qyc))
else
 bd (α:=Bool) ((if(x1.1==5)=true then
 some (x1.1==5)
else
 some (x1.1==6))) fun x49=>
(if x49=true then
 bd (JC (⟨a0.b,x1.2.p⟩:Qyc)) fun x52=>
 gd ((⟨#[114,111,117,116,101,32]⟩:Bt).size+x52.1.size≤9223372036854775807)<|
 gd (((⟨#[114,111,117,116,101,32]⟩:Bt)++x52.1).size+(⟨#[32]⟩:Bt).size≤9223372036854775807)<|
 bd (QaT (⟨a0.b,x52.2.p⟩:Qyc)) fun x55=>
 gd ((((⟨#[114,111,117,116,101,32]⟩:Bt)++x52.1)++(⟨#[32]⟩:Bt)).size+x55.1.size≤9223372036854775807)<|
 some (((((⟨#[114,111,117,116,101,32]⟩:Bt)++x52.1)++(⟨#[32]⟩:Bt))++x55.1),(⟨a0.b,x55.2.p⟩:Qyc))
else
(if(x1.1==7)=true then
 bd (QaT (⟨a0.b,x1.2.p⟩:Qyc)) fun x57=>
 gd ((⟨#[112,101,101,114,32]⟩:Bt).size+x57.1.size≤9223372036854775807)<|
 gd (((⟨#[112,101,101,114,32]⟩:Bt)++x57.1).size+(⟨#[32]⟩:Bt).size≤9223372036854775807)<|
 bd (Qu (⟨a0.b,x57.2.p⟩:Qyc) ([(⟨#[49]⟩:Bt),(⟨#[57]⟩:Bt)]:List Bt)) fun x60=>
 gd ((((⟨#[112,101,101,114,32]⟩:Bt)++x57.1)++(⟨#[32]⟩:Bt)).size+x60.1.size≤9223372036854775807)<|
 gd (((((⟨#[112,101,101,114,32]⟩:Bt)++x57.1)++(⟨#[32]⟩:Bt))++x60.1).size+(⟨#[32]⟩:Bt).size≤9223372036854775807)<|
 bd (Qu (⟨a0.b,x60.2.p⟩:Qyc) ([(⟨#[55]⟩:Bt),(⟨#[57,57,57,57,57,57]⟩:Bt)]:List Bt)) fun x63=>
 gd ((((((⟨#[112,101,101,114,32]⟩:Bt)++x57.1)++(⟨#[32]⟩:Bt))++x60.1)++(⟨#[32]⟩:Bt)).size+x63.1.size≤9223372036854775807)<|
 some (((((((⟨#[112,101,101,114,32]⟩:Bt)++x57.1)++(⟨#[32]⟩:Bt))++x60.1)++(⟨#[32]⟩:Bt))++x63.1),(⟨a0.b,x63.2.p⟩:Qyc))
else
 bd (Qu (⟨a0.b,x1.2.p⟩:Qyc) ([(⟨#[49]⟩:Bt),(⟨#[55]⟩:Bt)]:List Bt)) fun x65=>
 gd ((⟨#[100,111,111,114,32]⟩:Bt).size+x65.1.size≤9223372036854775807)<|
 gd (((⟨#[100,111,111,114,32]⟩:Bt)++x65.1).size+(⟨#[32]⟩:Bt).size≤9223372036854775807)<|
 bd (Qu (⟨a0.b,x65.2.p⟩:Qyc) ([(⟨#[50,50]⟩:Bt),(⟨#[56,48]⟩:Bt),(⟨#[54,53,53,51,53]⟩:Bt)]:List Bt)) fun x68=>
 gd ((((⟨#[100,111,111,114,32]⟩:Bt)++x65.1)++(⟨#[32]⟩:Bt)).size+x68.1.size≤9223372036854775807)<|
 gd (((((⟨#[100,111,111,114,32]⟩:Bt)++x65.1)++(⟨#[32]⟩:Bt))++x68.1).size+(⟨#[32]⟩:Bt).size≤9223372036854775807)<|
 bd (QaT (⟨a0.b,x68.2.p⟩:Qyc)) fun x71=>
 gd ((((((⟨#[100,111,111,114,32]⟩:Bt)++x65.1)++(⟨#[32]⟩:Bt))++x68.1)++(⟨#[32]⟩:Bt)).size+x71.1.size≤9223372036854775807)<|
 gd (((((((⟨#[100,111,111,114,32]⟩:Bt)++x65.1)++(⟨#[32]⟩:Bt))++x68.1)++(⟨#[32]⟩:Bt))++x71.1).size+(⟨#[32]⟩:Bt).size≤9223372036854775807)<|
 bd (Qu (⟨a0.b,x71.2.p⟩:Qyc) ([(⟨#[50,50]⟩:Bt),(⟨#[49]⟩:Bt)]:List Bt)) fun x74=>
 gd ((((((((⟨#[100,111,111,114,32]⟩:Bt)++x65.1)++(⟨#[32]⟩:Bt))++x68.1)++(⟨#[32]⟩:Bt))++x71.1)++(⟨#[32]⟩:Bt)).size+x74.1.size≤9223372036854775807)<|
 some (((((((((⟨#[100,111,111,114,32]⟩:Bt)++x65.1)++(⟨#[32]⟩:Bt))++x68.1)++(⟨#[32]⟩:Bt))++x71.1)++(⟨#[32]⟩:Bt))++x74.1),(⟨a0.b,x74.2.p⟩:Qyc)))))))))
theorem Qd8 {a0:Qyc} {r:Bt×Qyc} (h:QaU a0=some r):EffC prog 17 [.ref 9000 0 0] [(9000,.box 66 [.d (slD Q3 a0.b),dI a0.p])] (.d (.str r.1)) [(9000,.box 66 [.d (slD Q3 a0.b),dI r.2.p])]:=by
 refine eY tOk f17 rfl (Qb tOk (bE h [(9000,9000)] 0 (fun _=>ZU) fun x1 h=>?_));apply Qr h<;>intro _ h
 ·refine Qcl (enc:=encSb) ([(⟨#[49,48,46,48,47,56]⟩:Bt),(⟨#[49,48,46,48,47,57]⟩:Bt),(⟨#[48,46,48,47,49]⟩:Bt)]:List Bt) ?_;obtain⟨x2,hx2,h⟩:=Qc h;refine ZV [9] (cE [(9000,9000)] 0 (QD hx2) (gdI h fun h=>gdI h fun h=>Qcl (enc:=encSb) ([(⟨#[50,48,48,46,49]⟩:Bt),(⟨#[49,49,46,52]⟩:Bt),(⟨#[49,48,46,49]⟩:Bt)]:List Bt) ?_));obtain⟨x5,hx5,h⟩:=Qc h;refine ZV [14] (cE [(9000,9000)] 0 (QD hx5) (gdI h fun h=>gdI h fun h=>Qcl (enc:=encSb) ([(⟨#[52,48,32,52,51]⟩:Bt),(⟨#[50,50,32,50,50]⟩:Bt),(⟨#[57,32,56]⟩:Bt),(⟨#[49,32,54,53,53,51,53]⟩:Bt)]:List Bt) ?_));obtain⟨x8,hx8,h⟩:=Qc h;refine ZV [19] (cE [(9000,9000)] 0 (QD hx8) (gdI h fun h=>?_));cases h;exact lfE []
 ·apply Qr h<;>intro _ h
  ·refine Qcl (enc:=encSb) ([(⟨#[116,101,114,110]⟩:Bt),(⟨#[116,50]⟩:Bt),(⟨#[97,45,98]⟩:Bt)]:List Bt) ?_;obtain⟨x10,hx10,h⟩:=Qc h;refine ZV [25] (cE [(9000,9000)] 0 (QD hx10) (gdI h fun h=>?_));cases h;exact lfE []
  ·apply Qr h<;>intro _ h
   ·refine Qcl (enc:=encSb) ([(⟨#[97,110,110]⟩:Bt),(⟨#[98,111,98]⟩:Bt),(⟨#[101,118,101]⟩:Bt),(⟨#[106,111,101]⟩:Bt)]:List Bt) ?_;obtain⟨x12,hx12,h⟩:=Qc h;refine ZV [31] (cE [(9000,9000)] 0 (QD hx12) (gdI h fun h=>gdI h fun h=>Qcl (enc:=encSb) ([(⟨#[97,108,108]⟩:Bt),(⟨#[110,111,110,101]⟩:Bt),(⟨#[114,111,117,116,101]⟩:Bt),(⟨#[112,101,101,114,44,114,111,117,116,101,44,114,117,108,101]⟩:Bt),(⟨#[117,115,101,114]⟩:Bt),(⟨#[100,111,111,114,44,104,111,115,116]⟩:Bt)]:List Bt) ?_));obtain⟨x15,hx15,h⟩:=Qc h;refine ZV [36] (cE [(9000,9000)] 0 (QD hx15) (gdI h fun h=>?_));cases h;exact lfE []
   ·obtain⟨x17,hx17,h⟩:=Qc h;refine J6 tOk (fun s18=>⟨0,131,[(0,.ref 9000 0 0),(5,dI x1.1),(39,dB s18)],[],[(9000,.box 66 [.d (slD Q3 a0.b),dI x1.2.p])],[⟨[(0,.ref 9000 0 0)],[]⟩]⟩) (fun s18=>x17=s18) ?_ ?_
    ·apply Qr hx17<;>intro _ hx17
     ·exact eZ hx17 []
     ·exact eZ hx17 []
    ·rintro _ rfl;apply Qr h<;>intro _ h
     ·obtain⟨x20,hx20,h⟩:=Qc h;refine J6 tOk (fun s21=>⟨0,131,[(0,.ref 9000 0 0),(3,.d (.str s21.2))],[],[(9000,.box 66 [.d (slD Q3 a0.b),dI s21.1])],[⟨[(0,.ref 9000 0 0)],[]⟩]⟩) (fun s21=>x20=s21) ?_ ?_
      ·refine bE hx20 [(9000,9000)] 0 (fun _=>ZU) fun x23 hx20=>?_;apply Qr hx20<;>intro _ hx20
       ·refine Qcl (enc:=encSb) ([(⟨#[119,101,98]⟩:Bt),(⟨#[115,115,104]⟩:Bt)]:List Bt) ?_;obtain⟨x24,hx24,hx20⟩:=Qc hx20;refine ZV [46] (cE [(9000,9000)] 0 (QD hx24) (gdI hx20 fun hx20=>?_));exact eZ hx20 []
       ·exact eZ hx20 []
      ·rintro _ rfl;refine Qcl (enc:=encSb) ([(⟨#[48]⟩:Bt),(⟨#[49]⟩:Bt),(⟨#[50]⟩:Bt),(⟨#[55]⟩:Bt)]:List Bt) ?_;obtain⟨x26,hx26,h⟩:=Qc h;refine ZV [50] (cE [(9000,9000)] 0 (QD hx26) (gdI h fun h=>gdI h fun h=>bE h [(9000,9000)] 0 (fun _=>QbB) fun x29 h=>gdI h fun h=>gdI h fun h=>?_));cases h;exact lfE []
     ·apply Qr h<;>intro _ h
      ·refine Qcl (enc:=encSb) ([(⟨#[119,101,98]⟩:Bt),(⟨#[115,115,104]⟩:Bt)]:List Bt) ?_;obtain⟨x32,hx32,h⟩:=Qc h;refine ZV [62] (cE [(9000,9000)] 0 (QD hx32) (gdI h fun h=>gdI h fun h=>Qcl (enc:=encSb) ([(⟨#[48]⟩:Bt),(⟨#[53]⟩:Bt),(⟨#[49,48]⟩:Bt),(⟨#[57,57]⟩:Bt)]:List Bt) ?_));obtain⟨x35,hx35,h⟩:=Qc h;refine ZV [67] (cE [(9000,9000)] 0 (QD hx35) (gdI h fun h=>gdI h fun h=>Qcl (enc:=encSb) ([(⟨#[112,101,114,109,105,116]⟩:Bt),(⟨#[100,101,110,121]⟩:Bt)]:List Bt) ?_));obtain⟨x38,hx38,h⟩:=Qc h;refine ZV [72] (cE [(9000,9000)] 0 (QD hx38) (gdI h fun h=>gdI h fun h=>bE h [(9000,9000)] 0 (fun _=>QbB) fun x41 h=>gdI h fun h=>gdI h fun h=>bE h [(9000,9000)] 0 (fun _=>QbB) fun x44 h=>gdI h fun h=>gdI h fun h=>Qcl (enc:=encSb) ([(⟨#[48]⟩:Bt),(⟨#[49]⟩:Bt),(⟨#[55]⟩:Bt)]:List Bt) ?_));obtain⟨x47,hx47,h⟩:=Qc h;refine ZV [85] (cE [(9000,9000)] 0 (QD hx47) (gdI h fun h=>?_));cases h;exact lfE []
      ·obtain⟨x49,hx49,h⟩:=Qc h;refine J6 tOk (fun s50=>⟨0,131,[(0,.ref 9000 0 0),(5,dI x1.1),(88,dB s50)],[],[(9000,.box 66 [.d (slD Q3 a0.b),dI x1.2.p])],[⟨[(0,.ref 9000 0 0)],[]⟩]⟩) (fun s50=>x49=s50) ?_ ?_
       ·apply Qr hx49<;>intro _ hx49
        ·exact eZ hx49 []
        ·exact eZ hx49 []
       ·rintro _ rfl;apply Qr h<;>intro _ h
        ·refine bE h [(9000,9000)] 0 (fun _=>QbB) fun x52 h=>gdI h fun h=>gdI h fun h=>bE h [(9000,9000)] 0 (fun _=>Qd7) fun x55 h=>gdI h fun h=>?_;cases h;exact lfE []
        ·apply Qr h<;>intro _ h
         ·refine bE h [(9000,9000)] 0 (fun _=>Qd7) fun x57 h=>gdI h fun h=>gdI h fun h=>Qcl (enc:=encSb) ([(⟨#[49]⟩:Bt),(⟨#[57]⟩:Bt)]:List Bt) ?_;obtain⟨x60,hx60,h⟩:=Qc h;refine ZV [105] (cE [(9000,9000)] 0 (QD hx60) (gdI h fun h=>gdI h fun h=>Qcl (enc:=encSb) ([(⟨#[55]⟩:Bt),(⟨#[57,57,57,57,57,57]⟩:Bt)]:List Bt) ?_));obtain⟨x63,hx63,h⟩:=Qc h;refine ZV [110] (cE [(9000,9000)] 0 (QD hx63) (gdI h fun h=>?_));cases h;exact lfE []
         ·refine Qcl (enc:=encSb) ([(⟨#[49]⟩:Bt),(⟨#[55]⟩:Bt)]:List Bt) ?_;obtain⟨x65,hx65,h⟩:=Qc h;refine ZV [114] (cE [(9000,9000)] 0 (QD hx65) (gdI h fun h=>gdI h fun h=>Qcl (enc:=encSb) ([(⟨#[50,50]⟩:Bt),(⟨#[56,48]⟩:Bt),(⟨#[54,53,53,51,53]⟩:Bt)]:List Bt) ?_));obtain⟨x68,hx68,h⟩:=Qc h;refine ZV [119] (cE [(9000,9000)] 0 (QD hx68) (gdI h fun h=>gdI h fun h=>bE h [(9000,9000)] 0 (fun _=>Qd7) fun x71 h=>gdI h fun h=>gdI h fun h=>Qcl (enc:=encSb) ([(⟨#[50,50]⟩:Bt),(⟨#[49]⟩:Bt)]:List Bt) ?_));obtain⟨x74,hx74,h⟩:=Qc h;refine ZV [128] (cE [(9000,9000)] 0 (QD hx74) (gdI h fun h=>?_));cases h;exact lfE []
def QcJ (a0:Qyc):Option ((List Bt)×Qyc):=
 bd (α:=Int×List Bt) (bd (Q1 a0 3) fun x4=>
(if(decide (x4.1>0))=true then
 bd (QaE ([(⟨#[117,115,101,114,32,97,110,110,32,97,108,108]⟩:Bt)]:List Bt) (⟨#[112,111,114,116,32,48,32,49,48,46,48,47,56]⟩:Bt)) fun x5=>
 some (x4.2.p,x5)
else
 some (x4.2.p,([(⟨#[117,115,101,114,32,97,110,110,32,97,108,108]⟩:Bt)]:List Bt)))) fun x1=>
 bd (α:=Int×List Bt) (bd (Q1 (⟨a0.b,x1.1⟩:Qyc) 3) fun x9=>
(if(decide (x9.1>0))=true then
 bd (Qu (⟨a0.b,x9.2.p⟩:Qyc) ([(⟨#[114,111,117,116,101,44,114,117,108,101]⟩:Bt),(⟨#[97,108,108]⟩:Bt),(⟨#[110,111,110,101]⟩:Bt),(⟨#[112,111,114,116]⟩:Bt)]:List Bt)) fun x10=>
 gd ((⟨#[117,115,101,114,32,98,111,98,32]⟩:Bt).size+x10.1.size≤9223372036854775807)<|
 bd (QaE x1.2 ((⟨#[117,115,101,114,32,98,111,98,32]⟩:Bt)++x10.1)) fun x12=>
 some (x10.2.p,x12)
else
 some (x9.2.p,x1.2))) fun x6=>
 bd (α:=Int×List Bt) (bd (Q1 (⟨a0.b,x6.1⟩:Qyc) 3) fun x16=>
(if(x16.1==0)=true then
 bd (QaE x6.2 (⟨#[110,97,116,32,49,48,46,48,47,57,32,50,48,48,46,49,32,52,48,32,52,51]⟩:Bt)) fun x17=>
 some (x16.2.p,x17)
else
 some (x16.2.p,x6.2))) fun x13=>
 bd (Q1 (⟨a0.b,x13.1⟩:Qyc) 7) fun x18=>
 bd (α:=Int×Int) (bd (Q1 (⟨a0.b,x18.2.p⟩:Qyc) 9) fun x22=>
(if(x22.1==0)=true then
 some (x22.2.p,40)
else
 some (x22.2.p,x18.1))) fun x19=>
 bd (lp (σ:=Int×List Bt×Int) (β:=((List Bt)×Int)) (fun s23=>
(if(decide (s23.2.2>0))=true then
 bd (QaU (⟨a0.b,s23.1⟩:Qyc)) fun x27=>
 bd (QaE s23.2.1 x27.1) fun x28=>
 some (.inl (x27.2.p,x28,IntKind.i64.wrap (s23.2.2-1)))
else
 some (.inr (s23.2.1,s23.1)))) (x19.1,x13.2,x19.2)) fun x26=>
 some (x26.1,(⟨a0.b,x26.2⟩:Qyc))
theorem QkS {a0:Qyc} {r:(List Bt)×Qyc} (h:QcJ a0=some r):EffC prog 13 [.ref 9000 0 0] [(9000,.box 66 [.d (slD Q3 a0.b),dI a0.p])] (.d (slD encSb r.1)) [(9000,.box 66 [.d (slD Q3 a0.b),dI r.2.p])]:=by
 refine eY tOk f13 rfl (Qcl (enc:=encSb) ([(⟨#[117,115,101,114,32,97,110,110,32,97,108,108]⟩:Bt)]:List Bt) ?_);obtain⟨x1,hx1,h⟩:=Qc h;refine J6 tOk (fun s2=>⟨0,39,[(0,.ref 9000 0 0),(3,.d (slD encSb s2.2))],[],[(9000,.box 66 [.d (slD Q3 a0.b),dI s2.1])],[⟨[(0,.ref 9000 0 0)],[]⟩]⟩) (fun s2=>x1=s2) ?_ ?_
 ·refine bE hx1 [(9000,9000)] 0 (fun _=>ZU) fun x4 hx1=>?_;apply Qr hx1<;>intro _ hx1
  ·obtain⟨x5,hx5,hx1⟩:=Qc hx1;refine ZV [5] (cE [] 0 (Qdk hx5) ?_);exact eZ hx1 []
  ·exact eZ hx1 [.f [5]]
 ·rintro _ rfl;obtain⟨x6,hx6,h⟩:=Qc h;refine J6 tOk (fun s7=>⟨0,39,[(0,.ref 9000 0 0),(3,.d (slD encSb s7.2))],[],[(9000,.box 66 [.d (slD Q3 a0.b),dI s7.1])],[⟨[(0,.ref 9000 0 0)],[]⟩]⟩) (fun s7=>x6=s7) ?_ ?_
  ·refine bE hx6 [(9000,9000)] 0 (fun _=>ZU) fun x9 hx6=>?_;apply Qr hx6<;>intro _ hx6
   ·refine Qcl (enc:=encSb) ([(⟨#[114,111,117,116,101,44,114,117,108,101]⟩:Bt),(⟨#[97,108,108]⟩:Bt),(⟨#[110,111,110,101]⟩:Bt),(⟨#[112,111,114,116]⟩:Bt)]:List Bt) ?_;obtain⟨x10,hx10,hx6⟩:=Qc hx6;refine ZV [16] (cE [(9000,9000)] 0 (QD hx10) (gdI hx6 fun hx6=>bE hx6 [] 0 (fun _=>Qdk) fun x12 hx6=>?_));exact eZ hx6 []
   ·exact eZ hx6 []
  ·rintro _ rfl;obtain⟨x13,hx13,h⟩:=Qc h;refine J6 tOk (fun s14=>⟨0,39,[(0,.ref 9000 0 0),(3,.d (slD encSb s14.2))],[],[(9000,.box 66 [.d (slD Q3 a0.b),dI s14.1])],[⟨[(0,.ref 9000 0 0)],[]⟩]⟩) (fun s14=>x13=s14) ?_ ?_
   ·refine bE hx13 [(9000,9000)] 0 (fun _=>ZU) fun x16 hx13=>?_;apply Qr hx13<;>intro _ hx13
    ·refine bE hx13 [] 0 (fun _=>Qdk) fun x17 hx13=>?_;exact eZ hx13 []
    ·exact eZ hx13 []
   ·rintro _ rfl;refine bE h [(9000,9000)] 0 (fun _=>ZU) fun x18 h=>?_;obtain⟨x19,hx19,h⟩:=Qc h;refine J6 tOk (fun s20=>⟨0,39,[(0,.ref 9000 0 0),(3,.d (slD encSb x13.2)),(4,dI s20.2)],[],[(9000,.box 66 [.d (slD Q3 a0.b),dI s20.1])],[⟨[(0,.ref 9000 0 0)],[]⟩]⟩) (fun s20=>x19=s20) ?_ ?_
    ·refine bE hx19 [(9000,9000)] 0 (fun _=>ZU) fun x22 hx19=>?_;apply Qr hx19<;>intro _ hx19
     ·exact eZ hx19 []
     ·exact eZ hx19 []
    ·rintro _ rfl;refine Qb tOk ?_;obtain⟨x26,hx26,h⟩:=Qc h;refine QJ tOk hx26 (fun s23=>⟨0,39,[(0,.ref 9000 0 0),(3,.d (slD encSb s23.2.1)),(4,dI s23.2.2)],[],[(9000,.box 66 [.d (slD Q3 a0.b),dI s23.1])],[⟨[(0,.ref 9000 0 0)],[]⟩]⟩) ?_ ?_
     ·exact leX []
     ·clear hx26;intro s23 y24 g25 hy24;refine Qb tOk ?_;apply Qr g25<;>intro _ g25
      ·refine Qb tOk (bE g25 [(9000,9000)] 0 (fun _=>Qd8) fun x27 g25=>bE g25 [] 0 (fun _=>Qdk) fun x28 g25=>?_);exact eX g25 []
      ·cases g25
       cases hy24 _ rfl
       cases h
       exact lfE []
def QaX (a0:(List Int)):Option ((List Bt)×Bt×Bt):=
 bd (Qcz a0) fun x1=>
 bd (QcJ x1) fun x2=>
 bd (α:=List Bt) ((if(decide (((x2.1.length:Nat):Int)>12))=true then
 some ([(⟨#[112,111,114,116,32,48,32,49,48,46,48,47,56]⟩:Bt),(⟨#[117,115,101,114,32,97,110,110,32,97,108,108]⟩:Bt)]:List Bt)
else
 some x2.1)) fun x3=>
 bd (QbW x3 (⟨#[117,115,101,114,32,98,111,98]⟩:Bt)) fun x6=>
 bd (α:=List Bt) ((if(decide (x6≥0))=true then
 bd (Qav x3 x6) fun x10=>
 some x10
else
 some x3)) fun x7=>
 bd (QbX x7 (⟨#[117,115,101,114,32,98,111,98,32,97,108,108]⟩:Bt)) fun x11=>
 bd (QaU (⟨x1.b,x2.2.p⟩:Qyc)) fun x12=>
 bd (QaU (⟨x1.b,x12.2.p⟩:Qyc)) fun x13=>
 bd (Zl x12.1) fun x14=>
 bd (Zl x13.1) fun x15=>
 bd (gcall ((x14==x15)=false) (Zl x12.1)) fun x16=>
 bd (gcall (((x14==x15)||(x16==(⟨#[117,115,101,114,32,97,110,110]⟩:Bt)))=false) (Zl x13.1)) fun x17=>
 bd (gcall ((((x14==x15)||(x16==(⟨#[117,115,101,114,32,97,110,110]⟩:Bt)))||(x17==(⟨#[117,115,101,114,32,97,110,110]⟩:Bt)))=false) (Zl x12.1)) fun x18=>
 bd (gcall (((((x14==x15)||(x16==(⟨#[117,115,101,114,32,97,110,110]⟩:Bt)))||(x17==(⟨#[117,115,101,114,32,97,110,110]⟩:Bt)))||(x18==(⟨#[117,115,101,114,32,98,111,98]⟩:Bt)))=false) (Zl x13.1)) fun x19=>
(if(((((x14==x15)||(x16==(⟨#[117,115,101,114,32,97,110,110]⟩:Bt)))||(x17==(⟨#[117,115,101,114,32,97,110,110]⟩:Bt)))||(x18==(⟨#[117,115,101,114,32,98,111,98]⟩:Bt)))||(x19==(⟨#[117,115,101,114,32,98,111,98]⟩:Bt)))=true then
 some (x11,(⟨#[104,111,115,116,32,120]⟩:Bt),(⟨#[117,115,101,114,32,106,111,101,32,110,111,110,101]⟩:Bt))
else
 some (x11,x12.1,x13.1))
theorem Qg4 {a0:(List Int)} {r:(List Bt)×Bt×Bt} (h:QaX a0=some r):PureC prog 4 [.d (slD Q3 a0)] (.tup [.osl 5001 0 r.1.length,.d (.str r.2.1),.d (.str r.2.2)]) [⟨5001,9,1,r.1.length,rows encSb r.1⟩]:=by
 refine pY tOk f4 rfl (bE h [] 1000 (fun _=>QkI) fun x1 h=>bE h [(9000,6001)] 0 (fun _=>QkS) fun x2 h=>?_);obtain⟨x3,hx3,h⟩:=Qc h;refine J6 tOk (fun s4=>⟨0,59,[(5,.ref 6001 0 0),(6,.d (slD encSb s4))],[],[(6001,.box 66 [.d (slD Q3 x1.b),dI x2.2.p])],[]⟩) (fun s4=>x3=s4) ?_ ?_
 ·apply Qr hx3<;>intro _ hx3
  ·refine Qcl (enc:=encSb) ([(⟨#[112,111,114,116,32,48,32,49,48,46,48,47,56]⟩:Bt),(⟨#[117,115,101,114,32,97,110,110,32,97,108,108]⟩:Bt)]:List Bt) ?_;exact eZ hx3 [.f [17]]
  ·exact eZ hx3 []
 ·rintro _ rfl;refine bC h 0 (fun _=>Qg2) fun x6 h=>?_;obtain⟨x7,hx7,h⟩:=Qc h;refine J6 tOk (fun s8=>⟨0,59,[(5,.ref 6001 0 0),(6,.d (slD encSb s8))],[],[(6001,.box 66 [.d (slD Q3 x1.b),dI x2.2.p])],[]⟩) (fun s8=>x7=s8) ?_ ?_
  ·apply Qr hx7<;>intro _ hx7
   ·refine bC hx7 2000 (fun _=>Qej) fun x10 hx7=>?_;exact eZ hx7 [.f [7001]]
   ·exact eZ hx7 []
  ·rintro _ rfl;refine bC h 2000 (fun _=>Qg3) fun x11 h=>bE h [(9000,6001)] 0 (fun _=>Qd8) fun x12 h=>bE h [(9000,6001)] 0 (fun _=>Qd8) fun x13 h=>Qb tOk (bC h 0 (fun _=>Ji) fun x14 h=>bC h 0 (fun _=>Ji) fun x15 h=>bG h (fun _=>Ji) fun x16 h=>bG h (fun _=>Ji) fun x17 h=>bG h (fun _=>Ji) fun x18 h=>bG h (fun _=>Ji) fun x19 h=>?_);apply Qr h<;>intro _ h
   ·cases h
    exact lfP [.s [(5001,7001),(7001,5001)]]
   ·cases h
    exact lfP [.s [(5001,7001),(7001,5001)]]
def Jj (a0:Bt) (a1:Bt):Option (Bt×Bt×Bool):=
 gd (a0.size<4294967281)<|
 some (Qrh a0 a1)
theorem Qdl {a0:Bt} {a1:Bt} {r:Bt×Bt×Bool} (h:Jj a0 a1=some r):PureC prog 120 [.d (.str a0),.d (.str a1)] (.tup [.d (.str r.1),.d (.str r.2.1),dB r.2.2]) []:=by
 unfold Jj at h;obtain⟨g,h⟩:=Qe h;obtain rfl:=sj_ h;exact Qri ⟨f120,rfl,by kernel_rfl,by kernel_rfl⟩ (by kernel_rfl) (fun s sep m w h1 h2=>Any.strings_Cut Lay.cut s sep m w h1 h2) g
def Qn (a0:Int) (a1:Int) (a2:Int):Option (Bool):=
 some ((decide (a1≤a0))&&(decide (a0≤a2)))
theorem QQ {a0:Int} {a1:Int} {a2:Int} {r:Bool} (h:Qn a0 a1 a2=some r):PureC prog 26 [dI a0,dI a1,dI a2] (dB r) []:=by
 refine pY tOk f26 rfl ?_;unfold Qn at h;cases h;exact lfP []
def ZK (a0:Bt) (a1:Bt):Option ((List Bt)):=
 gd (a0.size<4294967281∧1≤a1.size)<|
 some (QkE a0 a1)
theorem Qb2 {a0:Bt} {a1:Bt} {r:(List Bt)} (h:ZK a0 a1=some r):PureC prog 116 [.d (.str a0),.d (.str a1)] (.osl 5001 0 r.length) [⟨5001,9,1,r.length,rows encSb r⟩]:=by
 unfold ZK at h;obtain⟨⟨g,g1⟩,h⟩:=Qe h;obtain rfl:=sj_ h;exact Qn7 ⟨f116,rfl,by kernel_rfl,by kernel_rfl⟩ (by kernel_rfl) (fun s sep m w h1 h2 h3=>Any.strings_Split Lay.spl (by kernel_rfl) s sep m w h1 h2 h3) g g1
def Jv (a0:Bt):Option (Bool):=
 some (a0==(⟨#[]⟩:Bt))
theorem QdW {a0:Bt} {r:Bool} (h:Jv a0=some r):PureC prog 165 [.d (.str a0)] (dB r) []:=by
 refine pY tOk f165 rfl ?_;unfold Jv at h;cases h;exact lfP []
def ZB (a0:(List Bt)):Option (Int):=
 bd (lp (σ:=Int) (β:=(Int⊕Unit)) (fun s1=>
(if(decide (s1<((a0.length:Nat):Int)))=true then
 gd ((0:Int)≤s1∧s1<((a0.length:Nat):Int))<|
 bd (Jv (a0.getD s1.toNat default)) fun x6=>
(if x6=true then
 some (.inr (.inl s1))
else
 some (.inl (IntKind.i64.wrap (s1+1))))
else
 some (.inr (.inr ())))) 0) fun x4=>
(match x4 with
| .inl d7=>
 some d7
| .inr d8=>
 some (-1))
theorem Qab {a0:(List Bt)} {r:Int} (h:ZB a0=some r):PureC prog 115 [.d (slD encSb a0),.fn 165 []] (dI r) []:=by
 refine pY tOk f115 rfl (Qb tOk ?_);obtain⟨x4,hx4,h⟩:=Qc h;refine QJ tOk hx4 (fun s1=>⟨0,19,[(0,.d (slD encSb a0)),(1,.fn 165 []),(7,dI ((a0.length:Nat):Int)),(8,dI s1)],[],[],[]⟩) ?_ ?_
 ·exact leX []
 ·clear hx4;intro s1 y2 g3 hy2;refine Qb tOk ?_;apply Qr g3<;>intro _ g3
  ·refine Qb tOk (gdI g3 fun g3=>bC g3 0 (fun _=>QdW) fun x6 g3=>?_);apply Qr g3<;>intro _ g3
   ·cases g3
    cases hy2 _ rfl
    cases h
    exact lfP []
   ·exact eX g3 []
  ·cases g3
   cases hy2 _ rfl
   cases h
   exact lfP []
def QB (a0:(List Bt)):Option ((List Bt)):=
 bd (ZB a0) fun x1=>
(if(x1==(-1))=true then
 some a0
else
 bd (lp (σ:=List Bt×Int×Int) (β:=(Nat×Int×(List Bt))) (fun s2=>
(if(decide (s2.2.2<((s2.1.length:Nat):Int)))=true then
 gd ((0:Int)≤s2.2.2∧s2.2.2<((s2.1.length:Nat):Int))<|
 bd (Jv (s2.1.getD s2.2.2.toNat default)) fun x7=>
(if(!x7)=true then
 gd ((0:Int)≤s2.2.1∧s2.2.1<((s2.1.length:Nat):Int))<|
 some (.inl (s2.1.set s2.2.1.toNat (s2.1.getD s2.2.2.toNat default),IntKind.i64.wrap (s2.2.1+1),IntKind.i64.wrap (s2.2.2+1)))
else
 some (.inl (s2.1,s2.2.1,IntKind.i64.wrap (s2.2.2+1))))
else
 some (.inr (s2.1.length,s2.2.1,s2.1)))) (a0,x1,IntKind.i64.wrap (x1+1))) fun x5=>
 gd ((0:Int)≤x5.2.1∧x5.2.1≤((x5.1:Nat):Int)∧((x5.1:Nat):Int)≤((x5.1:Nat):Int))<|
 gd ((0:Int)≤(0:Int)∧(0:Int)≤x5.2.1∧x5.2.1≤((x5.1:Nat):Int))<|
 some ((QkT x5.2.2 x5.2.1.toNat (QhI ((x5.1:Nat):Int) x5.2.1)).take x5.2.1.toNat))
theorem JG {a0:(List Bt)} {r:(List Bt)} (h:QB a0=some r):EffC prog 109 [.osl 9000 0 a0.length,.fn 165 []] [(9000,.arr 9 1 a0.length (rows encSb a0))] (.osl 5001 0 r.length) [(5001,.arr 9 1 r.length (rows encSb r))]:=by
 refine eY tOk f109 rfl (bC h 0 (fun _=>Qab) fun x1 h=>Qb tOk ?_);apply Qr h<;>intro _ h
 ·cases h
  exact lfE [.s [(5001,9000),(9000,5001)]]
 ·refine Qb tOk ?_;obtain⟨x5,hx5,h⟩:=Qc h;refine QJ tOk hx5 (fun s2=>⟨0,42,[(0,.osl 9000 0 s2.1.length),(1,.fn 165 []),(5,dI s2.2.1),(6,dI s2.2.2)],[],[(9000,.arr 9 1 s2.1.length (rows encSb s2.1))],[⟨[],[]⟩]⟩) ?_ ?_
  ·exact leX []
  ·clear hx5;intro s2 y3 g4 hy3;refine Qb tOk ?_;apply Qr g4<;>intro _ g4
   ·refine Qb tOk (gdI g4 fun g4=>bC g4 0 (fun _=>QdW) fun x7 g4=>?_);apply Qr g4<;>intro _ g4
    ·refine gdI g4 fun g4=>⟨rows encSb (s2.1.set s2.2.1.toNat (s2.1.getD s2.2.2.toNat default)),QbH Qs7 rfl,?_⟩;exact eX g4 []
    ·exact eX g4 []
   ·cases g4
    cases hy3 _ rfl
    dsimp only at h;obtain⟨g10,h⟩:=Qe h;refine aI g10 (⟨rows encSb (QkT (s2.1.length,s2.2.1,s2.1).2.2 (s2.1.length,s2.2.1,s2.1).2.1.toNat (QhI (((s2.1.length,s2.2.1,s2.1).1:Nat):Int) (s2.1.length,s2.2.1,s2.1).2.1)),Qi5 Qs7 zlA,?_⟩);obtain⟨g11,h⟩:=Qe h;refine aI g11 ?_;cases h;exact lfE [.c 4,.s [(5001,9000),(9000,5001)]]
def Qak (a0:Bt):Option (Bool):=
 some (decide (((a0.size:Nat):Int)>24))
theorem Qg5 {a0:Bt} {r:Bool} (h:Qak a0=some r):PureC prog 166 [.d (.str a0)] (dB r) []:=by
 refine pY tOk f166 rfl ?_;unfold Qak at h;cases h;exact lfP []
def ZC (a0:(List Bt)):Option (Int):=
 bd (lp (σ:=Int) (β:=(Int⊕Unit)) (fun s1=>
(if(decide (s1<((a0.length:Nat):Int)))=true then
 gd ((0:Int)≤s1∧s1<((a0.length:Nat):Int))<|
 bd (Qak (a0.getD s1.toNat default)) fun x6=>
(if x6=true then
 some (.inr (.inl s1))
else
 some (.inl (IntKind.i64.wrap (s1+1))))
else
 some (.inr (.inr ())))) 0) fun x4=>
(match x4 with
| .inl d7=>
 some d7
| .inr d8=>
 some (-1))
theorem Qac {a0:(List Bt)} {r:Int} (h:ZC a0=some r):PureC prog 115 [.d (slD encSb a0),.fn 166 []] (dI r) []:=by
 refine pY tOk f115 rfl (Qb tOk ?_);obtain⟨x4,hx4,h⟩:=Qc h;refine QJ tOk hx4 (fun s1=>⟨0,19,[(0,.d (slD encSb a0)),(1,.fn 166 []),(7,dI ((a0.length:Nat):Int)),(8,dI s1)],[],[],[]⟩) ?_ ?_
 ·exact leX []
 ·clear hx4;intro s1 y2 g3 hy2;refine Qb tOk ?_;apply Qr g3<;>intro _ g3
  ·refine Qb tOk (gdI g3 fun g3=>bC g3 0 (fun _=>Qg5) fun x6 g3=>?_);apply Qr g3<;>intro _ g3
   ·cases g3
    cases hy2 _ rfl
    cases h
    exact lfP []
   ·exact eX g3 []
  ·cases g3
   cases hy2 _ rfl
   cases h
   exact lfP []
def QH (a0:(List Bt)):Option (Bool):=
 bd (ZC a0) fun x1=>
 some (decide (x1≥0))
theorem JW {a0:(List Bt)} {r:Bool} (h:QH a0=some r):PureC prog 64 [.d (slD encSb a0),.fn 166 []] (dB r) []:=by
 refine pY tOk f64 rfl (bC h 0 (fun _=>Qac) fun x1 h=>?_);cases h;exact lfP []
def QbC (a0:Bt):Option ((List Bt)×Bool):=
 bd (Jj a0 (⟨#[35]⟩:Bt)) fun x1=>
 bd (lp (σ:=Int) (β:=(Unit⊕Unit)) (fun s2=>
(if(decide (s2<((x1.1.size:Nat):Int)))=true then
 gd ((0:Int)≤s2∧s2<((x1.1.size:Nat):Int))<|
 bd (Qn (IntKind.i64.wrap (Qah x1.1 s2.toNat)) 32 126) fun x7=>
(if(!x7)=true then
 some (.inr (.inl ()))
else
 some (.inl (IntKind.i64.wrap (s2+1))))
else
 some (.inr (.inr ())))) 0) fun x5=>
(match x5 with
| .inl d8=>
 some ([],false)
| .inr d9=>
 bd (ZK x1.1 (⟨#[32]⟩:Bt)) fun x10=>
 bd (QB x10) fun x11=>
 bd (gcall ((decide (((x11.length:Nat):Int)>8))=false) (QH x11)) fun x12=>
(if((decide (((x11.length:Nat):Int)>8))||x12)=true then
 some ([],false)
else
 some (x11,true)))
theorem QiL {a0:Bt} {r:(List Bt)×Bool} (h:QbC a0=some r):PureC prog 136 [.d (.str a0)] (.tup [.osl 5001 0 r.1.length,dB r.2]) [⟨5001,9,1,r.1.length,rows encSb r.1⟩]:=by
 refine pY tOk f136 rfl (bC h 0 (fun _=>Qdl) fun x1 h=>Qb tOk ?_);obtain⟨x5,hx5,h⟩:=Qc h;refine QJ tOk hx5 (fun s2=>⟨0,35,[(0,.d (.str x1.1)),(4,dI s2)],[],[],[]⟩) ?_ ?_
 ·exact leX []
 ·clear hx5;intro s2 y3 g4 hy3;refine Qb tOk ?_;apply Qr g4<;>intro _ g4
  ·refine Qb tOk (gdI g4 fun g4=>bC g4 0 (fun _=>QQ) fun x7 g4=>?_);apply Qr g4<;>intro _ g4
   ·cases g4
    cases hy3 _ rfl
    cases h
    exact lfP [.p 5001 9 1 (rows encSb ([]:List Bt))]
   ·exact eX g4 []
  ·cases g4
   cases hy3 _ rfl
   refine bC h 1000 (fun _=>Qb2) fun x10 h=>bE h [(9000,6001)] 2000 (fun _=>JG) fun x11 h=>Qb tOk (bG h (fun _=>JW) fun x12 h=>?_);apply Qr h<;>intro _ h
   ·cases h
    exact lfP [.k [7001],.p 5001 9 1 (rows encSb ([]:List Bt))]
   ·cases h
    exact lfP [.s [(5001,7001),(7001,5001)]]
def Z5 (a0:Int) (a1:Int):Option (Fnv):=
 some (Fnv.r 205 a0 a1)
theorem JS {a0:Int} {a1:Int} {r:Fnv} (h:Z5 a0 a1=some r):EffC prog 179 [dI a0,dI a1] [] (.d (.fn r.f r.caps)) []:=by
 refine eY tOk f179 rfl ?_;unfold Z5 at h;cases h;exact lfE [.f [2,3]]
def Qdm (a0:(List Bt)):Option (Fnv):=
 some (Fnv.w 206 a0)
theorem Qg6 {a0:(List Bt)} {r:Fnv} (h:Qdm a0=some r):EffC prog 182 [.d (slD encSb a0)] [] (.d (.fn r.f r.caps)) []:=by
 refine eY tOk f182 rfl ?_;unfold Qdm at h;cases h;exact lfE [.f [1]]
def Qaf (a0:form) (a1:Bt):Option (Bool):=
 some (!(a0.word==a1))
theorem Qe4 {a0:form} {a1:Bt} {r:Bool} (h:Qaf a0 a1=some r):PureC prog 185 [.agg [.d (.str a0.word),dI a0.key,.d (slD Qbe a0.checks)],.rp [.str a1]] (dB r) []:=by
 refine pY tOk f185 rfl ?_;unfold Qaf at h;cases h;exact lfP []
def Z7 (a0:(List form)) (a1c0:Bt):Option (Int):=
 bd (lp (σ:=Int) (β:=(Int⊕Unit)) (fun s1=>
(if(decide (s1<((a0.length:Nat):Int)))=true then
 gd ((0:Int)≤s1∧s1<((a0.length:Nat):Int))<|
 bd (Qaf (a0.getD s1.toNat default) a1c0) fun x6=>
(if x6=true then
 some (.inr (.inl s1))
else
 some (.inl (IntKind.i64.wrap (s1+1))))
else
 some (.inr (.inr ())))) 0) fun x4=>
(match x4 with
| .inl d7=>
 some d7
| .inr d8=>
 some (-1))
theorem QaF {a0:(List form)} {a1c0:Bt} {r:Int} (h:Z7 a0 a1c0=some r):PureC prog 207 [.d (slD form.enc a0),.fn 185 [.rp [.str a1c0]]] (dI r) []:=by
 refine pY tOk f207 rfl (Qb tOk ?_);obtain⟨x4,hx4,h⟩:=Qc h;refine QJ tOk hx4 (fun s1=>⟨0,19,[(0,.d (slD form.enc a0)),(1,.fn 185 [.rp [.str a1c0]]),(7,dI ((a0.length:Nat):Int)),(8,dI s1)],[],[],[]⟩) ?_ ?_
 ·exact leX []
 ·clear hx4;intro s1 y2 g3 hy2;refine Qb tOk ?_;apply Qr g3<;>intro _ g3
  ·refine Qb tOk (gdI g3 fun g3=>bC g3 0 (fun _=>Qe4) fun x6 g3=>?_);apply Qr g3<;>intro _ g3
   ·cases g3
    cases hy2 _ rfl
    cases h
    exact lfP []
   ·exact eX g3 []
  ·cases g3
   cases hy2 _ rfl
   cases h
   exact lfP []
def QcK (a0:Bt):Option ((List form)):=
 bd (Z5 1 65535) fun x1=>
 bd (Z5 1 7) fun x2=>
 bd (Z5 0 7) fun x3=>
 bd (Z5 0 7) fun x4=>
 bd (Qdm ([(⟨#[105,110]⟩:Bt)]:List Bt)) fun x5=>
 bd (Z5 0 99) fun x6=>
 bd (Qdm ([(⟨#[112,101,114,109,105,116]⟩:Bt),(⟨#[100,101,110,121]⟩:Bt)]:List Bt)) fun x7=>
 bd (Z5 0 7) fun x8=>
 bd (Z5 1 9) fun x9=>
 bd (Z5 1 999999) fun x10=>
 bd (Z7 ([(⟨(⟨#[104,111,115,116]⟩:Bt),1,([(Fnv.k 97)]:List Fnv)⟩:form),(⟨(⟨#[117,115,101,114]⟩:Bt),2,([(Fnv.k 97),(Fnv.k 180)]:List Fnv)⟩:form),(⟨(⟨#[112,111,114,116]⟩:Bt),2,([x3,(Fnv.k 181)]:List Fnv)⟩:form),(⟨(⟨#[112,111,114,116]⟩:Bt),2,([x4,(Fnv.k 181),x5,(Fnv.k 97)]:List Fnv)⟩:form),(⟨(⟨#[114,117,108,101]⟩:Bt),3,([(Fnv.k 97),x6,x7,(Fnv.k 181),(Fnv.k 181),x8]:List Fnv)⟩:form),(⟨(⟨#[114,111,117,116,101]⟩:Bt),3,([(Fnv.k 181),(Fnv.k 183)]:List Fnv)⟩:form),(⟨(⟨#[112,101,101,114]⟩:Bt),2,([(Fnv.k 183),x9,x10]:List Fnv)⟩:form),(⟨(⟨#[110,97,116]⟩:Bt),1,([(Fnv.k 181),(Fnv.k 183),x1,x1]:List Fnv)⟩:form),(⟨(⟨#[100,111,111,114]⟩:Bt),3,([x2,x1,(Fnv.k 183),x1]:List Fnv)⟩:form)]:List form) a0) fun x11=>
(if(x11==(-1))=true then
 some ([(⟨(⟨#[104,111,115,116]⟩:Bt),1,([(Fnv.k 97)]:List Fnv)⟩:form),(⟨(⟨#[117,115,101,114]⟩:Bt),2,([(Fnv.k 97),(Fnv.k 180)]:List Fnv)⟩:form),(⟨(⟨#[112,111,114,116]⟩:Bt),2,([x3,(Fnv.k 181)]:List Fnv)⟩:form),(⟨(⟨#[112,111,114,116]⟩:Bt),2,([x4,(Fnv.k 181),x5,(Fnv.k 97)]:List Fnv)⟩:form),(⟨(⟨#[114,117,108,101]⟩:Bt),3,([(Fnv.k 97),x6,x7,(Fnv.k 181),(Fnv.k 181),x8]:List Fnv)⟩:form),(⟨(⟨#[114,111,117,116,101]⟩:Bt),3,([(Fnv.k 181),(Fnv.k 183)]:List Fnv)⟩:form),(⟨(⟨#[112,101,101,114]⟩:Bt),2,([(Fnv.k 183),x9,x10]:List Fnv)⟩:form),(⟨(⟨#[110,97,116]⟩:Bt),1,([(Fnv.k 181),(Fnv.k 183),x1,x1]:List Fnv)⟩:form),(⟨(⟨#[100,111,111,114]⟩:Bt),3,([x2,x1,(Fnv.k 183),x1]:List Fnv)⟩:form)]:List form)
else
 bd (lp (σ:=List form×Int×Int) (β:=(Nat×Int×(List form))) (fun s12=>
(if(decide (s12.2.2<((s12.1.length:Nat):Int)))=true then
 gd ((0:Int)≤s12.2.2∧s12.2.2<((s12.1.length:Nat):Int))<|
 bd (Qaf (s12.1.getD s12.2.2.toNat default) a0) fun x17=>
(if(!x17)=true then
 gd ((0:Int)≤s12.2.1∧s12.2.1<((s12.1.length:Nat):Int))<|
 some (.inl (s12.1.set s12.2.1.toNat (s12.1.getD s12.2.2.toNat default),IntKind.i64.wrap (s12.2.1+1),IntKind.i64.wrap (s12.2.2+1)))
else
 some (.inl (s12.1,s12.2.1,IntKind.i64.wrap (s12.2.2+1))))
else
 some (.inr (s12.1.length,s12.2.1,s12.1)))) (([(⟨(⟨#[104,111,115,116]⟩:Bt),1,([(Fnv.k 97)]:List Fnv)⟩:form),(⟨(⟨#[117,115,101,114]⟩:Bt),2,([(Fnv.k 97),(Fnv.k 180)]:List Fnv)⟩:form),(⟨(⟨#[112,111,114,116]⟩:Bt),2,([x3,(Fnv.k 181)]:List Fnv)⟩:form),(⟨(⟨#[112,111,114,116]⟩:Bt),2,([x4,(Fnv.k 181),x5,(Fnv.k 97)]:List Fnv)⟩:form),(⟨(⟨#[114,117,108,101]⟩:Bt),3,([(Fnv.k 97),x6,x7,(Fnv.k 181),(Fnv.k 181),x8]:List Fnv)⟩:form),(⟨(⟨#[114,111,117,116,101]⟩:Bt),3,([(Fnv.k 181),(Fnv.k 183)]:List Fnv)⟩:form),(⟨(⟨#[112,101,101,114]⟩:Bt),2,([(Fnv.k 183),x9,x10]:List Fnv)⟩:form),(⟨(⟨#[110,97,116]⟩:Bt),1,([(Fnv.k 181),(Fnv.k 183),x1,x1]:List Fnv)⟩:form),(⟨(⟨#[100,111,111,114]⟩:Bt),3,([x2,x1,(Fnv.k 183),x1]:List Fnv)⟩:form)]:List form),x11,IntKind.i64.wrap (x11+1))) fun x15=>
 gd ((0:Int)≤x15.2.1∧x15.2.1≤((x15.1:Nat):Int)∧((x15.1:Nat):Int)≤((x15.1:Nat):Int))<|
 gd ((0:Int)≤(0:Int)∧(0:Int)≤x15.2.1∧x15.2.1≤((x15.1:Nat):Int))<|
 some ((QkT x15.2.2 x15.2.1.toNat (QhI ((x15.1:Nat):Int) x15.2.1)).take x15.2.1.toNat))
theorem QkU {a0:Bt} {r:(List form)} (h:QcK a0=some r):EffC prog 142 [.d (.str a0)] [] (.osl 5001 0 r.length) [(5001,.arr 128 3 r.length (rows form.enc r))]:=by
 refine eY tOk f142 rfl (bE h [] 0 (fun _=>JS) fun x1 h=>bE h [] 0 (fun _=>JS) fun x2 h=>Qcl (enc:=Qbe) ([(Fnv.k 97)]:List Fnv) (Qcl (enc:=Qbe) ([(Fnv.k 97),(Fnv.k 180)]:List Fnv) (bE h [] 0 (fun _=>JS) fun x3 h=>Qcl (enc:=Qbe) ([x3,(Fnv.k 181)]:List Fnv) (bE h [] 0 (fun _=>JS) fun x4 h=>Qcl (enc:=encSb) ([(⟨#[105,110]⟩:Bt)]:List Bt) ?_))));obtain⟨x5,hx5,h⟩:=Qc h;refine ZV [16] (cE [] 0 (Qg6 hx5) (Qcl (enc:=Qbe) ([x4,(Fnv.k 181),x5,(Fnv.k 97)]:List Fnv) (bE h [] 0 (fun _=>JS) fun x6 h=>Qcl (enc:=encSb) ([(⟨#[112,101,114,109,105,116]⟩:Bt),(⟨#[100,101,110,121]⟩:Bt)]:List Bt) ?_)));obtain⟨x7,hx7,h⟩:=Qc h;refine ZV [21] (cE [] 0 (Qg6 hx7) (bE h [] 0 (fun _=>JS) fun x8 h=>Qcl (enc:=Qbe) ([(Fnv.k 97),x6,x7,(Fnv.k 181),(Fnv.k 181),x8]:List Fnv) (Qcl (enc:=Qbe) ([(Fnv.k 181),(Fnv.k 183)]:List Fnv) (bE h [] 0 (fun _=>JS) fun x9 h=>bE h [] 0 (fun _=>JS) fun x10 h=>Qcl (enc:=Qbe) ([(Fnv.k 183),x9,x10]:List Fnv) (Qcl (enc:=Qbe) ([(Fnv.k 181),(Fnv.k 183),x1,x1]:List Fnv) (Qcl (enc:=Qbe) ([x2,x1,(Fnv.k 183),x1]:List Fnv) (Qcl (enc:=form.enc) ([(⟨(⟨#[104,111,115,116]⟩:Bt),1,([(Fnv.k 97)]:List Fnv)⟩:form),(⟨(⟨#[117,115,101,114]⟩:Bt),2,([(Fnv.k 97),(Fnv.k 180)]:List Fnv)⟩:form),(⟨(⟨#[112,111,114,116]⟩:Bt),2,([x3,(Fnv.k 181)]:List Fnv)⟩:form),(⟨(⟨#[112,111,114,116]⟩:Bt),2,([x4,(Fnv.k 181),x5,(Fnv.k 97)]:List Fnv)⟩:form),(⟨(⟨#[114,117,108,101]⟩:Bt),3,([(Fnv.k 97),x6,x7,(Fnv.k 181),(Fnv.k 181),x8]:List Fnv)⟩:form),(⟨(⟨#[114,111,117,116,101]⟩:Bt),3,([(Fnv.k 181),(Fnv.k 183)]:List Fnv)⟩:form),(⟨(⟨#[112,101,101,114]⟩:Bt),2,([(Fnv.k 183),x9,x10]:List Fnv)⟩:form),(⟨(⟨#[110,97,116]⟩:Bt),1,([(Fnv.k 181),(Fnv.k 183),x1,x1]:List Fnv)⟩:form),(⟨(⟨#[100,111,111,114]⟩:Bt),3,([x2,x1,(Fnv.k 183),x1]:List Fnv)⟩:form)]:List form) (Qg7 tOk 20000 (fn:=f184) (c:=Jw f184) rfl rfl (by kernel_rfl) rfl (bC h 0 (fun _=>QaF) fun x11 h=>Qb tOk ?_)))))))));apply Qr h<;>intro _ h
 ·cases h
  exact lfE [.s [(41,5001),(5001,41)]]
 ·refine Qb tOk ?_;obtain⟨x15,hx15,h⟩:=Qc h;refine QJ tOk hx15 (fun s12=>⟨20000,42,[(0,.osl 41 0 s12.1.length),(1,.fn 185 [.ref 1 0 0]),(5,dI s12.2.1),(6,dI s12.2.2)],[],[(41,.arr 128 3 s12.1.length (rows form.enc s12.1)),(1,.box 9 [.d (.str a0)])],[⟨[(0,.d (.str a0)),(1,.ref 1 0 0),(2,.d (.nil)),(3,.d (.fn x1.f x1.caps)),(4,.d (.fn x2.f x2.caps)),(5,.osl 41 0 s12.1.length),(6,.d (.fn x1.f x1.caps)),(7,.d (.fn x2.f x2.caps)),(8,.d (slD Qbe ([(Fnv.k 97)]:List Fnv))),(9,.agg [.d (.str (⟨#[104,111,115,116]⟩:Bt)),dI 1,.d (slD Qbe ([(Fnv.k 97)]:List Fnv))]),(10,.d (slD Qbe ([(Fnv.k 97),(Fnv.k 180)]:List Fnv))),(11,.agg [.d (.str (⟨#[117,115,101,114]⟩:Bt)),dI 2,.d (slD Qbe ([(Fnv.k 97),(Fnv.k 180)]:List Fnv))]),(12,.d (.fn x3.f x3.caps)),(13,.d (slD Qbe ([x3,(Fnv.k 181)]:List Fnv))),(14,.agg [.d (.str (⟨#[112,111,114,116]⟩:Bt)),dI 2,.d (slD Qbe ([x3,(Fnv.k 181)]:List Fnv))]),(15,.d (.fn x4.f x4.caps)),(16,.d (slD encSb ([(⟨#[105,110]⟩:Bt)]:List Bt))),(17,.d (.fn x5.f x5.caps)),(18,.d (slD Qbe ([x4,(Fnv.k 181),x5,(Fnv.k 97)]:List Fnv))),(19,.agg [.d (.str (⟨#[112,111,114,116]⟩:Bt)),dI 2,.d (slD Qbe ([x4,(Fnv.k 181),x5,(Fnv.k 97)]:List Fnv))]),(20,.d (.fn x6.f x6.caps)),(21,.d (slD encSb ([(⟨#[112,101,114,109,105,116]⟩:Bt),(⟨#[100,101,110,121]⟩:Bt)]:List Bt))),(22,.d (.fn x7.f x7.caps)),(23,.d (.fn x8.f x8.caps)),(24,.d (slD Qbe ([(Fnv.k 97),x6,x7,(Fnv.k 181),(Fnv.k 181),x8]:List Fnv))),(25,.agg [.d (.str (⟨#[114,117,108,101]⟩:Bt)),dI 3,.d (slD Qbe ([(Fnv.k 97),x6,x7,(Fnv.k 181),(Fnv.k 181),x8]:List Fnv))]),(26,.d (slD Qbe ([(Fnv.k 181),(Fnv.k 183)]:List Fnv))),(27,.agg [.d (.str (⟨#[114,111,117,116,101]⟩:Bt)),dI 3,.d (slD Qbe ([(Fnv.k 181),(Fnv.k 183)]:List Fnv))]),(28,.d (.fn x9.f x9.caps)),(29,.d (.fn x10.f x10.caps)),(30,.d (slD Qbe ([(Fnv.k 183),x9,x10]:List Fnv))),(31,.agg [.d (.str (⟨#[112,101,101,114]⟩:Bt)),dI 2,.d (slD Qbe ([(Fnv.k 183),x9,x10]:List Fnv))]),(32,.d (.fn x1.f x1.caps)),(33,.d (.fn x1.f x1.caps)),(34,.d (slD Qbe ([(Fnv.k 181),(Fnv.k 183),x1,x1]:List Fnv))),(35,.agg [.d (.str (⟨#[110,97,116]⟩:Bt)),dI 1,.d (slD Qbe ([(Fnv.k 181),(Fnv.k 183),x1,x1]:List Fnv))]),(36,.d (.fn x2.f x2.caps)),(37,.d (.fn x1.f x1.caps)),(38,.d (.fn x1.f x1.caps)),(39,.d (slD Qbe ([x2,x1,(Fnv.k 183),x1]:List Fnv))),(40,.agg [.d (.str (⟨#[100,111,111,114]⟩:Bt)),dI 3,.d (slD Qbe ([x2,x1,(Fnv.k 183),x1]:List Fnv))]),(41,.osl 41 0 s12.1.length),(42,.osl 41 0 s12.1.length),(43,.fn 185 [.ref 1 0 0])],[]⟩,⟨[],[]⟩]⟩) ?_ ?_
  ·exact leX []
  ·clear hx15;intro s12 y13 g14 hy13;refine Qb tOk ?_;apply Qr g14<;>intro _ g14
   ·refine Qb tOk (gdI g14 fun g14=>bC g14 0 (fun _=>Qe4) fun x17 g14=>?_);apply Qr g14<;>intro _ g14
    ·refine gdI g14 fun g14=>⟨rows form.enc (s12.1.set s12.2.1.toNat (s12.1.getD s12.2.2.toNat default)),QbH Qs7 rfl,?_⟩;exact eX g14 []
    ·exact eX g14 []
   ·cases g14
    cases hy13 _ rfl
    obtain⟨g20,h⟩:=Qe h;refine aI g20 (⟨rows form.enc (QkT (s12.1.length,s12.2.1,s12.1).2.2 (s12.1.length,s12.2.1,s12.1).2.1.toNat (QhI (((s12.1.length,s12.2.1,s12.1).1:Nat):Int) (s12.1.length,s12.2.1,s12.1).2.1)),Qi5 Qs7 zlA,?_⟩);obtain⟨g21,h⟩:=Qe h;refine aI g21 ?_;cases h;exact lfE [.c 2,.s [(41,5001),(5001,41)]]
def Qb3 (a0:Bt):Option (Bool):=
 bd (lp (σ:=Int) (β:=(Unit⊕Unit)) (fun s1=>
(if(decide (s1<((a0.size:Nat):Int)))=true then
 gd ((0:Int)≤s1∧s1<((a0.size:Nat):Int))<|
(if((((Qah a0 s1.toNat) !=45)&&((decide ((Qah a0 s1.toNat)<97))||(decide ((Qah a0 s1.toNat)>122))))&&((decide ((Qah a0 s1.toNat)<48))||(decide ((Qah a0 s1.toNat)>57))))=true then
 some (.inr (.inl ()))
else
 some (.inl (IntKind.i64.wrap (s1+1))))
else
 some (.inr (.inr ())))) 0) fun x4=>
(match x4 with
| .inl d6=>
 some false
| .inr d7=>
 bd (Qn ((a0.size:Nat):Int) 1 8) fun x8=>
 some x8)
theorem Qg8 {a0:Bt} {r:Bool} (h:Qb3 a0=some r):PureC prog 97 [.d (.str a0)] (dB r) []:=by
 refine pY tOk f97 rfl (Qb tOk ?_);obtain⟨x4,hx4,h⟩:=Qc h;refine QJ tOk hx4 (fun s1=>⟨0,35,[(0,.d (.str a0)),(3,dI s1)],[],[],[]⟩) ?_ ?_
 ·exact leX []
 ·clear hx4;intro s1 y2 g3 hy2;refine Qb tOk ?_;apply Qr g3<;>intro _ g3
  ·refine Qb tOk (gdI g3 fun g3=>?_);apply Qr g3<;>intro _ g3
   ·cases g3
    cases hy2 _ rfl
    cases h
    exact lfP []
   ·exact eX g3 []
  ·cases g3
   cases hy2 _ rfl
   refine bC h 0 (fun _=>QQ) fun x8 h=>?_;cases h;exact lfP []
def Z2 (a0:(List Bt)) (a1:Bt):Option (Int):=
 bd (lp (σ:=Int) (β:=(Int⊕Unit)) (fun s1=>
(if(decide (s1<((a0.length:Nat):Int)))=true then
 gd ((0:Int)≤s1∧s1<((a0.length:Nat):Int))<|
(if(a1==(a0.getD s1.toNat default))=true then
 some (.inr (.inl s1))
else
 some (.inl (IntKind.i64.wrap (s1+1))))
else
 some (.inr (.inr ())))) 0) fun x4=>
(match x4 with
| .inl d6=>
 some d6
| .inr d7=>
 some (-1))
theorem QaY {a0:(List Bt)} {a1:Bt} {r:Int} (h:Z2 a0 a1=some r):PureC prog 107 [.d (slD encSb a0),.d (.str a1)] (dI r) []:=by
 refine pY tOk f107 rfl (Qb tOk ?_);obtain⟨x4,hx4,h⟩:=Qc h;refine QJ tOk hx4 (fun s1=>⟨0,19,[(0,.d (slD encSb a0)),(1,.d (.str a1)),(7,dI ((a0.length:Nat):Int)),(8,dI s1)],[],[],[]⟩) ?_ ?_
 ·exact leX []
 ·clear hx4;intro s1 y2 g3 hy2;refine Qb tOk ?_;apply Qr g3<;>intro _ g3
  ·refine Qb tOk (gdI g3 fun g3=>?_);apply Qr g3<;>intro _ g3
   ·cases g3
    cases hy2 _ rfl
    cases h
    exact lfP []
   ·exact eX g3 []
  ·cases g3
   cases hy2 _ rfl
   cases h
   exact lfP []
def Qq (a0:(List Bt)) (a1:Bt):Option (Bool):=
 bd (Z2 a0 a1) fun x1=>
 some (decide (x1≥0))
theorem QV {a0:(List Bt)} {a1:Bt} {r:Bool} (h:Qq a0 a1=some r):PureC prog 140 [.d (slD encSb a0),.d (.str a1)] (dB r) []:=by
 refine pY tOk f140 rfl (bC h 0 (fun _=>QaY) fun x1 h=>?_);cases h;exact lfP []
def Qa2 (a0:Bt):Option ((List Bt)×Bool):=
(if((a0==(⟨#[97,108,108]⟩:Bt))||(a0==(⟨#[110,111,110,101]⟩:Bt)))=true then
 some (([a0]:List Bt),true)
else
 bd (ZK a0 (⟨#[44]⟩:Bt)) fun x1=>
 bd (lp (σ:=Int) (β:=(Unit⊕Unit)) (fun s2=>
(if(decide (s2<((x1.length:Nat):Int)))=true then
 gd ((0:Int)≤s2∧s2<((x1.length:Nat):Int))<|
 bd (Qq ([(⟨#[100,111,111,114]⟩:Bt),(⟨#[104,111,115,116]⟩:Bt),(⟨#[110,97,116]⟩:Bt),(⟨#[112,101,101,114]⟩:Bt),(⟨#[112,111,114,116]⟩:Bt),(⟨#[114,111,117,116,101]⟩:Bt),(⟨#[114,117,108,101]⟩:Bt),(⟨#[117,115,101,114]⟩:Bt)]:List Bt) (x1.getD s2.toNat default)) fun x7=>
 gd ((decide (s2>0))=true→((!x7)=false→((0:Int)≤IntKind.i64.wrap (s2-1)∧IntKind.i64.wrap (s2-1)<((x1.length:Nat):Int))))<|
(if((!x7)||((decide (s2>0))&&(!(bsl (x1.getD ((IntKind.i64.wrap (s2-1)).toNat) default) (x1.getD s2.toNat default)))))=true then
 some (.inr (.inl ()))
else
 some (.inl (IntKind.i64.wrap (s2+1))))
else
 some (.inr (.inr ())))) 0) fun x5=>
(match x5 with
| .inl d9=>
 some ([],false)
| .inr d10=>
 some (x1,true)))
theorem Qfg {a0:Bt} {r:(List Bt)×Bool} (h:Qa2 a0=some r):PureC prog 131 [.d (.str a0)] (.tup [.osl 5001 0 r.1.length,dB r.2]) [⟨5001,9,1,r.1.length,rows encSb r.1⟩]:=by
 refine pY tOk f131 rfl (Qb tOk ?_);apply Qr h<;>intro _ h
 ·refine Qcl (enc:=encSb) ([a0]:List Bt) ?_;cases h;exact lfP [.s [(14,5001),(5001,14)]]
 ·refine bC h 1000 (fun _=>Qb2) fun x1 h=>Qb tOk ?_;obtain⟨x5,hx5,h⟩:=Qc h;refine QJ tOk hx5 (fun s2=>⟨0,43,[(4,.osl 6001 0 x1.length),(17,.osl 6001 0 x1.length),(18,dI ((x1.length:Nat):Int)),(19,dI s2)],[],[(6001,.arr 9 1 x1.length (rows encSb x1))],[]⟩) ?_ ?_
  ·exact leX []
  ·clear hx5;intro s2 y3 g4 hy3;refine Qb tOk ?_;apply Qr g4<;>intro _ g4
   ·refine Qb tOk (gdI g4 fun g4=>Qcl (enc:=encSb) ([(⟨#[100,111,111,114]⟩:Bt),(⟨#[104,111,115,116]⟩:Bt),(⟨#[110,97,116]⟩:Bt),(⟨#[112,101,101,114]⟩:Bt),(⟨#[112,111,114,116]⟩:Bt),(⟨#[114,111,117,116,101]⟩:Bt),(⟨#[114,117,108,101]⟩:Bt),(⟨#[117,115,101,114]⟩:Bt)]:List Bt) (bC g4 0 (fun _=>QV) fun x7 g4=>gdI g4 fun g4=>?_));apply Qr g4<;>intro _ g4
    ·cases g4
     cases hy3 _ rfl
     cases h
     exact lfP [.p 5001 9 1 (rows encSb ([]:List Bt))]
    ·exact eX g4 []
   ·cases g4
    cases hy3 _ rfl
    cases h
    exact lfP [.s [(5001,6001),(6001,5001)]]
def Qb4 (a0:Bt):Option (Bool):=
 bd (Qa2 a0) fun x1=>
 some x1.2
theorem Qjz {a0:Bt} {r:Bool} (h:Qb4 a0=some r):PureC prog 180 [.d (.str a0)] (dB r) []:=by
 refine pY tOk f180 rfl (bC h 1000 (fun _=>Qfg) fun x1 h=>?_);cases h;exact lfP []
def JT (a0:Bt):Option (Int):=
 gd (a0.size≤281474976710656)<|
 some (Qwo a0)
namespace Dc
open Go.RowKit
theorem dec_walk (s:Bt) (hs:s.size≤281474976710656) (w:World) (ht:TabB prog (fun b=>b<w.heap.size) w):
  Calls prog 121 #[.string s] w fun e w'=>e=.returned (.int .i64 (Qwo s))∧Below w.heap.size w w':=by
 unfold Qwo
 cases h:Lib.atoiAll s.data.toList with
 |range=>
  obtain⟨_,ev,hv,hev⟩:=ht.2 2 _ (Lay.atoi_ren.g 16) rfl (by kernel_rfl)
  go_enter func121,ntmps121
  go_wp2_with (go_at_call 148;refine(Any.strconv_Atoi_range Lay.atoi s hs h ev w hv hev).mono ?_;rintro e w' ⟨N,rfl,hN,hb,hB⟩)
  go_ret
  exact⟨rfl,hB⟩
 |ok v=>
  have hat:=Any.strconv_Atoi_ok Lay.atoi s (by omega) v h w
  obtain⟨h0,h1⟩:=QmY h
  have hbel:∀ {w':World},(w'=w∨ ∃t,w'=Lib.bytesWorld w (Lay.atoi_ren.t 5) t)→Below w.heap.size w w':=fun {w'} h=>by
   rcases h with rfl|⟨t,rfl⟩
   ·exact Below.refl _ _
   ·exact Lib.bytesWorld_below w _ t
  have hqi:=Qu5 (v:=v) (s:=s)
  by_cases hv:v<0
  ·go_enter func121,ntmps121
   go_wp2_with (go_at_call 148;refine hat.mono ?_;rintro e w' ⟨rfl,hw⟩)
   go_ret
   exact⟨by simp[hv],hbel hw⟩
  ·by_cases hq:Ql1 v=s
   ·have h2:=hqi.1 hq
    have h3:(!(Lib.itoa v==s.toList))=false:=by simp[h2]
    have h4:decide (v<0)=false:=by simp[hv]
    simp only[hv,hq,ne_eq,not_true,or_self,if_false]
    clear hqi hq
    go_enter func121,ntmps121
    go_wp2_with (first|(go_at_call 148;refine hat.mono ?_;rintro e w' ⟨rfl,hw⟩)|(go_at_call 149;refine(Any.strconv_Itoa Lay.itoa v h0 h1 _ (Qut (QmZ (by kernel_rfl) ht (hbel hw)))).mono ?_;rintro e w'' ⟨rfl,k,os,rfl⟩))
    all_goals go_ret
    all_goals exact⟨rfl,QjA (hbel hw)⟩
   ·have h2:¬Lib.itoa v=s.toList:=fun e=>hq (hqi.2 e)
    have h3:(!(Lib.itoa v==s.toList))=true:=by simp[h2]
    have h4:decide (v<0)=false:=by simp[hv]
    simp only[hv,hq,ne_eq,not_false_iff,or_true,if_true]
    clear hqi hq
    go_enter func121,ntmps121
    go_wp2_with (first|(go_at_call 148;refine hat.mono ?_;rintro e w' ⟨rfl,hw⟩)|(go_at_call 149;refine(Any.strconv_Itoa Lay.itoa v h0 h1 _ (Qut (QmZ (by kernel_rfl) ht (hbel hw)))).mono ?_;rintro e w'' ⟨rfl,k,os,rfl⟩))
    all_goals go_ret
    all_goals exact⟨rfl,QjA (hbel hw)⟩
 |_=>
  obtain⟨_,ev,hv,hev⟩:=ht.2 1 _ (Lay.atoi_ren.g 15) rfl (by kernel_rfl)
  go_enter func121,ntmps121
  go_wp2_with (go_at_call 148;refine(Any.strconv_Atoi_syntax Lay.atoi s hs h ev w hv hev).mono ?_;rintro e w' ⟨N,rfl,hN,hb,hB⟩)
  go_ret
  exact⟨rfl,hB⟩
end Dc
theorem QcL {a0:Bt} {r:Int} (h:JT a0=some r):PureC prog 121 [.d (.str a0)] (dI r) []:=by
 unfold JT at h
 obtain⟨g,h⟩:=Qe h
 obtain rfl:=sj_ h
 exact Qgq (v:=.int .i64 (Qwo a0)) ⟨f121,rfl,by kernel_rfl,by kernel_rfl⟩ rfl (fun _=>rfl) (fun _ _ _=>.d .int) fun w vals ρ0 hv ht=>by
  rw[Qrj hv]
  exact(Dc.dec_walk a0 g w ht).mono fun e w' ⟨he,hb⟩=>⟨he,Below.pure hb⟩
def JU (a0:Bt):Option (Int):=
 bd (Jj a0 (⟨#[46]⟩:Bt)) fun x1=>
 bd (JT x1.1) fun x2=>
 bd (JT x1.2.1) fun x3=>
 bd (gcall ((!x1.2.2)=false) (Qn x2 0 255)) fun x4=>
 bd (gcall (((!x1.2.2)||(!x4))=false) (Qn x3 0 255)) fun x5=>
(if(((!x1.2.2)||(!x4))||(!x5))=true then
 some (-1)
else
 some (IntKind.i64.wrap ((IntKind.i64.wrap (256*x2))+x3)))
theorem Qbp {a0:Bt} {r:Int} (h:JU a0=some r):PureC prog 76 [.d (.str a0)] (dI r) []:=by
 refine pY tOk f76 rfl (bC h 0 (fun _=>Qdl) fun x1 h=>bC h 0 (fun _=>QcL) fun x2 h=>bC h 0 (fun _=>QcL) fun x3 h=>Qb tOk (bG h (fun _=>QQ) fun x4 h=>bG h (fun _=>QQ) fun x5 h=>?_));apply Qr h<;>intro _ h
 ·cases h
  exact lfP []
 ·cases h
  exact lfP []
def ZW (a0:Qye):Option (Int):=
 gd ((0:Int)≤(IntKind.i64.wrap (16-a0.Len)))<|
 some (IntKind.i64.wrap (1*2^min (IntKind.i64.wrap (16-a0.Len):Int).toNat IntKind.i64.bits))
theorem QcY {a0:Qye} {r:Int} (h:ZW a0=some r):PureC prog 150 [.agg [dI a0.Addr,dI a0.Len]] (dI r) []:=by
 refine pY tOk f150 rfl (gdI h fun h=>?_);cases h;exact lfP []
def Qfh (a0:Qye):Option (Bool):=
 bd (Qn a0.Len 0 16) fun x1=>
 bd (gcall (x1=true) (Qn a0.Addr 0 65535)) fun x2=>
 bd (gcall ((x1&&x2)=true) (ZW a0)) fun x3=>
 gd ((x1&&x2)=true→((x3:Int)≠0))<|
 some ((x1&&x2)&&(((a0.Addr:Int).tmod x3)==0))
theorem Qm0 {a0:Qye} {r:Bool} (h:Qfh a0=some r):PureC prog 124 [.agg [dI a0.Addr,dI a0.Len]] (dB r) []:=by
 refine pY tOk f124 rfl ?_;obtain⟨x1,hx1,h⟩:=Qc h;obtain⟨x2,hx2,h⟩:=Qc h;obtain⟨x3,hx3,h⟩:=Qc h;obtain⟨g4,h⟩:=Qe h;refine Q0 tOk [.u 2 0 (dB x1) [],.u 6 0 (dB x2) [],.u 12 0 (dI x3) []] 17 [] [0,1,3,7,15,31,63,127,255,511,1023,511,2559,8191,16383,32767,65535] [] (aI (QM (QQ hx1) (by kernel_rfl)) (aI (Qy rfl rfl rfl rfl (by intro c0;exact QQ (Qo hx2 c0))) (aI (Qy rfl rfl rfl rfl (by intro c0;exact QcY (Qo hx3 c0))) (aI g4 (aK ?_)))));cases h;exact lfP []
def JX (a0:Bt):Option (Qye×Bool):=
 bd (Jj a0 (⟨#[47]⟩:Bt)) fun x1=>
 bd (JU x1.1) fun x2=>
 bd (JT x1.2.1) fun x3=>
 bd (gcall ((!x1.2.2)=false) (Qfh (⟨x2,x3⟩:Qye))) fun x4=>
(if((!x1.2.2)||(!x4))=true then
 some ((⟨0,0⟩:Qye),false)
else
 some ((⟨x2,x3⟩:Qye),true))
theorem QdA {a0:Bt} {r:Qye×Bool} (h:JX a0=some r):PureC prog 80 [.d (.str a0)] (.tup [.agg [dI r.1.Addr,dI r.1.Len],dB r.2]) []:=by
 refine pY tOk f80 rfl (bC h 0 (fun _=>Qdl) fun x1 h=>bC h 0 (fun _=>Qbp) fun x2 h=>bC h 0 (fun _=>QcL) fun x3 h=>Qb tOk (bG h (fun _=>Qm0) fun x4 h=>?_));apply Qr h<;>intro _ h
 ·cases h
  exact lfP []
 ·cases h
  exact lfP []
def Qb5 (a0:Bt):Option (Bool):=
 bd (JX a0) fun x1=>
 some x1.2
theorem QjB {a0:Bt} {r:Bool} (h:Qb5 a0=some r):PureC prog 181 [.d (.str a0)] (dB r) []:=by
 refine pY tOk f181 rfl (bC h 0 (fun _=>QdA) fun x1 h=>?_);cases h;exact lfP []
def QbD (a0:Bt):Option (Bool):=
 bd (JU a0) fun x1=>
 some (decide (x1≥0))
theorem QiM {a0:Bt} {r:Bool} (h:QbD a0=some r):PureC prog 183 [.d (.str a0)] (dB r) []:=by
 refine pY tOk f183 rfl (bC h 0 (fun _=>Qbp) fun x1 h=>?_);cases h;exact lfP []
def QaG (a0:Bt):Option (Int):=
(if(decide (((a0.size:Nat):Int)>6))=true then
 some (-1)
else
 bd (JT a0) fun x1=>
 some x1)
theorem Qdn {a0:Bt} {r:Int} (h:QaG a0=some r):PureC prog 81 [.d (.str a0)] (dI r) []:=by
 refine pY tOk f81 rfl (Qb tOk ?_);apply Qr h<;>intro _ h
 ·cases h
  exact lfP []
 ·refine bC h 0 (fun _=>QcL) fun x1 h=>?_;cases h;exact lfP []
def QbE (a0:Bt) (a1:Int) (a2:Int):Option (Bool):=
 bd (QaG a0) fun x1=>
 bd (Qn x1 a1 a2) fun x2=>
 some x2
theorem QiN {a0:Bt} {a1:Int} {a2:Int} {r:Bool} (h:QbE a0 a1 a2=some r):PureC prog 205 [.d (.str a0),.rp [.int .i64 a1],.rp [.int .i64 a2]] (dB r) []:=by
 refine pY tOk f205 rfl ?_;obtain⟨x1,hx1,h⟩:=Qc h;obtain⟨x2,hx2,h⟩:=Qc h;refine Q0 tOk [.u 1 0 (dI x1) [],.u 4 0 (dB x2) []] 6 [] [0,1,0,0,15,31] [] (aI (QM (Qdn hx1) (by kernel_rfl)) (aI (QM (QQ hx2) (by kernel_rfl)) (aK ?_)));cases h;exact lfP []
def Qb6 (a0:Bt) (a1:(List Bt)):Option (Bool):=
 bd (Qq a1 a0) fun x1=>
 some x1
theorem QjC {a0:Bt} {a1:(List Bt)} {r:Bool} (h:Qb6 a0 a1=some r):PureC prog 206 [.d (.str a0),.rp [slD encSb a1]] (dB r) []:=by
 refine pY tOk f206 rfl (bC h 0 (fun _=>QV) fun x1 h=>?_);cases h;exact lfP []
def Qgr (c:Fnv) (x:Bt):Option Bool:=match c with
 | .k f=>if f=97 then Qb3 x else if f=180 then Qb4 x else if f=181 then Qb5 x else if f=183 then QbD x else none
 | .r f lo hi=>if f=205 then QbE x lo hi else none
 | .w f ws=>if f=206 then Qb6 x ws else none
theorem Qu6 {c:Fnv} {x:Bt} {r:Bool} (h:Qgr c x=some r):PureC prog c.f ([.d (.str x)]++c.caps.map .rp) (.d (.bool r)) []:=by
 cases c with
 |k f=>
  simp only[Qgr] at h;split at h
  ·rename_i e;subst e;exact Qg8 h
  split at h
  ·rename_i e;subst e;exact Qjz h
  split at h
  ·rename_i e;subst e;exact QjB h
  split at h
  ·rename_i e;subst e;exact QiM h
  cases h
 |r f lo hi=>
  simp only[Qgr] at h;split at h
  ·rename_i e;subst e;exact QiN h
  cases h
 |w f ws=>
  simp only[Qgr] at h;split at h
  ·rename_i e;subst e;exact QjC h
  cases h
def QbF (a0:form) (a1:(List Bt)):Option (Bool):=
(if(((a1.length:Nat):Int) !=(IntKind.i64.wrap (((a0.checks.length:Nat):Int)+1)))=true then
 some false
else
 bd (lp (σ:=Int) (β:=(Unit⊕Unit)) (fun s1=>
(if(decide (s1<((a0.checks.length:Nat):Int)))=true then
 gd ((0:Int)≤s1∧s1<((a0.checks.length:Nat):Int))<|
 gd ((0:Int)≤IntKind.i64.wrap (s1+1)∧IntKind.i64.wrap (s1+1)<((a1.length:Nat):Int))<|
 bd (Qgr (a0.checks.getD s1.toNat default) (a1.getD ((IntKind.i64.wrap (s1+1)).toNat) default)) fun x7=>
(if(!x7)=true then
 some (.inr (.inl ()))
else
 some (.inl (IntKind.i64.wrap (s1+1))))
else
 some (.inr (.inr ())))) 0) fun x4=>
(match x4 with
| .inl d8=>
 some false
| .inr d9=>
 some true))
theorem QiO {a0:form} {a1:(List Bt)} {r:Bool} (h:QbF a0 a1=some r):PureC prog 143 [.agg [.d (.str a0.word),dI a0.key,.d (slD Qbe a0.checks)],.d (slD encSb a1)] (dB r) []:=by
 refine pY tOk f143 rfl (Qb tOk ?_);apply Qr h<;>intro _ h
 ·cases h
  exact lfP []
 ·refine Qb tOk ?_;obtain⟨x4,hx4,h⟩:=Qc h;refine QJ tOk hx4 (fun s1=>⟨0,31,[(1,.d (slD encSb a1)),(15,.d (slD Qbe a0.checks)),(16,dI ((a0.checks.length:Nat):Int)),(17,dI s1)],[],[],[]⟩) ?_ ?_
  ·exact leX []
  ·clear hx4;intro s1 y2 g3 hy2;refine Qb tOk ?_;apply Qr g3<;>intro _ g3
   ·refine Qb tOk (gdI g3 fun g3=>gdI g3 fun g3=>?_);obtain⟨x7,hx7,g3⟩:=Qc g3;refine cDy (Qu6 hx7) ?_;apply Qr g3<;>intro _ g3
    ·cases g3
     cases hy2 _ rfl
     cases h
     exact lfP []
    ·exact eX g3 []
   ·cases g3
    cases hy2 _ rfl
    cases h
    exact lfP []
def Qb7 (a0:(List Bt)):Option (form×Bool):=
(if(((a0.length:Nat):Int)==0)=true then
 some ((⟨ByteArray.empty,0,[]⟩:form),false)
else
 gd ((0:Int)≤0∧0<((a0.length:Nat):Int))<|
 bd (QcK (a0.getD 0 default)) fun x2=>
 bd (lp (σ:=Int) (β:=((Bt×Int×(List Fnv))⊕Unit)) (fun s3=>
(if(decide (s3<((x2.length:Nat):Int)))=true then
 gd ((0:Int)≤s3∧s3<((x2.length:Nat):Int))<|
 bd (QbF (x2.getD s3.toNat default) a0) fun x8=>
(if x8=true then
 some (.inr (.inl ((x2.getD s3.toNat default).word,(x2.getD s3.toNat default).key,(x2.getD s3.toNat default).checks)))
else
 some (.inl (IntKind.i64.wrap (s3+1))))
else
 some (.inr (.inr ())))) 0) fun x6=>
(match x6 with
| .inl d9=>
 some ((⟨d9.1,d9.2.1,d9.2.2⟩:form),true)
| .inr d10=>
 some ((⟨ByteArray.empty,0,[]⟩:form),false)))
theorem Qg9 {a0:(List Bt)} {r:form×Bool} (h:Qb7 a0=some r):EffC prog 117 [.d (slD encSb a0)] [] (.tup [.agg [.d (.str r.1.word),dI r.1.key,.d (slD Qbe r.1.checks)],dB r.2]) []:=by
 refine eY tOk f117 rfl (Qb tOk ?_);apply Qr h<;>intro _ h
 ·cases h
  exact lfE []
 ·refine Qb tOk (gdI h fun h=>bE h [] 1000 (fun _=>QkU) fun x2 h=>?_);obtain⟨x6,hx6,h⟩:=Qc h;refine QJ tOk hx6 (fun s3=>⟨0,25,[(0,.d (slD encSb a0)),(2,.ref 2 0 0),(13,.osl 6001 0 x2.length),(14,dI ((x2.length:Nat):Int)),(15,dI s3)],[],[(6001,.arr 128 3 x2.length (rows form.enc x2)),(2,.box 128 [.d (.str ByteArray.empty),dI 0,.d (.nil)])],[⟨[],[]⟩]⟩) ?_ ?_
  ·exact leX []
  ·clear hx6;intro s3 y4 g5 hy4;refine Qb tOk ?_;apply Qr g5<;>intro _ g5
   ·refine Qb tOk (gdI g5 fun g5=>bC g5 0 (fun _=>QiO) fun x8 g5=>?_);apply Qr g5<;>intro _ g5
    ·cases g5
     cases hy4 _ rfl
     cases h
     exact lfE []
    ·exact eX g5 []
   ·cases g5
    cases hy4 _ rfl
    cases h
    exact lfE []
def QaV (a0:(List Bt)) (a1:Bt):Option (Bt):=
 gd (a0.length≤140737488355328∧(QiP a0 a1).size≤140737488355328)<|
 some (QiP a0 a1)
theorem Qga {a0:(List Bt)} {a1:Bt} {r:Bt} (h:QaV a0 a1=some r):PureC prog 118 [.d (slD encSb a0),.d (.str a1)] (.d (.str r)) []:=by
 unfold QaV at h;obtain⟨⟨g0,g1⟩,h⟩:=Qe h;obtain rfl:=sj_ h;exact Qp7 ⟨f118,rfl,by kernel_rfl,by kernel_rfl⟩ (fun bk o c xs sep w h1 h2 h3 h4 h5=>Any.strings_Join Lay.joi Lay.joiX bk o c xs sep w h1 h2 h3 h4 h5) (fun a c sep w=>Any.strings_Join_none Lay.joi Lay.joiX a c sep w) g0 g1
def Qa3 (a0:Bt):Option (Bt×Bool):=
 bd (QbC a0) fun x1=>
(if(!x1.2)=true then
 some ((⟨#[]⟩:Bt),false)
else
 bd (Qb7 x1.1) fun x2=>
(if(!x2.2)=true then
 some ((⟨#[]⟩:Bt),false)
else
 bd (QaV x1.1 (⟨#[32]⟩:Bt)) fun x3=>
 some (x3,true)))
theorem Qfi {a0:Bt} {r:Bt×Bool} (h:Qa3 a0=some r):PureC prog 106 [.d (.str a0)] (.tup [.d (.str r.1),dB r.2]) []:=by
 refine pY tOk f106 rfl (bC h 1000 (fun _=>QiL) fun x1 h=>Qb tOk ?_);apply Qr h<;>intro _ h
 ·cases h
  exact lfP []
 ·refine Qb tOk ?_;obtain⟨x2,hx2,h⟩:=Qc h;refine ZV [6001] (cE [] 0 (Qg9 hx2) ?_);apply Qr h<;>intro _ h
  ·cases h
   exact lfP []
  ·refine bC h 0 (fun _=>Qga) fun x3 h=>?_;cases h;exact lfP []
def Qb8 (a0:Bt):Option (Bool):=
 bd (Qa3 a0) fun x1=>
 some (x1.2&&(x1.1==a0))
theorem Qha {a0:Bt} {r:Bool} (h:Qb8 a0=some r):PureC prog 66 [.d (.str a0)] (dB r) []:=by
 refine pY tOk f66 rfl (bC h 0 (fun _=>Qfi) fun x1 h=>?_);cases h;exact lfP []
def Jg (a0:Bt):Option (Bool):=
 bd (Qb8 a0) fun x1=>
 some (!x1)
theorem QhJ {a0:Bt} {r:Bool} (h:Jg a0=some r):PureC prog 65 [.d (.str a0)] (dB r) []:=by
 refine pY tOk f65 rfl (bC h 0 (fun _=>Qha) fun x1 h=>?_);cases h;exact lfP []
def ZH (a0:(List Bt)):Option (Int):=
 bd (lp (σ:=Int) (β:=(Int⊕Unit)) (fun s1=>
(if(decide (s1<((a0.length:Nat):Int)))=true then
 gd ((0:Int)≤s1∧s1<((a0.length:Nat):Int))<|
 bd (Jg (a0.getD s1.toNat default)) fun x6=>
(if x6=true then
 some (.inr (.inl s1))
else
 some (.inl (IntKind.i64.wrap (s1+1))))
else
 some (.inr (.inr ())))) 0) fun x4=>
(match x4 with
| .inl d7=>
 some d7
| .inr d8=>
 some (-1))
theorem Qal {a0:(List Bt)} {r:Int} (h:ZH a0=some r):PureC prog 115 [.d (slD encSb a0),.fn 65 []] (dI r) []:=by
 refine pY tOk f115 rfl (Qb tOk ?_);obtain⟨x4,hx4,h⟩:=Qc h;refine QJ tOk hx4 (fun s1=>⟨0,19,[(0,.d (slD encSb a0)),(1,.fn 65 []),(7,dI ((a0.length:Nat):Int)),(8,dI s1)],[],[],[]⟩) ?_ ?_
 ·exact leX []
 ·clear hx4;intro s1 y2 g3 hy2;refine Qb tOk ?_;apply Qr g3<;>intro _ g3
  ·refine Qb tOk (gdI g3 fun g3=>bC g3 0 (fun _=>QhJ) fun x6 g3=>?_);apply Qr g3<;>intro _ g3
   ·cases g3
    cases hy2 _ rfl
    cases h
    exact lfP []
   ·exact eX g3 []
  ·cases g3
   cases hy2 _ rfl
   cases h
   exact lfP []
def Qv (a0:(List Bt)):Option (Bool):=
 bd (ZH a0) fun x1=>
 some (decide (x1≥0))
theorem JY {a0:(List Bt)} {r:Bool} (h:Qv a0=some r):PureC prog 64 [.d (slD encSb a0),.fn 65 []] (dB r) []:=by
 refine pY tOk f64 rfl (bC h 0 (fun _=>Qal) fun x1 h=>?_);cases h;exact lfP []
def Zv (a0:Bt):Option (Bt):=
 bd (Qb8 a0) fun x1=>
(if(!x1)=true then
 some (⟨#[]⟩:Bt)
else
 bd (ZK a0 (⟨#[32]⟩:Bt)) fun x2=>
 bd (Qb7 x2) fun x3=>
 gd ((0:Int)≤(0:Int)∧(0:Int)≤x3.1.key∧x3.1.key≤((x2.length:Nat):Int))<|
 bd (QaV (x2.take x3.1.key.toNat) (⟨#[32]⟩:Bt)) fun x5=>
 some x5)
theorem Qd9 {a0:Bt} {r:Bt} (h:Zv a0=some r):PureC prog 67 [.d (.str a0)] (.d (.str r)) []:=by
 refine pY tOk f67 rfl (Qb tOk (bC h 0 (fun _=>Qha) fun x1 h=>?_));apply Qr h<;>intro _ h
 ·cases h
  exact lfP []
 ·refine bC h 1000 (fun _=>Qb2) fun x2 h=>?_;obtain⟨x3,hx3,h⟩:=Qc h;refine ZV [6001] (cE [] 0 (Qg9 hx3) ?_);obtain⟨g4,h⟩:=Qe h;refine aI ⟨g4,.inr rfl⟩ ?_;obtain⟨x5,hx5,h⟩:=Qc h;refine Qwz 0 (Qga hx5) rfl Qtb rfl ?_;cases h;exact lfP []
def QiQ:List Bt→Option (List Bt)
 |[]=>some []
 |x::r=>bd (Zv x) fun k=>gd (k.size≤1000000)<|bd (QiQ r) fun ks=>some (k::ks)
def Qp8 (ks:List Bt):Nat:=(List.range ks.length).countP fun i=>!((ks.take i).any (· ==ks.getD i default))
def Jo (a0:(List Bt)):Option (Int):=
 if a0.length>16 then some 1 else
 bd (Qv a0) fun b=>
 if b=true then some 2 else
 if QaH a0.length (fun i=>decide (i<1)||bsl (a0.getD (i-1) default) (a0.getD i default))=false then some 3 else
 bd (QiQ a0) fun ks=>if Qp8 ks<a0.length then some 4 else some 0
namespace Nc
open Go.RowKit Go.Maps
theorem Qtc {ks:List Bt} {k:Nat} (h:k<ks.length):Qp8 (ks.take (k+1))=if(ks.take k).any (· ==ks.getD k default)=true then Qp8 (ks.take k) else Qp8 (ks.take k)+1:=by
 unfold Qp8
 rw[List.length_take,List.length_take,Nat.min_eq_left (by omega),Nat.min_eq_left (by omega),List.range_succ,List.countP_append]
 have e:∀i,i<k→(!((ks.take (k+1)).take i).any (· ==(ks.take (k+1)).getD i default))=!((ks.take k).take i).any (· ==(ks.take k).getD i default):=fun i hi=>by
  rw[List.take_take,List.take_take,Nat.min_eq_left (by omega),Nat.min_eq_left (by omega)]
  simp[List.getD_eq_getElem?_getD,List.getElem?_take,hi,show i<k+1 by omega]
 have e1:(List.range k).countP (fun i=>!((ks.take (k+1)).take i).any (· ==(ks.take (k+1)).getD i default))=(List.range k).countP fun i=>!((ks.take k).take i).any (· ==(ks.take k).getD i default):=by
  apply List.countP_congr
  intro i hi
  rw[e i (List.mem_range.1 hi)]
 rw[e1,List.countP_cons,List.countP_nil,List.take_take,Nat.min_eq_left (by omega)]
 have e2:(ks.take (k+1)).getD k default=ks.getD k default:=by simp[List.getD_eq_getElem?_getD,List.getElem?_take]
 rw[e2]
 cases (ks.take k).any (· ==ks.getD k default)<;>simp
theorem Qo9 {ks:List Bt} {k:Nat} (h:k<ks.length) (s:Bt):(ks.take (k+1)).any (· ==s)=((ks.take k).any (· ==s)||ks.getD k default==s):=by
 have e:ks[k]? =some (ks.getD k default):=by simp[List.getD_eq_getElem?_getD,h]
 rw[List.take_succ,e,List.any_append]
 simp
def kl (s:Bt):Lit:=.string s.data.toList
theorem Qk9 {s t:Bt} (h:kl s=kl t):s=t:=by
 unfold kl at h
 injection h with h
 cases s;cases t
 simp at h
 exact congrArg _ h
theorem bq {s t:Bt}:(s==t)=true↔s=t:=by
 constructor
 ·intro h
  have h1:(s.data==t.data)=true:=h
  have h2:s.data=t.data:=by simpa using h1
  cases s;cases t;simp_all
 ·intro h;subst h
  show(s.data==s.data)=true
  simp
theorem Jp {w w':World} (h:Below w.heap.size w w'):w.grownBy w' none:=⟨h.os,h.tape,h.output,h.size,fun i hi _=>h.block i hi⟩
theorem Ql2:Keyed prog 9:=string_keyed underlying9
theorem Qu7 {P:Program} {t:TypeId} {a b:Bt} {w:World}:(binOp .geq t (.string a) (.string b)).run P w=.ok (.bool (!(bsl a b))) w:=by
 simp[binOp,Op.stringOp,bsl,beq_toListBytes]
theorem QwA (w:World) (b:Nat) (o c n:Nat) (hn:0<n) (hn2:n≤16) (xs ks:List Bt) (hx:xs.length=n) (hks:ks.length=n) (hsz:∀k∈ks,k.size≤1000000) (hb:b<w.heap.size) (V:Int)
  (hc:∀i,i<n→w.cell? ⟨b,o+i,none⟩=some (.string (xs.getD i default)))
  (h3:QaH n (fun i=>decide (i<1)||bsl (xs.getD (i-1) default) (xs.getD i default))=false→V=3)
  (h4:QaH n (fun i=>decide (i<1)||bsl (xs.getD (i-1) default) (xs.getD i default))=true→V=if Qp8 ks<n then 4 else 0)
  (hkey:QaH n (fun i=>decide (i<1)||bsl (xs.getD (i-1) default) (xs.getD i default))=true→∀w',Below w.heap.size w w'→∀i,i<n→Calls prog 67 #[.string (xs.getD i default)] w' fun e w''=>e=.returned (.string (ks.getD i default))∧Below w'.heap.size w' w'')
  (h119:Calls prog 64 #[.slice (some ⟨b,o,none⟩) n c,.func (.func 65) #[] #[]] w fun e w'=>e=.returned (.bool false)∧Below w.heap.size w w'):
  Calls prog 29 #[.slice (some ⟨b,o,none⟩) n c] w fun e w'=>e=.returned (.int .i64 V)∧Below w.heap.size w w':=by
 have hmm:=@run_makeMap prog
 go_enter func29,ntmps29
 go_wp2_with (go_at_call 64;refine h119.mono ?_;rintro e w1 ⟨rfl,hB1⟩)
 have hc1:∀i,i<n→w1.cell? ⟨b,o+i,none⟩=some (.string (xs.getD i default)):=fun i hi=>(World.cell?_of_block (hB1.block b hb)).trans (hc i hi)
 go_loopw [3] (fun i wr=>∃(k q:Nat),1≤k∧k≤n∧i=.int .i64 k∧wr=w1.drewN q∧∀j,j<k→(decide (j<1)||bsl (xs.getD (j-1) default) (xs.getD j default))=true)
  (fun i _=>n-(intOf i).toNat)
 case atStart=>
  exact⟨1,0,Nat.le_refl _,hn,rfl,rfl,fun j hj=>by simp[hj]⟩
 case round=>
  obtain⟨k,q,hk1,hkn,rfl,rfl,hs⟩:=hrel
  have g1:k<n→(w1.drewN q).cell? ⟨b,o+(k-1),none⟩=some (.string (xs.getD (k-1) default)):=fun h=>hc1 _ (by omega)
  have g2:k<n→(w1.drewN q).cell? ⟨b,o+k,none⟩=some (.string (xs.getD k default)):=fun h=>hc1 _ h
  go_wp2
  ·have hlt:k<n:=by assumption
   have e1:IntKind.i64.wrap ((k:Int) -1)=((k-1:Nat):Int):=QjD hlt (by omega) (by omega)
   have e2:((k-1:Nat):Int).toNat=k-1:=Int.toNat_natCast _
   have e3:((k:Nat):Int).toNat=k:=Int.toNat_natCast _
   have hk1':k-1<n:=by omega
   have g1:=g1 hlt
   have g2:=g2 hlt
   refine wp_region_quiet_lit (by kernel_rfl) (by kernel_rfl) ?_
   repeat (any_goals (first|go_big_quiet_step (fail)|quiet_step (fail)))
   refine wpQuiet_step (fun K hK=>?_)
   go_simp
   refine⟨.bool (!(bsl xs[k-1] xs[k])),fun a=>?_,hK _ ?_⟩
   ·rw[Qu7]
    exact⟨rfl,rfl⟩
   refine wpQuiet_nil ?_
   intro _ hw'
   obtain⟨nq,hw''⟩:=hw'
   subst hw''
   have hb1:xs[k-1]=xs.getD (k-1) default:=by rw[List.getD_eq_getElem?_getD,List.getElem?_eq_getElem (by omega)];rfl
   have hb2:xs[k]=xs.getD k default:=by rw[List.getD_eq_getElem?_getD,List.getElem?_eq_getElem (by omega)];rfl
   rw[hb1,hb2]
   clear hb1 hb2 e1 e2 e3 hK K
   have hBd:Below w.heap.size w ((w1.drewN q).drewN nq):=⟨hB1.os,hB1.tape,hB1.output,hB1.size,hB1.block⟩
   by_cases hl:bsl (xs.getD (k-1) default) (xs.getD k default)=true
   ·rw[hl]
    go_wp2
    go_roundw
    case rel=>
     refine⟨k+1,q+nq,by omega,by omega,by go_num,by simp[World.drewN,Nat.add_assoc],fun j hj=>?_⟩
     rcases Nat.lt_or_ge j k with h|h
     ·exact hs j h
     ·have:j=k:=by omega
      subst this
      rw[hl,Bool.or_true]
    case measure=>simp[intOf];omega
   ·rw[Bool.eq_false_iff.2 hl]
    go_wp2
    go_ret
    refine⟨?_,hBd⟩
    rw[h3 (QhK (i:=k) hlt (by rw[Bool.eq_false_iff.2 hl];simp;omega))]
    rfl
  ·have hkn':k=n:=by omega
   subst hkn'
   have hkk:decide (k<k)=false:=by simp
   rw[hkk]
   have hall:QaH k (fun i=>decide (i<1)||bsl (xs.getD (i-1) default) (xs.getD i default))=true:=QeD hs
   have hkey:=hkey hall
   clear h3 hs g1 g2 hc1
   have hown:=World.ownsMap_made (H:=Unit) (w1.drewN q) prog 9 (plainElem prog 4)
   have hB2:Below w.heap.size w ((w1.drewN q).alloc (Obj.map #[] 0)):=Below.alloc (w:=w1.drewN q) ⟨hB1.os,hB1.tape,hB1.output,hB1.size,hB1.block⟩ hB1.size _
   have hsz1:(w1.drewN q).heap.size=w1.heap.size:=rfl
   rw[hsz1] at hown
   have hbs:w.heap.size≤w1.heap.size:=hB1.size
   generalize (w1.drewN q).alloc (Obj.map #[] 0)=w2 at hown hB2⊢
   generalize w1.heap.size=mb at hown hbs⊢
   go_loopw [31] (fun i wr=>∃(j:Nat) (D:DataW Unit),j≤k∧i=.int .i64 j∧wr.ownsMap prog 9 (plainElem prog 4) mb j D∧Maps.size D=Qp8 (ks.take j)∧(∀s,Maps.has D (kl s)=(ks.take j).any (· ==s))∧Below w.heap.size w wr)
    (fun i _=>k-(intOf i).toNat)
   case atStart=>
    exact⟨0,.map [],Nat.zero_le _,rfl,hown,rfl,fun s=>rfl,hB2⟩
   case round=>
    obtain⟨j,D,hjk,rfl,hown,hsize,hhas,hB⟩:=hrel
    have g1:j<k→wr.cell? ⟨b,o+j,none⟩=some (.string (xs.getD j default)):=fun h=>(World.cell?_of_block (hB.block b hb)).trans (hc j h)
    have hlen:(Builtin.len_ #[86] 3 #[.map (some mb)]).run prog wr=.ok (.int .i64 (Maps.size D)) wr:=hown.len underlying86 3
    have hkj:=fun h=>hkey wr hB j h
    have hsj:j<k→(ks.getD j default).size≤1000000:=fun h=>hsz _ (by rw[List.getD_eq_getElem?_getD,List.getElem?_eq_getElem (by omega)];exact List.getElem_mem (by omega))
    have hcs:j<k→Qp8 (ks.take (j+1))=if(ks.take j).any (· ==ks.getD j default)=true then Qp8 (ks.take j) else Qp8 (ks.take j)+1:=fun h=>Qtc (by omega)
    have hsn:j<k→∀s,(ks.take (j+1)).any (· ==s)=((ks.take j).any (· ==s)||ks.getD j default==s):=fun h s=>Qo9 (by omega) s
    clear hkey
    generalize xs.getD j default=x at g1 hkj
    generalize ks.getD j default=y at hkj hsj hcs hsn
    go_wp2_with (first
     |(go_at_call 67;have hlt:j<k:=by assumption
       refine(hkj hlt).mono ?_;rintro e w3 ⟨rfl,hB3⟩)
     |(at_mapUpdate;have hlt:j<k:=by assumption
       have hys:=hsj hlt
       have hk1:=hown.kept (Jp hB3) (by simp)
       have hk2:keyOf prog 9 (.string y)=some (kl y):=Go.WideMaps.keyOf_string_mk underlying9 (by unfold maxLen;omega)
       have hk3:j<maxLen:=by unfold maxLen;omega
       refine wpList_mapUpdate_own _ rfl _ _ _ 86 rfl 9 4 Ql2 underlying86 (plainElem prog 4) mb j D rfl hk1 hk3 _ _ (kl y) rfl rfl hk2 _ [] (plainElem_bool underlying4 true) ?_
       intro w4 hown4 hgrow4)
     |(at_len;refine wpList_len_own _ rfl _ 86 rfl 9 4 underlying86 (plainElem (H:=Unit) prog 4) mb j D rfl hown ?_)
     |go_in)
    ·have hlt:j<k:=by assumption
     go_roundw
     case rel=>
      refine⟨j+1,D.put (kl y) (.lit (.bool true)),by omega,by go_num,hown4,?_,fun s=>?_,?_⟩
      ·rw[Maps.size_put (hown.tidy Ql2),hhas,hcs hlt,hsize]
      ·rw[hsn hlt]
       by_cases hy:y=s
       ·subst hy
        rw[Maps.has_put_same hown.isMap (show WideAt.IsKeyLit (kl y) from trivial)]
        rw[bq.2 rfl,Bool.or_true]
       ·rw[Maps.has_put_other (fun h=>hy (Qk9 h).symm),hhas]
        have:(y==s)=false:=Bool.eq_false_iff.2 fun h=>hy (bq.1 h)
        rw[this,Bool.or_false]
      ·exact(hB.trans (hB3.mono hB.size)).grown hgrow4 (Nat.le_trans hB.size hB3.size) (fun j hj=>by cases hj;exact hbs)
     case measure=>simp[intOf];omega
    all_goals go_ret
    all_goals refine⟨?_,hB⟩
    all_goals rw[h4 hall]
    all_goals have e:ks.take j=ks:=List.take_of_length_le (by omega)
    all_goals rw[e] at hsize
    all_goals rename_i hcnt
    all_goals rw[e] at hcnt
    ·rw[if_pos hcnt];rfl
    ·rw[if_neg hcnt];rfl
theorem Qxq (w:World) (ad:Option Addr) (c n:Nat) (hn:16<n):
  Calls prog 29 #[.slice ad n c] w fun e w'=>e=.returned (.int .i64 1)∧Below w.heap.size w w':=by
 go_enter func29,ntmps29
 go_wp2
 go_ret
 exact⟨rfl,Below.refl _ _⟩
theorem QwB (w:World) (ad:Option Addr) (c n:Nat) (hn:n≤16)
  (h119:Calls prog 64 #[.slice ad n c,.func (.func 65) #[] #[]] w fun e w'=>e=.returned (.bool true)∧Below w.heap.size w w'):
  Calls prog 29 #[.slice ad n c] w fun e w'=>e=.returned (.int .i64 2)∧Below w.heap.size w w':=by
 go_enter func29,ntmps29
 go_wp2_with (go_at_call 64;refine h119.mono ?_;rintro e w1 ⟨rfl,hB1⟩)
 go_ret
 exact⟨rfl,hB1⟩
theorem QwC (w:World) (ad:Option Addr) (c:Nat)
  (h119:Calls prog 64 #[.slice ad 0 c,.func (.func 65) #[] #[]] w fun e w'=>e=.returned (.bool false)∧Below w.heap.size w w'):
  Calls prog 29 #[.slice ad 0 c] w fun e w'=>e=.returned (.int .i64 0)∧Below w.heap.size w w':=by
 have hmm:=@run_makeMap prog
 go_enter func29,ntmps29
 go_wp2_with (go_at_call 64;refine h119.mono ?_;rintro e w1 ⟨rfl,hB1⟩)
 refine wp_loop_rounds 1 ?_
 rw[rounds_succ]
 go_wp2
 refine wp_loop_rounds 1 ?_
 rw[rounds_succ]
 have hown:=World.ownsMap_made (H:=Unit) w1 prog 9 (plainElem prog 4)
 have hB2:Below w.heap.size w (w1.alloc (Obj.map #[] 0)):=hB1.alloc hB1.size _
 have hlen:(Builtin.len_ #[86] 3 #[.map (some w1.heap.size)]).run prog (w1.alloc (Obj.map #[] 0))=.ok (.int .i64 (Maps.size (.map []:DataW Unit))) (w1.alloc (Obj.map #[] 0)):=hown.len underlying86 3
 generalize w1.alloc (Obj.map #[] 0)=w2 at hown hB2 hlen⊢
 generalize w1.heap.size=mb at hown hlen⊢
 go_wp2_with (at_len;refine wpList_len_own _ rfl _ 86 rfl 9 4 underlying86 (plainElem (H:=Unit) prog 4) mb 0 (.map []) rfl hown ?_)
 all_goals go_ret
 all_goals first|exact⟨rfl,hB2⟩|skip
theorem keysM_some:∀ {xs ks:List Bt},QiQ xs=some ks→ks.length=xs.length∧(∀k∈ks,k.size≤1000000)∧∀i,i<xs.length→Zv (xs.getD i default)=some (ks.getD i default)
 |[],ks,h=>by
  simp only[QiQ,Option.some.injEq] at h
  subst h
  exact⟨rfl,by simp,by simp⟩
 |x::r,ks,h=>by
  unfold QiQ at h
  obtain⟨k,hk,h⟩:=Qc h
  obtain⟨g,h⟩:=Qe h
  obtain⟨ks',hks,h⟩:=Qc h
  simp only[Option.some.injEq] at h
  subst h
  obtain⟨h1,h2,h3⟩:=keysM_some hks
  refine⟨by simp[h1],fun y hy=>?_,fun i hi=>?_⟩
  ·rcases List.mem_cons.1 hy with rfl|hy
   ·exact g
   ·exact h2 y hy
  ·cases i with
   |zero=>simpa using hk
   |succ i=>simpa using h3 i (by simpa using hi)
theorem Qrk {w w':World} (ht:TabB prog (fun b=>b<w.heap.size) w) (hB:Below w.heap.size w w'):TabB prog (fun b=>b<w'.heap.size) w':=
 ht.keep (B':=fun b=>b<w'.heap.size) ⟨hB.os,hB.tape,hB.output,hB.size,hB.block⟩ (fun b h=>Nat.lt_of_lt_of_le h hB.size)
theorem Qpa {x k:Bt} (h:Zv x=some k) (ρ0:Env) {w:World} (ht:TabB prog (fun b=>b<w.heap.size) w):Calls prog 67 #[.string x] w fun e w'=>e=.returned (.string k)∧Below w.heap.size w w':=by
 refine((Qd9 h).out w #[.string x] ρ0 ⟨rfl,fun j v hj=>?_⟩ ht).mono ?_
 ·cases j with
  |zero=>simp only[List.getElem?_cons_zero,Option.some.injEq] at hj;subst hj;exact .d .str
  |succ j=>simp at hj
 ·rintro e w' ⟨v,ρ,rfl,hp,hv,_⟩
  cases hv with
  |d hd=>cases hd with
   |str=>exact⟨rfl,hp.below⟩
theorem Qtd {xs:List Bt} {r:Bool} (h:Qv xs=some r) {w:World} {v:Value} {ρ0:Env} (hv:VR w (fun _=>False) ρ0 (.d (slD encSb xs)) v) (ht:TabB prog (fun b=>b<w.heap.size) w):Calls prog 64 #[v,.func (.func 65) #[] #[]] w fun e w'=>e=.returned (.bool r)∧Below w.heap.size w w':=by
 refine((JY h).out w #[v,.func (.func 65) #[] #[]] ρ0 ⟨rfl,fun j u hj=>?_⟩ ht).mono ?_
 ·rcases j with _|_|j
  ·simp only[List.getElem?_cons_zero,Option.some.injEq] at hj;subst hj;exact hv
  ·simp only[List.getElem?_cons_succ,List.getElem?_cons_zero,Option.some.injEq] at hj;subst hj
   exact .fn rfl fun j u hj=>by simp at hj
  ·simp at hj
 ·rintro e w' ⟨v,ρ,rfl,hp,hv,_⟩
  cases hv with
  |d hd=>cases hd with
   |bool=>exact⟨rfl,hp.below⟩
theorem walk {xs:List Bt} {r:Int} (h:Jo xs=some r) {w:World} {v:Value} {ρ0:Env} (hv:VR w (fun _=>False) ρ0 (.d (slD encSb xs)) v) (ht:TabB prog (fun b=>b<w.heap.size) w):
  Calls prog 29 #[v] w fun e w'=>e=.returned (.int .i64 r)∧Below w.heap.size w w':=by
 have hform:(∃ad c,v=.slice ad 0 c∧xs.length=0)∨ ∃b o c,v=.slice (some ⟨b,o,none⟩) xs.length c∧b<w.heap.size∧∀i,i<xs.length→w.cell? ⟨b,o+i,none⟩=some (.string (xs.getD i default)):=by
  cases hv with
  |d hd=>
   cases hd with
   |sl0 hn=>exact .inl ⟨_,_,rfl,hn⟩
   |sl vals ho hb hl hcell hval hcap=>
    refine .inr ⟨_,_,_,rfl,hb,fun i hi=>?_⟩
    have er:rows encSb xs i=[.str (xs.getD i default)]:=rfl
    have h1:=hl i hi
    rw[er] at h1
    have h2:=hcell i 0 (.str (xs.getD i default)) hi (by rw[er];rfl)
    have h3:=hval i 0 (.str (xs.getD i default)) hi (by rw[er];rfl)
    rw[←h1] at h2
    generalize vals i 0=u at h2 h3
    cases h3
    simpa using h2
 unfold Jo at h
 by_cases h16:xs.length>16
 ·rw[if_pos h16] at h
  simp only[Option.some.injEq] at h
  subst h
  rcases hform with ⟨ad,c,rfl,h0⟩|⟨b,o,c,rfl,_,_⟩
  ·omega
  ·exact Qxq w _ c _ h16
 rw[if_neg h16] at h
 obtain⟨bl,hbl,h⟩:=Qc h
 have hcall:=Qtd hbl hv ht
 cases bl with
 |true=>
  rw[if_pos rfl] at h
  simp only[Option.some.injEq] at h
  subst h
  rcases hform with ⟨ad,c,rfl,h0⟩|⟨b,o,c,rfl,_,_⟩
  ·exact QwB w _ c _ (by omega) hcall
  ·exact QwB w _ c _ (by omega) hcall
 |false=>
  rw[if_neg (by decide)] at h
  rcases hform with ⟨ad,c,rfl,h0⟩|⟨b,o,c,rfl,hb,hc⟩
  ·have hx:xs=[]:=List.eq_nil_of_length_eq_zero h0
   subst hx
   have:r=0:=by
    have e:some (0:Int)=some r:=h
    simpa using e.symm
   subst this
   exact QwC w _ c hcall
  ·by_cases hn:xs.length=0
   ·have hx:xs=[]:=List.eq_nil_of_length_eq_zero hn
    subst hx
    have:r=0:=by
     have e:some (0:Int)=some r:=h
     simpa using e.symm
    subst this
    exact QwC w _ c hcall
   ·cases ha:QaH xs.length fun i=>decide (i<1)||bsl (xs.getD (i-1) default) (xs.getD i default)
    ·rw[ha,if_pos rfl] at h
     simp only[Option.some.injEq] at h
     refine QwA w b o c xs.length (by omega) (by omega) xs (xs.map fun _=>default) rfl (by simp) (fun k hk=>?_) hb r hc (fun _=>h.symm) (fun h=>by rw[ha] at h;cases h) (fun h=>by rw[ha] at h;cases h) hcall
     obtain⟨_,_,rfl⟩:=List.mem_map.1 hk
     decide
    ·rw[ha,if_neg (by decide)] at h
     obtain⟨ks,hks,h⟩:=Qc h
     obtain⟨k1,k2,k3⟩:=keysM_some hks
     refine QwA w b o c xs.length (by omega) (by omega) xs ks rfl k1 k2 hb r hc (fun h=>by rw[ha] at h;cases h) (fun _=>?_) (fun _ w' hB i hi=>Qpa (k3 i hi) ρ0 (Qrk ht hB)) hcall
     split at h<;>rename_i hc<;>simp only[Option.some.injEq] at h
     ·rw[if_pos hc];exact h.symm
     ·rw[if_neg hc];exact h.symm
end Nc
theorem Qfj {a0:(List Bt)} {r:Int} (h:Jo a0=some r):PureC prog 29 [.d (slD encSb a0)] (dI r) []:=by
 unfold Jo at h
 exact Qgq (v:=.int .i64 r) ⟨f29,rfl,by kernel_rfl,by kernel_rfl⟩ rfl (fun _=>rfl) (fun _ _ _=>.d .int) fun w vals ρ0 hv ht=>by
  obtain⟨v1,v2⟩:=hv
  have e:vals=#[vals.getD 0 undef]:=by
   apply Array.ext
   ·simpa using v1
   ·intro i hi hi'
    have hi0:i=0:=by simp at hi';exact hi'
    subst hi0
    simp[hi]
  have hv:=v2 0 _ rfl
  rw[e]
  exact(Nc.walk h hv ht).mono fun e w' ⟨he,hb⟩=>⟨he,Below.pure hb⟩
def Qz (a0:(List Bt)) (a1:Bt):Option ((List (List Bt))):=
 bd (lp (σ:=List (List Bt)×Int) (β:=(Nat×(List (List Bt)))) (fun s1=>
(if(decide (s1.2<((a0.length:Nat):Int)))=true then
 gd ((0:Int)≤s1.2∧s1.2<((a0.length:Nat):Int))<|
 bd (ZK (a0.getD s1.2.toNat default) (⟨#[32]⟩:Bt)) fun x6=>
 gd ((0:Int)≤0∧0<((x6.length:Nat):Int))<|
(if((x6.getD 0 default)==a1)=true then
 gd (((s1.1.length)+(([x6]:List (List Bt)).length))*(24+1)≤70368744177664)<|
 some (.inl ((s1.1++([x6]:List (List Bt))),IntKind.i64.wrap (s1.2+1)))
else
 some (.inl (s1.1,IntKind.i64.wrap (s1.2+1))))
else
 some (.inr (s1.1.length,s1.1)))) (([]:List (List Bt)),0)) fun x4=>
 some x4.2
theorem Z6 {a0:(List Bt)} {a1:Bt} {r:(List (List Bt))} (h:Qz a0 a1=some r):EffC prog 69 [.d (slD encSb a0),.d (.str a1)] [] (.osl 5001 0 r.length) [(5001,.arr 23 1 r.length (rows (QeE encSb) r))]:=by
 refine eY tOk f69 rfl (Qb tOk ?_);obtain⟨x4,hx4,h⟩:=Qc h;refine QJ tOk hx4 (fun s1=>⟨0,29,[(1,.d (.str a1)),(5,.osl 7001 0 s1.1.length),(10,.d (slD encSb a0)),(11,dI ((a0.length:Nat):Int)),(12,dI s1.2)],[],[(7001,.arr 23 1 s1.1.length (rows (QeE encSb) s1.1))],[⟨[],[]⟩]⟩) ?_ ?_
 ·exact leX [.p 7001 23 1 (rows (QeE encSb) ([]:List (List Bt)))]
 ·clear hx4;intro s1 y2 g3 hy2;refine Qb tOk ?_;apply Qr g3<;>intro _ g3
  ·refine Qb tOk (gdI g3 fun g3=>bC g3 1000 (fun _=>Qb2) fun x6 g3=>gdI g3 fun g3=>?_);apply Qr g3<;>intro _ g3
   ·refine Qcl (enc:=(QeE encSb)) ([x6]:List (List Bt)) (gdI g3 fun g3=>Qiv (enc:=(QeE encSb)) (xs:=s1.1) (ys:=([x6]:List (List Bt))) ?_);exact eX g3 []
   ·exact eX g3 []
  ·cases g3
   cases hy2 _ rfl
   cases h
   exact lfE [.s [(5001,7001),(7001,5001)]]
def QaN (a0:(List Bt)):Option (Bool):=
 gd ((0:Int)≤2∧2<((a0.length:Nat):Int))<|
 some ((a0.getD 2 default)==(⟨#[97,108,108]⟩:Bt))
theorem QiR {a0:(List Bt)} {r:Bool} (h:QaN a0=some r):PureC prog 70 [.d (slD encSb a0)] (dB r) []:=by
 refine pY tOk f70 rfl (gdI h fun h=>?_);cases h;exact lfP []
def ZL (a0:(List (List Bt))):Option (Int):=
 bd (lp (σ:=Int) (β:=(Int⊕Unit)) (fun s1=>
(if(decide (s1<((a0.length:Nat):Int)))=true then
 gd ((0:Int)≤s1∧s1<((a0.length:Nat):Int))<|
 bd (QaN (a0.getD s1.toNat default)) fun x6=>
(if x6=true then
 some (.inr (.inl s1))
else
 some (.inl (IntKind.i64.wrap (s1+1))))
else
 some (.inr (.inr ())))) 0) fun x4=>
(match x4 with
| .inl d7=>
 some d7
| .inr d8=>
 some (-1))
theorem Qao {a0:(List (List Bt))} {r:Int} (h:ZL a0=some r):PureC prog 119 [.d (slD (QeE encSb) a0),.fn 70 []] (dI r) []:=by
 refine pY tOk f119 rfl (Qb tOk ?_);obtain⟨x4,hx4,h⟩:=Qc h;refine QJ tOk hx4 (fun s1=>⟨0,19,[(0,.d (slD (QeE encSb) a0)),(1,.fn 70 []),(7,dI ((a0.length:Nat):Int)),(8,dI s1)],[],[],[]⟩) ?_ ?_
 ·exact leX []
 ·clear hx4;intro s1 y2 g3 hy2;refine Qb tOk ?_;apply Qr g3<;>intro _ g3
  ·refine Qb tOk (gdI g3 fun g3=>bC g3 0 (fun _=>QiR) fun x6 g3=>?_);apply Qr g3<;>intro _ g3
   ·cases g3
    cases hy2 _ rfl
    cases h
    exact lfP []
   ·exact eX g3 []
  ·cases g3
   cases hy2 _ rfl
   cases h
   exact lfP []
def QX (a0:(List (List Bt))):Option (Bool):=
 bd (ZL a0) fun x1=>
 some (decide (x1≥0))
theorem J8 {a0:(List (List Bt))} {r:Bool} (h:QX a0=some r):PureC prog 68 [.d (slD (QeE encSb) a0),.fn 70 []] (dB r) []:=by
 refine pY tOk f68 rfl (bC h 0 (fun _=>Qao) fun x1 h=>?_);cases h;exact lfP []
def QcM (a0:(List Bt)):Option (Bool):=
 bd (Qz a0 (⟨#[117,115,101,114]⟩:Bt)) fun x1=>
 bd (QX x1) fun x2=>
 some (!x2)
theorem QkV {a0:(List Bt)} {r:Bool} (h:QcM a0=some r):PureC prog 30 [.d (slD encSb a0)] (dB r) []:=by
 refine pY tOk f30 rfl (bE h [] 1000 (fun _=>Z6) fun x1 h=>bC h 0 (fun _=>J8) fun x2 h=>?_);cases h;exact lfP []
def Qbq (a0:(List Bt)) (a1:Bt):Option (Int):=
 bd (Qz a0 (⟨#[114,117,108,101]⟩:Bt)) fun x1=>
 bd (lp (σ:=Int×Int) (β:=(Int)) (fun s2=>
(if(decide (s2.1<((x1.length:Nat):Int)))=true then
 gd ((0:Int)≤s2.1∧s2.1<((x1.length:Nat):Int))<|
 gd ((0:Int)≤1∧1<(((x1.getD s2.1.toNat default).length:Nat):Int))<|
(if(((x1.getD s2.1.toNat default).getD 1 default)==a1)=true then
 some (.inl (IntKind.i64.wrap (s2.1+1),IntKind.i64.wrap (s2.2+1)))
else
 some (.inl (IntKind.i64.wrap (s2.1+1),s2.2)))
else
 some (.inr s2.2))) (0,0)) fun x5=>
 some x5
theorem Qgb {a0:(List Bt)} {a1:Bt} {r:Int} (h:Qbq a0 a1=some r):PureC prog 71 [.d (slD encSb a0),.d (.str a1)] (dI r) []:=by
 refine pY tOk f71 rfl (Qb tOk (bE h [] 1000 (fun _=>Z6) fun x1 h=>?_));obtain⟨x5,hx5,h⟩:=Qc h;refine QJ tOk hx5 (fun s2=>⟨0,24,[(1,.d (.str a1)),(5,dI s2.2),(9,.osl 6001 0 x1.length),(10,dI ((x1.length:Nat):Int)),(11,dI s2.1)],[],[(6001,.arr 23 1 x1.length (rows (QeE encSb) x1))],[]⟩) ?_ ?_
 ·exact leX []
 ·clear hx5;intro s2 y3 g4 hy3;refine Qb tOk ?_;apply Qr g4<;>intro _ g4
  ·refine Qb tOk (gdI g4 fun g4=>gdI g4 fun g4=>?_);apply Qr g4<;>intro _ g4
   ·exact eX g4 []
   ·exact eX g4 []
  ·cases g4
   cases hy3 _ rfl
   cases h
   exact lfP []
def Zj (a0:(List Bt)) (a1:(List Bt)):Option (Bool):=
 gd ((0:Int)≤1∧1<((a0.length:Nat):Int))<|
 bd (Qbq a1 (a0.getD 1 default)) fun x2=>
 some (decide (x2>12))
theorem Qgs {a0:(List Bt)} {a1:(List Bt)} {r:Bool} (h:Zj a0 a1=some r):PureC prog 72 [.d (slD encSb a0),.rp [slD encSb a1]] (dB r) []:=by
 refine pY tOk f72 rfl ?_;obtain⟨g1,h⟩:=Qe h;obtain⟨x2,hx2,h⟩:=Qc h;refine Q0 tOk [.u 4 0 (dI x2) []] 7 [] [0,0,2,6,15,31,63] [] (aI g1 (aI (QM (Qgb hx2) (by kernel_rfl)) (aK ?_)));cases h;exact lfP []
end
end Go.Proofs.YtmnnglbioibmfaaGreatDoor
