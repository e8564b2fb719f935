/-
  What some of the program's functions compute: their models, and that the functions compute these; no condition.
-/
import Derived.Test.YtjjkhncoafdfmaaGreatDoorTyz
import Derived.Test.YtjjkhncoafdfmaaGreatDoorTbz
import Derived.Test.YtjjkhncoafdfmaaGreatDoorLayz
import Derived.Test.YtjjkhncoafdfmaaGreatDoorAbz7
import Derived.Test.YtjjkhncoafdfmaaGreatDoorLay4z
import Derived.Test.YtjjkhncoafdfmaaGreatDoorAbz8
import Derived.BigCall
import Derived.BigGuard
import Derived.BigQuiet
import Derived.Deep.Draws
import Derived.Deep.QuietTactic
import Derived.Maps.OwnSet
import Derived.Shelf.SlSortCmp.QuietGrown
import Derived.StringKeys
import Derived.WalkKit
import Derived.Test.YtjjkhncoafdfmaaGreatDoorKz2
set_option linter.all false
namespace Go.Proofs.YtjjkhncoafdfmaaGreatDoor
open Go Go.Ab Tryz
set_option maxRecDepth 100000
set_option maxHeartbeats 40000000
noncomputable section
def QcG (a0:l1Rd):Option ((List QCh)×l1Rd):=
 bd (QcF a0) fun x1=>
 bd (lp (σ:=List QCh×Int×Int) (β:=(Nat×(List QCh)×Int)) (fun N=>
(if(decide (N.2.2<((x1.1.length:Nat):Int)))=true then
 gd ((0:Int)<=N.2.2∧N.2.2<((x1.1.length:Nat):Int))<|
 bd (Qdt (⟨a0.b,N.2.1⟩:l1Rd)) fun x7=>
 bd (Qu (⟨a0.b,x7.2.p⟩:l1Rd) 12) fun x8=>
(if(x8.1==0)=true then
 bd (lp (σ:=List QCg×Int×Int) (β:=(Nat×(List QCg)×Int)) (fun Y=>
(if(decide (((Y.1.length:Nat):Int)<16))=true then
 bd (Qu (⟨a0.b,Y.2.1⟩:l1Rd) 2) fun a5=>
 bd (Qbz Y.1 (⟨IntKind.i64.wrap (24576+(IntKind.i64.wrap (9*Y.2.2))),16,IntKind.i64.wrap (1+a5.1),0⟩:QCg)) fun a8=>
 some (.inl (a8,a5.2.p,IntKind.i64.wrap (Y.2.2+1)))
else
 some (.inr (Y.1.length,Y.1,Y.2.1)))) (x7.1,x8.2.p,0)) fun a1=>
 gd (((N.1.length)+(([(⟨(x1.1.getD N.2.2.toNat default),a1.2.1⟩:QCh)]:List QCh).length))*(32+1)<=70368744177664)<|
 some (.inl ((N.1++([(⟨(x1.1.getD N.2.2.toNat default),a1.2.1⟩:QCh)]:List QCh)),a1.2.2,IntKind.i64.wrap (N.2.2+1)))
else
 gd (((N.1.length)+(([(⟨(x1.1.getD N.2.2.toNat default),x7.1⟩:QCh)]:List QCh).length))*(32+1)<=70368744177664)<|
 some (.inl ((N.1++([(⟨(x1.1.getD N.2.2.toNat default),x7.1⟩:QCh)]:List QCh)),x8.2.p,IntKind.i64.wrap (N.2.2+1))))
else
 some (.inr (N.1.length,N.1,N.2.1)))) (([]:List QCh),x1.2.p,0)) fun J=>
 bd (Qu (⟨a0.b,J.2.2⟩:l1Rd) 16) fun a2=>
(if((a2.1==0)&&(decide (((J.1:Nat):Int)>0)))=true then
 bd (Qu (⟨a0.b,a2.2.p⟩:l1Rd) ((J.1:Nat):Int)) fun I=>
 bd (Qu (⟨a0.b,I.2.p⟩:l1Rd) 3) fun O=>
(if(O.1==0)=true then
 bd (Qu (⟨a0.b,O.2.p⟩:l1Rd) 3) fun U=>
 gd ((0:Int)<=U.1∧U.1<((([-1,2561,65535]:List Int).length:Nat):Int))<|
 gd ((0:Int)<=I.1∧I.1<((J.1:Nat):Int))<|
 bd (some (J.2.1.set I.1.toNat (⟨(([-1,2561,65535]:List Int).getD U.1.toNat default),(J.2.1.getD I.1.toNat default).Entries⟩:QCh))) fun a7=>
 some (a7,(⟨a0.b,U.2.p⟩:l1Rd))
else
(if(O.1==1)=true then
 gd ((0:Int)<=I.1∧I.1<((J.1:Nat):Int))<|
 bd (QaD (⟨a0.b,O.2.p⟩:QCi) ((J.2.1.getD I.1.toNat default).Entries)) fun a6=>
 gd ((0:Int)<=I.1∧I.1<((J.1:Nat):Int))<|
 some (J.2.1.set I.1.toNat (⟨(J.2.1.getD I.1.toNat default).Peer,a6.1⟩:QCh),(⟨a0.b,a6.2.p⟩:l1Rd))
else
 gd ((0:Int)<=I.1∧I.1<((J.1:Nat):Int))<|
 gd ((0:Int)<=I.1∧I.1<((J.1:Nat):Int))<|
 gd (((J.1)+(([(J.2.1.getD I.1.toNat default),(J.2.1.getD I.1.toNat default)]:List QCh).length))*(32+1)<=70368744177664)<|
 some ((J.2.1++([(J.2.1.getD I.1.toNat default),(J.2.1.getD I.1.toNat default)]:List QCh)),(⟨a0.b,O.2.p⟩:l1Rd))))
else
 some (J.2.1,(⟨a0.b,a2.2.p⟩:l1Rd)))
theorem Qlr {a0:l1Rd} {r:(List QCh)×l1Rd} (h:QcG a0=some r):EffC prog 15 [.ref 9000 0 0] [(9000,.box 87 [.d (slD Qo a0.b),dI a0.p])] (.osl 5001 0 r.1.length) [(9000,.box 87 [.d (slD Qo a0.b),dI r.2.p]),(5001,.arr 49 2 r.1.length (rows QCh.enc r.1))]:=by
 refine eY tOk f15 rfl (bE h [(9000,9000)] 1000 (fun _=>Qlq) fun Y h=>Qb tOk ?_);obtain⟨x5,b2,h⟩:=Qc h;refine Qm tOk b2 (fun I=>⟨0,100,[(0,.ref 9000 0 0),(3,.osl 7001 0 I.1.length),(4,.osl 6001 0 Y.1.length),(5,dI I.2.2)],[],[(7001,.arr 49 2 I.1.length (rows QCh.enc I.1)),(6001,.arr 3 1 Y.1.length (rows QeR Y.1)),(9000,.box 87 [.d (slD Qo a0.b),dI I.2.1])],[⟨[(0,.ref 9000 0 0)],[]⟩]⟩) ?_ ?_
 ·exact leX [.p 7001 49 2 (rows QCh.enc ([]:List QCh))]
 ·clear b2;intro I y3 J b6;refine Qb tOk ?_;apply Qr J<;>intro _ J
  ·refine Qb tOk ?_;obtain⟨g6,J⟩:=Qe J;obtain⟨x7,b9,J⟩:=Qc J;refine Qd3 tOk [.e 5 [(9000,.box 87 [.d (slD Qo a0.b),dI I.2.1])] (.osl 8001 0 x7.1.length) [(8001,.arr 85 4 x7.1.length (rows QCg.enc x7.1))] [(9000,.box 87 [.d (slD Qo a0.b),dI x7.2.p])]] 8 [] [0,0,3,7,0,16,63,0] [255] [9000] (aI g6 (aI (eD [(9000,9000)] 3000 (QmU b9)) (aK (Qb tOk (bE J [(9000,9000)] 0 (fun _=>QG) fun x8 J=>?_)))));apply Qr J<;>intro _ J
   ·obtain⟨x12,a5,J⟩:=Qc J;refine Qm tOk a5 (fun U=>⟨0,100,[(0,.ref 9000 0 0),(3,.osl 7001 0 I.1.length),(4,.osl 6001 0 Y.1.length),(5,dI I.2.2),(6,.ref 6 0 0),(7,dI U.2.2)],[],[(6,.box 49 [dI (Y.1.getD I.2.2.toNat default),.osl 8001 0 U.1.length]),(8001,.arr 85 4 U.1.length (rows QCg.enc U.1)),(7001,.arr 49 2 I.1.length (rows QCh.enc I.1)),(6001,.arr 3 1 Y.1.length (rows QeR Y.1)),(9000,.box 87 [.d (slD Qo a0.b),dI U.2.1])],[⟨[(0,.ref 9000 0 0)],[]⟩]⟩) ?_ ?_
    ·exact leX []
    ·clear a5;intro U y10 N b3;refine Qb tOk ?_;apply Qr N<;>intro _ N
     ·refine Qb tOk ?_;obtain⟨a7,b1,N⟩:=Qc N;obtain⟨a6,a8,N⟩:=Qc N;refine Qd3 tOk [.e 6 [(9000,.box 87 [.d (slD Qo a0.b),dI U.2.1])] (dI a7.1) [] [(9000,.box 87 [.d (slD Qo a0.b),dI a7.2.p])],.u 9 4000 (.osl 5001 0 a6.length) [⟨5001,85,4,a6.length,rows QCg.enc a6⟩]] 11 [] [0,1,0,4,12,0,32,96,252,511,1023] [2047] [9000] (aI (eD [(9000,9000)] 0 (QG b1)) (aI (Qp (QfF a8) (by kernel_rfl)) (aK ?_)));exact eX N [.s [(8001,9001),(9001,8001)]]
     ·cases N
      cases b3 _ rfl
      refine Z6 (enc:=QCh.enc) ([(⟨(Y.1.getD I.2.2.toNat default),(U.1.length,U.1,U.2.1).2.1⟩:QCh)]:List QCh) (gdI J fun J=>QdW (enc:=QCh.enc) (xs:=I.1) (ys:=([(⟨(Y.1.getD I.2.2.toNat default),(U.1.length,U.1,U.2.1).2.1⟩:QCh)]:List QCh)) ?_);exact eX J []
   ·refine Z6 (enc:=QCh.enc) ([(⟨(Y.1.getD I.2.2.toNat default),x7.1⟩:QCh)]:List QCh) (gdI J fun J=>QdW (enc:=QCh.enc) (xs:=I.1) (ys:=([(⟨(Y.1.getD I.2.2.toNat default),x7.1⟩:QCh)]:List QCh)) ?_);exact eX J []
  ·cases J
   cases b6 _ rfl
   refine Qb tOk (bE h [(9000,9000)] 0 (fun _=>QG) fun x19 h=>?_);apply Qr h<;>intro _ h
   ·refine bE h [(9000,9000)] 0 (fun _=>QG) fun O h=>bE h [(9000,9000)] 0 (fun _=>QG) fun a2 h=>?_;apply Qr h<;>intro _ h
    ·refine Z6 (enc:=QeR) ([-1,2561,65535]:List Int) (bE h [(9000,9000)] 0 (fun _=>QG) fun x22 h=>gdI h fun h=>gdI h fun h=>?_);obtain⟨x25,b0,hlx25,h⟩:=QAx h;refine QB8 (enc:=QCh.enc) b0 ?_;cases h;exact lfE [.s [(5001,7001),(7001,5001)]]
    ·apply Qr h<;>intro _ h
     ·obtain⟨b7,h⟩:=Qe h;obtain⟨a1,a9,h⟩:=Qc h;obtain⟨b5,h⟩:=Qe h;refine Qd3 tOk [.r 3 [(9000,.box 87 [.d (slD Qo a0.b),dI a2.2.p])] (.ref 9000 0 0) [],.e 9 [(9000,.box 87 [.d (slD Qo a0.b),dI a2.2.p])] (.osl 8001 0 a1.1.length) [(8001,.arr 85 4 a1.1.length (rows QCg.enc a1.1))] [(9000,.box 188 [.d (slD Qo a0.b),dI a1.2.p])]] 12 [] [0,0,0,4,0,0,48,112,240,508,1023,2047] [4095] [9000] (aI (eD [(9000,9000)] 0 (Qyb tOk (fn:=f48) (c:=Qfk f48) (args:=[.ref 9000 0 0]) (bs:=[(9000,.box 87 [.d (slD Qo a0.b),dI a2.2.p])]) (res:=.ref 9000 0 0) (M:=[(9000,.box 87 [.d (slD Qo a0.b),dI a2.2.p])]) rfl rfl (by(conv=>whnf);exact lfE []))) (aI b7 (aI (eD [(9000,9000)] 3000 (Qhk a9)) (aI b5 (aK (⟨rows QCh.enc ((I.1.length,I.1,I.2.1).2.1.set O.1.toNat (⟨((I.1.length,I.1,I.2.1).2.1.getD O.1.toNat default).Peer,a1.1⟩:QCh)),Qau Qs2 rfl,?_⟩))))));cases h;exact lfE [.s [(5001,7001),(7001,5001)]]
     ·obtain⟨b4,h⟩:=Qe h;obtain⟨b8,h⟩:=Qe h;refine QQ tOk [] 10 [] [0,0,0,6,14,0,0,96,224,510] [1023,2047] (aI b4 (aI b8 (Z6 (enc:=QCh.enc) ([((I.1.length,I.1,I.2.1).2.1.getD O.1.toNat default),((I.1.length,I.1,I.2.1).2.1.getD O.1.toNat default)]:List QCh) (aK (gdI h fun h=>QdW (enc:=QCh.enc) (xs:=(I.1.length,I.1,I.2.1).2.1) (ys:=([((I.1.length,I.1,I.2.1).2.1.getD O.1.toNat default),((I.1.length,I.1,I.2.1).2.1.getD O.1.toNat default)]:List QCh)) ?_)))));cases h;exact lfE [.s [(5001,7001),(7001,5001)]]
   ·cases h
    exact lfE [.s [(5001,7001),(7001,5001)]]
def QaE (a0:(List Int)):Option ((List Bt)×(List QCh)):=
 bd (Qd8 a0) fun J=>
 bd (Qec J) fun I=>
 bd (QcG (⟨J.b,I.2.p⟩:l1Rd)) fun N=>
 some (I.1,N.1)
theorem Qhl {a0:(List Int)} {r:(List Bt)×(List QCh)} (h:QaE a0=some r):EffC prog 4 [.d (slD Qo a0)] [] (.tup [.d (slD Qi r.1),.osl 5001 0 r.2.length]) [(5001,.arr 49 2 r.2.length (rows QCh.enc r.2))]:=by
 refine eY tOk f4 rfl (bE h [] 1000 (fun _=>QnZ) fun x1 h=>bE h [(9000,6001)] 0 (fun _=>Qn2) fun x2 h=>bE h [(9000,6001)] 2000 (fun _=>Qlr) fun x3 h=>?_);cases h;exact lfE [.s [(5001,7001),(7001,5001)]]
def Qai (a0:Bt) (I:Bt):Option (Bt×Bt×Bool):=
 gd (a0.size<4294967281)<|
 some (Qul a0 I)
theorem QfG {a0:Bt} {I:Bt} {r:Bt×Bt×Bool} (h:Qai a0 I=some r):PureC prog 88 [.d (.str a0),.d (.str I)] (.tup [.d (.str r.1),.d (.str r.2.1),dB r.2.2]) []:=by
 unfold Qai at h;obtain⟨g,h⟩:=Qe h;obtain rfl:=sj_ h;exact Qum ⟨f88,rfl,by kernel_rfl,by kernel_rfl⟩ (by kernel_rfl) (fun s sep m w h1 h2=>Any.strings_Cut Lay.cut s sep m w h1 h2) g
def QV (a0:Int) (I:Int) (J:Int):Option (Bool):=
 some ((decide (I<=a0))&&(decide (a0<=J)))
theorem Zp {a0:Int} {I:Int} {J:Int} {r:Bool} (h:QV a0 I J=some r):PureC prog 81 [dI a0,dI I,dI J] (dB r) []:=by
 refine pY tOk f81 rfl ?_;unfold QV at h;cases h;exact lfP []
def ZI (a0:Bt) (I:Bt):Option ((List Bt)):=
 gd (a0.size<4294967281∧1<=I.size)<|
 some (QmG a0 I)
theorem QcH {a0:Bt} {I:Bt} {r:(List Bt)} (h:ZI a0 I=some r):PureC prog 137 [.d (.str a0),.d (.str I)] (.osl 5001 0 r.length) [⟨5001,9,1,r.length,rows Qi r⟩]:=by
 unfold ZI at h;obtain⟨⟨g,J⟩,h⟩:=Qe h;obtain rfl:=sj_ h;exact QqH ⟨f137,rfl,by kernel_rfl,by kernel_rfl⟩ (by kernel_rfl) (fun s sep m w h1 h2 h3=>Any.strings_Split Lay.spl (by kernel_rfl) s sep m w h1 h2 h3) g J
def Jm (a0:Bt):Option (Bool):=
 some (a0==(⟨#[]⟩:Bt))
theorem QeS {a0:Bt} {r:Bool} (h:Jm a0=some r):PureC prog 277 [.d (.str a0)] (dB r) []:=by
 refine pY tOk f277 rfl ?_;unfold Jm at h;cases h;exact lfP []
def ZC (a0:(List Bt)):Option (Int):=
 bd (lp (σ:=Int) (β:=(Int⊕Unit)) (fun I=>
(if(decide (I<((a0.length:Nat):Int)))=true then
 gd ((0:Int)<=I∧I<((a0.length:Nat):Int))<|
 bd (Jm (a0.getD I.toNat default)) fun N=>
(if N=true then
 some (.inr (.inl I))
else
 some (.inl (IntKind.i64.wrap (I+1))))
else
 some (.inr (.inr ())))) 0) fun O=>
(match O with
| .inl J=>
 some J
| .inr d8=>
 some (-1))
theorem J6 {a0:(List Bt)} {r:Int} (h:ZC a0=some r):PureC prog 212 [.d (slD Qi a0),.fn 277 []] (dI r) []:=by
 refine pY tOk f212 rfl (Qb tOk ?_);obtain⟨x4,J,h⟩:=Qc h;refine Qm tOk J (fun O=>⟨0,19,[(0,.d (slD Qi a0)),(1,.fn 277 []),(7,dI ((a0.length:Nat):Int)),(8,dI O)],[],[],[]⟩) ?_ ?_
 ·exact leX []
 ·clear J;intro O y2 I N;refine Qb tOk ?_;apply Qr I<;>intro _ I
  ·refine Qb tOk (gdI I fun I=>bC I 0 (fun _=>QeS) fun x6 I=>?_);apply Qr I<;>intro _ I
   ·cases I
    cases N _ rfl
    cases h
    exact lfP []
   ·exact eX I []
  ·cases I
   cases N _ rfl
   cases h
   exact lfP []
def QH (a0:(List Bt)):Option ((List Bt)):=
 bd (ZC a0) fun N=>
(if(N==(-1))=true then
 some a0
else
 bd (lp (σ:=List Bt×Int×Int) (β:=(Nat×Int×(List Bt))) (fun I=>
(if(decide (I.2.2<((I.1.length:Nat):Int)))=true then
 gd ((0:Int)<=I.2.2∧I.2.2<((I.1.length:Nat):Int))<|
 bd (Jm (I.1.getD I.2.2.toNat default)) fun O=>
(if(!O)=true then
 gd ((0:Int)<=I.2.1∧I.2.1<((I.1.length:Nat):Int))<|
 some (.inl (I.1.set I.2.1.toNat (I.1.getD I.2.2.toNat default),IntKind.i64.wrap (I.2.1+1),IntKind.i64.wrap (I.2.2+1)))
else
 some (.inl (I.1,I.2.1,IntKind.i64.wrap (I.2.2+1))))
else
 some (.inr (I.1.length,I.2.1,I.1)))) (a0,N,IntKind.i64.wrap (N+1))) fun J=>
 gd ((0:Int)<=J.2.1∧J.2.1<=((J.1:Nat):Int)∧((J.1:Nat):Int)<=((J.1:Nat):Int))<|
 gd ((0:Int)<=(0:Int)∧(0:Int)<=J.2.1∧J.2.1<=((J.1:Nat):Int))<|
 some ((Qph J.2.2 J.2.1.toNat (QbP ((J.1:Nat):Int) J.2.1)).take J.2.1.toNat))
theorem Jv {a0:(List Bt)} {r:(List Bt)} (h:QH a0=some r):EffC prog 276 [.osl 9000 0 a0.length,.fn 277 []] [(9000,.arr 9 1 a0.length (rows Qi a0))] (.osl 5001 0 r.length) [(5001,.arr 9 1 r.length (rows Qi r))]:=by
 refine eY tOk f276 rfl (bC h 0 (fun _=>J6) fun x1 h=>Qb tOk ?_);apply Qr h<;>intro _ h
 ·cases h
  exact lfE [.s [(5001,9000),(9000,5001)]]
 ·refine Qb tOk ?_;obtain⟨x5,N,h⟩:=Qc h;refine Qm tOk N (fun I=>⟨0,42,[(0,.osl 9000 0 I.1.length),(1,.fn 277 []),(5,dI I.2.1),(6,dI I.2.2)],[],[(9000,.arr 9 1 I.1.length (rows Qi I.1))],[⟨[],[]⟩]⟩) ?_ ?_
  ·exact leX []
  ·clear N;intro I y3 J Y;refine Qb tOk ?_;apply Qr J<;>intro _ J
   ·refine Qb tOk (gdI J fun J=>bC J 0 (fun _=>QeS) fun x7 J=>?_);apply Qr J<;>intro _ J
    ·refine gdI J fun J=>⟨rows Qi (I.1.set I.2.1.toNat (I.1.getD I.2.2.toNat default)),Qau Qs2 rfl,?_⟩;exact eX J []
    ·exact eX J []
   ·cases J
    cases Y _ rfl
    dsimp only at h;obtain⟨O,h⟩:=Qe h;refine aI O (⟨rows Qi (Qph (I.1.length,I.2.1,I.1).2.2 (I.1.length,I.2.1,I.1).2.1.toNat (QbP (((I.1.length,I.2.1,I.1).1:Nat):Int) (I.1.length,I.2.1,I.1).2.1)),Qk0 Qs2 zlA,?_⟩);obtain⟨U,h⟩:=Qe h;refine aI U ?_;cases h;exact lfE [.c 4,.s [(5001,9000),(9000,5001)]]
def Qaj (a0:Bt):Option (Bool):=
 some (decide (((a0.size:Nat):Int)>24))
theorem QiD {a0:Bt} {r:Bool} (h:Qaj a0=some r):PureC prog 278 [.d (.str a0)] (dB r) []:=by
 refine pY tOk f278 rfl ?_;unfold Qaj at h;cases h;exact lfP []
def ZD (a0:(List Bt)):Option (Int):=
 bd (lp (σ:=Int) (β:=(Int⊕Unit)) (fun I=>
(if(decide (I<((a0.length:Nat):Int)))=true then
 gd ((0:Int)<=I∧I<((a0.length:Nat):Int))<|
 bd (Qaj (a0.getD I.toNat default)) fun N=>
(if N=true then
 some (.inr (.inl I))
else
 some (.inl (IntKind.i64.wrap (I+1))))
else
 some (.inr (.inr ())))) 0) fun O=>
(match O with
| .inl J=>
 some J
| .inr d8=>
 some (-1))
theorem J7 {a0:(List Bt)} {r:Int} (h:ZD a0=some r):PureC prog 212 [.d (slD Qi a0),.fn 278 []] (dI r) []:=by
 refine pY tOk f212 rfl (Qb tOk ?_);obtain⟨x4,J,h⟩:=Qc h;refine Qm tOk J (fun O=>⟨0,19,[(0,.d (slD Qi a0)),(1,.fn 278 []),(7,dI ((a0.length:Nat):Int)),(8,dI O)],[],[],[]⟩) ?_ ?_
 ·exact leX []
 ·clear J;intro O y2 I N;refine Qb tOk ?_;apply Qr I<;>intro _ I
  ·refine Qb tOk (gdI I fun I=>bC I 0 (fun _=>QiD) fun x6 I=>?_);apply Qr I<;>intro _ I
   ·cases I
    cases N _ rfl
    cases h
    exact lfP []
   ·exact eX I []
  ·cases I
   cases N _ rfl
   cases h
   exact lfP []
def QN (a0:(List Bt)):Option (Bool):=
 bd (ZD a0) fun I=>
 some (decide (I>=0))
theorem JM {a0:(List Bt)} {r:Bool} (h:QN a0=some r):PureC prog 163 [.d (slD Qi a0),.fn 278 []] (dB r) []:=by
 refine pY tOk f163 rfl (bC h 0 (fun _=>J7) fun x1 h=>?_);cases h;exact lfP []
def Qb9 (a0:Bt):Option ((List Bt)×Bool):=
 bd (Qai a0 (⟨#[35]⟩:Bt)) fun N=>
 bd (lp (σ:=Int) (β:=(Unit⊕Unit)) (fun J=>
(if(decide (J<((N.1.size:Nat):Int)))=true then
 gd ((0:Int)<=J∧J<((N.1.size:Nat):Int))<|
 bd (QV (IntKind.i64.wrap (JB N.1 J.toNat)) 32 126) fun x7=>
(if(!x7)=true then
 some (.inr (.inl ()))
else
 some (.inl (IntKind.i64.wrap (J+1))))
else
 some (.inr (.inr ())))) 0) fun Y=>
(match Y with
| .inl d8=>
 some ([],false)
| .inr d9=>
 bd (ZI N.1 (⟨#[32]⟩:Bt)) fun O=>
 bd (QH O) fun I=>
 bd (Qv ((decide (((I.length:Nat):Int)>8))=false) (QN I)) fun U=>
(if((decide (((I.length:Nat):Int)>8))||U)=true then
 some ([],false)
else
 some (I,true)))
theorem Qkz {a0:Bt} {r:(List Bt)×Bool} (h:Qb9 a0=some r):PureC prog 251 [.d (.str a0)] (.tup [.osl 5001 0 r.1.length,dB r.2]) [⟨5001,9,1,r.1.length,rows Qi r.1⟩]:=by
 refine pY tOk f251 rfl (bC h 0 (fun _=>QfG) fun U h=>Qb tOk ?_);obtain⟨x5,N,h⟩:=Qc h;refine Qm tOk N (fun O=>⟨0,35,[(0,.d (.str U.1)),(4,dI O)],[],[],[]⟩) ?_ ?_
 ·exact leX []
 ·clear N;intro O y3 I J;refine Qb tOk ?_;apply Qr I<;>intro _ I
  ·refine Qb tOk (gdI I fun I=>bC I 0 (fun _=>Zp) fun x7 I=>?_);apply Qr I<;>intro _ I
   ·cases I
    cases J _ rfl
    cases h
    exact lfP [.p 5001 9 1 (rows Qi ([]:List Bt))]
   ·exact eX I []
  ·cases I
   cases J _ rfl
   refine bC h 1000 (fun _=>QcH) fun x10 h=>bE h [(9000,6001)] 2000 (fun _=>Jv) fun x11 h=>Qb tOk (bG h (fun _=>JM) fun x12 h=>?_);apply Qr h<;>intro _ h
   ·cases h
    exact lfP [.k [7001],.p 5001 9 1 (rows Qi ([]:List Bt))]
   ·cases h
    exact lfP [.s [(5001,7001),(7001,5001)]]
def ZZ (a0:Int) (I:Int):Option (Fnv):=
 some (Fnv.r 300 a0 I)
theorem JJ {a0:Int} {I:Int} {r:Fnv} (h:ZZ a0 I=some r):EffC prog 279 [dI a0,dI I] [] (.d (.fn r.f r.caps)) []:=by
 refine eY tOk f279 rfl ?_;unfold ZZ at h;cases h;exact lfE [.f [2,3]]
def Qed (a0:(List Bt)):Option (Fnv):=
 some (Fnv.w 302 a0)
theorem QiE {a0:(List Bt)} {r:Fnv} (h:Qed a0=some r):EffC prog 283 [.d (slD Qi a0)] [] (.d (.fn r.f r.caps)) []:=by
 refine eY tOk f283 rfl ?_;unfold Qed at h;cases h;exact lfE [.f [1]]
def Qad (a0:form) (I:Bt):Option (Bool):=
 some (!(a0.word==I))
theorem Qgb {a0:form} {I:Bt} {r:Bool} (h:Qad a0 I=some r):PureC prog 286 [.agg [.d (.str a0.word),dI a0.key,.d (slD Qby a0.checks)],.rp [.str I]] (dB r) []:=by
 refine pY tOk f286 rfl ?_;unfold Qad at h;cases h;exact lfP []
def Z2 (a0:(List form)) (J:Bt):Option (Int):=
 bd (lp (σ:=Int) (β:=(Int⊕Unit)) (fun I=>
(if(decide (I<((a0.length:Nat):Int)))=true then
 gd ((0:Int)<=I∧I<((a0.length:Nat):Int))<|
 bd (Qad (a0.getD I.toNat default) J) fun O=>
(if O=true then
 some (.inr (.inl I))
else
 some (.inl (IntKind.i64.wrap (I+1))))
else
 some (.inr (.inr ())))) 0) fun U=>
(match U with
| .inl N=>
 some N
| .inr d8=>
 some (-1))
theorem QaT {a0:(List form)} {J:Bt} {r:Int} (h:Z2 a0 J=some r):PureC prog 304 [.d (slD form.enc a0),.fn 286 [.rp [.str J]]] (dI r) []:=by
 refine pY tOk f304 rfl (Qb tOk ?_);obtain⟨x4,N,h⟩:=Qc h;refine Qm tOk N (fun U=>⟨0,19,[(0,.d (slD form.enc a0)),(1,.fn 286 [.rp [.str J]]),(7,dI ((a0.length:Nat):Int)),(8,dI U)],[],[],[]⟩) ?_ ?_
 ·exact leX []
 ·clear N;intro U y2 I O;refine Qb tOk ?_;apply Qr I<;>intro _ I
  ·refine Qb tOk (gdI I fun I=>bC I 0 (fun _=>Qgb) fun x6 I=>?_);apply Qr I<;>intro _ I
   ·cases I
    cases O _ rfl
    cases h
    exact lfP []
   ·exact eX I []
  ·cases I
   cases O _ rfl
   cases h
   exact lfP []
def Qdu (a0:Bt):Option ((List form)):=
 bd (ZZ 1 65535) fun N=>
 bd (ZZ 1 7) fun x2=>
 bd (ZZ 0 7) fun x3=>
 bd (ZZ 0 7) fun x4=>
 bd (Qed ([(⟨#[105,110]⟩:Bt)]:List Bt)) fun Y=>
 bd (ZZ 0 99) fun x6=>
 bd (Qed ([(⟨#[112,101,114,109,105,116]⟩:Bt),(⟨#[100,101,110,121]⟩:Bt)]:List Bt)) fun x7=>
 bd (ZZ 0 7) fun x8=>
 bd (ZZ 1 9) fun x9=>
 bd (ZZ 1 999999) fun O=>
 bd (Z2 ([(⟨(⟨#[104,111,115,116]⟩:Bt),1,([(Fnv.k 280)]:List Fnv)⟩:form),(⟨(⟨#[117,115,101,114]⟩:Bt),2,([(Fnv.k 280),(Fnv.k 281)]:List Fnv)⟩:form),(⟨(⟨#[112,111,114,116]⟩:Bt),2,([x3,(Fnv.k 282)]:List Fnv)⟩:form),(⟨(⟨#[112,111,114,116]⟩:Bt),2,([x4,(Fnv.k 282),Y,(Fnv.k 280)]:List Fnv)⟩:form),(⟨(⟨#[114,117,108,101]⟩:Bt),3,([(Fnv.k 280),x6,x7,(Fnv.k 282),(Fnv.k 282),x8]:List Fnv)⟩:form),(⟨(⟨#[114,111,117,116,101]⟩:Bt),3,([(Fnv.k 282),(Fnv.k 284)]:List Fnv)⟩:form),(⟨(⟨#[112,101,101,114]⟩:Bt),2,([(Fnv.k 284),x9,O]:List Fnv)⟩:form),(⟨(⟨#[110,97,116]⟩:Bt),1,([(Fnv.k 282),(Fnv.k 284),N,N]:List Fnv)⟩:form),(⟨(⟨#[100,111,111,114]⟩:Bt),3,([x2,N,(Fnv.k 284),N]:List Fnv)⟩:form)]:List form) a0) fun U=>
(if(U==(-1))=true then
 some ([(⟨(⟨#[104,111,115,116]⟩:Bt),1,([(Fnv.k 280)]:List Fnv)⟩:form),(⟨(⟨#[117,115,101,114]⟩:Bt),2,([(Fnv.k 280),(Fnv.k 281)]:List Fnv)⟩:form),(⟨(⟨#[112,111,114,116]⟩:Bt),2,([x3,(Fnv.k 282)]:List Fnv)⟩:form),(⟨(⟨#[112,111,114,116]⟩:Bt),2,([x4,(Fnv.k 282),Y,(Fnv.k 280)]:List Fnv)⟩:form),(⟨(⟨#[114,117,108,101]⟩:Bt),3,([(Fnv.k 280),x6,x7,(Fnv.k 282),(Fnv.k 282),x8]:List Fnv)⟩:form),(⟨(⟨#[114,111,117,116,101]⟩:Bt),3,([(Fnv.k 282),(Fnv.k 284)]:List Fnv)⟩:form),(⟨(⟨#[112,101,101,114]⟩:Bt),2,([(Fnv.k 284),x9,O]:List Fnv)⟩:form),(⟨(⟨#[110,97,116]⟩:Bt),1,([(Fnv.k 282),(Fnv.k 284),N,N]:List Fnv)⟩:form),(⟨(⟨#[100,111,111,114]⟩:Bt),3,([x2,N,(Fnv.k 284),N]:List Fnv)⟩:form)]:List form)
else
 bd (lp (σ:=List form×Int×Int) (β:=(Nat×Int×(List form))) (fun I=>
(if(decide (I.2.2<((I.1.length:Nat):Int)))=true then
 gd ((0:Int)<=I.2.2∧I.2.2<((I.1.length:Nat):Int))<|
 bd (Qad (I.1.getD I.2.2.toNat default) a0) fun a1=>
(if(!a1)=true then
 gd ((0:Int)<=I.2.1∧I.2.1<((I.1.length:Nat):Int))<|
 some (.inl (I.1.set I.2.1.toNat (I.1.getD I.2.2.toNat default),IntKind.i64.wrap (I.2.1+1),IntKind.i64.wrap (I.2.2+1)))
else
 some (.inl (I.1,I.2.1,IntKind.i64.wrap (I.2.2+1))))
else
 some (.inr (I.1.length,I.2.1,I.1)))) (([(⟨(⟨#[104,111,115,116]⟩:Bt),1,([(Fnv.k 280)]:List Fnv)⟩:form),(⟨(⟨#[117,115,101,114]⟩:Bt),2,([(Fnv.k 280),(Fnv.k 281)]:List Fnv)⟩:form),(⟨(⟨#[112,111,114,116]⟩:Bt),2,([x3,(Fnv.k 282)]:List Fnv)⟩:form),(⟨(⟨#[112,111,114,116]⟩:Bt),2,([x4,(Fnv.k 282),Y,(Fnv.k 280)]:List Fnv)⟩:form),(⟨(⟨#[114,117,108,101]⟩:Bt),3,([(Fnv.k 280),x6,x7,(Fnv.k 282),(Fnv.k 282),x8]:List Fnv)⟩:form),(⟨(⟨#[114,111,117,116,101]⟩:Bt),3,([(Fnv.k 282),(Fnv.k 284)]:List Fnv)⟩:form),(⟨(⟨#[112,101,101,114]⟩:Bt),2,([(Fnv.k 284),x9,O]:List Fnv)⟩:form),(⟨(⟨#[110,97,116]⟩:Bt),1,([(Fnv.k 282),(Fnv.k 284),N,N]:List Fnv)⟩:form),(⟨(⟨#[100,111,111,114]⟩:Bt),3,([x2,N,(Fnv.k 284),N]:List Fnv)⟩:form)]:List form),U,IntKind.i64.wrap (U+1))) fun J=>
 gd ((0:Int)<=J.2.1∧J.2.1<=((J.1:Nat):Int)∧((J.1:Nat):Int)<=((J.1:Nat):Int))<|
 gd ((0:Int)<=(0:Int)∧(0:Int)<=J.2.1∧J.2.1<=((J.1:Nat):Int))<|
 some ((Qph J.2.2 J.2.1.toNat (QbP ((J.1:Nat):Int) J.2.1)).take J.2.1.toNat))
theorem QmV {a0:Bt} {r:(List form)} (h:Qdu a0=some r):EffC prog 252 [.d (.str a0)] [] (.osl 5001 0 r.length) [(5001,.arr 225 3 r.length (rows form.enc r))]:=by
 refine eY tOk f252 rfl (bE h [] 0 (fun _=>JJ) fun J h=>bE h [] 0 (fun _=>JJ) fun U h=>Z6 (enc:=Qby) ([(Fnv.k 280)]:List Fnv) (Z6 (enc:=Qby) ([(Fnv.k 280),(Fnv.k 281)]:List Fnv) (bE h [] 0 (fun _=>JJ) fun x3 h=>Z6 (enc:=Qby) ([x3,(Fnv.k 282)]:List Fnv) (bE h [] 0 (fun _=>JJ) fun x4 h=>Z6 (enc:=Qi) ([(⟨#[105,110]⟩:Bt)]:List Bt) ?_))));obtain⟨x5,a5,h⟩:=Qc h;refine Zj [16] (cE [] 0 (QiE a5) (Z6 (enc:=Qby) ([x4,(Fnv.k 282),x5,(Fnv.k 280)]:List Fnv) (bE h [] 0 (fun _=>JJ) fun x6 h=>Z6 (enc:=Qi) ([(⟨#[112,101,114,109,105,116]⟩:Bt),(⟨#[100,101,110,121]⟩:Bt)]:List Bt) ?_)));obtain⟨x7,a7,h⟩:=Qc h;refine Zj [21] (cE [] 0 (QiE a7) (bE h [] 0 (fun _=>JJ) fun x8 h=>Z6 (enc:=Qby) ([(Fnv.k 280),x6,x7,(Fnv.k 282),(Fnv.k 282),x8]:List Fnv) (Z6 (enc:=Qby) ([(Fnv.k 282),(Fnv.k 284)]:List Fnv) (bE h [] 0 (fun _=>JJ) fun x9 h=>bE h [] 0 (fun _=>JJ) fun O h=>Z6 (enc:=Qby) ([(Fnv.k 284),x9,O]:List Fnv) (Z6 (enc:=Qby) ([(Fnv.k 282),(Fnv.k 284),J,J]:List Fnv) (Z6 (enc:=Qby) ([U,J,(Fnv.k 284),J]:List Fnv) (Z6 (enc:=form.enc) ([(⟨(⟨#[104,111,115,116]⟩:Bt),1,([(Fnv.k 280)]:List Fnv)⟩:form),(⟨(⟨#[117,115,101,114]⟩:Bt),2,([(Fnv.k 280),(Fnv.k 281)]:List Fnv)⟩:form),(⟨(⟨#[112,111,114,116]⟩:Bt),2,([x3,(Fnv.k 282)]:List Fnv)⟩:form),(⟨(⟨#[112,111,114,116]⟩:Bt),2,([x4,(Fnv.k 282),x5,(Fnv.k 280)]:List Fnv)⟩:form),(⟨(⟨#[114,117,108,101]⟩:Bt),3,([(Fnv.k 280),x6,x7,(Fnv.k 282),(Fnv.k 282),x8]:List Fnv)⟩:form),(⟨(⟨#[114,111,117,116,101]⟩:Bt),3,([(Fnv.k 282),(Fnv.k 284)]:List Fnv)⟩:form),(⟨(⟨#[112,101,101,114]⟩:Bt),2,([(Fnv.k 284),x9,O]:List Fnv)⟩:form),(⟨(⟨#[110,97,116]⟩:Bt),1,([(Fnv.k 282),(Fnv.k 284),J,J]:List Fnv)⟩:form),(⟨(⟨#[100,111,111,114]⟩:Bt),3,([U,J,(Fnv.k 284),J]:List Fnv)⟩:form)]:List form) (QyT tOk 20000 (fn:=f285) (c:=Qfk f285) rfl rfl (by kernel_rfl) rfl (bC h 0 (fun _=>QaT) fun x11 h=>Qb tOk ?_)))))))));apply Qr h<;>intro _ h
 ·cases h
  exact lfE [.s [(41,5001),(5001,41)]]
 ·refine Qb tOk ?_;obtain⟨x15,Y,h⟩:=Qc h;refine Qm tOk Y (fun I=>⟨20000,42,[(0,.osl 41 0 I.1.length),(1,.fn 286 [.ref 1 0 0]),(5,dI I.2.1),(6,dI I.2.2)],[],[(41,.arr 225 3 I.1.length (rows form.enc I.1)),(1,.box 9 [.d (.str a0)])],[⟨[(0,.d (.str a0)),(1,.ref 1 0 0),(2,.d (.nil)),(3,.d (.fn J.f J.caps)),(4,.d (.fn U.f U.caps)),(5,.osl 41 0 I.1.length),(6,.d (.fn J.f J.caps)),(7,.d (.fn U.f U.caps)),(8,.d (slD Qby ([(Fnv.k 280)]:List Fnv))),(9,.agg [.d (.str (⟨#[104,111,115,116]⟩:Bt)),dI 1,.d (slD Qby ([(Fnv.k 280)]:List Fnv))]),(10,.d (slD Qby ([(Fnv.k 280),(Fnv.k 281)]:List Fnv))),(11,.agg [.d (.str (⟨#[117,115,101,114]⟩:Bt)),dI 2,.d (slD Qby ([(Fnv.k 280),(Fnv.k 281)]:List Fnv))]),(12,.d (.fn x3.f x3.caps)),(13,.d (slD Qby ([x3,(Fnv.k 282)]:List Fnv))),(14,.agg [.d (.str (⟨#[112,111,114,116]⟩:Bt)),dI 2,.d (slD Qby ([x3,(Fnv.k 282)]:List Fnv))]),(15,.d (.fn x4.f x4.caps)),(16,.d (slD Qi ([(⟨#[105,110]⟩:Bt)]:List Bt))),(17,.d (.fn x5.f x5.caps)),(18,.d (slD Qby ([x4,(Fnv.k 282),x5,(Fnv.k 280)]:List Fnv))),(19,.agg [.d (.str (⟨#[112,111,114,116]⟩:Bt)),dI 2,.d (slD Qby ([x4,(Fnv.k 282),x5,(Fnv.k 280)]:List Fnv))]),(20,.d (.fn x6.f x6.caps)),(21,.d (slD Qi ([(⟨#[112,101,114,109,105,116]⟩:Bt),(⟨#[100,101,110,121]⟩:Bt)]:List Bt))),(22,.d (.fn x7.f x7.caps)),(23,.d (.fn x8.f x8.caps)),(24,.d (slD Qby ([(Fnv.k 280),x6,x7,(Fnv.k 282),(Fnv.k 282),x8]:List Fnv))),(25,.agg [.d (.str (⟨#[114,117,108,101]⟩:Bt)),dI 3,.d (slD Qby ([(Fnv.k 280),x6,x7,(Fnv.k 282),(Fnv.k 282),x8]:List Fnv))]),(26,.d (slD Qby ([(Fnv.k 282),(Fnv.k 284)]:List Fnv))),(27,.agg [.d (.str (⟨#[114,111,117,116,101]⟩:Bt)),dI 3,.d (slD Qby ([(Fnv.k 282),(Fnv.k 284)]:List Fnv))]),(28,.d (.fn x9.f x9.caps)),(29,.d (.fn O.f O.caps)),(30,.d (slD Qby ([(Fnv.k 284),x9,O]:List Fnv))),(31,.agg [.d (.str (⟨#[112,101,101,114]⟩:Bt)),dI 2,.d (slD Qby ([(Fnv.k 284),x9,O]:List Fnv))]),(32,.d (.fn J.f J.caps)),(33,.d (.fn J.f J.caps)),(34,.d (slD Qby ([(Fnv.k 282),(Fnv.k 284),J,J]:List Fnv))),(35,.agg [.d (.str (⟨#[110,97,116]⟩:Bt)),dI 1,.d (slD Qby ([(Fnv.k 282),(Fnv.k 284),J,J]:List Fnv))]),(36,.d (.fn U.f U.caps)),(37,.d (.fn J.f J.caps)),(38,.d (.fn J.f J.caps)),(39,.d (slD Qby ([U,J,(Fnv.k 284),J]:List Fnv))),(40,.agg [.d (.str (⟨#[100,111,111,114]⟩:Bt)),dI 3,.d (slD Qby ([U,J,(Fnv.k 284),J]:List Fnv))]),(41,.osl 41 0 I.1.length),(42,.osl 41 0 I.1.length),(43,.fn 286 [.ref 1 0 0])],[]⟩,⟨[],[]⟩]⟩) ?_ ?_
  ·exact leX []
  ·clear Y;intro I y13 N a1;refine Qb tOk ?_;apply Qr N<;>intro _ N
   ·refine Qb tOk (gdI N fun N=>bC N 0 (fun _=>Qgb) fun x17 N=>?_);apply Qr N<;>intro _ N
    ·refine gdI N fun N=>⟨rows form.enc (I.1.set I.2.1.toNat (I.1.getD I.2.2.toNat default)),Qau Qs2 rfl,?_⟩;exact eX N []
    ·exact eX N []
   ·cases N
    cases a1 _ rfl
    obtain⟨a2,h⟩:=Qe h;refine aI a2 (⟨rows form.enc (Qph (I.1.length,I.2.1,I.1).2.2 (I.1.length,I.2.1,I.1).2.1.toNat (QbP (((I.1.length,I.2.1,I.1).1:Nat):Int) (I.1.length,I.2.1,I.1).2.1)),Qk0 Qs2 zlA,?_⟩);obtain⟨a6,h⟩:=Qe h;refine aI a6 ?_;cases h;exact lfE [.c 2,.s [(41,5001),(5001,41)]]
def Qee (a0:Bt):Option (Bool):=
 bd (lp (σ:=Int) (β:=(Unit⊕Unit)) (fun I=>
(if(decide (I<((a0.size:Nat):Int)))=true then
 gd ((0:Int)<=I∧I<((a0.size:Nat):Int))<|
(if((((JB a0 I.toNat) !=45)&&((decide ((JB a0 I.toNat)<97))||(decide ((JB a0 I.toNat)>122))))&&((decide ((JB a0 I.toNat)<48))||(decide ((JB a0 I.toNat)>57))))=true then
 some (.inr (.inl ()))
else
 some (.inl (IntKind.i64.wrap (I+1))))
else
 some (.inr (.inr ())))) 0) fun N=>
(match N with
| .inl d6=>
 some false
| .inr d7=>
 bd (QV ((a0.size:Nat):Int) 1 8) fun J=>
 some J)
theorem Qn3 {a0:Bt} {r:Bool} (h:Qee a0=some r):PureC prog 280 [.d (.str a0)] (dB r) []:=by
 refine pY tOk f280 rfl (Qb tOk ?_);obtain⟨x4,J,h⟩:=Qc h;refine Qm tOk J (fun O=>⟨0,35,[(0,.d (.str a0)),(3,dI O)],[],[],[]⟩) ?_ ?_
 ·exact leX []
 ·clear J;intro O y2 I N;refine Qb tOk ?_;apply Qr I<;>intro _ I
  ·refine Qb tOk (gdI I fun I=>?_);apply Qr I<;>intro _ I
   ·cases I
    cases N _ rfl
    cases h
    exact lfP []
   ·exact eX I []
  ·cases I
   cases N _ rfl
   refine bC h 0 (fun _=>Zp) fun x8 h=>?_;cases h;exact lfP []
def JD (a0:(List Bt)) (J:Bt):Option (Int):=
 bd (lp (σ:=Int) (β:=(Int⊕Unit)) (fun I=>
(if(decide (I<((a0.length:Nat):Int)))=true then
 gd ((0:Int)<=I∧I<((a0.length:Nat):Int))<|
(if(J==(a0.getD I.toNat default))=true then
 some (.inr (.inl I))
else
 some (.inl (IntKind.i64.wrap (I+1))))
else
 some (.inr (.inr ())))) 0) fun O=>
(match O with
| .inl N=>
 some N
| .inr d7=>
 some (-1))
theorem Qef {a0:(List Bt)} {O:Bt} {r:Int} (h:JD a0 O=some r):PureC prog 310 [.d (slD Qi a0),.d (.str O)] (dI r) []:=by
 refine pY tOk f310 rfl (Qb tOk ?_);obtain⟨x4,J,h⟩:=Qc h;refine Qm tOk J (fun U=>⟨0,19,[(0,.d (slD Qi a0)),(1,.d (.str O)),(7,dI ((a0.length:Nat):Int)),(8,dI U)],[],[],[]⟩) ?_ ?_
 ·exact leX []
 ·clear J;intro U y2 I N;refine Qb tOk ?_;apply Qr I<;>intro _ I
  ·refine Qb tOk (gdI I fun I=>?_);apply Qr I<;>intro _ I
   ·cases I
    cases N _ rfl
    cases h
    exact lfP []
   ·exact eX I []
  ·cases I
   cases N _ rfl
   cases h
   exact lfP []
def Q2 (a0:(List Bt)) (I:Bt):Option (Bool):=
 bd (JD a0 I) fun J=>
 some (decide (J>=0))
theorem QaJ {a0:(List Bt)} {I:Bt} {r:Bool} (h:Q2 a0 I=some r):PureC prog 303 [.d (slD Qi a0),.d (.str I)] (dB r) []:=by
 refine pY tOk f303 rfl (bC h 0 (fun _=>Qef) fun x1 h=>?_);cases h;exact lfP []
def QcI (a0:Bt):Option ((List Bt)×Bool):=
(if((a0==(⟨#[97,108,108]⟩:Bt))||(a0==(⟨#[110,111,110,101]⟩:Bt)))=true then
 some (([a0]:List Bt),true)
else
 bd (ZI a0 (⟨#[44]⟩:Bt)) fun J=>
 bd (lp (σ:=Int) (β:=(Unit⊕Unit)) (fun I=>
(if(decide (I<((J.length:Nat):Int)))=true then
 gd ((0:Int)<=I∧I<((J.length:Nat):Int))<|
 bd (Q2 ([(⟨#[100,111,111,114]⟩:Bt),(⟨#[104,111,115,116]⟩:Bt),(⟨#[110,97,116]⟩:Bt),(⟨#[112,101,101,114]⟩:Bt),(⟨#[112,111,114,116]⟩:Bt),(⟨#[114,111,117,116,101]⟩:Bt),(⟨#[114,117,108,101]⟩:Bt),(⟨#[117,115,101,114]⟩:Bt)]:List Bt) (J.getD I.toNat default)) fun N=>
 gd ((decide (I>0))=true->((!N)=false->((0:Int)<=IntKind.i64.wrap (I-1)∧IntKind.i64.wrap (I-1)<((J.length:Nat):Int))))<|
(if((!N)||((decide (I>0))&&(!(bsl (J.getD ((IntKind.i64.wrap (I-1)).toNat) default) (J.getD I.toNat default)))))=true then
 some (.inr (.inl ()))
else
 some (.inl (IntKind.i64.wrap (I+1))))
else
 some (.inr (.inr ())))) 0) fun O=>
(match O with
| .inl d9=>
 some ([],false)
| .inr d10=>
 some (J,true)))
theorem Qls {a0:Bt} {r:(List Bt)×Bool} (h:QcI a0=some r):PureC prog 301 [.d (.str a0)] (.tup [.osl 5001 0 r.1.length,dB r.2]) [⟨5001,9,1,r.1.length,rows Qi r.1⟩]:=by
 refine pY tOk f301 rfl (Qb tOk ?_);apply Qr h<;>intro _ h
 ·refine Z6 (enc:=Qi) ([a0]:List Bt) ?_;cases h;exact lfP [.s [(14,5001),(5001,14)]]
 ·refine bC h 1000 (fun _=>QcH) fun J h=>Qb tOk ?_;obtain⟨x5,O,h⟩:=Qc h;refine Qm tOk O (fun U=>⟨0,43,[(4,.osl 6001 0 J.length),(17,.osl 6001 0 J.length),(18,dI ((J.length:Nat):Int)),(19,dI U)],[],[(6001,.arr 9 1 J.length (rows Qi J))],[]⟩) ?_ ?_
  ·exact leX []
  ·clear O;intro U y3 I N;refine Qb tOk ?_;apply Qr I<;>intro _ I
   ·refine Qb tOk (gdI I fun I=>Z6 (enc:=Qi) ([(⟨#[100,111,111,114]⟩:Bt),(⟨#[104,111,115,116]⟩:Bt),(⟨#[110,97,116]⟩:Bt),(⟨#[112,101,101,114]⟩:Bt),(⟨#[112,111,114,116]⟩:Bt),(⟨#[114,111,117,116,101]⟩:Bt),(⟨#[114,117,108,101]⟩:Bt),(⟨#[117,115,101,114]⟩:Bt)]:List Bt) (bC I 0 (fun _=>QaJ) fun x7 I=>gdI I fun I=>?_));apply Qr I<;>intro _ I
    ·cases I
     cases N _ rfl
     cases h
     exact lfP [.p 5001 9 1 (rows Qi ([]:List Bt))]
    ·exact eX I []
   ·cases I
    cases N _ rfl
    cases h
    exact lfP [.s [(5001,6001),(6001,5001)]]
def QcJ (a0:Bt):Option (Bool):=
 bd (QcI a0) fun I=>
 some I.2
theorem Qlt {a0:Bt} {r:Bool} (h:QcJ a0=some r):PureC prog 281 [.d (.str a0)] (dB r) []:=by
 refine pY tOk f281 rfl (bC h 1000 (fun _=>Qls) fun x1 h=>?_);cases h;exact lfP []
def JK (a0:Bt):Option (Int):=
 gd (a0.size<=281474976710656)<|
 some (QAo a0)
namespace Dc
open Go.RowKit
theorem dec_walk (s:Bt) (hs:s.size≤281474976710656) (w:World) (ht:TabB prog (fun b=>b<w.heap.size) w):
  Calls prog 87 #[.string s] w fun e w'=>e=.returned (.int .i64 (QAo s))∧Below w.heap.size w w':=by
 unfold QAo
 cases h:Lib.atoiAll s.data.toList with
 |range=>
  obtain⟨_,ev,hv,hev⟩:=ht.2 2 _ (Lay.atoi_ren.g 16) rfl (by kernel_rfl)
  go_enter func87,ntmps87
  go_wp2_with (go_at_call 138;refine(Any.strconv_Atoi_range Lay.atoi s hs h ev w hv hev).mono ?_;rintro e w' ⟨N,rfl,hN,hb,hB⟩)
  go_ret
  exact⟨rfl,hB⟩
 |ok v=>
  have hat:=Any.strconv_Atoi_ok Lay.atoi s (by omega) v h w
  obtain⟨h0,h1⟩:=Qpi h
  have hbel:∀ {w':World},(w'=w∨ ∃t,w'=Lib.bytesWorld w (Lay.atoi_ren.t 5) t)→Below w.heap.size w w':=fun {w'} h=>by
   rcases h with rfl|⟨t,rfl⟩
   ·exact Below.refl _ _
   ·exact Lib.bytesWorld_below w _ t
  have hqi:=QyU (v:=v) (s:=s)
  by_cases hv:v<0
  ·go_enter func87,ntmps87
   go_wp2_with (go_at_call 138;refine hat.mono ?_;rintro e w' ⟨rfl,hw⟩)
   go_ret
   exact⟨by simp[hv],hbel hw⟩
  ·by_cases hq:Qn4 v=s
   ·have h2:=hqi.1 hq
    have h3:(!(Lib.itoa v==s.toList))=false:=by simp[h2]
    have h4:decide (v<0)=false:=by simp[hv]
    simp only[hv,hq,ne_eq,not_true,or_self,if_false]
    clear hqi hq
    go_enter func87,ntmps87
    go_wp2_with (first|(go_at_call 138;refine hat.mono ?_;rintro e w' ⟨rfl,hw⟩)|(go_at_call 139;refine(Any.strconv_Itoa Lay.itoa v h0 h1 _ (Qyc (Qpj (by kernel_rfl) ht (hbel hw)))).mono ?_;rintro e w'' ⟨rfl,k,os,rfl⟩))
    all_goals go_ret
    all_goals exact⟨rfl,Qlu (hbel hw)⟩
   ·have h2:¬Lib.itoa v=s.toList:=fun e=>hq (hqi.2 e)
    have h3:(!(Lib.itoa v==s.toList))=true:=by simp[h2]
    have h4:decide (v<0)=false:=by simp[hv]
    simp only[hv,hq,ne_eq,not_false_iff,or_true,if_true]
    clear hqi hq
    go_enter func87,ntmps87
    go_wp2_with (first|(go_at_call 138;refine hat.mono ?_;rintro e w' ⟨rfl,hw⟩)|(go_at_call 139;refine(Any.strconv_Itoa Lay.itoa v h0 h1 _ (Qyc (Qpj (by kernel_rfl) ht (hbel hw)))).mono ?_;rintro e w'' ⟨rfl,k,os,rfl⟩))
    all_goals go_ret
    all_goals exact⟨rfl,Qlu (hbel hw)⟩
 |_=>
  obtain⟨_,ev,hv,hev⟩:=ht.2 1 _ (Lay.atoi_ren.g 15) rfl (by kernel_rfl)
  go_enter func87,ntmps87
  go_wp2_with (go_at_call 138;refine(Any.strconv_Atoi_syntax Lay.atoi s hs h ev w hv hev).mono ?_;rintro e w' ⟨N,rfl,hN,hb,hB⟩)
  go_ret
  exact⟨rfl,hB⟩
end Dc
theorem Qdv {a0:Bt} {r:Int} (h:JK a0=some r):PureC prog 87 [.d (.str a0)] (dI r) []:=by
 unfold JK at h
 obtain⟨g,h⟩:=Qe h
 obtain rfl:=sj_ h
 exact QhX (v:=.int .i64 (QAo a0)) ⟨f87,rfl,by kernel_rfl,by kernel_rfl⟩ rfl (fun _=>rfl) (fun _ _ _=>.d .int) fun w vals ρ0 hv I=>by
  rw[Qun hv]
  exact(Dc.dec_walk a0 g w I).mono fun e w' ⟨J,hb⟩=>⟨J,Below.pure hb⟩
def ZJ (a0:Bt):Option (Int):=
 bd (Qai a0 (⟨#[46]⟩:Bt)) fun I=>
 bd (JK I.1) fun N=>
 bd (JK I.2.1) fun J=>
 bd (Qv ((!I.2.2)=false) (QV N 0 255)) fun O=>
 bd (Qv (((!I.2.2)||(!O))=false) (QV J 0 255)) fun U=>
(if(((!I.2.2)||(!O))||(!U))=true then
 some (-1)
else
 some (IntKind.i64.wrap ((IntKind.i64.wrap (256*N))+J)))
theorem Qaw {a0:Bt} {r:Int} (h:ZJ a0=some r):PureC prog 34 [.d (.str a0)] (dI r) []:=by
 refine pY tOk f34 rfl (bC h 0 (fun _=>QfG) fun x1 h=>bC h 0 (fun _=>Qdv) fun x2 h=>bC h 0 (fun _=>Qdv) fun x3 h=>Qb tOk (bG h (fun _=>Zp) fun x4 h=>bG h (fun _=>Zp) fun x5 h=>?_));apply Qr h<;>intro _ h
 ·cases h
  exact lfP []
 ·cases h
  exact lfP []
def Zf (a0:QCj):Option (Int):=
 gd ((0:Int)<=(IntKind.i64.wrap (16-a0.Len)))<|
 some (IntKind.i64.wrap (1*2^min (IntKind.i64.wrap (16-a0.Len):Int).toNat IntKind.i64.bits))
theorem QdH {a0:QCj} {r:Int} (h:Zf a0=some r):PureC prog 82 [.agg [dI a0.Addr,dI a0.Len]] (dI r) []:=by
 refine pY tOk f82 rfl (gdI h fun h=>?_);cases h;exact lfP []
def QaO (a0:QCj):Option (Bool):=
 bd (QV a0.Len 0 16) fun I=>
 bd (Qv (I=true) (QV a0.Addr 0 65535)) fun J=>
 bd (Qv ((I&&J)=true) (Zf a0)) fun N=>
 gd ((I&&J)=true->((N:Int)≠0))<|
 some ((I&&J)&&(((a0.Addr:Int).tmod N)==0))
theorem Qgr {a0:QCj} {r:Bool} (h:QaO a0=some r):PureC prog 27 [.agg [dI a0.Addr,dI a0.Len]] (dB r) []:=by
 refine pY tOk f27 rfl ?_;obtain⟨Y,N,h⟩:=Qc h;obtain⟨x2,I,h⟩:=Qc h;obtain⟨U,O,h⟩:=Qc h;obtain⟨g4,h⟩:=Qe h;refine QQ tOk [.u 2 0 (dB Y) [],.u 6 0 (dB x2) [],.u 12 0 (dI U) []] 17 [] [0,1,3,7,15,31,63,127,255,511,1023,511,2559,8191,16383,32767,65535] [] (aI (Qp (Zp N) (by kernel_rfl)) (aI (QJ rfl rfl rfl rfl (by intro J;exact Zp (Qt I J))) (aI (QJ rfl rfl rfl rfl (by intro J;exact QdH (Qt O J))) (aI g4 (aK ?_)))));cases h;exact lfP []
def Jf (a0:Bt):Option (QCj×Bool):=
 bd (Qai a0 (⟨#[47]⟩:Bt)) fun I=>
 bd (ZJ I.1) fun J=>
 bd (JK I.2.1) fun N=>
 bd (Qv ((!I.2.2)=false) (QaO (⟨J,N⟩:QCj))) fun O=>
(if((!I.2.2)||(!O))=true then
 some ((⟨0,0⟩:QCj),false)
else
 some ((⟨J,N⟩:QCj),true))
theorem QcK {a0:Bt} {r:QCj×Bool} (h:Jf a0=some r):PureC prog 86 [.d (.str a0)] (.tup [.agg [dI r.1.Addr,dI r.1.Len],dB r.2]) []:=by
 refine pY tOk f86 rfl (bC h 0 (fun _=>QfG) fun x1 h=>bC h 0 (fun _=>Qaw) fun x2 h=>bC h 0 (fun _=>Qdv) fun x3 h=>Qb tOk (bG h (fun _=>Qgr) fun x4 h=>?_));apply Qr h<;>intro _ h
 ·cases h
  exact lfP []
 ·cases h
  exact lfP []
def QcL (a0:Bt):Option (Bool):=
 bd (Jf a0) fun I=>
 some I.2
theorem Qlv {a0:Bt} {r:Bool} (h:QcL a0=some r):PureC prog 282 [.d (.str a0)] (dB r) []:=by
 refine pY tOk f282 rfl (bC h 0 (fun _=>QcK) fun x1 h=>?_);cases h;exact lfP []
def Qca (a0:Bt):Option (Bool):=
 bd (ZJ a0) fun I=>
 some (decide (I>=0))
theorem QkA {a0:Bt} {r:Bool} (h:Qca a0=some r):PureC prog 284 [.d (.str a0)] (dB r) []:=by
 refine pY tOk f284 rfl (bC h 0 (fun _=>Qaw) fun x1 h=>?_);cases h;exact lfP []
def Z3 (a0:Bt):Option (Int):=
(if(decide (((a0.size:Nat):Int)>6))=true then
 some (-1)
else
 bd (JK a0) fun I=>
 some I)
theorem QaU {a0:Bt} {r:Int} (h:Z3 a0=some r):PureC prog 33 [.d (.str a0)] (dI r) []:=by
 refine pY tOk f33 rfl (Qb tOk ?_);apply Qr h<;>intro _ h
 ·cases h
  exact lfP []
 ·refine bC h 0 (fun _=>Qdv) fun x1 h=>?_;cases h;exact lfP []
def Qcb (a0:Bt) (J:Int) (O:Int):Option (Bool):=
 bd (Z3 a0) fun N=>
 bd (QV N J O) fun I=>
 some I
theorem QkB {a0:Bt} {N:Int} {O:Int} {r:Bool} (h:Qcb a0 N O=some r):PureC prog 300 [.d (.str a0),.rp [.int .i64 N],.rp [.int .i64 O]] (dB r) []:=by
 refine pY tOk f300 rfl ?_;obtain⟨U,J,h⟩:=Qc h;obtain⟨Y,I,h⟩:=Qc h;refine QQ tOk [.u 1 0 (dI U) [],.u 4 0 (dB Y) []] 6 [] [0,1,0,0,15,31] [] (aI (Qp (QaU J) (by kernel_rfl)) (aI (Qp (Zp I) (by kernel_rfl)) (aK ?_)));cases h;exact lfP []
def QcM (a0:Bt) (I:(List Bt)):Option (Bool):=
 bd (Q2 I a0) fun J=>
 some J
theorem Qlw {a0:Bt} {I:(List Bt)} {r:Bool} (h:QcM a0 I=some r):PureC prog 302 [.d (.str a0),.rp [slD Qi I]] (dB r) []:=by
 refine pY tOk f302 rfl (bC h 0 (fun _=>QaJ) fun x1 h=>?_);cases h;exact lfP []
def QhY (c:Fnv) (x:Bt):Option Bool:=match c with
 | .k f=>if f=280 then Qee x else if f=281 then QcJ x else if f=282 then QcL x else if f=284 then Qca x else none
 | .r f lo hi=>if f=300 then Qcb x lo hi else none
 | .w f ws=>if f=302 then QcM x ws else none
theorem QyV {c:Fnv} {x:Bt} {r:Bool} (h:QhY c x=some r):PureC prog c.f ([.d (.str x)]++c.caps.map .rp) (.d (.bool r)) []:=by
 cases c with
 |k f=>
  simp only[QhY] at h;split at h
  ·rename_i e;subst e;exact Qn3 h
  split at h
  ·rename_i e;subst e;exact Qlt h
  split at h
  ·rename_i e;subst e;exact Qlv h
  split at h
  ·rename_i e;subst e;exact QkA h
  cases h
 |r f lo hi=>
  simp only[QhY] at h;split at h
  ·rename_i e;subst e;exact QkB h
  cases h
 |w f ws=>
  simp only[QhY] at h;split at h
  ·rename_i e;subst e;exact Qlw h
  cases h
def Qcc (a0:form) (J:(List Bt)):Option (Bool):=
(if(((J.length:Nat):Int) !=(IntKind.i64.wrap (((a0.checks.length:Nat):Int)+1)))=true then
 some false
else
 bd (lp (σ:=Int) (β:=(Unit⊕Unit)) (fun I=>
(if(decide (I<((a0.checks.length:Nat):Int)))=true then
 gd ((0:Int)<=I∧I<((a0.checks.length:Nat):Int))<|
 gd ((0:Int)<=IntKind.i64.wrap (I+1)∧IntKind.i64.wrap (I+1)<((J.length:Nat):Int))<|
 bd (QhY (a0.checks.getD I.toNat default) (J.getD ((IntKind.i64.wrap (I+1)).toNat) default)) fun N=>
(if(!N)=true then
 some (.inr (.inl ()))
else
 some (.inl (IntKind.i64.wrap (I+1))))
else
 some (.inr (.inr ())))) 0) fun O=>
(match O with
| .inl d8=>
 some false
| .inr d9=>
 some true))
theorem QkC {a0:form} {O:(List Bt)} {r:Bool} (h:Qcc a0 O=some r):PureC prog 253 [.agg [.d (.str a0.word),dI a0.key,.d (slD Qby a0.checks)],.d (slD Qi O)] (dB r) []:=by
 refine pY tOk f253 rfl (Qb tOk ?_);apply Qr h<;>intro _ h
 ·cases h
  exact lfP []
 ·refine Qb tOk ?_;obtain⟨x4,J,h⟩:=Qc h;refine Qm tOk J (fun Y=>⟨0,31,[(1,.d (slD Qi O)),(15,.d (slD Qby a0.checks)),(16,dI ((a0.checks.length:Nat):Int)),(17,dI Y)],[],[],[]⟩) ?_ ?_
  ·exact leX []
  ·clear J;intro Y y2 I N;refine Qb tOk ?_;apply Qr I<;>intro _ I
   ·refine Qb tOk (gdI I fun I=>gdI I fun I=>?_);obtain⟨x7,U,I⟩:=Qc I;refine cDy (QyV U) ?_;apply Qr I<;>intro _ I
    ·cases I
     cases N _ rfl
     cases h
     exact lfP []
    ·exact eX I []
   ·cases I
    cases N _ rfl
    cases h
    exact lfP []
def QcN (a0:(List Bt)):Option (form×Bool):=
(if(((a0.length:Nat):Int)==0)=true then
 some ((⟨ByteArray.empty,0,[]⟩:form),false)
else
 gd ((0:Int)<=0∧0<((a0.length:Nat):Int))<|
 bd (Qdu (a0.getD 0 default)) fun J=>
 bd (lp (σ:=Int) (β:=((Bt×Int×(List Fnv))⊕Unit)) (fun I=>
(if(decide (I<((J.length:Nat):Int)))=true then
 gd ((0:Int)<=I∧I<((J.length:Nat):Int))<|
 bd (Qcc (J.getD I.toNat default) a0) fun U=>
(if U=true then
 some (.inr (.inl ((J.getD I.toNat default).word,(J.getD I.toNat default).key,(J.getD I.toNat default).checks)))
else
 some (.inl (IntKind.i64.wrap (I+1))))
else
 some (.inr (.inr ())))) 0) fun O=>
(match O with
| .inl N=>
 some ((⟨N.1,N.2.1,N.2.2⟩:form),true)
| .inr d10=>
 some ((⟨ByteArray.empty,0,[]⟩:form),false)))
theorem QiF {a0:(List Bt)} {r:form×Bool} (h:QcN a0=some r):EffC prog 214 [.d (slD Qi a0)] [] (.tup [.agg [.d (.str r.1.word),dI r.1.key,.d (slD Qby r.1.checks)],dB r.2]) []:=by
 refine eY tOk f214 rfl (Qb tOk ?_);apply Qr h<;>intro _ h
 ·cases h
  exact lfE []
 ·refine Qb tOk (gdI h fun h=>bE h [] 1000 (fun _=>QmV) fun O h=>?_);obtain⟨x6,N,h⟩:=Qc h;refine Qm tOk N (fun U=>⟨0,25,[(0,.d (slD Qi a0)),(2,.ref 2 0 0),(13,.osl 6001 0 O.length),(14,dI ((O.length:Nat):Int)),(15,dI U)],[],[(6001,.arr 225 3 O.length (rows form.enc O)),(2,.box 225 [.d (.str ByteArray.empty),dI 0,.d (.nil)])],[⟨[],[]⟩]⟩) ?_ ?_
  ·exact leX []
  ·clear N;intro U y4 I J;refine Qb tOk ?_;apply Qr I<;>intro _ I
   ·refine Qb tOk (gdI I fun I=>bC I 0 (fun _=>QkC) fun x8 I=>?_);apply Qr I<;>intro _ I
    ·cases I
     cases J _ rfl
     cases h
     exact lfE []
    ·exact eX I []
   ·cases I
    cases J _ rfl
    cases h
    exact lfE []
def Qbc (a0:(List Bt)) (I:Bt):Option (Bt):=
 gd (a0.length<=140737488355328∧(QkD a0 I).size<=140737488355328)<|
 some (QkD a0 I)
theorem QhA {a0:(List Bt)} {I:Bt} {r:Bt} (h:Qbc a0 I=some r):PureC prog 215 [.d (slD Qi a0),.d (.str I)] (.d (.str r)) []:=by
 unfold Qbc at h;obtain⟨⟨J,N⟩,h⟩:=Qe h;obtain rfl:=sj_ h;exact Qs3 ⟨f215,rfl,by kernel_rfl,by kernel_rfl⟩ (fun O o c xs sep w h1 h2 h3 h4 h5=>Any.strings_Join Lay.joi Lay.joiX O o c xs sep w h1 h2 h3 h4 h5) (fun a c sep w=>Any.strings_Join_none Lay.joi Lay.joiX a c sep w) J N
def QcO (a0:Bt):Option (Bt×Bool):=
 bd (Qb9 a0) fun I=>
(if(!I.2)=true then
 some ((⟨#[]⟩:Bt),false)
else
 bd (QcN I.1) fun J=>
(if(!J.2)=true then
 some ((⟨#[]⟩:Bt),false)
else
 bd (Qbc I.1 (⟨#[32]⟩:Bt)) fun N=>
 some (N,true)))
theorem Qlx {a0:Bt} {r:Bt×Bool} (h:QcO a0=some r):PureC prog 213 [.d (.str a0)] (.tup [.d (.str r.1),dB r.2]) []:=by
 refine pY tOk f213 rfl (bC h 1000 (fun _=>Qkz) fun x1 h=>Qb tOk ?_);apply Qr h<;>intro _ h
 ·cases h
  exact lfP []
 ·refine Qb tOk ?_;obtain⟨x2,I,h⟩:=Qc h;refine Zj [6001] (cE [] 0 (QiF I) ?_);apply Qr h<;>intro _ h
  ·cases h
   exact lfP []
  ·refine bC h 0 (fun _=>QhA) fun x3 h=>?_;cases h;exact lfP []
def QcP (a0:Bt):Option (Bool):=
 bd (QcO a0) fun I=>
 some (I.2&&(I.1==a0))
theorem QiG {a0:Bt} {r:Bool} (h:QcP a0=some r):PureC prog 165 [.d (.str a0)] (dB r) []:=by
 refine pY tOk f165 rfl (bC h 0 (fun _=>Qlx) fun x1 h=>?_);cases h;exact lfP []
def Ja (a0:Bt):Option (Bool):=
 bd (QcP a0) fun I=>
 some (!I)
theorem Qjx {a0:Bt} {r:Bool} (h:Ja a0=some r):PureC prog 164 [.d (.str a0)] (dB r) []:=by
 refine pY tOk f164 rfl (bC h 0 (fun _=>QiG) fun x1 h=>?_);cases h;exact lfP []
def ZG (a0:(List Bt)):Option (Int):=
 bd (lp (σ:=Int) (β:=(Int⊕Unit)) (fun I=>
(if(decide (I<((a0.length:Nat):Int)))=true then
 gd ((0:Int)<=I∧I<((a0.length:Nat):Int))<|
 bd (Ja (a0.getD I.toNat default)) fun N=>
(if N=true then
 some (.inr (.inl I))
else
 some (.inl (IntKind.i64.wrap (I+1))))
else
 some (.inr (.inr ())))) 0) fun O=>
(match O with
| .inl J=>
 some J
| .inr d8=>
 some (-1))
theorem Qak {a0:(List Bt)} {r:Int} (h:ZG a0=some r):PureC prog 212 [.d (slD Qi a0),.fn 164 []] (dI r) []:=by
 refine pY tOk f212 rfl (Qb tOk ?_);obtain⟨x4,J,h⟩:=Qc h;refine Qm tOk J (fun O=>⟨0,19,[(0,.d (slD Qi a0)),(1,.fn 164 []),(7,dI ((a0.length:Nat):Int)),(8,dI O)],[],[],[]⟩) ?_ ?_
 ·exact leX []
 ·clear J;intro O y2 I N;refine Qb tOk ?_;apply Qr I<;>intro _ I
  ·refine Qb tOk (gdI I fun I=>bC I 0 (fun _=>Qjx) fun x6 I=>?_);apply Qr I<;>intro _ I
   ·cases I
    cases N _ rfl
    cases h
    exact lfP []
   ·exact eX I []
  ·cases I
   cases N _ rfl
   cases h
   exact lfP []
def Qz (a0:(List Bt)):Option (Bool):=
 bd (ZG a0) fun I=>
 some (decide (I>=0))
theorem JP {a0:(List Bt)} {r:Bool} (h:Qz a0=some r):PureC prog 163 [.d (slD Qi a0),.fn 164 []] (dB r) []:=by
 refine pY tOk f163 rfl (bC h 0 (fun _=>Qak) fun x1 h=>?_);cases h;exact lfP []
def Qbd (a0:Bt):Option (Bt):=
 bd (QcP a0) fun O=>
(if(!O)=true then
 some (⟨#[]⟩:Bt)
else
 bd (ZI a0 (⟨#[32]⟩:Bt)) fun I=>
 bd (QcN I) fun J=>
 gd ((0:Int)<=(0:Int)∧(0:Int)<=J.1.key∧J.1.key<=((I.length:Nat):Int))<|
 bd (Qbc (I.take J.1.key.toNat) (⟨#[32]⟩:Bt)) fun N=>
 some N)
theorem QmW {a0:Bt} {r:Bt} (h:Qbd a0=some r):PureC prog 166 [.d (.str a0)] (.d (.str r)) []:=by
 refine pY tOk f166 rfl (Qb tOk (bC h 0 (fun _=>QiG) fun x1 h=>?_));apply Qr h<;>intro _ h
 ·cases h
  exact lfP []
 ·refine bC h 1000 (fun _=>QcH) fun x2 h=>?_;obtain⟨x3,I,h⟩:=Qc h;refine Zj [6001] (cE [] 0 (QiF I) ?_);obtain⟨N,h⟩:=Qe h;refine aI ⟨N,.inr rfl⟩ ?_;obtain⟨x5,J,h⟩:=Qc h;refine QAy 0 (QhA J) rfl Qya rfl ?_;cases h;exact lfP []
def Qpk:List Bt->Option (List Bt)
 |[]=>some []
 |x::r=>bd (Qbd x) fun k=>gd (k.size<=1000000)<|bd (Qpk r) fun ks=>some (k::ks)
def Qs4 (ks:List Bt):Nat:=(List.range ks.length).countP fun i=>!((ks.take i).any (· ==ks.getD i default))
def JQ (a0:(List Bt)):Option (Int):=
 if a0.length>16 then some 1 else
 bd (Qz a0) fun b=>
 if b=true then some 2 else
 if Qaz a0.length (fun i=>decide (i<1)||bsl (a0.getD (i-1) default) (a0.getD i default))=false then some 3 else
 bd (Qpk a0) fun ks=>if Qs4 ks<a0.length then some 4 else some 0
namespace Nc
open Go.RowKit Go.Maps
theorem QwA {ks:List Bt} {k:Nat} (h:k<ks.length):Qs4 (ks.take (k+1))=if(ks.take k).any (· ==ks.getD k default)=true then Qs4 (ks.take k) else Qs4 (ks.take k)+1:=by
 unfold Qs4
 rw[List.length_take,List.length_take,Nat.min_eq_left (by omega),Nat.min_eq_left (by omega),List.range_succ,List.countP_append]
 have e:∀i,i<k→(!((ks.take (k+1)).take i).any (· ==(ks.take (k+1)).getD i default))=!((ks.take k).take i).any (· ==(ks.take k).getD i default):=fun i hi=>by
  rw[List.take_take,List.take_take,Nat.min_eq_left (by omega),Nat.min_eq_left (by omega)]
  simp[List.getD_eq_getElem?_getD,List.getElem?_take,hi,show i<k+1 by omega]
 have e1:(List.range k).countP (fun i=>!((ks.take (k+1)).take i).any (· ==(ks.take (k+1)).getD i default))=(List.range k).countP fun i=>!((ks.take k).take i).any (· ==(ks.take k).getD i default):=by
  apply List.countP_congr
  intro i hi
  rw[e i (List.mem_range.1 hi)]
 rw[e1,List.countP_cons,List.countP_nil,List.take_take,Nat.min_eq_left (by omega)]
 have e2:(ks.take (k+1)).getD k default=ks.getD k default:=by simp[List.getD_eq_getElem?_getD,List.getElem?_take]
 rw[e2]
 cases (ks.take k).any (· ==ks.getD k default)<;>simp
theorem QwB {ks:List Bt} {k:Nat} (h:k<ks.length) (s:Bt):(ks.take (k+1)).any (· ==s)=((ks.take k).any (· ==s)||ks.getD k default==s):=by
 have e:ks[k]? =some (ks.getD k default):=by simp[List.getD_eq_getElem?_getD,h]
 rw[List.take_succ,e,List.any_append]
 simp
def kl (s:Bt):Lit:=.string s.data.toList
theorem QAz {s t:Bt} (h:kl s=kl t):s=t:=by
 unfold kl at h
 injection h with h
 cases s;cases t
 simp at h
 exact congrArg _ h
theorem bq {s t:Bt}:(s==t)=true↔s=t:=by
 constructor
 ·intro h
  have h1:(s.data==t.data)=true:=h
  have h2:s.data=t.data:=by simpa using h1
  cases s;cases t;simp_all
 ·intro h;subst h
  show(s.data==s.data)=true
  simp
theorem Qpl {w w':World} (h:Below w.heap.size w w'):w.grownBy w' none:=⟨h.os,h.tape,h.output,h.size,fun i hi _=>h.block i hi⟩
theorem QAA:Keyed prog 9:=string_keyed underlying9
theorem QyW {P:Program} {t:TypeId} {a b:Bt} {w:World}:(binOp .geq t (.string a) (.string b)).run P w=.ok (.bool (!(bsl a b))) w:=by
 simp[binOp,Op.stringOp,bsl,beq_toListBytes]
theorem QAB (w:World) (b:Nat) (o c n:Nat) (hn:0<n) (hn2:n≤16) (xs ks:List Bt) (hx:xs.length=n) (hks:ks.length=n) (hsz:∀k∈ks,k.size≤1000000) (hb:b<w.heap.size) (V:Int)
  (hc:∀i,i<n→w.cell? ⟨b,o+i,none⟩=some (.string (xs.getD i default)))
  (h3:Qaz n (fun i=>decide (i<1)||bsl (xs.getD (i-1) default) (xs.getD i default))=false→V=3)
  (h4:Qaz n (fun i=>decide (i<1)||bsl (xs.getD (i-1) default) (xs.getD i default))=true→V=if Qs4 ks<n then 4 else 0)
  (hkey:Qaz n (fun i=>decide (i<1)||bsl (xs.getD (i-1) default) (xs.getD i default))=true→∀w',Below w.heap.size w w'→∀i,i<n→Calls prog 166 #[.string (xs.getD i default)] w' fun e w''=>e=.returned (.string (ks.getD i default))∧Below w'.heap.size w' w'')
  (h119:Calls prog 163 #[.slice (some ⟨b,o,none⟩) n c,.func (.func 164) #[] #[]] w fun e w'=>e=.returned (.bool false)∧Below w.heap.size w w'):
  Calls prog 104 #[.slice (some ⟨b,o,none⟩) n c] w fun e w'=>e=.returned (.int .i64 V)∧Below w.heap.size w w':=by
 have hmm:=@run_makeMap prog
 go_enter func104,ntmps104
 go_wp2_with (go_at_call 163;refine h119.mono ?_;rintro e w1 ⟨rfl,hB1⟩)
 have hc1:∀i,i<n→w1.cell? ⟨b,o+i,none⟩=some (.string (xs.getD i default)):=fun i hi=>(World.cell?_of_block (hB1.block b hb)).trans (hc i hi)
 go_loopw [3] (fun i wr=>∃(k q:Nat),1≤k∧k≤n∧i=.int .i64 k∧wr=w1.drewN q∧∀j,j<k→(decide (j<1)||bsl (xs.getD (j-1) default) (xs.getD j default))=true)
  (fun i _=>n-(intOf i).toNat)
 case atStart=>
  exact⟨1,0,Nat.le_refl _,hn,rfl,rfl,fun j hj=>by simp[hj]⟩
 case round=>
  obtain⟨k,q,hk1,hkn,rfl,rfl,hs⟩:=hrel
  have g1:k<n→(w1.drewN q).cell? ⟨b,o+(k-1),none⟩=some (.string (xs.getD (k-1) default)):=fun h=>hc1 _ (by omega)
  have g2:k<n→(w1.drewN q).cell? ⟨b,o+k,none⟩=some (.string (xs.getD k default)):=fun h=>hc1 _ h
  go_wp2
  ·have hlt:k<n:=by assumption
   have e1:IntKind.i64.wrap ((k:Int) -1)=((k-1:Nat):Int):=Qa0 hlt (by omega) (by omega)
   have e2:((k-1:Nat):Int).toNat=k-1:=Int.toNat_natCast _
   have e3:((k:Nat):Int).toNat=k:=Int.toNat_natCast _
   have hk1':k-1<n:=by omega
   have g1:=g1 hlt
   have g2:=g2 hlt
   refine wp_region_quiet_lit (by kernel_rfl) (by kernel_rfl) ?_
   repeat (any_goals (first|go_big_quiet_step (fail)|quiet_step (fail)))
   refine wpQuiet_step (fun K hK=>?_)
   go_simp
   refine⟨.bool (!(bsl xs[k-1] xs[k])),fun a=>?_,hK _ ?_⟩
   ·rw[QyW]
    exact⟨rfl,rfl⟩
   refine wpQuiet_nil ?_
   intro _ hw'
   obtain⟨nq,hw''⟩:=hw'
   subst hw''
   have hb1:xs[k-1]=xs.getD (k-1) default:=by rw[List.getD_eq_getElem?_getD,List.getElem?_eq_getElem (by omega)];rfl
   have hb2:xs[k]=xs.getD k default:=by rw[List.getD_eq_getElem?_getD,List.getElem?_eq_getElem (by omega)];rfl
   rw[hb1,hb2]
   clear hb1 hb2 e1 e2 e3 hK K
   have hBd:Below w.heap.size w ((w1.drewN q).drewN nq):=⟨hB1.os,hB1.tape,hB1.output,hB1.size,hB1.block⟩
   by_cases hl:bsl (xs.getD (k-1) default) (xs.getD k default)=true
   ·rw[hl]
    go_wp2
    go_roundw
    case rel=>
     refine⟨k+1,q+nq,by omega,by omega,by go_num,by simp[World.drewN,Nat.add_assoc],fun j hj=>?_⟩
     rcases Nat.lt_or_ge j k with h|h
     ·exact hs j h
     ·have:j=k:=by omega
      subst this
      rw[hl,Bool.or_true]
    case measure=>simp[intOf];omega
   ·rw[Bool.eq_false_iff.2 hl]
    go_wp2
    go_ret
    refine⟨?_,hBd⟩
    rw[h3 (Qjy (i:=k) hlt (by rw[Bool.eq_false_iff.2 hl];simp;omega))]
    rfl
  ·have hkn':k=n:=by omega
   subst hkn'
   have hkk:decide (k<k)=false:=by simp
   rw[hkk]
   have hall:Qaz k (fun i=>decide (i<1)||bsl (xs.getD (i-1) default) (xs.getD i default))=true:=Qck hs
   have hkey:=hkey hall
   clear h3 hs g1 g2 hc1
   have hown:=World.ownsMap_made (H:=Unit) (w1.drewN q) prog 9 (plainElem prog 4)
   have hB2:Below w.heap.size w ((w1.drewN q).alloc (Obj.map #[] 0)):=Below.alloc (w:=w1.drewN q) ⟨hB1.os,hB1.tape,hB1.output,hB1.size,hB1.block⟩ hB1.size _
   have hsz1:(w1.drewN q).heap.size=w1.heap.size:=rfl
   rw[hsz1] at hown
   have hbs:w.heap.size≤w1.heap.size:=hB1.size
   generalize (w1.drewN q).alloc (Obj.map #[] 0)=w2 at hown hB2⊢
   generalize w1.heap.size=mb at hown hbs⊢
   go_loopw [31] (fun i wr=>∃(j:Nat) (D:DataW Unit),j≤k∧i=.int .i64 j∧wr.ownsMap prog 9 (plainElem prog 4) mb j D∧Maps.size D=Qs4 (ks.take j)∧(∀s,Maps.has D (kl s)=(ks.take j).any (· ==s))∧Below w.heap.size w wr)
    (fun i _=>k-(intOf i).toNat)
   case atStart=>
    exact⟨0,.map [],Nat.zero_le _,rfl,hown,rfl,fun s=>rfl,hB2⟩
   case round=>
    obtain⟨j,D,hjk,rfl,hown,hsize,hhas,hB⟩:=hrel
    have g1:j<k→wr.cell? ⟨b,o+j,none⟩=some (.string (xs.getD j default)):=fun h=>(World.cell?_of_block (hB.block b hb)).trans (hc j h)
    have hlen:(Builtin.len_ #[191] 3 #[.map (some mb)]).run prog wr=.ok (.int .i64 (Maps.size D)) wr:=hown.len underlying191 3
    have hkj:=fun h=>hkey wr hB j h
    have hsj:j<k→(ks.getD j default).size≤1000000:=fun h=>hsz _ (by rw[List.getD_eq_getElem?_getD,List.getElem?_eq_getElem (by omega)];exact List.getElem_mem (by omega))
    have hcs:j<k→Qs4 (ks.take (j+1))=if(ks.take j).any (· ==ks.getD j default)=true then Qs4 (ks.take j) else Qs4 (ks.take j)+1:=fun h=>QwA (by omega)
    have hsn:j<k→∀s,(ks.take (j+1)).any (· ==s)=((ks.take j).any (· ==s)||ks.getD j default==s):=fun h s=>QwB (by omega) s
    clear hkey
    generalize xs.getD j default=x at g1 hkj
    generalize ks.getD j default=y at hkj hsj hcs hsn
    go_wp2_with (first
     |(go_at_call 166;have hlt:j<k:=by assumption
       refine(hkj hlt).mono ?_;rintro e w3 ⟨rfl,hB3⟩)
     |(at_mapUpdate;have hlt:j<k:=by assumption
       have hys:=hsj hlt
       have hk1:=hown.kept (Qpl hB3) (by simp)
       have hk2:keyOf prog 9 (.string y)=some (kl y):=Go.WideMaps.keyOf_string_mk underlying9 (by unfold maxLen;omega)
       have hk3:j<maxLen:=by unfold maxLen;omega
       refine wpList_mapUpdate_own _ rfl _ _ _ 191 rfl 9 4 QAA underlying191 (plainElem prog 4) mb j D rfl hk1 hk3 _ _ (kl y) rfl rfl hk2 _ [] (plainElem_bool underlying4 true) ?_
       intro w4 hown4 hgrow4)
     |(at_len;refine wpList_len_own _ rfl _ 191 rfl 9 4 underlying191 (plainElem (H:=Unit) prog 4) mb j D rfl hown ?_)
     |go_in)
    ·have hlt:j<k:=by assumption
     go_roundw
     case rel=>
      refine⟨j+1,D.put (kl y) (.lit (.bool true)),by omega,by go_num,hown4,?_,fun s=>?_,?_⟩
      ·rw[Maps.size_put (hown.tidy QAA),hhas,hcs hlt,hsize]
      ·rw[hsn hlt]
       by_cases hy:y=s
       ·subst hy
        rw[Maps.has_put_same hown.isMap (show WideAt.IsKeyLit (kl y) from trivial)]
        rw[bq.2 rfl,Bool.or_true]
       ·rw[Maps.has_put_other (fun h=>hy (QAz h).symm),hhas]
        have:(y==s)=false:=Bool.eq_false_iff.2 fun h=>hy (bq.1 h)
        rw[this,Bool.or_false]
      ·exact(hB.trans (hB3.mono hB.size)).grown hgrow4 (Nat.le_trans hB.size hB3.size) (fun j hj=>by cases hj;exact hbs)
     case measure=>simp[intOf];omega
    all_goals go_ret
    all_goals refine⟨?_,hB⟩
    all_goals rw[h4 hall]
    all_goals have e:ks.take j=ks:=List.take_of_length_le (by omega)
    all_goals rw[e] at hsize
    all_goals rename_i hcnt
    all_goals rw[e] at hcnt
    ·rw[if_pos hcnt];rfl
    ·rw[if_neg hcnt];rfl
theorem QBr (w:World) (ad:Option Addr) (c n:Nat) (hn:16<n):
  Calls prog 104 #[.slice ad n c] w fun e w'=>e=.returned (.int .i64 1)∧Below w.heap.size w w':=by
 go_enter func104,ntmps104
 go_wp2
 go_ret
 exact⟨rfl,Below.refl _ _⟩
theorem QAC (w:World) (ad:Option Addr) (c n:Nat) (hn:n≤16)
  (h119:Calls prog 163 #[.slice ad n c,.func (.func 164) #[] #[]] w fun e w'=>e=.returned (.bool true)∧Below w.heap.size w w'):
  Calls prog 104 #[.slice ad n c] w fun e w'=>e=.returned (.int .i64 2)∧Below w.heap.size w w':=by
 go_enter func104,ntmps104
 go_wp2_with (go_at_call 163;refine h119.mono ?_;rintro e w1 ⟨rfl,hB1⟩)
 go_ret
 exact⟨rfl,hB1⟩
theorem QAD (w:World) (ad:Option Addr) (c:Nat)
  (h119:Calls prog 163 #[.slice ad 0 c,.func (.func 164) #[] #[]] w fun e w'=>e=.returned (.bool false)∧Below w.heap.size w w'):
  Calls prog 104 #[.slice ad 0 c] w fun e w'=>e=.returned (.int .i64 0)∧Below w.heap.size w w':=by
 have hmm:=@run_makeMap prog
 go_enter func104,ntmps104
 go_wp2_with (go_at_call 163;refine h119.mono ?_;rintro e w1 ⟨rfl,hB1⟩)
 refine wp_loop_rounds 1 ?_
 rw[rounds_succ]
 go_wp2
 refine wp_loop_rounds 1 ?_
 rw[rounds_succ]
 have hown:=World.ownsMap_made (H:=Unit) w1 prog 9 (plainElem prog 4)
 have hB2:Below w.heap.size w (w1.alloc (Obj.map #[] 0)):=hB1.alloc hB1.size _
 have hlen:(Builtin.len_ #[191] 3 #[.map (some w1.heap.size)]).run prog (w1.alloc (Obj.map #[] 0))=.ok (.int .i64 (Maps.size (.map []:DataW Unit))) (w1.alloc (Obj.map #[] 0)):=hown.len underlying191 3
 generalize w1.alloc (Obj.map #[] 0)=w2 at hown hB2 hlen⊢
 generalize w1.heap.size=mb at hown hlen⊢
 go_wp2_with (at_len;refine wpList_len_own _ rfl _ 191 rfl 9 4 underlying191 (plainElem (H:=Unit) prog 4) mb 0 (.map []) rfl hown ?_)
 all_goals go_ret
 all_goals first|exact⟨rfl,hB2⟩|skip
theorem Qnb:∀ {xs ks:List Bt},Qpk xs=some ks→ks.length=xs.length∧(∀k∈ks,k.size≤1000000)∧∀i,i<xs.length→Qbd (xs.getD i default)=some (ks.getD i default)
 |[],ks,h=>by
  simp only[Qpk,Option.some.injEq] at h
  subst h
  exact⟨rfl,by simp,by simp⟩
 |x::r,ks,h=>by
  unfold Qpk at h
  obtain⟨k,hk,h⟩:=Qc h
  obtain⟨g,h⟩:=Qe h
  obtain⟨ks',hks,h⟩:=Qc h
  simp only[Option.some.injEq] at h
  subst h
  obtain⟨h1,h2,h3⟩:=Qnb hks
  refine⟨by simp[h1],fun y hy=>?_,fun i hi=>?_⟩
  ·rcases List.mem_cons.1 hy with rfl|hy
   ·exact g
   ·exact h2 y hy
  ·cases i with
   |zero=>simpa using hk
   |succ i=>simpa using h3 i (by simpa using hi)
theorem QAE {w w':World} (ht:TabB prog (fun b=>b<w.heap.size) w) (hB:Below w.heap.size w w'):TabB prog (fun b=>b<w'.heap.size) w':=
 ht.keep (B':=fun b=>b<w'.heap.size) ⟨hB.os,hB.tape,hB.output,hB.size,hB.block⟩ (fun b h=>Nat.lt_of_lt_of_le h hB.size)
theorem QwC {x k:Bt} (h:Qbd x=some k) (ρ0:Env) {w:World} (ht:TabB prog (fun b=>b<w.heap.size) w):Calls prog 166 #[.string x] w fun e w'=>e=.returned (.string k)∧Below w.heap.size w w':=by
 refine((QmW h).out w #[.string x] ρ0 ⟨rfl,fun j v hj=>?_⟩ ht).mono ?_
 ·cases j with
  |zero=>simp only[List.getElem?_cons_zero,Option.some.injEq] at hj;subst hj;exact .d .str
  |succ j=>simp at hj
 ·rintro e w' ⟨v,ρ,rfl,hp,hv,_⟩
  cases hv with
  |d hd=>cases hd with
   |str=>exact⟨rfl,hp.below⟩
theorem QwD {xs:List Bt} {r:Bool} (h:Qz xs=some r) {w:World} {v:Value} {ρ0:Env} (hv:VR w (fun _=>False) ρ0 (.d (slD Qi xs)) v) (ht:TabB prog (fun b=>b<w.heap.size) w):Calls prog 163 #[v,.func (.func 164) #[] #[]] w fun e w'=>e=.returned (.bool r)∧Below w.heap.size w w':=by
 refine((JP h).out w #[v,.func (.func 164) #[] #[]] ρ0 ⟨rfl,fun j u hj=>?_⟩ ht).mono ?_
 ·rcases j with _|_|j
  ·simp only[List.getElem?_cons_zero,Option.some.injEq] at hj;subst hj;exact hv
  ·simp only[List.getElem?_cons_succ,List.getElem?_cons_zero,Option.some.injEq] at hj;subst hj
   exact .fn rfl fun j u hj=>by simp at hj
  ·simp at hj
 ·rintro e w' ⟨v,ρ,rfl,hp,hv,_⟩
  cases hv with
  |d hd=>cases hd with
   |bool=>exact⟨rfl,hp.below⟩
theorem walk {xs:List Bt} {r:Int} (h:JQ xs=some r) {w:World} {v:Value} {ρ0:Env} (hv:VR w (fun _=>False) ρ0 (.d (slD Qi xs)) v) (ht:TabB prog (fun b=>b<w.heap.size) w):
  Calls prog 104 #[v] w fun e w'=>e=.returned (.int .i64 r)∧Below w.heap.size w w':=by
 have hform:(∃ad c,v=.slice ad 0 c∧xs.length=0)∨ ∃b o c,v=.slice (some ⟨b,o,none⟩) xs.length c∧b<w.heap.size∧∀i,i<xs.length→w.cell? ⟨b,o+i,none⟩=some (.string (xs.getD i default)):=by
  cases hv with
  |d hd=>
   cases hd with
   |sl0 hn=>exact .inl ⟨_,_,rfl,hn⟩
   |sl vals ho hb hl hcell hval hcap=>
    refine .inr ⟨_,_,_,rfl,hb,fun i hi=>?_⟩
    have er:rows Qi xs i=[.str (xs.getD i default)]:=rfl
    have h1:=hl i hi
    rw[er] at h1
    have h2:=hcell i 0 (.str (xs.getD i default)) hi (by rw[er];rfl)
    have h3:=hval i 0 (.str (xs.getD i default)) hi (by rw[er];rfl)
    rw[←h1] at h2
    generalize vals i 0=u at h2 h3
    cases h3
    simpa using h2
 unfold JQ at h
 by_cases h16:xs.length>16
 ·rw[if_pos h16] at h
  simp only[Option.some.injEq] at h
  subst h
  rcases hform with ⟨ad,c,rfl,h0⟩|⟨b,o,c,rfl,_,_⟩
  ·omega
  ·exact QBr w _ c _ h16
 rw[if_neg h16] at h
 obtain⟨bl,hbl,h⟩:=Qc h
 have hcall:=QwD hbl hv ht
 cases bl with
 |true=>
  rw[if_pos rfl] at h
  simp only[Option.some.injEq] at h
  subst h
  rcases hform with ⟨ad,c,rfl,h0⟩|⟨b,o,c,rfl,_,_⟩
  ·exact QAC w _ c _ (by omega) hcall
  ·exact QAC w _ c _ (by omega) hcall
 |false=>
  rw[if_neg (by decide)] at h
  rcases hform with ⟨ad,c,rfl,h0⟩|⟨b,o,c,rfl,hb,hc⟩
  ·have hx:xs=[]:=List.eq_nil_of_length_eq_zero h0
   subst hx
   have:r=0:=by
    have e:some (0:Int)=some r:=h
    simpa using e.symm
   subst this
   exact QAD w _ c hcall
  ·by_cases hn:xs.length=0
   ·have hx:xs=[]:=List.eq_nil_of_length_eq_zero hn
    subst hx
    have:r=0:=by
     have e:some (0:Int)=some r:=h
     simpa using e.symm
    subst this
    exact QAD w _ c hcall
   ·cases ha:Qaz xs.length fun i=>decide (i<1)||bsl (xs.getD (i-1) default) (xs.getD i default)
    ·rw[ha,if_pos rfl] at h
     simp only[Option.some.injEq] at h
     refine QAB w b o c xs.length (by omega) (by omega) xs (xs.map fun _=>default) rfl (by simp) (fun k hk=>?_) hb r hc (fun _=>h.symm) (fun h=>by rw[ha] at h;cases h) (fun h=>by rw[ha] at h;cases h) hcall
     obtain⟨_,_,rfl⟩:=List.mem_map.1 hk
     decide
    ·rw[ha,if_neg (by decide)] at h
     obtain⟨ks,hks,h⟩:=Qc h
     obtain⟨k1,k2,k3⟩:=Qnb hks
     refine QAB w b o c xs.length (by omega) (by omega) xs ks rfl k1 k2 hb r hc (fun h=>by rw[ha] at h;cases h) (fun _=>?_) (fun _ w' hB i hi=>QwC (k3 i hi) ρ0 (QAE ht hB)) hcall
     split at h<;>rename_i hc<;>simp only[Option.some.injEq] at h
     ·rw[if_pos hc];exact h.symm
     ·rw[if_neg hc];exact h.symm
end Nc
theorem Qly {a0:(List Bt)} {r:Int} (h:JQ a0=some r):PureC prog 104 [.d (slD Qi a0)] (dI r) []:=by
 unfold JQ at h
 exact QhX (v:=.int .i64 r) ⟨f104,rfl,by kernel_rfl,by kernel_rfl⟩ rfl (fun _=>rfl) (fun _ _ _=>.d .int) fun w vals ρ0 hv N=>by
  obtain⟨U,O⟩:=hv
  have e:vals=#[vals.getD 0 undef]:=by
   apply Y1d
   ·simpa using U
   ·intro i hi I
    have J:i=0:=by simp at I;exact I
    subst J
    simp[hi]
  have hv:=O 0 _ rfl
  rw[e]
  exact(Nc.walk h hv N).mono fun e w' ⟨Y,hb⟩=>⟨Y,Below.pure hb⟩
def QI (a0:(List Bt)) (N:Bt):Option ((List (List Bt))):=
 bd (lp (σ:=List (List Bt)×Int) (β:=(Nat×(List (List Bt)))) (fun I=>
(if(decide (I.2<((a0.length:Nat):Int)))=true then
 gd ((0:Int)<=I.2∧I.2<((a0.length:Nat):Int))<|
 bd (ZI (a0.getD I.2.toNat default) (⟨#[32]⟩:Bt)) fun J=>
 gd ((0:Int)<=0∧0<((J.length:Nat):Int))<|
(if((J.getD 0 default)==N)=true then
 gd (((I.1.length)+(([J]:List (List Bt)).length))*(24+1)<=70368744177664)<|
 some (.inl ((I.1++([J]:List (List Bt))),IntKind.i64.wrap (I.2+1)))
else
 some (.inl (I.1,IntKind.i64.wrap (I.2+1))))
else
 some (.inr (I.1.length,I.1)))) (([]:List (List Bt)),0)) fun O=>
 some O.2
theorem Z0 {a0:(List Bt)} {O:Bt} {r:(List (List Bt))} (h:QI a0 O=some r):EffC prog 85 [.d (slD Qi a0),.d (.str O)] [] (.osl 5001 0 r.length) [(5001,.arr 23 1 r.length (rows (Qew Qi) r))]:=by
 refine eY tOk f85 rfl (Qb tOk ?_);obtain⟨x4,N,h⟩:=Qc h;refine Qm tOk N (fun J=>⟨0,29,[(1,.d (.str O)),(5,.osl 7001 0 J.1.length),(10,.d (slD Qi a0)),(11,dI ((a0.length:Nat):Int)),(12,dI J.2)],[],[(7001,.arr 23 1 J.1.length (rows (Qew Qi) J.1))],[⟨[],[]⟩]⟩) ?_ ?_
 ·exact leX [.p 7001 23 1 (rows (Qew Qi) ([]:List (List Bt)))]
 ·clear N;intro J y2 I U;refine Qb tOk ?_;apply Qr I<;>intro _ I
  ·refine Qb tOk (gdI I fun I=>bC I 1000 (fun _=>QcH) fun Y I=>gdI I fun I=>?_);apply Qr I<;>intro _ I
   ·refine Z6 (enc:=(Qew Qi)) ([Y]:List (List Bt)) (gdI I fun I=>QdW (enc:=(Qew Qi)) (xs:=J.1) (ys:=([Y]:List (List Bt))) ?_);exact eX I []
   ·exact eX I []
  ·cases I
   cases U _ rfl
   cases h
   exact lfE [.s [(5001,7001),(7001,5001)]]
def Qa1 (a0:(List Bt)):Option (Bool):=
 gd ((0:Int)<=2∧2<((a0.length:Nat):Int))<|
 some ((a0.getD 2 default)==(⟨#[97,108,108]⟩:Bt))
theorem QkE {a0:(List Bt)} {r:Bool} (h:Qa1 a0=some r):PureC prog 168 [.d (slD Qi a0)] (dB r) []:=by
 refine pY tOk f168 rfl (gdI h fun h=>?_);cases h;exact lfP []
def ZK (a0:(List (List Bt))):Option (Int):=
 bd (lp (σ:=Int) (β:=(Int⊕Unit)) (fun I=>
(if(decide (I<((a0.length:Nat):Int)))=true then
 gd ((0:Int)<=I∧I<((a0.length:Nat):Int))<|
 bd (Qa1 (a0.getD I.toNat default)) fun N=>
(if N=true then
 some (.inr (.inl I))
else
 some (.inl (IntKind.i64.wrap (I+1))))
else
 some (.inr (.inr ())))) 0) fun O=>
(match O with
| .inl J=>
 some J
| .inr d8=>
 some (-1))
theorem Qax {a0:(List (List Bt))} {r:Int} (h:ZK a0=some r):PureC prog 216 [.d (slD (Qew Qi) a0),.fn 168 []] (dI r) []:=by
 refine pY tOk f216 rfl (Qb tOk ?_);obtain⟨x4,J,h⟩:=Qc h;refine Qm tOk J (fun O=>⟨0,19,[(0,.d (slD (Qew Qi) a0)),(1,.fn 168 []),(7,dI ((a0.length:Nat):Int)),(8,dI O)],[],[],[]⟩) ?_ ?_
 ·exact leX []
 ·clear J;intro O y2 I N;refine Qb tOk ?_;apply Qr I<;>intro _ I
  ·refine Qb tOk (gdI I fun I=>bC I 0 (fun _=>QkE) fun x6 I=>?_);apply Qr I<;>intro _ I
   ·cases I
    cases N _ rfl
    cases h
    exact lfP []
   ·exact eX I []
  ·cases I
   cases N _ rfl
   cases h
   exact lfP []
def Q5 (a0:(List (List Bt))):Option (Bool):=
 bd (ZK a0) fun I=>
 some (decide (I>=0))
theorem J1 {a0:(List (List Bt))} {r:Bool} (h:Q5 a0=some r):PureC prog 167 [.d (slD (Qew Qi) a0),.fn 168 []] (dB r) []:=by
 refine pY tOk f167 rfl (bC h 0 (fun _=>Qax) fun x1 h=>?_);cases h;exact lfP []
def Qdw (a0:(List Bt)):Option (Bool):=
 bd (QI a0 (⟨#[117,115,101,114]⟩:Bt)) fun J=>
 bd (Q5 J) fun I=>
 some (!I)
theorem QmX {a0:(List Bt)} {r:Bool} (h:Qdw a0=some r):PureC prog 105 [.d (slD Qi a0)] (dB r) []:=by
 refine pY tOk f105 rfl (bE h [] 1000 (fun _=>Z0) fun x1 h=>bC h 0 (fun _=>J1) fun x2 h=>?_);cases h;exact lfP []
def QbW (a0:(List Bt)) (O:Bt):Option (Int):=
 bd (QI a0 (⟨#[114,117,108,101]⟩:Bt)) fun J=>
 bd (lp (σ:=Int×Int) (β:=(Int)) (fun I=>
(if(decide (I.1<((J.length:Nat):Int)))=true then
 gd ((0:Int)<=I.1∧I.1<((J.length:Nat):Int))<|
 gd ((0:Int)<=1∧1<(((J.getD I.1.toNat default).length:Nat):Int))<|
(if(((J.getD I.1.toNat default).getD 1 default)==O)=true then
 some (.inl (IntKind.i64.wrap (I.1+1),IntKind.i64.wrap (I.2+1)))
else
 some (.inl (IntKind.i64.wrap (I.1+1),I.2)))
else
 some (.inr I.2))) (0,0)) fun N=>
 some N
theorem QhB {a0:(List Bt)} {O:Bt} {r:Int} (h:QbW a0 O=some r):PureC prog 169 [.d (slD Qi a0),.d (.str O)] (dI r) []:=by
 refine pY tOk f169 rfl (Qb tOk (bE h [] 1000 (fun _=>Z0) fun N h=>?_));obtain⟨x5,J,h⟩:=Qc h;refine Qm tOk J (fun U=>⟨0,24,[(1,.d (.str O)),(5,dI U.2),(9,.osl 6001 0 N.length),(10,dI ((N.length:Nat):Int)),(11,dI U.1)],[],[(6001,.arr 23 1 N.length (rows (Qew Qi) N))],[]⟩) ?_ ?_
 ·exact leX []
 ·clear J;intro U y3 I Y;refine Qb tOk ?_;apply Qr I<;>intro _ I
  ·refine Qb tOk (gdI I fun I=>gdI I fun I=>?_);apply Qr I<;>intro _ I
   ·exact eX I []
   ·exact eX I []
  ·cases I
   cases Y _ rfl
   cases h
   exact lfP []
def Zh (a0:(List Bt)) (I:(List Bt)):Option (Bool):=
 gd ((0:Int)<=1∧1<((a0.length:Nat):Int))<|
 bd (QbW I (a0.getD 1 default)) fun J=>
 some (decide (J>12))
theorem QhZ {a0:(List Bt)} {J:(List Bt)} {r:Bool} (h:Zh a0 J=some r):PureC prog 170 [.d (slD Qi a0),.rp [slD Qi J]] (dB r) []:=by
 refine pY tOk f170 rfl ?_;obtain⟨O,h⟩:=Qe h;obtain⟨N,I,h⟩:=Qc h;refine QQ tOk [.u 4 0 (dI N) []] 7 [] [0,0,2,6,15,31,63] [] (aI O (aI (Qp (QhB I) (by kernel_rfl)) (aK ?_)));cases h;exact lfP []
def Zx (a0:(List (List Bt))) (J:(List Bt)):Option (Int):=
 bd (lp (σ:=Int) (β:=(Int⊕Unit)) (fun I=>
(if(decide (I<((a0.length:Nat):Int)))=true then
 gd ((0:Int)<=I∧I<((a0.length:Nat):Int))<|
 bd (Zh (a0.getD I.toNat default) J) fun O=>
(if O=true then
 some (.inr (.inl I))
else
 some (.inl (IntKind.i64.wrap (I+1))))
else
 some (.inr (.inr ())))) 0) fun U=>
(match U with
| .inl N=>
 some N
| .inr d8=>
 some (-1))
theorem J2 {a0:(List (List Bt))} {J:(List Bt)} {r:Int} (h:Zx a0 J=some r):PureC prog 216 [.d (slD (Qew Qi) a0),.fn 170 [.rp [slD Qi J]]] (dI r) []:=by
 refine pY tOk f216 rfl (Qb tOk ?_);obtain⟨x4,N,h⟩:=Qc h;refine Qm tOk N (fun U=>⟨0,19,[(0,.d (slD (Qew Qi) a0)),(1,.fn 170 [.rp [slD Qi J]]),(7,dI ((a0.length:Nat):Int)),(8,dI U)],[],[],[]⟩) ?_ ?_
 ·exact leX []
 ·clear N;intro U y2 I O;refine Qb tOk ?_;apply Qr I<;>intro _ I
  ·refine Qb tOk (gdI I fun I=>bC I 0 (fun _=>QhZ) fun x6 I=>?_);apply Qr I<;>intro _ I
   ·cases I
    cases O _ rfl
    cases h
    exact lfP []
   ·exact eX I []
  ·cases I
   cases O _ rfl
   cases h
   exact lfP []
def QL (a0:(List (List Bt))) (I:(List Bt)):Option (Bool):=
 bd (Zx a0 I) fun J=>
 some (decide (J>=0))
theorem JE {a0:(List (List Bt))} {I:(List Bt)} {r:Bool} (h:QL a0 I=some r):PureC prog 167 [.d (slD (Qew Qi) a0),.fn 170 [.rp [slD Qi I]]] (dB r) []:=by
 refine pY tOk f167 rfl (bC h 0 (fun _=>J2) fun x1 h=>?_);cases h;exact lfP []
def QbA (a0:(List Bt)):Option (Bool):=
 bd (QI a0 (⟨#[112,111,114,116]⟩:Bt)) fun J=>
 bd (lp (σ:=Int) (β:=(Unit⊕Unit)) (fun I=>
(if(decide (I<((J.length:Nat):Int)))=true then
 gd ((0:Int)<=I∧I<((J.length:Nat):Int))<|
 gd ((decide ((((J.getD I.toNat default).length:Nat):Int)>4))=true->((0:Int)<=4∧4<(((J.getD I.toNat default).length:Nat):Int)))<|
 bd (Qv ((decide ((((J.getD I.toNat default).length:Nat):Int)>4))=true) (QbW a0 ((J.getD I.toNat default).getD 4 default))) fun Y=>
(if((decide ((((J.getD I.toNat default).length:Nat):Int)>4))&&(Y==0))=true then
 some (.inr (.inl ()))
else
 some (.inl (IntKind.i64.wrap (I+1))))
else
 some (.inr (.inr ())))) 0) fun U=>
(match U with
| .inl d9=>
 some true
| .inr d10=>
 bd (QI a0 (⟨#[114,117,108,101]⟩:Bt)) fun O=>
 bd (QL O a0) fun N=>
 some N)
theorem Qjz {a0:(List Bt)} {r:Bool} (h:QbA a0=some r):PureC prog 106 [.d (slD Qi a0)] (dB r) []:=by
 refine pY tOk f106 rfl (Qb tOk (bE h [] 1000 (fun _=>Z0) fun O h=>?_));obtain⟨x5,N,h⟩:=Qc h;refine Qm tOk N (fun Y=>⟨0,28,[(1,.ref 1 0 0),(6,.osl 6001 0 O.length),(7,dI ((O.length:Nat):Int)),(8,dI Y)],[],[(6001,.arr 23 1 O.length (rows (Qew Qi) O)),(1,.box 23 [.d (slD Qi a0)])],[]⟩) ?_ ?_
 ·exact leX []
 ·clear N;intro Y y3 I J;refine Qb tOk ?_;apply Qr I<;>intro _ I
  ·refine Qb tOk (gdI I fun I=>?_);obtain⟨g7,I⟩:=Qe I;obtain⟨x8,U,I⟩:=Qc I;refine QQ tOk [.u 8 0 (dI x8) []] 11 [] [0,1,3,7,15,15,47,111,255,511,1023] [] (aI g7 (aI (QJ rfl rfl rfl rfl (by intro c0;exact QhB (Qt U c0))) (aK ?_)));apply Qr I<;>intro _ I
   ·cases I
    cases J _ rfl
    cases h
    exact lfP []
   ·exact eX I []
  ·cases I
   cases J _ rfl
   refine bE h [] 2000 (fun _=>Z0) fun x11 h=>bC h 0 (fun _=>JE) fun x12 h=>?_;cases h;exact lfP []
def JR (a0:(List Bt)):Option ((List QCj)):=
 bd (QI a0 (⟨#[112,111,114,116]⟩:Bt)) fun J=>
 bd (lp (σ:=List QCj×Int) (β:=(Nat×(List QCj))) (fun I=>
(if(decide (I.2<((J.length:Nat):Int)))=true then
 gd ((0:Int)<=I.2∧I.2<((J.length:Nat):Int))<|
 gd ((0:Int)<=2∧2<(((J.getD I.2.toNat default).length:Nat):Int))<|
 bd (Jf ((J.getD I.2.toNat default).getD 2 default)) fun N=>
 gd (((I.1.length)+(([N.1]:List QCj).length))*(16+1)<=70368744177664)<|
 some (.inl ((I.1++([N.1]:List QCj)),IntKind.i64.wrap (I.2+1)))
else
 some (.inr (I.1.length,I.1)))) (([]:List QCj),0)) fun O=>
 some O.2
theorem Qex {a0:(List Bt)} {r:(List QCj)} (h:JR a0=some r):PureC prog 171 [.d (slD Qi a0)] (.osl 5001 0 r.length) [⟨5001,69,2,r.length,rows QCj.enc r⟩]:=by
 refine pY tOk f171 rfl (Qb tOk (bE h [] 1000 (fun _=>Z0) fun O h=>?_));obtain⟨x5,N,h⟩:=Qc h;refine Qm tOk N (fun J=>⟨0,29,[(3,.osl 7001 0 J.1.length),(10,.osl 6001 0 O.length),(11,dI ((O.length:Nat):Int)),(12,dI J.2)],[],[(7001,.arr 69 2 J.1.length (rows QCj.enc J.1)),(6001,.arr 23 1 O.length (rows (Qew Qi) O))],[]⟩) ?_ ?_
 ·exact leX [.p 7001 69 2 (rows QCj.enc ([]:List QCj))]
 ·clear N;intro J y3 I U;refine Qb tOk ?_;apply Qr I<;>intro _ I
  ·refine Qb tOk (gdI I fun I=>gdI I fun I=>bC I 0 (fun _=>QcK) fun Y I=>Z6 (enc:=QCj.enc) ([Y.1]:List QCj) (gdI I fun I=>QdW (enc:=QCj.enc) (xs:=J.1) (ys:=([Y.1]:List QCj)) ?_));exact eX I []
  ·cases I
   cases U _ rfl
   cases h
   exact lfP [.s [(5001,7001),(7001,5001)]]
def Qal (a0:QCj):Option (Int):=
 bd (Zf a0) fun I=>
 some (IntKind.i64.wrap ((IntKind.i64.wrap (a0.Addr+I)) -1))
theorem Qgs {a0:QCj} {r:Int} (h:Qal a0=some r):PureC prog 218 [.agg [dI a0.Addr,dI a0.Len]] (dI r) []:=by
 refine pY tOk f218 rfl ?_;obtain⟨J,I,h⟩:=Qc h;refine QQ tOk [.u 3 0 (dI J) []] 7 [] [0,1,0,4,15,31,63] [] (aI (Qp (QdH I) (by kernel_rfl)) (aK ?_));cases h;exact lfP []
def Q7 (a0:QCj) (I:Int):Option (Bool):=
 bd (Qal a0) fun N=>
 bd (QV I a0.Addr N) fun J=>
 some J
theorem Jw {a0:QCj} {N:Int} {r:Bool} (h:Q7 a0 N=some r):PureC prog 176 [.agg [dI a0.Addr,dI a0.Len],dI N] (dB r) []:=by
 refine pY tOk f176 rfl ?_;obtain⟨O,J,h⟩:=Qc h;obtain⟨U,I,h⟩:=Qc h;refine QQ tOk [.u 4 0 (dI O) [],.u 5 0 (dB U) []] 7 [] [0,0,2,0,8,31,63] [] (aI (Qp (Qgs J) (by kernel_rfl)) (aI (Qp (Zp I) (by kernel_rfl)) (aK ?_)));cases h;exact lfP []
def JS (a0:QCj) (I:QCj):Option (Bool):=
 bd (Qv ((decide (I.Len<=a0.Len))=true) (Q7 I a0.Addr)) fun J=>
 some ((decide (I.Len<=a0.Len))&&J)
theorem Qey {a0:QCj} {I:QCj} {r:Bool} (h:JS a0 I=some r):PureC prog 172 [.agg [dI a0.Addr,dI a0.Len],.agg [dI I.Addr,dI I.Len]] (dB r) []:=by
 refine pY tOk f172 rfl (bG h (fun _=>Jw) fun x1 h=>?_);cases h;exact lfP []
def QaV (a0:(List Bt)):Option (Bool):=
 bd (JR a0) fun J=>
 bd (lp (σ:=Int) (β:=(Unit⊕Unit)) (fun I=>
(if(decide (I<((J.length:Nat):Int)))=true then
 gd ((0:Int)<=I∧I<((J.length:Nat):Int))<|
 gd ((0:Int)<=(0:Int)∧(0:Int)<=I∧I<=((J.length:Nat):Int))<|
 bd (lp (σ:=Int) (β:=(Unit⊕Unit)) (fun N=>
(if(decide (N<((I.toNat:Nat):Int)))=true then
 gd ((0:Int)<=N∧N<((I.toNat:Nat):Int))<|
 bd (JS (J.getD I.toNat default) (J.getD N.toNat default)) fun O=>
 bd (Qv (O=false) (JS (J.getD N.toNat default) (J.getD I.toNat default))) fun U=>
(if(O||U)=true then
 some (.inr (.inl ()))
else
 some (.inl (IntKind.i64.wrap (N+1))))
else
 some (.inr (.inr ())))) 0) fun Y=>
(match Y with
| .inl d15=>
 some (.inr (.inl ()))
| .inr d16=>
 some (.inl (IntKind.i64.wrap (I+1))))
else
 some (.inr (.inr ())))) 0) fun x5=>
(match x5 with
| .inl d17=>
 some true
| .inr d18=>
 some false)
theorem Qh0 {a0:(List Bt)} {r:Bool} (h:QaV a0=some r):PureC prog 107 [.d (slD Qi a0)] (dB r) []:=by
 refine pY tOk f107 rfl (bC h 1000 (fun _=>Qex) fun J h=>Qb tOk ?_);obtain⟨x5,a2,h⟩:=Qc h;refine Qm tOk a2 (fun U=>⟨0,35,[(3,.osl 6001 0 J.length),(10,.osl 6001 0 J.length),(11,dI ((J.length:Nat):Int)),(12,dI U)],[],[(6001,.arr 69 2 J.length (rows QCj.enc J))],[]⟩) ?_ ?_
 ·exact leX []
 ·clear a2;intro U y3 N a1;refine Qb tOk ?_;apply Qr N<;>intro _ N
  ·refine Qb tOk (gdI N fun N=>?_);obtain⟨g7,N⟩:=Qe N;refine aI g7 ?_;obtain⟨x11,O,N⟩:=Qc N;refine Qm tOk O (fun s8=>⟨0,35,[(3,.osl 6001 0 J.length),(5,.ref 5 0 0),(10,.osl 6001 0 J.length),(11,dI ((J.length:Nat):Int)),(12,dI U),(19,.osl 6001 0 U.toNat),(20,dI ((U.toNat:Nat):Int)),(21,dI s8)],[],[(5,.box 69 [dI ((J.getD U.toNat default).Addr),dI ((J.getD U.toNat default).Len)]),(6001,.arr 69 2 J.length (rows QCj.enc J))],[]⟩) ?_ ?_
   ·exact leX []
   ·clear O;intro s8 y9 I Y;refine Qb tOk ?_;apply Qr I<;>intro _ I
    ·refine Qb tOk (gdI I fun I=>bC I 0 (fun _=>Qey) fun x13 I=>bG I (fun _=>Qey) fun x14 I=>?_);apply Qr I<;>intro _ I
     ·cases I
      cases Y _ rfl
      cases N
      cases a1 _ rfl
      cases h
      exact lfP []
     ·exact eX I []
    ·cases I
     cases Y _ rfl
     exact eX N []
  ·cases N
   cases a1 _ rfl
   cases h
   exact lfP []
def Zt (a0:QCj) (I:Int):Option (Bool):=
 bd (Q7 a0 I) fun J=>
 some (J&&(a0.Addr !=I))
theorem Qgt {a0:QCj} {I:Int} {r:Bool} (h:Zt a0 I=some r):PureC prog 175 [.agg [dI a0.Addr,dI a0.Len],.rp [.int .i64 I]] (dB r) []:=by
 refine pY tOk f175 rfl (bC h 0 (fun _=>Jw) fun x1 h=>?_);cases h;exact lfP []
def Zd (a0:(List QCj)) (J:Int):Option (Int):=
 bd (lp (σ:=Int) (β:=(Int⊕Unit)) (fun I=>
(if(decide (I<((a0.length:Nat):Int)))=true then
 gd ((0:Int)<=I∧I<((a0.length:Nat):Int))<|
 bd (Zt (a0.getD I.toNat default) J) fun O=>
(if O=true then
 some (.inr (.inl I))
else
 some (.inl (IntKind.i64.wrap (I+1))))
else
 some (.inr (.inr ())))) 0) fun U=>
(match U with
| .inl N=>
 some N
| .inr d8=>
 some (-1))
theorem Je {a0:(List QCj)} {J:Int} {r:Int} (h:Zd a0 J=some r):PureC prog 217 [.d (slD QCj.enc a0),.fn 175 [.rp [.int .i64 J]]] (dI r) []:=by
 refine pY tOk f217 rfl (Qb tOk ?_);obtain⟨x4,N,h⟩:=Qc h;refine Qm tOk N (fun U=>⟨0,19,[(0,.d (slD QCj.enc a0)),(1,.fn 175 [.rp [.int .i64 J]]),(7,dI ((a0.length:Nat):Int)),(8,dI U)],[],[],[]⟩) ?_ ?_
 ·exact leX []
 ·clear N;intro U y2 I O;refine Qb tOk ?_;apply Qr I<;>intro _ I
  ·refine Qb tOk (gdI I fun I=>bC I 0 (fun _=>Qgt) fun x6 I=>?_);apply Qr I<;>intro _ I
   ·cases I
    cases O _ rfl
    cases h
    exact lfP []
   ·exact eX I []
  ·cases I
   cases O _ rfl
   cases h
   exact lfP []
def Qx (a0:(List QCj)) (I:Int):Option (Bool):=
 bd (Zd a0 I) fun J=>
 some (decide (J>=0))
theorem Z7 {a0:(List QCj)} {I:Int} {r:Bool} (h:Qx a0 I=some r):PureC prog 174 [.d (slD QCj.enc a0),.fn 175 [.rp [.int .i64 I]]] (dB r) []:=by
 refine pY tOk f174 rfl (bC h 0 (fun _=>Je) fun x1 h=>?_);cases h;exact lfP []
def ZO (a0:Bt) (I:(List QCj)):Option (Bool):=
 bd (ZJ a0) fun N=>
 bd (Qx I N) fun J=>
 some (!J)
theorem Qh1 {a0:Bt} {I:(List QCj)} {r:Bool} (h:ZO a0 I=some r):PureC prog 173 [.d (.str a0),.rp [slD QCj.enc I]] (dB r) []:=by
 refine pY tOk f173 rfl (bC h 0 (fun _=>Qaw) fun x1 h=>bC h 0 (fun _=>Z7) fun x2 h=>?_);cases h;exact lfP []
def Zy (a0:(List Bt)) (J:(List QCj)):Option (Int):=
 bd (lp (σ:=Int) (β:=(Int⊕Unit)) (fun I=>
(if(decide (I<((a0.length:Nat):Int)))=true then
 gd ((0:Int)<=I∧I<((a0.length:Nat):Int))<|
 bd (ZO (a0.getD I.toNat default) J) fun O=>
(if O=true then
 some (.inr (.inl I))
else
 some (.inl (IntKind.i64.wrap (I+1))))
else
 some (.inr (.inr ())))) 0) fun U=>
(match U with
| .inl N=>
 some N
| .inr d8=>
 some (-1))
theorem J3 {a0:(List Bt)} {J:(List QCj)} {r:Int} (h:Zy a0 J=some r):PureC prog 212 [.d (slD Qi a0),.fn 173 [.rp [slD QCj.enc J]]] (dI r) []:=by
 refine pY tOk f212 rfl (Qb tOk ?_);obtain⟨x4,N,h⟩:=Qc h;refine Qm tOk N (fun U=>⟨0,19,[(0,.d (slD Qi a0)),(1,.fn 173 [.rp [slD QCj.enc J]]),(7,dI ((a0.length:Nat):Int)),(8,dI U)],[],[],[]⟩) ?_ ?_
 ·exact leX []
 ·clear N;intro U y2 I O;refine Qb tOk ?_;apply Qr I<;>intro _ I
  ·refine Qb tOk (gdI I fun I=>bC I 0 (fun _=>Qh1) fun x6 I=>?_);apply Qr I<;>intro _ I
   ·cases I
    cases O _ rfl
    cases h
    exact lfP []
   ·exact eX I []
  ·cases I
   cases O _ rfl
   cases h
   exact lfP []
def QM (a0:(List Bt)) (I:(List QCj)):Option (Bool):=
 bd (Zy a0 I) fun J=>
 some (decide (J>=0))
theorem JF {a0:(List Bt)} {I:(List QCj)} {r:Bool} (h:QM a0 I=some r):PureC prog 163 [.d (slD Qi a0),.fn 173 [.rp [slD QCj.enc I]]] (dB r) []:=by
 refine pY tOk f163 rfl (bC h 0 (fun _=>J3) fun x1 h=>?_);cases h;exact lfP []
end
end Go.Proofs.YtjjkhncoafdfmaaGreatDoor
