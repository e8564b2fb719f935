/-
  What some of the program's functions compute: their models, and that the functions compute these; no condition.
-/
import Derived.Test.YtjjkhncoafdfmaaGreatDoorTyz
import Derived.Test.YtjjkhncoafdfmaaGreatDoorTbz
import Derived.Test.YtjjkhncoafdfmaaGreatDoorLayz
import Derived.Test.YtjjkhncoafdfmaaGreatDoorAbz7
import Derived.Test.YtjjkhncoafdfmaaGreatDoorLay4z
import Derived.Test.YtjjkhncoafdfmaaGreatDoorAbz8
import Derived.BigCall
import Derived.BigGuard
import Derived.BigQuiet
import Derived.Deep.Draws
import Derived.Deep.QuietTactic
import Derived.Maps.OwnSet
import Derived.Shelf.SlSortCmp.QuietGrown
import Derived.StringKeys
import Derived.WalkKit
import Derived.Test.YtjjkhncoafdfmaaGreatDoorKz4
set_option linter.all false
namespace Go.Proofs.YtjjkhncoafdfmaaGreatDoor
open Go Go.Ab Tryz
set_option maxRecDepth 100000
set_option maxHeartbeats 40000000
noncomputable section
def QdI (a0:Bt) (N:Int):Option ((List Bt)):=
 bd (lp (σ:=List Bt×Int×Int) (β:=(Nat×Int×(List Bt))) (fun I=>
(if(decide (I.2.2<((a0.size:Nat):Int)))=true then
 gd ((0:Int)<=I.2.2∧I.2.2<((a0.size:Nat):Int))<|
(if((JB a0 I.2.2.toNat)==N)=true then
 gd ((0:Int)<=I.2.1∧I.2.1<=I.2.2∧I.2.2<=((a0.size:Nat):Int))<|
 gd (((I.1.length)+(([(a0.extract I.2.1.toNat I.2.2.toNat)]:List Bt).length))*(16+1)<=70368744177664)<|
 some (.inl ((I.1++([(a0.extract I.2.1.toNat I.2.2.toNat)]:List Bt)),IntKind.i64.wrap (I.2.2+1),IntKind.i64.wrap (I.2.2+1)))
else
 some (.inl (I.1,I.2.1,IntKind.i64.wrap (I.2.2+1))))
else
 some (.inr (I.1.length,I.2.1,I.1)))) (([]:List Bt),0,0)) fun J=>
 gd ((0:Int)<=J.2.1∧J.2.1<=((a0.size:Nat):Int)∧((a0.size:Nat):Int)<=((a0.size:Nat):Int))<|
 gd (((J.1)+(([(a0.extract J.2.1.toNat ((a0.size:Nat):Int).toNat)]:List Bt).length))*(16+1)<=70368744177664)<|
 some (J.2.2++([(a0.extract J.2.1.toNat ((a0.size:Nat):Int).toNat)]:List Bt))
theorem Qkm {a0:Bt} {O:Int} {r:(List Bt)} (h:QdI a0 O=some r):PureC prog 230 [.d (.str a0),.d (.int .u8 O)] (.osl 5001 0 r.length) [⟨5001,9,1,r.length,rows Qi r⟩]:=by
 refine pY tOk f230 rfl (Qb tOk ?_);obtain⟨x4,N,h⟩:=Qc h;refine Qm tOk N (fun I=>⟨0,35,[(0,.d (.str a0)),(1,.d (.int .u8 O)),(5,.osl 7001 0 I.1.length),(6,dI I.2.1),(7,dI I.2.2)],[],[(7001,.arr 9 1 I.1.length (rows Qi I.1))],[]⟩) ?_ ?_
 ·exact leX [.p 7001 9 1 (rows Qi ([]:List Bt))]
 ·clear N;intro I y2 J U;refine Qb tOk ?_;apply Qr J<;>intro _ J
  ·refine Qb tOk (gdI J fun J=>?_);apply Qr J<;>intro _ J
   ·refine gdI J fun J=>Z6 (enc:=Qi) ([(a0.extract I.2.1.toNat I.2.2.toNat)]:List Bt) (gdI J fun J=>QdW (enc:=Qi) (xs:=I.1) (ys:=([(a0.extract I.2.1.toNat I.2.2.toNat)]:List Bt)) ?_);exact eX J []
   ·exact eX J []
  ·cases J
   cases U _ rfl
   refine gdI h fun h=>Z6 (enc:=Qi) ([(a0.extract (I.1.length,I.2.1,I.1).2.1.toNat ((a0.size:Nat):Int).toNat)]:List Bt) (gdI h fun h=>QdW (enc:=Qi) (xs:=(I.1.length,I.2.1,I.1).2.2) (ys:=([(a0.extract (I.1.length,I.2.1,I.1).2.1.toNat ((a0.size:Nat):Int).toNat)]:List Bt)) ?_);cases h;exact lfP [.s [(5001,7001),(7001,5001)]]
def Jt (a0:Int) (I:Int) (J:Int):Option (Bool):=
 some ((decide (a0>=I))&&(decide (a0<=J)))
theorem Qez {a0:Int} {I:Int} {J:Int} {r:Bool} (h:Jt a0 I J=some r):PureC prog 261 [dI a0,dI I,dI J] (dB r) []:=by
 refine pY tOk f261 rfl ?_;unfold Jt at h;cases h;exact lfP []
def Qcs (a0:Bt):Option (Int):=
 bd (Jt ((a0.size:Nat):Int) 1 5) fun N=>
 gd ((decide (((a0.size:Nat):Int)>1))=true->((!N)=false->((0:Int)<=(0:Int)∧(0:Int)<((a0.size:Nat):Int))))<|
(if((!N)||((decide (((a0.size:Nat):Int)>1))&&((JB a0 0)==48)))=true then
 some (-1)
else
 bd (lp (σ:=Int×Int) (β:=(Unit⊕Int)) (fun I=>
(if(decide (I.2<((a0.size:Nat):Int)))=true then
 gd ((0:Int)<=I.2∧I.2<((a0.size:Nat):Int))<|
 gd ((decide ((JB a0 I.2.toNat)<48))=false->((0:Int)<=I.2∧I.2<((a0.size:Nat):Int)))<|
(if((decide ((JB a0 I.2.toNat)<48))||(decide ((JB a0 I.2.toNat)>57)))=true then
 some (.inr (.inl ()))
else
 gd ((0:Int)<=I.2∧I.2<((a0.size:Nat):Int))<|
 some (.inl (IntKind.i64.wrap ((IntKind.i64.wrap (I.1*10))+(IntKind.i64.wrap (IntKind.u8.wrap ((JB a0 I.2.toNat) -48)))),IntKind.i64.wrap (I.2+1))))
else
 some (.inr (.inr I.1)))) (0,0)) fun O=>
(match O with
| .inl d10=>
 some (-1)
| .inr J=>
 some J))
theorem Qgy {a0:Bt} {r:Int} (h:Qcs a0=some r):PureC prog 232 [.d (.str a0)] (dI r) []:=by
 refine pY tOk f232 rfl (Qb tOk (bC h 0 (fun _=>Qez) fun x1 h=>gdI h fun h=>?_));apply Qr h<;>intro _ h
 ·cases h
  exact lfP []
 ·refine Qb tOk ?_;obtain⟨x6,N,h⟩:=Qc h;refine Qm tOk N (fun O=>⟨0,44,[(0,.d (.str a0)),(3,dI O.1),(4,dI O.2)],[],[],[]⟩) ?_ ?_
  ·exact leX []
  ·clear N;intro O y4 I J;refine Qb tOk ?_;apply Qr I<;>intro _ I
   ·refine Qb tOk (Qb tOk (gdI I fun I=>gdI I fun I=>?_));apply Qr I<;>intro _ I
    ·cases I
     cases J _ rfl
     cases h
     exact lfP []
    ·refine gdI I fun I=>?_;exact eX I []
   ·cases I
    cases J _ rfl
    cases h
    exact lfP []
def Qdy (a0:Bt):Option (Int):=
 bd (QdI a0 46) fun I=>
(if(((I.length:Nat):Int) !=2)=true then
 some (-1)
else
 gd ((0:Int)<=0∧0<((I.length:Nat):Int))<|
 bd (Qcs (I.getD 0 default)) fun N=>
 gd ((0:Int)<=1∧1<((I.length:Nat):Int))<|
 bd (Qcs (I.getD 1 default)) fun J=>
 bd (Jt N 0 255) fun O=>
 bd (Qv ((!O)=false) (Jt J 0 255)) fun U=>
(if((!O)||(!U))=true then
 some (-1)
else
 some (IntKind.i64.wrap ((IntKind.i64.wrap (256*N))+J))))
theorem Qm1 {a0:Bt} {r:Int} (h:Qdy a0=some r):PureC prog 231 [.d (.str a0)] (dI r) []:=by
 refine pY tOk f231 rfl (bC h 1000 (fun _=>Qkm) fun x1 h=>Qb tOk ?_);apply Qr h<;>intro _ h
 ·cases h
  exact lfP []
 ·refine gdI h fun h=>bC h 0 (fun _=>Qgy) fun x3 h=>gdI h fun h=>bC h 0 (fun _=>Qgy) fun x5 h=>Qb tOk (bC h 0 (fun _=>Qez) fun x6 h=>bG h (fun _=>Qez) fun x7 h=>?_);apply Qr h<;>intro _ h
  ·cases h
   exact lfP []
  ·cases h
   exact lfP []
def QcV (a0:Int):Option (Int):=
 bd (lp (σ:=Int×Int) (β:=(Int)) (fun I=>
(if(decide (I.2<16))=true then
 some (.inl (IntKind.i64.wrap (I.1*2),IntKind.i64.wrap (I.2+1)))
else
 some (.inr I.1))) (1,a0)) fun J=>
 some J
theorem QiJ {a0:Int} {r:Int} (h:QcV a0=some r):PureC prog 234 [dI a0] (dI r) []:=by
 refine pY tOk f234 rfl (Qb tOk ?_);obtain⟨x4,I,h⟩:=Qc h;refine Qm tOk I (fun N=>⟨0,13,[(3,dI N.1),(4,dI N.2)],[],[],[]⟩) ?_ ?_
 ·exact leX []
 ·clear I;intro N y2 J O;refine Qb tOk ?_;apply Qr J<;>intro _ J
  ·refine Qb tOk ?_;exact eX J []
  ·cases J
   cases O _ rfl
   cases h
   exact lfP []
def Qgz (a0:QCj):Option (Bool):=
 bd (Jt a0.Len 0 16) fun I=>
 bd (Qv (I=true) (Jt a0.Addr 0 65535)) fun J=>
 bd (Qv ((I&&J)=true) (QcV a0.Len)) fun N=>
 gd ((I&&J)=true->((N:Int)≠0))<|
 some ((I&&J)&&(((a0.Addr:Int).tmod N)==0))
theorem Qpn {a0:QCj} {r:Bool} (h:Qgz a0=some r):PureC prog 233 [.agg [dI a0.Addr,dI a0.Len]] (dB r) []:=by
 refine pY tOk f233 rfl ?_;obtain⟨Y,N,h⟩:=Qc h;obtain⟨x2,I,h⟩:=Qc h;obtain⟨U,O,h⟩:=Qc h;obtain⟨g4,h⟩:=Qe h;refine QQ tOk [.u 2 0 (dB Y) [],.u 6 0 (dB x2) [],.u 13 0 (dI U) []] 18 [] [0,1,3,7,15,31,63,127,255,511,1023,511,2559,6655,16383,32767,65535,131071] [] (aI (Qp (Qez N) (by kernel_rfl)) (aI (QJ rfl rfl rfl rfl (by intro J;exact Qez (Qt I J))) (aI (QJ rfl rfl rfl rfl (by intro J;exact QiJ (Qt O J))) (aI g4 (aK ?_)))));cases h;exact lfP []
def QcW (a0:Bt):Option (QCj×Bool):=
 bd (QdI a0 47) fun I=>
(if(((I.length:Nat):Int) !=2)=true then
 some ((⟨0,0⟩:QCj),false)
else
 gd ((0:Int)<=0∧0<((I.length:Nat):Int))<|
 bd (Qdy (I.getD 0 default)) fun N=>
 gd ((0:Int)<=1∧1<((I.length:Nat):Int))<|
 bd (Qcs (I.getD 1 default)) fun J=>
 bd (Qgz (⟨N,J⟩:QCj)) fun O=>
(if(!O)=true then
 some ((⟨0,0⟩:QCj),false)
else
 some ((⟨N,J⟩:QCj),true)))
theorem QlC {a0:Bt} {r:QCj×Bool} (h:QcW a0=some r):PureC prog 194 [.d (.str a0)] (.tup [.agg [dI r.1.Addr,dI r.1.Len],dB r.2]) []:=by
 refine pY tOk f194 rfl (bC h 1000 (fun _=>Qkm) fun x1 h=>Qb tOk ?_);apply Qr h<;>intro _ h
 ·cases h
  exact lfP []
 ·obtain⟨U,h⟩:=Qe h;obtain⟨O,I,h⟩:=Qc h;obtain⟨Y,h⟩:=Qe h;obtain⟨N,J,h⟩:=Qc h;refine QQ tOk [.u 3 0 (dI O) [],.u 7 0 (dI N) []] 10 [] [0,1,3,7,0,16,48,127,255,0] [1023] (aI U (aI (Qp (Qm1 I) (by kernel_rfl)) (aI Y (aI (Qp (Qgy J) (by kernel_rfl)) (aK (Qb tOk (bC h 0 (fun _=>Qpn) fun x6 h=>?_)))))));apply Qr h<;>intro _ h
  ·cases h
   exact lfP []
  ·cases h
   exact lfP []
def Qaf (a0:Bt):Option (QCj):=
 bd (QcW a0) fun I=>
 some I.1
theorem Qge {a0:Bt} {r:QCj} (h:Qaf a0=some r):PureC prog 130 [.d (.str a0)] (.agg [dI r.Addr,dI r.Len]) []:=by
 refine pY tOk f130 rfl (bC h 0 (fun _=>QlC) fun x1 h=>?_);cases h;exact lfP []
def Qbo (a0:(List Bt)):Option ((List QCn)):=
 bd (Qan a0 (⟨#[112,111,114,116]⟩:Bt)) fun J=>
 bd (lp (σ:=List QCn×Int) (β:=(Nat×(List QCn))) (fun I=>
(if(decide (I.2<((J.length:Nat):Int)))=true then
 gd ((0:Int)<=I.2∧I.2<((J.length:Nat):Int))<|
 bd (Qg (J.getD I.2.toNat default) 2) fun x7=>
 bd (Qaf x7) fun U=>
 gd ((0:Int)<=I.2∧I.2<((J.length:Nat):Int))<|
 bd (Qg (J.getD I.2.toNat default) 1) fun Y=>
 bd (Zg Y) fun O=>
 gd ((0:Int)<=I.2∧I.2<((J.length:Nat):Int))<|
 bd (Qg (J.getD I.2.toNat default) 4) fun N=>
 gd (((I.1.length)+(([(⟨O,U.Addr,U.Len,N⟩:QCn)]:List QCn).length))*(40+1)<=70368744177664)<|
 some (.inl ((I.1++([(⟨O,U.Addr,U.Len,N⟩:QCn)]:List QCn)),IntKind.i64.wrap (I.2+1)))
else
 some (.inr (I.1.length,I.1)))) (([]:List QCn),0)) fun x5=>
 some x5.2
theorem QlD {a0:(List Bt)} {r:(List QCn)} (h:Qbo a0=some r):PureC prog 74 [.d (slD Qi a0)] (.osl 5001 0 r.length) [⟨5001,41,4,r.length,rows QCn.enc r⟩]:=by
 refine pY tOk f74 rfl (bE h [] 1000 (fun _=>Qgx) fun x1 h=>Qb tOk ?_);obtain⟨x5,a2,h⟩:=Qc h;refine Qm tOk a2 (fun O=>⟨0,42,[(3,.osl 6001 0 x1.length),(4,.osl 7001 0 O.1.length),(5,dI O.2)],[],[(7001,.arr 41 4 O.1.length (rows QCn.enc O.1)),(6001,.arr 151 1 x1.length (rows QCe.enc x1))],[]⟩) ?_ ?_
 ·exact leX [.p 7001 41 4 (rows QCn.enc ([]:List QCn))]
 ·clear a2;intro O y3 I a6;refine Qb tOk ?_;apply Qr I<;>intro _ I
  ·refine Qb tOk (gdI I fun I=>bC I 0 (fun _=>Qh) fun x7 I=>bC I 0 (fun _=>Qge) fun x8 I=>?_);obtain⟨g9,I⟩:=Qe I;obtain⟨a5,Y,I⟩:=Qc I;obtain⟨N,U,I⟩:=Qc I;obtain⟨a7,I⟩:=Qe I;obtain⟨J,a1,I⟩:=Qc I;refine QQ tOk [.u 5 0 (.d (.str a5)) [],.u 6 0 (dI N) [],.u 15 0 (.d (.str J)) []] 18 [] [0,0,0,6,14,30,62,0,128,0,512,0,0,6144,14336,30846,65534,131070] [262143,524287] (aI g9 (aI (Qp (Qh Y) (by kernel_rfl)) (aI (Qp (Z1 U) (by kernel_rfl)) (aI a7 (aI (Qp (Qh a1) (by kernel_rfl)) (Z6 (enc:=QCn.enc) ([(⟨N,x8.Addr,x8.Len,J⟩:QCn)]:List QCn) (aK (gdI I fun I=>QdW (enc:=QCn.enc) (xs:=O.1) (ys:=([(⟨N,x8.Addr,x8.Len,J⟩:QCn)]:List QCn)) ?_))))))));exact eX I []
  ·cases I
   cases a6 _ rfl
   cases h
   exact lfP [.s [(5001,7001),(7001,5001)]]
def QbE (a0:QCo) (I:QCo):Option (Bool):=
(if(a0.Addr !=I.Addr)=true then
 some (decide (a0.Addr<I.Addr))
else
(if(a0.Len !=I.Len)=true then
 some (decide (a0.Len<I.Len))
else
 some (decide (a0.Next<I.Next))))
theorem QjE {a0:QCo} {I:QCo} {r:Bool} (h:QbE a0 I=some r):PureC prog 131 [.agg [dI a0.Addr,dI a0.Len,dI a0.Next],.agg [dI I.Addr,dI I.Len,dI I.Next]] (dB r) []:=by
 refine pY tOk f131 rfl (Qb tOk ?_);apply Qr h<;>intro _ h
 ·cases h
  exact lfP []
 ·refine Qb tOk ?_;apply Qr h<;>intro _ h
  ·cases h
   exact lfP []
  ·cases h
   exact lfP []
def QbY (a0:(List Bt)):Option ((List QCo)):=
 bd (Qan a0 (⟨#[114,111,117,116,101]⟩:Bt)) fun Y=>
 bd (lp (σ:=List QCo×Int) (β:=(Nat×(List QCo))) (fun I=>
(if(decide (I.2<((Y.length:Nat):Int)))=true then
 gd ((0:Int)<=I.2∧I.2<((Y.length:Nat):Int))<|
 bd (Qg (Y.getD I.2.toNat default) 1) fun x7=>
 bd (Qaf x7) fun U=>
 gd ((0:Int)<=I.2∧I.2<((Y.length:Nat):Int))<|
 bd (Qg (Y.getD I.2.toNat default) 2) fun a1=>
 bd (Q6 a1) fun O=>
 bd (lp (σ:=Int) (β:=(Int)) (fun N=>
 gd ((decide (N<((I.1.length:Nat):Int)))=true->((0:Int)<=N∧N<((I.1.length:Nat):Int)))<|
 bd (Qv ((decide (N<((I.1.length:Nat):Int)))=true) (QbE (I.1.getD N.toNat default) (⟨U.Addr,U.Len,O⟩:QCo))) fun a2=>
(if((decide (N<((I.1.length:Nat):Int)))&&a2)=true then
 some (.inl (IntKind.i64.wrap (N+1)))
else
 some (.inr N))) 0) fun J=>
 gd ((0:Int)<=(0:Int)∧(0:Int)<=J∧J<=((I.1.length:Nat):Int))<|
 gd (((0)+(J.toNat))*(24+1)<=70368744177664)<|
 gd ((((I.1.take J.toNat).length)+(([(⟨U.Addr,U.Len,O⟩:QCo)]:List QCo).length))*(24+1)<=70368744177664)<|
 gd ((0:Int)<=J∧J<=((I.1.length:Nat):Int)∧((I.1.length:Nat):Int)<=((I.1.length:Nat):Int))<|
 gd (((((I.1.take J.toNat)++([(⟨U.Addr,U.Len,O⟩:QCo)]:List QCo)).length)+((QbP ((I.1.length:Nat):Int) J)))*(24+1)<=70368744177664)<|
 some (.inl ((((I.1.take J.toNat)++([(⟨U.Addr,U.Len,O⟩:QCo)]:List QCo))++(((I.1).take (J.toNat+(QbP ((I.1.length:Nat):Int) J))).drop J.toNat)),IntKind.i64.wrap (I.2+1)))
else
 some (.inr (I.1.length,I.1)))) (([]:List QCo),0)) fun x5=>
 some x5.2
theorem Qm2 {a0:(List Bt)} {r:(List QCo)} (h:QbY a0=some r):PureC prog 75 [.d (slD Qi a0)] (.osl 5001 0 r.length) [⟨5001,45,3,r.length,rows QCo.enc r⟩]:=by
 refine pY tOk f75 rfl (bE h [] 1000 (fun _=>Qgx) fun x1 h=>Qb tOk ?_);obtain⟨x5,a7,h⟩:=Qc h;refine Qm tOk a7 (fun J=>⟨0,62,[(3,.osl 6001 0 x1.length),(4,.osl 7001 0 J.1.length),(5,dI J.2)],[],[(7001,.arr 45 3 J.1.length (rows QCo.enc J.1)),(6001,.arr 151 1 x1.length (rows QCe.enc x1))],[]⟩) ?_ ?_
 ·exact leX [.p 7001 45 3 (rows QCo.enc ([]:List QCo))]
 ·clear a7;intro J y3 N b3;refine Qb tOk ?_;apply Qr N<;>intro _ N
  ·refine Qb tOk (gdI N fun N=>bC N 0 (fun _=>Qh) fun x7 N=>bC N 0 (fun _=>Qge) fun U N=>?_);obtain⟨g9,N⟩:=Qe N;obtain⟨b0,a8,N⟩:=Qc N;obtain⟨O,a5,N⟩:=Qc N;refine QQ tOk [.u 8 0 (.d (.str b0)) [],.u 9 0 (dI O) []] 12 [] [0,1,0,4,0,0,48,112,240,496,1023,0] [4095] (aI g9 (aI (Qp (Qh a8) (by kernel_rfl)) (aI (Qp (Zu a5) (by kernel_rfl)) (aK (Qb tOk ?_)))));obtain⟨x15,a1,N⟩:=Qc N;refine Qm tOk a1 (fun I=>⟨0,62,[(3,.osl 6001 0 x1.length),(4,.osl 7001 0 J.1.length),(5,dI J.2),(7,.ref 7 0 0),(8,dI I)],[],[(7,.box 45 [dI U.Addr,dI U.Len,dI O]),(7001,.arr 45 3 J.1.length (rows QCo.enc J.1)),(6001,.arr 151 1 x1.length (rows QCe.enc x1))],[]⟩) ?_ ?_
   ·exact leX []
   ·clear a1;intro I y13 Y a6;refine Qb tOk ?_;obtain⟨b6,Y⟩:=Qe Y;obtain⟨b4,a2,Y⟩:=Qc Y;refine QQ tOk [.u 10 0 (dB b4) []] 12 [] [0,0,2,7,15,31,31,127,255,31,1023,2047] [] (aI b6 (aI (QJ rfl rfl rfl rfl (by intro c0;exact QjE (Qt a2 c0))) (aK ?_)));apply Qr Y<;>intro _ Y
    ·exact eX Y []
    ·cases Y
     obtain rfl:=a6 _ rfl;obtain⟨b1,N⟩:=Qe N;obtain⟨a9,N⟩:=Qe N;obtain⟨b5,N⟩:=Qe N;obtain⟨b2,N⟩:=Qe N;obtain⟨b7,N⟩:=Qe N;refine Qd3 tOk [.a 4 [] (.osl 53 0 ((J.1.take I.toNat).length)) [(53,.arr 45 3 ((J.1.take I.toNat).length) (rows QCo.enc (J.1.take I.toNat)))],.a 7 [(53,.arr 45 3 ((J.1.take I.toNat).length) (rows QCo.enc (J.1.take I.toNat)))] (.osl 56 0 (((J.1.take I.toNat)++([(⟨U.Addr,U.Len,O⟩:QCo)]:List QCo)).length)) [(56,.arr 45 3 (((J.1.take I.toNat)++([(⟨U.Addr,U.Len,O⟩:QCo)]:List QCo)).length) (rows QCo.enc ((J.1.take I.toNat)++([(⟨U.Addr,U.Len,O⟩:QCo)]:List QCo))))],.a 11 [(56,.arr 45 3 (((J.1.take I.toNat)++([(⟨U.Addr,U.Len,O⟩:QCo)]:List QCo)).length) (rows QCo.enc ((J.1.take I.toNat)++([(⟨U.Addr,U.Len,O⟩:QCo)]:List QCo))))] (.osl 60 0 ((((J.1.take I.toNat)++([(⟨U.Addr,U.Len,O⟩:QCo)]:List QCo))++(((J.1).take (I.toNat+(QbP ((J.1.length:Nat):Int) I))).drop I.toNat)).length)) [(60,.arr 45 3 ((((J.1.take I.toNat)++([(⟨U.Addr,U.Len,O⟩:QCo)]:List QCo))++(((J.1).take (I.toNat+(QbP ((J.1.length:Nat):Int) I))).drop I.toNat)).length) (rows QCo.enc (((J.1.take I.toNat)++([(⟨U.Addr,U.Len,O⟩:QCo)]:List QCo))++(((J.1).take (I.toNat+(QbP ((J.1.length:Nat):Int) I))).drop I.toNat))))]] 12 [] [0,0,0,6,15,0,32,127,0,0,768,2047] [4095] [] (aI b1 (aI (by(conv=>whnf);exact⟨a9,Qx9 (enc:=QCo.enc) (ys:=J.1.take I.toNat) ⟨rfl,rfl⟩⟩) (Z6 (enc:=QCo.enc) ([(⟨U.Addr,U.Len,O⟩:QCo)]:List QCo) (aI (by(conv=>whnf);exact⟨b5,QdW (enc:=QCo.enc) (xs:=(J.1.take I.toNat)) (ys:=([(⟨U.Addr,U.Len,O⟩:QCo)]:List QCo)) ⟨rfl,rfl⟩⟩) (aI b2 (aI (by(conv=>whnf);exact⟨b7,QdW (enc:=QCo.enc) (xs:=((J.1.take I.toNat)++([(⟨U.Addr,U.Len,O⟩:QCo)]:List QCo))) (ys:=((J.1).take (I.toNat+(QbP ((J.1.length:Nat):Int) I))).drop I.toNat) ⟨rfl,rfl⟩⟩) (aK ?_)))))));exact eX N [.s [(60,7001),(7001,60)]]
  ·cases N
   cases b3 _ rfl
   cases h
   exact lfP [.s [(5001,7001),(7001,5001)]]
def Qbp (a0:(List Bt)):Option ((List QCm)):=
 bd (Qan a0 (⟨#[112,101,101,114]⟩:Bt)) fun U=>
 bd (lp (σ:=List QCm×Int) (β:=(Nat×(List QCm))) (fun I=>
(if(decide (I.2<((U.length:Nat):Int)))=true then
 gd ((0:Int)<=I.2∧I.2<((U.length:Nat):Int))<|
 bd (Qg (U.getD I.2.toNat default) 1) fun x7=>
 bd (Q6 x7) fun x8=>
 gd ((0:Int)<=I.2∧I.2<((U.length:Nat):Int))<|
 bd (Qg (U.getD I.2.toNat default) 2) fun a1=>
 bd (Zg a1) fun O=>
 gd ((0:Int)<=I.2∧I.2<((U.length:Nat):Int))<|
 bd (Qg (U.getD I.2.toNat default) 3) fun a2=>
 bd (Zg a2) fun Y=>
 bd (lp (σ:=Int) (β:=(Int)) (fun N=>
 gd ((decide (N<((I.1.length:Nat):Int)))=true->((0:Int)<=N∧N<((I.1.length:Nat):Int)))<|
(if((decide (N<((I.1.length:Nat):Int)))&&(decide (((I.1.getD N.toNat default).Addr)<x8)))=true then
 some (.inl (IntKind.i64.wrap (N+1)))
else
 some (.inr N))) 0) fun J=>
 gd ((0:Int)<=(0:Int)∧(0:Int)<=J∧J<=((I.1.length:Nat):Int))<|
 gd (((0)+(J.toNat))*(24+1)<=70368744177664)<|
 gd ((((I.1.take J.toNat).length)+(([(⟨x8,O,Y⟩:QCm)]:List QCm).length))*(24+1)<=70368744177664)<|
 gd ((0:Int)<=J∧J<=((I.1.length:Nat):Int)∧((I.1.length:Nat):Int)<=((I.1.length:Nat):Int))<|
 gd (((((I.1.take J.toNat)++([(⟨x8,O,Y⟩:QCm)]:List QCm)).length)+((QbP ((I.1.length:Nat):Int) J)))*(24+1)<=70368744177664)<|
 some (.inl ((((I.1.take J.toNat)++([(⟨x8,O,Y⟩:QCm)]:List QCm))++(((I.1).take (J.toNat+(QbP ((I.1.length:Nat):Int) J))).drop J.toNat)),IntKind.i64.wrap (I.2+1)))
else
 some (.inr (I.1.length,I.1)))) (([]:List QCm),0)) fun x5=>
 some x5.2
theorem QlE {a0:(List Bt)} {r:(List QCm)} (h:Qbp a0=some r):PureC prog 76 [.d (slD Qi a0)] (.osl 5001 0 r.length) [⟨5001,78,3,r.length,rows QCm.enc r⟩]:=by
 refine pY tOk f76 rfl (bE h [] 1000 (fun _=>Qgx) fun x1 h=>Qb tOk ?_);obtain⟨x5,a9,h⟩:=Qc h;refine Qm tOk a9 (fun N=>⟨0,65,[(3,.osl 6001 0 x1.length),(4,.osl 7001 0 N.1.length),(5,dI N.2)],[],[(7001,.arr 78 3 N.1.length (rows QCm.enc N.1)),(6001,.arr 151 1 x1.length (rows QCe.enc x1))],[]⟩) ?_ ?_
 ·exact leX [.p 7001 78 3 (rows QCm.enc ([]:List QCm))]
 ·clear a9;intro N y3 J b7;refine Qb tOk ?_;apply Qr J<;>intro _ J
  ·refine Qb tOk ?_;obtain⟨g6,J⟩:=Qe J;obtain⟨x7,c1,J⟩:=Qc J;obtain⟨Y,b9,J⟩:=Qc J;obtain⟨g9,J⟩:=Qe J;obtain⟨b2,b0,J⟩:=Qc J;obtain⟨U,a5,J⟩:=Qc J;obtain⟨b8,J⟩:=Qe J;obtain⟨b1,a8,J⟩:=Qc J;obtain⟨O,a6,J⟩:=Qc J;refine QQ tOk [.u 4 0 (.d (.str x7)) [],.u 5 0 (dI Y) [],.u 10 0 (.d (.str b2)) [],.u 11 0 (dI U) [],.u 16 0 (.d (.str b1)) [],.u 17 0 (dI O) []] 20 [] [0,0,3,7,15,31,0,0,192,448,1023,2047,0,0,12288,28672,65535,131071,262143,0] [1048575] (aI g6 (aI (Qp (Qh c1) (by kernel_rfl)) (aI (Qp (Zu b9) (by kernel_rfl)) (aI g9 (aI (Qp (Qh b0) (by kernel_rfl)) (aI (Qp (Z1 a5) (by kernel_rfl)) (aI b8 (aI (Qp (Qh a8) (by kernel_rfl)) (aI (Qp (Z1 a6) (by kernel_rfl)) (aK (Qb tOk ?_)))))))))));obtain⟨x18,a2,J⟩:=Qc J;refine Qm tOk a2 (fun I=>⟨0,65,[(3,.osl 6001 0 x1.length),(4,.osl 7001 0 N.1.length),(5,dI N.2),(6,.ref 6 0 0),(7,dI I)],[],[(6,.box 78 [dI Y,dI U,dI O]),(7001,.arr 78 3 N.1.length (rows QCm.enc N.1)),(6001,.arr 151 1 x1.length (rows QCe.enc x1))],[]⟩) ?_ ?_
   ·exact leX []
   ·clear a2;intro I y16 a1 a7;refine Qb tOk ?_;obtain⟨b3,a1⟩:=Qe a1;refine QQ tOk [] 14 [] [0,0,2,7,15,31,31,127,255,511,31,1055,4095,8191] [] (aI b3 (aK ?_));apply Qr a1<;>intro _ a1
    ·exact eX a1 []
    ·cases a1
     obtain rfl:=a7 _ rfl;obtain⟨c0,J⟩:=Qe J;obtain⟨b4,J⟩:=Qe J;obtain⟨c2,J⟩:=Qe J;obtain⟨b5,J⟩:=Qe J;obtain⟨b6,J⟩:=Qe J;refine Qd3 tOk [.a 4 [] (.osl 56 0 ((N.1.take I.toNat).length)) [(56,.arr 78 3 ((N.1.take I.toNat).length) (rows QCm.enc (N.1.take I.toNat)))],.a 7 [(56,.arr 78 3 ((N.1.take I.toNat).length) (rows QCm.enc (N.1.take I.toNat)))] (.osl 59 0 (((N.1.take I.toNat)++([(⟨Y,U,O⟩:QCm)]:List QCm)).length)) [(59,.arr 78 3 (((N.1.take I.toNat)++([(⟨Y,U,O⟩:QCm)]:List QCm)).length) (rows QCm.enc ((N.1.take I.toNat)++([(⟨Y,U,O⟩:QCm)]:List QCm))))],.a 11 [(59,.arr 78 3 (((N.1.take I.toNat)++([(⟨Y,U,O⟩:QCm)]:List QCm)).length) (rows QCm.enc ((N.1.take I.toNat)++([(⟨Y,U,O⟩:QCm)]:List QCm))))] (.osl 63 0 ((((N.1.take I.toNat)++([(⟨Y,U,O⟩:QCm)]:List QCm))++(((N.1).take (I.toNat+(QbP ((N.1.length:Nat):Int) I))).drop I.toNat)).length)) [(63,.arr 78 3 ((((N.1.take I.toNat)++([(⟨Y,U,O⟩:QCm)]:List QCm))++(((N.1).take (I.toNat+(QbP ((N.1.length:Nat):Int) I))).drop I.toNat)).length) (rows QCm.enc (((N.1.take I.toNat)++([(⟨Y,U,O⟩:QCm)]:List QCm))++(((N.1).take (I.toNat+(QbP ((N.1.length:Nat):Int) I))).drop I.toNat))))]] 12 [] [0,0,0,6,15,0,32,127,0,0,768,2047] [4095] [] (aI c0 (aI (by(conv=>whnf);exact⟨b4,Qx9 (enc:=QCm.enc) (ys:=N.1.take I.toNat) ⟨rfl,rfl⟩⟩) (Z6 (enc:=QCm.enc) ([(⟨Y,U,O⟩:QCm)]:List QCm) (aI (by(conv=>whnf);exact⟨c2,QdW (enc:=QCm.enc) (xs:=(N.1.take I.toNat)) (ys:=([(⟨Y,U,O⟩:QCm)]:List QCm)) ⟨rfl,rfl⟩⟩) (aI b5 (aI (by(conv=>whnf);exact⟨b6,QdW (enc:=QCm.enc) (xs:=((N.1.take I.toNat)++([(⟨Y,U,O⟩:QCm)]:List QCm))) (ys:=((N.1).take (I.toNat+(QbP ((N.1.length:Nat):Int) I))).drop I.toNat) ⟨rfl,rfl⟩⟩) (aK ?_)))))));exact eX J [.s [(63,7001),(7001,63)]]
  ·cases J
   cases b7 _ rfl
   cases h
   exact lfP [.s [(5001,7001),(7001,5001)]]
def Jb (a0:(List QCj)) (N:QCj):Option ((List QCj)):=
 bd (lp (σ:=Int) (β:=(Int)) (fun I=>
 gd ((decide (I<((a0.length:Nat):Int)))=true->((0:Int)<=I∧I<((a0.length:Nat):Int)))<|
 gd ((decide (((a0.getD I.toNat default).Addr)<N.Addr))=false->((decide (I<((a0.length:Nat):Int)))=true->((0:Int)<=I∧I<((a0.length:Nat):Int))))<|
 gd ((((a0.getD I.toNat default).Addr)==N.Addr)=true->((decide (((a0.getD I.toNat default).Addr)<N.Addr))=false->((decide (I<((a0.length:Nat):Int)))=true->((0:Int)<=I∧I<((a0.length:Nat):Int)))))<|
(if((decide (I<((a0.length:Nat):Int)))&&((decide (((a0.getD I.toNat default).Addr)<N.Addr))||((((a0.getD I.toNat default).Addr)==N.Addr)&&(decide (((a0.getD I.toNat default).Len)<N.Len)))))=true then
 some (.inl (IntKind.i64.wrap (I+1)))
else
 some (.inr I))) 0) fun J=>
 gd ((decide (J<((a0.length:Nat):Int)))=true->((0:Int)<=J∧J<((a0.length:Nat):Int)))<|
(if((decide (J<((a0.length:Nat):Int)))&&((((a0.getD J.toNat default).Addr)==N.Addr)&&((((a0.getD J.toNat default).Len)==N.Len)&&true)))=true then
 some a0
else
 gd ((0:Int)<=(0:Int)∧(0:Int)<=J∧J<=((a0.length:Nat):Int))<|
 gd (((0)+(J.toNat))*(16+1)<=70368744177664)<|
 gd ((((a0.take J.toNat).length)+(([N]:List QCj).length))*(16+1)<=70368744177664)<|
 gd ((0:Int)<=J∧J<=((a0.length:Nat):Int)∧((a0.length:Nat):Int)<=((a0.length:Nat):Int))<|
 gd (((((a0.take J.toNat)++([N]:List QCj)).length)+((QbP ((a0.length:Nat):Int) J)))*(16+1)<=70368744177664)<|
 some (((a0.take J.toNat)++([N]:List QCj))++(((a0).take (J.toNat+(QbP ((a0.length:Nat):Int) J))).drop J.toNat)))
theorem Qcl {a0:(List QCj)} {J:QCj} {r:(List QCj)} (h:Jb a0 J=some r):EffC prog 132 [.d (slD QCj.enc a0),.agg [dI J.Addr,dI J.Len]] [] (.d (slD QCj.enc r)) []:=by
 refine eY tOk f132 rfl (Qb tOk ?_);obtain⟨x4,O,h⟩:=Qc h;refine Qm tOk O (fun I=>⟨0,67,[(0,.d (slD QCj.enc a0)),(3,.ref 3 0 0),(5,dI I)],[],[(3,.box 69 [dI J.Addr,dI J.Len])],[⟨[],[]⟩]⟩) ?_ ?_
 ·exact leX []
 ·clear O;intro I y2 N a6;refine Qb tOk ?_;obtain⟨g5,N⟩:=Qe N;obtain⟨g6,N⟩:=Qe N;obtain⟨g7,N⟩:=Qe N;refine QQ tOk [] 34 [] [0,0,2,7,15,31,31,127,255,511,31,1055,4095,8191,16383,16383,65535,131071,262143,16383,540671,2097151,4194303,8388607,8388607,33554431,67108863,134217727,8388607,276824063,1073741823,2147483647,4294967295,8589934591] [] (aI g5 (aI g6 (aI g7 (aK ?_))));apply Qr N<;>intro _ N
  ·exact eX N []
  ·cases N
   obtain rfl:=a6 _ rfl;refine Qb tOk ?_;obtain⟨g9,h⟩:=Qe h;refine QQ tOk [] 12 [] [0,0,2,7,15,31,31,127,255,31,1023,2047] [] (aI g9 (aK ?_));apply Qr h<;>intro _ h
   ·cases h
    exact lfE []
   ·obtain⟨a5,h⟩:=Qe h;obtain⟨a7,h⟩:=Qe h;obtain⟨a2,h⟩:=Qe h;obtain⟨Y,h⟩:=Qe h;obtain⟨U,h⟩:=Qe h;refine Qd3 tOk [.a 4 [] (.osl 59 0 ((a0.take I.toNat).length)) [(59,.arr 69 2 ((a0.take I.toNat).length) (rows QCj.enc (a0.take I.toNat)))],.a 7 [(59,.arr 69 2 ((a0.take I.toNat).length) (rows QCj.enc (a0.take I.toNat)))] (.osl 62 0 (((a0.take I.toNat)++([J]:List QCj)).length)) [(62,.arr 69 2 (((a0.take I.toNat)++([J]:List QCj)).length) (rows QCj.enc ((a0.take I.toNat)++([J]:List QCj))))],.a 11 [(62,.arr 69 2 (((a0.take I.toNat)++([J]:List QCj)).length) (rows QCj.enc ((a0.take I.toNat)++([J]:List QCj))))] (.osl 66 0 ((((a0.take I.toNat)++([J]:List QCj))++(((a0).take (I.toNat+(QbP ((a0.length:Nat):Int) I))).drop I.toNat)).length)) [(66,.arr 69 2 ((((a0.take I.toNat)++([J]:List QCj))++(((a0).take (I.toNat+(QbP ((a0.length:Nat):Int) I))).drop I.toNat)).length) (rows QCj.enc (((a0.take I.toNat)++([J]:List QCj))++(((a0).take (I.toNat+(QbP ((a0.length:Nat):Int) I))).drop I.toNat))))]] 13 [] [0,0,0,6,15,0,32,127,0,0,768,2047,4095] [] [] (aI ⟨a5,.inr rfl⟩ (aI (by(conv=>whnf);exact⟨a7,Qx9 (enc:=QCj.enc) (ys:=a0.take I.toNat) ⟨rfl,rfl⟩⟩) (Z6 (enc:=QCj.enc) ([J]:List QCj) (aI (by(conv=>whnf);exact⟨a2,QdW (enc:=QCj.enc) (xs:=(a0.take I.toNat)) (ys:=([J]:List QCj)) ⟨rfl,rfl⟩⟩) (aI ⟨Y,.inr rfl⟩ (aI (by(conv=>whnf);exact⟨U,QdW (enc:=QCj.enc) (xs:=((a0.take I.toNat)++([J]:List QCj))) (ys:=((a0).take (I.toNat+(QbP ((a0.length:Nat):Int) I))).drop I.toNat) ⟨rfl,rfl⟩⟩) (aK ?_)))))));cases h;exact lfE [.f [66]]
def JY (a0:QCq):Option ((List QCj)):=
 bd (lp (σ:=List QCj×Int) (β:=((List QCj))) (fun N=>
(if(decide (N.2<((a0.ports.length:Nat):Int)))=true then
 gd ((0:Int)<=N.2∧N.2<((a0.ports.length:Nat):Int))<|
 gd ((0:Int)<=N.2∧N.2<((a0.ports.length:Nat):Int))<|
 bd (Jb N.1 (⟨(a0.ports.getD N.2.toNat default).Addr,(a0.ports.getD N.2.toNat default).Len⟩:QCj)) fun x7=>
 some (.inl (x7,IntKind.i64.wrap (N.2+1)))
else
 some (.inr N.1))) (([]:List QCj),0)) fun x4=>
 bd (lp (σ:=List QCj×Int) (β:=((List QCj))) (fun O=>
(if(decide (O.2<((a0.vias.length:Nat):Int)))=true then
 gd ((0:Int)<=O.2∧O.2<((a0.vias.length:Nat):Int))<|
 gd ((0:Int)<=O.2∧O.2<((a0.vias.length:Nat):Int))<|
 bd (Jb O.1 (⟨(a0.vias.getD O.2.toNat default).Addr,(a0.vias.getD O.2.toNat default).Len⟩:QCj)) fun a1=>
 some (.inl (a1,IntKind.i64.wrap (O.2+1)))
else
 some (.inr O.1))) (x4,0)) fun Y=>
 bd (lp (σ:=List QCj×Int) (β:=((List QCj))) (fun I=>
(if(decide (I.2<((a0.heard.length:Nat):Int)))=true then
 bd (lp (σ:=List QCj×Int) (β:=((List QCj))) (fun J=>
 gd ((0:Int)<=I.2∧I.2<((a0.heard.length:Nat):Int))<|
(if(decide (J.2<((((a0.heard.getD I.2.toNat default).Entries).length:Nat):Int)))=true then
 gd ((0:Int)<=I.2∧I.2<((a0.heard.length:Nat):Int))<|
 gd ((0:Int)<=J.2∧J.2<((((a0.heard.getD I.2.toNat default).Entries).length:Nat):Int))<|
 gd ((0:Int)<=I.2∧I.2<((a0.heard.length:Nat):Int))<|
 gd ((0:Int)<=J.2∧J.2<((((a0.heard.getD I.2.toNat default).Entries).length:Nat):Int))<|
 bd (Jb J.1 (⟨(((a0.heard.getD I.2.toNat default).Entries).getD J.2.toNat default).Addr,(((a0.heard.getD I.2.toNat default).Entries).getD J.2.toNat default).Len⟩:QCj)) fun a2=>
 some (.inl (a2,IntKind.i64.wrap (J.2+1)))
else
 some (.inr J.1))) (I.1,0)) fun a5=>
 some (.inl (a5,IntKind.i64.wrap (I.2+1)))
else
 some (.inr I.1))) (Y,0)) fun U=>
 some U
theorem Qgl {a0:QCq} {r:(List QCj)} (h:JY a0=some r):EffC prog 77 [.agg [.d (slD QCn.enc a0.ports),.d (slD QCo.enc a0.vias),.d (slD QCm.enc a0.peers),.d (slD QCh.enc a0.heard)]] [] (.d (slD QCj.enc r)) []:=by
 refine eY tOk f77 rfl (Qb tOk ?_);obtain⟨x4,a7,h⟩:=Qc h;refine Qm tOk a7 (fun s1=>⟨0,95,[(1,.ref 1 0 0),(3,.d (slD QCj.enc s1.1)),(4,dI s1.2)],[],[(1,.box 119 [.d (slD QCn.enc a0.ports),.d (slD QCo.enc a0.vias),.d (slD QCm.enc a0.peers),.d (slD QCh.enc a0.heard)])],[⟨[],[]⟩]⟩) ?_ ?_
 ·exact leX []
 ·clear a7;intro s1 y2 O b2;refine Qb tOk ?_;apply Qr O<;>intro _ O
  ·refine Qb tOk ?_;obtain⟨g5,O⟩:=Qe O;obtain⟨g6,O⟩:=Qe O;obtain⟨x7,c0,O⟩:=Qc O;refine Qd3 tOk [.e 14 [] (.d (slD QCj.enc x7)) [] []] 15 [] [0,0,2,0,14,30,62,0,128,0,896,1920,3968,8190,16383] [32767] [] (aI g5 (aI g6 (aI (eD [] 0 (Qcl c0)) (aK ?_))));exact eX O []
  ·cases O
   cases b2 _ rfl
   refine Qb tOk ?_;obtain⟨x12,a1,h⟩:=Qc h;refine Qm tOk a1 (fun s9=>⟨0,95,[(1,.ref 1 0 0),(3,.d (slD QCj.enc s9.1)),(5,dI s9.2)],[],[(1,.box 119 [.d (slD QCn.enc a0.ports),.d (slD QCo.enc a0.vias),.d (slD QCm.enc a0.peers),.d (slD QCh.enc a0.heard)])],[⟨[],[]⟩]⟩) ?_ ?_
   ·exact leX []
   ·clear a1;intro s9 y10 J b0;refine Qb tOk ?_;apply Qr J<;>intro _ J
    ·refine Qb tOk ?_;obtain⟨b9,J⟩:=Qe J;obtain⟨b5,J⟩:=Qe J;obtain⟨b7,a9,J⟩:=Qc J;refine Qd3 tOk [.e 14 [] (.d (slD QCj.enc b7)) [] []] 15 [] [0,0,2,0,14,30,62,0,128,0,896,1920,3968,8190,16383] [32767] [] (aI b9 (aI b5 (aI (eD [] 0 (Qcl a9)) (aK ?_))));exact eX J []
    ·cases J
     cases b0 _ rfl
     refine Qb tOk ?_;obtain⟨x20,a2,h⟩:=Qc h;refine Qm tOk a2 (fun U=>⟨0,95,[(1,.ref 1 0 0),(3,.d (slD QCj.enc U.1)),(6,dI U.2)],[],[(1,.box 119 [.d (slD QCn.enc a0.ports),.d (slD QCo.enc a0.vias),.d (slD QCm.enc a0.peers),.d (slD QCh.enc a0.heard)])],[⟨[],[]⟩]⟩) ?_ ?_
     ·exact leX []
     ·clear a2;intro U y18 N a6;refine Qb tOk ?_;apply Qr N<;>intro _ N
      ·refine Qb tOk ?_;obtain⟨x24,Y,N⟩:=Qc N;refine Qm tOk Y (fun a5=>⟨0,95,[(1,.ref 1 0 0),(3,.d (slD QCj.enc a5.1)),(6,dI U.2),(7,dI a5.2)],[],[(1,.box 119 [.d (slD QCn.enc a0.ports),.d (slD QCo.enc a0.vias),.d (slD QCm.enc a0.peers),.d (slD QCh.enc a0.heard)])],[⟨[],[]⟩]⟩) ?_ ?_
       ·exact leX []
       ·clear Y;intro a5 y22 I b1;refine Qb tOk (gdI I fun I=>?_);apply Qr I<;>intro _ I
        ·refine Qb tOk ?_;obtain⟨b8,I⟩:=Qe I;obtain⟨c1,I⟩:=Qe I;obtain⟨b6,I⟩:=Qe I;obtain⟨b3,I⟩:=Qe I;obtain⟨b4,a8,I⟩:=Qc I;refine Qd3 tOk [.e 22 [] (.d (slD QCj.enc b4)) [] []] 23 [] [0,0,2,0,14,30,62,0,254,510,1022,0,2048,0,14336,30720,63488,0,260096,522240,1046528,2097150,4194303] [8388607] [] (aI b8 (aI c1 (aI b6 (aI b3 (aI (eD [] 0 (Qcl a8)) (aK ?_))))));exact eX I []
        ·cases I
         cases b1 _ rfl
         exact eX N []
      ·cases N
       cases a6 _ rfl
       cases h
       exact lfE []
def QeW (a0:QCj) (I:Int):Option (Bool):=
 bd (Qv ((decide (I>=a0.Addr))=true) (QcV a0.Len)) fun J=>
 some ((decide (I>=a0.Addr))&&(decide (I<(IntKind.i64.wrap (a0.Addr+J)))))
theorem Qpo {a0:QCj} {J:Int} {r:Bool} (h:QeW a0 J=some r):PureC prog 196 [.agg [dI a0.Addr,dI a0.Len],dI J] (dB r) []:=by
 refine pY tOk f196 rfl ?_;obtain⟨O,I,h⟩:=Qc h;refine QQ tOk [.u 10 0 (dI O) []] 15 [] [0,0,2,7,15,31,31,95,31,287,799,2015,4095,8191,16383] [] (aI (QJ rfl rfl rfl rfl (by intro N;exact QiJ (Qt I N))) (aK ?_));cases h;exact lfP []
def QbZ (a0:(List QCn)) (J:Int):Option (Int):=
 bd (lp (σ:=Int) (β:=(Int⊕Unit)) (fun I=>
(if(decide (I<((a0.length:Nat):Int)))=true then
 gd ((0:Int)<=I∧I<((a0.length:Nat):Int))<|
 gd ((0:Int)<=I∧I<((a0.length:Nat):Int))<|
 bd (QeW (⟨(a0.getD I.toNat default).Addr,(a0.getD I.toNat default).Len⟩:QCj) J) fun O=>
(if O=true then
 some (.inr (.inl I))
else
 some (.inl (IntKind.i64.wrap (I+1))))
else
 some (.inr (.inr ())))) 0) fun U=>
(match U with
| .inl N=>
 some N
| .inr d9=>
 some (-1))
theorem QhC {a0:(List QCn)} {O:Int} {r:Int} (h:QbZ a0 O=some r):PureC prog 134 [.d (slD QCn.enc a0),dI O] (dI r) []:=by
 refine pY tOk f134 rfl (Qb tOk ?_);obtain⟨x4,J,h⟩:=Qc h;refine Qm tOk J (fun Y=>⟨0,26,[(0,.d (slD QCn.enc a0)),(1,dI O),(5,dI Y)],[],[],[]⟩) ?_ ?_
 ·exact leX []
 ·clear J;intro Y y2 I N;refine Qb tOk ?_;apply Qr I<;>intro _ I
  ·refine Qb tOk ?_;obtain⟨g5,I⟩:=Qe I;obtain⟨g6,I⟩:=Qe I;obtain⟨x7,U,I⟩:=Qc I;refine QQ tOk [.u 12 0 (dB x7) []] 13 [] [0,0,3,7,15,0,0,96,224,480,1023,0,4095] [] (aI g5 (aI g6 (aI (Qp (Qpo U) (by kernel_rfl)) (aK ?_))));apply Qr I<;>intro _ I
   ·cases I
    cases N _ rfl
    cases h
    exact lfP []
   ·exact eX I []
  ·cases I
   cases N _ rfl
   cases h
   exact lfP []
def QbF (a0:QCk) (I:QCk):Option (Bool):=
 some ((decide (a0.Next<I.Next))||((a0.Next==I.Next)&&(decide (a0.Port<I.Port))))
theorem QjF {a0:QCk} {I:QCk} {r:Bool} (h:QbF a0 I=some r):PureC prog 195 [.agg [dI a0.Next,dI a0.Port],.agg [dI I.Next,dI I.Port]] (dB r) []:=by
 refine pY tOk f195 rfl ?_;unfold QbF at h;cases h;exact lfP []
def QcX (a0:(List QCk)) (N:QCk):Option ((List QCk)):=
 bd (lp (σ:=Int) (β:=(Int)) (fun J=>
 gd ((decide (J<((a0.length:Nat):Int)))=true->((0:Int)<=J∧J<((a0.length:Nat):Int)))<|
 bd (Qv ((decide (J<((a0.length:Nat):Int)))=true) (QbF (a0.getD J.toNat default) N)) fun O=>
(if((decide (J<((a0.length:Nat):Int)))&&O)=true then
 some (.inl (IntKind.i64.wrap (J+1)))
else
 some (.inr J))) 0) fun I=>
 gd ((0:Int)<=(0:Int)∧(0:Int)<=I∧I<=((a0.length:Nat):Int))<|
 gd (((0)+(I.toNat))*(16+1)<=70368744177664)<|
 gd ((((a0.take I.toNat).length)+(([N]:List QCk).length))*(16+1)<=70368744177664)<|
 gd ((0:Int)<=I∧I<=((a0.length:Nat):Int)∧((a0.length:Nat):Int)<=((a0.length:Nat):Int))<|
 gd (((((a0.take I.toNat)++([N]:List QCk)).length)+((QbP ((a0.length:Nat):Int) I)))*(16+1)<=70368744177664)<|
(if(decide ((((((a0.take I.toNat)++([N]:List QCk))++(((a0).take (I.toNat+(QbP ((a0.length:Nat):Int) I))).drop I.toNat)).length:Nat):Int)>4))=true then
 gd ((0:Int)<=(0:Int)∧(0:Int)<=(4:Int)∧(4:Int)<=(((((a0.take I.toNat)++([N]:List QCk))++(((a0).take (I.toNat+(QbP ((a0.length:Nat):Int) I))).drop I.toNat)).length:Nat):Int))<|
 some ((((a0.take I.toNat)++([N]:List QCk))++(((a0).take (I.toNat+(QbP ((a0.length:Nat):Int) I))).drop I.toNat)).take ((4:Int).toNat))
else
 some (((a0.take I.toNat)++([N]:List QCk))++(((a0).take (I.toNat+(QbP ((a0.length:Nat):Int) I))).drop I.toNat)))
theorem QiK {a0:(List QCk)} {J:QCk} {r:(List QCk)} (h:QcX a0 J=some r):PureC prog 133 [.d (slD QCk.enc a0),.agg [dI J.Next,dI J.Port]] (.osl 5001 0 r.length) [⟨5001,43,2,r.length,rows QCk.enc r⟩]:=by
 refine pY tOk f133 rfl (Qb tOk ?_);obtain⟨x4,U,h⟩:=Qc h;refine Qm tOk U (fun I=>⟨0,39,[(0,.d (slD QCk.enc a0)),(3,.ref 3 0 0),(5,dI I)],[],[(3,.box 43 [dI J.Next,dI J.Port])],[]⟩) ?_ ?_
 ·exact leX []
 ·clear U;intro I y2 N a6;refine Qb tOk ?_;obtain⟨g5,N⟩:=Qe N;obtain⟨x6,a7,N⟩:=Qc N;refine QQ tOk [.u 10 0 (dB x6) []] 12 [] [0,0,2,7,15,31,31,127,255,31,1023,2047] [] (aI g5 (aI (QJ rfl rfl rfl rfl (by intro c0;exact QjF (Qt a7 c0))) (aK ?_)));apply Qr N<;>intro _ N
  ·exact eX N []
  ·cases N
   obtain rfl:=a6 _ rfl;obtain⟨g8,h⟩:=Qe h;obtain⟨g9,h⟩:=Qe h;obtain⟨a2,h⟩:=Qe h;obtain⟨a5,h⟩:=Qe h;obtain⟨Y,h⟩:=Qe h;refine Qd3 tOk [.a 4 [] (.osl 25 0 ((a0.take I.toNat).length)) [(25,.arr 43 2 ((a0.take I.toNat).length) (rows QCk.enc (a0.take I.toNat)))],.a 7 [(25,.arr 43 2 ((a0.take I.toNat).length) (rows QCk.enc (a0.take I.toNat)))] (.osl 28 0 (((a0.take I.toNat)++([J]:List QCk)).length)) [(28,.arr 43 2 (((a0.take I.toNat)++([J]:List QCk)).length) (rows QCk.enc ((a0.take I.toNat)++([J]:List QCk))))],.a 11 [(28,.arr 43 2 (((a0.take I.toNat)++([J]:List QCk)).length) (rows QCk.enc ((a0.take I.toNat)++([J]:List QCk))))] (.osl 32 0 ((((a0.take I.toNat)++([J]:List QCk))++(((a0).take (I.toNat+(QbP ((a0.length:Nat):Int) I))).drop I.toNat)).length)) [(32,.arr 43 2 ((((a0.take I.toNat)++([J]:List QCk))++(((a0).take (I.toNat+(QbP ((a0.length:Nat):Int) I))).drop I.toNat)).length) (rows QCk.enc (((a0.take I.toNat)++([J]:List QCk))++(((a0).take (I.toNat+(QbP ((a0.length:Nat):Int) I))).drop I.toNat))))]] 13 [] [0,0,0,6,15,0,32,127,0,0,768,2047,4095] [] [] (aI ⟨g8,.inr rfl⟩ (aI (by(conv=>whnf);exact⟨g9,Qx9 (enc:=QCk.enc) (ys:=a0.take I.toNat) ⟨rfl,rfl⟩⟩) (Z6 (enc:=QCk.enc) ([J]:List QCk) (aI (by(conv=>whnf);exact⟨a2,QdW (enc:=QCk.enc) (xs:=(a0.take I.toNat)) (ys:=([J]:List QCk)) ⟨rfl,rfl⟩⟩) (aI ⟨a5,.inr rfl⟩ (aI (by(conv=>whnf);exact⟨Y,QdW (enc:=QCk.enc) (xs:=((a0.take I.toNat)++([J]:List QCk))) (ys:=((a0).take (I.toNat+(QbP ((a0.length:Nat):Int) I))).drop I.toNat) ⟨rfl,rfl⟩⟩) (aK (Qb tOk ?_))))))));apply Qr h<;>intro _ h
   ·obtain⟨O,h⟩:=Qe h;refine aI O ?_;cases h
    try simp only[Yj,Ym,XG,Y8,Yd,QX] at O
    try simp only[Yj,Ym,XG,Y8,Yd,QX] at O
    exact lfP [.c 4,.s [(32,5001),(5001,32)]]
   ·cases h
    exact lfP [.s [(32,5001),(5001,32)]]
def QaW (a0:QCq) (O:QCj):Option ((List QCk)):=
 bd (lp (σ:=Int) (β:=((Nat×(List QCk))⊕Unit)) (fun J=>
(if(decide (J<((a0.ports.length:Nat):Int)))=true then
 gd ((0:Int)<=J∧J<((a0.ports.length:Nat):Int))<|
 gd ((((a0.ports.getD J.toNat default).Addr)==O.Addr)=true->((0:Int)<=J∧J<((a0.ports.length:Nat):Int)))<|
(if((((a0.ports.getD J.toNat default).Addr)==O.Addr)&&(((a0.ports.getD J.toNat default).Len)==O.Len))=true then
 gd ((0:Int)<=J∧J<((a0.ports.length:Nat):Int))<|
 some (.inr (.inl (([(⟨0,(a0.ports.getD J.toNat default).Port⟩:QCk)]:List QCk).length,([(⟨0,(a0.ports.getD J.toNat default).Port⟩:QCk)]:List QCk))))
else
 some (.inl (IntKind.i64.wrap (J+1))))
else
 some (.inr (.inr ())))) 0) fun x4=>
(match x4 with
| .inl d8=>
 some d8.2
| .inr d9=>
 bd (lp (σ:=List QCk×Int) (β:=(Nat×(List QCk))) (fun I=>
(if(decide (I.2<((a0.vias.length:Nat):Int)))=true then
 gd ((0:Int)<=I.2∧I.2<((a0.vias.length:Nat):Int))<|
 gd ((((a0.vias.getD I.2.toNat default).Addr)==O.Addr)=true->((0:Int)<=I.2∧I.2<((a0.vias.length:Nat):Int)))<|
(if((((a0.vias.getD I.2.toNat default).Addr)==O.Addr)&&(((a0.vias.getD I.2.toNat default).Len)==O.Len))=true then
 gd ((0:Int)<=I.2∧I.2<((a0.vias.length:Nat):Int))<|
 gd ((0:Int)<=I.2∧I.2<((a0.vias.length:Nat):Int))<|
 bd (QbZ a0.ports ((a0.vias.getD I.2.toNat default).Next)) fun N=>
 gd ((0:Int)<=N∧N<((a0.ports.length:Nat):Int))<|
 bd (QcX I.1 (⟨(a0.vias.getD I.2.toNat default).Next,(a0.ports.getD N.toNat default).Port⟩:QCk)) fun U=>
 some (.inl (U,IntKind.i64.wrap (I.2+1)))
else
 some (.inl (I.1,IntKind.i64.wrap (I.2+1))))
else
 some (.inr (I.1.length,I.1)))) (([]:List QCk),0)) fun Y=>
 some Y.2)
theorem Qh3 {a0:QCq} {Y:QCj} {r:(List QCk)} (h:QaW a0 Y=some r):PureC prog 78 [.agg [.d (slD QCn.enc a0.ports),.d (slD QCo.enc a0.vias),.d (slD QCm.enc a0.peers),.d (slD QCh.enc a0.heard)],.agg [dI Y.Addr,dI Y.Len]] (.osl 5001 0 r.length) [⟨5001,43,2,r.length,rows QCk.enc r⟩]:=by
 refine pY tOk f78 rfl (Qb tOk ?_);obtain⟨x4,a2,h⟩:=Qc h;refine Qm tOk a2 (fun s1=>⟨0,95,[(2,.ref 2 0 0),(3,.ref 3 0 0),(5,.d (.nil)),(6,dI s1)],[],[(3,.box 69 [dI Y.Addr,dI Y.Len]),(2,.box 119 [.d (slD QCn.enc a0.ports),.d (slD QCo.enc a0.vias),.d (slD QCm.enc a0.peers),.d (slD QCh.enc a0.heard)])],[]⟩) ?_ ?_
 ·exact leX []
 ·clear a2;intro s1 y2 J a5;refine Qb tOk ?_;apply Qr J<;>intro _ J
  ·refine Qb tOk ?_;obtain⟨g5,J⟩:=Qe J;obtain⟨g6,J⟩:=Qe J;refine QQ tOk [] 20 [] [0,1,0,7,15,31,0,64,255,511,1023,2047,1023,8191,16383,32767,1023,66559,262143,524287] [] (aI g5 (aI g6 (aK ?_)));apply Qr J<;>intro _ J
   ·refine gdI J fun J=>Z6 (enc:=QCk.enc) ([(⟨0,(a0.ports.getD s1.toNat default).Port⟩:QCk)]:List QCk) ?_;cases J;cases a5 _ rfl;cases h;exact lfP [.s [(43,5001),(5001,43)]]
   ·exact eX J []
  ·cases J
   cases a5 _ rfl
   refine Qb tOk ?_;obtain⟨x13,O,h⟩:=Qc h;refine Qm tOk O (fun N=>⟨0,95,[(2,.ref 2 0 0),(3,.ref 3 0 0),(5,.osl 7001 0 N.1.length),(7,dI N.2)],[],[(7001,.arr 43 2 N.1.length (rows QCk.enc N.1)),(3,.box 69 [dI Y.Addr,dI Y.Len]),(2,.box 119 [.d (slD QCn.enc a0.ports),.d (slD QCo.enc a0.vias),.d (slD QCm.enc a0.peers),.d (slD QCh.enc a0.heard)])],[]⟩) ?_ ?_
   ·exact leX [.p 7001 43 2 (rows QCk.enc ([]:List QCk))]
   ·clear O;intro N y11 I a6;refine Qb tOk ?_;apply Qr I<;>intro _ I
    ·refine Qb tOk ?_;obtain⟨b1,I⟩:=Qe I;obtain⟨b4,I⟩:=Qe I;refine QQ tOk [] 20 [] [0,1,0,7,15,31,0,64,255,511,1023,2047,1023,8191,16383,32767,1023,66559,262143,524287] [] (aI b1 (aI b4 (aK ?_)));apply Qr I<;>intro _ I
     ·obtain⟨b3,I⟩:=Qe I;obtain⟨b2,I⟩:=Qe I;obtain⟨a9,a8,I⟩:=Qc I;obtain⟨b0,I⟩:=Qe I;obtain⟨U,a7,I⟩:=Qc I;refine QQ tOk [.u 17 0 (dI a9) [],.u 22 1000 (.osl 5001 0 U.length) [⟨5001,43,2,U.length,rows QCk.enc U⟩]] 23 [] [0,0,2,0,14,30,62,0,128,0,512,0,2048,0,14336,30720,63488,130560,262016,524160,1048448,2097150,4194303] [8388607] (aI b3 (aI b2 (aI (Qp (QhC a8) (by kernel_rfl)) (aI b0 (aI (Qp (QiK a7) (by kernel_rfl)) (aK ?_))))));exact eX I [.s [(6001,7001),(7001,6001)]]
     ·exact eX I []
    ·cases I
     cases a6 _ rfl
     cases h
     exact lfP [.s [(5001,7001),(7001,5001)]]
def QdJ (a0:(List QCg)) (J:QCg):Option (Int):=
 bd (lp (σ:=Int) (β:=(Int⊕Unit)) (fun I=>
(if(decide (I<((a0.length:Nat):Int)))=true then
 gd ((0:Int)<=I∧I<((a0.length:Nat):Int))<|
 gd ((((a0.getD I.toNat default).Addr)==J.Addr)=true->((0:Int)<=I∧I<((a0.length:Nat):Int)))<|
(if((((a0.getD I.toNat default).Addr)==J.Addr)&&(((a0.getD I.toNat default).Len)==J.Len))=true then
 some (.inr (.inl I))
else
 some (.inl (IntKind.i64.wrap (I+1))))
else
 some (.inr (.inr ())))) 0) fun O=>
(match O with
| .inl N=>
 some N
| .inr d8=>
 some (-1))
theorem Qpp {a0:(List QCg)} {O:QCg} {r:Int} (h:QdJ a0 O=some r):PureC prog 197 [.d (slD QCg.enc a0),.agg (hnC O)] (dI r) []:=by
 refine pY tOk f197 rfl (Qb tOk ?_);obtain⟨x4,J,h⟩:=Qc h;refine Qm tOk J (fun U=>⟨0,31,[(0,.d (slD QCg.enc a0)),(3,.ref 3 0 0),(5,dI U)],[],[(3,.box 85 (hnC O))],[]⟩) ?_ ?_
 ·exact leX []
 ·clear J;intro U y2 I N;refine Qb tOk ?_;apply Qr I<;>intro _ I
  ·refine Qb tOk ?_;obtain⟨Y,I⟩:=Qe I;obtain⟨g6,I⟩:=Qe I;refine QQ tOk [] 18 [] [0,0,3,7,15,0,32,127,255,511,511,2047,4095,8191,511,16895,65535,131071] [] (aI Y (aI g6 (aK ?_)));apply Qr I<;>intro _ I
   ·cases I
    cases N _ rfl
    cases h
    exact lfP []
   ·exact eX I []
  ·cases I
   cases N _ rfl
   cases h
   exact lfP []
def Qb0 (a0:QCh) (J:QCj):Option (Int):=
 bd (QdJ a0.Entries (⟨J.Addr,J.Len,0,0⟩:QCg)) fun I=>
(if(decide (I<0))=true then
 some 0
else
 gd ((0:Int)<=I∧I<((a0.Entries.length:Nat):Int))<|
 some ((a0.Entries.getD I.toNat default).Cost))
theorem QhD {a0:QCh} {I:QCj} {r:Int} (h:Qb0 a0 I=some r):PureC prog 135 [.agg [dI a0.Peer,.d (slD QCg.enc a0.Entries)],.agg [dI I.Addr,dI I.Len]] (dI r) []:=by
 refine pY tOk f135 rfl (bC h 0 (fun _=>Qpp) fun x1 h=>Qb tOk ?_);apply Qr h<;>intro _ h
 ·cases h
  exact lfP []
 ·refine gdI h fun h=>?_;cases h;exact lfP []
def Qb1 (a0:(List QCm)) (J:Int):Option (Bool):=
 bd (lp (σ:=Int) (β:=(Unit⊕Unit)) (fun I=>
(if(decide (I<((a0.length:Nat):Int)))=true then
 gd ((0:Int)<=I∧I<((a0.length:Nat):Int))<|
(if(((a0.getD I.toNat default).Addr)==J)=true then
 some (.inr (.inl ()))
else
 some (.inl (IntKind.i64.wrap (I+1))))
else
 some (.inr (.inr ())))) 0) fun N=>
(match N with
| .inl d6=>
 some true
| .inr d7=>
 some false)
theorem QhE {a0:(List QCm)} {O:Int} {r:Bool} (h:Qb1 a0 O=some r):PureC prog 136 [.d (slD QCm.enc a0),dI O] (dB r) []:=by
 refine pY tOk f136 rfl (Qb tOk ?_);obtain⟨x4,J,h⟩:=Qc h;refine Qm tOk J (fun U=>⟨0,19,[(0,.d (slD QCm.enc a0)),(1,dI O),(5,dI U)],[],[],[]⟩) ?_ ?_
 ·exact leX []
 ·clear J;intro U y2 I N;refine Qb tOk ?_;apply Qr I<;>intro _ I
  ·refine Qb tOk (gdI I fun I=>?_);apply Qr I<;>intro _ I
   ·cases I
    cases N _ rfl
    cases h
    exact lfP []
   ·exact eX I []
  ·cases I
   cases N _ rfl
   cases h
   exact lfP []
def Qao (a0:QCq) (a1:QCj):Option ((List QCk)):=
 bd (lp (σ:=Int×Int) (β:=(Int)) (fun J=>
(if(decide (J.2<((a0.heard.length:Nat):Int)))=true then
 gd ((0:Int)<=J.2∧J.2<((a0.heard.length:Nat):Int))<|
 bd (Qb0 (a0.heard.getD J.2.toNat default) a1) fun Y=>
 gd ((decide (Y>0))=true->((0:Int)<=J.2∧J.2<((a0.heard.length:Nat):Int)))<|
 bd (Qv ((decide (Y>0))=true) (Qb1 a0.peers ((a0.heard.getD J.2.toNat default).Peer))) fun x8=>
(if(((decide (Y>0))&&x8)&&((J.1==0)||(decide (Y<J.1))))=true then
 some (.inl (Y,IntKind.i64.wrap (J.2+1)))
else
 some (.inl (J.1,IntKind.i64.wrap (J.2+1))))
else
 some (.inr J.1))) (0,0)) fun N=>
 bd (lp (σ:=List QCk×Int) (β:=(Nat×(List QCk))) (fun I=>
(if(decide (I.2<((a0.heard.length:Nat):Int)))=true then
 gd ((decide (N>0))=true->((0:Int)<=I.2∧I.2<((a0.heard.length:Nat):Int)))<|
 bd (Qv ((decide (N>0))=true) (Qb0 (a0.heard.getD I.2.toNat default) a1)) fun U=>
 gd (((decide (N>0))&&(U==N))=true->((0:Int)<=I.2∧I.2<((a0.heard.length:Nat):Int)))<|
 bd (Qv (((decide (N>0))&&(U==N))=true) (Qb1 a0.peers ((a0.heard.getD I.2.toNat default).Peer))) fun a5=>
(if(((decide (N>0))&&(U==N))&&a5)=true then
 gd ((0:Int)<=I.2∧I.2<((a0.heard.length:Nat):Int))<|
 gd ((0:Int)<=I.2∧I.2<((a0.heard.length:Nat):Int))<|
 bd (QbZ a0.ports ((a0.heard.getD I.2.toNat default).Peer)) fun O=>
 gd ((0:Int)<=O∧O<((a0.ports.length:Nat):Int))<|
 bd (QcX I.1 (⟨(a0.heard.getD I.2.toNat default).Peer,(a0.ports.getD O.toNat default).Port⟩:QCk)) fun a2=>
 some (.inl (a2,IntKind.i64.wrap (I.2+1)))
else
 some (.inl (I.1,IntKind.i64.wrap (I.2+1))))
else
 some (.inr (I.1.length,I.1)))) (([]:List QCk),0)) fun a6=>
 some a6.2
theorem QiL {a0:QCq} {Y:QCj} {r:(List QCk)} (h:Qao a0 Y=some r):PureC prog 79 [.agg [.d (slD QCn.enc a0.ports),.d (slD QCo.enc a0.vias),.d (slD QCm.enc a0.peers),.d (slD QCh.enc a0.heard)],.agg [dI Y.Addr,dI Y.Len]] (.osl 5001 0 r.length) [⟨5001,43,2,r.length,rows QCk.enc r⟩]:=by
 refine pY tOk f79 rfl (Qb tOk ?_);obtain⟨x4,a5,h⟩:=Qc h;refine Qm tOk a5 (fun s1=>⟨0,103,[(2,.ref 2 0 0),(3,.ref 3 0 0),(5,dI s1.1),(6,dI s1.2)],[],[(3,.box 69 [dI Y.Addr,dI Y.Len]),(2,.box 119 [.d (slD QCn.enc a0.ports),.d (slD QCo.enc a0.vias),.d (slD QCm.enc a0.peers),.d (slD QCh.enc a0.heard)])],[]⟩) ?_ ?_
 ·exact leX []
 ·clear a5;intro s1 y2 J b1;refine Qb tOk ?_;apply Qr J<;>intro _ J
  ·refine Qb tOk ?_;obtain⟨g5,J⟩:=Qe J;obtain⟨x6,b6,J⟩:=Qc J;refine QQ tOk [.u 6 0 (dI x6) []] 8 [] [0,1,0,7,15,0,63,127] [] (aI g5 (aI (Qp (QhD b6) (by kernel_rfl)) (aK ?_)));obtain⟨g7,J⟩:=Qe J;obtain⟨x8,b8,J⟩:=Qc J;refine QQ tOk [.u 11 0 (dB x8) []] 22 [] [0,1,3,7,15,7,39,7,231,487,999,2047,4095,8191,16383,32767,65535,131071,131071,524287,1048575,2097151] [] (aI g7 (aI (QJ rfl rfl rfl rfl (by intro c0;exact QhE (Qt b8 c0))) (aK ?_)));apply Qr J<;>intro _ J
   ·exact eX J []
   ·exact eX J []
  ·cases J
   cases b1 _ rfl
   refine Qb tOk ?_;obtain⟨x13,O,h⟩:=Qc h;refine Qm tOk O (fun N=>⟨0,103,[(2,.ref 2 0 0),(3,.ref 3 0 0),(5,dI s1.1),(8,.osl 7001 0 N.1.length),(9,dI N.2)],[],[(7001,.arr 43 2 N.1.length (rows QCk.enc N.1)),(3,.box 69 [dI Y.Addr,dI Y.Len]),(2,.box 119 [.d (slD QCn.enc a0.ports),.d (slD QCo.enc a0.vias),.d (slD QCm.enc a0.peers),.d (slD QCh.enc a0.heard)])],[]⟩) ?_ ?_
   ·exact leX [.p 7001 43 2 (rows QCk.enc ([]:List QCk))]
   ·clear O;intro N y11 I a7;refine Qb tOk ?_;apply Qr I<;>intro _ I
    ·refine Qb tOk ?_;obtain⟨b4,I⟩:=Qe I;obtain⟨b5,a8,I⟩:=Qc I;obtain⟨c1,I⟩:=Qe I;obtain⟨b7,a2,I⟩:=Qc I;refine QQ tOk [.u 9 0 (dI b5) [],.u 22 0 (dB b7) []] 24 [] [0,1,3,7,15,7,63,127,7,511,7,2047,4095,8191,16383,32767,16383,81919,16383,475135,999423,2047999,4194303,8388607] [] (aI b4 (aI (QJ rfl rfl rfl rfl (by intro c0;exact QhD (Qt a8 c0))) (aI c1 (aI (QJ rfl rfl rfl rfl (by intro c0;exact QhE (Qt a2 c0))) (aK ?_)))));apply Qr I<;>intro _ I
     ·obtain⟨b2,I⟩:=Qe I;obtain⟨b3,I⟩:=Qe I;obtain⟨b0,a9,I⟩:=Qc I;obtain⟨b9,I⟩:=Qe I;obtain⟨U,a6,I⟩:=Qc I;refine QQ tOk [.u 17 0 (dI b0) [],.u 22 1000 (.osl 5001 0 U.length) [⟨5001,43,2,U.length,rows QCk.enc U⟩]] 23 [] [0,0,2,0,14,30,62,0,128,0,512,0,2048,0,14336,30720,63488,130560,262016,524160,1048448,2097150,4194303] [8388607] (aI b2 (aI b3 (aI (Qp (QhC a9) (by kernel_rfl)) (aI b9 (aI (Qp (QiK a6) (by kernel_rfl)) (aK ?_))))));exact eX I [.s [(6001,7001),(7001,6001)]]
     ·exact eX I []
    ·cases I
     cases a7 _ rfl
     cases h
     exact lfP [.s [(5001,7001),(7001,5001)]]
def Qei (a0:(List QCl)) (J:(List Bool)):Option ((List QCl)):=
 bd (lp (σ:=List QCl×Int×Int) (β:=(Nat×(List QCl))) (fun I=>
(if(decide (I.2.2>=0))=true then
 gd ((decide (I.2.1>16))=true->((0:Int)<=I.2.2∧I.2.2<((J.length:Nat):Int)))<|
(if((decide (I.2.1>16))&&(!(J.getD I.2.2.toNat default)))=true then
 some (.inl (I.1,IntKind.i64.wrap (I.2.1-1),IntKind.i64.wrap (I.2.2-1)))
else
 gd ((0:Int)<=I.2.2∧I.2.2<((a0.length:Nat):Int))<|
 gd (((([(a0.getD I.2.2.toNat default)]:List QCl).length)+(I.1.length))*(40+1)<=70368744177664)<|
 some (.inl ((([(a0.getD I.2.2.toNat default)]:List QCl)++I.1),I.2.1,IntKind.i64.wrap (I.2.2-1))))
else
 some (.inr (I.1.length,I.1)))) (([]:List QCl),((a0.length:Nat):Int),IntKind.i64.wrap (((a0.length:Nat):Int) -1))) fun N=>
 some N.2
theorem Qn6 {a0:(List QCl)} {O:(List Bool)} {r:(List QCl)} (h:Qei a0 O=some r):EffC prog 80 [.d (slD QCl.enc a0),.d (slD QcU O)] [] (.osl 5001 0 r.length) [(5001,.arr 39 3 r.length (rows QCl.enc r))]:=by
 refine eY tOk f80 rfl (Qb tOk ?_);obtain⟨x4,N,h⟩:=Qc h;refine Qm tOk N (fun J=>⟨0,37,[(0,.d (slD QCl.enc a0)),(1,.d (slD QcU O)),(5,dI J.2.1),(6,.osl 7001 0 J.1.length),(7,dI J.2.2)],[],[(7001,.arr 39 3 J.1.length (rows QCl.enc J.1))],[⟨[],[]⟩]⟩) ?_ ?_
 ·exact leX [.p 7001 39 3 (rows QCl.enc ([]:List QCl))]
 ·clear N;intro J y2 I U;refine Qb tOk ?_;apply Qr I<;>intro _ I
  ·refine Qb tOk (Qb tOk (gdI I fun I=>?_));apply Qr I<;>intro _ I
   ·exact eX I []
   ·refine gdI I fun I=>Z6 (enc:=QCl.enc) ([(a0.getD J.2.2.toNat default)]:List QCl) (gdI I fun I=>QdW (enc:=QCl.enc) (xs:=([(a0.getD J.2.2.toNat default)]:List QCl)) (ys:=J.1) ?_);exact eX I [.s [(33,7001),(7001,33)]]
  ·cases I
   cases U _ rfl
   cases h
   exact lfE [.s [(5001,7001),(7001,5001)]]
def QcY (a0:(List Bt)) (U:(List QCh)):Option ((List QCl)):=
 bd (Qbo a0) fun x1=>
 bd (QbY a0) fun x2=>
 bd (Qbp a0) fun Y=>
 bd (JY (⟨x1,x2,Y,U⟩:QCq)) fun J=>
 bd (lp (σ:=List QCl×List Bool×Int) (β:=(Nat×Nat×(List Bool)×(List QCl))) (fun I=>
(if(decide (I.2.2<((J.length:Nat):Int)))=true then
 gd ((0:Int)<=I.2.2∧I.2.2<((J.length:Nat):Int))<|
 bd (QaW (⟨x1,x2,Y,U⟩:QCq) (J.getD I.2.2.toNat default)) fun N=>
 bd (α:=List QCk) ((if(!(decide (((N.length:Nat):Int)>0)))=true then
 gd ((0:Int)<=I.2.2∧I.2.2<((J.length:Nat):Int))<|
 bd (Qao (⟨x1,x2,Y,U⟩:QCq) (J.getD I.2.2.toNat default)) fun a2=>
 some a2
else
 some N)) fun O=>
(if(decide (((O.length:Nat):Int)>0))=true then
 gd ((0:Int)<=I.2.2∧I.2.2<((J.length:Nat):Int))<|
 gd ((0:Int)<=I.2.2∧I.2.2<((J.length:Nat):Int))<|
 gd (((I.1.length)+(([(⟨(J.getD I.2.2.toNat default).Addr,(J.getD I.2.2.toNat default).Len,O⟩:QCl)]:List QCl).length))*(40+1)<=70368744177664)<|
 gd (((I.2.1.length)+(([(decide (((N.length:Nat):Int)>0))]:List Bool).length))*(1+1)<=70368744177664)<|
 some (.inl ((I.1++([(⟨(J.getD I.2.2.toNat default).Addr,(J.getD I.2.2.toNat default).Len,O⟩:QCl)]:List QCl)),(I.2.1++([(decide (((N.length:Nat):Int)>0))]:List Bool)),IntKind.i64.wrap (I.2.2+1)))
else
 some (.inl (I.1,I.2.1,IntKind.i64.wrap (I.2.2+1))))
else
 some (.inr (I.1.length,I.2.1.length,I.2.1,I.1)))) (([]:List QCl),([]:List Bool),0)) fun x8=>
 bd (Qei x8.2.2.2 x8.2.2.1) fun a5=>
 some a5
theorem QlF {a0:(List Bt)} {a1:(List QCh)} {r:(List QCl)} (h:QcY a0 a1=some r):EffC prog 26 [.d (slD Qi a0),.d (slD QCh.enc a1)] [] (.osl 5001 0 r.length) [(5001,.arr 39 3 r.length (rows QCl.enc r))]:=by
 refine eY tOk f26 rfl (bC h 1000 (fun _=>QlD) fun x1 h=>bC h 2000 (fun _=>Qm2) fun x2 h=>bC h 3000 (fun _=>QlE) fun x3 h=>?_);obtain⟨x4,a9,h⟩:=Qc h;refine Zj [6001,7001,8001] (cE [] 0 (Qgl a9) (Qb tOk ?_));obtain⟨x8,a7,h⟩:=Qc h;refine Qm tOk a7 (fun N=>⟨0,72,[(5,.ref 5 0 0),(6,.d (slD QCj.enc x4)),(7,.osl 7001 0 N.1.length),(8,.osl 7002 0 N.2.1.length),(9,dI N.2.2)],[],[(7002,.arr 4 1 N.2.1.length (rows QcU N.2.1)),(7001,.arr 39 3 N.1.length (rows QCl.enc N.1)),(5,.box 119 [.d (slD QCn.enc x1),.d (slD QCo.enc x2),.d (slD QCm.enc x3),.d (slD QCh.enc a1)])],[⟨[],[]⟩]⟩) ?_ ?_
 ·exact leX [.p 7001 39 3 (rows QCl.enc ([]:List QCl)),.p 7002 4 1 (rows QcU ([]:List Bool))]
 ·clear a7;intro N y6 J b2;refine Qb tOk ?_;apply Qr J<;>intro _ J
  ·refine Qb tOk ?_;obtain⟨g9,J⟩:=Qe J;obtain⟨O,a8,J⟩:=Qc J;refine QQ tOk [.u 5 1000 (.osl 5001 0 O.length) [⟨5001,43,2,O.length,rows QCk.enc O⟩]] 7 [] [0,0,0,6,14,31,63] [] (aI g9 (aI (Qp (Qh3 a8) (by kernel_rfl)) (aK ?_)));obtain⟨a2,I,J⟩:=Qc J;refine Qah tOk (fun U=>⟨0,72,[(5,.ref 5 0 0),(6,.d (slD QCj.enc x4)),(7,.osl 7001 0 N.1.length),(8,.osl 7002 0 N.2.1.length),(9,dI N.2.2),(10,.osl 8001 0 U.length),(11,dB (decide (((O.length:Nat):Int)>0)))],[],[(8001,.arr 43 2 U.length (rows QCk.enc U)),(7002,.arr 4 1 N.2.1.length (rows QcU N.2.1)),(7001,.arr 39 3 N.1.length (rows QCl.enc N.1)),(5,.box 119 [.d (slD QCn.enc x1),.d (slD QCo.enc x2),.d (slD QCm.enc x3),.d (slD QCh.enc a1)])],[⟨[],[]⟩]⟩) (fun U=>a2=U) ?_ ?_
   ·apply Qr I<;>intro _ I
    ·obtain⟨b0,I⟩:=Qe I;obtain⟨Y,a6,I⟩:=Qc I;refine QQ tOk [.u 5 3000 (.osl 5001 0 Y.length) [⟨5001,43,2,Y.length,rows QCk.enc Y⟩]] 7 [] [0,0,0,6,14,31,63] [] (aI b0 (aI (Qp (QiL a6) (by kernel_rfl)) (aK ?_)));exact eZ I []
    ·exact eZ I [.s [(6001,8001),(8001,6001)]]
   ·rintro _ rfl;apply Qr J<;>intro _ J
    ·obtain⟨b3,J⟩:=Qe J;obtain⟨b1,J⟩:=Qe J;refine Quo [8001] (QQ tOk [] 14 [] [0,0,0,6,14,30,0,0,192,448,960,0,4094,8190] [16383,32767] (aI b3 (aI b1 (Z6 (enc:=QCl.enc) ([(⟨(x4.getD N.2.2.toNat default).Addr,(x4.getD N.2.2.toNat default).Len,a2⟩:QCl)]:List QCl) (aK (gdI J fun J=>QdW (enc:=QCl.enc) (xs:=N.1) (ys:=([(⟨(x4.getD N.2.2.toNat default).Addr,(x4.getD N.2.2.toNat default).Len,a2⟩:QCl)]:List QCl)) (Z6 (enc:=QcU) ([(decide (((O.length:Nat):Int)>0))]:List Bool) (gdI J fun J=>QdW (enc:=QcU) (xs:=N.2.1) (ys:=([(decide (((O.length:Nat):Int)>0))]:List Bool)) ?_))))))));exact eX J []
    ·exact eX J []
  ·cases J
   cases b2 _ rfl
   obtain⟨x21,a5,h⟩:=Qc h;refine Zj [7001,7002] (cE [] 1000 (Qn6 a5) ?_);cases h;exact lfE [.s [(5001,6001),(6001,5001)]]
def Qch (a0:(List Bt)) (I:(List QCh)):Option ((List QCl)):=
 bd (Qac a0) fun J=>
 bd (Qv ((J !=0)=false) (QbD I)) fun N=>
(if((J !=0)||(!N))=true then
 some []
else
 bd (QcY a0 I) fun O=>
 some O)
theorem QkK {a0:(List Bt)} {I:(List QCh)} {r:(List QCl)} (h:Qch a0 I=some r):EffC prog 7 [.d (slD Qi a0),.d (slD QCh.enc I)] [] (.osl 5001 0 r.length) [(5001,.arr 39 3 r.length (rows QCl.enc r))]:=by
 refine eY tOk f7 rfl (Qb tOk (bC h 0 (fun _=>Qga) fun x1 h=>bG h (fun _=>QjD) fun x2 h=>?_));apply Qr h<;>intro _ h
 ·cases h
  exact lfE [.p 5001 39 3 (rows QCl.enc ([]:List QCl))]
 ·refine bE h [] 1000 (fun _=>QlF) fun x3 h=>?_;cases h;exact lfE [.s [(5001,6001),(6001,5001)]]
def Qej (a0:(List QCk)) (J:(List QCk)):Option (Bool):=
(if(((a0.length:Nat):Int) !=((J.length:Nat):Int))=true then
 some false
else
 bd (lp (σ:=Int) (β:=(Unit⊕Unit)) (fun I=>
(if(decide (I<((a0.length:Nat):Int)))=true then
 gd ((0:Int)<=I∧I<((a0.length:Nat):Int))<|
 gd ((0:Int)<=I∧I<((J.length:Nat):Int))<|
(if(!((((a0.getD I.toNat default).Next)==((J.getD I.toNat default).Next))&&((((a0.getD I.toNat default).Port)==((J.getD I.toNat default).Port))&&true)))=true then
 some (.inr (.inl ()))
else
 some (.inl (IntKind.i64.wrap (I+1))))
else
 some (.inr (.inr ())))) 0) fun N=>
(match N with
| .inl d7=>
 some false
| .inr d8=>
 some true))
theorem Qn7 {a0:(List QCk)} {O:(List QCk)} {r:Bool} (h:Qej a0 O=some r):PureC prog 23 [.d (slD QCk.enc a0),.d (slD QCk.enc O)] (dB r) []:=by
 refine pY tOk f23 rfl (Qb tOk ?_);apply Qr h<;>intro _ h
 ·cases h
  exact lfP []
 ·refine Qb tOk ?_;obtain⟨x4,J,h⟩:=Qc h;refine Qm tOk J (fun U=>⟨0,26,[(0,.d (slD QCk.enc a0)),(1,.d (slD QCk.enc O)),(5,dI U)],[],[],[]⟩) ?_ ?_
  ·exact leX []
  ·clear J;intro U y2 I N;refine Qb tOk ?_;apply Qr I<;>intro _ I
   ·refine Qb tOk ?_;obtain⟨Y,I⟩:=Qe I;obtain⟨g6,I⟩:=Qe I;refine QQ tOk [] 9 [] [0,0,3,7,0,0,48,112,255] [] (aI Y (aI g6 (aK ?_)));apply Qr I<;>intro _ I
    ·cases I
     cases N _ rfl
     cases h
     exact lfP []
    ·exact eX I []
   ·cases I
    cases N _ rfl
    cases h
    exact lfP []
def Qdz (a0:(List QCl)) (J:(List QCl)):Option (Bool):=
(if(((a0.length:Nat):Int) !=((J.length:Nat):Int))=true then
 some false
else
 bd (lp (σ:=Int) (β:=(Unit⊕Unit)) (fun I=>
(if(decide (I<((a0.length:Nat):Int)))=true then
 gd ((0:Int)<=I∧I<((a0.length:Nat):Int))<|
 gd ((0:Int)<=I∧I<((J.length:Nat):Int))<|
 gd ((((a0.getD I.toNat default).Addr) !=((J.getD I.toNat default).Addr))=false->((0:Int)<=I∧I<((a0.length:Nat):Int)))<|
 gd ((((a0.getD I.toNat default).Addr) !=((J.getD I.toNat default).Addr))=false->((0:Int)<=I∧I<((J.length:Nat):Int)))<|
 gd (((((a0.getD I.toNat default).Addr) !=((J.getD I.toNat default).Addr))||(((a0.getD I.toNat default).Len) !=((J.getD I.toNat default).Len)))=false->((0:Int)<=I∧I<((a0.length:Nat):Int)))<|
 gd (((((a0.getD I.toNat default).Addr) !=((J.getD I.toNat default).Addr))||(((a0.getD I.toNat default).Len) !=((J.getD I.toNat default).Len)))=false->((0:Int)<=I∧I<((J.length:Nat):Int)))<|
 bd (Qv (((((a0.getD I.toNat default).Addr) !=((J.getD I.toNat default).Addr))||(((a0.getD I.toNat default).Len) !=((J.getD I.toNat default).Len)))=false) (Qej ((a0.getD I.toNat default).Hops) ((J.getD I.toNat default).Hops))) fun N=>
(if(((((a0.getD I.toNat default).Addr) !=((J.getD I.toNat default).Addr))||(((a0.getD I.toNat default).Len) !=((J.getD I.toNat default).Len)))||(!N))=true then
 some (.inr (.inl ()))
else
 some (.inl (IntKind.i64.wrap (I+1))))
else
 some (.inr (.inr ())))) 0) fun O=>
(match O with
| .inl d12=>
 some false
| .inr d13=>
 some true))
theorem Qm3 {a0:(List QCl)} {U:(List QCl)} {r:Bool} (h:Qdz a0 U=some r):PureC prog 6 [.d (slD QCl.enc a0),.d (slD QCl.enc U)] (dB r) []:=by
 refine pY tOk f6 rfl (Qb tOk ?_);apply Qr h<;>intro _ h
 ·cases h
  exact lfP []
 ·refine Qb tOk ?_;obtain⟨x4,J,h⟩:=Qc h;refine Qm tOk J (fun s1=>⟨0,55,[(0,.d (slD QCl.enc a0)),(1,.d (slD QCl.enc U)),(5,dI s1)],[],[],[]⟩) ?_ ?_
  ·exact leX []
  ·clear J;intro s1 y2 I N;refine Qb tOk ?_;apply Qr I<;>intro _ I
   ·refine Qb tOk ?_;obtain⟨g5,I⟩:=Qe I;obtain⟨g6,I⟩:=Qe I;obtain⟨g7,I⟩:=Qe I;obtain⟨g8,I⟩:=Qe I;obtain⟨g9,I⟩:=Qe I;obtain⟨Y,I⟩:=Qe I;obtain⟨a2,O,I⟩:=Qc I;refine QQ tOk [.u 35 0 (dB a2) []] 38 [] [0,0,3,7,15,0,0,96,224,480,1023,2047,4095,4095,16383,32767,65535,4095,4095,397311,921599,1970175,4194303,8388607,16777215,33554431,33554431,134217727,268435455,536870911,33554431,33554431,3254779903,7549747199,16139681791,34359738367,68719476735,137438953471] [] (aI g5 (aI g6 (aI g7 (aI g8 (aI g9 (aI Y (aI (QJ rfl rfl rfl rfl (by intro c0;exact Qn7 (Qt O c0))) (aK ?_))))))));apply Qr I<;>intro _ I
    ·cases I
     cases N _ rfl
     cases h
     exact lfP []
    ·exact eX I []
   ·cases I
    cases N _ rfl
    cases h
    exact lfP []
def JZ (a0:QCl):Option (QCj):=
 some (⟨a0.Addr,a0.Len⟩:QCj)
theorem Qgm {a0:QCl} {r:QCj} (h:JZ a0=some r):PureC prog 28 [.agg [dI a0.Addr,dI a0.Len,.d (slD QCk.enc a0.Hops)]] (.agg [dI r.Addr,dI r.Len]) []:=by
 refine pY tOk f28 rfl ?_;unfold JZ at h;cases h;exact lfP []
def QeX (a0:QCk):Option (Bool):=
 bd (QV a0.Next 0 65535) fun I=>
 bd (Qv (I=true) (QV a0.Port 0 15)) fun J=>
 some (I&&J)
theorem Qpq {a0:QCk} {r:Bool} (h:QeX a0=some r):PureC prog 83 [.agg [dI a0.Next,dI a0.Port]] (dB r) []:=by
 refine pY tOk f83 rfl (bC h 0 (fun _=>Zp) fun x1 h=>bG h (fun _=>Zp) fun x2 h=>?_);cases h;exact lfP []
def Qap (a0:QCk) (I:QCk):Option (Bool):=
 some ((decide (a0.Next<I.Next))||((a0.Next==I.Next)&&(decide (a0.Port<I.Port))))
theorem QiM {a0:QCk} {I:QCk} {r:Bool} (h:Qap a0 I=some r):PureC prog 84 [.agg [dI a0.Next,dI a0.Port],.agg [dI I.Next,dI I.Port]] (dB r) []:=by
 refine pY tOk f84 rfl ?_;unfold Qap at h;cases h;exact lfP []
def Qa4 (a0:(List QCk)):Option (Bool):=
 bd (lp (σ:=Int) (β:=(Unit⊕Unit)) (fun I=>
(if(decide (I<((a0.length:Nat):Int)))=true then
 gd ((0:Int)<=I∧I<((a0.length:Nat):Int))<|
 bd (QeX (a0.getD I.toNat default)) fun J=>
 gd ((decide (I>0))=true->((!J)=false->((0:Int)<=IntKind.i64.wrap (I-1)∧IntKind.i64.wrap (I-1)<((a0.length:Nat):Int))))<|
 bd (Qv ((decide (I>0))=true∧(!J)=false) (Qap (a0.getD ((IntKind.i64.wrap (I-1)).toNat) default) (a0.getD I.toNat default))) fun O=>
(if((!J)||((decide (I>0))&&(!O)))=true then
 some (.inr (.inl ()))
else
 some (.inl (IntKind.i64.wrap (I+1))))
else
 some (.inr (.inr ())))) 0) fun U=>
(match U with
| .inl d9=>
 some false
| .inr d10=>
 bd (QV ((a0.length:Nat):Int) 1 4) fun N=>
 some N)
theorem QkL {a0:(List QCk)} {r:Bool} (h:Qa4 a0=some r):PureC prog 29 [.d (slD QCk.enc a0)] (dB r) []:=by
 refine pY tOk f29 rfl (Qb tOk ?_);obtain⟨x4,J,h⟩:=Qc h;refine Qm tOk J (fun Y=>⟨0,33,[(0,.d (slD QCk.enc a0)),(5,.d (slD QCk.enc a0)),(6,dI ((a0.length:Nat):Int)),(7,dI Y)],[],[],[]⟩) ?_ ?_
 ·exact leX []
 ·clear J;intro Y y2 I N;refine Qb tOk ?_;apply Qr I<;>intro _ I
  ·refine Qb tOk (gdI I fun I=>?_);obtain⟨x6,O,I⟩:=Qc I;obtain⟨g7,I⟩:=Qe I;obtain⟨x8,U,I⟩:=Qc I;refine QQ tOk [.u 1 0 (dB x6) [],.u 13 0 (dB x8) []] 17 [] [0,1,3,7,15,31,63,127,127,383,1023,2047,127,8191,16383,32767,65535] [] (aI (Qp (Qpq O) (by kernel_rfl)) (aI g7 (aI (QJ rfl rfl rfl rfl (by intro c0 c1;exact QiM (Qt U ⟨c0,c1⟩))) (aK ?_))));apply Qr I<;>intro _ I
   ·cases I
    cases N _ rfl
    cases h
    exact lfP []
   ·exact eX I []
  ·cases I
   cases N _ rfl
   refine bC h 0 (fun _=>Zp) fun x11 h=>?_;cases h;exact lfP []
def QcZ (a0:Int) (J:Int) (I:Int) (a3:Int):Option (Bool):=
 some ((decide (a0<I))||((a0==I)&&(decide (J<a3))))
theorem Qn8 {a0:Int} {I:Int} {J:Int} {a3:Int} {r:Bool} (h:QcZ a0 I J a3=some r):PureC prog 30 [dI a0,dI I,dI J,dI a3] (dB r) []:=by
 refine pY tOk f30 rfl ?_;unfold QcZ at h;cases h;exact lfP []
def QbG (a0:(List QCl)):Option (Bool):=
 bd (lp (σ:=Int) (β:=(Unit⊕Unit)) (fun I=>
(if(decide (I<((a0.length:Nat):Int)))=true then
 gd ((0:Int)<=I∧I<((a0.length:Nat):Int))<|
 bd (JZ (a0.getD I.toNat default)) fun U=>
 bd (QaO U) fun J=>
 bd (Qv ((!J)=false) (Qa4 ((a0.getD I.toNat default).Hops))) fun N=>
 gd ((decide (I>0))=true->(((!J)||(!N))=false->((0:Int)<=IntKind.i64.wrap (I-1)∧IntKind.i64.wrap (I-1)<((a0.length:Nat):Int))))<|
 gd ((decide (I>0))=true->(((!J)||(!N))=false->((0:Int)<=IntKind.i64.wrap (I-1)∧IntKind.i64.wrap (I-1)<((a0.length:Nat):Int))))<|
 bd (Qv ((decide (I>0))=true∧((!J)||(!N))=false) (QcZ ((a0.getD ((IntKind.i64.wrap (I-1)).toNat) default).Addr) ((a0.getD ((IntKind.i64.wrap (I-1)).toNat) default).Len) ((a0.getD I.toNat default).Addr) ((a0.getD I.toNat default).Len))) fun O=>
(if(((!J)||(!N))||((decide (I>0))&&(!O)))=true then
 some (.inr (.inl ()))
else
 some (.inl (IntKind.i64.wrap (I+1))))
else
 some (.inr (.inr ())))) 0) fun Y=>
(match Y with
| .inl d12=>
 some false
| .inr d13=>
 some (decide (((a0.length:Nat):Int)<=16)))
theorem QjG {a0:(List QCl)} {r:Bool} (h:QbG a0=some r):PureC prog 8 [.d (slD QCl.enc a0)] (dB r) []:=by
 refine pY tOk f8 rfl (Qb tOk ?_);obtain⟨x4,J,h⟩:=Qc h;refine Qm tOk J (fun s1=>⟨0,50,[(0,.d (slD QCl.enc a0)),(5,.d (slD QCl.enc a0)),(6,dI ((a0.length:Nat):Int)),(7,dI s1)],[],[],[]⟩) ?_ ?_
 ·exact leX []
 ·clear J;intro s1 y2 I N;refine Qb tOk ?_;apply Qr I<;>intro _ I
  ·refine Qb tOk (gdI I fun I=>?_);obtain⟨x6,a2,I⟩:=Qc I;obtain⟨x7,a1,I⟩:=Qc I;obtain⟨x8,a5,I⟩:=Qc I;obtain⟨g9,I⟩:=Qe I;obtain⟨Y,I⟩:=Qe I;obtain⟨a6,O,I⟩:=Qc I;refine QQ tOk [.u 1 0 (.agg [dI x6.Addr,dI x6.Len]) [],.u 2 0 (dB x7) [],.u 7 0 (dB x8) [],.u 30 0 (dB a6) []] 34 [] [0,1,3,7,15,31,63,127,255,511,1023,2047,4095,8191,16383,16383,49151,131071,262143,524287,16383,16383,2113535,7356415,15745023,32522239,16383,67125247,16383,268451839,1073741823,2147483647,4294967295,8589934591] [] (aI (Qp (Qgm a2) (by kernel_rfl)) (aI (Qp (Qgr a1) (by kernel_rfl)) (aI (QJ rfl rfl rfl rfl (by intro U;exact QkL (Qt a5 U))) (aI g9 (aI Y (aI (QJ rfl rfl rfl rfl (by intro U c1;exact Qn8 (Qt O ⟨U,c1⟩))) (aK ?_)))))));apply Qr I<;>intro _ I
   ·cases I
    cases N _ rfl
    cases h
    exact lfP []
   ·exact eX I []
  ·cases I
   cases N _ rfl
   cases h
   exact lfP []
def Qek (a0:QCh) (O:QCl) (U:(List QCm)):Option (Int):=
 bd (lp (σ:=Bool×Int) (β:=(Bool)) (fun J=>
(if(decide (J.2<((U.length:Nat):Int)))=true then
 gd (J.1=false->((0:Int)<=J.2∧J.2<((U.length:Nat):Int)))<|
 some (.inl ((J.1||(((U.getD J.2.toNat default).Addr)==a0.Peer)),IntKind.i64.wrap (J.2+1)))
else
 some (.inr J.1))) (false,0)) fun x4=>
 bd (lp (σ:=Int) (β:=(Int⊕Unit)) (fun I=>
(if((decide (I<((a0.Entries.length:Nat):Int)))&&x4)=true then
 gd ((0:Int)<=I∧I<((a0.Entries.length:Nat):Int))<|
 gd ((((a0.Entries.getD I.toNat default).Addr)==O.Addr)=true->((0:Int)<=I∧I<((a0.Entries.length:Nat):Int)))<|
(if((((a0.Entries.getD I.toNat default).Addr)==O.Addr)&&(((a0.Entries.getD I.toNat default).Len)==O.Len))=true then
 gd ((0:Int)<=I∧I<((a0.Entries.length:Nat):Int))<|
 some (.inr (.inl ((a0.Entries.getD I.toNat default).Cost)))
else
 some (.inl (IntKind.i64.wrap (I+1))))
else
 some (.inr (.inr ())))) 0) fun N=>
(match N with
| .inl Y=>
 some Y
| .inr d15=>
 some 0)
theorem Qn9 {a0:QCh} {J:QCl} {a2:(List QCm)} {r:Int} (h:Qek a0 J a2=some r):PureC prog 12 [.agg [dI a0.Peer,.d (slD QCg.enc a0.Entries)],.agg [dI J.Addr,dI J.Len,.d (slD QCk.enc J.Hops)],.d (slD QCm.enc a2)] (dI r) []:=by
 refine pY tOk f12 rfl (Qb tOk ?_);obtain⟨x4,Y,h⟩:=Qc h;refine Qm tOk Y (fun s1=>⟨0,63,[(2,.d (slD QCm.enc a2)),(3,.ref 3 0 0),(4,.ref 4 0 0),(7,dB s1.1),(8,dI s1.2)],[],[(4,.box 39 [dI J.Addr,dI J.Len,.d (slD QCk.enc J.Hops)]),(3,.box 49 [dI a0.Peer,.d (slD QCg.enc a0.Entries)])],[]⟩) ?_ ?_
 ·exact leX []
 ·clear Y;intro s1 y2 O a7;refine Qb tOk ?_;apply Qr O<;>intro _ O
  ·refine Qb tOk ?_;obtain⟨g5,O⟩:=Qe O;refine QQ tOk [] 11 [] [0,1,3,3,15,31,63,3,131,511,1023] [2047] (aI g5 (aK ?_));exact eX O []
  ·cases O
   cases a7 _ rfl
   refine Qb tOk ?_;obtain⟨x10,N,h⟩:=Qc h;refine Qm tOk N (fun s7=>⟨0,63,[(3,.ref 3 0 0),(4,.ref 4 0 0),(7,dB s1.1),(9,dI s7)],[],[(4,.box 39 [dI J.Addr,dI J.Len,.d (slD QCk.enc J.Hops)]),(3,.box 49 [dI a0.Peer,.d (slD QCg.enc a0.Entries)])],[]⟩) ?_ ?_
   ·exact leX []
   ·clear N;intro s7 y8 I U;refine Qb tOk ?_;apply Qr I<;>intro _ I
    ·refine Qb tOk ?_;obtain⟨a6,I⟩:=Qe I;obtain⟨a5,I⟩:=Qe I;refine QQ tOk [] 20 [] [0,1,0,7,15,31,0,64,255,511,1023,2047,1023,8191,16383,32767,1023,66559,262143,524287] [] (aI a6 (aI a5 (aK ?_)));apply Qr I<;>intro _ I
     ·refine gdI I fun I=>?_;cases I;cases U _ rfl;cases h;exact lfP []
     ·exact eX I []
    ·cases I
     cases U _ rfl
     cases h
     exact lfP []
def Qc0 (a0:(List Int)):Option (Bool):=
(if(decide (((a0.length:Nat):Int)>1048576))=true then
 some true
else
 bd (QaE a0) fun x1=>
 bd (Qcf x1.1 x1.2) fun N=>
 bd (Qch x1.1 x1.2) fun x3=>
 bd (Qdz N x3) fun x4=>
 bd (Qv ((decide (((N.length:Nat):Int)>0))=true∧(!x4)=false) (QbG N)) fun x5=>
(if((!x4)||((decide (((N.length:Nat):Int)>0))&&(!x5)))=true then
 some false
else
 bd (Qae x1.1) fun x6=>
 bd (Qa2 x1.1) fun x7=>
 bd (Qbn x1.1) fun x8=>
 bd (lp (σ:=Int) (β:=(Unit⊕Unit)) (fun s9=>
(if(decide (s9<((N.length:Nat):Int)))=true then
 gd ((0:Int)<=s9∧s9<((N.length:Nat):Int))<|
 bd (lp (σ:=Bool×Int) (β:=(Unit⊕Bool)) (fun J=>
(if(decide (J.2<((x6.length:Nat):Int)))=true then
 gd ((0:Int)<=J.2∧J.2<((x6.length:Nat):Int))<|
 gd ((((x6.getD J.2.toNat default).Addr)==((N.getD s9.toNat default).Addr))=true->((0:Int)<=J.2∧J.2<((x6.length:Nat):Int)))<|
(if((((x6.getD J.2.toNat default).Addr)==((N.getD s9.toNat default).Addr))&&(((x6.getD J.2.toNat default).Len)==((N.getD s9.toNat default).Len)))=true then
 gd ((((((N.getD s9.toNat default).Hops).length:Nat):Int) !=1)=false->((0:Int)<=0∧0<((((N.getD s9.toNat default).Hops).length:Nat):Int)))<|
 gd ((((((N.getD s9.toNat default).Hops).length:Nat):Int) !=1)=false->((0:Int)<=J.2∧J.2<((x6.length:Nat):Int)))<|
(if((((((N.getD s9.toNat default).Hops).length:Nat):Int) !=1)||(!((((((N.getD s9.toNat default).Hops).getD 0 default).Next)==0)&&((((((N.getD s9.toNat default).Hops).getD 0 default).Port)==((x6.getD J.2.toNat default).Port))&&true))))=true then
 some (.inr (.inl ()))
else
 some (.inl (true,IntKind.i64.wrap (J.2+1))))
else
 some (.inl (J.1,IntKind.i64.wrap (J.2+1))))
else
 some (.inr (.inr J.1)))) (false,0)) fun b0=>
(match b0 with
| .inl d22=>
 some (.inr (.inl ()))
| .inr b2=>
 bd (lp (σ:=Bool×Int) (β:=(Bool)) (fun U=>
(if(decide (U.2<((x8.length:Nat):Int)))=true then
 gd (U.1=false->((0:Int)<=U.2∧U.2<((x8.length:Nat):Int)))<|
 gd ((((x8.getD U.2.toNat default).Addr)==((N.getD s9.toNat default).Addr))=true->(U.1=false->((0:Int)<=U.2∧U.2<((x8.length:Nat):Int))))<|
 some (.inl ((U.1||((((x8.getD U.2.toNat default).Addr)==((N.getD s9.toNat default).Addr))&&(((x8.getD U.2.toNat default).Len)==((N.getD s9.toNat default).Len)))),IntKind.i64.wrap (U.2+1)))
else
 some (.inr U.1))) (b2,0)) fun b3=>
 bd (lp (σ:=Int) (β:=(Unit⊕Unit)) (fun a1=>
(if((decide (a1<((((N.getD s9.toNat default).Hops).length:Nat):Int)))&&(!b3))=true then
 bd (lp (σ:=Int×Int×Int) (β:=(Int×Int)) (fun O=>
(if(decide (O.2.2<((x1.2.length:Nat):Int)))=true then
 gd ((0:Int)<=O.2.2∧O.2.2<((x1.2.length:Nat):Int))<|
 bd (Qek (x1.2.getD O.2.2.toNat default) (N.getD s9.toNat default) x7) fun a2=>
 bd (α:=Int) ((if((decide (a2>0))&&(decide (a2<O.2.1)))=true then
 some a2
else
 some O.2.1)) fun a6=>
 gd ((0:Int)<=O.2.2∧O.2.2<((x1.2.length:Nat):Int))<|
 gd ((0:Int)<=a1∧a1<((((N.getD s9.toNat default).Hops).length:Nat):Int))<|
(if(((x1.2.getD O.2.2.toNat default).Peer)==((((N.getD s9.toNat default).Hops).getD a1.toNat default).Next))=true then
 some (.inl (a2,a6,IntKind.i64.wrap (O.2.2+1)))
else
 some (.inl (O.1,a6,IntKind.i64.wrap (O.2.2+1))))
else
 some (.inr (O.1,O.2.1)))) (0,256,0)) fun a5=>
(if((a5.1==0)||(a5.1 !=a5.2))=true then
 some (.inr (.inl ()))
else
 some (.inl (IntKind.i64.wrap (a1+1))))
else
 some (.inr (.inr ())))) 0) fun a7=>
(match a7 with
| .inl d47=>
 some (.inr (.inl ()))
| .inr d48=>
 some (.inl (IntKind.i64.wrap (s9+1)))))
else
 some (.inr (.inr ())))) 0) fun a8=>
(match a8 with
| .inl d49=>
 some false
| .inr d50=>
 bd (lp (σ:=Int) (β:=(Unit⊕Unit)) (fun Y=>
(if((decide (Y<((x6.length:Nat):Int)))&&(decide (((N.length:Nat):Int)>0)))=true then
 bd (lp (σ:=Bool×Int) (β:=(Bool)) (fun I=>
(if(decide (I.2<((N.length:Nat):Int)))=true then
 gd (I.1=false->((0:Int)<=I.2∧I.2<((N.length:Nat):Int)))<|
 gd (I.1=false->((0:Int)<=Y∧Y<((x6.length:Nat):Int)))<|
 gd ((((N.getD I.2.toNat default).Addr)==((x6.getD Y.toNat default).Addr))=true->(I.1=false->((0:Int)<=I.2∧I.2<((N.length:Nat):Int))))<|
 gd ((((N.getD I.2.toNat default).Addr)==((x6.getD Y.toNat default).Addr))=true->(I.1=false->((0:Int)<=Y∧Y<((x6.length:Nat):Int))))<|
 some (.inl ((I.1||((((N.getD I.2.toNat default).Addr)==((x6.getD Y.toNat default).Addr))&&(((N.getD I.2.toNat default).Len)==((x6.getD Y.toNat default).Len)))),IntKind.i64.wrap (I.2+1)))
else
 some (.inr I.1))) (false,0)) fun a9=>
(if(!a9)=true then
 some (.inr (.inl ()))
else
 some (.inl (IntKind.i64.wrap (Y+1))))
else
 some (.inr (.inr ())))) 0) fun b1=>
(match b1 with
| .inl d64=>
 some false
| .inr d65=>
 some true))))
theorem QiN {a0:(List Int)} {r:Bool} (h:Qc0 a0=some r):PureC prog 3 [.d (slD Qo a0)] (dB r) []:=by
 refine pY tOk f3 rfl (Qb tOk ?_);apply Qr h<;>intro _ h
 ·cases h
  exact lfP []
 ·refine bE h [] 1000 (fun _=>Qhl) fun x1 h=>?_;obtain⟨I,e7,h⟩:=Qc h;refine Zj [6001] (cE [] 1000 (QkI e7) (Qb tOk (bE h [] 2000 (fun _=>QkK) fun x3 h=>bC h 0 (fun _=>Qm3) fun x4 h=>?_)));obtain⟨x5,e4,h⟩:=Qc h;refine cG (fun c0 c1=>QjG (Qt e4 ⟨c0,c1⟩)) ?_;apply Qr h<;>intro _ h
  ·cases h
   exact lfP []
  ·refine bC h 3000 (fun _=>Qgd) fun Y h=>bC h 4000 (fun _=>Qgc) fun x7 h=>bC h 5000 (fun _=>Qgv) fun x8 h=>Qb tOk ?_;obtain⟨x12,b7,h⟩:=Qc h;refine Qm tOk b7 (fun s9=>⟨0,231,[(4,.d (slD QCh.enc x1.2)),(5,.osl 6001 0 I.length),(6,.osl 8001 0 Y.length),(7,.osl 9001 0 x7.length),(8,.osl 10001 0 x8.length),(9,dI s9)],[],[(10001,.arr 45 3 x8.length (rows QCo.enc x8)),(9001,.arr 78 3 x7.length (rows QCm.enc x7)),(8001,.arr 41 4 Y.length (rows QCn.enc Y)),(6001,.arr 39 3 I.length (rows QCl.enc I))],[]⟩) ?_ ?_
   ·exact leX []
   ·clear b7;intro s9 y10 O a9;refine Qb tOk ?_;apply Qr O<;>intro _ O
    ·refine Qb tOk (gdI O fun O=>Qb tOk ?_);obtain⟨x17,b1,O⟩:=Qc O;refine Qm tOk b1 (fun c5=>⟨0,231,[(4,.d (slD QCh.enc x1.2)),(5,.osl 6001 0 I.length),(6,.osl 8001 0 Y.length),(7,.osl 9001 0 x7.length),(8,.osl 10001 0 x8.length),(9,dI s9),(10,.ref 10 0 0),(11,dB c5.1),(12,dI c5.2)],[],[(10,.box 39 [dI ((I.getD s9.toNat default).Addr),dI ((I.getD s9.toNat default).Len),.d (slD QCk.enc ((I.getD s9.toNat default).Hops))]),(10001,.arr 45 3 x8.length (rows QCo.enc x8)),(9001,.arr 78 3 x7.length (rows QCm.enc x7)),(8001,.arr 41 4 Y.length (rows QCn.enc Y)),(6001,.arr 39 3 I.length (rows QCl.enc I))],[]⟩) ?_ ?_
     ·exact leX []
     ·clear b1;intro c5 y15 J b6;refine Qb tOk ?_;apply Qr J<;>intro _ J
      ·refine Qb tOk ?_;obtain⟨d7,J⟩:=Qe J;obtain⟨d8,J⟩:=Qe J;refine QQ tOk [] 18 [] [0,0,3,7,15,0,32,127,255,511,511,2047,4095,8191,511,16895,65535,131071] [] (aI d7 (aI d8 (aK ?_)));apply Qr J<;>intro _ J
       ·obtain⟨d5,J⟩:=Qe J;obtain⟨e6,J⟩:=Qe J;refine QQ tOk [] 17 [] [0,1,3,7,15,31,63,127,255,31,31,1567,3615,7711,15903,32767,65535] [] (aI d5 (aI e6 (aK ?_)));apply Qr J<;>intro _ J
        ·cases J
         cases b6 _ rfl
         cases O
         obtain rfl:=a9 _ rfl;cases h;exact lfP []
        ·exact eX J []
       ·exact eX J []
      ·cases J
       cases b6 _ rfl
       refine Qb tOk ?_;obtain⟨x27,b5,O⟩:=Qc O;refine Qm tOk b5 (fun a7=>⟨0,231,[(4,.d (slD QCh.enc x1.2)),(5,.osl 6001 0 I.length),(6,.osl 8001 0 Y.length),(7,.osl 9001 0 x7.length),(8,.osl 10001 0 x8.length),(9,dI s9),(10,.ref 10 0 0),(11,dB a7.1),(13,dI a7.2)],[],[(10,.box 39 [dI ((I.getD s9.toNat default).Addr),dI ((I.getD s9.toNat default).Len),.d (slD QCk.enc ((I.getD s9.toNat default).Hops))]),(10001,.arr 45 3 x8.length (rows QCo.enc x8)),(9001,.arr 78 3 x7.length (rows QCm.enc x7)),(8001,.arr 41 4 Y.length (rows QCn.enc Y)),(6001,.arr 39 3 I.length (rows QCl.enc I))],[]⟩) ?_ ?_
       ·exact leX []
       ·clear b5;intro a7 y25 a5 d2;refine Qb tOk ?_;apply Qr a5<;>intro _ a5
        ·refine Qb tOk ?_;obtain⟨e0,a5⟩:=Qe a5;obtain⟨d6,a5⟩:=Qe a5;refine QQ tOk [] 21 [] [0,1,3,3,15,31,63,3,131,511,1023,2047,2047,8191,16383,32767,2047,67583,262143,524287,1048575] [2097151] (aI e0 (aI d6 (aK ?_)));exact eX a5 []
        ·cases a5
         cases d2 _ rfl
         obtain⟨x34,b4,O⟩:=Qc O;refine Qm tOk b4 (fun b0=>⟨0,231,[(4,.d (slD QCh.enc x1.2)),(5,.osl 6001 0 I.length),(6,.osl 8001 0 Y.length),(7,.osl 9001 0 x7.length),(8,.osl 10001 0 x8.length),(9,dI s9),(10,.ref 10 0 0),(11,dB a7.1),(14,dI b0)],[],[(10,.box 39 [dI ((I.getD s9.toNat default).Addr),dI ((I.getD s9.toNat default).Len),.d (slD QCk.enc ((I.getD s9.toNat default).Hops))]),(10001,.arr 45 3 x8.length (rows QCo.enc x8)),(9001,.arr 78 3 x7.length (rows QCm.enc x7)),(8001,.arr 41 4 Y.length (rows QCn.enc Y)),(6001,.arr 39 3 I.length (rows QCl.enc I))],[]⟩) ?_ ?_
         ·exact leX []
         ·clear b4;intro b0 y32 a1 b2;refine Qb tOk ?_;apply Qr a1<;>intro _ a1
          ·refine Qb tOk (Qb tOk ?_);obtain⟨x38,b8,a1⟩:=Qc a1;refine Qm tOk b8 (fun a8=>⟨0,231,[(4,.d (slD QCh.enc x1.2)),(5,.osl 6001 0 I.length),(6,.osl 8001 0 Y.length),(7,.osl 9001 0 x7.length),(8,.osl 10001 0 x8.length),(9,dI s9),(10,.ref 10 0 0),(11,dB a7.1),(14,dI b0),(15,dI a8.1),(16,dI a8.2.1),(17,dI a8.2.2)],[],[(10,.box 39 [dI ((I.getD s9.toNat default).Addr),dI ((I.getD s9.toNat default).Len),.d (slD QCk.enc ((I.getD s9.toNat default).Hops))]),(10001,.arr 45 3 x8.length (rows QCo.enc x8)),(9001,.arr 78 3 x7.length (rows QCm.enc x7)),(8001,.arr 41 4 Y.length (rows QCn.enc Y)),(6001,.arr 39 3 I.length (rows QCl.enc I))],[]⟩) ?_ ?_
           ·exact leX []
           ·clear b8;intro a8 y36 N c8;refine Qb tOk ?_;apply Qr N<;>intro _ N
            ·refine Qb tOk ?_;obtain⟨d4,N⟩:=Qe N;obtain⟨c7,d0,N⟩:=Qc N;refine QQ tOk [.u 6 0 (dI c7) []] 8 [] [0,0,3,7,0,0,63,127] [] (aI d4 (aI (Qp (Qn9 d0) (by kernel_rfl)) (aK ?_)));obtain⟨e2,a6,N⟩:=Qc N;refine Qah tOk (fun c4=>⟨0,231,[(4,.d (slD QCh.enc x1.2)),(5,.osl 6001 0 I.length),(6,.osl 8001 0 Y.length),(7,.osl 9001 0 x7.length),(8,.osl 10001 0 x8.length),(9,dI s9),(10,.ref 10 0 0),(11,dB a7.1),(14,dI b0),(15,dI a8.1),(16,dI c4),(17,dI a8.2.2),(18,dI c7)],[],[(10,.box 39 [dI ((I.getD s9.toNat default).Addr),dI ((I.getD s9.toNat default).Len),.d (slD QCk.enc ((I.getD s9.toNat default).Hops))]),(10001,.arr 45 3 x8.length (rows QCo.enc x8)),(9001,.arr 78 3 x7.length (rows QCm.enc x7)),(8001,.arr 41 4 Y.length (rows QCn.enc Y)),(6001,.arr 39 3 I.length (rows QCl.enc I))],[]⟩) (fun c4=>e2=c4) ?_ ?_
             ·apply Qr a6<;>intro _ a6
              ·exact eZ a6 []
              ·exact eZ a6 []
             ·rintro _ rfl;obtain⟨e9,N⟩:=Qe N;obtain⟨d9,N⟩:=Qe N;refine QQ tOk [] 12 [] [0,0,3,7,15,0,32,0,224,480,992,2047] [] (aI e9 (aI d9 (aK ?_)));apply Qr N<;>intro _ N
              ·exact eX N []
              ·exact eX N []
            ·cases N
             cases c8 _ rfl
             apply Qr a1<;>intro _ a1
             ·cases a1
              cases b2 _ rfl
              cases O
              cases a9 _ rfl
              cases h
              exact lfP []
             ·exact eX a1 []
          ·cases a1
           cases b2 _ rfl
           exact eX O []
    ·cases O
     cases a9 _ rfl
     refine Qb tOk ?_;obtain⟨x54,b3,h⟩:=Qc h;refine Qm tOk b3 (fun c6=>⟨0,231,[(5,.osl 6001 0 I.length),(6,.osl 8001 0 Y.length),(19,dI c6)],[],[(8001,.arr 41 4 Y.length (rows QCn.enc Y)),(6001,.arr 39 3 I.length (rows QCl.enc I))],[]⟩) ?_ ?_
     ·exact leX []
     ·clear b3;intro c6 y52 a2 c2;refine Qb tOk ?_;apply Qr a2<;>intro _ a2
      ·refine Qb tOk (Qb tOk ?_);obtain⟨x58,b9,a2⟩:=Qc a2;refine Qm tOk b9 (fun c3=>⟨0,231,[(5,.osl 6001 0 I.length),(6,.osl 8001 0 Y.length),(19,dI c6),(20,dB c3.1),(21,dI c3.2)],[],[(8001,.arr 41 4 Y.length (rows QCn.enc Y)),(6001,.arr 39 3 I.length (rows QCl.enc I))],[]⟩) ?_ ?_
       ·exact leX []
       ·clear b9;intro c3 y56 U d1;refine Qb tOk ?_;apply Qr U<;>intro _ U
        ·refine Qb tOk ?_;obtain⟨d3,U⟩:=Qe U;obtain⟨e3,U⟩:=Qe U;obtain⟨e8,U⟩:=Qe U;obtain⟨e5,U⟩:=Qe U;refine QQ tOk [] 27 [] [0,1,3,3,15,31,63,3,3,387,899,1923,4095,8191,16383,16383,65535,131071,262143,16383,16383,1589247,3686399,7880703,16777215,33554431,67108863] [134217727] (aI d3 (aI e3 (aI e8 (aI e5 (aK ?_)))));exact eX U []
        ·cases U
         cases d1 _ rfl
         apply Qr a2<;>intro _ a2
         ·cases a2
          cases c2 _ rfl
          cases h
          exact lfP []
         ·exact eX a2 []
      ·cases a2
       cases c2 _ rfl
       cases h
       exact lfP []
end
end Go.Proofs.YtjjkhncoafdfmaaGreatDoor
