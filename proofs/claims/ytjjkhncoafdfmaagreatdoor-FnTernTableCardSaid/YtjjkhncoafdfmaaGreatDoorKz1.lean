/-
  What some of the program's functions compute: their models, and that the functions compute these; no condition.
-/
import Derived.Test.YtjjkhncoafdfmaaGreatDoorTyz
import Derived.Test.YtjjkhncoafdfmaaGreatDoorTbz
import Derived.Test.YtjjkhncoafdfmaaGreatDoorLayz
import Derived.Test.YtjjkhncoafdfmaaGreatDoorAbz7
import Derived.Test.YtjjkhncoafdfmaaGreatDoorLay4z
import Derived.Test.YtjjkhncoafdfmaaGreatDoorAbz8
import Derived.BigCall
import Derived.BigGuard
import Derived.BigQuiet
import Derived.Deep.Draws
import Derived.Deep.QuietTactic
import Derived.Maps.OwnSet
import Derived.Shelf.SlSortCmp.QuietGrown
import Derived.StringKeys
import Derived.WalkKit
set_option linter.all false
namespace Go.Proofs.YtjjkhncoafdfmaaGreatDoor
open Go Go.Ab Tryz
set_option maxRecDepth 100000
set_option maxHeartbeats 40000000
noncomputable section
def Qd8 (a0:(List Int)):Option (l1Rd):=
(if(decide (((a0.length:Nat):Int)>2000))=true then
 gd ((0:Int)<=(0:Int)∧(0:Int)<=(2000:Int)∧(2000:Int)<=((a0.length:Nat):Int))<|
 some (⟨a0.take ((2000:Int).toNat),0⟩:l1Rd)
else
 some (⟨a0,0⟩:l1Rd))
theorem QnZ {a0:(List Int)} {r:l1Rd} (h:Qd8 a0=some r):EffC prog 13 [.d (slD Qo a0)] [] (.ref 5001 0 0) [(5001,.box 87 [.d (slD Qo r.b),dI r.p])]:=by
 refine eY tOk f13 rfl (Qb tOk ?_);apply Qr h<;>intro _ h
 ·obtain⟨I,h⟩:=Qe h;refine aI ⟨I,.inr rfl⟩ ?_;cases h;exact lfE [.s [(10,5001),(5001,10)]]
 ·cases h
  exact lfE [.s [(10,5001),(5001,10)]]
def Qu (a0:l1Rd) (I:Int):Option (Int×l1Rd):=
(if((decide (I<1))||(((a0.b.length:Nat):Int)==0))=true then
 some (0,(⟨a0.b,IntKind.i64.wrap (a0.p+1)⟩:l1Rd))
else
(if(decide ((IntKind.i64.wrap ((IntKind.i64.wrap (a0.p+1)) -1))<((a0.b.length:Nat):Int)))=true then
 gd ((0:Int)<=IntKind.i64.wrap ((IntKind.i64.wrap (a0.p+1)) -1)∧IntKind.i64.wrap ((IntKind.i64.wrap (a0.p+1)) -1)<((a0.b.length:Nat):Int))<|
 gd ((I:Int)≠0)<|
 some (((IntKind.i64.wrap (a0.b.getD ((IntKind.i64.wrap ((IntKind.i64.wrap (a0.p+1)) -1)).toNat) default):Int).tmod I),(⟨a0.b,IntKind.i64.wrap (a0.p+1)⟩:l1Rd))
else
 gd ((((a0.b.length:Nat):Int):Int)≠0)<|
 gd ((0:Int)<=((IntKind.i64.wrap ((IntKind.i64.wrap (a0.p+1)) -1):Int).tmod ((a0.b.length:Nat):Int))∧((IntKind.i64.wrap ((IntKind.i64.wrap (a0.p+1)) -1):Int).tmod ((a0.b.length:Nat):Int))<((a0.b.length:Nat):Int))<|
 gd ((((a0.b.length:Nat):Int):Int)≠0)<|
 gd ((0:Int)<=((IntKind.i64.wrap ((IntKind.i64.wrap ((IntKind.i64.wrap ((IntKind.i64.wrap (a0.p+1)) -1))*7))+3):Int).tmod ((a0.b.length:Nat):Int))∧((IntKind.i64.wrap ((IntKind.i64.wrap ((IntKind.i64.wrap ((IntKind.i64.wrap (a0.p+1)) -1))*7))+3):Int).tmod ((a0.b.length:Nat):Int))<((a0.b.length:Nat):Int))<|
 gd ((((a0.b.length:Nat):Int):Int)≠0)<|
 gd ((64:Int)≠0)<|
 gd ((I:Int)≠0)<|
 some ((((bits .xor .i64 (IntKind.i64.wrap ((IntKind.i64.wrap ((IntKind.i64.wrap ((IntKind.i64.wrap ((IntKind.i64.wrap (a0.b.getD (((IntKind.i64.wrap ((IntKind.i64.wrap (a0.p+1)) -1):Int).tmod ((a0.b.length:Nat):Int)).toNat) default))*131))+(IntKind.i64.wrap ((IntKind.i64.wrap (a0.b.getD (((IntKind.i64.wrap ((IntKind.i64.wrap ((IntKind.i64.wrap ((IntKind.i64.wrap (a0.p+1)) -1))*7))+3):Int).tmod ((a0.b.length:Nat):Int)).toNat) default))*1117))))+(IntKind.i64.wrap ((IntKind.i64.wrap ((IntKind.i64.wrap (a0.p+1)) -1))*29))))+(IntKind.i64.wrap ((IntKind.i64.wrap ((IntKind.i64.wrap ((IntKind.i64.wrap (a0.p+1)) -1):Int).tdiv ((a0.b.length:Nat):Int)))*53)))) (IntKind.i64.wrap ((IntKind.i64.wrap ((IntKind.i64.wrap ((IntKind.i64.wrap ((IntKind.i64.wrap ((IntKind.i64.wrap (a0.b.getD (((IntKind.i64.wrap ((IntKind.i64.wrap (a0.p+1)) -1):Int).tmod ((a0.b.length:Nat):Int)).toNat) default))*131))+(IntKind.i64.wrap ((IntKind.i64.wrap (a0.b.getD (((IntKind.i64.wrap ((IntKind.i64.wrap ((IntKind.i64.wrap ((IntKind.i64.wrap (a0.p+1)) -1))*7))+3):Int).tmod ((a0.b.length:Nat):Int)).toNat) default))*1117))))+(IntKind.i64.wrap ((IntKind.i64.wrap ((IntKind.i64.wrap (a0.p+1)) -1))*29))))+(IntKind.i64.wrap ((IntKind.i64.wrap ((IntKind.i64.wrap ((IntKind.i64.wrap (a0.p+1)) -1):Int).tdiv ((a0.b.length:Nat):Int)))*53))):Int).tdiv 64))):Int).tmod I),(⟨a0.b,IntKind.i64.wrap (a0.p+1)⟩:l1Rd))))
theorem QG {a0:l1Rd} {I:Int} {r:Int×l1Rd} (h:Qu a0 I=some r):EffC prog 41 [.ref 9000 0 0,dI I] [(9000,.box 87 [.d (slD Qo a0.b),dI a0.p])] (dI r.1) [(9000,.box 87 [.d (slD Qo a0.b),dI r.2.p])]:=by
 refine eY tOk f41 rfl (Qb tOk ?_);apply Qr h<;>intro _ h
 ·cases h
  exact lfE []
 ·refine Qb tOk ?_;apply Qr h<;>intro _ h
  ·refine gdI h fun h=>gdI h fun h=>?_;cases h;exact lfE []
  ·obtain⟨N,h⟩:=Qe h;obtain⟨Y,h⟩:=Qe h;obtain⟨O,h⟩:=Qe h;obtain⟨U,h⟩:=Qe h;obtain⟨J,h⟩:=Qe h;refine QQ tOk [] 46 [] [0,1,3,7,0,0,32,96,224,480,1008,2047,4095,8191,16383,0,32768,98304,229376,0,524288,1572864,0,4194304,12582912,29360128,62914560,133693440,268402688,536838144,1073709056,2147450880,4294967295,0,8589934592,34359738367,0,0,137438953472,412316860416,962072674304,2061584302080,4329327034368,8727373545472,17592186044415,35184372088831] [] (aI N (aI Y (aI O (aI U (aI J (aK (gdI h fun h=>gdI h fun h=>?_)))))));cases h;exact lfE []
def Qcw (a0:Bt):Option (Bt):=
 bd (lp (σ:=Int) (β:=(Bt⊕Unit)) (fun I=>
(if(decide (I<((a0.size:Nat):Int)))=true then
 gd ((0:Int)<=I∧I<((a0.size:Nat):Int))<|
(if((JB a0 I.toNat)==35)=true then
 gd ((0:Int)<=(0:Int)∧(0:Int)<=I∧I<=((a0.size:Nat):Int))<|
 some (.inr (.inl (a0.extract 0 I.toNat)))
else
 some (.inl (IntKind.i64.wrap (I+1))))
else
 some (.inr (.inr ())))) 0) fun N=>
(match N with
| .inl J=>
 some J
| .inr d8=>
 some a0)
theorem Qli {a0:Bt} {r:Bt} (h:Qcw a0=some r):PureC prog 188 [.d (.str a0)] (.d (.str r)) []:=by
 refine pY tOk f188 rfl (Qb tOk ?_);obtain⟨x4,J,h⟩:=Qc h;refine Qm tOk J (fun O=>⟨0,18,[(0,.d (.str a0)),(3,dI O)],[],[],[]⟩) ?_ ?_
 ·exact leX []
 ·clear J;intro O y2 I N;refine Qb tOk ?_;apply Qr I<;>intro _ I
  ·refine Qb tOk (gdI I fun I=>?_);apply Qr I<;>intro _ I
   ·refine gdI I fun I=>?_;cases I;cases N _ rfl;cases h;exact lfP []
   ·exact eX I []
  ·cases I
   cases N _ rfl
   cases h
   exact lfP []
def Jq (a0:Bt):Option ((List Bt)×Bool):=
 bd (Qcw a0) fun J=>
 bd (lp (σ:=List Int×List Bt×Int) (β:=(Unit⊕(Nat×(List Bt)))) (fun I=>
(if(decide (I.2.2<=((J.size:Nat):Int)))=true then
 gd ((decide (I.2.2<((J.size:Nat):Int)))=true->((0:Int)<=I.2.2∧I.2.2<((J.size:Nat):Int)))<|
 gd ((decide ((JB J I.2.2.toNat)<32))=false->((decide (I.2.2<((J.size:Nat):Int)))=true->((0:Int)<=I.2.2∧I.2.2<((J.size:Nat):Int))))<|
(if((decide (I.2.2<((J.size:Nat):Int)))&&((decide ((JB J I.2.2.toNat)<32))||(decide ((JB J I.2.2.toNat)>126))))=true then
 some (.inr (.inl ()))
else
 gd ((decide (I.2.2<((J.size:Nat):Int)))=true->((0:Int)<=I.2.2∧I.2.2<((J.size:Nat):Int)))<|
(if((decide (I.2.2<((J.size:Nat):Int)))&&((JB J I.2.2.toNat) !=32))=true then
 gd ((0:Int)<=I.2.2∧I.2.2<((J.size:Nat):Int))<|
 gd (((I.1.length)+(([(JB J I.2.2.toNat)]:List Int).length))*(1+1)<=70368744177664)<|
(if(decide ((((I.1++([(JB J I.2.2.toNat)]:List Int)).length:Nat):Int)>24))=true then
 some (.inr (.inl ()))
else
 some (.inl ((I.1++([(JB J I.2.2.toNat)]:List Int)),I.2.1,IntKind.i64.wrap (I.2.2+1))))
else
(if(decide (((I.1.length:Nat):Int)>0))=true then
 gd (((I.2.1.length)+(([(Qgq (QqF I.1.length (rows Qo I.1)))]:List Bt).length))*(16+1)<=70368744177664)<|
(if(decide ((((I.2.1++([(Qgq (QqF I.1.length (rows Qo I.1)))]:List Bt)).length:Nat):Int)>8))=true then
 some (.inr (.inl ()))
else
 some (.inl (([]:List Int),(I.2.1++([(Qgq (QqF I.1.length (rows Qo I.1)))]:List Bt)),IntKind.i64.wrap (I.2.2+1))))
else
 some (.inl (I.1,I.2.1,IntKind.i64.wrap (I.2.2+1))))))
else
 some (.inr (.inr (I.2.1.length,I.2.1))))) (([]:List Int),([]:List Bt),0)) fun O=>
(match O with
| .inl d12=>
 some ([],false)
| .inr N=>
 some (N.2,true))
theorem QdV {a0:Bt} {r:(List Bt)×Bool} (h:Jq a0=some r):PureC prog 118 [.d (.str a0)] (.tup [.osl 5001 0 r.1.length,dB r.2]) [⟨5001,9,1,r.1.length,rows Qi r.1⟩]:=by
 refine pY tOk f118 rfl (bC h 0 (fun _=>Qli) fun U h=>Qb tOk ?_);obtain⟨x5,O,h⟩:=Qc h;refine Qm tOk O (fun J=>⟨0,69,[(4,.d (.str U)),(5,.osl 7002 0 J.2.1.length),(6,.osl 7001 0 J.1.length),(7,dI J.2.2)],[],[(7002,.arr 9 1 J.2.1.length (rows Qi J.2.1)),(7001,.arr 5 1 J.1.length (rows Qo J.1))],[]⟩) ?_ ?_
 ·exact leX [.p 7002 9 1 (rows Qi ([]:List Bt)),.p 7001 5 1 (rows Qo ([]:List Int))]
 ·clear O;intro J y3 I N;refine Qb tOk ?_;apply Qr I<;>intro _ I
  ·refine Qb tOk (Qb tOk (gdI I fun I=>gdI I fun I=>?_));apply Qr I<;>intro _ I
   ·cases I
    cases N _ rfl
    cases h
    exact lfP [.p 5001 9 1 (rows Qi ([]:List Bt))]
   ·refine Qb tOk (gdI I fun I=>?_);apply Qr I<;>intro _ I
    ·refine gdI I fun I=>Z6 (enc:=Qo) ([(JB U J.2.2.toNat)]:List Int) (gdI I fun I=>QdW (enc:=Qo) (xs:=J.1) (ys:=([(JB U J.2.2.toNat)]:List Int)) (Qb tOk ?_));apply Qr I<;>intro _ I
     ·cases I
      cases N _ rfl
      cases h
      exact lfP [.p 5001 9 1 (rows Qi ([]:List Bt))]
     ·exact eX I []
    ·apply Qr I<;>intro _ I
     ·refine aI Quk (Z6 (enc:=Qi) ([(Qgq (QqF J.1.length (rows Qo J.1)))]:List Bt) (gdI I fun I=>QdW (enc:=Qi) (xs:=J.2.1) (ys:=([(Qgq (QqF J.1.length (rows Qo J.1)))]:List Bt)) ?_));apply Qr I<;>intro _ I
      ·cases I
       cases N _ rfl
       cases h
       exact lfP [.p 5001 9 1 (rows Qi ([]:List Bt))]
      ·exact eX I [.k [61,7001],.p 7001 5 1 (rows Qo ([]:List Int))]
     ·exact eX I []
  ·cases I
   cases N _ rfl
   cases h
   exact lfP [.s [(5001,7002),(7002,5001)]]
def JI (a0:Int) (I:Int) (J:Int):Option (Bool):=
 some ((decide (a0>=I))&&(decide (a0<=J)))
theorem Qcr {a0:Int} {I:Int} {J:Int} {r:Bool} (h:JI a0 I J=some r):PureC prog 192 [dI a0,dI I,dI J] (dB r) []:=by
 refine pY tOk f192 rfl ?_;unfold JI at h;cases h;exact lfP []
def Qas (a0:Bt):Option (Bool):=
 bd (JI ((a0.size:Nat):Int) 1 8) fun U=>
(if(!U)=true then
 some false
else
 bd (lp (σ:=Int) (β:=(Unit⊕Unit)) (fun I=>
(if(decide (I<((a0.size:Nat):Int)))=true then
 gd ((0:Int)<=I∧I<((a0.size:Nat):Int))<|
 bd (JI (IntKind.i64.wrap (JB a0 I.toNat)) 97 122) fun J=>
 gd ((!J)=true->((0:Int)<=I∧I<((a0.size:Nat):Int)))<|
 bd (Qv ((!J)=true) (JI (IntKind.i64.wrap (JB a0 I.toNat)) 48 57)) fun N=>
 gd (((!J)&&(!N))=true->((0:Int)<=I∧I<((a0.size:Nat):Int)))<|
(if(((!J)&&(!N))&&((JB a0 I.toNat) !=45))=true then
 some (.inr (.inl ()))
else
 some (.inl (IntKind.i64.wrap (I+1))))
else
 some (.inr (.inr ())))) 0) fun O=>
(match O with
| .inl d11=>
 some false
| .inr d12=>
 some true))
theorem Qdj {a0:Bt} {r:Bool} (h:Qas a0=some r):PureC prog 297 [.d (.str a0)] (dB r) []:=by
 refine pY tOk f297 rfl (Qb tOk (bC h 0 (fun _=>Qcr) fun x1 h=>?_));apply Qr h<;>intro _ h
 ·cases h
  exact lfP []
 ·refine Qb tOk ?_;obtain⟨x5,N,h⟩:=Qc h;refine Qm tOk N (fun O=>⟨0,34,[(0,.d (.str a0)),(3,dI O)],[],[],[]⟩) ?_ ?_
  ·exact leX []
  ·clear N;intro O y3 I J;refine Qb tOk ?_;apply Qr I<;>intro _ I
   ·refine Qb tOk (gdI I fun I=>bC I 0 (fun _=>Qcr) fun x7 I=>gdI I fun I=>bG I (fun _=>Qcr) fun x9 I=>gdI I fun I=>?_);apply Qr I<;>intro _ I
    ·cases I
     cases J _ rfl
     cases h
     exact lfP []
    ·exact eX I []
   ·cases I
    cases J _ rfl
    cases h
    exact lfP []
def JC (a0:Bt) (N:Int):Option ((List Bt)):=
 bd (lp (σ:=List Bt×Int×Int) (β:=(Nat×Int×(List Bt))) (fun I=>
(if(decide (I.2.2<((a0.size:Nat):Int)))=true then
 gd ((0:Int)<=I.2.2∧I.2.2<((a0.size:Nat):Int))<|
(if((JB a0 I.2.2.toNat)==N)=true then
 gd ((0:Int)<=I.2.1∧I.2.1<=I.2.2∧I.2.2<=((a0.size:Nat):Int))<|
 gd (((I.1.length)+(([(a0.extract I.2.1.toNat I.2.2.toNat)]:List Bt).length))*(16+1)<=70368744177664)<|
 some (.inl ((I.1++([(a0.extract I.2.1.toNat I.2.2.toNat)]:List Bt)),IntKind.i64.wrap (I.2.2+1),IntKind.i64.wrap (I.2.2+1)))
else
 some (.inl (I.1,I.2.1,IntKind.i64.wrap (I.2.2+1))))
else
 some (.inr (I.1.length,I.2.1,I.1)))) (([]:List Bt),0,0)) fun J=>
 gd ((0:Int)<=J.2.1∧J.2.1<=((a0.size:Nat):Int)∧((a0.size:Nat):Int)<=((a0.size:Nat):Int))<|
 gd (((J.1)+(([(a0.extract J.2.1.toNat ((a0.size:Nat):Int).toNat)]:List Bt).length))*(16+1)<=70368744177664)<|
 some (J.2.2++([(a0.extract J.2.1.toNat ((a0.size:Nat):Int).toNat)]:List Bt))
theorem QfE {a0:Bt} {O:Int} {r:(List Bt)} (h:JC a0 O=some r):PureC prog 189 [.d (.str a0),.d (.int .u8 O)] (.osl 5001 0 r.length) [⟨5001,9,1,r.length,rows Qi r⟩]:=by
 refine pY tOk f189 rfl (Qb tOk ?_);obtain⟨x4,N,h⟩:=Qc h;refine Qm tOk N (fun I=>⟨0,35,[(0,.d (.str a0)),(1,.d (.int .u8 O)),(5,.osl 7001 0 I.1.length),(6,dI I.2.1),(7,dI I.2.2)],[],[(7001,.arr 9 1 I.1.length (rows Qi I.1))],[]⟩) ?_ ?_
 ·exact leX [.p 7001 9 1 (rows Qi ([]:List Bt))]
 ·clear N;intro I y2 J U;refine Qb tOk ?_;apply Qr J<;>intro _ J
  ·refine Qb tOk (gdI J fun J=>?_);apply Qr J<;>intro _ J
   ·refine gdI J fun J=>Z6 (enc:=Qi) ([(a0.extract I.2.1.toNat I.2.2.toNat)]:List Bt) (gdI J fun J=>QdW (enc:=Qi) (xs:=I.1) (ys:=([(a0.extract I.2.1.toNat I.2.2.toNat)]:List Bt)) ?_);exact eX J []
   ·exact eX J []
  ·cases J
   cases U _ rfl
   refine gdI h fun h=>Z6 (enc:=Qi) ([(a0.extract (I.1.length,I.2.1,I.1).2.1.toNat ((a0.size:Nat):Int).toNat)]:List Bt) (gdI h fun h=>QdW (enc:=Qi) (xs:=(I.1.length,I.2.1,I.1).2.2) (ys:=([(a0.extract (I.1.length,I.2.1,I.1).2.1.toNat ((a0.size:Nat):Int).toNat)]:List Bt)) ?_);cases h;exact lfP [.s [(5001,7001),(7001,5001)]]
def Qcx:Option ((List Bt)):=
 some ([(⟨#[100,111,111,114]⟩:Bt),(⟨#[104,111,115,116]⟩:Bt),(⟨#[110,97,116]⟩:Bt),(⟨#[112,101,101,114]⟩:Bt),(⟨#[112,111,114,116]⟩:Bt),(⟨#[114,111,117,116,101]⟩:Bt),(⟨#[114,117,108,101]⟩:Bt),(⟨#[117,115,101,114]⟩:Bt)]:List Bt)
theorem Qlj {r:(List Bt)} (h:Qcx=some r):PureC prog 309 [] (.osl 5001 0 r.length) [⟨5001,9,1,r.length,rows Qi r⟩]:=by
 refine pY tOk f309 rfl ?_;unfold Qcx at h;refine Z6 (enc:=Qi) ([(⟨#[100,111,111,114]⟩:Bt),(⟨#[104,111,115,116]⟩:Bt),(⟨#[110,97,116]⟩:Bt),(⟨#[112,101,101,114]⟩:Bt),(⟨#[112,111,114,116]⟩:Bt),(⟨#[114,111,117,116,101]⟩:Bt),(⟨#[114,117,108,101]⟩:Bt),(⟨#[117,115,101,114]⟩:Bt)]:List Bt) ?_;cases h;exact lfP [.s [(1,5001),(5001,1)]]
def Qcy (a0:(List Bt)) (J:Bt):Option (Bool):=
 bd (lp (σ:=Int) (β:=(Unit⊕Unit)) (fun I=>
(if(decide (I<((a0.length:Nat):Int)))=true then
 gd ((0:Int)<=I∧I<((a0.length:Nat):Int))<|
(if((a0.getD I.toNat default)==J)=true then
 some (.inr (.inl ()))
else
 some (.inl (IntKind.i64.wrap (I+1))))
else
 some (.inr (.inr ())))) 0) fun N=>
(match N with
| .inl d6=>
 some true
| .inr d7=>
 some false)
theorem QiC {a0:(List Bt)} {O:Bt} {r:Bool} (h:Qcy a0 O=some r):PureC prog 117 [.d (slD Qi a0),.d (.str O)] (dB r) []:=by
 refine pY tOk f117 rfl (Qb tOk ?_);obtain⟨x4,J,h⟩:=Qc h;refine Qm tOk J (fun U=>⟨0,18,[(0,.d (slD Qi a0)),(1,.d (.str O)),(5,dI U)],[],[],[]⟩) ?_ ?_
 ·exact leX []
 ·clear J;intro U y2 I N;refine Qb tOk ?_;apply Qr I<;>intro _ I
  ·refine Qb tOk (gdI I fun I=>?_);apply Qr I<;>intro _ I
   ·cases I
    cases N _ rfl
    cases h
    exact lfP []
   ·exact eX I []
  ·cases I
   cases N _ rfl
   cases h
   exact lfP []
def Qb7 (a0:Bt):Option (Bool):=
(if((a0==(⟨#[97,108,108]⟩:Bt))||(a0==(⟨#[110,111,110,101]⟩:Bt)))=true then
 some true
else
 bd (JC a0 44) fun J=>
 bd (lp (σ:=Int) (β:=(Unit⊕Unit)) (fun I=>
(if(decide (I<((J.length:Nat):Int)))=true then
 bd (Qcx) fun U=>
 gd ((0:Int)<=I∧I<((J.length:Nat):Int))<|
 bd (Qcy U (J.getD I.toNat default)) fun N=>
 gd ((decide (I>0))=true->((!N)=false->((0:Int)<=IntKind.i64.wrap (I-1)∧IntKind.i64.wrap (I-1)<((J.length:Nat):Int))))<|
 gd ((decide (I>0))=true->((!N)=false->((0:Int)<=I∧I<((J.length:Nat):Int))))<|
(if((!N)||((decide (I>0))&&(!(bsl (J.getD ((IntKind.i64.wrap (I-1)).toNat) default) (J.getD I.toNat default)))))=true then
 some (.inr (.inl ()))
else
 some (.inl (IntKind.i64.wrap (I+1))))
else
 some (.inr (.inr ())))) 0) fun O=>
(match O with
| .inl d11=>
 some false
| .inr d12=>
 some true))
theorem Qky {a0:Bt} {r:Bool} (h:Qb7 a0=some r):PureC prog 298 [.d (.str a0)] (dB r) []:=by
 refine pY tOk f298 rfl (Qb tOk ?_);apply Qr h<;>intro _ h
 ·cases h
  exact lfP []
 ·refine bC h 1000 (fun _=>QfE) fun Y h=>Qb tOk ?_;obtain⟨x5,N,h⟩:=Qc h;refine Qm tOk N (fun s2=>⟨0,42,[(3,.osl 6001 0 Y.length),(4,dI s2)],[],[(6001,.arr 9 1 Y.length (rows Qi Y))],[]⟩) ?_ ?_
  ·exact leX []
  ·clear N;intro s2 y3 I J;refine Qb tOk ?_;apply Qr I<;>intro _ I
   ·refine Qb tOk ?_;obtain⟨O,a1,I⟩:=Qc I;obtain⟨g7,I⟩:=Qe I;obtain⟨x8,a2,I⟩:=Qc I;obtain⟨g9,I⟩:=Qe I;obtain⟨U,I⟩:=Qe I;refine QQ tOk [.u 0 2000 (.osl 5001 0 O.length) [⟨5001,9,1,O.length,rows Qi O⟩],.u 5 0 (dB x8) []] 23 [] [0,0,0,6,14,31,63,127,255,511,1023,2047,2047,6143,16383,32767,2047,2047,198655,460799,1048575,2097151,4194303] [] (aI (Qp (Qlj a1) (by kernel_rfl)) (aI g7 (aI (Qp (QiC a2) (by kernel_rfl)) (aI g9 (aI U (aK ?_))))));apply Qr I<;>intro _ I
    ·cases I
     cases J _ rfl
     cases h
     exact lfP []
    ·exact eX I []
   ·cases I
    cases J _ rfl
    cases h
    exact lfP []
def Zg (a0:Bt):Option (Int):=
 bd (JI ((a0.size:Nat):Int) 1 6) fun N=>
 gd ((decide (((a0.size:Nat):Int)>1))=true->((!N)=false->((0:Int)<=(0:Int)∧(0:Int)<((a0.size:Nat):Int))))<|
(if((!N)||((decide (((a0.size:Nat):Int)>1))&&((JB a0 0)==48)))=true then
 some (-1)
else
 bd (lp (σ:=Int×Int) (β:=(Unit⊕Int)) (fun I=>
(if(decide (I.2<((a0.size:Nat):Int)))=true then
 gd ((0:Int)<=I.2∧I.2<((a0.size:Nat):Int))<|
 bd (JI (IntKind.i64.wrap (JB a0 I.2.toNat)) 48 57) fun U=>
(if(!U)=true then
 some (.inr (.inl ()))
else
 gd ((0:Int)<=I.2∧I.2<((a0.size:Nat):Int))<|
 some (.inl (IntKind.i64.wrap ((IntKind.i64.wrap (I.1*10))+(IntKind.i64.wrap (IntKind.u8.wrap ((JB a0 I.2.toNat) -48)))),IntKind.i64.wrap (I.2+1))))
else
 some (.inr (.inr I.1)))) (0,0)) fun O=>
(match O with
| .inl d10=>
 some (-1)
| .inr J=>
 some J))
theorem Z1 {a0:Bt} {r:Int} (h:Zg a0=some r):PureC prog 126 [.d (.str a0)] (dI r) []:=by
 refine pY tOk f126 rfl (Qb tOk (bC h 0 (fun _=>Qcr) fun x1 h=>gdI h fun h=>?_));apply Qr h<;>intro _ h
 ·cases h
  exact lfP []
 ·refine Qb tOk ?_;obtain⟨x6,N,h⟩:=Qc h;refine Qm tOk N (fun O=>⟨0,40,[(0,.d (.str a0)),(3,dI O.1),(4,dI O.2)],[],[],[]⟩) ?_ ?_
  ·exact leX []
  ·clear N;intro O y4 I J;refine Qb tOk ?_;apply Qr I<;>intro _ I
   ·refine Qb tOk (Qb tOk (gdI I fun I=>bC I 0 (fun _=>Qcr) fun x8 I=>?_));apply Qr I<;>intro _ I
    ·cases I
     cases J _ rfl
     cases h
     exact lfP []
    ·refine gdI I fun I=>?_;exact eX I []
   ·cases I
    cases J _ rfl
    cases h
    exact lfP []
def Ze (a0:Bt) (J:Int) (O:Int):Option (Bool):=
 bd (Zg a0) fun N=>
 bd (JI N J O) fun I=>
 some I
theorem ZE {a0:Bt} {I:Int} {J:Int} {r:Bool} (h:Ze a0 I J=some r):PureC prog 190 [.d (.str a0),dI I,dI J] (dB r) []:=by
 refine pY tOk f190 rfl (bC h 0 (fun _=>Z1) fun x1 h=>bC h 0 (fun _=>Qcr) fun x2 h=>?_);cases h;exact lfP []
def Q6 (a0:Bt):Option (Int):=
 bd (JC a0 46) fun I=>
 gd ((((I.length:Nat):Int) !=2)=false->((0:Int)<=0∧0<((I.length:Nat):Int)))<|
 bd (Qv ((((I.length:Nat):Int) !=2)=false) (Ze (I.getD 0 default) 0 255)) fun J=>
 gd (((((I.length:Nat):Int) !=2)||(!J))=false->((0:Int)<=1∧1<((I.length:Nat):Int)))<|
 bd (Qv (((((I.length:Nat):Int) !=2)||(!J))=false) (Ze (I.getD 1 default) 0 255)) fun N=>
(if(((((I.length:Nat):Int) !=2)||(!J))||(!N))=true then
 some (-1)
else
 gd ((0:Int)<=0∧0<((I.length:Nat):Int))<|
 bd (Zg (I.getD 0 default)) fun U=>
 gd ((0:Int)<=1∧1<((I.length:Nat):Int))<|
 bd (Zg (I.getD 1 default)) fun O=>
 some (IntKind.i64.wrap ((IntKind.i64.wrap (256*U))+O)))
theorem Zu {a0:Bt} {r:Int} (h:Q6 a0=some r):PureC prog 123 [.d (.str a0)] (dI r) []:=by
 refine pY tOk f123 rfl (bC h 1000 (fun _=>QfE) fun x1 h=>Qb tOk (gdI h fun h=>bG h (fun _=>ZE) fun x3 h=>gdI h fun h=>bG h (fun _=>ZE) fun x5 h=>?_));apply Qr h<;>intro _ h
 ·cases h
  exact lfP []
 ·obtain⟨Y,h⟩:=Qe h;obtain⟨O,J,h⟩:=Qc h;obtain⟨U,h⟩:=Qe h;obtain⟨N,I,h⟩:=Qc h;refine QQ tOk [.u 3 0 (dI O) [],.u 8 0 (dI N) []] 11 [] [0,1,3,7,15,0,32,96,239,511,1023] [] (aI Y (aI (Qp (Z1 J) (by kernel_rfl)) (aI U (aI (Qp (Z1 I) (by kernel_rfl)) (aK ?_)))));cases h;exact lfP []
def Qdk (a0:Int):Option (Int):=
 bd (lp (σ:=Int×Int) (β:=(Int)) (fun I=>
(if(decide (I.2<16))=true then
 some (.inl (IntKind.i64.wrap (I.1*2),IntKind.i64.wrap (I.2+1)))
else
 some (.inr I.1))) (1,a0)) fun J=>
 some J
theorem QmK {a0:Int} {r:Int} (h:Qdk a0=some r):PureC prog 191 [dI a0] (dI r) []:=by
 refine pY tOk f191 rfl (Qb tOk ?_);obtain⟨x4,I,h⟩:=Qc h;refine Qm tOk I (fun N=>⟨0,13,[(3,dI N.1),(4,dI N.2)],[],[],[]⟩) ?_ ?_
 ·exact leX []
 ·clear I;intro N y2 J O;refine Qb tOk ?_;apply Qr J<;>intro _ J
  ·refine Qb tOk ?_;exact eX J []
  ·cases J
   cases O _ rfl
   cases h
   exact lfP []
def Zv (a0:Bt):Option (Int×Int):=
 bd (JC a0 47) fun I=>
 gd ((((I.length:Nat):Int) !=2)=false->((0:Int)<=0∧0<((I.length:Nat):Int)))<|
 bd (Qv ((((I.length:Nat):Int) !=2)=false) (Q6 (I.getD 0 default))) fun N=>
 gd (((((I.length:Nat):Int) !=2)||(decide (N<0)))=false->((0:Int)<=1∧1<((I.length:Nat):Int)))<|
 bd (Qv (((((I.length:Nat):Int) !=2)||(decide (N<0)))=false) (Ze (I.getD 1 default) 0 16)) fun Y=>
(if(((((I.length:Nat):Int) !=2)||(decide (N<0)))||(!Y))=true then
 some (-1,0)
else
 gd ((0:Int)<=0∧0<((I.length:Nat):Int))<|
 bd (Q6 (I.getD 0 default)) fun O=>
 gd ((0:Int)<=1∧1<((I.length:Nat):Int))<|
 bd (Zg (I.getD 1 default)) fun U=>
 bd (Qdk U) fun J=>
 gd ((J:Int)≠0)<|
(if(((O:Int).tmod J) !=0)=true then
 some (-1,0)
else
 some (O,J)))
theorem Qab {a0:Bt} {r:Int×Int} (h:Zv a0=some r):PureC prog 121 [.d (.str a0)] (.tup [dI r.1,dI r.2]) []:=by
 refine pY tOk f121 rfl (bC h 1000 (fun _=>QfE) fun x1 h=>Qb tOk (gdI h fun h=>bG h (fun _=>Zu) fun x3 h=>gdI h fun h=>bG h (fun _=>ZE) fun x5 h=>?_));apply Qr h<;>intro _ h
 ·cases h
  exact lfP []
 ·refine gdI h fun h=>bC h 0 (fun _=>Zu) fun x7 h=>gdI h fun h=>bC h 0 (fun _=>Z1) fun x9 h=>bC h 0 (fun _=>QmK) fun x10 h=>Qb tOk (gdI h fun h=>?_);apply Qr h<;>intro _ h
  ·cases h
   exact lfP []
  ·cases h
   exact lfP []
def ZF (a0:Bt):Option (Bool):=
 bd (Zv a0) fun I=>
 some (decide (I.1>=0))
theorem Qag {a0:Bt} {r:Bool} (h:ZF a0=some r):PureC prog 299 [.d (.str a0)] (dB r) []:=by
 refine pY tOk f299 rfl (bC h 0 (fun _=>Qab) fun x1 h=>?_);cases h;exact lfP []
def Qdl (a0:(List Bt)):Option (Bool):=
(if(((a0.length:Nat):Int)==0)=true then
 some false
else
 gd ((0:Int)<=0∧0<((a0.length:Nat):Int))<|
(if((a0.getD 0 default)==(⟨#[104,111,115,116]⟩:Bt))=true then
 gd ((((a0.length:Nat):Int)==2)=true->((0:Int)<=1∧1<((a0.length:Nat):Int)))<|
 bd (Qv ((((a0.length:Nat):Int)==2)=true) (Qas (a0.getD 1 default))) fun x3=>
 some ((((a0.length:Nat):Int)==2)&&x3)
else
(if((a0.getD 0 default)==(⟨#[117,115,101,114]⟩:Bt))=true then
 gd ((((a0.length:Nat):Int)==3)=true->((0:Int)<=1∧1<((a0.length:Nat):Int)))<|
 bd (Qv ((((a0.length:Nat):Int)==3)=true) (Qas (a0.getD 1 default))) fun x5=>
 gd (((((a0.length:Nat):Int)==3)&&x5)=true->((0:Int)<=2∧2<((a0.length:Nat):Int)))<|
 bd (Qv (((((a0.length:Nat):Int)==3)&&x5)=true) (Qb7 (a0.getD 2 default))) fun x7=>
 some (((((a0.length:Nat):Int)==3)&&x5)&&x7)
else
(if((a0.getD 0 default)==(⟨#[112,111,114,116]⟩:Bt))=true then
 gd ((((a0.length:Nat):Int)==5)=true->((((a0.length:Nat):Int)==3)=false->((0:Int)<=3∧3<((a0.length:Nat):Int))))<|
 gd (((((a0.length:Nat):Int)==5)&&((a0.getD 3 default)==(⟨#[105,110]⟩:Bt)))=true->((((a0.length:Nat):Int)==3)=false->((0:Int)<=4∧4<((a0.length:Nat):Int))))<|
 bd (Qv (((((a0.length:Nat):Int)==5)&&((a0.getD 3 default)==(⟨#[105,110]⟩:Bt)))=true∧(((a0.length:Nat):Int)==3)=false) (Qas (a0.getD 4 default))) fun a1=>
 gd (((((a0.length:Nat):Int)==3)||(((((a0.length:Nat):Int)==5)&&((a0.getD 3 default)==(⟨#[105,110]⟩:Bt)))&&a1))=true->((0:Int)<=1∧1<((a0.length:Nat):Int)))<|
 bd (Qv (((((a0.length:Nat):Int)==3)||(((((a0.length:Nat):Int)==5)&&((a0.getD 3 default)==(⟨#[105,110]⟩:Bt)))&&a1))=true) (Ze (a0.getD 1 default) 0 7)) fun a7=>
 gd ((((((a0.length:Nat):Int)==3)||(((((a0.length:Nat):Int)==5)&&((a0.getD 3 default)==(⟨#[105,110]⟩:Bt)))&&a1))&&a7)=true->((0:Int)<=2∧2<((a0.length:Nat):Int)))<|
 bd (Qv ((((((a0.length:Nat):Int)==3)||(((((a0.length:Nat):Int)==5)&&((a0.getD 3 default)==(⟨#[105,110]⟩:Bt)))&&a1))&&a7)=true) (ZF (a0.getD 2 default))) fun b7=>
 some ((((((a0.length:Nat):Int)==3)||(((((a0.length:Nat):Int)==5)&&((a0.getD 3 default)==(⟨#[105,110]⟩:Bt)))&&a1))&&a7)&&b7)
else
(if((a0.getD 0 default)==(⟨#[114,117,108,101]⟩:Bt))=true then
 gd ((((a0.length:Nat):Int)==7)=true->((0:Int)<=1∧1<((a0.length:Nat):Int)))<|
 bd (Qv ((((a0.length:Nat):Int)==7)=true) (Qas (a0.getD 1 default))) fun I=>
 gd (((((a0.length:Nat):Int)==7)&&I)=true->((0:Int)<=2∧2<((a0.length:Nat):Int)))<|
 bd (Qv (((((a0.length:Nat):Int)==7)&&I)=true) (Ze (a0.getD 2 default) 0 99)) fun J=>
 gd ((((((a0.length:Nat):Int)==7)&&I)&&J)=true->((0:Int)<=3∧3<((a0.length:Nat):Int)))<|
 gd (((a0.getD 3 default)==(⟨#[112,101,114,109,105,116]⟩:Bt))=false->((((((a0.length:Nat):Int)==7)&&I)&&J)=true->((0:Int)<=3∧3<((a0.length:Nat):Int))))<|
 gd (((((((a0.length:Nat):Int)==7)&&I)&&J)&&(((a0.getD 3 default)==(⟨#[112,101,114,109,105,116]⟩:Bt))||((a0.getD 3 default)==(⟨#[100,101,110,121]⟩:Bt))))=true->((0:Int)<=4∧4<((a0.length:Nat):Int)))<|
 bd (Qv (((((((a0.length:Nat):Int)==7)&&I)&&J)&&(((a0.getD 3 default)==(⟨#[112,101,114,109,105,116]⟩:Bt))||((a0.getD 3 default)==(⟨#[100,101,110,121]⟩:Bt))))=true) (ZF (a0.getD 4 default))) fun a2=>
 gd ((((((((a0.length:Nat):Int)==7)&&I)&&J)&&(((a0.getD 3 default)==(⟨#[112,101,114,109,105,116]⟩:Bt))||((a0.getD 3 default)==(⟨#[100,101,110,121]⟩:Bt))))&&a2)=true->((0:Int)<=5∧5<((a0.length:Nat):Int)))<|
 bd (Qv ((((((((a0.length:Nat):Int)==7)&&I)&&J)&&(((a0.getD 3 default)==(⟨#[112,101,114,109,105,116]⟩:Bt))||((a0.getD 3 default)==(⟨#[100,101,110,121]⟩:Bt))))&&a2)=true) (ZF (a0.getD 5 default))) fun b0=>
 gd (((((((((a0.length:Nat):Int)==7)&&I)&&J)&&(((a0.getD 3 default)==(⟨#[112,101,114,109,105,116]⟩:Bt))||((a0.getD 3 default)==(⟨#[100,101,110,121]⟩:Bt))))&&a2)&&b0)=true->((0:Int)<=6∧6<((a0.length:Nat):Int)))<|
 bd (Qv (((((((((a0.length:Nat):Int)==7)&&I)&&J)&&(((a0.getD 3 default)==(⟨#[112,101,114,109,105,116]⟩:Bt))||((a0.getD 3 default)==(⟨#[100,101,110,121]⟩:Bt))))&&a2)&&b0)=true) (Ze (a0.getD 6 default) 0 7)) fun b6=>
 some (((((((((a0.length:Nat):Int)==7)&&I)&&J)&&(((a0.getD 3 default)==(⟨#[112,101,114,109,105,116]⟩:Bt))||((a0.getD 3 default)==(⟨#[100,101,110,121]⟩:Bt))))&&a2)&&b0)&&b6)
else
(if((a0.getD 0 default)==(⟨#[114,111,117,116,101]⟩:Bt))=true then
 gd ((((a0.length:Nat):Int)==3)=true->((0:Int)<=1∧1<((a0.length:Nat):Int)))<|
 bd (Qv ((((a0.length:Nat):Int)==3)=true) (ZF (a0.getD 1 default))) fun a8=>
 gd (((((a0.length:Nat):Int)==3)&&a8)=true->((0:Int)<=2∧2<((a0.length:Nat):Int)))<|
 bd (Qv (((((a0.length:Nat):Int)==3)&&a8)=true) (Q6 (a0.getD 2 default))) fun b4=>
 some (((((a0.length:Nat):Int)==3)&&a8)&&(decide (b4>=0)))
else
(if((a0.getD 0 default)==(⟨#[112,101,101,114]⟩:Bt))=true then
 gd ((((a0.length:Nat):Int)==4)=true->((0:Int)<=1∧1<((a0.length:Nat):Int)))<|
 bd (Qv ((((a0.length:Nat):Int)==4)=true) (Q6 (a0.getD 1 default))) fun Y=>
 gd (((((a0.length:Nat):Int)==4)&&(decide (Y>=0)))=true->((0:Int)<=2∧2<((a0.length:Nat):Int)))<|
 bd (Qv (((((a0.length:Nat):Int)==4)&&(decide (Y>=0)))=true) (Ze (a0.getD 2 default) 1 9)) fun a6=>
 gd ((((((a0.length:Nat):Int)==4)&&(decide (Y>=0)))&&a6)=true->((0:Int)<=3∧3<((a0.length:Nat):Int)))<|
 bd (Qv ((((((a0.length:Nat):Int)==4)&&(decide (Y>=0)))&&a6)=true) (Ze (a0.getD 3 default) 1 999999)) fun b3=>
 some ((((((a0.length:Nat):Int)==4)&&(decide (Y>=0)))&&a6)&&b3)
else
(if((a0.getD 0 default)==(⟨#[110,97,116]⟩:Bt))=true then
 gd ((((a0.length:Nat):Int)==5)=true->((0:Int)<=1∧1<((a0.length:Nat):Int)))<|
 bd (Qv ((((a0.length:Nat):Int)==5)=true) (ZF (a0.getD 1 default))) fun N=>
 gd (((((a0.length:Nat):Int)==5)&&N)=true->((0:Int)<=2∧2<((a0.length:Nat):Int)))<|
 bd (Qv (((((a0.length:Nat):Int)==5)&&N)=true) (Q6 (a0.getD 2 default))) fun U=>
 gd ((((((a0.length:Nat):Int)==5)&&N)&&(decide (U>=0)))=true->((0:Int)<=3∧3<((a0.length:Nat):Int)))<|
 bd (Qv ((((((a0.length:Nat):Int)==5)&&N)&&(decide (U>=0)))=true) (Ze (a0.getD 3 default) 1 65535)) fun b1=>
 gd (((((((a0.length:Nat):Int)==5)&&N)&&(decide (U>=0)))&&b1)=true->((0:Int)<=4∧4<((a0.length:Nat):Int)))<|
 bd (Qv (((((((a0.length:Nat):Int)==5)&&N)&&(decide (U>=0)))&&b1)=true) (Ze (a0.getD 4 default) 1 65535)) fun b5=>
 some (((((((a0.length:Nat):Int)==5)&&N)&&(decide (U>=0)))&&b1)&&b5)
else
(if((a0.getD 0 default)==(⟨#[100,111,111,114]⟩:Bt))=true then
 gd ((((a0.length:Nat):Int)==5)=true->((0:Int)<=1∧1<((a0.length:Nat):Int)))<|
 bd (Qv ((((a0.length:Nat):Int)==5)=true) (Ze (a0.getD 1 default) 1 7)) fun O=>
 gd (((((a0.length:Nat):Int)==5)&&O)=true->((0:Int)<=2∧2<((a0.length:Nat):Int)))<|
 bd (Qv (((((a0.length:Nat):Int)==5)&&O)=true) (Ze (a0.getD 2 default) 1 65535)) fun a5=>
 gd ((((((a0.length:Nat):Int)==5)&&O)&&a5)=true->((0:Int)<=3∧3<((a0.length:Nat):Int)))<|
 bd (Qv ((((((a0.length:Nat):Int)==5)&&O)&&a5)=true) (Q6 (a0.getD 3 default))) fun a9=>
 gd (((((((a0.length:Nat):Int)==5)&&O)&&a5)&&(decide (a9>=0)))=true->((0:Int)<=4∧4<((a0.length:Nat):Int)))<|
 bd (Qv (((((((a0.length:Nat):Int)==5)&&O)&&a5)&&(decide (a9>=0)))=true) (Ze (a0.getD 4 default) 1 65535)) fun b2=>
 some (((((((a0.length:Nat):Int)==5)&&O)&&a5)&&(decide (a9>=0)))&&b2)
else
 some false)))))))))
theorem QmL {a0:(List Bt)} {r:Bool} (h:Qdl a0=some r):PureC prog 274 [.d (slD Qi a0)] (dB r) []:=by
 refine pY tOk f274 rfl (Qb tOk ?_);apply Qr h<;>intro _ h
 ·cases h
  exact lfP []
 ·refine Qb tOk (gdI h fun h=>?_);apply Qr h<;>intro _ h
  ·refine gdI h fun h=>bG h (fun _=>Qdj) fun x3 h=>?_;cases h;exact lfP []
  ·apply Qr h<;>intro _ h
   ·refine gdI h fun h=>bG h (fun _=>Qdj) fun x5 h=>gdI h fun h=>bG h (fun _=>Qky) fun x7 h=>?_;cases h;exact lfP []
   ·apply Qr h<;>intro _ h
    ·refine gdI h fun h=>gdI h fun h=>?_;obtain⟨x10,I,h⟩:=Qc h;refine cG (fun J N=>Qdj (Qt I ⟨J,N⟩)) (gdI h fun h=>bG h (fun _=>ZE) fun x12 h=>gdI h fun h=>bG h (fun _=>Qag) fun x14 h=>?_);cases h;exact lfP []
    ·apply Qr h<;>intro _ h
     ·refine gdI h fun h=>bG h (fun _=>Qdj) fun x16 h=>gdI h fun h=>bG h (fun _=>ZE) fun x18 h=>gdI h fun h=>gdI h fun h=>gdI h fun h=>bG h (fun _=>Qag) fun x22 h=>gdI h fun h=>bG h (fun _=>Qag) fun x24 h=>gdI h fun h=>bG h (fun _=>ZE) fun x26 h=>?_;cases h;exact lfP []
     ·apply Qr h<;>intro _ h
      ·refine gdI h fun h=>bG h (fun _=>Qag) fun x28 h=>gdI h fun h=>bG h (fun _=>Zu) fun x30 h=>?_;cases h;exact lfP []
      ·apply Qr h<;>intro _ h
       ·refine gdI h fun h=>bG h (fun _=>Zu) fun x32 h=>gdI h fun h=>bG h (fun _=>ZE) fun x34 h=>gdI h fun h=>bG h (fun _=>ZE) fun x36 h=>?_;cases h;exact lfP []
       ·apply Qr h<;>intro _ h
        ·refine gdI h fun h=>bG h (fun _=>Qag) fun x38 h=>gdI h fun h=>bG h (fun _=>Zu) fun x40 h=>gdI h fun h=>bG h (fun _=>ZE) fun x42 h=>gdI h fun h=>bG h (fun _=>ZE) fun x44 h=>?_;cases h;exact lfP []
        ·apply Qr h<;>intro _ h
         ·refine gdI h fun h=>bG h (fun _=>ZE) fun x46 h=>gdI h fun h=>bG h (fun _=>ZE) fun x48 h=>gdI h fun h=>bG h (fun _=>Zu) fun x50 h=>gdI h fun h=>bG h (fun _=>ZE) fun x52 h=>?_;cases h;exact lfP []
         ·cases h
          exact lfP []
def QbS (a0:(List Bt)) (J:Bt):Option (Bt):=
 bd (lp (σ:=Bt×Int) (β:=(Bt)) (fun I=>
(if(decide (I.2<((a0.length:Nat):Int)))=true then
(if(decide (I.2>0))=true then
 gd (I.1.size+J.size<=9223372036854775807)<|
 gd ((0:Int)<=I.2∧I.2<((a0.length:Nat):Int))<|
 gd ((I.1++J).size+(a0.getD I.2.toNat default).size<=9223372036854775807)<|
 some (.inl (((I.1++J)++(a0.getD I.2.toNat default)),IntKind.i64.wrap (I.2+1)))
else
 gd ((0:Int)<=I.2∧I.2<((a0.length:Nat):Int))<|
 gd (I.1.size+(a0.getD I.2.toNat default).size<=9223372036854775807)<|
 some (.inl ((I.1++(a0.getD I.2.toNat default)),IntKind.i64.wrap (I.2+1))))
else
 some (.inr I.1))) ((⟨#[]⟩:Bt),0)) fun N=>
 some N
theorem QmM {a0:(List Bt)} {N:Bt} {r:Bt} (h:QbS a0 N=some r):PureC prog 275 [.d (slD Qi a0),.d (.str N)] (.d (.str r)) []:=by
 refine pY tOk f275 rfl (Qb tOk ?_);obtain⟨x4,J,h⟩:=Qc h;refine Qm tOk J (fun O=>⟨0,25,[(0,.d (slD Qi a0)),(1,.d (.str N)),(5,.d (.str O.1)),(6,dI O.2)],[],[],[]⟩) ?_ ?_
 ·exact leX []
 ·clear J;intro O y2 I U;refine Qb tOk ?_;apply Qr I<;>intro _ I
  ·refine Qb tOk (Qb tOk ?_);apply Qr I<;>intro _ I
   ·refine gdI I fun I=>gdI I fun I=>gdI I fun I=>?_;exact eX I []
   ·refine gdI I fun I=>gdI I fun I=>?_;exact eX I []
  ·cases I
   cases U _ rfl
   cases h
   exact lfP []
def Qcz (a0:Bt):Option (Bt×Bool):=
 bd (Jq a0) fun x1=>
 bd (Qv ((!x1.2)=false) (Qdl x1.1)) fun x2=>
(if((!x1.2)||(!x2))=true then
 some ((⟨#[]⟩:Bt),false)
else
 bd (QbS x1.1 (⟨#[32]⟩:Bt)) fun x3=>
 some (x3,true))
theorem Qlk {a0:Bt} {r:Bt×Bool} (h:Qcz a0=some r):PureC prog 250 [.d (.str a0)] (.tup [.d (.str r.1),dB r.2]) []:=by
 refine pY tOk f250 rfl (bC h 1000 (fun _=>QdV) fun x1 h=>Qb tOk (bG h (fun _=>QmL) fun x2 h=>?_));apply Qr h<;>intro _ h
 ·cases h
  exact lfP []
 ·refine bC h 0 (fun _=>QmM) fun x3 h=>?_;cases h;exact lfP []
def Qdm (a0:Bt):Option (Bool):=
 bd (Qcz a0) fun I=>
 some (I.2&&(I.1==a0))
theorem QmN {a0:Bt} {r:Bool} (h:Qdm a0=some r):PureC prog 211 [.d (.str a0)] (dB r) []:=by
 refine pY tOk f211 rfl (bC h 0 (fun _=>Qlk) fun x1 h=>?_);cases h;exact lfP []
def Qat (a0:Bt):Option (Bt):=
 bd (Qdm a0) fun N=>
(if(!N)=true then
 some (⟨#[]⟩:Bt)
else
 bd (Jq a0) fun I=>
 gd ((0:Int)<=0∧0<((I.1.length:Nat):Int))<|
 bd (α:=Bool) ((if((I.1.getD 0 default)==(⟨#[104,111,115,116]⟩:Bt))=true then
 some ((I.1.getD 0 default)==(⟨#[104,111,115,116]⟩:Bt))
else
 some ((I.1.getD 0 default)==(⟨#[110,97,116]⟩:Bt)))) fun U=>
(if U=true then
 gd ((0:Int)<=0∧0<((I.1.length:Nat):Int))<|
 some (I.1.getD 0 default)
else
 bd (α:=Bool) ((if((I.1.getD 0 default)==(⟨#[117,115,101,114]⟩:Bt))=true then
 some ((I.1.getD 0 default)==(⟨#[117,115,101,114]⟩:Bt))
else
(if((I.1.getD 0 default)==(⟨#[112,111,114,116]⟩:Bt))=true then
 some ((I.1.getD 0 default)==(⟨#[112,111,114,116]⟩:Bt))
else
 some ((I.1.getD 0 default)==(⟨#[112,101,101,114]⟩:Bt))))) fun O=>
(if O=true then
 gd ((0:Int)<=0∧0<((I.1.length:Nat):Int))<|
 gd ((I.1.getD 0 default).size+(⟨#[32]⟩:Bt).size<=9223372036854775807)<|
 gd ((0:Int)<=1∧1<((I.1.length:Nat):Int))<|
 gd (((I.1.getD 0 default)++(⟨#[32]⟩:Bt)).size+(I.1.getD 1 default).size<=9223372036854775807)<|
 some (((I.1.getD 0 default)++(⟨#[32]⟩:Bt))++(I.1.getD 1 default))
else
 bd (α:=Bool) ((if((I.1.getD 0 default)==(⟨#[114,117,108,101]⟩:Bt))=true then
 some ((I.1.getD 0 default)==(⟨#[114,117,108,101]⟩:Bt))
else
 some ((I.1.getD 0 default)==(⟨#[100,111,111,114]⟩:Bt)))) fun J=>
(if J=true then
 gd ((0:Int)<=0∧0<((I.1.length:Nat):Int))<|
 gd ((I.1.getD 0 default).size+(⟨#[32]⟩:Bt).size<=9223372036854775807)<|
 gd ((0:Int)<=1∧1<((I.1.length:Nat):Int))<|
 gd (((I.1.getD 0 default)++(⟨#[32]⟩:Bt)).size+(I.1.getD 1 default).size<=9223372036854775807)<|
 gd ((((I.1.getD 0 default)++(⟨#[32]⟩:Bt))++(I.1.getD 1 default)).size+(⟨#[32]⟩:Bt).size<=9223372036854775807)<|
 gd ((0:Int)<=2∧2<((I.1.length:Nat):Int))<|
 gd (((((I.1.getD 0 default)++(⟨#[32]⟩:Bt))++(I.1.getD 1 default))++(⟨#[32]⟩:Bt)).size+(I.1.getD 2 default).size<=9223372036854775807)<|
 some (((((I.1.getD 0 default)++(⟨#[32]⟩:Bt))++(I.1.getD 1 default))++(⟨#[32]⟩:Bt))++(I.1.getD 2 default))
else
 some a0))))
theorem Qe6 {a0:Bt} {r:Bt} (h:Qat a0=some r):PureC prog 160 [.d (.str a0)] (.d (.str r)) []:=by
 refine pY tOk f160 rfl (Qb tOk (bC h 0 (fun _=>QmN) fun x1 h=>?_));apply Qr h<;>intro _ h
 ·cases h
  exact lfP []
 ·refine bC h 1000 (fun _=>QdV) fun N h=>Qb tOk (gdI h fun h=>?_);obtain⟨x4,O,h⟩:=Qc h;refine Qah tOk (fun s5=>⟨0,51,[(0,.d (.str a0)),(3,.osl 6001 0 N.1.length),(15,.d (.str (N.1.getD 0 default))),(16,dB s5)],[],[(6001,.arr 9 1 N.1.length (rows Qi N.1))],[]⟩) (fun s5=>x4=s5) ?_ ?_
  ·apply Qr O<;>intro _ O
   ·exact eZ O []
   ·exact eZ O []
  ·rintro _ rfl;apply Qr h<;>intro _ h
   ·refine gdI h fun h=>?_;cases h;exact lfP []
   ·obtain⟨x8,I,h⟩:=Qc h;refine Qah tOk (fun s9=>⟨0,51,[(0,.d (.str a0)),(3,.osl 6001 0 N.1.length),(15,.d (.str (N.1.getD 0 default))),(22,dB s9)],[],[(6001,.arr 9 1 N.1.length (rows Qi N.1))],[]⟩) (fun s9=>x8=s9) ?_ ?_
    ·apply Qr I<;>intro _ I
     ·exact eZ I []
     ·apply Qr I<;>intro _ I
      ·exact eZ I []
      ·exact eZ I []
    ·rintro _ rfl;apply Qr h<;>intro _ h
     ·obtain⟨b1,h⟩:=Qe h;obtain⟨b0,h⟩:=Qe h;obtain⟨a9,h⟩:=Qe h;obtain⟨a5,h⟩:=Qe h;refine QQ tOk [] 9 [] [0,1,3,7,0,16,48,127,255] [] (aI b1 (aI b0 (aI a9 (aI a5 (aK ?_)))));cases h;exact lfP []
     ·obtain⟨a8,J,h⟩:=Qc h;refine Qah tOk (fun U=>⟨0,51,[(0,.d (.str a0)),(3,.osl 6001 0 N.1.length),(34,dB U)],[],[(6001,.arr 9 1 N.1.length (rows Qi N.1))],[]⟩) (fun U=>a8=U) ?_ ?_
      ·apply Qr J<;>intro _ J
       ·exact eZ J []
       ·exact eZ J []
      ·rintro _ rfl;apply Qr h<;>intro _ h
       ·obtain⟨a1,h⟩:=Qe h;obtain⟨a2,h⟩:=Qe h;obtain⟨Y,h⟩:=Qe h;obtain⟨b2,h⟩:=Qe h;obtain⟨a6,h⟩:=Qe h;obtain⟨b3,h⟩:=Qe h;obtain⟨a7,h⟩:=Qe h;refine QQ tOk [] 14 [] [0,1,3,7,0,16,48,127,255,0,512,1536,4095,8191] [] (aI a1 (aI a2 (aI Y (aI b2 (aI a6 (aI b3 (aI a7 (aK ?_))))))));cases h;exact lfP []
       ·cases h
        exact lfP []
def Qd9 (a0:(List Bt)) (J:Bt):Option (Int):=
 bd (lp (σ:=Int) (β:=(Int⊕Unit)) (fun I=>
(if(decide (I<((a0.length:Nat):Int)))=true then
 gd ((0:Int)<=I∧I<((a0.length:Nat):Int))<|
 bd (Qat (a0.getD I.toNat default)) fun O=>
(if(O==J)=true then
 some (.inr (.inl I))
else
 some (.inl (IntKind.i64.wrap (I+1))))
else
 some (.inr (.inr ())))) 0) fun U=>
(match U with
| .inl N=>
 some N
| .inr d8=>
 some (-1))
theorem Qn0 {a0:(List Bt)} {O:Bt} {r:Int} (h:Qd9 a0 O=some r):PureC prog 159 [.d (slD Qi a0),.d (.str O)] (dI r) []:=by
 refine pY tOk f159 rfl (Qb tOk ?_);obtain⟨x4,J,h⟩:=Qc h;refine Qm tOk J (fun U=>⟨0,20,[(0,.d (slD Qi a0)),(1,.d (.str O)),(5,dI U)],[],[],[]⟩) ?_ ?_
 ·exact leX []
 ·clear J;intro U y2 I N;refine Qb tOk ?_;apply Qr I<;>intro _ I
  ·refine Qb tOk (gdI I fun I=>bC I 0 (fun _=>Qe6) fun x6 I=>?_);apply Qr I<;>intro _ I
   ·cases I
    cases N _ rfl
    cases h
    exact lfP []
   ·exact eX I []
  ·cases I
   cases N _ rfl
   cases h
   exact lfP []
def QaH (a0:(List Bt)) (I:Int):Option ((List Bt)):=
 gd ((0:Int)<=(0:Int)∧(0:Int)<=I∧I<=((a0.length:Nat):Int))<|
 gd (((0)+(I.toNat))*(16+1)<=70368744177664)<|
 gd ((0:Int)<=IntKind.i64.wrap (I+1)∧IntKind.i64.wrap (I+1)<=((a0.length:Nat):Int)∧((a0.length:Nat):Int)<=((a0.length:Nat):Int))<|
 gd ((((a0.take I.toNat).length)+((QbP ((a0.length:Nat):Int) (IntKind.i64.wrap (I+1)))))*(16+1)<=70368744177664)<|
 some ((a0.take I.toNat)++(((a0).take ((IntKind.i64.wrap (I+1)).toNat+(QbP ((a0.length:Nat):Int) (IntKind.i64.wrap (I+1))))).drop ((IntKind.i64.wrap (I+1)).toNat)))
theorem Qfj {a0:(List Bt)} {I:Int} {r:(List Bt)} (h:QaH a0 I=some r):PureC prog 99 [.d (slD Qi a0),dI I] (.osl 5001 0 r.length) [⟨5001,9,1,r.length,rows Qi r⟩]:=by
 refine pY tOk f99 rfl ?_;obtain⟨O,h⟩:=Qe h;obtain⟨J,h⟩:=Qe h;obtain⟨N,h⟩:=Qe h;refine QQ tOk [] 9 [] [0,0,0,6,15,0,0,64,224] [511,1023] (aI ⟨O,.inr rfl⟩ (aI J (Qx9 (enc:=Qi) (ys:=a0.take I.toNat) (aI ⟨N,.inr rfl⟩ (aK (gdI h fun h=>QdW (enc:=Qi) (xs:=(a0.take I.toNat)) (ys:=((a0).take ((IntKind.i64.wrap (I+1)).toNat+(QbP ((a0.length:Nat):Int) (IntKind.i64.wrap (I+1))))).drop ((IntKind.i64.wrap (I+1)).toNat)) ?_))))));cases h;exact lfP [.s [(9,5001),(5001,9)]]
def QaQ (a0:(List Bt)) (N:Bt):Option ((List Bt)):=
 bd (lp (σ:=Int) (β:=(Int)) (fun J=>
 gd ((decide (J<((a0.length:Nat):Int)))=true->((0:Int)<=J∧J<((a0.length:Nat):Int)))<|
(if((decide (J<((a0.length:Nat):Int)))&&(bsl (a0.getD J.toNat default) N))=true then
 some (.inl (IntKind.i64.wrap (J+1)))
else
 some (.inr J))) 0) fun I=>
 gd ((0:Int)<=(0:Int)∧(0:Int)<=I∧I<=((a0.length:Nat):Int))<|
 gd (((0)+(I.toNat))*(16+1)<=70368744177664)<|
 gd ((((a0.take I.toNat).length)+(([N]:List Bt).length))*(16+1)<=70368744177664)<|
 gd ((0:Int)<=I∧I<=((a0.length:Nat):Int)∧((a0.length:Nat):Int)<=((a0.length:Nat):Int))<|
 gd (((((a0.take I.toNat)++([N]:List Bt)).length)+((QbP ((a0.length:Nat):Int) I)))*(16+1)<=70368744177664)<|
 some (((a0.take I.toNat)++([N]:List Bt))++(((a0).take (I.toNat+(QbP ((a0.length:Nat):Int) I))).drop I.toNat))
theorem Qea {a0:(List Bt)} {J:Bt} {r:(List Bt)} (h:QaQ a0 J=some r):PureC prog 97 [.d (slD Qi a0),.d (.str J)] (.osl 5001 0 r.length) [⟨5001,9,1,r.length,rows Qi r⟩]:=by
 refine pY tOk f97 rfl (Qb tOk ?_);obtain⟨x4,O,h⟩:=Qc h;refine Qm tOk O (fun I=>⟨0,32,[(0,.d (slD Qi a0)),(1,.d (.str J)),(5,dI I)],[],[],[]⟩) ?_ ?_
 ·exact leX []
 ·clear O;intro I y2 N a2;refine Qb tOk (gdI N fun N=>?_);apply Qr N<;>intro _ N
  ·exact eX N []
  ·cases N
   obtain rfl:=a2 _ rfl;obtain⟨g7,h⟩:=Qe h;obtain⟨g8,h⟩:=Qe h;obtain⟨g9,h⟩:=Qe h;obtain⟨U,h⟩:=Qe h;obtain⟨Y,h⟩:=Qe h;refine Qd3 tOk [.a 4 [] (.osl 24 0 ((a0.take I.toNat).length)) [(24,.arr 9 1 ((a0.take I.toNat).length) (rows Qi (a0.take I.toNat)))],.a 7 [(24,.arr 9 1 ((a0.take I.toNat).length) (rows Qi (a0.take I.toNat)))] (.osl 27 0 (((a0.take I.toNat)++([J]:List Bt)).length)) [(27,.arr 9 1 (((a0.take I.toNat)++([J]:List Bt)).length) (rows Qi ((a0.take I.toNat)++([J]:List Bt))))],.a 11 [(27,.arr 9 1 (((a0.take I.toNat)++([J]:List Bt)).length) (rows Qi ((a0.take I.toNat)++([J]:List Bt))))] (.osl 31 0 ((((a0.take I.toNat)++([J]:List Bt))++(((a0).take (I.toNat+(QbP ((a0.length:Nat):Int) I))).drop I.toNat)).length)) [(31,.arr 9 1 ((((a0.take I.toNat)++([J]:List Bt))++(((a0).take (I.toNat+(QbP ((a0.length:Nat):Int) I))).drop I.toNat)).length) (rows Qi (((a0.take I.toNat)++([J]:List Bt))++(((a0).take (I.toNat+(QbP ((a0.length:Nat):Int) I))).drop I.toNat))))]] 13 [] [0,0,0,6,15,0,32,127,0,0,768,2047,4095] [] [] (aI ⟨g7,.inr rfl⟩ (aI (by(conv=>whnf);exact⟨g8,Qx9 (enc:=Qi) (ys:=a0.take I.toNat) ⟨rfl,rfl⟩⟩) (Z6 (enc:=Qi) ([J]:List Bt) (aI (by(conv=>whnf);exact⟨g9,QdW (enc:=Qi) (xs:=(a0.take I.toNat)) (ys:=([J]:List Bt)) ⟨rfl,rfl⟩⟩) (aI ⟨U,.inr rfl⟩ (aI (by(conv=>whnf);exact⟨Y,QdW (enc:=Qi) (xs:=((a0.take I.toNat)++([J]:List Bt))) (ys:=((a0).take (I.toNat+(QbP ((a0.length:Nat):Int) I))).drop I.toNat) ⟨rfl,rfl⟩⟩) (aK ?_)))))));cases h;exact lfP [.s [(31,5001),(5001,31)]]
def Qdn (a0:(List Bt)):Option ((List Bt)):=
 bd (lp (σ:=List Bt×Int) (β:=(Nat×(List Bt))) (fun I=>
(if(decide (I.2<((a0.length:Nat):Int)))=true then
 gd ((0:Int)<=I.2∧I.2<((a0.length:Nat):Int))<|
 bd (Qat (a0.getD I.2.toNat default)) fun J=>
 gd (((I.1.length)+(([J]:List Bt).length))*(16+1)<=70368744177664)<|
 some (.inl ((I.1++([J]:List Bt)),IntKind.i64.wrap (I.2+1)))
else
 some (.inr (I.1.length,I.1)))) (([]:List Bt),0)) fun N=>
 some N.2
theorem QmO {a0:(List Bt)} {r:(List Bt)} (h:Qdn a0=some r):PureC prog 116 [.d (slD Qi a0)] (.osl 5001 0 r.length) [⟨5001,9,1,r.length,rows Qi r⟩]:=by
 refine pY tOk f116 rfl (Qb tOk ?_);obtain⟨x4,N,h⟩:=Qc h;refine Qm tOk N (fun J=>⟨0,21,[(0,.d (slD Qi a0)),(3,.osl 7001 0 J.1.length),(4,dI J.2)],[],[(7001,.arr 9 1 J.1.length (rows Qi J.1))],[]⟩) ?_ ?_
 ·exact leX [.p 7001 9 1 (rows Qi ([]:List Bt))]
 ·clear N;intro J y2 I O;refine Qb tOk ?_;apply Qr I<;>intro _ I
  ·refine Qb tOk (gdI I fun I=>bC I 0 (fun _=>Qe6) fun U I=>Z6 (enc:=Qi) ([U]:List Bt) (gdI I fun I=>QdW (enc:=Qi) (xs:=J.1) (ys:=([U]:List Bt)) ?_));exact eX I []
  ·cases I
   cases O _ rfl
   cases h
   exact lfP [.s [(5001,7001),(7001,5001)]]
def Qdo (a0:(List Bt)):Option (Int):=
(if(decide (((a0.length:Nat):Int)>16))=true then
 some 1
else
 bd (Qdn a0) fun N=>
 bd (lp (σ:=Int) (β:=(Unit⊕Unit)) (fun O=>
(if(decide (O<((a0.length:Nat):Int)))=true then
 gd ((0:Int)<=O∧O<((N.length:Nat):Int))<|
(if((N.getD O.toNat default)==(⟨#[]⟩:Bt))=true then
 some (.inr (.inl ()))
else
 some (.inl (IntKind.i64.wrap (O+1))))
else
 some (.inr (.inr ())))) 0) fun x5=>
(match x5 with
| .inl d7=>
 some 2
| .inr d8=>
 bd (lp (σ:=Int) (β:=(Unit⊕Unit)) (fun J=>
(if(decide (J<((a0.length:Nat):Int)))=true then
 gd ((0:Int)<=IntKind.i64.wrap (J-1)∧IntKind.i64.wrap (J-1)<((a0.length:Nat):Int))<|
 gd ((0:Int)<=J∧J<((a0.length:Nat):Int))<|
(if(!(bsl (a0.getD ((IntKind.i64.wrap (J-1)).toNat) default) (a0.getD J.toNat default)))=true then
 some (.inr (.inl ()))
else
 some (.inl (IntKind.i64.wrap (J+1))))
else
 some (.inr (.inr ())))) 1) fun Y=>
(match Y with
| .inl d15=>
 some 3
| .inr d16=>
 bd (lp (σ:=Int) (β:=(Unit⊕Unit)) (fun I=>
(if(decide (I<((a0.length:Nat):Int)))=true then
 gd ((0:Int)<=(0:Int)∧(0:Int)<=I∧I<=((N.length:Nat):Int))<|
 gd ((0:Int)<=I∧I<((N.length:Nat):Int))<|
 bd (Qcy (N.take I.toNat) (N.getD I.toNat default)) fun a1=>
(if a1=true then
 some (.inr (.inl ()))
else
 some (.inl (IntKind.i64.wrap (I+1))))
else
 some (.inr (.inr ())))) 0) fun U=>
(match U with
| .inl d24=>
 some 4
| .inr d25=>
 some 0))))
theorem QmP {a0:(List Bt)} {r:Int} (h:Qdo a0=some r):PureC prog 65 [.d (slD Qi a0)] (dI r) []:=by
 refine pY tOk f65 rfl (Qb tOk ?_);apply Qr h<;>intro _ h
 ·cases h
  exact lfP []
 ·refine bC h 1000 (fun _=>QmO) fun O h=>Qb tOk ?_;obtain⟨x5,a7,h⟩:=Qc h;refine Qm tOk a7 (fun s2=>⟨0,53,[(0,.d (slD Qi a0)),(3,.osl 6001 0 O.length),(4,dI s2)],[],[(6001,.arr 9 1 O.length (rows Qi O))],[]⟩) ?_ ?_
  ·exact leX []
  ·clear a7;intro s2 y3 N a6;refine Qb tOk ?_;apply Qr N<;>intro _ N
   ·refine Qb tOk (gdI N fun N=>?_);apply Qr N<;>intro _ N
    ·cases N
     cases a6 _ rfl
     cases h
     exact lfP []
    ·exact eX N []
   ·cases N
    cases a6 _ rfl
    refine Qb tOk ?_;obtain⟨x12,Y,h⟩:=Qc h;refine Qm tOk Y (fun s9=>⟨0,53,[(0,.d (slD Qi a0)),(3,.osl 6001 0 O.length),(5,dI s9)],[],[(6001,.arr 9 1 O.length (rows Qi O))],[]⟩) ?_ ?_
    ·exact leX []
    ·clear Y;intro s9 y10 J a2;refine Qb tOk ?_;apply Qr J<;>intro _ J
     ·refine Qb tOk ?_;obtain⟨b2,J⟩:=Qe J;obtain⟨a9,J⟩:=Qe J;refine QQ tOk [] 10 [] [0,0,2,7,15,0,0,96,224,511] [] (aI b2 (aI a9 (aK ?_)));apply Qr J<;>intro _ J
      ·cases J
       cases a2 _ rfl
       cases h
       exact lfP []
      ·exact eX J []
     ·cases J
      cases a2 _ rfl
      refine Qb tOk ?_;obtain⟨x20,a1,h⟩:=Qc h;refine Qm tOk a1 (fun a5=>⟨0,53,[(0,.d (slD Qi a0)),(3,.osl 6001 0 O.length),(6,dI a5)],[],[(6001,.arr 9 1 O.length (rows Qi O))],[]⟩) ?_ ?_
      ·exact leX []
      ·clear a1;intro a5 y18 I U;refine Qb tOk ?_;apply Qr I<;>intro _ I
       ·refine Qb tOk ?_;obtain⟨b3,I⟩:=Qe I;obtain⟨b1,I⟩:=Qe I;obtain⟨b0,a8,I⟩:=Qc I;refine QQ tOk [.u 7 0 (dB b0) []] 8 [] [0,0,3,0,0,24,56,127] [] (aI b3 (aI b1 (aI (QyS (QiC a8) rfl Qya) (aK ?_))));apply Qr I<;>intro _ I
        ·cases I
         cases U _ rfl
         cases h
         exact lfP []
        ·exact eX I []
       ·cases I
        cases U _ rfl
        cases h
        exact lfP []
def QbT (a0:(List Bt)):Option ((List QCe)):=
 bd (lp (σ:=List QCe×Int) (β:=(Nat×(List QCe))) (fun I=>
(if(decide (I.2<((a0.length:Nat):Int)))=true then
 gd ((0:Int)<=I.2∧I.2<((a0.length:Nat):Int))<|
 bd (Jq (a0.getD I.2.toNat default)) fun J=>
 gd (((I.1.length)+(([(⟨J.1⟩:QCe)]:List QCe).length))*(24+1)<=70368744177664)<|
 some (.inl ((I.1++([(⟨J.1⟩:QCe)]:List QCe)),IntKind.i64.wrap (I.2+1)))
else
 some (.inr (I.1.length,I.1)))) (([]:List QCe),0)) fun N=>
 some N.2
theorem Qhv {a0:(List Bt)} {r:(List QCe)} (h:QbT a0=some r):EffC prog 66 [.d (slD Qi a0)] [] (.osl 5001 0 r.length) [(5001,.arr 151 1 r.length (rows QCe.enc r))]:=by
 refine eY tOk f66 rfl (Qb tOk ?_);obtain⟨x4,N,h⟩:=Qc h;refine Qm tOk N (fun J=>⟨0,28,[(0,.d (slD Qi a0)),(3,.osl 7001 0 J.1.length),(4,dI J.2)],[],[(7001,.arr 151 1 J.1.length (rows QCe.enc J.1))],[⟨[],[]⟩]⟩) ?_ ?_
 ·exact leX [.p 7001 151 1 (rows QCe.enc ([]:List QCe))]
 ·clear N;intro J y2 I O;refine Qb tOk ?_;apply Qr I<;>intro _ I
  ·refine Qb tOk (gdI I fun I=>bC I 1000 (fun _=>QdV) fun U I=>Z6 (enc:=QCe.enc) ([(⟨U.1⟩:QCe)]:List QCe) (gdI I fun I=>QdW (enc:=QCe.enc) (xs:=J.1) (ys:=([(⟨U.1⟩:QCe)]:List QCe)) ?_));exact eX I []
  ·cases I
   cases O _ rfl
   cases h
   exact lfE [.s [(5001,7001),(7001,5001)]]
def Qg (a0:QCe) (I:Int):Option (Bt):=
(if(decide (I<((a0.w.length:Nat):Int)))=true then
 gd ((0:Int)<=I∧I<((a0.w.length:Nat):Int))<|
 some (a0.w.getD I.toNat default)
else
 some (⟨#[]⟩:Bt))
theorem Qh {a0:QCe} {I:Int} {r:Bt} (h:Qg a0 I=some r):PureC prog 119 [.agg [.d (slD Qi a0.w)],dI I] (.d (.str r)) []:=by
 refine pY tOk f119 rfl (Qb tOk ?_);apply Qr h<;>intro _ h
 ·refine gdI h fun h=>?_;cases h;exact lfP []
 ·cases h
  exact lfP []
def Qdp (a0:(List QCe)):Option (Bool):=
 bd (lp (σ:=Int) (β:=(Unit⊕Unit)) (fun I=>
(if(decide (I<((a0.length:Nat):Int)))=true then
 gd ((0:Int)<=I∧I<((a0.length:Nat):Int))<|
 bd (Qg (a0.getD I.toNat default) 0) fun J=>
 gd ((J==(⟨#[117,115,101,114]⟩:Bt))=true->((0:Int)<=I∧I<((a0.length:Nat):Int)))<|
 bd (Qv ((J==(⟨#[117,115,101,114]⟩:Bt))=true) (Qg (a0.getD I.toNat default) 2)) fun N=>
(if((J==(⟨#[117,115,101,114]⟩:Bt))&&(N==(⟨#[97,108,108]⟩:Bt)))=true then
 some (.inr (.inl ()))
else
 some (.inl (IntKind.i64.wrap (I+1))))
else
 some (.inr (.inr ())))) 0) fun O=>
(match O with
| .inl d9=>
 some true
| .inr d10=>
 some false)
theorem QmQ {a0:(List QCe)} {r:Bool} (h:Qdp a0=some r):PureC prog 67 [.d (slD QCe.enc a0)] (dB r) []:=by
 refine pY tOk f67 rfl (Qb tOk ?_);obtain⟨x4,J,h⟩:=Qc h;refine Qm tOk J (fun O=>⟨0,24,[(0,.d (slD QCe.enc a0)),(3,dI O)],[],[],[]⟩) ?_ ?_
 ·exact leX []
 ·clear J;intro O y2 I N;refine Qb tOk ?_;apply Qr I<;>intro _ I
  ·refine Qb tOk (gdI I fun I=>bC I 0 (fun _=>Qh) fun x6 I=>gdI I fun I=>bG I (fun _=>Qh) fun x8 I=>?_);apply Qr I<;>intro _ I
   ·cases I
    cases N _ rfl
    cases h
    exact lfP []
   ·exact eX I []
  ·cases I
   cases N _ rfl
   cases h
   exact lfP []
def Qba (a0:(List QCe)) (N:Bt):Option (Int):=
 bd (lp (σ:=Int×Int) (β:=(Int)) (fun I=>
(if(decide (I.2<((a0.length:Nat):Int)))=true then
 gd ((0:Int)<=I.2∧I.2<((a0.length:Nat):Int))<|
 bd (Qg (a0.getD I.2.toNat default) 0) fun J=>
 gd ((J==(⟨#[114,117,108,101]⟩:Bt))=true->((0:Int)<=I.2∧I.2<((a0.length:Nat):Int)))<|
 bd (Qv ((J==(⟨#[114,117,108,101]⟩:Bt))=true) (Qg (a0.getD I.2.toNat default) 1)) fun O=>
(if((J==(⟨#[114,117,108,101]⟩:Bt))&&(O==N))=true then
 some (.inl (IntKind.i64.wrap (I.1+1),IntKind.i64.wrap (I.2+1)))
else
 some (.inl (I.1,IntKind.i64.wrap (I.2+1))))
else
 some (.inr I.1))) (0,0)) fun U=>
 some U
theorem Qhw {a0:(List QCe)} {N:Bt} {r:Int} (h:Qba a0 N=some r):PureC prog 120 [.d (slD QCe.enc a0),.d (.str N)] (dI r) []:=by
 refine pY tOk f120 rfl (Qb tOk ?_);obtain⟨x4,J,h⟩:=Qc h;refine Qm tOk J (fun O=>⟨0,31,[(0,.d (slD QCe.enc a0)),(1,.d (.str N)),(5,dI O.1),(6,dI O.2)],[],[],[]⟩) ?_ ?_
 ·exact leX []
 ·clear J;intro O y2 I U;refine Qb tOk ?_;apply Qr I<;>intro _ I
  ·refine Qb tOk (gdI I fun I=>bC I 0 (fun _=>Qh) fun x6 I=>gdI I fun I=>bG I (fun _=>Qh) fun x8 I=>?_);apply Qr I<;>intro _ I
   ·exact eX I []
   ·exact eX I []
  ·cases I
   cases U _ rfl
   cases h
   exact lfP []
def QcA (a0:(List QCe)):Option (Bool):=
 bd (lp (σ:=Int) (β:=(Unit⊕Unit)) (fun I=>
(if(decide (I<((a0.length:Nat):Int)))=true then
 gd ((0:Int)<=I∧I<((a0.length:Nat):Int))<|
 bd (Qg (a0.getD I.toNat default) 0) fun N=>
 gd ((N==(⟨#[112,111,114,116]⟩:Bt))=true->((0:Int)<=I∧I<((a0.length:Nat):Int)))<|
 bd (Qv ((N==(⟨#[112,111,114,116]⟩:Bt))=true) (Qg (a0.getD I.toNat default) 4)) fun O=>
 gd (((N==(⟨#[112,111,114,116]⟩:Bt))&&(!(O==(⟨#[]⟩:Bt))))=true->((0:Int)<=I∧I<((a0.length:Nat):Int)))<|
 bd (Qv (((N==(⟨#[112,111,114,116]⟩:Bt))&&(!(O==(⟨#[]⟩:Bt))))=true) (Qg (a0.getD I.toNat default) 4)) fun U=>
 bd (Qv (((N==(⟨#[112,111,114,116]⟩:Bt))&&(!(O==(⟨#[]⟩:Bt))))=true) (Qba a0 U)) fun a2=>
(if(((N==(⟨#[112,111,114,116]⟩:Bt))&&(!(O==(⟨#[]⟩:Bt))))&&(a2==0))=true then
 some (.inr (.inl ()))
else
 gd ((0:Int)<=I∧I<((a0.length:Nat):Int))<|
 bd (Qg (a0.getD I.toNat default) 0) fun J=>
 gd ((J==(⟨#[114,117,108,101]⟩:Bt))=true->((0:Int)<=I∧I<((a0.length:Nat):Int)))<|
 bd (Qv ((J==(⟨#[114,117,108,101]⟩:Bt))=true) (Qg (a0.getD I.toNat default) 1)) fun Y=>
 bd (Qv ((J==(⟨#[114,117,108,101]⟩:Bt))=true) (Qba a0 Y)) fun a1=>
(if((J==(⟨#[114,117,108,101]⟩:Bt))&&(decide (a1>12)))=true then
 some (.inr (.inl ()))
else
 some (.inl (IntKind.i64.wrap (I+1)))))
else
 some (.inr (.inr ())))) 0) fun x4=>
(match x4 with
| .inl d17=>
 some false
| .inr d18=>
 some true)
theorem Qll {a0:(List QCe)} {r:Bool} (h:QcA a0=some r):PureC prog 68 [.d (slD QCe.enc a0)] (dB r) []:=by
 refine pY tOk f68 rfl (Qb tOk ?_);obtain⟨x4,N,h⟩:=Qc h;refine Qm tOk N (fun O=>⟨0,50,[(0,.d (slD QCe.enc a0)),(3,dI O)],[],[],[]⟩) ?_ ?_
 ·exact leX []
 ·clear N;intro O y2 I J;refine Qb tOk ?_;apply Qr I<;>intro _ I
  ·refine Qb tOk (Qb tOk (gdI I fun I=>bC I 0 (fun _=>Qh) fun x6 I=>gdI I fun I=>bG I (fun _=>Qh) fun x8 I=>gdI I fun I=>bG I (fun _=>Qh) fun x10 I=>bG I (fun _=>Qhw) fun x11 I=>?_));apply Qr I<;>intro _ I
   ·cases I
    cases J _ rfl
    cases h
    exact lfP []
   ·refine gdI I fun I=>bC I 0 (fun _=>Qh) fun x13 I=>gdI I fun I=>bG I (fun _=>Qh) fun x15 I=>bG I (fun _=>Qhw) fun x16 I=>?_;apply Qr I<;>intro _ I
    ·cases I
     cases J _ rfl
     cases h
     exact lfP []
    ·exact eX I []
  ·cases I
   cases J _ rfl
   cases h
   exact lfP []
def QcB (a0:(List QCe)):Option (Bool):=
 bd (lp (σ:=Int) (β:=(Unit⊕Unit)) (fun I=>
(if(decide (I<((a0.length:Nat):Int)))=true then
 bd (lp (σ:=Int) (β:=(Unit⊕Unit)) (fun J=>
(if(decide (J<I))=true then
 gd ((0:Int)<=I∧I<((a0.length:Nat):Int))<|
 bd (Qg (a0.getD I.toNat default) 0) fun N=>
 gd ((!(N==(⟨#[112,111,114,116]⟩:Bt)))=false->((0:Int)<=J∧J<((a0.length:Nat):Int)))<|
 bd (Qv ((!(N==(⟨#[112,111,114,116]⟩:Bt)))=false) (Qg (a0.getD J.toNat default) 0)) fun a1=>
(if((!(N==(⟨#[112,111,114,116]⟩:Bt)))||(!(a1==(⟨#[112,111,114,116]⟩:Bt))))=true then
 some (.inl (IntKind.i64.wrap (J+1)))
else
 gd ((0:Int)<=I∧I<((a0.length:Nat):Int))<|
 bd (Qg (a0.getD I.toNat default) 2) fun a2=>
 bd (Zv a2) fun U=>
 gd ((0:Int)<=J∧J<((a0.length:Nat):Int))<|
 bd (Qg (a0.getD J.toNat default) 2) fun Y=>
 bd (Zv Y) fun O=>
(if((decide (U.1<(IntKind.i64.wrap (O.1+O.2))))&&(decide (O.1<(IntKind.i64.wrap (U.1+U.2)))))=true then
 some (.inr (.inl ()))
else
 some (.inl (IntKind.i64.wrap (J+1)))))
else
 some (.inr (.inr ())))) 0) fun x8=>
(match x8 with
| .inl d19=>
 some (.inr (.inl ()))
| .inr d20=>
 some (.inl (IntKind.i64.wrap (I+1))))
else
 some (.inr (.inr ())))) 0) fun x4=>
(match x4 with
| .inl d21=>
 some false
| .inr d22=>
 some true)
theorem Qlm {a0:(List QCe)} {r:Bool} (h:QcB a0=some r):PureC prog 69 [.d (slD QCe.enc a0)] (dB r) []:=by
 refine pY tOk f69 rfl (Qb tOk ?_);obtain⟨x4,N,h⟩:=Qc h;refine Qm tOk N (fun s1=>⟨0,64,[(0,.d (slD QCe.enc a0)),(3,dI s1)],[],[],[]⟩) ?_ ?_
 ·exact leX []
 ·clear N;intro s1 y2 J O;refine Qb tOk ?_;apply Qr J<;>intro _ J
  ·refine Qb tOk ?_;obtain⟨x8,Y,J⟩:=Qc J;refine Qm tOk Y (fun s5=>⟨0,64,[(0,.d (slD QCe.enc a0)),(3,dI s1),(4,dI s5)],[],[],[]⟩) ?_ ?_
   ·exact leX []
   ·clear Y;intro s5 y6 I U;refine Qb tOk ?_;apply Qr I<;>intro _ I
    ·refine Qb tOk (Qb tOk (gdI I fun I=>bC I 0 (fun _=>Qh) fun x10 I=>gdI I fun I=>bG I (fun _=>Qh) fun x12 I=>?_));apply Qr I<;>intro _ I
     ·exact eX I []
     ·refine gdI I fun I=>bC I 0 (fun _=>Qh) fun x14 I=>bC I 0 (fun _=>Qab) fun x15 I=>gdI I fun I=>bC I 0 (fun _=>Qh) fun x17 I=>bC I 0 (fun _=>Qab) fun x18 I=>?_;apply Qr I<;>intro _ I
      ·cases I
       cases U _ rfl
       cases J
       cases O _ rfl
       cases h
       exact lfP []
      ·exact eX I []
    ·cases I
     cases U _ rfl
     exact eX J []
  ·cases J
   cases O _ rfl
   cases h
   exact lfP []
def QbU (a0:(List QCe)) (N:Int):Option (Bool):=
 bd (lp (σ:=Int) (β:=(Unit⊕Unit)) (fun I=>
(if(decide (I<((a0.length:Nat):Int)))=true then
 gd ((0:Int)<=I∧I<((a0.length:Nat):Int))<|
 bd (Qg (a0.getD I.toNat default) 0) fun O=>
(if(O==(⟨#[112,111,114,116]⟩:Bt))=true then
 gd ((0:Int)<=I∧I<((a0.length:Nat):Int))<|
 bd (Qg (a0.getD I.toNat default) 2) fun U=>
 bd (Zv U) fun J=>
(if((decide (N>J.1))&&(decide (N<(IntKind.i64.wrap (J.1+J.2)))))=true then
 some (.inr (.inl ()))
else
 some (.inl (IntKind.i64.wrap (I+1))))
else
 some (.inl (IntKind.i64.wrap (I+1))))
else
 some (.inr (.inr ())))) 0) fun Y=>
(match Y with
| .inl d10=>
 some true
| .inr d11=>
 some false)
theorem Qhx {a0:(List QCe)} {O:Int} {r:Bool} (h:QbU a0 O=some r):PureC prog 122 [.d (slD QCe.enc a0),dI O] (dB r) []:=by
 refine pY tOk f122 rfl (Qb tOk ?_);obtain⟨x4,J,h⟩:=Qc h;refine Qm tOk J (fun U=>⟨0,39,[(0,.d (slD QCe.enc a0)),(1,dI O),(5,dI U)],[],[],[]⟩) ?_ ?_
 ·exact leX []
 ·clear J;intro U y2 I N;refine Qb tOk ?_;apply Qr I<;>intro _ I
  ·refine Qb tOk (gdI I fun I=>bC I 0 (fun _=>Qh) fun x6 I=>?_);apply Qr I<;>intro _ I
   ·refine gdI I fun I=>bC I 0 (fun _=>Qh) fun x8 I=>bC I 0 (fun _=>Qab) fun x9 I=>?_;apply Qr I<;>intro _ I
    ·cases I
     cases N _ rfl
     cases h
     exact lfP []
    ·exact eX I []
   ·exact eX I []
  ·cases I
   cases N _ rfl
   cases h
   exact lfP []
def QcC (a0:(List QCe)):Option (Bool):=
 bd (lp (σ:=Int) (β:=(Unit⊕Unit)) (fun I=>
(if(decide (I<((a0.length:Nat):Int)))=true then
 gd ((0:Int)<=I∧I<((a0.length:Nat):Int))<|
 bd (Qg (a0.getD I.toNat default) 0) fun Y=>
(if(Y==(⟨#[114,111,117,116,101]⟩:Bt))=true then
 gd ((0:Int)<=I∧I<((a0.length:Nat):Int))<|
 bd (Qg (a0.getD I.toNat default) 2) fun x8=>
 bd (Q6 x8) fun x9=>
 bd (QbU a0 x9) fun J=>
(if(!J)=true then
 some (.inr (.inl ()))
else
 some (.inl (IntKind.i64.wrap (I+1))))
else
(if(Y==(⟨#[112,101,101,114]⟩:Bt))=true then
 gd ((0:Int)<=I∧I<((a0.length:Nat):Int))<|
 bd (Qg (a0.getD I.toNat default) 1) fun N=>
 bd (Q6 N) fun O=>
 bd (QbU a0 O) fun U=>
(if(!U)=true then
 some (.inr (.inl ()))
else
 some (.inl (IntKind.i64.wrap (I+1))))
else
 some (.inl (IntKind.i64.wrap (I+1)))))
else
 some (.inr (.inr ())))) 0) fun x4=>
(match x4 with
| .inl d15=>
 some false
| .inr d16=>
 some true)
theorem Qln {a0:(List QCe)} {r:Bool} (h:QcC a0=some r):PureC prog 70 [.d (slD QCe.enc a0)] (dB r) []:=by
 refine pY tOk f70 rfl (Qb tOk ?_);obtain⟨x4,N,h⟩:=Qc h;refine Qm tOk N (fun O=>⟨0,37,[(0,.d (slD QCe.enc a0)),(3,dI O)],[],[],[]⟩) ?_ ?_
 ·exact leX []
 ·clear N;intro O y2 I J;refine Qb tOk ?_;apply Qr I<;>intro _ I
  ·refine Qb tOk (gdI I fun I=>bC I 0 (fun _=>Qh) fun x6 I=>?_);apply Qr I<;>intro _ I
   ·refine gdI I fun I=>bC I 0 (fun _=>Qh) fun x8 I=>bC I 0 (fun _=>Zu) fun x9 I=>bC I 0 (fun _=>Qhx) fun x10 I=>?_;apply Qr I<;>intro _ I
    ·cases I
     cases J _ rfl
     cases h
     exact lfP []
    ·exact eX I []
   ·apply Qr I<;>intro _ I
    ·refine gdI I fun I=>bC I 0 (fun _=>Qh) fun x12 I=>bC I 0 (fun _=>Zu) fun x13 I=>bC I 0 (fun _=>Qhx) fun x14 I=>?_;apply Qr I<;>intro _ I
     ·cases I
      cases J _ rfl
      cases h
      exact lfP []
     ·exact eX I []
    ·exact eX I []
  ·cases I
   cases J _ rfl
   cases h
   exact lfP []
def Qeb (a0:(List QCe)):Option (Int):=
 bd (lp (σ:=Int) (β:=(Int⊕Unit)) (fun I=>
(if(decide (I<((a0.length:Nat):Int)))=true then
 gd ((0:Int)<=I∧I<((a0.length:Nat):Int))<|
 bd (Qg (a0.getD I.toNat default) 0) fun N=>
(if(N==(⟨#[110,97,116]⟩:Bt))=true then
 some (.inr (.inl I))
else
 some (.inl (IntKind.i64.wrap (I+1))))
else
 some (.inr (.inr ())))) 0) fun O=>
(match O with
| .inl J=>
 some J
| .inr d8=>
 some (-1))
theorem Qn1 {a0:(List QCe)} {r:Int} (h:Qeb a0=some r):PureC prog 124 [.d (slD QCe.enc a0)] (dI r) []:=by
 refine pY tOk f124 rfl (Qb tOk ?_);obtain⟨x4,J,h⟩:=Qc h;refine Qm tOk J (fun O=>⟨0,17,[(0,.d (slD QCe.enc a0)),(3,dI O)],[],[],[]⟩) ?_ ?_
 ·exact leX []
 ·clear J;intro O y2 I N;refine Qb tOk ?_;apply Qr I<;>intro _ I
  ·refine Qb tOk (gdI I fun I=>bC I 0 (fun _=>Qh) fun x6 I=>?_);apply Qr I<;>intro _ I
   ·cases I
    cases N _ rfl
    cases h
    exact lfP []
   ·exact eX I []
  ·cases I
   cases N _ rfl
   cases h
   exact lfP []
def Qdq (a0:(List QCe)) (a1:Int) (a2:QCe):Option (Bool):=
 gd ((0:Int)<=a1∧a1<((a0.length:Nat):Int))<|
 bd (Qg a2 1) fun x2=>
 bd (Zv x2) fun N=>
 bd (Qg (a0.getD a1.toNat default) 3) fun x4=>
 bd (Q6 x4) fun Y=>
 bd (Qv (((decide (Y<N.1))||(decide (Y>=(IntKind.i64.wrap (N.1+N.2)))))=false) (Qg (a0.getD a1.toNat default) 2)) fun x6=>
 bd (Qv (((decide (Y<N.1))||(decide (Y>=(IntKind.i64.wrap (N.1+N.2)))))=false) (Qg a2 3)) fun x7=>
 bd (Qv (((decide (Y<N.1))||(decide (Y>=(IntKind.i64.wrap (N.1+N.2)))))=false) (Zg x7)) fun x8=>
 bd (Qv (((decide (Y<N.1))||(decide (Y>=(IntKind.i64.wrap (N.1+N.2)))))=false) (Qg a2 4)) fun x9=>
 bd (Qv (((decide (Y<N.1))||(decide (Y>=(IntKind.i64.wrap (N.1+N.2)))))=false) (Zg x9)) fun a7=>
 bd (Qv (((decide (Y<N.1))||(decide (Y>=(IntKind.i64.wrap (N.1+N.2)))))=false) (Ze x6 x8 a7)) fun b1=>
(if(((decide (Y<N.1))||(decide (Y>=(IntKind.i64.wrap (N.1+N.2)))))||b1)=true then
 some false
else
 bd (lp (σ:=Int) (β:=(Unit⊕Unit)) (fun I=>
(if(decide (I<a1))=true then
 gd ((0:Int)<=I∧I<((a0.length:Nat):Int))<|
 bd (Qg (a0.getD I.toNat default) 0) fun J=>
 gd ((J==(⟨#[100,111,111,114]⟩:Bt))=true->((0:Int)<=I∧I<((a0.length:Nat):Int)))<|
 bd (Qv ((J==(⟨#[100,111,111,114]⟩:Bt))=true) (Qg (a0.getD I.toNat default) 1)) fun U=>
 bd (Qv ((J==(⟨#[100,111,111,114]⟩:Bt))=true) (Qg (a0.getD a1.toNat default) 1)) fun O=>
 gd (((J==(⟨#[100,111,111,114]⟩:Bt))&&(U==O))=true->((0:Int)<=I∧I<((a0.length:Nat):Int)))<|
 bd (Qv (((J==(⟨#[100,111,111,114]⟩:Bt))&&(U==O))=true) (Qg (a0.getD I.toNat default) 3)) fun a5=>
 bd (Qv (((J==(⟨#[100,111,111,114]⟩:Bt))&&(U==O))=true) (Qg (a0.getD a1.toNat default) 3)) fun a6=>
 gd ((((J==(⟨#[100,111,111,114]⟩:Bt))&&(U==O))&&(a5==a6))=true->((0:Int)<=I∧I<((a0.length:Nat):Int)))<|
 bd (Qv ((((J==(⟨#[100,111,111,114]⟩:Bt))&&(U==O))&&(a5==a6))=true) (Qg (a0.getD I.toNat default) 4)) fun b0=>
 bd (Qv ((((J==(⟨#[100,111,111,114]⟩:Bt))&&(U==O))&&(a5==a6))=true) (Qg (a0.getD a1.toNat default) 4)) fun a9=>
(if((((J==(⟨#[100,111,111,114]⟩:Bt))&&(U==O))&&(a5==a6))&&(b0==a9))=true then
 some (.inr (.inl ()))
else
 some (.inl (IntKind.i64.wrap (I+1))))
else
 some (.inr (.inr ())))) 0) fun a8=>
(match a8 with
| .inl d27=>
 some false
| .inr d28=>
 some true))
theorem QmR {a0:(List QCe)} {a1:Int} {a2:QCe} {r:Bool} (h:Qdq a0 a1 a2=some r):PureC prog 125 [.d (slD QCe.enc a0),dI a1,.agg [.d (slD Qi a2.w)]] (dB r) []:=by
 refine pY tOk f125 rfl (gdI h fun h=>bC h 0 (fun _=>Qh) fun x2 h=>bC h 0 (fun _=>Qab) fun x3 h=>bC h 0 (fun _=>Qh) fun x4 h=>bC h 0 (fun _=>Zu) fun x5 h=>Qb tOk ?_);obtain⟨x6,c2,h⟩:=Qc h;obtain⟨x7,d0,h⟩:=Qc h;obtain⟨x8,c5,h⟩:=Qc h;obtain⟨x9,b3,h⟩:=Qc h;obtain⟨b6,b1,h⟩:=Qc h;obtain⟨d1,a6,h⟩:=Qc h;refine QQ tOk [.u 12 0 (.d (.str x6)) [],.u 14 0 (.d (.str x7)) [],.u 15 0 (dI x8) [],.u 17 0 (.d (.str x9)) [],.u 18 0 (dI b6) [],.u 19 0 (dB d1) []] 21 [] [0,0,3,7,15,15,15,111,255,511,1023,2047,4095,2047,16383,32767,2047,131071,262143,524287,1048575] [] (aI (QJ rfl rfl rfl rfl (by intro J;exact Qh (Qt c2 J))) (aI (QJ rfl rfl rfl rfl (by intro J;exact Qh (Qt d0 J))) (aI (QJ rfl rfl rfl rfl (by intro J;exact Z1 (Qt c5 J))) (aI (QJ rfl rfl rfl rfl (by intro J;exact Qh (Qt b3 J))) (aI (QJ rfl rfl rfl rfl (by intro J;exact Z1 (Qt b1 J))) (aI (QJ rfl rfl rfl rfl (by intro J;exact ZE (Qt a6 J))) (aK ?_)))))));apply Qr h<;>intro _ h
 ·cases h
  exact lfP []
 ·refine Qb tOk ?_;obtain⟨x15,O,h⟩:=Qc h;refine Qm tOk O (fun a5=>⟨0,87,[(0,.d (slD QCe.enc a0)),(1,dI a1),(7,.ref 7 0 0),(11,dI a5)],[],[(7,.box 151 [.d (slD Qi ((a0.getD a1.toNat default).w))])],[]⟩) ?_ ?_
  ·exact leX []
  ·clear O;intro a5 y13 I N;refine Qb tOk ?_;apply Qr I<;>intro _ I
   ·refine Qb tOk ?_;obtain⟨c8,I⟩:=Qe I;obtain⟨c4,U,I⟩:=Qc I;obtain⟨b7,I⟩:=Qe I;obtain⟨b5,a8,I⟩:=Qc I;obtain⟨b4,b0,I⟩:=Qc I;obtain⟨c6,I⟩:=Qe I;obtain⟨b8,a7,I⟩:=Qc I;obtain⟨b9,b2,I⟩:=Qc I;obtain⟨c1,I⟩:=Qe I;obtain⟨c7,a9,I⟩:=Qc I;obtain⟨c3,Y,I⟩:=Qc I;refine QQ tOk [.u 4 0 (.d (.str c4)) [],.u 11 0 (.d (.str b5)) [],.u 13 0 (.d (.str b4)) [],.u 21 0 (.d (.str b8)) [],.u 23 0 (.d (.str b9)) [],.u 31 0 (.d (.str c7)) [],.u 33 0 (.d (.str c3)) []] 36 [] [0,0,3,7,15,31,63,127,127,511,1023,2047,127,8191,16383,32767,65535,131071,131071,524287,1048575,2097151,131071,8388607,16777215,33554431,67108863,134217727,134217727,536870911,1073741823,2147483647,134217727,8589934591,17179869183,34359738367] [] (aI c8 (aI (Qp (Qh U) (by kernel_rfl)) (aI b7 (aI (QJ rfl rfl rfl rfl (by intro J;exact Qh (Qt a8 J))) (aI (QJ rfl rfl rfl rfl (by intro J;exact Qh (Qt b0 J))) (aI c6 (aI (QJ rfl rfl rfl rfl (by intro J;exact Qh (Qt a7 J))) (aI (QJ rfl rfl rfl rfl (by intro J;exact Qh (Qt b2 J))) (aI c1 (aI (QJ rfl rfl rfl rfl (by intro J;exact Qh (Qt a9 J))) (aI (QJ rfl rfl rfl rfl (by intro J;exact Qh (Qt Y J))) (aK ?_))))))))))));apply Qr I<;>intro _ I
    ·cases I
     cases N _ rfl
     cases h
     exact lfP []
    ·exact eX I []
   ·cases I
    cases N _ rfl
    cases h
    exact lfP []
def QaB (a0:(List QCe)):Option (Bool):=
 bd (Qeb a0) fun N=>
 bd (lp (σ:=Int×Int) (β:=(Unit⊕Int)) (fun U=>
(if(decide (U.2<((a0.length:Nat):Int)))=true then
 gd ((0:Int)<=U.2∧U.2<((a0.length:Nat):Int))<|
 bd (Qg (a0.getD U.2.toNat default) 0) fun x7=>
(if(!(x7==(⟨#[100,111,111,114]⟩:Bt)))=true then
 some (.inl (U.1,IntKind.i64.wrap (U.2+1)))
else
 gd ((decide (N<0))=false->((0:Int)<=N∧N<((a0.length:Nat):Int)))<|
 bd (Qv ((decide (N<0))=false) (Qdq a0 U.2 (a0.getD N.toNat default))) fun x9=>
(if((decide (N<0))||(!x9))=true then
 some (.inr (.inl ()))
else
 some (.inl (IntKind.i64.wrap (U.1+1),IntKind.i64.wrap (U.2+1)))))
else
 some (.inr (.inr U.1)))) (0,0)) fun x5=>
(match x5 with
| .inl d10=>
 some false
| .inr O=>
(if(decide (N<0))=true then
 some true
else
 gd ((0:Int)<=N∧N<((a0.length:Nat):Int))<|
 bd (Qg (a0.getD N.toNat default) 1) fun a7=>
 bd (Zv a7) fun I=>
 gd ((0:Int)<=N∧N<((a0.length:Nat):Int))<|
 bd (Qg (a0.getD N.toNat default) 2) fun a6=>
 bd (Q6 a6) fun J=>
 gd (((decide (O<=6))&&((decide (J<I.1))||(decide (J>=(IntKind.i64.wrap (I.1+I.2))))))=true->((0:Int)<=N∧N<((a0.length:Nat):Int)))<|
 bd (Qv (((decide (O<=6))&&((decide (J<I.1))||(decide (J>=(IntKind.i64.wrap (I.1+I.2))))))=true) (Qg (a0.getD N.toNat default) 3)) fun a5=>
 bd (Qv (((decide (O<=6))&&((decide (J<I.1))||(decide (J>=(IntKind.i64.wrap (I.1+I.2))))))=true) (Zg a5)) fun a1=>
 gd (((decide (O<=6))&&((decide (J<I.1))||(decide (J>=(IntKind.i64.wrap (I.1+I.2))))))=true->((0:Int)<=N∧N<((a0.length:Nat):Int)))<|
 bd (Qv (((decide (O<=6))&&((decide (J<I.1))||(decide (J>=(IntKind.i64.wrap (I.1+I.2))))))=true) (Qg (a0.getD N.toNat default) 4)) fun Y=>
 bd (Qv (((decide (O<=6))&&((decide (J<I.1))||(decide (J>=(IntKind.i64.wrap (I.1+I.2))))))=true) (Zg Y)) fun a2=>
 some (((decide (O<=6))&&((decide (J<I.1))||(decide (J>=(IntKind.i64.wrap (I.1+I.2))))))&&(decide (a1<=a2)))))
theorem Qhi {a0:(List QCe)} {r:Bool} (h:QaB a0=some r):PureC prog 71 [.d (slD QCe.enc a0)] (dB r) []:=by
 refine pY tOk f71 rfl (bC h 0 (fun _=>Qn1) fun x1 h=>Qb tOk ?_);obtain⟨x5,a1,h⟩:=Qc h;refine Qm tOk a1 (fun s2=>⟨0,83,[(0,.d (slD QCe.enc a0)),(3,dI x1),(4,dI s2.1),(5,dI s2.2)],[],[],[]⟩) ?_ ?_
 ·exact leX []
 ·clear a1;intro s2 y3 I O;refine Qb tOk ?_;apply Qr I<;>intro _ I
  ·refine Qb tOk (Qb tOk (gdI I fun I=>bC I 0 (fun _=>Qh) fun x7 I=>?_));apply Qr I<;>intro _ I
   ·exact eX I []
   ·refine gdI I fun I=>bG I (fun _=>QmR) fun x9 I=>?_;apply Qr I<;>intro _ I
    ·cases I
     cases O _ rfl
     cases h
     exact lfP []
    ·exact eX I []
  ·cases I
   cases O _ rfl
   refine Qb tOk ?_;apply Qr h<;>intro _ h
   ·cases h
    exact lfP []
   ·refine gdI h fun h=>bC h 0 (fun _=>Qh) fun x13 h=>bC h 0 (fun _=>Qab) fun x14 h=>gdI h fun h=>bC h 0 (fun _=>Qh) fun x16 h=>bC h 0 (fun _=>Zu) fun x17 h=>?_;obtain⟨a7,h⟩:=Qe h;obtain⟨a6,U,h⟩:=Qc h;obtain⟨a5,Y,h⟩:=Qc h;obtain⟨b0,h⟩:=Qe h;obtain⟨a8,N,h⟩:=Qc h;obtain⟨a9,a2,h⟩:=Qc h;refine QQ tOk [.u 19 0 (.d (.str a6)) [],.u 20 0 (dI a5) [],.u 25 0 (.d (.str a8)) [],.u 26 0 (dI a9) []] 30 [] [0,1,3,7,7,31,63,127,127,127,895,2047,4095,8191,16383,32767,32767,131071,262143,524287,1048575,32767,32767,6324223,14712831,33554431,67108863,134217727,268435455,536870911] [] (aI a7 (aI (QJ rfl rfl rfl rfl (by intro J;exact Qh (Qt U J))) (aI (QJ rfl rfl rfl rfl (by intro J;exact Z1 (Qt Y J))) (aI b0 (aI (QJ rfl rfl rfl rfl (by intro J;exact Qh (Qt N J))) (aI (QJ rfl rfl rfl rfl (by intro J;exact Z1 (Qt a2 J))) (aK ?_)))))));cases h;exact lfP []
def Qac (a0:(List Bt)):Option (Int):=
 bd (Qdo a0) fun J=>
(if(J !=0)=true then
 some J
else
 bd (QbT a0) fun I=>
 bd (Qdp I) fun U=>
(if(!U)=true then
 some 5
else
 bd (QcA I) fun x4=>
(if(!x4)=true then
 some 6
else
 bd (QcB I) fun N=>
(if(!N)=true then
 some 7
else
 bd (QcC I) fun Y=>
(if(!Y)=true then
 some 8
else
 bd (QaB I) fun O=>
(if(!O)=true then
 some 9
else
 some 0))))))
theorem Qga {a0:(List Bt)} {r:Int} (h:Qac a0=some r):PureC prog 24 [.d (slD Qi a0)] (dI r) []:=by
 refine pY tOk f24 rfl (bC h 0 (fun _=>QmP) fun x1 h=>Qb tOk ?_);apply Qr h<;>intro _ h
 ·cases h
  exact lfP []
 ·refine bE h [] 1000 (fun _=>Qhv) fun x2 h=>Qb tOk (bC h 0 (fun _=>QmQ) fun x3 h=>?_);apply Qr h<;>intro _ h
  ·cases h
   exact lfP []
  ·refine bC h 0 (fun _=>Qll) fun x4 h=>?_;apply Qr h<;>intro _ h
   ·cases h
    exact lfP []
   ·refine bC h 0 (fun _=>Qlm) fun x5 h=>?_;apply Qr h<;>intro _ h
    ·cases h
     exact lfP []
    ·refine bC h 0 (fun _=>Qln) fun x6 h=>?_;apply Qr h<;>intro _ h
     ·cases h
      exact lfP []
     ·refine bC h 0 (fun _=>Qhi) fun x7 h=>?_;apply Qr h<;>intro _ h
      ·cases h
       exact lfP []
      ·cases h
       exact lfP []
def Jd (a0:(List Bt)) (I:Bt):Option ((List Bt)):=
 bd (Qat I) fun Y=>
 bd (Qd9 a0 Y) fun N=>
 bd (α:=List Bt) ((if(decide (N>=0))=true then
 bd (QaH a0 N) fun O=>
 some O
else
 some a0)) fun U=>
 bd (QaQ U I) fun J=>
 bd (Qac J) fun x8=>
(if(x8==0)=true then
 some J
else
 some a0)
theorem QaR {a0:(List Bt)} {J:Bt} {r:(List Bt)} (h:Jd a0 J=some r):EffC prog 92 [.d (slD Qi a0),.d (.str J)] [] (.d (slD Qi r)) []:=by
 refine eY tOk f92 rfl (bC h 0 (fun _=>Qe6) fun x1 h=>bC h 0 (fun _=>Qn0) fun x2 h=>?_);obtain⟨O,I,h⟩:=Qc h;refine Qah tOk (fun N=>⟨0,25,[(0,.d (slD Qi a0)),(1,.d (.str J)),(5,.d (slD Qi N))],[],[],[⟨[],[]⟩]⟩) (fun N=>O=N) ?_ ?_
 ·apply Qr I<;>intro _ I
  ·refine bC I 1000 (fun _=>Qfj) fun x6 I=>?_;exact eZ I [.f [6001]]
  ·exact eZ I []
 ·rintro _ rfl;refine bC h 1000 (fun _=>Qea) fun x7 h=>Qb tOk (bC h 0 (fun _=>Qga) fun x8 h=>?_);apply Qr h<;>intro _ h
  ·cases h
   exact lfE [.f [6001]]
  ·cases h
   exact lfE []
def QE (a0:l1Rd) (J:(List Bt)):Option (Bt×l1Rd):=
 bd (Qu a0 ((J.length:Nat):Int)) fun I=>
 gd ((0:Int)<=I.1∧I.1<((J.length:Nat):Int))<|
 some ((J.getD I.1.toNat default),(⟨a0.b,I.2.p⟩:l1Rd))
theorem QP {a0:l1Rd} {I:(List Bt)} {r:Bt×l1Rd} (h:QE a0 I=some r):EffC prog 93 [.ref 9000 0 0,.d (slD Qi I)] [(9000,.box 87 [.d (slD Qo a0.b),dI a0.p])] (.d (.str r.1)) [(9000,.box 87 [.d (slD Qo a0.b),dI r.2.p])]:=by
 refine eY tOk f93 rfl (bE h [(9000,9000)] 0 (fun _=>QG) fun x1 h=>gdI h fun h=>?_);cases h;exact lfE []
def Q1 (a0:QCf) (I:Int):Option (Int×QCf):=
(if((decide (I<1))||(((a0.b.length:Nat):Int)==0))=true then
 some (0,(⟨a0.b,IntKind.i64.wrap (a0.p+1)⟩:QCf))
else
(if(decide ((IntKind.i64.wrap ((IntKind.i64.wrap (a0.p+1)) -1))<((a0.b.length:Nat):Int)))=true then
 gd ((0:Int)<=IntKind.i64.wrap ((IntKind.i64.wrap (a0.p+1)) -1)∧IntKind.i64.wrap ((IntKind.i64.wrap (a0.p+1)) -1)<((a0.b.length:Nat):Int))<|
 gd ((I:Int)≠0)<|
 some (((IntKind.i64.wrap (a0.b.getD ((IntKind.i64.wrap ((IntKind.i64.wrap (a0.p+1)) -1)).toNat) default):Int).tmod I),(⟨a0.b,IntKind.i64.wrap (a0.p+1)⟩:QCf))
else
 gd ((((a0.b.length:Nat):Int):Int)≠0)<|
 gd ((0:Int)<=((IntKind.i64.wrap ((IntKind.i64.wrap (a0.p+1)) -1):Int).tmod ((a0.b.length:Nat):Int))∧((IntKind.i64.wrap ((IntKind.i64.wrap (a0.p+1)) -1):Int).tmod ((a0.b.length:Nat):Int))<((a0.b.length:Nat):Int))<|
 gd ((((a0.b.length:Nat):Int):Int)≠0)<|
 gd ((0:Int)<=((IntKind.i64.wrap ((IntKind.i64.wrap ((IntKind.i64.wrap ((IntKind.i64.wrap (a0.p+1)) -1))*7))+3):Int).tmod ((a0.b.length:Nat):Int))∧((IntKind.i64.wrap ((IntKind.i64.wrap ((IntKind.i64.wrap ((IntKind.i64.wrap (a0.p+1)) -1))*7))+3):Int).tmod ((a0.b.length:Nat):Int))<((a0.b.length:Nat):Int))<|
 gd ((((a0.b.length:Nat):Int):Int)≠0)<|
 gd ((64:Int)≠0)<|
 gd ((I:Int)≠0)<|
 some ((((bits .xor .i64 (IntKind.i64.wrap ((IntKind.i64.wrap ((IntKind.i64.wrap ((IntKind.i64.wrap ((IntKind.i64.wrap (a0.b.getD (((IntKind.i64.wrap ((IntKind.i64.wrap (a0.p+1)) -1):Int).tmod ((a0.b.length:Nat):Int)).toNat) default))*131))+(IntKind.i64.wrap ((IntKind.i64.wrap (a0.b.getD (((IntKind.i64.wrap ((IntKind.i64.wrap ((IntKind.i64.wrap ((IntKind.i64.wrap (a0.p+1)) -1))*7))+3):Int).tmod ((a0.b.length:Nat):Int)).toNat) default))*1117))))+(IntKind.i64.wrap ((IntKind.i64.wrap ((IntKind.i64.wrap (a0.p+1)) -1))*29))))+(IntKind.i64.wrap ((IntKind.i64.wrap ((IntKind.i64.wrap ((IntKind.i64.wrap (a0.p+1)) -1):Int).tdiv ((a0.b.length:Nat):Int)))*53)))) (IntKind.i64.wrap ((IntKind.i64.wrap ((IntKind.i64.wrap ((IntKind.i64.wrap ((IntKind.i64.wrap ((IntKind.i64.wrap (a0.b.getD (((IntKind.i64.wrap ((IntKind.i64.wrap (a0.p+1)) -1):Int).tmod ((a0.b.length:Nat):Int)).toNat) default))*131))+(IntKind.i64.wrap ((IntKind.i64.wrap (a0.b.getD (((IntKind.i64.wrap ((IntKind.i64.wrap ((IntKind.i64.wrap ((IntKind.i64.wrap (a0.p+1)) -1))*7))+3):Int).tmod ((a0.b.length:Nat):Int)).toNat) default))*1117))))+(IntKind.i64.wrap ((IntKind.i64.wrap ((IntKind.i64.wrap (a0.p+1)) -1))*29))))+(IntKind.i64.wrap ((IntKind.i64.wrap ((IntKind.i64.wrap ((IntKind.i64.wrap (a0.p+1)) -1):Int).tdiv ((a0.b.length:Nat):Int)))*53))):Int).tdiv 64))):Int).tmod I),(⟨a0.b,IntKind.i64.wrap (a0.p+1)⟩:QCf))))
theorem ZA {a0:QCf} {I:Int} {r:Int×QCf} (h:Q1 a0 I=some r):EffC prog 96 [.ref 9000 0 0,dI I] [(9000,.box 187 [.d (slD Qo a0.b),dI a0.p])] (dI r.1) [(9000,.box 187 [.d (slD Qo a0.b),dI r.2.p])]:=by
 refine eY tOk f96 rfl (Qb tOk ?_);apply Qr h<;>intro _ h
 ·cases h
  exact lfE []
 ·refine Qb tOk ?_;apply Qr h<;>intro _ h
  ·refine gdI h fun h=>gdI h fun h=>?_;cases h;exact lfE []
  ·obtain⟨N,h⟩:=Qe h;obtain⟨Y,h⟩:=Qe h;obtain⟨O,h⟩:=Qe h;obtain⟨U,h⟩:=Qe h;obtain⟨J,h⟩:=Qe h;refine QQ tOk [] 46 [] [0,1,3,7,0,0,32,96,224,480,1008,2047,4095,8191,16383,0,32768,98304,229376,0,524288,1572864,0,4194304,12582912,29360128,62914560,133693440,268402688,536838144,1073709056,2147450880,4294967295,0,8589934592,34359738367,0,0,137438953472,412316860416,962072674304,2061584302080,4329327034368,8727373545472,17592186044415,35184372088831] [] (aI N (aI Y (aI O (aI U (aI J (aK (gdI h fun h=>gdI h fun h=>?_)))))));cases h;exact lfE []
def Qy (a0:QCf) (J:(List Bt)):Option (Bt×QCf):=
 bd (Q1 a0 ((J.length:Nat):Int)) fun I=>
 gd ((0:Int)<=I.1∧I.1<((J.length:Nat):Int))<|
 some ((J.getD I.1.toNat default),(⟨a0.b,I.2.p⟩:QCf))
theorem QK {a0:QCf} {I:(List Bt)} {r:Bt×QCf} (h:Qy a0 I=some r):EffC prog 98 [.ref 9000 0 0,.d (slD Qi I)] [(9000,.box 187 [.d (slD Qo a0.b),dI a0.p])] (.d (.str r.1)) [(9000,.box 187 [.d (slD Qo a0.b),dI r.2.p])]:=by
 refine eY tOk f98 rfl (bE h [(9000,9000)] 0 (fun _=>ZA) fun x1 h=>gdI h fun h=>?_);cases h;exact lfE []
def Jr (a0:QCf):Option (Bt×QCf):=
 bd (Qy a0 ([(⟨#[49,48,46,48,47,56]⟩:Bt),(⟨#[49,48,46,48,47,49,54]⟩:Bt),(⟨#[49,48,46,49,50,56,47,57]⟩:Bt),(⟨#[49,49,46,48,47,56]⟩:Bt),(⟨#[48,46,48,47,48]⟩:Bt),(⟨#[49,49,46,52,47,49,54]⟩:Bt),(⟨#[50,48,48,46,48,47,49,53]⟩:Bt),(⟨#[50,48,48,46,48,47,57]⟩:Bt)]:List Bt)) fun I=>
 some (I.1,(⟨a0.b,I.2.p⟩:QCf))
theorem Qb8 {a0:QCf} {r:Bt×QCf} (h:Jr a0=some r):EffC prog 161 [.ref 9000 0 0] [(9000,.box 187 [.d (slD Qo a0.b),dI a0.p])] (.d (.str r.1)) [(9000,.box 187 [.d (slD Qo a0.b),dI r.2.p])]:=by
 refine eY tOk f161 rfl (Z6 (enc:=Qi) ([(⟨#[49,48,46,48,47,56]⟩:Bt),(⟨#[49,48,46,48,47,49,54]⟩:Bt),(⟨#[49,48,46,49,50,56,47,57]⟩:Bt),(⟨#[49,49,46,48,47,56]⟩:Bt),(⟨#[48,46,48,47,48]⟩:Bt),(⟨#[49,49,46,52,47,49,54]⟩:Bt),(⟨#[50,48,48,46,48,47,49,53]⟩:Bt),(⟨#[50,48,48,46,48,47,57]⟩:Bt)]:List Bt) ?_);obtain⟨x1,I,h⟩:=Qc h;refine Zj [4] (cE [(9000,9000)] 0 (QK I) ?_);cases h;exact lfE []
def Qbb (a0:QCf):Option (Bt×QCf):=
 bd (Qy a0 ([(⟨#[49,48,46,49]⟩:Bt),(⟨#[49,48,46,50]⟩:Bt),(⟨#[49,49,46,52]⟩:Bt),(⟨#[50,48,48,46,49]⟩:Bt),(⟨#[48,46,48]⟩:Bt),(⟨#[50,53,53,46,50,53,53]⟩:Bt)]:List Bt)) fun I=>
 some (I.1,(⟨a0.b,I.2.p⟩:QCf))
theorem Qe7 {a0:QCf} {r:Bt×QCf} (h:Qbb a0=some r):EffC prog 162 [.ref 9000 0 0] [(9000,.box 187 [.d (slD Qo a0.b),dI a0.p])] (.d (.str r.1)) [(9000,.box 187 [.d (slD Qo a0.b),dI r.2.p])]:=by
 refine eY tOk f162 rfl (Z6 (enc:=Qi) ([(⟨#[49,48,46,49]⟩:Bt),(⟨#[49,48,46,50]⟩:Bt),(⟨#[49,49,46,52]⟩:Bt),(⟨#[50,48,48,46,49]⟩:Bt),(⟨#[48,46,48]⟩:Bt),(⟨#[50,53,53,46,50,53,53]⟩:Bt)]:List Bt) ?_);obtain⟨x1,I,h⟩:=Qc h;refine Zj [4] (cE [(9000,9000)] 0 (QK I) ?_);cases h;exact lfE []
end
end Go.Proofs.YtjjkhncoafdfmaaGreatDoor
