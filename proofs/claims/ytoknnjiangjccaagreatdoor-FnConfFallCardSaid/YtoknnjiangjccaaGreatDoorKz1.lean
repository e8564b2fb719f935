/-
  What some of the program's functions compute: their models, and that the functions compute these; no condition.
-/
import Derived.Test.YtoknnjiangjccaaGreatDoorTyz
import Derived.Test.YtoknnjiangjccaaGreatDoorTbz
import Derived.Test.YtoknnjiangjccaaGreatDoorLayz
import Derived.Test.YtoknnjiangjccaaGreatDoorLay4z
import Derived.Test.YtoknnjiangjccaaGreatDoorAbz8
import Derived.BigCall
import Derived.BigGuard
import Derived.BigQuiet
import Derived.Deep.QuietTactic
import Derived.Laws.OwnMore
import Derived.Maps.AppendAt
import Derived.Maps.OwnSet
import Derived.Maps.RangeWalk
import Derived.OwnWalk
import Derived.Sort.OwnSorted
import Derived.StringKeys
import Derived.WalkKit
set_option linter.all false
namespace Go.Proofs.YtoknnjiangjccaaGreatDoor
open Go Go.Ab Tryz
set_option maxRecDepth 100000
set_option maxHeartbeats 40000000
noncomputable section
def Qc9 (a0:(List Int)):Option (QAe):=
(if(decide (((a0.length:Nat):Int)>2000))=true then
 gd ((0:Int)<=(0:Int)∧(0:Int)<=(2000:Int)∧(2000:Int)<=((a0.length:Nat):Int))<|
 some (⟨a0.take ((2000:Int).toNat),0⟩:QAe)
else
 some (⟨a0,0⟩:QAe))
theorem QlP {a0:(List Int)} {r:QAe} (h:Qc9 a0=some r):EffC prog 18 [.d (slD Qq a0)] [] (.ref 5001 0 0) [(5001,.box 76 [.d (slD Qq r.b),dI r.p])]:=by
 refine eY tOk f18 rfl (Qc tOk ?_);apply Qm h<;>intro _ h
 ·obtain⟨G,h⟩:=Qf h;refine aI ⟨G,.inr rfl⟩ ?_;cases h;exact lfE [.s [(10,5001),(5001,10)]]
 ·cases h
  exact lfE [.s [(10,5001),(5001,10)]]
def Ql (a0:QAe) (G:Int):Option (Int×QAe):=
(if((decide (G<1))||(((a0.b.length:Nat):Int)==0))=true then
 some (0,(⟨a0.b,IntKind.i64.wrap (a0.p+1)⟩:QAe))
else
(if(decide ((IntKind.i64.wrap ((IntKind.i64.wrap (a0.p+1)) -1))<((a0.b.length:Nat):Int)))=true then
 gd ((0:Int)<=IntKind.i64.wrap ((IntKind.i64.wrap (a0.p+1)) -1)∧IntKind.i64.wrap ((IntKind.i64.wrap (a0.p+1)) -1)<((a0.b.length:Nat):Int))<|
 gd ((G:Int)≠0)<|
 some (((IntKind.i64.wrap (a0.b.getD ((IntKind.i64.wrap ((IntKind.i64.wrap (a0.p+1)) -1)).toNat) default):Int).tmod G),(⟨a0.b,IntKind.i64.wrap (a0.p+1)⟩:QAe))
else
 gd ((((a0.b.length:Nat):Int):Int)≠0)<|
 gd ((0:Int)<=((IntKind.i64.wrap ((IntKind.i64.wrap (a0.p+1)) -1):Int).tmod ((a0.b.length:Nat):Int))∧((IntKind.i64.wrap ((IntKind.i64.wrap (a0.p+1)) -1):Int).tmod ((a0.b.length:Nat):Int))<((a0.b.length:Nat):Int))<|
 gd ((((a0.b.length:Nat):Int):Int)≠0)<|
 gd ((0:Int)<=((IntKind.i64.wrap ((IntKind.i64.wrap ((IntKind.i64.wrap ((IntKind.i64.wrap (a0.p+1)) -1))*7))+3):Int).tmod ((a0.b.length:Nat):Int))∧((IntKind.i64.wrap ((IntKind.i64.wrap ((IntKind.i64.wrap ((IntKind.i64.wrap (a0.p+1)) -1))*7))+3):Int).tmod ((a0.b.length:Nat):Int))<((a0.b.length:Nat):Int))<|
 gd ((((a0.b.length:Nat):Int):Int)≠0)<|
 gd ((64:Int)≠0)<|
 gd ((G:Int)≠0)<|
 some ((((bits .xor .i64 (IntKind.i64.wrap ((IntKind.i64.wrap ((IntKind.i64.wrap ((IntKind.i64.wrap ((IntKind.i64.wrap (a0.b.getD (((IntKind.i64.wrap ((IntKind.i64.wrap (a0.p+1)) -1):Int).tmod ((a0.b.length:Nat):Int)).toNat) default))*131))+(IntKind.i64.wrap ((IntKind.i64.wrap (a0.b.getD (((IntKind.i64.wrap ((IntKind.i64.wrap ((IntKind.i64.wrap ((IntKind.i64.wrap (a0.p+1)) -1))*7))+3):Int).tmod ((a0.b.length:Nat):Int)).toNat) default))*1117))))+(IntKind.i64.wrap ((IntKind.i64.wrap ((IntKind.i64.wrap (a0.p+1)) -1))*29))))+(IntKind.i64.wrap ((IntKind.i64.wrap ((IntKind.i64.wrap ((IntKind.i64.wrap (a0.p+1)) -1):Int).tdiv ((a0.b.length:Nat):Int)))*53)))) (IntKind.i64.wrap ((IntKind.i64.wrap ((IntKind.i64.wrap ((IntKind.i64.wrap ((IntKind.i64.wrap ((IntKind.i64.wrap (a0.b.getD (((IntKind.i64.wrap ((IntKind.i64.wrap (a0.p+1)) -1):Int).tmod ((a0.b.length:Nat):Int)).toNat) default))*131))+(IntKind.i64.wrap ((IntKind.i64.wrap (a0.b.getD (((IntKind.i64.wrap ((IntKind.i64.wrap ((IntKind.i64.wrap ((IntKind.i64.wrap (a0.p+1)) -1))*7))+3):Int).tmod ((a0.b.length:Nat):Int)).toNat) default))*1117))))+(IntKind.i64.wrap ((IntKind.i64.wrap ((IntKind.i64.wrap (a0.p+1)) -1))*29))))+(IntKind.i64.wrap ((IntKind.i64.wrap ((IntKind.i64.wrap ((IntKind.i64.wrap (a0.p+1)) -1):Int).tdiv ((a0.b.length:Nat):Int)))*53))):Int).tdiv 64))):Int).tmod G),(⟨a0.b,IntKind.i64.wrap (a0.p+1)⟩:QAe))))
theorem Qp {a0:QAe} {G:Int} {r:Int×QAe} (h:Ql a0 G=some r):EffC prog 21 [.ref 9000 0 0,dI G] [(9000,.box 76 [.d (slD Qq a0.b),dI a0.p])] (dI r.1) [(9000,.box 76 [.d (slD Qq a0.b),dI r.2.p])]:=by
 refine eY tOk f21 rfl (Qc tOk ?_);apply Qm h<;>intro _ h
 ·cases h
  exact lfE []
 ·refine Qc tOk ?_;apply Qm h<;>intro _ h
  ·refine gdI h fun h=>gdI h fun h=>?_;cases h;exact lfE []
  ·obtain⟨I,h⟩:=Qf h;obtain⟨J,h⟩:=Qf h;obtain⟨O,h⟩:=Qf h;obtain⟨Y,h⟩:=Qf h;obtain⟨U,h⟩:=Qf h;refine QP tOk [] 46 [] [0,1,3,7,0,0,32,96,224,480,1008,2047,4095,8191,16383,0,32768,98304,229376,0,524288,1572864,0,4194304,12582912,29360128,62914560,133693440,268402688,536838144,1073709056,2147450880,4294967295,0,8589934592,34359738367,0,0,137438953472,412316860416,962072674304,2061584302080,4329327034368,8727373545472,17592186044415,35184372088831] [] (aI I (aI J (aI O (aI Y (aI U (aK (gdI h fun h=>gdI h fun h=>?_)))))));cases h;exact lfE []
def Qck (a0:Bt):Option (Bt):=
 bd (lp (σ:=Int) (β:=(Bt⊕Unit)) (fun s1=>
(if(decide (s1<((a0.size:Nat):Int)))=true then
 gd ((0:Int)<=s1∧s1<((a0.size:Nat):Int))<|
(if((J9 a0 s1.toNat)==35)=true then
 gd ((0:Int)<=(0:Int)∧(0:Int)<=s1∧s1<=((a0.size:Nat):Int))<|
 some (.inr (.inl (a0.extract 0 s1.toNat)))
else
 some (.inl (IntKind.i64.wrap (s1+1))))
else
 some (.inr (.inr ())))) 0) fun I=>
(match I with
| .inl G=>
 some G
| .inr d8=>
 some a0)
theorem Qku {a0:Bt} {r:Bt} (h:Qck a0=some r):PureC prog 148 [.d (.str a0)] (.d (.str r)) []:=by
 refine pY tOk f148 rfl (Qc tOk ?_);obtain⟨x4,I,h⟩:=Qb h;refine QA tOk I (fun s1=>⟨0,18,[(0,.d (.str a0)),(3,dI s1)],[],[],[]⟩) ?_ ?_
 ·exact leX []
 ·clear I;intro s1 y2 G J;refine Qc tOk ?_;apply Qm G<;>intro _ G
  ·refine Qc tOk (gdI G fun G=>?_);apply Qm G<;>intro _ G
   ·refine gdI G fun G=>?_;cases G;cases J _ rfl;cases h;exact lfP []
   ·exact eX G []
  ·cases G
   cases J _ rfl
   cases h
   exact lfP []
def Z8 (a0:Bt):Option ((List Bt)×Bool):=
 bd (Qck a0) fun I=>
 bd (lp (σ:=List Int×List Bt×Int) (β:=(Unit⊕(Nat×(List Bt)))) (fun G=>
(if(decide (G.2.2<=((I.size:Nat):Int)))=true then
 gd ((decide (G.2.2<((I.size:Nat):Int)))=true->((0:Int)<=G.2.2∧G.2.2<((I.size:Nat):Int)))<|
 gd ((decide ((J9 I G.2.2.toNat)<32))=false->((decide (G.2.2<((I.size:Nat):Int)))=true->((0:Int)<=G.2.2∧G.2.2<((I.size:Nat):Int))))<|
(if((decide (G.2.2<((I.size:Nat):Int)))&&((decide ((J9 I G.2.2.toNat)<32))||(decide ((J9 I G.2.2.toNat)>126))))=true then
 some (.inr (.inl ()))
else
 gd ((decide (G.2.2<((I.size:Nat):Int)))=true->((0:Int)<=G.2.2∧G.2.2<((I.size:Nat):Int)))<|
(if((decide (G.2.2<((I.size:Nat):Int)))&&((J9 I G.2.2.toNat) !=32))=true then
 gd ((0:Int)<=G.2.2∧G.2.2<((I.size:Nat):Int))<|
 gd (((G.1.length)+(([(J9 I G.2.2.toNat)]:List Int).length))*(1+1)<=70368744177664)<|
(if(decide ((((G.1++([(J9 I G.2.2.toNat)]:List Int)).length:Nat):Int)>24))=true then
 some (.inr (.inl ()))
else
 some (.inl ((G.1++([(J9 I G.2.2.toNat)]:List Int)),G.2.1,IntKind.i64.wrap (G.2.2+1))))
else
(if(decide (((G.1.length:Nat):Int)>0))=true then
 gd (((G.2.1.length)+(([(QfZ (Qpn G.1.length (rows Qq G.1)))]:List Bt).length))*(16+1)<=70368744177664)<|
(if(decide ((((G.2.1++([(QfZ (Qpn G.1.length (rows Qq G.1)))]:List Bt)).length:Nat):Int)>8))=true then
 some (.inr (.inl ()))
else
 some (.inl (([]:List Int),(G.2.1++([(QfZ (Qpn G.1.length (rows Qq G.1)))]:List Bt)),IntKind.i64.wrap (G.2.2+1))))
else
 some (.inl (G.1,G.2.1,IntKind.i64.wrap (G.2.2+1))))))
else
 some (.inr (.inr (G.2.1.length,G.2.1))))) (([]:List Int),([]:List Bt),0)) fun O=>
(match O with
| .inl d12=>
 some ([],false)
| .inr J=>
 some (J.2,true))
theorem QbW {a0:Bt} {r:(List Bt)×Bool} (h:Z8 a0=some r):PureC prog 88 [.d (.str a0)] (.tup [.osl 5001 0 r.1.length,dB r.2]) [⟨5001,9,1,r.1.length,rows encSb r.1⟩]:=by
 refine pY tOk f88 rfl (bC h 0 (fun _=>Qku) fun U h=>Qc tOk ?_);obtain⟨x5,O,h⟩:=Qb h;refine QA tOk O (fun I=>⟨0,69,[(4,.d (.str U)),(5,.osl 7002 0 I.2.1.length),(6,.osl 7001 0 I.1.length),(7,dI I.2.2)],[],[(7002,.arr 9 1 I.2.1.length (rows encSb I.2.1)),(7001,.arr 5 1 I.1.length (rows Qq I.1))],[]⟩) ?_ ?_
 ·exact leX [.k [7001,7002],.p 7002 9 1 (rows encSb ([]:List Bt)),.p 7001 5 1 (rows Qq ([]:List Int))]
 ·clear O;intro I y3 G J;refine Qc tOk ?_;apply Qm G<;>intro _ G
  ·refine Qc tOk (Qc tOk (gdI G fun G=>gdI G fun G=>?_));apply Qm G<;>intro _ G
   ·cases G
    cases J _ rfl
    cases h
    exact lfP [.p 5001 9 1 (rows encSb ([]:List Bt))]
   ·refine Qc tOk (gdI G fun G=>?_);apply Qm G<;>intro _ G
    ·refine gdI G fun G=>Qbh (enc:=Qq) ([(J9 U I.2.2.toNat)]:List Int) (gdI G fun G=>QfK (enc:=Qq) (xs:=I.1) (ys:=([(J9 U I.2.2.toNat)]:List Int)) (Qc tOk ?_));apply Qm G<;>intro _ G
     ·cases G
      cases J _ rfl
      cases h
      exact lfP [.p 5001 9 1 (rows encSb ([]:List Bt))]
     ·exact eX G []
    ·apply Qm G<;>intro _ G
     ·refine aI QsB (Qbh (enc:=encSb) ([(QfZ (Qpn I.1.length (rows Qq I.1)))]:List Bt) (gdI G fun G=>QfK (enc:=encSb) (xs:=I.2.1) (ys:=([(QfZ (Qpn I.1.length (rows Qq I.1)))]:List Bt)) ?_));apply Qm G<;>intro _ G
      ·cases G
       cases J _ rfl
       cases h
       exact lfP [.p 5001 9 1 (rows encSb ([]:List Bt))]
      ·exact eX G [.k [61,7001],.p 7001 5 1 (rows Qq ([]:List Int))]
     ·exact eX G []
  ·cases G
   cases J _ rfl
   cases h
   exact lfP [.s [(5001,7002),(7002,5001)]]
def QO (a0:Int) (G:Int) (I:Int):Option (Bool):=
 some ((decide (a0>=G))&&(decide (a0<=I)))
theorem ZE {a0:Int} {G:Int} {I:Int} {r:Bool} (h:QO a0 G I=some r):PureC prog 71 [dI a0,dI G,dI I] (dB r) []:=by
 refine pY tOk f71 rfl ?_;unfold QO at h;cases h;exact lfP []
def Zr (a0:Bt):Option (Bool):=
 bd (QO ((a0.size:Nat):Int) 1 8) fun U=>
(if(!U)=true then
 some false
else
 bd (lp (σ:=Int) (β:=(Unit⊕Unit)) (fun G=>
(if(decide (G<((a0.size:Nat):Int)))=true then
 gd ((0:Int)<=G∧G<((a0.size:Nat):Int))<|
 bd (QO (IntKind.i64.wrap (J9 a0 G.toNat)) 97 122) fun I=>
 gd ((!I)=true->((0:Int)<=G∧G<((a0.size:Nat):Int)))<|
 bd (gcall ((!I)=true) (QO (IntKind.i64.wrap (J9 a0 G.toNat)) 48 57)) fun J=>
 gd (((!I)&&(!J))=true->((0:Int)<=G∧G<((a0.size:Nat):Int)))<|
(if(((!I)&&(!J))&&((J9 a0 G.toNat) !=45))=true then
 some (.inr (.inl ()))
else
 some (.inl (IntKind.i64.wrap (G+1))))
else
 some (.inr (.inr ())))) 0) fun O=>
(match O with
| .inl d11=>
 some false
| .inr d12=>
 some true))
theorem Qan {a0:Bt} {r:Bool} (h:Zr a0=some r):PureC prog 141 [.d (.str a0)] (dB r) []:=by
 refine pY tOk f141 rfl (Qc tOk (bC h 0 (fun _=>ZE) fun x1 h=>?_));apply Qm h<;>intro _ h
 ·cases h
  exact lfP []
 ·refine Qc tOk ?_;obtain⟨x5,I,h⟩:=Qb h;refine QA tOk I (fun O=>⟨0,34,[(0,.d (.str a0)),(3,dI O)],[],[],[]⟩) ?_ ?_
  ·exact leX []
  ·clear I;intro O y3 G J;refine Qc tOk ?_;apply Qm G<;>intro _ G
   ·refine Qc tOk (gdI G fun G=>bC G 0 (fun _=>ZE) fun x7 G=>gdI G fun G=>bG G (fun _=>ZE) fun x9 G=>gdI G fun G=>?_);apply Qm G<;>intro _ G
    ·cases G
     cases J _ rfl
     cases h
     exact lfP []
    ·exact eX G []
   ·cases G
    cases J _ rfl
    cases h
    exact lfP []
def JI (a0:Bt) (I:Int):Option ((List Bt)):=
 bd (lp (σ:=List Bt×Int×Int) (β:=(Nat×Int×(List Bt))) (fun s1=>
(if(decide (s1.2.2<((a0.size:Nat):Int)))=true then
 gd ((0:Int)<=s1.2.2∧s1.2.2<((a0.size:Nat):Int))<|
(if((J9 a0 s1.2.2.toNat)==I)=true then
 gd ((0:Int)<=s1.2.1∧s1.2.1<=s1.2.2∧s1.2.2<=((a0.size:Nat):Int))<|
 gd (((s1.1.length)+(([(a0.extract s1.2.1.toNat s1.2.2.toNat)]:List Bt).length))*(16+1)<=70368744177664)<|
 some (.inl ((s1.1++([(a0.extract s1.2.1.toNat s1.2.2.toNat)]:List Bt)),IntKind.i64.wrap (s1.2.2+1),IntKind.i64.wrap (s1.2.2+1)))
else
 some (.inl (s1.1,s1.2.1,IntKind.i64.wrap (s1.2.2+1))))
else
 some (.inr (s1.1.length,s1.2.1,s1.1)))) (([]:List Bt),0,0)) fun G=>
 gd ((0:Int)<=G.2.1∧G.2.1<=((a0.size:Nat):Int)∧((a0.size:Nat):Int)<=((a0.size:Nat):Int))<|
 gd (((G.1)+(([(a0.extract G.2.1.toNat ((a0.size:Nat):Int).toNat)]:List Bt).length))*(16+1)<=70368744177664)<|
 some (G.2.2++([(a0.extract G.2.1.toNat ((a0.size:Nat):Int).toNat)]:List Bt))
theorem Qfe {a0:Bt} {J:Int} {r:(List Bt)} (h:JI a0 J=some r):PureC prog 149 [.d (.str a0),.d (.int .u8 J)] (.osl 5001 0 r.length) [⟨5001,9,1,r.length,rows encSb r⟩]:=by
 refine pY tOk f149 rfl (Qc tOk ?_);obtain⟨x4,I,h⟩:=Qb h;refine QA tOk I (fun s1=>⟨0,35,[(0,.d (.str a0)),(1,.d (.int .u8 J)),(5,.osl 7001 0 s1.1.length),(6,dI s1.2.1),(7,dI s1.2.2)],[],[(7001,.arr 9 1 s1.1.length (rows encSb s1.1))],[]⟩) ?_ ?_
 ·exact leX [.k [7001],.p 7001 9 1 (rows encSb ([]:List Bt))]
 ·clear I;intro s1 y2 G O;refine Qc tOk ?_;apply Qm G<;>intro _ G
  ·refine Qc tOk (gdI G fun G=>?_);apply Qm G<;>intro _ G
   ·refine gdI G fun G=>Qbh (enc:=encSb) ([(a0.extract s1.2.1.toNat s1.2.2.toNat)]:List Bt) (gdI G fun G=>QfK (enc:=encSb) (xs:=s1.1) (ys:=([(a0.extract s1.2.1.toNat s1.2.2.toNat)]:List Bt)) ?_);exact eX G []
   ·exact eX G []
  ·cases G
   cases O _ rfl
   refine gdI h fun h=>Qbh (enc:=encSb) ([(a0.extract (s1.1.length,s1.2.1,s1.1).2.1.toNat ((a0.size:Nat):Int).toNat)]:List Bt) (gdI h fun h=>QfK (enc:=encSb) (xs:=(s1.1.length,s1.2.1,s1.1).2.2) (ys:=([(a0.extract (s1.1.length,s1.2.1,s1.1).2.1.toNat ((a0.size:Nat):Int).toNat)]:List Bt)) ?_);cases h;exact lfP [.s [(5001,7001),(7001,5001)]]
def Qcl:Option ((List Bt)):=
 some ([(⟨#[100,111,111,114]⟩:Bt),(⟨#[104,111,115,116]⟩:Bt),(⟨#[110,97,116]⟩:Bt),(⟨#[112,101,101,114]⟩:Bt),(⟨#[112,111,114,116]⟩:Bt),(⟨#[114,111,117,116,101]⟩:Bt),(⟨#[114,117,108,101]⟩:Bt),(⟨#[117,115,101,114]⟩:Bt)]:List Bt)
theorem Qkv {r:(List Bt)} (h:Qcl=some r):PureC prog 265 [] (.osl 5001 0 r.length) [⟨5001,9,1,r.length,rows encSb r⟩]:=by
 refine pY tOk f265 rfl ?_;unfold Qcl at h;refine Qbh (enc:=encSb) ([(⟨#[100,111,111,114]⟩:Bt),(⟨#[104,111,115,116]⟩:Bt),(⟨#[110,97,116]⟩:Bt),(⟨#[112,101,101,114]⟩:Bt),(⟨#[112,111,114,116]⟩:Bt),(⟨#[114,111,117,116,101]⟩:Bt),(⟨#[114,117,108,101]⟩:Bt),(⟨#[117,115,101,114]⟩:Bt)]:List Bt) ?_;cases h;exact lfP [.s [(1,5001),(5001,1)]]
def QaH (a0:(List Bt)) (I:Bt):Option (Bool):=
 bd (lp (σ:=Int) (β:=(Unit⊕Unit)) (fun s1=>
(if(decide (s1<((a0.length:Nat):Int)))=true then
 gd ((0:Int)<=s1∧s1<((a0.length:Nat):Int))<|
(if((a0.getD s1.toNat default)==I)=true then
 some (.inr (.inl ()))
else
 some (.inl (IntKind.i64.wrap (s1+1))))
else
 some (.inr (.inr ())))) 0) fun G=>
(match G with
| .inl d6=>
 some true
| .inr d7=>
 some false)
theorem QdS {a0:(List Bt)} {O:Bt} {r:Bool} (h:QaH a0 O=some r):PureC prog 87 [.d (slD encSb a0),.d (.str O)] (dB r) []:=by
 refine pY tOk f87 rfl (Qc tOk ?_);obtain⟨x4,I,h⟩:=Qb h;refine QA tOk I (fun s1=>⟨0,18,[(0,.d (slD encSb a0)),(1,.d (.str O)),(5,dI s1)],[],[],[]⟩) ?_ ?_
 ·exact leX []
 ·clear I;intro s1 y2 G J;refine Qc tOk ?_;apply Qm G<;>intro _ G
  ·refine Qc tOk (gdI G fun G=>?_);apply Qm G<;>intro _ G
   ·cases G
    cases J _ rfl
    cases h
    exact lfP []
   ·exact eX G []
  ·cases G
   cases J _ rfl
   cases h
   exact lfP []
def QbX (a0:Bt):Option (Bool):=
(if((a0==(⟨#[97,108,108]⟩:Bt))||(a0==(⟨#[110,111,110,101]⟩:Bt)))=true then
 some true
else
 bd (JI a0 44) fun I=>
 bd (lp (σ:=Int) (β:=(Unit⊕Unit)) (fun G=>
(if(decide (G<((I.length:Nat):Int)))=true then
 bd (Qcl) fun O=>
 gd ((0:Int)<=G∧G<((I.length:Nat):Int))<|
 bd (QaH O (I.getD G.toNat default)) fun J=>
 gd ((decide (G>0))=true->((!J)=false->((0:Int)<=IntKind.i64.wrap (G-1)∧IntKind.i64.wrap (G-1)<((I.length:Nat):Int))))<|
 gd ((decide (G>0))=true->((!J)=false->((0:Int)<=G∧G<((I.length:Nat):Int))))<|
(if((!J)||((decide (G>0))&&(!(bsl (I.getD ((IntKind.i64.wrap (G-1)).toNat) default) (I.getD G.toNat default)))))=true then
 some (.inr (.inl ()))
else
 some (.inl (IntKind.i64.wrap (G+1))))
else
 some (.inr (.inr ())))) 0) fun U=>
(match U with
| .inl d11=>
 some false
| .inr d12=>
 some true))
theorem QjI {a0:Bt} {r:Bool} (h:QbX a0=some r):PureC prog 241 [.d (.str a0)] (dB r) []:=by
 refine pY tOk f241 rfl (Qc tOk ?_);apply Qm h<;>intro _ h
 ·cases h
  exact lfP []
 ·refine bC h 1000 (fun _=>Qfe) fun x1 h=>Qc tOk ?_;obtain⟨x5,I,h⟩:=Qb h;refine QA tOk I (fun s2=>⟨0,42,[(3,.osl 6001 0 x1.length),(4,dI s2)],[],[(6001,.arr 9 1 x1.length (rows encSb x1))],[]⟩) ?_ ?_
  ·exact leX []
  ·clear I;intro s2 y3 G J;refine Qc tOk ?_;apply Qm G<;>intro _ G
   ·refine Qc tOk ?_;obtain⟨O,a1,G⟩:=Qb G;obtain⟨g7,G⟩:=Qf G;obtain⟨x8,U,G⟩:=Qb G;obtain⟨g9,G⟩:=Qf G;obtain⟨Y,G⟩:=Qf G;refine QP tOk [.u 0 2000 (.osl 5001 0 O.length) [⟨5001,9,1,O.length,rows encSb O⟩],.u 5 0 (dB x8) []] 23 [] [0,0,0,6,14,31,63,127,255,511,1023,2047,2047,6143,16383,32767,2047,2047,198655,460799,1048575,2097151,4194303] [] (aI (QB (Qkv a1) (by kernel_rfl)) (aI g7 (aI (QB (QdS U) (by kernel_rfl)) (aI g9 (aI Y (aK ?_))))));apply Qm G<;>intro _ G
    ·cases G
     cases J _ rfl
     cases h
     exact lfP []
    ·exact eX G []
   ·cases G
    cases J _ rfl
    cases h
    exact lfP []
def ZO (a0:Bt):Option (Int):=
 bd (QO ((a0.size:Nat):Int) 1 6) fun J=>
 gd ((decide (((a0.size:Nat):Int)>1))=true->((!J)=false->((0:Int)<=(0:Int)∧(0:Int)<((a0.size:Nat):Int))))<|
(if((!J)||((decide (((a0.size:Nat):Int)>1))&&((J9 a0 0)==48)))=true then
 some (-1)
else
 bd (lp (σ:=Int×Int) (β:=(Unit⊕Int)) (fun G=>
(if(decide (G.2<((a0.size:Nat):Int)))=true then
 gd ((0:Int)<=G.2∧G.2<((a0.size:Nat):Int))<|
 bd (QO (IntKind.i64.wrap (J9 a0 G.2.toNat)) 48 57) fun U=>
(if(!U)=true then
 some (.inr (.inl ()))
else
 gd ((0:Int)<=G.2∧G.2<((a0.size:Nat):Int))<|
 some (.inl (IntKind.i64.wrap ((IntKind.i64.wrap (G.1*10))+(IntKind.i64.wrap (IntKind.u8.wrap ((J9 a0 G.2.toNat) -48)))),IntKind.i64.wrap (G.2+1))))
else
 some (.inr (.inr G.1)))) (0,0)) fun O=>
(match O with
| .inl d10=>
 some (-1)
| .inr I=>
 some I))
theorem Qag {a0:Bt} {r:Int} (h:ZO a0=some r):PureC prog 96 [.d (.str a0)] (dI r) []:=by
 refine pY tOk f96 rfl (Qc tOk (bC h 0 (fun _=>ZE) fun x1 h=>gdI h fun h=>?_));apply Qm h<;>intro _ h
 ·cases h
  exact lfP []
 ·refine Qc tOk ?_;obtain⟨x6,J,h⟩:=Qb h;refine QA tOk J (fun O=>⟨0,40,[(0,.d (.str a0)),(3,dI O.1),(4,dI O.2)],[],[],[]⟩) ?_ ?_
  ·exact leX []
  ·clear J;intro O y4 G I;refine Qc tOk ?_;apply Qm G<;>intro _ G
   ·refine Qc tOk (Qc tOk (gdI G fun G=>bC G 0 (fun _=>ZE) fun x8 G=>?_));apply Qm G<;>intro _ G
    ·cases G
     cases I _ rfl
     cases h
     exact lfP []
    ·refine gdI G fun G=>?_;exact eX G []
   ·cases G
    cases I _ rfl
    cases h
    exact lfP []
def Ze (a0:Bt) (I:Int) (G:Int):Option (Bool):=
 bd (ZO a0) fun O=>
 bd (QO O I G) fun J=>
 some J
theorem ZF {a0:Bt} {G:Int} {I:Int} {r:Bool} (h:Ze a0 G I=some r):PureC prog 150 [.d (.str a0),dI G,dI I] (dB r) []:=by
 refine pY tOk f150 rfl (bC h 0 (fun _=>Qag) fun x1 h=>bC h 0 (fun _=>ZE) fun x2 h=>?_);cases h;exact lfP []
def Za (a0:Bt):Option (Int):=
 bd (JI a0 46) fun G=>
 gd ((((G.length:Nat):Int) !=2)=false->((0:Int)<=0∧0<((G.length:Nat):Int)))<|
 bd (gcall ((((G.length:Nat):Int) !=2)=false) (Ze (G.getD 0 default) 0 255)) fun I=>
 gd (((((G.length:Nat):Int) !=2)||(!I))=false->((0:Int)<=1∧1<((G.length:Nat):Int)))<|
 bd (gcall (((((G.length:Nat):Int) !=2)||(!I))=false) (Ze (G.getD 1 default) 0 255)) fun J=>
(if(((((G.length:Nat):Int) !=2)||(!I))||(!J))=true then
 some (-1)
else
 gd ((0:Int)<=0∧0<((G.length:Nat):Int))<|
 bd (ZO (G.getD 0 default)) fun U=>
 gd ((0:Int)<=1∧1<((G.length:Nat):Int))<|
 bd (ZO (G.getD 1 default)) fun O=>
 some (IntKind.i64.wrap ((IntKind.i64.wrap (256*U))+O)))
theorem Z0 {a0:Bt} {r:Int} (h:Za a0=some r):PureC prog 93 [.d (.str a0)] (dI r) []:=by
 refine pY tOk f93 rfl (bC h 1000 (fun _=>Qfe) fun x1 h=>Qc tOk (gdI h fun h=>bG h (fun _=>ZF) fun x3 h=>gdI h fun h=>bG h (fun _=>ZF) fun x5 h=>?_));apply Qm h<;>intro _ h
 ·cases h
  exact lfP []
 ·obtain⟨Y,h⟩:=Qf h;obtain⟨U,G,h⟩:=Qb h;obtain⟨O,h⟩:=Qf h;obtain⟨J,I,h⟩:=Qb h;refine QP tOk [.u 3 0 (dI U) [],.u 8 0 (dI J) []] 11 [] [0,1,3,7,15,0,32,96,239,511,1023] [] (aI Y (aI (QB (Qag G) (by kernel_rfl)) (aI O (aI (QB (Qag I) (by kernel_rfl)) (aK ?_)))));cases h;exact lfP []
def Qda (a0:Int):Option (Int):=
 bd (lp (σ:=Int×Int) (β:=(Int)) (fun s1=>
(if(decide (s1.2<16))=true then
 some (.inl (IntKind.i64.wrap (s1.1*2),IntKind.i64.wrap (s1.2+1)))
else
 some (.inr s1.1))) (1,a0)) fun G=>
 some G
theorem QlQ {a0:Int} {r:Int} (h:Qda a0=some r):PureC prog 151 [dI a0] (dI r) []:=by
 refine pY tOk f151 rfl (Qc tOk ?_);obtain⟨x4,G,h⟩:=Qb h;refine QA tOk G (fun s1=>⟨0,13,[(3,dI s1.1),(4,dI s1.2)],[],[],[]⟩) ?_ ?_
 ·exact leX []
 ·clear G;intro s1 y2 I J;refine Qc tOk ?_;apply Qm I<;>intro _ I
  ·refine Qc tOk ?_;exact eX I []
  ·cases I
   cases J _ rfl
   cases h
   exact lfP []
def Zs (a0:Bt):Option (Int×Int):=
 bd (JI a0 47) fun G=>
 gd ((((G.length:Nat):Int) !=2)=false->((0:Int)<=0∧0<((G.length:Nat):Int)))<|
 bd (gcall ((((G.length:Nat):Int) !=2)=false) (Za (G.getD 0 default))) fun J=>
 gd (((((G.length:Nat):Int) !=2)||(decide (J<0)))=false->((0:Int)<=1∧1<((G.length:Nat):Int)))<|
 bd (gcall (((((G.length:Nat):Int) !=2)||(decide (J<0)))=false) (Ze (G.getD 1 default) 0 16)) fun U=>
(if(((((G.length:Nat):Int) !=2)||(decide (J<0)))||(!U))=true then
 some (-1,0)
else
 gd ((0:Int)<=0∧0<((G.length:Nat):Int))<|
 bd (Za (G.getD 0 default)) fun O=>
 gd ((0:Int)<=1∧1<((G.length:Nat):Int))<|
 bd (ZO (G.getD 1 default)) fun Y=>
 bd (Qda Y) fun I=>
 gd ((I:Int)≠0)<|
(if(((O:Int).tmod I) !=0)=true then
 some (-1,0)
else
 some (O,I)))
theorem Qad {a0:Bt} {r:Int×Int} (h:Zs a0=some r):PureC prog 91 [.d (.str a0)] (.tup [dI r.1,dI r.2]) []:=by
 refine pY tOk f91 rfl (bC h 1000 (fun _=>Qfe) fun x1 h=>Qc tOk (gdI h fun h=>bG h (fun _=>Z0) fun x3 h=>gdI h fun h=>bG h (fun _=>ZF) fun x5 h=>?_));apply Qm h<;>intro _ h
 ·cases h
  exact lfP []
 ·refine gdI h fun h=>bC h 0 (fun _=>Z0) fun x7 h=>gdI h fun h=>bC h 0 (fun _=>Qag) fun x9 h=>bC h 0 (fun _=>QlQ) fun x10 h=>Qc tOk (gdI h fun h=>?_);apply Qm h<;>intro _ h
  ·cases h
   exact lfP []
  ·cases h
   exact lfP []
def ZG (a0:Bt):Option (Bool):=
 bd (Zs a0) fun G=>
 some (decide (G.1>=0))
theorem Qah {a0:Bt} {r:Bool} (h:ZG a0=some r):PureC prog 242 [.d (.str a0)] (dB r) []:=by
 refine pY tOk f242 rfl (bC h 0 (fun _=>Qad) fun x1 h=>?_);cases h;exact lfP []
def Qdb (a0:(List Bt)):Option (Bool):=
(if(((a0.length:Nat):Int)==0)=true then
 some false
else
 gd ((0:Int)<=0∧0<((a0.length:Nat):Int))<|
(if((a0.getD 0 default)==(⟨#[104,111,115,116]⟩:Bt))=true then
 gd ((((a0.length:Nat):Int)==2)=true->((0:Int)<=1∧1<((a0.length:Nat):Int)))<|
 bd (gcall ((((a0.length:Nat):Int)==2)=true) (Zr (a0.getD 1 default))) fun x3=>
 some ((((a0.length:Nat):Int)==2)&&x3)
else
(if((a0.getD 0 default)==(⟨#[117,115,101,114]⟩:Bt))=true then
 gd ((((a0.length:Nat):Int)==3)=true->((0:Int)<=1∧1<((a0.length:Nat):Int)))<|
 bd (gcall ((((a0.length:Nat):Int)==3)=true) (Zr (a0.getD 1 default))) fun x5=>
 gd (((((a0.length:Nat):Int)==3)&&x5)=true->((0:Int)<=2∧2<((a0.length:Nat):Int)))<|
 bd (gcall (((((a0.length:Nat):Int)==3)&&x5)=true) (QbX (a0.getD 2 default))) fun x7=>
 some (((((a0.length:Nat):Int)==3)&&x5)&&x7)
else
(if((a0.getD 0 default)==(⟨#[112,111,114,116]⟩:Bt))=true then
 gd ((((a0.length:Nat):Int)==5)=true->((((a0.length:Nat):Int)==3)=false->((0:Int)<=3∧3<((a0.length:Nat):Int))))<|
 gd (((((a0.length:Nat):Int)==5)&&((a0.getD 3 default)==(⟨#[105,110]⟩:Bt)))=true->((((a0.length:Nat):Int)==3)=false->((0:Int)<=4∧4<((a0.length:Nat):Int))))<|
 bd (gcall (((((a0.length:Nat):Int)==5)&&((a0.getD 3 default)==(⟨#[105,110]⟩:Bt)))=true∧(((a0.length:Nat):Int)==3)=false) (Zr (a0.getD 4 default))) fun a1=>
 gd (((((a0.length:Nat):Int)==3)||(((((a0.length:Nat):Int)==5)&&((a0.getD 3 default)==(⟨#[105,110]⟩:Bt)))&&a1))=true->((0:Int)<=1∧1<((a0.length:Nat):Int)))<|
 bd (gcall (((((a0.length:Nat):Int)==3)||(((((a0.length:Nat):Int)==5)&&((a0.getD 3 default)==(⟨#[105,110]⟩:Bt)))&&a1))=true) (Ze (a0.getD 1 default) 0 7)) fun a8=>
 gd ((((((a0.length:Nat):Int)==3)||(((((a0.length:Nat):Int)==5)&&((a0.getD 3 default)==(⟨#[105,110]⟩:Bt)))&&a1))&&a8)=true->((0:Int)<=2∧2<((a0.length:Nat):Int)))<|
 bd (gcall ((((((a0.length:Nat):Int)==3)||(((((a0.length:Nat):Int)==5)&&((a0.getD 3 default)==(⟨#[105,110]⟩:Bt)))&&a1))&&a8)=true) (ZG (a0.getD 2 default))) fun b2=>
 some ((((((a0.length:Nat):Int)==3)||(((((a0.length:Nat):Int)==5)&&((a0.getD 3 default)==(⟨#[105,110]⟩:Bt)))&&a1))&&a8)&&b2)
else
(if((a0.getD 0 default)==(⟨#[114,117,108,101]⟩:Bt))=true then
 gd ((((a0.length:Nat):Int)==7)=true->((0:Int)<=1∧1<((a0.length:Nat):Int)))<|
 bd (gcall ((((a0.length:Nat):Int)==7)=true) (Zr (a0.getD 1 default))) fun G=>
 gd (((((a0.length:Nat):Int)==7)&&G)=true->((0:Int)<=2∧2<((a0.length:Nat):Int)))<|
 bd (gcall (((((a0.length:Nat):Int)==7)&&G)=true) (Ze (a0.getD 2 default) 0 99)) fun I=>
 gd ((((((a0.length:Nat):Int)==7)&&G)&&I)=true->((0:Int)<=3∧3<((a0.length:Nat):Int)))<|
 gd (((a0.getD 3 default)==(⟨#[112,101,114,109,105,116]⟩:Bt))=false->((((((a0.length:Nat):Int)==7)&&G)&&I)=true->((0:Int)<=3∧3<((a0.length:Nat):Int))))<|
 gd (((((((a0.length:Nat):Int)==7)&&G)&&I)&&(((a0.getD 3 default)==(⟨#[112,101,114,109,105,116]⟩:Bt))||((a0.getD 3 default)==(⟨#[100,101,110,121]⟩:Bt))))=true->((0:Int)<=4∧4<((a0.length:Nat):Int)))<|
 bd (gcall (((((((a0.length:Nat):Int)==7)&&G)&&I)&&(((a0.getD 3 default)==(⟨#[112,101,114,109,105,116]⟩:Bt))||((a0.getD 3 default)==(⟨#[100,101,110,121]⟩:Bt))))=true) (ZG (a0.getD 4 default))) fun a2=>
 gd ((((((((a0.length:Nat):Int)==7)&&G)&&I)&&(((a0.getD 3 default)==(⟨#[112,101,114,109,105,116]⟩:Bt))||((a0.getD 3 default)==(⟨#[100,101,110,121]⟩:Bt))))&&a2)=true->((0:Int)<=5∧5<((a0.length:Nat):Int)))<|
 bd (gcall ((((((((a0.length:Nat):Int)==7)&&G)&&I)&&(((a0.getD 3 default)==(⟨#[112,101,114,109,105,116]⟩:Bt))||((a0.getD 3 default)==(⟨#[100,101,110,121]⟩:Bt))))&&a2)=true) (ZG (a0.getD 5 default))) fun a5=>
 gd (((((((((a0.length:Nat):Int)==7)&&G)&&I)&&(((a0.getD 3 default)==(⟨#[112,101,114,109,105,116]⟩:Bt))||((a0.getD 3 default)==(⟨#[100,101,110,121]⟩:Bt))))&&a2)&&a5)=true->((0:Int)<=6∧6<((a0.length:Nat):Int)))<|
 bd (gcall (((((((((a0.length:Nat):Int)==7)&&G)&&I)&&(((a0.getD 3 default)==(⟨#[112,101,114,109,105,116]⟩:Bt))||((a0.getD 3 default)==(⟨#[100,101,110,121]⟩:Bt))))&&a2)&&a5)=true) (Ze (a0.getD 6 default) 0 7)) fun b7=>
 some (((((((((a0.length:Nat):Int)==7)&&G)&&I)&&(((a0.getD 3 default)==(⟨#[112,101,114,109,105,116]⟩:Bt))||((a0.getD 3 default)==(⟨#[100,101,110,121]⟩:Bt))))&&a2)&&a5)&&b7)
else
(if((a0.getD 0 default)==(⟨#[114,111,117,116,101]⟩:Bt))=true then
 gd ((((a0.length:Nat):Int)==3)=true->((0:Int)<=1∧1<((a0.length:Nat):Int)))<|
 bd (gcall ((((a0.length:Nat):Int)==3)=true) (ZG (a0.getD 1 default))) fun a9=>
 gd (((((a0.length:Nat):Int)==3)&&a9)=true->((0:Int)<=2∧2<((a0.length:Nat):Int)))<|
 bd (gcall (((((a0.length:Nat):Int)==3)&&a9)=true) (Za (a0.getD 2 default))) fun b3=>
 some (((((a0.length:Nat):Int)==3)&&a9)&&(decide (b3>=0)))
else
(if((a0.getD 0 default)==(⟨#[112,101,101,114]⟩:Bt))=true then
 gd ((((a0.length:Nat):Int)==4)=true->((0:Int)<=1∧1<((a0.length:Nat):Int)))<|
 bd (gcall ((((a0.length:Nat):Int)==4)=true) (Za (a0.getD 1 default))) fun U=>
 gd (((((a0.length:Nat):Int)==4)&&(decide (U>=0)))=true->((0:Int)<=2∧2<((a0.length:Nat):Int)))<|
 bd (gcall (((((a0.length:Nat):Int)==4)&&(decide (U>=0)))=true) (Ze (a0.getD 2 default) 1 9)) fun a7=>
 gd ((((((a0.length:Nat):Int)==4)&&(decide (U>=0)))&&a7)=true->((0:Int)<=3∧3<((a0.length:Nat):Int)))<|
 bd (gcall ((((((a0.length:Nat):Int)==4)&&(decide (U>=0)))&&a7)=true) (Ze (a0.getD 3 default) 1 999999)) fun b4=>
 some ((((((a0.length:Nat):Int)==4)&&(decide (U>=0)))&&a7)&&b4)
else
(if((a0.getD 0 default)==(⟨#[110,97,116]⟩:Bt))=true then
 gd ((((a0.length:Nat):Int)==5)=true->((0:Int)<=1∧1<((a0.length:Nat):Int)))<|
 bd (gcall ((((a0.length:Nat):Int)==5)=true) (ZG (a0.getD 1 default))) fun J=>
 gd (((((a0.length:Nat):Int)==5)&&J)=true->((0:Int)<=2∧2<((a0.length:Nat):Int)))<|
 bd (gcall (((((a0.length:Nat):Int)==5)&&J)=true) (Za (a0.getD 2 default))) fun Y=>
 gd ((((((a0.length:Nat):Int)==5)&&J)&&(decide (Y>=0)))=true->((0:Int)<=3∧3<((a0.length:Nat):Int)))<|
 bd (gcall ((((((a0.length:Nat):Int)==5)&&J)&&(decide (Y>=0)))=true) (Ze (a0.getD 3 default) 1 65535)) fun a4=>
 gd (((((((a0.length:Nat):Int)==5)&&J)&&(decide (Y>=0)))&&a4)=true->((0:Int)<=4∧4<((a0.length:Nat):Int)))<|
 bd (gcall (((((((a0.length:Nat):Int)==5)&&J)&&(decide (Y>=0)))&&a4)=true) (Ze (a0.getD 4 default) 1 65535)) fun b6=>
 some (((((((a0.length:Nat):Int)==5)&&J)&&(decide (Y>=0)))&&a4)&&b6)
else
(if((a0.getD 0 default)==(⟨#[100,111,111,114]⟩:Bt))=true then
 gd ((((a0.length:Nat):Int)==5)=true->((0:Int)<=1∧1<((a0.length:Nat):Int)))<|
 bd (gcall ((((a0.length:Nat):Int)==5)=true) (Ze (a0.getD 1 default) 1 7)) fun O=>
 gd (((((a0.length:Nat):Int)==5)&&O)=true->((0:Int)<=2∧2<((a0.length:Nat):Int)))<|
 bd (gcall (((((a0.length:Nat):Int)==5)&&O)=true) (Ze (a0.getD 2 default) 1 65535)) fun a3=>
 gd ((((((a0.length:Nat):Int)==5)&&O)&&a3)=true->((0:Int)<=3∧3<((a0.length:Nat):Int)))<|
 bd (gcall ((((((a0.length:Nat):Int)==5)&&O)&&a3)=true) (Za (a0.getD 3 default))) fun a6=>
 gd (((((((a0.length:Nat):Int)==5)&&O)&&a3)&&(decide (a6>=0)))=true->((0:Int)<=4∧4<((a0.length:Nat):Int)))<|
 bd (gcall (((((((a0.length:Nat):Int)==5)&&O)&&a3)&&(decide (a6>=0)))=true) (Ze (a0.getD 4 default) 1 65535)) fun b5=>
 some (((((((a0.length:Nat):Int)==5)&&O)&&a3)&&(decide (a6>=0)))&&b5)
else
 some false)))))))))
theorem QlR {a0:(List Bt)} {r:Bool} (h:Qdb a0=some r):PureC prog 211 [.d (slD encSb a0)] (dB r) []:=by
 refine pY tOk f211 rfl (Qc tOk ?_);apply Qm h<;>intro _ h
 ·cases h
  exact lfP []
 ·refine Qc tOk (gdI h fun h=>?_);apply Qm h<;>intro _ h
  ·refine gdI h fun h=>bG h (fun _=>Qan) fun x3 h=>?_;cases h;exact lfP []
  ·apply Qm h<;>intro _ h
   ·refine gdI h fun h=>bG h (fun _=>Qan) fun x5 h=>gdI h fun h=>bG h (fun _=>QjI) fun x7 h=>?_;cases h;exact lfP []
   ·apply Qm h<;>intro _ h
    ·refine gdI h fun h=>gdI h fun h=>?_;obtain⟨x10,G,h⟩:=Qb h;refine cG (fun J I=>Qan (Qn G ⟨J,I⟩)) (gdI h fun h=>bG h (fun _=>ZF) fun x12 h=>gdI h fun h=>bG h (fun _=>Qah) fun x14 h=>?_);cases h;exact lfP []
    ·apply Qm h<;>intro _ h
     ·refine gdI h fun h=>bG h (fun _=>Qan) fun x16 h=>gdI h fun h=>bG h (fun _=>ZF) fun x18 h=>gdI h fun h=>gdI h fun h=>gdI h fun h=>bG h (fun _=>Qah) fun x22 h=>gdI h fun h=>bG h (fun _=>Qah) fun x24 h=>gdI h fun h=>bG h (fun _=>ZF) fun x26 h=>?_;cases h;exact lfP []
     ·apply Qm h<;>intro _ h
      ·refine gdI h fun h=>bG h (fun _=>Qah) fun x28 h=>gdI h fun h=>bG h (fun _=>Z0) fun x30 h=>?_;cases h;exact lfP []
      ·apply Qm h<;>intro _ h
       ·refine gdI h fun h=>bG h (fun _=>Z0) fun x32 h=>gdI h fun h=>bG h (fun _=>ZF) fun x34 h=>gdI h fun h=>bG h (fun _=>ZF) fun x36 h=>?_;cases h;exact lfP []
       ·apply Qm h<;>intro _ h
        ·refine gdI h fun h=>bG h (fun _=>Qah) fun x38 h=>gdI h fun h=>bG h (fun _=>Z0) fun x40 h=>gdI h fun h=>bG h (fun _=>ZF) fun x42 h=>gdI h fun h=>bG h (fun _=>ZF) fun x44 h=>?_;cases h;exact lfP []
        ·apply Qm h<;>intro _ h
         ·refine gdI h fun h=>bG h (fun _=>ZF) fun x46 h=>gdI h fun h=>bG h (fun _=>ZF) fun x48 h=>gdI h fun h=>bG h (fun _=>Z0) fun x50 h=>gdI h fun h=>bG h (fun _=>ZF) fun x52 h=>?_;cases h;exact lfP []
         ·cases h
          exact lfP []
def QbI (a0:(List Bt)) (G:Bt):Option (Bt):=
 bd (lp (σ:=Bt×Int) (β:=(Bt)) (fun s1=>
(if(decide (s1.2<((a0.length:Nat):Int)))=true then
(if(decide (s1.2>0))=true then
 gd (s1.1.size+G.size<=9223372036854775807)<|
 gd ((0:Int)<=s1.2∧s1.2<((a0.length:Nat):Int))<|
 gd ((s1.1++G).size+(a0.getD s1.2.toNat default).size<=9223372036854775807)<|
 some (.inl (((s1.1++G)++(a0.getD s1.2.toNat default)),IntKind.i64.wrap (s1.2+1)))
else
 gd ((0:Int)<=s1.2∧s1.2<((a0.length:Nat):Int))<|
 gd (s1.1.size+(a0.getD s1.2.toNat default).size<=9223372036854775807)<|
 some (.inl ((s1.1++(a0.getD s1.2.toNat default)),IntKind.i64.wrap (s1.2+1))))
else
 some (.inr s1.1))) ((⟨#[]⟩:Bt),0)) fun I=>
 some I
theorem QlS {a0:(List Bt)} {J:Bt} {r:Bt} (h:QbI a0 J=some r):PureC prog 212 [.d (slD encSb a0),.d (.str J)] (.d (.str r)) []:=by
 refine pY tOk f212 rfl (Qc tOk ?_);obtain⟨x4,I,h⟩:=Qb h;refine QA tOk I (fun s1=>⟨0,25,[(0,.d (slD encSb a0)),(1,.d (.str J)),(5,.d (.str s1.1)),(6,dI s1.2)],[],[],[]⟩) ?_ ?_
 ·exact leX []
 ·clear I;intro s1 y2 G O;refine Qc tOk ?_;apply Qm G<;>intro _ G
  ·refine Qc tOk (Qc tOk ?_);apply Qm G<;>intro _ G
   ·refine gdI G fun G=>gdI G fun G=>gdI G fun G=>?_;exact eX G []
   ·refine gdI G fun G=>gdI G fun G=>?_;exact eX G []
  ·cases G
   cases O _ rfl
   cases h
   exact lfP []
def JU (a0:Bt):Option (Bt×Bool):=
 bd (Z8 a0) fun G=>
 bd (gcall ((!G.2)=false) (Qdb G.1)) fun J=>
(if((!G.2)||(!J))=true then
 some ((⟨#[]⟩:Bt),false)
else
 bd (QbI G.1 (⟨#[32]⟩:Bt)) fun I=>
 some (I,true))
theorem Qec {a0:Bt} {r:Bt×Bool} (h:JU a0=some r):PureC prog 176 [.d (.str a0)] (.tup [.d (.str r.1),dB r.2]) []:=by
 refine pY tOk f176 rfl (bC h 1000 (fun _=>QbW) fun x1 h=>Qc tOk (bG h (fun _=>QlR) fun x2 h=>?_));apply Qm h<;>intro _ h
 ·cases h
  exact lfP []
 ·refine bC h 0 (fun _=>QlS) fun x3 h=>?_;cases h;exact lfP []
def Qdc (a0:Bt):Option (Bool):=
 bd (JU a0) fun G=>
 some (G.2&&(G.1==a0))
theorem QlT {a0:Bt} {r:Bool} (h:Qdc a0=some r):PureC prog 152 [.d (.str a0)] (dB r) []:=by
 refine pY tOk f152 rfl (bC h 0 (fun _=>Qec) fun x1 h=>?_);cases h;exact lfP []
def ZI (a0:Bt):Option (Bt):=
 bd (Qdc a0) fun O=>
(if(!O)=true then
 some (⟨#[]⟩:Bt)
else
 bd (Z8 a0) fun G=>
 gd ((0:Int)<=0∧0<((G.1.length:Nat):Int))<|
 bd (α:=Bool) ((if((G.1.getD 0 default)==(⟨#[104,111,115,116]⟩:Bt))=true then
 some ((G.1.getD 0 default)==(⟨#[104,111,115,116]⟩:Bt))
else
 some ((G.1.getD 0 default)==(⟨#[110,97,116]⟩:Bt)))) fun U=>
(if U=true then
 gd ((0:Int)<=0∧0<((G.1.length:Nat):Int))<|
 some (G.1.getD 0 default)
else
 bd (α:=Bool) ((if((G.1.getD 0 default)==(⟨#[117,115,101,114]⟩:Bt))=true then
 some ((G.1.getD 0 default)==(⟨#[117,115,101,114]⟩:Bt))
else
(if((G.1.getD 0 default)==(⟨#[112,111,114,116]⟩:Bt))=true then
 some ((G.1.getD 0 default)==(⟨#[112,111,114,116]⟩:Bt))
else
 some ((G.1.getD 0 default)==(⟨#[112,101,101,114]⟩:Bt))))) fun J=>
(if J=true then
 gd ((0:Int)<=0∧0<((G.1.length:Nat):Int))<|
 gd ((G.1.getD 0 default).size+(⟨#[32]⟩:Bt).size<=9223372036854775807)<|
 gd ((0:Int)<=1∧1<((G.1.length:Nat):Int))<|
 gd (((G.1.getD 0 default)++(⟨#[32]⟩:Bt)).size+(G.1.getD 1 default).size<=9223372036854775807)<|
 some (((G.1.getD 0 default)++(⟨#[32]⟩:Bt))++(G.1.getD 1 default))
else
 bd (α:=Bool) ((if((G.1.getD 0 default)==(⟨#[114,117,108,101]⟩:Bt))=true then
 some ((G.1.getD 0 default)==(⟨#[114,117,108,101]⟩:Bt))
else
 some ((G.1.getD 0 default)==(⟨#[100,111,111,114]⟩:Bt)))) fun I=>
(if I=true then
 gd ((0:Int)<=0∧0<((G.1.length:Nat):Int))<|
 gd ((G.1.getD 0 default).size+(⟨#[32]⟩:Bt).size<=9223372036854775807)<|
 gd ((0:Int)<=1∧1<((G.1.length:Nat):Int))<|
 gd (((G.1.getD 0 default)++(⟨#[32]⟩:Bt)).size+(G.1.getD 1 default).size<=9223372036854775807)<|
 gd ((((G.1.getD 0 default)++(⟨#[32]⟩:Bt))++(G.1.getD 1 default)).size+(⟨#[32]⟩:Bt).size<=9223372036854775807)<|
 gd ((0:Int)<=2∧2<((G.1.length:Nat):Int))<|
 gd (((((G.1.getD 0 default)++(⟨#[32]⟩:Bt))++(G.1.getD 1 default))++(⟨#[32]⟩:Bt)).size+(G.1.getD 2 default).size<=9223372036854775807)<|
 some (((((G.1.getD 0 default)++(⟨#[32]⟩:Bt))++(G.1.getD 1 default))++(⟨#[32]⟩:Bt))++(G.1.getD 2 default))
else
 some a0))))
theorem QaZ {a0:Bt} {r:Bt} (h:ZI a0=some r):PureC prog 98 [.d (.str a0)] (.d (.str r)) []:=by
 refine pY tOk f98 rfl (Qc tOk (bC h 0 (fun _=>QlT) fun x1 h=>?_));apply Qm h<;>intro _ h
 ·cases h
  exact lfP []
 ·refine bC h 1000 (fun _=>QbW) fun J h=>Qc tOk (gdI h fun h=>?_);obtain⟨x4,O,h⟩:=Qb h;refine Zo tOk (fun s5=>⟨0,51,[(0,.d (.str a0)),(3,.osl 6001 0 J.1.length),(15,.d (.str (J.1.getD 0 default))),(16,dB s5)],[],[(6001,.arr 9 1 J.1.length (rows encSb J.1))],[]⟩) (fun s5=>x4=s5) ?_ ?_
  ·apply Qm O<;>intro _ O
   ·exact eZ O []
   ·exact eZ O []
  ·rintro _ rfl;apply Qm h<;>intro _ h
   ·refine gdI h fun h=>?_;cases h;exact lfP []
   ·obtain⟨x8,G,h⟩:=Qb h;refine Zo tOk (fun Y=>⟨0,51,[(0,.d (.str a0)),(3,.osl 6001 0 J.1.length),(15,.d (.str (J.1.getD 0 default))),(22,dB Y)],[],[(6001,.arr 9 1 J.1.length (rows encSb J.1))],[]⟩) (fun Y=>x8=Y) ?_ ?_
    ·apply Qm G<;>intro _ G
     ·exact eZ G []
     ·apply Qm G<;>intro _ G
      ·exact eZ G []
      ·exact eZ G []
    ·rintro _ rfl;apply Qm h<;>intro _ h
     ·obtain⟨b3,h⟩:=Qf h;obtain⟨a7,h⟩:=Qf h;obtain⟨a8,h⟩:=Qf h;obtain⟨a3,h⟩:=Qf h;refine QP tOk [] 9 [] [0,1,3,7,0,16,48,127,255] [] (aI b3 (aI a7 (aI a8 (aI a3 (aK ?_)))));cases h;exact lfP []
     ·obtain⟨a1,I,h⟩:=Qb h;refine Zo tOk (fun U=>⟨0,51,[(0,.d (.str a0)),(3,.osl 6001 0 J.1.length),(34,dB U)],[],[(6001,.arr 9 1 J.1.length (rows encSb J.1))],[]⟩) (fun U=>a1=U) ?_ ?_
      ·apply Qm I<;>intro _ I
       ·exact eZ I []
       ·exact eZ I []
      ·rintro _ rfl;apply Qm h<;>intro _ h
       ·obtain⟨b4,h⟩:=Qf h;obtain⟨b2,h⟩:=Qf h;obtain⟨a4,h⟩:=Qf h;obtain⟨a9,h⟩:=Qf h;obtain⟨a5,h⟩:=Qf h;obtain⟨a2,h⟩:=Qf h;obtain⟨a6,h⟩:=Qf h;refine QP tOk [] 14 [] [0,1,3,7,0,16,48,127,255,0,512,1536,4095,8191] [] (aI b4 (aI b2 (aI a4 (aI a9 (aI a5 (aI a2 (aI a6 (aK ?_))))))));cases h;exact lfP []
       ·cases h
        exact lfP []
def Qai (a0:(List Bt)) (O:Bt):Option (Int):=
 bd (lp (σ:=Int) (β:=(Int⊕Unit)) (fun s1=>
(if(decide (s1<((a0.length:Nat):Int)))=true then
 gd ((0:Int)<=s1∧s1<((a0.length:Nat):Int))<|
 bd (ZI (a0.getD s1.toNat default)) fun G=>
(if(G==O)=true then
 some (.inr (.inl s1))
else
 some (.inl (IntKind.i64.wrap (s1+1))))
else
 some (.inr (.inr ())))) 0) fun J=>
(match J with
| .inl I=>
 some I
| .inr d8=>
 some (-1))
theorem Qff {a0:(List Bt)} {O:Bt} {r:Int} (h:Qai a0 O=some r):PureC prog 97 [.d (slD encSb a0),.d (.str O)] (dI r) []:=by
 refine pY tOk f97 rfl (Qc tOk ?_);obtain⟨x4,I,h⟩:=Qb h;refine QA tOk I (fun s1=>⟨0,20,[(0,.d (slD encSb a0)),(1,.d (.str O)),(5,dI s1)],[],[],[]⟩) ?_ ?_
 ·exact leX []
 ·clear I;intro s1 y2 G J;refine Qc tOk ?_;apply Qm G<;>intro _ G
  ·refine Qc tOk (gdI G fun G=>bC G 0 (fun _=>QaZ) fun x6 G=>?_);apply Qm G<;>intro _ G
   ·cases G
    cases J _ rfl
    cases h
    exact lfP []
   ·exact eX G []
  ·cases G
   cases J _ rfl
   cases h
   exact lfP []
def Zx (a0:(List Bt)) (G:Int):Option ((List Bt)):=
 gd ((0:Int)<=(0:Int)∧(0:Int)<=G∧G<=((a0.length:Nat):Int))<|
 gd (((0)+(G.toNat))*(16+1)<=70368744177664)<|
 gd ((0:Int)<=IntKind.i64.wrap (G+1)∧IntKind.i64.wrap (G+1)<=((a0.length:Nat):Int)∧((a0.length:Nat):Int)<=((a0.length:Nat):Int))<|
 gd ((((a0.take G.toNat).length)+((Qfg ((a0.length:Nat):Int) (IntKind.i64.wrap (G+1)))))*(16+1)<=70368744177664)<|
 some ((a0.take G.toNat)++(((a0).take ((IntKind.i64.wrap (G+1)).toNat+(Qfg ((a0.length:Nat):Int) (IntKind.i64.wrap (G+1))))).drop ((IntKind.i64.wrap (G+1)).toNat)))
theorem QcZ {a0:(List Bt)} {G:Int} {r:(List Bt)} (h:Zx a0 G=some r):PureC prog 99 [.d (slD encSb a0),dI G] (.osl 5001 0 r.length) [⟨5001,9,1,r.length,rows encSb r⟩]:=by
 refine pY tOk f99 rfl ?_;obtain⟨O,h⟩:=Qf h;obtain⟨I,h⟩:=Qf h;obtain⟨J,h⟩:=Qf h;refine QP tOk [] 9 [] [0,0,0,6,15,0,0,64,224] [511,1023] (aI ⟨O,.inr rfl⟩ (aI I (Qys (enc:=encSb) (ys:=a0.take G.toNat) (aI ⟨J,.inr rfl⟩ (aK (gdI h fun h=>QfK (enc:=encSb) (xs:=(a0.take G.toNat)) (ys:=((a0).take ((IntKind.i64.wrap (G+1)).toNat+(Qfg ((a0.length:Nat):Int) (IntKind.i64.wrap (G+1))))).drop ((IntKind.i64.wrap (G+1)).toNat)) ?_))))));cases h;exact lfP [.s [(9,5001),(5001,9)]]
def JJ (a0:(List Bt)) (I:Bt):Option ((List Bt)):=
 bd (lp (σ:=Int) (β:=(Int)) (fun s1=>
 gd ((decide (s1<((a0.length:Nat):Int)))=true->((0:Int)<=s1∧s1<((a0.length:Nat):Int)))<|
(if((decide (s1<((a0.length:Nat):Int)))&&(bsl (a0.getD s1.toNat default) I))=true then
 some (.inl (IntKind.i64.wrap (s1+1)))
else
 some (.inr s1))) 0) fun G=>
 gd ((0:Int)<=(0:Int)∧(0:Int)<=G∧G<=((a0.length:Nat):Int))<|
 gd (((0)+(G.toNat))*(16+1)<=70368744177664)<|
 gd ((((a0.take G.toNat).length)+(([I]:List Bt).length))*(16+1)<=70368744177664)<|
 gd ((0:Int)<=G∧G<=((a0.length:Nat):Int)∧((a0.length:Nat):Int)<=((a0.length:Nat):Int))<|
 gd (((((a0.take G.toNat)++([I]:List Bt)).length)+((Qfg ((a0.length:Nat):Int) G)))*(16+1)<=70368744177664)<|
 some (((a0.take G.toNat)++([I]:List Bt))++(((a0).take (G.toNat+(Qfg ((a0.length:Nat):Int) G))).drop G.toNat))
theorem Qfh {a0:(List Bt)} {G:Bt} {r:(List Bt)} (h:JJ a0 G=some r):PureC prog 100 [.d (slD encSb a0),.d (.str G)] (.osl 5001 0 r.length) [⟨5001,9,1,r.length,rows encSb r⟩]:=by
 refine pY tOk f100 rfl (Qc tOk ?_);obtain⟨x4,J,h⟩:=Qb h;refine QA tOk J (fun s1=>⟨0,32,[(0,.d (slD encSb a0)),(1,.d (.str G)),(5,dI s1)],[],[],[]⟩) ?_ ?_
 ·exact leX []
 ·clear J;intro s1 y2 I Y;refine Qc tOk (gdI I fun I=>?_);apply Qm I<;>intro _ I
  ·exact eX I []
  ·cases I
   obtain rfl:=Y _ rfl;obtain⟨g7,h⟩:=Qf h;obtain⟨g8,h⟩:=Qf h;obtain⟨g9,h⟩:=Qf h;obtain⟨U,h⟩:=Qf h;obtain⟨O,h⟩:=Qf h;refine Qaj tOk [.a 4 [] (.osl 24 0 ((a0.take s1.toNat).length)) [(24,.arr 9 1 ((a0.take s1.toNat).length) (rows encSb (a0.take s1.toNat)))],.a 7 [(24,.arr 9 1 ((a0.take s1.toNat).length) (rows encSb (a0.take s1.toNat)))] (.osl 27 0 (((a0.take s1.toNat)++([G]:List Bt)).length)) [(27,.arr 9 1 (((a0.take s1.toNat)++([G]:List Bt)).length) (rows encSb ((a0.take s1.toNat)++([G]:List Bt))))],.a 11 [(27,.arr 9 1 (((a0.take s1.toNat)++([G]:List Bt)).length) (rows encSb ((a0.take s1.toNat)++([G]:List Bt))))] (.osl 31 0 ((((a0.take s1.toNat)++([G]:List Bt))++(((a0).take (s1.toNat+(Qfg ((a0.length:Nat):Int) s1))).drop s1.toNat)).length)) [(31,.arr 9 1 ((((a0.take s1.toNat)++([G]:List Bt))++(((a0).take (s1.toNat+(Qfg ((a0.length:Nat):Int) s1))).drop s1.toNat)).length) (rows encSb (((a0.take s1.toNat)++([G]:List Bt))++(((a0).take (s1.toNat+(Qfg ((a0.length:Nat):Int) s1))).drop s1.toNat))))]] 13 [] [0,0,0,6,15,0,32,127,0,0,768,2047,4095] [] [] (aI ⟨g7,.inr rfl⟩ (aI (by(conv=>whnf);exact⟨g8,Qys (enc:=encSb) (ys:=a0.take s1.toNat) ⟨rfl,rfl⟩⟩) (Qbh (enc:=encSb) ([G]:List Bt) (aI (by(conv=>whnf);exact⟨g9,QfK (enc:=encSb) (xs:=(a0.take s1.toNat)) (ys:=([G]:List Bt)) ⟨rfl,rfl⟩⟩) (aI ⟨U,.inr rfl⟩ (aI (by(conv=>whnf);exact⟨O,QfK (enc:=encSb) (xs:=((a0.take s1.toNat)++([G]:List Bt))) (ys:=((a0).take (s1.toNat+(Qfg ((a0.length:Nat):Int) s1))).drop s1.toNat) ⟨rfl,rfl⟩⟩) (aK ?_)))))));cases h;exact lfP [.s [(31,5001),(5001,31)]]
def Qdd (a0:(List Bt)):Option ((List Bt)):=
 bd (lp (σ:=List Bt×Int) (β:=(Nat×(List Bt))) (fun s1=>
(if(decide (s1.2<((a0.length:Nat):Int)))=true then
 gd ((0:Int)<=s1.2∧s1.2<((a0.length:Nat):Int))<|
 bd (ZI (a0.getD s1.2.toNat default)) fun G=>
 gd (((s1.1.length)+(([G]:List Bt).length))*(16+1)<=70368744177664)<|
 some (.inl ((s1.1++([G]:List Bt)),IntKind.i64.wrap (s1.2+1)))
else
 some (.inr (s1.1.length,s1.1)))) (([]:List Bt),0)) fun I=>
 some I.2
theorem QlU {a0:(List Bt)} {r:(List Bt)} (h:Qdd a0=some r):PureC prog 86 [.d (slD encSb a0)] (.osl 5001 0 r.length) [⟨5001,9,1,r.length,rows encSb r⟩]:=by
 refine pY tOk f86 rfl (Qc tOk ?_);obtain⟨x4,I,h⟩:=Qb h;refine QA tOk I (fun s1=>⟨0,21,[(0,.d (slD encSb a0)),(3,.osl 7001 0 s1.1.length),(4,dI s1.2)],[],[(7001,.arr 9 1 s1.1.length (rows encSb s1.1))],[]⟩) ?_ ?_
 ·exact leX [.k [7001],.p 7001 9 1 (rows encSb ([]:List Bt))]
 ·clear I;intro s1 y2 G J;refine Qc tOk ?_;apply Qm G<;>intro _ G
  ·refine Qc tOk (gdI G fun G=>bC G 0 (fun _=>QaZ) fun O G=>Qbh (enc:=encSb) ([O]:List Bt) (gdI G fun G=>QfK (enc:=encSb) (xs:=s1.1) (ys:=([O]:List Bt)) ?_));exact eX G []
  ·cases G
   cases J _ rfl
   cases h
   exact lfP [.s [(5001,7001),(7001,5001)]]
def Q3 (a0:(List Bt)):Option (Int):=
(if(decide (((a0.length:Nat):Int)>16))=true then
 some 1
else
 bd (Qdd a0) fun J=>
 bd (lp (σ:=Int) (β:=(Unit⊕Unit)) (fun O=>
(if(decide (O<((a0.length:Nat):Int)))=true then
 gd ((0:Int)<=O∧O<((J.length:Nat):Int))<|
(if((J.getD O.toNat default)==(⟨#[]⟩:Bt))=true then
 some (.inr (.inl ()))
else
 some (.inl (IntKind.i64.wrap (O+1))))
else
 some (.inr (.inr ())))) 0) fun x5=>
(match x5 with
| .inl d7=>
 some 2
| .inr d8=>
 bd (lp (σ:=Int) (β:=(Unit⊕Unit)) (fun I=>
(if(decide (I<((a0.length:Nat):Int)))=true then
 gd ((0:Int)<=IntKind.i64.wrap (I-1)∧IntKind.i64.wrap (I-1)<((a0.length:Nat):Int))<|
 gd ((0:Int)<=I∧I<((a0.length:Nat):Int))<|
(if(!(bsl (a0.getD ((IntKind.i64.wrap (I-1)).toNat) default) (a0.getD I.toNat default)))=true then
 some (.inr (.inl ()))
else
 some (.inl (IntKind.i64.wrap (I+1))))
else
 some (.inr (.inr ())))) 1) fun Y=>
(match Y with
| .inl d15=>
 some 3
| .inr d16=>
 bd (lp (σ:=Int) (β:=(Unit⊕Unit)) (fun G=>
(if(decide (G<((a0.length:Nat):Int)))=true then
 gd ((0:Int)<=(0:Int)∧(0:Int)<=G∧G<=((J.length:Nat):Int))<|
 gd ((0:Int)<=G∧G<((J.length:Nat):Int))<|
 bd (QaH (J.take G.toNat) (J.getD G.toNat default)) fun U=>
(if U=true then
 some (.inr (.inl ()))
else
 some (.inl (IntKind.i64.wrap (G+1))))
else
 some (.inr (.inr ())))) 0) fun a1=>
(match a1 with
| .inl d24=>
 some 4
| .inr d25=>
 some 0))))
theorem ZJ {a0:(List Bt)} {r:Int} (h:Q3 a0=some r):PureC prog 38 [.d (slD encSb a0)] (dI r) []:=by
 refine pY tOk f38 rfl (Qc tOk ?_);apply Qm h<;>intro _ h
 ·cases h
  exact lfP []
 ·refine bC h 1000 (fun _=>QlU) fun O h=>Qc tOk ?_;obtain⟨x5,a5,h⟩:=Qb h;refine QA tOk a5 (fun s2=>⟨0,53,[(0,.d (slD encSb a0)),(3,.osl 6001 0 O.length),(4,dI s2)],[],[(6001,.arr 9 1 O.length (rows encSb O))],[]⟩) ?_ ?_
  ·exact leX []
  ·clear a5;intro s2 y3 J a6;refine Qc tOk ?_;apply Qm J<;>intro _ J
   ·refine Qc tOk (gdI J fun J=>?_);apply Qm J<;>intro _ J
    ·cases J
     cases a6 _ rfl
     cases h
     exact lfP []
    ·exact eX J []
   ·cases J
    cases a6 _ rfl
    refine Qc tOk ?_;obtain⟨x12,a1,h⟩:=Qb h;refine QA tOk a1 (fun s9=>⟨0,53,[(0,.d (slD encSb a0)),(3,.osl 6001 0 O.length),(5,dI s9)],[],[(6001,.arr 9 1 O.length (rows encSb O))],[]⟩) ?_ ?_
    ·exact leX []
    ·clear a1;intro s9 y10 I a2;refine Qc tOk ?_;apply Qm I<;>intro _ I
     ·refine Qc tOk ?_;obtain⟨a9,I⟩:=Qf I;obtain⟨a7,I⟩:=Qf I;refine QP tOk [] 10 [] [0,0,2,7,15,0,0,96,224,511] [] (aI a9 (aI a7 (aK ?_)));apply Qm I<;>intro _ I
      ·cases I
       cases a2 _ rfl
       cases h
       exact lfP []
      ·exact eX I []
     ·cases I
      cases a2 _ rfl
      refine Qc tOk ?_;obtain⟨x20,Y,h⟩:=Qb h;refine QA tOk Y (fun a3=>⟨0,53,[(0,.d (slD encSb a0)),(3,.osl 6001 0 O.length),(6,dI a3)],[],[(6001,.arr 9 1 O.length (rows encSb O))],[]⟩) ?_ ?_
      ·exact leX []
      ·clear Y;intro a3 y18 G U;refine Qc tOk ?_;apply Qm G<;>intro _ G
       ·refine Qc tOk ?_;obtain⟨b2,G⟩:=Qf G;obtain⟨a8,G⟩:=Qf G;obtain⟨b3,a4,G⟩:=Qb G;refine QP tOk [.u 7 0 (dB b3) []] 8 [] [0,0,3,0,0,24,56,127] [] (aI b2 (aI a8 (aI (QwP (QdS a4) rfl Qsw) (aK ?_))));apply Qm G<;>intro _ G
        ·cases G
         cases U _ rfl
         cases h
         exact lfP []
        ·exact eX G []
       ·cases G
        cases U _ rfl
        cases h
        exact lfP []
def Qde (a0:(List Bt)):Option ((List QAf)):=
 bd (lp (σ:=List QAf×Int) (β:=(Nat×(List QAf))) (fun s1=>
(if(decide (s1.2<((a0.length:Nat):Int)))=true then
 gd ((0:Int)<=s1.2∧s1.2<((a0.length:Nat):Int))<|
 bd (Z8 (a0.getD s1.2.toNat default)) fun G=>
 gd (((s1.1.length)+(([(⟨G.1⟩:QAf)]:List QAf).length))*(24+1)<=70368744177664)<|
 some (.inl ((s1.1++([(⟨G.1⟩:QAf)]:List QAf)),IntKind.i64.wrap (s1.2+1)))
else
 some (.inr (s1.1.length,s1.1)))) (([]:List QAf),0)) fun I=>
 some I.2
theorem QlV {a0:(List Bt)} {r:(List QAf)} (h:Qde a0=some r):EffC prog 39 [.d (slD encSb a0)] [] (.osl 5001 0 r.length) [(5001,.arr 101 1 r.length (rows QAf.enc r))]:=by
 refine eY tOk f39 rfl (Qc tOk ?_);obtain⟨x4,I,h⟩:=Qb h;refine QA tOk I (fun s1=>⟨0,28,[(0,.d (slD encSb a0)),(3,.osl 7001 0 s1.1.length),(4,dI s1.2)],[],[(7001,.arr 101 1 s1.1.length (rows QAf.enc s1.1))],[⟨[],[]⟩]⟩) ?_ ?_
 ·exact leX [.k [7001],.p 7001 101 1 (rows QAf.enc ([]:List QAf))]
 ·clear I;intro s1 y2 G J;refine Qc tOk ?_;apply Qm G<;>intro _ G
  ·refine Qc tOk (gdI G fun G=>bC G 1000 (fun _=>QbW) fun O G=>Qbh (enc:=QAf.enc) ([(⟨O.1⟩:QAf)]:List QAf) (gdI G fun G=>QfK (enc:=QAf.enc) (xs:=s1.1) (ys:=([(⟨O.1⟩:QAf)]:List QAf)) ?_));exact eX G []
  ·cases G
   cases J _ rfl
   cases h
   exact lfE [.s [(5001,7001),(7001,5001)]]
def Qg (a0:QAf) (G:Int):Option (Bt):=
(if(decide (G<((a0.w.length:Nat):Int)))=true then
 gd ((0:Int)<=G∧G<((a0.w.length:Nat):Int))<|
 some (a0.w.getD G.toNat default)
else
 some (⟨#[]⟩:Bt))
theorem Qj {a0:QAf} {G:Int} {r:Bt} (h:Qg a0 G=some r):PureC prog 89 [.agg [.d (slD encSb a0.w)],dI G] (.d (.str r)) []:=by
 refine pY tOk f89 rfl (Qc tOk ?_);apply Qm h<;>intro _ h
 ·refine gdI h fun h=>?_;cases h;exact lfP []
 ·cases h
  exact lfP []
def Qdf (a0:(List QAf)):Option (Bool):=
 bd (lp (σ:=Int) (β:=(Unit⊕Unit)) (fun s1=>
(if(decide (s1<((a0.length:Nat):Int)))=true then
 gd ((0:Int)<=s1∧s1<((a0.length:Nat):Int))<|
 bd (Qg (a0.getD s1.toNat default) 0) fun G=>
 gd ((G==(⟨#[117,115,101,114]⟩:Bt))=true->((0:Int)<=s1∧s1<((a0.length:Nat):Int)))<|
 bd (gcall ((G==(⟨#[117,115,101,114]⟩:Bt))=true) (Qg (a0.getD s1.toNat default) 2)) fun I=>
(if((G==(⟨#[117,115,101,114]⟩:Bt))&&(I==(⟨#[97,108,108]⟩:Bt)))=true then
 some (.inr (.inl ()))
else
 some (.inl (IntKind.i64.wrap (s1+1))))
else
 some (.inr (.inr ())))) 0) fun J=>
(match J with
| .inl d9=>
 some true
| .inr d10=>
 some false)
theorem QlW {a0:(List QAf)} {r:Bool} (h:Qdf a0=some r):PureC prog 40 [.d (slD QAf.enc a0)] (dB r) []:=by
 refine pY tOk f40 rfl (Qc tOk ?_);obtain⟨x4,I,h⟩:=Qb h;refine QA tOk I (fun s1=>⟨0,24,[(0,.d (slD QAf.enc a0)),(3,dI s1)],[],[],[]⟩) ?_ ?_
 ·exact leX []
 ·clear I;intro s1 y2 G J;refine Qc tOk ?_;apply Qm G<;>intro _ G
  ·refine Qc tOk (gdI G fun G=>bC G 0 (fun _=>Qj) fun x6 G=>gdI G fun G=>bG G (fun _=>Qj) fun x8 G=>?_);apply Qm G<;>intro _ G
   ·cases G
    cases J _ rfl
    cases h
    exact lfP []
   ·exact eX G []
  ·cases G
   cases J _ rfl
   cases h
   exact lfP []
def Qa0 (a0:(List QAf)) (O:Bt):Option (Int):=
 bd (lp (σ:=Int×Int) (β:=(Int)) (fun s1=>
(if(decide (s1.2<((a0.length:Nat):Int)))=true then
 gd ((0:Int)<=s1.2∧s1.2<((a0.length:Nat):Int))<|
 bd (Qg (a0.getD s1.2.toNat default) 0) fun G=>
 gd ((G==(⟨#[114,117,108,101]⟩:Bt))=true->((0:Int)<=s1.2∧s1.2<((a0.length:Nat):Int)))<|
 bd (gcall ((G==(⟨#[114,117,108,101]⟩:Bt))=true) (Qg (a0.getD s1.2.toNat default) 1)) fun J=>
(if((G==(⟨#[114,117,108,101]⟩:Bt))&&(J==O))=true then
 some (.inl (IntKind.i64.wrap (s1.1+1),IntKind.i64.wrap (s1.2+1)))
else
 some (.inl (s1.1,IntKind.i64.wrap (s1.2+1))))
else
 some (.inr s1.1))) (0,0)) fun I=>
 some I
theorem QgV {a0:(List QAf)} {J:Bt} {r:Int} (h:Qa0 a0 J=some r):PureC prog 90 [.d (slD QAf.enc a0),.d (.str J)] (dI r) []:=by
 refine pY tOk f90 rfl (Qc tOk ?_);obtain⟨x4,I,h⟩:=Qb h;refine QA tOk I (fun s1=>⟨0,31,[(0,.d (slD QAf.enc a0)),(1,.d (.str J)),(5,dI s1.1),(6,dI s1.2)],[],[],[]⟩) ?_ ?_
 ·exact leX []
 ·clear I;intro s1 y2 G O;refine Qc tOk ?_;apply Qm G<;>intro _ G
  ·refine Qc tOk (gdI G fun G=>bC G 0 (fun _=>Qj) fun x6 G=>gdI G fun G=>bG G (fun _=>Qj) fun x8 G=>?_);apply Qm G<;>intro _ G
   ·exact eX G []
   ·exact eX G []
  ·cases G
   cases O _ rfl
   cases h
   exact lfP []
def Qcm (a0:(List QAf)):Option (Bool):=
 bd (lp (σ:=Int) (β:=(Unit⊕Unit)) (fun s1=>
(if(decide (s1<((a0.length:Nat):Int)))=true then
 gd ((0:Int)<=s1∧s1<((a0.length:Nat):Int))<|
 bd (Qg (a0.getD s1.toNat default) 0) fun I=>
 gd ((I==(⟨#[112,111,114,116]⟩:Bt))=true->((0:Int)<=s1∧s1<((a0.length:Nat):Int)))<|
 bd (gcall ((I==(⟨#[112,111,114,116]⟩:Bt))=true) (Qg (a0.getD s1.toNat default) 4)) fun J=>
 gd (((I==(⟨#[112,111,114,116]⟩:Bt))&&(!(J==(⟨#[]⟩:Bt))))=true->((0:Int)<=s1∧s1<((a0.length:Nat):Int)))<|
 bd (gcall (((I==(⟨#[112,111,114,116]⟩:Bt))&&(!(J==(⟨#[]⟩:Bt))))=true) (Qg (a0.getD s1.toNat default) 4)) fun O=>
 bd (gcall (((I==(⟨#[112,111,114,116]⟩:Bt))&&(!(J==(⟨#[]⟩:Bt))))=true) (Qa0 a0 O)) fun a1=>
(if(((I==(⟨#[112,111,114,116]⟩:Bt))&&(!(J==(⟨#[]⟩:Bt))))&&(a1==0))=true then
 some (.inr (.inl ()))
else
 gd ((0:Int)<=s1∧s1<((a0.length:Nat):Int))<|
 bd (Qg (a0.getD s1.toNat default) 0) fun G=>
 gd ((G==(⟨#[114,117,108,101]⟩:Bt))=true->((0:Int)<=s1∧s1<((a0.length:Nat):Int)))<|
 bd (gcall ((G==(⟨#[114,117,108,101]⟩:Bt))=true) (Qg (a0.getD s1.toNat default) 1)) fun Y=>
 bd (gcall ((G==(⟨#[114,117,108,101]⟩:Bt))=true) (Qa0 a0 Y)) fun U=>
(if((G==(⟨#[114,117,108,101]⟩:Bt))&&(decide (U>12)))=true then
 some (.inr (.inl ()))
else
 some (.inl (IntKind.i64.wrap (s1+1)))))
else
 some (.inr (.inr ())))) 0) fun x4=>
(match x4 with
| .inl d17=>
 some false
| .inr d18=>
 some true)
theorem Qkw {a0:(List QAf)} {r:Bool} (h:Qcm a0=some r):PureC prog 41 [.d (slD QAf.enc a0)] (dB r) []:=by
 refine pY tOk f41 rfl (Qc tOk ?_);obtain⟨x4,J,h⟩:=Qb h;refine QA tOk J (fun s1=>⟨0,50,[(0,.d (slD QAf.enc a0)),(3,dI s1)],[],[],[]⟩) ?_ ?_
 ·exact leX []
 ·clear J;intro s1 y2 G I;refine Qc tOk ?_;apply Qm G<;>intro _ G
  ·refine Qc tOk (Qc tOk (gdI G fun G=>bC G 0 (fun _=>Qj) fun x6 G=>gdI G fun G=>bG G (fun _=>Qj) fun x8 G=>gdI G fun G=>bG G (fun _=>Qj) fun x10 G=>bG G (fun _=>QgV) fun x11 G=>?_));apply Qm G<;>intro _ G
   ·cases G
    cases I _ rfl
    cases h
    exact lfP []
   ·refine gdI G fun G=>bC G 0 (fun _=>Qj) fun x13 G=>gdI G fun G=>bG G (fun _=>Qj) fun x15 G=>bG G (fun _=>QgV) fun x16 G=>?_;apply Qm G<;>intro _ G
    ·cases G
     cases I _ rfl
     cases h
     exact lfP []
    ·exact eX G []
  ·cases G
   cases I _ rfl
   cases h
   exact lfP []
def Qcn (a0:(List QAf)):Option (Bool):=
 bd (lp (σ:=Int) (β:=(Unit⊕Unit)) (fun s1=>
(if(decide (s1<((a0.length:Nat):Int)))=true then
 bd (lp (σ:=Int) (β:=(Unit⊕Unit)) (fun G=>
(if(decide (G<s1))=true then
 gd ((0:Int)<=s1∧s1<((a0.length:Nat):Int))<|
 bd (Qg (a0.getD s1.toNat default) 0) fun I=>
 gd ((!(I==(⟨#[112,111,114,116]⟩:Bt)))=false->((0:Int)<=G∧G<((a0.length:Nat):Int)))<|
 bd (gcall ((!(I==(⟨#[112,111,114,116]⟩:Bt)))=false) (Qg (a0.getD G.toNat default) 0)) fun a1=>
(if((!(I==(⟨#[112,111,114,116]⟩:Bt)))||(!(a1==(⟨#[112,111,114,116]⟩:Bt))))=true then
 some (.inl (IntKind.i64.wrap (G+1)))
else
 gd ((0:Int)<=s1∧s1<((a0.length:Nat):Int))<|
 bd (Qg (a0.getD s1.toNat default) 2) fun U=>
 bd (Zs U) fun O=>
 gd ((0:Int)<=G∧G<((a0.length:Nat):Int))<|
 bd (Qg (a0.getD G.toNat default) 2) fun Y=>
 bd (Zs Y) fun J=>
(if((decide (O.1<(IntKind.i64.wrap (J.1+J.2))))&&(decide (J.1<(IntKind.i64.wrap (O.1+O.2)))))=true then
 some (.inr (.inl ()))
else
 some (.inl (IntKind.i64.wrap (G+1)))))
else
 some (.inr (.inr ())))) 0) fun x8=>
(match x8 with
| .inl d19=>
 some (.inr (.inl ()))
| .inr d20=>
 some (.inl (IntKind.i64.wrap (s1+1))))
else
 some (.inr (.inr ())))) 0) fun x4=>
(match x4 with
| .inl d21=>
 some false
| .inr d22=>
 some true)
theorem Qkx {a0:(List QAf)} {r:Bool} (h:Qcn a0=some r):PureC prog 42 [.d (slD QAf.enc a0)] (dB r) []:=by
 refine pY tOk f42 rfl (Qc tOk ?_);obtain⟨x4,J,h⟩:=Qb h;refine QA tOk J (fun s1=>⟨0,64,[(0,.d (slD QAf.enc a0)),(3,dI s1)],[],[],[]⟩) ?_ ?_
 ·exact leX []
 ·clear J;intro s1 y2 I U;refine Qc tOk ?_;apply Qm I<;>intro _ I
  ·refine Qc tOk ?_;obtain⟨x8,O,I⟩:=Qb I;refine QA tOk O (fun s5=>⟨0,64,[(0,.d (slD QAf.enc a0)),(3,dI s1),(4,dI s5)],[],[],[]⟩) ?_ ?_
   ·exact leX []
   ·clear O;intro s5 y6 G Y;refine Qc tOk ?_;apply Qm G<;>intro _ G
    ·refine Qc tOk (Qc tOk (gdI G fun G=>bC G 0 (fun _=>Qj) fun x10 G=>gdI G fun G=>bG G (fun _=>Qj) fun x12 G=>?_));apply Qm G<;>intro _ G
     ·exact eX G []
     ·refine gdI G fun G=>bC G 0 (fun _=>Qj) fun x14 G=>bC G 0 (fun _=>Qad) fun x15 G=>gdI G fun G=>bC G 0 (fun _=>Qj) fun x17 G=>bC G 0 (fun _=>Qad) fun x18 G=>?_;apply Qm G<;>intro _ G
      ·cases G
       cases Y _ rfl
       cases I
       cases U _ rfl
       cases h
       exact lfP []
      ·exact eX G []
    ·cases G
     cases Y _ rfl
     exact eX I []
  ·cases I
   cases U _ rfl
   cases h
   exact lfP []
def QbJ (a0:(List QAf)) (I:Int):Option (Bool):=
 bd (lp (σ:=Int) (β:=(Unit⊕Unit)) (fun s1=>
(if(decide (s1<((a0.length:Nat):Int)))=true then
 gd ((0:Int)<=s1∧s1<((a0.length:Nat):Int))<|
 bd (Qg (a0.getD s1.toNat default) 0) fun J=>
(if(J==(⟨#[112,111,114,116]⟩:Bt))=true then
 gd ((0:Int)<=s1∧s1<((a0.length:Nat):Int))<|
 bd (Qg (a0.getD s1.toNat default) 2) fun O=>
 bd (Zs O) fun G=>
(if((decide (I>G.1))&&(decide (I<(IntKind.i64.wrap (G.1+G.2)))))=true then
 some (.inr (.inl ()))
else
 some (.inl (IntKind.i64.wrap (s1+1))))
else
 some (.inl (IntKind.i64.wrap (s1+1))))
else
 some (.inr (.inr ())))) 0) fun U=>
(match U with
| .inl d10=>
 some true
| .inr d11=>
 some false)
theorem QgW {a0:(List QAf)} {O:Int} {r:Bool} (h:QbJ a0 O=some r):PureC prog 92 [.d (slD QAf.enc a0),dI O] (dB r) []:=by
 refine pY tOk f92 rfl (Qc tOk ?_);obtain⟨x4,I,h⟩:=Qb h;refine QA tOk I (fun s1=>⟨0,39,[(0,.d (slD QAf.enc a0)),(1,dI O),(5,dI s1)],[],[],[]⟩) ?_ ?_
 ·exact leX []
 ·clear I;intro s1 y2 G J;refine Qc tOk ?_;apply Qm G<;>intro _ G
  ·refine Qc tOk (gdI G fun G=>bC G 0 (fun _=>Qj) fun x6 G=>?_);apply Qm G<;>intro _ G
   ·refine gdI G fun G=>bC G 0 (fun _=>Qj) fun x8 G=>bC G 0 (fun _=>Qad) fun x9 G=>?_;apply Qm G<;>intro _ G
    ·cases G
     cases J _ rfl
     cases h
     exact lfP []
    ·exact eX G []
   ·exact eX G []
  ·cases G
   cases J _ rfl
   cases h
   exact lfP []
def Qco (a0:(List QAf)):Option (Bool):=
 bd (lp (σ:=Int) (β:=(Unit⊕Unit)) (fun s1=>
(if(decide (s1<((a0.length:Nat):Int)))=true then
 gd ((0:Int)<=s1∧s1<((a0.length:Nat):Int))<|
 bd (Qg (a0.getD s1.toNat default) 0) fun U=>
(if(U==(⟨#[114,111,117,116,101]⟩:Bt))=true then
 gd ((0:Int)<=s1∧s1<((a0.length:Nat):Int))<|
 bd (Qg (a0.getD s1.toNat default) 2) fun Y=>
 bd (Za Y) fun x9=>
 bd (QbJ a0 x9) fun I=>
(if(!I)=true then
 some (.inr (.inl ()))
else
 some (.inl (IntKind.i64.wrap (s1+1))))
else
(if(U==(⟨#[112,101,101,114]⟩:Bt))=true then
 gd ((0:Int)<=s1∧s1<((a0.length:Nat):Int))<|
 bd (Qg (a0.getD s1.toNat default) 1) fun J=>
 bd (Za J) fun O=>
 bd (QbJ a0 O) fun G=>
(if(!G)=true then
 some (.inr (.inl ()))
else
 some (.inl (IntKind.i64.wrap (s1+1))))
else
 some (.inl (IntKind.i64.wrap (s1+1)))))
else
 some (.inr (.inr ())))) 0) fun x4=>
(match x4 with
| .inl d15=>
 some false
| .inr d16=>
 some true)
theorem Qky {a0:(List QAf)} {r:Bool} (h:Qco a0=some r):PureC prog 43 [.d (slD QAf.enc a0)] (dB r) []:=by
 refine pY tOk f43 rfl (Qc tOk ?_);obtain⟨x4,J,h⟩:=Qb h;refine QA tOk J (fun s1=>⟨0,37,[(0,.d (slD QAf.enc a0)),(3,dI s1)],[],[],[]⟩) ?_ ?_
 ·exact leX []
 ·clear J;intro s1 y2 G I;refine Qc tOk ?_;apply Qm G<;>intro _ G
  ·refine Qc tOk (gdI G fun G=>bC G 0 (fun _=>Qj) fun x6 G=>?_);apply Qm G<;>intro _ G
   ·refine gdI G fun G=>bC G 0 (fun _=>Qj) fun x8 G=>bC G 0 (fun _=>Z0) fun x9 G=>bC G 0 (fun _=>QgW) fun x10 G=>?_;apply Qm G<;>intro _ G
    ·cases G
     cases I _ rfl
     cases h
     exact lfP []
    ·exact eX G []
   ·apply Qm G<;>intro _ G
    ·refine gdI G fun G=>bC G 0 (fun _=>Qj) fun x12 G=>bC G 0 (fun _=>Z0) fun x13 G=>bC G 0 (fun _=>QgW) fun x14 G=>?_;apply Qm G<;>intro _ G
     ·cases G
      cases I _ rfl
      cases h
      exact lfP []
     ·exact eX G []
    ·exact eX G []
  ·cases G
   cases I _ rfl
   cases h
   exact lfP []
def QdT (a0:(List QAf)):Option (Int):=
 bd (lp (σ:=Int) (β:=(Int⊕Unit)) (fun s1=>
(if(decide (s1<((a0.length:Nat):Int)))=true then
 gd ((0:Int)<=s1∧s1<((a0.length:Nat):Int))<|
 bd (Qg (a0.getD s1.toNat default) 0) fun G=>
(if(G==(⟨#[110,97,116]⟩:Bt))=true then
 some (.inr (.inl s1))
else
 some (.inl (IntKind.i64.wrap (s1+1))))
else
 some (.inr (.inr ())))) 0) fun I=>
(match I with
| .inl J=>
 some J
| .inr d8=>
 some (-1))
theorem Qm6 {a0:(List QAf)} {r:Int} (h:QdT a0=some r):PureC prog 94 [.d (slD QAf.enc a0)] (dI r) []:=by
 refine pY tOk f94 rfl (Qc tOk ?_);obtain⟨x4,I,h⟩:=Qb h;refine QA tOk I (fun s1=>⟨0,17,[(0,.d (slD QAf.enc a0)),(3,dI s1)],[],[],[]⟩) ?_ ?_
 ·exact leX []
 ·clear I;intro s1 y2 G J;refine Qc tOk ?_;apply Qm G<;>intro _ G
  ·refine Qc tOk (gdI G fun G=>bC G 0 (fun _=>Qj) fun x6 G=>?_);apply Qm G<;>intro _ G
   ·cases G
    cases J _ rfl
    cases h
    exact lfP []
   ·exact eX G []
  ·cases G
   cases J _ rfl
   cases h
   exact lfP []
def Qdg (a0:(List QAf)) (a1:Int) (a2:QAf):Option (Bool):=
 gd ((0:Int)<=a1∧a1<((a0.length:Nat):Int))<|
 bd (Qg a2 1) fun x2=>
 bd (Zs x2) fun I=>
 bd (Qg (a0.getD a1.toNat default) 3) fun x4=>
 bd (Za x4) fun Y=>
 bd (gcall (((decide (Y<I.1))||(decide (Y>=(IntKind.i64.wrap (I.1+I.2)))))=false) (Qg (a0.getD a1.toNat default) 2)) fun x6=>
 bd (gcall (((decide (Y<I.1))||(decide (Y>=(IntKind.i64.wrap (I.1+I.2)))))=false) (Qg a2 3)) fun x7=>
 bd (gcall (((decide (Y<I.1))||(decide (Y>=(IntKind.i64.wrap (I.1+I.2)))))=false) (ZO x7)) fun x8=>
 bd (gcall (((decide (Y<I.1))||(decide (Y>=(IntKind.i64.wrap (I.1+I.2)))))=false) (Qg a2 4)) fun x9=>
 bd (gcall (((decide (Y<I.1))||(decide (Y>=(IntKind.i64.wrap (I.1+I.2)))))=false) (ZO x9)) fun a7=>
 bd (gcall (((decide (Y<I.1))||(decide (Y>=(IntKind.i64.wrap (I.1+I.2)))))=false) (Ze x6 x8 a7)) fun a9=>
(if(((decide (Y<I.1))||(decide (Y>=(IntKind.i64.wrap (I.1+I.2)))))||a9)=true then
 some false
else
 bd (lp (σ:=Int) (β:=(Unit⊕Unit)) (fun G=>
(if(decide (G<a1))=true then
 gd ((0:Int)<=G∧G<((a0.length:Nat):Int))<|
 bd (Qg (a0.getD G.toNat default) 0) fun J=>
 gd ((J==(⟨#[100,111,111,114]⟩:Bt))=true->((0:Int)<=G∧G<((a0.length:Nat):Int)))<|
 bd (gcall ((J==(⟨#[100,111,111,114]⟩:Bt))=true) (Qg (a0.getD G.toNat default) 1)) fun U=>
 bd (gcall ((J==(⟨#[100,111,111,114]⟩:Bt))=true) (Qg (a0.getD a1.toNat default) 1)) fun O=>
 gd (((J==(⟨#[100,111,111,114]⟩:Bt))&&(U==O))=true->((0:Int)<=G∧G<((a0.length:Nat):Int)))<|
 bd (gcall (((J==(⟨#[100,111,111,114]⟩:Bt))&&(U==O))=true) (Qg (a0.getD G.toNat default) 3)) fun a4=>
 bd (gcall (((J==(⟨#[100,111,111,114]⟩:Bt))&&(U==O))=true) (Qg (a0.getD a1.toNat default) 3)) fun a3=>
 gd ((((J==(⟨#[100,111,111,114]⟩:Bt))&&(U==O))&&(a4==a3))=true->((0:Int)<=G∧G<((a0.length:Nat):Int)))<|
 bd (gcall ((((J==(⟨#[100,111,111,114]⟩:Bt))&&(U==O))&&(a4==a3))=true) (Qg (a0.getD G.toNat default) 4)) fun a5=>
 bd (gcall ((((J==(⟨#[100,111,111,114]⟩:Bt))&&(U==O))&&(a4==a3))=true) (Qg (a0.getD a1.toNat default) 4)) fun a8=>
(if((((J==(⟨#[100,111,111,114]⟩:Bt))&&(U==O))&&(a4==a3))&&(a5==a8))=true then
 some (.inr (.inl ()))
else
 some (.inl (IntKind.i64.wrap (G+1))))
else
 some (.inr (.inr ())))) 0) fun a6=>
(match a6 with
| .inl d27=>
 some false
| .inr d28=>
 some true))
theorem QlX {a0:(List QAf)} {a1:Int} {a2:QAf} {r:Bool} (h:Qdg a0 a1 a2=some r):PureC prog 95 [.d (slD QAf.enc a0),dI a1,.agg [.d (slD encSb a2.w)]] (dB r) []:=by
 refine pY tOk f95 rfl (gdI h fun h=>bC h 0 (fun _=>Qj) fun x2 h=>bC h 0 (fun _=>Qad) fun x3 h=>bC h 0 (fun _=>Qj) fun x4 h=>bC h 0 (fun _=>Z0) fun x5 h=>Qc tOk ?_);obtain⟨x6,b7,h⟩:=Qb h;obtain⟨x7,c2,h⟩:=Qb h;obtain⟨x8,b5,h⟩:=Qb h;obtain⟨x9,b8,h⟩:=Qb h;obtain⟨c3,Y,h⟩:=Qb h;obtain⟨d0,b2,h⟩:=Qb h;refine QP tOk [.u 12 0 (.d (.str x6)) [],.u 14 0 (.d (.str x7)) [],.u 15 0 (dI x8) [],.u 17 0 (.d (.str x9)) [],.u 18 0 (dI c3) [],.u 19 0 (dB d0) []] 21 [] [0,0,3,7,15,15,15,111,255,511,1023,2047,4095,2047,16383,32767,2047,131071,262143,524287,1048575] [] (aI (Qs rfl rfl rfl rfl (by intro I;exact Qj (Qn b7 I))) (aI (Qs rfl rfl rfl rfl (by intro I;exact Qj (Qn c2 I))) (aI (Qs rfl rfl rfl rfl (by intro I;exact Qag (Qn b5 I))) (aI (Qs rfl rfl rfl rfl (by intro I;exact Qj (Qn b8 I))) (aI (Qs rfl rfl rfl rfl (by intro I;exact Qag (Qn Y I))) (aI (Qs rfl rfl rfl rfl (by intro I;exact ZF (Qn b2 I))) (aK ?_)))))));apply Qm h<;>intro _ h
 ·cases h
  exact lfP []
 ·refine Qc tOk ?_;obtain⟨x15,J,h⟩:=Qb h;refine QA tOk J (fun U=>⟨0,87,[(0,.d (slD QAf.enc a0)),(1,dI a1),(7,.ref 7 0 0),(11,dI U)],[],[(7,.box 101 [.d (slD encSb ((a0.getD a1.toNat default).w))])],[]⟩) ?_ ?_
  ·exact leX []
  ·clear J;intro U y13 G O;refine Qc tOk ?_;apply Qm G<;>intro _ G
   ·refine Qc tOk ?_;obtain⟨c8,G⟩:=Qf G;obtain⟨b4,a7,G⟩:=Qb G;obtain⟨c9,G⟩:=Qf G;obtain⟨c6,a8,G⟩:=Qb G;obtain⟨b9,a4,G⟩:=Qb G;obtain⟨c1,G⟩:=Qf G;obtain⟨c5,a6,G⟩:=Qb G;obtain⟨c4,a3,G⟩:=Qb G;obtain⟨b6,G⟩:=Qf G;obtain⟨b3,a9,G⟩:=Qb G;obtain⟨c7,a5,G⟩:=Qb G;refine QP tOk [.u 4 0 (.d (.str b4)) [],.u 11 0 (.d (.str c6)) [],.u 13 0 (.d (.str b9)) [],.u 21 0 (.d (.str c5)) [],.u 23 0 (.d (.str c4)) [],.u 31 0 (.d (.str b3)) [],.u 33 0 (.d (.str c7)) []] 36 [] [0,0,3,7,15,31,63,127,127,511,1023,2047,127,8191,16383,32767,65535,131071,131071,524287,1048575,2097151,131071,8388607,16777215,33554431,67108863,134217727,134217727,536870911,1073741823,2147483647,134217727,8589934591,17179869183,34359738367] [] (aI c8 (aI (QB (Qj a7) (by kernel_rfl)) (aI c9 (aI (Qs rfl rfl rfl rfl (by intro I;exact Qj (Qn a8 I))) (aI (Qs rfl rfl rfl rfl (by intro I;exact Qj (Qn a4 I))) (aI c1 (aI (Qs rfl rfl rfl rfl (by intro I;exact Qj (Qn a6 I))) (aI (Qs rfl rfl rfl rfl (by intro I;exact Qj (Qn a3 I))) (aI b6 (aI (Qs rfl rfl rfl rfl (by intro I;exact Qj (Qn a9 I))) (aI (Qs rfl rfl rfl rfl (by intro I;exact Qj (Qn a5 I))) (aK ?_))))))))))));apply Qm G<;>intro _ G
    ·cases G
     cases O _ rfl
     cases h
     exact lfP []
    ·exact eX G []
   ·cases G
    cases O _ rfl
    cases h
    exact lfP []
def Qav (a0:(List QAf)):Option (Bool):=
 bd (QdT a0) fun J=>
 bd (lp (σ:=Int×Int) (β:=(Unit⊕Int)) (fun U=>
(if(decide (U.2<((a0.length:Nat):Int)))=true then
 gd ((0:Int)<=U.2∧U.2<((a0.length:Nat):Int))<|
 bd (Qg (a0.getD U.2.toNat default) 0) fun x7=>
(if(!(x7==(⟨#[100,111,111,114]⟩:Bt)))=true then
 some (.inl (U.1,IntKind.i64.wrap (U.2+1)))
else
 gd ((decide (J<0))=false->((0:Int)<=J∧J<((a0.length:Nat):Int)))<|
 bd (gcall ((decide (J<0))=false) (Qdg a0 U.2 (a0.getD J.toNat default))) fun x9=>
(if((decide (J<0))||(!x9))=true then
 some (.inr (.inl ()))
else
 some (.inl (IntKind.i64.wrap (U.1+1),IntKind.i64.wrap (U.2+1)))))
else
 some (.inr (.inr U.1)))) (0,0)) fun x5=>
(match x5 with
| .inl d10=>
 some false
| .inr O=>
(if(decide (J<0))=true then
 some true
else
 gd ((0:Int)<=J∧J<((a0.length:Nat):Int))<|
 bd (Qg (a0.getD J.toNat default) 1) fun a4=>
 bd (Zs a4) fun G=>
 gd ((0:Int)<=J∧J<((a0.length:Nat):Int))<|
 bd (Qg (a0.getD J.toNat default) 2) fun a2=>
 bd (Za a2) fun I=>
 gd (((decide (O<=6))&&((decide (I<G.1))||(decide (I>=(IntKind.i64.wrap (G.1+G.2))))))=true->((0:Int)<=J∧J<((a0.length:Nat):Int)))<|
 bd (gcall (((decide (O<=6))&&((decide (I<G.1))||(decide (I>=(IntKind.i64.wrap (G.1+G.2))))))=true) (Qg (a0.getD J.toNat default) 3)) fun Y=>
 bd (gcall (((decide (O<=6))&&((decide (I<G.1))||(decide (I>=(IntKind.i64.wrap (G.1+G.2))))))=true) (ZO Y)) fun a5=>
 gd (((decide (O<=6))&&((decide (I<G.1))||(decide (I>=(IntKind.i64.wrap (G.1+G.2))))))=true->((0:Int)<=J∧J<((a0.length:Nat):Int)))<|
 bd (gcall (((decide (O<=6))&&((decide (I<G.1))||(decide (I>=(IntKind.i64.wrap (G.1+G.2))))))=true) (Qg (a0.getD J.toNat default) 4)) fun a3=>
 bd (gcall (((decide (O<=6))&&((decide (I<G.1))||(decide (I>=(IntKind.i64.wrap (G.1+G.2))))))=true) (ZO a3)) fun a1=>
 some (((decide (O<=6))&&((decide (I<G.1))||(decide (I>=(IntKind.i64.wrap (G.1+G.2))))))&&(decide (a5<=a1)))))
theorem QgT {a0:(List QAf)} {r:Bool} (h:Qav a0=some r):PureC prog 44 [.d (slD QAf.enc a0)] (dB r) []:=by
 refine pY tOk f44 rfl (bC h 0 (fun _=>Qm6) fun x1 h=>Qc tOk ?_);obtain⟨x5,U,h⟩:=Qb h;refine QA tOk U (fun s2=>⟨0,83,[(0,.d (slD QAf.enc a0)),(3,dI x1),(4,dI s2.1),(5,dI s2.2)],[],[],[]⟩) ?_ ?_
 ·exact leX []
 ·clear U;intro s2 y3 G a2;refine Qc tOk ?_;apply Qm G<;>intro _ G
  ·refine Qc tOk (Qc tOk (gdI G fun G=>bC G 0 (fun _=>Qj) fun x7 G=>?_));apply Qm G<;>intro _ G
   ·exact eX G []
   ·refine gdI G fun G=>bG G (fun _=>QlX) fun x9 G=>?_;apply Qm G<;>intro _ G
    ·cases G
     cases a2 _ rfl
     cases h
     exact lfP []
    ·exact eX G []
  ·cases G
   cases a2 _ rfl
   refine Qc tOk ?_;apply Qm h<;>intro _ h
   ·cases h
    exact lfP []
   ·refine gdI h fun h=>bC h 0 (fun _=>Qj) fun x13 h=>bC h 0 (fun _=>Qad) fun x14 h=>gdI h fun h=>bC h 0 (fun _=>Qj) fun x16 h=>bC h 0 (fun _=>Z0) fun x17 h=>?_;obtain⟨a8,h⟩:=Qf h;obtain⟨a7,a1,h⟩:=Qb h;obtain⟨a3,O,h⟩:=Qb h;obtain⟨a4,h⟩:=Qf h;obtain⟨a6,Y,h⟩:=Qb h;obtain⟨a5,J,h⟩:=Qb h;refine QP tOk [.u 19 0 (.d (.str a7)) [],.u 20 0 (dI a3) [],.u 25 0 (.d (.str a6)) [],.u 26 0 (dI a5) []] 30 [] [0,1,3,7,7,31,63,127,127,127,895,2047,4095,8191,16383,32767,32767,131071,262143,524287,1048575,32767,32767,6324223,14712831,33554431,67108863,134217727,268435455,536870911] [] (aI a8 (aI (Qs rfl rfl rfl rfl (by intro I;exact Qj (Qn a1 I))) (aI (Qs rfl rfl rfl rfl (by intro I;exact Qag (Qn O I))) (aI a4 (aI (Qs rfl rfl rfl rfl (by intro I;exact Qj (Qn Y I))) (aI (Qs rfl rfl rfl rfl (by intro I;exact Qag (Qn J I))) (aK ?_)))))));cases h;exact lfP []
def Zt (a0:(List Bt)):Option (Int):=
 bd (Q3 a0) fun I=>
(if(I !=0)=true then
 some I
else
 bd (Qde a0) fun G=>
 bd (Qdf G) fun x3=>
(if(!x3)=true then
 some 5
else
 bd (Qcm G) fun U=>
(if(!U)=true then
 some 6
else
 bd (Qcn G) fun O=>
(if(!O)=true then
 some 7
else
 bd (Qco G) fun J=>
(if(!J)=true then
 some 8
else
 bd (Qav G) fun Y=>
(if(!Y)=true then
 some 9
else
 some 0))))))
theorem QaR {a0:(List Bt)} {r:Int} (h:Zt a0=some r):PureC prog 12 [.d (slD encSb a0)] (dI r) []:=by
 refine pY tOk f12 rfl (bC h 0 (fun _=>ZJ) fun x1 h=>Qc tOk ?_);apply Qm h<;>intro _ h
 ·cases h
  exact lfP []
 ·refine bE h [] 1000 (fun _=>QlV) fun x2 h=>Qc tOk (bC h 0 (fun _=>QlW) fun x3 h=>?_);apply Qm h<;>intro _ h
  ·cases h
   exact lfP []
  ·refine bC h 0 (fun _=>Qkw) fun x4 h=>?_;apply Qm h<;>intro _ h
   ·cases h
    exact lfP []
   ·refine bC h 0 (fun _=>Qkx) fun x5 h=>?_;apply Qm h<;>intro _ h
    ·cases h
     exact lfP []
    ·refine bC h 0 (fun _=>Qky) fun x6 h=>?_;apply Qm h<;>intro _ h
     ·cases h
      exact lfP []
     ·refine bC h 0 (fun _=>QgT) fun x7 h=>?_;apply Qm h<;>intro _ h
      ·cases h
       exact lfP []
      ·cases h
       exact lfP []
def QaI (a0:(List Bt)) (I:Bt):Option ((List Bt)):=
 bd (ZI I) fun Y=>
 bd (Qai a0 Y) fun J=>
 bd (α:=List Bt) ((if(decide (J>=0))=true then
 bd (Zx a0 J) fun O=>
 some O
else
 some a0)) fun x3=>
 bd (JJ x3 I) fun G=>
 bd (Zt G) fun U=>
(if(U==0)=true then
 some G
else
 some a0)
theorem QdU {a0:(List Bt)} {J:Bt} {r:(List Bt)} (h:QaI a0 J=some r):EffC prog 46 [.d (slD encSb a0),.d (.str J)] [] (.d (slD encSb r)) []:=by
 refine eY tOk f46 rfl (bC h 0 (fun _=>QaZ) fun x1 h=>bC h 0 (fun _=>Qff) fun x2 h=>?_);obtain⟨O,G,h⟩:=Qb h;refine Zo tOk (fun I=>⟨0,25,[(0,.d (slD encSb a0)),(1,.d (.str J)),(5,.d (slD encSb I))],[],[],[⟨[],[]⟩]⟩) (fun I=>O=I) ?_ ?_
 ·apply Qm G<;>intro _ G
  ·refine bC G 1000 (fun _=>QcZ) fun x6 G=>?_;exact eZ G [.f [6001]]
  ·exact eZ G []
 ·rintro _ rfl;refine bC h 1000 (fun _=>Qfh) fun x7 h=>Qc tOk (bC h 0 (fun _=>QaR) fun x8 h=>?_);apply Qm h<;>intro _ h
  ·cases h
   exact lfE [.f [6001]]
  ·cases h
   exact lfE []
def Qu (a0:QAe) (I:(List Bt)):Option (Bt×QAe):=
 bd (Ql a0 ((I.length:Nat):Int)) fun G=>
 gd ((0:Int)<=G.1∧G.1<((I.length:Nat):Int))<|
 some ((I.getD G.1.toNat default),(⟨a0.b,G.2.p⟩:QAe))
theorem QD {a0:QAe} {G:(List Bt)} {r:Bt×QAe} (h:Qu a0 G=some r):EffC prog 47 [.ref 9000 0 0,.d (slD encSb G)] [(9000,.box 76 [.d (slD Qq a0.b),dI a0.p])] (.d (.str r.1)) [(9000,.box 76 [.d (slD Qq a0.b),dI r.2.p])]:=by
 refine eY tOk f47 rfl (bE h [(9000,9000)] 0 (fun _=>Qp) fun x1 h=>gdI h fun h=>?_);cases h;exact lfE []
def JA (a0:QAe):Option (Bt×QAe):=
 bd (Qu a0 ([(⟨#[49,48,46,48,47,56]⟩:Bt),(⟨#[49,48,46,48,47,49,54]⟩:Bt),(⟨#[49,48,46,49,50,56,47,57]⟩:Bt),(⟨#[49,49,46,48,47,56]⟩:Bt),(⟨#[48,46,48,47,48]⟩:Bt),(⟨#[49,49,46,52,47,49,54]⟩:Bt),(⟨#[50,48,48,46,48,47,49,53]⟩:Bt),(⟨#[50,48,48,46,48,47,57]⟩:Bt)]:List Bt)) fun G=>
 some (G.1,(⟨a0.b,G.2.p⟩:QAe))
theorem QbY {a0:QAe} {r:Bt×QAe} (h:JA a0=some r):EffC prog 101 [.ref 9000 0 0] [(9000,.box 76 [.d (slD Qq a0.b),dI a0.p])] (.d (.str r.1)) [(9000,.box 76 [.d (slD Qq a0.b),dI r.2.p])]:=by
 refine eY tOk f101 rfl (Qbh (enc:=encSb) ([(⟨#[49,48,46,48,47,56]⟩:Bt),(⟨#[49,48,46,48,47,49,54]⟩:Bt),(⟨#[49,48,46,49,50,56,47,57]⟩:Bt),(⟨#[49,49,46,48,47,56]⟩:Bt),(⟨#[48,46,48,47,48]⟩:Bt),(⟨#[49,49,46,52,47,49,54]⟩:Bt),(⟨#[50,48,48,46,48,47,49,53]⟩:Bt),(⟨#[50,48,48,46,48,47,57]⟩:Bt)]:List Bt) ?_);obtain⟨x1,G,h⟩:=Qb h;refine Zl [4] (cE [(9000,9000)] 0 (QD G) ?_);cases h;exact lfE []
def Qa1 (a0:QAe):Option (Bt×QAe):=
 bd (Qu a0 ([(⟨#[49,48,46,49]⟩:Bt),(⟨#[49,48,46,50]⟩:Bt),(⟨#[49,49,46,52]⟩:Bt),(⟨#[50,48,48,46,49]⟩:Bt),(⟨#[48,46,48]⟩:Bt),(⟨#[50,53,53,46,50,53,53]⟩:Bt)]:List Bt)) fun G=>
 some (G.1,(⟨a0.b,G.2.p⟩:QAe))
theorem QeF {a0:QAe} {r:Bt×QAe} (h:Qa1 a0=some r):EffC prog 102 [.ref 9000 0 0] [(9000,.box 76 [.d (slD Qq a0.b),dI a0.p])] (.d (.str r.1)) [(9000,.box 76 [.d (slD Qq a0.b),dI r.2.p])]:=by
 refine eY tOk f102 rfl (Qbh (enc:=encSb) ([(⟨#[49,48,46,49]⟩:Bt),(⟨#[49,48,46,50]⟩:Bt),(⟨#[49,49,46,52]⟩:Bt),(⟨#[50,48,48,46,49]⟩:Bt),(⟨#[48,46,48]⟩:Bt),(⟨#[50,53,53,46,50,53,53]⟩:Bt)]:List Bt) ?_);obtain⟨x1,G,h⟩:=Qb h;refine Zl [4] (cE [(9000,9000)] 0 (QD G) ?_);cases h;exact lfE []
end
end Go.Proofs.YtoknnjiangjccaaGreatDoor
