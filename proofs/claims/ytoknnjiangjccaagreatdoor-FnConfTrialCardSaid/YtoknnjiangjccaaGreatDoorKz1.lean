/-
  What some of the program's functions compute: their models, and that the functions compute these; no condition.
-/
import Derived.Test.YtoknnjiangjccaaGreatDoorTyz
import Derived.Test.YtoknnjiangjccaaGreatDoorTbz
import Derived.Test.YtoknnjiangjccaaGreatDoorLayz
import Derived.Test.YtoknnjiangjccaaGreatDoorLay4z
import Derived.Test.YtoknnjiangjccaaGreatDoorAbz8
import Derived.BigCall
import Derived.BigGuard
import Derived.BigQuiet
import Derived.Deep.QuietTactic
import Derived.Maps.OwnSet
import Derived.StringKeys
import Derived.WalkKit
set_option linter.all false
namespace Go.Proofs.YtoknnjiangjccaaGreatDoor
open Go Go.Ab Tryz
set_option maxRecDepth 100000
set_option maxHeartbeats 40000000
noncomputable section
def Qc9 (a0:(List Int)):Option (QAp):=
(if(decide (((a0.length:Nat):Int)>2000))=true then
 gd ((0:Int)<=(0:Int)∧(0:Int)<=(2000:Int)∧(2000:Int)<=((a0.length:Nat):Int))<|
 some (⟨a0.take ((2000:Int).toNat),0⟩:QAp)
else
 some (⟨a0,0⟩:QAp))
theorem QlO {a0:(List Int)} {r:QAp} (h:Qc9 a0=some r):EffC prog 18 [.d (slD Qt a0)] [] (.ref 5001 0 0) [(5001,.box 76 [.d (slD Qt r.b),dI r.p])]:=by
 refine eY tOk f18 rfl (Qc tOk ?_);apply Qo h<;>intro _ h
 ·obtain⟨G,h⟩:=Qf h;refine aI ⟨G,.inr rfl⟩ ?_;cases h;exact lfE [.s [(10,5001),(5001,10)]]
 ·cases h
  exact lfE [.s [(10,5001),(5001,10)]]
def Ql (a0:QAp) (G:Int):Option (Int×QAp):=
(if((decide (G<1))||(((a0.b.length:Nat):Int)==0))=true then
 some (0,(⟨a0.b,IntKind.i64.wrap (a0.p+1)⟩:QAp))
else
(if(decide ((IntKind.i64.wrap ((IntKind.i64.wrap (a0.p+1)) -1))<((a0.b.length:Nat):Int)))=true then
 gd ((0:Int)<=IntKind.i64.wrap ((IntKind.i64.wrap (a0.p+1)) -1)∧IntKind.i64.wrap ((IntKind.i64.wrap (a0.p+1)) -1)<((a0.b.length:Nat):Int))<|
 gd ((G:Int)≠0)<|
 some (((IntKind.i64.wrap (a0.b.getD ((IntKind.i64.wrap ((IntKind.i64.wrap (a0.p+1)) -1)).toNat) default):Int).tmod G),(⟨a0.b,IntKind.i64.wrap (a0.p+1)⟩:QAp))
else
 gd ((((a0.b.length:Nat):Int):Int)≠0)<|
 gd ((0:Int)<=((IntKind.i64.wrap ((IntKind.i64.wrap (a0.p+1)) -1):Int).tmod ((a0.b.length:Nat):Int))∧((IntKind.i64.wrap ((IntKind.i64.wrap (a0.p+1)) -1):Int).tmod ((a0.b.length:Nat):Int))<((a0.b.length:Nat):Int))<|
 gd ((((a0.b.length:Nat):Int):Int)≠0)<|
 gd ((0:Int)<=((IntKind.i64.wrap ((IntKind.i64.wrap ((IntKind.i64.wrap ((IntKind.i64.wrap (a0.p+1)) -1))*7))+3):Int).tmod ((a0.b.length:Nat):Int))∧((IntKind.i64.wrap ((IntKind.i64.wrap ((IntKind.i64.wrap ((IntKind.i64.wrap (a0.p+1)) -1))*7))+3):Int).tmod ((a0.b.length:Nat):Int))<((a0.b.length:Nat):Int))<|
 gd ((((a0.b.length:Nat):Int):Int)≠0)<|
 gd ((64:Int)≠0)<|
 gd ((G:Int)≠0)<|
 some ((((bits .xor .i64 (IntKind.i64.wrap ((IntKind.i64.wrap ((IntKind.i64.wrap ((IntKind.i64.wrap ((IntKind.i64.wrap (a0.b.getD (((IntKind.i64.wrap ((IntKind.i64.wrap (a0.p+1)) -1):Int).tmod ((a0.b.length:Nat):Int)).toNat) default))*131))+(IntKind.i64.wrap ((IntKind.i64.wrap (a0.b.getD (((IntKind.i64.wrap ((IntKind.i64.wrap ((IntKind.i64.wrap ((IntKind.i64.wrap (a0.p+1)) -1))*7))+3):Int).tmod ((a0.b.length:Nat):Int)).toNat) default))*1117))))+(IntKind.i64.wrap ((IntKind.i64.wrap ((IntKind.i64.wrap (a0.p+1)) -1))*29))))+(IntKind.i64.wrap ((IntKind.i64.wrap ((IntKind.i64.wrap ((IntKind.i64.wrap (a0.p+1)) -1):Int).tdiv ((a0.b.length:Nat):Int)))*53)))) (IntKind.i64.wrap ((IntKind.i64.wrap ((IntKind.i64.wrap ((IntKind.i64.wrap ((IntKind.i64.wrap ((IntKind.i64.wrap (a0.b.getD (((IntKind.i64.wrap ((IntKind.i64.wrap (a0.p+1)) -1):Int).tmod ((a0.b.length:Nat):Int)).toNat) default))*131))+(IntKind.i64.wrap ((IntKind.i64.wrap (a0.b.getD (((IntKind.i64.wrap ((IntKind.i64.wrap ((IntKind.i64.wrap ((IntKind.i64.wrap (a0.p+1)) -1))*7))+3):Int).tmod ((a0.b.length:Nat):Int)).toNat) default))*1117))))+(IntKind.i64.wrap ((IntKind.i64.wrap ((IntKind.i64.wrap (a0.p+1)) -1))*29))))+(IntKind.i64.wrap ((IntKind.i64.wrap ((IntKind.i64.wrap ((IntKind.i64.wrap (a0.p+1)) -1):Int).tdiv ((a0.b.length:Nat):Int)))*53))):Int).tdiv 64))):Int).tmod G),(⟨a0.b,IntKind.i64.wrap (a0.p+1)⟩:QAp))))
theorem Qq {a0:QAp} {G:Int} {r:Int×QAp} (h:Ql a0 G=some r):EffC prog 21 [.ref 9000 0 0,dI G] [(9000,.box 76 [.d (slD Qt a0.b),dI a0.p])] (dI r.1) [(9000,.box 76 [.d (slD Qt a0.b),dI r.2.p])]:=by
 refine eY tOk f21 rfl (Qc tOk ?_);apply Qo h<;>intro _ h
 ·cases h
  exact lfE []
 ·refine Qc tOk ?_;apply Qo h<;>intro _ h
  ·refine gdI h fun h=>gdI h fun h=>?_;cases h;exact lfE []
  ·obtain⟨O,h⟩:=Qf h;obtain⟨U,h⟩:=Qf h;obtain⟨Y,h⟩:=Qf h;obtain⟨J,h⟩:=Qf h;obtain⟨I,h⟩:=Qf h;refine QW tOk [] 46 [] [0,1,3,7,0,0,32,96,224,480,1008,2047,4095,8191,16383,0,32768,98304,229376,0,524288,1572864,0,4194304,12582912,29360128,62914560,133693440,268402688,536838144,1073709056,2147450880,4294967295,0,8589934592,34359738367,0,0,137438953472,412316860416,962072674304,2061584302080,4329327034368,8727373545472,17592186044415,35184372088831] [] (aI O (aI U (aI Y (aI J (aI I (aK (gdI h fun h=>gdI h fun h=>?_)))))));cases h;exact lfE []
def Qco (a0:Bt):Option (Bt):=
 bd (lp (σ:=Int) (β:=(Bt⊕Unit)) (fun s1=>
(if(decide (s1<((a0.size:Nat):Int)))=true then
 gd ((0:Int)<=s1∧s1<((a0.size:Nat):Int))<|
(if((Qaa a0 s1.toNat)==35)=true then
 gd ((0:Int)<=(0:Int)∧(0:Int)<=s1∧s1<=((a0.size:Nat):Int))<|
 some (.inr (.inl (a0.extract 0 s1.toNat)))
else
 some (.inl (IntKind.i64.wrap (s1+1))))
else
 some (.inr (.inr ())))) 0) fun G=>
(match G with
| .inl I=>
 some I
| .inr d8=>
 some a0)
theorem Qkv {a0:Bt} {r:Bt} (h:Qco a0=some r):PureC prog 148 [.d (.str a0)] (.d (.str r)) []:=by
 refine pY tOk f148 rfl (Qc tOk ?_);obtain⟨x4,I,h⟩:=Qb h;refine QF tOk I (fun s1=>⟨0,18,[(0,.d (.str a0)),(3,dI s1)],[],[],[]⟩) ?_ ?_
 ·exact leX []
 ·clear I;intro s1 y2 G J;refine Qc tOk ?_;apply Qo G<;>intro _ G
  ·refine Qc tOk (gdI G fun G=>?_);apply Qo G<;>intro _ G
   ·refine gdI G fun G=>?_;cases G;cases J _ rfl;cases h;exact lfP []
   ·exact eX G []
  ·cases G
   cases J _ rfl
   cases h
   exact lfP []
def Ja (a0:Bt):Option ((List Bt)×Bool):=
 bd (Qco a0) fun I=>
 bd (lp (σ:=List Int×List Bt×Int) (β:=(Unit⊕(Nat×(List Bt)))) (fun G=>
(if(decide (G.2.2<=((I.size:Nat):Int)))=true then
 gd ((decide (G.2.2<((I.size:Nat):Int)))=true->((0:Int)<=G.2.2∧G.2.2<((I.size:Nat):Int)))<|
 gd ((decide ((Qaa I G.2.2.toNat)<32))=false->((decide (G.2.2<((I.size:Nat):Int)))=true->((0:Int)<=G.2.2∧G.2.2<((I.size:Nat):Int))))<|
(if((decide (G.2.2<((I.size:Nat):Int)))&&((decide ((Qaa I G.2.2.toNat)<32))||(decide ((Qaa I G.2.2.toNat)>126))))=true then
 some (.inr (.inl ()))
else
 gd ((decide (G.2.2<((I.size:Nat):Int)))=true->((0:Int)<=G.2.2∧G.2.2<((I.size:Nat):Int)))<|
(if((decide (G.2.2<((I.size:Nat):Int)))&&((Qaa I G.2.2.toNat) !=32))=true then
 gd ((0:Int)<=G.2.2∧G.2.2<((I.size:Nat):Int))<|
 gd (((G.1.length)+(([(Qaa I G.2.2.toNat)]:List Int).length))*(1+1)<=70368744177664)<|
(if(decide ((((G.1++([(Qaa I G.2.2.toNat)]:List Int)).length:Nat):Int)>24))=true then
 some (.inr (.inl ()))
else
 some (.inl ((G.1++([(Qaa I G.2.2.toNat)]:List Int)),G.2.1,IntKind.i64.wrap (G.2.2+1))))
else
(if(decide (((G.1.length:Nat):Int)>0))=true then
 gd (((G.2.1.length)+(([(Qf8 (QpE G.1.length (rows Qt G.1)))]:List Bt).length))*(16+1)<=70368744177664)<|
(if(decide ((((G.2.1++([(Qf8 (QpE G.1.length (rows Qt G.1)))]:List Bt)).length:Nat):Int)>8))=true then
 some (.inr (.inl ()))
else
 some (.inl (([]:List Int),(G.2.1++([(Qf8 (QpE G.1.length (rows Qt G.1)))]:List Bt)),IntKind.i64.wrap (G.2.2+1))))
else
 some (.inl (G.1,G.2.1,IntKind.i64.wrap (G.2.2+1))))))
else
 some (.inr (.inr (G.2.1.length,G.2.1))))) (([]:List Int),([]:List Bt),0)) fun O=>
(match O with
| .inl d12=>
 some ([],false)
| .inr J=>
 some (J.2,true))
theorem Qb2 {a0:Bt} {r:(List Bt)×Bool} (h:Ja a0=some r):PureC prog 88 [.d (.str a0)] (.tup [.osl 5001 0 r.1.length,dB r.2]) [⟨5001,9,1,r.1.length,rows encSb r.1⟩]:=by
 refine pY tOk f88 rfl (bC h 0 (fun _=>Qkv) fun U h=>Qc tOk ?_);obtain⟨x5,O,h⟩:=Qb h;refine QF tOk O (fun I=>⟨0,69,[(4,.d (.str U)),(5,.osl 7002 0 I.2.1.length),(6,.osl 7001 0 I.1.length),(7,dI I.2.2)],[],[(7002,.arr 9 1 I.2.1.length (rows encSb I.2.1)),(7001,.arr 5 1 I.1.length (rows Qt I.1))],[]⟩) ?_ ?_
 ·exact leX [.k [7001,7002],.p 7002 9 1 (rows encSb ([]:List Bt)),.p 7001 5 1 (rows Qt ([]:List Int))]
 ·clear O;intro I y3 G J;refine Qc tOk ?_;apply Qo G<;>intro _ G
  ·refine Qc tOk (Qc tOk (gdI G fun G=>gdI G fun G=>?_));apply Qo G<;>intro _ G
   ·cases G
    cases J _ rfl
    cases h
    exact lfP [.p 5001 9 1 (rows encSb ([]:List Bt))]
   ·refine Qc tOk (gdI G fun G=>?_);apply Qo G<;>intro _ G
    ·refine gdI G fun G=>QbB (enc:=Qt) ([(Qaa U I.2.2.toNat)]:List Int) (gdI G fun G=>Qf7 (enc:=Qt) (xs:=I.1) (ys:=([(Qaa U I.2.2.toNat)]:List Int)) (Qc tOk ?_));apply Qo G<;>intro _ G
     ·cases G
      cases J _ rfl
      cases h
      exact lfP [.p 5001 9 1 (rows encSb ([]:List Bt))]
     ·exact eX G []
    ·apply Qo G<;>intro _ G
     ·refine aI QsM (QbB (enc:=encSb) ([(Qf8 (QpE I.1.length (rows Qt I.1)))]:List Bt) (gdI G fun G=>Qf7 (enc:=encSb) (xs:=I.2.1) (ys:=([(Qf8 (QpE I.1.length (rows Qt I.1)))]:List Bt)) ?_));apply Qo G<;>intro _ G
      ·cases G
       cases J _ rfl
       cases h
       exact lfP [.p 5001 9 1 (rows encSb ([]:List Bt))]
      ·exact eX G [.k [61,7001],.p 7001 5 1 (rows Qt ([]:List Int))]
     ·exact eX G []
  ·cases G
   cases J _ rfl
   cases h
   exact lfP [.s [(5001,7002),(7002,5001)]]
def QT (a0:Int) (G:Int) (I:Int):Option (Bool):=
 some ((decide (a0>=G))&&(decide (a0<=I)))
theorem ZC {a0:Int} {G:Int} {I:Int} {r:Bool} (h:QT a0 G I=some r):PureC prog 71 [dI a0,dI G,dI I] (dB r) []:=by
 refine pY tOk f71 rfl ?_;unfold QT at h;cases h;exact lfP []
def Zs (a0:Bt):Option (Bool):=
 bd (QT ((a0.size:Nat):Int) 1 8) fun O=>
(if(!O)=true then
 some false
else
 bd (lp (σ:=Int) (β:=(Unit⊕Unit)) (fun G=>
(if(decide (G<((a0.size:Nat):Int)))=true then
 gd ((0:Int)<=G∧G<((a0.size:Nat):Int))<|
 bd (QT (IntKind.i64.wrap (Qaa a0 G.toNat)) 97 122) fun I=>
 gd ((!I)=true->((0:Int)<=G∧G<((a0.size:Nat):Int)))<|
 bd (gcall ((!I)=true) (QT (IntKind.i64.wrap (Qaa a0 G.toNat)) 48 57)) fun J=>
 gd (((!I)&&(!J))=true->((0:Int)<=G∧G<((a0.size:Nat):Int)))<|
(if(((!I)&&(!J))&&((Qaa a0 G.toNat) !=45))=true then
 some (.inr (.inl ()))
else
 some (.inl (IntKind.i64.wrap (G+1))))
else
 some (.inr (.inr ())))) 0) fun U=>
(match U with
| .inl d11=>
 some false
| .inr d12=>
 some true))
theorem Qan {a0:Bt} {r:Bool} (h:Zs a0=some r):PureC prog 141 [.d (.str a0)] (dB r) []:=by
 refine pY tOk f141 rfl (Qc tOk (bC h 0 (fun _=>ZC) fun x1 h=>?_));apply Qo h<;>intro _ h
 ·cases h
  exact lfP []
 ·refine Qc tOk ?_;obtain⟨x5,J,h⟩:=Qb h;refine QF tOk J (fun O=>⟨0,34,[(0,.d (.str a0)),(3,dI O)],[],[],[]⟩) ?_ ?_
  ·exact leX []
  ·clear J;intro O y3 G I;refine Qc tOk ?_;apply Qo G<;>intro _ G
   ·refine Qc tOk (gdI G fun G=>bC G 0 (fun _=>ZC) fun x7 G=>gdI G fun G=>bG G (fun _=>ZC) fun x9 G=>gdI G fun G=>?_);apply Qo G<;>intro _ G
    ·cases G
     cases I _ rfl
     cases h
     exact lfP []
    ·exact eX G []
   ·cases G
    cases I _ rfl
    cases h
    exact lfP []
def JH (a0:Bt) (I:Int):Option ((List Bt)):=
 bd (lp (σ:=List Bt×Int×Int) (β:=(Nat×Int×(List Bt))) (fun s1=>
(if(decide (s1.2.2<((a0.size:Nat):Int)))=true then
 gd ((0:Int)<=s1.2.2∧s1.2.2<((a0.size:Nat):Int))<|
(if((Qaa a0 s1.2.2.toNat)==I)=true then
 gd ((0:Int)<=s1.2.1∧s1.2.1<=s1.2.2∧s1.2.2<=((a0.size:Nat):Int))<|
 gd (((s1.1.length)+(([(a0.extract s1.2.1.toNat s1.2.2.toNat)]:List Bt).length))*(16+1)<=70368744177664)<|
 some (.inl ((s1.1++([(a0.extract s1.2.1.toNat s1.2.2.toNat)]:List Bt)),IntKind.i64.wrap (s1.2.2+1),IntKind.i64.wrap (s1.2.2+1)))
else
 some (.inl (s1.1,s1.2.1,IntKind.i64.wrap (s1.2.2+1))))
else
 some (.inr (s1.1.length,s1.2.1,s1.1)))) (([]:List Bt),0,0)) fun G=>
 gd ((0:Int)<=G.2.1∧G.2.1<=((a0.size:Nat):Int)∧((a0.size:Nat):Int)<=((a0.size:Nat):Int))<|
 gd (((G.1)+(([(a0.extract G.2.1.toNat ((a0.size:Nat):Int).toNat)]:List Bt).length))*(16+1)<=70368744177664)<|
 some (G.2.2++([(a0.extract G.2.1.toNat ((a0.size:Nat):Int).toNat)]:List Bt))
theorem Qfe {a0:Bt} {O:Int} {r:(List Bt)} (h:JH a0 O=some r):PureC prog 149 [.d (.str a0),.d (.int .u8 O)] (.osl 5001 0 r.length) [⟨5001,9,1,r.length,rows encSb r⟩]:=by
 refine pY tOk f149 rfl (Qc tOk ?_);obtain⟨x4,I,h⟩:=Qb h;refine QF tOk I (fun s1=>⟨0,35,[(0,.d (.str a0)),(1,.d (.int .u8 O)),(5,.osl 7001 0 s1.1.length),(6,dI s1.2.1),(7,dI s1.2.2)],[],[(7001,.arr 9 1 s1.1.length (rows encSb s1.1))],[]⟩) ?_ ?_
 ·exact leX [.k [7001],.p 7001 9 1 (rows encSb ([]:List Bt))]
 ·clear I;intro s1 y2 G J;refine Qc tOk ?_;apply Qo G<;>intro _ G
  ·refine Qc tOk (gdI G fun G=>?_);apply Qo G<;>intro _ G
   ·refine gdI G fun G=>QbB (enc:=encSb) ([(a0.extract s1.2.1.toNat s1.2.2.toNat)]:List Bt) (gdI G fun G=>Qf7 (enc:=encSb) (xs:=s1.1) (ys:=([(a0.extract s1.2.1.toNat s1.2.2.toNat)]:List Bt)) ?_);exact eX G []
   ·exact eX G []
  ·cases G
   cases J _ rfl
   refine gdI h fun h=>QbB (enc:=encSb) ([(a0.extract (s1.1.length,s1.2.1,s1.1).2.1.toNat ((a0.size:Nat):Int).toNat)]:List Bt) (gdI h fun h=>Qf7 (enc:=encSb) (xs:=(s1.1.length,s1.2.1,s1.1).2.2) (ys:=([(a0.extract (s1.1.length,s1.2.1,s1.1).2.1.toNat ((a0.size:Nat):Int).toNat)]:List Bt)) ?_);cases h;exact lfP [.s [(5001,7001),(7001,5001)]]
def Qcp:Option ((List Bt)):=
 some ([(⟨#[100,111,111,114]⟩:Bt),(⟨#[104,111,115,116]⟩:Bt),(⟨#[110,97,116]⟩:Bt),(⟨#[112,101,101,114]⟩:Bt),(⟨#[112,111,114,116]⟩:Bt),(⟨#[114,111,117,116,101]⟩:Bt),(⟨#[114,117,108,101]⟩:Bt),(⟨#[117,115,101,114]⟩:Bt)]:List Bt)
theorem Qkw {r:(List Bt)} (h:Qcp=some r):PureC prog 265 [] (.osl 5001 0 r.length) [⟨5001,9,1,r.length,rows encSb r⟩]:=by
 refine pY tOk f265 rfl ?_;unfold Qcp at h;refine QbB (enc:=encSb) ([(⟨#[100,111,111,114]⟩:Bt),(⟨#[104,111,115,116]⟩:Bt),(⟨#[110,97,116]⟩:Bt),(⟨#[112,101,101,114]⟩:Bt),(⟨#[112,111,114,116]⟩:Bt),(⟨#[114,111,117,116,101]⟩:Bt),(⟨#[114,117,108,101]⟩:Bt),(⟨#[117,115,101,114]⟩:Bt)]:List Bt) ?_;cases h;exact lfP [.s [(1,5001),(5001,1)]]
def QaH (a0:(List Bt)) (G:Bt):Option (Bool):=
 bd (lp (σ:=Int) (β:=(Unit⊕Unit)) (fun s1=>
(if(decide (s1<((a0.length:Nat):Int)))=true then
 gd ((0:Int)<=s1∧s1<((a0.length:Nat):Int))<|
(if((a0.getD s1.toNat default)==G)=true then
 some (.inr (.inl ()))
else
 some (.inl (IntKind.i64.wrap (s1+1))))
else
 some (.inr (.inr ())))) 0) fun I=>
(match I with
| .inl d6=>
 some true
| .inr d7=>
 some false)
theorem QdR {a0:(List Bt)} {O:Bt} {r:Bool} (h:QaH a0 O=some r):PureC prog 87 [.d (slD encSb a0),.d (.str O)] (dB r) []:=by
 refine pY tOk f87 rfl (Qc tOk ?_);obtain⟨x4,I,h⟩:=Qb h;refine QF tOk I (fun s1=>⟨0,18,[(0,.d (slD encSb a0)),(1,.d (.str O)),(5,dI s1)],[],[],[]⟩) ?_ ?_
 ·exact leX []
 ·clear I;intro s1 y2 G J;refine Qc tOk ?_;apply Qo G<;>intro _ G
  ·refine Qc tOk (gdI G fun G=>?_);apply Qo G<;>intro _ G
   ·cases G
    cases J _ rfl
    cases h
    exact lfP []
   ·exact eX G []
  ·cases G
   cases J _ rfl
   cases h
   exact lfP []
def Qb3 (a0:Bt):Option (Bool):=
(if((a0==(⟨#[97,108,108]⟩:Bt))||(a0==(⟨#[110,111,110,101]⟩:Bt)))=true then
 some true
else
 bd (JH a0 44) fun I=>
 bd (lp (σ:=Int) (β:=(Unit⊕Unit)) (fun G=>
(if(decide (G<((I.length:Nat):Int)))=true then
 bd (Qcp) fun O=>
 gd ((0:Int)<=G∧G<((I.length:Nat):Int))<|
 bd (QaH O (I.getD G.toNat default)) fun J=>
 gd ((decide (G>0))=true->((!J)=false->((0:Int)<=IntKind.i64.wrap (G-1)∧IntKind.i64.wrap (G-1)<((I.length:Nat):Int))))<|
 gd ((decide (G>0))=true->((!J)=false->((0:Int)<=G∧G<((I.length:Nat):Int))))<|
(if((!J)||((decide (G>0))&&(!(bsl (I.getD ((IntKind.i64.wrap (G-1)).toNat) default) (I.getD G.toNat default)))))=true then
 some (.inr (.inl ()))
else
 some (.inl (IntKind.i64.wrap (G+1))))
else
 some (.inr (.inr ())))) 0) fun U=>
(match U with
| .inl d11=>
 some false
| .inr d12=>
 some true))
theorem QjL {a0:Bt} {r:Bool} (h:Qb3 a0=some r):PureC prog 241 [.d (.str a0)] (dB r) []:=by
 refine pY tOk f241 rfl (Qc tOk ?_);apply Qo h<;>intro _ h
 ·cases h
  exact lfP []
 ·refine bC h 1000 (fun _=>Qfe) fun x1 h=>Qc tOk ?_;obtain⟨x5,J,h⟩:=Qb h;refine QF tOk J (fun s2=>⟨0,42,[(3,.osl 6001 0 x1.length),(4,dI s2)],[],[(6001,.arr 9 1 x1.length (rows encSb x1))],[]⟩) ?_ ?_
  ·exact leX []
  ·clear J;intro s2 y3 G I;refine Qc tOk ?_;apply Qo G<;>intro _ G
   ·refine Qc tOk ?_;obtain⟨O,U,G⟩:=Qb G;obtain⟨g7,G⟩:=Qf G;obtain⟨x8,a1,G⟩:=Qb G;obtain⟨g9,G⟩:=Qf G;obtain⟨Y,G⟩:=Qf G;refine QW tOk [.u 0 2000 (.osl 5001 0 O.length) [⟨5001,9,1,O.length,rows encSb O⟩],.u 5 0 (dB x8) []] 23 [] [0,0,0,6,14,31,63,127,255,511,1023,2047,2047,6143,16383,32767,2047,2047,198655,460799,1048575,2097151,4194303] [] (aI (QN (Qkw U) (by kernel_rfl)) (aI g7 (aI (QN (QdR a1) (by kernel_rfl)) (aI g9 (aI Y (aK ?_))))));apply Qo G<;>intro _ G
    ·cases G
     cases I _ rfl
     cases h
     exact lfP []
    ·exact eX G []
   ·cases G
    cases I _ rfl
    cases h
    exact lfP []
def ZN (a0:Bt):Option (Int):=
 bd (QT ((a0.size:Nat):Int) 1 6) fun J=>
 gd ((decide (((a0.size:Nat):Int)>1))=true->((!J)=false->((0:Int)<=(0:Int)∧(0:Int)<((a0.size:Nat):Int))))<|
(if((!J)||((decide (((a0.size:Nat):Int)>1))&&((Qaa a0 0)==48)))=true then
 some (-1)
else
 bd (lp (σ:=Int×Int) (β:=(Unit⊕Int)) (fun G=>
(if(decide (G.2<((a0.size:Nat):Int)))=true then
 gd ((0:Int)<=G.2∧G.2<((a0.size:Nat):Int))<|
 bd (QT (IntKind.i64.wrap (Qaa a0 G.2.toNat)) 48 57) fun U=>
(if(!U)=true then
 some (.inr (.inl ()))
else
 gd ((0:Int)<=G.2∧G.2<((a0.size:Nat):Int))<|
 some (.inl (IntKind.i64.wrap ((IntKind.i64.wrap (G.1*10))+(IntKind.i64.wrap (IntKind.u8.wrap ((Qaa a0 G.2.toNat) -48)))),IntKind.i64.wrap (G.2+1))))
else
 some (.inr (.inr G.1)))) (0,0)) fun O=>
(match O with
| .inl d10=>
 some (-1)
| .inr I=>
 some I))
theorem Qag {a0:Bt} {r:Int} (h:ZN a0=some r):PureC prog 96 [.d (.str a0)] (dI r) []:=by
 refine pY tOk f96 rfl (Qc tOk (bC h 0 (fun _=>ZC) fun x1 h=>gdI h fun h=>?_));apply Qo h<;>intro _ h
 ·cases h
  exact lfP []
 ·refine Qc tOk ?_;obtain⟨x6,J,h⟩:=Qb h;refine QF tOk J (fun O=>⟨0,40,[(0,.d (.str a0)),(3,dI O.1),(4,dI O.2)],[],[],[]⟩) ?_ ?_
  ·exact leX []
  ·clear J;intro O y4 G I;refine Qc tOk ?_;apply Qo G<;>intro _ G
   ·refine Qc tOk (Qc tOk (gdI G fun G=>bC G 0 (fun _=>ZC) fun x8 G=>?_));apply Qo G<;>intro _ G
    ·cases G
     cases I _ rfl
     cases h
     exact lfP []
    ·refine gdI G fun G=>?_;exact eX G []
   ·cases G
    cases I _ rfl
    cases h
    exact lfP []
def Zh (a0:Bt) (J:Int) (O:Int):Option (Bool):=
 bd (ZN a0) fun G=>
 bd (QT G J O) fun I=>
 some I
theorem ZD {a0:Bt} {G:Int} {I:Int} {r:Bool} (h:Zh a0 G I=some r):PureC prog 150 [.d (.str a0),dI G,dI I] (dB r) []:=by
 refine pY tOk f150 rfl (bC h 0 (fun _=>Qag) fun x1 h=>bC h 0 (fun _=>ZC) fun x2 h=>?_);cases h;exact lfP []
def Zf (a0:Bt):Option (Int):=
 bd (JH a0 46) fun G=>
 gd ((((G.length:Nat):Int) !=2)=false->((0:Int)<=0∧0<((G.length:Nat):Int)))<|
 bd (gcall ((((G.length:Nat):Int) !=2)=false) (Zh (G.getD 0 default) 0 255)) fun I=>
 gd (((((G.length:Nat):Int) !=2)||(!I))=false->((0:Int)<=1∧1<((G.length:Nat):Int)))<|
 bd (gcall (((((G.length:Nat):Int) !=2)||(!I))=false) (Zh (G.getD 1 default) 0 255)) fun U=>
(if(((((G.length:Nat):Int) !=2)||(!I))||(!U))=true then
 some (-1)
else
 gd ((0:Int)<=0∧0<((G.length:Nat):Int))<|
 bd (ZN (G.getD 0 default)) fun J=>
 gd ((0:Int)<=1∧1<((G.length:Nat):Int))<|
 bd (ZN (G.getD 1 default)) fun O=>
 some (IntKind.i64.wrap ((IntKind.i64.wrap (256*J))+O)))
theorem Z0 {a0:Bt} {r:Int} (h:Zf a0=some r):PureC prog 93 [.d (.str a0)] (dI r) []:=by
 refine pY tOk f93 rfl (bC h 1000 (fun _=>Qfe) fun x1 h=>Qc tOk (gdI h fun h=>bG h (fun _=>ZD) fun x3 h=>gdI h fun h=>bG h (fun _=>ZD) fun x5 h=>?_));apply Qo h<;>intro _ h
 ·cases h
  exact lfP []
 ·obtain⟨O,h⟩:=Qf h;obtain⟨J,G,h⟩:=Qb h;obtain⟨U,h⟩:=Qf h;obtain⟨Y,I,h⟩:=Qb h;refine QW tOk [.u 3 0 (dI J) [],.u 8 0 (dI Y) []] 11 [] [0,1,3,7,15,0,32,96,239,511,1023] [] (aI O (aI (QN (Qag G) (by kernel_rfl)) (aI U (aI (QN (Qag I) (by kernel_rfl)) (aK ?_)))));cases h;exact lfP []
def Qda (a0:Int):Option (Int):=
 bd (lp (σ:=Int×Int) (β:=(Int)) (fun s1=>
(if(decide (s1.2<16))=true then
 some (.inl (IntKind.i64.wrap (s1.1*2),IntKind.i64.wrap (s1.2+1)))
else
 some (.inr s1.1))) (1,a0)) fun G=>
 some G
theorem QlP {a0:Int} {r:Int} (h:Qda a0=some r):PureC prog 151 [dI a0] (dI r) []:=by
 refine pY tOk f151 rfl (Qc tOk ?_);obtain⟨x4,G,h⟩:=Qb h;refine QF tOk G (fun s1=>⟨0,13,[(3,dI s1.1),(4,dI s1.2)],[],[],[]⟩) ?_ ?_
 ·exact leX []
 ·clear G;intro s1 y2 I J;refine Qc tOk ?_;apply Qo I<;>intro _ I
  ·refine Qc tOk ?_;exact eX I []
  ·cases I
   cases J _ rfl
   cases h
   exact lfP []
def Zt (a0:Bt):Option (Int×Int):=
 bd (JH a0 47) fun G=>
 gd ((((G.length:Nat):Int) !=2)=false->((0:Int)<=0∧0<((G.length:Nat):Int)))<|
 bd (gcall ((((G.length:Nat):Int) !=2)=false) (Zf (G.getD 0 default))) fun J=>
 gd (((((G.length:Nat):Int) !=2)||(decide (J<0)))=false->((0:Int)<=1∧1<((G.length:Nat):Int)))<|
 bd (gcall (((((G.length:Nat):Int) !=2)||(decide (J<0)))=false) (Zh (G.getD 1 default) 0 16)) fun Y=>
(if(((((G.length:Nat):Int) !=2)||(decide (J<0)))||(!Y))=true then
 some (-1,0)
else
 gd ((0:Int)<=0∧0<((G.length:Nat):Int))<|
 bd (Zf (G.getD 0 default)) fun O=>
 gd ((0:Int)<=1∧1<((G.length:Nat):Int))<|
 bd (ZN (G.getD 1 default)) fun U=>
 bd (Qda U) fun I=>
 gd ((I:Int)≠0)<|
(if(((O:Int).tmod I) !=0)=true then
 some (-1,0)
else
 some (O,I)))
theorem Qad {a0:Bt} {r:Int×Int} (h:Zt a0=some r):PureC prog 91 [.d (.str a0)] (.tup [dI r.1,dI r.2]) []:=by
 refine pY tOk f91 rfl (bC h 1000 (fun _=>Qfe) fun x1 h=>Qc tOk (gdI h fun h=>bG h (fun _=>Z0) fun x3 h=>gdI h fun h=>bG h (fun _=>ZD) fun x5 h=>?_));apply Qo h<;>intro _ h
 ·cases h
  exact lfP []
 ·refine gdI h fun h=>bC h 0 (fun _=>Z0) fun x7 h=>gdI h fun h=>bC h 0 (fun _=>Qag) fun x9 h=>bC h 0 (fun _=>QlP) fun x10 h=>Qc tOk (gdI h fun h=>?_);apply Qo h<;>intro _ h
  ·cases h
   exact lfP []
  ·cases h
   exact lfP []
def ZE (a0:Bt):Option (Bool):=
 bd (Zt a0) fun G=>
 some (decide (G.1>=0))
theorem Qah {a0:Bt} {r:Bool} (h:ZE a0=some r):PureC prog 242 [.d (.str a0)] (dB r) []:=by
 refine pY tOk f242 rfl (bC h 0 (fun _=>Qad) fun x1 h=>?_);cases h;exact lfP []
def Qdb (a0:(List Bt)):Option (Bool):=
(if(((a0.length:Nat):Int)==0)=true then
 some false
else
 gd ((0:Int)<=0∧0<((a0.length:Nat):Int))<|
(if((a0.getD 0 default)==(⟨#[104,111,115,116]⟩:Bt))=true then
 gd ((((a0.length:Nat):Int)==2)=true->((0:Int)<=1∧1<((a0.length:Nat):Int)))<|
 bd (gcall ((((a0.length:Nat):Int)==2)=true) (Zs (a0.getD 1 default))) fun x3=>
 some ((((a0.length:Nat):Int)==2)&&x3)
else
(if((a0.getD 0 default)==(⟨#[117,115,101,114]⟩:Bt))=true then
 gd ((((a0.length:Nat):Int)==3)=true->((0:Int)<=1∧1<((a0.length:Nat):Int)))<|
 bd (gcall ((((a0.length:Nat):Int)==3)=true) (Zs (a0.getD 1 default))) fun x5=>
 gd (((((a0.length:Nat):Int)==3)&&x5)=true->((0:Int)<=2∧2<((a0.length:Nat):Int)))<|
 bd (gcall (((((a0.length:Nat):Int)==3)&&x5)=true) (Qb3 (a0.getD 2 default))) fun x7=>
 some (((((a0.length:Nat):Int)==3)&&x5)&&x7)
else
(if((a0.getD 0 default)==(⟨#[112,111,114,116]⟩:Bt))=true then
 gd ((((a0.length:Nat):Int)==5)=true->((((a0.length:Nat):Int)==3)=false->((0:Int)<=3∧3<((a0.length:Nat):Int))))<|
 gd (((((a0.length:Nat):Int)==5)&&((a0.getD 3 default)==(⟨#[105,110]⟩:Bt)))=true->((((a0.length:Nat):Int)==3)=false->((0:Int)<=4∧4<((a0.length:Nat):Int))))<|
 bd (gcall (((((a0.length:Nat):Int)==5)&&((a0.getD 3 default)==(⟨#[105,110]⟩:Bt)))=true∧(((a0.length:Nat):Int)==3)=false) (Zs (a0.getD 4 default))) fun Y=>
 gd (((((a0.length:Nat):Int)==3)||(((((a0.length:Nat):Int)==5)&&((a0.getD 3 default)==(⟨#[105,110]⟩:Bt)))&&Y))=true->((0:Int)<=1∧1<((a0.length:Nat):Int)))<|
 bd (gcall (((((a0.length:Nat):Int)==3)||(((((a0.length:Nat):Int)==5)&&((a0.getD 3 default)==(⟨#[105,110]⟩:Bt)))&&Y))=true) (Zh (a0.getD 1 default) 0 7)) fun a8=>
 gd ((((((a0.length:Nat):Int)==3)||(((((a0.length:Nat):Int)==5)&&((a0.getD 3 default)==(⟨#[105,110]⟩:Bt)))&&Y))&&a8)=true->((0:Int)<=2∧2<((a0.length:Nat):Int)))<|
 bd (gcall ((((((a0.length:Nat):Int)==3)||(((((a0.length:Nat):Int)==5)&&((a0.getD 3 default)==(⟨#[105,110]⟩:Bt)))&&Y))&&a8)=true) (ZE (a0.getD 2 default))) fun b5=>
 some ((((((a0.length:Nat):Int)==3)||(((((a0.length:Nat):Int)==5)&&((a0.getD 3 default)==(⟨#[105,110]⟩:Bt)))&&Y))&&a8)&&b5)
else
(if((a0.getD 0 default)==(⟨#[114,117,108,101]⟩:Bt))=true then
 gd ((((a0.length:Nat):Int)==7)=true->((0:Int)<=1∧1<((a0.length:Nat):Int)))<|
 bd (gcall ((((a0.length:Nat):Int)==7)=true) (Zs (a0.getD 1 default))) fun G=>
 gd (((((a0.length:Nat):Int)==7)&&G)=true->((0:Int)<=2∧2<((a0.length:Nat):Int)))<|
 bd (gcall (((((a0.length:Nat):Int)==7)&&G)=true) (Zh (a0.getD 2 default) 0 99)) fun I=>
 gd ((((((a0.length:Nat):Int)==7)&&G)&&I)=true->((0:Int)<=3∧3<((a0.length:Nat):Int)))<|
 gd (((a0.getD 3 default)==(⟨#[112,101,114,109,105,116]⟩:Bt))=false->((((((a0.length:Nat):Int)==7)&&G)&&I)=true->((0:Int)<=3∧3<((a0.length:Nat):Int))))<|
 gd (((((((a0.length:Nat):Int)==7)&&G)&&I)&&(((a0.getD 3 default)==(⟨#[112,101,114,109,105,116]⟩:Bt))||((a0.getD 3 default)==(⟨#[100,101,110,121]⟩:Bt))))=true->((0:Int)<=4∧4<((a0.length:Nat):Int)))<|
 bd (gcall (((((((a0.length:Nat):Int)==7)&&G)&&I)&&(((a0.getD 3 default)==(⟨#[112,101,114,109,105,116]⟩:Bt))||((a0.getD 3 default)==(⟨#[100,101,110,121]⟩:Bt))))=true) (ZE (a0.getD 4 default))) fun U=>
 gd ((((((((a0.length:Nat):Int)==7)&&G)&&I)&&(((a0.getD 3 default)==(⟨#[112,101,114,109,105,116]⟩:Bt))||((a0.getD 3 default)==(⟨#[100,101,110,121]⟩:Bt))))&&U)=true->((0:Int)<=5∧5<((a0.length:Nat):Int)))<|
 bd (gcall ((((((((a0.length:Nat):Int)==7)&&G)&&I)&&(((a0.getD 3 default)==(⟨#[112,101,114,109,105,116]⟩:Bt))||((a0.getD 3 default)==(⟨#[100,101,110,121]⟩:Bt))))&&U)=true) (ZE (a0.getD 5 default))) fun a7=>
 gd (((((((((a0.length:Nat):Int)==7)&&G)&&I)&&(((a0.getD 3 default)==(⟨#[112,101,114,109,105,116]⟩:Bt))||((a0.getD 3 default)==(⟨#[100,101,110,121]⟩:Bt))))&&U)&&a7)=true->((0:Int)<=6∧6<((a0.length:Nat):Int)))<|
 bd (gcall (((((((((a0.length:Nat):Int)==7)&&G)&&I)&&(((a0.getD 3 default)==(⟨#[112,101,114,109,105,116]⟩:Bt))||((a0.getD 3 default)==(⟨#[100,101,110,121]⟩:Bt))))&&U)&&a7)=true) (Zh (a0.getD 6 default) 0 7)) fun b4=>
 some (((((((((a0.length:Nat):Int)==7)&&G)&&I)&&(((a0.getD 3 default)==(⟨#[112,101,114,109,105,116]⟩:Bt))||((a0.getD 3 default)==(⟨#[100,101,110,121]⟩:Bt))))&&U)&&a7)&&b4)
else
(if((a0.getD 0 default)==(⟨#[114,111,117,116,101]⟩:Bt))=true then
 gd ((((a0.length:Nat):Int)==3)=true->((0:Int)<=1∧1<((a0.length:Nat):Int)))<|
 bd (gcall ((((a0.length:Nat):Int)==3)=true) (ZE (a0.getD 1 default))) fun a4=>
 gd (((((a0.length:Nat):Int)==3)&&a4)=true->((0:Int)<=2∧2<((a0.length:Nat):Int)))<|
 bd (gcall (((((a0.length:Nat):Int)==3)&&a4)=true) (Zf (a0.getD 2 default))) fun b3=>
 some (((((a0.length:Nat):Int)==3)&&a4)&&(decide (b3>=0)))
else
(if((a0.getD 0 default)==(⟨#[112,101,101,114]⟩:Bt))=true then
 gd ((((a0.length:Nat):Int)==4)=true->((0:Int)<=1∧1<((a0.length:Nat):Int)))<|
 bd (gcall ((((a0.length:Nat):Int)==4)=true) (Zf (a0.getD 1 default))) fun a1=>
 gd (((((a0.length:Nat):Int)==4)&&(decide (a1>=0)))=true->((0:Int)<=2∧2<((a0.length:Nat):Int)))<|
 bd (gcall (((((a0.length:Nat):Int)==4)&&(decide (a1>=0)))=true) (Zh (a0.getD 2 default) 1 9)) fun a9=>
 gd ((((((a0.length:Nat):Int)==4)&&(decide (a1>=0)))&&a9)=true->((0:Int)<=3∧3<((a0.length:Nat):Int)))<|
 bd (gcall ((((((a0.length:Nat):Int)==4)&&(decide (a1>=0)))&&a9)=true) (Zh (a0.getD 3 default) 1 999999)) fun b2=>
 some ((((((a0.length:Nat):Int)==4)&&(decide (a1>=0)))&&a9)&&b2)
else
(if((a0.getD 0 default)==(⟨#[110,97,116]⟩:Bt))=true then
 gd ((((a0.length:Nat):Int)==5)=true->((0:Int)<=1∧1<((a0.length:Nat):Int)))<|
 bd (gcall ((((a0.length:Nat):Int)==5)=true) (ZE (a0.getD 1 default))) fun J=>
 gd (((((a0.length:Nat):Int)==5)&&J)=true->((0:Int)<=2∧2<((a0.length:Nat):Int)))<|
 bd (gcall (((((a0.length:Nat):Int)==5)&&J)=true) (Zf (a0.getD 2 default))) fun a3=>
 gd ((((((a0.length:Nat):Int)==5)&&J)&&(decide (a3>=0)))=true->((0:Int)<=3∧3<((a0.length:Nat):Int)))<|
 bd (gcall ((((((a0.length:Nat):Int)==5)&&J)&&(decide (a3>=0)))=true) (Zh (a0.getD 3 default) 1 65535)) fun a5=>
 gd (((((((a0.length:Nat):Int)==5)&&J)&&(decide (a3>=0)))&&a5)=true->((0:Int)<=4∧4<((a0.length:Nat):Int)))<|
 bd (gcall (((((((a0.length:Nat):Int)==5)&&J)&&(decide (a3>=0)))&&a5)=true) (Zh (a0.getD 4 default) 1 65535)) fun b7=>
 some (((((((a0.length:Nat):Int)==5)&&J)&&(decide (a3>=0)))&&a5)&&b7)
else
(if((a0.getD 0 default)==(⟨#[100,111,111,114]⟩:Bt))=true then
 gd ((((a0.length:Nat):Int)==5)=true->((0:Int)<=1∧1<((a0.length:Nat):Int)))<|
 bd (gcall ((((a0.length:Nat):Int)==5)=true) (Zh (a0.getD 1 default) 1 7)) fun O=>
 gd (((((a0.length:Nat):Int)==5)&&O)=true->((0:Int)<=2∧2<((a0.length:Nat):Int)))<|
 bd (gcall (((((a0.length:Nat):Int)==5)&&O)=true) (Zh (a0.getD 2 default) 1 65535)) fun a2=>
 gd ((((((a0.length:Nat):Int)==5)&&O)&&a2)=true->((0:Int)<=3∧3<((a0.length:Nat):Int)))<|
 bd (gcall ((((((a0.length:Nat):Int)==5)&&O)&&a2)=true) (Zf (a0.getD 3 default))) fun a6=>
 gd (((((((a0.length:Nat):Int)==5)&&O)&&a2)&&(decide (a6>=0)))=true->((0:Int)<=4∧4<((a0.length:Nat):Int)))<|
 bd (gcall (((((((a0.length:Nat):Int)==5)&&O)&&a2)&&(decide (a6>=0)))=true) (Zh (a0.getD 4 default) 1 65535)) fun b6=>
 some (((((((a0.length:Nat):Int)==5)&&O)&&a2)&&(decide (a6>=0)))&&b6)
else
 some false)))))))))
theorem QlQ {a0:(List Bt)} {r:Bool} (h:Qdb a0=some r):PureC prog 211 [.d (slD encSb a0)] (dB r) []:=by
 refine pY tOk f211 rfl (Qc tOk ?_);apply Qo h<;>intro _ h
 ·cases h
  exact lfP []
 ·refine Qc tOk (gdI h fun h=>?_);apply Qo h<;>intro _ h
  ·refine gdI h fun h=>bG h (fun _=>Qan) fun x3 h=>?_;cases h;exact lfP []
  ·apply Qo h<;>intro _ h
   ·refine gdI h fun h=>bG h (fun _=>Qan) fun x5 h=>gdI h fun h=>bG h (fun _=>QjL) fun x7 h=>?_;cases h;exact lfP []
   ·apply Qo h<;>intro _ h
    ·refine gdI h fun h=>gdI h fun h=>?_;obtain⟨x10,G,h⟩:=Qb h;refine cG (fun J I=>Qan (Qn G ⟨J,I⟩)) (gdI h fun h=>bG h (fun _=>ZD) fun x12 h=>gdI h fun h=>bG h (fun _=>Qah) fun x14 h=>?_);cases h;exact lfP []
    ·apply Qo h<;>intro _ h
     ·refine gdI h fun h=>bG h (fun _=>Qan) fun x16 h=>gdI h fun h=>bG h (fun _=>ZD) fun x18 h=>gdI h fun h=>gdI h fun h=>gdI h fun h=>bG h (fun _=>Qah) fun x22 h=>gdI h fun h=>bG h (fun _=>Qah) fun x24 h=>gdI h fun h=>bG h (fun _=>ZD) fun x26 h=>?_;cases h;exact lfP []
     ·apply Qo h<;>intro _ h
      ·refine gdI h fun h=>bG h (fun _=>Qah) fun x28 h=>gdI h fun h=>bG h (fun _=>Z0) fun x30 h=>?_;cases h;exact lfP []
      ·apply Qo h<;>intro _ h
       ·refine gdI h fun h=>bG h (fun _=>Z0) fun x32 h=>gdI h fun h=>bG h (fun _=>ZD) fun x34 h=>gdI h fun h=>bG h (fun _=>ZD) fun x36 h=>?_;cases h;exact lfP []
       ·apply Qo h<;>intro _ h
        ·refine gdI h fun h=>bG h (fun _=>Qah) fun x38 h=>gdI h fun h=>bG h (fun _=>Z0) fun x40 h=>gdI h fun h=>bG h (fun _=>ZD) fun x42 h=>gdI h fun h=>bG h (fun _=>ZD) fun x44 h=>?_;cases h;exact lfP []
        ·apply Qo h<;>intro _ h
         ·refine gdI h fun h=>bG h (fun _=>ZD) fun x46 h=>gdI h fun h=>bG h (fun _=>ZD) fun x48 h=>gdI h fun h=>bG h (fun _=>Z0) fun x50 h=>gdI h fun h=>bG h (fun _=>ZD) fun x52 h=>?_;cases h;exact lfP []
         ·cases h
          exact lfP []
def QbN (a0:(List Bt)) (G:Bt):Option (Bt):=
 bd (lp (σ:=Bt×Int) (β:=(Bt)) (fun s1=>
(if(decide (s1.2<((a0.length:Nat):Int)))=true then
(if(decide (s1.2>0))=true then
 gd (s1.1.size+G.size<=9223372036854775807)<|
 gd ((0:Int)<=s1.2∧s1.2<((a0.length:Nat):Int))<|
 gd ((s1.1++G).size+(a0.getD s1.2.toNat default).size<=9223372036854775807)<|
 some (.inl (((s1.1++G)++(a0.getD s1.2.toNat default)),IntKind.i64.wrap (s1.2+1)))
else
 gd ((0:Int)<=s1.2∧s1.2<((a0.length:Nat):Int))<|
 gd (s1.1.size+(a0.getD s1.2.toNat default).size<=9223372036854775807)<|
 some (.inl ((s1.1++(a0.getD s1.2.toNat default)),IntKind.i64.wrap (s1.2+1))))
else
 some (.inr s1.1))) ((⟨#[]⟩:Bt),0)) fun I=>
 some I
theorem QlR {a0:(List Bt)} {O:Bt} {r:Bt} (h:QbN a0 O=some r):PureC prog 212 [.d (slD encSb a0),.d (.str O)] (.d (.str r)) []:=by
 refine pY tOk f212 rfl (Qc tOk ?_);obtain⟨x4,I,h⟩:=Qb h;refine QF tOk I (fun s1=>⟨0,25,[(0,.d (slD encSb a0)),(1,.d (.str O)),(5,.d (.str s1.1)),(6,dI s1.2)],[],[],[]⟩) ?_ ?_
 ·exact leX []
 ·clear I;intro s1 y2 G J;refine Qc tOk ?_;apply Qo G<;>intro _ G
  ·refine Qc tOk (Qc tOk ?_);apply Qo G<;>intro _ G
   ·refine gdI G fun G=>gdI G fun G=>gdI G fun G=>?_;exact eX G []
   ·refine gdI G fun G=>gdI G fun G=>?_;exact eX G []
  ·cases G
   cases J _ rfl
   cases h
   exact lfP []
def JU (a0:Bt):Option (Bt×Bool):=
 bd (Ja a0) fun G=>
 bd (gcall ((!G.2)=false) (Qdb G.1)) fun I=>
(if((!G.2)||(!I))=true then
 some ((⟨#[]⟩:Bt),false)
else
 bd (QbN G.1 (⟨#[32]⟩:Bt)) fun J=>
 some (J,true))
theorem Qeb {a0:Bt} {r:Bt×Bool} (h:JU a0=some r):PureC prog 176 [.d (.str a0)] (.tup [.d (.str r.1),dB r.2]) []:=by
 refine pY tOk f176 rfl (bC h 1000 (fun _=>Qb2) fun x1 h=>Qc tOk (bG h (fun _=>QlQ) fun x2 h=>?_));apply Qo h<;>intro _ h
 ·cases h
  exact lfP []
 ·refine bC h 0 (fun _=>QlR) fun x3 h=>?_;cases h;exact lfP []
def Qdc (a0:Bt):Option (Bool):=
 bd (JU a0) fun G=>
 some (G.2&&(G.1==a0))
theorem QlS {a0:Bt} {r:Bool} (h:Qdc a0=some r):PureC prog 152 [.d (.str a0)] (dB r) []:=by
 refine pY tOk f152 rfl (bC h 0 (fun _=>Qeb) fun x1 h=>?_);cases h;exact lfP []
def ZH (a0:Bt):Option (Bt):=
 bd (Qdc a0) fun J=>
(if(!J)=true then
 some (⟨#[]⟩:Bt)
else
 bd (Ja a0) fun G=>
 gd ((0:Int)<=0∧0<((G.1.length:Nat):Int))<|
 bd (α:=Bool) ((if((G.1.getD 0 default)==(⟨#[104,111,115,116]⟩:Bt))=true then
 some ((G.1.getD 0 default)==(⟨#[104,111,115,116]⟩:Bt))
else
 some ((G.1.getD 0 default)==(⟨#[110,97,116]⟩:Bt)))) fun U=>
(if U=true then
 gd ((0:Int)<=0∧0<((G.1.length:Nat):Int))<|
 some (G.1.getD 0 default)
else
 bd (α:=Bool) ((if((G.1.getD 0 default)==(⟨#[117,115,101,114]⟩:Bt))=true then
 some ((G.1.getD 0 default)==(⟨#[117,115,101,114]⟩:Bt))
else
(if((G.1.getD 0 default)==(⟨#[112,111,114,116]⟩:Bt))=true then
 some ((G.1.getD 0 default)==(⟨#[112,111,114,116]⟩:Bt))
else
 some ((G.1.getD 0 default)==(⟨#[112,101,101,114]⟩:Bt))))) fun O=>
(if O=true then
 gd ((0:Int)<=0∧0<((G.1.length:Nat):Int))<|
 gd ((G.1.getD 0 default).size+(⟨#[32]⟩:Bt).size<=9223372036854775807)<|
 gd ((0:Int)<=1∧1<((G.1.length:Nat):Int))<|
 gd (((G.1.getD 0 default)++(⟨#[32]⟩:Bt)).size+(G.1.getD 1 default).size<=9223372036854775807)<|
 some (((G.1.getD 0 default)++(⟨#[32]⟩:Bt))++(G.1.getD 1 default))
else
 bd (α:=Bool) ((if((G.1.getD 0 default)==(⟨#[114,117,108,101]⟩:Bt))=true then
 some ((G.1.getD 0 default)==(⟨#[114,117,108,101]⟩:Bt))
else
 some ((G.1.getD 0 default)==(⟨#[100,111,111,114]⟩:Bt)))) fun I=>
(if I=true then
 gd ((0:Int)<=0∧0<((G.1.length:Nat):Int))<|
 gd ((G.1.getD 0 default).size+(⟨#[32]⟩:Bt).size<=9223372036854775807)<|
 gd ((0:Int)<=1∧1<((G.1.length:Nat):Int))<|
 gd (((G.1.getD 0 default)++(⟨#[32]⟩:Bt)).size+(G.1.getD 1 default).size<=9223372036854775807)<|
 gd ((((G.1.getD 0 default)++(⟨#[32]⟩:Bt))++(G.1.getD 1 default)).size+(⟨#[32]⟩:Bt).size<=9223372036854775807)<|
 gd ((0:Int)<=2∧2<((G.1.length:Nat):Int))<|
 gd (((((G.1.getD 0 default)++(⟨#[32]⟩:Bt))++(G.1.getD 1 default))++(⟨#[32]⟩:Bt)).size+(G.1.getD 2 default).size<=9223372036854775807)<|
 some (((((G.1.getD 0 default)++(⟨#[32]⟩:Bt))++(G.1.getD 1 default))++(⟨#[32]⟩:Bt))++(G.1.getD 2 default))
else
 some a0))))
theorem Qa1 {a0:Bt} {r:Bt} (h:ZH a0=some r):PureC prog 98 [.d (.str a0)] (.d (.str r)) []:=by
 refine pY tOk f98 rfl (Qc tOk (bC h 0 (fun _=>QlS) fun x1 h=>?_));apply Qo h<;>intro _ h
 ·cases h
  exact lfP []
 ·refine bC h 1000 (fun _=>Qb2) fun J h=>Qc tOk (gdI h fun h=>?_);obtain⟨x4,O,h⟩:=Qb h;refine Zm tOk (fun s5=>⟨0,51,[(0,.d (.str a0)),(3,.osl 6001 0 J.1.length),(15,.d (.str (J.1.getD 0 default))),(16,dB s5)],[],[(6001,.arr 9 1 J.1.length (rows encSb J.1))],[]⟩) (fun s5=>x4=s5) ?_ ?_
  ·apply Qo O<;>intro _ O
   ·exact eZ O []
   ·exact eZ O []
  ·rintro _ rfl;apply Qo h<;>intro _ h
   ·refine gdI h fun h=>?_;cases h;exact lfP []
   ·obtain⟨x8,G,h⟩:=Qb h;refine Zm tOk (fun s9=>⟨0,51,[(0,.d (.str a0)),(3,.osl 6001 0 J.1.length),(15,.d (.str (J.1.getD 0 default))),(22,dB s9)],[],[(6001,.arr 9 1 J.1.length (rows encSb J.1))],[]⟩) (fun s9=>x8=s9) ?_ ?_
    ·apply Qo G<;>intro _ G
     ·exact eZ G []
     ·apply Qo G<;>intro _ G
      ·exact eZ G []
      ·exact eZ G []
    ·rintro _ rfl;apply Qo h<;>intro _ h
     ·obtain⟨a3,h⟩:=Qf h;obtain⟨Y,h⟩:=Qf h;obtain⟨a9,h⟩:=Qf h;obtain⟨a7,h⟩:=Qf h;refine QW tOk [] 9 [] [0,1,3,7,0,16,48,127,255] [] (aI a3 (aI Y (aI a9 (aI a7 (aK ?_)))));cases h;exact lfP []
     ·obtain⟨a4,I,h⟩:=Qb h;refine Zm tOk (fun U=>⟨0,51,[(0,.d (.str a0)),(3,.osl 6001 0 J.1.length),(34,dB U)],[],[(6001,.arr 9 1 J.1.length (rows encSb J.1))],[]⟩) (fun U=>a4=U) ?_ ?_
      ·apply Qo I<;>intro _ I
       ·exact eZ I []
       ·exact eZ I []
      ·rintro _ rfl;apply Qo h<;>intro _ h
       ·obtain⟨b2,h⟩:=Qf h;obtain⟨b3,h⟩:=Qf h;obtain⟨a6,h⟩:=Qf h;obtain⟨a1,h⟩:=Qf h;obtain⟨a5,h⟩:=Qf h;obtain⟨a8,h⟩:=Qf h;obtain⟨a2,h⟩:=Qf h;refine QW tOk [] 14 [] [0,1,3,7,0,16,48,127,255,0,512,1536,4095,8191] [] (aI b2 (aI b3 (aI a6 (aI a1 (aI a5 (aI a8 (aI a2 (aK ?_))))))));cases h;exact lfP []
       ·cases h
        exact lfP []
def Qai (a0:(List Bt)) (J:Bt):Option (Int):=
 bd (lp (σ:=Int) (β:=(Int⊕Unit)) (fun s1=>
(if(decide (s1<((a0.length:Nat):Int)))=true then
 gd ((0:Int)<=s1∧s1<((a0.length:Nat):Int))<|
 bd (ZH (a0.getD s1.toNat default)) fun G=>
(if(G==J)=true then
 some (.inr (.inl s1))
else
 some (.inl (IntKind.i64.wrap (s1+1))))
else
 some (.inr (.inr ())))) 0) fun O=>
(match O with
| .inl I=>
 some I
| .inr d8=>
 some (-1))
theorem Qff {a0:(List Bt)} {O:Bt} {r:Int} (h:Qai a0 O=some r):PureC prog 97 [.d (slD encSb a0),.d (.str O)] (dI r) []:=by
 refine pY tOk f97 rfl (Qc tOk ?_);obtain⟨x4,I,h⟩:=Qb h;refine QF tOk I (fun s1=>⟨0,20,[(0,.d (slD encSb a0)),(1,.d (.str O)),(5,dI s1)],[],[],[]⟩) ?_ ?_
 ·exact leX []
 ·clear I;intro s1 y2 G J;refine Qc tOk ?_;apply Qo G<;>intro _ G
  ·refine Qc tOk (gdI G fun G=>bC G 0 (fun _=>Qa1) fun x6 G=>?_);apply Qo G<;>intro _ G
   ·cases G
    cases J _ rfl
    cases h
    exact lfP []
   ·exact eX G []
  ·cases G
   cases J _ rfl
   cases h
   exact lfP []
def Zx (a0:(List Bt)) (G:Int):Option ((List Bt)):=
 gd ((0:Int)<=(0:Int)∧(0:Int)<=G∧G<=((a0.length:Nat):Int))<|
 gd (((0)+(G.toNat))*(16+1)<=70368744177664)<|
 gd ((0:Int)<=IntKind.i64.wrap (G+1)∧IntKind.i64.wrap (G+1)<=((a0.length:Nat):Int)∧((a0.length:Nat):Int)<=((a0.length:Nat):Int))<|
 gd ((((a0.take G.toNat).length)+((QgL ((a0.length:Nat):Int) (IntKind.i64.wrap (G+1)))))*(16+1)<=70368744177664)<|
 some ((a0.take G.toNat)++(((a0).take ((IntKind.i64.wrap (G+1)).toNat+(QgL ((a0.length:Nat):Int) (IntKind.i64.wrap (G+1))))).drop ((IntKind.i64.wrap (G+1)).toNat)))
theorem Qc0 {a0:(List Bt)} {G:Int} {r:(List Bt)} (h:Zx a0 G=some r):PureC prog 99 [.d (slD encSb a0),dI G] (.osl 5001 0 r.length) [⟨5001,9,1,r.length,rows encSb r⟩]:=by
 refine pY tOk f99 rfl ?_;obtain⟨O,h⟩:=Qf h;obtain⟨J,h⟩:=Qf h;obtain⟨I,h⟩:=Qf h;refine QW tOk [] 9 [] [0,0,0,6,15,0,0,64,224] [511,1023] (aI ⟨O,.inr rfl⟩ (aI J (QyC (enc:=encSb) (ys:=a0.take G.toNat) (aI ⟨I,.inr rfl⟩ (aK (gdI h fun h=>Qf7 (enc:=encSb) (xs:=(a0.take G.toNat)) (ys:=((a0).take ((IntKind.i64.wrap (G+1)).toNat+(QgL ((a0.length:Nat):Int) (IntKind.i64.wrap (G+1))))).drop ((IntKind.i64.wrap (G+1)).toNat)) ?_))))));cases h;exact lfP [.s [(9,5001),(5001,9)]]
def JI (a0:(List Bt)) (I:Bt):Option ((List Bt)):=
 bd (lp (σ:=Int) (β:=(Int)) (fun s1=>
 gd ((decide (s1<((a0.length:Nat):Int)))=true->((0:Int)<=s1∧s1<((a0.length:Nat):Int)))<|
(if((decide (s1<((a0.length:Nat):Int)))&&(bsl (a0.getD s1.toNat default) I))=true then
 some (.inl (IntKind.i64.wrap (s1+1)))
else
 some (.inr s1))) 0) fun G=>
 gd ((0:Int)<=(0:Int)∧(0:Int)<=G∧G<=((a0.length:Nat):Int))<|
 gd (((0)+(G.toNat))*(16+1)<=70368744177664)<|
 gd ((((a0.take G.toNat).length)+(([I]:List Bt).length))*(16+1)<=70368744177664)<|
 gd ((0:Int)<=G∧G<=((a0.length:Nat):Int)∧((a0.length:Nat):Int)<=((a0.length:Nat):Int))<|
 gd (((((a0.take G.toNat)++([I]:List Bt)).length)+((QgL ((a0.length:Nat):Int) G)))*(16+1)<=70368744177664)<|
 some (((a0.take G.toNat)++([I]:List Bt))++(((a0).take (G.toNat+(QgL ((a0.length:Nat):Int) G))).drop G.toNat))
theorem Qfg {a0:(List Bt)} {G:Bt} {r:(List Bt)} (h:JI a0 G=some r):PureC prog 100 [.d (slD encSb a0),.d (.str G)] (.osl 5001 0 r.length) [⟨5001,9,1,r.length,rows encSb r⟩]:=by
 refine pY tOk f100 rfl (Qc tOk ?_);obtain⟨x4,J,h⟩:=Qb h;refine QF tOk J (fun s1=>⟨0,32,[(0,.d (slD encSb a0)),(1,.d (.str G)),(5,dI s1)],[],[],[]⟩) ?_ ?_
 ·exact leX []
 ·clear J;intro s1 y2 I U;refine Qc tOk (gdI I fun I=>?_);apply Qo I<;>intro _ I
  ·exact eX I []
  ·cases I
   obtain rfl:=U _ rfl;obtain⟨g7,h⟩:=Qf h;obtain⟨g8,h⟩:=Qf h;obtain⟨g9,h⟩:=Qf h;obtain⟨O,h⟩:=Qf h;obtain⟨Y,h⟩:=Qf h;refine Qas tOk [.a 4 [] (.osl 24 0 ((a0.take s1.toNat).length)) [(24,.arr 9 1 ((a0.take s1.toNat).length) (rows encSb (a0.take s1.toNat)))],.a 7 [(24,.arr 9 1 ((a0.take s1.toNat).length) (rows encSb (a0.take s1.toNat)))] (.osl 27 0 (((a0.take s1.toNat)++([G]:List Bt)).length)) [(27,.arr 9 1 (((a0.take s1.toNat)++([G]:List Bt)).length) (rows encSb ((a0.take s1.toNat)++([G]:List Bt))))],.a 11 [(27,.arr 9 1 (((a0.take s1.toNat)++([G]:List Bt)).length) (rows encSb ((a0.take s1.toNat)++([G]:List Bt))))] (.osl 31 0 ((((a0.take s1.toNat)++([G]:List Bt))++(((a0).take (s1.toNat+(QgL ((a0.length:Nat):Int) s1))).drop s1.toNat)).length)) [(31,.arr 9 1 ((((a0.take s1.toNat)++([G]:List Bt))++(((a0).take (s1.toNat+(QgL ((a0.length:Nat):Int) s1))).drop s1.toNat)).length) (rows encSb (((a0.take s1.toNat)++([G]:List Bt))++(((a0).take (s1.toNat+(QgL ((a0.length:Nat):Int) s1))).drop s1.toNat))))]] 13 [] [0,0,0,6,15,0,32,127,0,0,768,2047,4095] [] [] (aI ⟨g7,.inr rfl⟩ (aI (by(conv=>whnf);exact⟨g8,QyC (enc:=encSb) (ys:=a0.take s1.toNat) ⟨rfl,rfl⟩⟩) (QbB (enc:=encSb) ([G]:List Bt) (aI (by(conv=>whnf);exact⟨g9,Qf7 (enc:=encSb) (xs:=(a0.take s1.toNat)) (ys:=([G]:List Bt)) ⟨rfl,rfl⟩⟩) (aI ⟨O,.inr rfl⟩ (aI (by(conv=>whnf);exact⟨Y,Qf7 (enc:=encSb) (xs:=((a0.take s1.toNat)++([G]:List Bt))) (ys:=((a0).take (s1.toNat+(QgL ((a0.length:Nat):Int) s1))).drop s1.toNat) ⟨rfl,rfl⟩⟩) (aK ?_)))))));cases h;exact lfP [.s [(31,5001),(5001,31)]]
def Qdd (a0:(List Bt)):Option ((List Bt)):=
 bd (lp (σ:=List Bt×Int) (β:=(Nat×(List Bt))) (fun s1=>
(if(decide (s1.2<((a0.length:Nat):Int)))=true then
 gd ((0:Int)<=s1.2∧s1.2<((a0.length:Nat):Int))<|
 bd (ZH (a0.getD s1.2.toNat default)) fun G=>
 gd (((s1.1.length)+(([G]:List Bt).length))*(16+1)<=70368744177664)<|
 some (.inl ((s1.1++([G]:List Bt)),IntKind.i64.wrap (s1.2+1)))
else
 some (.inr (s1.1.length,s1.1)))) (([]:List Bt),0)) fun I=>
 some I.2
theorem QlT {a0:(List Bt)} {r:(List Bt)} (h:Qdd a0=some r):PureC prog 86 [.d (slD encSb a0)] (.osl 5001 0 r.length) [⟨5001,9,1,r.length,rows encSb r⟩]:=by
 refine pY tOk f86 rfl (Qc tOk ?_);obtain⟨x4,I,h⟩:=Qb h;refine QF tOk I (fun s1=>⟨0,21,[(0,.d (slD encSb a0)),(3,.osl 7001 0 s1.1.length),(4,dI s1.2)],[],[(7001,.arr 9 1 s1.1.length (rows encSb s1.1))],[]⟩) ?_ ?_
 ·exact leX [.k [7001],.p 7001 9 1 (rows encSb ([]:List Bt))]
 ·clear I;intro s1 y2 G J;refine Qc tOk ?_;apply Qo G<;>intro _ G
  ·refine Qc tOk (gdI G fun G=>bC G 0 (fun _=>Qa1) fun O G=>QbB (enc:=encSb) ([O]:List Bt) (gdI G fun G=>Qf7 (enc:=encSb) (xs:=s1.1) (ys:=([O]:List Bt)) ?_));exact eX G []
  ·cases G
   cases J _ rfl
   cases h
   exact lfP [.s [(5001,7001),(7001,5001)]]
def Q7 (a0:(List Bt)):Option (Int):=
(if(decide (((a0.length:Nat):Int)>16))=true then
 some 1
else
 bd (Qdd a0) fun J=>
 bd (lp (σ:=Int) (β:=(Unit⊕Unit)) (fun O=>
(if(decide (O<((a0.length:Nat):Int)))=true then
 gd ((0:Int)<=O∧O<((J.length:Nat):Int))<|
(if((J.getD O.toNat default)==(⟨#[]⟩:Bt))=true then
 some (.inr (.inl ()))
else
 some (.inl (IntKind.i64.wrap (O+1))))
else
 some (.inr (.inr ())))) 0) fun x5=>
(match x5 with
| .inl d7=>
 some 2
| .inr d8=>
 bd (lp (σ:=Int) (β:=(Unit⊕Unit)) (fun I=>
(if(decide (I<((a0.length:Nat):Int)))=true then
 gd ((0:Int)<=IntKind.i64.wrap (I-1)∧IntKind.i64.wrap (I-1)<((a0.length:Nat):Int))<|
 gd ((0:Int)<=I∧I<((a0.length:Nat):Int))<|
(if(!(bsl (a0.getD ((IntKind.i64.wrap (I-1)).toNat) default) (a0.getD I.toNat default)))=true then
 some (.inr (.inl ()))
else
 some (.inl (IntKind.i64.wrap (I+1))))
else
 some (.inr (.inr ())))) 1) fun a1=>
(match a1 with
| .inl d15=>
 some 3
| .inr d16=>
 bd (lp (σ:=Int) (β:=(Unit⊕Unit)) (fun G=>
(if(decide (G<((a0.length:Nat):Int)))=true then
 gd ((0:Int)<=(0:Int)∧(0:Int)<=G∧G<=((J.length:Nat):Int))<|
 gd ((0:Int)<=G∧G<((J.length:Nat):Int))<|
 bd (QaH (J.take G.toNat) (J.getD G.toNat default)) fun U=>
(if U=true then
 some (.inr (.inl ()))
else
 some (.inl (IntKind.i64.wrap (G+1))))
else
 some (.inr (.inr ())))) 0) fun Y=>
(match Y with
| .inl d24=>
 some 4
| .inr d25=>
 some 0))))
theorem ZI {a0:(List Bt)} {r:Int} (h:Q7 a0=some r):PureC prog 38 [.d (slD encSb a0)] (dI r) []:=by
 refine pY tOk f38 rfl (Qc tOk ?_);apply Qo h<;>intro _ h
 ·cases h
  exact lfP []
 ·refine bC h 1000 (fun _=>QlT) fun O h=>Qc tOk ?_;obtain⟨x5,a4,h⟩:=Qb h;refine QF tOk a4 (fun s2=>⟨0,53,[(0,.d (slD encSb a0)),(3,.osl 6001 0 O.length),(4,dI s2)],[],[(6001,.arr 9 1 O.length (rows encSb O))],[]⟩) ?_ ?_
  ·exact leX []
  ·clear a4;intro s2 y3 J a3;refine Qc tOk ?_;apply Qo J<;>intro _ J
   ·refine Qc tOk (gdI J fun J=>?_);apply Qo J<;>intro _ J
    ·cases J
     cases a3 _ rfl
     cases h
     exact lfP []
    ·exact eX J []
   ·cases J
    cases a3 _ rfl
    refine Qc tOk ?_;obtain⟨x12,Y,h⟩:=Qb h;refine QF tOk Y (fun s9=>⟨0,53,[(0,.d (slD encSb a0)),(3,.osl 6001 0 O.length),(5,dI s9)],[],[(6001,.arr 9 1 O.length (rows encSb O))],[]⟩) ?_ ?_
    ·exact leX []
    ·clear Y;intro s9 y10 I a2;refine Qc tOk ?_;apply Qo I<;>intro _ I
     ·refine Qc tOk ?_;obtain⟨b3,I⟩:=Qf I;obtain⟨b2,I⟩:=Qf I;refine QW tOk [] 10 [] [0,0,2,7,15,0,0,96,224,511] [] (aI b3 (aI b2 (aK ?_)));apply Qo I<;>intro _ I
      ·cases I
       cases a2 _ rfl
       cases h
       exact lfP []
      ·exact eX I []
     ·cases I
      cases a2 _ rfl
      refine Qc tOk ?_;obtain⟨x20,a1,h⟩:=Qb h;refine QF tOk a1 (fun a5=>⟨0,53,[(0,.d (slD encSb a0)),(3,.osl 6001 0 O.length),(6,dI a5)],[],[(6001,.arr 9 1 O.length (rows encSb O))],[]⟩) ?_ ?_
      ·exact leX []
      ·clear a1;intro a5 y18 G U;refine Qc tOk ?_;apply Qo G<;>intro _ G
       ·refine Qc tOk ?_;obtain⟨a7,G⟩:=Qf G;obtain⟨a9,G⟩:=Qf G;obtain⟨a8,a6,G⟩:=Qb G;refine QW tOk [.u 7 0 (dB a8) []] 8 [] [0,0,3,0,0,24,56,127] [] (aI a7 (aI a9 (aI (QwT (QdR a6) rfl QsG) (aK ?_))));apply Qo G<;>intro _ G
        ·cases G
         cases U _ rfl
         cases h
         exact lfP []
        ·exact eX G []
       ·cases G
        cases U _ rfl
        cases h
        exact lfP []
def Qde (a0:(List Bt)):Option ((List QAq)):=
 bd (lp (σ:=List QAq×Int) (β:=(Nat×(List QAq))) (fun s1=>
(if(decide (s1.2<((a0.length:Nat):Int)))=true then
 gd ((0:Int)<=s1.2∧s1.2<((a0.length:Nat):Int))<|
 bd (Ja (a0.getD s1.2.toNat default)) fun G=>
 gd (((s1.1.length)+(([(⟨G.1⟩:QAq)]:List QAq).length))*(24+1)<=70368744177664)<|
 some (.inl ((s1.1++([(⟨G.1⟩:QAq)]:List QAq)),IntKind.i64.wrap (s1.2+1)))
else
 some (.inr (s1.1.length,s1.1)))) (([]:List QAq),0)) fun I=>
 some I.2
theorem QlU {a0:(List Bt)} {r:(List QAq)} (h:Qde a0=some r):EffC prog 39 [.d (slD encSb a0)] [] (.osl 5001 0 r.length) [(5001,.arr 101 1 r.length (rows QAq.enc r))]:=by
 refine eY tOk f39 rfl (Qc tOk ?_);obtain⟨x4,I,h⟩:=Qb h;refine QF tOk I (fun s1=>⟨0,28,[(0,.d (slD encSb a0)),(3,.osl 7001 0 s1.1.length),(4,dI s1.2)],[],[(7001,.arr 101 1 s1.1.length (rows QAq.enc s1.1))],[⟨[],[]⟩]⟩) ?_ ?_
 ·exact leX [.k [7001],.p 7001 101 1 (rows QAq.enc ([]:List QAq))]
 ·clear I;intro s1 y2 G J;refine Qc tOk ?_;apply Qo G<;>intro _ G
  ·refine Qc tOk (gdI G fun G=>bC G 1000 (fun _=>Qb2) fun O G=>QbB (enc:=QAq.enc) ([(⟨O.1⟩:QAq)]:List QAq) (gdI G fun G=>Qf7 (enc:=QAq.enc) (xs:=s1.1) (ys:=([(⟨O.1⟩:QAq)]:List QAq)) ?_));exact eX G []
  ·cases G
   cases J _ rfl
   cases h
   exact lfE [.s [(5001,7001),(7001,5001)]]
def Qg (a0:QAq) (G:Int):Option (Bt):=
(if(decide (G<((a0.w.length:Nat):Int)))=true then
 gd ((0:Int)<=G∧G<((a0.w.length:Nat):Int))<|
 some (a0.w.getD G.toNat default)
else
 some (⟨#[]⟩:Bt))
theorem Qk {a0:QAq} {G:Int} {r:Bt} (h:Qg a0 G=some r):PureC prog 89 [.agg [.d (slD encSb a0.w)],dI G] (.d (.str r)) []:=by
 refine pY tOk f89 rfl (Qc tOk ?_);apply Qo h<;>intro _ h
 ·refine gdI h fun h=>?_;cases h;exact lfP []
 ·cases h
  exact lfP []
def Qdf (a0:(List QAq)):Option (Bool):=
 bd (lp (σ:=Int) (β:=(Unit⊕Unit)) (fun s1=>
(if(decide (s1<((a0.length:Nat):Int)))=true then
 gd ((0:Int)<=s1∧s1<((a0.length:Nat):Int))<|
 bd (Qg (a0.getD s1.toNat default) 0) fun G=>
 gd ((G==(⟨#[117,115,101,114]⟩:Bt))=true->((0:Int)<=s1∧s1<((a0.length:Nat):Int)))<|
 bd (gcall ((G==(⟨#[117,115,101,114]⟩:Bt))=true) (Qg (a0.getD s1.toNat default) 2)) fun I=>
(if((G==(⟨#[117,115,101,114]⟩:Bt))&&(I==(⟨#[97,108,108]⟩:Bt)))=true then
 some (.inr (.inl ()))
else
 some (.inl (IntKind.i64.wrap (s1+1))))
else
 some (.inr (.inr ())))) 0) fun J=>
(match J with
| .inl d9=>
 some true
| .inr d10=>
 some false)
theorem QlV {a0:(List QAq)} {r:Bool} (h:Qdf a0=some r):PureC prog 40 [.d (slD QAq.enc a0)] (dB r) []:=by
 refine pY tOk f40 rfl (Qc tOk ?_);obtain⟨x4,I,h⟩:=Qb h;refine QF tOk I (fun s1=>⟨0,24,[(0,.d (slD QAq.enc a0)),(3,dI s1)],[],[],[]⟩) ?_ ?_
 ·exact leX []
 ·clear I;intro s1 y2 G J;refine Qc tOk ?_;apply Qo G<;>intro _ G
  ·refine Qc tOk (gdI G fun G=>bC G 0 (fun _=>Qk) fun x6 G=>gdI G fun G=>bG G (fun _=>Qk) fun x8 G=>?_);apply Qo G<;>intro _ G
   ·cases G
    cases J _ rfl
    cases h
    exact lfP []
   ·exact eX G []
  ·cases G
   cases J _ rfl
   cases h
   exact lfP []
def Qa2 (a0:(List QAq)) (J:Bt):Option (Int):=
 bd (lp (σ:=Int×Int) (β:=(Int)) (fun s1=>
(if(decide (s1.2<((a0.length:Nat):Int)))=true then
 gd ((0:Int)<=s1.2∧s1.2<((a0.length:Nat):Int))<|
 bd (Qg (a0.getD s1.2.toNat default) 0) fun G=>
 gd ((G==(⟨#[114,117,108,101]⟩:Bt))=true->((0:Int)<=s1.2∧s1.2<((a0.length:Nat):Int)))<|
 bd (gcall ((G==(⟨#[114,117,108,101]⟩:Bt))=true) (Qg (a0.getD s1.2.toNat default) 1)) fun I=>
(if((G==(⟨#[114,117,108,101]⟩:Bt))&&(I==J))=true then
 some (.inl (IntKind.i64.wrap (s1.1+1),IntKind.i64.wrap (s1.2+1)))
else
 some (.inl (s1.1,IntKind.i64.wrap (s1.2+1))))
else
 some (.inr s1.1))) (0,0)) fun O=>
 some O
theorem Qg2 {a0:(List QAq)} {O:Bt} {r:Int} (h:Qa2 a0 O=some r):PureC prog 90 [.d (slD QAq.enc a0),.d (.str O)] (dI r) []:=by
 refine pY tOk f90 rfl (Qc tOk ?_);obtain⟨x4,I,h⟩:=Qb h;refine QF tOk I (fun s1=>⟨0,31,[(0,.d (slD QAq.enc a0)),(1,.d (.str O)),(5,dI s1.1),(6,dI s1.2)],[],[],[]⟩) ?_ ?_
 ·exact leX []
 ·clear I;intro s1 y2 G J;refine Qc tOk ?_;apply Qo G<;>intro _ G
  ·refine Qc tOk (gdI G fun G=>bC G 0 (fun _=>Qk) fun x6 G=>gdI G fun G=>bG G (fun _=>Qk) fun x8 G=>?_);apply Qo G<;>intro _ G
   ·exact eX G []
   ·exact eX G []
  ·cases G
   cases J _ rfl
   cases h
   exact lfP []
def Qcq (a0:(List QAq)):Option (Bool):=
 bd (lp (σ:=Int) (β:=(Unit⊕Unit)) (fun s1=>
(if(decide (s1<((a0.length:Nat):Int)))=true then
 gd ((0:Int)<=s1∧s1<((a0.length:Nat):Int))<|
 bd (Qg (a0.getD s1.toNat default) 0) fun I=>
 gd ((I==(⟨#[112,111,114,116]⟩:Bt))=true->((0:Int)<=s1∧s1<((a0.length:Nat):Int)))<|
 bd (gcall ((I==(⟨#[112,111,114,116]⟩:Bt))=true) (Qg (a0.getD s1.toNat default) 4)) fun J=>
 gd (((I==(⟨#[112,111,114,116]⟩:Bt))&&(!(J==(⟨#[]⟩:Bt))))=true->((0:Int)<=s1∧s1<((a0.length:Nat):Int)))<|
 bd (gcall (((I==(⟨#[112,111,114,116]⟩:Bt))&&(!(J==(⟨#[]⟩:Bt))))=true) (Qg (a0.getD s1.toNat default) 4)) fun Y=>
 bd (gcall (((I==(⟨#[112,111,114,116]⟩:Bt))&&(!(J==(⟨#[]⟩:Bt))))=true) (Qa2 a0 Y)) fun a1=>
(if(((I==(⟨#[112,111,114,116]⟩:Bt))&&(!(J==(⟨#[]⟩:Bt))))&&(a1==0))=true then
 some (.inr (.inl ()))
else
 gd ((0:Int)<=s1∧s1<((a0.length:Nat):Int))<|
 bd (Qg (a0.getD s1.toNat default) 0) fun G=>
 gd ((G==(⟨#[114,117,108,101]⟩:Bt))=true->((0:Int)<=s1∧s1<((a0.length:Nat):Int)))<|
 bd (gcall ((G==(⟨#[114,117,108,101]⟩:Bt))=true) (Qg (a0.getD s1.toNat default) 1)) fun O=>
 bd (gcall ((G==(⟨#[114,117,108,101]⟩:Bt))=true) (Qa2 a0 O)) fun U=>
(if((G==(⟨#[114,117,108,101]⟩:Bt))&&(decide (U>12)))=true then
 some (.inr (.inl ()))
else
 some (.inl (IntKind.i64.wrap (s1+1)))))
else
 some (.inr (.inr ())))) 0) fun x4=>
(match x4 with
| .inl d17=>
 some false
| .inr d18=>
 some true)
theorem Qkx {a0:(List QAq)} {r:Bool} (h:Qcq a0=some r):PureC prog 41 [.d (slD QAq.enc a0)] (dB r) []:=by
 refine pY tOk f41 rfl (Qc tOk ?_);obtain⟨x4,J,h⟩:=Qb h;refine QF tOk J (fun s1=>⟨0,50,[(0,.d (slD QAq.enc a0)),(3,dI s1)],[],[],[]⟩) ?_ ?_
 ·exact leX []
 ·clear J;intro s1 y2 G I;refine Qc tOk ?_;apply Qo G<;>intro _ G
  ·refine Qc tOk (Qc tOk (gdI G fun G=>bC G 0 (fun _=>Qk) fun x6 G=>gdI G fun G=>bG G (fun _=>Qk) fun x8 G=>gdI G fun G=>bG G (fun _=>Qk) fun x10 G=>bG G (fun _=>Qg2) fun x11 G=>?_));apply Qo G<;>intro _ G
   ·cases G
    cases I _ rfl
    cases h
    exact lfP []
   ·refine gdI G fun G=>bC G 0 (fun _=>Qk) fun x13 G=>gdI G fun G=>bG G (fun _=>Qk) fun x15 G=>bG G (fun _=>Qg2) fun x16 G=>?_;apply Qo G<;>intro _ G
    ·cases G
     cases I _ rfl
     cases h
     exact lfP []
    ·exact eX G []
  ·cases G
   cases I _ rfl
   cases h
   exact lfP []
def Qcr (a0:(List QAq)):Option (Bool):=
 bd (lp (σ:=Int) (β:=(Unit⊕Unit)) (fun s1=>
(if(decide (s1<((a0.length:Nat):Int)))=true then
 bd (lp (σ:=Int) (β:=(Unit⊕Unit)) (fun G=>
(if(decide (G<s1))=true then
 gd ((0:Int)<=s1∧s1<((a0.length:Nat):Int))<|
 bd (Qg (a0.getD s1.toNat default) 0) fun O=>
 gd ((!(O==(⟨#[112,111,114,116]⟩:Bt)))=false->((0:Int)<=G∧G<((a0.length:Nat):Int)))<|
 bd (gcall ((!(O==(⟨#[112,111,114,116]⟩:Bt)))=false) (Qg (a0.getD G.toNat default) 0)) fun a1=>
(if((!(O==(⟨#[112,111,114,116]⟩:Bt)))||(!(a1==(⟨#[112,111,114,116]⟩:Bt))))=true then
 some (.inl (IntKind.i64.wrap (G+1)))
else
 gd ((0:Int)<=s1∧s1<((a0.length:Nat):Int))<|
 bd (Qg (a0.getD s1.toNat default) 2) fun Y=>
 bd (Zt Y) fun I=>
 gd ((0:Int)<=G∧G<((a0.length:Nat):Int))<|
 bd (Qg (a0.getD G.toNat default) 2) fun U=>
 bd (Zt U) fun J=>
(if((decide (I.1<(IntKind.i64.wrap (J.1+J.2))))&&(decide (J.1<(IntKind.i64.wrap (I.1+I.2)))))=true then
 some (.inr (.inl ()))
else
 some (.inl (IntKind.i64.wrap (G+1)))))
else
 some (.inr (.inr ())))) 0) fun x8=>
(match x8 with
| .inl d19=>
 some (.inr (.inl ()))
| .inr d20=>
 some (.inl (IntKind.i64.wrap (s1+1))))
else
 some (.inr (.inr ())))) 0) fun x4=>
(match x4 with
| .inl d21=>
 some false
| .inr d22=>
 some true)
theorem Qky {a0:(List QAq)} {r:Bool} (h:Qcr a0=some r):PureC prog 42 [.d (slD QAq.enc a0)] (dB r) []:=by
 refine pY tOk f42 rfl (Qc tOk ?_);obtain⟨x4,J,h⟩:=Qb h;refine QF tOk J (fun s1=>⟨0,64,[(0,.d (slD QAq.enc a0)),(3,dI s1)],[],[],[]⟩) ?_ ?_
 ·exact leX []
 ·clear J;intro s1 y2 I O;refine Qc tOk ?_;apply Qo I<;>intro _ I
  ·refine Qc tOk ?_;obtain⟨x8,Y,I⟩:=Qb I;refine QF tOk Y (fun s5=>⟨0,64,[(0,.d (slD QAq.enc a0)),(3,dI s1),(4,dI s5)],[],[],[]⟩) ?_ ?_
   ·exact leX []
   ·clear Y;intro s5 y6 G U;refine Qc tOk ?_;apply Qo G<;>intro _ G
    ·refine Qc tOk (Qc tOk (gdI G fun G=>bC G 0 (fun _=>Qk) fun x10 G=>gdI G fun G=>bG G (fun _=>Qk) fun x12 G=>?_));apply Qo G<;>intro _ G
     ·exact eX G []
     ·refine gdI G fun G=>bC G 0 (fun _=>Qk) fun x14 G=>bC G 0 (fun _=>Qad) fun x15 G=>gdI G fun G=>bC G 0 (fun _=>Qk) fun x17 G=>bC G 0 (fun _=>Qad) fun x18 G=>?_;apply Qo G<;>intro _ G
      ·cases G
       cases U _ rfl
       cases I
       cases O _ rfl
       cases h
       exact lfP []
      ·exact eX G []
    ·cases G
     cases U _ rfl
     exact eX I []
  ·cases I
   cases O _ rfl
   cases h
   exact lfP []
def QbO (a0:(List QAq)) (I:Int):Option (Bool):=
 bd (lp (σ:=Int) (β:=(Unit⊕Unit)) (fun s1=>
(if(decide (s1<((a0.length:Nat):Int)))=true then
 gd ((0:Int)<=s1∧s1<((a0.length:Nat):Int))<|
 bd (Qg (a0.getD s1.toNat default) 0) fun J=>
(if(J==(⟨#[112,111,114,116]⟩:Bt))=true then
 gd ((0:Int)<=s1∧s1<((a0.length:Nat):Int))<|
 bd (Qg (a0.getD s1.toNat default) 2) fun O=>
 bd (Zt O) fun G=>
(if((decide (I>G.1))&&(decide (I<(IntKind.i64.wrap (G.1+G.2)))))=true then
 some (.inr (.inl ()))
else
 some (.inl (IntKind.i64.wrap (s1+1))))
else
 some (.inl (IntKind.i64.wrap (s1+1))))
else
 some (.inr (.inr ())))) 0) fun U=>
(match U with
| .inl d10=>
 some true
| .inr d11=>
 some false)
theorem Qg3 {a0:(List QAq)} {O:Int} {r:Bool} (h:QbO a0 O=some r):PureC prog 92 [.d (slD QAq.enc a0),dI O] (dB r) []:=by
 refine pY tOk f92 rfl (Qc tOk ?_);obtain⟨x4,I,h⟩:=Qb h;refine QF tOk I (fun s1=>⟨0,39,[(0,.d (slD QAq.enc a0)),(1,dI O),(5,dI s1)],[],[],[]⟩) ?_ ?_
 ·exact leX []
 ·clear I;intro s1 y2 G J;refine Qc tOk ?_;apply Qo G<;>intro _ G
  ·refine Qc tOk (gdI G fun G=>bC G 0 (fun _=>Qk) fun x6 G=>?_);apply Qo G<;>intro _ G
   ·refine gdI G fun G=>bC G 0 (fun _=>Qk) fun x8 G=>bC G 0 (fun _=>Qad) fun x9 G=>?_;apply Qo G<;>intro _ G
    ·cases G
     cases J _ rfl
     cases h
     exact lfP []
    ·exact eX G []
   ·exact eX G []
  ·cases G
   cases J _ rfl
   cases h
   exact lfP []
def Qcs (a0:(List QAq)):Option (Bool):=
 bd (lp (σ:=Int) (β:=(Unit⊕Unit)) (fun s1=>
(if(decide (s1<((a0.length:Nat):Int)))=true then
 gd ((0:Int)<=s1∧s1<((a0.length:Nat):Int))<|
 bd (Qg (a0.getD s1.toNat default) 0) fun U=>
(if(U==(⟨#[114,111,117,116,101]⟩:Bt))=true then
 gd ((0:Int)<=s1∧s1<((a0.length:Nat):Int))<|
 bd (Qg (a0.getD s1.toNat default) 2) fun Y=>
 bd (Zf Y) fun x9=>
 bd (QbO a0 x9) fun O=>
(if(!O)=true then
 some (.inr (.inl ()))
else
 some (.inl (IntKind.i64.wrap (s1+1))))
else
(if(U==(⟨#[112,101,101,114]⟩:Bt))=true then
 gd ((0:Int)<=s1∧s1<((a0.length:Nat):Int))<|
 bd (Qg (a0.getD s1.toNat default) 1) fun J=>
 bd (Zf J) fun G=>
 bd (QbO a0 G) fun I=>
(if(!I)=true then
 some (.inr (.inl ()))
else
 some (.inl (IntKind.i64.wrap (s1+1))))
else
 some (.inl (IntKind.i64.wrap (s1+1)))))
else
 some (.inr (.inr ())))) 0) fun x4=>
(match x4 with
| .inl d15=>
 some false
| .inr d16=>
 some true)
theorem Qkz {a0:(List QAq)} {r:Bool} (h:Qcs a0=some r):PureC prog 43 [.d (slD QAq.enc a0)] (dB r) []:=by
 refine pY tOk f43 rfl (Qc tOk ?_);obtain⟨x4,J,h⟩:=Qb h;refine QF tOk J (fun s1=>⟨0,37,[(0,.d (slD QAq.enc a0)),(3,dI s1)],[],[],[]⟩) ?_ ?_
 ·exact leX []
 ·clear J;intro s1 y2 G I;refine Qc tOk ?_;apply Qo G<;>intro _ G
  ·refine Qc tOk (gdI G fun G=>bC G 0 (fun _=>Qk) fun x6 G=>?_);apply Qo G<;>intro _ G
   ·refine gdI G fun G=>bC G 0 (fun _=>Qk) fun x8 G=>bC G 0 (fun _=>Z0) fun x9 G=>bC G 0 (fun _=>Qg3) fun x10 G=>?_;apply Qo G<;>intro _ G
    ·cases G
     cases I _ rfl
     cases h
     exact lfP []
    ·exact eX G []
   ·apply Qo G<;>intro _ G
    ·refine gdI G fun G=>bC G 0 (fun _=>Qk) fun x12 G=>bC G 0 (fun _=>Z0) fun x13 G=>bC G 0 (fun _=>Qg3) fun x14 G=>?_;apply Qo G<;>intro _ G
     ·cases G
      cases I _ rfl
      cases h
      exact lfP []
     ·exact eX G []
    ·exact eX G []
  ·cases G
   cases I _ rfl
   cases h
   exact lfP []
def QdS (a0:(List QAq)):Option (Int):=
 bd (lp (σ:=Int) (β:=(Int⊕Unit)) (fun s1=>
(if(decide (s1<((a0.length:Nat):Int)))=true then
 gd ((0:Int)<=s1∧s1<((a0.length:Nat):Int))<|
 bd (Qg (a0.getD s1.toNat default) 0) fun G=>
(if(G==(⟨#[110,97,116]⟩:Bt))=true then
 some (.inr (.inl s1))
else
 some (.inl (IntKind.i64.wrap (s1+1))))
else
 some (.inr (.inr ())))) 0) fun I=>
(match I with
| .inl J=>
 some J
| .inr d8=>
 some (-1))
theorem Qm8 {a0:(List QAq)} {r:Int} (h:QdS a0=some r):PureC prog 94 [.d (slD QAq.enc a0)] (dI r) []:=by
 refine pY tOk f94 rfl (Qc tOk ?_);obtain⟨x4,I,h⟩:=Qb h;refine QF tOk I (fun s1=>⟨0,17,[(0,.d (slD QAq.enc a0)),(3,dI s1)],[],[],[]⟩) ?_ ?_
 ·exact leX []
 ·clear I;intro s1 y2 G J;refine Qc tOk ?_;apply Qo G<;>intro _ G
  ·refine Qc tOk (gdI G fun G=>bC G 0 (fun _=>Qk) fun x6 G=>?_);apply Qo G<;>intro _ G
   ·cases G
    cases J _ rfl
    cases h
    exact lfP []
   ·exact eX G []
  ·cases G
   cases J _ rfl
   cases h
   exact lfP []
def Qdg (a0:(List QAq)) (a1:Int) (a2:QAq):Option (Bool):=
 gd ((0:Int)<=a1∧a1<((a0.length:Nat):Int))<|
 bd (Qg a2 1) fun x2=>
 bd (Zt x2) fun J=>
 bd (Qg (a0.getD a1.toNat default) 3) fun x4=>
 bd (Zf x4) fun Y=>
 bd (gcall (((decide (Y<J.1))||(decide (Y>=(IntKind.i64.wrap (J.1+J.2)))))=false) (Qg (a0.getD a1.toNat default) 2)) fun x6=>
 bd (gcall (((decide (Y<J.1))||(decide (Y>=(IntKind.i64.wrap (J.1+J.2)))))=false) (Qg a2 3)) fun x7=>
 bd (gcall (((decide (Y<J.1))||(decide (Y>=(IntKind.i64.wrap (J.1+J.2)))))=false) (ZN x7)) fun x8=>
 bd (gcall (((decide (Y<J.1))||(decide (Y>=(IntKind.i64.wrap (J.1+J.2)))))=false) (Qg a2 4)) fun x9=>
 bd (gcall (((decide (Y<J.1))||(decide (Y>=(IntKind.i64.wrap (J.1+J.2)))))=false) (ZN x9)) fun a6=>
 bd (gcall (((decide (Y<J.1))||(decide (Y>=(IntKind.i64.wrap (J.1+J.2)))))=false) (Zh x6 x8 a6)) fun a9=>
(if(((decide (Y<J.1))||(decide (Y>=(IntKind.i64.wrap (J.1+J.2)))))||a9)=true then
 some false
else
 bd (lp (σ:=Int) (β:=(Unit⊕Unit)) (fun G=>
(if(decide (G<a1))=true then
 gd ((0:Int)<=G∧G<((a0.length:Nat):Int))<|
 bd (Qg (a0.getD G.toNat default) 0) fun I=>
 gd ((I==(⟨#[100,111,111,114]⟩:Bt))=true->((0:Int)<=G∧G<((a0.length:Nat):Int)))<|
 bd (gcall ((I==(⟨#[100,111,111,114]⟩:Bt))=true) (Qg (a0.getD G.toNat default) 1)) fun U=>
 bd (gcall ((I==(⟨#[100,111,111,114]⟩:Bt))=true) (Qg (a0.getD a1.toNat default) 1)) fun O=>
 gd (((I==(⟨#[100,111,111,114]⟩:Bt))&&(U==O))=true->((0:Int)<=G∧G<((a0.length:Nat):Int)))<|
 bd (gcall (((I==(⟨#[100,111,111,114]⟩:Bt))&&(U==O))=true) (Qg (a0.getD G.toNat default) 3)) fun a3=>
 bd (gcall (((I==(⟨#[100,111,111,114]⟩:Bt))&&(U==O))=true) (Qg (a0.getD a1.toNat default) 3)) fun a4=>
 gd ((((I==(⟨#[100,111,111,114]⟩:Bt))&&(U==O))&&(a3==a4))=true->((0:Int)<=G∧G<((a0.length:Nat):Int)))<|
 bd (gcall ((((I==(⟨#[100,111,111,114]⟩:Bt))&&(U==O))&&(a3==a4))=true) (Qg (a0.getD G.toNat default) 4)) fun a7=>
 bd (gcall ((((I==(⟨#[100,111,111,114]⟩:Bt))&&(U==O))&&(a3==a4))=true) (Qg (a0.getD a1.toNat default) 4)) fun a5=>
(if((((I==(⟨#[100,111,111,114]⟩:Bt))&&(U==O))&&(a3==a4))&&(a7==a5))=true then
 some (.inr (.inl ()))
else
 some (.inl (IntKind.i64.wrap (G+1))))
else
 some (.inr (.inr ())))) 0) fun a8=>
(match a8 with
| .inl d27=>
 some false
| .inr d28=>
 some true))
theorem QlW {a0:(List QAq)} {a1:Int} {a2:QAq} {r:Bool} (h:Qdg a0 a1 a2=some r):PureC prog 95 [.d (slD QAq.enc a0),dI a1,.agg [.d (slD encSb a2.w)]] (dB r) []:=by
 refine pY tOk f95 rfl (gdI h fun h=>bC h 0 (fun _=>Qk) fun x2 h=>bC h 0 (fun _=>Qad) fun x3 h=>bC h 0 (fun _=>Qk) fun x4 h=>bC h 0 (fun _=>Z0) fun x5 h=>Qc tOk ?_);obtain⟨x6,b3,h⟩:=Qb h;obtain⟨x7,c7,h⟩:=Qb h;obtain⟨x8,c3,h⟩:=Qb h;obtain⟨x9,b5,h⟩:=Qb h;obtain⟨c2,a8,h⟩:=Qb h;obtain⟨c6,U,h⟩:=Qb h;refine QW tOk [.u 12 0 (.d (.str x6)) [],.u 14 0 (.d (.str x7)) [],.u 15 0 (dI x8) [],.u 17 0 (.d (.str x9)) [],.u 18 0 (dI c2) [],.u 19 0 (dB c6) []] 21 [] [0,0,3,7,15,15,15,111,255,511,1023,2047,4095,2047,16383,32767,2047,131071,262143,524287,1048575] [] (aI (Qw rfl rfl rfl rfl (by intro I;exact Qk (Qn b3 I))) (aI (Qw rfl rfl rfl rfl (by intro I;exact Qk (Qn c7 I))) (aI (Qw rfl rfl rfl rfl (by intro I;exact Qag (Qn c3 I))) (aI (Qw rfl rfl rfl rfl (by intro I;exact Qk (Qn b5 I))) (aI (Qw rfl rfl rfl rfl (by intro I;exact Qag (Qn a8 I))) (aI (Qw rfl rfl rfl rfl (by intro I;exact ZD (Qn U I))) (aK ?_)))))));apply Qo h<;>intro _ h
 ·cases h
  exact lfP []
 ·refine Qc tOk ?_;obtain⟨x15,J,h⟩:=Qb h;refine QF tOk J (fun b2=>⟨0,87,[(0,.d (slD QAq.enc a0)),(1,dI a1),(7,.ref 7 0 0),(11,dI b2)],[],[(7,.box 101 [.d (slD encSb ((a0.getD a1.toNat default).w))])],[]⟩) ?_ ?_
  ·exact leX []
  ·clear J;intro b2 y13 G O;refine Qc tOk ?_;apply Qo G<;>intro _ G
   ·refine Qc tOk ?_;obtain⟨b8,G⟩:=Qf G;obtain⟨c5,a5,G⟩:=Qb G;obtain⟨c9,G⟩:=Qf G;obtain⟨d0,Y,G⟩:=Qb G;obtain⟨b9,a9,G⟩:=Qb G;obtain⟨b7,G⟩:=Qf G;obtain⟨b4,a4,G⟩:=Qb G;obtain⟨c8,a7,G⟩:=Qb G;obtain⟨c1,G⟩:=Qf G;obtain⟨c4,a3,G⟩:=Qb G;obtain⟨b6,a6,G⟩:=Qb G;refine QW tOk [.u 4 0 (.d (.str c5)) [],.u 11 0 (.d (.str d0)) [],.u 13 0 (.d (.str b9)) [],.u 21 0 (.d (.str b4)) [],.u 23 0 (.d (.str c8)) [],.u 31 0 (.d (.str c4)) [],.u 33 0 (.d (.str b6)) []] 36 [] [0,0,3,7,15,31,63,127,127,511,1023,2047,127,8191,16383,32767,65535,131071,131071,524287,1048575,2097151,131071,8388607,16777215,33554431,67108863,134217727,134217727,536870911,1073741823,2147483647,134217727,8589934591,17179869183,34359738367] [] (aI b8 (aI (QN (Qk a5) (by kernel_rfl)) (aI c9 (aI (Qw rfl rfl rfl rfl (by intro I;exact Qk (Qn Y I))) (aI (Qw rfl rfl rfl rfl (by intro I;exact Qk (Qn a9 I))) (aI b7 (aI (Qw rfl rfl rfl rfl (by intro I;exact Qk (Qn a4 I))) (aI (Qw rfl rfl rfl rfl (by intro I;exact Qk (Qn a7 I))) (aI c1 (aI (Qw rfl rfl rfl rfl (by intro I;exact Qk (Qn a3 I))) (aI (Qw rfl rfl rfl rfl (by intro I;exact Qk (Qn a6 I))) (aK ?_))))))))))));apply Qo G<;>intro _ G
    ·cases G
     cases O _ rfl
     cases h
     exact lfP []
    ·exact eX G []
   ·cases G
    cases O _ rfl
    cases h
    exact lfP []
def Qat (a0:(List QAq)):Option (Bool):=
 bd (QdS a0) fun J=>
 bd (lp (σ:=Int×Int) (β:=(Unit⊕Int)) (fun U=>
(if(decide (U.2<((a0.length:Nat):Int)))=true then
 gd ((0:Int)<=U.2∧U.2<((a0.length:Nat):Int))<|
 bd (Qg (a0.getD U.2.toNat default) 0) fun x7=>
(if(!(x7==(⟨#[100,111,111,114]⟩:Bt)))=true then
 some (.inl (U.1,IntKind.i64.wrap (U.2+1)))
else
 gd ((decide (J<0))=false->((0:Int)<=J∧J<((a0.length:Nat):Int)))<|
 bd (gcall ((decide (J<0))=false) (Qdg a0 U.2 (a0.getD J.toNat default))) fun x9=>
(if((decide (J<0))||(!x9))=true then
 some (.inr (.inl ()))
else
 some (.inl (IntKind.i64.wrap (U.1+1),IntKind.i64.wrap (U.2+1)))))
else
 some (.inr (.inr U.1)))) (0,0)) fun x5=>
(match x5 with
| .inl d10=>
 some false
| .inr O=>
(if(decide (J<0))=true then
 some true
else
 gd ((0:Int)<=J∧J<((a0.length:Nat):Int))<|
 bd (Qg (a0.getD J.toNat default) 1) fun a1=>
 bd (Zt a1) fun G=>
 gd ((0:Int)<=J∧J<((a0.length:Nat):Int))<|
 bd (Qg (a0.getD J.toNat default) 2) fun a5=>
 bd (Zf a5) fun I=>
 gd (((decide (O<=6))&&((decide (I<G.1))||(decide (I>=(IntKind.i64.wrap (G.1+G.2))))))=true->((0:Int)<=J∧J<((a0.length:Nat):Int)))<|
 bd (gcall (((decide (O<=6))&&((decide (I<G.1))||(decide (I>=(IntKind.i64.wrap (G.1+G.2))))))=true) (Qg (a0.getD J.toNat default) 3)) fun a3=>
 bd (gcall (((decide (O<=6))&&((decide (I<G.1))||(decide (I>=(IntKind.i64.wrap (G.1+G.2))))))=true) (ZN a3)) fun Y=>
 gd (((decide (O<=6))&&((decide (I<G.1))||(decide (I>=(IntKind.i64.wrap (G.1+G.2))))))=true->((0:Int)<=J∧J<((a0.length:Nat):Int)))<|
 bd (gcall (((decide (O<=6))&&((decide (I<G.1))||(decide (I>=(IntKind.i64.wrap (G.1+G.2))))))=true) (Qg (a0.getD J.toNat default) 4)) fun a2=>
 bd (gcall (((decide (O<=6))&&((decide (I<G.1))||(decide (I>=(IntKind.i64.wrap (G.1+G.2))))))=true) (ZN a2)) fun a4=>
 some (((decide (O<=6))&&((decide (I<G.1))||(decide (I>=(IntKind.i64.wrap (G.1+G.2))))))&&(decide (Y<=a4)))))
theorem QgY {a0:(List QAq)} {r:Bool} (h:Qat a0=some r):PureC prog 44 [.d (slD QAq.enc a0)] (dB r) []:=by
 refine pY tOk f44 rfl (bC h 0 (fun _=>Qm8) fun x1 h=>Qc tOk ?_);obtain⟨x5,Y,h⟩:=Qb h;refine QF tOk Y (fun s2=>⟨0,83,[(0,.d (slD QAq.enc a0)),(3,dI x1),(4,dI s2.1),(5,dI s2.2)],[],[],[]⟩) ?_ ?_
 ·exact leX []
 ·clear Y;intro s2 y3 G O;refine Qc tOk ?_;apply Qo G<;>intro _ G
  ·refine Qc tOk (Qc tOk (gdI G fun G=>bC G 0 (fun _=>Qk) fun x7 G=>?_));apply Qo G<;>intro _ G
   ·exact eX G []
   ·refine gdI G fun G=>bG G (fun _=>QlW) fun x9 G=>?_;apply Qo G<;>intro _ G
    ·cases G
     cases O _ rfl
     cases h
     exact lfP []
    ·exact eX G []
  ·cases G
   cases O _ rfl
   refine Qc tOk ?_;apply Qo h<;>intro _ h
   ·cases h
    exact lfP []
   ·refine gdI h fun h=>bC h 0 (fun _=>Qk) fun x13 h=>bC h 0 (fun _=>Qad) fun x14 h=>gdI h fun h=>bC h 0 (fun _=>Qk) fun x16 h=>bC h 0 (fun _=>Z0) fun x17 h=>?_;obtain⟨a7,h⟩:=Qf h;obtain⟨a8,J,h⟩:=Qb h;obtain⟨a5,a2,h⟩:=Qb h;obtain⟨a4,h⟩:=Qf h;obtain⟨a3,U,h⟩:=Qb h;obtain⟨a6,a1,h⟩:=Qb h;refine QW tOk [.u 19 0 (.d (.str a8)) [],.u 20 0 (dI a5) [],.u 25 0 (.d (.str a3)) [],.u 26 0 (dI a6) []] 30 [] [0,1,3,7,7,31,63,127,127,127,895,2047,4095,8191,16383,32767,32767,131071,262143,524287,1048575,32767,32767,6324223,14712831,33554431,67108863,134217727,268435455,536870911] [] (aI a7 (aI (Qw rfl rfl rfl rfl (by intro I;exact Qk (Qn J I))) (aI (Qw rfl rfl rfl rfl (by intro I;exact Qag (Qn a2 I))) (aI a4 (aI (Qw rfl rfl rfl rfl (by intro I;exact Qk (Qn U I))) (aI (Qw rfl rfl rfl rfl (by intro I;exact Qag (Qn a1 I))) (aK ?_)))))));cases h;exact lfP []
def Zu (a0:(List Bt)):Option (Int):=
 bd (Q7 a0) fun I=>
(if(I !=0)=true then
 some I
else
 bd (Qde a0) fun G=>
 bd (Qdf G) fun Y=>
(if(!Y)=true then
 some 5
else
 bd (Qcq G) fun x4=>
(if(!x4)=true then
 some 6
else
 bd (Qcr G) fun U=>
(if(!U)=true then
 some 7
else
 bd (Qcs G) fun O=>
(if(!O)=true then
 some 8
else
 bd (Qat G) fun J=>
(if(!J)=true then
 some 9
else
 some 0))))))
theorem QaU {a0:(List Bt)} {r:Int} (h:Zu a0=some r):PureC prog 12 [.d (slD encSb a0)] (dI r) []:=by
 refine pY tOk f12 rfl (bC h 0 (fun _=>ZI) fun x1 h=>Qc tOk ?_);apply Qo h<;>intro _ h
 ·cases h
  exact lfP []
 ·refine bE h [] 1000 (fun _=>QlU) fun x2 h=>Qc tOk (bC h 0 (fun _=>QlV) fun x3 h=>?_);apply Qo h<;>intro _ h
  ·cases h
   exact lfP []
  ·refine bC h 0 (fun _=>Qkx) fun x4 h=>?_;apply Qo h<;>intro _ h
   ·cases h
    exact lfP []
   ·refine bC h 0 (fun _=>Qky) fun x5 h=>?_;apply Qo h<;>intro _ h
    ·cases h
     exact lfP []
    ·refine bC h 0 (fun _=>Qkz) fun x6 h=>?_;apply Qo h<;>intro _ h
     ·cases h
      exact lfP []
     ·refine bC h 0 (fun _=>QgY) fun x7 h=>?_;apply Qo h<;>intro _ h
      ·cases h
       exact lfP []
      ·cases h
       exact lfP []
def QaI (a0:(List Bt)) (J:Bt):Option ((List Bt)):=
 bd (ZH J) fun Y=>
 bd (Qai a0 Y) fun I=>
 bd (α:=List Bt) ((if(decide (I>=0))=true then
 bd (Zx a0 I) fun O=>
 some O
else
 some a0)) fun U=>
 bd (JI U J) fun G=>
 bd (Zu G) fun x8=>
(if(x8==0)=true then
 some G
else
 some a0)
theorem QdT {a0:(List Bt)} {J:Bt} {r:(List Bt)} (h:QaI a0 J=some r):EffC prog 46 [.d (slD encSb a0),.d (.str J)] [] (.d (slD encSb r)) []:=by
 refine eY tOk f46 rfl (bC h 0 (fun _=>Qa1) fun x1 h=>bC h 0 (fun _=>Qff) fun x2 h=>?_);obtain⟨O,G,h⟩:=Qb h;refine Zm tOk (fun I=>⟨0,25,[(0,.d (slD encSb a0)),(1,.d (.str J)),(5,.d (slD encSb I))],[],[],[⟨[],[]⟩]⟩) (fun I=>O=I) ?_ ?_
 ·apply Qo G<;>intro _ G
  ·refine bC G 1000 (fun _=>Qc0) fun x6 G=>?_;exact eZ G [.f [6001]]
  ·exact eZ G []
 ·rintro _ rfl;refine bC h 1000 (fun _=>Qfg) fun x7 h=>Qc tOk (bC h 0 (fun _=>QaU) fun x8 h=>?_);apply Qo h<;>intro _ h
  ·cases h
   exact lfE [.f [6001]]
  ·cases h
   exact lfE []
def Qy (a0:QAp) (I:(List Bt)):Option (Bt×QAp):=
 bd (Ql a0 ((I.length:Nat):Int)) fun G=>
 gd ((0:Int)<=G.1∧G.1<((I.length:Nat):Int))<|
 some ((I.getD G.1.toNat default),(⟨a0.b,G.2.p⟩:QAp))
theorem QG {a0:QAp} {G:(List Bt)} {r:Bt×QAp} (h:Qy a0 G=some r):EffC prog 47 [.ref 9000 0 0,.d (slD encSb G)] [(9000,.box 76 [.d (slD Qt a0.b),dI a0.p])] (.d (.str r.1)) [(9000,.box 76 [.d (slD Qt a0.b),dI r.2.p])]:=by
 refine eY tOk f47 rfl (bE h [(9000,9000)] 0 (fun _=>Qq) fun x1 h=>gdI h fun h=>?_);cases h;exact lfE []
def JC (a0:QAp):Option (Bt×QAp):=
 bd (Qy a0 ([(⟨#[49,48,46,48,47,56]⟩:Bt),(⟨#[49,48,46,48,47,49,54]⟩:Bt),(⟨#[49,48,46,49,50,56,47,57]⟩:Bt),(⟨#[49,49,46,48,47,56]⟩:Bt),(⟨#[48,46,48,47,48]⟩:Bt),(⟨#[49,49,46,52,47,49,54]⟩:Bt),(⟨#[50,48,48,46,48,47,49,53]⟩:Bt),(⟨#[50,48,48,46,48,47,57]⟩:Bt)]:List Bt)) fun G=>
 some (G.1,(⟨a0.b,G.2.p⟩:QAp))
theorem Qb4 {a0:QAp} {r:Bt×QAp} (h:JC a0=some r):EffC prog 101 [.ref 9000 0 0] [(9000,.box 76 [.d (slD Qt a0.b),dI a0.p])] (.d (.str r.1)) [(9000,.box 76 [.d (slD Qt a0.b),dI r.2.p])]:=by
 refine eY tOk f101 rfl (QbB (enc:=encSb) ([(⟨#[49,48,46,48,47,56]⟩:Bt),(⟨#[49,48,46,48,47,49,54]⟩:Bt),(⟨#[49,48,46,49,50,56,47,57]⟩:Bt),(⟨#[49,49,46,48,47,56]⟩:Bt),(⟨#[48,46,48,47,48]⟩:Bt),(⟨#[49,49,46,52,47,49,54]⟩:Bt),(⟨#[50,48,48,46,48,47,49,53]⟩:Bt),(⟨#[50,48,48,46,48,47,57]⟩:Bt)]:List Bt) ?_);obtain⟨x1,G,h⟩:=Qb h;refine Zp [4] (cE [(9000,9000)] 0 (QG G) ?_);cases h;exact lfE []
def Qa3 (a0:QAp):Option (Bt×QAp):=
 bd (Qy a0 ([(⟨#[49,48,46,49]⟩:Bt),(⟨#[49,48,46,50]⟩:Bt),(⟨#[49,49,46,52]⟩:Bt),(⟨#[50,48,48,46,49]⟩:Bt),(⟨#[48,46,48]⟩:Bt),(⟨#[50,53,53,46,50,53,53]⟩:Bt)]:List Bt)) fun G=>
 some (G.1,(⟨a0.b,G.2.p⟩:QAp))
theorem QeH {a0:QAp} {r:Bt×QAp} (h:Qa3 a0=some r):EffC prog 102 [.ref 9000 0 0] [(9000,.box 76 [.d (slD Qt a0.b),dI a0.p])] (.d (.str r.1)) [(9000,.box 76 [.d (slD Qt a0.b),dI r.2.p])]:=by
 refine eY tOk f102 rfl (QbB (enc:=encSb) ([(⟨#[49,48,46,49]⟩:Bt),(⟨#[49,48,46,50]⟩:Bt),(⟨#[49,49,46,52]⟩:Bt),(⟨#[50,48,48,46,49]⟩:Bt),(⟨#[48,46,48]⟩:Bt),(⟨#[50,53,53,46,50,53,53]⟩:Bt)]:List Bt) ?_);obtain⟨x1,G,h⟩:=Qb h;refine Zp [4] (cE [(9000,9000)] 0 (QG G) ?_);cases h;exact lfE []
end
end Go.Proofs.YtoknnjiangjccaaGreatDoor
