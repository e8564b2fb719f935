/-
  What some of the program's functions compute: their models, and that the functions compute these; no condition.
-/
import Derived.Test.YtmnnglbioibmfaaGreatDoorTyz
import Derived.Test.YtmnnglbioibmfaaGreatDoorTbz
import Derived.Test.YtmnnglbioibmfaaGreatDoorLayz
import Derived.Test.YtmnnglbioibmfaaGreatDoorLay4z
import Derived.Test.YtmnnglbioibmfaaGreatDoorAbz8
import Derived.BigCall
import Derived.BigGuard
import Derived.BigQuiet
import Derived.Deep.QuietTactic
import Derived.Laws.OwnMore
import Derived.Maps.AppendAt
import Derived.Maps.OwnSet
import Derived.Maps.RangeWalk
import Derived.OwnWalk
import Derived.Sort.OwnSorted
import Derived.StringKeys
import Derived.WalkKit
set_option linter.all false
namespace Go.Proofs.YtmnnglbioibmfaaGreatDoor
open Go Go.Ab Tryz
set_option maxRecDepth 100000
set_option maxHeartbeats 40000000
noncomputable section
def Qcz (a0:(List Int)):Option (Qyc):=
(if(decide (((a0.length:Nat):Int)>2000))=true then
 gd ((0:Int)≤(0:Int)∧(0:Int)≤(2000:Int)∧(2000:Int)≤((a0.length:Nat):Int))<|
 some (⟨a0.take ((2000:Int).toNat),0⟩:Qyc)
else
 some (⟨a0,0⟩:Qyc))
theorem QkI {a0:(List Int)} {r:Qyc} (h:Qcz a0=some r):EffC prog 12 [.d (slD Q3 a0)] [] (.ref 5001 0 0) [(5001,.box 66 [.d (slD Q3 r.b),dI r.p])]:=by
 refine eY tOk f12 rfl (Qb tOk ?_);apply Qr h<;>intro _ h
 ·obtain⟨g1,h⟩:=Qe h;refine aI ⟨g1,.inr rfl⟩ ?_;cases h;exact lfE [.s [(10,5001),(5001,10)]]
 ·cases h
  exact lfE [.s [(10,5001),(5001,10)]]
def Q1 (a0:Qyc) (a1:Int):Option (Int×Qyc):=
(if((decide (a1<1))||(((a0.b.length:Nat):Int)==0))=true then
 some (0,(⟨a0.b,IntKind.i64.wrap (a0.p+1)⟩:Qyc))
else
(if(decide ((IntKind.i64.wrap ((IntKind.i64.wrap (a0.p+1)) -1))<((a0.b.length:Nat):Int)))=true then
 gd ((0:Int)≤IntKind.i64.wrap ((IntKind.i64.wrap (a0.p+1)) -1)∧IntKind.i64.wrap ((IntKind.i64.wrap (a0.p+1)) -1)<((a0.b.length:Nat):Int))<|
 gd ((a1:Int)≠0)<|
 some (((IntKind.i64.wrap (a0.b.getD ((IntKind.i64.wrap ((IntKind.i64.wrap (a0.p+1)) -1)).toNat) default):Int).tmod a1),(⟨a0.b,IntKind.i64.wrap (a0.p+1)⟩:Qyc))
else
 gd ((((a0.b.length:Nat):Int):Int)≠0)<|
 gd ((0:Int)≤((IntKind.i64.wrap ((IntKind.i64.wrap (a0.p+1)) -1):Int).tmod ((a0.b.length:Nat):Int))∧((IntKind.i64.wrap ((IntKind.i64.wrap (a0.p+1)) -1):Int).tmod ((a0.b.length:Nat):Int))<((a0.b.length:Nat):Int))<|
 gd ((((a0.b.length:Nat):Int):Int)≠0)<|
 gd ((0:Int)≤((IntKind.i64.wrap ((IntKind.i64.wrap ((IntKind.i64.wrap ((IntKind.i64.wrap (a0.p+1)) -1))*7))+3):Int).tmod ((a0.b.length:Nat):Int))∧((IntKind.i64.wrap ((IntKind.i64.wrap ((IntKind.i64.wrap ((IntKind.i64.wrap (a0.p+1)) -1))*7))+3):Int).tmod ((a0.b.length:Nat):Int))<((a0.b.length:Nat):Int))<|
 gd ((((a0.b.length:Nat):Int):Int)≠0)<|
 gd ((64:Int)≠0)<|
 gd ((a1:Int)≠0)<|
 some ((((bits .xor .i64 (IntKind.i64.wrap ((IntKind.i64.wrap ((IntKind.i64.wrap ((IntKind.i64.wrap ((IntKind.i64.wrap (a0.b.getD (((IntKind.i64.wrap ((IntKind.i64.wrap (a0.p+1)) -1):Int).tmod ((a0.b.length:Nat):Int)).toNat) default))*131))+(IntKind.i64.wrap ((IntKind.i64.wrap (a0.b.getD (((IntKind.i64.wrap ((IntKind.i64.wrap ((IntKind.i64.wrap ((IntKind.i64.wrap (a0.p+1)) -1))*7))+3):Int).tmod ((a0.b.length:Nat):Int)).toNat) default))*1117))))+(IntKind.i64.wrap ((IntKind.i64.wrap ((IntKind.i64.wrap (a0.p+1)) -1))*29))))+(IntKind.i64.wrap ((IntKind.i64.wrap ((IntKind.i64.wrap ((IntKind.i64.wrap (a0.p+1)) -1):Int).tdiv ((a0.b.length:Nat):Int)))*53)))) (IntKind.i64.wrap ((IntKind.i64.wrap ((IntKind.i64.wrap ((IntKind.i64.wrap ((IntKind.i64.wrap ((IntKind.i64.wrap (a0.b.getD (((IntKind.i64.wrap ((IntKind.i64.wrap (a0.p+1)) -1):Int).tmod ((a0.b.length:Nat):Int)).toNat) default))*131))+(IntKind.i64.wrap ((IntKind.i64.wrap (a0.b.getD (((IntKind.i64.wrap ((IntKind.i64.wrap ((IntKind.i64.wrap ((IntKind.i64.wrap (a0.p+1)) -1))*7))+3):Int).tmod ((a0.b.length:Nat):Int)).toNat) default))*1117))))+(IntKind.i64.wrap ((IntKind.i64.wrap ((IntKind.i64.wrap (a0.p+1)) -1))*29))))+(IntKind.i64.wrap ((IntKind.i64.wrap ((IntKind.i64.wrap ((IntKind.i64.wrap (a0.p+1)) -1):Int).tdiv ((a0.b.length:Nat):Int)))*53))):Int).tdiv 64))):Int).tmod a1),(⟨a0.b,IntKind.i64.wrap (a0.p+1)⟩:Qyc))))
theorem ZU {a0:Qyc} {a1:Int} {r:Int×Qyc} (h:Q1 a0 a1=some r):EffC prog 35 [.ref 9000 0 0,dI a1] [(9000,.box 66 [.d (slD Q3 a0.b),dI a0.p])] (dI r.1) [(9000,.box 66 [.d (slD Q3 a0.b),dI r.2.p])]:=by
 refine eY tOk f35 rfl (Qb tOk ?_);apply Qr h<;>intro _ h
 ·cases h
  exact lfE []
 ·refine Qb tOk ?_;apply Qr h<;>intro _ h
  ·refine gdI h fun h=>gdI h fun h=>?_;cases h;exact lfE []
  ·obtain⟨g3,h⟩:=Qe h;obtain⟨g4,h⟩:=Qe h;obtain⟨g5,h⟩:=Qe h;obtain⟨g6,h⟩:=Qe h;obtain⟨g7,h⟩:=Qe h;refine Q0 tOk [] 46 [] [0,1,3,7,0,0,32,96,224,480,1008,2047,4095,8191,16383,0,32768,98304,229376,0,524288,1572864,0,4194304,12582912,29360128,62914560,133693440,268402688,536838144,1073709056,2147450880,4294967295,0,8589934592,34359738367,0,0,137438953472,412316860416,962072674304,2061584302080,4329327034368,8727373545472,17592186044415,35184372088831] [] (aI g3 (aI g4 (aI g5 (aI g6 (aI g7 (aK (gdI h fun h=>gdI h fun h=>?_)))))));cases h;exact lfE []
def QbS (a0:Bt):Option (Bt):=
 bd (lp (σ:=Int) (β:=(Bt⊕Unit)) (fun s1=>
(if(decide (s1<((a0.size:Nat):Int)))=true then
 gd ((0:Int)≤s1∧s1<((a0.size:Nat):Int))<|
(if((Qah a0 s1.toNat)==35)=true then
 gd ((0:Int)≤(0:Int)∧(0:Int)≤s1∧s1≤((a0.size:Nat):Int))<|
 some (.inr (.inl (a0.extract 0 s1.toNat)))
else
 some (.inl (IntKind.i64.wrap (s1+1))))
else
 some (.inr (.inr ())))) 0) fun x4=>
(match x4 with
| .inl d7=>
 some d7
| .inr d8=>
 some a0)
theorem Qjt {a0:Bt} {r:Bt} (h:QbS a0=some r):PureC prog 83 [.d (.str a0)] (.d (.str r)) []:=by
 refine pY tOk f83 rfl (Qb tOk ?_);obtain⟨x4,hx4,h⟩:=Qc h;refine QJ tOk hx4 (fun s1=>⟨0,18,[(0,.d (.str a0)),(3,dI s1)],[],[],[]⟩) ?_ ?_
 ·exact leX []
 ·clear hx4;intro s1 y2 g3 hy2;refine Qb tOk ?_;apply Qr g3<;>intro _ g3
  ·refine Qb tOk (gdI g3 fun g3=>?_);apply Qr g3<;>intro _ g3
   ·refine gdI g3 fun g3=>?_;cases g3;cases hy2 _ rfl;cases h;exact lfP []
   ·exact eX g3 []
  ·cases g3
   cases hy2 _ rfl
   cases h
   exact lfP []
def JB (a0:Bt):Option ((List Bt)×Bool):=
 bd (QbS a0) fun x1=>
 bd (lp (σ:=List Int×List Bt×Int) (β:=(Unit⊕(Nat×(List Bt)))) (fun s2=>
(if(decide (s2.2.2≤((x1.size:Nat):Int)))=true then
 gd ((decide (s2.2.2<((x1.size:Nat):Int)))=true→((0:Int)≤s2.2.2∧s2.2.2<((x1.size:Nat):Int)))<|
 gd ((decide ((Qah x1 s2.2.2.toNat)<32))=false→((decide (s2.2.2<((x1.size:Nat):Int)))=true→((0:Int)≤s2.2.2∧s2.2.2<((x1.size:Nat):Int))))<|
(if((decide (s2.2.2<((x1.size:Nat):Int)))&&((decide ((Qah x1 s2.2.2.toNat)<32))||(decide ((Qah x1 s2.2.2.toNat)>126))))=true then
 some (.inr (.inl ()))
else
 gd ((decide (s2.2.2<((x1.size:Nat):Int)))=true→((0:Int)≤s2.2.2∧s2.2.2<((x1.size:Nat):Int)))<|
(if((decide (s2.2.2<((x1.size:Nat):Int)))&&((Qah x1 s2.2.2.toNat) !=32))=true then
 gd ((0:Int)≤s2.2.2∧s2.2.2<((x1.size:Nat):Int))<|
 gd (((s2.1.length)+(([(Qah x1 s2.2.2.toNat)]:List Int).length))*(1+1)≤70368744177664)<|
(if(decide ((((s2.1++([(Qah x1 s2.2.2.toNat)]:List Int)).length:Nat):Int)>24))=true then
 some (.inr (.inl ()))
else
 some (.inl ((s2.1++([(Qah x1 s2.2.2.toNat)]:List Int)),s2.2.1,IntKind.i64.wrap (s2.2.2+1))))
else
(if(decide (((s2.1.length:Nat):Int)>0))=true then
 gd (((s2.2.1.length)+(([(Qff (Qn6 s2.1.length (rows Q3 s2.1)))]:List Bt).length))*(16+1)≤70368744177664)<|
(if(decide ((((s2.2.1++([(Qff (Qn6 s2.1.length (rows Q3 s2.1)))]:List Bt)).length:Nat):Int)>8))=true then
 some (.inr (.inl ()))
else
 some (.inl (([]:List Int),(s2.2.1++([(Qff (Qn6 s2.1.length (rows Q3 s2.1)))]:List Bt)),IntKind.i64.wrap (s2.2.2+1))))
else
 some (.inl (s2.1,s2.2.1,IntKind.i64.wrap (s2.2.2+1))))))
else
 some (.inr (.inr (s2.2.1.length,s2.2.1))))) (([]:List Int),([]:List Bt),0)) fun x5=>
(match x5 with
| .inl d12=>
 some ([],false)
| .inr d13=>
 some (d13.2,true))
theorem Qda {a0:Bt} {r:(List Bt)×Bool} (h:JB a0=some r):PureC prog 41 [.d (.str a0)] (.tup [.osl 5001 0 r.1.length,dB r.2]) [⟨5001,9,1,r.1.length,rows encSb r.1⟩]:=by
 refine pY tOk f41 rfl (bC h 0 (fun _=>Qjt) fun x1 h=>Qb tOk ?_);obtain⟨x5,hx5,h⟩:=Qc h;refine QJ tOk hx5 (fun s2=>⟨0,69,[(4,.d (.str x1)),(5,.osl 7002 0 s2.2.1.length),(6,.osl 7001 0 s2.1.length),(7,dI s2.2.2)],[],[(7002,.arr 9 1 s2.2.1.length (rows encSb s2.2.1)),(7001,.arr 5 1 s2.1.length (rows Q3 s2.1))],[]⟩) ?_ ?_
 ·exact leX [.p 7002 9 1 (rows encSb ([]:List Bt)),.p 7001 5 1 (rows Q3 ([]:List Int))]
 ·clear hx5;intro s2 y3 g4 hy3;refine Qb tOk ?_;apply Qr g4<;>intro _ g4
  ·refine Qb tOk (Qb tOk (gdI g4 fun g4=>gdI g4 fun g4=>?_));apply Qr g4<;>intro _ g4
   ·cases g4
    cases hy3 _ rfl
    cases h
    exact lfP [.p 5001 9 1 (rows encSb ([]:List Bt))]
   ·refine Qb tOk (gdI g4 fun g4=>?_);apply Qr g4<;>intro _ g4
    ·refine gdI g4 fun g4=>Qcl (enc:=Q3) ([(Qah x1 s2.2.2.toNat)]:List Int) (gdI g4 fun g4=>Qiv (enc:=Q3) (xs:=s2.1) (ys:=([(Qah x1 s2.2.2.toNat)]:List Int)) (Qb tOk ?_));apply Qr g4<;>intro _ g4
     ·cases g4
      cases hy3 _ rfl
      cases h
      exact lfP [.p 5001 9 1 (rows encSb ([]:List Bt))]
     ·exact eX g4 []
    ·apply Qr g4<;>intro _ g4
     ·refine aI Qrg (Qcl (enc:=encSb) ([(Qff (Qn6 s2.1.length (rows Q3 s2.1)))]:List Bt) (gdI g4 fun g4=>Qiv (enc:=encSb) (xs:=s2.2.1) (ys:=([(Qff (Qn6 s2.1.length (rows Q3 s2.1)))]:List Bt)) ?_));apply Qr g4<;>intro _ g4
      ·cases g4
       cases hy3 _ rfl
       cases h
       exact lfP [.p 5001 9 1 (rows encSb ([]:List Bt))]
      ·exact eX g4 [.k [61,7001],.p 7001 5 1 (rows Q3 ([]:List Int))]
     ·exact eX g4 []
  ·cases g4
   cases hy3 _ rfl
   cases h
   exact lfP [.s [(5001,7002),(7002,5001)]]
def JR (a0:Int) (a1:Int) (a2:Int):Option (Bool):=
 some ((decide (a0≥a1))&&(decide (a0≤a2)))
theorem QbN {a0:Int} {a1:Int} {a2:Int} {r:Bool} (h:JR a0 a1 a2=some r):PureC prog 130 [dI a0,dI a1,dI a2] (dB r) []:=by
 refine pY tOk f130 rfl ?_;unfold JR at h;cases h;exact lfP []
def Qan (a0:Bt):Option (Bool):=
 bd (JR ((a0.size:Nat):Int) 1 8) fun x1=>
(if(!x1)=true then
 some false
else
 bd (lp (σ:=Int) (β:=(Unit⊕Unit)) (fun s2=>
(if(decide (s2<((a0.size:Nat):Int)))=true then
 gd ((0:Int)≤s2∧s2<((a0.size:Nat):Int))<|
 bd (JR (IntKind.i64.wrap (Qah a0 s2.toNat)) 97 122) fun x7=>
 gd ((!x7)=true→((0:Int)≤s2∧s2<((a0.size:Nat):Int)))<|
 bd (gcall ((!x7)=true) (JR (IntKind.i64.wrap (Qah a0 s2.toNat)) 48 57)) fun x9=>
 gd (((!x7)&&(!x9))=true→((0:Int)≤s2∧s2<((a0.size:Nat):Int)))<|
(if(((!x7)&&(!x9))&&((Qah a0 s2.toNat) !=45))=true then
 some (.inr (.inl ()))
else
 some (.inl (IntKind.i64.wrap (s2+1))))
else
 some (.inr (.inr ())))) 0) fun x5=>
(match x5 with
| .inl d11=>
 some false
| .inr d12=>
 some true))
theorem QcA {a0:Bt} {r:Bool} (h:Qan a0=some r):PureC prog 151 [.d (.str a0)] (dB r) []:=by
 refine pY tOk f151 rfl (Qb tOk (bC h 0 (fun _=>QbN) fun x1 h=>?_));apply Qr h<;>intro _ h
 ·cases h
  exact lfP []
 ·refine Qb tOk ?_;obtain⟨x5,hx5,h⟩:=Qc h;refine QJ tOk hx5 (fun s2=>⟨0,34,[(0,.d (.str a0)),(3,dI s2)],[],[],[]⟩) ?_ ?_
  ·exact leX []
  ·clear hx5;intro s2 y3 g4 hy3;refine Qb tOk ?_;apply Qr g4<;>intro _ g4
   ·refine Qb tOk (gdI g4 fun g4=>bC g4 0 (fun _=>QbN) fun x7 g4=>gdI g4 fun g4=>bG g4 (fun _=>QbN) fun x9 g4=>gdI g4 fun g4=>?_);apply Qr g4<;>intro _ g4
    ·cases g4
     cases hy3 _ rfl
     cases h
     exact lfP []
    ·exact eX g4 []
   ·cases g4
    cases hy3 _ rfl
    cases h
    exact lfP []
def JL (a0:Bt) (a1:Int):Option ((List Bt)):=
 bd (lp (σ:=List Bt×Int×Int) (β:=(Nat×Int×(List Bt))) (fun s1=>
(if(decide (s1.2.2<((a0.size:Nat):Int)))=true then
 gd ((0:Int)≤s1.2.2∧s1.2.2<((a0.size:Nat):Int))<|
(if((Qah a0 s1.2.2.toNat)==a1)=true then
 gd ((0:Int)≤s1.2.1∧s1.2.1≤s1.2.2∧s1.2.2≤((a0.size:Nat):Int))<|
 gd (((s1.1.length)+(([(a0.extract s1.2.1.toNat s1.2.2.toNat)]:List Bt).length))*(16+1)≤70368744177664)<|
 some (.inl ((s1.1++([(a0.extract s1.2.1.toNat s1.2.2.toNat)]:List Bt)),IntKind.i64.wrap (s1.2.2+1),IntKind.i64.wrap (s1.2.2+1)))
else
 some (.inl (s1.1,s1.2.1,IntKind.i64.wrap (s1.2.2+1))))
else
 some (.inr (s1.1.length,s1.2.1,s1.1)))) (([]:List Bt),0,0)) fun x4=>
 gd ((0:Int)≤x4.2.1∧x4.2.1≤((a0.size:Nat):Int)∧((a0.size:Nat):Int)≤((a0.size:Nat):Int))<|
 gd (((x4.1)+(([(a0.extract x4.2.1.toNat ((a0.size:Nat):Int).toNat)]:List Bt).length))*(16+1)≤70368744177664)<|
 some (x4.2.2++([(a0.extract x4.2.1.toNat ((a0.size:Nat):Int).toNat)]:List Bt))
theorem QeC {a0:Bt} {a1:Int} {r:(List Bt)} (h:JL a0 a1=some r):PureC prog 127 [.d (.str a0),.d (.int .u8 a1)] (.osl 5001 0 r.length) [⟨5001,9,1,r.length,rows encSb r⟩]:=by
 refine pY tOk f127 rfl (Qb tOk ?_);obtain⟨x4,hx4,h⟩:=Qc h;refine QJ tOk hx4 (fun s1=>⟨0,35,[(0,.d (.str a0)),(1,.d (.int .u8 a1)),(5,.osl 7001 0 s1.1.length),(6,dI s1.2.1),(7,dI s1.2.2)],[],[(7001,.arr 9 1 s1.1.length (rows encSb s1.1))],[]⟩) ?_ ?_
 ·exact leX [.p 7001 9 1 (rows encSb ([]:List Bt))]
 ·clear hx4;intro s1 y2 g3 hy2;refine Qb tOk ?_;apply Qr g3<;>intro _ g3
  ·refine Qb tOk (gdI g3 fun g3=>?_);apply Qr g3<;>intro _ g3
   ·refine gdI g3 fun g3=>Qcl (enc:=encSb) ([(a0.extract s1.2.1.toNat s1.2.2.toNat)]:List Bt) (gdI g3 fun g3=>Qiv (enc:=encSb) (xs:=s1.1) (ys:=([(a0.extract s1.2.1.toNat s1.2.2.toNat)]:List Bt)) ?_);exact eX g3 []
   ·exact eX g3 []
  ·cases g3
   cases hy2 _ rfl
   refine gdI h fun h=>Qcl (enc:=encSb) ([(a0.extract (s1.1.length,s1.2.1,s1.1).2.1.toNat ((a0.size:Nat):Int).toNat)]:List Bt) (gdI h fun h=>Qiv (enc:=encSb) (xs:=(s1.1.length,s1.2.1,s1.1).2.2) (ys:=([(a0.extract (s1.1.length,s1.2.1,s1.1).2.1.toNat ((a0.size:Nat):Int).toNat)]:List Bt)) ?_);cases h;exact lfP [.s [(5001,7001),(7001,5001)]]
def QbT:Option ((List Bt)):=
 some ([(⟨#[100,111,111,114]⟩:Bt),(⟨#[104,111,115,116]⟩:Bt),(⟨#[110,97,116]⟩:Bt),(⟨#[112,101,101,114]⟩:Bt),(⟨#[112,111,114,116]⟩:Bt),(⟨#[114,111,117,116,101]⟩:Bt),(⟨#[114,117,108,101]⟩:Bt),(⟨#[117,115,101,114]⟩:Bt)]:List Bt)
theorem Qju {r:(List Bt)} (h:QbT=some r):PureC prog 192 [] (.osl 5001 0 r.length) [⟨5001,9,1,r.length,rows encSb r⟩]:=by
 refine pY tOk f192 rfl ?_;unfold QbT at h;refine Qcl (enc:=encSb) ([(⟨#[100,111,111,114]⟩:Bt),(⟨#[104,111,115,116]⟩:Bt),(⟨#[110,97,116]⟩:Bt),(⟨#[112,101,101,114]⟩:Bt),(⟨#[112,111,114,116]⟩:Bt),(⟨#[114,111,117,116,101]⟩:Bt),(⟨#[114,117,108,101]⟩:Bt),(⟨#[117,115,101,114]⟩:Bt)]:List Bt) ?_;cases h;exact lfP [.s [(1,5001),(5001,1)]]
def QbU (a0:(List Bt)) (a1:Bt):Option (Bool):=
 bd (lp (σ:=Int) (β:=(Unit⊕Unit)) (fun s1=>
(if(decide (s1<((a0.length:Nat):Int)))=true then
 gd ((0:Int)≤s1∧s1<((a0.length:Nat):Int))<|
(if((a0.getD s1.toNat default)==a1)=true then
 some (.inr (.inl ()))
else
 some (.inl (IntKind.i64.wrap (s1+1))))
else
 some (.inr (.inr ())))) 0) fun x4=>
(match x4 with
| .inl d6=>
 some true
| .inr d7=>
 some false)
theorem Qg1 {a0:(List Bt)} {a1:Bt} {r:Bool} (h:QbU a0 a1=some r):PureC prog 85 [.d (slD encSb a0),.d (.str a1)] (dB r) []:=by
 refine pY tOk f85 rfl (Qb tOk ?_);obtain⟨x4,hx4,h⟩:=Qc h;refine QJ tOk hx4 (fun s1=>⟨0,18,[(0,.d (slD encSb a0)),(1,.d (.str a1)),(5,dI s1)],[],[],[]⟩) ?_ ?_
 ·exact leX []
 ·clear hx4;intro s1 y2 g3 hy2;refine Qb tOk ?_;apply Qr g3<;>intro _ g3
  ·refine Qb tOk (gdI g3 fun g3=>?_);apply Qr g3<;>intro _ g3
   ·cases g3
    cases hy2 _ rfl
    cases h
    exact lfP []
   ·exact eX g3 []
  ·cases g3
   cases hy2 _ rfl
   cases h
   exact lfP []
def QbA (a0:Bt):Option (Bool):=
(if((a0==(⟨#[97,108,108]⟩:Bt))||(a0==(⟨#[110,111,110,101]⟩:Bt)))=true then
 some true
else
 bd (JL a0 44) fun x1=>
 bd (lp (σ:=Int) (β:=(Unit⊕Unit)) (fun s2=>
(if(decide (s2<((x1.length:Nat):Int)))=true then
 bd (QbT) fun x6=>
 gd ((0:Int)≤s2∧s2<((x1.length:Nat):Int))<|
 bd (QbU x6 (x1.getD s2.toNat default)) fun x8=>
 gd ((decide (s2>0))=true→((!x8)=false→((0:Int)≤IntKind.i64.wrap (s2-1)∧IntKind.i64.wrap (s2-1)<((x1.length:Nat):Int))))<|
 gd ((decide (s2>0))=true→((!x8)=false→((0:Int)≤s2∧s2<((x1.length:Nat):Int))))<|
(if((!x8)||((decide (s2>0))&&(!(bsl (x1.getD ((IntKind.i64.wrap (s2-1)).toNat) default) (x1.getD s2.toNat default)))))=true then
 some (.inr (.inl ()))
else
 some (.inl (IntKind.i64.wrap (s2+1))))
else
 some (.inr (.inr ())))) 0) fun x5=>
(match x5 with
| .inl d11=>
 some false
| .inr d12=>
 some true))
theorem QiK {a0:Bt} {r:Bool} (h:QbA a0=some r):PureC prog 152 [.d (.str a0)] (dB r) []:=by
 refine pY tOk f152 rfl (Qb tOk ?_);apply Qr h<;>intro _ h
 ·cases h
  exact lfP []
 ·refine bC h 1000 (fun _=>QeC) fun x1 h=>Qb tOk ?_;obtain⟨x5,hx5,h⟩:=Qc h;refine QJ tOk hx5 (fun s2=>⟨0,42,[(3,.osl 6001 0 x1.length),(4,dI s2)],[],[(6001,.arr 9 1 x1.length (rows encSb x1))],[]⟩) ?_ ?_
  ·exact leX []
  ·clear hx5;intro s2 y3 g4 hy3;refine Qb tOk ?_;apply Qr g4<;>intro _ g4
   ·refine Qb tOk ?_;obtain⟨x6,hx6,g4⟩:=Qc g4;obtain⟨g7,g4⟩:=Qe g4;obtain⟨x8,hx8,g4⟩:=Qc g4;obtain⟨g9,g4⟩:=Qe g4;obtain⟨g10,g4⟩:=Qe g4;refine Q0 tOk [.u 0 2000 (.osl 5001 0 x6.length) [⟨5001,9,1,x6.length,rows encSb x6⟩],.u 5 0 (dB x8) []] 23 [] [0,0,0,6,14,31,63,127,255,511,1023,2047,2047,6143,16383,32767,2047,2047,198655,460799,1048575,2097151,4194303] [] (aI (QM (Qju hx6) (by kernel_rfl)) (aI g7 (aI (QM (Qg1 hx8) (by kernel_rfl)) (aI g9 (aI g10 (aK ?_))))));apply Qr g4<;>intro _ g4
    ·cases g4
     cases hy3 _ rfl
     cases h
     exact lfP []
    ·exact eX g4 []
   ·cases g4
    cases hy3 _ rfl
    cases h
    exact lfP []
def ZP (a0:Bt):Option (Int):=
 bd (JR ((a0.size:Nat):Int) 1 6) fun x1=>
 gd ((decide (((a0.size:Nat):Int)>1))=true→((!x1)=false→((0:Int)≤(0:Int)∧(0:Int)<((a0.size:Nat):Int))))<|
(if((!x1)||((decide (((a0.size:Nat):Int)>1))&&((Qah a0 0)==48)))=true then
 some (-1)
else
 bd (lp (σ:=Int×Int) (β:=(Unit⊕Int)) (fun s3=>
(if(decide (s3.2<((a0.size:Nat):Int)))=true then
 gd ((0:Int)≤s3.2∧s3.2<((a0.size:Nat):Int))<|
 bd (JR (IntKind.i64.wrap (Qah a0 s3.2.toNat)) 48 57) fun x8=>
(if(!x8)=true then
 some (.inr (.inl ()))
else
 gd ((0:Int)≤s3.2∧s3.2<((a0.size:Nat):Int))<|
 some (.inl (IntKind.i64.wrap ((IntKind.i64.wrap (s3.1*10))+(IntKind.i64.wrap (IntKind.u8.wrap ((Qah a0 s3.2.toNat) -48)))),IntKind.i64.wrap (s3.2+1))))
else
 some (.inr (.inr s3.1)))) (0,0)) fun x6=>
(match x6 with
| .inl d10=>
 some (-1)
| .inr d11=>
 some d11))
theorem Qai {a0:Bt} {r:Int} (h:ZP a0=some r):PureC prog 93 [.d (.str a0)] (dI r) []:=by
 refine pY tOk f93 rfl (Qb tOk (bC h 0 (fun _=>QbN) fun x1 h=>gdI h fun h=>?_));apply Qr h<;>intro _ h
 ·cases h
  exact lfP []
 ·refine Qb tOk ?_;obtain⟨x6,hx6,h⟩:=Qc h;refine QJ tOk hx6 (fun s3=>⟨0,40,[(0,.d (.str a0)),(3,dI s3.1),(4,dI s3.2)],[],[],[]⟩) ?_ ?_
  ·exact leX []
  ·clear hx6;intro s3 y4 g5 hy4;refine Qb tOk ?_;apply Qr g5<;>intro _ g5
   ·refine Qb tOk (Qb tOk (gdI g5 fun g5=>bC g5 0 (fun _=>QbN) fun x8 g5=>?_));apply Qr g5<;>intro _ g5
    ·cases g5
     cases hy4 _ rfl
     cases h
     exact lfP []
    ·refine gdI g5 fun g5=>?_;exact eX g5 []
   ·cases g5
    cases hy4 _ rfl
    cases h
    exact lfP []
def Zi (a0:Bt) (a1:Int) (a2:Int):Option (Bool):=
 bd (ZP a0) fun x1=>
 bd (JR x1 a1 a2) fun x2=>
 some x2
theorem ZF {a0:Bt} {a1:Int} {a2:Int} {r:Bool} (h:Zi a0 a1 a2=some r):PureC prog 128 [.d (.str a0),dI a1,dI a2] (dB r) []:=by
 refine pY tOk f128 rfl (bC h 0 (fun _=>Qai) fun x1 h=>bC h 0 (fun _=>QbN) fun x2 h=>?_);cases h;exact lfP []
def Ze (a0:Bt):Option (Int):=
 bd (JL a0 46) fun x1=>
 gd ((((x1.length:Nat):Int) !=2)=false→((0:Int)≤0∧0<((x1.length:Nat):Int)))<|
 bd (gcall ((((x1.length:Nat):Int) !=2)=false) (Zi (x1.getD 0 default) 0 255)) fun x3=>
 gd (((((x1.length:Nat):Int) !=2)||(!x3))=false→((0:Int)≤1∧1<((x1.length:Nat):Int)))<|
 bd (gcall (((((x1.length:Nat):Int) !=2)||(!x3))=false) (Zi (x1.getD 1 default) 0 255)) fun x5=>
(if(((((x1.length:Nat):Int) !=2)||(!x3))||(!x5))=true then
 some (-1)
else
 gd ((0:Int)≤0∧0<((x1.length:Nat):Int))<|
 bd (ZP (x1.getD 0 default)) fun x7=>
 gd ((0:Int)≤1∧1<((x1.length:Nat):Int))<|
 bd (ZP (x1.getD 1 default)) fun x9=>
 some (IntKind.i64.wrap ((IntKind.i64.wrap (256*x7))+x9)))
theorem Z4 {a0:Bt} {r:Int} (h:Ze a0=some r):PureC prog 90 [.d (.str a0)] (dI r) []:=by
 refine pY tOk f90 rfl (bC h 1000 (fun _=>QeC) fun x1 h=>Qb tOk (gdI h fun h=>bG h (fun _=>ZF) fun x3 h=>gdI h fun h=>bG h (fun _=>ZF) fun x5 h=>?_));apply Qr h<;>intro _ h
 ·cases h
  exact lfP []
 ·obtain⟨g6,h⟩:=Qe h;obtain⟨x7,hx7,h⟩:=Qc h;obtain⟨g8,h⟩:=Qe h;obtain⟨x9,hx9,h⟩:=Qc h;refine Q0 tOk [.u 3 0 (dI x7) [],.u 8 0 (dI x9) []] 11 [] [0,1,3,7,15,0,32,96,239,511,1023] [] (aI g6 (aI (QM (Qai hx7) (by kernel_rfl)) (aI g8 (aI (QM (Qai hx9) (by kernel_rfl)) (aK ?_)))));cases h;exact lfP []
def QcB (a0:Int):Option (Int):=
 bd (lp (σ:=Int×Int) (β:=(Int)) (fun s1=>
(if(decide (s1.2<16))=true then
 some (.inl (IntKind.i64.wrap (s1.1*2),IntKind.i64.wrap (s1.2+1)))
else
 some (.inr s1.1))) (1,a0)) fun x4=>
 some x4
theorem QkJ {a0:Int} {r:Int} (h:QcB a0=some r):PureC prog 129 [dI a0] (dI r) []:=by
 refine pY tOk f129 rfl (Qb tOk ?_);obtain⟨x4,hx4,h⟩:=Qc h;refine QJ tOk hx4 (fun s1=>⟨0,13,[(3,dI s1.1),(4,dI s1.2)],[],[],[]⟩) ?_ ?_
 ·exact leX []
 ·clear hx4;intro s1 y2 g3 hy2;refine Qb tOk ?_;apply Qr g3<;>intro _ g3
  ·refine Qb tOk ?_;exact eX g3 []
  ·cases g3
   cases hy2 _ rfl
   cases h
   exact lfP []
def Zu (a0:Bt):Option (Int×Int):=
 bd (JL a0 47) fun x1=>
 gd ((((x1.length:Nat):Int) !=2)=false→((0:Int)≤0∧0<((x1.length:Nat):Int)))<|
 bd (gcall ((((x1.length:Nat):Int) !=2)=false) (Ze (x1.getD 0 default))) fun x3=>
 gd (((((x1.length:Nat):Int) !=2)||(decide (x3<0)))=false→((0:Int)≤1∧1<((x1.length:Nat):Int)))<|
 bd (gcall (((((x1.length:Nat):Int) !=2)||(decide (x3<0)))=false) (Zi (x1.getD 1 default) 0 16)) fun x5=>
(if(((((x1.length:Nat):Int) !=2)||(decide (x3<0)))||(!x5))=true then
 some (-1,0)
else
 gd ((0:Int)≤0∧0<((x1.length:Nat):Int))<|
 bd (Ze (x1.getD 0 default)) fun x7=>
 gd ((0:Int)≤1∧1<((x1.length:Nat):Int))<|
 bd (ZP (x1.getD 1 default)) fun x9=>
 bd (QcB x9) fun x10=>
 gd ((x10:Int)≠0)<|
(if(((x7:Int).tmod x10) !=0)=true then
 some (-1,0)
else
 some (x7,x10)))
theorem Qad {a0:Bt} {r:Int×Int} (h:Zu a0=some r):PureC prog 88 [.d (.str a0)] (.tup [dI r.1,dI r.2]) []:=by
 refine pY tOk f88 rfl (bC h 1000 (fun _=>QeC) fun x1 h=>Qb tOk (gdI h fun h=>bG h (fun _=>Z4) fun x3 h=>gdI h fun h=>bG h (fun _=>ZF) fun x5 h=>?_));apply Qr h<;>intro _ h
 ·cases h
  exact lfP []
 ·refine gdI h fun h=>bC h 0 (fun _=>Z4) fun x7 h=>gdI h fun h=>bC h 0 (fun _=>Qai) fun x9 h=>bC h 0 (fun _=>QkJ) fun x10 h=>Qb tOk (gdI h fun h=>?_);apply Qr h<;>intro _ h
  ·cases h
   exact lfP []
  ·cases h
   exact lfP []
def ZG (a0:Bt):Option (Bool):=
 bd (Zu a0) fun x1=>
 some (decide (x1.1≥0))
theorem Qaj {a0:Bt} {r:Bool} (h:ZG a0=some r):PureC prog 153 [.d (.str a0)] (dB r) []:=by
 refine pY tOk f153 rfl (bC h 0 (fun _=>Qad) fun x1 h=>?_);cases h;exact lfP []
def QcC (a0:(List Bt)):Option (Bool):=
(if(((a0.length:Nat):Int)==0)=true then
 some false
else
 gd ((0:Int)≤0∧0<((a0.length:Nat):Int))<|
(if((a0.getD 0 default)==(⟨#[104,111,115,116]⟩:Bt))=true then
 gd ((((a0.length:Nat):Int)==2)=true→((0:Int)≤1∧1<((a0.length:Nat):Int)))<|
 bd (gcall ((((a0.length:Nat):Int)==2)=true) (Qan (a0.getD 1 default))) fun x3=>
 some ((((a0.length:Nat):Int)==2)&&x3)
else
(if((a0.getD 0 default)==(⟨#[117,115,101,114]⟩:Bt))=true then
 gd ((((a0.length:Nat):Int)==3)=true→((0:Int)≤1∧1<((a0.length:Nat):Int)))<|
 bd (gcall ((((a0.length:Nat):Int)==3)=true) (Qan (a0.getD 1 default))) fun x5=>
 gd (((((a0.length:Nat):Int)==3)&&x5)=true→((0:Int)≤2∧2<((a0.length:Nat):Int)))<|
 bd (gcall (((((a0.length:Nat):Int)==3)&&x5)=true) (QbA (a0.getD 2 default))) fun x7=>
 some (((((a0.length:Nat):Int)==3)&&x5)&&x7)
else
(if((a0.getD 0 default)==(⟨#[112,111,114,116]⟩:Bt))=true then
 gd ((((a0.length:Nat):Int)==5)=true→((((a0.length:Nat):Int)==3)=false→((0:Int)≤3∧3<((a0.length:Nat):Int))))<|
 gd (((((a0.length:Nat):Int)==5)&&((a0.getD 3 default)==(⟨#[105,110]⟩:Bt)))=true→((((a0.length:Nat):Int)==3)=false→((0:Int)≤4∧4<((a0.length:Nat):Int))))<|
 bd (gcall (((((a0.length:Nat):Int)==5)&&((a0.getD 3 default)==(⟨#[105,110]⟩:Bt)))=true∧(((a0.length:Nat):Int)==3)=false) (Qan (a0.getD 4 default))) fun x10=>
 gd (((((a0.length:Nat):Int)==3)||(((((a0.length:Nat):Int)==5)&&((a0.getD 3 default)==(⟨#[105,110]⟩:Bt)))&&x10))=true→((0:Int)≤1∧1<((a0.length:Nat):Int)))<|
 bd (gcall (((((a0.length:Nat):Int)==3)||(((((a0.length:Nat):Int)==5)&&((a0.getD 3 default)==(⟨#[105,110]⟩:Bt)))&&x10))=true) (Zi (a0.getD 1 default) 0 7)) fun x12=>
 gd ((((((a0.length:Nat):Int)==3)||(((((a0.length:Nat):Int)==5)&&((a0.getD 3 default)==(⟨#[105,110]⟩:Bt)))&&x10))&&x12)=true→((0:Int)≤2∧2<((a0.length:Nat):Int)))<|
 bd (gcall ((((((a0.length:Nat):Int)==3)||(((((a0.length:Nat):Int)==5)&&((a0.getD 3 default)==(⟨#[105,110]⟩:Bt)))&&x10))&&x12)=true) (ZG (a0.getD 2 default))) fun x14=>
 some ((((((a0.length:Nat):Int)==3)||(((((a0.length:Nat):Int)==5)&&((a0.getD 3 default)==(⟨#[105,110]⟩:Bt)))&&x10))&&x12)&&x14)
else
(if((a0.getD 0 default)==(⟨#[114,117,108,101]⟩:Bt))=true then
 gd ((((a0.length:Nat):Int)==7)=true→((0:Int)≤1∧1<((a0.length:Nat):Int)))<|
 bd (gcall ((((a0.length:Nat):Int)==7)=true) (Qan (a0.getD 1 default))) fun x16=>
 gd (((((a0.length:Nat):Int)==7)&&x16)=true→((0:Int)≤2∧2<((a0.length:Nat):Int)))<|
 bd (gcall (((((a0.length:Nat):Int)==7)&&x16)=true) (Zi (a0.getD 2 default) 0 99)) fun x18=>
 gd ((((((a0.length:Nat):Int)==7)&&x16)&&x18)=true→((0:Int)≤3∧3<((a0.length:Nat):Int)))<|
 gd (((a0.getD 3 default)==(⟨#[112,101,114,109,105,116]⟩:Bt))=false→((((((a0.length:Nat):Int)==7)&&x16)&&x18)=true→((0:Int)≤3∧3<((a0.length:Nat):Int))))<|
 gd (((((((a0.length:Nat):Int)==7)&&x16)&&x18)&&(((a0.getD 3 default)==(⟨#[112,101,114,109,105,116]⟩:Bt))||((a0.getD 3 default)==(⟨#[100,101,110,121]⟩:Bt))))=true→((0:Int)≤4∧4<((a0.length:Nat):Int)))<|
 bd (gcall (((((((a0.length:Nat):Int)==7)&&x16)&&x18)&&(((a0.getD 3 default)==(⟨#[112,101,114,109,105,116]⟩:Bt))||((a0.getD 3 default)==(⟨#[100,101,110,121]⟩:Bt))))=true) (ZG (a0.getD 4 default))) fun x22=>
 gd ((((((((a0.length:Nat):Int)==7)&&x16)&&x18)&&(((a0.getD 3 default)==(⟨#[112,101,114,109,105,116]⟩:Bt))||((a0.getD 3 default)==(⟨#[100,101,110,121]⟩:Bt))))&&x22)=true→((0:Int)≤5∧5<((a0.length:Nat):Int)))<|
 bd (gcall ((((((((a0.length:Nat):Int)==7)&&x16)&&x18)&&(((a0.getD 3 default)==(⟨#[112,101,114,109,105,116]⟩:Bt))||((a0.getD 3 default)==(⟨#[100,101,110,121]⟩:Bt))))&&x22)=true) (ZG (a0.getD 5 default))) fun x24=>
 gd (((((((((a0.length:Nat):Int)==7)&&x16)&&x18)&&(((a0.getD 3 default)==(⟨#[112,101,114,109,105,116]⟩:Bt))||((a0.getD 3 default)==(⟨#[100,101,110,121]⟩:Bt))))&&x22)&&x24)=true→((0:Int)≤6∧6<((a0.length:Nat):Int)))<|
 bd (gcall (((((((((a0.length:Nat):Int)==7)&&x16)&&x18)&&(((a0.getD 3 default)==(⟨#[112,101,114,109,105,116]⟩:Bt))||((a0.getD 3 default)==(⟨#[100,101,110,121]⟩:Bt))))&&x22)&&x24)=true) (Zi (a0.getD 6 default) 0 7)) fun x26=>
 some (((((((((a0.length:Nat):Int)==7)&&x16)&&x18)&&(((a0.getD 3 default)==(⟨#[112,101,114,109,105,116]⟩:Bt))||((a0.getD 3 default)==(⟨#[100,101,110,121]⟩:Bt))))&&x22)&&x24)&&x26)
else
(if((a0.getD 0 default)==(⟨#[114,111,117,116,101]⟩:Bt))=true then
 gd ((((a0.length:Nat):Int)==3)=true→((0:Int)≤1∧1<((a0.length:Nat):Int)))<|
 bd (gcall ((((a0.length:Nat):Int)==3)=true) (ZG (a0.getD 1 default))) fun x28=>
 gd (((((a0.length:Nat):Int)==3)&&x28)=true→((0:Int)≤2∧2<((a0.length:Nat):Int)))<|
 bd (gcall (((((a0.length:Nat):Int)==3)&&x28)=true) (Ze (a0.getD 2 default))) fun x30=>
 some (((((a0.length:Nat):Int)==3)&&x28)&&(decide (x30≥0)))
else
(if((a0.getD 0 default)==(⟨#[112,101,101,114]⟩:Bt))=true then
 gd ((((a0.length:Nat):Int)==4)=true→((0:Int)≤1∧1<((a0.length:Nat):Int)))<|
 bd (gcall ((((a0.length:Nat):Int)==4)=true) (Ze (a0.getD 1 default))) fun x32=>
 gd (((((a0.length:Nat):Int)==4)&&(decide (x32≥0)))=true→((0:Int)≤2∧2<((a0.length:Nat):Int)))<|
 bd (gcall (((((a0.length:Nat):Int)==4)&&(decide (x32≥0)))=true) (Zi (a0.getD 2 default) 1 9)) fun x34=>
 gd ((((((a0.length:Nat):Int)==4)&&(decide (x32≥0)))&&x34)=true→((0:Int)≤3∧3<((a0.length:Nat):Int)))<|
 bd (gcall ((((((a0.length:Nat):Int)==4)&&(decide (x32≥0)))&&x34)=true) (Zi (a0.getD 3 default) 1 999999)) fun x36=>
 some ((((((a0.length:Nat):Int)==4)&&(decide (x32≥0)))&&x34)&&x36)
else
(if((a0.getD 0 default)==(⟨#[110,97,116]⟩:Bt))=true then
 gd ((((a0.length:Nat):Int)==5)=true→((0:Int)≤1∧1<((a0.length:Nat):Int)))<|
 bd (gcall ((((a0.length:Nat):Int)==5)=true) (ZG (a0.getD 1 default))) fun x38=>
 gd (((((a0.length:Nat):Int)==5)&&x38)=true→((0:Int)≤2∧2<((a0.length:Nat):Int)))<|
 bd (gcall (((((a0.length:Nat):Int)==5)&&x38)=true) (Ze (a0.getD 2 default))) fun x40=>
 gd ((((((a0.length:Nat):Int)==5)&&x38)&&(decide (x40≥0)))=true→((0:Int)≤3∧3<((a0.length:Nat):Int)))<|
 bd (gcall ((((((a0.length:Nat):Int)==5)&&x38)&&(decide (x40≥0)))=true) (Zi (a0.getD 3 default) 1 65535)) fun x42=>
 gd (((((((a0.length:Nat):Int)==5)&&x38)&&(decide (x40≥0)))&&x42)=true→((0:Int)≤4∧4<((a0.length:Nat):Int)))<|
 bd (gcall (((((((a0.length:Nat):Int)==5)&&x38)&&(decide (x40≥0)))&&x42)=true) (Zi (a0.getD 4 default) 1 65535)) fun x44=>
 some (((((((a0.length:Nat):Int)==5)&&x38)&&(decide (x40≥0)))&&x42)&&x44)
else
(if((a0.getD 0 default)==(⟨#[100,111,111,114]⟩:Bt))=true then
 gd ((((a0.length:Nat):Int)==5)=true→((0:Int)≤1∧1<((a0.length:Nat):Int)))<|
 bd (gcall ((((a0.length:Nat):Int)==5)=true) (Zi (a0.getD 1 default) 1 7)) fun x46=>
 gd (((((a0.length:Nat):Int)==5)&&x46)=true→((0:Int)≤2∧2<((a0.length:Nat):Int)))<|
 bd (gcall (((((a0.length:Nat):Int)==5)&&x46)=true) (Zi (a0.getD 2 default) 1 65535)) fun x48=>
 gd ((((((a0.length:Nat):Int)==5)&&x46)&&x48)=true→((0:Int)≤3∧3<((a0.length:Nat):Int)))<|
 bd (gcall ((((((a0.length:Nat):Int)==5)&&x46)&&x48)=true) (Ze (a0.getD 3 default))) fun x50=>
 gd (((((((a0.length:Nat):Int)==5)&&x46)&&x48)&&(decide (x50≥0)))=true→((0:Int)≤4∧4<((a0.length:Nat):Int)))<|
 bd (gcall (((((((a0.length:Nat):Int)==5)&&x46)&&x48)&&(decide (x50≥0)))=true) (Zi (a0.getD 4 default) 1 65535)) fun x52=>
 some (((((((a0.length:Nat):Int)==5)&&x46)&&x48)&&(decide (x50≥0)))&&x52)
else
 some false)))))))))
theorem QkK {a0:(List Bt)} {r:Bool} (h:QcC a0=some r):PureC prog 125 [.d (slD encSb a0)] (dB r) []:=by
 refine pY tOk f125 rfl (Qb tOk ?_);apply Qr h<;>intro _ h
 ·cases h
  exact lfP []
 ·refine Qb tOk (gdI h fun h=>?_);apply Qr h<;>intro _ h
  ·refine gdI h fun h=>bG h (fun _=>QcA) fun x3 h=>?_;cases h;exact lfP []
  ·apply Qr h<;>intro _ h
   ·refine gdI h fun h=>bG h (fun _=>QcA) fun x5 h=>gdI h fun h=>bG h (fun _=>QiK) fun x7 h=>?_;cases h;exact lfP []
   ·apply Qr h<;>intro _ h
    ·refine gdI h fun h=>gdI h fun h=>?_;obtain⟨x10,hx10,h⟩:=Qc h;refine cG (fun c0 c1=>QcA (Qo hx10 ⟨c0,c1⟩)) (gdI h fun h=>bG h (fun _=>ZF) fun x12 h=>gdI h fun h=>bG h (fun _=>Qaj) fun x14 h=>?_);cases h;exact lfP []
    ·apply Qr h<;>intro _ h
     ·refine gdI h fun h=>bG h (fun _=>QcA) fun x16 h=>gdI h fun h=>bG h (fun _=>ZF) fun x18 h=>gdI h fun h=>gdI h fun h=>gdI h fun h=>bG h (fun _=>Qaj) fun x22 h=>gdI h fun h=>bG h (fun _=>Qaj) fun x24 h=>gdI h fun h=>bG h (fun _=>ZF) fun x26 h=>?_;cases h;exact lfP []
     ·apply Qr h<;>intro _ h
      ·refine gdI h fun h=>bG h (fun _=>Qaj) fun x28 h=>gdI h fun h=>bG h (fun _=>Z4) fun x30 h=>?_;cases h;exact lfP []
      ·apply Qr h<;>intro _ h
       ·refine gdI h fun h=>bG h (fun _=>Z4) fun x32 h=>gdI h fun h=>bG h (fun _=>ZF) fun x34 h=>gdI h fun h=>bG h (fun _=>ZF) fun x36 h=>?_;cases h;exact lfP []
       ·apply Qr h<;>intro _ h
        ·refine gdI h fun h=>bG h (fun _=>Qaj) fun x38 h=>gdI h fun h=>bG h (fun _=>Z4) fun x40 h=>gdI h fun h=>bG h (fun _=>ZF) fun x42 h=>gdI h fun h=>bG h (fun _=>ZF) fun x44 h=>?_;cases h;exact lfP []
        ·apply Qr h<;>intro _ h
         ·refine gdI h fun h=>bG h (fun _=>ZF) fun x46 h=>gdI h fun h=>bG h (fun _=>ZF) fun x48 h=>gdI h fun h=>bG h (fun _=>Z4) fun x50 h=>gdI h fun h=>bG h (fun _=>ZF) fun x52 h=>?_;cases h;exact lfP []
         ·cases h
          exact lfP []
def Qbn (a0:(List Bt)) (a1:Bt):Option (Bt):=
 bd (lp (σ:=Bt×Int) (β:=(Bt)) (fun s1=>
(if(decide (s1.2<((a0.length:Nat):Int)))=true then
(if(decide (s1.2>0))=true then
 gd (s1.1.size+a1.size≤9223372036854775807)<|
 gd ((0:Int)≤s1.2∧s1.2<((a0.length:Nat):Int))<|
 gd ((s1.1++a1).size+(a0.getD s1.2.toNat default).size≤9223372036854775807)<|
 some (.inl (((s1.1++a1)++(a0.getD s1.2.toNat default)),IntKind.i64.wrap (s1.2+1)))
else
 gd ((0:Int)≤s1.2∧s1.2<((a0.length:Nat):Int))<|
 gd (s1.1.size+(a0.getD s1.2.toNat default).size≤9223372036854775807)<|
 some (.inl ((s1.1++(a0.getD s1.2.toNat default)),IntKind.i64.wrap (s1.2+1))))
else
 some (.inr s1.1))) ((⟨#[]⟩:Bt),0)) fun x4=>
 some x4
theorem QkL {a0:(List Bt)} {a1:Bt} {r:Bt} (h:Qbn a0 a1=some r):PureC prog 126 [.d (slD encSb a0),.d (.str a1)] (.d (.str r)) []:=by
 refine pY tOk f126 rfl (Qb tOk ?_);obtain⟨x4,hx4,h⟩:=Qc h;refine QJ tOk hx4 (fun s1=>⟨0,25,[(0,.d (slD encSb a0)),(1,.d (.str a1)),(5,.d (.str s1.1)),(6,dI s1.2)],[],[],[]⟩) ?_ ?_
 ·exact leX []
 ·clear hx4;intro s1 y2 g3 hy2;refine Qb tOk ?_;apply Qr g3<;>intro _ g3
  ·refine Qb tOk (Qb tOk ?_);apply Qr g3<;>intro _ g3
   ·refine gdI g3 fun g3=>gdI g3 fun g3=>gdI g3 fun g3=>?_;exact eX g3 []
   ·refine gdI g3 fun g3=>gdI g3 fun g3=>?_;exact eX g3 []
  ·cases g3
   cases hy2 _ rfl
   cases h
   exact lfP []
def QbV (a0:Bt):Option (Bt×Bool):=
 bd (JB a0) fun x1=>
 bd (gcall ((!x1.2)=false) (QcC x1.1)) fun x2=>
(if((!x1.2)||(!x2))=true then
 some ((⟨#[]⟩:Bt),false)
else
 bd (Qbn x1.1 (⟨#[32]⟩:Bt)) fun x3=>
 some (x3,true))
theorem Qjv {a0:Bt} {r:Bt×Bool} (h:QbV a0=some r):PureC prog 82 [.d (.str a0)] (.tup [.d (.str r.1),dB r.2]) []:=by
 refine pY tOk f82 rfl (bC h 1000 (fun _=>Qda) fun x1 h=>Qb tOk (bG h (fun _=>QkK) fun x2 h=>?_));apply Qr h<;>intro _ h
 ·cases h
  exact lfP []
 ·refine bC h 0 (fun _=>QkL) fun x3 h=>?_;cases h;exact lfP []
def QcD (a0:Bt):Option (Bool):=
 bd (QbV a0) fun x1=>
 some (x1.2&&(x1.1==a0))
theorem QkM {a0:Bt} {r:Bool} (h:QcD a0=some r):PureC prog 40 [.d (.str a0)] (dB r) []:=by
 refine pY tOk f40 rfl (bC h 0 (fun _=>Qjv) fun x1 h=>?_);cases h;exact lfP []
def Zl (a0:Bt):Option (Bt):=
 bd (QcD a0) fun x1=>
(if(!x1)=true then
 some (⟨#[]⟩:Bt)
else
 bd (JB a0) fun x2=>
 gd ((0:Int)≤0∧0<((x2.1.length:Nat):Int))<|
 bd (α:=Bool) ((if((x2.1.getD 0 default)==(⟨#[104,111,115,116]⟩:Bt))=true then
 some ((x2.1.getD 0 default)==(⟨#[104,111,115,116]⟩:Bt))
else
 some ((x2.1.getD 0 default)==(⟨#[110,97,116]⟩:Bt)))) fun x4=>
(if x4=true then
 gd ((0:Int)≤0∧0<((x2.1.length:Nat):Int))<|
 some (x2.1.getD 0 default)
else
 bd (α:=Bool) ((if((x2.1.getD 0 default)==(⟨#[117,115,101,114]⟩:Bt))=true then
 some ((x2.1.getD 0 default)==(⟨#[117,115,101,114]⟩:Bt))
else
(if((x2.1.getD 0 default)==(⟨#[112,111,114,116]⟩:Bt))=true then
 some ((x2.1.getD 0 default)==(⟨#[112,111,114,116]⟩:Bt))
else
 some ((x2.1.getD 0 default)==(⟨#[112,101,101,114]⟩:Bt))))) fun x8=>
(if x8=true then
 gd ((0:Int)≤0∧0<((x2.1.length:Nat):Int))<|
 gd ((x2.1.getD 0 default).size+(⟨#[32]⟩:Bt).size≤9223372036854775807)<|
 gd ((0:Int)≤1∧1<((x2.1.length:Nat):Int))<|
 gd (((x2.1.getD 0 default)++(⟨#[32]⟩:Bt)).size+(x2.1.getD 1 default).size≤9223372036854775807)<|
 some (((x2.1.getD 0 default)++(⟨#[32]⟩:Bt))++(x2.1.getD 1 default))
else
 bd (α:=Bool) ((if((x2.1.getD 0 default)==(⟨#[114,117,108,101]⟩:Bt))=true then
 some ((x2.1.getD 0 default)==(⟨#[114,117,108,101]⟩:Bt))
else
 some ((x2.1.getD 0 default)==(⟨#[100,111,111,114]⟩:Bt)))) fun x15=>
(if x15=true then
 gd ((0:Int)≤0∧0<((x2.1.length:Nat):Int))<|
 gd ((x2.1.getD 0 default).size+(⟨#[32]⟩:Bt).size≤9223372036854775807)<|
 gd ((0:Int)≤1∧1<((x2.1.length:Nat):Int))<|
 gd (((x2.1.getD 0 default)++(⟨#[32]⟩:Bt)).size+(x2.1.getD 1 default).size≤9223372036854775807)<|
 gd ((((x2.1.getD 0 default)++(⟨#[32]⟩:Bt))++(x2.1.getD 1 default)).size+(⟨#[32]⟩:Bt).size≤9223372036854775807)<|
 gd ((0:Int)≤2∧2<((x2.1.length:Nat):Int))<|
 gd (((((x2.1.getD 0 default)++(⟨#[32]⟩:Bt))++(x2.1.getD 1 default))++(⟨#[32]⟩:Bt)).size+(x2.1.getD 2 default).size≤9223372036854775807)<|
 some (((((x2.1.getD 0 default)++(⟨#[32]⟩:Bt))++(x2.1.getD 1 default))++(⟨#[32]⟩:Bt))++(x2.1.getD 2 default))
else
 some a0))))
theorem Ji {a0:Bt} {r:Bt} (h:Zl a0=some r):PureC prog 18 [.d (.str a0)] (.d (.str r)) []:=by
 refine pY tOk f18 rfl (Qb tOk (bC h 0 (fun _=>QkM) fun x1 h=>?_));apply Qr h<;>intro _ h
 ·cases h
  exact lfP []
 ·refine bC h 1000 (fun _=>Qda) fun x2 h=>Qb tOk (gdI h fun h=>?_);obtain⟨x4,hx4,h⟩:=Qc h;refine J6 tOk (fun s5=>⟨0,51,[(0,.d (.str a0)),(3,.osl 6001 0 x2.1.length),(15,.d (.str (x2.1.getD 0 default))),(16,dB s5)],[],[(6001,.arr 9 1 x2.1.length (rows encSb x2.1))],[]⟩) (fun s5=>x4=s5) ?_ ?_
  ·apply Qr hx4<;>intro _ hx4
   ·exact eZ hx4 []
   ·exact eZ hx4 []
  ·rintro _ rfl;apply Qr h<;>intro _ h
   ·refine gdI h fun h=>?_;cases h;exact lfP []
   ·obtain⟨x8,hx8,h⟩:=Qc h;refine J6 tOk (fun s9=>⟨0,51,[(0,.d (.str a0)),(3,.osl 6001 0 x2.1.length),(15,.d (.str (x2.1.getD 0 default))),(22,dB s9)],[],[(6001,.arr 9 1 x2.1.length (rows encSb x2.1))],[]⟩) (fun s9=>x8=s9) ?_ ?_
    ·apply Qr hx8<;>intro _ hx8
     ·exact eZ hx8 []
     ·apply Qr hx8<;>intro _ hx8
      ·exact eZ hx8 []
      ·exact eZ hx8 []
    ·rintro _ rfl;apply Qr h<;>intro _ h
     ·obtain⟨g11,h⟩:=Qe h;obtain⟨g12,h⟩:=Qe h;obtain⟨g13,h⟩:=Qe h;obtain⟨g14,h⟩:=Qe h;refine Q0 tOk [] 9 [] [0,1,3,7,0,16,48,127,255] [] (aI g11 (aI g12 (aI g13 (aI g14 (aK ?_)))));cases h;exact lfP []
     ·obtain⟨x15,hx15,h⟩:=Qc h;refine J6 tOk (fun s16=>⟨0,51,[(0,.d (.str a0)),(3,.osl 6001 0 x2.1.length),(34,dB s16)],[],[(6001,.arr 9 1 x2.1.length (rows encSb x2.1))],[]⟩) (fun s16=>x15=s16) ?_ ?_
      ·apply Qr hx15<;>intro _ hx15
       ·exact eZ hx15 []
       ·exact eZ hx15 []
      ·rintro _ rfl;apply Qr h<;>intro _ h
       ·obtain⟨g18,h⟩:=Qe h;obtain⟨g19,h⟩:=Qe h;obtain⟨g20,h⟩:=Qe h;obtain⟨g21,h⟩:=Qe h;obtain⟨g22,h⟩:=Qe h;obtain⟨g23,h⟩:=Qe h;obtain⟨g24,h⟩:=Qe h;refine Q0 tOk [] 14 [] [0,1,3,7,0,16,48,127,255,0,512,1536,4095,8191] [] (aI g18 (aI g19 (aI g20 (aI g21 (aI g22 (aI g23 (aI g24 (aK ?_))))))));cases h;exact lfP []
       ·cases h
        exact lfP []
def QbW (a0:(List Bt)) (a1:Bt):Option (Int):=
 bd (lp (σ:=Int) (β:=(Int⊕Unit)) (fun s1=>
(if(decide (s1<((a0.length:Nat):Int)))=true then
 gd ((0:Int)≤s1∧s1<((a0.length:Nat):Int))<|
 bd (Zl (a0.getD s1.toNat default)) fun x6=>
(if(x6==a1)=true then
 some (.inr (.inl s1))
else
 some (.inl (IntKind.i64.wrap (s1+1))))
else
 some (.inr (.inr ())))) 0) fun x4=>
(match x4 with
| .inl d7=>
 some d7
| .inr d8=>
 some (-1))
theorem Qg2 {a0:(List Bt)} {a1:Bt} {r:Int} (h:QbW a0 a1=some r):PureC prog 14 [.d (slD encSb a0),.d (.str a1)] (dI r) []:=by
 refine pY tOk f14 rfl (Qb tOk ?_);obtain⟨x4,hx4,h⟩:=Qc h;refine QJ tOk hx4 (fun s1=>⟨0,20,[(0,.d (slD encSb a0)),(1,.d (.str a1)),(5,dI s1)],[],[],[]⟩) ?_ ?_
 ·exact leX []
 ·clear hx4;intro s1 y2 g3 hy2;refine Qb tOk ?_;apply Qr g3<;>intro _ g3
  ·refine Qb tOk (gdI g3 fun g3=>bC g3 0 (fun _=>Ji) fun x6 g3=>?_);apply Qr g3<;>intro _ g3
   ·cases g3
    cases hy2 _ rfl
    cases h
    exact lfP []
   ·exact eX g3 []
  ·cases g3
   cases hy2 _ rfl
   cases h
   exact lfP []
def Qav (a0:(List Bt)) (a1:Int):Option ((List Bt)):=
 gd ((0:Int)≤(0:Int)∧(0:Int)≤a1∧a1≤((a0.length:Nat):Int))<|
 gd (((0)+(a1.toNat))*(16+1)≤70368744177664)<|
 gd ((0:Int)≤IntKind.i64.wrap (a1+1)∧IntKind.i64.wrap (a1+1)≤((a0.length:Nat):Int)∧((a0.length:Nat):Int)≤((a0.length:Nat):Int))<|
 gd ((((a0.take a1.toNat).length)+((QhI ((a0.length:Nat):Int) (IntKind.i64.wrap (a1+1)))))*(16+1)≤70368744177664)<|
 some ((a0.take a1.toNat)++(((a0).take ((IntKind.i64.wrap (a1+1)).toNat+(QhI ((a0.length:Nat):Int) (IntKind.i64.wrap (a1+1))))).drop ((IntKind.i64.wrap (a1+1)).toNat)))
theorem Qej {a0:(List Bt)} {a1:Int} {r:(List Bt)} (h:Qav a0 a1=some r):PureC prog 15 [.d (slD encSb a0),dI a1] (.osl 5001 0 r.length) [⟨5001,9,1,r.length,rows encSb r⟩]:=by
 refine pY tOk f15 rfl ?_;obtain⟨g1,h⟩:=Qe h;obtain⟨g2,h⟩:=Qe h;obtain⟨g3,h⟩:=Qe h;refine Q0 tOk [] 9 [] [0,0,0,6,15,0,0,64,224] [511,1023] (aI ⟨g1,.inr rfl⟩ (aI g2 (Qxp (enc:=encSb) (ys:=a0.take a1.toNat) (aI ⟨g3,.inr rfl⟩ (aK (gdI h fun h=>Qiv (enc:=encSb) (xs:=(a0.take a1.toNat)) (ys:=((a0).take ((IntKind.i64.wrap (a1+1)).toNat+(QhI ((a0.length:Nat):Int) (IntKind.i64.wrap (a1+1))))).drop ((IntKind.i64.wrap (a1+1)).toNat)) ?_))))));cases h;exact lfP [.s [(9,5001),(5001,9)]]
def QbX (a0:(List Bt)) (a1:Bt):Option ((List Bt)):=
 bd (lp (σ:=Int) (β:=(Int)) (fun s1=>
 gd ((decide (s1<((a0.length:Nat):Int)))=true→((0:Int)≤s1∧s1<((a0.length:Nat):Int)))<|
(if((decide (s1<((a0.length:Nat):Int)))&&(bsl (a0.getD s1.toNat default) a1))=true then
 some (.inl (IntKind.i64.wrap (s1+1)))
else
 some (.inr s1))) 0) fun x4=>
 gd ((0:Int)≤(0:Int)∧(0:Int)≤x4∧x4≤((a0.length:Nat):Int))<|
 gd (((0)+(x4.toNat))*(16+1)≤70368744177664)<|
 gd ((((a0.take x4.toNat).length)+(([a1]:List Bt).length))*(16+1)≤70368744177664)<|
 gd ((0:Int)≤x4∧x4≤((a0.length:Nat):Int)∧((a0.length:Nat):Int)≤((a0.length:Nat):Int))<|
 gd (((((a0.take x4.toNat)++([a1]:List Bt)).length)+((QhI ((a0.length:Nat):Int) x4)))*(16+1)≤70368744177664)<|
 some (((a0.take x4.toNat)++([a1]:List Bt))++(((a0).take (x4.toNat+(QhI ((a0.length:Nat):Int) x4))).drop x4.toNat))
theorem Qg3 {a0:(List Bt)} {a1:Bt} {r:(List Bt)} (h:QbX a0 a1=some r):PureC prog 16 [.d (slD encSb a0),.d (.str a1)] (.osl 5001 0 r.length) [⟨5001,9,1,r.length,rows encSb r⟩]:=by
 refine pY tOk f16 rfl (Qb tOk ?_);obtain⟨x4,hx4,h⟩:=Qc h;refine QJ tOk hx4 (fun s1=>⟨0,32,[(0,.d (slD encSb a0)),(1,.d (.str a1)),(5,dI s1)],[],[],[]⟩) ?_ ?_
 ·exact leX []
 ·clear hx4;intro s1 y2 g3 hy2;refine Qb tOk (gdI g3 fun g3=>?_);apply Qr g3<;>intro _ g3
  ·exact eX g3 []
  ·cases g3
   obtain rfl:=hy2 _ rfl;obtain⟨g7,h⟩:=Qe h;obtain⟨g8,h⟩:=Qe h;obtain⟨g9,h⟩:=Qe h;obtain⟨g10,h⟩:=Qe h;obtain⟨g11,h⟩:=Qe h;refine QbY tOk [.a 4 [] (.osl 24 0 ((a0.take s1.toNat).length)) [(24,.arr 9 1 ((a0.take s1.toNat).length) (rows encSb (a0.take s1.toNat)))],.a 7 [(24,.arr 9 1 ((a0.take s1.toNat).length) (rows encSb (a0.take s1.toNat)))] (.osl 27 0 (((a0.take s1.toNat)++([a1]:List Bt)).length)) [(27,.arr 9 1 (((a0.take s1.toNat)++([a1]:List Bt)).length) (rows encSb ((a0.take s1.toNat)++([a1]:List Bt))))],.a 11 [(27,.arr 9 1 (((a0.take s1.toNat)++([a1]:List Bt)).length) (rows encSb ((a0.take s1.toNat)++([a1]:List Bt))))] (.osl 31 0 ((((a0.take s1.toNat)++([a1]:List Bt))++(((a0).take (s1.toNat+(QhI ((a0.length:Nat):Int) s1))).drop s1.toNat)).length)) [(31,.arr 9 1 ((((a0.take s1.toNat)++([a1]:List Bt))++(((a0).take (s1.toNat+(QhI ((a0.length:Nat):Int) s1))).drop s1.toNat)).length) (rows encSb (((a0.take s1.toNat)++([a1]:List Bt))++(((a0).take (s1.toNat+(QhI ((a0.length:Nat):Int) s1))).drop s1.toNat))))]] 13 [] [0,0,0,6,15,0,32,127,0,0,768,2047,4095] [] [] (aI ⟨g7,.inr rfl⟩ (aI (by(conv=>whnf);exact⟨g8,Qxp (enc:=encSb) (ys:=a0.take s1.toNat) ⟨rfl,rfl⟩⟩) (Qcl (enc:=encSb) ([a1]:List Bt) (aI (by(conv=>whnf);exact⟨g9,Qiv (enc:=encSb) (xs:=(a0.take s1.toNat)) (ys:=([a1]:List Bt)) ⟨rfl,rfl⟩⟩) (aI ⟨g10,.inr rfl⟩ (aI (by(conv=>whnf);exact⟨g11,Qiv (enc:=encSb) (xs:=((a0.take s1.toNat)++([a1]:List Bt))) (ys:=((a0).take (s1.toNat+(QhI ((a0.length:Nat):Int) s1))).drop s1.toNat) ⟨rfl,rfl⟩⟩) (aK ?_)))))));cases h;exact lfP [.s [(31,5001),(5001,31)]]
def QcE (a0:(List Bt)):Option ((List Bt)):=
 bd (lp (σ:=List Bt×Int) (β:=(Nat×(List Bt))) (fun s1=>
(if(decide (s1.2<((a0.length:Nat):Int)))=true then
 gd ((0:Int)≤s1.2∧s1.2<((a0.length:Nat):Int))<|
 bd (Zl (a0.getD s1.2.toNat default)) fun x6=>
 gd (((s1.1.length)+(([x6]:List Bt).length))*(16+1)≤70368744177664)<|
 some (.inl ((s1.1++([x6]:List Bt)),IntKind.i64.wrap (s1.2+1)))
else
 some (.inr (s1.1.length,s1.1)))) (([]:List Bt),0)) fun x4=>
 some x4.2
theorem QkN {a0:(List Bt)} {r:(List Bt)} (h:QcE a0=some r):PureC prog 84 [.d (slD encSb a0)] (.osl 5001 0 r.length) [⟨5001,9,1,r.length,rows encSb r⟩]:=by
 refine pY tOk f84 rfl (Qb tOk ?_);obtain⟨x4,hx4,h⟩:=Qc h;refine QJ tOk hx4 (fun s1=>⟨0,21,[(0,.d (slD encSb a0)),(3,.osl 7001 0 s1.1.length),(4,dI s1.2)],[],[(7001,.arr 9 1 s1.1.length (rows encSb s1.1))],[]⟩) ?_ ?_
 ·exact leX [.p 7001 9 1 (rows encSb ([]:List Bt))]
 ·clear hx4;intro s1 y2 g3 hy2;refine Qb tOk ?_;apply Qr g3<;>intro _ g3
  ·refine Qb tOk (gdI g3 fun g3=>bC g3 0 (fun _=>Ji) fun x6 g3=>Qcl (enc:=encSb) ([x6]:List Bt) (gdI g3 fun g3=>Qiv (enc:=encSb) (xs:=s1.1) (ys:=([x6]:List Bt)) ?_));exact eX g3 []
  ·cases g3
   cases hy2 _ rfl
   cases h
   exact lfP [.s [(5001,7001),(7001,5001)]]
def QcF (a0:(List Bt)):Option (Int):=
(if(decide (((a0.length:Nat):Int)>16))=true then
 some 1
else
 bd (QcE a0) fun x1=>
 bd (lp (σ:=Int) (β:=(Unit⊕Unit)) (fun s2=>
(if(decide (s2<((a0.length:Nat):Int)))=true then
 gd ((0:Int)≤s2∧s2<((x1.length:Nat):Int))<|
(if((x1.getD s2.toNat default)==(⟨#[]⟩:Bt))=true then
 some (.inr (.inl ()))
else
 some (.inl (IntKind.i64.wrap (s2+1))))
else
 some (.inr (.inr ())))) 0) fun x5=>
(match x5 with
| .inl d7=>
 some 2
| .inr d8=>
 bd (lp (σ:=Int) (β:=(Unit⊕Unit)) (fun s9=>
(if(decide (s9<((a0.length:Nat):Int)))=true then
 gd ((0:Int)≤IntKind.i64.wrap (s9-1)∧IntKind.i64.wrap (s9-1)<((a0.length:Nat):Int))<|
 gd ((0:Int)≤s9∧s9<((a0.length:Nat):Int))<|
(if(!(bsl (a0.getD ((IntKind.i64.wrap (s9-1)).toNat) default) (a0.getD s9.toNat default)))=true then
 some (.inr (.inl ()))
else
 some (.inl (IntKind.i64.wrap (s9+1))))
else
 some (.inr (.inr ())))) 1) fun x12=>
(match x12 with
| .inl d15=>
 some 3
| .inr d16=>
 bd (lp (σ:=Int) (β:=(Unit⊕Unit)) (fun s17=>
(if(decide (s17<((a0.length:Nat):Int)))=true then
 gd ((0:Int)≤(0:Int)∧(0:Int)≤s17∧s17≤((x1.length:Nat):Int))<|
 gd ((0:Int)≤s17∧s17<((x1.length:Nat):Int))<|
 bd (QbU (x1.take s17.toNat) (x1.getD s17.toNat default)) fun x23=>
(if x23=true then
 some (.inr (.inl ()))
else
 some (.inl (IntKind.i64.wrap (s17+1))))
else
 some (.inr (.inr ())))) 0) fun x20=>
(match x20 with
| .inl d24=>
 some 4
| .inr d25=>
 some 0))))
theorem QkO {a0:(List Bt)} {r:Int} (h:QcF a0=some r):PureC prog 42 [.d (slD encSb a0)] (dI r) []:=by
 refine pY tOk f42 rfl (Qb tOk ?_);apply Qr h<;>intro _ h
 ·cases h
  exact lfP []
 ·refine bC h 1000 (fun _=>QkN) fun x1 h=>Qb tOk ?_;obtain⟨x5,hx5,h⟩:=Qc h;refine QJ tOk hx5 (fun s2=>⟨0,53,[(0,.d (slD encSb a0)),(3,.osl 6001 0 x1.length),(4,dI s2)],[],[(6001,.arr 9 1 x1.length (rows encSb x1))],[]⟩) ?_ ?_
  ·exact leX []
  ·clear hx5;intro s2 y3 g4 hy3;refine Qb tOk ?_;apply Qr g4<;>intro _ g4
   ·refine Qb tOk (gdI g4 fun g4=>?_);apply Qr g4<;>intro _ g4
    ·cases g4
     cases hy3 _ rfl
     cases h
     exact lfP []
    ·exact eX g4 []
   ·cases g4
    cases hy3 _ rfl
    refine Qb tOk ?_;obtain⟨x12,hx12,h⟩:=Qc h;refine QJ tOk hx12 (fun s9=>⟨0,53,[(0,.d (slD encSb a0)),(3,.osl 6001 0 x1.length),(5,dI s9)],[],[(6001,.arr 9 1 x1.length (rows encSb x1))],[]⟩) ?_ ?_
    ·exact leX []
    ·clear hx12;intro s9 y10 g11 hy10;refine Qb tOk ?_;apply Qr g11<;>intro _ g11
     ·refine Qb tOk ?_;obtain⟨g13,g11⟩:=Qe g11;obtain⟨g14,g11⟩:=Qe g11;refine Q0 tOk [] 10 [] [0,0,2,7,15,0,0,96,224,511] [] (aI g13 (aI g14 (aK ?_)));apply Qr g11<;>intro _ g11
      ·cases g11
       cases hy10 _ rfl
       cases h
       exact lfP []
      ·exact eX g11 []
     ·cases g11
      cases hy10 _ rfl
      refine Qb tOk ?_;obtain⟨x20,hx20,h⟩:=Qc h;refine QJ tOk hx20 (fun s17=>⟨0,53,[(0,.d (slD encSb a0)),(3,.osl 6001 0 x1.length),(6,dI s17)],[],[(6001,.arr 9 1 x1.length (rows encSb x1))],[]⟩) ?_ ?_
      ·exact leX []
      ·clear hx20;intro s17 y18 g19 hy18;refine Qb tOk ?_;apply Qr g19<;>intro _ g19
       ·refine Qb tOk ?_;obtain⟨g21,g19⟩:=Qe g19;obtain⟨g22,g19⟩:=Qe g19;obtain⟨x23,hx23,g19⟩:=Qc g19;refine Q0 tOk [.u 7 0 (dB x23) []] 8 [] [0,0,3,0,0,24,56,127] [] (aI g21 (aI g22 (aI (Qu4 (Qg1 hx23) rfl Qtb) (aK ?_))));apply Qr g19<;>intro _ g19
        ·cases g19
         cases hy18 _ rfl
         cases h
         exact lfP []
        ·exact eX g19 []
       ·cases g19
        cases hy18 _ rfl
        cases h
        exact lfP []
def QcG (a0:(List Bt)):Option ((List Qyd)):=
 bd (lp (σ:=List Qyd×Int) (β:=(Nat×(List Qyd))) (fun s1=>
(if(decide (s1.2<((a0.length:Nat):Int)))=true then
 gd ((0:Int)≤s1.2∧s1.2<((a0.length:Nat):Int))<|
 bd (JB (a0.getD s1.2.toNat default)) fun x6=>
 gd (((s1.1.length)+(([(⟨x6.1⟩:Qyd)]:List Qyd).length))*(24+1)≤70368744177664)<|
 some (.inl ((s1.1++([(⟨x6.1⟩:Qyd)]:List Qyd)),IntKind.i64.wrap (s1.2+1)))
else
 some (.inr (s1.1.length,s1.1)))) (([]:List Qyd),0)) fun x4=>
 some x4.2
theorem QkP {a0:(List Bt)} {r:(List Qyd)} (h:QcG a0=some r):EffC prog 43 [.d (slD encSb a0)] [] (.osl 5001 0 r.length) [(5001,.arr 102 1 r.length (rows Qyd.enc r))]:=by
 refine eY tOk f43 rfl (Qb tOk ?_);obtain⟨x4,hx4,h⟩:=Qc h;refine QJ tOk hx4 (fun s1=>⟨0,28,[(0,.d (slD encSb a0)),(3,.osl 7001 0 s1.1.length),(4,dI s1.2)],[],[(7001,.arr 102 1 s1.1.length (rows Qyd.enc s1.1))],[⟨[],[]⟩]⟩) ?_ ?_
 ·exact leX [.p 7001 102 1 (rows Qyd.enc ([]:List Qyd))]
 ·clear hx4;intro s1 y2 g3 hy2;refine Qb tOk ?_;apply Qr g3<;>intro _ g3
  ·refine Qb tOk (gdI g3 fun g3=>bC g3 1000 (fun _=>Qda) fun x6 g3=>Qcl (enc:=Qyd.enc) ([(⟨x6.1⟩:Qyd)]:List Qyd) (gdI g3 fun g3=>Qiv (enc:=Qyd.enc) (xs:=s1.1) (ys:=([(⟨x6.1⟩:Qyd)]:List Qyd)) ?_));exact eX g3 []
  ·cases g3
   cases hy2 _ rfl
   cases h
   exact lfE [.s [(5001,7001),(7001,5001)]]
def Qf (a0:Qyd) (a1:Int):Option (Bt):=
(if(decide (a1<((a0.w.length:Nat):Int)))=true then
 gd ((0:Int)≤a1∧a1<((a0.w.length:Nat):Int))<|
 some (a0.w.getD a1.toNat default)
else
 some (⟨#[]⟩:Bt))
theorem Qj {a0:Qyd} {a1:Int} {r:Bt} (h:Qf a0 a1=some r):PureC prog 86 [.agg [.d (slD encSb a0.w)],dI a1] (.d (.str r)) []:=by
 refine pY tOk f86 rfl (Qb tOk ?_);apply Qr h<;>intro _ h
 ·refine gdI h fun h=>?_;cases h;exact lfP []
 ·cases h
  exact lfP []
def QcH (a0:(List Qyd)):Option (Bool):=
 bd (lp (σ:=Int) (β:=(Unit⊕Unit)) (fun s1=>
(if(decide (s1<((a0.length:Nat):Int)))=true then
 gd ((0:Int)≤s1∧s1<((a0.length:Nat):Int))<|
 bd (Qf (a0.getD s1.toNat default) 0) fun x6=>
 gd ((x6==(⟨#[117,115,101,114]⟩:Bt))=true→((0:Int)≤s1∧s1<((a0.length:Nat):Int)))<|
 bd (gcall ((x6==(⟨#[117,115,101,114]⟩:Bt))=true) (Qf (a0.getD s1.toNat default) 2)) fun x8=>
(if((x6==(⟨#[117,115,101,114]⟩:Bt))&&(x8==(⟨#[97,108,108]⟩:Bt)))=true then
 some (.inr (.inl ()))
else
 some (.inl (IntKind.i64.wrap (s1+1))))
else
 some (.inr (.inr ())))) 0) fun x4=>
(match x4 with
| .inl d9=>
 some true
| .inr d10=>
 some false)
theorem QkQ {a0:(List Qyd)} {r:Bool} (h:QcH a0=some r):PureC prog 44 [.d (slD Qyd.enc a0)] (dB r) []:=by
 refine pY tOk f44 rfl (Qb tOk ?_);obtain⟨x4,hx4,h⟩:=Qc h;refine QJ tOk hx4 (fun s1=>⟨0,24,[(0,.d (slD Qyd.enc a0)),(3,dI s1)],[],[],[]⟩) ?_ ?_
 ·exact leX []
 ·clear hx4;intro s1 y2 g3 hy2;refine Qb tOk ?_;apply Qr g3<;>intro _ g3
  ·refine Qb tOk (gdI g3 fun g3=>bC g3 0 (fun _=>Qj) fun x6 g3=>gdI g3 fun g3=>bG g3 (fun _=>Qj) fun x8 g3=>?_);apply Qr g3<;>intro _ g3
   ·cases g3
    cases hy2 _ rfl
    cases h
    exact lfP []
   ·exact eX g3 []
  ·cases g3
   cases hy2 _ rfl
   cases h
   exact lfP []
def QaS (a0:(List Qyd)) (a1:Bt):Option (Int):=
 bd (lp (σ:=Int×Int) (β:=(Int)) (fun s1=>
(if(decide (s1.2<((a0.length:Nat):Int)))=true then
 gd ((0:Int)≤s1.2∧s1.2<((a0.length:Nat):Int))<|
 bd (Qf (a0.getD s1.2.toNat default) 0) fun x6=>
 gd ((x6==(⟨#[114,117,108,101]⟩:Bt))=true→((0:Int)≤s1.2∧s1.2<((a0.length:Nat):Int)))<|
 bd (gcall ((x6==(⟨#[114,117,108,101]⟩:Bt))=true) (Qf (a0.getD s1.2.toNat default) 1)) fun x8=>
(if((x6==(⟨#[114,117,108,101]⟩:Bt))&&(x8==a1))=true then
 some (.inl (IntKind.i64.wrap (s1.1+1),IntKind.i64.wrap (s1.2+1)))
else
 some (.inl (s1.1,IntKind.i64.wrap (s1.2+1))))
else
 some (.inr s1.1))) (0,0)) fun x4=>
 some x4
theorem Qf8 {a0:(List Qyd)} {a1:Bt} {r:Int} (h:QaS a0 a1=some r):PureC prog 87 [.d (slD Qyd.enc a0),.d (.str a1)] (dI r) []:=by
 refine pY tOk f87 rfl (Qb tOk ?_);obtain⟨x4,hx4,h⟩:=Qc h;refine QJ tOk hx4 (fun s1=>⟨0,31,[(0,.d (slD Qyd.enc a0)),(1,.d (.str a1)),(5,dI s1.1),(6,dI s1.2)],[],[],[]⟩) ?_ ?_
 ·exact leX []
 ·clear hx4;intro s1 y2 g3 hy2;refine Qb tOk ?_;apply Qr g3<;>intro _ g3
  ·refine Qb tOk (gdI g3 fun g3=>bC g3 0 (fun _=>Qj) fun x6 g3=>gdI g3 fun g3=>bG g3 (fun _=>Qj) fun x8 g3=>?_);apply Qr g3<;>intro _ g3
   ·exact eX g3 []
   ·exact eX g3 []
  ·cases g3
   cases hy2 _ rfl
   cases h
   exact lfP []
def QbZ (a0:(List Qyd)):Option (Bool):=
 bd (lp (σ:=Int) (β:=(Unit⊕Unit)) (fun s1=>
(if(decide (s1<((a0.length:Nat):Int)))=true then
 gd ((0:Int)≤s1∧s1<((a0.length:Nat):Int))<|
 bd (Qf (a0.getD s1.toNat default) 0) fun x6=>
 gd ((x6==(⟨#[112,111,114,116]⟩:Bt))=true→((0:Int)≤s1∧s1<((a0.length:Nat):Int)))<|
 bd (gcall ((x6==(⟨#[112,111,114,116]⟩:Bt))=true) (Qf (a0.getD s1.toNat default) 4)) fun x8=>
 gd (((x6==(⟨#[112,111,114,116]⟩:Bt))&&(!(x8==(⟨#[]⟩:Bt))))=true→((0:Int)≤s1∧s1<((a0.length:Nat):Int)))<|
 bd (gcall (((x6==(⟨#[112,111,114,116]⟩:Bt))&&(!(x8==(⟨#[]⟩:Bt))))=true) (Qf (a0.getD s1.toNat default) 4)) fun x10=>
 bd (gcall (((x6==(⟨#[112,111,114,116]⟩:Bt))&&(!(x8==(⟨#[]⟩:Bt))))=true) (QaS a0 x10)) fun x11=>
(if(((x6==(⟨#[112,111,114,116]⟩:Bt))&&(!(x8==(⟨#[]⟩:Bt))))&&(x11==0))=true then
 some (.inr (.inl ()))
else
 gd ((0:Int)≤s1∧s1<((a0.length:Nat):Int))<|
 bd (Qf (a0.getD s1.toNat default) 0) fun x13=>
 gd ((x13==(⟨#[114,117,108,101]⟩:Bt))=true→((0:Int)≤s1∧s1<((a0.length:Nat):Int)))<|
 bd (gcall ((x13==(⟨#[114,117,108,101]⟩:Bt))=true) (Qf (a0.getD s1.toNat default) 1)) fun x15=>
 bd (gcall ((x13==(⟨#[114,117,108,101]⟩:Bt))=true) (QaS a0 x15)) fun x16=>
(if((x13==(⟨#[114,117,108,101]⟩:Bt))&&(decide (x16>12)))=true then
 some (.inr (.inl ()))
else
 some (.inl (IntKind.i64.wrap (s1+1)))))
else
 some (.inr (.inr ())))) 0) fun x4=>
(match x4 with
| .inl d17=>
 some false
| .inr d18=>
 some true)
theorem Qjw {a0:(List Qyd)} {r:Bool} (h:QbZ a0=some r):PureC prog 45 [.d (slD Qyd.enc a0)] (dB r) []:=by
 refine pY tOk f45 rfl (Qb tOk ?_);obtain⟨x4,hx4,h⟩:=Qc h;refine QJ tOk hx4 (fun s1=>⟨0,50,[(0,.d (slD Qyd.enc a0)),(3,dI s1)],[],[],[]⟩) ?_ ?_
 ·exact leX []
 ·clear hx4;intro s1 y2 g3 hy2;refine Qb tOk ?_;apply Qr g3<;>intro _ g3
  ·refine Qb tOk (Qb tOk (gdI g3 fun g3=>bC g3 0 (fun _=>Qj) fun x6 g3=>gdI g3 fun g3=>bG g3 (fun _=>Qj) fun x8 g3=>gdI g3 fun g3=>bG g3 (fun _=>Qj) fun x10 g3=>bG g3 (fun _=>Qf8) fun x11 g3=>?_));apply Qr g3<;>intro _ g3
   ·cases g3
    cases hy2 _ rfl
    cases h
    exact lfP []
   ·refine gdI g3 fun g3=>bC g3 0 (fun _=>Qj) fun x13 g3=>gdI g3 fun g3=>bG g3 (fun _=>Qj) fun x15 g3=>bG g3 (fun _=>Qf8) fun x16 g3=>?_;apply Qr g3<;>intro _ g3
    ·cases g3
     cases hy2 _ rfl
     cases h
     exact lfP []
    ·exact eX g3 []
  ·cases g3
   cases hy2 _ rfl
   cases h
   exact lfP []
def Qb0 (a0:(List Qyd)):Option (Bool):=
 bd (lp (σ:=Int) (β:=(Unit⊕Unit)) (fun s1=>
(if(decide (s1<((a0.length:Nat):Int)))=true then
 bd (lp (σ:=Int) (β:=(Unit⊕Unit)) (fun s5=>
(if(decide (s5<s1))=true then
 gd ((0:Int)≤s1∧s1<((a0.length:Nat):Int))<|
 bd (Qf (a0.getD s1.toNat default) 0) fun x10=>
 gd ((!(x10==(⟨#[112,111,114,116]⟩:Bt)))=false→((0:Int)≤s5∧s5<((a0.length:Nat):Int)))<|
 bd (gcall ((!(x10==(⟨#[112,111,114,116]⟩:Bt)))=false) (Qf (a0.getD s5.toNat default) 0)) fun x12=>
(if((!(x10==(⟨#[112,111,114,116]⟩:Bt)))||(!(x12==(⟨#[112,111,114,116]⟩:Bt))))=true then
 some (.inl (IntKind.i64.wrap (s5+1)))
else
 gd ((0:Int)≤s1∧s1<((a0.length:Nat):Int))<|
 bd (Qf (a0.getD s1.toNat default) 2) fun x14=>
 bd (Zu x14) fun x15=>
 gd ((0:Int)≤s5∧s5<((a0.length:Nat):Int))<|
 bd (Qf (a0.getD s5.toNat default) 2) fun x17=>
 bd (Zu x17) fun x18=>
(if((decide (x15.1<(IntKind.i64.wrap (x18.1+x18.2))))&&(decide (x18.1<(IntKind.i64.wrap (x15.1+x15.2)))))=true then
 some (.inr (.inl ()))
else
 some (.inl (IntKind.i64.wrap (s5+1)))))
else
 some (.inr (.inr ())))) 0) fun x8=>
(match x8 with
| .inl d19=>
 some (.inr (.inl ()))
| .inr d20=>
 some (.inl (IntKind.i64.wrap (s1+1))))
else
 some (.inr (.inr ())))) 0) fun x4=>
(match x4 with
| .inl d21=>
 some false
| .inr d22=>
 some true)
theorem Qjx {a0:(List Qyd)} {r:Bool} (h:Qb0 a0=some r):PureC prog 46 [.d (slD Qyd.enc a0)] (dB r) []:=by
 refine pY tOk f46 rfl (Qb tOk ?_);obtain⟨x4,hx4,h⟩:=Qc h;refine QJ tOk hx4 (fun s1=>⟨0,64,[(0,.d (slD Qyd.enc a0)),(3,dI s1)],[],[],[]⟩) ?_ ?_
 ·exact leX []
 ·clear hx4;intro s1 y2 g3 hy2;refine Qb tOk ?_;apply Qr g3<;>intro _ g3
  ·refine Qb tOk ?_;obtain⟨x8,hx8,g3⟩:=Qc g3;refine QJ tOk hx8 (fun s5=>⟨0,64,[(0,.d (slD Qyd.enc a0)),(3,dI s1),(4,dI s5)],[],[],[]⟩) ?_ ?_
   ·exact leX []
   ·clear hx8;intro s5 y6 g7 hy6;refine Qb tOk ?_;apply Qr g7<;>intro _ g7
    ·refine Qb tOk (Qb tOk (gdI g7 fun g7=>bC g7 0 (fun _=>Qj) fun x10 g7=>gdI g7 fun g7=>bG g7 (fun _=>Qj) fun x12 g7=>?_));apply Qr g7<;>intro _ g7
     ·exact eX g7 []
     ·refine gdI g7 fun g7=>bC g7 0 (fun _=>Qj) fun x14 g7=>bC g7 0 (fun _=>Qad) fun x15 g7=>gdI g7 fun g7=>bC g7 0 (fun _=>Qj) fun x17 g7=>bC g7 0 (fun _=>Qad) fun x18 g7=>?_;apply Qr g7<;>intro _ g7
      ·cases g7
       cases hy6 _ rfl
       cases g3
       cases hy2 _ rfl
       cases h
       exact lfP []
      ·exact eX g7 []
    ·cases g7
     cases hy6 _ rfl
     exact eX g3 []
  ·cases g3
   cases hy2 _ rfl
   cases h
   exact lfP []
def Qbo (a0:(List Qyd)) (a1:Int):Option (Bool):=
 bd (lp (σ:=Int) (β:=(Unit⊕Unit)) (fun s1=>
(if(decide (s1<((a0.length:Nat):Int)))=true then
 gd ((0:Int)≤s1∧s1<((a0.length:Nat):Int))<|
 bd (Qf (a0.getD s1.toNat default) 0) fun x6=>
(if(x6==(⟨#[112,111,114,116]⟩:Bt))=true then
 gd ((0:Int)≤s1∧s1<((a0.length:Nat):Int))<|
 bd (Qf (a0.getD s1.toNat default) 2) fun x8=>
 bd (Zu x8) fun x9=>
(if((decide (a1>x9.1))&&(decide (a1<(IntKind.i64.wrap (x9.1+x9.2)))))=true then
 some (.inr (.inl ()))
else
 some (.inl (IntKind.i64.wrap (s1+1))))
else
 some (.inl (IntKind.i64.wrap (s1+1))))
else
 some (.inr (.inr ())))) 0) fun x4=>
(match x4 with
| .inl d10=>
 some true
| .inr d11=>
 some false)
theorem Qf9 {a0:(List Qyd)} {a1:Int} {r:Bool} (h:Qbo a0 a1=some r):PureC prog 89 [.d (slD Qyd.enc a0),dI a1] (dB r) []:=by
 refine pY tOk f89 rfl (Qb tOk ?_);obtain⟨x4,hx4,h⟩:=Qc h;refine QJ tOk hx4 (fun s1=>⟨0,39,[(0,.d (slD Qyd.enc a0)),(1,dI a1),(5,dI s1)],[],[],[]⟩) ?_ ?_
 ·exact leX []
 ·clear hx4;intro s1 y2 g3 hy2;refine Qb tOk ?_;apply Qr g3<;>intro _ g3
  ·refine Qb tOk (gdI g3 fun g3=>bC g3 0 (fun _=>Qj) fun x6 g3=>?_);apply Qr g3<;>intro _ g3
   ·refine gdI g3 fun g3=>bC g3 0 (fun _=>Qj) fun x8 g3=>bC g3 0 (fun _=>Qad) fun x9 g3=>?_;apply Qr g3<;>intro _ g3
    ·cases g3
     cases hy2 _ rfl
     cases h
     exact lfP []
    ·exact eX g3 []
   ·exact eX g3 []
  ·cases g3
   cases hy2 _ rfl
   cases h
   exact lfP []
def Qb1 (a0:(List Qyd)):Option (Bool):=
 bd (lp (σ:=Int) (β:=(Unit⊕Unit)) (fun s1=>
(if(decide (s1<((a0.length:Nat):Int)))=true then
 gd ((0:Int)≤s1∧s1<((a0.length:Nat):Int))<|
 bd (Qf (a0.getD s1.toNat default) 0) fun x6=>
(if(x6==(⟨#[114,111,117,116,101]⟩:Bt))=true then
 gd ((0:Int)≤s1∧s1<((a0.length:Nat):Int))<|
 bd (Qf (a0.getD s1.toNat default) 2) fun x8=>
 bd (Ze x8) fun x9=>
 bd (Qbo a0 x9) fun x10=>
(if(!x10)=true then
 some (.inr (.inl ()))
else
 some (.inl (IntKind.i64.wrap (s1+1))))
else
(if(x6==(⟨#[112,101,101,114]⟩:Bt))=true then
 gd ((0:Int)≤s1∧s1<((a0.length:Nat):Int))<|
 bd (Qf (a0.getD s1.toNat default) 1) fun x12=>
 bd (Ze x12) fun x13=>
 bd (Qbo a0 x13) fun x14=>
(if(!x14)=true then
 some (.inr (.inl ()))
else
 some (.inl (IntKind.i64.wrap (s1+1))))
else
 some (.inl (IntKind.i64.wrap (s1+1)))))
else
 some (.inr (.inr ())))) 0) fun x4=>
(match x4 with
| .inl d15=>
 some false
| .inr d16=>
 some true)
theorem Qjy {a0:(List Qyd)} {r:Bool} (h:Qb1 a0=some r):PureC prog 47 [.d (slD Qyd.enc a0)] (dB r) []:=by
 refine pY tOk f47 rfl (Qb tOk ?_);obtain⟨x4,hx4,h⟩:=Qc h;refine QJ tOk hx4 (fun s1=>⟨0,37,[(0,.d (slD Qyd.enc a0)),(3,dI s1)],[],[],[]⟩) ?_ ?_
 ·exact leX []
 ·clear hx4;intro s1 y2 g3 hy2;refine Qb tOk ?_;apply Qr g3<;>intro _ g3
  ·refine Qb tOk (gdI g3 fun g3=>bC g3 0 (fun _=>Qj) fun x6 g3=>?_);apply Qr g3<;>intro _ g3
   ·refine gdI g3 fun g3=>bC g3 0 (fun _=>Qj) fun x8 g3=>bC g3 0 (fun _=>Z4) fun x9 g3=>bC g3 0 (fun _=>Qf9) fun x10 g3=>?_;apply Qr g3<;>intro _ g3
    ·cases g3
     cases hy2 _ rfl
     cases h
     exact lfP []
    ·exact eX g3 []
   ·apply Qr g3<;>intro _ g3
    ·refine gdI g3 fun g3=>bC g3 0 (fun _=>Qj) fun x12 g3=>bC g3 0 (fun _=>Z4) fun x13 g3=>bC g3 0 (fun _=>Qf9) fun x14 g3=>?_;apply Qr g3<;>intro _ g3
     ·cases g3
      cases hy2 _ rfl
      cases h
      exact lfP []
     ·exact eX g3 []
    ·exact eX g3 []
  ·cases g3
   cases hy2 _ rfl
   cases h
   exact lfP []
def Qdj (a0:(List Qyd)):Option (Int):=
 bd (lp (σ:=Int) (β:=(Int⊕Unit)) (fun s1=>
(if(decide (s1<((a0.length:Nat):Int)))=true then
 gd ((0:Int)≤s1∧s1<((a0.length:Nat):Int))<|
 bd (Qf (a0.getD s1.toNat default) 0) fun x6=>
(if(x6==(⟨#[110,97,116]⟩:Bt))=true then
 some (.inr (.inl s1))
else
 some (.inl (IntKind.i64.wrap (s1+1))))
else
 some (.inr (.inr ())))) 0) fun x4=>
(match x4 with
| .inl d7=>
 some d7
| .inr d8=>
 some (-1))
theorem Ql0 {a0:(List Qyd)} {r:Int} (h:Qdj a0=some r):PureC prog 91 [.d (slD Qyd.enc a0)] (dI r) []:=by
 refine pY tOk f91 rfl (Qb tOk ?_);obtain⟨x4,hx4,h⟩:=Qc h;refine QJ tOk hx4 (fun s1=>⟨0,17,[(0,.d (slD Qyd.enc a0)),(3,dI s1)],[],[],[]⟩) ?_ ?_
 ·exact leX []
 ·clear hx4;intro s1 y2 g3 hy2;refine Qb tOk ?_;apply Qr g3<;>intro _ g3
  ·refine Qb tOk (gdI g3 fun g3=>bC g3 0 (fun _=>Qj) fun x6 g3=>?_);apply Qr g3<;>intro _ g3
   ·cases g3
    cases hy2 _ rfl
    cases h
    exact lfP []
   ·exact eX g3 []
  ·cases g3
   cases hy2 _ rfl
   cases h
   exact lfP []
def QcI (a0:(List Qyd)) (a1:Int) (a2:Qyd):Option (Bool):=
 gd ((0:Int)≤a1∧a1<((a0.length:Nat):Int))<|
 bd (Qf a2 1) fun x2=>
 bd (Zu x2) fun x3=>
 bd (Qf (a0.getD a1.toNat default) 3) fun x4=>
 bd (Ze x4) fun x5=>
 bd (gcall (((decide (x5<x3.1))||(decide (x5≥(IntKind.i64.wrap (x3.1+x3.2)))))=false) (Qf (a0.getD a1.toNat default) 2)) fun x6=>
 bd (gcall (((decide (x5<x3.1))||(decide (x5≥(IntKind.i64.wrap (x3.1+x3.2)))))=false) (Qf a2 3)) fun x7=>
 bd (gcall (((decide (x5<x3.1))||(decide (x5≥(IntKind.i64.wrap (x3.1+x3.2)))))=false) (ZP x7)) fun x8=>
 bd (gcall (((decide (x5<x3.1))||(decide (x5≥(IntKind.i64.wrap (x3.1+x3.2)))))=false) (Qf a2 4)) fun x9=>
 bd (gcall (((decide (x5<x3.1))||(decide (x5≥(IntKind.i64.wrap (x3.1+x3.2)))))=false) (ZP x9)) fun x10=>
 bd (gcall (((decide (x5<x3.1))||(decide (x5≥(IntKind.i64.wrap (x3.1+x3.2)))))=false) (Zi x6 x8 x10)) fun x11=>
(if(((decide (x5<x3.1))||(decide (x5≥(IntKind.i64.wrap (x3.1+x3.2)))))||x11)=true then
 some false
else
 bd (lp (σ:=Int) (β:=(Unit⊕Unit)) (fun s12=>
(if(decide (s12<a1))=true then
 gd ((0:Int)≤s12∧s12<((a0.length:Nat):Int))<|
 bd (Qf (a0.getD s12.toNat default) 0) fun x17=>
 gd ((x17==(⟨#[100,111,111,114]⟩:Bt))=true→((0:Int)≤s12∧s12<((a0.length:Nat):Int)))<|
 bd (gcall ((x17==(⟨#[100,111,111,114]⟩:Bt))=true) (Qf (a0.getD s12.toNat default) 1)) fun x19=>
 bd (gcall ((x17==(⟨#[100,111,111,114]⟩:Bt))=true) (Qf (a0.getD a1.toNat default) 1)) fun x20=>
 gd (((x17==(⟨#[100,111,111,114]⟩:Bt))&&(x19==x20))=true→((0:Int)≤s12∧s12<((a0.length:Nat):Int)))<|
 bd (gcall (((x17==(⟨#[100,111,111,114]⟩:Bt))&&(x19==x20))=true) (Qf (a0.getD s12.toNat default) 3)) fun x22=>
 bd (gcall (((x17==(⟨#[100,111,111,114]⟩:Bt))&&(x19==x20))=true) (Qf (a0.getD a1.toNat default) 3)) fun x23=>
 gd ((((x17==(⟨#[100,111,111,114]⟩:Bt))&&(x19==x20))&&(x22==x23))=true→((0:Int)≤s12∧s12<((a0.length:Nat):Int)))<|
 bd (gcall ((((x17==(⟨#[100,111,111,114]⟩:Bt))&&(x19==x20))&&(x22==x23))=true) (Qf (a0.getD s12.toNat default) 4)) fun x25=>
 bd (gcall ((((x17==(⟨#[100,111,111,114]⟩:Bt))&&(x19==x20))&&(x22==x23))=true) (Qf (a0.getD a1.toNat default) 4)) fun x26=>
(if((((x17==(⟨#[100,111,111,114]⟩:Bt))&&(x19==x20))&&(x22==x23))&&(x25==x26))=true then
 some (.inr (.inl ()))
else
 some (.inl (IntKind.i64.wrap (s12+1))))
else
 some (.inr (.inr ())))) 0) fun x15=>
(match x15 with
| .inl d27=>
 some false
| .inr d28=>
 some true))
theorem QkR {a0:(List Qyd)} {a1:Int} {a2:Qyd} {r:Bool} (h:QcI a0 a1 a2=some r):PureC prog 92 [.d (slD Qyd.enc a0),dI a1,.agg [.d (slD encSb a2.w)]] (dB r) []:=by
 refine pY tOk f92 rfl (gdI h fun h=>bC h 0 (fun _=>Qj) fun x2 h=>bC h 0 (fun _=>Qad) fun x3 h=>bC h 0 (fun _=>Qj) fun x4 h=>bC h 0 (fun _=>Z4) fun x5 h=>Qb tOk ?_);obtain⟨x6,hx6,h⟩:=Qc h;obtain⟨x7,hx7,h⟩:=Qc h;obtain⟨x8,hx8,h⟩:=Qc h;obtain⟨x9,hx9,h⟩:=Qc h;obtain⟨x10,hx10,h⟩:=Qc h;obtain⟨x11,hx11,h⟩:=Qc h;refine Q0 tOk [.u 12 0 (.d (.str x6)) [],.u 14 0 (.d (.str x7)) [],.u 15 0 (dI x8) [],.u 17 0 (.d (.str x9)) [],.u 18 0 (dI x10) [],.u 19 0 (dB x11) []] 21 [] [0,0,3,7,15,15,15,111,255,511,1023,2047,4095,2047,16383,32767,2047,131071,262143,524287,1048575] [] (aI (Qy rfl rfl rfl rfl (by intro c0;exact Qj (Qo hx6 c0))) (aI (Qy rfl rfl rfl rfl (by intro c0;exact Qj (Qo hx7 c0))) (aI (Qy rfl rfl rfl rfl (by intro c0;exact Qai (Qo hx8 c0))) (aI (Qy rfl rfl rfl rfl (by intro c0;exact Qj (Qo hx9 c0))) (aI (Qy rfl rfl rfl rfl (by intro c0;exact Qai (Qo hx10 c0))) (aI (Qy rfl rfl rfl rfl (by intro c0;exact ZF (Qo hx11 c0))) (aK ?_)))))));apply Qr h<;>intro _ h
 ·cases h
  exact lfP []
 ·refine Qb tOk ?_;obtain⟨x15,hx15,h⟩:=Qc h;refine QJ tOk hx15 (fun s12=>⟨0,87,[(0,.d (slD Qyd.enc a0)),(1,dI a1),(7,.ref 7 0 0),(11,dI s12)],[],[(7,.box 102 [.d (slD encSb ((a0.getD a1.toNat default).w))])],[]⟩) ?_ ?_
  ·exact leX []
  ·clear hx15;intro s12 y13 g14 hy13;refine Qb tOk ?_;apply Qr g14<;>intro _ g14
   ·refine Qb tOk ?_;obtain⟨g16,g14⟩:=Qe g14;obtain⟨x17,hx17,g14⟩:=Qc g14;obtain⟨g18,g14⟩:=Qe g14;obtain⟨x19,hx19,g14⟩:=Qc g14;obtain⟨x20,hx20,g14⟩:=Qc g14;obtain⟨g21,g14⟩:=Qe g14;obtain⟨x22,hx22,g14⟩:=Qc g14;obtain⟨x23,hx23,g14⟩:=Qc g14;obtain⟨g24,g14⟩:=Qe g14;obtain⟨x25,hx25,g14⟩:=Qc g14;obtain⟨x26,hx26,g14⟩:=Qc g14;refine Q0 tOk [.u 4 0 (.d (.str x17)) [],.u 11 0 (.d (.str x19)) [],.u 13 0 (.d (.str x20)) [],.u 21 0 (.d (.str x22)) [],.u 23 0 (.d (.str x23)) [],.u 31 0 (.d (.str x25)) [],.u 33 0 (.d (.str x26)) []] 36 [] [0,0,3,7,15,31,63,127,127,511,1023,2047,127,8191,16383,32767,65535,131071,131071,524287,1048575,2097151,131071,8388607,16777215,33554431,67108863,134217727,134217727,536870911,1073741823,2147483647,134217727,8589934591,17179869183,34359738367] [] (aI g16 (aI (QM (Qj hx17) (by kernel_rfl)) (aI g18 (aI (Qy rfl rfl rfl rfl (by intro c0;exact Qj (Qo hx19 c0))) (aI (Qy rfl rfl rfl rfl (by intro c0;exact Qj (Qo hx20 c0))) (aI g21 (aI (Qy rfl rfl rfl rfl (by intro c0;exact Qj (Qo hx22 c0))) (aI (Qy rfl rfl rfl rfl (by intro c0;exact Qj (Qo hx23 c0))) (aI g24 (aI (Qy rfl rfl rfl rfl (by intro c0;exact Qj (Qo hx25 c0))) (aI (Qy rfl rfl rfl rfl (by intro c0;exact Qj (Qo hx26 c0))) (aK ?_))))))))))));apply Qr g14<;>intro _ g14
    ·cases g14
     cases hy13 _ rfl
     cases h
     exact lfP []
    ·exact eX g14 []
   ·cases g14
    cases hy13 _ rfl
    cases h
    exact lfP []
def Qas (a0:(List Qyd)):Option (Bool):=
 bd (Qdj a0) fun x1=>
 bd (lp (σ:=Int×Int) (β:=(Unit⊕Int)) (fun s2=>
(if(decide (s2.2<((a0.length:Nat):Int)))=true then
 gd ((0:Int)≤s2.2∧s2.2<((a0.length:Nat):Int))<|
 bd (Qf (a0.getD s2.2.toNat default) 0) fun x7=>
(if(!(x7==(⟨#[100,111,111,114]⟩:Bt)))=true then
 some (.inl (s2.1,IntKind.i64.wrap (s2.2+1)))
else
 gd ((decide (x1<0))=false→((0:Int)≤x1∧x1<((a0.length:Nat):Int)))<|
 bd (gcall ((decide (x1<0))=false) (QcI a0 s2.2 (a0.getD x1.toNat default))) fun x9=>
(if((decide (x1<0))||(!x9))=true then
 some (.inr (.inl ()))
else
 some (.inl (IntKind.i64.wrap (s2.1+1),IntKind.i64.wrap (s2.2+1)))))
else
 some (.inr (.inr s2.1)))) (0,0)) fun x5=>
(match x5 with
| .inl d10=>
 some false
| .inr d11=>
(if(decide (x1<0))=true then
 some true
else
 gd ((0:Int)≤x1∧x1<((a0.length:Nat):Int))<|
 bd (Qf (a0.getD x1.toNat default) 1) fun x13=>
 bd (Zu x13) fun x14=>
 gd ((0:Int)≤x1∧x1<((a0.length:Nat):Int))<|
 bd (Qf (a0.getD x1.toNat default) 2) fun x16=>
 bd (Ze x16) fun x17=>
 gd (((decide (d11≤6))&&((decide (x17<x14.1))||(decide (x17≥(IntKind.i64.wrap (x14.1+x14.2))))))=true→((0:Int)≤x1∧x1<((a0.length:Nat):Int)))<|
 bd (gcall (((decide (d11≤6))&&((decide (x17<x14.1))||(decide (x17≥(IntKind.i64.wrap (x14.1+x14.2))))))=true) (Qf (a0.getD x1.toNat default) 3)) fun x19=>
 bd (gcall (((decide (d11≤6))&&((decide (x17<x14.1))||(decide (x17≥(IntKind.i64.wrap (x14.1+x14.2))))))=true) (ZP x19)) fun x20=>
 gd (((decide (d11≤6))&&((decide (x17<x14.1))||(decide (x17≥(IntKind.i64.wrap (x14.1+x14.2))))))=true→((0:Int)≤x1∧x1<((a0.length:Nat):Int)))<|
 bd (gcall (((decide (d11≤6))&&((decide (x17<x14.1))||(decide (x17≥(IntKind.i64.wrap (x14.1+x14.2))))))=true) (Qf (a0.getD x1.toNat default) 4)) fun x22=>
 bd (gcall (((decide (d11≤6))&&((decide (x17<x14.1))||(decide (x17≥(IntKind.i64.wrap (x14.1+x14.2))))))=true) (ZP x22)) fun x23=>
 some (((decide (d11≤6))&&((decide (x17<x14.1))||(decide (x17≥(IntKind.i64.wrap (x14.1+x14.2))))))&&(decide (x20≤x23)))))
theorem Qf6 {a0:(List Qyd)} {r:Bool} (h:Qas a0=some r):PureC prog 48 [.d (slD Qyd.enc a0)] (dB r) []:=by
 refine pY tOk f48 rfl (bC h 0 (fun _=>Ql0) fun x1 h=>Qb tOk ?_);obtain⟨x5,hx5,h⟩:=Qc h;refine QJ tOk hx5 (fun s2=>⟨0,83,[(0,.d (slD Qyd.enc a0)),(3,dI x1),(4,dI s2.1),(5,dI s2.2)],[],[],[]⟩) ?_ ?_
 ·exact leX []
 ·clear hx5;intro s2 y3 g4 hy3;refine Qb tOk ?_;apply Qr g4<;>intro _ g4
  ·refine Qb tOk (Qb tOk (gdI g4 fun g4=>bC g4 0 (fun _=>Qj) fun x7 g4=>?_));apply Qr g4<;>intro _ g4
   ·exact eX g4 []
   ·refine gdI g4 fun g4=>bG g4 (fun _=>QkR) fun x9 g4=>?_;apply Qr g4<;>intro _ g4
    ·cases g4
     cases hy3 _ rfl
     cases h
     exact lfP []
    ·exact eX g4 []
  ·cases g4
   cases hy3 _ rfl
   refine Qb tOk ?_;apply Qr h<;>intro _ h
   ·cases h
    exact lfP []
   ·refine gdI h fun h=>bC h 0 (fun _=>Qj) fun x13 h=>bC h 0 (fun _=>Qad) fun x14 h=>gdI h fun h=>bC h 0 (fun _=>Qj) fun x16 h=>bC h 0 (fun _=>Z4) fun x17 h=>?_;obtain⟨g18,h⟩:=Qe h;obtain⟨x19,hx19,h⟩:=Qc h;obtain⟨x20,hx20,h⟩:=Qc h;obtain⟨g21,h⟩:=Qe h;obtain⟨x22,hx22,h⟩:=Qc h;obtain⟨x23,hx23,h⟩:=Qc h;refine Q0 tOk [.u 19 0 (.d (.str x19)) [],.u 20 0 (dI x20) [],.u 25 0 (.d (.str x22)) [],.u 26 0 (dI x23) []] 30 [] [0,1,3,7,7,31,63,127,127,127,895,2047,4095,8191,16383,32767,32767,131071,262143,524287,1048575,32767,32767,6324223,14712831,33554431,67108863,134217727,268435455,536870911] [] (aI g18 (aI (Qy rfl rfl rfl rfl (by intro c0;exact Qj (Qo hx19 c0))) (aI (Qy rfl rfl rfl rfl (by intro c0;exact Qai (Qo hx20 c0))) (aI g21 (aI (Qy rfl rfl rfl rfl (by intro c0;exact Qj (Qo hx22 c0))) (aI (Qy rfl rfl rfl rfl (by intro c0;exact Qai (Qo hx23 c0))) (aK ?_)))))));cases h;exact lfP []
def Qae (a0:(List Bt)):Option (Int):=
 bd (QcF a0) fun x1=>
(if(x1 !=0)=true then
 some x1
else
 bd (QcG a0) fun x2=>
 bd (QcH x2) fun x3=>
(if(!x3)=true then
 some 5
else
 bd (QbZ x2) fun x4=>
(if(!x4)=true then
 some 6
else
 bd (Qb0 x2) fun x5=>
(if(!x5)=true then
 some 7
else
 bd (Qb1 x2) fun x6=>
(if(!x6)=true then
 some 8
else
 bd (Qas x2) fun x7=>
(if(!x7)=true then
 some 9
else
 some 0))))))
theorem Qe3 {a0:(List Bt)} {r:Int} (h:Qae a0=some r):PureC prog 20 [.d (slD encSb a0)] (dI r) []:=by
 refine pY tOk f20 rfl (bC h 0 (fun _=>QkO) fun x1 h=>Qb tOk ?_);apply Qr h<;>intro _ h
 ·cases h
  exact lfP []
 ·refine bE h [] 1000 (fun _=>QkP) fun x2 h=>Qb tOk (bC h 0 (fun _=>QkQ) fun x3 h=>?_);apply Qr h<;>intro _ h
  ·cases h
   exact lfP []
  ·refine bC h 0 (fun _=>Qjw) fun x4 h=>?_;apply Qr h<;>intro _ h
   ·cases h
    exact lfP []
   ·refine bC h 0 (fun _=>Qjx) fun x5 h=>?_;apply Qr h<;>intro _ h
    ·cases h
     exact lfP []
    ·refine bC h 0 (fun _=>Qjy) fun x6 h=>?_;apply Qr h<;>intro _ h
     ·cases h
      exact lfP []
     ·refine bC h 0 (fun _=>Qf6) fun x7 h=>?_;apply Qr h<;>intro _ h
      ·cases h
       exact lfP []
      ·cases h
       exact lfP []
def QaE (a0:(List Bt)) (a1:Bt):Option ((List Bt)):=
 bd (Zl a1) fun x1=>
 bd (QbW a0 x1) fun x2=>
 bd (α:=List Bt) ((if(decide (x2≥0))=true then
 bd (Qav a0 x2) fun x6=>
 some x6
else
 some a0)) fun x3=>
 bd (QbX x3 a1) fun x7=>
 bd (Qae x7) fun x8=>
(if(x8==0)=true then
 some x7
else
 some a0)
theorem Qdk {a0:(List Bt)} {a1:Bt} {r:(List Bt)} (h:QaE a0 a1=some r):EffC prog 36 [.d (slD encSb a0),.d (.str a1)] [] (.d (slD encSb r)) []:=by
 refine eY tOk f36 rfl (bC h 0 (fun _=>Ji) fun x1 h=>bC h 0 (fun _=>Qg2) fun x2 h=>?_);obtain⟨x3,hx3,h⟩:=Qc h;refine J6 tOk (fun s4=>⟨0,25,[(0,.d (slD encSb a0)),(1,.d (.str a1)),(5,.d (slD encSb s4))],[],[],[⟨[],[]⟩]⟩) (fun s4=>x3=s4) ?_ ?_
 ·apply Qr hx3<;>intro _ hx3
  ·refine bC hx3 1000 (fun _=>Qej) fun x6 hx3=>?_;exact eZ hx3 [.f [6001]]
  ·exact eZ hx3 []
 ·rintro _ rfl;refine bC h 1000 (fun _=>Qg3) fun x7 h=>Qb tOk (bC h 0 (fun _=>Qe3) fun x8 h=>?_);apply Qr h<;>intro _ h
  ·cases h
   exact lfE [.f [6001]]
  ·cases h
   exact lfE []
def Qu (a0:Qyc) (a1:(List Bt)):Option (Bt×Qyc):=
 bd (Q1 a0 ((a1.length:Nat):Int)) fun x1=>
 gd ((0:Int)≤x1.1∧x1.1<((a1.length:Nat):Int))<|
 some ((a1.getD x1.1.toNat default),(⟨a0.b,x1.2.p⟩:Qyc))
theorem QD {a0:Qyc} {a1:(List Bt)} {r:Bt×Qyc} (h:Qu a0 a1=some r):EffC prog 37 [.ref 9000 0 0,.d (slD encSb a1)] [(9000,.box 66 [.d (slD Q3 a0.b),dI a0.p])] (.d (.str r.1)) [(9000,.box 66 [.d (slD Q3 a0.b),dI r.2.p])]:=by
 refine eY tOk f37 rfl (bE h [(9000,9000)] 0 (fun _=>ZU) fun x1 h=>gdI h fun h=>?_);cases h;exact lfE []
def JC (a0:Qyc):Option (Bt×Qyc):=
 bd (Qu a0 ([(⟨#[49,48,46,48,47,56]⟩:Bt),(⟨#[49,48,46,48,47,49,54]⟩:Bt),(⟨#[49,48,46,49,50,56,47,57]⟩:Bt),(⟨#[49,49,46,48,47,56]⟩:Bt),(⟨#[48,46,48,47,48]⟩:Bt),(⟨#[49,49,46,52,47,49,54]⟩:Bt),(⟨#[50,48,48,46,48,47,49,53]⟩:Bt),(⟨#[50,48,48,46,48,47,57]⟩:Bt)]:List Bt)) fun x1=>
 some (x1.1,(⟨a0.b,x1.2.p⟩:Qyc))
theorem QbB {a0:Qyc} {r:Bt×Qyc} (h:JC a0=some r):EffC prog 38 [.ref 9000 0 0] [(9000,.box 66 [.d (slD Q3 a0.b),dI a0.p])] (.d (.str r.1)) [(9000,.box 66 [.d (slD Q3 a0.b),dI r.2.p])]:=by
 refine eY tOk f38 rfl (Qcl (enc:=encSb) ([(⟨#[49,48,46,48,47,56]⟩:Bt),(⟨#[49,48,46,48,47,49,54]⟩:Bt),(⟨#[49,48,46,49,50,56,47,57]⟩:Bt),(⟨#[49,49,46,48,47,56]⟩:Bt),(⟨#[48,46,48,47,48]⟩:Bt),(⟨#[49,49,46,52,47,49,54]⟩:Bt),(⟨#[50,48,48,46,48,47,49,53]⟩:Bt),(⟨#[50,48,48,46,48,47,57]⟩:Bt)]:List Bt) ?_);obtain⟨x1,hx1,h⟩:=Qc h;refine ZV [4] (cE [(9000,9000)] 0 (QD hx1) ?_);cases h;exact lfE []
def QaT (a0:Qyc):Option (Bt×Qyc):=
 bd (Qu a0 ([(⟨#[49,48,46,49]⟩:Bt),(⟨#[49,48,46,50]⟩:Bt),(⟨#[49,49,46,52]⟩:Bt),(⟨#[50,48,48,46,49]⟩:Bt),(⟨#[48,46,48]⟩:Bt),(⟨#[50,53,53,46,50,53,53]⟩:Bt)]:List Bt)) fun x1=>
 some (x1.1,(⟨a0.b,x1.2.p⟩:Qyc))
theorem Qd7 {a0:Qyc} {r:Bt×Qyc} (h:QaT a0=some r):EffC prog 39 [.ref 9000 0 0] [(9000,.box 66 [.d (slD Q3 a0.b),dI a0.p])] (.d (.str r.1)) [(9000,.box 66 [.d (slD Q3 a0.b),dI r.2.p])]:=by
 refine eY tOk f39 rfl (Qcl (enc:=encSb) ([(⟨#[49,48,46,49]⟩:Bt),(⟨#[49,48,46,50]⟩:Bt),(⟨#[49,49,46,52]⟩:Bt),(⟨#[50,48,48,46,49]⟩:Bt),(⟨#[48,46,48]⟩:Bt),(⟨#[50,53,53,46,50,53,53]⟩:Bt)]:List Bt) ?_);obtain⟨x1,hx1,h⟩:=Qc h;refine ZV [4] (cE [(9000,9000)] 0 (QD hx1) ?_);cases h;exact lfE []
end
end Go.Proofs.YtmnnglbioibmfaaGreatDoor
