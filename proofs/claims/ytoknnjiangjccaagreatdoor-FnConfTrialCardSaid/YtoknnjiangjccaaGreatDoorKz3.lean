/-
  What some of the program's functions compute: their models, and that the functions compute these; no condition.
-/
import Derived.Test.YtoknnjiangjccaaGreatDoorTyz
import Derived.Test.YtoknnjiangjccaaGreatDoorTbz
import Derived.Test.YtoknnjiangjccaaGreatDoorLayz
import Derived.Test.YtoknnjiangjccaaGreatDoorLay4z
import Derived.Test.YtoknnjiangjccaaGreatDoorAbz8
import Derived.BigCall
import Derived.BigGuard
import Derived.BigQuiet
import Derived.Deep.QuietTactic
import Derived.Maps.OwnSet
import Derived.StringKeys
import Derived.WalkKit
import Derived.Test.YtoknnjiangjccaaGreatDoorKz2
set_option linter.all false
namespace Go.Proofs.YtoknnjiangjccaaGreatDoor
open Go Go.Ab Tryz
set_option maxRecDepth 100000
set_option maxHeartbeats 40000000
noncomputable section
def QbQ (a0:QAv) (G:Int) (Y:Bt):Option (QAv×Int):=
 bd (JU Y) fun O=>
(if(!O.2)=true then
 some (a0,2)
else
 gd ((0:Int)<=G∧G<((a0.Box.Cands.length:Nat):Int))<|
 bd (lp (σ:=Int) (β:=((List QAr)⊕Unit)) (fun I=>
(if(decide (I<((((a0.Box.Cands.getD G.toNat default).Lines).length:Nat):Int)))=true then
 gd ((0:Int)<=I∧I<((((a0.Box.Cands.getD G.toNat default).Lines).length:Nat):Int))<|
(if((((a0.Box.Cands.getD G.toNat default).Lines).getD I.toNat default)==O.1)=true then
 bd (Zx ((a0.Box.Cands.getD G.toNat default).Lines) I) fun x8=>
 gd ((0:Int)<=G∧G<((a0.Box.Cands.length:Nat):Int))<|
 some (.inr (.inl (a0.Box.Cands.set G.toNat ({(a0.Box.Cands.getD G.toNat default) with Lines:=x8}))))
else
 some (.inl (IntKind.i64.wrap (I+1))))
else
 some (.inr (.inr ())))) 0) fun U=>
(match U with
| .inl J=>
 some ({a0 with Box:={a0.Box with Cands:=J}},0)
| .inr d11=>
 some (a0,5)))
theorem Ql2 {a0:QAv} {I:Int} {a2:Bt} {r:QAv×Int} (h:QbQ a0 I a2=some r):EffC prog 145 [.agg [dB a0.Up,dI a0.Box.Edition,.d (slD encSb a0.Box.Lines),dI a0.Box.Trial,.d (slD encSb a0.Box.Back),.osl 9000 0 a0.Box.Cands.length,.d (slD QAu.enc a0.Slots),dI a0.Live,dI a0.Last,dI a0.Job.Kind,dI a0.Job.Step,dI a0.Job.Edition,dI a0.Job.Ticks,.d (slD encSb a0.Job.Lines)],dI I,.d (.str a2)] [(9000,.arr 93 4 a0.Box.Cands.length (rows QAr.enc a0.Box.Cands))] (.tup [.agg [dB r.1.Up,dI r.1.Box.Edition,.d (slD encSb r.1.Box.Lines),dI r.1.Box.Trial,.d (slD encSb r.1.Box.Back),.d (slD QAr.enc r.1.Box.Cands),.d (slD QAu.enc r.1.Slots),dI r.1.Live,dI r.1.Last,dI r.1.Job.Kind,dI r.1.Job.Step,dI r.1.Job.Edition,dI r.1.Job.Ticks,.d (slD encSb r.1.Job.Lines)],dI r.2]) []:=by
 refine eY tOk f145 rfl (bC h 0 (fun _=>Qeb) fun x1 h=>Qc tOk ?_);apply Qo h<;>intro _ h
 ·cases h
  exact lfE [.f [9000]]
 ·refine gdI h fun h=>Qc tOk ?_;obtain⟨x6,O,h⟩:=Qb h;refine QF tOk O (fun s3=>⟨0,50,[(1,dI I),(3,.ref 3 0 0),(6,.ref 6 0 0),(8,.d (.str x1.1)),(10,.d (slD encSb ((a0.Box.Cands.getD I.toNat default).Lines))),(11,dI s3)],[],[(6,.box 34 [dB false,dI 0,.d (.nil),dI 0,.d (.nil),.d (.nil),.d (.nil),dI 0,dI 0,dI 0,dI 0,dI 0,dI 0,.d (.nil)]),(3,.box 34 [dB a0.Up,dI a0.Box.Edition,.d (slD encSb a0.Box.Lines),dI a0.Box.Trial,.d (slD encSb a0.Box.Back),.osl 9000 0 a0.Box.Cands.length,.d (slD QAu.enc a0.Slots),dI a0.Live,dI a0.Last,dI a0.Job.Kind,dI a0.Job.Step,dI a0.Job.Edition,dI a0.Job.Ticks,.d (slD encSb a0.Job.Lines)]),(9000,.arr 93 4 a0.Box.Cands.length (rows QAr.enc a0.Box.Cands))],[⟨[],[]⟩]⟩) ?_ ?_
  ·exact leX []
  ·clear O;intro s3 y4 G J;refine Qc tOk ?_;apply Qo G<;>intro _ G
   ·refine Qc tOk (gdI G fun G=>?_);apply Qo G<;>intro _ G
    ·obtain⟨U,Y,G⟩:=Qb G;obtain⟨g9,G⟩:=Qf G;refine QW tOk [.u 6 1000 (.osl 5001 0 U.length) [⟨5001,9,1,U.length,rows encSb U⟩]] 9 [] [0,1,3,0,0,0,48,127,255] [511] (aI (QN (Qc0 Y) (by kernel_rfl)) (aI g9 (aK (⟨rows QAr.enc (a0.Box.Cands.set I.toNat ({(a0.Box.Cands.getD I.toNat default) with Lines:=U})),QaJ QsN rfl,?_⟩))));cases G;cases J _ rfl;cases h
     try dsimp only at*
     try dsimp only at*
     exact lfE [.f [9000]]
    ·exact eX G []
   ·cases G
    cases J _ rfl
    cases h
    try dsimp only at*
    try dsimp only at*
    exact lfE [.f [9000]]
def Qa8 (a0:(List Bt)) (G:(List Bt)):Option ((List Bt)):=
 gd (((0)+(a0.length))*(16+1)<=70368744177664)<|
 bd (lp (σ:=List Bt×Int) (β:=(Nat×(List Bt))) (fun s1=>
(if(decide (s1.2<((G.length:Nat):Int)))=true then
 gd ((0:Int)<=s1.2∧s1.2<((G.length:Nat):Int))<|
 bd (ZH (G.getD s1.2.toNat default)) fun O=>
 bd (QaH s1.1 O) fun J=>
(if(!J)=true then
 gd ((0:Int)<=s1.2∧s1.2<((G.length:Nat):Int))<|
 bd (ZH (G.getD s1.2.toNat default)) fun I=>
 gd (((s1.1.length)+(([I]:List Bt).length))*(16+1)<=70368744177664)<|
 some (.inl ((s1.1++([I]:List Bt)),IntKind.i64.wrap (s1.2+1)))
else
 some (.inl (s1.1,IntKind.i64.wrap (s1.2+1))))
else
 some (.inr (s1.1.length,s1.1)))) (a0,0)) fun U=>
 some U.2
theorem QeL {a0:(List Bt)} {O:(List Bt)} {r:(List Bt)} (h:Qa8 a0 O=some r):PureC prog 213 [.d (slD encSb a0),.d (slD encSb O)] (.osl 5001 0 r.length) [⟨5001,9,1,r.length,rows encSb r⟩]:=by
 refine pY tOk f213 rfl (gdI h fun h=>QyC (enc:=encSb) (ys:=a0) (Qc tOk ?_));obtain⟨x4,I,h⟩:=Qb h;refine QF tOk I (fun s1=>⟨0,33,[(1,.d (slD encSb O)),(5,.osl 9 0 s1.1.length),(6,dI s1.2)],[],[(9,.arr 9 1 s1.1.length (rows encSb s1.1))],[]⟩) ?_ ?_
 ·exact leX []
 ·clear I;intro s1 y2 G J;refine Qc tOk ?_;apply Qo G<;>intro _ G
  ·refine Qc tOk (gdI G fun G=>bC G 0 (fun _=>Qa1) fun x6 G=>bC G 0 (fun _=>QdR) fun x7 G=>?_);apply Qo G<;>intro _ G
   ·refine gdI G fun G=>bC G 0 (fun _=>Qa1) fun U G=>QbB (enc:=encSb) ([U]:List Bt) (gdI G fun G=>Qf7 (enc:=encSb) (xs:=s1.1) (ys:=([U]:List Bt)) ?_);exact eX G []
   ·exact eX G []
  ·cases G
   cases J _ rfl
   cases h
   exact lfP [.s [(9,5001),(5001,9)]]
def Qfh (a0:Bt) (G:Bt) (I:Bt):Option (Bt×Bool):=
(if(G==a0)=true then
 some (I,true)
else
(if((I==a0)||(I==G))=true then
 some (G,true)
else
 some ((⟨#[]⟩:Bt),false)))
theorem Qnc {a0:Bt} {G:Bt} {I:Bt} {r:Bt×Bool} (h:Qfh a0 G I=some r):PureC prog 214 [.d (.str a0),.d (.str G),.d (.str I)] (.tup [.d (.str r.1),dB r.2]) []:=by
 refine pY tOk f214 rfl (Qc tOk ?_);apply Qo h<;>intro _ h
 ·cases h
  exact lfP []
 ·apply Qo h<;>intro _ h
  ·cases h
   exact lfP []
  ·cases h
   exact lfP []
def Qae (a0:(List Bt)) (a1:(List Bt)) (Y:(List Bt)):Option ((List Bt)×Int):=
 bd (Q7 a0) fun x1=>
 bd (gcall ((x1 !=0)=false) (Q7 a1)) fun x2=>
 bd (gcall (((x1 !=0)||(x2 !=0))=false) (Q7 Y)) fun x3=>
(if(((x1 !=0)||(x2 !=0))||(x3 !=0))=true then
 some ([],1)
else
 bd (Qa8 [] a0) fun x4=>
 bd (Qa8 x4 a1) fun x5=>
 bd (Qa8 x5 Y) fun J=>
 bd (lp (σ:=List Bt×Int) (β:=(Unit⊕(Nat×(List Bt)))) (fun G=>
(if(decide (G.2<((J.length:Nat):Int)))=true then
 gd ((0:Int)<=G.2∧G.2<((J.length:Nat):Int))<|
 bd (Jc a0 (J.getD G.2.toNat default)) fun a3=>
 gd ((0:Int)<=G.2∧G.2<((J.length:Nat):Int))<|
 bd (Jc a1 (J.getD G.2.toNat default)) fun a4=>
 gd ((0:Int)<=G.2∧G.2<((J.length:Nat):Int))<|
 bd (Jc Y (J.getD G.2.toNat default)) fun a6=>
 bd (Qfh a3 a4 a6) fun I=>
(if(!I.2)=true then
 some (.inr (.inl ()))
else
(if(!(I.1==(⟨#[]⟩:Bt)))=true then
 bd (JI G.1 I.1) fun U=>
 some (.inl (U,IntKind.i64.wrap (G.2+1)))
else
 some (.inl (G.1,IntKind.i64.wrap (G.2+1)))))
else
 some (.inr (.inr (G.1.length,G.1))))) (([]:List Bt),0)) fun a5=>
(match a5 with
| .inl d19=>
 some ([],2)
| .inr O=>
(if(decide (((O.1:Nat):Int)>16))=true then
 some ([],3)
else
 some (O.2,0))))
theorem QjO {a0:(List Bt)} {a1:(List Bt)} {a2:(List Bt)} {r:(List Bt)×Int} (h:Qae a0 a1 a2=some r):PureC prog 177 [.d (slD encSb a0),.d (slD encSb a1),.d (slD encSb a2)] (.tup [.osl 5001 0 r.1.length,dI r.2]) [⟨5001,9,1,r.1.length,rows encSb r.1⟩]:=by
 refine pY tOk f177 rfl (Qc tOk (bC h 0 (fun _=>ZI) fun x1 h=>bG h (fun _=>ZI) fun x2 h=>bG h (fun _=>ZI) fun x3 h=>?_));apply Qo h<;>intro _ h
 ·cases h
  exact lfP [.p 5001 9 1 (rows encSb ([]:List Bt))]
 ·obtain⟨x4,a6,h⟩:=Qb h;refine QwV 1000 (QeL a6) rfl QsG rfl (bC h 2000 (fun _=>QeL) fun x5 h=>bC h 3000 (fun _=>QeL) fun x6 h=>Qc tOk ?_);obtain⟨x10,I,h⟩:=Qb h;refine QF tOk I (fun s7=>⟨0,76,[(0,.d (slD encSb a0)),(1,.d (slD encSb a1)),(2,.d (slD encSb a2)),(8,.osl 8001 0 x6.length),(9,.osl 7001 0 s7.1.length),(10,dI s7.2)],[],[(7001,.arr 9 1 s7.1.length (rows encSb s7.1)),(8001,.arr 9 1 x6.length (rows encSb x6))],[]⟩) ?_ ?_
  ·exact leX [.k [7001],.p 7001 9 1 (rows encSb ([]:List Bt))]
  ·clear I;intro s7 y8 G J;refine Qc tOk ?_;apply Qo G<;>intro _ G
   ·refine Qc tOk ?_;obtain⟨a8,G⟩:=Qf G;obtain⟨b3,U,G⟩:=Qb G;obtain⟨b2,G⟩:=Qf G;obtain⟨a7,a4,G⟩:=Qb G;obtain⟨a5,G⟩:=Qf G;obtain⟨a9,O,G⟩:=Qb G;obtain⟨a3,Y,G⟩:=Qb G;refine QW tOk [.u 5 0 (.d (.str b3)) [],.u 11 0 (.d (.str a7)) [],.u 17 0 (.d (.str a9)) [],.u 18 0 (.tup [.d (.str a3.1),dB a3.2]) []] 24 [] [0,0,0,6,14,31,0,0,0,384,896,2047,0,0,0,24576,57344,131071,262143,524287,1048575,1048575,2097151,8388607] [] (aI a8 (aI (QN (Qdy U) (by kernel_rfl)) (aI b2 (aI (QN (Qdy a4) (by kernel_rfl)) (aI a5 (aI (QN (Qdy O) (by kernel_rfl)) (aI (QN (Qnc Y) (by kernel_rfl)) (aK (Qc tOk ?_)))))))));apply Qo G<;>intro _ G
    ·cases G
     cases J _ rfl
     cases h
     exact lfP [.p 5001 9 1 (rows encSb ([]:List Bt))]
    ·apply Qo G<;>intro _ G
     ·refine bC G 1000 (fun _=>Qfg) fun x18 G=>?_;exact eX G [.s [(6001,7001),(7001,6001)]]
     ·exact eX G []
   ·cases G
    cases J _ rfl
    refine Qc tOk ?_;apply Qo h<;>intro _ h
    ·cases h
     exact lfP [.k [7001],.p 5001 9 1 (rows encSb ([]:List Bt))]
    ·cases h
     exact lfP [.s [(5001,7001),(7001,5001)]]
def QaW (a0:QAv) (G:Int):Option (QAv×Int):=
 gd ((0:Int)<=G∧G<((a0.Box.Cands.length:Nat):Int))<|
 bd (Qae ((a0.Box.Cands.getD G.toNat default).From) ((a0.Box.Cands.getD G.toNat default).Lines) a0.Box.Lines) fun I=>
(if(I.2==2)=true then
 some (a0,6)
else
(if(I.2==3)=true then
 some (a0,4)
else
 gd ((0:Int)<=G∧G<((a0.Box.Cands.length:Nat):Int))<|
 bd (some (a0.Box.Cands.set G.toNat (⟨(a0.Box.Cands.getD G.toNat default).User,a0.Box.Edition,a0.Box.Lines,I.1⟩:QAr))) fun J=>
 some ({a0 with Box:={a0.Box with Cands:=J}},0)))
theorem QjP {a0:QAv} {I:Int} {r:QAv×Int} (h:QaW a0 I=some r):EffC prog 146 [.agg [dB a0.Up,dI a0.Box.Edition,.d (slD encSb a0.Box.Lines),dI a0.Box.Trial,.d (slD encSb a0.Box.Back),.osl 9000 0 a0.Box.Cands.length,.d (slD QAu.enc a0.Slots),dI a0.Live,dI a0.Last,dI a0.Job.Kind,dI a0.Job.Step,dI a0.Job.Edition,dI a0.Job.Ticks,.d (slD encSb a0.Job.Lines)],dI I] [(9000,.arr 93 4 a0.Box.Cands.length (rows QAr.enc a0.Box.Cands))] (.tup [.agg [dB r.1.Up,dI r.1.Box.Edition,.d (slD encSb r.1.Box.Lines),dI r.1.Box.Trial,.d (slD encSb r.1.Box.Back),.d (slD QAr.enc r.1.Box.Cands),.d (slD QAu.enc r.1.Slots),dI r.1.Live,dI r.1.Last,dI r.1.Job.Kind,dI r.1.Job.Step,dI r.1.Job.Edition,dI r.1.Job.Ticks,.d (slD encSb r.1.Job.Lines)],dI r.2]) []:=by
 refine eY tOk f146 rfl (gdI h fun h=>bC h 1000 (fun _=>QjO) fun x2 h=>Qc tOk ?_);apply Qo h<;>intro _ h
 ·cases h
  exact lfE [.f [9000]]
 ·apply Qo h<;>intro _ h
  ·cases h
   exact lfE [.f [9000]]
  ·refine gdI h fun h=>?_;obtain⟨x4,G,hlx4,h⟩:=QfO h;refine QsH (enc:=QAr.enc) G ?_;cases h;exact lfE [.f [9000]]
def QbR (a0:Bt) (G:Int):Option (Bt):=
 bd (Ja a0) fun I=>
(if(decide (G<((I.1.length:Nat):Int)))=true then
 gd ((0:Int)<=G∧G<((I.1.length:Nat):Int))<|
 some (I.1.getD G.toNat default)
else
 some (⟨#[]⟩:Bt))
theorem Qg6 {a0:Bt} {G:Int} {r:Bt} (h:QbR a0 G=some r):PureC prog 243 [.d (.str a0),dI G] (.d (.str r)) []:=by
 refine pY tOk f243 rfl (bC h 1000 (fun _=>Qb2) fun x1 h=>Qc tOk ?_);apply Qo h<;>intro _ h
 ·refine gdI h fun h=>?_;cases h;exact lfP []
 ·cases h
  exact lfP []
def QcA (a0:(List Bt)) (I:(List Bt)):Option ((List Bt)):=
 bd (Q7 a0) fun J=>
 bd (gcall ((J !=0)=false) (Q7 I)) fun U=>
(if((J !=0)||(U !=0))=true then
 some []
else
 bd (lp (σ:=List Bt×Int×Int) (β:=(Nat×(List Bt))) (fun G=>
(if((decide (G.2.1<((a0.length:Nat):Int)))||(decide (G.2.2<((I.length:Nat):Int))))=true then
 gd ((decide (G.2.1<((a0.length:Nat):Int)))=true->((G.2.2==((I.length:Nat):Int))=false->((0:Int)<=G.2.1∧G.2.1<((a0.length:Nat):Int))))<|
 gd ((decide (G.2.1<((a0.length:Nat):Int)))=true->((G.2.2==((I.length:Nat):Int))=false->((0:Int)<=G.2.2∧G.2.2<((I.length:Nat):Int))))<|
(if((G.2.2==((I.length:Nat):Int))||((decide (G.2.1<((a0.length:Nat):Int)))&&(bsl (a0.getD G.2.1.toNat default) (I.getD G.2.2.toNat default))))=true then
 gd ((0:Int)<=G.2.1∧G.2.1<((a0.length:Nat):Int))<|
 gd ((⟨#[45,32]⟩:Bt).size+(a0.getD G.2.1.toNat default).size<=9223372036854775807)<|
 gd (((G.1.length)+(([((⟨#[45,32]⟩:Bt)++(a0.getD G.2.1.toNat default))]:List Bt).length))*(16+1)<=70368744177664)<|
 some (.inl ((G.1++([((⟨#[45,32]⟩:Bt)++(a0.getD G.2.1.toNat default))]:List Bt)),IntKind.i64.wrap (G.2.1+1),G.2.2))
else
 gd ((G.2.1==((a0.length:Nat):Int))=false->((0:Int)<=G.2.2∧G.2.2<((I.length:Nat):Int)))<|
 gd ((G.2.1==((a0.length:Nat):Int))=false->((0:Int)<=G.2.1∧G.2.1<((a0.length:Nat):Int)))<|
(if((G.2.1==((a0.length:Nat):Int))||(bsl (I.getD G.2.2.toNat default) (a0.getD G.2.1.toNat default)))=true then
 gd ((0:Int)<=G.2.2∧G.2.2<((I.length:Nat):Int))<|
 gd ((⟨#[43,32]⟩:Bt).size+(I.getD G.2.2.toNat default).size<=9223372036854775807)<|
 gd (((G.1.length)+(([((⟨#[43,32]⟩:Bt)++(I.getD G.2.2.toNat default))]:List Bt).length))*(16+1)<=70368744177664)<|
 some (.inl ((G.1++([((⟨#[43,32]⟩:Bt)++(I.getD G.2.2.toNat default))]:List Bt)),G.2.1,IntKind.i64.wrap (G.2.2+1)))
else
 some (.inl (G.1,IntKind.i64.wrap (G.2.1+1),IntKind.i64.wrap (G.2.2+1)))))
else
 some (.inr (G.1.length,G.1)))) (([]:List Bt),0,0)) fun O=>
 some O.2)
theorem QkG {a0:(List Bt)} {O:(List Bt)} {r:(List Bt)} (h:QcA a0 O=some r):PureC prog 244 [.d (slD encSb a0),.d (slD encSb O)] (.osl 5001 0 r.length) [⟨5001,9,1,r.length,rows encSb r⟩]:=by
 refine pY tOk f244 rfl (Qc tOk (bC h 0 (fun _=>ZI) fun x1 h=>bG h (fun _=>ZI) fun x2 h=>?_));apply Qo h<;>intro _ h
 ·cases h
  exact lfP [.p 5001 9 1 (rows encSb ([]:List Bt))]
 ·refine Qc tOk ?_;obtain⟨x6,J,h⟩:=Qb h;refine QF tOk J (fun I=>⟨0,91,[(0,.d (slD encSb a0)),(1,.d (slD encSb O)),(5,.osl 7001 0 I.1.length),(6,dI I.2.1),(7,dI I.2.2)],[],[(7001,.arr 9 1 I.1.length (rows encSb I.1))],[]⟩) ?_ ?_
  ·exact leX [.k [7001],.p 7001 9 1 (rows encSb ([]:List Bt))]
  ·clear J;intro I y4 G Y;refine Qc tOk ?_;apply Qo G<;>intro _ G
   ·obtain⟨g7,G⟩:=Qf G;obtain⟨g8,G⟩:=Qf G;refine QW tOk [] 22 [] [0,0,2,7,15,31,31,95,255,511,1023,1023,4095,8191,1023,1023,50175,115711,262143,524287,1048575,2097151] [] (aI g7 (aI g8 (aK ?_)));apply Qo G<;>intro _ G
    ·refine gdI G fun G=>gdI G fun G=>QbB (enc:=encSb) ([((⟨#[45,32]⟩:Bt)++(a0.getD I.2.1.toNat default))]:List Bt) (gdI G fun G=>Qf7 (enc:=encSb) (xs:=I.1) (ys:=([((⟨#[45,32]⟩:Bt)++(a0.getD I.2.1.toNat default))]:List Bt)) ?_);exact eX G []
    ·obtain⟨a2,G⟩:=Qf G;obtain⟨U,G⟩:=Qf G;refine QW tOk [] 16 [] [0,0,2,7,15,31,31,127,255,31,31,1567,3615,8191,16383,32767] [] (aI a2 (aI U (aK ?_)));apply Qo G<;>intro _ G
     ·refine gdI G fun G=>gdI G fun G=>QbB (enc:=encSb) ([((⟨#[43,32]⟩:Bt)++(O.getD I.2.2.toNat default))]:List Bt) (gdI G fun G=>Qf7 (enc:=encSb) (xs:=I.1) (ys:=([((⟨#[43,32]⟩:Bt)++(O.getD I.2.2.toNat default))]:List Bt)) ?_);exact eX G []
     ·exact eX G []
   ·cases G
    cases Y _ rfl
    cases h
    exact lfP [.s [(5001,7001),(7001,5001)]]
def QdI (a0:Bt) (I:Int):Option ((List Bt)):=
 bd (lp (σ:=List Bt×Int×Int) (β:=(Nat×Int×(List Bt))) (fun s1=>
(if(decide (s1.2.2<((a0.size:Nat):Int)))=true then
 gd ((0:Int)<=s1.2.2∧s1.2.2<((a0.size:Nat):Int))<|
(if((Qaa a0 s1.2.2.toNat)==I)=true then
 gd ((0:Int)<=s1.2.1∧s1.2.1<=s1.2.2∧s1.2.2<=((a0.size:Nat):Int))<|
 gd (((s1.1.length)+(([(a0.extract s1.2.1.toNat s1.2.2.toNat)]:List Bt).length))*(16+1)<=70368744177664)<|
 some (.inl ((s1.1++([(a0.extract s1.2.1.toNat s1.2.2.toNat)]:List Bt)),IntKind.i64.wrap (s1.2.2+1),IntKind.i64.wrap (s1.2.2+1)))
else
 some (.inl (s1.1,s1.2.1,IntKind.i64.wrap (s1.2.2+1))))
else
 some (.inr (s1.1.length,s1.2.1,s1.1)))) (([]:List Bt),0,0)) fun G=>
 gd ((0:Int)<=G.2.1∧G.2.1<=((a0.size:Nat):Int)∧((a0.size:Nat):Int)<=((a0.size:Nat):Int))<|
 gd (((G.1)+(([(a0.extract G.2.1.toNat ((a0.size:Nat):Int).toNat)]:List Bt).length))*(16+1)<=70368744177664)<|
 some (G.2.2++([(a0.extract G.2.1.toNat ((a0.size:Nat):Int).toNat)]:List Bt))
theorem QjQ {a0:Bt} {O:Int} {r:(List Bt)} (h:QdI a0 O=some r):EffC prog 149 [.d (.str a0),.d (.int .u8 O)] [] (.d (slD encSb r)) []:=by
 refine eY tOk f149 rfl (Qc tOk ?_);obtain⟨x4,I,h⟩:=Qb h;refine QF tOk I (fun s1=>⟨0,35,[(0,.d (.str a0)),(1,.d (.int .u8 O)),(5,.osl 7001 0 s1.1.length),(6,dI s1.2.1),(7,dI s1.2.2)],[],[(7001,.arr 9 1 s1.1.length (rows encSb s1.1))],[⟨[],[]⟩]⟩) ?_ ?_
 ·exact leX [.k [7001],.p 7001 9 1 (rows encSb ([]:List Bt))]
 ·clear I;intro s1 y2 G J;refine Qc tOk ?_;apply Qo G<;>intro _ G
  ·refine Qc tOk (gdI G fun G=>?_);apply Qo G<;>intro _ G
   ·refine gdI G fun G=>QbB (enc:=encSb) ([(a0.extract s1.2.1.toNat s1.2.2.toNat)]:List Bt) (gdI G fun G=>Qf7 (enc:=encSb) (xs:=s1.1) (ys:=([(a0.extract s1.2.1.toNat s1.2.2.toNat)]:List Bt)) ?_);exact eX G []
   ·exact eX G []
  ·cases G
   cases J _ rfl
   refine gdI h fun h=>QbB (enc:=encSb) ([(a0.extract (s1.1.length,s1.2.1,s1.1).2.1.toNat ((a0.size:Nat):Int).toNat)]:List Bt) (gdI h fun h=>Qf7 (enc:=encSb) (xs:=(s1.1.length,s1.2.1,s1.1).2.2) (ys:=([(a0.extract (s1.1.length,s1.2.1,s1.1).2.1.toNat ((a0.size:Nat):Int).toNat)]:List Bt)) ?_);cases h;exact lfE [.f [7001]]
def Qa9 (a0:(List Bt)) (a1:(List Bt)) (U:Bt):Option (Bool):=
 bd (Q7 a0) fun Y=>
 bd (gcall ((Y !=0)=false) (Q7 a1)) fun x2=>
 bd (gcall (((Y !=0)||(x2 !=0))=false) (Zs U)) fun x3=>
(if(((Y !=0)||(x2 !=0))||(!x3))=true then
 some false
else
 gd ((⟨#[117,115,101,114,32]⟩:Bt).size+U.size<=9223372036854775807)<|
 bd (Jc a0 ((⟨#[117,115,101,114,32]⟩:Bt)++U)) fun x5=>
(if(x5==(⟨#[]⟩:Bt))=true then
 some false
else
 bd (QbR x5 2) fun G=>
 bd (QcA a0 a1) fun J=>
 bd (lp (σ:=Int) (β:=(Unit⊕Unit)) (fun I=>
(if(decide (I<((J.length:Nat):Int)))=true then
 bd (gcall ((!(G==(⟨#[97,108,108]⟩:Bt)))=true) (QdI G 44)) fun a3=>
 gd ((!(G==(⟨#[97,108,108]⟩:Bt)))=true->((0:Int)<=I∧I<((J.length:Nat):Int)))<|
 bd (gcall ((!(G==(⟨#[97,108,108]⟩:Bt)))=true) (QbR (J.getD I.toNat default) 1)) fun a4=>
 bd (gcall ((!(G==(⟨#[97,108,108]⟩:Bt)))=true) (QaH a3 a4)) fun O=>
(if((!(G==(⟨#[97,108,108]⟩:Bt)))&&(!O))=true then
 some (.inr (.inl ()))
else
 some (.inl (IntKind.i64.wrap (I+1))))
else
 some (.inr (.inr ())))) 0) fun a5=>
(match a5 with
| .inl d16=>
 some false
| .inr d17=>
 some true)))
theorem Ql3 {a0:(List Bt)} {a1:(List Bt)} {a2:Bt} {r:Bool} (h:Qa9 a0 a1 a2=some r):PureC prog 215 [.d (slD encSb a0),.d (slD encSb a1),.d (.str a2)] (dB r) []:=by
 refine pY tOk f215 rfl (Qc tOk (bC h 0 (fun _=>ZI) fun x1 h=>bG h (fun _=>ZI) fun x2 h=>bG h (fun _=>Qan) fun x3 h=>?_));apply Qo h<;>intro _ h
 ·cases h
  exact lfP []
 ·refine gdI h fun h=>bC h 0 (fun _=>Qdy) fun x5 h=>Qc tOk ?_;apply Qo h<;>intro _ h
  ·cases h
   exact lfP []
  ·refine bC h 0 (fun _=>Qg6) fun x6 h=>bC h 1000 (fun _=>QkG) fun x7 h=>Qc tOk ?_;obtain⟨x11,I,h⟩:=Qb h;refine QF tOk I (fun s8=>⟨0,54,[(8,.d (.str x6)),(9,.osl 6001 0 x7.length),(10,dI s8)],[],[(6001,.arr 9 1 x7.length (rows encSb x7))],[]⟩) ?_ ?_
   ·exact leX []
   ·clear I;intro s8 y9 G Y;refine Qc tOk ?_;apply Qo G<;>intro _ G
    ·refine Qc tOk ?_;obtain⟨a6,O,G⟩:=Qb G;obtain⟨a5,G⟩:=Qf G;obtain⟨a3,U,G⟩:=Qb G;obtain⟨a4,J,G⟩:=Qb G;refine Qas tOk [.e 4 [] (.d (slD encSb a6)) [] [],.u 9 0 (.d (.str a3)) [],.u 10 0 (dB a4) []] 13 [] [0,1,3,7,15,7,7,103,231,511,1023,2047,4095] [] [] (aI (YD ⟨⟨f149,rfl,rfl,rfl⟩⟩ (YD (by intro c0;exact eD [] 0 (QjQ (Qn O c0))) (by first|exact Qkb inA|exact Qnd inA))) (aI a5 (aI (Qw rfl rfl rfl rfl (by intro c0;exact Qg6 (Qn U c0))) (aI (Qw rfl rfl rfl rfl (by intro c0;exact QdR (Qn J c0))) (aK ?_)))));apply Qo G<;>intro _ G
     ·cases G
      cases Y _ rfl
      cases h
      exact lfP []
     ·exact eX G []
    ·cases G
     cases Y _ rfl
     cases h
     exact lfP []
def QbM (a0:QAv) (G:Int) (I:Int):Option (Int):=
 gd ((0:Int)<=G∧G<((a0.Box.Cands.length:Nat):Int))<|
 bd (QT I 0 9) fun J=>
(if(!J)=true then
 some 2
else
(if(decide (a0.Job.Kind>0))=true then
 some 10
else
(if(decide (a0.Box.Trial>0))=true then
 some 8
else
(if(((a0.Box.Cands.getD G.toNat default).Base) !=a0.Box.Edition)=true then
 some 5
else
 bd (Zu ((a0.Box.Cands.getD G.toNat default).Lines)) fun O=>
(if(O !=0)=true then
 some 6
else
 bd (Qa9 a0.Box.Lines ((a0.Box.Cands.getD G.toNat default).Lines) ((a0.Box.Cands.getD G.toNat default).User)) fun U=>
(if(!U)=true then
 some 7
else
(if(decide (a0.Box.Edition>=1000000))=true then
 some 9
else
 some 0)))))))
theorem QgZ {a0:QAv} {I:Int} {G:Int} {r:Int} (h:QbM a0 I G=some r):PureC prog 178 [.agg [dB a0.Up,dI a0.Box.Edition,.d (slD encSb a0.Box.Lines),dI a0.Box.Trial,.d (slD encSb a0.Box.Back),.d (slD QAr.enc a0.Box.Cands),.d (slD QAu.enc a0.Slots),dI a0.Live,dI a0.Last,dI a0.Job.Kind,dI a0.Job.Step,dI a0.Job.Edition,dI a0.Job.Ticks,.d (slD encSb a0.Job.Lines)],dI I,dI G] (dI r) []:=by
 refine pY tOk f178 rfl (gdI h fun h=>Qc tOk (bC h 0 (fun _=>ZC) fun x2 h=>?_));apply Qo h<;>intro _ h
 ·cases h
  exact lfP []
 ·apply Qo h<;>intro _ h
  ·cases h
   exact lfP []
  ·apply Qo h<;>intro _ h
   ·cases h
    exact lfP []
   ·apply Qo h<;>intro _ h
    ·cases h
     exact lfP []
    ·refine bC h 0 (fun _=>QaU) fun x3 h=>?_;apply Qo h<;>intro _ h
     ·cases h
      exact lfP []
     ·refine bC h 0 (fun _=>Ql3) fun x4 h=>?_;apply Qo h<;>intro _ h
      ·cases h
       exact lfP []
      ·apply Qo h<;>intro _ h
       ·cases h
        exact lfP []
       ·cases h
        exact lfP []
def QaX (a0:QAv) (G:Int) (J:Int):Option (QAv×Int):=
 bd (QbM a0 G J) fun I=>
(if(I !=0)=true then
 some (a0,I)
else
 gd ((0:Int)<=G∧G<((a0.Box.Cands.length:Nat):Int))<|
 gd ((0:Int)<=(0:Int)∧(0:Int)<=G∧G<=((a0.Box.Cands.length:Nat):Int))<|
 gd (((0)+(G.toNat))*(72+1)<=70368744177664)<|
 gd ((0:Int)<=IntKind.i64.wrap (G+1)∧IntKind.i64.wrap (G+1)<=((a0.Box.Cands.length:Nat):Int)∧((a0.Box.Cands.length:Nat):Int)<=((a0.Box.Cands.length:Nat):Int))<|
 gd ((((a0.Box.Cands.take G.toNat).length)+((QgL ((a0.Box.Cands.length:Nat):Int) (IntKind.i64.wrap (G+1)))))*(72+1)<=70368744177664)<|
 some ({a0 with Box:={a0.Box with Cands:=((a0.Box.Cands.take G.toNat)++(((a0.Box.Cands).take ((IntKind.i64.wrap (G+1)).toNat+(QgL ((a0.Box.Cands.length:Nat):Int) (IntKind.i64.wrap (G+1))))).drop ((IntKind.i64.wrap (G+1)).toNat)))},Job:=(⟨1,0,IntKind.i64.wrap (a0.Box.Edition+1),J,(a0.Box.Cands.getD G.toNat default).Lines⟩:QAt)},0))
theorem QjR {a0:QAv} {G:Int} {I:Int} {r:QAv×Int} (h:QaX a0 G I=some r):EffC prog 147 [.agg [dB a0.Up,dI a0.Box.Edition,.d (slD encSb a0.Box.Lines),dI a0.Box.Trial,.d (slD encSb a0.Box.Back),.d (slD QAr.enc a0.Box.Cands),.d (slD QAu.enc a0.Slots),dI a0.Live,dI a0.Last,dI a0.Job.Kind,dI a0.Job.Step,dI a0.Job.Edition,dI a0.Job.Ticks,.d (slD encSb a0.Job.Lines)],dI G,dI I] [] (.tup [.agg [dB r.1.Up,dI r.1.Box.Edition,.d (slD encSb r.1.Box.Lines),dI r.1.Box.Trial,.d (slD encSb r.1.Box.Back),.d (slD QAr.enc r.1.Box.Cands),.d (slD QAu.enc r.1.Slots),dI r.1.Live,dI r.1.Last,dI r.1.Job.Kind,dI r.1.Job.Step,dI r.1.Job.Edition,dI r.1.Job.Ticks,.d (slD encSb r.1.Job.Lines)],dI r.2]) []:=by
 refine eY tOk f147 rfl (bC h 0 (fun _=>QgZ) fun x1 h=>Qc tOk ?_);apply Qo h<;>intro _ h
 ·cases h
  exact lfE []
 ·obtain⟨J,h⟩:=Qf h;refine QW tOk [] 14 [] [0,1,3,7,0,0,32,96,0,480,992,2016,4095,8191] [16383] (aI J (aK ?_));obtain⟨O,h⟩:=Qf h;obtain⟨U,h⟩:=Qf h;obtain⟨Y,h⟩:=Qf h;refine QW tOk [] 13 [] [0,0,2,6,0,30,63,0,128,384,0,1024,3968] [8191,16383,32767,65535] (aI ⟨O,.inr rfl⟩ (aI U (QyC (enc:=QAr.enc) (ys:=a0.Box.Cands.take G.toNat) (aI ⟨Y,.inr rfl⟩ (aK (gdI h fun h=>Qf7 (enc:=QAr.enc) (xs:=(a0.Box.Cands.take G.toNat)) (ys:=((a0.Box.Cands).take ((IntKind.i64.wrap (G+1)).toNat+(QgL ((a0.Box.Cands.length:Nat):Int) (IntKind.i64.wrap (G+1))))).drop ((IntKind.i64.wrap (G+1)).toNat)) ?_))))));cases h;exact lfE [.f [37]]
def QdW (a0:QAv) (G:QAw):Option (QAv×Int):=
 bd (Qch a0.Box G.User) fun I=>
(if(decide (I<0))=true then
 some (a0,3)
else
(if(G.Kind==2)=true then
 bd (Qcz a0 I G.Line) fun O=>
 some (O.1,O.2)
else
(if(G.Kind==3)=true then
 bd (QbQ a0 I G.Line) fun U=>
 some (U.1,U.2)
else
(if(G.Kind==4)=true then
 bd (QaW a0 I) fun Y=>
 some (Y.1,Y.2)
else
 bd (QaX a0 I G.N) fun J=>
 some (J.1,J.2)))))
theorem Qne {a0:QAv} {G:QAw} {r:QAv×Int} (h:QdW a0 G=some r):EffC prog 77 [.agg [dB a0.Up,dI a0.Box.Edition,.d (slD encSb a0.Box.Lines),dI a0.Box.Trial,.d (slD encSb a0.Box.Back),.osl 9000 0 a0.Box.Cands.length,.d (slD QAu.enc a0.Slots),dI a0.Live,dI a0.Last,dI a0.Job.Kind,dI a0.Job.Step,dI a0.Job.Edition,dI a0.Job.Ticks,.d (slD encSb a0.Job.Lines)],.agg [dI G.Kind,.d (.str G.User),.d (.str G.Line),dI G.N]] [(9000,.arr 93 4 a0.Box.Cands.length (rows QAr.enc a0.Box.Cands))] (.tup [.agg [dB r.1.Up,dI r.1.Box.Edition,.d (slD encSb r.1.Box.Lines),dI r.1.Box.Trial,.d (slD encSb r.1.Box.Back),.d (slD QAr.enc r.1.Box.Cands),.d (slD QAu.enc r.1.Slots),dI r.1.Live,dI r.1.Last,dI r.1.Job.Kind,dI r.1.Job.Step,dI r.1.Job.Edition,dI r.1.Job.Ticks,.d (slD encSb r.1.Job.Lines)],dI r.2]) []:=by
 refine eY tOk f77 rfl (bC h 0 (fun _=>Qf9) fun x1 h=>Qc tOk ?_);apply Qo h<;>intro _ h
 ·cases h
  exact lfE [.f [9000]]
 ·refine Qc tOk ?_;apply Qo h<;>intro _ h
  ·refine bE h [(9000,9000)] 0 (fun _=>Qnb) fun x2 h=>?_;cases h;exact lfE []
  ·apply Qo h<;>intro _ h
   ·refine bE h [(9000,9000)] 0 (fun _=>Ql2) fun x3 h=>?_;cases h;exact lfE []
   ·apply Qo h<;>intro _ h
    ·refine bE h [(9000,9000)] 0 (fun _=>QjP) fun x4 h=>?_;cases h;exact lfE []
    ·obtain⟨x5,I,h⟩:=Qb h;refine Zp [9000] (cE [] 0 (QjR I) ?_);cases h;exact lfE []
def JJ (a0:QAv) (G:QAw):Option (QAv×Int):=
 bd (QT G.Kind 1 10) fun x1=>
(if(!x1)=true then
 some (a0,2)
else
(if(a0.Up==(G.Kind==10))=true then
 some (a0,12)
else
(if(G.Kind==1)=true then
 bd (Qcx a0 G) fun O=>
 some (O.1,O.2)
else
(if(G.Kind==6)=true then
 bd (QbC a0 G) fun U=>
 some (U.1,U.2)
else
(if(G.Kind==7)=true then
 bd (Qdk a0) fun x4=>
 some (x4,0)
else
(if(G.Kind==8)=true then
 bd (Qcy a0) fun J=>
 some (J.1,J.2)
else
(if(G.Kind==9)=true then
 some ({a0 with Up:=false,Box:=(⟨0,[],0,[],[]⟩:QAs),Job:=(⟨0,0,0,0,[]⟩:QAt)},0)
else
(if(G.Kind==10)=true then
 bd (Qdl a0) fun Y=>
 some (Y,0)
else
 bd (QdW a0 G) fun I=>
 some (I.1,I.2)))))))))
theorem Qfi {a0:QAv} {G:QAw} {r:QAv×Int} (h:JJ a0 G=some r):EffC prog 30 [.agg [dB a0.Up,dI a0.Box.Edition,.osl 9000 0 a0.Box.Lines.length,dI a0.Box.Trial,.osl 9001 0 a0.Box.Back.length,.osl 9002 0 a0.Box.Cands.length,.osl 9003 0 a0.Slots.length,dI a0.Live,dI a0.Last,dI a0.Job.Kind,dI a0.Job.Step,dI a0.Job.Edition,dI a0.Job.Ticks,.osl 9004 0 a0.Job.Lines.length],.agg [dI G.Kind,.d (.str G.User),.d (.str G.Line),dI G.N]] [(9000,.arr 9 1 a0.Box.Lines.length (rows encSb a0.Box.Lines)),(9001,.arr 9 1 a0.Box.Back.length (rows encSb a0.Box.Back)),(9002,.arr 93 4 a0.Box.Cands.length (rows QAr.enc a0.Box.Cands)),(9003,.arr 61 4 a0.Slots.length (rows QAu.enc a0.Slots)),(9004,.arr 9 1 a0.Job.Lines.length (rows encSb a0.Job.Lines))] (.tup [.agg [dB r.1.Up,dI r.1.Box.Edition,.d (slD encSb r.1.Box.Lines),dI r.1.Box.Trial,.d (slD encSb r.1.Box.Back),.d (slD QAr.enc r.1.Box.Cands),.d (slD QAu.enc r.1.Slots),dI r.1.Live,dI r.1.Last,dI r.1.Job.Kind,dI r.1.Job.Step,dI r.1.Job.Edition,dI r.1.Job.Ticks,.d (slD encSb r.1.Job.Lines)],dI r.2]) []:=by
 refine eY tOk f30 rfl (Qc tOk (bC h 0 (fun _=>ZC) fun x1 h=>?_));apply Qo h<;>intro _ h
 ·cases h
  exact lfE [.f [9000,9001,9002,9003,9004]]
 ·refine Qc tOk ?_;apply Qo h<;>intro _ h
  ·cases h
   exact lfE [.f [9000,9001,9002,9003,9004]]
  ·refine Qc tOk ?_;apply Qo h<;>intro _ h
   ·obtain⟨x2,a2,h⟩:=Qb h;refine Zp [9000,9001,9003,9004] (cE [(9000,9002)] 0 (QkE a2) ?_);cases h;exact lfE []
   ·apply Qo h<;>intro _ h
    ·obtain⟨x3,I,h⟩:=Qb h;refine Zp [9000,9001,9002,9003,9004] (cE [] 0 (QiN I) ?_);cases h;exact lfE []
    ·apply Qo h<;>intro _ h
     ·obtain⟨x4,J,h⟩:=Qb h;refine Zp [9000,9001,9002,9003,9004] (cE [] 0 (QlZ J) ?_);cases h;exact lfE []
     ·apply Qo h<;>intro _ h
      ·obtain⟨x5,Y,h⟩:=Qb h;refine Zp [9000,9001,9002,9004] (cE [(9000,9003)] 0 (QkF Y) ?_);cases h;exact lfE []
      ·apply Qo h<;>intro _ h
       ·cases h
        exact lfE [.f [9003]]
       ·apply Qo h<;>intro _ h
        ·obtain⟨x6,O,h⟩:=Qb h;refine Zp [9000,9001,9002,9003,9004] (cE [] 1000 (Ql1 O) ?_);cases h;exact lfE [.f [6001,6002]]
        ·obtain⟨x7,U,h⟩:=Qb h;refine Zp [9000,9001,9003,9004] (cE [(9000,9002)] 0 (Qne U) ?_);cases h;exact lfE []
def QdX (a0:QAv) (O:QAw):Option (QAv×Int):=
 bd (Qbe a0) fun I=>
(if(!I)=true then
 some ((⟨false,(⟨0,[],0,[],[]⟩:QAs),[],0,0,(⟨0,0,0,0,[]⟩:QAt)⟩:QAv),1)
else
 bd (Qa4 a0) fun J=>
 bd (JJ J O) fun G=>
 bd (Qa4 G.1) fun U=>
 some (U,G.2))
theorem Qnf {a0:QAv} {J:QAw} {r:QAv×Int} (h:QdX a0 J=some r):EffC prog 9 [.agg [dB a0.Up,dI a0.Box.Edition,.d (slD encSb a0.Box.Lines),dI a0.Box.Trial,.d (slD encSb a0.Box.Back),.d (slD QAr.enc a0.Box.Cands),.d (slD QAu.enc a0.Slots),dI a0.Live,dI a0.Last,dI a0.Job.Kind,dI a0.Job.Step,dI a0.Job.Edition,dI a0.Job.Ticks,.d (slD encSb a0.Job.Lines)],.agg [dI J.Kind,.d (.str J.User),.d (.str J.Line),dI J.N]] [] (.tup [.agg [dB r.1.Up,dI r.1.Box.Edition,.osl 5001 0 r.1.Box.Lines.length,dI r.1.Box.Trial,.osl 5002 0 r.1.Box.Back.length,.osl 5003 0 r.1.Box.Cands.length,.osl 5004 0 r.1.Slots.length,dI r.1.Live,dI r.1.Last,dI r.1.Job.Kind,dI r.1.Job.Step,dI r.1.Job.Edition,dI r.1.Job.Ticks,.osl 5005 0 r.1.Job.Lines.length],dI r.2]) [(5001,.arr 9 1 r.1.Box.Lines.length (rows encSb r.1.Box.Lines)),(5002,.arr 9 1 r.1.Box.Back.length (rows encSb r.1.Box.Back)),(5003,.arr 93 4 r.1.Box.Cands.length (rows QAr.enc r.1.Box.Cands)),(5004,.arr 61 4 r.1.Slots.length (rows QAu.enc r.1.Slots)),(5005,.arr 9 1 r.1.Job.Lines.length (rows encSb r.1.Job.Lines))]:=by
 refine eY tOk f9 rfl (Qc tOk (bC h 0 (fun _=>Qh3) fun x1 h=>?_));apply Qo h<;>intro _ h
 ·cases h
  exact lfE [.k [2,3],.p 5001 9 1 (rows encSb ([]:List Bt)),.p 5002 9 1 (rows encSb ([]:List Bt)),.p 5003 93 4 (rows QAr.enc ([]:List QAr)),.p 5004 61 4 (rows QAu.enc ([]:List QAu)),.p 5005 9 1 (rows encSb ([]:List Bt))]
 ·obtain⟨G,U,h⟩:=Qb h;obtain⟨I,O,h⟩:=Qb h;refine Qas tOk [.e 1 [] (.agg [dB G.Up,dI G.Box.Edition,.osl 6001 0 G.Box.Lines.length,dI G.Box.Trial,.osl 6002 0 G.Box.Back.length,.osl 6003 0 G.Box.Cands.length,.osl 6004 0 G.Slots.length,dI G.Live,dI G.Last,dI G.Job.Kind,dI G.Job.Step,dI G.Job.Edition,dI G.Job.Ticks,.osl 6005 0 G.Job.Lines.length]) [] [(6001,.arr 9 1 G.Box.Lines.length (rows encSb G.Box.Lines)),(6002,.arr 9 1 G.Box.Back.length (rows encSb G.Box.Back)),(6003,.arr 93 4 G.Box.Cands.length (rows QAr.enc G.Box.Cands)),(6004,.arr 61 4 G.Slots.length (rows QAu.enc G.Slots)),(6005,.arr 9 1 G.Job.Lines.length (rows encSb G.Job.Lines))],.e 3 [(6001,.arr 9 1 G.Box.Lines.length (rows encSb G.Box.Lines)),(6002,.arr 9 1 G.Box.Back.length (rows encSb G.Box.Back)),(6003,.arr 93 4 G.Box.Cands.length (rows QAr.enc G.Box.Cands)),(6004,.arr 61 4 G.Slots.length (rows QAu.enc G.Slots)),(6005,.arr 9 1 G.Job.Lines.length (rows encSb G.Job.Lines))] (.tup [.agg [dB I.1.Up,dI I.1.Box.Edition,.d (slD encSb I.1.Box.Lines),dI I.1.Box.Trial,.d (slD encSb I.1.Box.Back),.d (slD QAr.enc I.1.Box.Cands),.d (slD QAu.enc I.1.Slots),dI I.1.Live,dI I.1.Last,dI I.1.Job.Kind,dI I.1.Job.Step,dI I.1.Job.Edition,dI I.1.Job.Ticks,.d (slD encSb I.1.Job.Lines)],dI I.2]) [] []] 8 [6] [0,1,0,7,15,31,31,0] [191,511] [] (aI (eH [] 1000 (QeI U)) (aI (eD [(9000,6001),(9001,6002),(9002,6003),(9003,6004),(9004,6005)] 0 (Qfi O)) (aK (bE h [] 2000 (fun _=>QeI) fun x4 h=>?_))));cases h;exact lfE [.s [(5001,7001),(5002,7002),(5003,7003),(5004,7004),(5005,7005),(7001,5001),(7002,5002),(7003,5003),(7004,5004),(7005,5005)]]
def Qbf (a0:QAv) (J:(List QAw)):Option (QAv×(List QAw)):=
 bd (lp (σ:=Bool×Int×Int×Int×Int×List Bt×List Bt×Int×List Bt×List QAr×List QAu×Int×Int×Int×Int) (β:=(Bool×Int×(List Bt)×Int×(List Bt)×(List QAr)×(List QAu)×Int×Int×Int×Int×Int×Int×(List Bt))) (fun s1=>
(if(decide (s1.2.2.2.2.2.2.2.2.2.2.2.2.2.2<((J.length:Nat):Int)))=true then
 gd ((0:Int)<=s1.2.2.2.2.2.2.2.2.2.2.2.2.2.2∧s1.2.2.2.2.2.2.2.2.2.2.2.2.2.2<((J.length:Nat):Int))<|
 bd (QdX (⟨s1.1,(⟨s1.2.1,s1.2.2.2.2.2.2.1,s1.2.2.2.2.2.2.2.1,s1.2.2.2.2.2.2.2.2.1,s1.2.2.2.2.2.2.2.2.2.1⟩:QAs),s1.2.2.2.2.2.2.2.2.2.2.1,s1.2.2.2.2.2.2.2.2.2.2.2.1,s1.2.2.2.2.2.2.2.2.2.2.2.2.1,(⟨s1.2.2.2.2.2.2.2.2.2.2.2.2.2.1,s1.2.2.1,s1.2.2.2.1,s1.2.2.2.2.1,s1.2.2.2.2.2.1⟩:QAt)⟩:QAv) (J.getD s1.2.2.2.2.2.2.2.2.2.2.2.2.2.2.toNat default)) fun G=>
 some (.inl (G.1.Up,G.1.Box.Edition,G.1.Job.Step,G.1.Job.Edition,G.1.Job.Ticks,G.1.Job.Lines,G.1.Box.Lines,G.1.Box.Trial,G.1.Box.Back,G.1.Box.Cands,G.1.Slots,G.1.Live,G.1.Last,G.1.Job.Kind,IntKind.i64.wrap (s1.2.2.2.2.2.2.2.2.2.2.2.2.2.2+1)))
else
 some (.inr (s1.1,s1.2.1,s1.2.2.2.2.2.2.1,s1.2.2.2.2.2.2.2.1,s1.2.2.2.2.2.2.2.2.1,s1.2.2.2.2.2.2.2.2.2.1,s1.2.2.2.2.2.2.2.2.2.2.1,s1.2.2.2.2.2.2.2.2.2.2.2.1,s1.2.2.2.2.2.2.2.2.2.2.2.2.1,s1.2.2.2.2.2.2.2.2.2.2.2.2.2.1,s1.2.2.1,s1.2.2.2.1,s1.2.2.2.2.1,s1.2.2.2.2.2.1)))) (a0.Up,a0.Box.Edition,a0.Job.Step,a0.Job.Edition,a0.Job.Ticks,a0.Job.Lines,a0.Box.Lines,a0.Box.Trial,a0.Box.Back,a0.Box.Cands,a0.Slots,a0.Live,a0.Last,a0.Job.Kind,0)) fun I=>
 some ((⟨I.1,(⟨I.2.1,I.2.2.1,I.2.2.2.1,I.2.2.2.2.1,I.2.2.2.2.2.1⟩:QAs),I.2.2.2.2.2.2.1,I.2.2.2.2.2.2.2.1,I.2.2.2.2.2.2.2.2.1,(⟨I.2.2.2.2.2.2.2.2.2.1,I.2.2.2.2.2.2.2.2.2.2.1,I.2.2.2.2.2.2.2.2.2.2.2.1,I.2.2.2.2.2.2.2.2.2.2.2.2.1,I.2.2.2.2.2.2.2.2.2.2.2.2.2⟩:QAt)⟩:QAv),J)
theorem Qh4 {a0:QAv} {I:(List QAw)} {r:QAv×(List QAw)} (h:Qbf a0 I=some r):EffC prog 23 [.agg [dB a0.Up,dI a0.Box.Edition,.d (slD encSb a0.Box.Lines),dI a0.Box.Trial,.d (slD encSb a0.Box.Back),.d (slD QAr.enc a0.Box.Cands),.d (slD QAu.enc a0.Slots),dI a0.Live,dI a0.Last,dI a0.Job.Kind,dI a0.Job.Step,dI a0.Job.Edition,dI a0.Job.Ticks,.d (slD encSb a0.Job.Lines)],.osl 9000 0 I.length] [(9000,.arr 41 4 I.length (rows QAw.enc I))] (.agg [dB r.1.Up,dI r.1.Box.Edition,.d (slD encSb r.1.Box.Lines),dI r.1.Box.Trial,.d (slD encSb r.1.Box.Back),.d (slD QAr.enc r.1.Box.Cands),.d (slD QAu.enc r.1.Slots),dI r.1.Live,dI r.1.Last,dI r.1.Job.Kind,dI r.1.Job.Step,dI r.1.Job.Edition,dI r.1.Job.Ticks,.d (slD encSb r.1.Job.Lines)]) [(9000,.arr 41 4 I.length (rows QAw.enc r.2))]:=by
 refine eY tOk f23 rfl (Qc tOk ?_);obtain⟨x4,O,h⟩:=Qb h;refine QF tOk O (fun s1=>⟨0,22,[(1,.osl 9000 0 I.length),(2,.ref 2 0 0),(4,.ref 4 0 0),(5,dI s1.2.2.2.2.2.2.2.2.2.2.2.2.2.2)],[],[(4,.box 34 [dB false,dI 0,.d (.nil),dI 0,.d (.nil),.d (.nil),.d (.nil),dI 0,dI 0,dI 0,dI 0,dI 0,dI 0,.d (.nil)]),(2,.box 34 [dB s1.1,dI s1.2.1,.d (slD encSb s1.2.2.2.2.2.2.1),dI s1.2.2.2.2.2.2.2.1,.d (slD encSb s1.2.2.2.2.2.2.2.2.1),.d (slD QAr.enc s1.2.2.2.2.2.2.2.2.2.1),.d (slD QAu.enc s1.2.2.2.2.2.2.2.2.2.2.1),dI s1.2.2.2.2.2.2.2.2.2.2.2.1,dI s1.2.2.2.2.2.2.2.2.2.2.2.2.1,dI s1.2.2.2.2.2.2.2.2.2.2.2.2.2.1,dI s1.2.2.1,dI s1.2.2.2.1,dI s1.2.2.2.2.1,.d (slD encSb s1.2.2.2.2.2.1)]),(9000,.arr 41 4 I.length (rows QAw.enc I))],[⟨[(0,.osl 9000 0 I.length)],[]⟩]⟩) ?_ ?_
 ·exact leX []
 ·clear O;intro s1 y2 J Y;refine Qc tOk ?_;apply Qo J<;>intro _ J
  ·refine Qc tOk ?_;obtain⟨g5,J⟩:=Qf J;obtain⟨G,U,J⟩:=Qb J;refine Qas tOk [.e 5 [] (.tup [.agg [dB G.1.Up,dI G.1.Box.Edition,.osl 6001 0 G.1.Box.Lines.length,dI G.1.Box.Trial,.osl 6002 0 G.1.Box.Back.length,.osl 6003 0 G.1.Box.Cands.length,.osl 6004 0 G.1.Slots.length,dI G.1.Live,dI G.1.Last,dI G.1.Job.Kind,dI G.1.Job.Step,dI G.1.Job.Edition,dI G.1.Job.Ticks,.osl 6005 0 G.1.Job.Lines.length],dI G.2]) [(6001,.arr 9 1 G.1.Box.Lines.length (rows encSb G.1.Box.Lines)),(6002,.arr 9 1 G.1.Box.Back.length (rows encSb G.1.Box.Back)),(6003,.arr 93 4 G.1.Box.Cands.length (rows QAr.enc G.1.Box.Cands)),(6004,.arr 61 4 G.1.Slots.length (rows QAu.enc G.1.Slots)),(6005,.arr 9 1 G.1.Job.Lines.length (rows encSb G.1.Job.Lines))] []] 9 [8] [0,0,0,6,14,31,63,127,127] [255] [] (aI g5 (aI (eD [] 1000 (Qnf U)) (aK ?_)));exact eX J [.f [6001,6002,6003,6004,6005]]
  ·cases J
   cases Y _ rfl
   cases h
   exact lfE []
def QbD (a0:QAp):Option (QAv×QAp):=
 bd (Qdi a0) fun x1=>
 bd (Qct x1.1) fun O=>
 bd (α:=List QAu×Int×Int×Int) (bd (Ql (⟨a0.b,x1.2.p⟩:QAp) 12) fun x6=>
(if(x6.1==0)=true then
 bd (Ql (⟨a0.b,x6.2.p⟩:QAp) 3) fun x7=>
 gd ((0:Int)<=0∧0<((O.1.Slots.length:Nat):Int))<|
 bd (some (O.1.Slots.set 0 ({(O.1.Slots.getD 0 default) with Edition:=IntKind.i64.wrap (1000000-x7.1)}))) fun x9=>
 some (x9,IntKind.i64.wrap (1000000-x7.1),IntKind.i64.wrap (1000000-x7.1),x7.2.p)
else
 some (O.1.Slots,O.1.Box.Edition,O.1.Last,x6.2.p))) fun x3=>
 bd (Ql (⟨a0.b,x3.2.2.2⟩:QAp) 12) fun Y=>
 bd (lp (σ:=Bool×Int×Int×Int×Int×List Bt×List Bt×Int×List Bt×List QAr×List QAu×Int×Int×Int×Int×Int) (β:=(Bool×Int×(List Bt)×Int×(List Bt)×(List QAr)×(List QAu)×Int×Int×Int×Int×Int×Int×(List Bt)×Int)) (fun G=>
(if(decide (G.2.2.2.2.2.2.2.2.2.2.2.2.2.2.2>0))=true then
 bd (Qdj (⟨a0.b,G.2.2.2.2.2.2.2.2.2.2.2.2.2.2.1⟩:QAp) (⟨G.1,(⟨G.2.1,G.2.2.2.2.2.2.1,G.2.2.2.2.2.2.2.1,G.2.2.2.2.2.2.2.2.1,G.2.2.2.2.2.2.2.2.2.1⟩:QAs),G.2.2.2.2.2.2.2.2.2.2.1,G.2.2.2.2.2.2.2.2.2.2.2.1,G.2.2.2.2.2.2.2.2.2.2.2.2.1,(⟨G.2.2.2.2.2.2.2.2.2.2.2.2.2.1,G.2.2.1,G.2.2.2.1,G.2.2.2.2.1,G.2.2.2.2.2.1⟩:QAt)⟩:QAv)) fun U=>
 bd (Qbf (⟨G.1,(⟨G.2.1,G.2.2.2.2.2.2.1,G.2.2.2.2.2.2.2.1,G.2.2.2.2.2.2.2.2.1,G.2.2.2.2.2.2.2.2.2.1⟩:QAs),G.2.2.2.2.2.2.2.2.2.2.1,G.2.2.2.2.2.2.2.2.2.2.2.1,G.2.2.2.2.2.2.2.2.2.2.2.2.1,(⟨G.2.2.2.2.2.2.2.2.2.2.2.2.2.1,G.2.2.1,G.2.2.2.1,G.2.2.2.2.1,G.2.2.2.2.2.1⟩:QAt)⟩:QAv) U.1) fun J=>
 gd (J.2.length=U.1.length)<|
 some (.inl (J.1.Up,J.1.Box.Edition,J.1.Job.Step,J.1.Job.Edition,J.1.Job.Ticks,J.1.Job.Lines,J.1.Box.Lines,J.1.Box.Trial,J.1.Box.Back,J.1.Box.Cands,J.1.Slots,J.1.Live,J.1.Last,J.1.Job.Kind,U.2.p,IntKind.i64.wrap (G.2.2.2.2.2.2.2.2.2.2.2.2.2.2.2-1)))
else
 some (.inr (G.1,G.2.1,G.2.2.2.2.2.2.1,G.2.2.2.2.2.2.2.1,G.2.2.2.2.2.2.2.2.1,G.2.2.2.2.2.2.2.2.2.1,G.2.2.2.2.2.2.2.2.2.2.1,G.2.2.2.2.2.2.2.2.2.2.2.1,G.2.2.2.2.2.2.2.2.2.2.2.2.1,G.2.2.2.2.2.2.2.2.2.2.2.2.2.1,G.2.2.1,G.2.2.2.1,G.2.2.2.2.1,G.2.2.2.2.2.1,G.2.2.2.2.2.2.2.2.2.2.2.2.2.2.1)))) (O.1.Up,x3.2.1,O.1.Job.Step,O.1.Job.Edition,O.1.Job.Ticks,O.1.Job.Lines,O.1.Box.Lines,O.1.Box.Trial,O.1.Box.Back,O.1.Box.Cands,x3.1,O.1.Live,x3.2.2.1,O.1.Job.Kind,Y.2.p,Y.1)) fun I=>
 some ((⟨I.1,(⟨I.2.1,I.2.2.1,I.2.2.2.1,I.2.2.2.2.1,I.2.2.2.2.2.1⟩:QAs),I.2.2.2.2.2.2.1,I.2.2.2.2.2.2.2.1,I.2.2.2.2.2.2.2.2.1,(⟨I.2.2.2.2.2.2.2.2.2.1,I.2.2.2.2.2.2.2.2.2.2.1,I.2.2.2.2.2.2.2.2.2.2.2.1,I.2.2.2.2.2.2.2.2.2.2.2.2.1,I.2.2.2.2.2.2.2.2.2.2.2.2.2.1⟩:QAt)⟩:QAv),(⟨a0.b,I.2.2.2.2.2.2.2.2.2.2.2.2.2.2⟩:QAp))
theorem QiO {a0:QAp} {r:QAv×QAp} (h:QbD a0=some r):EffC prog 45 [.ref 9000 0 0] [(9000,.box 76 [.d (slD Qt a0.b),dI a0.p])] (.agg [dB r.1.Up,dI r.1.Box.Edition,.d (slD encSb r.1.Box.Lines),dI r.1.Box.Trial,.d (slD encSb r.1.Box.Back),.d (slD QAr.enc r.1.Box.Cands),.d (slD QAu.enc r.1.Slots),dI r.1.Live,dI r.1.Last,dI r.1.Job.Kind,dI r.1.Job.Step,dI r.1.Job.Edition,dI r.1.Job.Ticks,.d (slD encSb r.1.Job.Lines)]) [(9000,.box 76 [.d (slD Qt a0.b),dI r.2.p])]:=by
 refine eY tOk f45 rfl (bE h [(9000,9000)] 0 (fun _=>QlX) fun x1 h=>bE h [] 1000 (fun _=>QkA) fun U h=>?_);obtain⟨x3,J,h⟩:=Qb h;refine Zm tOk (fun s4=>⟨0,41,[(0,.ref 9000 0 0),(2,.ref 2 0 0),(3,.ref 3 0 0)],[],[(3,.box 34 [dB U.1.Up,dI s4.2.1,.osl 6001 0 U.1.Box.Lines.length,dI U.1.Box.Trial,.osl 6002 0 U.1.Box.Back.length,.osl 6003 0 U.1.Box.Cands.length,.osl 6004 0 s4.1.length,dI U.1.Live,dI s4.2.2.1,dI U.1.Job.Kind,dI U.1.Job.Step,dI U.1.Job.Edition,dI U.1.Job.Ticks,.osl 6005 0 U.1.Job.Lines.length]),(6001,.arr 9 1 U.1.Box.Lines.length (rows encSb U.1.Box.Lines)),(6002,.arr 9 1 U.1.Box.Back.length (rows encSb U.1.Box.Back)),(6003,.arr 93 4 U.1.Box.Cands.length (rows QAr.enc U.1.Box.Cands)),(6004,.arr 61 4 s4.1.length (rows QAu.enc s4.1)),(6005,.arr 9 1 U.1.Job.Lines.length (rows encSb U.1.Job.Lines)),(2,.box 34 [dB false,dI 0,.d (.nil),dI 0,.d (.nil),.d (.nil),.d (.nil),dI 0,dI 0,dI 0,dI 0,dI 0,dI 0,.d (.nil)]),(9000,.box 76 [.d (slD Qt a0.b),dI s4.2.2.2])],[⟨[(0,.ref 9000 0 0)],[]⟩]⟩) (fun s4=>x3=s4) ?_ ?_
 ·refine bE J [(9000,9000)] 0 (fun _=>Qq) fun x6 J=>?_;apply Qo J<;>intro _ J
  ·refine bE J [(9000,9000)] 0 (fun _=>Qq) fun x7 J=>gdI J fun J=>?_;obtain⟨x9,a5,hlx9,J⟩:=QfO J;refine QsH (enc:=QAu.enc) a5 ?_;exact eZ J []
  ·exact eZ J []
 ·rintro _ rfl;refine Qc tOk (bE h [(9000,9000)] 0 (fun _=>Qq) fun x10 h=>?_);obtain⟨x14,a1,h⟩:=Qb h;refine QF tOk a1 (fun G=>⟨0,41,[(0,.ref 9000 0 0),(2,.ref 2 0 0),(3,.ref 3 0 0),(5,dI G.2.2.2.2.2.2.2.2.2.2.2.2.2.2.2)],[],[(3,.box 34 [dB G.1,dI G.2.1,.d (slD encSb G.2.2.2.2.2.2.1),dI G.2.2.2.2.2.2.2.1,.d (slD encSb G.2.2.2.2.2.2.2.2.1),.d (slD QAr.enc G.2.2.2.2.2.2.2.2.2.1),.d (slD QAu.enc G.2.2.2.2.2.2.2.2.2.2.1),dI G.2.2.2.2.2.2.2.2.2.2.2.1,dI G.2.2.2.2.2.2.2.2.2.2.2.2.1,dI G.2.2.2.2.2.2.2.2.2.2.2.2.2.1,dI G.2.2.1,dI G.2.2.2.1,dI G.2.2.2.2.1,.d (slD encSb G.2.2.2.2.2.1)]),(2,.box 34 [dB false,dI 0,.d (.nil),dI 0,.d (.nil),.d (.nil),.d (.nil),dI 0,dI 0,dI 0,dI 0,dI 0,dI 0,.d (.nil)]),(9000,.box 76 [.d (slD Qt a0.b),dI G.2.2.2.2.2.2.2.2.2.2.2.2.2.2.1])],[⟨[(0,.ref 9000 0 0)],[]⟩]⟩) ?_ ?_
  ·exact leX [.f [6001,6002,6003,6004,6005]]
  ·clear a1;intro G y12 O a4;refine Qc tOk ?_;apply Qo O<;>intro _ O
   ·refine Qc tOk ?_;obtain⟨Y,a2,O⟩:=Qb O;obtain⟨I,a3,O⟩:=Qb O;obtain⟨g17,O⟩:=Qf O;refine Qas tOk [.e 3 [(9000,.box 76 [.d (slD Qt a0.b),dI G.2.2.2.2.2.2.2.2.2.2.2.2.2.2.1])] (.osl 6001 0 Y.1.length) [] [(6001,.arr 41 4 Y.1.length (rows QAw.enc Y.1)),(9000,.box 76 [.d (slD Qt a0.b),dI Y.2.p])],.e 4 [(6001,.arr 41 4 Y.1.length (rows QAw.enc Y.1))] (.agg [dB I.1.Up,dI I.1.Box.Edition,.d (slD encSb I.1.Box.Lines),dI I.1.Box.Trial,.d (slD encSb I.1.Box.Back),.d (slD QAr.enc I.1.Box.Cands),.d (slD QAu.enc I.1.Slots),dI I.1.Live,dI I.1.Last,dI I.1.Job.Kind,dI I.1.Job.Step,dI I.1.Job.Edition,dI I.1.Job.Ticks,.d (slD encSb I.1.Job.Lines)]) [] [(6001,.arr 41 4 Y.1.length (rows QAw.enc I.2))]] 5 [] [0,0,0,6,15] [31] [9000] (aI (eH [(9000,9000)] 1000 (QlY a2)) (aI (eD [(9000,6001)] 0 (Qh4 a3)) (aK ?_)));exact eX O []
   ·cases O
    cases a4 _ rfl
    cases h
    exact lfE []
def J4 (a0:(List Int)):Option (QAv):=
 bd (Qc9 a0) fun G=>
 bd (QbD G) fun I=>
 some I.1
theorem QfX {a0:(List Int)} {r:QAv} (h:J4 a0=some r):EffC prog 15 [.d (slD Qt a0)] [] (.agg [dB r.Up,dI r.Box.Edition,.d (slD encSb r.Box.Lines),dI r.Box.Trial,.d (slD encSb r.Box.Back),.d (slD QAr.enc r.Box.Cands),.d (slD QAu.enc r.Slots),dI r.Live,dI r.Last,dI r.Job.Kind,dI r.Job.Step,dI r.Job.Edition,dI r.Job.Ticks,.d (slD encSb r.Job.Lines)]) []:=by
 refine eY tOk f15 rfl (bE h [] 1000 (fun _=>QlO) fun x1 h=>bE h [(9000,6001)] 0 (fun _=>QiO) fun x2 h=>?_);cases h;exact lfE []
def Qs (a0:Int) (G:Int) (I:Int):Option (Bool):=
 some ((decide (G<=a0))&&(decide (a0<=I)))
theorem QX {a0:Int} {G:Int} {I:Int} {r:Bool} (h:Qs a0 G I=some r):PureC prog 27 [dI a0,dI G,dI I] (dB r) []:=by
 refine pY tOk f27 rfl ?_;unfold Qs at h;cases h;exact lfP []
def Jm (a0:Bt) (G:Bt):Option (Bt×Bt×Bool):=
 gd (a0.size<4294967281)<|
 some (QsI a0 G)
theorem QdY {a0:Bt} {G:Bt} {r:Bt×Bt×Bool} (h:Jm a0 G=some r):PureC prog 158 [.d (.str a0),.d (.str G)] (.tup [.d (.str r.1),.d (.str r.2.1),dB r.2.2]) []:=by
 unfold Jm at h;obtain⟨g,h⟩:=Qf h;obtain rfl:=sj_ h;exact QsO ⟨f158,rfl,by kernel_rfl,by kernel_rfl⟩ (by kernel_rfl) (fun s sep m w h1 h2=>Any.strings_Cut Lay.cut s sep m w h1 h2) g
def ZJ (a0:Bt) (G:Bt):Option ((List Bt)):=
 gd (a0.size<4294967281∧1<=G.size)<|
 some (QlL a0 G)
theorem QcB {a0:Bt} {G:Bt} {r:(List Bt)} (h:ZJ a0 G=some r):PureC prog 154 [.d (.str a0),.d (.str G)] (.osl 5001 0 r.length) [⟨5001,9,1,r.length,rows encSb r⟩]:=by
 unfold ZJ at h;obtain⟨⟨g,I⟩,h⟩:=Qf h;obtain rfl:=sj_ h;exact QpF ⟨f154,rfl,by kernel_rfl,by kernel_rfl⟩ (by kernel_rfl) (fun s sep m w h1 h2 h3=>Any.strings_Split Lay.spl (by kernel_rfl) s sep m w h1 h2 h3) g I
def Jy (a0:Bt):Option (Bool):=
 some (a0==(⟨#[]⟩:Bt))
theorem Qex {a0:Bt} {r:Bool} (h:Jy a0=some r):PureC prog 200 [.d (.str a0)] (dB r) []:=by
 refine pY tOk f200 rfl ?_;unfold Jy at h;cases h;exact lfP []
def Zz (a0:(List Bt)):Option (Int):=
 bd (lp (σ:=Int) (β:=(Int⊕Unit)) (fun s1=>
(if(decide (s1<((a0.length:Nat):Int)))=true then
 gd ((0:Int)<=s1∧s1<((a0.length:Nat):Int))<|
 bd (Jy (a0.getD s1.toNat default)) fun G=>
(if G=true then
 some (.inr (.inl s1))
else
 some (.inl (IntKind.i64.wrap (s1+1))))
else
 some (.inr (.inr ())))) 0) fun I=>
(match I with
| .inl J=>
 some J
| .inr d8=>
 some (-1))
theorem Qab {a0:(List Bt)} {r:Int} (h:Zz a0=some r):PureC prog 153 [.d (slD encSb a0),.fn 200 []] (dI r) []:=by
 refine pY tOk f153 rfl (Qc tOk ?_);obtain⟨x4,I,h⟩:=Qb h;refine QF tOk I (fun s1=>⟨0,19,[(0,.d (slD encSb a0)),(1,.fn 200 []),(7,dI ((a0.length:Nat):Int)),(8,dI s1)],[],[],[]⟩) ?_ ?_
 ·exact leX []
 ·clear I;intro s1 y2 G J;refine Qc tOk ?_;apply Qo G<;>intro _ G
  ·refine Qc tOk (gdI G fun G=>bC G 0 (fun _=>Qex) fun x6 G=>?_);apply Qo G<;>intro _ G
   ·cases G
    cases J _ rfl
    cases h
    exact lfP []
   ·exact eX G []
  ·cases G
   cases J _ rfl
   cases h
   exact lfP []
def QJ (a0:(List Bt)):Option ((List Bt)):=
 bd (Zz a0) fun J=>
(if(J==(-1))=true then
 some a0
else
 bd (lp (σ:=List Bt×Int×Int) (β:=(Nat×Int×(List Bt))) (fun G=>
(if(decide (G.2.2<((G.1.length:Nat):Int)))=true then
 gd ((0:Int)<=G.2.2∧G.2.2<((G.1.length:Nat):Int))<|
 bd (Jy (G.1.getD G.2.2.toNat default)) fun O=>
(if(!O)=true then
 gd ((0:Int)<=G.2.1∧G.2.1<((G.1.length:Nat):Int))<|
 some (.inl (G.1.set G.2.1.toNat (G.1.getD G.2.2.toNat default),IntKind.i64.wrap (G.2.1+1),IntKind.i64.wrap (G.2.2+1)))
else
 some (.inl (G.1,G.2.1,IntKind.i64.wrap (G.2.2+1))))
else
 some (.inr (G.1.length,G.2.1,G.1)))) (a0,J,IntKind.i64.wrap (J+1))) fun I=>
 gd ((0:Int)<=I.2.1∧I.2.1<=((I.1:Nat):Int)∧((I.1:Nat):Int)<=((I.1:Nat):Int))<|
 gd ((0:Int)<=(0:Int)∧(0:Int)<=I.2.1∧I.2.1<=((I.1:Nat):Int))<|
 some ((QpG I.2.2 I.2.1.toNat (QgL ((I.1:Nat):Int) I.2.1)).take I.2.1.toNat))
theorem JF {a0:(List Bt)} {r:(List Bt)} (h:QJ a0=some r):EffC prog 130 [.osl 9000 0 a0.length,.fn 200 []] [(9000,.arr 9 1 a0.length (rows encSb a0))] (.osl 5001 0 r.length) [(5001,.arr 9 1 r.length (rows encSb r))]:=by
 refine eY tOk f130 rfl (bC h 0 (fun _=>Qab) fun x1 h=>Qc tOk ?_);apply Qo h<;>intro _ h
 ·cases h
  exact lfE [.s [(5001,9000),(9000,5001)]]
 ·refine Qc tOk ?_;obtain⟨x5,J,h⟩:=Qb h;refine QF tOk J (fun G=>⟨0,42,[(0,.osl 9000 0 G.1.length),(1,.fn 200 []),(5,dI G.2.1),(6,dI G.2.2)],[],[(9000,.arr 9 1 G.1.length (rows encSb G.1))],[⟨[],[]⟩]⟩) ?_ ?_
  ·exact leX []
  ·clear J;intro G y3 I U;refine Qc tOk ?_;apply Qo I<;>intro _ I
   ·refine Qc tOk (gdI I fun I=>bC I 0 (fun _=>Qex) fun x7 I=>?_);apply Qo I<;>intro _ I
    ·refine gdI I fun I=>⟨rows encSb (G.1.set G.2.1.toNat (G.1.getD G.2.2.toNat default)),QaJ QsN rfl,?_⟩;exact eX I []
    ·exact eX I []
   ·cases I
    cases U _ rfl
    dsimp only at h;obtain⟨O,h⟩:=Qf h;refine aI O (⟨rows encSb (QpG (G.1.length,G.2.1,G.1).2.2 (G.1.length,G.2.1,G.1).2.1.toNat (QgL (((G.1.length,G.2.1,G.1).1:Nat):Int) (G.1.length,G.2.1,G.1).2.1)),Qng QsN zlA,?_⟩);obtain⟨Y,h⟩:=Qf h;refine aI Y ?_;cases h;exact lfE [.c 4,.s [(5001,9000),(9000,5001)]]
def Qaj (a0:Bt):Option (Bool):=
 some (decide (((a0.size:Nat):Int)>24))
theorem Qh5 {a0:Bt} {r:Bool} (h:Qaj a0=some r):PureC prog 201 [.d (.str a0)] (dB r) []:=by
 refine pY tOk f201 rfl ?_;unfold Qaj at h;cases h;exact lfP []
def ZA (a0:(List Bt)):Option (Int):=
 bd (lp (σ:=Int) (β:=(Int⊕Unit)) (fun s1=>
(if(decide (s1<((a0.length:Nat):Int)))=true then
 gd ((0:Int)<=s1∧s1<((a0.length:Nat):Int))<|
 bd (Qaj (a0.getD s1.toNat default)) fun G=>
(if G=true then
 some (.inr (.inl s1))
else
 some (.inl (IntKind.i64.wrap (s1+1))))
else
 some (.inr (.inr ())))) 0) fun I=>
(match I with
| .inl J=>
 some J
| .inr d8=>
 some (-1))
theorem Qac {a0:(List Bt)} {r:Int} (h:ZA a0=some r):PureC prog 153 [.d (slD encSb a0),.fn 201 []] (dI r) []:=by
 refine pY tOk f153 rfl (Qc tOk ?_);obtain⟨x4,I,h⟩:=Qb h;refine QF tOk I (fun s1=>⟨0,19,[(0,.d (slD encSb a0)),(1,.fn 201 []),(7,dI ((a0.length:Nat):Int)),(8,dI s1)],[],[],[]⟩) ?_ ?_
 ·exact leX []
 ·clear I;intro s1 y2 G J;refine Qc tOk ?_;apply Qo G<;>intro _ G
  ·refine Qc tOk (gdI G fun G=>bC G 0 (fun _=>Qh5) fun x6 G=>?_);apply Qo G<;>intro _ G
   ·cases G
    cases J _ rfl
    cases h
    exact lfP []
   ·exact eX G []
  ·cases G
   cases J _ rfl
   cases h
   exact lfP []
def QP (a0:(List Bt)):Option (Bool):=
 bd (ZA a0) fun G=>
 some (decide (G>=0))
theorem JT {a0:(List Bt)} {r:Bool} (h:QP a0=some r):PureC prog 104 [.d (slD encSb a0),.fn 201 []] (dB r) []:=by
 refine pY tOk f104 rfl (bC h 0 (fun _=>Qac) fun x1 h=>?_);cases h;exact lfP []
def Qb6 (a0:Bt):Option ((List Bt)×Bool):=
 bd (Jm a0 (⟨#[35]⟩:Bt)) fun J=>
 bd (lp (σ:=Int) (β:=(Unit⊕Unit)) (fun I=>
(if(decide (I<((J.1.size:Nat):Int)))=true then
 gd ((0:Int)<=I∧I<((J.1.size:Nat):Int))<|
 bd (Qs (IntKind.i64.wrap (Qaa J.1 I.toNat)) 32 126) fun Y=>
(if(!Y)=true then
 some (.inr (.inl ()))
else
 some (.inl (IntKind.i64.wrap (I+1))))
else
 some (.inr (.inr ())))) 0) fun x5=>
(match x5 with
| .inl d8=>
 some ([],false)
| .inr d9=>
 bd (ZJ J.1 (⟨#[32]⟩:Bt)) fun U=>
 bd (QJ U) fun G=>
 bd (gcall ((decide (((G.length:Nat):Int)>8))=false) (QP G)) fun O=>
(if((decide (((G.length:Nat):Int)>8))||O)=true then
 some ([],false)
else
 some (G,true)))
theorem QjS {a0:Bt} {r:(List Bt)×Bool} (h:Qb6 a0=some r):PureC prog 168 [.d (.str a0)] (.tup [.osl 5001 0 r.1.length,dB r.2]) [⟨5001,9,1,r.1.length,rows encSb r.1⟩]:=by
 refine pY tOk f168 rfl (bC h 0 (fun _=>QdY) fun U h=>Qc tOk ?_);obtain⟨x5,J,h⟩:=Qb h;refine QF tOk J (fun O=>⟨0,35,[(0,.d (.str U.1)),(4,dI O)],[],[],[]⟩) ?_ ?_
 ·exact leX []
 ·clear J;intro O y3 G I;refine Qc tOk ?_;apply Qo G<;>intro _ G
  ·refine Qc tOk (gdI G fun G=>bC G 0 (fun _=>QX) fun x7 G=>?_);apply Qo G<;>intro _ G
   ·cases G
    cases I _ rfl
    cases h
    exact lfP [.p 5001 9 1 (rows encSb ([]:List Bt))]
   ·exact eX G []
  ·cases G
   cases I _ rfl
   refine bC h 1000 (fun _=>QcB) fun x10 h=>bE h [(9000,6001)] 2000 (fun _=>JF) fun x11 h=>Qc tOk (bG h (fun _=>JT) fun x12 h=>?_);apply Qo h<;>intro _ h
   ·cases h
    exact lfP [.k [7001],.p 5001 9 1 (rows encSb ([]:List Bt))]
   ·cases h
    exact lfP [.s [(5001,7001),(7001,5001)]]
def Z1 (a0:Int) (G:Int):Option (Fnv):=
 some (Fnv.r 248 a0 G)
theorem JP {a0:Int} {G:Int} {r:Fnv} (h:Z1 a0 G=some r):EffC prog 219 [dI a0,dI G] [] (.d (.fn r.f r.caps)) []:=by
 refine eY tOk f219 rfl ?_;unfold Z1 at h;cases h;exact lfE [.f [2,3]]
def QdZ (a0:(List Bt)):Option (Fnv):=
 some (Fnv.w 249 a0)
theorem Qh6 {a0:(List Bt)} {r:Fnv} (h:QdZ a0=some r):EffC prog 222 [.d (slD encSb a0)] [] (.d (.fn r.f r.caps)) []:=by
 refine eY tOk f222 rfl ?_;unfold QdZ at h;cases h;exact lfE [.f [1]]
def Qaf (a0:form) (G:Bt):Option (Bool):=
 some (!(a0.word==G))
theorem QfP {a0:form} {G:Bt} {r:Bool} (h:Qaf a0 G=some r):PureC prog 225 [.agg [.d (.str a0.word),dI a0.key,.d (slD QbA a0.checks)],.rp [.str G]] (dB r) []:=by
 refine pY tOk f225 rfl ?_;unfold Qaf at h;cases h;exact lfP []
def Z4 (a0:(List form)) (G:Bt):Option (Int):=
 bd (lp (σ:=Int) (β:=(Int⊕Unit)) (fun s1=>
(if(decide (s1<((a0.length:Nat):Int)))=true then
 gd ((0:Int)<=s1∧s1<((a0.length:Nat):Int))<|
 bd (Qaf (a0.getD s1.toNat default) G) fun I=>
(if I=true then
 some (.inr (.inl s1))
else
 some (.inl (IntKind.i64.wrap (s1+1))))
else
 some (.inr (.inr ())))) 0) fun O=>
(match O with
| .inl J=>
 some J
| .inr d8=>
 some (-1))
theorem QaK {a0:(List form)} {I:Bt} {r:Int} (h:Z4 a0 I=some r):PureC prog 250 [.d (slD form.enc a0),.fn 225 [.rp [.str I]]] (dI r) []:=by
 refine pY tOk f250 rfl (Qc tOk ?_);obtain⟨x4,J,h⟩:=Qb h;refine QF tOk J (fun s1=>⟨0,19,[(0,.d (slD form.enc a0)),(1,.fn 225 [.rp [.str I]]),(7,dI ((a0.length:Nat):Int)),(8,dI s1)],[],[],[]⟩) ?_ ?_
 ·exact leX []
 ·clear J;intro s1 y2 G O;refine Qc tOk ?_;apply Qo G<;>intro _ G
  ·refine Qc tOk (gdI G fun G=>bC G 0 (fun _=>QfP) fun x6 G=>?_);apply Qo G<;>intro _ G
   ·cases G
    cases O _ rfl
    cases h
    exact lfP []
   ·exact eX G []
  ·cases G
   cases O _ rfl
   cases h
   exact lfP []
def Qdm (a0:Bt):Option ((List form)):=
 bd (Z1 1 65535) fun J=>
 bd (Z1 1 7) fun x2=>
 bd (Z1 0 7) fun x3=>
 bd (Z1 0 7) fun x4=>
 bd (QdZ ([(⟨#[105,110]⟩:Bt)]:List Bt)) fun x5=>
 bd (Z1 0 99) fun x6=>
 bd (QdZ ([(⟨#[112,101,114,109,105,116]⟩:Bt),(⟨#[100,101,110,121]⟩:Bt)]:List Bt)) fun Y=>
 bd (Z1 0 7) fun x8=>
 bd (Z1 1 9) fun x9=>
 bd (Z1 1 999999) fun O=>
 bd (Z4 ([(⟨(⟨#[104,111,115,116]⟩:Bt),1,([(Fnv.k 82)]:List Fnv)⟩:form),(⟨(⟨#[117,115,101,114]⟩:Bt),2,([(Fnv.k 82),(Fnv.k 220)]:List Fnv)⟩:form),(⟨(⟨#[112,111,114,116]⟩:Bt),2,([x3,(Fnv.k 221)]:List Fnv)⟩:form),(⟨(⟨#[112,111,114,116]⟩:Bt),2,([x4,(Fnv.k 221),x5,(Fnv.k 82)]:List Fnv)⟩:form),(⟨(⟨#[114,117,108,101]⟩:Bt),3,([(Fnv.k 82),x6,Y,(Fnv.k 221),(Fnv.k 221),x8]:List Fnv)⟩:form),(⟨(⟨#[114,111,117,116,101]⟩:Bt),3,([(Fnv.k 221),(Fnv.k 223)]:List Fnv)⟩:form),(⟨(⟨#[112,101,101,114]⟩:Bt),2,([(Fnv.k 223),x9,O]:List Fnv)⟩:form),(⟨(⟨#[110,97,116]⟩:Bt),1,([(Fnv.k 221),(Fnv.k 223),J,J]:List Fnv)⟩:form),(⟨(⟨#[100,111,111,114]⟩:Bt),3,([x2,J,(Fnv.k 223),J]:List Fnv)⟩:form)]:List form) a0) fun U=>
(if(U==(-1))=true then
 some ([(⟨(⟨#[104,111,115,116]⟩:Bt),1,([(Fnv.k 82)]:List Fnv)⟩:form),(⟨(⟨#[117,115,101,114]⟩:Bt),2,([(Fnv.k 82),(Fnv.k 220)]:List Fnv)⟩:form),(⟨(⟨#[112,111,114,116]⟩:Bt),2,([x3,(Fnv.k 221)]:List Fnv)⟩:form),(⟨(⟨#[112,111,114,116]⟩:Bt),2,([x4,(Fnv.k 221),x5,(Fnv.k 82)]:List Fnv)⟩:form),(⟨(⟨#[114,117,108,101]⟩:Bt),3,([(Fnv.k 82),x6,Y,(Fnv.k 221),(Fnv.k 221),x8]:List Fnv)⟩:form),(⟨(⟨#[114,111,117,116,101]⟩:Bt),3,([(Fnv.k 221),(Fnv.k 223)]:List Fnv)⟩:form),(⟨(⟨#[112,101,101,114]⟩:Bt),2,([(Fnv.k 223),x9,O]:List Fnv)⟩:form),(⟨(⟨#[110,97,116]⟩:Bt),1,([(Fnv.k 221),(Fnv.k 223),J,J]:List Fnv)⟩:form),(⟨(⟨#[100,111,111,114]⟩:Bt),3,([x2,J,(Fnv.k 223),J]:List Fnv)⟩:form)]:List form)
else
 bd (lp (σ:=List form×Int×Int) (β:=(Nat×Int×(List form))) (fun G=>
(if(decide (G.2.2<((G.1.length:Nat):Int)))=true then
 gd ((0:Int)<=G.2.2∧G.2.2<((G.1.length:Nat):Int))<|
 bd (Qaf (G.1.getD G.2.2.toNat default) a0) fun a1=>
(if(!a1)=true then
 gd ((0:Int)<=G.2.1∧G.2.1<((G.1.length:Nat):Int))<|
 some (.inl (G.1.set G.2.1.toNat (G.1.getD G.2.2.toNat default),IntKind.i64.wrap (G.2.1+1),IntKind.i64.wrap (G.2.2+1)))
else
 some (.inl (G.1,G.2.1,IntKind.i64.wrap (G.2.2+1))))
else
 some (.inr (G.1.length,G.2.1,G.1)))) (([(⟨(⟨#[104,111,115,116]⟩:Bt),1,([(Fnv.k 82)]:List Fnv)⟩:form),(⟨(⟨#[117,115,101,114]⟩:Bt),2,([(Fnv.k 82),(Fnv.k 220)]:List Fnv)⟩:form),(⟨(⟨#[112,111,114,116]⟩:Bt),2,([x3,(Fnv.k 221)]:List Fnv)⟩:form),(⟨(⟨#[112,111,114,116]⟩:Bt),2,([x4,(Fnv.k 221),x5,(Fnv.k 82)]:List Fnv)⟩:form),(⟨(⟨#[114,117,108,101]⟩:Bt),3,([(Fnv.k 82),x6,Y,(Fnv.k 221),(Fnv.k 221),x8]:List Fnv)⟩:form),(⟨(⟨#[114,111,117,116,101]⟩:Bt),3,([(Fnv.k 221),(Fnv.k 223)]:List Fnv)⟩:form),(⟨(⟨#[112,101,101,114]⟩:Bt),2,([(Fnv.k 223),x9,O]:List Fnv)⟩:form),(⟨(⟨#[110,97,116]⟩:Bt),1,([(Fnv.k 221),(Fnv.k 223),J,J]:List Fnv)⟩:form),(⟨(⟨#[100,111,111,114]⟩:Bt),3,([x2,J,(Fnv.k 223),J]:List Fnv)⟩:form)]:List form),U,IntKind.i64.wrap (U+1))) fun I=>
 gd ((0:Int)<=I.2.1∧I.2.1<=((I.1:Nat):Int)∧((I.1:Nat):Int)<=((I.1:Nat):Int))<|
 gd ((0:Int)<=(0:Int)∧(0:Int)<=I.2.1∧I.2.1<=((I.1:Nat):Int))<|
 some ((QpG I.2.2 I.2.1.toNat (QgL ((I.1:Nat):Int) I.2.1)).take I.2.1.toNat))
theorem Ql4 {a0:Bt} {r:(List form)} (h:Qdm a0=some r):EffC prog 180 [.d (.str a0)] [] (.osl 5001 0 r.length) [(5001,.arr 152 3 r.length (rows form.enc r))]:=by
 refine eY tOk f180 rfl (bE h [] 0 (fun _=>JP) fun I h=>bE h [] 0 (fun _=>JP) fun U h=>QbB (enc:=QbA) ([(Fnv.k 82)]:List Fnv) (QbB (enc:=QbA) ([(Fnv.k 82),(Fnv.k 220)]:List Fnv) (bE h [] 0 (fun _=>JP) fun x3 h=>QbB (enc:=QbA) ([x3,(Fnv.k 221)]:List Fnv) (bE h [] 0 (fun _=>JP) fun x4 h=>QbB (enc:=encSb) ([(⟨#[105,110]⟩:Bt)]:List Bt) ?_))));obtain⟨x5,a3,h⟩:=Qb h;refine Zp [16] (cE [] 0 (Qh6 a3) (QbB (enc:=QbA) ([x4,(Fnv.k 221),x5,(Fnv.k 82)]:List Fnv) (bE h [] 0 (fun _=>JP) fun x6 h=>QbB (enc:=encSb) ([(⟨#[112,101,114,109,105,116]⟩:Bt),(⟨#[100,101,110,121]⟩:Bt)]:List Bt) ?_)));obtain⟨x7,a4,h⟩:=Qb h;refine Zp [21] (cE [] 0 (Qh6 a4) (bE h [] 0 (fun _=>JP) fun x8 h=>QbB (enc:=QbA) ([(Fnv.k 82),x6,x7,(Fnv.k 221),(Fnv.k 221),x8]:List Fnv) (QbB (enc:=QbA) ([(Fnv.k 221),(Fnv.k 223)]:List Fnv) (bE h [] 0 (fun _=>JP) fun x9 h=>bE h [] 0 (fun _=>JP) fun O h=>QbB (enc:=QbA) ([(Fnv.k 223),x9,O]:List Fnv) (QbB (enc:=QbA) ([(Fnv.k 221),(Fnv.k 223),I,I]:List Fnv) (QbB (enc:=QbA) ([U,I,(Fnv.k 223),I]:List Fnv) (QbB (enc:=form.enc) ([(⟨(⟨#[104,111,115,116]⟩:Bt),1,([(Fnv.k 82)]:List Fnv)⟩:form),(⟨(⟨#[117,115,101,114]⟩:Bt),2,([(Fnv.k 82),(Fnv.k 220)]:List Fnv)⟩:form),(⟨(⟨#[112,111,114,116]⟩:Bt),2,([x3,(Fnv.k 221)]:List Fnv)⟩:form),(⟨(⟨#[112,111,114,116]⟩:Bt),2,([x4,(Fnv.k 221),x5,(Fnv.k 82)]:List Fnv)⟩:form),(⟨(⟨#[114,117,108,101]⟩:Bt),3,([(Fnv.k 82),x6,x7,(Fnv.k 221),(Fnv.k 221),x8]:List Fnv)⟩:form),(⟨(⟨#[114,111,117,116,101]⟩:Bt),3,([(Fnv.k 221),(Fnv.k 223)]:List Fnv)⟩:form),(⟨(⟨#[112,101,101,114]⟩:Bt),2,([(Fnv.k 223),x9,O]:List Fnv)⟩:form),(⟨(⟨#[110,97,116]⟩:Bt),1,([(Fnv.k 221),(Fnv.k 223),I,I]:List Fnv)⟩:form),(⟨(⟨#[100,111,111,114]⟩:Bt),3,([U,I,(Fnv.k 223),I]:List Fnv)⟩:form)]:List form) (QkH tOk 20000 (fn:=f224) (c:=JW f224) rfl rfl (by kernel_rfl) rfl (bC h 0 (fun _=>QaK) fun x11 h=>Qc tOk ?_)))))))));apply Qo h<;>intro _ h
 ·cases h
  exact lfE [.s [(41,5001),(5001,41)]]
 ·refine Qc tOk ?_;obtain⟨x15,Y,h⟩:=Qb h;refine QF tOk Y (fun G=>⟨20000,42,[(0,.osl 41 0 G.1.length),(1,.fn 225 [.ref 1 0 0]),(5,dI G.2.1),(6,dI G.2.2)],[],[(41,.arr 152 3 G.1.length (rows form.enc G.1)),(1,.box 9 [.d (.str a0)])],[⟨[(0,.d (.str a0)),(1,.ref 1 0 0),(2,.d (.nil)),(3,.d (.fn I.f I.caps)),(4,.d (.fn U.f U.caps)),(5,.osl 41 0 G.1.length),(6,.d (.fn I.f I.caps)),(7,.d (.fn U.f U.caps)),(8,.d (slD QbA ([(Fnv.k 82)]:List Fnv))),(9,.agg [.d (.str (⟨#[104,111,115,116]⟩:Bt)),dI 1,.d (slD QbA ([(Fnv.k 82)]:List Fnv))]),(10,.d (slD QbA ([(Fnv.k 82),(Fnv.k 220)]:List Fnv))),(11,.agg [.d (.str (⟨#[117,115,101,114]⟩:Bt)),dI 2,.d (slD QbA ([(Fnv.k 82),(Fnv.k 220)]:List Fnv))]),(12,.d (.fn x3.f x3.caps)),(13,.d (slD QbA ([x3,(Fnv.k 221)]:List Fnv))),(14,.agg [.d (.str (⟨#[112,111,114,116]⟩:Bt)),dI 2,.d (slD QbA ([x3,(Fnv.k 221)]:List Fnv))]),(15,.d (.fn x4.f x4.caps)),(16,.d (slD encSb ([(⟨#[105,110]⟩:Bt)]:List Bt))),(17,.d (.fn x5.f x5.caps)),(18,.d (slD QbA ([x4,(Fnv.k 221),x5,(Fnv.k 82)]:List Fnv))),(19,.agg [.d (.str (⟨#[112,111,114,116]⟩:Bt)),dI 2,.d (slD QbA ([x4,(Fnv.k 221),x5,(Fnv.k 82)]:List Fnv))]),(20,.d (.fn x6.f x6.caps)),(21,.d (slD encSb ([(⟨#[112,101,114,109,105,116]⟩:Bt),(⟨#[100,101,110,121]⟩:Bt)]:List Bt))),(22,.d (.fn x7.f x7.caps)),(23,.d (.fn x8.f x8.caps)),(24,.d (slD QbA ([(Fnv.k 82),x6,x7,(Fnv.k 221),(Fnv.k 221),x8]:List Fnv))),(25,.agg [.d (.str (⟨#[114,117,108,101]⟩:Bt)),dI 3,.d (slD QbA ([(Fnv.k 82),x6,x7,(Fnv.k 221),(Fnv.k 221),x8]:List Fnv))]),(26,.d (slD QbA ([(Fnv.k 221),(Fnv.k 223)]:List Fnv))),(27,.agg [.d (.str (⟨#[114,111,117,116,101]⟩:Bt)),dI 3,.d (slD QbA ([(Fnv.k 221),(Fnv.k 223)]:List Fnv))]),(28,.d (.fn x9.f x9.caps)),(29,.d (.fn O.f O.caps)),(30,.d (slD QbA ([(Fnv.k 223),x9,O]:List Fnv))),(31,.agg [.d (.str (⟨#[112,101,101,114]⟩:Bt)),dI 2,.d (slD QbA ([(Fnv.k 223),x9,O]:List Fnv))]),(32,.d (.fn I.f I.caps)),(33,.d (.fn I.f I.caps)),(34,.d (slD QbA ([(Fnv.k 221),(Fnv.k 223),I,I]:List Fnv))),(35,.agg [.d (.str (⟨#[110,97,116]⟩:Bt)),dI 1,.d (slD QbA ([(Fnv.k 221),(Fnv.k 223),I,I]:List Fnv))]),(36,.d (.fn U.f U.caps)),(37,.d (.fn I.f I.caps)),(38,.d (.fn I.f I.caps)),(39,.d (slD QbA ([U,I,(Fnv.k 223),I]:List Fnv))),(40,.agg [.d (.str (⟨#[100,111,111,114]⟩:Bt)),dI 3,.d (slD QbA ([U,I,(Fnv.k 223),I]:List Fnv))]),(41,.osl 41 0 G.1.length),(42,.osl 41 0 G.1.length),(43,.fn 225 [.ref 1 0 0])],[]⟩,⟨[],[]⟩]⟩) ?_ ?_
  ·exact leX []
  ·clear Y;intro G y13 J a1;refine Qc tOk ?_;apply Qo J<;>intro _ J
   ·refine Qc tOk (gdI J fun J=>bC J 0 (fun _=>QfP) fun x17 J=>?_);apply Qo J<;>intro _ J
    ·refine gdI J fun J=>⟨rows form.enc (G.1.set G.2.1.toNat (G.1.getD G.2.2.toNat default)),QaJ QsN rfl,?_⟩;exact eX J []
    ·exact eX J []
   ·cases J
    cases a1 _ rfl
    obtain⟨a5,h⟩:=Qf h;refine aI a5 (⟨rows form.enc (QpG (G.1.length,G.2.1,G.1).2.2 (G.1.length,G.2.1,G.1).2.1.toNat (QgL (((G.1.length,G.2.1,G.1).1:Nat):Int) (G.1.length,G.2.1,G.1).2.1)),Qng QsN zlA,?_⟩);obtain⟨a2,h⟩:=Qf h;refine aI a2 ?_;cases h;exact lfE [.c 2,.s [(41,5001),(5001,41)]]
def QbE (a0:Bt):Option (Bool):=
 bd (lp (σ:=Int) (β:=(Unit⊕Unit)) (fun s1=>
(if(decide (s1<((a0.size:Nat):Int)))=true then
 gd ((0:Int)<=s1∧s1<((a0.size:Nat):Int))<|
(if((((Qaa a0 s1.toNat) !=45)&&((decide ((Qaa a0 s1.toNat)<97))||(decide ((Qaa a0 s1.toNat)>122))))&&((decide ((Qaa a0 s1.toNat)<48))||(decide ((Qaa a0 s1.toNat)>57))))=true then
 some (.inr (.inl ()))
else
 some (.inl (IntKind.i64.wrap (s1+1))))
else
 some (.inr (.inr ())))) 0) fun I=>
(match I with
| .inl d6=>
 some false
| .inr d7=>
 bd (Qs ((a0.size:Nat):Int) 1 8) fun G=>
 some G)
theorem Qh7 {a0:Bt} {r:Bool} (h:QbE a0=some r):PureC prog 82 [.d (.str a0)] (dB r) []:=by
 refine pY tOk f82 rfl (Qc tOk ?_);obtain⟨x4,I,h⟩:=Qb h;refine QF tOk I (fun s1=>⟨0,35,[(0,.d (.str a0)),(3,dI s1)],[],[],[]⟩) ?_ ?_
 ·exact leX []
 ·clear I;intro s1 y2 G J;refine Qc tOk ?_;apply Qo G<;>intro _ G
  ·refine Qc tOk (gdI G fun G=>?_);apply Qo G<;>intro _ G
   ·cases G
    cases J _ rfl
    cases h
    exact lfP []
   ·exact eX G []
  ·cases G
   cases J _ rfl
   refine bC h 0 (fun _=>QX) fun x8 h=>?_;cases h;exact lfP []
def JK (a0:(List Bt)) (I:Bt):Option (Int):=
 bd (lp (σ:=Int) (β:=(Int⊕Unit)) (fun s1=>
(if(decide (s1<((a0.length:Nat):Int)))=true then
 gd ((0:Int)<=s1∧s1<((a0.length:Nat):Int))<|
(if(I==(a0.getD s1.toNat default))=true then
 some (.inr (.inl s1))
else
 some (.inl (IntKind.i64.wrap (s1+1))))
else
 some (.inr (.inr ())))) 0) fun J=>
(match J with
| .inl G=>
 some G
| .inr d7=>
 some (-1))
theorem Qd0 {a0:(List Bt)} {O:Bt} {r:Int} (h:JK a0 O=some r):PureC prog 128 [.d (slD encSb a0),.d (.str O)] (dI r) []:=by
 refine pY tOk f128 rfl (Qc tOk ?_);obtain⟨x4,I,h⟩:=Qb h;refine QF tOk I (fun s1=>⟨0,19,[(0,.d (slD encSb a0)),(1,.d (.str O)),(7,dI ((a0.length:Nat):Int)),(8,dI s1)],[],[],[]⟩) ?_ ?_
 ·exact leX []
 ·clear I;intro s1 y2 G J;refine Qc tOk ?_;apply Qo G<;>intro _ G
  ·refine Qc tOk (gdI G fun G=>?_);apply Qo G<;>intro _ G
   ·cases G
    cases J _ rfl
    cases h
    exact lfP []
   ·exact eX G []
  ·cases G
   cases J _ rfl
   cases h
   exact lfP []
def Qv (a0:(List Bt)) (I:Bt):Option (Bool):=
 bd (JK a0 I) fun G=>
 some (decide (G>=0))
theorem Q1 {a0:(List Bt)} {G:Bt} {r:Bool} (h:Qv a0 G=some r):PureC prog 172 [.d (slD encSb a0),.d (.str G)] (dB r) []:=by
 refine pY tOk f172 rfl (bC h 0 (fun _=>Qd0) fun x1 h=>?_);cases h;exact lfP []
def Jr (a0:Bt):Option ((List Bt)×Bool):=
(if((a0==(⟨#[97,108,108]⟩:Bt))||(a0==(⟨#[110,111,110,101]⟩:Bt)))=true then
 some (([a0]:List Bt),true)
else
 bd (ZJ a0 (⟨#[44]⟩:Bt)) fun I=>
 bd (lp (σ:=Int) (β:=(Unit⊕Unit)) (fun G=>
(if(decide (G<((I.length:Nat):Int)))=true then
 gd ((0:Int)<=G∧G<((I.length:Nat):Int))<|
 bd (Qv ([(⟨#[100,111,111,114]⟩:Bt),(⟨#[104,111,115,116]⟩:Bt),(⟨#[110,97,116]⟩:Bt),(⟨#[112,101,101,114]⟩:Bt),(⟨#[112,111,114,116]⟩:Bt),(⟨#[114,111,117,116,101]⟩:Bt),(⟨#[114,117,108,101]⟩:Bt),(⟨#[117,115,101,114]⟩:Bt)]:List Bt) (I.getD G.toNat default)) fun J=>
 gd ((decide (G>0))=true->((!J)=false->((0:Int)<=IntKind.i64.wrap (G-1)∧IntKind.i64.wrap (G-1)<((I.length:Nat):Int))))<|
(if((!J)||((decide (G>0))&&(!(bsl (I.getD ((IntKind.i64.wrap (G-1)).toNat) default) (I.getD G.toNat default)))))=true then
 some (.inr (.inl ()))
else
 some (.inl (IntKind.i64.wrap (G+1))))
else
 some (.inr (.inr ())))) 0) fun O=>
(match O with
| .inl d9=>
 some ([],false)
| .inr d10=>
 some (I,true)))
theorem Qgb {a0:Bt} {r:(List Bt)×Bool} (h:Jr a0=some r):PureC prog 163 [.d (.str a0)] (.tup [.osl 5001 0 r.1.length,dB r.2]) [⟨5001,9,1,r.1.length,rows encSb r.1⟩]:=by
 refine pY tOk f163 rfl (Qc tOk ?_);apply Qo h<;>intro _ h
 ·refine QbB (enc:=encSb) ([a0]:List Bt) ?_;cases h;exact lfP [.s [(14,5001),(5001,14)]]
 ·refine bC h 1000 (fun _=>QcB) fun J h=>Qc tOk ?_;obtain⟨x5,O,h⟩:=Qb h;refine QF tOk O (fun U=>⟨0,43,[(4,.osl 6001 0 J.length),(17,.osl 6001 0 J.length),(18,dI ((J.length:Nat):Int)),(19,dI U)],[],[(6001,.arr 9 1 J.length (rows encSb J))],[]⟩) ?_ ?_
  ·exact leX []
  ·clear O;intro U y3 G I;refine Qc tOk ?_;apply Qo G<;>intro _ G
   ·refine Qc tOk (gdI G fun G=>QbB (enc:=encSb) ([(⟨#[100,111,111,114]⟩:Bt),(⟨#[104,111,115,116]⟩:Bt),(⟨#[110,97,116]⟩:Bt),(⟨#[112,101,101,114]⟩:Bt),(⟨#[112,111,114,116]⟩:Bt),(⟨#[114,111,117,116,101]⟩:Bt),(⟨#[114,117,108,101]⟩:Bt),(⟨#[117,115,101,114]⟩:Bt)]:List Bt) (bC G 0 (fun _=>Q1) fun x7 G=>gdI G fun G=>?_));apply Qo G<;>intro _ G
    ·cases G
     cases I _ rfl
     cases h
     exact lfP [.p 5001 9 1 (rows encSb ([]:List Bt))]
    ·exact eX G []
   ·cases G
    cases I _ rfl
    cases h
    exact lfP [.s [(5001,6001),(6001,5001)]]
def QcC (a0:Bt):Option (Bool):=
 bd (Jr a0) fun G=>
 some G.2
theorem QkI {a0:Bt} {r:Bool} (h:QcC a0=some r):PureC prog 220 [.d (.str a0)] (dB r) []:=by
 refine pY tOk f220 rfl (bC h 1000 (fun _=>Qgb) fun x1 h=>?_);cases h;exact lfP []
def JQ (a0:Bt):Option (Int):=
 gd (a0.size<=281474976710656)<|
 some (QyD a0)
namespace Dc
open Go.RowKit
theorem dec_walk (s:Bt) (hs:s.size≤281474976710656) (w:World) (ht:TabB prog (fun b=>b<w.heap.size) w):
  Calls prog 159 #[.string s] w fun e w'=>e=.returned (.int .i64 (QyD s))∧Below w.heap.size w w':=by
 unfold QyD
 cases h:Lib.atoiAll s.data.toList with
 |range=>
  obtain⟨_,ev,hv,hev⟩:=ht.2 2 _ (Lay.atoi_ren.g 16) rfl (by kernel_rfl)
  go_enter func159,ntmps159
  go_wp2_with (go_at_call 186;refine(Any.strconv_Atoi_range Lay.atoi s hs h ev w hv hev).mono ?_;rintro e w' ⟨N,rfl,hN,hb,hB⟩)
  go_ret
  exact⟨rfl,hB⟩
 |ok v=>
  have hat:=Any.strconv_Atoi_ok Lay.atoi s (by omega) v h w
  obtain⟨h0,h1⟩:=Qoi h
  have hbel:∀ {w':World},(w'=w∨ ∃t,w'=Lib.bytesWorld w (Lay.atoi_ren.t 5) t)→Below w.heap.size w w':=fun {w'} h=>by
   rcases h with rfl|⟨t,rfl⟩
   ·exact Below.refl _ _
   ·exact Lib.bytesWorld_below w _ t
  have hqi:=QwW (v:=v) (s:=s)
  by_cases hv:v<0
  ·go_enter func159,ntmps159
   go_wp2_with (go_at_call 186;refine hat.mono ?_;rintro e w' ⟨rfl,hw⟩)
   go_ret
   exact⟨by simp[hv],hbel hw⟩
  ·by_cases hq:Qnh v=s
   ·have h2:=hqi.1 hq
    have h3:(!(Lib.itoa v==s.toList))=false:=by simp[h2]
    have h4:decide (v<0)=false:=by simp[hv]
    simp only[hv,hq,ne_eq,not_true,or_self,if_false]
    clear hqi hq
    go_enter func159,ntmps159
    go_wp2_with (first|(go_at_call 186;refine hat.mono ?_;rintro e w' ⟨rfl,hw⟩)|(go_at_call 187;refine(Any.strconv_Itoa Lay.itoa v h0 h1 _ (Qwi (Qoj (by kernel_rfl) ht (hbel hw)))).mono ?_;rintro e w'' ⟨rfl,k,os,rfl⟩))
    all_goals go_ret
    all_goals exact⟨rfl,QkJ (hbel hw)⟩
   ·have h2:¬Lib.itoa v=s.toList:=fun e=>hq (hqi.2 e)
    have h3:(!(Lib.itoa v==s.toList))=true:=by simp[h2]
    have h4:decide (v<0)=false:=by simp[hv]
    simp only[hv,hq,ne_eq,not_false_iff,or_true,if_true]
    clear hqi hq
    go_enter func159,ntmps159
    go_wp2_with (first|(go_at_call 186;refine hat.mono ?_;rintro e w' ⟨rfl,hw⟩)|(go_at_call 187;refine(Any.strconv_Itoa Lay.itoa v h0 h1 _ (Qwi (Qoj (by kernel_rfl) ht (hbel hw)))).mono ?_;rintro e w'' ⟨rfl,k,os,rfl⟩))
    all_goals go_ret
    all_goals exact⟨rfl,QkJ (hbel hw)⟩
 |_=>
  obtain⟨_,ev,hv,hev⟩:=ht.2 1 _ (Lay.atoi_ren.g 15) rfl (by kernel_rfl)
  go_enter func159,ntmps159
  go_wp2_with (go_at_call 186;refine(Any.strconv_Atoi_syntax Lay.atoi s hs h ev w hv hev).mono ?_;rintro e w' ⟨N,rfl,hN,hb,hB⟩)
  go_ret
  exact⟨rfl,hB⟩
end Dc
theorem Qdn {a0:Bt} {r:Int} (h:JQ a0=some r):PureC prog 159 [.d (.str a0)] (dI r) []:=by
 unfold JQ at h
 obtain⟨g,h⟩:=Qf h
 obtain rfl:=sj_ h
 exact Qhn (v:=.int .i64 (QyD a0)) ⟨f159,rfl,by kernel_rfl,by kernel_rfl⟩ rfl (fun _=>rfl) (fun _ _ _=>.d .int) fun w vals ρ0 hv ht=>by
  rw[QsP hv]
  exact(Dc.dec_walk a0 g w ht).mono fun e w' ⟨G,hb⟩=>⟨G,Below.pure hb⟩
def JR (a0:Bt):Option (Int):=
 bd (Jm a0 (⟨#[46]⟩:Bt)) fun G=>
 bd (JQ G.1) fun I=>
 bd (JQ G.2.1) fun J=>
 bd (gcall ((!G.2.2)=false) (Qs I 0 255)) fun O=>
 bd (gcall (((!G.2.2)||(!O))=false) (Qs J 0 255)) fun U=>
(if(((!G.2.2)||(!O))||(!U))=true then
 some (-1)
else
 some (IntKind.i64.wrap ((IntKind.i64.wrap (256*I))+J)))
theorem QbS {a0:Bt} {r:Int} (h:JR a0=some r):PureC prog 116 [.d (.str a0)] (dI r) []:=by
 refine pY tOk f116 rfl (bC h 0 (fun _=>QdY) fun x1 h=>bC h 0 (fun _=>Qdn) fun x2 h=>bC h 0 (fun _=>Qdn) fun x3 h=>Qc tOk (bG h (fun _=>QX) fun x4 h=>bG h (fun _=>QX) fun x5 h=>?_));apply Qo h<;>intro _ h
 ·cases h
  exact lfP []
 ·cases h
  exact lfP []
def ZT (a0:QAx):Option (Int):=
 gd ((0:Int)<=(IntKind.i64.wrap (16-a0.Len)))<|
 some (IntKind.i64.wrap (1*2^min (IntKind.i64.wrap (16-a0.Len):Int).toNat IntKind.i64.bits))
theorem Qdz {a0:QAx} {r:Int} (h:ZT a0=some r):PureC prog 188 [.agg [dI a0.Addr,dI a0.Len]] (dI r) []:=by
 refine pY tOk f188 rfl (gdI h fun h=>?_);cases h;exact lfP []
def Qgc (a0:QAx):Option (Bool):=
 bd (Qs a0.Len 0 16) fun G=>
 bd (gcall (G=true) (Qs a0.Addr 0 65535)) fun I=>
 bd (gcall ((G&&I)=true) (ZT a0)) fun J=>
 gd ((G&&I)=true->((J:Int)≠0))<|
 some ((G&&I)&&(((a0.Addr:Int).tmod J)==0))
theorem Qok {a0:QAx} {r:Bool} (h:Qgc a0=some r):PureC prog 162 [.agg [dI a0.Addr,dI a0.Len]] (dB r) []:=by
 refine pY tOk f162 rfl ?_;obtain⟨Y,J,h⟩:=Qb h;obtain⟨x2,O,h⟩:=Qb h;obtain⟨x3,G,h⟩:=Qb h;obtain⟨U,h⟩:=Qf h;refine QW tOk [.u 2 0 (dB Y) [],.u 6 0 (dB x2) [],.u 12 0 (dI x3) []] 17 [] [0,1,3,7,15,31,63,127,255,511,1023,511,2559,8191,16383,32767,65535] [] (aI (QN (QX J) (by kernel_rfl)) (aI (Qw rfl rfl rfl rfl (by intro I;exact QX (Qn O I))) (aI (Qw rfl rfl rfl rfl (by intro I;exact Qdz (Qn G I))) (aI U (aK ?_)))));cases h;exact lfP []
def JX (a0:Bt):Option (QAx×Bool):=
 bd (Jm a0 (⟨#[47]⟩:Bt)) fun G=>
 bd (JR G.1) fun I=>
 bd (JQ G.2.1) fun J=>
 bd (gcall ((!G.2.2)=false) (Qgc (⟨I,J⟩:QAx))) fun O=>
(if((!G.2.2)||(!O))=true then
 some ((⟨0,0⟩:QAx),false)
else
 some ((⟨I,J⟩:QAx),true))
theorem Qed {a0:Bt} {r:QAx×Bool} (h:JX a0=some r):PureC prog 120 [.d (.str a0)] (.tup [.agg [dI r.1.Addr,dI r.1.Len],dB r.2]) []:=by
 refine pY tOk f120 rfl (bC h 0 (fun _=>QdY) fun x1 h=>bC h 0 (fun _=>QbS) fun x2 h=>bC h 0 (fun _=>Qdn) fun x3 h=>Qc tOk (bG h (fun _=>Qok) fun x4 h=>?_));apply Qo h<;>intro _ h
 ·cases h
  exact lfP []
 ·cases h
  exact lfP []
def QcD (a0:Bt):Option (Bool):=
 bd (JX a0) fun G=>
 some G.2
theorem QkK {a0:Bt} {r:Bool} (h:QcD a0=some r):PureC prog 221 [.d (.str a0)] (dB r) []:=by
 refine pY tOk f221 rfl (bC h 0 (fun _=>Qed) fun x1 h=>?_);cases h;exact lfP []
def Qb7 (a0:Bt):Option (Bool):=
 bd (JR a0) fun G=>
 some (decide (G>=0))
theorem QjT {a0:Bt} {r:Bool} (h:Qb7 a0=some r):PureC prog 223 [.d (.str a0)] (dB r) []:=by
 refine pY tOk f223 rfl (bC h 0 (fun _=>QbS) fun x1 h=>?_);cases h;exact lfP []
def QaL (a0:Bt):Option (Int):=
(if(decide (((a0.size:Nat):Int)>6))=true then
 some (-1)
else
 bd (JQ a0) fun G=>
 some G)
theorem Qd1 {a0:Bt} {r:Int} (h:QaL a0=some r):PureC prog 121 [.d (.str a0)] (dI r) []:=by
 refine pY tOk f121 rfl (Qc tOk ?_);apply Qo h<;>intro _ h
 ·cases h
  exact lfP []
 ·refine bC h 0 (fun _=>Qdn) fun x1 h=>?_;cases h;exact lfP []
def Qb8 (a0:Bt) (J:Int) (O:Int):Option (Bool):=
 bd (QaL a0) fun G=>
 bd (Qs G J O) fun I=>
 some I
theorem QjU {a0:Bt} {O:Int} {J:Int} {r:Bool} (h:Qb8 a0 O J=some r):PureC prog 248 [.d (.str a0),.rp [.int .i64 O],.rp [.int .i64 J]] (dB r) []:=by
 refine pY tOk f248 rfl ?_;obtain⟨U,G,h⟩:=Qb h;obtain⟨Y,I,h⟩:=Qb h;refine QW tOk [.u 1 0 (dI U) [],.u 4 0 (dB Y) []] 6 [] [0,1,0,0,15,31] [] (aI (QN (Qd1 G) (by kernel_rfl)) (aI (QN (QX I) (by kernel_rfl)) (aK ?_)));cases h;exact lfP []
def QcE (a0:Bt) (I:(List Bt)):Option (Bool):=
 bd (Qv I a0) fun G=>
 some G
theorem QkL {a0:Bt} {G:(List Bt)} {r:Bool} (h:QcE a0 G=some r):PureC prog 249 [.d (.str a0),.rp [slD encSb G]] (dB r) []:=by
 refine pY tOk f249 rfl (bC h 0 (fun _=>Q1) fun x1 h=>?_);cases h;exact lfP []
def Qho (c:Fnv) (x:Bt):Option Bool:=match c with
 | .k f=>if f=82 then QbE x else if f=220 then QcC x else if f=221 then QcD x else if f=223 then Qb7 x else none
 | .r f lo hi=>if f=248 then Qb8 x lo hi else none
 | .w f ws=>if f=249 then QcE x ws else none
theorem QwX {c:Fnv} {x:Bt} {r:Bool} (h:Qho c x=some r):PureC prog c.f ([.d (.str x)]++c.caps.map .rp) (.d (.bool r)) []:=by
 cases c with
 |k f=>
  simp only[Qho] at h;split at h
  ·rename_i e;subst e;exact Qh7 h
  split at h
  ·rename_i e;subst e;exact QkI h
  split at h
  ·rename_i e;subst e;exact QkK h
  split at h
  ·rename_i e;subst e;exact QjT h
  cases h
 |r f lo hi=>
  simp only[Qho] at h;split at h
  ·rename_i e;subst e;exact QjU h
  cases h
 |w f ws=>
  simp only[Qho] at h;split at h
  ·rename_i e;subst e;exact QkL h
  cases h
def Qb9 (a0:form) (G:(List Bt)):Option (Bool):=
(if(((G.length:Nat):Int) !=(IntKind.i64.wrap (((a0.checks.length:Nat):Int)+1)))=true then
 some false
else
 bd (lp (σ:=Int) (β:=(Unit⊕Unit)) (fun s1=>
(if(decide (s1<((a0.checks.length:Nat):Int)))=true then
 gd ((0:Int)<=s1∧s1<((a0.checks.length:Nat):Int))<|
 gd ((0:Int)<=IntKind.i64.wrap (s1+1)∧IntKind.i64.wrap (s1+1)<((G.length:Nat):Int))<|
 bd (Qho (a0.checks.getD s1.toNat default) (G.getD ((IntKind.i64.wrap (s1+1)).toNat) default)) fun I=>
(if(!I)=true then
 some (.inr (.inl ()))
else
 some (.inl (IntKind.i64.wrap (s1+1))))
else
 some (.inr (.inr ())))) 0) fun J=>
(match J with
| .inl d8=>
 some false
| .inr d9=>
 some true))
theorem QjV {a0:form} {U:(List Bt)} {r:Bool} (h:Qb9 a0 U=some r):PureC prog 181 [.agg [.d (.str a0.word),dI a0.key,.d (slD QbA a0.checks)],.d (slD encSb U)] (dB r) []:=by
 refine pY tOk f181 rfl (Qc tOk ?_);apply Qo h<;>intro _ h
 ·cases h
  exact lfP []
 ·refine Qc tOk ?_;obtain⟨x4,I,h⟩:=Qb h;refine QF tOk I (fun s1=>⟨0,31,[(1,.d (slD encSb U)),(15,.d (slD QbA a0.checks)),(16,dI ((a0.checks.length:Nat):Int)),(17,dI s1)],[],[],[]⟩) ?_ ?_
  ·exact leX []
  ·clear I;intro s1 y2 G J;refine Qc tOk ?_;apply Qo G<;>intro _ G
   ·refine Qc tOk (gdI G fun G=>gdI G fun G=>?_);obtain⟨x7,O,G⟩:=Qb G;refine cDy (QwX O) ?_;apply Qo G<;>intro _ G
    ·cases G
     cases J _ rfl
     cases h
     exact lfP []
    ·exact eX G []
   ·cases G
    cases J _ rfl
    cases h
    exact lfP []
def QcF (a0:(List Bt)):Option (form×Bool):=
(if(((a0.length:Nat):Int)==0)=true then
 some ((⟨ByteArray.empty,0,[]⟩:form),false)
else
 gd ((0:Int)<=0∧0<((a0.length:Nat):Int))<|
 bd (Qdm (a0.getD 0 default)) fun I=>
 bd (lp (σ:=Int) (β:=((Bt×Int×(List Fnv))⊕Unit)) (fun G=>
(if(decide (G<((I.length:Nat):Int)))=true then
 gd ((0:Int)<=G∧G<((I.length:Nat):Int))<|
 bd (Qb9 (I.getD G.toNat default) a0) fun U=>
(if U=true then
 some (.inr (.inl ((I.getD G.toNat default).word,(I.getD G.toNat default).key,(I.getD G.toNat default).checks)))
else
 some (.inl (IntKind.i64.wrap (G+1))))
else
 some (.inr (.inr ())))) 0) fun O=>
(match O with
| .inl J=>
 some ((⟨J.1,J.2.1,J.2.2⟩:form),true)
| .inr d10=>
 some ((⟨ByteArray.empty,0,[]⟩:form),false)))
theorem Qh8 {a0:(List Bt)} {r:form×Bool} (h:QcF a0=some r):EffC prog 155 [.d (slD encSb a0)] [] (.tup [.agg [.d (.str r.1.word),dI r.1.key,.d (slD QbA r.1.checks)],dB r.2]) []:=by
 refine eY tOk f155 rfl (Qc tOk ?_);apply Qo h<;>intro _ h
 ·cases h
  exact lfE []
 ·refine Qc tOk (gdI h fun h=>bE h [] 1000 (fun _=>Ql4) fun O h=>?_);obtain⟨x6,J,h⟩:=Qb h;refine QF tOk J (fun U=>⟨0,25,[(0,.d (slD encSb a0)),(2,.ref 2 0 0),(13,.osl 6001 0 O.length),(14,dI ((O.length:Nat):Int)),(15,dI U)],[],[(6001,.arr 152 3 O.length (rows form.enc O)),(2,.box 152 [.d (.str ByteArray.empty),dI 0,.d (.nil)])],[⟨[],[]⟩]⟩) ?_ ?_
  ·exact leX []
  ·clear J;intro U y4 G I;refine Qc tOk ?_;apply Qo G<;>intro _ G
   ·refine Qc tOk (gdI G fun G=>bC G 0 (fun _=>QjV) fun x8 G=>?_);apply Qo G<;>intro _ G
    ·cases G
     cases I _ rfl
     cases h
     exact lfE []
    ·exact eX G []
   ·cases G
    cases I _ rfl
    cases h
    exact lfE []
def Qba (a0:(List Bt)) (G:Bt):Option (Bt):=
 gd (a0.length<=140737488355328∧(QjW a0 G).size<=140737488355328)<|
 some (QjW a0 G)
theorem Qg7 {a0:(List Bt)} {G:Bt} {r:Bt} (h:Qba a0 G=some r):PureC prog 156 [.d (slD encSb a0),.d (.str G)] (.d (.str r)) []:=by
 unfold Qba at h;obtain⟨⟨J,O⟩,h⟩:=Qf h;obtain rfl:=sj_ h;exact QrG ⟨f156,rfl,by kernel_rfl,by kernel_rfl⟩ (fun I o c xs sep w h1 h2 h3 h4 h5=>Any.strings_Join Lay.joi Lay.joiX I o c xs sep w h1 h2 h3 h4 h5) (fun a c sep w=>Any.strings_Join_none Lay.joi Lay.joiX a c sep w) J O
def QcG (a0:Bt):Option (Bt×Bool):=
 bd (Qb6 a0) fun G=>
(if(!G.2)=true then
 some ((⟨#[]⟩:Bt),false)
else
 bd (QcF G.1) fun I=>
(if(!I.2)=true then
 some ((⟨#[]⟩:Bt),false)
else
 bd (Qba G.1 (⟨#[32]⟩:Bt)) fun J=>
 some (J,true)))
theorem QkM {a0:Bt} {r:Bt×Bool} (h:QcG a0=some r):PureC prog 127 [.d (.str a0)] (.tup [.d (.str r.1),dB r.2]) []:=by
 refine pY tOk f127 rfl (bC h 1000 (fun _=>QjS) fun x1 h=>Qc tOk ?_);apply Qo h<;>intro _ h
 ·cases h
  exact lfP []
 ·refine Qc tOk ?_;obtain⟨x2,G,h⟩:=Qb h;refine Zp [6001] (cE [] 0 (Qh8 G) ?_);apply Qo h<;>intro _ h
  ·cases h
   exact lfP []
  ·refine bC h 0 (fun _=>Qg7) fun x3 h=>?_;cases h;exact lfP []
def QcH (a0:Bt):Option (Bool):=
 bd (QcG a0) fun G=>
 some (G.2&&(G.1==a0))
theorem Qh9 {a0:Bt} {r:Bool} (h:QcH a0=some r):PureC prog 106 [.d (.str a0)] (dB r) []:=by
 refine pY tOk f106 rfl (bC h 0 (fun _=>QkM) fun x1 h=>?_);cases h;exact lfP []
def Jj (a0:Bt):Option (Bool):=
 bd (QcH a0) fun G=>
 some (!G)
theorem QiP {a0:Bt} {r:Bool} (h:Jj a0=some r):PureC prog 105 [.d (.str a0)] (dB r) []:=by
 refine pY tOk f105 rfl (bC h 0 (fun _=>Qh9) fun x1 h=>?_);cases h;exact lfP []
def ZF (a0:(List Bt)):Option (Int):=
 bd (lp (σ:=Int) (β:=(Int⊕Unit)) (fun s1=>
(if(decide (s1<((a0.length:Nat):Int)))=true then
 gd ((0:Int)<=s1∧s1<((a0.length:Nat):Int))<|
 bd (Jj (a0.getD s1.toNat default)) fun G=>
(if G=true then
 some (.inr (.inl s1))
else
 some (.inl (IntKind.i64.wrap (s1+1))))
else
 some (.inr (.inr ())))) 0) fun I=>
(match I with
| .inl J=>
 some J
| .inr d8=>
 some (-1))
theorem Qak {a0:(List Bt)} {r:Int} (h:ZF a0=some r):PureC prog 153 [.d (slD encSb a0),.fn 105 []] (dI r) []:=by
 refine pY tOk f153 rfl (Qc tOk ?_);obtain⟨x4,I,h⟩:=Qb h;refine QF tOk I (fun s1=>⟨0,19,[(0,.d (slD encSb a0)),(1,.fn 105 []),(7,dI ((a0.length:Nat):Int)),(8,dI s1)],[],[],[]⟩) ?_ ?_
 ·exact leX []
 ·clear I;intro s1 y2 G J;refine Qc tOk ?_;apply Qo G<;>intro _ G
  ·refine Qc tOk (gdI G fun G=>bC G 0 (fun _=>QiP) fun x6 G=>?_);apply Qo G<;>intro _ G
   ·cases G
    cases J _ rfl
    cases h
    exact lfP []
   ·exact eX G []
  ·cases G
   cases J _ rfl
   cases h
   exact lfP []
def QB (a0:(List Bt)):Option (Bool):=
 bd (ZF a0) fun G=>
 some (decide (G>=0))
theorem JY {a0:(List Bt)} {r:Bool} (h:QB a0=some r):PureC prog 104 [.d (slD encSb a0),.fn 105 []] (dB r) []:=by
 refine pY tOk f104 rfl (bC h 0 (fun _=>Qak) fun x1 h=>?_);cases h;exact lfP []
def Qbb (a0:Bt):Option (Bt):=
 bd (QcH a0) fun J=>
(if(!J)=true then
 some (⟨#[]⟩:Bt)
else
 bd (ZJ a0 (⟨#[32]⟩:Bt)) fun G=>
 bd (QcF G) fun I=>
 gd ((0:Int)<=(0:Int)∧(0:Int)<=I.1.key∧I.1.key<=((G.length:Nat):Int))<|
 bd (Qba (G.take I.1.key.toNat) (⟨#[32]⟩:Bt)) fun O=>
 some O)
theorem Ql5 {a0:Bt} {r:Bt} (h:Qbb a0=some r):PureC prog 107 [.d (.str a0)] (.d (.str r)) []:=by
 refine pY tOk f107 rfl (Qc tOk (bC h 0 (fun _=>Qh9) fun x1 h=>?_));apply Qo h<;>intro _ h
 ·cases h
  exact lfP []
 ·refine bC h 1000 (fun _=>QcB) fun x2 h=>?_;obtain⟨x3,G,h⟩:=Qb h;refine Zp [6001] (cE [] 0 (Qh8 G) ?_);obtain⟨J,h⟩:=Qf h;refine aI ⟨J,.inr rfl⟩ ?_;obtain⟨x5,I,h⟩:=Qb h;refine QwV 0 (Qg7 I) rfl QsG rfl ?_;cases h;exact lfP []
end
end Go.Proofs.YtoknnjiangjccaaGreatDoor
