/-
  What some of the program's functions compute: their models, and that the functions compute these; no condition.
-/
import Derived.Test.YtjjkhncoafdfmaaGreatDoorTyz
import Derived.Test.YtjjkhncoafdfmaaGreatDoorTbz
import Derived.Test.YtjjkhncoafdfmaaGreatDoorLayz
import Derived.Test.YtjjkhncoafdfmaaGreatDoorAbz7
import Derived.Test.YtjjkhncoafdfmaaGreatDoorLay4z
import Derived.Test.YtjjkhncoafdfmaaGreatDoorAbz8
import Derived.BigCall
import Derived.BigGuard
import Derived.BigQuiet
import Derived.Deep.Draws
import Derived.Deep.QuietTactic
import Derived.Maps.OwnSet
import Derived.Shelf.SlSortCmp.QuietGrown
import Derived.StringKeys
import Derived.WalkKit
import Derived.Test.YtjjkhncoafdfmaaGreatDoorKz3
set_option linter.all false
namespace Go.Proofs.YtjjkhncoafdfmaaGreatDoor
open Go Go.Ab Tryz
set_option maxRecDepth 100000
set_option maxHeartbeats 40000000
noncomputable section
def QbB (a0:(List Bt)):Option (Bool):=
 bd (QI a0 (⟨#[114,111,117,116,101]⟩:Bt)) fun O=>
 bd (lp (σ:=List Bt×Int) (β:=(Nat×(List Bt))) (fun N=>
(if(decide (N.2<((O.length:Nat):Int)))=true then
 gd ((0:Int)<=N.2∧N.2<((O.length:Nat):Int))<|
 gd ((0:Int)<=2∧2<(((O.getD N.2.toNat default).length:Nat):Int))<|
 gd (((N.1.length)+(([((O.getD N.2.toNat default).getD 2 default)]:List Bt).length))*(16+1)<=70368744177664)<|
 some (.inl ((N.1++([((O.getD N.2.toNat default).getD 2 default)]:List Bt)),IntKind.i64.wrap (N.2+1)))
else
 some (.inr (N.1.length,N.1)))) (([]:List Bt),0)) fun x5=>
 bd (QI a0 (⟨#[112,101,101,114]⟩:Bt)) fun J=>
 bd (lp (σ:=List Bt×Int) (β:=(Nat×(List Bt))) (fun I=>
(if(decide (I.2<((J.length:Nat):Int)))=true then
 gd ((0:Int)<=I.2∧I.2<((J.length:Nat):Int))<|
 gd ((0:Int)<=1∧1<(((J.getD I.2.toNat default).length:Nat):Int))<|
 gd (((I.1.length)+(([((J.getD I.2.toNat default).getD 1 default)]:List Bt).length))*(16+1)<=70368744177664)<|
 some (.inl ((I.1++([((J.getD I.2.toNat default).getD 1 default)]:List Bt)),IntKind.i64.wrap (I.2+1)))
else
 some (.inr (I.1.length,I.1)))) (x5.2,0)) fun a1=>
 bd (JR a0) fun Y=>
 bd (QM a1.2 Y) fun U=>
 some U
theorem QjA {a0:(List Bt)} {r:Bool} (h:QbB a0=some r):PureC prog 108 [.d (slD Qi a0)] (dB r) []:=by
 refine pY tOk f108 rfl (Qb tOk (bE h [] 1000 (fun _=>Z0) fun x1 h=>?_));obtain⟨x5,a5,h⟩:=Qc h;refine Qm tOk a5 (fun Y=>⟨0,43,[(0,.d (slD Qi a0)),(3,.osl 7001 0 Y.1.length),(11,.osl 6001 0 x1.length),(12,dI ((x1.length:Nat):Int)),(13,dI Y.2)],[],[(7001,.arr 9 1 Y.1.length (rows Qi Y.1)),(6001,.arr 23 1 x1.length (rows (Qew Qi) x1))],[]⟩) ?_ ?_
 ·exact leX [.p 7001 9 1 (rows Qi ([]:List Bt))]
 ·clear a5;intro Y y3 O a6;refine Qb tOk ?_;apply Qr O<;>intro _ O
  ·refine Qb tOk (gdI O fun O=>gdI O fun O=>Z6 (enc:=Qi) ([((x1.getD Y.2.toNat default).getD 2 default)]:List Bt) (gdI O fun O=>QdW (enc:=Qi) (xs:=Y.1) (ys:=([((x1.getD Y.2.toNat default).getD 2 default)]:List Bt)) ?_));exact eX O []
  ·cases O
   cases a6 _ rfl
   refine Qb tOk (bE h [] 3000 (fun _=>Z0) fun N h=>?_);obtain⟨x14,U,h⟩:=Qc h;refine Qm tOk U (fun J=>⟨0,43,[(0,.d (slD Qi a0)),(3,.osl 7001 0 J.1.length),(25,.osl 8001 0 N.length),(26,dI ((N.length:Nat):Int)),(27,dI J.2)],[],[(8001,.arr 23 1 N.length (rows (Qew Qi) N)),(7001,.arr 9 1 J.1.length (rows Qi J.1))],[]⟩) ?_ ?_
   ·exact leX []
   ·clear U;intro J y12 I a2;refine Qb tOk ?_;apply Qr I<;>intro _ I
    ·refine Qb tOk (gdI I fun I=>gdI I fun I=>Z6 (enc:=Qi) ([((N.getD J.2.toNat default).getD 1 default)]:List Bt) (gdI I fun I=>QdW (enc:=Qi) (xs:=J.1) (ys:=([((N.getD J.2.toNat default).getD 1 default)]:List Bt)) ?_));exact eX I []
    ·cases I
     cases a2 _ rfl
     refine bC h 1000 (fun _=>Qex) fun x19 h=>?_;obtain⟨x20,a1,h⟩:=Qc h;refine QAy 0 (JF a1) rfl Qya rfl ?_;cases h;exact lfP []
def QcQ (a0:(List Bt)):Option (Bool):=
 bd (QI a0 (⟨#[110,97,116]⟩:Bt)) fun O=>
 bd (QI a0 (⟨#[100,111,111,114]⟩:Bt)) fun N=>
(if(((O.length:Nat):Int)==0)=true then
 some (decide (((N.length:Nat):Int)>0))
else
 gd ((0:Int)<=0∧0<((O.length:Nat):Int))<|
 gd ((0:Int)<=1∧1<(((O.getD 0 default).length:Nat):Int))<|
 bd (Jf ((O.getD 0 default).getD 1 default)) fun x5=>
 gd ((0:Int)<=0∧0<((O.length:Nat):Int))<|
 gd ((0:Int)<=3∧3<(((O.getD 0 default).length:Nat):Int))<|
 bd (Z3 ((O.getD 0 default).getD 3 default)) fun x8=>
 gd ((0:Int)<=0∧0<((O.length:Nat):Int))<|
 gd ((0:Int)<=4∧4<(((O.getD 0 default).length:Nat):Int))<|
 bd (Z3 ((O.getD 0 default).getD 4 default)) fun Y=>
 gd ((0:Int)<=0∧0<((O.length:Nat):Int))<|
 gd ((0:Int)<=2∧2<(((O.getD 0 default).length:Nat):Int))<|
 bd (ZJ ((O.getD 0 default).getD 2 default)) fun a8=>
 bd (Q7 x5.1 a8) fun a5=>
(if((a5||(decide (x8>Y)))||(decide (((N.length:Nat):Int)>6)))=true then
 some true
else
 bd (lp (σ:=Int) (β:=(Unit⊕Unit)) (fun I=>
(if(decide (I<((N.length:Nat):Int)))=true then
 gd ((0:Int)<=I∧I<((N.length:Nat):Int))<|
 gd ((0:Int)<=3∧3<(((N.getD I.toNat default).length:Nat):Int))<|
 bd (ZJ ((N.getD I.toNat default).getD 3 default)) fun a2=>
 bd (Q7 x5.1 a2) fun U=>
 gd ((!U)=false->((0:Int)<=2∧2<(((N.getD I.toNat default).length:Nat):Int)))<|
 bd (Qv ((!U)=false) (Z3 ((N.getD I.toNat default).getD 2 default))) fun a9=>
 bd (Qv ((!U)=false) (QV a9 x8 Y)) fun a6=>
(if((!U)||a6)=true then
 some (.inr (.inl ()))
else
 gd ((0:Int)<=(0:Int)∧(0:Int)<=I∧I<=((N.length:Nat):Int))<|
 bd (lp (σ:=Int) (β:=(Unit⊕Unit)) (fun J=>
(if(decide (J<((I.toNat:Nat):Int)))=true then
 gd ((0:Int)<=J∧J<((I.toNat:Nat):Int))<|
 gd ((0:Int)<=1∧1<(((N.getD J.toNat default).length:Nat):Int))<|
 gd ((0:Int)<=1∧1<(((N.getD I.toNat default).length:Nat):Int))<|
 gd ((((N.getD J.toNat default).getD 1 default)==((N.getD I.toNat default).getD 1 default))=true->((0:Int)<=3∧3<(((N.getD J.toNat default).length:Nat):Int)))<|
 gd ((((N.getD J.toNat default).getD 1 default)==((N.getD I.toNat default).getD 1 default))=true->((0:Int)<=3∧3<(((N.getD I.toNat default).length:Nat):Int)))<|
 gd (((((N.getD J.toNat default).getD 1 default)==((N.getD I.toNat default).getD 1 default))&&(((N.getD J.toNat default).getD 3 default)==((N.getD I.toNat default).getD 3 default)))=true->((0:Int)<=4∧4<(((N.getD J.toNat default).length:Nat):Int)))<|
 gd (((((N.getD J.toNat default).getD 1 default)==((N.getD I.toNat default).getD 1 default))&&(((N.getD J.toNat default).getD 3 default)==((N.getD I.toNat default).getD 3 default)))=true->((0:Int)<=4∧4<(((N.getD I.toNat default).length:Nat):Int)))<|
(if(((((N.getD J.toNat default).getD 1 default)==((N.getD I.toNat default).getD 1 default))&&(((N.getD J.toNat default).getD 3 default)==((N.getD I.toNat default).getD 3 default)))&&(((N.getD J.toNat default).getD 4 default)==((N.getD I.toNat default).getD 4 default)))=true then
 some (.inr (.inl ()))
else
 some (.inl (IntKind.i64.wrap (J+1))))
else
 some (.inr (.inr ())))) 0) fun a7=>
(match a7 with
| .inl d39=>
 some (.inr (.inl ()))
| .inr d40=>
 some (.inl (IntKind.i64.wrap (I+1)))))
else
 some (.inr (.inr ())))) 0) fun a1=>
(match a1 with
| .inl d41=>
 some true
| .inr d42=>
 some false)))
theorem Qlz {a0:(List Bt)} {r:Bool} (h:QcQ a0=some r):PureC prog 109 [.d (slD Qi a0)] (dB r) []:=by
 refine pY tOk f109 rfl (bE h [] 1000 (fun _=>Z0) fun x1 h=>bE h [] 2000 (fun _=>Z0) fun U h=>Qb tOk ?_);apply Qr h<;>intro _ h
 ·cases h
  exact lfP []
 ·refine gdI h fun h=>gdI h fun h=>bC h 0 (fun _=>QcK) fun x5 h=>?_;obtain⟨g6,h⟩:=Qe h;obtain⟨g7,h⟩:=Qe h;obtain⟨x8,d0,h⟩:=Qc h;obtain⟨g9,h⟩:=Qe h;obtain⟨d3,h⟩:=Qe h;obtain⟨a5,a7,h⟩:=Qc h;refine QQ tOk [.u 5 0 (dI x8) [],.u 11 0 (dI a5) []] 14 [] [0,1,3,7,15,31,0,64,192,448,960,2047,4095,8191] [] (aI g6 (aI g7 (aI (Qp (QaU d0) (by kernel_rfl)) (aI g9 (aI d3 (aI (Qp (QaU a7) (by kernel_rfl)) (aK (Qb tOk ?_))))))));obtain⟨c6,h⟩:=Qe h;obtain⟨c3,h⟩:=Qe h;obtain⟨c8,b0,h⟩:=Qc h;obtain⟨c1,b2,h⟩:=Qc h;refine QQ tOk [.u 6 0 (dI c8) [],.u 7 0 (dB c1) []] 18 [] [0,0,2,6,14,30,62,127,255,511,511,2047,4095,8191,16383,32767,65535,131071] [] (aI c6 (aI c3 (aI (Qp (Qaw b0) (by kernel_rfl)) (aI (Qp (Jw b2) (by kernel_rfl)) (aK ?_)))));apply Qr h<;>intro _ h
  ·cases h
   exact lfP []
  ·refine Qb tOk ?_;obtain⟨x19,a2,h⟩:=Qc h;refine Qm tOk a2 (fun N=>⟨0,120,[(4,.osl 7001 0 U.length),(5,.ref 5 0 0),(7,dI x8),(8,dI a5),(62,.osl 7001 0 U.length),(63,dI ((U.length:Nat):Int)),(64,dI N)],[],[(5,.box 69 [dI x5.1.Addr,dI x5.1.Len]),(7001,.arr 23 1 U.length (rows (Qew Qi) U))],[]⟩) ?_ ?_
   ·exact leX []
   ·clear a2;intro N y17 I O;refine Qb tOk ?_;apply Qr I<;>intro _ I
    ·refine Qb tOk (gdI I fun I=>Qb tOk ?_);obtain⟨d1,I⟩:=Qe I;obtain⟨b7,a8,I⟩:=Qc I;obtain⟨b8,b3,I⟩:=Qc I;obtain⟨b9,I⟩:=Qe I;obtain⟨d2,b1,I⟩:=Qc I;obtain⟨c2,a6,I⟩:=Qc I;refine QQ tOk [.u 4 0 (dI b7) [],.u 5 0 (dB b8) [],.u 11 0 (dI d2) [],.u 14 0 (dB c2) []] 16 [] [0,0,2,6,14,31,63,127,255,511,1023,2047,255,255,16383,32767] [] (aI d1 (aI (Qp (Qaw a8) (by kernel_rfl)) (aI (Qp (Jw b3) (by kernel_rfl)) (aI b9 (aI (QJ rfl rfl rfl rfl (by intro c0;exact QaU (Qt b1 c0))) (aI (QJ rfl rfl rfl rfl (by intro c0;exact Zp (Qt a6 c0))) (aK ?_)))))));apply Qr I<;>intro _ I
     ·cases I
      obtain rfl:=O _ rfl;cases h;exact lfP []
     ·obtain⟨d4,I⟩:=Qe I;refine aI d4 ?_;obtain⟨x31,a1,I⟩:=Qc I;refine Qm tOk a1 (fun a9=>⟨0,120,[(4,.osl 7001 0 U.length),(5,.ref 5 0 0),(7,dI x8),(8,dI a5),(10,.d (slD Qi (U.getD N.toNat default))),(62,.osl 7001 0 U.length),(63,dI ((U.length:Nat):Int)),(64,dI N),(87,.osl 7001 0 N.toNat),(88,dI ((N.toNat:Nat):Int)),(89,dI a9)],[],[(5,.box 69 [dI x5.1.Addr,dI x5.1.Len]),(7001,.arr 23 1 U.length (rows (Qew Qi) U))],[]⟩) ?_ ?_
      ·exact leX []
      ·clear a1;intro a9 y29 J Y;refine Qb tOk ?_;apply Qr J<;>intro _ J
       ·refine Qb tOk (gdI J fun J=>?_);obtain⟨b4,J⟩:=Qe J;obtain⟨c4,J⟩:=Qe J;obtain⟨b5,J⟩:=Qe J;obtain⟨c7,J⟩:=Qe J;obtain⟨b6,J⟩:=Qe J;obtain⟨c5,J⟩:=Qe J;refine QQ tOk [] 25 [] [0,1,3,0,8,24,63,127,255,511,1023,255,2303,6399,16383,32767,65535,131071,262143,524287,131071,1179647,3276799,8388607,16777215] [] (aI b4 (aI c4 (aI b5 (aI c7 (aI b6 (aI c5 (aK ?_)))))));apply Qr J<;>intro _ J
        ·cases J
         cases Y _ rfl
         cases I
         cases O _ rfl
         cases h
         exact lfP []
        ·exact eX J []
       ·cases J
        cases Y _ rfl
        exact eX I []
    ·cases I
     cases O _ rfl
     cases h
     exact lfP []
def QjB (c:Fnv) (x:List Bt):Option Bool:=match c with
 | .k f=>if f=105 then Qdw x else if f=106 then QbA x else if f=107 then QaV x else if f=108 then QbB x else if f=109 then QcQ x else none
 | .r f lo hi=>none
 | .w f ws=>none
theorem QyX {c:Fnv} {x:List Bt} {r:Bool} (h:QjB c x=some r):PureC prog c.f ([.d (slD Qi x)]++c.caps.map .rp) (.d (.bool r)) []:=by
 cases c with
 |k f=>
  simp only[QjB] at h;split at h
  ·rename_i e;subst e;exact QmX h
  split at h
  ·rename_i e;subst e;exact Qjz h
  split at h
  ·rename_i e;subst e;exact Qh0 h
  split at h
  ·rename_i e;subst e;exact QjA h
  split at h
  ·rename_i e;subst e;exact Qlz h
  cases h
 |r f lo hi=>
  simp only[QjB] at h;cases h
 |w f ws=>
  simp only[QjB] at h;cases h
def Qcd (a0:(List Bt)):Option (Int):=
 bd (JQ a0) fun J=>
(if(J !=0)=true then
 some J
else
 bd (lp (σ:=Int) (β:=(Int⊕Unit)) (fun I=>
(if(decide (I<((([(Fnv.k 105),(Fnv.k 106),(Fnv.k 107),(Fnv.k 108),(Fnv.k 109)]:List Fnv).length:Nat):Int)))=true then
 gd ((0:Int)<=I∧I<((([(Fnv.k 105),(Fnv.k 106),(Fnv.k 107),(Fnv.k 108),(Fnv.k 109)]:List Fnv).length:Nat):Int))<|
 bd (QjB (([(Fnv.k 105),(Fnv.k 106),(Fnv.k 107),(Fnv.k 108),(Fnv.k 109)]:List Fnv).getD I.toNat default) a0) fun U=>
(if U=true then
 some (.inr (.inl (IntKind.i64.wrap (5+I))))
else
 some (.inl (IntKind.i64.wrap (I+1))))
else
 some (.inr (.inr ())))) 0) fun N=>
(match N with
| .inl O=>
 some O
| .inr d9=>
 some 0))
theorem QkF {a0:(List Bt)} {r:Int} (h:Qcd a0=some r):PureC prog 49 [.d (slD Qi a0)] (dI r) []:=by
 refine pY tOk f49 rfl (Qb tOk (bC h 0 (fun _=>Qly) fun x1 h=>?_));apply Qr h<;>intro _ h
 ·cases h
  exact lfP []
 ·refine Qb tOk (Z6 (enc:=Qby) ([(Fnv.k 105),(Fnv.k 106),(Fnv.k 107),(Fnv.k 108),(Fnv.k 109)]:List Fnv) ?_);obtain⟨x5,N,h⟩:=Qc h;refine Qm tOk N (fun U=>⟨0,24,[(0,.d (slD Qi a0)),(11,.osl 11 0 (([(Fnv.k 105),(Fnv.k 106),(Fnv.k 107),(Fnv.k 108),(Fnv.k 109)]:List Fnv).length)),(12,dI ((([(Fnv.k 105),(Fnv.k 106),(Fnv.k 107),(Fnv.k 108),(Fnv.k 109)]:List Fnv).length:Nat):Int)),(13,dI U)],[],[(11,.arr 55 1 (([(Fnv.k 105),(Fnv.k 106),(Fnv.k 107),(Fnv.k 108),(Fnv.k 109)]:List Fnv).length) (rows Qby ([(Fnv.k 105),(Fnv.k 106),(Fnv.k 107),(Fnv.k 108),(Fnv.k 109)]:List Fnv)))],[]⟩) ?_ ?_
  ·exact leX []
  ·clear N;intro U y3 I J;refine Qb tOk ?_;apply Qr I<;>intro _ I
   ·refine Qb tOk (gdI I fun I=>?_);obtain⟨x7,O,I⟩:=Qc I;refine cDy (QyX O) ?_;apply Qr I<;>intro _ I
    ·cases I
     cases J _ rfl
     cases h
     exact lfP []
    ·exact eX I []
   ·cases I
    cases J _ rfl
    cases h
    exact lfP []
def QcR (a0:(List Bt)):Option (Bool):=
 bd (Qcd a0) fun I=>
 some (I==0)
theorem QiH {a0:(List Bt)} {r:Bool} (h:QcR a0=some r):PureC prog 16 [.d (slD Qi a0)] (dB r) []:=by
 refine pY tOk f16 rfl (bC h 0 (fun _=>QkF) fun x1 h=>?_);cases h;exact lfP []
def Q4 (a0:QCg):Option (QCj):=
 some (⟨a0.Addr,a0.Len⟩:QCj)
theorem ZQ {a0:QCg} {r:QCj} (h:Q4 a0=some r):PureC prog 52 [.agg (hnC a0)] (.agg [dI r.Addr,dI r.Len]) []:=by
 refine pY tOk f52 rfl ?_;unfold Q4 at h;cases h;exact lfP []
def QaF (a0:QCg):Option (Bool):=
 bd (Q4 a0) fun O=>
 bd (QaO O) fun I=>
 bd (Qv (I=true) (QV a0.Cost 1 255)) fun J=>
 bd (Qv ((I&&J)=true) (QV a0.Label 0 1000)) fun N=>
 some ((I&&J)&&N)
theorem Qhm {a0:QCg} {r:Bool} (h:QaF a0=some r):PureC prog 50 [.agg (hnC a0)] (dB r) []:=by
 refine pY tOk f50 rfl (bC h 0 (fun _=>ZQ) fun x1 h=>bC h 0 (fun _=>Qgr) fun x2 h=>bG h (fun _=>Zp) fun x3 h=>bG h (fun _=>Zp) fun x4 h=>?_);cases h;exact lfP []
def Jx (a0:QCj) (I:QCj):Option (Int):=
(if(a0.Addr !=I.Addr)=true then
 some (IntKind.i64.wrap (a0.Addr-I.Addr))
else
 some (IntKind.i64.wrap (a0.Len-I.Len)))
theorem Qd4 {a0:QCj} {I:QCj} {r:Int} (h:Jx a0 I=some r):PureC prog 51 [.agg [dI a0.Addr,dI a0.Len],.agg [dI I.Addr,dI I.Len]] (dI r) []:=by
 refine pY tOk f51 rfl (Qb tOk ?_);apply Qr h<;>intro _ h
 ·cases h
  exact lfP []
 ·cases h
  exact lfP []
def Qdx (a0:(List QCh)):Option (Bool):=
 bd (lp (σ:=Int) (β:=(Unit⊕Unit)) (fun I=>
(if(decide (I<((a0.length:Nat):Int)))=true then
 gd ((0:Int)<=I∧I<((a0.length:Nat):Int))<|
 gd ((decide (I>0))=true->((0:Int)<=IntKind.i64.wrap (I-1)∧IntKind.i64.wrap (I-1)<((a0.length:Nat):Int)))<|
(if(((decide (I>0))&&(decide (((a0.getD ((IntKind.i64.wrap (I-1)).toNat) default).Peer)>=((a0.getD I.toNat default).Peer))))||(decide (((((a0.getD I.toNat default).Entries).length:Nat):Int)>16)))=true then
 some (.inr (.inl ()))
else
 bd (lp (σ:=Int) (β:=(Unit⊕Unit)) (fun J=>
(if(decide (J<((((a0.getD I.toNat default).Entries).length:Nat):Int)))=true then
 gd ((0:Int)<=J∧J<((((a0.getD I.toNat default).Entries).length:Nat):Int))<|
 bd (QaF (((a0.getD I.toNat default).Entries).getD J.toNat default)) fun N=>
 gd ((decide (J>0))=true->((!N)=false->((0:Int)<=IntKind.i64.wrap (J-1)∧IntKind.i64.wrap (J-1)<((((a0.getD I.toNat default).Entries).length:Nat):Int))))<|
 bd (Qv ((decide (J>0))=true∧(!N)=false) (Q4 (((a0.getD I.toNat default).Entries).getD ((IntKind.i64.wrap (J-1)).toNat) default))) fun a1=>
 bd (Qv ((decide (J>0))=true∧(!N)=false) (Q4 (((a0.getD I.toNat default).Entries).getD J.toNat default))) fun U=>
 bd (Qv ((decide (J>0))=true∧(!N)=false) (Jx a1 U)) fun Y=>
(if((!N)||((decide (J>0))&&(decide (Y>=0))))=true then
 some (.inr (.inl ()))
else
 some (.inl (IntKind.i64.wrap (J+1))))
else
 some (.inr (.inr ())))) 0) fun O=>
(match O with
| .inl d17=>
 some (.inr (.inl ()))
| .inr d18=>
 some (.inl (IntKind.i64.wrap (I+1)))))
else
 some (.inr (.inr ())))) 0) fun x4=>
(match x4 with
| .inl d19=>
 some false
| .inr d20=>
 some (decide (((a0.length:Nat):Int)<=3)))
theorem QmY {a0:(List QCh)} {r:Bool} (h:Qdx a0=some r):PureC prog 17 [.d (slD QCh.enc a0)] (dB r) []:=by
 refine pY tOk f17 rfl (Qb tOk ?_);obtain⟨x4,a2,h⟩:=Qc h;refine Qm tOk a2 (fun U=>⟨0,66,[(0,.d (slD QCh.enc a0)),(7,.d (slD QCh.enc a0)),(8,dI ((a0.length:Nat):Int)),(9,dI U)],[],[],[]⟩) ?_ ?_
 ·exact leX []
 ·clear a2;intro U y2 J O;refine Qb tOk ?_;apply Qr J<;>intro _ J
  ·refine Qb tOk (gdI J fun J=>Qb tOk ?_);obtain⟨g6,J⟩:=Qe J;refine QQ tOk [] 19 [] [0,1,3,7,7,23,63,127,255,7,519,2047,4095,8191,16383,32767,65535,131071,262143] [] (aI g6 (aK ?_));apply Qr J<;>intro _ J
   ·cases J
    obtain rfl:=O _ rfl;cases h;exact lfP []
   ·obtain⟨x10,N,J⟩:=Qc J;refine Qm tOk N (fun s7=>⟨0,66,[(0,.d (slD QCh.enc a0)),(4,.ref 4 0 0),(7,.d (slD QCh.enc a0)),(8,dI ((a0.length:Nat):Int)),(9,dI U),(34,.d (slD QCg.enc ((a0.getD U.toNat default).Entries))),(35,dI ((((a0.getD U.toNat default).Entries).length:Nat):Int)),(36,dI s7)],[],[(4,.box 49 [dI ((a0.getD U.toNat default).Peer),.d (slD QCg.enc ((a0.getD U.toNat default).Entries))])],[]⟩) ?_ ?_
    ·exact leX []
    ·clear N;intro s7 y8 I a1;refine Qb tOk ?_;apply Qr I<;>intro _ I
     ·refine Qb tOk (gdI I fun I=>?_);obtain⟨b1,a7,I⟩:=Qc I;obtain⟨b2,I⟩:=Qe I;obtain⟨a9,a5,I⟩:=Qc I;obtain⟨a6,a8,I⟩:=Qc I;obtain⟨b3,b0,I⟩:=Qc I;refine QQ tOk [.u 1 0 (dB b1) [],.u 13 0 (.agg [dI a9.Addr,dI a9.Len]) [],.u 15 0 (.agg [dI a6.Addr,dI a6.Len]) [],.u 16 0 (dI b3) []] 20 [] [0,1,3,7,15,31,63,127,255,127,639,2047,4095,8191,127,32767,65535,131071,262143,524287] [] (aI (Qp (Qhm a7) (by kernel_rfl)) (aI b2 (aI (QJ rfl rfl rfl rfl (by intro Y c1;exact ZQ (Qt a5 ⟨Y,c1⟩))) (aI (QJ rfl rfl rfl rfl (by intro Y c1;exact ZQ (Qt a8 ⟨Y,c1⟩))) (aI (QJ rfl rfl rfl rfl (by intro Y c1;exact Qd4 (Qt b0 ⟨Y,c1⟩))) (aK ?_))))));apply Qr I<;>intro _ I
      ·cases I
       cases a1 _ rfl
       cases J
       cases O _ rfl
       cases h
       exact lfP []
      ·exact eX I []
     ·cases I
      cases a1 _ rfl
      exact eX J []
  ·cases J
   cases O _ rfl
   cases h
   exact lfP []
def ZL (a0:(List Bt)) (I:Bt):Option ((List (List Bt))):=
 bd (QcR a0) fun N=>
(if(!N)=true then
 some []
else
 bd (QI a0 I) fun J=>
 some J)
theorem QdX {a0:(List Bt)} {I:Bt} {r:(List (List Bt))} (h:ZL a0 I=some r):EffC prog 31 [.d (slD Qi a0),.d (.str I)] [] (.osl 5001 0 r.length) [(5001,.arr 23 1 r.length (rows (Qew Qi) r))]:=by
 refine eY tOk f31 rfl (Qb tOk (bC h 0 (fun _=>QiH) fun x1 h=>?_));apply Qr h<;>intro _ h
 ·cases h
  exact lfE [.p 5001 23 1 (rows (Qew Qi) ([]:List (List Bt)))]
 ·refine bE h [] 1000 (fun _=>Z0) fun x2 h=>?_;cases h;exact lfE [.s [(5001,6001),(6001,5001)]]
def Qw (a0:(List QCm)):Option ((List QCm)):=
 gd (a0.length<4611686018427387904)<|
 gd (∀x∈a0,(-1000000<=x.Addr∧x.Addr<=1000000))<|
 gd (∀x∈a0,∀y∈a0,[x.Addr]=[y.Addr]->x=y)<|
 some (QaA (fun x y=>kLt [x.Addr] [y.Addr]) a0)
namespace Sf36
open Go.RowKit Go.Sort
theorem walk (a0 a1 a2 b0 b1 b2:Int) (ha:-1000000≤a0∧a0≤1000000) (hb:-1000000≤b0∧b0≤1000000) (W:World):Calls prog 36 #[.agg #[.int .i64 a0,.int .i64 a1,.int .i64 a2],.agg #[.int .i64 b0,.int .i64 b1,.int .i64 b2]] W fun e w'=>e=.returned (.int .i64 (orI (QlA [a0] [b0])))∧∃q os',w'=grow (W.drewN q) os':=by
 have hw:IntKind.i64.wrap (a0-b0)=a0-b0:=Ql (by omega) (by omega)
 have ho:orI (QlA [a0] [b0])=a0-b0:=by simp only[QlA,orI];split<;>omega
 rw[ho]
 clear ho
 go_enter func36,ntmps36
 go_wp2
 go_ret
 exact⟨rfl,0,_,by rw[alloc_eq_grow,alloc_eq_grow,grow_grow];rfl⟩
end Sf36
theorem JN {a0:(List QCm)} {r:(List QCm)} (h:Qw a0=some r):EffC prog 35 [.osl 9000 0 a0.length,.fn 36 []] [(9000,.arr 78 3 a0.length (rows QCm.enc a0))] (.tup []) [(9000,.arr 78 3 a0.length (rows QCm.enc r))]:=by
 unfold Qw at h
 obtain⟨U,h⟩:=Qe h
 obtain⟨I,h⟩:=Qe h
 obtain⟨O,h⟩:=Qe h
 obtain rfl:=sj_ h
 exact Qg4 (t:=78) (k:=3) (q:=1) (xs:=a0) (row:=QCm.enc) (ρ:=Lay.srfP_ren) (fs:=fun x=>[x.Addr,x.Key,x.Secret]) (ks:=fun x=>[x.Addr]) Lay.srfP rfl isAgg78 sizeOf78 (fun _=>rfl) (fun _=>rfl) (fun _=>rfl) (QfH (fn:=f35) (c:=Qfk f35) rfl rfl (by kernel_rfl)) (enters_of func36 (by kernel_rfl) rfl) O U (fun x N y J W=>Sf36.walk x.Addr x.Key x.Secret y.Addr y.Key y.Secret (I x N) (I y J) W)
def Qa2 (a0:(List Bt)):Option ((List QCm)):=
 bd (ZL a0 (⟨#[112,101,101,114]⟩:Bt)) fun J=>
 bd (lp (σ:=List QCm×Int) (β:=(Nat×(List QCm))) (fun I=>
(if(decide (I.2<((J.length:Nat):Int)))=true then
 gd ((0:Int)<=I.2∧I.2<((J.length:Nat):Int))<|
 gd ((0:Int)<=1∧1<(((J.getD I.2.toNat default).length:Nat):Int))<|
 bd (ZJ ((J.getD I.2.toNat default).getD 1 default)) fun x8=>
 gd ((0:Int)<=2∧2<(((J.getD I.2.toNat default).length:Nat):Int))<|
 bd (Z3 ((J.getD I.2.toNat default).getD 2 default)) fun N=>
 gd ((0:Int)<=3∧3<(((J.getD I.2.toNat default).length:Nat):Int))<|
 bd (Z3 ((J.getD I.2.toNat default).getD 3 default)) fun O=>
 gd (((I.1.length)+(([(⟨x8,N,O⟩:QCm)]:List QCm).length))*(24+1)<=70368744177664)<|
 some (.inl ((I.1++([(⟨x8,N,O⟩:QCm)]:List QCm)),IntKind.i64.wrap (I.2+1)))
else
 some (.inr (I.1.length,I.1)))) (([]:List QCm),0)) fun Y=>
 bd (Qw Y.2) fun U=>
 gd (U.length=Y.1)<|
 some U
theorem Qgc {a0:(List Bt)} {r:(List QCm)} (h:Qa2 a0=some r):PureC prog 10 [.d (slD Qi a0)] (.osl 5001 0 r.length) [⟨5001,78,3,r.length,rows QCm.enc r⟩]:=by
 refine pY tOk f10 rfl (Qb tOk (bE h [] 1000 (fun _=>QdX) fun x1 h=>?_));obtain⟨x5,a1,h⟩:=Qc h;refine Qm tOk a1 (fun O=>⟨0,34,[(3,.osl 7001 0 O.1.length),(8,.osl 6001 0 x1.length),(9,dI ((x1.length:Nat):Int)),(10,dI O.2)],[],[(7001,.arr 78 3 O.1.length (rows QCm.enc O.1)),(6001,.arr 23 1 x1.length (rows (Qew Qi) x1))],[]⟩) ?_ ?_
 ·exact leX [.p 7001 78 3 (rows QCm.enc ([]:List QCm))]
 ·clear a1;intro O y3 I a5;refine Qb tOk ?_;apply Qr I<;>intro _ I
  ·refine Qb tOk (gdI I fun I=>?_);obtain⟨g7,I⟩:=Qe I;obtain⟨x8,a7,I⟩:=Qc I;obtain⟨g9,I⟩:=Qe I;obtain⟨N,a2,I⟩:=Qc I;obtain⟨a6,I⟩:=Qe I;obtain⟨J,U,I⟩:=Qc I;refine QQ tOk [.u 4 0 (dI x8) [],.u 8 0 (dI N) [],.u 12 0 (dI J) []] 15 [] [0,0,2,6,14,0,32,96,254,0,512,1536,4094,8190,16382] [32767,65535] (aI g7 (aI (Qp (Qaw a7) (by kernel_rfl)) (aI g9 (aI (Qp (QaU a2) (by kernel_rfl)) (aI a6 (aI (Qp (QaU U) (by kernel_rfl)) (Z6 (enc:=QCm.enc) ([(⟨x8,N,J⟩:QCm)]:List QCm) (aK (gdI I fun I=>QdW (enc:=QCm.enc) (xs:=O.1) (ys:=([(⟨x8,N,J⟩:QCm)]:List QCm)) ?_)))))))));exact eX I []
  ·cases I
   cases a5 _ rfl
   obtain⟨x15,Y,h⟩:=Qc h;obtain⟨g16,h⟩:=Qe h;refine cE [(9000,7001)] 0 (JN Y) ?_;cases h;exact lfP [.s [(5001,7001),(7001,5001)]]
def ZW (a0:(List QCg)):Option ((List QCg)):=
 gd ((0:Int)<=0∧0<=((a0.length:Nat):Int)∧((a0.length:Nat):Int)*32<=140737488355328∧((a0.length:Nat):Int)<=140737488355328)<|
 gd ((((List.replicate (0:Int).toNat (default:QCg)).length)+(a0.length))*(32+1)<=70368744177664)<|
 some ((List.replicate (0:Int).toNat (default:QCg))++a0)
theorem Qeg {a0:(List QCg)} {r:(List QCg)} (h:ZW a0=some r):EffC prog 54 [.d (slD QCg.enc a0)] [] (.d (slD QCg.enc r)) []:=by
 refine eY tOk f54 rfl ?_;obtain⟨I,h⟩:=Qe h;refine aI I (⟨(List.replicate (0:Int).toNat (default:QCg)).length,rows QCg.enc (List.replicate (0:Int).toNat (default:QCg)),by simp,Qpm rfl,?_⟩);refine gdI h fun h=>QdW (enc:=QCg.enc) (xs:=(List.replicate (0:Int).toNat (default:QCg))) (ys:=a0) ?_;cases h;exact lfE [.f [5]]
def Qce (a0:(List QCh)):Option ((List QCh)):=
 bd (lp (σ:=List QCh×Int) (β:=(Nat×(List QCh))) (fun I=>
(if(decide (I.2<((a0.length:Nat):Int)))=true then
 gd ((0:Int)<=I.2∧I.2<((a0.length:Nat):Int))<|
 bd (ZW ((a0.getD I.2.toNat default).Entries)) fun J=>
 gd (((I.1.length)+(([(⟨(a0.getD I.2.toNat default).Peer,J⟩:QCh)]:List QCh).length))*(32+1)<=70368744177664)<|
 some (.inl ((I.1++([(⟨(a0.getD I.2.toNat default).Peer,J⟩:QCh)]:List QCh)),IntKind.i64.wrap (I.2+1)))
else
 some (.inr (I.1.length,I.1)))) (([]:List QCh),0)) fun N=>
 some N.2
theorem QkG {a0:(List QCh)} {r:(List QCh)} (h:Qce a0=some r):EffC prog 19 [.d (slD QCh.enc a0)] [] (.osl 5001 0 r.length) [(5001,.arr 49 2 r.length (rows QCh.enc r))]:=by
 refine eY tOk f19 rfl (Qb tOk ?_);obtain⟨x4,N,h⟩:=Qc h;refine Qm tOk N (fun J=>⟨0,24,[(3,.osl 7001 0 J.1.length),(7,.d (slD QCh.enc a0)),(8,dI ((a0.length:Nat):Int)),(9,dI J.2)],[],[(7001,.arr 49 2 J.1.length (rows QCh.enc J.1))],[⟨[],[]⟩]⟩) ?_ ?_
 ·exact leX [.p 7001 49 2 (rows QCh.enc ([]:List QCh))]
 ·clear N;intro J y2 I O;refine Qb tOk ?_;apply Qr I<;>intro _ I
  ·refine Qb tOk (gdI I fun I=>?_);obtain⟨Y,U,I⟩:=Qc I;refine Qd3 tOk [.e 5 [] (.d (slD QCg.enc Y)) [] []] 8 [] [0,0,2,0,8,24,62,126] [255,511] [] (aI (eD [] 0 (Qeg U)) (Z6 (enc:=QCh.enc) ([(⟨(a0.getD J.2.toNat default).Peer,Y⟩:QCh)]:List QCh) (aK (gdI I fun I=>QdW (enc:=QCh.enc) (xs:=J.1) (ys:=([(⟨(a0.getD J.2.toNat default).Peer,Y⟩:QCh)]:List QCh)) ?_))));exact eX I []
  ·cases I
   cases O _ rfl
   cases h
   exact lfE [.s [(5001,7001),(7001,5001)]]
def Qbl (a0:QCm) (I:Int):Option (Bool):=
 some (a0.Addr==I)
theorem QlB {a0:QCm} {I:Int} {r:Bool} (h:Qbl a0 I=some r):PureC prog 56 [.agg [dI a0.Addr,dI a0.Key,dI a0.Secret],.rp [.int .i64 I]] (dB r) []:=by
 refine pY tOk f56 rfl ?_;unfold Qbl at h;cases h;exact lfP []
def Zz (a0:(List QCm)) (J:Int):Option (Int):=
 bd (lp (σ:=Int) (β:=(Int⊕Unit)) (fun I=>
(if(decide (I<((a0.length:Nat):Int)))=true then
 gd ((0:Int)<=I∧I<((a0.length:Nat):Int))<|
 bd (Qbl (a0.getD I.toNat default) J) fun O=>
(if O=true then
 some (.inr (.inl I))
else
 some (.inl (IntKind.i64.wrap (I+1))))
else
 some (.inr (.inr ())))) 0) fun U=>
(match U with
| .inl N=>
 some N
| .inr d8=>
 some (-1))
theorem J4 {a0:(List QCm)} {J:Int} {r:Int} (h:Zz a0 J=some r):PureC prog 110 [.d (slD QCm.enc a0),.fn 56 [.rp [.int .i64 J]]] (dI r) []:=by
 refine pY tOk f110 rfl (Qb tOk ?_);obtain⟨x4,N,h⟩:=Qc h;refine Qm tOk N (fun U=>⟨0,19,[(0,.d (slD QCm.enc a0)),(1,.fn 56 [.rp [.int .i64 J]]),(7,dI ((a0.length:Nat):Int)),(8,dI U)],[],[],[]⟩) ?_ ?_
 ·exact leX []
 ·clear N;intro U y2 I O;refine Qb tOk ?_;apply Qr I<;>intro _ I
  ·refine Qb tOk (gdI I fun I=>bC I 0 (fun _=>QlB) fun x6 I=>?_);apply Qr I<;>intro _ I
   ·cases I
    cases O _ rfl
    cases h
    exact lfP []
   ·exact eX I []
  ·cases I
   cases O _ rfl
   cases h
   exact lfP []
def QZ (a0:(List QCm)) (I:Int):Option (Bool):=
 bd (Zz a0 I) fun J=>
 some (decide (J>=0))
theorem JG {a0:(List QCm)} {I:Int} {r:Bool} (h:QZ a0 I=some r):PureC prog 55 [.d (slD QCm.enc a0),.fn 56 [.rp [.int .i64 I]]] (dB r) []:=by
 refine pY tOk f55 rfl (bC h 0 (fun _=>J4) fun x1 h=>?_);cases h;exact lfP []
def Qeh (a0:(List QCm)) (I:Int):Option (Bool):=
 bd (QZ a0 I) fun J=>
 some J
theorem Qn5 {a0:(List QCm)} {I:Int} {r:Bool} (h:Qeh a0 I=some r):PureC prog 21 [.d (slD QCm.enc a0),dI I] (dB r) []:=by
 refine pY tOk f21 rfl (bC h 0 (fun _=>JG) fun x1 h=>?_);cases h;exact lfP []
def Jn (a0:QCh) (I:(List QCm)):Option (Bool):=
 bd (Qeh I a0.Peer) fun J=>
 some (!J)
theorem QeT {a0:QCh} {I:(List QCm)} {r:Bool} (h:Jn a0 I=some r):PureC prog 20 [.agg [dI a0.Peer,.d (slD QCg.enc a0.Entries)],.rp [slD QCm.enc I]] (dB r) []:=by
 refine pY tOk f20 rfl (bC h 0 (fun _=>Qn5) fun x1 h=>?_);cases h;exact lfP []
def Zk (a0:(List QCh)) (J:(List QCm)):Option (Int):=
 bd (lp (σ:=Int) (β:=(Int⊕Unit)) (fun I=>
(if(decide (I<((a0.length:Nat):Int)))=true then
 gd ((0:Int)<=I∧I<((a0.length:Nat):Int))<|
 bd (Jn (a0.getD I.toNat default) J) fun O=>
(if O=true then
 some (.inr (.inl I))
else
 some (.inl (IntKind.i64.wrap (I+1))))
else
 some (.inr (.inr ())))) 0) fun U=>
(match U with
| .inl N=>
 some N
| .inr d8=>
 some (-1))
theorem Js {a0:(List QCh)} {J:(List QCm)} {r:Int} (h:Zk a0 J=some r):PureC prog 53 [.d (slD QCh.enc a0),.fn 20 [.rp [slD QCm.enc J]]] (dI r) []:=by
 refine pY tOk f53 rfl (Qb tOk ?_);obtain⟨x4,N,h⟩:=Qc h;refine Qm tOk N (fun U=>⟨0,19,[(0,.d (slD QCh.enc a0)),(1,.fn 20 [.rp [slD QCm.enc J]]),(7,dI ((a0.length:Nat):Int)),(8,dI U)],[],[],[]⟩) ?_ ?_
 ·exact leX []
 ·clear N;intro U y2 I O;refine Qb tOk ?_;apply Qr I<;>intro _ I
  ·refine Qb tOk (gdI I fun I=>bC I 0 (fun _=>QeT) fun x6 I=>?_);apply Qr I<;>intro _ I
   ·cases I
    cases O _ rfl
    cases h
    exact lfP []
   ·exact eX I []
  ·cases I
   cases O _ rfl
   cases h
   exact lfP []
def QB (a0:(List QCh)) (N:(List QCm)):Option ((List QCh)):=
 bd (Zk a0 N) fun O=>
(if(O==(-1))=true then
 some a0
else
 bd (lp (σ:=List QCh×Int×Int) (β:=(Nat×Int×(List QCh))) (fun I=>
(if(decide (I.2.2<((I.1.length:Nat):Int)))=true then
 gd ((0:Int)<=I.2.2∧I.2.2<((I.1.length:Nat):Int))<|
 bd (Jn (I.1.getD I.2.2.toNat default) N) fun U=>
(if(!U)=true then
 gd ((0:Int)<=I.2.1∧I.2.1<((I.1.length:Nat):Int))<|
 some (.inl (I.1.set I.2.1.toNat (I.1.getD I.2.2.toNat default),IntKind.i64.wrap (I.2.1+1),IntKind.i64.wrap (I.2.2+1)))
else
 some (.inl (I.1,I.2.1,IntKind.i64.wrap (I.2.2+1))))
else
 some (.inr (I.1.length,I.2.1,I.1)))) (a0,O,IntKind.i64.wrap (O+1))) fun J=>
 gd ((0:Int)<=J.2.1∧J.2.1<=((J.1:Nat):Int)∧((J.1:Nat):Int)<=((J.1:Nat):Int))<|
 gd ((0:Int)<=(0:Int)∧(0:Int)<=J.2.1∧J.2.1<=((J.1:Nat):Int))<|
 some ((Qph J.2.2 J.2.1.toNat (QbP ((J.1:Nat):Int) J.2.1)).take J.2.1.toNat))
theorem Z9 {a0:(List QCh)} {N:(List QCm)} {r:(List QCh)} (h:QB a0 N=some r):EffC prog 18 [.osl 9000 0 a0.length,.fn 20 [.rp [slD QCm.enc N]]] [(9000,.arr 49 2 a0.length (rows QCh.enc a0))] (.osl 5001 0 r.length) [(5001,.arr 49 2 r.length (rows QCh.enc r))]:=by
 refine eY tOk f18 rfl (bC h 0 (fun _=>Js) fun x1 h=>Qb tOk ?_);apply Qr h<;>intro _ h
 ·cases h
  exact lfE [.s [(5001,9000),(9000,5001)]]
 ·refine Qb tOk ?_;obtain⟨x5,O,h⟩:=Qc h;refine Qm tOk O (fun I=>⟨0,42,[(0,.osl 9000 0 I.1.length),(1,.fn 20 [.rp [slD QCm.enc N]]),(5,dI I.2.1),(6,dI I.2.2)],[],[(9000,.arr 49 2 I.1.length (rows QCh.enc I.1))],[⟨[],[]⟩]⟩) ?_ ?_
  ·exact leX []
  ·clear O;intro I y3 J a1;refine Qb tOk ?_;apply Qr J<;>intro _ J
   ·refine Qb tOk (gdI J fun J=>bC J 0 (fun _=>QeT) fun x7 J=>?_);apply Qr J<;>intro _ J
    ·refine gdI J fun J=>⟨rows QCh.enc (I.1.set I.2.1.toNat (I.1.getD I.2.2.toNat default)),Qau Qs2 rfl,?_⟩;exact eX J []
    ·exact eX J []
   ·cases J
    cases a1 _ rfl
    dsimp only at h;obtain⟨U,h⟩:=Qe h;refine aI U (⟨rows QCh.enc (Qph (I.1.length,I.2.1,I.1).2.2 (I.1.length,I.2.1,I.1).2.1.toNat (QbP (((I.1.length,I.2.1,I.1).1:Nat):Int) (I.1.length,I.2.1,I.1).2.1)),Qk0 Qs2 zlA,?_⟩);obtain⟨Y,h⟩:=Qe h;refine aI Y ?_;cases h;exact lfE [.c 4,.s [(5001,9000),(9000,5001)]]
def Qbm (a0:Bt):Option (QCj):=
 bd (Jf a0) fun I=>
 some I.1
theorem Qgu {a0:Bt} {r:QCj} (h:Qbm a0=some r):PureC prog 32 [.d (.str a0)] (.agg [dI r.Addr,dI r.Len]) []:=by
 refine pY tOk f32 rfl (bC h 0 (fun _=>QcK) fun x1 h=>?_);cases h;exact lfP []
def Qae (a0:(List Bt)):Option ((List QCn)):=
 bd (ZL a0 (⟨#[112,111,114,116]⟩:Bt)) fun J=>
 bd (lp (σ:=List QCn×Int) (β:=(Nat×(List QCn))) (fun I=>
(if(decide (I.2<((J.length:Nat):Int)))=true then
 gd ((0:Int)<=I.2∧I.2<((J.length:Nat):Int))<|
 gd ((0:Int)<=2∧2<(((J.getD I.2.toNat default).length:Nat):Int))<|
 bd (Qbm ((J.getD I.2.toNat default).getD 2 default)) fun O=>
 gd ((0:Int)<=1∧1<(((J.getD I.2.toNat default).length:Nat):Int))<|
 bd (Z3 ((J.getD I.2.toNat default).getD 1 default)) fun N=>
(if(decide ((((J.getD I.2.toNat default).length:Nat):Int)>4))=true then
 gd ((0:Int)<=4∧4<(((J.getD I.2.toNat default).length:Nat):Int))<|
 gd (((I.1.length)+(([(⟨N,O.Addr,O.Len,((J.getD I.2.toNat default).getD 4 default)⟩:QCn)]:List QCn).length))*(40+1)<=70368744177664)<|
 some (.inl ((I.1++([(⟨N,O.Addr,O.Len,((J.getD I.2.toNat default).getD 4 default)⟩:QCn)]:List QCn)),IntKind.i64.wrap (I.2+1)))
else
 gd (((I.1.length)+(([(⟨N,O.Addr,O.Len,ByteArray.empty⟩:QCn)]:List QCn).length))*(40+1)<=70368744177664)<|
 some (.inl ((I.1++([(⟨N,O.Addr,O.Len,ByteArray.empty⟩:QCn)]:List QCn)),IntKind.i64.wrap (I.2+1))))
else
 some (.inr (I.1.length,I.1)))) (([]:List QCn),0)) fun U=>
 some U.2
theorem Qgd {a0:(List Bt)} {r:(List QCn)} (h:Qae a0=some r):PureC prog 9 [.d (slD Qi a0)] (.osl 5001 0 r.length) [⟨5001,41,4,r.length,rows QCn.enc r⟩]:=by
 refine pY tOk f9 rfl (Qb tOk (bE h [] 1000 (fun _=>QdX) fun U h=>?_));obtain⟨x5,a1,h⟩:=Qc h;refine Qm tOk a1 (fun N=>⟨0,42,[(3,.osl 7001 0 N.1.length),(10,.osl 6001 0 U.length),(11,dI ((U.length:Nat):Int)),(12,dI N.2)],[],[(7001,.arr 41 4 N.1.length (rows QCn.enc N.1)),(6001,.arr 23 1 U.length (rows (Qew Qi) U))],[]⟩) ?_ ?_
 ·exact leX [.p 7001 41 4 (rows QCn.enc ([]:List QCn))]
 ·clear a1;intro N y3 I a2;refine Qb tOk ?_;apply Qr I<;>intro _ I
  ·refine Qb tOk (gdI I fun I=>gdI I fun I=>bC I 0 (fun _=>Qgu) fun O I=>?_);obtain⟨g9,I⟩:=Qe I;obtain⟨J,Y,I⟩:=Qc I;refine QQ tOk [.u 3 0 (dI J) []] 10 [] [0,1,3,7,0,16,0,64,255,0] [1023] (aI g9 (aI (Qp (QaU Y) (by kernel_rfl)) (aK (Qb tOk ?_))));apply Qr I<;>intro _ I
   ·refine gdI I fun I=>Z6 (enc:=QCn.enc) ([(⟨J,O.Addr,O.Len,((U.getD N.2.toNat default).getD 4 default)⟩:QCn)]:List QCn) (gdI I fun I=>QdW (enc:=QCn.enc) (xs:=N.1) (ys:=([(⟨J,O.Addr,O.Len,((U.getD N.2.toNat default).getD 4 default)⟩:QCn)]:List QCn)) ?_);exact eX I []
   ·refine Z6 (enc:=QCn.enc) ([(⟨J,O.Addr,O.Len,ByteArray.empty⟩:QCn)]:List QCn) (gdI I fun I=>QdW (enc:=QCn.enc) (xs:=N.1) (ys:=([(⟨J,O.Addr,O.Len,ByteArray.empty⟩:QCn)]:List QCn)) ?_);exact eX I []
  ·cases I
   cases a2 _ rfl
   cases h
   exact lfP [.s [(5001,7001),(7001,5001)]]
def QD (a0:(List QCo)):Option ((List QCo)):=
 gd (a0.length<4611686018427387904)<|
 gd (∀x∈a0,(-1000000<=x.Addr∧x.Addr<=1000000)∧(-1000000<=x.Len∧x.Len<=1000000)∧(-1000000<=x.Next∧x.Next<=1000000))<|
 gd (∀x∈a0,∀y∈a0,[x.Addr,x.Len,x.Next]=[y.Addr,y.Len,y.Next]->x=y)<|
 some (QaA (fun x y=>kLt [x.Addr,x.Len,x.Next] [y.Addr,y.Len,y.Next]) a0)
namespace Sf38
open Go.RowKit Go.Sort
theorem orW (ds:List Int) (n:Nat) (hn:ds.length=n) (hn2:n≤16) (b:Nat) (W:World) (r:Int) (hr:∀k,k<n→(∀j,j<k→ds.getD j 0=0)→ds.getD k 0≠0→r=ds.getD k 0) (hz:(∀j,j<n→ds.getD j 0=0)→r=0)
  (hc:∀i,i<n→W.cell? ⟨b,i,none⟩=some (.int .i64 (ds.getD i 0))):Calls prog 39 #[.slice (some ⟨b,0,none⟩) n n] W fun e w'=>e=.returned (.int .i64 r)∧w'=W:=by
 go_enter func39,ntmps39
 go_wp2
 go_loopw [8] (fun i wr=>∃(k:Nat),k≤n∧i=.int .i64 k∧wr=W∧∀j,j<k→ds.getD j 0=0)
  (fun i _=>n-(intOf i).toNat)
 case atStart=>
  exact⟨0,Nat.zero_le _,rfl,rfl,fun j hj=>by omega⟩
 case round=>
  obtain⟨k,hk,rfl,rfl,hs⟩:=hrel
  by_cases hlt:k<n
  ·have g2:=hc k hlt
   have hd:decide (k<n)=true:=decide_eq_true hlt
   have hr1:=hr k hlt hs
   generalize hx:ds.getD k 0=x at g2 hr1
   clear hc hz hr
   go_wp2
   ·go_ret
    rename_i hne
    refine⟨?_,rfl⟩
    first|trivial|rw[hr1 (by simpa using hne)]
    try rfl
   ·go_roundw
    case rel=>
     rename_i hne
     refine⟨k+1,by omega,by go_num,by first|trivial|rfl,fun j hj=>?_⟩
     rcases Nat.lt_or_ge j k with h|h
     ·exact hs j h
     ·have:j=k:=by omega
      subst this
      rw[hx];simpa using hne
    case measure=>simp[intOf];omega
  ·have hkn:k=n:=by omega
   have hd:decide (k<n)=false:=decide_eq_false hlt
   have:=hz fun j hj=>hs j (by omega)
   subst this
   go_wp2
   go_ret
   exact⟨by first|trivial|rfl,rfl⟩
theorem QBs {w:World} {d0 d1 d2:Int} {t:TypeId} {b:Nat} (hb:b=w.heap.size):∀i,i<3→(w.alloc (.cells #[.int .i64 d0,.int .i64 d1,.int .i64 d2] t)).cell? ⟨b,i,none⟩=some (.int .i64 ([d0,d1,d2].getD i 0)):=fun i hi=>by
 subst hb
 have e:(w.alloc (.cells #[.int .i64 d0,.int .i64 d1,.int .i64 d2] t)).heap[w.heap.size]? =some (.cells #[.int .i64 d0,.int .i64 d1,.int .i64 d2] t):=by
  show(w.heap.push _)[w.heap.size]? =_
  rw[Array.getElem?_push_size]
 unfold World.cell?
 rw[e]
 rcases i with _|_|_|i
 ·rfl
 ·rfl
 ·rfl
 ·omega
theorem QBt (d0 d1 d2:Int) (b:Nat) (w:World) (hc:∀i,i<3→w.cell? ⟨b,i,none⟩=some (.int .i64 ([d0,d1,d2].getD i 0))):Calls prog 39 #[.slice (some ⟨b,0,none⟩) 3 3] w fun e w'=>e=.returned (.int .i64 (orI [d0,d1,d2]))∧w'=w:=
 orW [d0,d1,d2] 3 rfl (by omega) b w _ (fun k hk hz hne=>by
  rcases k with _|_|_|k
  ·have hne:d0≠0:=hne
   simp only[orI];rw[if_neg hne];rfl
  ·have h0:d0=0:=hz 0 (by omega)
   have hne:d1≠0:=hne
   simp only[orI];rw[if_pos h0,if_neg hne];rfl
  ·have h0:d0=0:=hz 0 (by omega)
   have h1:d1=0:=hz 1 (by omega)
   have hne:d2≠0:=hne
   simp only[orI];rw[if_pos h0,if_pos h1,if_neg hne];rfl
  ·omega) (fun hz=>by
   have h0:d0=0:=hz 0 (by omega)
   have h1:d1=0:=hz 1 (by omega)
   have h2:d2=0:=hz 2 (by omega)
   simp only[orI];rw[if_pos h0,if_pos h1,if_pos h2]) hc
theorem walk (a0 a1 a2 b0 b1 b2:Int) (ha:-1000000≤a0∧a0≤1000000) (hb:-1000000≤b0∧b0≤1000000) (ha1:-1000000≤a1∧a1≤1000000) (hb1:-1000000≤b1∧b1≤1000000) (ha2:-1000000≤a2∧a2≤1000000) (hb2:-1000000≤b2∧b2≤1000000) (W:World):Calls prog 38 #[.agg #[.int .i64 a0,.int .i64 a1,.int .i64 a2],.agg #[.int .i64 b0,.int .i64 b1,.int .i64 b2]] W fun e w'=>e=.returned (.int .i64 (orI (QlA [a0,a1,a2] [b0,b1,b2])))∧∃q os',w'=grow (W.drewN q) os':=by
 have hw:IntKind.i64.wrap (a0-b0)=a0-b0:=Ql (by omega) (by omega)
 have hw1:IntKind.i64.wrap (a1-b1)=a1-b1:=Ql (by omega) (by omega)
 have hw2:IntKind.i64.wrap (a2-b2)=a2-b2:=Ql (by omega) (by omega)
 have hcall:=QBt (a0-b0) (a1-b1) (a2-b2)
 simp only[QlA]
 generalize orI [a0-b0,a1-b1,a2-b2]=r at hcall⊢
 go_enter func38,ntmps38
 go_wp2_with (go_at_call 39;refine(hcall _ _ (QBs (by simp only[World.alloc,Array.size_push]))).mono ?_;rintro e w' ⟨rfl,rfl⟩)
 go_ret
 exact⟨rfl,0,_,by rw[alloc_eq_grow,alloc_eq_grow,alloc_eq_grow,grow_grow,grow_grow];rfl⟩
end Sf38
theorem J8 {a0:(List QCo)} {r:(List QCo)} (h:QD a0=some r):EffC prog 37 [.osl 9000 0 a0.length,.fn 38 []] [(9000,.arr 45 3 a0.length (rows QCo.enc a0))] (.tup []) [(9000,.arr 45 3 a0.length (rows QCo.enc r))]:=by
 unfold QD at h
 obtain⟨U,h⟩:=Qe h
 obtain⟨I,h⟩:=Qe h
 obtain⟨O,h⟩:=Qe h
 obtain rfl:=sj_ h
 exact Qg4 (t:=45) (k:=3) (q:=3) (xs:=a0) (row:=QCo.enc) (ρ:=Lay.srfV_ren) (fs:=fun x=>[x.Addr,x.Len,x.Next]) (ks:=fun x=>[x.Addr,x.Len,x.Next]) Lay.srfV rfl isAgg45 sizeOf45 (fun _=>rfl) (fun _=>rfl) (fun _=>rfl) (QfH (fn:=f37) (c:=Qfk f37) rfl rfl (by kernel_rfl)) (enters_of func38 (by kernel_rfl) rfl) O U (fun x N y J W=>Sf38.walk x.Addr x.Len x.Next y.Addr y.Len y.Next (I x N).1 (I y J).1 (I x N).2.1 (I y J).2.1 (I x N).2.2 (I y J).2.2 W)
def Qbn (a0:(List Bt)):Option ((List QCo)):=
 bd (ZL a0 (⟨#[114,111,117,116,101]⟩:Bt)) fun J=>
 bd (lp (σ:=List QCo×Int) (β:=(Nat×(List QCo))) (fun I=>
(if(decide (I.2<((J.length:Nat):Int)))=true then
 gd ((0:Int)<=I.2∧I.2<((J.length:Nat):Int))<|
 gd ((0:Int)<=1∧1<(((J.getD I.2.toNat default).length:Nat):Int))<|
 bd (Qbm ((J.getD I.2.toNat default).getD 1 default)) fun U=>
 gd ((0:Int)<=2∧2<(((J.getD I.2.toNat default).length:Nat):Int))<|
 bd (ZJ ((J.getD I.2.toNat default).getD 2 default)) fun N=>
 gd (((I.1.length)+(([(⟨U.Addr,U.Len,N⟩:QCo)]:List QCo).length))*(24+1)<=70368744177664)<|
 some (.inl ((I.1++([(⟨U.Addr,U.Len,N⟩:QCo)]:List QCo)),IntKind.i64.wrap (I.2+1)))
else
 some (.inr (I.1.length,I.1)))) (([]:List QCo),0)) fun Y=>
 bd (QD Y.2) fun O=>
 gd (O.length=Y.1)<|
 some O
theorem Qgv {a0:(List Bt)} {r:(List QCo)} (h:Qbn a0=some r):PureC prog 11 [.d (slD Qi a0)] (.osl 5001 0 r.length) [⟨5001,45,3,r.length,rows QCo.enc r⟩]:=by
 refine pY tOk f11 rfl (Qb tOk (bE h [] 1000 (fun _=>QdX) fun x1 h=>?_));obtain⟨x5,Y,h⟩:=Qc h;refine Qm tOk Y (fun N=>⟨0,35,[(3,.osl 7001 0 N.1.length),(9,.osl 6001 0 x1.length),(10,dI ((x1.length:Nat):Int)),(11,dI N.2)],[],[(7001,.arr 45 3 N.1.length (rows QCo.enc N.1)),(6001,.arr 23 1 x1.length (rows (Qew Qi) x1))],[]⟩) ?_ ?_
 ·exact leX [.p 7001 45 3 (rows QCo.enc ([]:List QCo))]
 ·clear Y;intro N y3 I a1;refine Qb tOk ?_;apply Qr I<;>intro _ I
  ·refine Qb tOk (gdI I fun I=>gdI I fun I=>bC I 0 (fun _=>Qgu) fun x8 I=>?_);obtain⟨g9,I⟩:=Qe I;obtain⟨J,O,I⟩:=Qc I;refine QQ tOk [.u 8 0 (dI J) []] 11 [] [0,0,2,0,8,0,32,96,224,510,1022] [2047,4095] (aI g9 (aI (Qp (Qaw O) (by kernel_rfl)) (Z6 (enc:=QCo.enc) ([(⟨x8.Addr,x8.Len,J⟩:QCo)]:List QCo) (aK (gdI I fun I=>QdW (enc:=QCo.enc) (xs:=N.1) (ys:=([(⟨x8.Addr,x8.Len,J⟩:QCo)]:List QCo)) ?_)))));exact eX I []
  ·cases I
   cases a1 _ rfl
   obtain⟨x13,U,h⟩:=Qc h;obtain⟨g14,h⟩:=Qe h;refine cE [(9000,7001)] 0 (J8 U) ?_;cases h;exact lfP [.s [(5001,7001),(7001,5001)]]
def Qn (a0:(List QCj)):Option ((List QCj)):=
 gd (a0.length<4611686018427387904)<|
 gd (∀x∈a0,(-1000000<=x.Addr∧x.Addr<=1000000)∧(-1000000<=x.Len∧x.Len<=1000000))<|
 gd (∀x∈a0,∀y∈a0,[x.Addr,x.Len]=[y.Addr,y.Len]->x=y)<|
 some (QaA (fun x y=>kLt [x.Addr,x.Len] [y.Addr,y.Len]) a0)
namespace Sf51
open Go.RowKit Go.Sort
theorem walk (a0 a1 b0 b1:Int) (ha:-1000000≤a0∧a0≤1000000) (hb:-1000000≤b0∧b0≤1000000) (ha1:-1000000≤a1∧a1≤1000000) (hb1:-1000000≤b1∧b1≤1000000) (W:World):Calls prog 51 #[.agg #[.int .i64 a0,.int .i64 a1],.agg #[.int .i64 b0,.int .i64 b1]] W fun e w'=>e=.returned (.int .i64 (orI (QlA [a0,a1] [b0,b1])))∧∃q os',w'=grow (W.drewN q) os':=by
 have hw:IntKind.i64.wrap (a0-b0)=a0-b0:=Ql (by omega) (by omega)
 have hw1:IntKind.i64.wrap (a1-b1)=a1-b1:=Ql (by omega) (by omega)
 have ho1:a0=b0→orI (QlA [a0,a1] [b0,b1])=a1-b1:=fun h=>by subst h;simp only[QlA,orI];split<;>(try split)<;>omega
 have ho2:a0≠b0→orI (QlA [a0,a1] [b0,b1])=a0-b0:=fun h=>by simp only[QlA,orI];split<;>omega
 generalize orI (QlA [a0,a1] [b0,b1])=r at ho1 ho2⊢
 go_enter func51,ntmps51
 go_wp2
 all_goals go_ret
 ·rename_i h
  have h:a0≠b0:=by simpa using h
  exact⟨by rw[ho2 h];rfl,0,_,by rw[alloc_eq_grow,alloc_eq_grow,grow_grow];rfl⟩
 ·rename_i h
  have h:a0=b0:=by simpa using h
  exact⟨by rw[ho1 h];rfl,0,_,by rw[alloc_eq_grow,alloc_eq_grow,grow_grow];rfl⟩
end Sf51
theorem Jl {a0:(List QCj)} {r:(List QCj)} (h:Qn a0=some r):EffC prog 111 [.osl 9000 0 a0.length,.fn 51 []] [(9000,.arr 69 2 a0.length (rows QCj.enc a0))] (.tup []) [(9000,.arr 69 2 a0.length (rows QCj.enc r))]:=by
 unfold Qn at h
 obtain⟨U,h⟩:=Qe h
 obtain⟨I,h⟩:=Qe h
 obtain⟨O,h⟩:=Qe h
 obtain rfl:=sj_ h
 exact Qg4 (t:=69) (k:=2) (q:=2) (xs:=a0) (row:=QCj.enc) (ρ:=Lay.srfC_ren) (fs:=fun x=>[x.Addr,x.Len]) (ks:=fun x=>[x.Addr,x.Len]) Lay.srfC rfl isAgg69 sizeOf69 (fun _=>rfl) (fun _=>rfl) (fun _=>rfl) (QfH (fn:=f111) (c:=Qfk f111) rfl rfl (by kernel_rfl)) (enters_of func51 (by kernel_rfl) rfl) O U (fun x N y J W=>Sf51.walk x.Addr x.Len y.Addr y.Len (I x N).1 (I y J).1 (I x N).2 (I y J).2 W)
def QR (a0:(List QCj)):Option ((List QCj)):=
(if(decide (((a0.length:Nat):Int)<2))=true then
 some a0
else
 bd (lp (σ:=Int) (β:=((Nat×(List QCj)×Nat)⊕Unit)) (fun N=>
(if(decide (N<((a0.length:Nat):Int)))=true then
 gd ((0:Int)<=N∧N<((a0.length:Nat):Int))<|
 gd ((0:Int)<=IntKind.i64.wrap (N-1)∧IntKind.i64.wrap (N-1)<((a0.length:Nat):Int))<|
(if((((a0.getD N.toNat default).Addr)==((a0.getD ((IntKind.i64.wrap (N-1)).toNat) default).Addr))&&((((a0.getD N.toNat default).Len)==((a0.getD ((IntKind.i64.wrap (N-1)).toNat) default).Len))&&true))=true then
 gd ((0:Int)<=N∧N<=((a0.length:Nat):Int)∧((a0.length:Nat):Int)<=((a0.length:Nat):Int))<|
 bd (lp (σ:=List QCj×Int×Int) (β:=(Nat×Int×(List QCj))) (fun I=>
(if(decide (I.2.2<(((QbP ((a0.length:Nat):Int) N):Nat):Int)))=true then
 gd ((0:Int)<=I.2.2∧I.2.2<(((QbP ((a0.length:Nat):Int) N):Nat):Int))<|
 gd ((0:Int)<=IntKind.i64.wrap (I.2.2-1)∧IntKind.i64.wrap (I.2.2-1)<(((QbP ((a0.length:Nat):Int) N):Nat):Int))<|
(if(!((((I.1.getD (Qgw N.toNat (I.2.2.toNat)) default).Addr)==((I.1.getD (Qgw N.toNat ((IntKind.i64.wrap (I.2.2-1)).toNat)) default).Addr))&&((((I.1.getD (Qgw N.toNat (I.2.2.toNat)) default).Len)==((I.1.getD (Qgw N.toNat ((IntKind.i64.wrap (I.2.2-1)).toNat)) default).Len))&&true)))=true then
 gd ((0:Int)<=I.2.2∧I.2.2<(((QbP ((a0.length:Nat):Int) N):Nat):Int))<|
 gd ((0:Int)<=I.2.1∧I.2.1<((I.1.length:Nat):Int))<|
 some (.inl (I.1.set I.2.1.toNat (I.1.getD (Qgw N.toNat (I.2.2.toNat)) default),IntKind.i64.wrap (I.2.1+1),IntKind.i64.wrap (I.2.2+1)))
else
 some (.inl (I.1,I.2.1,IntKind.i64.wrap (I.2.2+1))))
else
 some (.inr (I.1.length,I.2.1,I.1)))) (a0,N,1)) fun J=>
 gd ((0:Int)<=J.2.1∧J.2.1<=((J.1:Nat):Int)∧((J.1:Nat):Int)<=((J.1:Nat):Int))<|
 gd ((0:Int)<=(0:Int)∧(0:Int)<=J.2.1∧J.2.1<=((J.1:Nat):Int))<|
 some (.inr (.inl (J.2.1.toNat,(Qph J.2.2 J.2.1.toNat (QbP ((J.1:Nat):Int) J.2.1)),J.1)))
else
 some (.inl (IntKind.i64.wrap (N+1))))
else
 some (.inr (.inr ())))) 1) fun U=>
(match U with
| .inl O=>
 some (O.2.1.take O.1)
| .inr d20=>
 some a0))
theorem QbX {a0:(List QCj)} {r:(List QCj)} (h:QR a0=some r):EffC prog 112 [.osl 9000 0 a0.length] [(9000,.arr 69 2 a0.length (rows QCj.enc a0))] (.d (slD QCj.enc r)) []:=by
 refine eY tOk f112 rfl (Qb tOk ?_);apply Qr h<;>intro _ h
 ·cases h
  exact lfE [.f [9000]]
 ·refine Qb tOk ?_;obtain⟨x4,U,h⟩:=Qc h;refine Qm tOk U (fun s1=>⟨0,61,[(0,.osl 9000 0 a0.length),(3,dI s1)],[],[(9000,.arr 69 2 a0.length (rows QCj.enc a0))],[⟨[],[]⟩]⟩) ?_ ?_
  ·exact leX []
  ·clear U;intro s1 y2 N Y;refine Qb tOk ?_;apply Qr N<;>intro _ N
   ·refine Qb tOk ?_;obtain⟨g5,N⟩:=Qe N;obtain⟨g6,N⟩:=Qe N;refine QQ tOk [] 10 [] [0,0,3,7,0,0,32,112,240,511] [] (aI g5 (aI g6 (aK ?_)));apply Qr N<;>intro _ N
    ·obtain⟨g7,N⟩:=Qe N;refine aI g7 (Qb tOk ?_);obtain⟨x11,O,N⟩:=Qc N;refine Qm tOk O (fun J=>⟨0,61,[(0,.osl 9000 0 J.1.length),(3,dI J.2.1),(4,.osl 9000 s1.toNat (QbP ((a0.length:Nat):Int) s1)),(5,dI J.2.2)],[],[(9000,.arr 69 2 J.1.length (rows QCj.enc J.1))],[⟨[],[]⟩]⟩) ?_ ?_
     ·exact leX []
     ·clear O;intro J y9 I a2;refine Qb tOk ?_;apply Qr I<;>intro _ I
      ·refine Qb tOk ?_;obtain⟨a6,I⟩:=Qe I;obtain⟨a5,I⟩:=Qe I;refine QQ tOk [] 10 [] [0,0,3,7,0,0,32,112,240,511] [] (aI a6 (aI a5 (aK ?_)));apply Qr I<;>intro _ I
       ·refine gdI I fun I=>gdI I fun I=>⟨rows QCj.enc (J.1.set J.2.1.toNat (J.1.getD (Qgw s1.toNat (J.2.2.toNat)) default)),Qau Qs2 rfl,?_⟩;exact eX I []
       ·exact eX I []
      ·cases I
       cases a2 _ rfl
       obtain⟨a7,N⟩:=Qe N;refine aI a7 (⟨rows QCj.enc (Qph (J.1.length,J.2.1,J.1).2.2 (J.1.length,J.2.1,J.1).2.1.toNat (QbP (((J.1.length,J.2.1,J.1).1:Nat):Int) (J.1.length,J.2.1,J.1).2.1)),Qk0 Qs2 zlA,?_⟩);obtain⟨a1,N⟩:=Qe N;refine aI a1 ?_;cases N;cases Y _ rfl;cases h
       try dsimp only at*
       try dsimp only at*
       exact lfE [.f [9000]]
    ·exact eX N []
   ·cases N
    cases Y _ rfl
    cases h
    try dsimp only at*
    try dsimp only at*
    exact lfE [.f [9000]]
def JX (a0:QCp):Option ((List QCj)):=
 bd (lp (σ:=List QCj×Int) (β:=(Nat×(List QCj))) (fun N=>
(if(decide (N.2<((a0.ports.length:Nat):Int)))=true then
 gd ((0:Int)<=N.2∧N.2<((a0.ports.length:Nat):Int))<|
 gd (((N.1.length)+(([(⟨(a0.ports.getD N.2.toNat default).Addr,(a0.ports.getD N.2.toNat default).Len⟩:QCj)]:List QCj).length))*(16+1)<=70368744177664)<|
 some (.inl ((N.1++([(⟨(a0.ports.getD N.2.toNat default).Addr,(a0.ports.getD N.2.toNat default).Len⟩:QCj)]:List QCj)),IntKind.i64.wrap (N.2+1)))
else
 some (.inr (N.1.length,N.1)))) (([]:List QCj),0)) fun x4=>
 bd (lp (σ:=List QCj×Int) (β:=(Nat×(List QCj))) (fun O=>
(if(decide (O.2<((a0.vias.length:Nat):Int)))=true then
 gd ((0:Int)<=O.2∧O.2<((a0.vias.length:Nat):Int))<|
 gd (((O.1.length)+(([(⟨(a0.vias.getD O.2.toNat default).Addr,(a0.vias.getD O.2.toNat default).Len⟩:QCj)]:List QCj).length))*(16+1)<=70368744177664)<|
 some (.inl ((O.1++([(⟨(a0.vias.getD O.2.toNat default).Addr,(a0.vias.getD O.2.toNat default).Len⟩:QCj)]:List QCj)),IntKind.i64.wrap (O.2+1)))
else
 some (.inr (O.1.length,O.1)))) (x4.2,0)) fun a5=>
 bd (lp (σ:=List QCj×Int) (β:=(Nat×(List QCj))) (fun I=>
(if(decide (I.2<((a0.heard.length:Nat):Int)))=true then
 gd ((0:Int)<=I.2∧I.2<((a0.heard.length:Nat):Int))<|
 bd (lp (σ:=List QCj×Int) (β:=(Nat×(List QCj))) (fun J=>
(if(decide (J.2<((((a0.heard.getD I.2.toNat default).Entries).length:Nat):Int)))=true then
 gd ((0:Int)<=J.2∧J.2<((((a0.heard.getD I.2.toNat default).Entries).length:Nat):Int))<|
 bd (Q4 (((a0.heard.getD I.2.toNat default).Entries).getD J.2.toNat default)) fun a1=>
 gd (((J.1.length)+(([a1]:List QCj).length))*(16+1)<=70368744177664)<|
 some (.inl ((J.1++([a1]:List QCj)),IntKind.i64.wrap (J.2+1)))
else
 some (.inr (J.1.length,J.1)))) (I.1,0)) fun a2=>
 some (.inl (a2.2,IntKind.i64.wrap (I.2+1)))
else
 some (.inr (I.1.length,I.1)))) (a5.2,0)) fun U=>
 bd (Qn U.2) fun Y=>
 gd (Y.length=U.1)<|
 bd (QR Y) fun a6=>
 some a6
theorem Qgk {a0:QCp} {r:(List QCj)} (h:JX a0=some r):EffC prog 57 [.rp [slD QCn.enc a0.ports,slD QCo.enc a0.vias,slD QCh.enc a0.heard]] [] (.d (slD QCj.enc r)) []:=by
 refine eY tOk f57 rfl (Qb tOk ?_);obtain⟨x4,a7,h⟩:=Qc h;refine Qm tOk a7 (fun Y=>⟨0,76,[(0,.rp [slD QCn.enc a0.ports,slD QCo.enc a0.vias,slD QCh.enc a0.heard]),(3,.osl 7001 0 Y.1.length),(16,.d (slD QCn.enc a0.ports)),(17,dI ((a0.ports.length:Nat):Int)),(18,dI Y.2)],[],[(7001,.arr 69 2 Y.1.length (rows QCj.enc Y.1))],[⟨[],[]⟩]⟩) ?_ ?_
 ·exact leX [.p 7001 69 2 (rows QCj.enc ([]:List QCj))]
 ·clear a7;intro Y y2 g3 b1;refine Qb tOk ?_;apply Qr g3<;>intro _ g3
  ·refine Qb tOk (gdI g3 fun g3=>Z6 (enc:=QCj.enc) ([(⟨(a0.ports.getD Y.2.toNat default).Addr,(a0.ports.getD Y.2.toNat default).Len⟩:QCj)]:List QCj) (gdI g3 fun g3=>QdW (enc:=QCj.enc) (xs:=Y.1) (ys:=([(⟨(a0.ports.getD Y.2.toNat default).Addr,(a0.ports.getD Y.2.toNat default).Len⟩:QCj)]:List QCj)) ?_));exact eX g3 []
  ·cases g3
   cases b1 _ rfl
   refine Qb tOk ?_;obtain⟨x11,a1,h⟩:=Qc h;refine Qm tOk a1 (fun s8=>⟨0,76,[(0,.rp [slD QCn.enc a0.ports,slD QCo.enc a0.vias,slD QCh.enc a0.heard]),(3,.osl 7001 0 s8.1.length),(34,.d (slD QCo.enc a0.vias)),(35,dI ((a0.vias.length:Nat):Int)),(36,dI s8.2)],[],[(7001,.arr 69 2 s8.1.length (rows QCj.enc s8.1))],[⟨[],[]⟩]⟩) ?_ ?_
   ·exact leX []
   ·clear a1;intro s8 y9 O b2;refine Qb tOk ?_;apply Qr O<;>intro _ O
    ·refine Qb tOk (gdI O fun O=>Z6 (enc:=QCj.enc) ([(⟨(a0.vias.getD s8.2.toNat default).Addr,(a0.vias.getD s8.2.toNat default).Len⟩:QCj)]:List QCj) (gdI O fun O=>QdW (enc:=QCj.enc) (xs:=s8.1) (ys:=([(⟨(a0.vias.getD s8.2.toNat default).Addr,(a0.vias.getD s8.2.toNat default).Len⟩:QCj)]:List QCj)) ?_));exact eX O []
    ·cases O
     cases b2 _ rfl
     refine Qb tOk ?_;obtain⟨x18,a2,h⟩:=Qc h;refine Qm tOk a2 (fun N=>⟨0,76,[(3,.osl 7001 0 N.1.length),(52,.d (slD QCh.enc a0.heard)),(53,dI ((a0.heard.length:Nat):Int)),(54,dI N.2)],[],[(7001,.arr 69 2 N.1.length (rows QCj.enc N.1))],[⟨[],[]⟩]⟩) ?_ ?_
     ·exact leX []
     ·clear a2;intro N y16 J a8;refine Qb tOk ?_;apply Qr J<;>intro _ J
      ·refine Qb tOk (gdI J fun J=>?_);obtain⟨x23,a5,J⟩:=Qc J;refine Qm tOk a5 (fun U=>⟨0,76,[(3,.osl 7001 0 U.1.length),(52,.d (slD QCh.enc a0.heard)),(53,dI ((a0.heard.length:Nat):Int)),(54,dI N.2),(59,.d (slD QCg.enc ((a0.heard.getD N.2.toNat default).Entries))),(60,dI ((((a0.heard.getD N.2.toNat default).Entries).length:Nat):Int)),(61,dI U.2)],[],[(7001,.arr 69 2 U.1.length (rows QCj.enc U.1))],[⟨[],[]⟩]⟩) ?_ ?_
       ·exact leX []
       ·clear a5;intro U y21 I a6;refine Qb tOk ?_;apply Qr I<;>intro _ I
        ·refine Qb tOk (gdI I fun I=>bC I 0 (fun _=>ZQ) fun a9 I=>Z6 (enc:=QCj.enc) ([a9]:List QCj) (gdI I fun I=>QdW (enc:=QCj.enc) (xs:=U.1) (ys:=([a9]:List QCj)) ?_));exact eX I []
        ·cases I
         cases a6 _ rfl
         exact eX J []
      ·cases J
       cases a8 _ rfl
       obtain⟨x29,b0,h⟩:=Qc h;obtain⟨g31,h⟩:=Qe h;refine cE [(9000,7001)] 0 (Jl b0) (bE h [(9000,7001)] 0 (fun _=>QbX) fun x30 h=>?_);cases h;exact lfE []
def QaG (a0:QCp) (J:QCj):Option ((List QCk)):=
 bd (lp (σ:=Int) (β:=((Nat×(List QCk))⊕Unit)) (fun I=>
(if(decide (I<((a0.ports.length:Nat):Int)))=true then
 gd ((0:Int)<=I∧I<((a0.ports.length:Nat):Int))<|
(if((((a0.ports.getD I.toNat default).Addr)==J.Addr)&&((((a0.ports.getD I.toNat default).Len)==J.Len)&&true))=true then
 some (.inr (.inl (([(⟨0,(a0.ports.getD I.toNat default).Port⟩:QCk)]:List QCk).length,([(⟨0,(a0.ports.getD I.toNat default).Port⟩:QCk)]:List QCk))))
else
 some (.inl (IntKind.i64.wrap (I+1))))
else
 some (.inr (.inr ())))) 0) fun O=>
(match O with
| .inl N=>
 some N.2
| .inr d7=>
 some [])
theorem Qhn {a0:QCp} {J:QCj} {r:(List QCk)} (h:QaG a0 J=some r):PureC prog 58 [.rp [slD QCn.enc a0.ports,slD QCo.enc a0.vias,slD QCh.enc a0.heard],.agg [dI J.Addr,dI J.Len]] (.osl 5001 0 r.length) [⟨5001,43,2,r.length,rows QCk.enc r⟩]:=by
 refine pY tOk f58 rfl (Qb tOk ?_);obtain⟨x4,N,h⟩:=Qc h;refine Qm tOk N (fun U=>⟨0,28,[(3,.ref 3 0 0),(10,.d (slD QCn.enc a0.ports)),(11,dI ((a0.ports.length:Nat):Int)),(12,dI U)],[],[(3,.box 69 [dI J.Addr,dI J.Len])],[]⟩) ?_ ?_
 ·exact leX []
 ·clear N;intro U y2 I O;refine Qb tOk ?_;apply Qr I<;>intro _ I
  ·refine Qb tOk (gdI I fun I=>?_);apply Qr I<;>intro _ I
   ·refine Z6 (enc:=QCk.enc) ([(⟨0,(a0.ports.getD U.toNat default).Port⟩:QCk)]:List QCk) ?_;cases I;cases O _ rfl;cases h;exact lfP [.s [(26,5001),(5001,26)]]
   ·exact eX I []
  ·cases I
   cases O _ rfl
   cases h
   exact lfP [.p 5001 43 2 (rows QCk.enc ([]:List QCk))]
def QcS (a0:(List QCn)) (J:Int):Option (Int):=
 bd (lp (σ:=Int) (β:=(Int⊕Unit)) (fun I=>
(if(decide (I<((a0.length:Nat):Int)))=true then
 gd ((0:Int)<=I∧I<((a0.length:Nat):Int))<|
 bd (Q7 (⟨(a0.getD I.toNat default).Addr,(a0.getD I.toNat default).Len⟩:QCj) J) fun O=>
(if O=true then
 some (.inr (.inl ((a0.getD I.toNat default).Port)))
else
 some (.inl (IntKind.i64.wrap (I+1))))
else
 some (.inr (.inr ())))) 0) fun U=>
(match U with
| .inl N=>
 some N
| .inr d8=>
 some (-1))
theorem QiI {a0:(List QCn)} {O:Int} {r:Int} (h:QcS a0 O=some r):PureC prog 113 [.d (slD QCn.enc a0),dI O] (dI r) []:=by
 refine pY tOk f113 rfl (Qb tOk ?_);obtain⟨x4,J,h⟩:=Qc h;refine Qm tOk J (fun U=>⟨0,23,[(1,dI O),(7,.d (slD QCn.enc a0)),(8,dI ((a0.length:Nat):Int)),(9,dI U)],[],[],[]⟩) ?_ ?_
 ·exact leX []
 ·clear J;intro U y2 I N;refine Qb tOk ?_;apply Qr I<;>intro _ I
  ·refine Qb tOk (gdI I fun I=>bC I 0 (fun _=>Jw) fun x6 I=>?_);apply Qr I<;>intro _ I
   ·cases I
    cases N _ rfl
    cases h
    exact lfP []
   ·exact eX I []
  ·cases I
   cases N _ rfl
   cases h
   exact lfP []
def Jy (a0:QCp) (J:QCj):Option ((List QCk)):=
 bd (lp (σ:=List QCk×Int) (β:=(Nat×(List QCk))) (fun I=>
(if(decide (I.2<((a0.vias.length:Nat):Int)))=true then
 gd ((0:Int)<=I.2∧I.2<((a0.vias.length:Nat):Int))<|
(if((((a0.vias.getD I.2.toNat default).Addr)==J.Addr)&&((((a0.vias.getD I.2.toNat default).Len)==J.Len)&&true))=true then
 bd (QcS a0.ports ((a0.vias.getD I.2.toNat default).Next)) fun N=>
 gd (((I.1.length)+(([(⟨(a0.vias.getD I.2.toNat default).Next,N⟩:QCk)]:List QCk).length))*(16+1)<=70368744177664)<|
 some (.inl ((I.1++([(⟨(a0.vias.getD I.2.toNat default).Next,N⟩:QCk)]:List QCk)),IntKind.i64.wrap (I.2+1)))
else
 some (.inl (I.1,IntKind.i64.wrap (I.2+1))))
else
 some (.inr (I.1.length,I.1)))) (([]:List QCk),0)) fun O=>
 some O.2
theorem Qho {a0:QCp} {N:QCj} {r:(List QCk)} (h:Jy a0 N=some r):PureC prog 59 [.rp [slD QCn.enc a0.ports,slD QCo.enc a0.vias,slD QCh.enc a0.heard],.agg [dI N.Addr,dI N.Len]] (.osl 5001 0 r.length) [⟨5001,43,2,r.length,rows QCk.enc r⟩]:=by
 refine pY tOk f59 rfl (Qb tOk ?_);obtain⟨x4,O,h⟩:=Qc h;refine Qm tOk O (fun J=>⟨0,40,[(0,.rp [slD QCn.enc a0.ports,slD QCo.enc a0.vias,slD QCh.enc a0.heard]),(3,.ref 3 0 0),(5,.osl 7001 0 J.1.length),(12,.d (slD QCo.enc a0.vias)),(13,dI ((a0.vias.length:Nat):Int)),(14,dI J.2)],[],[(7001,.arr 43 2 J.1.length (rows QCk.enc J.1)),(3,.box 69 [dI N.Addr,dI N.Len])],[]⟩) ?_ ?_
 ·exact leX [.p 7001 43 2 (rows QCk.enc ([]:List QCk))]
 ·clear O;intro J y2 I U;refine Qb tOk ?_;apply Qr I<;>intro _ I
  ·refine Qb tOk (gdI I fun I=>?_);apply Qr I<;>intro _ I
   ·obtain⟨x6,Y,I⟩:=Qc I;refine QQ tOk [.u 9 0 (dI x6) []] 12 [] [0,0,2,0,8,24,56,0,128,504,1022,2046] [4095,8191] (aI (Qp (QiI Y) (by kernel_rfl)) (Z6 (enc:=QCk.enc) ([(⟨(a0.vias.getD J.2.toNat default).Next,x6⟩:QCk)]:List QCk) (aK (gdI I fun I=>QdW (enc:=QCk.enc) (xs:=J.1) (ys:=([(⟨(a0.vias.getD J.2.toNat default).Next,x6⟩:QCk)]:List QCk)) ?_))));exact eX I []
   ·exact eX I []
  ·cases I
   cases U _ rfl
   cases h
   exact lfP [.s [(5001,7001),(7001,5001)]]
def Qam (a0:QCg) (I:QCj):Option (Int):=
 bd (Q4 a0) fun N=>
 bd (Jx N I) fun J=>
 some J
theorem QeU {a0:QCg} {I:QCj} {r:Int} (h:Qam a0 I=some r):PureC prog 179 [.agg (hnC a0),.agg [dI I.Addr,dI I.Len]] (dI r) []:=by
 refine pY tOk f179 rfl ?_;obtain⟨O,N,h⟩:=Qc h;obtain⟨U,J,h⟩:=Qc h;refine QQ tOk [.u 1 0 (.agg [dI O.Addr,dI O.Len]) [],.u 3 0 (dI U) []] 5 [] [0,1,0,7,15] [] (aI (Qp (ZQ N) (by kernel_rfl)) (aI (Qp (Qd4 J) (by kernel_rfl)) (aK ?_)));cases h;exact lfP []
def Qq (a0:(List QCg)) (O:QCj):Option (Int×Bool):=
 bd (lp (σ:=Int×Int) (β:=(Int)) (fun I=>
(if(decide (I.2<I.1))=true then
 gd ((0:Int)<=1)<|
 gd ((0:Int)<=IntKind.i64.wrap ((IntKind.u64.wrap (IntKind.i64.wrap (I.2+I.1)):Int).fdiv (2^min (1:Int).toNat IntKind.u64.bits))∧IntKind.i64.wrap ((IntKind.u64.wrap (IntKind.i64.wrap (I.2+I.1)):Int).fdiv (2^min (1:Int).toNat IntKind.u64.bits))<((a0.length:Nat):Int))<|
 bd (Qam (a0.getD ((IntKind.i64.wrap ((IntKind.u64.wrap (IntKind.i64.wrap (I.2+I.1)):Int).fdiv (2^min (1:Int).toNat IntKind.u64.bits))).toNat) default) O) fun U=>
(if(decide (U<0))=true then
 some (.inl (I.1,IntKind.i64.wrap ((IntKind.i64.wrap ((IntKind.u64.wrap (IntKind.i64.wrap (I.2+I.1)):Int).fdiv (2^min (1:Int).toNat IntKind.u64.bits)))+1)))
else
 some (.inl (IntKind.i64.wrap ((IntKind.u64.wrap (IntKind.i64.wrap (I.2+I.1)):Int).fdiv (2^min (1:Int).toNat IntKind.u64.bits)),I.2)))
else
 some (.inr I.2))) (((a0.length:Nat):Int),0)) fun J=>
 gd ((decide (J<((a0.length:Nat):Int)))=true->((0:Int)<=J∧J<((a0.length:Nat):Int)))<|
 bd (Qv ((decide (J<((a0.length:Nat):Int)))=true) (Qam (a0.getD J.toNat default) O)) fun N=>
 some (J,((decide (J<((a0.length:Nat):Int)))&&(N==0)))
theorem Zw {a0:(List QCg)} {J:QCj} {r:Int×Bool} (h:Qq a0 J=some r):PureC prog 178 [.d (slD QCg.enc a0),.agg [dI J.Addr,dI J.Len],.fn 179 []] (.tup [dI r.1,dB r.2]) []:=by
 refine pY tOk f178 rfl (Qb tOk ?_);obtain⟨x4,O,h⟩:=Qc h;refine Qm tOk O (fun Y=>⟨0,49,[(0,.d (slD QCg.enc a0)),(2,.fn 179 []),(4,.ref 4 0 0),(8,dI ((a0.length:Nat):Int)),(9,dI Y.2),(10,dI Y.1)],[],[(4,.box 69 [dI J.Addr,dI J.Len])],[]⟩) ?_ ?_
 ·exact leX []
 ·clear O;intro Y y2 I a2;refine Qb tOk ?_;apply Qr I<;>intro _ I
  ·refine gdI I fun I=>?_;obtain⟨g6,I⟩:=Qe I;obtain⟨x7,a5,I⟩:=Qc I;refine QQ tOk [.u 6 0 (dI x7) []] 8 [] [0,0,0,6,14,0,63,127] [] (aI g6 (aI (Qp (QeU a5) (by kernel_rfl)) (aK ?_)));apply Qr I<;>intro _ I
   ·exact eX I []
   ·exact eX I []
  ·cases I
   cases a2 _ rfl
   obtain⟨g9,h⟩:=Qe h;obtain⟨U,N,h⟩:=Qc h;refine QQ tOk [.u 11 0 (dI U) []] 16 [] [0,0,0,6,14,30,30,30,222,478,30,2046,4094,8190,4095,32767] [] (aI g9 (aI (QJ rfl rfl rfl rfl (by intro c0;exact QeU (Qt N c0))) (aK ?_)));cases h;exact lfP []
def Qa3 (a0:(List QCg)) (J:QCj):Option (Int×Bool):=
 bd (Qq a0 J) fun I=>
 some (I.1,I.2)
theorem QkH {a0:(List QCg)} {I:QCj} {r:Int×Bool} (h:Qa3 a0 I=some r):PureC prog 114 [.d (slD QCg.enc a0),.agg [dI I.Addr,dI I.Len]] (.tup [dI r.1,dB r.2]) []:=by
 refine pY tOk f114 rfl (bC h 0 (fun _=>Zw) fun x1 h=>?_);cases h;exact lfP []
def Jz (a0:QCp) (U:QCj):Option ((List QCk)):=
 bd (lp (σ:=List QCk×Int×Int) (β:=(Nat×(List QCk))) (fun I=>
(if(decide (I.2.1<((a0.heard.length:Nat):Int)))=true then
 gd ((0:Int)<=I.2.1∧I.2.1<((a0.heard.length:Nat):Int))<|
 bd (Qa3 ((a0.heard.getD I.2.1.toNat default).Entries) U) fun J=>
 gd ((!J.2)=false->((0:Int)<=J.1∧J.1<((((a0.heard.getD I.2.1.toNat default).Entries).length:Nat):Int)))<|
(if((!J.2)||(decide (((((a0.heard.getD I.2.1.toNat default).Entries).getD J.1.toNat default).Cost)>I.2.2)))=true then
 some (.inl (I.1,IntKind.i64.wrap (I.2.1+1),I.2.2))
else
 bd (α:=List QCk×Int) (gd ((0:Int)<=J.1∧J.1<((((a0.heard.getD I.2.1.toNat default).Entries).length:Nat):Int))<|
(if(decide (((((a0.heard.getD I.2.1.toNat default).Entries).getD J.1.toNat default).Cost)<I.2.2))=true then
 gd ((0:Int)<=J.1∧J.1<((((a0.heard.getD I.2.1.toNat default).Entries).length:Nat):Int))<|
 some (([]:List QCk),(((a0.heard.getD I.2.1.toNat default).Entries).getD J.1.toNat default).Cost)
else
 some (I.1,I.2.2))) fun O=>
 bd (QcS a0.ports ((a0.heard.getD I.2.1.toNat default).Peer)) fun N=>
 gd (((O.1.length)+(([(⟨(a0.heard.getD I.2.1.toNat default).Peer,N⟩:QCk)]:List QCk).length))*(16+1)<=70368744177664)<|
 some (.inl ((O.1++([(⟨(a0.heard.getD I.2.1.toNat default).Peer,N⟩:QCk)]:List QCk)),IntKind.i64.wrap (I.2.1+1),O.2)))
else
 some (.inr (I.1.length,I.1)))) (([]:List QCk),0,256)) fun Y=>
 some Y.2
theorem Qhp {a0:QCp} {O:QCj} {r:(List QCk)} (h:Jz a0 O=some r):PureC prog 60 [.rp [slD QCn.enc a0.ports,slD QCo.enc a0.vias,slD QCh.enc a0.heard],.agg [dI O.Addr,dI O.Len]] (.osl 5001 0 r.length) [⟨5001,43,2,r.length,rows QCk.enc r⟩]:=by
 refine pY tOk f60 rfl (Qb tOk ?_);obtain⟨x4,a5,h⟩:=Qc h;refine Qm tOk a5 (fun N=>⟨0,69,[(0,.rp [slD QCn.enc a0.ports,slD QCo.enc a0.vias,slD QCh.enc a0.heard]),(3,.ref 3 0 0),(5,.osl 7001 0 N.1.length),(6,dI N.2.2),(15,.d (slD QCh.enc a0.heard)),(16,dI ((a0.heard.length:Nat):Int)),(17,dI N.2.1)],[],[(7001,.arr 43 2 N.1.length (rows QCk.enc N.1)),(3,.box 69 [dI O.Addr,dI O.Len])],[]⟩) ?_ ?_
 ·exact leX [.p 7001 43 2 (rows QCk.enc ([]:List QCk))]
 ·clear a5;intro N y2 I a6;refine Qb tOk ?_;apply Qr I<;>intro _ I
  ·refine Qb tOk (gdI I fun I=>bC I 0 (fun _=>QkH) fun x6 I=>Qb tOk (gdI I fun I=>?_));apply Qr I<;>intro _ I
   ·exact eX I []
   ·obtain⟨x8,J,I⟩:=Qc I;refine Qah tOk (fun Y=>⟨0,69,[(0,.rp [slD QCn.enc a0.ports,slD QCo.enc a0.vias,slD QCh.enc a0.heard]),(3,.ref 3 0 0),(5,.osl 7001 0 Y.1.length),(6,dI Y.2),(8,.ref 8 0 0),(15,.d (slD QCh.enc a0.heard)),(16,dI ((a0.heard.length:Nat):Int)),(17,dI N.2.1)],[],[(7001,.arr 43 2 Y.1.length (rows QCk.enc Y.1)),(8,.box 49 [dI ((a0.heard.getD N.2.1.toNat default).Peer),.d (slD QCg.enc ((a0.heard.getD N.2.1.toNat default).Entries))]),(3,.box 69 [dI O.Addr,dI O.Len])],[]⟩) (fun Y=>x8=Y) ?_ ?_
    ·refine gdI J fun J=>?_;apply Qr J<;>intro _ J
     ·refine gdI J fun J=>?_;exact eZ J [.k [7001],.p 7001 43 2 (rows QCk.enc ([]:List QCk))]
     ·exact eZ J []
    ·rintro _ rfl;obtain⟨U,a2,I⟩:=Qc I;refine QQ tOk [.u 9 0 (dI U) []] 12 [] [0,0,2,0,8,24,56,0,128,504,1022,2046] [4095,8191] (aI (Qp (QiI a2) (by kernel_rfl)) (Z6 (enc:=QCk.enc) ([(⟨(a0.heard.getD N.2.1.toNat default).Peer,U⟩:QCk)]:List QCk) (aK (gdI I fun I=>QdW (enc:=QCk.enc) (xs:=x8.1) (ys:=([(⟨(a0.heard.getD N.2.1.toNat default).Peer,U⟩:QCk)]:List QCk)) ?_))));exact eX I []
  ·cases I
   cases a6 _ rfl
   cases h
   exact lfP [.s [(5001,7001),(7001,5001)]]
def QA (a0:(List QCk)):Option ((List QCk)):=
 gd (a0.length<4611686018427387904)<|
 gd (∀x∈a0,(-1000000<=x.Next∧x.Next<=1000000)∧(-1000000<=x.Port∧x.Port<=1000000))<|
 gd (∀x∈a0,∀y∈a0,[x.Next,x.Port]=[y.Next,y.Port]->x=y)<|
 some (QaA (fun x y=>kLt [x.Next,x.Port] [y.Next,y.Port]) a0)
namespace Sf62
open Go.RowKit Go.Sort
theorem orW (ds:List Int) (n:Nat) (hn:ds.length=n) (hn2:n≤16) (b:Nat) (W:World) (r:Int) (hr:∀k,k<n→(∀j,j<k→ds.getD j 0=0)→ds.getD k 0≠0→r=ds.getD k 0) (hz:(∀j,j<n→ds.getD j 0=0)→r=0)
  (hc:∀i,i<n→W.cell? ⟨b,i,none⟩=some (.int .i64 (ds.getD i 0))):Calls prog 39 #[.slice (some ⟨b,0,none⟩) n n] W fun e w'=>e=.returned (.int .i64 r)∧w'=W:=by
 go_enter func39,ntmps39
 go_wp2
 go_loopw [8] (fun i wr=>∃(k:Nat),k≤n∧i=.int .i64 k∧wr=W∧∀j,j<k→ds.getD j 0=0)
  (fun i _=>n-(intOf i).toNat)
 case atStart=>
  exact⟨0,Nat.zero_le _,rfl,rfl,fun j hj=>by omega⟩
 case round=>
  obtain⟨k,hk,rfl,rfl,hs⟩:=hrel
  by_cases hlt:k<n
  ·have g2:=hc k hlt
   have hd:decide (k<n)=true:=decide_eq_true hlt
   have hr1:=hr k hlt hs
   generalize hx:ds.getD k 0=x at g2 hr1
   clear hc hz hr
   go_wp2
   ·go_ret
    rename_i hne
    refine⟨?_,rfl⟩
    first|trivial|rw[hr1 (by simpa using hne)]
    try rfl
   ·go_roundw
    case rel=>
     rename_i hne
     refine⟨k+1,by omega,by go_num,by first|trivial|rfl,fun j hj=>?_⟩
     rcases Nat.lt_or_ge j k with h|h
     ·exact hs j h
     ·have:j=k:=by omega
      subst this
      rw[hx];simpa using hne
    case measure=>simp[intOf];omega
  ·have hkn:k=n:=by omega
   have hd:decide (k<n)=false:=decide_eq_false hlt
   have:=hz fun j hj=>hs j (by omega)
   subst this
   go_wp2
   go_ret
   exact⟨by first|trivial|rfl,rfl⟩
theorem QBu {w:World} {d0 d1:Int} {t:TypeId} {b:Nat} (hb:b=w.heap.size):∀i,i<2→(w.alloc (.cells #[.int .i64 d0,.int .i64 d1] t)).cell? ⟨b,i,none⟩=some (.int .i64 ([d0,d1].getD i 0)):=fun i hi=>by
 subst hb
 have e:(w.alloc (.cells #[.int .i64 d0,.int .i64 d1] t)).heap[w.heap.size]? =some (.cells #[.int .i64 d0,.int .i64 d1] t):=by
  show(w.heap.push _)[w.heap.size]? =_
  rw[Array.getElem?_push_size]
 unfold World.cell?
 rw[e]
 rcases i with _|_|i
 ·rfl
 ·rfl
 ·omega
theorem QBv (d0 d1:Int) (b:Nat) (w:World) (hc:∀i,i<2→w.cell? ⟨b,i,none⟩=some (.int .i64 ([d0,d1].getD i 0))):Calls prog 39 #[.slice (some ⟨b,0,none⟩) 2 2] w fun e w'=>e=.returned (.int .i64 (orI [d0,d1]))∧w'=w:=
 orW [d0,d1] 2 rfl (by omega) b w _ (fun k hk hz hne=>by
  rcases k with _|_|k
  ·have hne:d0≠0:=hne
   simp only[orI];rw[if_neg hne];rfl
  ·have h0:d0=0:=hz 0 (by omega)
   have hne:d1≠0:=hne
   simp only[orI];rw[if_pos h0,if_neg hne];rfl
  ·omega) (fun hz=>by
   have h0:d0=0:=hz 0 (by omega)
   have h1:d1=0:=hz 1 (by omega)
   simp only[orI];rw[if_pos h0,if_pos h1]) hc
theorem walk (a0 a1 b0 b1:Int) (ha:-1000000≤a0∧a0≤1000000) (hb:-1000000≤b0∧b0≤1000000) (ha1:-1000000≤a1∧a1≤1000000) (hb1:-1000000≤b1∧b1≤1000000) (W:World):Calls prog 62 #[.agg #[.int .i64 a0,.int .i64 a1],.agg #[.int .i64 b0,.int .i64 b1]] W fun e w'=>e=.returned (.int .i64 (orI (QlA [a0,a1] [b0,b1])))∧∃q os',w'=grow (W.drewN q) os':=by
 have hw:IntKind.i64.wrap (a0-b0)=a0-b0:=Ql (by omega) (by omega)
 have hw1:IntKind.i64.wrap (a1-b1)=a1-b1:=Ql (by omega) (by omega)
 have hcall:=QBv (a0-b0) (a1-b1)
 simp only[QlA]
 generalize orI [a0-b0,a1-b1]=r at hcall⊢
 go_enter func62,ntmps62
 go_wp2_with (go_at_call 39;refine(hcall _ _ (QBu (by simp only[World.alloc,Array.size_push]))).mono ?_;rintro e w' ⟨rfl,rfl⟩)
 go_ret
 exact⟨rfl,0,_,by rw[alloc_eq_grow,alloc_eq_grow,alloc_eq_grow,grow_grow,grow_grow];rfl⟩
end Sf62
theorem JT {a0:(List QCk)} {r:(List QCk)} (h:QA a0=some r):EffC prog 61 [.osl 9000 0 a0.length,.fn 62 []] [(9000,.arr 43 2 a0.length (rows QCk.enc a0))] (.tup []) [(9000,.arr 43 2 a0.length (rows QCk.enc r))]:=by
 unfold QA at h
 obtain⟨U,h⟩:=Qe h
 obtain⟨I,h⟩:=Qe h
 obtain⟨O,h⟩:=Qe h
 obtain rfl:=sj_ h
 exact Qg4 (t:=43) (k:=2) (q:=2) (xs:=a0) (row:=QCk.enc) (ρ:=Lay.srfH_ren) (fs:=fun x=>[x.Next,x.Port]) (ks:=fun x=>[x.Next,x.Port]) Lay.srfH rfl isAgg43 sizeOf43 (fun _=>rfl) (fun _=>rfl) (fun _=>rfl) (QfH (fn:=f61) (c:=Qfk f61) rfl rfl (by kernel_rfl)) (enters_of func62 (by kernel_rfl) rfl) O U (fun x N y J W=>Sf62.walk x.Next x.Port y.Next y.Port (I x N).1 (I y J).1 (I x N).2 (I y J).2 W)
def Jo (a0:(List QCk)):Option ((List QCk)):=
 gd ((0:Int)<=0∧0<=((a0.length:Nat):Int)∧((a0.length:Nat):Int)*16<=140737488355328∧((a0.length:Nat):Int)<=140737488355328)<|
 gd ((((List.replicate (0:Int).toNat (default:QCk)).length)+(a0.length))*(16+1)<=70368744177664)<|
 some ((List.replicate (0:Int).toNat (default:QCk))++a0)
theorem Qfl {a0:(List QCk)} {r:(List QCk)} (h:Jo a0=some r):EffC prog 63 [.d (slD QCk.enc a0)] [] (.d (slD QCk.enc r)) []:=by
 refine eY tOk f63 rfl ?_;obtain⟨I,h⟩:=Qe h;refine aI I (⟨(List.replicate (0:Int).toNat (default:QCk)).length,rows QCk.enc (List.replicate (0:Int).toNat (default:QCk)),by simp,Qpm rfl,?_⟩);refine gdI h fun h=>QdW (enc:=QCk.enc) (xs:=(List.replicate (0:Int).toNat (default:QCk))) (ys:=a0) ?_;cases h;exact lfE [.f [5]]
def Zq (a0:(List QCl)) (I:Int) (J:Int):Option ((List QCl)):=
 gd (0<=I∧I<=J∧J<=a0.length)<|
 some (QmZ a0 I.toNat J.toNat)
theorem QcT {a0:(List QCl)} {a1:Int} {a2:Int} {r:(List QCl)} (h:Zq a0 a1 a2=some r):EffC prog 64 [.osl 9000 0 a0.length,dI a1,dI a2] [(9000,.arr 39 3 a0.length (rows QCl.enc a0))] (.osl 5001 0 r.length) [(5001,.arr 39 3 r.length (rows QCl.enc r))]:=by
 unfold Zq at h;have L:LDel prog ⟨fun x=>match x with|45=>64|_=>0,fun x=>match x with|0=>0|3=>3|4=>4|22=>27|23=>39|_=>0,fun x=>x⟩ 3 (.agg #[.int .i64 0,.int .i64 0,.slice none 0 0]):=⟨by kernel_rfl,⟨f64.name,by kernel_rfl,by kernel_rfl⟩,by kernel_rfl,fun w=>by kernel_rfl,fun w=>by kernel_rfl,fun w=>by kernel_rfl,by kernel_rfl,fun w=>by kernel_rfl,fun w=>by kernel_rfl,fun w=>by kernel_rfl,by kernel_rfl,fun w=>by kernel_rfl,fun w=>by kernel_rfl,fun w=>by kernel_rfl,by kernel_rfl,fun w=>by kernel_rfl,fun w=>by kernel_rfl,fun w=>by kernel_rfl,⟨_,rfl,rfl⟩,fun w=>by kernel_rfl,fun w=>by kernel_rfl,by kernel_rfl,fun u hu=>Ye.1 (by kernel_rfl:(List.all (Value.cells (.agg #[.int .i64 0,.int .i64 0,.slice none 0 0])).toList Value.oneCell')=true) u hu⟩;obtain⟨g,h⟩:=Qe h;obtain rfl:=sj_ h;have k:=QwE (t:=39) (enc:=QCl.enc) L (QBw (fn:=f64) (c:=Qfk f64) rfl rfl (by kernel_rfl)) (fun _=>rfl) (xs:=a0) (i:=a1.toNat) (j:=a2.toNat) (by omega) (by omega);rw[show((a1.toNat:Nat):Int)=a1 by omega,show((a2.toNat:Nat):Int)=a2 by omega] at k;exact k
def JU (a0:QCp):Option ((List QCl)):=
 bd (JX a0) fun O=>
 bd (lp (σ:=List QCl×List Bool×Int) (β:=(Nat×Nat×(List Bool)×(List QCl))) (fun J=>
(if(decide (J.2.2<((O.length:Nat):Int)))=true then
 gd ((0:Int)<=J.2.2∧J.2.2<((O.length:Nat):Int))<|
 bd (QaG a0 (O.getD J.2.2.toNat default)) fun x7=>
 bd (α:=List QCk) ((if(((x7.length:Nat):Int)==0)=true then
 bd (Jy a0 (O.getD J.2.2.toNat default)) fun a6=>
 some a6
else
 some x7)) fun x8=>
 bd (α:=List QCk) ((if(((x8.length:Nat):Int)==0)=true then
 bd (Jz a0 (O.getD J.2.2.toNat default)) fun a5=>
 some a5
else
 some x8)) fun Y=>
 bd (QA Y) fun N=>
 gd (N.length=Y.length)<|
 gd ((0:Int)<=(0:Int)∧(0:Int)<=(if 4<((N.length:Nat):Int) then 4 else((N.length:Nat):Int))∧(if 4<((N.length:Nat):Int) then 4 else((N.length:Nat):Int))<=((N.length:Nat):Int))<|
 bd (Jo (N.take ((if 4<((N.length:Nat):Int) then 4 else((N.length:Nat):Int)).toNat))) fun U=>
 gd (((J.1.length)+(([(⟨(O.getD J.2.2.toNat default).Addr,(O.getD J.2.2.toNat default).Len,U⟩:QCl)]:List QCl).length))*(40+1)<=70368744177664)<|
 gd (((J.2.1.length)+(([(((x8.length:Nat):Int)==0)]:List Bool).length))*(1+1)<=70368744177664)<|
 some (.inl ((J.1++([(⟨(O.getD J.2.2.toNat default).Addr,(O.getD J.2.2.toNat default).Len,U⟩:QCl)]:List QCl)),(J.2.1++([(((x8.length:Nat):Int)==0)]:List Bool)),IntKind.i64.wrap (J.2.2+1)))
else
 some (.inr (J.1.length,J.2.1.length,J.2.1,J.1)))) (([]:List QCl),([]:List Bool),0)) fun x5=>
 bd (lp (σ:=List QCl×Int) (β:=(Nat×(List QCl))) (fun I=>
(if((decide (I.2>=0))&&(decide (((I.1.length:Nat):Int)>16)))=true then
 gd ((0:Int)<=I.2∧I.2<((x5.2.1:Nat):Int))<|
(if(x5.2.2.1.getD I.2.toNat default)=true then
 bd (Zq I.1 I.2 (IntKind.i64.wrap (I.2+1))) fun a2=>
 some (.inl (a2,IntKind.i64.wrap (I.2-1)))
else
 some (.inl (I.1,IntKind.i64.wrap (I.2-1))))
else
 some (.inr (I.1.length,I.1)))) (x5.2.2.2,IntKind.i64.wrap (((x5.1:Nat):Int) -1))) fun a1=>
 some a1.2
theorem Qh2 {a0:QCp} {r:(List QCl)} (h:JU a0=some r):EffC prog 22 [.rp [slD QCn.enc a0.ports,slD QCo.enc a0.vias,slD QCh.enc a0.heard]] [] (.osl 5001 0 r.length) [(5001,.arr 39 3 r.length (rows QCl.enc r))]:=by
 refine eY tOk f22 rfl (Qb tOk (bE h [] 0 (fun _=>Qgk) fun U h=>?_));obtain⟨x5,a7,h⟩:=Qc h;refine Qm tOk a7 (fun I=>⟨0,78,[(0,.rp [slD QCn.enc a0.ports,slD QCo.enc a0.vias,slD QCh.enc a0.heard]),(3,.osl 7001 0 I.1.length),(4,.osl 7002 0 I.2.1.length),(13,.d (slD QCj.enc U)),(14,dI ((U.length:Nat):Int)),(15,dI I.2.2)],[],[(7002,.arr 4 1 I.2.1.length (rows QcU I.2.1)),(7001,.arr 39 3 I.1.length (rows QCl.enc I.1))],[⟨[],[]⟩]⟩) ?_ ?_
 ·exact leX [.p 7001 39 3 (rows QCl.enc ([]:List QCl)),.p 7002 4 1 (rows QcU ([]:List Bool))]
 ·clear a7;intro I y3 J b2;refine Qb tOk ?_;apply Qr J<;>intro _ J
  ·refine Qb tOk (gdI J fun J=>bC J 1000 (fun _=>Qhn) fun x7 J=>?_);obtain⟨x8,Y,J⟩:=Qc J;refine Qah tOk (fun s9=>⟨0,78,[(0,.rp [slD QCn.enc a0.ports,slD QCo.enc a0.vias,slD QCh.enc a0.heard]),(3,.osl 7001 0 I.1.length),(4,.osl 7002 0 I.2.1.length),(6,.ref 6 0 0),(7,.osl 8001 0 s9.length),(13,.d (slD QCj.enc U)),(14,dI ((U.length:Nat):Int)),(15,dI I.2.2)],[],[(8001,.arr 43 2 s9.length (rows QCk.enc s9)),(6,.box 69 [dI ((U.getD I.2.2.toNat default).Addr),dI ((U.getD I.2.2.toNat default).Len)]),(7002,.arr 4 1 I.2.1.length (rows QcU I.2.1)),(7001,.arr 39 3 I.1.length (rows QCl.enc I.1))],[⟨[],[]⟩]⟩) (fun s9=>x8=s9) ?_ ?_
   ·apply Qr Y<;>intro _ Y
    ·refine bC Y 3000 (fun _=>Qho) fun x11 Y=>?_;exact eZ Y []
    ·exact eZ Y [.s [(6001,8001),(8001,6001)]]
   ·rintro _ rfl;obtain⟨b1,O,J⟩:=Qc J;refine Qah tOk (fun a2=>⟨0,78,[(0,.rp [slD QCn.enc a0.ports,slD QCo.enc a0.vias,slD QCh.enc a0.heard]),(3,.osl 7001 0 I.1.length),(4,.osl 7002 0 I.2.1.length),(6,.ref 6 0 0),(7,.osl 6001 0 a2.length),(8,dB (((x8.length:Nat):Int)==0)),(13,.d (slD QCj.enc U)),(14,dI ((U.length:Nat):Int)),(15,dI I.2.2)],[],[(6001,.arr 43 2 a2.length (rows QCk.enc a2)),(6,.box 69 [dI ((U.getD I.2.2.toNat default).Addr),dI ((U.getD I.2.2.toNat default).Len)]),(7002,.arr 4 1 I.2.1.length (rows QcU I.2.1)),(7001,.arr 39 3 I.1.length (rows QCl.enc I.1))],[⟨[],[]⟩]⟩) (fun a2=>b1=a2) ?_ ?_
    ·apply Qr O<;>intro _ O
     ·refine bC O 1000 (fun _=>Qhp) fun x15 O=>?_;exact eZ O []
     ·exact eZ O [.s [(6001,8001),(8001,6001)]]
    ·rintro _ rfl;obtain⟨x16,a9,J⟩:=Qc J;obtain⟨b4,J⟩:=Qe J;rw[b4] at J;refine cE [(9000,6001)] 0 (JT a9) ?_;obtain⟨b3,J⟩:=Qe J;obtain⟨a6,a8,J⟩:=Qc J;refine Quo [6001] (Qd3 tOk [.e 10 [] (.d (slD QCk.enc a6)) [] []] 13 [] [0,0,2,0,8,0,0,64,192,480,992,2046,4094] [8191,16383] [] (aI ⟨b3,.inr rfl⟩ (aI (eD [] 0 (Qfl a8)) (Z6 (enc:=QCl.enc) ([(⟨(U.getD I.2.2.toNat default).Addr,(U.getD I.2.2.toNat default).Len,a6⟩:QCl)]:List QCl) (aK (gdI J fun J=>QdW (enc:=QCl.enc) (xs:=I.1) (ys:=([(⟨(U.getD I.2.2.toNat default).Addr,(U.getD I.2.2.toNat default).Len,a6⟩:QCl)]:List QCl)) (Z6 (enc:=QcU) ([(((x8.length:Nat):Int)==0)]:List Bool) (gdI J fun J=>QdW (enc:=QcU) (xs:=I.2.1) (ys:=([(((x8.length:Nat):Int)==0)]:List Bool)) ?_))))))));exact eX J []
  ·cases J
   cases b2 _ rfl
   refine Qb tOk ?_;obtain⟨x26,a5,h⟩:=Qc h;refine Qm tOk a5 (fun a1=>⟨0,78,[(3,.osl 7001 0 a1.1.length),(4,.osl 7002 0 (I.1.length,I.2.1.length,I.2.1,I.1).2.1),(9,dI a1.2)],[],[(7002,.arr 4 1 (I.1.length,I.2.1.length,I.2.1,I.1).2.1 (rows QcU (I.1.length,I.2.1.length,I.2.1,I.1).2.2.1)),(7001,.arr 39 3 a1.1.length (rows QCl.enc a1.1))],[⟨[],[]⟩]⟩) ?_ ?_
   ·exact leX []
   ·clear a5;intro a1 y24 N b0;refine Qb tOk ?_;apply Qr N<;>intro _ N
    ·refine Qb tOk (gdI N fun N=>?_);apply Qr N<;>intro _ N
     ·refine bE N [(9000,7001)] 1000 (fun _=>QcT) fun x28 N=>?_;exact eX N [.s [(6001,7001),(7001,6001)]]
     ·exact eX N []
    ·cases N
     cases b0 _ rfl
     cases h
     exact lfE [.s [(5001,7001),(7001,5001)]]
def Qcf (a0:(List Bt)) (I:(List QCh)):Option ((List QCl)):=
 bd (QcR a0) fun J=>
 bd (Qv ((!J)=false) (Qdx I)) fun x2=>
(if((!J)||(!x2))=true then
 some []
else
 bd (Qa2 a0) fun Y=>
 bd (Qce I) fun x4=>
 bd (QB x4 Y) fun N=>
 bd (Qae a0) fun O=>
 bd (Qbn a0) fun U=>
 bd (JU (⟨O,U,N⟩:QCp)) fun x8=>
 some x8)
theorem QkI {a0:(List Bt)} {I:(List QCh)} {r:(List QCl)} (h:Qcf a0 I=some r):EffC prog 5 [.d (slD Qi a0),.d (slD QCh.enc I)] [] (.osl 5001 0 r.length) [(5001,.arr 39 3 r.length (rows QCl.enc r))]:=by
 refine eY tOk f5 rfl (Qb tOk (bC h 0 (fun _=>QiH) fun x1 h=>bG h (fun _=>QmY) fun x2 h=>?_));apply Qr h<;>intro _ h
 ·cases h
  exact lfE [.p 5001 39 3 (rows QCl.enc ([]:List QCl))]
 ·refine bC h 1000 (fun _=>Qgc) fun x3 h=>bE h [] 2000 (fun _=>QkG) fun x4 h=>Zj [6001,5] (bE h [(9000,7001)] 1000 (fun _=>Z9) fun x5 h=>bC h 3000 (fun _=>Qgd) fun x6 h=>bC h 4000 (fun _=>Qgv) fun x7 h=>Zj [6001,8001,9001,28] (bE h [] 1000 (fun _=>Qh2) fun x8 h=>?_));cases h;exact lfE [.s [(5001,6001),(6001,5001)]]
def QaP (a0:Int) (I:Int) (J:Int):Option (Bool):=
 some ((decide (a0>=I))&&(decide (a0<=J)))
theorem QeV {a0:Int} {I:Int} {J:Int} {r:Bool} (h:QaP a0 I J=some r):PureC prog 128 [dI a0,dI I,dI J] (dB r) []:=by
 refine pY tOk f128 rfl ?_;unfold QaP at h;cases h;exact lfP []
def Qe8 (a0:Int):Option (Int):=
 bd (lp (σ:=Int×Int) (β:=(Int)) (fun I=>
(if(decide (I.2<16))=true then
 some (.inl (IntKind.i64.wrap (I.1*2),IntKind.i64.wrap (I.2+1)))
else
 some (.inr I.1))) (1,a0)) fun J=>
 some J
theorem Qm0 {a0:Int} {r:Int} (h:Qe8 a0=some r):PureC prog 193 [dI a0] (dI r) []:=by
 refine pY tOk f193 rfl (Qb tOk ?_);obtain⟨x4,I,h⟩:=Qc h;refine Qm tOk I (fun N=>⟨0,13,[(3,dI N.1),(4,dI N.2)],[],[],[]⟩) ?_ ?_
 ·exact leX []
 ·clear I;intro N y2 J O;refine Qb tOk ?_;apply Qr J<;>intro _ J
  ·refine Qb tOk ?_;exact eX J []
  ·cases J
   cases O _ rfl
   cases h
   exact lfP []
def Qcg (a0:QCg):Option (Bool):=
 bd (QaP a0.Len 0 16) fun I=>
 bd (Qv (I=true) (QaP a0.Addr 0 65535)) fun J=>
 bd (Qv ((I&&J)=true) (Qe8 a0.Len)) fun N=>
 gd ((I&&J)=true->((N:Int)≠0))<|
 some ((I&&J)&&(((a0.Addr:Int).tmod N)==0))
theorem QkJ {a0:QCg} {r:Bool} (h:Qcg a0=some r):PureC prog 127 [.agg (hnC a0)] (dB r) []:=by
 refine pY tOk f127 rfl ?_;obtain⟨Y,N,h⟩:=Qc h;obtain⟨x2,I,h⟩:=Qc h;obtain⟨U,O,h⟩:=Qc h;obtain⟨g4,h⟩:=Qe h;refine QQ tOk [.u 2 0 (dB Y) [],.u 6 0 (dB x2) [],.u 13 0 (dI U) []] 18 [] [0,1,3,7,15,31,63,127,255,511,1023,511,2559,6655,16383,32767,65535,131071] [] (aI (Qp (QeV N) (by kernel_rfl)) (aI (QJ rfl rfl rfl rfl (by intro J;exact QeV (Qt I J))) (aI (QJ rfl rfl rfl rfl (by intro J;exact Qm0 (Qt O J))) (aI g4 (aK ?_)))));cases h;exact lfP []
def QbC (a0:QCg):Option (Bool):=
 bd (Qcg a0) fun I=>
 bd (Qv (I=true) (QaP a0.Cost 1 255)) fun J=>
 bd (Qv ((I&&J)=true) (QaP a0.Label 0 1000)) fun N=>
 some ((I&&J)&&N)
theorem QjC {a0:QCg} {r:Bool} (h:QbC a0=some r):PureC prog 72 [.agg (hnC a0)] (dB r) []:=by
 refine pY tOk f72 rfl (bC h 0 (fun _=>QkJ) fun x1 h=>bG h (fun _=>QeV) fun x2 h=>bG h (fun _=>QeV) fun x3 h=>?_);cases h;exact lfP []
def QbD (a0:(List QCh)):Option (Bool):=
(if(decide (((a0.length:Nat):Int)>3))=true then
 some false
else
 bd (lp (σ:=Int) (β:=(Unit⊕Unit)) (fun I=>
(if(decide (I<((a0.length:Nat):Int)))=true then
 gd ((0:Int)<=I∧I<((a0.length:Nat):Int))<|
 gd ((decide (I>0))=true->((0:Int)<=IntKind.i64.wrap (I-1)∧IntKind.i64.wrap (I-1)<((a0.length:Nat):Int)))<|
 gd ((decide (I>0))=true->((0:Int)<=I∧I<((a0.length:Nat):Int)))<|
(if(((decide (I>0))&&(decide (((a0.getD ((IntKind.i64.wrap (I-1)).toNat) default).Peer)>=((a0.getD I.toNat default).Peer))))||(decide (((((a0.getD I.toNat default).Entries).length:Nat):Int)>16)))=true then
 some (.inr (.inl ()))
else
 bd (lp (σ:=Int) (β:=(Unit⊕Unit)) (fun J=>
(if(decide (J<((((a0.getD I.toNat default).Entries).length:Nat):Int)))=true then
 gd ((0:Int)<=J∧J<((((a0.getD I.toNat default).Entries).length:Nat):Int))<|
 bd (QbC (((a0.getD I.toNat default).Entries).getD J.toNat default)) fun N=>
 gd ((decide (J>0))=true->((!N)=false->((0:Int)<=IntKind.i64.wrap (J-1)∧IntKind.i64.wrap (J-1)<((((a0.getD I.toNat default).Entries).length:Nat):Int))))<|
 gd ((decide (J>0))=true->((!N)=false->((0:Int)<=J∧J<((((a0.getD I.toNat default).Entries).length:Nat):Int))))<|
 bd (Qv ((decide (J>0))=true∧(!N)=false) (Qav (((a0.getD I.toNat default).Entries).getD ((IntKind.i64.wrap (J-1)).toNat) default) (((a0.getD I.toNat default).Entries).getD J.toNat default))) fun O=>
(if((!N)||((decide (J>0))&&(!O)))=true then
 some (.inr (.inl ()))
else
 some (.inl (IntKind.i64.wrap (J+1))))
else
 some (.inr (.inr ())))) 0) fun U=>
(match U with
| .inl d17=>
 some (.inr (.inl ()))
| .inr d18=>
 some (.inl (IntKind.i64.wrap (I+1)))))
else
 some (.inr (.inr ())))) 0) fun Y=>
(match Y with
| .inl d19=>
 some false
| .inr d20=>
 some true))
theorem QjD {a0:(List QCh)} {r:Bool} (h:QbD a0=some r):PureC prog 25 [.d (slD QCh.enc a0)] (dB r) []:=by
 refine pY tOk f25 rfl (Qb tOk ?_);apply Qr h<;>intro _ h
 ·cases h
  exact lfP []
 ·refine Qb tOk ?_;obtain⟨x4,U,h⟩:=Qc h;refine Qm tOk U (fun s1=>⟨0,70,[(0,.d (slD QCh.enc a0)),(3,dI s1)],[],[],[]⟩) ?_ ?_
  ·exact leX []
  ·clear U;intro s1 y2 J O;refine Qb tOk ?_;apply Qr J<;>intro _ J
   ·refine Qb tOk (gdI J fun J=>Qb tOk ?_);obtain⟨g6,J⟩:=Qe J;obtain⟨g7,J⟩:=Qe J;refine QQ tOk [] 21 [] [0,1,3,7,7,23,63,127,255,7,7,1543,3591,7687,16383,32767,65535,131071,262143,524287,1048575] [] (aI g6 (aI g7 (aK ?_)));apply Qr J<;>intro _ J
    ·cases J
     obtain rfl:=O _ rfl;cases h;exact lfP []
    ·obtain⟨x11,N,J⟩:=Qc J;refine Qm tOk N (fun s8=>⟨0,70,[(0,.d (slD QCh.enc a0)),(3,dI s1),(4,.d (slD QCg.enc ((a0.getD s1.toNat default).Entries))),(5,dI s8)],[],[],[]⟩) ?_ ?_
     ·exact leX []
     ·clear N;intro s8 y9 I Y;refine Qb tOk ?_;apply Qr I<;>intro _ I
      ·refine Qb tOk ?_;obtain⟨a7,I⟩:=Qe I;obtain⟨a5,a1,I⟩:=Qc I;obtain⟨a6,I⟩:=Qe I;obtain⟨a9,I⟩:=Qe I;obtain⟨a8,a2,I⟩:=Qc I;refine QQ tOk [.u 4 0 (dB a5) [],.u 19 0 (dB a8) []] 23 [] [0,0,3,7,15,31,63,127,255,511,1023,1023,3071,8191,16383,1023,1023,99327,230399,524287,1048575,2097151,4194303] [] (aI a7 (aI (Qp (QjC a1) (by kernel_rfl)) (aI a6 (aI a9 (aI (QJ rfl rfl rfl rfl (by intro c0 c1;exact Qhz (Qt a2 ⟨c0,c1⟩))) (aK ?_))))));apply Qr I<;>intro _ I
       ·cases I
        cases Y _ rfl
        cases J
        cases O _ rfl
        cases h
        exact lfP []
       ·exact eX I []
      ·cases I
       cases Y _ rfl
       exact eX J []
   ·cases J
    cases O _ rfl
    cases h
    exact lfP []
def Qan (a0:(List Bt)) (O:Bt):Option ((List QCe)):=
 bd (QbT a0) fun J=>
 bd (lp (σ:=List QCe×Int) (β:=(Nat×(List QCe))) (fun I=>
(if(decide (I.2<((J.length:Nat):Int)))=true then
 gd ((0:Int)<=I.2∧I.2<((J.length:Nat):Int))<|
 bd (Qg (J.getD I.2.toNat default) 0) fun U=>
(if(U==O)=true then
 gd ((0:Int)<=I.2∧I.2<((J.length:Nat):Int))<|
 gd (((I.1.length)+(([(J.getD I.2.toNat default)]:List QCe).length))*(24+1)<=70368744177664)<|
 some (.inl ((I.1++([(J.getD I.2.toNat default)]:List QCe)),IntKind.i64.wrap (I.2+1)))
else
 some (.inl (I.1,IntKind.i64.wrap (I.2+1))))
else
 some (.inr (I.1.length,I.1)))) (([]:List QCe),0)) fun N=>
 some N.2
theorem Qgx {a0:(List Bt)} {U:Bt} {r:(List QCe)} (h:Qan a0 U=some r):EffC prog 129 [.d (slD Qi a0),.d (.str U)] [] (.osl 5001 0 r.length) [(5001,.arr 151 1 r.length (rows QCe.enc r))]:=by
 refine eY tOk f129 rfl (bE h [] 1000 (fun _=>Qhv) fun N h=>Qb tOk ?_);obtain⟨x5,O,h⟩:=Qc h;refine Qm tOk O (fun J=>⟨0,32,[(1,.d (.str U)),(5,.osl 6001 0 N.length),(6,.osl 7001 0 J.1.length),(7,dI J.2)],[],[(7001,.arr 151 1 J.1.length (rows QCe.enc J.1)),(6001,.arr 151 1 N.length (rows QCe.enc N))],[⟨[],[]⟩]⟩) ?_ ?_
 ·exact leX [.p 7001 151 1 (rows QCe.enc ([]:List QCe))]
 ·clear O;intro J y3 I Y;refine Qb tOk ?_;apply Qr I<;>intro _ I
  ·refine Qb tOk (gdI I fun I=>bC I 0 (fun _=>Qh) fun x7 I=>?_);apply Qr I<;>intro _ I
   ·refine gdI I fun I=>Z6 (enc:=QCe.enc) ([(N.getD J.2.toNat default)]:List QCe) (gdI I fun I=>QdW (enc:=QCe.enc) (xs:=J.1) (ys:=([(N.getD J.2.toNat default)]:List QCe)) ?_);exact eX I []
   ·exact eX I []
  ·cases I
   cases Y _ rfl
   cases h
   exact lfE [.s [(5001,7001),(7001,5001)]]
end
end Go.Proofs.YtjjkhncoafdfmaaGreatDoor
