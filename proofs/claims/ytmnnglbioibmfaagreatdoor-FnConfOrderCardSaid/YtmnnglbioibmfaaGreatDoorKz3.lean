/-
  What some of the program's functions compute: their models, and that the functions compute these; no condition.
-/
import Derived.Test.YtmnnglbioibmfaaGreatDoorTyz
import Derived.Test.YtmnnglbioibmfaaGreatDoorTbz
import Derived.Test.YtmnnglbioibmfaaGreatDoorLayz
import Derived.Test.YtmnnglbioibmfaaGreatDoorLay4z
import Derived.Test.YtmnnglbioibmfaaGreatDoorAbz8
import Derived.BigCall
import Derived.BigGuard
import Derived.BigQuiet
import Derived.Deep.QuietTactic
import Derived.Laws.OwnMore
import Derived.Maps.AppendAt
import Derived.Maps.OwnSet
import Derived.Maps.RangeWalk
import Derived.OwnWalk
import Derived.Sort.OwnSorted
import Derived.StringKeys
import Derived.WalkKit
import Derived.Test.YtmnnglbioibmfaaGreatDoorKz2
set_option linter.all false
namespace Go.Proofs.YtmnnglbioibmfaaGreatDoor
open Go Go.Ab Tryz
set_option maxRecDepth 100000
set_option maxHeartbeats 40000000
noncomputable section
def Zx (a0:(List (List Bt))) (a1c0:(List Bt)):Option (Int):=
 bd (lp (σ:=Int) (β:=(Int⊕Unit)) (fun s1=>
(if(decide (s1<((a0.length:Nat):Int)))=true then
 gd ((0:Int)≤s1∧s1<((a0.length:Nat):Int))<|
 bd (Zj (a0.getD s1.toNat default) a1c0) fun x6=>
(if x6=true then
 some (.inr (.inl s1))
else
 some (.inl (IntKind.i64.wrap (s1+1))))
else
 some (.inr (.inr ())))) 0) fun x4=>
(match x4 with
| .inl d7=>
 some d7
| .inr d8=>
 some (-1))
theorem J9 {a0:(List (List Bt))} {a1c0:(List Bt)} {r:Int} (h:Zx a0 a1c0=some r):PureC prog 119 [.d (slD (QeE encSb) a0),.fn 72 [.rp [slD encSb a1c0]]] (dI r) []:=by
 refine pY tOk f119 rfl (Qb tOk ?_);obtain⟨x4,hx4,h⟩:=Qc h;refine QJ tOk hx4 (fun s1=>⟨0,19,[(0,.d (slD (QeE encSb) a0)),(1,.fn 72 [.rp [slD encSb a1c0]]),(7,dI ((a0.length:Nat):Int)),(8,dI s1)],[],[],[]⟩) ?_ ?_
 ·exact leX []
 ·clear hx4;intro s1 y2 g3 hy2;refine Qb tOk ?_;apply Qr g3<;>intro _ g3
  ·refine Qb tOk (gdI g3 fun g3=>bC g3 0 (fun _=>Qgs) fun x6 g3=>?_);apply Qr g3<;>intro _ g3
   ·cases g3
    cases hy2 _ rfl
    cases h
    exact lfP []
   ·exact eX g3 []
  ·cases g3
   cases hy2 _ rfl
   cases h
   exact lfP []
def QE (a0:(List (List Bt))) (a1c0:(List Bt)):Option (Bool):=
 bd (Zx a0 a1c0) fun x1=>
 some (decide (x1≥0))
theorem JM {a0:(List (List Bt))} {a1c0:(List Bt)} {r:Bool} (h:QE a0 a1c0=some r):PureC prog 68 [.d (slD (QeE encSb) a0),.fn 72 [.rp [slD encSb a1c0]]] (dB r) []:=by
 refine pY tOk f68 rfl (bC h 0 (fun _=>J9) fun x1 h=>?_);cases h;exact lfP []
def Qbf (a0:(List Bt)):Option (Bool):=
 bd (Qz a0 (⟨#[112,111,114,116]⟩:Bt)) fun x1=>
 bd (lp (σ:=Int) (β:=(Unit⊕Unit)) (fun s2=>
(if(decide (s2<((x1.length:Nat):Int)))=true then
 gd ((0:Int)≤s2∧s2<((x1.length:Nat):Int))<|
 gd ((decide ((((x1.getD s2.toNat default).length:Nat):Int)>4))=true→((0:Int)≤4∧4<(((x1.getD s2.toNat default).length:Nat):Int)))<|
 bd (gcall ((decide ((((x1.getD s2.toNat default).length:Nat):Int)>4))=true) (Qbq a0 ((x1.getD s2.toNat default).getD 4 default))) fun x8=>
(if((decide ((((x1.getD s2.toNat default).length:Nat):Int)>4))&&(x8==0))=true then
 some (.inr (.inl ()))
else
 some (.inl (IntKind.i64.wrap (s2+1))))
else
 some (.inr (.inr ())))) 0) fun x5=>
(match x5 with
| .inl d9=>
 some true
| .inr d10=>
 bd (Qz a0 (⟨#[114,117,108,101]⟩:Bt)) fun x11=>
 bd (QE x11 a0) fun x12=>
 some x12)
theorem QhL {a0:(List Bt)} {r:Bool} (h:Qbf a0=some r):PureC prog 31 [.d (slD encSb a0)] (dB r) []:=by
 refine pY tOk f31 rfl (Qb tOk (bE h [] 1000 (fun _=>Z6) fun x1 h=>?_));obtain⟨x5,hx5,h⟩:=Qc h;refine QJ tOk hx5 (fun s2=>⟨0,28,[(1,.ref 1 0 0),(6,.osl 6001 0 x1.length),(7,dI ((x1.length:Nat):Int)),(8,dI s2)],[],[(6001,.arr 23 1 x1.length (rows (QeE encSb) x1)),(1,.box 23 [.d (slD encSb a0)])],[]⟩) ?_ ?_
 ·exact leX []
 ·clear hx5;intro s2 y3 g4 hy3;refine Qb tOk ?_;apply Qr g4<;>intro _ g4
  ·refine Qb tOk (gdI g4 fun g4=>?_);obtain⟨g7,g4⟩:=Qe g4;obtain⟨x8,hx8,g4⟩:=Qc g4;refine Q0 tOk [.u 8 0 (dI x8) []] 11 [] [0,1,3,7,15,15,47,111,255,511,1023] [] (aI g7 (aI (Qy rfl rfl rfl rfl (by intro c0;exact Qgb (Qo hx8 c0))) (aK ?_)));apply Qr g4<;>intro _ g4
   ·cases g4
    cases hy3 _ rfl
    cases h
    exact lfP []
   ·exact eX g4 []
  ·cases g4
   cases hy3 _ rfl
   refine bE h [] 2000 (fun _=>Z6) fun x11 h=>bC h 0 (fun _=>JM) fun x12 h=>?_;cases h;exact lfP []
def JZ (a0:(List Bt)):Option ((List Qye)):=
 bd (Qz a0 (⟨#[112,111,114,116]⟩:Bt)) fun x1=>
 bd (lp (σ:=List Qye×Int) (β:=(Nat×(List Qye))) (fun s2=>
(if(decide (s2.2<((x1.length:Nat):Int)))=true then
 gd ((0:Int)≤s2.2∧s2.2<((x1.length:Nat):Int))<|
 gd ((0:Int)≤2∧2<(((x1.getD s2.2.toNat default).length:Nat):Int))<|
 bd (JX ((x1.getD s2.2.toNat default).getD 2 default)) fun x8=>
 gd (((s2.1.length)+(([x8.1]:List Qye).length))*(16+1)≤70368744177664)<|
 some (.inl ((s2.1++([x8.1]:List Qye)),IntKind.i64.wrap (s2.2+1)))
else
 some (.inr (s2.1.length,s2.1)))) (([]:List Qye),0)) fun x5=>
 some x5.2
theorem QdB {a0:(List Bt)} {r:(List Qye)} (h:JZ a0=some r):PureC prog 73 [.d (slD encSb a0)] (.osl 5001 0 r.length) [⟨5001,93,2,r.length,rows Qye.enc r⟩]:=by
 refine pY tOk f73 rfl (Qb tOk (bE h [] 1000 (fun _=>Z6) fun x1 h=>?_));obtain⟨x5,hx5,h⟩:=Qc h;refine QJ tOk hx5 (fun s2=>⟨0,29,[(3,.osl 7001 0 s2.1.length),(10,.osl 6001 0 x1.length),(11,dI ((x1.length:Nat):Int)),(12,dI s2.2)],[],[(7001,.arr 93 2 s2.1.length (rows Qye.enc s2.1)),(6001,.arr 23 1 x1.length (rows (QeE encSb) x1))],[]⟩) ?_ ?_
 ·exact leX [.p 7001 93 2 (rows Qye.enc ([]:List Qye))]
 ·clear hx5;intro s2 y3 g4 hy3;refine Qb tOk ?_;apply Qr g4<;>intro _ g4
  ·refine Qb tOk (gdI g4 fun g4=>gdI g4 fun g4=>bC g4 0 (fun _=>QdA) fun x8 g4=>Qcl (enc:=Qye.enc) ([x8.1]:List Qye) (gdI g4 fun g4=>Qiv (enc:=Qye.enc) (xs:=s2.1) (ys:=([x8.1]:List Qye)) ?_));exact eX g4 []
  ·cases g4
   cases hy3 _ rfl
   cases h
   exact lfP [.s [(5001,7001),(7001,5001)]]
def Qa4 (a0:Qye):Option (Int):=
 bd (ZW a0) fun x1=>
 some (IntKind.i64.wrap ((IntKind.i64.wrap (a0.Addr+x1)) -1))
theorem Qfk {a0:Qye} {r:Int} (h:Qa4 a0=some r):PureC prog 123 [.agg [dI a0.Addr,dI a0.Len]] (dI r) []:=by
 refine pY tOk f123 rfl ?_;obtain⟨x1,hx1,h⟩:=Qc h;refine Q0 tOk [.u 3 0 (dI x1) []] 7 [] [0,1,0,4,15,31,63] [] (aI (QM (QcY hx1) (by kernel_rfl)) (aK ?_));cases h;exact lfP []
def ZE (a0:Qye) (a1:Int):Option (Bool):=
 bd (Qa4 a0) fun x1=>
 bd (Qn a1 a0.Addr x1) fun x2=>
 some x2
theorem Qat {a0:Qye} {a1:Int} {r:Bool} (h:ZE a0 a1=some r):PureC prog 79 [.agg [dI a0.Addr,dI a0.Len],dI a1] (dB r) []:=by
 refine pY tOk f79 rfl ?_;obtain⟨x1,hx1,h⟩:=Qc h;obtain⟨x2,hx2,h⟩:=Qc h;refine Q0 tOk [.u 4 0 (dI x1) [],.u 5 0 (dB x2) []] 7 [] [0,0,2,0,8,31,63] [] (aI (QM (Qfk hx1) (by kernel_rfl)) (aI (QM (QQ hx2) (by kernel_rfl)) (aK ?_)));cases h;exact lfP []
def J2 (a0:Qye) (a1:Qye):Option (Bool):=
 bd (gcall ((decide (a1.Len≤a0.Len))=true) (ZE a1 a0.Addr)) fun x1=>
 some ((decide (a1.Len≤a0.Len))&&x1)
theorem QdC {a0:Qye} {a1:Qye} {r:Bool} (h:J2 a0 a1=some r):PureC prog 74 [.agg [dI a0.Addr,dI a0.Len],.agg [dI a1.Addr,dI a1.Len]] (dB r) []:=by
 refine pY tOk f74 rfl (bG h (fun _=>Qat) fun x1 h=>?_);cases h;exact lfP []
def QaI (a0:(List Bt)):Option (Bool):=
 bd (JZ a0) fun x1=>
 bd (lp (σ:=Int) (β:=(Unit⊕Unit)) (fun s2=>
(if(decide (s2<((x1.length:Nat):Int)))=true then
 gd ((0:Int)≤s2∧s2<((x1.length:Nat):Int))<|
 gd ((0:Int)≤(0:Int)∧(0:Int)≤s2∧s2≤((x1.length:Nat):Int))<|
 bd (lp (σ:=Int) (β:=(Unit⊕Unit)) (fun s8=>
(if(decide (s8<((s2.toNat:Nat):Int)))=true then
 gd ((0:Int)≤s8∧s8<((s2.toNat:Nat):Int))<|
 bd (J2 (x1.getD s2.toNat default) (x1.getD s8.toNat default)) fun x13=>
 bd (gcall (x13=false) (J2 (x1.getD s8.toNat default) (x1.getD s2.toNat default))) fun x14=>
(if(x13||x14)=true then
 some (.inr (.inl ()))
else
 some (.inl (IntKind.i64.wrap (s8+1))))
else
 some (.inr (.inr ())))) 0) fun x11=>
(match x11 with
| .inl d15=>
 some (.inr (.inl ()))
| .inr d16=>
 some (.inl (IntKind.i64.wrap (s2+1))))
else
 some (.inr (.inr ())))) 0) fun x5=>
(match x5 with
| .inl d17=>
 some true
| .inr d18=>
 some false)
theorem Qgt {a0:(List Bt)} {r:Bool} (h:QaI a0=some r):PureC prog 32 [.d (slD encSb a0)] (dB r) []:=by
 refine pY tOk f32 rfl (bC h 1000 (fun _=>QdB) fun x1 h=>Qb tOk ?_);obtain⟨x5,hx5,h⟩:=Qc h;refine QJ tOk hx5 (fun s2=>⟨0,35,[(3,.osl 6001 0 x1.length),(10,.osl 6001 0 x1.length),(11,dI ((x1.length:Nat):Int)),(12,dI s2)],[],[(6001,.arr 93 2 x1.length (rows Qye.enc x1))],[]⟩) ?_ ?_
 ·exact leX []
 ·clear hx5;intro s2 y3 g4 hy3;refine Qb tOk ?_;apply Qr g4<;>intro _ g4
  ·refine Qb tOk (gdI g4 fun g4=>?_);obtain⟨g7,g4⟩:=Qe g4;refine aI g7 ?_;obtain⟨x11,hx11,g4⟩:=Qc g4;refine QJ tOk hx11 (fun s8=>⟨0,35,[(3,.osl 6001 0 x1.length),(5,.ref 5 0 0),(10,.osl 6001 0 x1.length),(11,dI ((x1.length:Nat):Int)),(12,dI s2),(19,.osl 6001 0 s2.toNat),(20,dI ((s2.toNat:Nat):Int)),(21,dI s8)],[],[(5,.box 93 [dI ((x1.getD s2.toNat default).Addr),dI ((x1.getD s2.toNat default).Len)]),(6001,.arr 93 2 x1.length (rows Qye.enc x1))],[]⟩) ?_ ?_
   ·exact leX []
   ·clear hx11;intro s8 y9 g10 hy9;refine Qb tOk ?_;apply Qr g10<;>intro _ g10
    ·refine Qb tOk (gdI g10 fun g10=>bC g10 0 (fun _=>QdC) fun x13 g10=>bG g10 (fun _=>QdC) fun x14 g10=>?_);apply Qr g10<;>intro _ g10
     ·cases g10
      cases hy9 _ rfl
      cases g4
      cases hy3 _ rfl
      cases h
      exact lfP []
     ·exact eX g10 []
    ·cases g10
     cases hy9 _ rfl
     exact eX g4 []
  ·cases g4
   cases hy3 _ rfl
   cases h
   exact lfP []
def Zs (a0:Qye) (a1:Int):Option (Bool):=
 bd (ZE a0 a1) fun x1=>
 some (x1&&(a0.Addr !=a1))
theorem Qfl {a0:Qye} {a1:Int} {r:Bool} (h:Zs a0 a1=some r):PureC prog 78 [.agg [dI a0.Addr,dI a0.Len],.rp [.int .i64 a1]] (dB r) []:=by
 refine pY tOk f78 rfl (bC h 0 (fun _=>Qat) fun x1 h=>?_);cases h;exact lfP []
def Zf (a0:(List Qye)) (a1c0:Int):Option (Int):=
 bd (lp (σ:=Int) (β:=(Int⊕Unit)) (fun s1=>
(if(decide (s1<((a0.length:Nat):Int)))=true then
 gd ((0:Int)≤s1∧s1<((a0.length:Nat):Int))<|
 bd (Zs (a0.getD s1.toNat default) a1c0) fun x6=>
(if x6=true then
 some (.inr (.inl s1))
else
 some (.inl (IntKind.i64.wrap (s1+1))))
else
 some (.inr (.inr ())))) 0) fun x4=>
(match x4 with
| .inl d7=>
 some d7
| .inr d8=>
 some (-1))
theorem Jk {a0:(List Qye)} {a1c0:Int} {r:Int} (h:Zf a0 a1c0=some r):PureC prog 122 [.d (slD Qye.enc a0),.fn 78 [.rp [.int .i64 a1c0]]] (dI r) []:=by
 refine pY tOk f122 rfl (Qb tOk ?_);obtain⟨x4,hx4,h⟩:=Qc h;refine QJ tOk hx4 (fun s1=>⟨0,19,[(0,.d (slD Qye.enc a0)),(1,.fn 78 [.rp [.int .i64 a1c0]]),(7,dI ((a0.length:Nat):Int)),(8,dI s1)],[],[],[]⟩) ?_ ?_
 ·exact leX []
 ·clear hx4;intro s1 y2 g3 hy2;refine Qb tOk ?_;apply Qr g3<;>intro _ g3
  ·refine Qb tOk (gdI g3 fun g3=>bC g3 0 (fun _=>Qfl) fun x6 g3=>?_);apply Qr g3<;>intro _ g3
   ·cases g3
    cases hy2 _ rfl
    cases h
    exact lfP []
   ·exact eX g3 []
  ·cases g3
   cases hy2 _ rfl
   cases h
   exact lfP []
def Qt (a0:(List Qye)) (a1c0:Int):Option (Bool):=
 bd (Zf a0 a1c0) fun x1=>
 some (decide (x1≥0))
theorem Jc {a0:(List Qye)} {a1c0:Int} {r:Bool} (h:Qt a0 a1c0=some r):PureC prog 77 [.d (slD Qye.enc a0),.fn 78 [.rp [.int .i64 a1c0]]] (dB r) []:=by
 refine pY tOk f77 rfl (bC h 0 (fun _=>Jk) fun x1 h=>?_);cases h;exact lfP []
def ZS (a0:Bt) (a1:(List Qye)):Option (Bool):=
 bd (JU a0) fun x1=>
 bd (Qt a1 x1) fun x2=>
 some (!x2)
theorem Qgu {a0:Bt} {a1:(List Qye)} {r:Bool} (h:ZS a0 a1=some r):PureC prog 75 [.d (.str a0),.rp [slD Qye.enc a1]] (dB r) []:=by
 refine pY tOk f75 rfl (bC h 0 (fun _=>Qbp) fun x1 h=>bC h 0 (fun _=>Jc) fun x2 h=>?_);cases h;exact lfP []
def Zy (a0:(List Bt)) (a1c0:(List Qye)):Option (Int):=
 bd (lp (σ:=Int) (β:=(Int⊕Unit)) (fun s1=>
(if(decide (s1<((a0.length:Nat):Int)))=true then
 gd ((0:Int)≤s1∧s1<((a0.length:Nat):Int))<|
 bd (ZS (a0.getD s1.toNat default) a1c0) fun x6=>
(if x6=true then
 some (.inr (.inl s1))
else
 some (.inl (IntKind.i64.wrap (s1+1))))
else
 some (.inr (.inr ())))) 0) fun x4=>
(match x4 with
| .inl d7=>
 some d7
| .inr d8=>
 some (-1))
theorem Qaa {a0:(List Bt)} {a1c0:(List Qye)} {r:Int} (h:Zy a0 a1c0=some r):PureC prog 115 [.d (slD encSb a0),.fn 75 [.rp [slD Qye.enc a1c0]]] (dI r) []:=by
 refine pY tOk f115 rfl (Qb tOk ?_);obtain⟨x4,hx4,h⟩:=Qc h;refine QJ tOk hx4 (fun s1=>⟨0,19,[(0,.d (slD encSb a0)),(1,.fn 75 [.rp [slD Qye.enc a1c0]]),(7,dI ((a0.length:Nat):Int)),(8,dI s1)],[],[],[]⟩) ?_ ?_
 ·exact leX []
 ·clear hx4;intro s1 y2 g3 hy2;refine Qb tOk ?_;apply Qr g3<;>intro _ g3
  ·refine Qb tOk (gdI g3 fun g3=>bC g3 0 (fun _=>Qgu) fun x6 g3=>?_);apply Qr g3<;>intro _ g3
   ·cases g3
    cases hy2 _ rfl
    cases h
    exact lfP []
   ·exact eX g3 []
  ·cases g3
   cases hy2 _ rfl
   cases h
   exact lfP []
def QF (a0:(List Bt)) (a1c0:(List Qye)):Option (Bool):=
 bd (Zy a0 a1c0) fun x1=>
 some (decide (x1≥0))
theorem JN {a0:(List Bt)} {a1c0:(List Qye)} {r:Bool} (h:QF a0 a1c0=some r):PureC prog 64 [.d (slD encSb a0),.fn 75 [.rp [slD Qye.enc a1c0]]] (dB r) []:=by
 refine pY tOk f64 rfl (bC h 0 (fun _=>Qaa) fun x1 h=>?_);cases h;exact lfP []
def Qbg (a0:(List Bt)):Option (Bool):=
 bd (Qz a0 (⟨#[114,111,117,116,101]⟩:Bt)) fun x1=>
 bd (lp (σ:=List Bt×Int) (β:=(Nat×(List Bt))) (fun s2=>
(if(decide (s2.2<((x1.length:Nat):Int)))=true then
 gd ((0:Int)≤s2.2∧s2.2<((x1.length:Nat):Int))<|
 gd ((0:Int)≤2∧2<(((x1.getD s2.2.toNat default).length:Nat):Int))<|
 gd (((s2.1.length)+(([((x1.getD s2.2.toNat default).getD 2 default)]:List Bt).length))*(16+1)≤70368744177664)<|
 some (.inl ((s2.1++([((x1.getD s2.2.toNat default).getD 2 default)]:List Bt)),IntKind.i64.wrap (s2.2+1)))
else
 some (.inr (s2.1.length,s2.1)))) (([]:List Bt),0)) fun x5=>
 bd (Qz a0 (⟨#[112,101,101,114]⟩:Bt)) fun x10=>
 bd (lp (σ:=List Bt×Int) (β:=(Nat×(List Bt))) (fun s11=>
(if(decide (s11.2<((x10.length:Nat):Int)))=true then
 gd ((0:Int)≤s11.2∧s11.2<((x10.length:Nat):Int))<|
 gd ((0:Int)≤1∧1<(((x10.getD s11.2.toNat default).length:Nat):Int))<|
 gd (((s11.1.length)+(([((x10.getD s11.2.toNat default).getD 1 default)]:List Bt).length))*(16+1)≤70368744177664)<|
 some (.inl ((s11.1++([((x10.getD s11.2.toNat default).getD 1 default)]:List Bt)),IntKind.i64.wrap (s11.2+1)))
else
 some (.inr (s11.1.length,s11.1)))) (x5.2,0)) fun x14=>
 bd (JZ a0) fun x19=>
 bd (QF x14.2 x19) fun x20=>
 some x20
theorem QhM {a0:(List Bt)} {r:Bool} (h:Qbg a0=some r):PureC prog 33 [.d (slD encSb a0)] (dB r) []:=by
 refine pY tOk f33 rfl (Qb tOk (bE h [] 1000 (fun _=>Z6) fun x1 h=>?_));obtain⟨x5,hx5,h⟩:=Qc h;refine QJ tOk hx5 (fun s2=>⟨0,43,[(0,.d (slD encSb a0)),(3,.osl 7001 0 s2.1.length),(11,.osl 6001 0 x1.length),(12,dI ((x1.length:Nat):Int)),(13,dI s2.2)],[],[(7001,.arr 9 1 s2.1.length (rows encSb s2.1)),(6001,.arr 23 1 x1.length (rows (QeE encSb) x1))],[]⟩) ?_ ?_
 ·exact leX [.p 7001 9 1 (rows encSb ([]:List Bt))]
 ·clear hx5;intro s2 y3 g4 hy3;refine Qb tOk ?_;apply Qr g4<;>intro _ g4
  ·refine Qb tOk (gdI g4 fun g4=>gdI g4 fun g4=>Qcl (enc:=encSb) ([((x1.getD s2.2.toNat default).getD 2 default)]:List Bt) (gdI g4 fun g4=>Qiv (enc:=encSb) (xs:=s2.1) (ys:=([((x1.getD s2.2.toNat default).getD 2 default)]:List Bt)) ?_));exact eX g4 []
  ·cases g4
   cases hy3 _ rfl
   refine Qb tOk (bE h [] 3000 (fun _=>Z6) fun x10 h=>?_);obtain⟨x14,hx14,h⟩:=Qc h;refine QJ tOk hx14 (fun s11=>⟨0,43,[(0,.d (slD encSb a0)),(3,.osl 7001 0 s11.1.length),(25,.osl 8001 0 x10.length),(26,dI ((x10.length:Nat):Int)),(27,dI s11.2)],[],[(8001,.arr 23 1 x10.length (rows (QeE encSb) x10)),(7001,.arr 9 1 s11.1.length (rows encSb s11.1))],[]⟩) ?_ ?_
   ·exact leX []
   ·clear hx14;intro s11 y12 g13 hy12;refine Qb tOk ?_;apply Qr g13<;>intro _ g13
    ·refine Qb tOk (gdI g13 fun g13=>gdI g13 fun g13=>Qcl (enc:=encSb) ([((x10.getD s11.2.toNat default).getD 1 default)]:List Bt) (gdI g13 fun g13=>Qiv (enc:=encSb) (xs:=s11.1) (ys:=([((x10.getD s11.2.toNat default).getD 1 default)]:List Bt)) ?_));exact eX g13 []
    ·cases g13
     cases hy12 _ rfl
     refine bC h 1000 (fun _=>QdB) fun x19 h=>?_;obtain⟨x20,hx20,h⟩:=Qc h;refine Qwz 0 (JN hx20) rfl Qtb rfl ?_;cases h;exact lfP []
def Qb9 (a0:(List Bt)):Option (Bool):=
 bd (Qz a0 (⟨#[110,97,116]⟩:Bt)) fun x1=>
 bd (Qz a0 (⟨#[100,111,111,114]⟩:Bt)) fun x2=>
(if(((x1.length:Nat):Int)==0)=true then
 some (decide (((x2.length:Nat):Int)>0))
else
 gd ((0:Int)≤0∧0<((x1.length:Nat):Int))<|
 gd ((0:Int)≤1∧1<(((x1.getD 0 default).length:Nat):Int))<|
 bd (JX ((x1.getD 0 default).getD 1 default)) fun x5=>
 gd ((0:Int)≤0∧0<((x1.length:Nat):Int))<|
 gd ((0:Int)≤3∧3<(((x1.getD 0 default).length:Nat):Int))<|
 bd (QaG ((x1.getD 0 default).getD 3 default)) fun x8=>
 gd ((0:Int)≤0∧0<((x1.length:Nat):Int))<|
 gd ((0:Int)≤4∧4<(((x1.getD 0 default).length:Nat):Int))<|
 bd (QaG ((x1.getD 0 default).getD 4 default)) fun x11=>
 gd ((0:Int)≤0∧0<((x1.length:Nat):Int))<|
 gd ((0:Int)≤2∧2<(((x1.getD 0 default).length:Nat):Int))<|
 bd (JU ((x1.getD 0 default).getD 2 default)) fun x14=>
 bd (ZE x5.1 x14) fun x15=>
(if((x15||(decide (x8>x11)))||(decide (((x2.length:Nat):Int)>6)))=true then
 some true
else
 bd (lp (σ:=Int) (β:=(Unit⊕Unit)) (fun s16=>
(if(decide (s16<((x2.length:Nat):Int)))=true then
 gd ((0:Int)≤s16∧s16<((x2.length:Nat):Int))<|
 gd ((0:Int)≤3∧3<(((x2.getD s16.toNat default).length:Nat):Int))<|
 bd (JU ((x2.getD s16.toNat default).getD 3 default)) fun x22=>
 bd (ZE x5.1 x22) fun x23=>
 gd ((!x23)=false→((0:Int)≤2∧2<(((x2.getD s16.toNat default).length:Nat):Int)))<|
 bd (gcall ((!x23)=false) (QaG ((x2.getD s16.toNat default).getD 2 default))) fun x25=>
 bd (gcall ((!x23)=false) (Qn x25 x8 x11)) fun x26=>
(if((!x23)||x26)=true then
 some (.inr (.inl ()))
else
 gd ((0:Int)≤(0:Int)∧(0:Int)≤s16∧s16≤((x2.length:Nat):Int))<|
 bd (lp (σ:=Int) (β:=(Unit⊕Unit)) (fun s28=>
(if(decide (s28<((s16.toNat:Nat):Int)))=true then
 gd ((0:Int)≤s28∧s28<((s16.toNat:Nat):Int))<|
 gd ((0:Int)≤1∧1<(((x2.getD s28.toNat default).length:Nat):Int))<|
 gd ((0:Int)≤1∧1<(((x2.getD s16.toNat default).length:Nat):Int))<|
 gd ((((x2.getD s28.toNat default).getD 1 default)==((x2.getD s16.toNat default).getD 1 default))=true→((0:Int)≤3∧3<(((x2.getD s28.toNat default).length:Nat):Int)))<|
 gd ((((x2.getD s28.toNat default).getD 1 default)==((x2.getD s16.toNat default).getD 1 default))=true→((0:Int)≤3∧3<(((x2.getD s16.toNat default).length:Nat):Int)))<|
 gd (((((x2.getD s28.toNat default).getD 1 default)==((x2.getD s16.toNat default).getD 1 default))&&(((x2.getD s28.toNat default).getD 3 default)==((x2.getD s16.toNat default).getD 3 default)))=true→((0:Int)≤4∧4<(((x2.getD s28.toNat default).length:Nat):Int)))<|
 gd (((((x2.getD s28.toNat default).getD 1 default)==((x2.getD s16.toNat default).getD 1 default))&&(((x2.getD s28.toNat default).getD 3 default)==((x2.getD s16.toNat default).getD 3 default)))=true→((0:Int)≤4∧4<(((x2.getD s16.toNat default).length:Nat):Int)))<|
(if(((((x2.getD s28.toNat default).getD 1 default)==((x2.getD s16.toNat default).getD 1 default))&&(((x2.getD s28.toNat default).getD 3 default)==((x2.getD s16.toNat default).getD 3 default)))&&(((x2.getD s28.toNat default).getD 4 default)==((x2.getD s16.toNat default).getD 4 default)))=true then
 some (.inr (.inl ()))
else
 some (.inl (IntKind.i64.wrap (s28+1))))
else
 some (.inr (.inr ())))) 0) fun x31=>
(match x31 with
| .inl d39=>
 some (.inr (.inl ()))
| .inr d40=>
 some (.inl (IntKind.i64.wrap (s16+1)))))
else
 some (.inr (.inr ())))) 0) fun x19=>
(match x19 with
| .inl d41=>
 some true
| .inr d42=>
 some false)))
theorem QjE {a0:(List Bt)} {r:Bool} (h:Qb9 a0=some r):PureC prog 34 [.d (slD encSb a0)] (dB r) []:=by
 refine pY tOk f34 rfl (bE h [] 1000 (fun _=>Z6) fun x1 h=>bE h [] 2000 (fun _=>Z6) fun x2 h=>Qb tOk ?_);apply Qr h<;>intro _ h
 ·cases h
  exact lfP []
 ·refine gdI h fun h=>gdI h fun h=>bC h 0 (fun _=>QdA) fun x5 h=>?_;obtain⟨g6,h⟩:=Qe h;obtain⟨g7,h⟩:=Qe h;obtain⟨x8,hx8,h⟩:=Qc h;obtain⟨g9,h⟩:=Qe h;obtain⟨g10,h⟩:=Qe h;obtain⟨x11,hx11,h⟩:=Qc h;refine Q0 tOk [.u 5 0 (dI x8) [],.u 11 0 (dI x11) []] 14 [] [0,1,3,7,15,31,0,64,192,448,960,2047,4095,8191] [] (aI g6 (aI g7 (aI (QM (Qdn hx8) (by kernel_rfl)) (aI g9 (aI g10 (aI (QM (Qdn hx11) (by kernel_rfl)) (aK (Qb tOk ?_))))))));obtain⟨g12,h⟩:=Qe h;obtain⟨g13,h⟩:=Qe h;obtain⟨x14,hx14,h⟩:=Qc h;obtain⟨x15,hx15,h⟩:=Qc h;refine Q0 tOk [.u 6 0 (dI x14) [],.u 7 0 (dB x15) []] 18 [] [0,0,2,6,14,30,62,127,255,511,511,2047,4095,8191,16383,32767,65535,131071] [] (aI g12 (aI g13 (aI (QM (Qbp hx14) (by kernel_rfl)) (aI (QM (Qat hx15) (by kernel_rfl)) (aK ?_)))));apply Qr h<;>intro _ h
  ·cases h
   exact lfP []
  ·refine Qb tOk ?_;obtain⟨x19,hx19,h⟩:=Qc h;refine QJ tOk hx19 (fun s16=>⟨0,120,[(4,.osl 7001 0 x2.length),(5,.ref 5 0 0),(7,dI x8),(8,dI x11),(62,.osl 7001 0 x2.length),(63,dI ((x2.length:Nat):Int)),(64,dI s16)],[],[(5,.box 93 [dI x5.1.Addr,dI x5.1.Len]),(7001,.arr 23 1 x2.length (rows (QeE encSb) x2))],[]⟩) ?_ ?_
   ·exact leX []
   ·clear hx19;intro s16 y17 g18 hy17;refine Qb tOk ?_;apply Qr g18<;>intro _ g18
    ·refine Qb tOk (gdI g18 fun g18=>Qb tOk ?_);obtain⟨g21,g18⟩:=Qe g18;obtain⟨x22,hx22,g18⟩:=Qc g18;obtain⟨x23,hx23,g18⟩:=Qc g18;obtain⟨g24,g18⟩:=Qe g18;obtain⟨x25,hx25,g18⟩:=Qc g18;obtain⟨x26,hx26,g18⟩:=Qc g18;refine Q0 tOk [.u 4 0 (dI x22) [],.u 5 0 (dB x23) [],.u 11 0 (dI x25) [],.u 14 0 (dB x26) []] 16 [] [0,0,2,6,14,31,63,127,255,511,1023,2047,255,255,16383,32767] [] (aI g21 (aI (QM (Qbp hx22) (by kernel_rfl)) (aI (QM (Qat hx23) (by kernel_rfl)) (aI g24 (aI (Qy rfl rfl rfl rfl (by intro c0;exact Qdn (Qo hx25 c0))) (aI (Qy rfl rfl rfl rfl (by intro c0;exact QQ (Qo hx26 c0))) (aK ?_)))))));apply Qr g18<;>intro _ g18
     ·cases g18
      obtain rfl:=hy17 _ rfl;cases h;exact lfP []
     ·obtain⟨g27,g18⟩:=Qe g18;refine aI g27 ?_;obtain⟨x31,hx31,g18⟩:=Qc g18;refine QJ tOk hx31 (fun s28=>⟨0,120,[(4,.osl 7001 0 x2.length),(5,.ref 5 0 0),(7,dI x8),(8,dI x11),(10,.d (slD encSb (x2.getD s16.toNat default))),(62,.osl 7001 0 x2.length),(63,dI ((x2.length:Nat):Int)),(64,dI s16),(87,.osl 7001 0 s16.toNat),(88,dI ((s16.toNat:Nat):Int)),(89,dI s28)],[],[(5,.box 93 [dI x5.1.Addr,dI x5.1.Len]),(7001,.arr 23 1 x2.length (rows (QeE encSb) x2))],[]⟩) ?_ ?_
      ·exact leX []
      ·clear hx31;intro s28 y29 g30 hy29;refine Qb tOk ?_;apply Qr g30<;>intro _ g30
       ·refine Qb tOk (gdI g30 fun g30=>?_);obtain⟨g33,g30⟩:=Qe g30;obtain⟨g34,g30⟩:=Qe g30;obtain⟨g35,g30⟩:=Qe g30;obtain⟨g36,g30⟩:=Qe g30;obtain⟨g37,g30⟩:=Qe g30;obtain⟨g38,g30⟩:=Qe g30;refine Q0 tOk [] 25 [] [0,1,3,0,8,24,63,127,255,511,1023,255,2303,6399,16383,32767,65535,131071,262143,524287,131071,1179647,3276799,8388607,16777215] [] (aI g33 (aI g34 (aI g35 (aI g36 (aI g37 (aI g38 (aK ?_)))))));apply Qr g30<;>intro _ g30
        ·cases g30
         cases hy29 _ rfl
         cases g18
         cases hy17 _ rfl
         cases h
         exact lfP []
        ·exact eX g30 []
       ·cases g30
        cases hy29 _ rfl
        exact eX g18 []
    ·cases g18
     cases hy17 _ rfl
     cases h
     exact lfP []
def QhN (c:Fnv) (x:List Bt):Option Bool:=match c with
 | .k f=>if f=30 then QcM x else if f=31 then Qbf x else if f=32 then QaI x else if f=33 then Qbg x else if f=34 then Qb9 x else none
 | .r f lo hi=>none
 | .w f ws=>none
theorem Qu8 {c:Fnv} {x:List Bt} {r:Bool} (h:QhN c x=some r):PureC prog c.f ([.d (slD encSb x)]++c.caps.map .rp) (.d (.bool r)) []:=by
 cases c with
 |k f=>
  simp only[QhN] at h;split at h
  ·rename_i e;subst e;exact QkV h
  split at h
  ·rename_i e;subst e;exact QhL h
  split at h
  ·rename_i e;subst e;exact Qgt h
  split at h
  ·rename_i e;subst e;exact QhM h
  split at h
  ·rename_i e;subst e;exact QjE h
  cases h
 |r f lo hi=>
  simp only[QhN] at h;cases h
 |w f ws=>
  simp only[QhN] at h;cases h
def Zw (a0:(List Bt)):Option (Int):=
 bd (Jo a0) fun x1=>
(if(x1 !=0)=true then
 some x1
else
 bd (lp (σ:=Int) (β:=(Int⊕Unit)) (fun s2=>
(if(decide (s2<((([(Fnv.k 30),(Fnv.k 31),(Fnv.k 32),(Fnv.k 33),(Fnv.k 34)]:List Fnv).length:Nat):Int)))=true then
 gd ((0:Int)≤s2∧s2<((([(Fnv.k 30),(Fnv.k 31),(Fnv.k 32),(Fnv.k 33),(Fnv.k 34)]:List Fnv).length:Nat):Int))<|
 bd (QhN (([(Fnv.k 30),(Fnv.k 31),(Fnv.k 32),(Fnv.k 33),(Fnv.k 34)]:List Fnv).getD s2.toNat default) a0) fun x7=>
(if x7=true then
 some (.inr (.inl (IntKind.i64.wrap (5+s2))))
else
 some (.inl (IntKind.i64.wrap (s2+1))))
else
 some (.inr (.inr ())))) 0) fun x5=>
(match x5 with
| .inl d8=>
 some d8
| .inr d9=>
 some 0))
theorem Qag {a0:(List Bt)} {r:Int} (h:Zw a0=some r):PureC prog 10 [.d (slD encSb a0)] (dI r) []:=by
 refine pY tOk f10 rfl (Qb tOk (bC h 0 (fun _=>Qfj) fun x1 h=>?_));apply Qr h<;>intro _ h
 ·cases h
  exact lfP []
 ·refine Qb tOk (Qcl (enc:=Qbe) ([(Fnv.k 30),(Fnv.k 31),(Fnv.k 32),(Fnv.k 33),(Fnv.k 34)]:List Fnv) ?_);obtain⟨x5,hx5,h⟩:=Qc h;refine QJ tOk hx5 (fun s2=>⟨0,24,[(0,.d (slD encSb a0)),(11,.osl 11 0 (([(Fnv.k 30),(Fnv.k 31),(Fnv.k 32),(Fnv.k 33),(Fnv.k 34)]:List Fnv).length)),(12,dI ((([(Fnv.k 30),(Fnv.k 31),(Fnv.k 32),(Fnv.k 33),(Fnv.k 34)]:List Fnv).length:Nat):Int)),(13,dI s2)],[],[(11,.arr 63 1 (([(Fnv.k 30),(Fnv.k 31),(Fnv.k 32),(Fnv.k 33),(Fnv.k 34)]:List Fnv).length) (rows Qbe ([(Fnv.k 30),(Fnv.k 31),(Fnv.k 32),(Fnv.k 33),(Fnv.k 34)]:List Fnv)))],[]⟩) ?_ ?_
  ·exact leX []
  ·clear hx5;intro s2 y3 g4 hy3;refine Qb tOk ?_;apply Qr g4<;>intro _ g4
   ·refine Qb tOk (gdI g4 fun g4=>?_);obtain⟨x7,hx7,g4⟩:=Qc g4;refine cDy (Qu8 hx7) ?_;apply Qr g4<;>intro _ g4
    ·cases g4
     cases hy3 _ rfl
     cases h
     exact lfP []
    ·exact eX g4 []
   ·cases g4
    cases hy3 _ rfl
    cases h
    exact lfP []
def Qs (a0:(List Bt)):Option ((List Bt)):=
 gd ((0:Int)≤0∧0≤((a0.length:Nat):Int)∧((a0.length:Nat):Int)*16≤140737488355328∧((a0.length:Nat):Int)≤140737488355328)<|
 gd ((((List.replicate (0:Int).toNat (default:Bt)).length)+(a0.length))*(16+1)≤70368744177664)<|
 some ((List.replicate (0:Int).toNat (default:Bt))++a0)
theorem QK {a0:(List Bt)} {r:(List Bt)} (h:Qs a0=some r):PureC prog 19 [.d (slD encSb a0)] (.osl 5001 0 r.length) [⟨5001,9,1,r.length,rows encSb r⟩]:=by
 refine pY tOk f19 rfl ?_;obtain⟨g2,h⟩:=Qe h;refine aI g2 (⟨(List.replicate (0:Int).toNat (default:Bt)).length,rows encSb (List.replicate (0:Int).toNat (default:Bt)),by simp,fun i hi=>absurd hi (by simp),?_⟩);refine gdI h fun h=>Qiv (enc:=encSb) (xs:=(List.replicate (0:Int).toNat (default:Bt))) (ys:=a0) ?_;cases h;exact lfP [.s [(5,5001),(5001,5)]]
def QdD (a0:(List Bt)):Option (Qyj×Bool):=
 bd (Zw a0) fun x1=>
(if(x1 !=0)=true then
 some ((⟨false,(⟨0,[],0,[],[]⟩:Qyg),[],0,0,(⟨0,0,0,0,[]⟩:Qyh)⟩:Qyj),false)
else
 bd (Qs a0) fun x2=>
 bd (Qs a0) fun x3=>
 some ((⟨true,(⟨0,x2,0,[],[]⟩:Qyg),([(⟨true,0,false,x3⟩:Qyi),(⟨false,0,false,[]⟩:Qyi)]:List Qyi),0,0,(⟨0,0,0,0,[]⟩:Qyh)⟩:Qyj),true))
theorem QjF {a0:(List Bt)} {r:Qyj×Bool} (h:QdD a0=some r):EffC prog 5 [.d (slD encSb a0)] [] (.tup [.agg [dB r.1.Up,dI r.1.Box.Edition,.osl 5001 0 r.1.Box.Lines.length,dI r.1.Box.Trial,.osl 5002 0 r.1.Box.Back.length,.osl 5003 0 r.1.Box.Cands.length,.osl 5004 0 r.1.Slots.length,dI r.1.Live,dI r.1.Last,dI r.1.Job.Kind,dI r.1.Job.Step,dI r.1.Job.Edition,dI r.1.Job.Ticks,.osl 5005 0 r.1.Job.Lines.length],dB r.2]) [(5001,.arr 9 1 r.1.Box.Lines.length (rows encSb r.1.Box.Lines)),(5002,.arr 9 1 r.1.Box.Back.length (rows encSb r.1.Box.Back)),(5003,.arr 76 4 r.1.Box.Cands.length (rows Qyf.enc r.1.Box.Cands)),(5004,.arr 55 4 r.1.Slots.length (rows Qyi.enc r.1.Slots)),(5005,.arr 9 1 r.1.Job.Lines.length (rows encSb r.1.Job.Lines))]:=by
 refine eY tOk f5 rfl (Qb tOk (bC h 0 (fun _=>Qag) fun x1 h=>?_));apply Qr h<;>intro _ h
 ·cases h
  exact lfE [.p 5001 9 1 (rows encSb ([]:List Bt)),.p 5002 9 1 (rows encSb ([]:List Bt)),.p 5003 76 4 (rows Qyf.enc ([]:List Qyf)),.p 5004 55 4 (rows Qyi.enc ([]:List Qyi)),.p 5005 9 1 (rows encSb ([]:List Bt))]
 ·refine bC h 1000 (fun _=>QK) fun x2 h=>bC h 2000 (fun _=>QK) fun x3 h=>⟨([(⟨true,0,false,x3⟩:Qyi),(⟨false,0,false,[]⟩:Qyi)]:List Qyi).length,Go.Ab.rowAt [[(.bool true:D),(.int .i64 0:D),(.bool false:D),(slD encSb x3:D)],[(.bool false:D),(.int .i64 0:D),(.bool false:D),(.nil:D)]],rfl,fun _ _=>rfl,?_⟩;cases h;exact lfE [.w 15 ([(⟨true,0,false,x3⟩:Qyi),(⟨false,0,false,[]⟩:Qyi)]:List Qyi).length (Go.Ab.rowAt [[(.bool true:D),(.int .i64 0:D),(.bool false:D),(slD encSb x3:D)],[(.bool false:D),(.int .i64 0:D),(.bool false:D),(.nil:D)]]) (rows Qyi.enc ([(⟨true,0,false,x3⟩:Qyi),(⟨false,0,false,[]⟩:Qyi)]:List Qyi)) (Qxr (enc:=Qyi.enc) (ys:=([(⟨true,0,false,x3⟩:Qyi),(⟨false,0,false,[]⟩:Qyi)]:List Qyi)) (rs:=[[(.bool true:D),(.int .i64 0:D),(.bool false:D),(slD encSb x3:D)],[(.bool false:D),(.int .i64 0:D),(.bool false:D),(.nil:D)]]) zlA),.s [(15,5004),(5001,6001),(5004,15),(6001,5001)],.p 5002 9 1 (rows encSb ([]:List Bt)),.p 5003 76 4 (rows Qyf.enc ([]:List Qyf)),.p 5005 9 1 (rows encSb ([]:List Bt))]
def Z8 (a0:(List Bt)):Option ((List Bt)):=
 gd (((0)+(a0.length))*(16+1)≤70368744177664)<|
 some a0
theorem Qaw {a0:(List Bt)} {r:(List Bt)} (h:Z8 a0=some r):PureC prog 49 [.d (slD encSb a0)] (.osl 5001 0 r.length) [⟨5001,9,1,r.length,rows encSb r⟩]:=by
 refine pY tOk f49 rfl (gdI h fun h=>Qxp (enc:=encSb) (ys:=a0) ?_);cases h;exact lfP [.s [(5,5001),(5001,5)]]
def QcN (a0:Qyj):Option (Qyj):=
 bd (Z8 a0.Box.Lines) fun x1=>
 bd (Z8 a0.Box.Back) fun x2=>
 bd (lp (σ:=List Qyf×Int) (β:=(Nat×(List Qyf))) (fun s3=>
(if(decide (s3.2<((a0.Box.Cands.length:Nat):Int)))=true then
 gd ((0:Int)≤s3.2∧s3.2<((a0.Box.Cands.length:Nat):Int))<|
 bd (Z8 ((a0.Box.Cands.getD s3.2.toNat default).From)) fun x8=>
 bd (Z8 ((a0.Box.Cands.getD s3.2.toNat default).Lines)) fun x9=>
 gd (((s3.1.length)+(([{(a0.Box.Cands.getD s3.2.toNat default) with From:=x8,Lines:=x9}]:List Qyf).length))*(72+1)≤70368744177664)<|
 some (.inl ((s3.1++([{(a0.Box.Cands.getD s3.2.toNat default) with From:=x8,Lines:=x9}]:List Qyf)),IntKind.i64.wrap (s3.2+1)))
else
 some (.inr (s3.1.length,s3.1)))) (([]:List Qyf),0)) fun x6=>
 bd (lp (σ:=List Qyi×Int) (β:=(Nat×(List Qyi))) (fun s12=>
(if(decide (s12.2<((a0.Slots.length:Nat):Int)))=true then
 gd ((0:Int)≤s12.2∧s12.2<((a0.Slots.length:Nat):Int))<|
 bd (Z8 ((a0.Slots.getD s12.2.toNat default).Lines)) fun x17=>
 gd (((s12.1.length)+(([{(a0.Slots.getD s12.2.toNat default) with Lines:=x17}]:List Qyi).length))*(48+1)≤70368744177664)<|
 some (.inl ((s12.1++([{(a0.Slots.getD s12.2.toNat default) with Lines:=x17}]:List Qyi)),IntKind.i64.wrap (s12.2+1)))
else
 some (.inr (s12.1.length,s12.1)))) (([]:List Qyi),0)) fun x15=>
 bd (Z8 a0.Job.Lines) fun x20=>
 some ({a0 with Box:={a0.Box with Lines:=x1,Back:=x2,Cands:=x6.2},Slots:=x15.2,Job:={a0.Job with Lines:=x20}})
theorem QkW {a0:Qyj} {r:Qyj} (h:QcN a0=some r):EffC prog 21 [.agg [dB a0.Up,dI a0.Box.Edition,.d (slD encSb a0.Box.Lines),dI a0.Box.Trial,.d (slD encSb a0.Box.Back),.d (slD Qyf.enc a0.Box.Cands),.d (slD Qyi.enc a0.Slots),dI a0.Live,dI a0.Last,dI a0.Job.Kind,dI a0.Job.Step,dI a0.Job.Edition,dI a0.Job.Ticks,.d (slD encSb a0.Job.Lines)]] [] (.agg [dB r.Up,dI r.Box.Edition,.osl 5001 0 r.Box.Lines.length,dI r.Box.Trial,.osl 5002 0 r.Box.Back.length,.osl 5003 0 r.Box.Cands.length,.osl 5004 0 r.Slots.length,dI r.Live,dI r.Last,dI r.Job.Kind,dI r.Job.Step,dI r.Job.Edition,dI r.Job.Ticks,.osl 5005 0 r.Job.Lines.length]) [(5001,.arr 9 1 r.Box.Lines.length (rows encSb r.Box.Lines)),(5002,.arr 9 1 r.Box.Back.length (rows encSb r.Box.Back)),(5003,.arr 76 4 r.Box.Cands.length (rows Qyf.enc r.Box.Cands)),(5004,.arr 55 4 r.Slots.length (rows Qyi.enc r.Slots)),(5005,.arr 9 1 r.Job.Lines.length (rows encSb r.Job.Lines))]:=by
 refine eY tOk f21 rfl (bC h 1000 (fun _=>Qaw) fun x1 h=>bC h 2000 (fun _=>Qaw) fun x2 h=>Qb tOk ?_);obtain⟨x6,hx6,h⟩:=Qc h;refine QJ tOk hx6 (fun s3=>⟨0,81,[(1,.ref 1 0 0),(2,.ref 2 0 0),(3,.osl 7002 0 s3.1.length),(4,dI s3.2)],[],[(7002,.arr 76 4 s3.1.length (rows Qyf.enc s3.1)),(7001,.arr 9 1 x2.length (rows encSb x2)),(6001,.arr 9 1 x1.length (rows encSb x1)),(2,.box 33 [dB false,dI 0,.d (.nil),dI 0,.d (.nil),.d (.nil),.d (.nil),dI 0,dI 0,dI 0,dI 0,dI 0,dI 0,.d (.nil)]),(1,.box 33 [dB a0.Up,dI a0.Box.Edition,.osl 6001 0 x1.length,dI a0.Box.Trial,.osl 7001 0 x2.length,.d (slD Qyf.enc a0.Box.Cands),.d (slD Qyi.enc a0.Slots),dI a0.Live,dI a0.Last,dI a0.Job.Kind,dI a0.Job.Step,dI a0.Job.Edition,dI a0.Job.Ticks,.d (slD encSb a0.Job.Lines)])],[⟨[],[]⟩]⟩) ?_ ?_
 ·exact leX [.p 7002 76 4 (rows Qyf.enc ([]:List Qyf))]
 ·clear hx6;intro s3 y4 g5 hy4;refine Qb tOk ?_;apply Qr g5<;>intro _ g5
  ·refine Qb tOk (gdI g5 fun g5=>bC g5 3000 (fun _=>Qaw) fun x8 g5=>bC g5 4000 (fun _=>Qaw) fun x9 g5=>Qcl (enc:=Qyf.enc) ([{(a0.Box.Cands.getD s3.2.toNat default) with From:=x8,Lines:=x9}]:List Qyf) (gdI g5 fun g5=>Qiv (enc:=Qyf.enc) (xs:=s3.1) (ys:=([{(a0.Box.Cands.getD s3.2.toNat default) with From:=x8,Lines:=x9}]:List Qyf)) ?_));exact eX g5 []
  ·cases g5
   cases hy4 _ rfl
   refine Qb tOk ?_;obtain⟨x15,hx15,h⟩:=Qc h;refine QJ tOk hx15 (fun s12=>⟨0,81,[(1,.ref 1 0 0),(2,.ref 2 0 0),(6,.osl 7003 0 s12.1.length),(7,dI s12.2)],[],[(7003,.arr 55 4 s12.1.length (rows Qyi.enc s12.1)),(7002,.arr 76 4 (s3.1.length,s3.1).1 (rows Qyf.enc (s3.1.length,s3.1).2)),(7001,.arr 9 1 x2.length (rows encSb x2)),(6001,.arr 9 1 x1.length (rows encSb x1)),(2,.box 33 [dB false,dI 0,.d (.nil),dI 0,.d (.nil),.d (.nil),.d (.nil),dI 0,dI 0,dI 0,dI 0,dI 0,dI 0,.d (.nil)]),(1,.box 33 [dB a0.Up,dI a0.Box.Edition,.osl 6001 0 x1.length,dI a0.Box.Trial,.osl 7001 0 x2.length,.osl 7002 0 (s3.1.length,s3.1).1,.d (slD Qyi.enc a0.Slots),dI a0.Live,dI a0.Last,dI a0.Job.Kind,dI a0.Job.Step,dI a0.Job.Edition,dI a0.Job.Ticks,.d (slD encSb a0.Job.Lines)])],[⟨[],[]⟩]⟩) ?_ ?_
   ·exact leX [.p 7003 55 4 (rows Qyi.enc ([]:List Qyi))]
   ·clear hx15;intro s12 y13 g14 hy13;refine Qb tOk ?_;apply Qr g14<;>intro _ g14
    ·refine Qb tOk (gdI g14 fun g14=>bC g14 3000 (fun _=>Qaw) fun x17 g14=>Qcl (enc:=Qyi.enc) ([{(a0.Slots.getD s12.2.toNat default) with Lines:=x17}]:List Qyi) (gdI g14 fun g14=>Qiv (enc:=Qyi.enc) (xs:=s12.1) (ys:=([{(a0.Slots.getD s12.2.toNat default) with Lines:=x17}]:List Qyi)) ?_));exact eX g14 []
    ·cases g14
     cases hy13 _ rfl
     refine bC h 3000 (fun _=>Qaw) fun x20 h=>?_;cases h;exact lfE [.s [(5001,6001),(5002,7001),(5003,7002),(5004,7003),(5005,8001),(6001,5001),(7001,5002),(7002,5003),(7003,5004),(8001,5005)]]
def QdE (a0:(List Bt)):Option (Qyj×Bool):=
 bd (Qae a0) fun x1=>
(if(x1 !=0)=true then
 some ((⟨false,(⟨0,[],0,[],[]⟩:Qyg),[],0,0,(⟨0,0,0,0,[]⟩:Qyh)⟩:Qyj),false)
else
 bd (QcN (⟨true,(⟨0,a0,0,[],[]⟩:Qyg),([(⟨true,0,false,a0⟩:Qyi),(⟨false,0,false,[]⟩:Qyi)]:List Qyi),0,0,(⟨0,0,0,0,[]⟩:Qyh)⟩:Qyj)) fun x2=>
 some (x2,true))
theorem QjG {a0:(List Bt)} {r:Qyj×Bool} (h:QdE a0=some r):EffC prog 6 [.d (slD encSb a0)] [] (.tup [.agg [dB r.1.Up,dI r.1.Box.Edition,.osl 5001 0 r.1.Box.Lines.length,dI r.1.Box.Trial,.osl 5002 0 r.1.Box.Back.length,.osl 5003 0 r.1.Box.Cands.length,.osl 5004 0 r.1.Slots.length,dI r.1.Live,dI r.1.Last,dI r.1.Job.Kind,dI r.1.Job.Step,dI r.1.Job.Edition,dI r.1.Job.Ticks,.osl 5005 0 r.1.Job.Lines.length],dB r.2]) [(5001,.arr 9 1 r.1.Box.Lines.length (rows encSb r.1.Box.Lines)),(5002,.arr 9 1 r.1.Box.Back.length (rows encSb r.1.Box.Back)),(5003,.arr 76 4 r.1.Box.Cands.length (rows Qyf.enc r.1.Box.Cands)),(5004,.arr 55 4 r.1.Slots.length (rows Qyi.enc r.1.Slots)),(5005,.arr 9 1 r.1.Job.Lines.length (rows encSb r.1.Job.Lines))]:=by
 refine eY tOk f6 rfl (Qb tOk (bC h 0 (fun _=>Qe3) fun x1 h=>?_));apply Qr h<;>intro _ h
 ·cases h
  exact lfE [.p 5001 9 1 (rows encSb ([]:List Bt)),.p 5002 9 1 (rows encSb ([]:List Bt)),.p 5003 76 4 (rows Qyf.enc ([]:List Qyf)),.p 5004 55 4 (rows Qyi.enc ([]:List Qyi)),.p 5005 9 1 (rows encSb ([]:List Bt))]
 ·refine⟨([(⟨true,0,false,a0⟩:Qyi),(⟨false,0,false,[]⟩:Qyi)]:List Qyi).length,Go.Ab.rowAt [[(.bool true:D),(.int .i64 0:D),(.bool false:D),(slD encSb a0:D)],[(.bool false:D),(.int .i64 0:D),(.bool false:D),(.nil:D)]],rfl,fun _ _=>rfl,?_⟩;obtain⟨x2,hx2,h⟩:=Qc h;refine ZV [14] (cE [] 1000 (QkW hx2) ?_);cases h;exact lfE [.s [(5001,6001),(5002,6002),(5003,6003),(5004,6004),(5005,6005),(6001,5001),(6002,5002),(6003,5003),(6004,5004),(6005,5005)]]
def Jl (a0:(List Bt)) (a1:(List Bt)):Option (Bool):=
(if(((a0.length:Nat):Int) !=((a1.length:Nat):Int))=true then
 some false
else
 bd (lp (σ:=Int) (β:=(Unit⊕Unit)) (fun s1=>
(if(decide (s1<((a0.length:Nat):Int)))=true then
 gd ((0:Int)≤s1∧s1<((a0.length:Nat):Int))<|
 gd ((0:Int)≤s1∧s1<((a1.length:Nat):Int))<|
(if(!((a0.getD s1.toNat default)==(a1.getD s1.toNat default)))=true then
 some (.inr (.inl ()))
else
 some (.inl (IntKind.i64.wrap (s1+1))))
else
 some (.inr (.inr ())))) 0) fun x4=>
(match x4 with
| .inl d7=>
 some false
| .inr d8=>
 some true))
theorem QaJ {a0:(List Bt)} {a1:(List Bt)} {r:Bool} (h:Jl a0 a1=some r):PureC prog 11 [.d (slD encSb a0),.d (slD encSb a1)] (dB r) []:=by
 refine pY tOk f11 rfl (Qb tOk ?_);apply Qr h<;>intro _ h
 ·cases h
  exact lfP []
 ·refine Qb tOk ?_;obtain⟨x4,hx4,h⟩:=Qc h;refine QJ tOk hx4 (fun s1=>⟨0,26,[(0,.d (slD encSb a0)),(1,.d (slD encSb a1)),(5,dI s1)],[],[],[]⟩) ?_ ?_
  ·exact leX []
  ·clear hx4;intro s1 y2 g3 hy2;refine Qb tOk ?_;apply Qr g3<;>intro _ g3
   ·refine Qb tOk ?_;obtain⟨g5,g3⟩:=Qe g3;obtain⟨g6,g3⟩:=Qe g3;refine Q0 tOk [] 9 [] [0,0,3,7,0,0,48,112,255] [] (aI g5 (aI g6 (aK ?_)));apply Qr g3<;>intro _ g3
    ·cases g3
     cases hy2 _ rfl
     cases h
     exact lfP []
    ·exact eX g3 []
   ·cases g3
    cases hy2 _ rfl
    cases h
    exact lfP []
def Qdo (a0:(List Qyf)) (a1:(List Qyf)):Option (Bool):=
(if(((a0.length:Nat):Int) !=((a1.length:Nat):Int))=true then
 some false
else
 bd (lp (σ:=Int) (β:=(Unit⊕Unit)) (fun s1=>
(if(decide (s1<((a0.length:Nat):Int)))=true then
 gd ((0:Int)≤s1∧s1<((a0.length:Nat):Int))<|
 gd ((0:Int)≤s1∧s1<((a1.length:Nat):Int))<|
 gd ((!(((a0.getD s1.toNat default).User)==((a1.getD s1.toNat default).User)))=false→((0:Int)≤s1∧s1<((a0.length:Nat):Int)))<|
 gd ((!(((a0.getD s1.toNat default).User)==((a1.getD s1.toNat default).User)))=false→((0:Int)≤s1∧s1<((a1.length:Nat):Int)))<|
 gd (((!(((a0.getD s1.toNat default).User)==((a1.getD s1.toNat default).User)))||(((a0.getD s1.toNat default).Base) !=((a1.getD s1.toNat default).Base)))=false→((0:Int)≤s1∧s1<((a0.length:Nat):Int)))<|
 gd (((!(((a0.getD s1.toNat default).User)==((a1.getD s1.toNat default).User)))||(((a0.getD s1.toNat default).Base) !=((a1.getD s1.toNat default).Base)))=false→((0:Int)≤s1∧s1<((a1.length:Nat):Int)))<|
 bd (gcall (((!(((a0.getD s1.toNat default).User)==((a1.getD s1.toNat default).User)))||(((a0.getD s1.toNat default).Base) !=((a1.getD s1.toNat default).Base)))=false) (Jl ((a0.getD s1.toNat default).From) ((a1.getD s1.toNat default).From))) fun x11=>
 gd ((((!(((a0.getD s1.toNat default).User)==((a1.getD s1.toNat default).User)))||(((a0.getD s1.toNat default).Base) !=((a1.getD s1.toNat default).Base)))||(!x11))=false→((0:Int)≤s1∧s1<((a0.length:Nat):Int)))<|
 gd ((((!(((a0.getD s1.toNat default).User)==((a1.getD s1.toNat default).User)))||(((a0.getD s1.toNat default).Base) !=((a1.getD s1.toNat default).Base)))||(!x11))=false→((0:Int)≤s1∧s1<((a1.length:Nat):Int)))<|
 bd (gcall ((((!(((a0.getD s1.toNat default).User)==((a1.getD s1.toNat default).User)))||(((a0.getD s1.toNat default).Base) !=((a1.getD s1.toNat default).Base)))||(!x11))=false) (Jl ((a0.getD s1.toNat default).Lines) ((a1.getD s1.toNat default).Lines))) fun x14=>
(if((((!(((a0.getD s1.toNat default).User)==((a1.getD s1.toNat default).User)))||(((a0.getD s1.toNat default).Base) !=((a1.getD s1.toNat default).Base)))||(!x11))||(!x14))=true then
 some (.inr (.inl ()))
else
 some (.inl (IntKind.i64.wrap (s1+1))))
else
 some (.inr (.inr ())))) 0) fun x4=>
(match x4 with
| .inl d15=>
 some false
| .inr d16=>
 some true))
theorem Ql3 {a0:(List Qyf)} {a1:(List Qyf)} {r:Bool} (h:Qdo a0 a1=some r):PureC prog 22 [.d (slD Qyf.enc a0),.d (slD Qyf.enc a1)] (dB r) []:=by
 refine pY tOk f22 rfl (Qb tOk ?_);apply Qr h<;>intro _ h
 ·cases h
  exact lfP []
 ·refine Qb tOk ?_;obtain⟨x4,hx4,h⟩:=Qc h;refine QJ tOk hx4 (fun s1=>⟨0,69,[(0,.d (slD Qyf.enc a0)),(1,.d (slD Qyf.enc a1)),(5,dI s1)],[],[],[]⟩) ?_ ?_
  ·exact leX []
  ·clear hx4;intro s1 y2 g3 hy2;refine Qb tOk ?_;apply Qr g3<;>intro _ g3
   ·refine Qb tOk ?_;obtain⟨g5,g3⟩:=Qe g3;obtain⟨g6,g3⟩:=Qe g3;obtain⟨g7,g3⟩:=Qe g3;obtain⟨g8,g3⟩:=Qe g3;obtain⟨g9,g3⟩:=Qe g3;obtain⟨g10,g3⟩:=Qe g3;obtain⟨x11,hx11,g3⟩:=Qc g3;obtain⟨g12,g3⟩:=Qe g3;obtain⟨g13,g3⟩:=Qe g3;obtain⟨x14,hx14,g3⟩:=Qc g3;refine Q0 tOk [.u 35 0 (dB x11) [],.u 49 0 (dB x14) []] 52 [] [0,0,3,7,15,0,0,96,224,480,1023,2047,4095,4095,16383,32767,65535,4095,4095,397311,921599,1970175,4194303,8388607,16777215,33554431,33554431,134217727,268435455,536870911,33554431,33554431,3254779903,7549747199,16139681791,34359738367,68719476735,137438953471,274877906943,549755813887,549755813887,2199023255551,4398046511103,8796093022207,549755813887,549755813887,53326313947135,123695058124799,264432546480127,562949953421311,1125899906842623,2251799813685247] [] (aI g5 (aI g6 (aI g7 (aI g8 (aI g9 (aI g10 (aI (Qy rfl rfl rfl rfl (by intro c0;exact QaJ (Qo hx11 c0))) (aI g12 (aI g13 (aI (Qy rfl rfl rfl rfl (by intro c0;exact QaJ (Qo hx14 c0))) (aK ?_)))))))))));apply Qr g3<;>intro _ g3
    ·cases g3
     cases hy2 _ rfl
     cases h
     exact lfP []
    ·exact eX g3 []
   ·cases g3
    cases hy2 _ rfl
    cases h
    exact lfP []
def QcO (a0:(List Qyi)) (a1:(List Qyi)):Option (Bool):=
(if(((a0.length:Nat):Int) !=((a1.length:Nat):Int))=true then
 some false
else
 bd (lp (σ:=Int) (β:=(Unit⊕Unit)) (fun s1=>
(if(decide (s1<((a0.length:Nat):Int)))=true then
 gd ((0:Int)≤s1∧s1<((a0.length:Nat):Int))<|
 gd ((0:Int)≤s1∧s1<((a1.length:Nat):Int))<|
 gd ((!(((a0.getD s1.toNat default).Whole)==((a1.getD s1.toNat default).Whole)))=false→((0:Int)≤s1∧s1<((a0.length:Nat):Int)))<|
 gd ((!(((a0.getD s1.toNat default).Whole)==((a1.getD s1.toNat default).Whole)))=false→((0:Int)≤s1∧s1<((a1.length:Nat):Int)))<|
 gd (((!(((a0.getD s1.toNat default).Whole)==((a1.getD s1.toNat default).Whole)))||(((a0.getD s1.toNat default).Edition) !=((a1.getD s1.toNat default).Edition)))=false→((0:Int)≤s1∧s1<((a0.length:Nat):Int)))<|
 gd (((!(((a0.getD s1.toNat default).Whole)==((a1.getD s1.toNat default).Whole)))||(((a0.getD s1.toNat default).Edition) !=((a1.getD s1.toNat default).Edition)))=false→((0:Int)≤s1∧s1<((a1.length:Nat):Int)))<|
 gd ((((!(((a0.getD s1.toNat default).Whole)==((a1.getD s1.toNat default).Whole)))||(((a0.getD s1.toNat default).Edition) !=((a1.getD s1.toNat default).Edition)))||(!(((a0.getD s1.toNat default).Trial)==((a1.getD s1.toNat default).Trial))))=false→((0:Int)≤s1∧s1<((a0.length:Nat):Int)))<|
 gd ((((!(((a0.getD s1.toNat default).Whole)==((a1.getD s1.toNat default).Whole)))||(((a0.getD s1.toNat default).Edition) !=((a1.getD s1.toNat default).Edition)))||(!(((a0.getD s1.toNat default).Trial)==((a1.getD s1.toNat default).Trial))))=false→((0:Int)≤s1∧s1<((a1.length:Nat):Int)))<|
 bd (gcall ((((!(((a0.getD s1.toNat default).Whole)==((a1.getD s1.toNat default).Whole)))||(((a0.getD s1.toNat default).Edition) !=((a1.getD s1.toNat default).Edition)))||(!(((a0.getD s1.toNat default).Trial)==((a1.getD s1.toNat default).Trial))))=false) (Jl ((a0.getD s1.toNat default).Lines) ((a1.getD s1.toNat default).Lines))) fun x13=>
(if((((!(((a0.getD s1.toNat default).Whole)==((a1.getD s1.toNat default).Whole)))||(((a0.getD s1.toNat default).Edition) !=((a1.getD s1.toNat default).Edition)))||(!(((a0.getD s1.toNat default).Trial)==((a1.getD s1.toNat default).Trial))))||(!x13))=true then
 some (.inr (.inl ()))
else
 some (.inl (IntKind.i64.wrap (s1+1))))
else
 some (.inr (.inr ())))) 0) fun x4=>
(match x4 with
| .inl d14=>
 some false
| .inr d15=>
 some true))
theorem QkX {a0:(List Qyi)} {a1:(List Qyi)} {r:Bool} (h:QcO a0 a1=some r):PureC prog 23 [.d (slD Qyi.enc a0),.d (slD Qyi.enc a1)] (dB r) []:=by
 refine pY tOk f23 rfl (Qb tOk ?_);apply Qr h<;>intro _ h
 ·cases h
  exact lfP []
 ·refine Qb tOk ?_;obtain⟨x4,hx4,h⟩:=Qc h;refine QJ tOk hx4 (fun s1=>⟨0,68,[(0,.d (slD Qyi.enc a0)),(1,.d (slD Qyi.enc a1)),(5,dI s1)],[],[],[]⟩) ?_ ?_
  ·exact leX []
  ·clear hx4;intro s1 y2 g3 hy2;refine Qb tOk ?_;apply Qr g3<;>intro _ g3
   ·refine Qb tOk ?_;obtain⟨g5,g3⟩:=Qe g3;obtain⟨g6,g3⟩:=Qe g3;obtain⟨g7,g3⟩:=Qe g3;obtain⟨g8,g3⟩:=Qe g3;obtain⟨g9,g3⟩:=Qe g3;obtain⟨g10,g3⟩:=Qe g3;obtain⟨g11,g3⟩:=Qe g3;obtain⟨g12,g3⟩:=Qe g3;obtain⟨x13,hx13,g3⟩:=Qc g3;refine Q0 tOk [.u 48 0 (dB x13) []] 51 [] [0,0,3,7,15,0,0,96,224,480,1023,2047,4095,4095,16383,32767,65535,4095,4095,397311,921599,1970175,4194303,8388607,16777215,33554431,33554431,134217727,268435455,536870911,33554431,33554431,3254779903,7549747199,16139681791,34359738367,68719476735,137438953471,274877906943,274877906943,1099511627775,2199023255551,4398046511103,274877906943,274877906943,26663156973567,61847529062399,132216273240063,281474976710655,562949953421311,1125899906842623] [] (aI g5 (aI g6 (aI g7 (aI g8 (aI g9 (aI g10 (aI g11 (aI g12 (aI (Qy rfl rfl rfl rfl (by intro c0;exact QaJ (Qo hx13 c0))) (aK ?_))))))))));apply Qr g3<;>intro _ g3
    ·cases g3
     cases hy2 _ rfl
     cases h
     exact lfP []
    ·exact eX g3 []
   ·cases g3
    cases hy2 _ rfl
    cases h
    exact lfP []
def Qbr (a0:Qyj) (a1:Qyj):Option (Bool):=
 bd (gcall ((a0.Box.Edition==a1.Box.Edition)=true) (Jl a0.Box.Lines a1.Box.Lines)) fun x1=>
 bd (gcall ((((a0.Box.Edition==a1.Box.Edition)&&x1)&&(a0.Box.Trial==a1.Box.Trial))=true) (Jl a0.Box.Back a1.Box.Back)) fun x2=>
 bd (gcall (((((a0.Box.Edition==a1.Box.Edition)&&x1)&&(a0.Box.Trial==a1.Box.Trial))&&x2)=true) (Qdo a0.Box.Cands a1.Box.Cands)) fun x3=>
 bd (gcall (((((a0.Job.Kind==a1.Job.Kind)&&(a0.Job.Step==a1.Job.Step))&&(a0.Job.Edition==a1.Job.Edition))&&(a0.Job.Ticks==a1.Job.Ticks))=true) (Jl a0.Job.Lines a1.Job.Lines)) fun x4=>
 bd (gcall ((((((((a0.Box.Edition==a1.Box.Edition)&&x1)&&(a0.Box.Trial==a1.Box.Trial))&&x2)&&x3)&&(((((a0.Job.Kind==a1.Job.Kind)&&(a0.Job.Step==a1.Job.Step))&&(a0.Job.Edition==a1.Job.Edition))&&(a0.Job.Ticks==a1.Job.Ticks))&&x4))&&(a0.Up==a1.Up))=true) (QcO a0.Slots a1.Slots)) fun x5=>
 some ((((((((((a0.Box.Edition==a1.Box.Edition)&&x1)&&(a0.Box.Trial==a1.Box.Trial))&&x2)&&x3)&&(((((a0.Job.Kind==a1.Job.Kind)&&(a0.Job.Step==a1.Job.Step))&&(a0.Job.Edition==a1.Job.Edition))&&(a0.Job.Ticks==a1.Job.Ticks))&&x4))&&(a0.Up==a1.Up))&&x5)&&(a0.Live==a1.Live))&&(a0.Last==a1.Last))
theorem Qgc {a0:Qyj} {a1:Qyj} {r:Bool} (h:Qbr a0 a1=some r):PureC prog 7 [.agg [dB a0.Up,dI a0.Box.Edition,.d (slD encSb a0.Box.Lines),dI a0.Box.Trial,.d (slD encSb a0.Box.Back),.d (slD Qyf.enc a0.Box.Cands),.d (slD Qyi.enc a0.Slots),dI a0.Live,dI a0.Last,dI a0.Job.Kind,dI a0.Job.Step,dI a0.Job.Edition,dI a0.Job.Ticks,.d (slD encSb a0.Job.Lines)],.agg [dB a1.Up,dI a1.Box.Edition,.d (slD encSb a1.Box.Lines),dI a1.Box.Trial,.d (slD encSb a1.Box.Back),.d (slD Qyf.enc a1.Box.Cands),.d (slD Qyi.enc a1.Slots),dI a1.Live,dI a1.Last,dI a1.Job.Kind,dI a1.Job.Step,dI a1.Job.Edition,dI a1.Job.Ticks,.d (slD encSb a1.Job.Lines)]] (dB r) []:=by
 refine pY tOk f7 rfl (bG h (fun _=>QaJ) fun x1 h=>bG h (fun _=>QaJ) fun x2 h=>bG h (fun _=>Ql3) fun x3 h=>bG h (fun _=>QaJ) fun x4 h=>bG h (fun _=>QkX) fun x5 h=>?_);cases h;exact lfP []
def JD (a0:(List Bt)):Option (Bool):=
 bd (Jo a0) fun x1=>
 some (x1==0)
theorem Qcr {a0:(List Bt)} {r:Bool} (h:JD a0=some r):PureC prog 94 [.d (slD encSb a0)] (dB r) []:=by
 refine pY tOk f94 rfl (bC h 0 (fun _=>Qfj) fun x1 h=>?_);cases h;exact lfP []
def Jx (a0:Qyj):Option (Bool):=
 bd (gcall ((((a0.Slots.length:Nat):Int) !=2)=false) (Qn a0.Live 0 1)) fun x1=>
 bd (gcall (((((a0.Slots.length:Nat):Int) !=2)||(!x1))=false) (Qn a0.Last 0 1000000)) fun x2=>
(if(((((a0.Slots.length:Nat):Int) !=2)||(!x1))||(!x2))=true then
 some false
else
 bd (lp (σ:=Int) (β:=(Unit⊕Unit)) (fun s3=>
(if(decide (s3<((a0.Slots.length:Nat):Int)))=true then
 gd ((0:Int)≤s3∧s3<((a0.Slots.length:Nat):Int))<|
 bd (gcall ((a0.Slots.getD s3.toNat default).Whole=true) (Qn ((a0.Slots.getD s3.toNat default).Edition) 0 a0.Last)) fun x8=>
 bd (gcall ((!x8)=false∧(a0.Slots.getD s3.toNat default).Whole=true) (Zw ((a0.Slots.getD s3.toNat default).Lines))) fun x9=>
(if((a0.Slots.getD s3.toNat default).Whole&&((!x8)||(x9 !=0)))=true then
 some (.inr (.inl ()))
else
 bd (gcall (((((a0.Slots.getD s3.toNat default).Edition) !=0)||(a0.Slots.getD s3.toNat default).Trial)=false∧(!((a0.Slots.getD s3.toNat default).Whole))=true) (JD ((a0.Slots.getD s3.toNat default).Lines))) fun x10=>
(if((!((a0.Slots.getD s3.toNat default).Whole))&&(((((a0.Slots.getD s3.toNat default).Edition) !=0)||(a0.Slots.getD s3.toNat default).Trial)||(!x10)))=true then
 some (.inr (.inl ()))
else
 some (.inl (IntKind.i64.wrap (s3+1)))))
else
 some (.inr (.inr ())))) 0) fun x6=>
(match x6 with
| .inl d11=>
 some false
| .inr d12=>
 gd ((0:Int)≤a0.Live∧a0.Live<((a0.Slots.length:Nat):Int))<|
 gd ((0:Int)≤IntKind.i64.wrap (1-a0.Live)∧IntKind.i64.wrap (1-a0.Live)<((a0.Slots.length:Nat):Int))<|
(if(!((a0.Slots.getD a0.Live.toNat default).Whole))=true then
 some false
else
 some ((!((a0.Slots.getD a0.Live.toNat default).Trial))||((((((a0.Slots.getD a0.Live.toNat default).Edition)==a0.Last)&&(a0.Slots.getD ((IntKind.i64.wrap (1-a0.Live)).toNat) default).Whole)&&(!((a0.Slots.getD ((IntKind.i64.wrap (1-a0.Live)).toNat) default).Trial)))&&(decide (((a0.Slots.getD ((IntKind.i64.wrap (1-a0.Live)).toNat) default).Edition)<((a0.Slots.getD a0.Live.toNat default).Edition))))))))
theorem Qek {a0:Qyj} {r:Bool} (h:Jx a0=some r):PureC prog 50 [.rp [.bool a0.Up,.int .i64 a0.Box.Edition,slD encSb a0.Box.Lines,.int .i64 a0.Box.Trial,slD encSb a0.Box.Back,slD Qyf.enc a0.Box.Cands,slD Qyi.enc a0.Slots,.int .i64 a0.Live,.int .i64 a0.Last,.int .i64 a0.Job.Kind,.int .i64 a0.Job.Step,.int .i64 a0.Job.Edition,.int .i64 a0.Job.Ticks,slD encSb a0.Job.Lines]] (dB r) []:=by
 refine pY tOk f50 rfl (Qb tOk (bG h (fun _=>QQ) fun x1 h=>bG h (fun _=>QQ) fun x2 h=>?_));apply Qr h<;>intro _ h
 ·cases h
  exact lfP []
 ·refine Qb tOk ?_;obtain⟨x6,hx6,h⟩:=Qc h;refine QJ tOk hx6 (fun s3=>⟨0,124,[(0,.rp [.bool a0.Up,.int .i64 a0.Box.Edition,slD encSb a0.Box.Lines,.int .i64 a0.Box.Trial,slD encSb a0.Box.Back,slD Qyf.enc a0.Box.Cands,slD Qyi.enc a0.Slots,.int .i64 a0.Live,.int .i64 a0.Last,.int .i64 a0.Job.Kind,.int .i64 a0.Job.Step,.int .i64 a0.Job.Edition,.int .i64 a0.Job.Ticks,slD encSb a0.Job.Lines]),(32,.d (slD Qyi.enc a0.Slots)),(33,dI ((a0.Slots.length:Nat):Int)),(34,dI s3)],[],[],[]⟩) ?_ ?_
  ·exact leX []
  ·clear hx6;intro s3 y4 g5 hy4;refine Qb tOk ?_;apply Qr g5<;>intro _ g5
   ·refine Qb tOk (gdI g5 fun g5=>Qb tOk ?_);obtain⟨x8,hx8,g5⟩:=Qc g5;obtain⟨x9,hx9,g5⟩:=Qc g5;refine Q0 tOk [.u 9 0 (dB x8) [],.u 14 0 (dI x9) []] 18 [] [0,1,3,7,15,7,39,103,231,511,1023,2047,4095,8191,16383,32767,65535,131071] [] (aI (Qy rfl rfl rfl rfl (by intro c0;exact QQ (Qo hx8 c0))) (aI (Qy rfl rfl rfl rfl (by intro c0 c1;exact Qag (Qo hx9 ⟨c0,c1⟩))) (aK ?_)));apply Qr g5<;>intro _ g5
    ·cases g5
     cases hy4 _ rfl
     cases h
     exact lfP []
    ·obtain⟨x10,hx10,g5⟩:=Qc g5;refine cG (fun c0 c1=>Qcr (Qo hx10 ⟨c0,c1⟩)) ?_;apply Qr g5<;>intro _ g5
     ·cases g5
      cases hy4 _ rfl
      cases h
      exact lfP []
     ·exact eX g5 []
   ·cases g5
    cases hy4 _ rfl
    refine Qg7 tOk 20000 (fn:=f95) (c:=Jw f95) rfl rfl (by kernel_rfl) rfl ?_;obtain⟨g13,h⟩:=Qe h;refine Q0 tOk [] 10 [] [0,1,3,7,0,16,48,112,255,511] [] (aI g13 (aK (Qg7 tOk 20000 (fn:=f96) (c:=Jw f96) rfl rfl (by kernel_rfl) rfl ?_)));obtain⟨g14,h⟩:=Qe h;refine Q0 tOk [] 11 [] [0,1,3,7,0,16,48,112,240,511,1023] [] (aI g14 (aK (Qb tOk ?_)));apply Qr h<;>intro _ h
    ·cases h
     exact lfP []
    ·refine Q0 tOk [] 41 [] [0,1,3,7,15,31,63,127,255,511,63,1087,3135,7231,16383,32767,65535,131071,262143,524287,1048575,2097151,4194303,8388607,16777215,33554431,67108863,134217727,268435455,536870911,1073741823,2147483647,4294967295,536870911,9126805503,26306674687,60666413055,137438953471,274877906943,549755813887,1099511627775] [] (aK ?_);cases h;exact lfP []
def Q4 (a0:Qyh) (a1:Int):Option (Bool):=
 some (((((a0.Kind==a1)&&(a0.Step==0))&&(a0.Edition==0))&&(a0.Ticks==0))&&(((a0.Lines.length:Nat):Int)==0))
theorem Jq {a0:Qyh} {a1:Int} {r:Bool} (h:Q4 a0 a1=some r):PureC prog 51 [.agg [dI a0.Kind,dI a0.Step,dI a0.Edition,dI a0.Ticks,.d (slD encSb a0.Lines)],dI a1] (dB r) []:=by
 refine pY tOk f51 rfl ?_;unfold Q4 at h;cases h;exact lfP []
def Je (a0:Qyg):Option (Bool):=
 bd (lp (σ:=Int) (β:=(Unit⊕Unit)) (fun s1=>
(if(decide (s1<((a0.Cands.length:Nat):Int)))=true then
 gd ((0:Int)≤s1∧s1<((a0.Cands.length:Nat):Int))<|
 bd (Qb3 ((a0.Cands.getD s1.toNat default).User)) fun x6=>
 gd ((decide (s1>0))=true→((!x6)=false→((0:Int)≤IntKind.i64.wrap (s1-1)∧IntKind.i64.wrap (s1-1)<((a0.Cands.length:Nat):Int))))<|
 bd (gcall (((!x6)||((decide (s1>0))&&(!(bsl ((a0.Cands.getD ((IntKind.i64.wrap (s1-1)).toNat) default).User) ((a0.Cands.getD s1.toNat default).User)))))=false) (Qn ((a0.Cands.getD s1.toNat default).Base) 0 a0.Edition)) fun x8=>
 bd (gcall ((((!x6)||((decide (s1>0))&&(!(bsl ((a0.Cands.getD ((IntKind.i64.wrap (s1-1)).toNat) default).User) ((a0.Cands.getD s1.toNat default).User)))))||(!x8))=false) (JD ((a0.Cands.getD s1.toNat default).From))) fun x9=>
 bd (gcall (((((!x6)||((decide (s1>0))&&(!(bsl ((a0.Cands.getD ((IntKind.i64.wrap (s1-1)).toNat) default).User) ((a0.Cands.getD s1.toNat default).User)))))||(!x8))||(!x9))=false) (JD ((a0.Cands.getD s1.toNat default).Lines))) fun x10=>
(if(((((!x6)||((decide (s1>0))&&(!(bsl ((a0.Cands.getD ((IntKind.i64.wrap (s1-1)).toNat) default).User) ((a0.Cands.getD s1.toNat default).User)))))||(!x8))||(!x9))||(!x10))=true then
 some (.inr (.inl ()))
else
 some (.inl (IntKind.i64.wrap (s1+1))))
else
 some (.inr (.inr ())))) 0) fun x4=>
(match x4 with
| .inl d11=>
 some false
| .inr d12=>
 some (decide (((a0.Cands.length:Nat):Int)≤3)))
theorem Qe9 {a0:Qyg} {r:Bool} (h:Je a0=some r):PureC prog 52 [.agg [dI a0.Edition,.d (slD encSb a0.Lines),dI a0.Trial,.d (slD encSb a0.Back),.d (slD Qyf.enc a0.Cands)]] (dB r) []:=by
 refine pY tOk f52 rfl (Qb tOk ?_);obtain⟨x4,hx4,h⟩:=Qc h;refine QJ tOk hx4 (fun s1=>⟨0,58,[(1,.ref 1 0 0),(6,.d (slD Qyf.enc a0.Cands)),(7,dI ((a0.Cands.length:Nat):Int)),(8,dI s1)],[],[(1,.box 28 [dI a0.Edition,.d (slD encSb a0.Lines),dI a0.Trial,.d (slD encSb a0.Back),.d (slD Qyf.enc a0.Cands)])],[]⟩) ?_ ?_
 ·exact leX []
 ·clear hx4;intro s1 y2 g3 hy2;refine Qb tOk ?_;apply Qr g3<;>intro _ g3
  ·refine Qb tOk (gdI g3 fun g3=>?_);obtain⟨x6,hx6,g3⟩:=Qc g3;obtain⟨g7,g3⟩:=Qe g3;obtain⟨x8,hx8,g3⟩:=Qc g3;obtain⟨x9,hx9,g3⟩:=Qc g3;obtain⟨x10,hx10,g3⟩:=Qc g3;refine Q0 tOk [.u 2 0 (dB x6) [],.u 25 0 (dB x8) [],.u 31 0 (dB x9) [],.u 37 0 (dB x10) []] 40 [] [0,1,3,7,15,31,63,127,255,511,255,1279,4095,8191,16383,255,33023,131071,262143,524287,1048575,2097151,4194303,2097151,10485759,33554431,67108863,134217727,268435455,536870911,1073741823,2147483647,4294967295,8589934591,17179869183,34359738367,68719476735,137438953471,274877906943,549755813887] [] (aI (QM (Qg8 hx6) (by kernel_rfl)) (aI g7 (aI (Qy rfl rfl rfl rfl (by intro c0;exact QQ (Qo hx8 c0))) (aI (Qy rfl rfl rfl rfl (by intro c0;exact Qcr (Qo hx9 c0))) (aI (Qy rfl rfl rfl rfl (by intro c0;exact Qcr (Qo hx10 c0))) (aK ?_))))));apply Qr g3<;>intro _ g3
   ·cases g3
    cases hy2 _ rfl
    cases h
    exact lfP []
   ·exact eX g3 []
  ·cases g3
   cases hy2 _ rfl
   cases h
   exact lfP []
def QG (a0:(List Bt)) (a1:(List Bt)):Option (Bool):=
(if(((a0.length:Nat):Int) !=((a1.length:Nat):Int))=true then
 some false
else
 bd (lp (σ:=Int) (β:=(Unit⊕Unit)) (fun s1=>
(if(decide (s1<((a0.length:Nat):Int)))=true then
 gd ((0:Int)≤s1∧s1<((a0.length:Nat):Int))<|
 gd ((0:Int)≤s1∧s1<((a1.length:Nat):Int))<|
(if(!((a0.getD s1.toNat default)==(a1.getD s1.toNat default)))=true then
 some (.inr (.inl ()))
else
 some (.inl (IntKind.i64.wrap (s1+1))))
else
 some (.inr (.inr ())))) 0) fun x4=>
(match x4 with
| .inl d7=>
 some false
| .inr d8=>
 some true))
theorem Q8 {a0:(List Bt)} {a1:(List Bt)} {r:Bool} (h:QG a0 a1=some r):PureC prog 98 [.d (slD encSb a0),.d (slD encSb a1)] (dB r) []:=by
 refine pY tOk f98 rfl (Qb tOk ?_);apply Qr h<;>intro _ h
 ·cases h
  exact lfP []
 ·refine Qb tOk ?_;obtain⟨x4,hx4,h⟩:=Qc h;refine QJ tOk hx4 (fun s1=>⟨0,26,[(0,.d (slD encSb a0)),(1,.d (slD encSb a1)),(12,dI ((a0.length:Nat):Int)),(13,dI s1)],[],[],[]⟩) ?_ ?_
  ·exact leX []
  ·clear hx4;intro s1 y2 g3 hy2;refine Qb tOk ?_;apply Qr g3<;>intro _ g3
   ·refine Qb tOk ?_;obtain⟨g5,g3⟩:=Qe g3;obtain⟨g6,g3⟩:=Qe g3;refine Q0 tOk [] 9 [] [0,0,3,7,0,0,48,112,255] [] (aI g5 (aI g6 (aK ?_)));apply Qr g3<;>intro _ g3
    ·cases g3
     cases hy2 _ rfl
     cases h
     exact lfP []
    ·exact eX g3 []
   ·cases g3
    cases hy2 _ rfl
    cases h
    exact lfP []
def Qa5 (a0:Qyj):Option (Qyi):=
 gd ((0:Int)≤a0.Live∧a0.Live<((a0.Slots.length:Nat):Int))<|
 some (a0.Slots.getD a0.Live.toNat default)
theorem Qfm {a0:Qyj} {r:Qyi} (h:Qa5 a0=some r):EffC prog 95 [.rp [.bool a0.Up,.int .i64 a0.Box.Edition,slD encSb a0.Box.Lines,.int .i64 a0.Box.Trial,slD encSb a0.Box.Back,slD Qyf.enc a0.Box.Cands,slD Qyi.enc a0.Slots,.int .i64 a0.Live,.int .i64 a0.Last,.int .i64 a0.Job.Kind,.int .i64 a0.Job.Step,.int .i64 a0.Job.Edition,.int .i64 a0.Job.Ticks,slD encSb a0.Job.Lines]] [] (.rp [.bool r.Whole,.int .i64 r.Edition,.bool r.Trial,slD encSb r.Lines]) []:=by
 refine eY tOk f95 rfl ?_;obtain⟨g1,h⟩:=Qe h;refine Q0 tOk [] 10 [] [0,1,3,7,0,16,48,112,255,511] [] (aI g1 (aK ?_));cases h;exact lfE []
def ZJ (a0:Qyj) (a1:Int):Option (Bool):=
 bd (gcall ((a1==a0.Last)=true∧(a1==(IntKind.i64.wrap (a0.Last+1)))=false) (Qa5 a0)) fun x1=>
 some ((a1==(IntKind.i64.wrap (a0.Last+1)))||((a1==a0.Last)&&(a1==x1.Edition)))
theorem Qcp {a0:Qyj} {a1:Int} {r:Bool} (h:ZJ a0 a1=some r):PureC prog 99 [.rp [.bool a0.Up,.int .i64 a0.Box.Edition,slD encSb a0.Box.Lines,.int .i64 a0.Box.Trial,slD encSb a0.Box.Back,slD Qyf.enc a0.Box.Cands,slD Qyi.enc a0.Slots,.int .i64 a0.Live,.int .i64 a0.Last,.int .i64 a0.Job.Kind,.int .i64 a0.Job.Step,.int .i64 a0.Job.Edition,.int .i64 a0.Job.Ticks,slD encSb a0.Job.Lines],dI a1] (dB r) []:=by
 refine pY tOk f99 rfl ?_;obtain⟨x1,hx1,h⟩:=Qc h;refine Qu9 [] 0 rfl rfl rfl (by intro c0 c1;exact Qfm (Qo hx1 ⟨c0,c1⟩)) Qtb inA rfl rfl (Qpb inA) ?_;cases h;exact lfP []
def Jm (a0:Qyj):Option (Bool):=
 bd (gcall ((a0.Job.Kind !=1)=false) (Zw a0.Job.Lines)) fun x1=>
 bd (gcall (((a0.Job.Kind !=1)||(x1 !=0))=false) (Qn a0.Job.Ticks 0 9)) fun x2=>
 bd (gcall ((((((a0.Job.Kind !=1)||(x1 !=0))||(!x2))||(a0.Job.Edition !=(IntKind.i64.wrap (a0.Box.Edition+1))))||(decide (a0.Job.Edition>1000000)))=false) (Qn a0.Job.Step 0 (IntKind.i64.wrap (((a0.Job.Lines.length:Nat):Int)+2)))) fun x3=>
(if((((((a0.Job.Kind !=1)||(x1 !=0))||(!x2))||(a0.Job.Edition !=(IntKind.i64.wrap (a0.Box.Edition+1))))||(decide (a0.Job.Edition>1000000)))||(!x3))=true then
 some false
else
(if(a0.Job.Step==0)=true then
 bd (ZJ a0 a0.Box.Edition) fun x4=>
 some x4
else
 gd ((0:Int)≤IntKind.i64.wrap (1-a0.Live)∧IntKind.i64.wrap (1-a0.Live)<((a0.Slots.length:Nat):Int))<|
(if(a0.Job.Edition !=a0.Last)=true then
 some false
else
(if(a0.Job.Step==(IntKind.i64.wrap (((a0.Job.Lines.length:Nat):Int)+2)))=true then
 bd (gcall (((a0.Slots.getD ((IntKind.i64.wrap (1-a0.Live)).toNat) default).Whole&&(((a0.Slots.getD ((IntKind.i64.wrap (1-a0.Live)).toNat) default).Edition)==a0.Job.Edition))=true) (QG ((a0.Slots.getD ((IntKind.i64.wrap (1-a0.Live)).toNat) default).Lines) a0.Job.Lines)) fun x6=>
 some ((((a0.Slots.getD ((IntKind.i64.wrap (1-a0.Live)).toNat) default).Whole&&(((a0.Slots.getD ((IntKind.i64.wrap (1-a0.Live)).toNat) default).Edition)==a0.Job.Edition))&&x6)&&(((a0.Slots.getD ((IntKind.i64.wrap (1-a0.Live)).toNat) default).Trial)==(decide (a0.Job.Ticks>0))))
else
 gd ((!((a0.Slots.getD ((IntKind.i64.wrap (1-a0.Live)).toNat) default).Whole))=true→((0:Int)≤(0:Int)∧(0:Int)≤IntKind.i64.wrap (a0.Job.Step-1)∧IntKind.i64.wrap (a0.Job.Step-1)≤((a0.Job.Lines.length:Nat):Int)))<|
 bd (gcall ((!((a0.Slots.getD ((IntKind.i64.wrap (1-a0.Live)).toNat) default).Whole))=true) (QG ((a0.Slots.getD ((IntKind.i64.wrap (1-a0.Live)).toNat) default).Lines) (a0.Job.Lines.take ((IntKind.i64.wrap (a0.Job.Step-1)).toNat)))) fun x8=>
 some ((!((a0.Slots.getD ((IntKind.i64.wrap (1-a0.Live)).toNat) default).Whole))&&x8)))))
theorem Qea {a0:Qyj} {r:Bool} (h:Jm a0=some r):PureC prog 100 [.rp [.bool a0.Up,.int .i64 a0.Box.Edition,slD encSb a0.Box.Lines,.int .i64 a0.Box.Trial,slD encSb a0.Box.Back,slD Qyf.enc a0.Box.Cands,slD Qyi.enc a0.Slots,.int .i64 a0.Live,.int .i64 a0.Last,.int .i64 a0.Job.Kind,.int .i64 a0.Job.Step,.int .i64 a0.Job.Edition,.int .i64 a0.Job.Ticks,slD encSb a0.Job.Lines]] (dB r) []:=by
 refine pY tOk f100 rfl (QbY tOk [.a 10 [] (.ref 3 0 0) [(3,.box 31 [dI 0,dI 0,dI 0,dI 0,.d (.nil)])],.a 11 [(3,.box 31 [dI 0,dI 0,dI 0,dI 0,.d (.nil)])] (.any) [(3,.box 31 [dI a0.Job.Kind,dI a0.Job.Step,dI a0.Job.Edition,dI a0.Job.Ticks,.d (slD encSb a0.Job.Lines)])]] 13 [] [0,1,3,7,0,16,48,112,240,496,0,1039,4095] [] [] (aI (by(conv=>whnf);exact⟨rfl,rfl⟩) (aI (by(conv=>whnf);exact⟨rfl,rfl⟩) (aK (Qb tOk ?_)))));obtain⟨x1,hx1,h⟩:=Qc h;obtain⟨x2,hx2,h⟩:=Qc h;obtain⟨x3,hx3,h⟩:=Qc h;refine Q0 tOk [.u 6 0 (dI x1) [],.u 12 0 (dB x2) [],.u 36 0 (dB x3) []] 39 [] [0,1,3,7,15,31,63,127,255,511,1023,2047,4095,8191,16383,32767,65535,131071,65535,327679,851967,1900543,3997695,8191999,16777215,33554431,67108863,134217727,268435455,536870911,1073741823,2147483647,4294967295,8589934591,4294967295,21474836479,68719476735,137438953471,274877906943] [] (aI (Qy rfl rfl rfl rfl (by intro c0;exact Qag (Qo hx1 c0))) (aI (Qy rfl rfl rfl rfl (by intro c0;exact QQ (Qo hx2 c0))) (aI (Qy rfl rfl rfl rfl (by intro c0;exact QQ (Qo hx3 c0))) (aK ?_))));apply Qr h<;>intro _ h
 ·cases h
  exact lfP []
 ·refine Qb tOk ?_;apply Qr h<;>intro _ h
  ·refine bC h 0 (fun _=>Qcp) fun x4 h=>?_;cases h;exact lfP []
  ·refine Qg7 tOk 20000 (fn:=f96) (c:=Jw f96) rfl rfl (by kernel_rfl) rfl ?_;obtain⟨g5,h⟩:=Qe h;refine Q0 tOk [] 11 [] [0,1,3,7,0,16,48,112,240,511,1023] [] (aI g5 (aK (Qb tOk (Q0 tOk [] 7 [] [0,1,0,4,12,28,63] [] (aK ?_)))));apply Qr h<;>intro _ h
   ·cases h
    exact lfP []
   ·refine Qb tOk ?_;apply Qr h<;>intro _ h
    ·obtain⟨x6,hx6,h⟩:=Qc h;refine Q0 tOk [.u 20 0 (dB x6) []] 33 [] [0,1,3,7,15,31,63,127,255,31,543,2047,4095,8191,16383,32767,65535,131071,16383,278527,1048575,2097151,4194303,8388607,16777215,33554431,67108863,8388607,142606335,411041791,1073741823,2147483647,4294967295] [] (aI (Qy rfl rfl rfl rfl (by intro c0;exact Q8 (Qo hx6 c0))) (aK ?_));cases h;exact lfP []
    ·obtain⟨g7,h⟩:=Qe h;obtain⟨x8,hx8,h⟩:=Qc h;refine Q0 tOk [.u 16 0 (dB x8) []] 19 [] [0,1,3,7,15,31,63,127,255,511,63,1087,63,4159,12351,31807,65535,131071,262143] [] (aI (by intro c0;exact⟨g7 c0,.inr rfl⟩) (aI (Qy rfl rfl rfl rfl (by intro c0;have q0:=g7 c0;exact(Q8 (Qo hx8 c0)).le Qtb)) (aK ?_)));cases h;exact lfP []
def Zo (a0:Qyj):Option (Bool):=
 gd ((0:Int)≤a0.Live∧a0.Live<((a0.Slots.length:Nat):Int))<|
 gd ((0:Int)≤IntKind.i64.wrap (1-a0.Live)∧IntKind.i64.wrap (1-a0.Live)<((a0.Slots.length:Nat):Int))<|
(if(a0.Box.Trial !=0)=true then
 bd (Qn a0.Box.Trial 1 9) fun x3=>
 bd (gcall ((x3&&(a0.Slots.getD a0.Live.toNat default).Trial)=true) (QG ((a0.Slots.getD a0.Live.toNat default).Lines) a0.Box.Lines)) fun x4=>
 bd (gcall (((x3&&(a0.Slots.getD a0.Live.toNat default).Trial)&&x4)=true) (QG ((a0.Slots.getD ((IntKind.i64.wrap (1-a0.Live)).toNat) default).Lines) a0.Box.Back)) fun x5=>
 bd (gcall (((((x3&&(a0.Slots.getD a0.Live.toNat default).Trial)&&x4)&&x5)&&(a0.Box.Edition==a0.Last))=true) (Q4 a0.Job 0)) fun x6=>
 bd (gcall (x6=false∧((((x3&&(a0.Slots.getD a0.Live.toNat default).Trial)&&x4)&&x5)&&(a0.Box.Edition==a0.Last))=true) (Q4 a0.Job 2)) fun x7=>
 some (((((x3&&(a0.Slots.getD a0.Live.toNat default).Trial)&&x4)&&x5)&&(a0.Box.Edition==a0.Last))&&(x6||x7))
else
(if(decide (((a0.Box.Back.length:Nat):Int)>0))=true then
 some false
else
(if(a0.Slots.getD a0.Live.toNat default).Trial=true then
 bd (QG ((a0.Slots.getD ((IntKind.i64.wrap (1-a0.Live)).toNat) default).Lines) a0.Box.Lines) fun x8=>
 bd (gcall ((x8&&(a0.Box.Edition==(IntKind.i64.wrap (a0.Last+1))))=true) (Q4 a0.Job 3)) fun x9=>
 some ((x8&&(a0.Box.Edition==(IntKind.i64.wrap (a0.Last+1))))&&x9)
else
 bd (QG ((a0.Slots.getD a0.Live.toNat default).Lines) a0.Box.Lines) fun x10=>
 bd (gcall (x10=true) (Q4 a0.Job 0)) fun x11=>
 bd (gcall (x11=true∧x10=true) (ZJ a0 a0.Box.Edition)) fun x12=>
 bd (gcall ((x11&&x12)=false∧x10=true) (Jm a0)) fun x13=>
 some (x10&&((x11&&x12)||x13)))))
theorem Qfa {a0:Qyj} {r:Bool} (h:Zo a0=some r):PureC prog 53 [.rp [.bool a0.Up,.int .i64 a0.Box.Edition,slD encSb a0.Box.Lines,.int .i64 a0.Box.Trial,slD encSb a0.Box.Back,slD Qyf.enc a0.Box.Cands,slD Qyi.enc a0.Slots,.int .i64 a0.Live,.int .i64 a0.Last,.int .i64 a0.Job.Kind,.int .i64 a0.Job.Step,.int .i64 a0.Job.Edition,.int .i64 a0.Job.Ticks,slD encSb a0.Job.Lines]] (dB r) []:=by
 refine pY tOk f53 rfl (Qg7 tOk 20000 (fn:=f95) (c:=Jw f95) rfl rfl (by kernel_rfl) rfl ?_);obtain⟨g1,h⟩:=Qe h;refine Q0 tOk [] 10 [] [0,1,3,7,0,16,48,112,255,511] [] (aI g1 (aK (Qg7 tOk 20000 (fn:=f96) (c:=Jw f96) rfl rfl (by kernel_rfl) rfl ?_)));obtain⟨g2,h⟩:=Qe h;refine Q0 tOk [] 11 [] [0,1,3,7,0,16,48,112,240,511,1023] [] (aI g2 (aK (Qb tOk ?_)));apply Qr h<;>intro _ h
 ·obtain⟨x3,hx3,h⟩:=Qc h;obtain⟨x4,hx4,h⟩:=Qc h;obtain⟨x5,hx5,h⟩:=Qc h;obtain⟨x6,hx6,h⟩:=Qc h;obtain⟨x7,hx7,h⟩:=Qc h;refine Q0 tOk [.u 2 0 (dB x3) [],.u 16 0 (dB x4) [],.u 25 0 (dB x5) [],.u 41 0 (dB x6) [],.u 47 0 (dB x7) []] 51 [] [0,1,3,7,15,31,63,127,255,511,1023,2047,4095,8191,1023,17407,65535,131071,262143,524287,1048575,2097151,4194303,524287,8912895,33554431,67108863,134217727,268435455,536870911,268435455,1342177279,3489660927,7784628223,17179869183,34359738367,68719476735,137438953471,274877906943,549755813887,1099511627775,2199023255551,4398046511103,8796093022207,17592186044415,35184372088831,70368744177663,140737488355327,281474976710655,562949953421311,1125899906842623] [] (aI (QM (QQ hx3) (by kernel_rfl)) (aI (Qy rfl rfl rfl rfl (by intro c0;exact Q8 (Qo hx4 c0))) (aI (Qy rfl rfl rfl rfl (by intro c0;exact Q8 (Qo hx5 c0))) (aI (Qy rfl rfl rfl rfl (by intro c0;exact Jq (Qo hx6 c0))) (aI (Qy rfl rfl rfl rfl (by intro c0 c1;exact Jq (Qo hx7 ⟨c0,c1⟩))) (aK ?_))))));cases h;exact lfP []
 ·refine Qb tOk ?_;apply Qr h<;>intro _ h
  ·cases h
   exact lfP []
  ·refine Qb tOk ?_;apply Qr h<;>intro _ h
   ·obtain⟨x8,hx8,h⟩:=Qc h;obtain⟨x9,hx9,h⟩:=Qc h;refine Q0 tOk [.u 6 0 (dB x8) [],.u 22 0 (dB x9) []] 25 [] [0,1,3,7,0,16,63,127,255,511,255,1279,3327,7423,15615,32767,65535,131071,262143,524287,1048575,2097151,4194303,8388607,16777215] [] (aI (QM (Q8 hx8) (by kernel_rfl)) (aI (Qy rfl rfl rfl rfl (by intro c0;exact Jq (Qo hx9 c0))) (aK ?_)));cases h;exact lfP []
   ·obtain⟨x10,hx10,h⟩:=Qc h;obtain⟨x11,hx11,h⟩:=Qc h;obtain⟨x12,hx12,h⟩:=Qc h;obtain⟨x13,hx13,h⟩:=Qc h;refine Q0 tOk [.u 6 0 (dB x10) [],.u 12 0 (dB x11) [],.u 17 0 (dB x12) [],.u 21 0 (dB x13) []] 25 [] [0,1,3,7,0,16,63,127,255,511,1023,2047,4095,8191,16383,16383,49151,131071,262143,524287,1048575,2097151,4194303,8388607,16777215] [] (aI (QM (Q8 hx10) (by kernel_rfl)) (aI (Qy rfl rfl rfl rfl (by intro c0;exact Jq (Qo hx11 c0))) (aI (Qy rfl rfl rfl rfl (by intro c0 c1;exact Qcp (Qo hx12 ⟨c0,c1⟩))) (aI (Qy rfl rfl rfl rfl (by intro c0 c1;exact Qea (Qo hx13 ⟨c0,c1⟩))) (aK ?_)))));cases h;exact lfP []
def Q5 (a0:Qyj):Option (Bool):=
 bd (Jx a0) fun x1=>
(if(!x1)=true then
 some false
else
(if(!a0.Up)=true then
 bd (gcall ((((((a0.Box.Edition==0)&&(((a0.Box.Lines.length:Nat):Int)==0))&&(a0.Box.Trial==0))&&(((a0.Box.Back.length:Nat):Int)==0))&&(((a0.Box.Cands.length:Nat):Int)==0))=true) (Q4 a0.Job 0)) fun x2=>
 some ((((((a0.Box.Edition==0)&&(((a0.Box.Lines.length:Nat):Int)==0))&&(a0.Box.Trial==0))&&(((a0.Box.Back.length:Nat):Int)==0))&&(((a0.Box.Cands.length:Nat):Int)==0))&&x2)
else
 bd (Je a0.Box) fun x3=>
 bd (gcall (x3=true) (Zo a0)) fun x4=>
 some (x3&&x4)))
theorem Qca {a0:Qyj} {r:Bool} (h:Q5 a0=some r):PureC prog 24 [.agg [dB a0.Up,dI a0.Box.Edition,.d (slD encSb a0.Box.Lines),dI a0.Box.Trial,.d (slD encSb a0.Box.Back),.d (slD Qyf.enc a0.Box.Cands),.d (slD Qyi.enc a0.Slots),dI a0.Live,dI a0.Last,dI a0.Job.Kind,dI a0.Job.Step,dI a0.Job.Edition,dI a0.Job.Ticks,.d (slD encSb a0.Job.Lines)]] (dB r) []:=by
 refine pY tOk f24 rfl (Qb tOk (bC h 0 (fun _=>Qek) fun x1 h=>?_));apply Qr h<;>intro _ h
 ·cases h
  exact lfP []
 ·refine Qb tOk ?_;apply Qr h<;>intro _ h
  ·refine bG h (fun _=>Jq) fun x2 h=>?_;cases h;exact lfP []
  ·refine bC h 0 (fun _=>Qe9) fun x3 h=>bG h (fun _=>Qfa) fun x4 h=>?_;cases h;exact lfP []
def QW (a0:(List Bt)):Option ((List Bt)):=
 gd ((0:Int)≤0∧0≤((a0.length:Nat):Int)∧((a0.length:Nat):Int)*16≤140737488355328∧((a0.length:Nat):Int)≤140737488355328)<|
 gd ((((List.replicate (0:Int).toNat (default:Bt)).length)+(a0.length))*(16+1)≤70368744177664)<|
 some ((List.replicate (0:Int).toNat (default:Bt))++a0)
theorem ZX {a0:(List Bt)} {r:(List Bt)} (h:QW a0=some r):EffC prog 19 [.d (slD encSb a0)] [] (.d (slD encSb r)) []:=by
 refine eY tOk f19 rfl ?_;obtain⟨g2,h⟩:=Qe h;refine aI g2 (⟨(List.replicate (0:Int).toNat (default:Bt)).length,rows encSb (List.replicate (0:Int).toNat (default:Bt)),by simp,fun i hi=>absurd hi (by simp),?_⟩);refine gdI h fun h=>Qiv (enc:=encSb) (xs:=(List.replicate (0:Int).toNat (default:Bt))) (ys:=a0) ?_;cases h;exact lfE [.f [5]]
def Qbs (a0:Qyg):Option (Qyg):=
 bd (Qs a0.Lines) fun x1=>
 bd (Qs a0.Back) fun x2=>
 bd (lp (σ:=List Qyf×Int) (β:=((List Qyf)×Nat)) (fun s3=>
(if(decide (s3.2<((a0.Cands.length:Nat):Int)))=true then
 gd ((0:Int)≤s3.2∧s3.2<((a0.Cands.length:Nat):Int))<|
 bd (QW ((a0.Cands.getD s3.2.toNat default).From)) fun x8=>
 bd (QW ((a0.Cands.getD s3.2.toNat default).Lines)) fun x9=>
 gd (((s3.1.length)+(([{(a0.Cands.getD s3.2.toNat default) with From:=x8,Lines:=x9}]:List Qyf).length))*(72+1)≤70368744177664)<|
 some (.inl ((s3.1++([{(a0.Cands.getD s3.2.toNat default) with From:=x8,Lines:=x9}]:List Qyf)),IntKind.i64.wrap (s3.2+1)))
else
 some (.inr (s3.1,s3.1.length)))) (([]:List Qyf),0)) fun x6=>
 some ({a0 with Lines:=x1,Back:=x2,Cands:=x6.1})
theorem Qgd {a0:Qyg} {r:Qyg} (h:Qbs a0=some r):EffC prog 54 [.agg [dI a0.Edition,.d (slD encSb a0.Lines),dI a0.Trial,.d (slD encSb a0.Back),.d (slD Qyf.enc a0.Cands)]] [] (.agg [dI r.Edition,.osl 5001 0 r.Lines.length,dI r.Trial,.osl 5002 0 r.Back.length,.osl 5003 0 r.Cands.length]) [(5001,.arr 9 1 r.Lines.length (rows encSb r.Lines)),(5002,.arr 9 1 r.Back.length (rows encSb r.Back)),(5003,.arr 76 4 r.Cands.length (rows Qyf.enc r.Cands))]:=by
 refine eY tOk f54 rfl ?_;obtain⟨x1,hx1,h⟩:=Qc h;obtain⟨x2,hx2,h⟩:=Qc h;refine Q0 tOk [.u 4 1000 (.osl 5001 0 x1.length) [⟨5001,9,1,x1.length,rows encSb x1⟩],.u 9 2000 (.osl 5001 0 x2.length) [⟨5001,9,1,x2.length,rows encSb x2⟩]] 12 [] [0,1,0,4,12,0,32,0,128,412,1023,0] [4095] (aI (QM (QK hx1) (by kernel_rfl)) (aI (QM (QK hx2) (by kernel_rfl)) (aK (Qb tOk ?_))));obtain⟨x6,hx6,h⟩:=Qc h;refine QJ tOk hx6 (fun s3=>⟨0,42,[(2,.ref 2 0 0),(3,.ref 3 0 0),(18,.d (slD Qyf.enc a0.Cands)),(19,dI ((a0.Cands.length:Nat):Int)),(20,dI s3.2)],[],[(7002,.arr 76 4 s3.1.length (rows Qyf.enc s3.1)),(3,.box 28 [dI a0.Edition,.osl 6001 0 x1.length,dI a0.Trial,.osl 7001 0 x2.length,.osl 7002 0 s3.1.length]),(7001,.arr 9 1 x2.length (rows encSb x2)),(6001,.arr 9 1 x1.length (rows encSb x1)),(2,.box 28 [dI 0,.d (.nil),dI 0,.d (.nil),.d (.nil)])],[⟨[],[]⟩]⟩) ?_ ?_
 ·exact leX [.p 7002 76 4 (rows Qyf.enc ([]:List Qyf))]
 ·clear hx6;intro s3 y4 g5 hy4;refine Qb tOk ?_;apply Qr g5<;>intro _ g5
  ·refine Qb tOk (gdI g5 fun g5=>?_);obtain⟨x8,hx8,g5⟩:=Qc g5;obtain⟨x9,hx9,g5⟩:=Qc g5;refine QbY tOk [.e 8 [] (.d (slD encSb x8)) [] [],.e 11 [] (.d (slD encSb x9)) [] []] 14 [] [0,1,0,4,0,16,0,64,192,0,512,1984,4092,8188] [16383,32767,65535] [] (aI (eD [] 0 (ZX hx8)) (aI (eD [] 0 (ZX hx9)) (Qcl (enc:=Qyf.enc) ([{(a0.Cands.getD s3.2.toNat default) with From:=x8,Lines:=x9}]:List Qyf) (aK (gdI g5 fun g5=>Qiv (enc:=Qyf.enc) (xs:=s3.1) (ys:=([{(a0.Cands.getD s3.2.toNat default) with From:=x8,Lines:=x9}]:List Qyf)) ?_)))));exact eX g5 []
  ·cases g5
   cases hy4 _ rfl
   cases h
   exact lfE [.s [(5001,6001),(5002,7001),(5003,7002),(6001,5001),(7001,5002),(7002,5003)]]
def Jr (a0:(List Qyi)):Option ((List Qyi)):=
 gd ((0:Int)≤0∧0≤((a0.length:Nat):Int)∧((a0.length:Nat):Int)*48≤140737488355328∧((a0.length:Nat):Int)≤140737488355328)<|
 gd ((((List.replicate (0:Int).toNat (default:Qyi)).length)+(a0.length))*(48+1)≤70368744177664)<|
 some ((List.replicate (0:Int).toNat (default:Qyi))++a0)
theorem QcZ {a0:(List Qyi)} {r:(List Qyi)} (h:Jr a0=some r):EffC prog 55 [.d (slD Qyi.enc a0)] [] (.osl 5001 0 r.length) [(5001,.arr 55 4 r.length (rows Qyi.enc r))]:=by
 refine eY tOk f55 rfl ?_;obtain⟨g2,h⟩:=Qe h;refine aI g2 (⟨(List.replicate (0:Int).toNat (default:Qyi)).length,rows Qyi.enc (List.replicate (0:Int).toNat (default:Qyi)),by simp,fun i hi=>absurd hi (by simp),?_⟩);refine gdI h fun h=>Qiv (enc:=Qyi.enc) (xs:=(List.replicate (0:Int).toNat (default:Qyi))) (ys:=a0) ?_;cases h;exact lfE [.s [(5,5001),(5001,5)]]
def Qa6 (a0:Qyj):Option (Qyj):=
 bd (Qbs a0.Box) fun x1=>
 bd (Qs a0.Job.Lines) fun x2=>
 bd (Jr a0.Slots) fun x3=>
 bd (lp (σ:=List Qyi×Int) (β:=((List Qyi)×Nat)) (fun s4=>
(if(decide (s4.2<((x3.length:Nat):Int)))=true then
 gd ((0:Int)≤s4.2∧s4.2<((a0.Slots.length:Nat):Int))<|
 bd (Qs ((a0.Slots.getD s4.2.toNat default).Lines)) fun x9=>
 gd ((0:Int)≤s4.2∧s4.2<((s4.1.length:Nat):Int))<|
 some (.inl (s4.1.set s4.2.toNat ({(s4.1.getD s4.2.toNat default) with Lines:=x9}),IntKind.i64.wrap (s4.2+1)))
else
 some (.inr (s4.1,s4.1.length)))) (x3,0)) fun x7=>
 some ({a0 with Box:=x1,Slots:=x7.1,Job:={a0.Job with Lines:=x2}})
theorem Qfn {a0:Qyj} {r:Qyj} (h:Qa6 a0=some r):EffC prog 25 [.agg [dB a0.Up,dI a0.Box.Edition,.d (slD encSb a0.Box.Lines),dI a0.Box.Trial,.d (slD encSb a0.Box.Back),.d (slD Qyf.enc a0.Box.Cands),.d (slD Qyi.enc a0.Slots),dI a0.Live,dI a0.Last,dI a0.Job.Kind,dI a0.Job.Step,dI a0.Job.Edition,dI a0.Job.Ticks,.d (slD encSb a0.Job.Lines)]] [] (.agg [dB r.Up,dI r.Box.Edition,.osl 5001 0 r.Box.Lines.length,dI r.Box.Trial,.osl 5002 0 r.Box.Back.length,.osl 5003 0 r.Box.Cands.length,.osl 5004 0 r.Slots.length,dI r.Live,dI r.Last,dI r.Job.Kind,dI r.Job.Step,dI r.Job.Edition,dI r.Job.Ticks,.osl 5005 0 r.Job.Lines.length]) [(5001,.arr 9 1 r.Box.Lines.length (rows encSb r.Box.Lines)),(5002,.arr 9 1 r.Box.Back.length (rows encSb r.Box.Back)),(5003,.arr 76 4 r.Box.Cands.length (rows Qyf.enc r.Box.Cands)),(5004,.arr 55 4 r.Slots.length (rows Qyi.enc r.Slots)),(5005,.arr 9 1 r.Job.Lines.length (rows encSb r.Job.Lines))]:=by
 refine eY tOk f25 rfl ?_;obtain⟨x1,hx1,h⟩:=Qc h;obtain⟨x2,hx2,h⟩:=Qc h;obtain⟨x3,hx3,h⟩:=Qc h;refine QbY tOk [.e 2 [] (.agg [dI x1.Edition,.osl 6001 0 x1.Lines.length,dI x1.Trial,.osl 6002 0 x1.Back.length,.osl 6003 0 x1.Cands.length]) [(6001,.arr 9 1 x1.Lines.length (rows encSb x1.Lines)),(6002,.arr 9 1 x1.Back.length (rows encSb x1.Back)),(6003,.arr 76 4 x1.Cands.length (rows Qyf.enc x1.Cands))] [],.u 6 2000 (.osl 5001 0 x2.length) [⟨5001,9,1,x2.length,rows encSb x2⟩],.e 9 [] (.osl 8001 0 x3.length) [(8001,.arr 55 4 x3.length (rows Qyi.enc x3))] []] 11 [] [0,1,3,0,8,24,63,0,128,511,7] [2047,4095,8191,16383,32767,65535] [] (aI (eD [] 1000 (Qgd hx1)) (aI (QM (QK hx2) (by kernel_rfl)) (aI (eD [] 3000 (QcZ hx3)) (aK (Qb tOk ?_)))));obtain⟨x7,hx7,h⟩:=Qc h;refine QJ tOk hx7 (fun s4=>⟨0,40,[(1,.ref 1 0 0),(2,.ref 2 0 0),(3,.ref 3 0 0),(22,dI ((x3.length:Nat):Int)),(23,dI s4.2)],[],[(8001,.arr 55 4 s4.1.length (rows Qyi.enc s4.1)),(7001,.arr 9 1 x2.length (rows encSb x2)),(6001,.arr 9 1 x1.Lines.length (rows encSb x1.Lines)),(6002,.arr 9 1 x1.Back.length (rows encSb x1.Back)),(6003,.arr 76 4 x1.Cands.length (rows Qyf.enc x1.Cands)),(3,.box 33 [dB a0.Up,dI x1.Edition,.osl 6001 0 x1.Lines.length,dI x1.Trial,.osl 6002 0 x1.Back.length,.osl 6003 0 x1.Cands.length,.osl 8001 0 s4.1.length,dI a0.Live,dI a0.Last,dI a0.Job.Kind,dI a0.Job.Step,dI a0.Job.Edition,dI a0.Job.Ticks,.osl 7001 0 x2.length]),(2,.box 33 [dB false,dI 0,.d (.nil),dI 0,.d (.nil),.d (.nil),.d (.nil),dI 0,dI 0,dI 0,dI 0,dI 0,dI 0,.d (.nil)]),(1,.box 33 [dB a0.Up,dI a0.Box.Edition,.d (slD encSb a0.Box.Lines),dI a0.Box.Trial,.d (slD encSb a0.Box.Back),.d (slD Qyf.enc a0.Box.Cands),.d (slD Qyi.enc a0.Slots),dI a0.Live,dI a0.Last,dI a0.Job.Kind,dI a0.Job.Step,dI a0.Job.Edition,dI a0.Job.Ticks,.d (slD encSb a0.Job.Lines)])],[⟨[],[]⟩]⟩) ?_ ?_
 ·exact leX []
 ·clear hx7;intro s4 y5 g6 hy5;refine Qb tOk ?_;apply Qr g6<;>intro _ g6
  ·refine Qb tOk ?_;obtain⟨g8,g6⟩:=Qe g6;obtain⟨x9,hx9,g6⟩:=Qc g6;obtain⟨g10,g6⟩:=Qe g6;refine Q0 tOk [.u 9 4000 (.osl 5001 0 x9.length) [⟨5001,9,1,x9.length,rows encSb x9⟩]] 12 [] [0,1,0,0,8,0,56,120,248,504,1023,2047] [4095] (aI g8 (aI (QM (QK hx9) (by kernel_rfl)) (aI g10 (aK (⟨rows Qyi.enc (s4.1.set s4.2.toNat ({(s4.1.getD s4.2.toNat default) with Lines:=x9})),QbH Qs7 rfl,?_⟩)))));exact eX g6 []
  ·cases g6
   cases hy5 _ rfl
   cases h
   exact lfE [.s [(5001,6001),(5002,6002),(5003,6003),(5004,8001),(5005,7001),(6001,5001),(6002,5002),(6003,5003),(7001,5005),(8001,5004)]]
def Qax (a0:(List Bt)) (a1:Bt):Option ((List Bt)×Bool):=
 bd (Qz a0 (⟨#[117,115,101,114]⟩:Bt)) fun x1=>
 bd (lp (σ:=Int) (β:=((Nat×Bool×(List Bt))⊕Unit)) (fun s2=>
(if(decide (s2<((x1.length:Nat):Int)))=true then
 gd ((0:Int)≤s2∧s2<((x1.length:Nat):Int))<|
 gd ((0:Int)≤1∧1<(((x1.getD s2.toNat default).length:Nat):Int))<|
(if(((x1.getD s2.toNat default).getD 1 default)==a1)=true then
 gd ((0:Int)≤2∧2<(((x1.getD s2.toNat default).length:Nat):Int))<|
 bd (Qa2 ((x1.getD s2.toNat default).getD 2 default)) fun x9=>
 some (.inr (.inl (x9.1.length,x9.2,x9.1)))
else
 some (.inl (IntKind.i64.wrap (s2+1))))
else
 some (.inr (.inr ())))) 0) fun x5=>
(match x5 with
| .inl d10=>
 some (d10.2.2,d10.2.1)
| .inr d11=>
 some ([],false))
theorem QdF {a0:(List Bt)} {a1:Bt} {r:(List Bt)×Bool} (h:Qax a0 a1=some r):PureC prog 101 [.d (slD encSb a0),.d (.str a1)] (.tup [.osl 5001 0 r.1.length,dB r.2]) [⟨5001,9,1,r.1.length,rows encSb r.1⟩]:=by
 refine pY tOk f101 rfl (Qb tOk (bE h [] 1000 (fun _=>Z6) fun x1 h=>?_));obtain⟨x5,hx5,h⟩:=Qc h;refine QJ tOk hx5 (fun s2=>⟨0,27,[(1,.d (.str a1)),(9,.osl 6001 0 x1.length),(10,dI ((x1.length:Nat):Int)),(11,dI s2)],[],[(6001,.arr 23 1 x1.length (rows (QeE encSb) x1))],[]⟩) ?_ ?_
 ·exact leX []
 ·clear hx5;intro s2 y3 g4 hy3;refine Qb tOk ?_;apply Qr g4<;>intro _ g4
  ·refine Qb tOk (gdI g4 fun g4=>gdI g4 fun g4=>?_);apply Qr g4<;>intro _ g4
   ·refine gdI g4 fun g4=>bC g4 2000 (fun _=>Qfg) fun x9 g4=>?_;cases g4;cases hy3 _ rfl;cases h;exact lfP [.s [(5001,7001),(7001,5001)]]
   ·exact eX g4 []
  ·cases g4
   cases hy3 _ rfl
   cases h
   exact lfP [.p 5001 9 1 (rows encSb ([]:List Bt))]
def QO (a0:Qyf) (a1:Bt):Option (Bool):=
 some (a0.User==a1)
theorem Qa7 {a0:Qyf} {a1:Bt} {r:Bool} (h:QO a0 a1=some r):PureC prog 133 [.agg [.d (.str a0.User),dI a0.Base,.d (slD encSb a0.From),.d (slD encSb a0.Lines)],.rp [.str a1]] (dB r) []:=by
 refine pY tOk f133 rfl ?_;unfold QO at h;cases h;exact lfP []
def QL (a0:(List Qyf)) (a1c0:Bt):Option (Int):=
 bd (lp (σ:=Int) (β:=(Int⊕Unit)) (fun s1=>
(if(decide (s1<((a0.length:Nat):Int)))=true then
 gd ((0:Int)≤s1∧s1<((a0.length:Nat):Int))<|
 bd (QO (a0.getD s1.toNat default) a1c0) fun x6=>
(if x6=true then
 some (.inr (.inl s1))
else
 some (.inl (IntKind.i64.wrap (s1+1))))
else
 some (.inr (.inr ())))) 0) fun x4=>
(match x4 with
| .inl d7=>
 some d7
| .inr d8=>
 some (-1))
theorem Jb {a0:(List Qyf)} {a1c0:Bt} {r:Int} (h:QL a0 a1c0=some r):PureC prog 154 [.d (slD Qyf.enc a0),.fn 133 [.rp [.str a1c0]]] (dI r) []:=by
 refine pY tOk f154 rfl (Qb tOk ?_);obtain⟨x4,hx4,h⟩:=Qc h;refine QJ tOk hx4 (fun s1=>⟨0,19,[(0,.d (slD Qyf.enc a0)),(1,.fn 133 [.rp [.str a1c0]]),(7,dI ((a0.length:Nat):Int)),(8,dI s1)],[],[],[]⟩) ?_ ?_
 ·exact leX []
 ·clear hx4;intro s1 y2 g3 hy2;refine Qb tOk ?_;apply Qr g3<;>intro _ g3
  ·refine Qb tOk (gdI g3 fun g3=>bC g3 0 (fun _=>Qa7) fun x6 g3=>?_);apply Qr g3<;>intro _ g3
   ·cases g3
    cases hy2 _ rfl
    cases h
    exact lfP []
   ·exact eX g3 []
  ·cases g3
   cases hy2 _ rfl
   cases h
   exact lfP []
def Zm (a0:Qyj) (a1:Bt):Option (Qyj):=
 bd (QL a0.Box.Cands a1) fun x1=>
(if(x1==(-1))=true then
 some a0
else
 bd (lp (σ:=List Qyf×Int×Int) (β:=(Nat×Int×(List Qyf))) (fun s2=>
(if(decide (s2.2.2<((s2.1.length:Nat):Int)))=true then
 gd ((0:Int)≤s2.2.2∧s2.2.2<((s2.1.length:Nat):Int))<|
 bd (QO (s2.1.getD s2.2.2.toNat default) a1) fun x7=>
(if(!x7)=true then
 gd ((0:Int)≤s2.2.1∧s2.2.1<((s2.1.length:Nat):Int))<|
 some (.inl (s2.1.set s2.2.1.toNat (s2.1.getD s2.2.2.toNat default),IntKind.i64.wrap (s2.2.1+1),IntKind.i64.wrap (s2.2.2+1)))
else
 some (.inl (s2.1,s2.2.1,IntKind.i64.wrap (s2.2.2+1))))
else
 some (.inr (s2.1.length,s2.2.1,s2.1)))) (a0.Box.Cands,x1,IntKind.i64.wrap (x1+1))) fun x5=>
 gd ((0:Int)≤x5.2.1∧x5.2.1≤((x5.1:Nat):Int)∧((x5.1:Nat):Int)≤((x5.1:Nat):Int))<|
 gd ((0:Int)≤(0:Int)∧(0:Int)≤x5.2.1∧x5.2.1≤((x5.1:Nat):Int))<|
 some ({a0 with Box:={a0.Box with Cands:=(QkT x5.2.2 x5.2.1.toNat (QhI ((x5.1:Nat):Int) x5.2.1)).take x5.2.1.toNat}}))
theorem Qbt {a0:Qyj} {a1:Bt} {r:Qyj} (h:Zm a0 a1=some r):EffC prog 103 [.ref 9000 0 0,.d (.str a1)] [(9000,.box 33 [dB a0.Up,dI a0.Box.Edition,.d (slD encSb a0.Box.Lines),dI a0.Box.Trial,.d (slD encSb a0.Box.Back),.osl 9001 0 a0.Box.Cands.length,.d (slD Qyi.enc a0.Slots),dI a0.Live,dI a0.Last,dI a0.Job.Kind,dI a0.Job.Step,dI a0.Job.Edition,dI a0.Job.Ticks,.d (slD encSb a0.Job.Lines)]),(9001,.arr 76 4 a0.Box.Cands.length (rows Qyf.enc a0.Box.Cands))] (.tup []) [(9000,.box 33 [dB a0.Up,dI a0.Box.Edition,.d (slD encSb a0.Box.Lines),dI a0.Box.Trial,.d (slD encSb a0.Box.Back),.osl 5001 0 r.Box.Cands.length,.d (slD Qyi.enc a0.Slots),dI a0.Live,dI a0.Last,dI a0.Job.Kind,dI a0.Job.Step,dI a0.Job.Edition,dI a0.Job.Ticks,.d (slD encSb a0.Job.Lines)]),(5001,.arr 76 4 r.Box.Cands.length (rows Qyf.enc r.Box.Cands))]:=by
 refine eY tOk f103 rfl (Qg7 tOk 20000 (fn:=f132) (c:=Jw f132) rfl rfl (by kernel_rfl) rfl (bC h 0 (fun _=>Jb) fun x1 h=>Qb tOk ?_));apply Qr h<;>intro _ h
 ·cases h
  exact lfE [.s [(5001,9001),(9001,5001)]]
 ·refine Qb tOk ?_;obtain⟨x5,hx5,h⟩:=Qc h;refine QJ tOk hx5 (fun s2=>⟨20000,42,[(0,.osl 9001 0 s2.1.length),(1,.fn 133 [.ref 3 0 0]),(5,dI s2.2.1),(6,dI s2.2.2)],[],[(3,.box 9 [.d (.str a1)]),(9000,.box 33 [dB a0.Up,dI a0.Box.Edition,.d (slD encSb a0.Box.Lines),dI a0.Box.Trial,.d (slD encSb a0.Box.Back),.osl 9001 0 s2.1.length,.d (slD Qyi.enc a0.Slots),dI a0.Live,dI a0.Last,dI a0.Job.Kind,dI a0.Job.Step,dI a0.Job.Edition,dI a0.Job.Ticks,.d (slD encSb a0.Job.Lines)]),(9001,.arr 76 4 s2.1.length (rows Qyf.enc s2.1))],[⟨[(0,.ref 9000 0 0),(1,.d (.str a1)),(3,.ref 3 0 0),(4,.ref 9000 0 0),(5,.ref 9000 0 0),(6,.ref 9000 0 0),(7,.ref 9000 0 1),(8,.ref 9000 0 5),(9,.osl 9001 0 s2.1.length),(10,.fn 133 [.ref 3 0 0])],[]⟩,⟨[(0,.ref 9000 0 0)],[]⟩]⟩) ?_ ?_
  ·exact leX []
  ·clear hx5;intro s2 y3 g4 hy3;refine Qb tOk ?_;apply Qr g4<;>intro _ g4
   ·refine Qb tOk (gdI g4 fun g4=>bC g4 0 (fun _=>Qa7) fun x7 g4=>?_);apply Qr g4<;>intro _ g4
    ·refine gdI g4 fun g4=>⟨rows Qyf.enc (s2.1.set s2.2.1.toNat (s2.1.getD s2.2.2.toNat default)),QbH Qs7 rfl,?_⟩;exact eX g4 []
    ·exact eX g4 []
   ·cases g4
    cases hy3 _ rfl
    obtain⟨g10,h⟩:=Qe h;refine aI g10 (⟨rows Qyf.enc (QkT (s2.1.length,s2.2.1,s2.1).2.2 (s2.1.length,s2.2.1,s2.1).2.1.toNat (QhI (((s2.1.length,s2.2.1,s2.1).1:Nat):Int) (s2.1.length,s2.2.1,s2.1).2.1)),Qi5 Qs7 zlA,?_⟩);obtain⟨g11,h⟩:=Qe h;refine aI g11 ?_;cases h;exact lfE [.cb 9000 5,.s [(5001,9001),(9001,5001)]]
def Qcs (a0:Int):Option (Int):=
 bd (α:=Int×Int) ((if(decide (a0≥4294967296))=true then
 gd ((0:Int)≤32)<|
 some (((a0:Int).fdiv (2^min (32:Int).toNat IntKind.u64.bits)),32)
else
 some (a0,0))) fun x1=>
 bd (α:=Int×Int) ((if(decide (x1.1≥65536))=true then
 gd ((0:Int)≤16)<|
 some (((x1.1:Int).fdiv (2^min (16:Int).toNat IntKind.u64.bits)),IntKind.i64.wrap (x1.2+16))
else
 some (x1.1,x1.2))) fun x5=>
(if(decide (x5.1≥256))=true then
 gd ((0:Int)≤8)<|
 gd ((0:Int)≤IntKind.u8.wrap ((x5.1:Int).fdiv (2^min (8:Int).toNat IntKind.u64.bits))∧IntKind.u8.wrap ((x5.1:Int).fdiv (2^min (8:Int).toNat IntKind.u64.bits))<(((⟨#[0,1,2,2,3,3,3,3,4,4,4,4,4,4,4,4,5,5,5,5,5,5,5,5,5,5,5,5,5,5,5,5,6,6,6,6,6,6,6,6,6,6,6,6,6,6,6,6,6,6,6,6,6,6,6,6,6,6,6,6,6,6,6,6,7,7,7,7,7,7,7,7,7,7,7,7,7,7,7,7,7,7,7,7,7,7,7,7,7,7,7,7,7,7,7,7,7,7,7,7,7,7,7,7,7,7,7,7,7,7,7,7,7,7,7,7,7,7,7,7,7,7,7,7,7,7,7,7,8,8,8,8,8,8,8,8,8,8,8,8,8,8,8,8,8,8,8,8,8,8,8,8,8,8,8,8,8,8,8,8,8,8,8,8,8,8,8,8,8,8,8,8,8,8,8,8,8,8,8,8,8,8,8,8,8,8,8,8,8,8,8,8,8,8,8,8,8,8,8,8,8,8,8,8,8,8,8,8,8,8,8,8,8,8,8,8,8,8,8,8,8,8,8,8,8,8,8,8,8,8,8,8,8,8,8,8,8,8,8,8,8,8,8,8,8,8,8,8,8,8,8,8,8,8,8,8]⟩:Bt).size:Nat):Int))<|
 some (IntKind.i64.wrap ((IntKind.i64.wrap (x5.2+8))+(IntKind.i64.wrap (Qah (⟨#[0,1,2,2,3,3,3,3,4,4,4,4,4,4,4,4,5,5,5,5,5,5,5,5,5,5,5,5,5,5,5,5,6,6,6,6,6,6,6,6,6,6,6,6,6,6,6,6,6,6,6,6,6,6,6,6,6,6,6,6,6,6,6,6,7,7,7,7,7,7,7,7,7,7,7,7,7,7,7,7,7,7,7,7,7,7,7,7,7,7,7,7,7,7,7,7,7,7,7,7,7,7,7,7,7,7,7,7,7,7,7,7,7,7,7,7,7,7,7,7,7,7,7,7,7,7,7,7,8,8,8,8,8,8,8,8,8,8,8,8,8,8,8,8,8,8,8,8,8,8,8,8,8,8,8,8,8,8,8,8,8,8,8,8,8,8,8,8,8,8,8,8,8,8,8,8,8,8,8,8,8,8,8,8,8,8,8,8,8,8,8,8,8,8,8,8,8,8,8,8,8,8,8,8,8,8,8,8,8,8,8,8,8,8,8,8,8,8,8,8,8,8,8,8,8,8,8,8,8,8,8,8,8,8,8,8,8,8,8,8,8,8,8,8,8,8,8,8,8,8,8,8,8,8,8,8]⟩:Bt) (IntKind.u8.wrap ((x5.1:Int).fdiv (2^min (8:Int).toNat IntKind.u64.bits))).toNat))))
else
 gd ((0:Int)≤IntKind.u8.wrap x5.1∧IntKind.u8.wrap x5.1<(((⟨#[0,1,2,2,3,3,3,3,4,4,4,4,4,4,4,4,5,5,5,5,5,5,5,5,5,5,5,5,5,5,5,5,6,6,6,6,6,6,6,6,6,6,6,6,6,6,6,6,6,6,6,6,6,6,6,6,6,6,6,6,6,6,6,6,7,7,7,7,7,7,7,7,7,7,7,7,7,7,7,7,7,7,7,7,7,7,7,7,7,7,7,7,7,7,7,7,7,7,7,7,7,7,7,7,7,7,7,7,7,7,7,7,7,7,7,7,7,7,7,7,7,7,7,7,7,7,7,7,8,8,8,8,8,8,8,8,8,8,8,8,8,8,8,8,8,8,8,8,8,8,8,8,8,8,8,8,8,8,8,8,8,8,8,8,8,8,8,8,8,8,8,8,8,8,8,8,8,8,8,8,8,8,8,8,8,8,8,8,8,8,8,8,8,8,8,8,8,8,8,8,8,8,8,8,8,8,8,8,8,8,8,8,8,8,8,8,8,8,8,8,8,8,8,8,8,8,8,8,8,8,8,8,8,8,8,8,8,8,8,8,8,8,8,8,8,8,8,8,8,8,8,8,8,8,8,8]⟩:Bt).size:Nat):Int))<|
 some (IntKind.i64.wrap (x5.2+(IntKind.i64.wrap (Qah (⟨#[0,1,2,2,3,3,3,3,4,4,4,4,4,4,4,4,5,5,5,5,5,5,5,5,5,5,5,5,5,5,5,5,6,6,6,6,6,6,6,6,6,6,6,6,6,6,6,6,6,6,6,6,6,6,6,6,6,6,6,6,6,6,6,6,7,7,7,7,7,7,7,7,7,7,7,7,7,7,7,7,7,7,7,7,7,7,7,7,7,7,7,7,7,7,7,7,7,7,7,7,7,7,7,7,7,7,7,7,7,7,7,7,7,7,7,7,7,7,7,7,7,7,7,7,7,7,7,7,8,8,8,8,8,8,8,8,8,8,8,8,8,8,8,8,8,8,8,8,8,8,8,8,8,8,8,8,8,8,8,8,8,8,8,8,8,8,8,8,8,8,8,8,8,8,8,8,8,8,8,8,8,8,8,8,8,8,8,8,8,8,8,8,8,8,8,8,8,8,8,8,8,8,8,8,8,8,8,8,8,8,8,8,8,8,8,8,8,8,8,8,8,8,8,8,8,8,8,8,8,8,8,8,8,8,8,8,8,8,8,8,8,8,8,8,8,8,8,8,8,8,8,8,8,8,8,8]⟩:Bt) (IntKind.u8.wrap x5.1).toNat)))))
theorem QhO {a0:Int} {r:Int} (h:Qcs a0=some r):PureC prog 164 [.d (.int .u64 a0)] (dI r) []:=by
 refine pY tOk f164 rfl ?_;obtain⟨x1,hx1,h⟩:=Qc h;refine J6 tOk (fun s2=>⟨0,25,[(0,.d (.int .u64 s2.1)),(2,dI s2.2)],[],[],[]⟩) (fun s2=>x1=s2) ?_ ?_
 ·apply Qr hx1<;>intro _ hx1
  ·refine gdI hx1 fun hx1=>?_;exact eZ hx1 []
  ·exact eZ hx1 []
 ·rintro _ rfl;obtain⟨x5,hx5,h⟩:=Qc h;refine J6 tOk (fun s6=>⟨0,25,[(0,.d (.int .u64 s6.1)),(2,dI s6.2)],[],[],[]⟩) (fun s6=>x5=s6) ?_ ?_
  ·apply Qr hx5<;>intro _ hx5
   ·refine gdI hx5 fun hx5=>?_;exact eZ hx5 []
   ·exact eZ hx5 []
  ·rintro _ rfl;refine Qb tOk ?_;apply Qr h<;>intro _ h
   ·refine gdI h fun h=>gdI h fun h=>?_;cases h;exact lfP []
   ·refine gdI h fun h=>?_;cases h;exact lfP []
def J3 (a0:Int):Option (Int):=
 bd (Qcs a0) fun x1=>
 some x1
theorem QjH {a0:Int} {r:Int} (h:J3 a0=some r):PureC prog 135 [.d (.int .u64 a0)] (dI r) []:=by
 refine pY tOk f135 rfl (Qb tOk (aI (fun e=>Bool.noConfusion e) (fun _=>bC h 0 (fun _=>QhO) fun x1 h=>?_)));cases h;exact lfP []
end
end Go.Proofs.YtmnnglbioibmfaaGreatDoor
