/-
  What some of the program's functions compute: their models, and that the functions compute these; no condition.
-/
import Derived.Test.YtfpbhbbdhfbilaaGreatDoorTyz
import Derived.Test.YtfpbhbbdhfbilaaGreatDoorTbz
import Derived.Test.YtfpbhbbdhfbilaaGreatDoorLayz
import Derived.Test.YtfpbhbbdhfbilaaGreatDoorLay4z
import Derived.Test.YtfpbhbbdhfbilaaGreatDoorAbz8
import Derived.BigCall
import Derived.BigGuard
import Derived.BigQuiet
import Derived.Deep.Draws
import Derived.Deep.QuietTactic
import Derived.Maps.OwnSet
import Derived.Shelf.SlSortCmp.QuietGrown
import Derived.StringKeys
import Derived.WalkKit
import Derived.Test.YtfpbhbbdhfbilaaGreatDoorKz3
set_option linter.all false
namespace Go.Proofs.YtfpbhbbdhfbilaaGreatDoor
open Go Go.Ab Tryz
set_option maxRecDepth 100000
set_option maxHeartbeats 40000000
noncomputable section
def J6 (a0:(List Bt)):Option (Bool):=
 bd (Jk a0) fun x1=>
 bd (lp (σ:=Int) (β:=(Unit⊕Unit)) (fun s2=>
(if(decide (s2<((x1.length:Nat):Int)))=true then
 gd ((0:Int)≤s2∧s2<((x1.length:Nat):Int))<|
 gd ((0:Int)≤(0:Int)∧(0:Int)≤s2∧s2≤((x1.length:Nat):Int))<|
 bd (lp (σ:=Int) (β:=(Unit⊕Unit)) (fun s8=>
(if(decide (s8<((s2.toNat:Nat):Int)))=true then
 gd ((0:Int)≤s8∧s8<((s2.toNat:Nat):Int))<|
 bd (Jl (x1.getD s2.toNat default) (x1.getD s8.toNat default)) fun x13=>
 bd (Qt (x13=false) (Jl (x1.getD s8.toNat default) (x1.getD s2.toNat default))) fun x14=>
(if(x13||x14)=true then
 some (.inr (.inl ()))
else
 some (.inl (IntKind.i64.wrap (s8+1))))
else
 some (.inr (.inr ())))) 0) fun x11=>
(match x11 with
| .inl d15=>
 some (.inr (.inl ()))
| .inr d16=>
 some (.inl (IntKind.i64.wrap (s2+1))))
else
 some (.inr (.inr ())))) 0) fun x5=>
(match x5 with
| .inl d17=>
 some true
| .inr d18=>
 some false)
theorem Qhh {a0:(List Bt)} {r:Bool} (h:J6 a0=some r):PureC prog 52 [.d (slD Qi a0)] (dB r) []:=by
 refine Qj tOk (fn:=f52) (c:=Ql f52) rfl rfl ?_;unfold J6 at h;(conv=>whnf);obtain⟨x1,hx1,h⟩:=Qa h;refine cC 1000 (Qeb hx1) ?_;clear hx1;(conv=>whnf);refine Qd tOk ?_;(conv=>whnf);obtain⟨x5,hx5,h⟩:=Qa h;refine QD tOk hx5 (fun s2=>⟨0,35,[(3,.osl 6001 0 x1.length),(10,.osl 6001 0 x1.length),(11,dI ((x1.length:Nat):Int)),(12,dI s2)],[],[(6001,.arr 106 2 x1.length (rows QzU.enc x1))],[]⟩) ?_ ?_
 ·exact leX []
 ·clear hx5;intro s2 y3 g4 hy3;(conv=>whnf);refine Qd tOk ?_;(conv=>whnf);refine QC g4 (fun _ g4=>?_) (fun _ g4=>?_)
  ·(conv=>whnf);refine Qd tOk ?_;(conv=>whnf);refine gdI g4 (fun g4=>?_);(conv=>whnf);obtain⟨g7,g4⟩:=Qh g4;refine And.intro g7 ?_;(conv=>whnf);obtain⟨x11,hx11,g4⟩:=Qa g4;refine QD tOk hx11 (fun s8=>⟨0,35,[(3,.osl 6001 0 x1.length),(5,.ref 5 0 0),(10,.osl 6001 0 x1.length),(11,dI ((x1.length:Nat):Int)),(12,dI s2),(19,.osl 6001 0 s2.toNat),(20,dI ((s2.toNat:Nat):Int)),(21,dI s8)],[],[(5,.box 106 [dI ((x1.getD s2.toNat default).Addr),dI ((x1.getD s2.toNat default).Len)]),(6001,.arr 106 2 x1.length (rows QzU.enc x1))],[]⟩) ?_ ?_
   ·exact leX []
   ·clear hx11;intro s8 y9 g10 hy9;(conv=>whnf);refine Qd tOk ?_;(conv=>whnf);refine QC g10 (fun _ g10=>?_) (fun _ g10=>?_)
    ·(conv=>whnf);refine Qd tOk ?_;(conv=>whnf);refine gdI g10 (fun g10=>?_);(conv=>whnf);obtain⟨x13,hx13,g10⟩:=Qa g10;refine cC 0 (Qec hx13) ?_;clear hx13;(conv=>whnf);obtain⟨x14,hx14,g10⟩:=Qa g10;refine cG (fun c0=>Qec (Qg hx14 c0)) ?_;(conv=>whnf);refine QC g10 (fun _ g10=>?_) (fun _ g10=>?_)
     ·(conv=>whnf);obtain rfl:=sj_ g10;obtain rfl:=hy9 _ rfl;obtain rfl:=sj_ g4;obtain rfl:=hy3 _ rfl;obtain rfl:=sj_ h;exact lfP []
     ·(conv=>whnf);obtain rfl:=sj_ g10;exact⟨_,rfl,leX []⟩
    ·(conv=>whnf);obtain rfl:=sj_ g10;obtain rfl:=hy9 _ rfl;obtain rfl:=sj_ g4;exact⟨_,rfl,leX []⟩
  ·(conv=>whnf);obtain rfl:=sj_ g4;obtain rfl:=hy3 _ rfl;obtain rfl:=sj_ h;exact lfP []
def Zt (a0:QzU) (a1:Int):Option (Bool):=
 bd (QX a0 a1) fun x1=>
 some (x1&&(a0.Addr !=a1))
theorem Qf1 {a0:QzU} {a1:Int} {r:Bool} (h:Zt a0 a1=some r):PureC prog 132 [.agg [dI a0.Addr,dI a0.Len],.rp [.int .i64 a1]] (dB r) []:=by
 refine Qj tOk (fn:=f132) (c:=Ql f132) rfl rfl ?_;unfold Zt at h;(conv=>whnf);obtain⟨x1,hx1,h⟩:=Qa h;refine cC 0 (Jc hx1) ?_;clear hx1;(conv=>whnf);obtain rfl:=sj_ h;exact lfP []
def Q0 (a0:(List QzU)) (a1c0:Int):Option (Int):=
 bd (lp (σ:=Int) (β:=(Int⊕Unit)) (fun s1=>
(if(decide (s1<((a0.length:Nat):Int)))=true then
 gd ((0:Int)≤s1∧s1<((a0.length:Nat):Int))<|
 bd (Zt (a0.getD s1.toNat default) a1c0) fun x6=>
(if x6=true then
 some (.inr (.inl s1))
else
 some (.inl (IntKind.i64.wrap (s1+1))))
else
 some (.inr (.inr ())))) 0) fun x4=>
(match x4 with
| .inl d7=>
 some d7
| .inr d8=>
 some (-1))
theorem Jr {a0:(List QzU)} {a1c0:Int} {r:Int} (h:Q0 a0 a1c0=some r):PureC prog 196 [.d (slD QzU.enc a0),.fn 132 [.rp [.int .i64 a1c0]]] (dI r) []:=by
 refine Qj tOk (fn:=f196) (c:=Ql f196) rfl rfl ?_;unfold Q0 at h;(conv=>whnf);refine Qd tOk ?_;(conv=>whnf);obtain⟨x4,hx4,h⟩:=Qa h;refine QD tOk hx4 (fun s1=>⟨0,19,[(0,.d (slD QzU.enc a0)),(1,.fn 132 [.rp [.int .i64 a1c0]]),(7,dI ((a0.length:Nat):Int)),(8,dI s1)],[],[],[]⟩) ?_ ?_
 ·exact leX []
 ·clear hx4;intro s1 y2 g3 hy2;(conv=>whnf);refine Qd tOk ?_;(conv=>whnf);refine QC g3 (fun _ g3=>?_) (fun _ g3=>?_)
  ·(conv=>whnf);refine Qd tOk ?_;(conv=>whnf);refine gdI g3 (fun g3=>?_);(conv=>whnf);obtain⟨x6,hx6,g3⟩:=Qa g3;refine cC 0 (Qf1 hx6) ?_;clear hx6;(conv=>whnf);refine QC g3 (fun _ g3=>?_) (fun _ g3=>?_)
   ·(conv=>whnf);obtain rfl:=sj_ g3;obtain rfl:=hy2 _ rfl;obtain rfl:=sj_ h;exact lfP []
   ·(conv=>whnf);obtain rfl:=sj_ g3;exact⟨_,rfl,leX []⟩
  ·(conv=>whnf);obtain rfl:=sj_ g3;obtain rfl:=hy2 _ rfl;obtain rfl:=sj_ h;exact lfP []
def Qq (a0:(List QzU)) (a1c0:Int):Option (Bool):=
 bd (Q0 a0 a1c0) fun x1=>
 some (decide (x1≥0))
theorem Jf {a0:(List QzU)} {a1c0:Int} {r:Bool} (h:Qq a0 a1c0=some r):PureC prog 131 [.d (slD QzU.enc a0),.fn 132 [.rp [.int .i64 a1c0]]] (dB r) []:=by
 refine Qj tOk (fn:=f131) (c:=Ql f131) rfl rfl ?_;unfold Qq at h;(conv=>whnf);obtain⟨x1,hx1,h⟩:=Qa h;refine cC 0 (Jr hx1) ?_;clear hx1;(conv=>whnf);obtain rfl:=sj_ h;exact lfP []
def ZH (a0:Bt) (a1:(List QzU)):Option (Bool):=
 bd (Zs a0) fun x1=>
 bd (Qq a1 x1) fun x2=>
 some (!x2)
theorem Qhi {a0:Bt} {a1:(List QzU)} {r:Bool} (h:ZH a0 a1=some r):PureC prog 130 [.d (.str a0),.rp [slD QzU.enc a1]] (dB r) []:=by
 refine Qj tOk (fn:=f130) (c:=Ql f130) rfl rfl ?_;unfold ZH at h;(conv=>whnf);obtain⟨x1,hx1,h⟩:=Qa h;refine cC 0 (Jq hx1) ?_;clear hx1;(conv=>whnf);obtain⟨x2,hx2,h⟩:=Qa h;refine cC 0 (Jf hx2) ?_;clear hx2;(conv=>whnf);obtain rfl:=sj_ h;exact lfP []
def Q7 (a0:(List Bt)) (a1c0:(List QzU)):Option (Int):=
 bd (lp (σ:=Int) (β:=(Int⊕Unit)) (fun s1=>
(if(decide (s1<((a0.length:Nat):Int)))=true then
 gd ((0:Int)≤s1∧s1<((a0.length:Nat):Int))<|
 bd (ZH (a0.getD s1.toNat default) a1c0) fun x6=>
(if x6=true then
 some (.inr (.inl s1))
else
 some (.inl (IntKind.i64.wrap (s1+1))))
else
 some (.inr (.inr ())))) 0) fun x4=>
(match x4 with
| .inl d7=>
 some d7
| .inr d8=>
 some (-1))
theorem Qaa {a0:(List Bt)} {a1c0:(List QzU)} {r:Int} (h:Q7 a0 a1c0=some r):PureC prog 192 [.d (slD Qi a0),.fn 130 [.rp [slD QzU.enc a1c0]]] (dI r) []:=by
 refine Qj tOk (fn:=f192) (c:=Ql f192) rfl rfl ?_;unfold Q7 at h;(conv=>whnf);refine Qd tOk ?_;(conv=>whnf);obtain⟨x4,hx4,h⟩:=Qa h;refine QD tOk hx4 (fun s1=>⟨0,19,[(0,.d (slD Qi a0)),(1,.fn 130 [.rp [slD QzU.enc a1c0]]),(7,dI ((a0.length:Nat):Int)),(8,dI s1)],[],[],[]⟩) ?_ ?_
 ·exact leX []
 ·clear hx4;intro s1 y2 g3 hy2;(conv=>whnf);refine Qd tOk ?_;(conv=>whnf);refine QC g3 (fun _ g3=>?_) (fun _ g3=>?_)
  ·(conv=>whnf);refine Qd tOk ?_;(conv=>whnf);refine gdI g3 (fun g3=>?_);(conv=>whnf);obtain⟨x6,hx6,g3⟩:=Qa g3;refine cC 0 (Qhi hx6) ?_;clear hx6;(conv=>whnf);refine QC g3 (fun _ g3=>?_) (fun _ g3=>?_)
   ·(conv=>whnf);obtain rfl:=sj_ g3;obtain rfl:=hy2 _ rfl;obtain rfl:=sj_ h;exact lfP []
   ·(conv=>whnf);obtain rfl:=sj_ g3;exact⟨_,rfl,leX []⟩
  ·(conv=>whnf);obtain rfl:=sj_ g3;obtain rfl:=hy2 _ rfl;obtain rfl:=sj_ h;exact lfP []
def QB (a0:(List Bt)) (a1c0:(List QzU)):Option (Bool):=
 bd (Q7 a0 a1c0) fun x1=>
 some (decide (x1≥0))
theorem JN {a0:(List Bt)} {a1c0:(List QzU)} {r:Bool} (h:QB a0 a1c0=some r):PureC prog 119 [.d (slD Qi a0),.fn 130 [.rp [slD QzU.enc a1c0]]] (dB r) []:=by
 refine Qj tOk (fn:=f119) (c:=Ql f119) rfl rfl ?_;unfold QB at h;(conv=>whnf);obtain⟨x1,hx1,h⟩:=Qa h;refine cC 0 (Qaa hx1) ?_;clear hx1;(conv=>whnf);obtain rfl:=sj_ h;exact lfP []
def QaF (a0:(List Bt)):Option (Bool):=
 bd (QM a0 (⟨#[114,111,117,116,101]⟩:Bt)) fun x1=>
 bd (lp (σ:=List Bt×Int) (β:=(Nat×(List Bt))) (fun s2=>
(if(decide (s2.2<((x1.length:Nat):Int)))=true then
 gd ((0:Int)≤s2.2∧s2.2<((x1.length:Nat):Int))<|
 gd ((0:Int)≤2∧2<(((x1.getD s2.2.toNat default).length:Nat):Int))<|
 gd (((s2.1.length)+(([((x1.getD s2.2.toNat default).getD 2 default)]:List Bt).length))*(16+1)≤70368744177664)<|
 some (.inl ((s2.1++([((x1.getD s2.2.toNat default).getD 2 default)]:List Bt)),IntKind.i64.wrap (s2.2+1)))
else
 some (.inr (s2.1.length,s2.1)))) (([]:List Bt),0)) fun x5=>
 bd (QM a0 (⟨#[112,101,101,114]⟩:Bt)) fun x10=>
 bd (lp (σ:=List Bt×Int) (β:=(Nat×(List Bt))) (fun s11=>
(if(decide (s11.2<((x10.length:Nat):Int)))=true then
 gd ((0:Int)≤s11.2∧s11.2<((x10.length:Nat):Int))<|
 gd ((0:Int)≤1∧1<(((x10.getD s11.2.toNat default).length:Nat):Int))<|
 gd (((s11.1.length)+(([((x10.getD s11.2.toNat default).getD 1 default)]:List Bt).length))*(16+1)≤70368744177664)<|
 some (.inl ((s11.1++([((x10.getD s11.2.toNat default).getD 1 default)]:List Bt)),IntKind.i64.wrap (s11.2+1)))
else
 some (.inr (s11.1.length,s11.1)))) (x5.2,0)) fun x14=>
 bd (Jk a0) fun x19=>
 bd (QB x14.2 x19) fun x20=>
 some x20
theorem QiD {a0:(List Bt)} {r:Bool} (h:QaF a0=some r):PureC prog 53 [.d (slD Qi a0)] (dB r) []:=by
 refine Qj tOk (fn:=f53) (c:=Ql f53) rfl rfl ?_;unfold QaF at h;(conv=>whnf);refine Qd tOk ?_;(conv=>whnf);obtain⟨x1,hx1,h⟩:=Qa h;refine cE [] 1000 (Z6 hx1) ?_;(conv=>whnf);obtain⟨x5,hx5,h⟩:=Qa h;refine QD tOk hx5 (fun s2=>⟨0,43,[(0,.d (slD Qi a0)),(3,.osl 7001 0 s2.1.length),(11,.osl 6001 0 x1.length),(12,dI ((x1.length:Nat):Int)),(13,dI s2.2)],[],[(7001,.arr 9 1 s2.1.length (rows Qi s2.1)),(6001,.arr 23 1 x1.length (rows (QbZ Qi) x1))],[]⟩) ?_ ?_
 ·exact leX [.p 7001 9 1 (rows Qi ([]:List Bt))]
 ·clear hx5;intro s2 y3 g4 hy3;(conv=>whnf);refine Qd tOk ?_;(conv=>whnf);refine QC g4 (fun _ g4=>?_) (fun _ g4=>?_)
  ·(conv=>whnf);refine Qd tOk ?_;(conv=>whnf);refine gdI g4 (fun g4=>?_);(conv=>whnf);refine gdI g4 (fun g4=>?_);(conv=>whnf);refine J1 (enc:=Qi) ([((x1.getD s2.2.toNat default).getD 2 default)]:List Bt) ?_;(conv=>whnf);refine gdI g4 (fun g4=>?_);refine QfZ (enc:=Qi) (xs:=s2.1) (ys:=([((x1.getD s2.2.toNat default).getD 2 default)]:List Bt)) ?_;(conv=>whnf);obtain rfl:=sj_ g4;exact⟨_,rfl,leX []⟩
  ·(conv=>whnf);obtain rfl:=sj_ g4;obtain rfl:=hy3 _ rfl;refine Qd tOk ?_;(conv=>whnf);obtain⟨x10,hx10,h⟩:=Qa h;refine cE [] 3000 (Z6 hx10) ?_;(conv=>whnf);obtain⟨x14,hx14,h⟩:=Qa h;refine QD tOk hx14 (fun s11=>⟨0,43,[(0,.d (slD Qi a0)),(3,.osl 7001 0 s11.1.length),(25,.osl 8001 0 x10.length),(26,dI ((x10.length:Nat):Int)),(27,dI s11.2)],[],[(8001,.arr 23 1 x10.length (rows (QbZ Qi) x10)),(7001,.arr 9 1 s11.1.length (rows Qi s11.1))],[]⟩) ?_ ?_
   ·exact leX []
   ·clear hx14;intro s11 y12 g13 hy12;(conv=>whnf);refine Qd tOk ?_;(conv=>whnf);refine QC g13 (fun _ g13=>?_) (fun _ g13=>?_)
    ·(conv=>whnf);refine Qd tOk ?_;(conv=>whnf);refine gdI g13 (fun g13=>?_);(conv=>whnf);refine gdI g13 (fun g13=>?_);(conv=>whnf);refine J1 (enc:=Qi) ([((x10.getD s11.2.toNat default).getD 1 default)]:List Bt) ?_;(conv=>whnf);refine gdI g13 (fun g13=>?_);refine QfZ (enc:=Qi) (xs:=s11.1) (ys:=([((x10.getD s11.2.toNat default).getD 1 default)]:List Bt)) ?_;(conv=>whnf);obtain rfl:=sj_ g13;exact⟨_,rfl,leX []⟩
    ·(conv=>whnf);obtain rfl:=sj_ g13;obtain rfl:=hy12 _ rfl;obtain⟨x19,hx19,h⟩:=Qa h;refine cC 1000 (Qeb hx19) ?_;clear hx19;(conv=>whnf);obtain⟨x20,hx20,h⟩:=Qa h;refine Qyn 0 (JN hx20) rfl QuU rfl ?_;(conv=>whnf);obtain rfl:=sj_ h;exact lfP []
def QbB (a0:(List Bt)):Option (Bool):=
 bd (QM a0 (⟨#[110,97,116]⟩:Bt)) fun x1=>
 bd (QM a0 (⟨#[100,111,111,114]⟩:Bt)) fun x2=>
(if(((x1.length:Nat):Int)==0)=true then
 some (decide (((x2.length:Nat):Int)>0))
else
 gd ((0:Int)≤0∧0<((x1.length:Nat):Int))<|
 gd ((0:Int)≤1∧1<(((x1.getD 0 default).length:Nat):Int))<|
 bd (Z7 ((x1.getD 0 default).getD 1 default)) fun x5=>
 gd ((0:Int)≤0∧0<((x1.length:Nat):Int))<|
 gd ((0:Int)≤3∧3<(((x1.getD 0 default).length:Nat):Int))<|
 bd (Q5 ((x1.getD 0 default).getD 3 default)) fun x8=>
 gd ((0:Int)≤0∧0<((x1.length:Nat):Int))<|
 gd ((0:Int)≤4∧4<(((x1.getD 0 default).length:Nat):Int))<|
 bd (Q5 ((x1.getD 0 default).getD 4 default)) fun x11=>
 gd ((0:Int)≤0∧0<((x1.length:Nat):Int))<|
 gd ((0:Int)≤2∧2<(((x1.getD 0 default).length:Nat):Int))<|
 bd (Zs ((x1.getD 0 default).getD 2 default)) fun x14=>
 bd (QX x5.1 x14) fun x15=>
(if((x15||(decide (x8>x11)))||(decide (((x2.length:Nat):Int)>6)))=true then
 some true
else
 bd (lp (σ:=Int) (β:=(Unit⊕Unit)) (fun s16=>
(if(decide (s16<((x2.length:Nat):Int)))=true then
 gd ((0:Int)≤s16∧s16<((x2.length:Nat):Int))<|
 gd ((0:Int)≤3∧3<(((x2.getD s16.toNat default).length:Nat):Int))<|
 bd (Zs ((x2.getD s16.toNat default).getD 3 default)) fun x22=>
 bd (QX x5.1 x22) fun x23=>
 gd ((!x23)=false→((0:Int)≤2∧2<(((x2.getD s16.toNat default).length:Nat):Int)))<|
 bd (Qt ((!x23)=false) (Q5 ((x2.getD s16.toNat default).getD 2 default))) fun x25=>
 bd (Qt ((!x23)=false) (Qw x25 x8 x11)) fun x26=>
(if((!x23)||x26)=true then
 some (.inr (.inl ()))
else
 gd ((0:Int)≤(0:Int)∧(0:Int)≤s16∧s16≤((x2.length:Nat):Int))<|
 bd (lp (σ:=Int) (β:=(Unit⊕Unit)) (fun s28=>
(if(decide (s28<((s16.toNat:Nat):Int)))=true then
 gd ((0:Int)≤s28∧s28<((s16.toNat:Nat):Int))<|
 gd ((0:Int)≤1∧1<(((x2.getD s28.toNat default).length:Nat):Int))<|
 gd ((0:Int)≤1∧1<(((x2.getD s16.toNat default).length:Nat):Int))<|
 gd ((((x2.getD s28.toNat default).getD 1 default)==((x2.getD s16.toNat default).getD 1 default))=true→((0:Int)≤3∧3<(((x2.getD s28.toNat default).length:Nat):Int)))<|
 gd ((((x2.getD s28.toNat default).getD 1 default)==((x2.getD s16.toNat default).getD 1 default))=true→((0:Int)≤3∧3<(((x2.getD s16.toNat default).length:Nat):Int)))<|
 gd (((((x2.getD s28.toNat default).getD 1 default)==((x2.getD s16.toNat default).getD 1 default))&&(((x2.getD s28.toNat default).getD 3 default)==((x2.getD s16.toNat default).getD 3 default)))=true→((0:Int)≤4∧4<(((x2.getD s28.toNat default).length:Nat):Int)))<|
 gd (((((x2.getD s28.toNat default).getD 1 default)==((x2.getD s16.toNat default).getD 1 default))&&(((x2.getD s28.toNat default).getD 3 default)==((x2.getD s16.toNat default).getD 3 default)))=true→((0:Int)≤4∧4<(((x2.getD s16.toNat default).length:Nat):Int)))<|
(if(((((x2.getD s28.toNat default).getD 1 default)==((x2.getD s16.toNat default).getD 1 default))&&(((x2.getD s28.toNat default).getD 3 default)==((x2.getD s16.toNat default).getD 3 default)))&&(((x2.getD s28.toNat default).getD 4 default)==((x2.getD s16.toNat default).getD 4 default)))=true then
 some (.inr (.inl ()))
else
 some (.inl (IntKind.i64.wrap (s28+1))))
else
 some (.inr (.inr ())))) 0) fun x31=>
(match x31 with
| .inl d39=>
 some (.inr (.inl ()))
| .inr d40=>
 some (.inl (IntKind.i64.wrap (s16+1)))))
else
 some (.inr (.inr ())))) 0) fun x19=>
(match x19 with
| .inl d41=>
 some true
| .inr d42=>
 some false)))
theorem Qky {a0:(List Bt)} {r:Bool} (h:QbB a0=some r):PureC prog 54 [.d (slD Qi a0)] (dB r) []:=by
 refine Qj tOk (fn:=f54) (c:=Ql f54) rfl rfl ?_;unfold QbB at h;(conv=>whnf);obtain⟨x1,hx1,h⟩:=Qa h;refine cE [] 1000 (Z6 hx1) ?_;(conv=>whnf);obtain⟨x2,hx2,h⟩:=Qa h;refine cE [] 2000 (Z6 hx2) ?_;(conv=>whnf);refine Qd tOk ?_;(conv=>whnf);refine QC h (fun _ h=>?_) (fun _ h=>?_)
 ·(conv=>whnf);obtain rfl:=sj_ h;exact lfP []
 ·(conv=>whnf);refine gdI h (fun h=>?_);(conv=>whnf);refine gdI h (fun h=>?_);(conv=>whnf);obtain⟨x5,hx5,h⟩:=Qa h;refine cC 0 (QcR hx5) ?_;clear hx5;(conv=>whnf);obtain⟨g6,h⟩:=Qh h;obtain⟨g7,h⟩:=Qh h;obtain⟨x8,hx8,h⟩:=Qa h;obtain⟨g9,h⟩:=Qh h;obtain⟨g10,h⟩:=Qh h;obtain⟨x11,hx11,h⟩:=Qa h;refine Zq tOk [.u 5 0 (dI x8) [],.u 11 0 (dI x11) []] 14 [] [0,1,3,7,15,31,0,64,192,448,960,2047,4095,8191] [] ?_;(conv=>whnf);refine And.intro g6 ?_;clear g6;(conv=>whnf);refine And.intro g7 ?_;clear g7;(conv=>whnf);refine And.intro (Qo (ZL hx8) (by kernel_rfl)) ?_;(conv=>whnf);refine And.intro g9 ?_;clear g9;(conv=>whnf);refine And.intro g10 ?_;clear g10;(conv=>whnf);refine And.intro (Qo (ZL hx11) (by kernel_rfl)) ?_;(conv=>whnf);refine And.intro (by kernel_rfl) ?_;(conv=>whnf);refine Qd tOk ?_;(conv=>whnf);obtain⟨g12,h⟩:=Qh h;obtain⟨g13,h⟩:=Qh h;obtain⟨x14,hx14,h⟩:=Qa h;obtain⟨x15,hx15,h⟩:=Qa h;refine Zq tOk [.u 6 0 (dI x14) [],.u 7 0 (dB x15) []] 18 [] [0,0,2,6,14,30,62,127,255,511,511,2047,4095,8191,16383,32767,65535,131071] [] ?_;(conv=>whnf);refine And.intro g12 ?_;clear g12;(conv=>whnf);refine And.intro g13 ?_;clear g13;(conv=>whnf);refine And.intro (Qo (Jq hx14) (by kernel_rfl)) ?_;(conv=>whnf);refine And.intro (Qo (Jc hx15) (by kernel_rfl)) ?_;(conv=>whnf);refine And.intro (by kernel_rfl) ?_;(conv=>whnf);refine QC h (fun _ h=>?_) (fun _ h=>?_)
  ·(conv=>whnf);obtain rfl:=sj_ h;exact lfP []
  ·(conv=>whnf);refine Qd tOk ?_;(conv=>whnf);obtain⟨x19,hx19,h⟩:=Qa h;refine QD tOk hx19 (fun s16=>⟨0,120,[(4,.osl 7001 0 x2.length),(5,.ref 5 0 0),(7,dI x8),(8,dI x11),(62,.osl 7001 0 x2.length),(63,dI ((x2.length:Nat):Int)),(64,dI s16)],[],[(5,.box 106 [dI x5.1.Addr,dI x5.1.Len]),(7001,.arr 23 1 x2.length (rows (QbZ Qi) x2))],[]⟩) ?_ ?_
   ·exact leX []
   ·clear hx19;intro s16 y17 g18 hy17;(conv=>whnf);refine Qd tOk ?_;(conv=>whnf);refine QC g18 (fun _ g18=>?_) (fun _ g18=>?_)
    ·(conv=>whnf);refine Qd tOk ?_;(conv=>whnf);refine gdI g18 (fun g18=>?_);(conv=>whnf);refine Qd tOk ?_;(conv=>whnf);obtain⟨g21,g18⟩:=Qh g18;obtain⟨x22,hx22,g18⟩:=Qa g18;obtain⟨x23,hx23,g18⟩:=Qa g18;obtain⟨g24,g18⟩:=Qh g18;obtain⟨x25,hx25,g18⟩:=Qa g18;obtain⟨x26,hx26,g18⟩:=Qa g18;refine Zq tOk [.u 4 0 (dI x22) [],.u 5 0 (dB x23) [],.u 11 0 (dI x25) [],.u 14 0 (dB x26) []] 16 [] [0,0,2,6,14,31,63,127,255,511,1023,2047,255,255,16383,32767] [] ?_;(conv=>whnf);refine And.intro g21 ?_;clear g21;(conv=>whnf);refine And.intro (Qo (Jq hx22) (by kernel_rfl)) ?_;(conv=>whnf);refine And.intro (Qo (Jc hx23) (by kernel_rfl)) ?_;(conv=>whnf);refine And.intro g24 ?_;clear g24;(conv=>whnf);refine And.intro (QV rfl rfl rfl rfl (by intro c0;exact ZL (Qg hx25 c0))) ?_;(conv=>whnf);refine And.intro (QV rfl rfl rfl rfl (by intro c0;exact QN (Qg hx26 c0))) ?_;(conv=>whnf);refine And.intro (by kernel_rfl) ?_;(conv=>whnf);refine QC g18 (fun _ g18=>?_) (fun _ g18=>?_)
     ·(conv=>whnf);obtain rfl:=sj_ g18;obtain rfl:=hy17 _ rfl;obtain rfl:=sj_ h;exact lfP []
     ·(conv=>whnf);obtain⟨g27,g18⟩:=Qh g18;refine And.intro g27 ?_;(conv=>whnf);obtain⟨x31,hx31,g18⟩:=Qa g18;refine QD tOk hx31 (fun s28=>⟨0,120,[(4,.osl 7001 0 x2.length),(5,.ref 5 0 0),(7,dI x8),(8,dI x11),(10,.d (slD Qi (x2.getD s16.toNat default))),(62,.osl 7001 0 x2.length),(63,dI ((x2.length:Nat):Int)),(64,dI s16),(87,.osl 7001 0 s16.toNat),(88,dI ((s16.toNat:Nat):Int)),(89,dI s28)],[],[(5,.box 106 [dI x5.1.Addr,dI x5.1.Len]),(7001,.arr 23 1 x2.length (rows (QbZ Qi) x2))],[]⟩) ?_ ?_
      ·exact leX []
      ·clear hx31;intro s28 y29 g30 hy29;(conv=>whnf);refine Qd tOk ?_;(conv=>whnf);refine QC g30 (fun _ g30=>?_) (fun _ g30=>?_)
       ·(conv=>whnf);refine Qd tOk ?_;(conv=>whnf);refine gdI g30 (fun g30=>?_);(conv=>whnf);obtain⟨g33,g30⟩:=Qh g30;obtain⟨g34,g30⟩:=Qh g30;obtain⟨g35,g30⟩:=Qh g30;obtain⟨g36,g30⟩:=Qh g30;obtain⟨g37,g30⟩:=Qh g30;obtain⟨g38,g30⟩:=Qh g30;refine Zq tOk [] 25 [] [0,1,3,0,8,24,63,127,255,511,1023,255,2303,6399,16383,32767,65535,131071,262143,524287,131071,1179647,3276799,8388607,16777215] [] ?_;(conv=>whnf);refine And.intro g33 ?_;clear g33;(conv=>whnf);refine And.intro g34 ?_;clear g34;(conv=>whnf);refine And.intro g35 ?_;clear g35;(conv=>whnf);refine And.intro g36 ?_;clear g36;(conv=>whnf);refine And.intro g37 ?_;clear g37;(conv=>whnf);refine And.intro g38 ?_;clear g38;(conv=>whnf);refine And.intro (by kernel_rfl) ?_;(conv=>whnf);refine QC g30 (fun _ g30=>?_) (fun _ g30=>?_)
        ·(conv=>whnf);obtain rfl:=sj_ g30;obtain rfl:=hy29 _ rfl;obtain rfl:=sj_ g18;obtain rfl:=hy17 _ rfl;obtain rfl:=sj_ h;exact lfP []
        ·(conv=>whnf);obtain rfl:=sj_ g30;exact⟨_,rfl,leX []⟩
       ·(conv=>whnf);obtain rfl:=sj_ g30;obtain rfl:=hy29 _ rfl;obtain rfl:=sj_ g18;exact⟨_,rfl,leX []⟩
    ·(conv=>whnf);obtain rfl:=sj_ g18;obtain rfl:=hy17 _ rfl;obtain rfl:=sj_ h;exact lfP []
def QiE (c:Fnv) (x:List Bt):Option Bool:=match c with
 | .k f=>if f=50 then Qck x else if f=51 then QaE x else if f=52 then J6 x else if f=53 then QaF x else if f=54 then QbB x else none
 | .r f lo hi=>none
 | .w f ws=>none
theorem Qw4 {c:Fnv} {x:List Bt} {r:Bool} (h:QiE c x=some r):PureC prog c.f ([.d (slD Qi x)]++c.caps.map .rp) (.d (.bool r)) []:=by
 cases c with
 |k f=>
  simp only[QiE] at h;split at h
  ·rename_i e;subst e;exact QlN h
  split at h
  ·rename_i e;subst e;exact QiC h
  split at h
  ·rename_i e;subst e;exact Qhh h
  split at h
  ·rename_i e;subst e;exact QiD h
  split at h
  ·rename_i e;subst e;exact Qky h
  cases h
 |r f lo hi=>
  simp only[QiE] at h;cases h
 |w f ws=>
  simp only[QiE] at h;cases h
def Qa3 (a0:(List Bt)):Option (Int):=
 bd (J4 a0) fun x1=>
(if(x1 !=0)=true then
 some x1
else
 bd (lp (σ:=Int) (β:=(Int⊕Unit)) (fun s2=>
(if(decide (s2<((([(Fnv.k 50),(Fnv.k 51),(Fnv.k 52),(Fnv.k 53),(Fnv.k 54)]:List Fnv).length:Nat):Int)))=true then
 gd ((0:Int)≤s2∧s2<((([(Fnv.k 50),(Fnv.k 51),(Fnv.k 52),(Fnv.k 53),(Fnv.k 54)]:List Fnv).length:Nat):Int))<|
 bd (QiE (([(Fnv.k 50),(Fnv.k 51),(Fnv.k 52),(Fnv.k 53),(Fnv.k 54)]:List Fnv).getD s2.toNat default) a0) fun x7=>
(if x7=true then
 some (.inr (.inl (IntKind.i64.wrap (5+s2))))
else
 some (.inl (IntKind.i64.wrap (s2+1))))
else
 some (.inr (.inr ())))) 0) fun x5=>
(match x5 with
| .inl d8=>
 some d8
| .inr d9=>
 some 0))
theorem QjJ {a0:(List Bt)} {r:Int} (h:Qa3 a0=some r):PureC prog 11 [.d (slD Qi a0)] (dI r) []:=by
 refine Qj tOk (fn:=f11) (c:=Ql f11) rfl rfl ?_;unfold Qa3 at h;(conv=>whnf);refine Qd tOk ?_;(conv=>whnf);obtain⟨x1,hx1,h⟩:=Qa h;refine cC 0 (Qkx hx1) ?_;clear hx1;(conv=>whnf);refine QC h (fun _ h=>?_) (fun _ h=>?_)
 ·(conv=>whnf);obtain rfl:=sj_ h;exact lfP []
 ·(conv=>whnf);refine Qd tOk ?_;(conv=>whnf);refine J1 (enc:=QbV) ([(Fnv.k 50),(Fnv.k 51),(Fnv.k 52),(Fnv.k 53),(Fnv.k 54)]:List Fnv) ?_;(conv=>whnf);obtain⟨x5,hx5,h⟩:=Qa h;refine QD tOk hx5 (fun s2=>⟨0,24,[(0,.d (slD Qi a0)),(11,.osl 11 0 (([(Fnv.k 50),(Fnv.k 51),(Fnv.k 52),(Fnv.k 53),(Fnv.k 54)]:List Fnv).length)),(12,dI ((([(Fnv.k 50),(Fnv.k 51),(Fnv.k 52),(Fnv.k 53),(Fnv.k 54)]:List Fnv).length:Nat):Int)),(13,dI s2)],[],[(11,.arr 92 1 (([(Fnv.k 50),(Fnv.k 51),(Fnv.k 52),(Fnv.k 53),(Fnv.k 54)]:List Fnv).length) (rows QbV ([(Fnv.k 50),(Fnv.k 51),(Fnv.k 52),(Fnv.k 53),(Fnv.k 54)]:List Fnv)))],[]⟩) ?_ ?_
  ·exact leX []
  ·clear hx5;intro s2 y3 g4 hy3;(conv=>whnf);refine Qd tOk ?_;(conv=>whnf);refine QC g4 (fun _ g4=>?_) (fun _ g4=>?_)
   ·(conv=>whnf);refine Qd tOk ?_;(conv=>whnf);refine gdI g4 (fun g4=>?_);(conv=>whnf);obtain⟨x7,hx7,g4⟩:=Qa g4;refine cDy (Qw4 hx7) ?_;(conv=>whnf);refine QC g4 (fun _ g4=>?_) (fun _ g4=>?_)
    ·(conv=>whnf);obtain rfl:=sj_ g4;obtain rfl:=hy3 _ rfl;obtain rfl:=sj_ h;exact lfP []
    ·(conv=>whnf);obtain rfl:=sj_ g4;exact⟨_,rfl,leX []⟩
   ·(conv=>whnf);obtain rfl:=sj_ g4;obtain rfl:=hy3 _ rfl;obtain rfl:=sj_ h;exact lfP []
def QdY (a0:(List Bt)):Option (Bool):=
 bd (Qa3 a0) fun x1=>
 some (x1==0)
theorem Qng {a0:(List Bt)} {r:Bool} (h:QdY a0=some r):PureC prog 139 [.d (slD Qi a0)] (dB r) []:=by
 refine Qj tOk (fn:=f139) (c:=Ql f139) rfl rfl ?_;unfold QdY at h;(conv=>whnf);obtain⟨x1,hx1,h⟩:=Qa h;refine cC 0 (QjJ hx1) ?_;clear hx1;(conv=>whnf);obtain rfl:=sj_ h;exact lfP []
def QY (a0:(List Bt)) (a1:Bt):Option ((List (List Bt))):=
 bd (QdY a0) fun x1=>
(if(!x1)=true then
 some []
else
 bd (QM a0 a1) fun x2=>
 some x2)
theorem Qai {a0:(List Bt)} {a1:Bt} {r:(List (List Bt))} (h:QY a0 a1=some r):EffC prog 61 [.d (slD Qi a0),.d (.str a1)] [] (.osl 5001 0 r.length) [(5001,.arr 23 1 r.length (rows (QbZ Qi) r))]:=by
 refine QaR tOk (fn:=f61) (c:=Ql f61) rfl rfl ?_;unfold QY at h;(conv=>whnf);refine Qd tOk ?_;(conv=>whnf);obtain⟨x1,hx1,h⟩:=Qa h;refine cC 0 (Qng hx1) ?_;clear hx1;(conv=>whnf);refine QC h (fun _ h=>?_) (fun _ h=>?_)
 ·(conv=>whnf);obtain rfl:=sj_ h;exact lfE [.p 5001 23 1 (rows (QbZ Qi) ([]:List (List Bt)))]
 ·(conv=>whnf);obtain⟨x2,hx2,h⟩:=Qa h;refine cE [] 1000 (Z6 hx2) ?_;(conv=>whnf);obtain rfl:=sj_ h;exact lfE [.s [(5001,6001),(6001,5001)]]
def Jx (a0:(List Bt)) (a1:Bt):Option (Bool):=
 gd ((0:Int)≤1∧1<((a0.length:Nat):Int))<|
 some (!((a0.getD 1 default)==a1))
theorem Qew {a0:(List Bt)} {a1:Bt} {r:Bool} (h:Jx a0 a1=some r):PureC prog 62 [.d (slD Qi a0),.rp [.str a1]] (dB r) []:=by
 refine Qj tOk (fn:=f62) (c:=Ql f62) rfl rfl ?_;unfold Jx at h;(conv=>whnf);obtain⟨g1,h⟩:=Qh h;refine Zq tOk [] 6 [] [0,1,3,0,15,31] [] ?_;(conv=>whnf);refine And.intro g1 ?_;clear g1;(conv=>whnf);refine And.intro (by kernel_rfl) ?_;(conv=>whnf);obtain rfl:=sj_ h;exact lfP []
def Zb (a0:(List (List Bt))) (a1c0:Bt):Option (Int):=
 bd (lp (σ:=Int) (β:=(Int⊕Unit)) (fun s1=>
(if(decide (s1<((a0.length:Nat):Int)))=true then
 gd ((0:Int)≤s1∧s1<((a0.length:Nat):Int))<|
 bd (Jx (a0.getD s1.toNat default) a1c0) fun x6=>
(if x6=true then
 some (.inr (.inl s1))
else
 some (.inl (IntKind.i64.wrap (s1+1))))
else
 some (.inr (.inr ())))) 0) fun x4=>
(match x4 with
| .inl d7=>
 some d7
| .inr d8=>
 some (-1))
theorem Qad {a0:(List (List Bt))} {a1c0:Bt} {r:Int} (h:Zb a0 a1c0=some r):PureC prog 138 [.d (slD (QbZ Qi) a0),.fn 62 [.rp [.str a1c0]]] (dI r) []:=by
 refine Qj tOk (fn:=f138) (c:=Ql f138) rfl rfl ?_;unfold Zb at h;(conv=>whnf);refine Qd tOk ?_;(conv=>whnf);obtain⟨x4,hx4,h⟩:=Qa h;refine QD tOk hx4 (fun s1=>⟨0,19,[(0,.d (slD (QbZ Qi) a0)),(1,.fn 62 [.rp [.str a1c0]]),(7,dI ((a0.length:Nat):Int)),(8,dI s1)],[],[],[]⟩) ?_ ?_
 ·exact leX []
 ·clear hx4;intro s1 y2 g3 hy2;(conv=>whnf);refine Qd tOk ?_;(conv=>whnf);refine QC g3 (fun _ g3=>?_) (fun _ g3=>?_)
  ·(conv=>whnf);refine Qd tOk ?_;(conv=>whnf);refine gdI g3 (fun g3=>?_);(conv=>whnf);obtain⟨x6,hx6,g3⟩:=Qa g3;refine cC 0 (Qew hx6) ?_;clear hx6;(conv=>whnf);refine QC g3 (fun _ g3=>?_) (fun _ g3=>?_)
   ·(conv=>whnf);obtain rfl:=sj_ g3;obtain rfl:=hy2 _ rfl;obtain rfl:=sj_ h;exact lfP []
   ·(conv=>whnf);obtain rfl:=sj_ g3;exact⟨_,rfl,leX []⟩
  ·(conv=>whnf);obtain rfl:=sj_ g3;obtain rfl:=hy2 _ rfl;obtain rfl:=sj_ h;exact lfP []
def Qy (a0:(List (List Bt))) (a1c0:Bt):Option ((List (List Bt))):=
 bd (Zb a0 a1c0) fun x1=>
(if(x1==(-1))=true then
 some a0
else
 bd (lp (σ:=List (List Bt)×Int×Int) (β:=(Nat×Int×(List (List Bt)))) (fun s2=>
(if(decide (s2.2.2<((s2.1.length:Nat):Int)))=true then
 gd ((0:Int)≤s2.2.2∧s2.2.2<((s2.1.length:Nat):Int))<|
 bd (Jx (s2.1.getD s2.2.2.toNat default) a1c0) fun x7=>
(if(!x7)=true then
 gd ((0:Int)≤s2.2.1∧s2.2.1<((s2.1.length:Nat):Int))<|
 some (.inl (s2.1.set s2.2.1.toNat (s2.1.getD s2.2.2.toNat default),IntKind.i64.wrap (s2.2.1+1),IntKind.i64.wrap (s2.2.2+1)))
else
 some (.inl (s2.1,s2.2.1,IntKind.i64.wrap (s2.2.2+1))))
else
 some (.inr (s2.1.length,s2.2.1,s2.1)))) (a0,x1,IntKind.i64.wrap (x1+1))) fun x5=>
 gd ((0:Int)≤x5.2.1∧x5.2.1≤((x5.1:Nat):Int)∧((x5.1:Nat):Int)≤((x5.1:Nat):Int))<|
 gd ((0:Int)≤(0:Int)∧(0:Int)≤x5.2.1∧x5.2.1≤((x5.1:Nat):Int))<|
 some ((QpV x5.2.2 x5.2.1.toNat (QdL ((x5.1:Nat):Int) x5.2.1)).take x5.2.1.toNat))
theorem JH {a0:(List (List Bt))} {a1c0:Bt} {r:(List (List Bt))} (h:Qy a0 a1c0=some r):EffC prog 60 [.osl 9000 0 a0.length,.fn 62 [.rp [.str a1c0]]] [(9000,.arr 23 1 a0.length (rows (QbZ Qi) a0))] (.osl 5001 0 r.length) [(5001,.arr 23 1 r.length (rows (QbZ Qi) r))]:=by
 refine QaR tOk (fn:=f60) (c:=Ql f60) rfl rfl ?_;unfold Qy at h;(conv=>whnf);obtain⟨x1,hx1,h⟩:=Qa h;refine cC 0 (Qad hx1) ?_;clear hx1;(conv=>whnf);refine Qd tOk ?_;(conv=>whnf);refine QC h (fun _ h=>?_) (fun _ h=>?_)
 ·(conv=>whnf);obtain rfl:=sj_ h;exact lfE [.s [(5001,9000),(9000,5001)]]
 ·(conv=>whnf);refine Qd tOk ?_;(conv=>whnf);obtain⟨x5,hx5,h⟩:=Qa h;refine QD tOk hx5 (fun s2=>⟨0,42,[(0,.osl 9000 0 s2.1.length),(1,.fn 62 [.rp [.str a1c0]]),(5,dI s2.2.1),(6,dI s2.2.2)],[],[(9000,.arr 23 1 s2.1.length (rows (QbZ Qi) s2.1))],[⟨[],[]⟩]⟩) ?_ ?_
  ·exact leX []
  ·clear hx5;intro s2 y3 g4 hy3;(conv=>whnf);refine Qd tOk ?_;(conv=>whnf);refine QC g4 (fun _ g4=>?_) (fun _ g4=>?_)
   ·(conv=>whnf);refine Qd tOk ?_;(conv=>whnf);refine gdI g4 (fun g4=>?_);(conv=>whnf);obtain⟨x7,hx7,g4⟩:=Qa g4;refine cC 0 (Qew hx7) ?_;clear hx7;(conv=>whnf);refine QC g4 (fun _ g4=>?_) (fun _ g4=>?_)
    ·(conv=>whnf);refine gdI g4 (fun g4=>?_);(conv=>whnf);refine⟨rows (QbZ Qi) (s2.1.set s2.2.1.toNat (s2.1.getD s2.2.2.toNat default)),Qc8 QuV rfl,?_⟩;(conv=>whnf);obtain rfl:=sj_ g4;exact⟨_,rfl,leX []⟩
    ·(conv=>whnf);obtain rfl:=sj_ g4;exact⟨_,rfl,leX []⟩
   ·(conv=>whnf);obtain rfl:=sj_ g4;obtain rfl:=hy3 _ rfl;dsimp only at h;obtain⟨g10,h⟩:=Qh h;refine And.intro g10 ?_;(conv=>whnf);refine⟨rows (QbZ Qi) (QpV (s2.1.length,s2.2.1,s2.1).2.2 (s2.1.length,s2.2.1,s2.1).2.1.toNat (QdL (((s2.1.length,s2.2.1,s2.1).1:Nat):Int) (s2.1.length,s2.2.1,s2.1).2.1)),Qne QuV zlA,?_⟩;(conv=>whnf);obtain⟨g11,h⟩:=Qh h;refine And.intro g11 ?_;(conv=>whnf);obtain rfl:=sj_ h;exact lfE [.c 4,.s [(5001,9000),(9000,5001)]]
def QJ (a0:(List (List Bt))):Option ((List (List Bt))):=
 gd (a0.length<4611686018427387904)<|
 gd (∀x∈a0,2<x.length∧(x.getD 2 default).size≤6∧0≤QhQ (x.getD 2 default)∧QhQ (x.getD 2 default)≤1000000)<|
 gd (∀i j,i<a0.length→j<a0.length→[QhQ ((a0.getD i default).getD 2 default)]=[QhQ ((a0.getD j default).getD 2 default)]→i=j)<|
 some (sortS (fun x y=>kLt [QhQ (x.getD 2 default)] [QhQ (y.getD 2 default)]) a0)
namespace Sf64
open Go.RowKit Go.Sort
theorem w65 (s:Bt) (hs:s.size≤6) (r:Int) (W:World) (h:Calls prog 142 #[.string s] W fun e w'=>e=.returned (.int .i64 r)∧∃q os',w'=grow (W.drewN q) os'):Calls prog 65 #[.string s] W fun e w'=>e=.returned (.int .i64 r)∧∃q os',w'=grow (W.drewN q) os':=by
 go_enter func65,ntmps65
 go_wp2_with (go_at_call 142;refine h.mono ?_;rintro e w' ⟨rfl,q,os,rfl⟩)
 go_ret
 exact⟨rfl,q,os,rfl⟩
theorem w64 (s t:Bt) (b o n c b' o' n' c':Nat) (x y:Int) (hx:-1000000≤x∧x≤1000000) (hy:-1000000≤y∧y≤1000000) (W:World) (hn:2<n) (hn':2<n') (hb:b<W.heap.size) (hb':b'<W.heap.size) (h1:W.cell? ⟨b,o+2,none⟩=some (.string s)) (h2:W.cell? ⟨b',o'+2,none⟩=some (.string t))
  (k1:∀n os,Calls prog 65 #[.string s] (grow (W.drewN n) os) fun e w'=>e=.returned (.int .i64 x)∧∃q os',w'=grow ((grow (W.drewN n) os).drewN q) os') (k2:∀n os,Calls prog 65 #[.string t] (grow (W.drewN n) os) fun e w'=>e=.returned (.int .i64 y)∧∃q os',w'=grow ((grow (W.drewN n) os).drewN q) os'):
  Calls prog 64 #[.slice (some ⟨b,o,none⟩) n c,.slice (some ⟨b',o',none⟩) n' c'] W fun e w'=>e=.returned (.int .i64 (x-y))∧∃q os',w'=grow (W.drewN q) os':=by
 have hw:IntKind.i64.wrap (x-y)=x-y:=Qs (by omega) (by omega)
 have g1:∀n os,(grow (W.drewN n) os).cell? ⟨b,o+2,none⟩=some (.string s):=cell_grown hb h1
 have g2:∀n os,(grow (W.drewN n) os).cell? ⟨b',o'+2,none⟩=some (.string t):=cell_grown hb' h2
 have hm:prog.follows .mixedOrders=true:=by kernel_rfl
 have z1:(2:Int)<(n:Int):=by omega
 have z2:(2:Int)<(n':Int):=by omega
 go_enter func64,ntmps64
 go_wp2_with fail
 go_quiet_grown (first|(go_at_call 65;first|(refine Calls.grown_of (k1 _ _))|(refine Calls.grown_of (k2 _ _))))
 go_wp2
 go_ret
 exact⟨rfl,_,_,rfl⟩
theorem QzC (s:Bt) (hs:s.size≤281474976710656) (hd:0≤QhQ s) (w:World) (ht:TabB prog (fun b=>b<w.heap.size) w):Calls prog 142 #[.string s] w fun e w'=>e=.returned (.int .i64 (QhQ s))∧∃m os,w'=grow (w.drewN m) os:=by
 unfold QhQ at hd⊢
 cases h:Lib.atoiAll s.data.toList with
 |ok v=>
  rw[h] at hd
  have hat:=Any.strconv_Atoi_ok Lay.atoi s (by omega) v h w
  obtain⟨h0,h1⟩:=Qks h
  have hbel:∀ {w':World},(w'=w∨ ∃t,w'=Lib.bytesWorld w (Lay.atoi_ren.t 5) t)→Below w.heap.size w w':=fun {w'} h=>by
   rcases h with rfl|⟨t,rfl⟩
   ·exact Below.refl _ _
   ·exact Lib.bytesWorld_below w _ t
  have hdr:∀ {w':World},(w'=w∨ ∃t,w'=Lib.bytesWorld w (Lay.atoi_ren.t 5) t)→w.drawn≤w'.drawn:=fun {w'} h=>by
   rcases h with rfl|⟨t,rfl⟩
   ·exact Nat.le_refl _
   ·exact Nat.le_succ _
  have hqi:=Qs4 (v:=v) (s:=s)
  by_cases hv:v<0
  ·simp[hv] at hd
  ·by_cases hq:QlL v=s
   ·have h2:=hqi.1 hq
    have h3:(!(Lib.itoa v==s.toList))=false:=by simp[h2]
    have h4:decide (v<0)=false:=by simp[hv]
    simp only[hv,hq,ne_eq,not_true,or_self,if_false]
    clear hqi hq hd
    go_enter func142,ntmps142
    go_wp2_with (first|(go_at_call 209;refine hat.mono ?_;rintro e w' ⟨rfl,hw⟩)|(go_at_call 210;refine(Any.strconv_Itoa Lay.itoa v h0 h1 _ (Qs5 (Qkt (by kernel_rfl) ht (hbel hw)))).mono ?_;rintro e w'' ⟨rfl,k,os,rfl⟩))
    all_goals go_ret
    all_goals exact⟨rfl,grown_of (Qhd (hbel hw)) (Nat.le_trans (hdr hw) (Nat.le_add_right _ _))⟩
   ·simp[hv,hq] at hd
 |_=>rw[h] at hd;exact absurd (show(0:Int)≤-1 from hd) (by decide)
theorem Qwq {W:World} {ow:Nat→Prop} {x:List Bt} {u:Value} (h:DR W ow (slD Qi x) u) (hx:2<x.length):∃b o c,u=.slice (some ⟨b,o,none⟩) x.length c∧b<W.heap.size∧W.cell? ⟨b,o+2,none⟩=some (.string (x.getD 2 default)):=by
 cases h with
 |sl0 hn=>omega
 |sl vals ho hb hl hc hv hcap=>
  rename_i b o c sz
  have e:1=sz:=hl 2 hx
  subst e
  have h1:=hc 2 0 _ hx rfl
  have h2:=hv 2 0 _ hx rfl
  refine⟨b,o,c,rfl,hb,?_⟩
  have e2:o+2*1+0=o+2:=by omega
  rw[e2] at h1
  rw[h1,QzD h2]
theorem Qoy {P:Program} {W:World} (ht:TabB P (fun b=>b<W.heap.size) W) (n:Nat) (os:Array Obj):TabB P (fun b=>b<(grow (W.drewN n) os).heap.size) (grow (W.drewN n) os):=by
 have hs:W.heap.size≤(grow (W.drewN n) os).heap.size:=by
  show W.heap.size≤(W.heap++os).size
  rw[Array.size_append];omega
 exact ht.keep ⟨rfl,rfl,rfl,hs,fun k hk=>heap_grow_old _ _ hk⟩ fun b hb=>Nat.lt_of_lt_of_le hb hs
theorem walk {x y:List Bt} (hx:2<x.length∧(x.getD 2 default).size≤6∧0≤QhQ (x.getD 2 default)∧QhQ (x.getD 2 default)≤1000000) (hy:2<y.length∧(y.getD 2 default).size≤6∧0≤QhQ (y.getD 2 default)∧QhQ (y.getD 2 default)≤1000000) (W:World) (ow:Nat→Prop) (u v:Value) (hu:DR W ow (slD Qi x) u) (hv:DR W ow (slD Qi y) v) (ht:TabB prog (fun b=>b<W.heap.size) W):
  Calls prog 64 #[u,v] W fun e w'=>e=.returned (.int .i64 (orI (QhR [QhQ (x.getD 2 default)] [QhQ (y.getD 2 default)])))∧∃m os,w'=grow (W.drewN m) os:=by
 obtain⟨b,o,c,rfl,hb,h1⟩:=Qwq hu hx.1
 obtain⟨b',o',c',rfl,hb',h2⟩:=Qwq hv hy.1
 have ho:orI (QhR [QhQ (x.getD 2 default)] [QhQ (y.getD 2 default)])=QhQ (x.getD 2 default) -QhQ (y.getD 2 default):=by simp only[QhR,orI];split<;>omega
 rw[ho]
 exact w64 _ _ b o _ c b' o' _ c' _ _ (by omega) (by omega) W hx.1 hy.1 hb hb' h1 h2 (fun n os=>w65 _ hx.2.1 _ _ (QzC _ (by omega) hx.2.2.1 _ (Qoy ht n os))) fun n os=>w65 _ hy.2.1 _ _ (QzC _ (by omega) hy.2.2.1 _ (Qoy ht n os))
end Sf64
theorem Qap {a0:(List (List Bt))} {r:(List (List Bt))} (h:QJ a0=some r):EffC prog 63 [.osl 9000 0 a0.length,.fn 64 []] [(9000,.arr 23 1 a0.length (rows (QbZ Qi) a0))] (.tup []) [(9000,.arr 23 1 a0.length (rows (QbZ Qi) r))]:=by
 unfold QJ at h
 obtain⟨g0,h⟩:=Qh h
 obtain⟨g1,h⟩:=Qh h
 obtain⟨g2,h⟩:=Qh h
 obtain rfl:=sj_ h
 exact QrS (t:=23) (xs:=a0) (ρ:=Lay.srfR_ren) (ed:=fun x=>slD Qi x) (ks:=fun x=>[QhQ (x.getD 2 default)]) (q:=1) Lay.srfR rfl (fun _=>rfl) (Qed (fn:=f63) (c:=Ql f63) rfl rfl (by kernel_rfl)) (enters_of func64 (by kernel_rfl) rfl) g2 g0 (fun x hx y hy W ow u v hu hv ht=>Sf64.walk (g1 x hx) (g1 y hy) W ow u v hu hv ht)
def Z8 (a0:Bt):Option (QzU):=
 bd (Z7 a0) fun x1=>
 some x1.1
theorem QbC {a0:Bt} {r:QzU} (h:Z8 a0=some r):PureC prog 66 [.d (.str a0)] (.agg [dI r.Addr,dI r.Len]) []:=by
 refine Qj tOk (fn:=f66) (c:=Ql f66) rfl rfl ?_;unfold Z8 at h;(conv=>whnf);obtain⟨x1,hx1,h⟩:=Qa h;refine cC 0 (QcR hx1) ?_;clear hx1;(conv=>whnf);obtain rfl:=sj_ h;exact lfP []
def Qa4 (a0:(List Bt)) (a1:Bt):Option ((List QzV)):=
 bd (QY a0 (⟨#[114,117,108,101]⟩:Bt)) fun x1=>
 bd (Qy x1 a1) fun x2=>
 bd (QJ x2) fun x3=>
 gd (x3.length=x2.length)<|
 bd (lp (σ:=List QzV×Int) (β:=(Nat×(List QzV))) (fun s4=>
(if(decide (s4.2<((x2.length:Nat):Int)))=true then
 gd ((0:Int)≤s4.2∧s4.2<((x2.length:Nat):Int))<|
 gd ((0:Int)≤3∧3<(((x3.getD s4.2.toNat default).length:Nat):Int))<|
 gd ((0:Int)≤4∧4<(((x3.getD s4.2.toNat default).length:Nat):Int))<|
 bd (Z8 ((x3.getD s4.2.toNat default).getD 4 default)) fun x11=>
 gd ((0:Int)≤5∧5<(((x3.getD s4.2.toNat default).length:Nat):Int))<|
 bd (Z8 ((x3.getD s4.2.toNat default).getD 5 default)) fun x13=>
 gd ((0:Int)≤6∧6<(((x3.getD s4.2.toNat default).length:Nat):Int))<|
 bd (Q5 ((x3.getD s4.2.toNat default).getD 6 default)) fun x15=>
 gd (((s4.1.length)+(([(⟨(((x3.getD s4.2.toNat default).getD 3 default)==(⟨#[112,101,114,109,105,116]⟩:Bt)),x11,x13,x15⟩:QzV)]:List QzV).length))*(48+1)≤70368744177664)<|
 some (.inl ((s4.1++([(⟨(((x3.getD s4.2.toNat default).getD 3 default)==(⟨#[112,101,114,109,105,116]⟩:Bt)),x11,x13,x15⟩:QzV)]:List QzV)),IntKind.i64.wrap (s4.2+1)))
else
 some (.inr (s4.1.length,s4.1)))) (([]:List QzV),0)) fun x7=>
 some x7.2
theorem QjK {a0:(List Bt)} {a1:Bt} {r:(List QzV)} (h:Qa4 a0 a1=some r):PureC prog 14 [.d (slD Qi a0),.d (.str a1)] (.osl 5001 0 r.length) [⟨5001,109,6,r.length,rows QzV.enc r⟩]:=by
 refine Qj tOk (fn:=f14) (c:=Ql f14) rfl rfl ?_;unfold Qa4 at h;(conv=>whnf);obtain⟨x1,hx1,h⟩:=Qa h;refine cE [] 1000 (Qai hx1) ?_;(conv=>whnf);refine Zy [3] ?_;(conv=>whnf);obtain⟨x2,hx2,h⟩:=Qa h;refine cE [(9000,6001)] 2000 (JH hx2) ?_;(conv=>whnf);obtain⟨x3,hx3,h⟩:=Qa h;obtain⟨g18,h⟩:=Qh h;refine cE [(9000,7001)] 0 (Qap hx3) ?_;(conv=>whnf);refine Qd tOk ?_;(conv=>whnf);obtain⟨x7,hx7,h⟩:=Qa h;refine QD tOk hx7 (fun s4=>⟨0,44,[(6,.osl 7002 0 s4.1.length),(16,.osl 7001 0 x2.length),(17,dI ((x2.length:Nat):Int)),(18,dI s4.2)],[],[(7002,.arr 109 6 s4.1.length (rows QzV.enc s4.1)),(7001,.arr 23 1 x2.length (rows (QbZ Qi) x3))],[]⟩) ?_ ?_
 ·exact leX [.p 7002 109 6 (rows QzV.enc ([]:List QzV))]
 ·clear hx7;intro s4 y5 g6 hy5;(conv=>whnf);refine Qd tOk ?_;(conv=>whnf);refine QC g6 (fun _ g6=>?_) (fun _ g6=>?_)
  ·(conv=>whnf);refine Qd tOk ?_;(conv=>whnf);refine gdI g6 (fun g6=>?_);(conv=>whnf);obtain⟨g9,g6⟩:=Qh g6;obtain⟨g10,g6⟩:=Qh g6;obtain⟨x11,hx11,g6⟩:=Qa g6;obtain⟨g12,g6⟩:=Qh g6;obtain⟨x13,hx13,g6⟩:=Qa g6;obtain⟨g14,g6⟩:=Qh g6;obtain⟨x15,hx15,g6⟩:=Qa g6;refine Zq tOk [.u 8 0 (.agg [dI x11.Addr,dI x11.Len]) [],.u 12 0 (.agg [dI x13.Addr,dI x13.Len]) [],.u 16 0 (dI x15) []] 19 [] [0,0,2,6,14,0,32,96,224,0,512,1536,4064,0,8192,24576,65504,131070,262142] [524287,1048575] ?_;(conv=>whnf);refine And.intro g9 ?_;clear g9;(conv=>whnf);refine And.intro g10 ?_;clear g10;(conv=>whnf);refine And.intro (Qo (QbC hx11) (by kernel_rfl)) ?_;(conv=>whnf);refine And.intro g12 ?_;clear g12;(conv=>whnf);refine And.intro (Qo (QbC hx13) (by kernel_rfl)) ?_;(conv=>whnf);refine And.intro g14 ?_;clear g14;(conv=>whnf);refine And.intro (Qo (ZL hx15) (by kernel_rfl)) ?_;(conv=>whnf);refine J1 (enc:=QzV.enc) ([(⟨(((x3.getD s4.2.toNat default).getD 3 default)==(⟨#[112,101,114,109,105,116]⟩:Bt)),x11,x13,x15⟩:QzV)]:List QzV) ?_;(conv=>whnf);refine And.intro (by kernel_rfl) ?_;(conv=>whnf);refine gdI g6 (fun g6=>?_);refine QfZ (enc:=QzV.enc) (xs:=s4.1) (ys:=([(⟨(((x3.getD s4.2.toNat default).getD 3 default)==(⟨#[112,101,114,109,105,116]⟩:Bt)),x11,x13,x15⟩:QzV)]:List QzV)) ?_;(conv=>whnf);obtain rfl:=sj_ g6;exact⟨_,rfl,leX []⟩
  ·(conv=>whnf);obtain rfl:=sj_ g6;obtain rfl:=hy5 _ rfl;obtain rfl:=sj_ h;exact lfP [.s [(5001,7002),(7002,5001)]]
def QI (a0:(List QzW)):Option ((List QzW)):=
 gd (a0.length<4611686018427387904)<|
 gd (∀x∈a0,(-1000000≤x.Addr∧x.Addr≤1000000)∧(-1000000≤x.Len∧x.Len≤1000000)∧(-1000000≤x.Next∧x.Next≤1000000))<|
 gd (∀x∈a0,∀y∈a0,[x.Addr,x.Len,x.Next]=[y.Addr,y.Len,y.Next]→x=y)<|
 some (sortS (fun x y=>kLt [x.Addr,x.Len,x.Next] [y.Addr,y.Len,y.Next]) a0)
namespace Sf69
open Go.RowKit Go.Sort
theorem orW (ds:List Int) (n:Nat) (hn:ds.length=n) (hn2:n≤16) (b:Nat) (W:World) (r:Int) (hr:∀k,k<n→(∀j,j<k→ds.getD j 0=0)→ds.getD k 0≠0→r=ds.getD k 0) (hz:(∀j,j<n→ds.getD j 0=0)→r=0)
  (hc:∀i,i<n→W.cell? ⟨b,i,none⟩=some (.int .i64 (ds.getD i 0))):Calls prog 70 #[.slice (some ⟨b,0,none⟩) n n] W fun e w'=>e=.returned (.int .i64 r)∧w'=W:=by
 go_enter func70,ntmps70
 go_wp2
 go_loopw [8] (fun i wr=>∃(k:Nat),k≤n∧i=.int .i64 k∧wr=W∧∀j,j<k→ds.getD j 0=0)
  (fun i _=>n-(intOf i).toNat)
 case atStart=>
  exact⟨0,Nat.zero_le _,rfl,rfl,fun j hj=>by omega⟩
 case round=>
  obtain⟨k,hk,rfl,rfl,hs⟩:=hrel
  by_cases hlt:k<n
  ·have g2:=hc k hlt
   have hd:decide (k<n)=true:=decide_eq_true hlt
   have hr1:=hr k hlt hs
   generalize hx:ds.getD k 0=x at g2 hr1
   clear hc hz hr
   go_wp2
   ·go_ret
    rename_i hne
    refine⟨?_,rfl⟩
    first|trivial|rw[hr1 (by simpa using hne)]
    try rfl
   ·go_roundw
    case rel=>
     rename_i hne
     refine⟨k+1,by omega,by go_num,by first|trivial|rfl,fun j hj=>?_⟩
     rcases Nat.lt_or_ge j k with h|h
     ·exact hs j h
     ·have:j=k:=by omega
      subst this
      rw[hx];simpa using hne
    case measure=>simp[intOf];omega
  ·have hkn:k=n:=by omega
   have hd:decide (k<n)=false:=decide_eq_false hlt
   have:=hz fun j hj=>hs j (by omega)
   subst this
   go_wp2
   go_ret
   exact⟨by first|trivial|rfl,rfl⟩
theorem Qza {w:World} {d0 d1 d2:Int} {t:TypeId} {b:Nat} (hb:b=w.heap.size):∀i,i<3→(w.alloc (.cells #[.int .i64 d0,.int .i64 d1,.int .i64 d2] t)).cell? ⟨b,i,none⟩=some (.int .i64 ([d0,d1,d2].getD i 0)):=fun i hi=>by
 subst hb
 have e:(w.alloc (.cells #[.int .i64 d0,.int .i64 d1,.int .i64 d2] t)).heap[w.heap.size]? =some (.cells #[.int .i64 d0,.int .i64 d1,.int .i64 d2] t):=by
  show(w.heap.push _)[w.heap.size]? =_
  rw[Array.getElem?_push_size]
 unfold World.cell?
 rw[e]
 rcases i with _|_|_|i
 ·rfl
 ·rfl
 ·rfl
 ·omega
theorem Qzb (d0 d1 d2:Int) (b:Nat) (w:World) (hc:∀i,i<3→w.cell? ⟨b,i,none⟩=some (.int .i64 ([d0,d1,d2].getD i 0))):Calls prog 70 #[.slice (some ⟨b,0,none⟩) 3 3] w fun e w'=>e=.returned (.int .i64 (orI [d0,d1,d2]))∧w'=w:=
 orW [d0,d1,d2] 3 rfl (by omega) b w _ (fun k hk hz hne=>by
  rcases k with _|_|_|k
  ·have hne:d0≠0:=hne
   simp only[orI];rw[if_neg hne];rfl
  ·have h0:d0=0:=hz 0 (by omega)
   have hne:d1≠0:=hne
   simp only[orI];rw[if_pos h0,if_neg hne];rfl
  ·have h0:d0=0:=hz 0 (by omega)
   have h1:d1=0:=hz 1 (by omega)
   have hne:d2≠0:=hne
   simp only[orI];rw[if_pos h0,if_pos h1,if_neg hne];rfl
  ·omega) (fun hz=>by
   have h0:d0=0:=hz 0 (by omega)
   have h1:d1=0:=hz 1 (by omega)
   have h2:d2=0:=hz 2 (by omega)
   simp only[orI];rw[if_pos h0,if_pos h1,if_pos h2]) hc
theorem walk (a0 a1 a2 b0 b1 b2:Int) (ha:-1000000≤a0∧a0≤1000000) (hb:-1000000≤b0∧b0≤1000000) (ha1:-1000000≤a1∧a1≤1000000) (hb1:-1000000≤b1∧b1≤1000000) (ha2:-1000000≤a2∧a2≤1000000) (hb2:-1000000≤b2∧b2≤1000000) (W:World):Calls prog 69 #[.agg #[.int .i64 a0,.int .i64 a1,.int .i64 a2],.agg #[.int .i64 b0,.int .i64 b1,.int .i64 b2]] W fun e w'=>e=.returned (.int .i64 (orI (QhR [a0,a1,a2] [b0,b1,b2])))∧∃q os',w'=grow (W.drewN q) os':=by
 have hw:IntKind.i64.wrap (a0-b0)=a0-b0:=Qs (by omega) (by omega)
 have hw1:IntKind.i64.wrap (a1-b1)=a1-b1:=Qs (by omega) (by omega)
 have hw2:IntKind.i64.wrap (a2-b2)=a2-b2:=Qs (by omega) (by omega)
 have hcall:=Qzb (a0-b0) (a1-b1) (a2-b2)
 simp only[QhR]
 generalize orI [a0-b0,a1-b1,a2-b2]=r at hcall⊢
 go_enter func69,ntmps69
 go_wp2_with (go_at_call 70;refine(hcall _ _ (Qza (by simp only[World.alloc,Array.size_push]))).mono ?_;rintro e w' ⟨rfl,rfl⟩)
 go_ret
 exact⟨rfl,0,_,by rw[alloc_eq_grow,alloc_eq_grow,alloc_eq_grow,grow_grow,grow_grow];rfl⟩
end Sf69
theorem Qae {a0:(List QzW)} {r:(List QzW)} (h:QI a0=some r):EffC prog 68 [.osl 9000 0 a0.length,.fn 69 []] [(9000,.arr 70 3 a0.length (rows QzW.enc a0))] (.tup []) [(9000,.arr 70 3 a0.length (rows QzW.enc r))]:=by
 unfold QI at h
 obtain⟨g0,h⟩:=Qh h
 obtain⟨g1,h⟩:=Qh h
 obtain⟨g2,h⟩:=Qh h
 obtain rfl:=sj_ h
 exact Qgw (t:=70) (k:=3) (q:=3) (xs:=a0) (row:=QzW.enc) (ρ:=Lay.srfV_ren) (fs:=fun x=>[x.Addr,x.Len,x.Next]) (ks:=fun x=>[x.Addr,x.Len,x.Next]) Lay.srfV rfl isAgg70 sizeOf70 (fun _=>rfl) (fun _=>rfl) (fun _=>rfl) (Qed (fn:=f68) (c:=Ql f68) rfl rfl (by kernel_rfl)) (enters_of func69 (by kernel_rfl) rfl) g2 g0 (fun x hx y hy W=>Sf69.walk x.Addr x.Len x.Next y.Addr y.Len y.Next (g1 x hx).1 (g1 y hy).1 (g1 x hx).2.1 (g1 y hy).2.1 (g1 x hx).2.2 (g1 y hy).2.2 W)
def QbD (a0:(List Bt)):Option ((List QzW)):=
 bd (QY a0 (⟨#[114,111,117,116,101]⟩:Bt)) fun x1=>
 bd (lp (σ:=List QzW×Int) (β:=(Nat×(List QzW))) (fun s2=>
(if(decide (s2.2<((x1.length:Nat):Int)))=true then
 gd ((0:Int)≤s2.2∧s2.2<((x1.length:Nat):Int))<|
 gd ((0:Int)≤1∧1<(((x1.getD s2.2.toNat default).length:Nat):Int))<|
 bd (Z8 ((x1.getD s2.2.toNat default).getD 1 default)) fun x8=>
 gd ((0:Int)≤2∧2<(((x1.getD s2.2.toNat default).length:Nat):Int))<|
 bd (Zs ((x1.getD s2.2.toNat default).getD 2 default)) fun x10=>
 gd (((s2.1.length)+(([(⟨x8.Addr,x8.Len,x10⟩:QzW)]:List QzW).length))*(24+1)≤70368744177664)<|
 some (.inl ((s2.1++([(⟨x8.Addr,x8.Len,x10⟩:QzW)]:List QzW)),IntKind.i64.wrap (s2.2+1)))
else
 some (.inr (s2.1.length,s2.1)))) (([]:List QzW),0)) fun x5=>
 bd (QI x5.2) fun x13=>
 gd (x13.length=x5.1)<|
 some x13
theorem Qkz {a0:(List Bt)} {r:(List QzW)} (h:QbD a0=some r):PureC prog 15 [.d (slD Qi a0)] (.osl 5001 0 r.length) [⟨5001,70,3,r.length,rows QzW.enc r⟩]:=by
 refine Qj tOk (fn:=f15) (c:=Ql f15) rfl rfl ?_;unfold QbD at h;(conv=>whnf);refine Qd tOk ?_;(conv=>whnf);obtain⟨x1,hx1,h⟩:=Qa h;refine cE [] 1000 (Qai hx1) ?_;(conv=>whnf);obtain⟨x5,hx5,h⟩:=Qa h;refine QD tOk hx5 (fun s2=>⟨0,35,[(3,.osl 7001 0 s2.1.length),(9,.osl 6001 0 x1.length),(10,dI ((x1.length:Nat):Int)),(11,dI s2.2)],[],[(7001,.arr 70 3 s2.1.length (rows QzW.enc s2.1)),(6001,.arr 23 1 x1.length (rows (QbZ Qi) x1))],[]⟩) ?_ ?_
 ·exact leX [.p 7001 70 3 (rows QzW.enc ([]:List QzW))]
 ·clear hx5;intro s2 y3 g4 hy3;(conv=>whnf);refine Qd tOk ?_;(conv=>whnf);refine QC g4 (fun _ g4=>?_) (fun _ g4=>?_)
  ·(conv=>whnf);refine Qd tOk ?_;(conv=>whnf);refine gdI g4 (fun g4=>?_);(conv=>whnf);refine gdI g4 (fun g4=>?_);(conv=>whnf);obtain⟨x8,hx8,g4⟩:=Qa g4;refine cC 0 (QbC hx8) ?_;clear hx8;(conv=>whnf);obtain⟨g9,g4⟩:=Qh g4;obtain⟨x10,hx10,g4⟩:=Qa g4;refine Zq tOk [.u 8 0 (dI x10) []] 11 [] [0,0,2,0,8,0,32,96,224,510,1022] [2047,4095] ?_;(conv=>whnf);refine And.intro g9 ?_;clear g9;(conv=>whnf);refine And.intro (Qo (Jq hx10) (by kernel_rfl)) ?_;(conv=>whnf);refine J1 (enc:=QzW.enc) ([(⟨x8.Addr,x8.Len,x10⟩:QzW)]:List QzW) ?_;(conv=>whnf);refine And.intro (by kernel_rfl) ?_;(conv=>whnf);refine gdI g4 (fun g4=>?_);refine QfZ (enc:=QzW.enc) (xs:=s2.1) (ys:=([(⟨x8.Addr,x8.Len,x10⟩:QzW)]:List QzW)) ?_;(conv=>whnf);obtain rfl:=sj_ g4;exact⟨_,rfl,leX []⟩
  ·(conv=>whnf);obtain rfl:=sj_ g4;obtain rfl:=hy3 _ rfl;obtain⟨x13,hx13,h⟩:=Qa h;obtain⟨g14,h⟩:=Qh h;refine cE [(9000,7001)] 0 (Qae hx13) ?_;(conv=>whnf);obtain rfl:=sj_ h;exact lfP [.s [(5001,7001),(7001,5001)]]
def QF (a0:(List QzX)):Option ((List QzX)):=
 gd (a0.length<4611686018427387904)<|
 gd (∀x∈a0,(-1000000≤x.Addr∧x.Addr≤1000000))<|
 gd (∀x∈a0,∀y∈a0,[x.Addr]=[y.Addr]→x=y)<|
 some (sortS (fun x y=>kLt [x.Addr] [y.Addr]) a0)
namespace Sf72
open Go.RowKit Go.Sort
theorem walk (a0 a1 a2 b0 b1 b2:Int) (ha:-1000000≤a0∧a0≤1000000) (hb:-1000000≤b0∧b0≤1000000) (W:World):Calls prog 72 #[.agg #[.int .i64 a0,.int .i64 a1,.int .i64 a2],.agg #[.int .i64 b0,.int .i64 b1,.int .i64 b2]] W fun e w'=>e=.returned (.int .i64 (orI (QhR [a0] [b0])))∧∃q os',w'=grow (W.drewN q) os':=by
 have hw:IntKind.i64.wrap (a0-b0)=a0-b0:=Qs (by omega) (by omega)
 have ho:orI (QhR [a0] [b0])=a0-b0:=by simp only[QhR,orI];split<;>omega
 rw[ho]
 clear ho
 go_enter func72,ntmps72
 go_wp2
 go_ret
 exact⟨rfl,0,_,by rw[alloc_eq_grow,alloc_eq_grow,grow_grow];rfl⟩
end Sf72
theorem JY {a0:(List QzX)} {r:(List QzX)} (h:QF a0=some r):EffC prog 71 [.osl 9000 0 a0.length,.fn 72 []] [(9000,.arr 73 3 a0.length (rows QzX.enc a0))] (.tup []) [(9000,.arr 73 3 a0.length (rows QzX.enc r))]:=by
 unfold QF at h
 obtain⟨g0,h⟩:=Qh h
 obtain⟨g1,h⟩:=Qh h
 obtain⟨g2,h⟩:=Qh h
 obtain rfl:=sj_ h
 exact Qgw (t:=73) (k:=3) (q:=1) (xs:=a0) (row:=QzX.enc) (ρ:=Lay.srfP_ren) (fs:=fun x=>[x.Addr,x.Key,x.Secret]) (ks:=fun x=>[x.Addr]) Lay.srfP rfl isAgg73 sizeOf73 (fun _=>rfl) (fun _=>rfl) (fun _=>rfl) (Qed (fn:=f71) (c:=Ql f71) rfl rfl (by kernel_rfl)) (enters_of func72 (by kernel_rfl) rfl) g2 g0 (fun x hx y hy W=>Sf72.walk x.Addr x.Key x.Secret y.Addr y.Key y.Secret (g1 x hx) (g1 y hy) W)
def Qa5 (a0:(List Bt)):Option ((List QzX)):=
 bd (QY a0 (⟨#[112,101,101,114]⟩:Bt)) fun x1=>
 bd (lp (σ:=List QzX×Int) (β:=(Nat×(List QzX))) (fun s2=>
(if(decide (s2.2<((x1.length:Nat):Int)))=true then
 gd ((0:Int)≤s2.2∧s2.2<((x1.length:Nat):Int))<|
 gd ((0:Int)≤1∧1<(((x1.getD s2.2.toNat default).length:Nat):Int))<|
 bd (Zs ((x1.getD s2.2.toNat default).getD 1 default)) fun x8=>
 gd ((0:Int)≤2∧2<(((x1.getD s2.2.toNat default).length:Nat):Int))<|
 bd (Q5 ((x1.getD s2.2.toNat default).getD 2 default)) fun x10=>
 gd ((0:Int)≤3∧3<(((x1.getD s2.2.toNat default).length:Nat):Int))<|
 bd (Q5 ((x1.getD s2.2.toNat default).getD 3 default)) fun x12=>
 gd (((s2.1.length)+(([(⟨x8,x10,x12⟩:QzX)]:List QzX).length))*(24+1)≤70368744177664)<|
 some (.inl ((s2.1++([(⟨x8,x10,x12⟩:QzX)]:List QzX)),IntKind.i64.wrap (s2.2+1)))
else
 some (.inr (s2.1.length,s2.1)))) (([]:List QzX),0)) fun x5=>
 bd (QF x5.2) fun x15=>
 gd (x15.length=x5.1)<|
 some x15
theorem QjL {a0:(List Bt)} {r:(List QzX)} (h:Qa5 a0=some r):PureC prog 16 [.d (slD Qi a0)] (.osl 5001 0 r.length) [⟨5001,73,3,r.length,rows QzX.enc r⟩]:=by
 refine Qj tOk (fn:=f16) (c:=Ql f16) rfl rfl ?_;unfold Qa5 at h;(conv=>whnf);refine Qd tOk ?_;(conv=>whnf);obtain⟨x1,hx1,h⟩:=Qa h;refine cE [] 1000 (Qai hx1) ?_;(conv=>whnf);obtain⟨x5,hx5,h⟩:=Qa h;refine QD tOk hx5 (fun s2=>⟨0,34,[(3,.osl 7001 0 s2.1.length),(8,.osl 6001 0 x1.length),(9,dI ((x1.length:Nat):Int)),(10,dI s2.2)],[],[(7001,.arr 73 3 s2.1.length (rows QzX.enc s2.1)),(6001,.arr 23 1 x1.length (rows (QbZ Qi) x1))],[]⟩) ?_ ?_
 ·exact leX [.p 7001 73 3 (rows QzX.enc ([]:List QzX))]
 ·clear hx5;intro s2 y3 g4 hy3;(conv=>whnf);refine Qd tOk ?_;(conv=>whnf);refine QC g4 (fun _ g4=>?_) (fun _ g4=>?_)
  ·(conv=>whnf);refine Qd tOk ?_;(conv=>whnf);refine gdI g4 (fun g4=>?_);(conv=>whnf);obtain⟨g7,g4⟩:=Qh g4;obtain⟨x8,hx8,g4⟩:=Qa g4;obtain⟨g9,g4⟩:=Qh g4;obtain⟨x10,hx10,g4⟩:=Qa g4;obtain⟨g11,g4⟩:=Qh g4;obtain⟨x12,hx12,g4⟩:=Qa g4;refine Zq tOk [.u 4 0 (dI x8) [],.u 8 0 (dI x10) [],.u 12 0 (dI x12) []] 15 [] [0,0,2,6,14,0,32,96,254,0,512,1536,4094,8190,16382] [32767,65535] ?_;(conv=>whnf);refine And.intro g7 ?_;clear g7;(conv=>whnf);refine And.intro (Qo (Jq hx8) (by kernel_rfl)) ?_;(conv=>whnf);refine And.intro g9 ?_;clear g9;(conv=>whnf);refine And.intro (Qo (ZL hx10) (by kernel_rfl)) ?_;(conv=>whnf);refine And.intro g11 ?_;clear g11;(conv=>whnf);refine And.intro (Qo (ZL hx12) (by kernel_rfl)) ?_;(conv=>whnf);refine J1 (enc:=QzX.enc) ([(⟨x8,x10,x12⟩:QzX)]:List QzX) ?_;(conv=>whnf);refine And.intro (by kernel_rfl) ?_;(conv=>whnf);refine gdI g4 (fun g4=>?_);refine QfZ (enc:=QzX.enc) (xs:=s2.1) (ys:=([(⟨x8,x10,x12⟩:QzX)]:List QzX)) ?_;(conv=>whnf);obtain rfl:=sj_ g4;exact⟨_,rfl,leX []⟩
  ·(conv=>whnf);obtain rfl:=sj_ g4;obtain rfl:=hy3 _ rfl;obtain⟨x15,hx15,h⟩:=Qa h;obtain⟨g16,h⟩:=Qh h;refine cE [(9000,7001)] 0 (JY hx15) ?_;(conv=>whnf);obtain rfl:=sj_ h;exact lfP [.s [(5001,7001),(7001,5001)]]
def QK (a0:(List QzY)):Option ((List QzY)):=
 gd (a0.length<4611686018427387904)<|
 gd (∀x∈a0,(-1000000≤x.Kind∧x.Kind≤1000000)∧(-1000000≤x.Outer∧x.Outer≤1000000))<|
 gd (∀x∈a0,∀y∈a0,[x.Kind,x.Outer]=[y.Kind,y.Outer]→x=y)<|
 some (sortS (fun x y=>kLt [x.Kind,x.Outer] [y.Kind,y.Outer]) a0)
namespace Sf74
open Go.RowKit Go.Sort
theorem orW (ds:List Int) (n:Nat) (hn:ds.length=n) (hn2:n≤16) (b:Nat) (W:World) (r:Int) (hr:∀k,k<n→(∀j,j<k→ds.getD j 0=0)→ds.getD k 0≠0→r=ds.getD k 0) (hz:(∀j,j<n→ds.getD j 0=0)→r=0)
  (hc:∀i,i<n→W.cell? ⟨b,i,none⟩=some (.int .i64 (ds.getD i 0))):Calls prog 70 #[.slice (some ⟨b,0,none⟩) n n] W fun e w'=>e=.returned (.int .i64 r)∧w'=W:=by
 go_enter func70,ntmps70
 go_wp2
 go_loopw [8] (fun i wr=>∃(k:Nat),k≤n∧i=.int .i64 k∧wr=W∧∀j,j<k→ds.getD j 0=0)
  (fun i _=>n-(intOf i).toNat)
 case atStart=>
  exact⟨0,Nat.zero_le _,rfl,rfl,fun j hj=>by omega⟩
 case round=>
  obtain⟨k,hk,rfl,rfl,hs⟩:=hrel
  by_cases hlt:k<n
  ·have g2:=hc k hlt
   have hd:decide (k<n)=true:=decide_eq_true hlt
   have hr1:=hr k hlt hs
   generalize hx:ds.getD k 0=x at g2 hr1
   clear hc hz hr
   go_wp2
   ·go_ret
    rename_i hne
    refine⟨?_,rfl⟩
    first|trivial|rw[hr1 (by simpa using hne)]
    try rfl
   ·go_roundw
    case rel=>
     rename_i hne
     refine⟨k+1,by omega,by go_num,by first|trivial|rfl,fun j hj=>?_⟩
     rcases Nat.lt_or_ge j k with h|h
     ·exact hs j h
     ·have:j=k:=by omega
      subst this
      rw[hx];simpa using hne
    case measure=>simp[intOf];omega
  ·have hkn:k=n:=by omega
   have hd:decide (k<n)=false:=decide_eq_false hlt
   have:=hz fun j hj=>hs j (by omega)
   subst this
   go_wp2
   go_ret
   exact⟨by first|trivial|rfl,rfl⟩
theorem Qzc {w:World} {d0 d1:Int} {t:TypeId} {b:Nat} (hb:b=w.heap.size):∀i,i<2→(w.alloc (.cells #[.int .i64 d0,.int .i64 d1] t)).cell? ⟨b,i,none⟩=some (.int .i64 ([d0,d1].getD i 0)):=fun i hi=>by
 subst hb
 have e:(w.alloc (.cells #[.int .i64 d0,.int .i64 d1] t)).heap[w.heap.size]? =some (.cells #[.int .i64 d0,.int .i64 d1] t):=by
  show(w.heap.push _)[w.heap.size]? =_
  rw[Array.getElem?_push_size]
 unfold World.cell?
 rw[e]
 rcases i with _|_|i
 ·rfl
 ·rfl
 ·omega
theorem Qzd (d0 d1:Int) (b:Nat) (w:World) (hc:∀i,i<2→w.cell? ⟨b,i,none⟩=some (.int .i64 ([d0,d1].getD i 0))):Calls prog 70 #[.slice (some ⟨b,0,none⟩) 2 2] w fun e w'=>e=.returned (.int .i64 (orI [d0,d1]))∧w'=w:=
 orW [d0,d1] 2 rfl (by omega) b w _ (fun k hk hz hne=>by
  rcases k with _|_|k
  ·have hne:d0≠0:=hne
   simp only[orI];rw[if_neg hne];rfl
  ·have h0:d0=0:=hz 0 (by omega)
   have hne:d1≠0:=hne
   simp only[orI];rw[if_pos h0,if_neg hne];rfl
  ·omega) (fun hz=>by
   have h0:d0=0:=hz 0 (by omega)
   have h1:d1=0:=hz 1 (by omega)
   simp only[orI];rw[if_pos h0,if_pos h1]) hc
theorem walk (a0 a1 a2 a3 b0 b1 b2 b3:Int) (ha:-1000000≤a0∧a0≤1000000) (hb:-1000000≤b0∧b0≤1000000) (ha1:-1000000≤a1∧a1≤1000000) (hb1:-1000000≤b1∧b1≤1000000) (W:World):Calls prog 74 #[.agg #[.int .i64 a0,.int .i64 a1,.int .i64 a2,.int .i64 a3],.agg #[.int .i64 b0,.int .i64 b1,.int .i64 b2,.int .i64 b3]] W fun e w'=>e=.returned (.int .i64 (orI (QhR [a0,a1] [b0,b1])))∧∃q os',w'=grow (W.drewN q) os':=by
 have hw:IntKind.i64.wrap (a0-b0)=a0-b0:=Qs (by omega) (by omega)
 have hw1:IntKind.i64.wrap (a1-b1)=a1-b1:=Qs (by omega) (by omega)
 have hcall:=Qzd (a0-b0) (a1-b1)
 simp only[QhR]
 generalize orI [a0-b0,a1-b1]=r at hcall⊢
 go_enter func74,ntmps74
 go_wp2_with (go_at_call 70;refine(hcall _ _ (Qzc (by simp only[World.alloc,Array.size_push]))).mono ?_;rintro e w' ⟨rfl,rfl⟩)
 go_ret
 exact⟨rfl,0,_,by rw[alloc_eq_grow,alloc_eq_grow,alloc_eq_grow,grow_grow,grow_grow];rfl⟩
end Sf74
theorem Qaq {a0:(List QzY)} {r:(List QzY)} (h:QK a0=some r):EffC prog 73 [.osl 9000 0 a0.length,.fn 74 []] [(9000,.arr 116 4 a0.length (rows QzY.enc a0))] (.tup []) [(9000,.arr 116 4 a0.length (rows QzY.enc r))]:=by
 unfold QK at h
 obtain⟨g0,h⟩:=Qh h
 obtain⟨g1,h⟩:=Qh h
 obtain⟨g2,h⟩:=Qh h
 obtain rfl:=sj_ h
 exact Qgw (t:=116) (k:=4) (q:=2) (xs:=a0) (row:=QzY.enc) (ρ:=Lay.srfN_ren) (fs:=fun x=>[x.Kind,x.Outer,x.Inner,x.InnerPort]) (ks:=fun x=>[x.Kind,x.Outer]) Lay.srfN rfl isAgg116 sizeOf116 (fun _=>rfl) (fun _=>rfl) (fun _=>rfl) (Qed (fn:=f73) (c:=Ql f73) rfl rfl (by kernel_rfl)) (enters_of func74 (by kernel_rfl) rfl) g2 g0 (fun x hx y hy W=>Sf74.walk x.Kind x.Outer x.Inner x.InnerPort y.Kind y.Outer y.Inner y.InnerPort (g1 x hx).1 (g1 y hy).1 (g1 x hx).2 (g1 y hy).2 W)
def Qcl (a0:(List Bt)):Option (Qz0×Bool):=
 bd (QY a0 (⟨#[110,97,116]⟩:Bt)) fun x1=>
(if(((x1.length:Nat):Int)==0)=true then
 some ((⟨0,0,0,0,0,[],0,[]⟩:Qz0),false)
else
 gd ((0:Int)≤0∧0<((x1.length:Nat):Int))<|
 gd ((0:Int)≤1∧1<(((x1.getD 0 default).length:Nat):Int))<|
 bd (Z8 ((x1.getD 0 default).getD 1 default)) fun x4=>
 gd ((0:Int)≤2∧2<(((x1.getD 0 default).length:Nat):Int))<|
 bd (Zs ((x1.getD 0 default).getD 2 default)) fun x6=>
 gd ((0:Int)≤3∧3<(((x1.getD 0 default).length:Nat):Int))<|
 bd (Q5 ((x1.getD 0 default).getD 3 default)) fun x8=>
 gd ((0:Int)≤4∧4<(((x1.getD 0 default).length:Nat):Int))<|
 bd (Q5 ((x1.getD 0 default).getD 4 default)) fun x10=>
 bd (QY a0 (⟨#[100,111,111,114]⟩:Bt)) fun x11=>
 bd (lp (σ:=List QzY×Int) (β:=((List QzY)×Nat)) (fun s12=>
(if(decide (s12.2<((x11.length:Nat):Int)))=true then
 gd ((0:Int)≤s12.2∧s12.2<((x11.length:Nat):Int))<|
 gd ((0:Int)≤1∧1<(((x11.getD s12.2.toNat default).length:Nat):Int))<|
 bd (Q5 ((x11.getD s12.2.toNat default).getD 1 default)) fun x18=>
 gd ((0:Int)≤2∧2<(((x11.getD s12.2.toNat default).length:Nat):Int))<|
 bd (Q5 ((x11.getD s12.2.toNat default).getD 2 default)) fun x20=>
 gd ((0:Int)≤3∧3<(((x11.getD s12.2.toNat default).length:Nat):Int))<|
 bd (Zs ((x11.getD s12.2.toNat default).getD 3 default)) fun x22=>
 gd ((0:Int)≤4∧4<(((x11.getD s12.2.toNat default).length:Nat):Int))<|
 bd (Q5 ((x11.getD s12.2.toNat default).getD 4 default)) fun x24=>
 gd (((s12.1.length)+(([(⟨x18,x20,x22,x24⟩:QzY)]:List QzY).length))*(32+1)≤70368744177664)<|
 some (.inl ((s12.1++([(⟨x18,x20,x22,x24⟩:QzY)]:List QzY)),IntKind.i64.wrap (s12.2+1)))
else
 some (.inr (s12.1,s12.1.length)))) (([]:List QzY),0)) fun x15=>
 bd (QK x15.1) fun x27=>
 gd (x27.length=x15.2)<|
 some ((⟨x4.Addr,x4.Len,x6,x8,x10,x27,0,[]⟩:Qz0),true))
theorem QlO {a0:(List Bt)} {r:Qz0×Bool} (h:Qcl a0=some r):PureC prog 17 [.d (slD Qi a0)] (.tup [.agg [dI r.1.Addr,dI r.1.Len,dI r.1.Own,dI r.1.Low,dI r.1.High,.osl 5001 0 r.1.Doors.length,dI r.1.Now,.osl 5002 0 r.1.Entries.length],dB r.2]) [⟨5001,116,4,r.1.Doors.length,rows QzY.enc r.1.Doors⟩,⟨5002,120,7,r.1.Entries.length,rows QzZ.enc r.1.Entries⟩]:=by
 refine Qj tOk (fn:=f17) (c:=Ql f17) rfl rfl ?_;unfold Qcl at h;(conv=>whnf);obtain⟨x1,hx1,h⟩:=Qa h;refine cE [] 1000 (Qai hx1) ?_;(conv=>whnf);refine Qd tOk ?_;(conv=>whnf);refine QC h (fun _ h=>?_) (fun _ h=>?_)
 ·(conv=>whnf);obtain rfl:=sj_ h;exact lfP [.k [6001],.p 5001 116 4 (rows QzY.enc ([]:List QzY)),.p 5002 120 7 (rows QzZ.enc ([]:List QzZ))]
 ·(conv=>whnf);refine gdI h (fun h=>?_);(conv=>whnf);refine gdI h (fun h=>?_);(conv=>whnf);obtain⟨x4,hx4,h⟩:=Qa h;refine cC 0 (QbC hx4) ?_;clear hx4;(conv=>whnf);obtain⟨g5,h⟩:=Qh h;obtain⟨x6,hx6,h⟩:=Qa h;obtain⟨g7,h⟩:=Qh h;obtain⟨x8,hx8,h⟩:=Qa h;obtain⟨g9,h⟩:=Qh h;obtain⟨x10,hx10,h⟩:=Qa h;refine Zq tOk [.u 7 0 (dI x6) [],.u 11 0 (dI x8) [],.u 15 0 (dI x10) []] 18 [] [0,1,0,4,0,16,48,112,0,256,768,2032,0,4096,12288,32752,65535,0] [262143] ?_;(conv=>whnf);refine And.intro g5 ?_;clear g5;(conv=>whnf);refine And.intro (Qo (Jq hx6) (by kernel_rfl)) ?_;(conv=>whnf);refine And.intro g7 ?_;clear g7;(conv=>whnf);refine And.intro (Qo (ZL hx8) (by kernel_rfl)) ?_;(conv=>whnf);refine And.intro g9 ?_;clear g9;(conv=>whnf);refine And.intro (Qo (ZL hx10) (by kernel_rfl)) ?_;(conv=>whnf);refine And.intro (by kernel_rfl) ?_;(conv=>whnf);refine Qd tOk ?_;(conv=>whnf);obtain⟨x11,hx11,h⟩:=Qa h;refine cE [] 2000 (Qai hx11) ?_;(conv=>whnf);obtain⟨x15,hx15,h⟩:=Qa h;refine QD tOk hx15 (fun s12=>⟨0,74,[(2,.ref 2 0 0),(7,.ref 7 0 0),(41,.osl 7001 0 x11.length),(42,dI ((x11.length:Nat):Int)),(43,dI s12.2)],[],[(7002,.arr 116 4 s12.1.length (rows QzY.enc s12.1)),(7001,.arr 23 1 x11.length (rows (QbZ Qi) x11)),(7,.box 56 [dI x4.Addr,dI x4.Len,dI x6,dI x8,dI x10,.osl 7002 0 s12.1.length,dI 0,.d (.nil)]),(2,.box 56 [dI 0,dI 0,dI 0,dI 0,dI 0,.d (.nil),dI 0,.d (.nil)])],[]⟩) ?_ ?_
  ·exact leX [.p 7002 116 4 (rows QzY.enc ([]:List QzY))]
  ·clear hx15;intro s12 y13 g14 hy13;(conv=>whnf);refine Qd tOk ?_;(conv=>whnf);refine QC g14 (fun _ g14=>?_) (fun _ g14=>?_)
   ·(conv=>whnf);refine Qd tOk ?_;(conv=>whnf);refine gdI g14 (fun g14=>?_);(conv=>whnf);obtain⟨g17,g14⟩:=Qh g14;obtain⟨x18,hx18,g14⟩:=Qa g14;obtain⟨g19,g14⟩:=Qh g14;obtain⟨x20,hx20,g14⟩:=Qa g14;obtain⟨g21,g14⟩:=Qh g14;obtain⟨x22,hx22,g14⟩:=Qa g14;obtain⟨g23,g14⟩:=Qh g14;obtain⟨x24,hx24,g14⟩:=Qa g14;refine Zq tOk [.u 5 0 (dI x18) [],.u 9 0 (dI x20) [],.u 13 0 (dI x22) [],.u 17 0 (dI x24) []] 20 [] [0,1,0,4,12,28,0,64,192,508,0,1024,3072,8188,0,16384,49152,131068,262140,524284] [1048575,2097151,4194303] ?_;(conv=>whnf);refine And.intro g17 ?_;clear g17;(conv=>whnf);refine And.intro (Qo (ZL hx18) (by kernel_rfl)) ?_;(conv=>whnf);refine And.intro g19 ?_;clear g19;(conv=>whnf);refine And.intro (Qo (ZL hx20) (by kernel_rfl)) ?_;(conv=>whnf);refine And.intro g21 ?_;clear g21;(conv=>whnf);refine And.intro (Qo (Jq hx22) (by kernel_rfl)) ?_;(conv=>whnf);refine And.intro g23 ?_;clear g23;(conv=>whnf);refine And.intro (Qo (ZL hx24) (by kernel_rfl)) ?_;(conv=>whnf);refine J1 (enc:=QzY.enc) ([(⟨x18,x20,x22,x24⟩:QzY)]:List QzY) ?_;(conv=>whnf);refine And.intro (by kernel_rfl) ?_;(conv=>whnf);refine gdI g14 (fun g14=>?_);refine QfZ (enc:=QzY.enc) (xs:=s12.1) (ys:=([(⟨x18,x20,x22,x24⟩:QzY)]:List QzY)) ?_;(conv=>whnf);obtain rfl:=sj_ g14;exact⟨_,rfl,leX []⟩
   ·(conv=>whnf);obtain rfl:=sj_ g14;obtain rfl:=hy13 _ rfl;obtain⟨x27,hx27,h⟩:=Qa h;obtain⟨g28,h⟩:=Qh h;refine cE [(9000,7002)] 0 (Qaq hx27) ?_;(conv=>whnf);obtain rfl:=sj_ h;exact lfP [.k [7],.s [(5001,7002),(7002,5001)],.p 5002 120 7 (rows QzZ.enc ([]:List QzZ))]
def ZC (a0:(List Bt)) (a1:Bt):Option ((List QzS)):=
 bd (Qbg a0) fun x1=>
 bd (lp (σ:=List QzS×Int) (β:=(Nat×(List QzS))) (fun s2=>
(if(decide (s2.2<((x1.length:Nat):Int)))=true then
 gd ((0:Int)≤s2.2∧s2.2<((x1.length:Nat):Int))<|
 bd (Qe (x1.getD s2.2.toNat default) 0) fun x7=>
(if(x7==a1)=true then
 gd ((0:Int)≤s2.2∧s2.2<((x1.length:Nat):Int))<|
 gd (((s2.1.length)+(([(x1.getD s2.2.toNat default)]:List QzS).length))*(24+1)≤70368744177664)<|
 some (.inl ((s2.1++([(x1.getD s2.2.toNat default)]:List QzS)),IntKind.i64.wrap (s2.2+1)))
else
 some (.inl (s2.1,IntKind.i64.wrap (s2.2+1))))
else
 some (.inr (s2.1.length,s2.1)))) (([]:List QzS),0)) fun x5=>
 some x5.2
theorem QcD {a0:(List Bt)} {a1:Bt} {r:(List QzS)} (h:ZC a0 a1=some r):EffC prog 147 [.d (slD Qi a0),.d (.str a1)] [] (.osl 5001 0 r.length) [(5001,.arr 171 1 r.length (rows QzS.enc r))]:=by
 refine QaR tOk (fn:=f147) (c:=Ql f147) rfl rfl ?_;unfold ZC at h;(conv=>whnf);obtain⟨x1,hx1,h⟩:=Qa h;refine cE [] 1000 (QgS hx1) ?_;(conv=>whnf);refine Qd tOk ?_;(conv=>whnf);obtain⟨x5,hx5,h⟩:=Qa h;refine QD tOk hx5 (fun s2=>⟨0,32,[(1,.d (.str a1)),(5,.osl 6001 0 x1.length),(6,.osl 7001 0 s2.1.length),(7,dI s2.2)],[],[(7001,.arr 171 1 s2.1.length (rows QzS.enc s2.1)),(6001,.arr 171 1 x1.length (rows QzS.enc x1))],[⟨[],[]⟩]⟩) ?_ ?_
 ·exact leX [.p 7001 171 1 (rows QzS.enc ([]:List QzS))]
 ·clear hx5;intro s2 y3 g4 hy3;(conv=>whnf);refine Qd tOk ?_;(conv=>whnf);refine QC g4 (fun _ g4=>?_) (fun _ g4=>?_)
  ·(conv=>whnf);refine Qd tOk ?_;(conv=>whnf);refine gdI g4 (fun g4=>?_);(conv=>whnf);obtain⟨x7,hx7,g4⟩:=Qa g4;refine cC 0 (Qf hx7) ?_;clear hx7;(conv=>whnf);refine QC g4 (fun _ g4=>?_) (fun _ g4=>?_)
   ·(conv=>whnf);refine gdI g4 (fun g4=>?_);(conv=>whnf);refine J1 (enc:=QzS.enc) ([(x1.getD s2.2.toNat default)]:List QzS) ?_;(conv=>whnf);refine gdI g4 (fun g4=>?_);refine QfZ (enc:=QzS.enc) (xs:=s2.1) (ys:=([(x1.getD s2.2.toNat default)]:List QzS)) ?_;(conv=>whnf);obtain rfl:=sj_ g4;exact⟨_,rfl,leX []⟩
   ·(conv=>whnf);obtain rfl:=sj_ g4;exact⟨_,rfl,leX []⟩
  ·(conv=>whnf);obtain rfl:=sj_ g4;obtain rfl:=hy3 _ rfl;obtain rfl:=sj_ h;exact lfE [.s [(5001,7001),(7001,5001)]]
def QcE (a0:Bt) (a1:Int):Option ((List Bt)):=
 bd (lp (σ:=List Bt×Int×Int) (β:=(Nat×Int×(List Bt))) (fun s1=>
(if(decide (s1.2.2<((a0.size:Nat):Int)))=true then
 gd ((0:Int)≤s1.2.2∧s1.2.2<((a0.size:Nat):Int))<|
(if((JL a0 s1.2.2.toNat)==a1)=true then
 gd ((0:Int)≤s1.2.1∧s1.2.1≤s1.2.2∧s1.2.2≤((a0.size:Nat):Int))<|
 gd (((s1.1.length)+(([(a0.extract s1.2.1.toNat s1.2.2.toNat)]:List Bt).length))*(16+1)≤70368744177664)<|
 some (.inl ((s1.1++([(a0.extract s1.2.1.toNat s1.2.2.toNat)]:List Bt)),IntKind.i64.wrap (s1.2.2+1),IntKind.i64.wrap (s1.2.2+1)))
else
 some (.inl (s1.1,s1.2.1,IntKind.i64.wrap (s1.2.2+1))))
else
 some (.inr (s1.1.length,s1.2.1,s1.1)))) (([]:List Bt),0,0)) fun x4=>
 gd ((0:Int)≤x4.2.1∧x4.2.1≤((a0.size:Nat):Int)∧((a0.size:Nat):Int)≤((a0.size:Nat):Int))<|
 gd (((x4.1)+(([(a0.extract x4.2.1.toNat ((a0.size:Nat):Int).toNat)]:List Bt).length))*(16+1)≤70368744177664)<|
 some (x4.2.2++([(a0.extract x4.2.1.toNat ((a0.size:Nat):Int).toNat)]:List Bt))
theorem Qjl {a0:Bt} {a1:Int} {r:(List Bt)} (h:QcE a0 a1=some r):PureC prog 289 [.d (.str a0),.d (.int .u8 a1)] (.osl 5001 0 r.length) [⟨5001,9,1,r.length,rows Qi r⟩]:=by
 refine Qj tOk (fn:=f289) (c:=Ql f289) rfl rfl ?_;unfold QcE at h;(conv=>whnf);refine Qd tOk ?_;(conv=>whnf);obtain⟨x4,hx4,h⟩:=Qa h;refine QD tOk hx4 (fun s1=>⟨0,35,[(0,.d (.str a0)),(1,.d (.int .u8 a1)),(5,.osl 7001 0 s1.1.length),(6,dI s1.2.1),(7,dI s1.2.2)],[],[(7001,.arr 9 1 s1.1.length (rows Qi s1.1))],[]⟩) ?_ ?_
 ·exact leX [.p 7001 9 1 (rows Qi ([]:List Bt))]
 ·clear hx4;intro s1 y2 g3 hy2;(conv=>whnf);refine Qd tOk ?_;(conv=>whnf);refine QC g3 (fun _ g3=>?_) (fun _ g3=>?_)
  ·(conv=>whnf);refine Qd tOk ?_;(conv=>whnf);refine gdI g3 (fun g3=>?_);(conv=>whnf);refine QC g3 (fun _ g3=>?_) (fun _ g3=>?_)
   ·(conv=>whnf);refine gdI g3 (fun g3=>?_);(conv=>whnf);refine J1 (enc:=Qi) ([(a0.extract s1.2.1.toNat s1.2.2.toNat)]:List Bt) ?_;(conv=>whnf);refine gdI g3 (fun g3=>?_);refine QfZ (enc:=Qi) (xs:=s1.1) (ys:=([(a0.extract s1.2.1.toNat s1.2.2.toNat)]:List Bt)) ?_;(conv=>whnf);obtain rfl:=sj_ g3;exact⟨_,rfl,leX []⟩
   ·(conv=>whnf);obtain rfl:=sj_ g3;exact⟨_,rfl,leX []⟩
  ·(conv=>whnf);obtain rfl:=sj_ g3;obtain rfl:=hy2 _ rfl;refine gdI h (fun h=>?_);(conv=>whnf);refine J1 (enc:=Qi) ([(a0.extract (s1.1.length,s1.2.1,s1.1).2.1.toNat ((a0.size:Nat):Int).toNat)]:List Bt) ?_;(conv=>whnf);refine gdI h (fun h=>?_);refine QfZ (enc:=Qi) (xs:=(s1.1.length,s1.2.1,s1.1).2.2) (ys:=([(a0.extract (s1.1.length,s1.2.1,s1.1).2.1.toNat ((a0.size:Nat):Int).toNat)]:List Bt)) ?_;(conv=>whnf);obtain rfl:=sj_ h;exact lfP [.s [(5001,7001),(7001,5001)]]
def JA (a0:Int) (a1:Int) (a2:Int):Option (Bool):=
 some ((decide (a0≥a1))&&(decide (a0≤a2)))
theorem Qee {a0:Int} {a1:Int} {a2:Int} {r:Bool} (h:JA a0 a1 a2=some r):PureC prog 345 [dI a0,dI a1,dI a2] (dB r) []:=by
 refine Qj tOk (fn:=f345) (c:=Ql f345) rfl rfl ?_;unfold JA at h;(conv=>whnf);obtain rfl:=sj_ h;exact lfP []
def QbE (a0:Bt):Option (Int):=
 bd (JA ((a0.size:Nat):Int) 1 5) fun x1=>
 gd ((decide (((a0.size:Nat):Int)>1))=true→((!x1)=false→((0:Int)≤(0:Int)∧(0:Int)<((a0.size:Nat):Int))))<|
(if((!x1)||((decide (((a0.size:Nat):Int)>1))&&((JL a0 0)==48)))=true then
 some (-1)
else
 bd (lp (σ:=Int×Int) (β:=(Unit⊕Int)) (fun s3=>
(if(decide (s3.2<((a0.size:Nat):Int)))=true then
 gd ((0:Int)≤s3.2∧s3.2<((a0.size:Nat):Int))<|
 gd ((decide ((JL a0 s3.2.toNat)<48))=false→((0:Int)≤s3.2∧s3.2<((a0.size:Nat):Int)))<|
(if((decide ((JL a0 s3.2.toNat)<48))||(decide ((JL a0 s3.2.toNat)>57)))=true then
 some (.inr (.inl ()))
else
 gd ((0:Int)≤s3.2∧s3.2<((a0.size:Nat):Int))<|
 some (.inl (IntKind.i64.wrap ((IntKind.i64.wrap (s3.1*10))+(IntKind.i64.wrap (IntKind.u8.wrap ((JL a0 s3.2.toNat) -48)))),IntKind.i64.wrap (s3.2+1))))
else
 some (.inr (.inr s3.1)))) (0,0)) fun x6=>
(match x6 with
| .inl d10=>
 some (-1)
| .inr d11=>
 some d11))
theorem Qf2 {a0:Bt} {r:Int} (h:QbE a0=some r):PureC prog 291 [.d (.str a0)] (dI r) []:=by
 refine Qj tOk (fn:=f291) (c:=Ql f291) rfl rfl ?_;unfold QbE at h;(conv=>whnf);refine Qd tOk ?_;(conv=>whnf);obtain⟨x1,hx1,h⟩:=Qa h;refine cC 0 (Qee hx1) ?_;clear hx1;(conv=>whnf);refine gdI h (fun h=>?_);(conv=>whnf);refine QC h (fun _ h=>?_) (fun _ h=>?_)
 ·(conv=>whnf);obtain rfl:=sj_ h;exact lfP []
 ·(conv=>whnf);refine Qd tOk ?_;(conv=>whnf);obtain⟨x6,hx6,h⟩:=Qa h;refine QD tOk hx6 (fun s3=>⟨0,44,[(0,.d (.str a0)),(3,dI s3.1),(4,dI s3.2)],[],[],[]⟩) ?_ ?_
  ·exact leX []
  ·clear hx6;intro s3 y4 g5 hy4;(conv=>whnf);refine Qd tOk ?_;(conv=>whnf);refine QC g5 (fun _ g5=>?_) (fun _ g5=>?_)
   ·(conv=>whnf);refine Qd tOk ?_;(conv=>whnf);refine Qd tOk ?_;(conv=>whnf);refine gdI g5 (fun g5=>?_);(conv=>whnf);refine gdI g5 (fun g5=>?_);(conv=>whnf);refine QC g5 (fun _ g5=>?_) (fun _ g5=>?_)
    ·(conv=>whnf);obtain rfl:=sj_ g5;obtain rfl:=hy4 _ rfl;obtain rfl:=sj_ h;exact lfP []
    ·(conv=>whnf);refine gdI g5 (fun g5=>?_);(conv=>whnf);obtain rfl:=sj_ g5;exact⟨_,rfl,leX []⟩
   ·(conv=>whnf);obtain rfl:=sj_ g5;obtain rfl:=hy4 _ rfl;obtain rfl:=sj_ h;exact lfP []
def Qcm (a0:Bt):Option (Int):=
 bd (QcE a0 46) fun x1=>
(if(((x1.length:Nat):Int) !=2)=true then
 some (-1)
else
 gd ((0:Int)≤0∧0<((x1.length:Nat):Int))<|
 bd (QbE (x1.getD 0 default)) fun x3=>
 gd ((0:Int)≤1∧1<((x1.length:Nat):Int))<|
 bd (QbE (x1.getD 1 default)) fun x5=>
 bd (JA x3 0 255) fun x6=>
 bd (Qt ((!x6)=false) (JA x5 0 255)) fun x7=>
(if((!x6)||(!x7))=true then
 some (-1)
else
 some (IntKind.i64.wrap ((IntKind.i64.wrap (256*x3))+x5))))
theorem QlP {a0:Bt} {r:Int} (h:Qcm a0=some r):PureC prog 290 [.d (.str a0)] (dI r) []:=by
 refine Qj tOk (fn:=f290) (c:=Ql f290) rfl rfl ?_;unfold Qcm at h;(conv=>whnf);obtain⟨x1,hx1,h⟩:=Qa h;refine cC 1000 (Qjl hx1) ?_;clear hx1;(conv=>whnf);refine Qd tOk ?_;(conv=>whnf);refine QC h (fun _ h=>?_) (fun _ h=>?_)
 ·(conv=>whnf);obtain rfl:=sj_ h;exact lfP []
 ·(conv=>whnf);refine gdI h (fun h=>?_);(conv=>whnf);obtain⟨x3,hx3,h⟩:=Qa h;refine cC 0 (Qf2 hx3) ?_;clear hx3;(conv=>whnf);refine gdI h (fun h=>?_);(conv=>whnf);obtain⟨x5,hx5,h⟩:=Qa h;refine cC 0 (Qf2 hx5) ?_;clear hx5;(conv=>whnf);refine Qd tOk ?_;(conv=>whnf);obtain⟨x6,hx6,h⟩:=Qa h;refine cC 0 (Qee hx6) ?_;clear hx6;(conv=>whnf);obtain⟨x7,hx7,h⟩:=Qa h;refine cG (fun c0=>Qee (Qg hx7 c0)) ?_;(conv=>whnf);refine QC h (fun _ h=>?_) (fun _ h=>?_)
  ·(conv=>whnf);obtain rfl:=sj_ h;exact lfP []
  ·(conv=>whnf);obtain rfl:=sj_ h;exact lfP []
def QdZ (a0:Int):Option (Int):=
 bd (lp (σ:=Int×Int) (β:=(Int)) (fun s1=>
(if(decide (s1.2<16))=true then
 some (.inl (IntKind.i64.wrap (s1.1*2),IntKind.i64.wrap (s1.2+1)))
else
 some (.inr s1.1))) (1,a0)) fun x4=>
 some x4
theorem Qnh {a0:Int} {r:Int} (h:QdZ a0=some r):PureC prog 346 [dI a0] (dI r) []:=by
 refine Qj tOk (fn:=f346) (c:=Ql f346) rfl rfl ?_;unfold QdZ at h;(conv=>whnf);refine Qd tOk ?_;(conv=>whnf);obtain⟨x4,hx4,h⟩:=Qa h;refine QD tOk hx4 (fun s1=>⟨0,13,[(3,dI s1.1),(4,dI s1.2)],[],[],[]⟩) ?_ ?_
 ·exact leX []
 ·clear hx4;intro s1 y2 g3 hy2;(conv=>whnf);refine Qd tOk ?_;(conv=>whnf);refine QC g3 (fun _ g3=>?_) (fun _ g3=>?_)
  ·(conv=>whnf);refine Qd tOk ?_;(conv=>whnf);obtain rfl:=sj_ g3;exact⟨_,rfl,leX []⟩
  ·(conv=>whnf);obtain rfl:=sj_ g3;obtain rfl:=hy2 _ rfl;obtain rfl:=sj_ h;exact lfP []
def Qex (a0:QzU):Option (Bool):=
 bd (JA a0.Len 0 16) fun x1=>
 bd (Qt (x1=true) (JA a0.Addr 0 65535)) fun x2=>
 bd (Qt ((x1&&x2)=true) (QdZ a0.Len)) fun x3=>
 gd ((x1&&x2)=true→((x3:Int)≠0))<|
 some ((x1&&x2)&&(((a0.Addr:Int).tmod x3)==0))
theorem Qoz {a0:QzU} {r:Bool} (h:Qex a0=some r):PureC prog 292 [.agg [dI a0.Addr,dI a0.Len]] (dB r) []:=by
 refine Qj tOk (fn:=f292) (c:=Ql f292) rfl rfl ?_;unfold Qex at h;(conv=>whnf);obtain⟨x1,hx1,h⟩:=Qa h;obtain⟨x2,hx2,h⟩:=Qa h;obtain⟨x3,hx3,h⟩:=Qa h;obtain⟨g4,h⟩:=Qh h;refine Zq tOk [.u 2 0 (dB x1) [],.u 6 0 (dB x2) [],.u 13 0 (dI x3) []] 18 [] [0,1,3,7,15,31,63,127,255,511,1023,511,2559,6655,16383,32767,65535,131071] [] ?_;(conv=>whnf);refine And.intro (Qo (Qee hx1) (by kernel_rfl)) ?_;(conv=>whnf);refine And.intro (QV rfl rfl rfl rfl (by intro c0;exact Qee (Qg hx2 c0))) ?_;(conv=>whnf);refine And.intro (QV rfl rfl rfl rfl (by intro c0;exact Qnh (Qg hx3 c0))) ?_;(conv=>whnf);refine And.intro g4 ?_;clear g4;(conv=>whnf);refine And.intro (by kernel_rfl) ?_;(conv=>whnf);obtain rfl:=sj_ h;exact lfP []
def QbF (a0:Bt):Option (QzU×Bool):=
 bd (QcE a0 47) fun x1=>
(if(((x1.length:Nat):Int) !=2)=true then
 some ((⟨0,0⟩:QzU),false)
else
 gd ((0:Int)≤0∧0<((x1.length:Nat):Int))<|
 bd (Qcm (x1.getD 0 default)) fun x3=>
 gd ((0:Int)≤1∧1<((x1.length:Nat):Int))<|
 bd (QbE (x1.getD 1 default)) fun x5=>
 bd (Qex (⟨x3,x5⟩:QzU)) fun x6=>
(if(!x6)=true then
 some ((⟨0,0⟩:QzU),false)
else
 some ((⟨x3,x5⟩:QzU),true)))
theorem QkA {a0:Bt} {r:QzU×Bool} (h:QbF a0=some r):PureC prog 236 [.d (.str a0)] (.tup [.agg [dI r.1.Addr,dI r.1.Len],dB r.2]) []:=by
 refine Qj tOk (fn:=f236) (c:=Ql f236) rfl rfl ?_;unfold QbF at h;(conv=>whnf);obtain⟨x1,hx1,h⟩:=Qa h;refine cC 1000 (Qjl hx1) ?_;clear hx1;(conv=>whnf);refine Qd tOk ?_;(conv=>whnf);refine QC h (fun _ h=>?_) (fun _ h=>?_)
 ·(conv=>whnf);obtain rfl:=sj_ h;exact lfP []
 ·(conv=>whnf);obtain⟨g2,h⟩:=Qh h;obtain⟨x3,hx3,h⟩:=Qa h;obtain⟨g4,h⟩:=Qh h;obtain⟨x5,hx5,h⟩:=Qa h;refine Zq tOk [.u 3 0 (dI x3) [],.u 7 0 (dI x5) []] 10 [] [0,1,3,7,0,16,48,127,255,0] [1023] ?_;(conv=>whnf);refine And.intro g2 ?_;clear g2;(conv=>whnf);refine And.intro (Qo (QlP hx3) (by kernel_rfl)) ?_;(conv=>whnf);refine And.intro g4 ?_;clear g4;(conv=>whnf);refine And.intro (Qo (Qf2 hx5) (by kernel_rfl)) ?_;(conv=>whnf);refine And.intro (by kernel_rfl) ?_;(conv=>whnf);refine Qd tOk ?_;(conv=>whnf);obtain⟨x6,hx6,h⟩:=Qa h;refine cC 0 (Qoz hx6) ?_;clear hx6;(conv=>whnf);refine QC h (fun _ h=>?_) (fun _ h=>?_)
  ·(conv=>whnf);obtain rfl:=sj_ h;exact lfP []
  ·(conv=>whnf);obtain rfl:=sj_ h;exact lfP []
def ZJ (a0:Bt):Option (QzU):=
 bd (QbF a0) fun x1=>
 some x1.1
theorem Qa6 {a0:Bt} {r:QzU} (h:ZJ a0=some r):PureC prog 148 [.d (.str a0)] (.agg [dI r.Addr,dI r.Len]) []:=by
 refine Qj tOk (fn:=f148) (c:=Ql f148) rfl rfl ?_;unfold ZJ at h;(conv=>whnf);obtain⟨x1,hx1,h⟩:=Qa h;refine cC 0 (QkA hx1) ?_;clear hx1;(conv=>whnf);obtain rfl:=sj_ h;exact lfP []
def QbG (a0:(List Bt)):Option ((List QzY)):=
 bd (ZC a0 (⟨#[100,111,111,114]⟩:Bt)) fun x1=>
 bd (lp (σ:=List QzY×Int) (β:=(Nat×(List QzY))) (fun s2=>
(if(decide (s2.2<((x1.length:Nat):Int)))=true then
 gd ((0:Int)≤s2.2∧s2.2<((x1.length:Nat):Int))<|
 bd (Qe (x1.getD s2.2.toNat default) 1) fun x7=>
 bd (QR x7) fun x8=>
 gd ((0:Int)≤s2.2∧s2.2<((x1.length:Nat):Int))<|
 bd (Qe (x1.getD s2.2.toNat default) 2) fun x10=>
 bd (QR x10) fun x11=>
 gd ((0:Int)≤s2.2∧s2.2<((x1.length:Nat):Int))<|
 bd (Qe (x1.getD s2.2.toNat default) 3) fun x13=>
 bd (QZ x13) fun x14=>
 gd ((0:Int)≤s2.2∧s2.2<((x1.length:Nat):Int))<|
 bd (Qe (x1.getD s2.2.toNat default) 4) fun x16=>
 bd (QR x16) fun x17=>
 bd (lp (σ:=Int) (β:=(Int)) (fun s18=>
 gd ((decide (s18<((s2.1.length:Nat):Int)))=true→((0:Int)≤s18∧s18<((s2.1.length:Nat):Int)))<|
 gd ((decide (((s2.1.getD s18.toNat default).Kind)<x8))=false→((decide (s18<((s2.1.length:Nat):Int)))=true→((0:Int)≤s18∧s18<((s2.1.length:Nat):Int))))<|
 gd ((((s2.1.getD s18.toNat default).Kind)==x8)=true→((decide (((s2.1.getD s18.toNat default).Kind)<x8))=false→((decide (s18<((s2.1.length:Nat):Int)))=true→((0:Int)≤s18∧s18<((s2.1.length:Nat):Int)))))<|
(if((decide (s18<((s2.1.length:Nat):Int)))&&((decide (((s2.1.getD s18.toNat default).Kind)<x8))||((((s2.1.getD s18.toNat default).Kind)==x8)&&(decide (((s2.1.getD s18.toNat default).Outer)<x11)))))=true then
 some (.inl (IntKind.i64.wrap (s18+1)))
else
 some (.inr s18))) 0) fun x21=>
 gd ((0:Int)≤(0:Int)∧(0:Int)≤x21∧x21≤((s2.1.length:Nat):Int))<|
 gd (((0)+(x21.toNat))*(32+1)≤70368744177664)<|
 gd ((((s2.1.take x21.toNat).length)+(([(⟨x8,x11,x14,x17⟩:QzY)]:List QzY).length))*(32+1)≤70368744177664)<|
 gd ((0:Int)≤x21∧x21≤((s2.1.length:Nat):Int)∧((s2.1.length:Nat):Int)≤((s2.1.length:Nat):Int))<|
 gd (((((s2.1.take x21.toNat)++([(⟨x8,x11,x14,x17⟩:QzY)]:List QzY)).length)+((QdL ((s2.1.length:Nat):Int) x21)))*(32+1)≤70368744177664)<|
 some (.inl ((((s2.1.take x21.toNat)++([(⟨x8,x11,x14,x17⟩:QzY)]:List QzY))++(((s2.1).take (x21.toNat+(QdL ((s2.1.length:Nat):Int) x21))).drop x21.toNat)),IntKind.i64.wrap (s2.2+1)))
else
 some (.inr (s2.1.length,s2.1)))) (([]:List QzY),0)) fun x5=>
 some x5.2
theorem QkB {a0:(List Bt)} {r:(List QzY)} (h:QbG a0=some r):PureC prog 152 [.d (slD Qi a0)] (.osl 5001 0 r.length) [⟨5001,116,4,r.length,rows QzY.enc r⟩]:=by
 refine Qj tOk (fn:=f152) (c:=Ql f152) rfl rfl ?_;unfold QbG at h;(conv=>whnf);obtain⟨x1,hx1,h⟩:=Qa h;refine cE [] 1000 (QcD hx1) ?_;(conv=>whnf);refine Qd tOk ?_;(conv=>whnf);obtain⟨x5,hx5,h⟩:=Qa h;refine QD tOk hx5 (fun s2=>⟨0,91,[(3,.osl 6001 0 x1.length),(4,.osl 7001 0 s2.1.length),(5,dI s2.2)],[],[(7001,.arr 116 4 s2.1.length (rows QzY.enc s2.1)),(6001,.arr 171 1 x1.length (rows QzS.enc x1))],[]⟩) ?_ ?_
 ·exact leX [.p 7001 116 4 (rows QzY.enc ([]:List QzY))]
 ·clear hx5;intro s2 y3 g4 hy3;(conv=>whnf);refine Qd tOk ?_;(conv=>whnf);refine QC g4 (fun _ g4=>?_) (fun _ g4=>?_)
  ·(conv=>whnf);refine Qd tOk ?_;(conv=>whnf);obtain⟨g6,g4⟩:=Qh g4;obtain⟨x7,hx7,g4⟩:=Qa g4;obtain⟨x8,hx8,g4⟩:=Qa g4;obtain⟨g9,g4⟩:=Qh g4;obtain⟨x10,hx10,g4⟩:=Qa g4;obtain⟨x11,hx11,g4⟩:=Qa g4;obtain⟨g12,g4⟩:=Qh g4;obtain⟨x13,hx13,g4⟩:=Qa g4;obtain⟨x14,hx14,g4⟩:=Qa g4;obtain⟨g15,g4⟩:=Qh g4;obtain⟨x16,hx16,g4⟩:=Qa g4;obtain⟨x17,hx17,g4⟩:=Qa g4;refine Zq tOk [.u 4 0 (.d (.str x7)) [],.u 5 0 (dI x8) [],.u 10 0 (.d (.str x10)) [],.u 11 0 (dI x11) [],.u 16 0 (.d (.str x13)) [],.u 17 0 (dI x14) [],.u 22 0 (.d (.str x16)) [],.u 23 0 (dI x17) []] 26 [] [0,0,3,7,15,31,0,0,192,448,1023,2047,0,0,12288,28672,65535,131071,0,0,786432,1835008,4194303,8388607,16777215,0] [67108863] ?_;(conv=>whnf);refine And.intro g6 ?_;clear g6;(conv=>whnf);refine And.intro (Qo (Qf hx7) (by kernel_rfl)) ?_;(conv=>whnf);refine And.intro (Qo (Q4 hx8) (by kernel_rfl)) ?_;(conv=>whnf);refine And.intro g9 ?_;clear g9;(conv=>whnf);refine And.intro (Qo (Qf hx10) (by kernel_rfl)) ?_;(conv=>whnf);refine And.intro (Qo (Q4 hx11) (by kernel_rfl)) ?_;(conv=>whnf);refine And.intro g12 ?_;clear g12;(conv=>whnf);refine And.intro (Qo (Qf hx13) (by kernel_rfl)) ?_;(conv=>whnf);refine And.intro (Qo (Zr hx14) (by kernel_rfl)) ?_;(conv=>whnf);refine And.intro g15 ?_;clear g15;(conv=>whnf);refine And.intro (Qo (Qf hx16) (by kernel_rfl)) ?_;(conv=>whnf);refine And.intro (Qo (Q4 hx17) (by kernel_rfl)) ?_;(conv=>whnf);refine And.intro (by kernel_rfl) ?_;(conv=>whnf);refine Qd tOk ?_;(conv=>whnf);obtain⟨x21,hx21,g4⟩:=Qa g4;refine QD tOk hx21 (fun s18=>⟨0,91,[(3,.osl 6001 0 x1.length),(4,.osl 7001 0 s2.1.length),(5,dI s2.2),(6,.ref 6 0 0),(7,dI s18)],[],[(6,.box 116 [dI x8,dI x11,dI x14,dI x17]),(7001,.arr 116 4 s2.1.length (rows QzY.enc s2.1)),(6001,.arr 171 1 x1.length (rows QzS.enc x1))],[]⟩) ?_ ?_
   ·exact leX []
   ·clear hx21;intro s18 y19 g20 hy19;(conv=>whnf);refine Qd tOk ?_;(conv=>whnf);obtain⟨g22,g20⟩:=Qh g20;obtain⟨g23,g20⟩:=Qh g20;obtain⟨g24,g20⟩:=Qh g20;refine Zq tOk [] 34 [] [0,0,2,7,15,31,31,127,255,511,31,1055,4095,8191,16383,16383,65535,131071,262143,16383,540671,2097151,4194303,8388607,8388607,33554431,67108863,134217727,8388607,276824063,1073741823,2147483647,4294967295,8589934591] [] ?_;(conv=>whnf);refine And.intro g22 ?_;clear g22;(conv=>whnf);refine And.intro g23 ?_;clear g23;(conv=>whnf);refine And.intro g24 ?_;clear g24;(conv=>whnf);refine And.intro (by kernel_rfl) ?_;(conv=>whnf);refine QC g20 (fun _ g20=>?_) (fun _ g20=>?_)
    ·(conv=>whnf);obtain rfl:=sj_ g20;exact⟨_,rfl,leX []⟩
    ·(conv=>whnf);obtain rfl:=sj_ g20;obtain rfl:=hy19 _ rfl;obtain⟨g26,g4⟩:=Qh g4;obtain⟨g27,g4⟩:=Qh g4;obtain⟨g28,g4⟩:=Qh g4;obtain⟨g29,g4⟩:=Qh g4;obtain⟨g30,g4⟩:=Qh g4;refine Ql5 tOk [.a 4 [] (.osl 82 0 ((s2.1.take s18.toNat).length)) [(82,.arr 116 4 ((s2.1.take s18.toNat).length) (rows QzY.enc (s2.1.take s18.toNat)))],.a 7 [(82,.arr 116 4 ((s2.1.take s18.toNat).length) (rows QzY.enc (s2.1.take s18.toNat)))] (.osl 85 0 (((s2.1.take s18.toNat)++([(⟨x8,x11,x14,x17⟩:QzY)]:List QzY)).length)) [(85,.arr 116 4 (((s2.1.take s18.toNat)++([(⟨x8,x11,x14,x17⟩:QzY)]:List QzY)).length) (rows QzY.enc ((s2.1.take s18.toNat)++([(⟨x8,x11,x14,x17⟩:QzY)]:List QzY))))],.a 11 [(85,.arr 116 4 (((s2.1.take s18.toNat)++([(⟨x8,x11,x14,x17⟩:QzY)]:List QzY)).length) (rows QzY.enc ((s2.1.take s18.toNat)++([(⟨x8,x11,x14,x17⟩:QzY)]:List QzY))))] (.osl 89 0 ((((s2.1.take s18.toNat)++([(⟨x8,x11,x14,x17⟩:QzY)]:List QzY))++(((s2.1).take (s18.toNat+(QdL ((s2.1.length:Nat):Int) s18))).drop s18.toNat)).length)) [(89,.arr 116 4 ((((s2.1.take s18.toNat)++([(⟨x8,x11,x14,x17⟩:QzY)]:List QzY))++(((s2.1).take (s18.toNat+(QdL ((s2.1.length:Nat):Int) s18))).drop s18.toNat)).length) (rows QzY.enc (((s2.1.take s18.toNat)++([(⟨x8,x11,x14,x17⟩:QzY)]:List QzY))++(((s2.1).take (s18.toNat+(QdL ((s2.1.length:Nat):Int) s18))).drop s18.toNat))))]] 12 [] [0,0,0,6,15,0,32,127,0,0,768,2047] [4095] [] ?_;(conv=>whnf);refine And.intro g26 ?_;(conv=>whnf);refine And.intro (by(conv=>whnf);exact⟨g27,QwZ (enc:=QzY.enc) (ys:=s2.1.take s18.toNat) ⟨rfl,rfl⟩⟩) ?_;(conv=>whnf);refine J1 (enc:=QzY.enc) ([(⟨x8,x11,x14,x17⟩:QzY)]:List QzY) ?_;(conv=>whnf);refine And.intro (by(conv=>whnf);exact⟨g28,QfZ (enc:=QzY.enc) (xs:=(s2.1.take s18.toNat)) (ys:=([(⟨x8,x11,x14,x17⟩:QzY)]:List QzY)) ⟨rfl,rfl⟩⟩) ?_;(conv=>whnf);refine And.intro g29 ?_;(conv=>whnf);refine And.intro (by(conv=>whnf);exact⟨g30,QfZ (enc:=QzY.enc) (xs:=((s2.1.take s18.toNat)++([(⟨x8,x11,x14,x17⟩:QzY)]:List QzY))) (ys:=((s2.1).take (s18.toNat+(QdL ((s2.1.length:Nat):Int) s18))).drop s18.toNat) ⟨rfl,rfl⟩⟩) ?_;(conv=>whnf);refine And.intro (by kernel_rfl) ?_;(conv=>whnf);obtain rfl:=sj_ g4;exact⟨_,rfl,leX [.s [(89,7001),(7001,89)]]⟩
  ·(conv=>whnf);obtain rfl:=sj_ g4;obtain rfl:=hy3 _ rfl;obtain rfl:=sj_ h;exact lfP [.s [(5001,7001),(7001,5001)]]
def QcS (a0:(List Bt)):Option (Qz0×Bool):=
 bd (ZC a0 (⟨#[110,97,116]⟩:Bt)) fun x1=>
(if(((x1.length:Nat):Int)==0)=true then
 some ((⟨0,0,0,0,0,[],0,[]⟩:Qz0),false)
else
 gd ((0:Int)≤0∧0<((x1.length:Nat):Int))<|
 bd (Qe (x1.getD 0 default) 1) fun x3=>
 bd (ZJ x3) fun x4=>
 gd ((0:Int)≤0∧0<((x1.length:Nat):Int))<|
 bd (Qe (x1.getD 0 default) 2) fun x6=>
 bd (QZ x6) fun x7=>
 gd ((0:Int)≤0∧0<((x1.length:Nat):Int))<|
 bd (Qe (x1.getD 0 default) 3) fun x9=>
 bd (QR x9) fun x10=>
 gd ((0:Int)≤0∧0<((x1.length:Nat):Int))<|
 bd (Qe (x1.getD 0 default) 4) fun x12=>
 bd (QR x12) fun x13=>
 bd (QbG a0) fun x14=>
 some ((⟨x4.Addr,x4.Len,x7,x10,x13,x14,0,[]⟩:Qz0),true))
theorem Qni {a0:(List Bt)} {r:Qz0×Bool} (h:QcS a0=some r):PureC prog 75 [.d (slD Qi a0)] (.tup [.agg [dI r.1.Addr,dI r.1.Len,dI r.1.Own,dI r.1.Low,dI r.1.High,.osl 5001 0 r.1.Doors.length,dI r.1.Now,.osl 5002 0 r.1.Entries.length],dB r.2]) [⟨5001,116,4,r.1.Doors.length,rows QzY.enc r.1.Doors⟩,⟨5002,120,7,r.1.Entries.length,rows QzZ.enc r.1.Entries⟩]:=by
 refine Qj tOk (fn:=f75) (c:=Ql f75) rfl rfl ?_;unfold QcS at h;(conv=>whnf);obtain⟨x1,hx1,h⟩:=Qa h;refine cE [] 1000 (QcD hx1) ?_;(conv=>whnf);refine Qd tOk ?_;(conv=>whnf);refine QC h (fun _ h=>?_) (fun _ h=>?_)
 ·(conv=>whnf);obtain rfl:=sj_ h;exact lfP [.k [6001],.p 5001 116 4 (rows QzY.enc ([]:List QzY)),.p 5002 120 7 (rows QzZ.enc ([]:List QzZ))]
 ·(conv=>whnf);refine gdI h (fun h=>?_);(conv=>whnf);obtain⟨x3,hx3,h⟩:=Qa h;refine cC 0 (Qf hx3) ?_;clear hx3;(conv=>whnf);obtain⟨x4,hx4,h⟩:=Qa h;refine cC 0 (Qa6 hx4) ?_;clear hx4;(conv=>whnf);obtain⟨g5,h⟩:=Qh h;obtain⟨x6,hx6,h⟩:=Qa h;obtain⟨x7,hx7,h⟩:=Qa h;obtain⟨g8,h⟩:=Qh h;obtain⟨x9,hx9,h⟩:=Qa h;obtain⟨x10,hx10,h⟩:=Qa h;obtain⟨g11,h⟩:=Qh h;obtain⟨x12,hx12,h⟩:=Qa h;obtain⟨x13,hx13,h⟩:=Qa h;obtain⟨x14,hx14,h⟩:=Qa h;refine Zq tOk [.u 7 0 (.d (.str x6)) [],.u 8 0 (dI x7) [],.u 12 0 (.d (.str x9)) [],.u 13 0 (dI x10) [],.u 17 0 (.d (.str x12)) [],.u 18 0 (dI x13) [],.u 20 2000 (.osl 5001 0 x14.length) [⟨5001,116,4,x14.length,rows QzY.enc x14⟩]] 23 [] [0,1,0,4,0,16,48,112,240,0,512,1536,4080,8176,0,16384,49152,131056,262128,0,1048560,0,4194303] [8388607,16777215] ?_;(conv=>whnf);refine And.intro g5 ?_;clear g5;(conv=>whnf);refine And.intro (Qo (Qf hx6) (by kernel_rfl)) ?_;(conv=>whnf);refine And.intro (Qo (Zr hx7) (by kernel_rfl)) ?_;(conv=>whnf);refine And.intro g8 ?_;clear g8;(conv=>whnf);refine And.intro (Qo (Qf hx9) (by kernel_rfl)) ?_;(conv=>whnf);refine And.intro (Qo (Q4 hx10) (by kernel_rfl)) ?_;(conv=>whnf);refine And.intro g11 ?_;clear g11;(conv=>whnf);refine And.intro (Qo (Qf hx12) (by kernel_rfl)) ?_;(conv=>whnf);refine And.intro (Qo (Q4 hx13) (by kernel_rfl)) ?_;(conv=>whnf);refine And.intro (Qo (QkB hx14) (by kernel_rfl)) ?_;(conv=>whnf);refine And.intro (by kernel_rfl) ?_;(conv=>whnf);obtain rfl:=sj_ h;exact lfP [.k [5,6001],.s [(5001,7001),(7001,5001)],.p 5002 120 7 (rows QzZ.enc ([]:List QzZ))]
def Qcn (a0:(List Bt)):Option (Qz0×Bool):=
 bd (Zk a0) fun x1=>
(if(x1 !=0)=true then
 some ((⟨0,0,0,0,0,[],0,[]⟩:Qz0),false)
else
 bd (QcS a0) fun x2=>
 some (x2.1,x2.2))
theorem QlQ {a0:(List Bt)} {r:Qz0×Bool} (h:Qcn a0=some r):PureC prog 18 [.d (slD Qi a0)] (.tup [.agg [dI r.1.Addr,dI r.1.Len,dI r.1.Own,dI r.1.Low,dI r.1.High,.osl 5001 0 r.1.Doors.length,dI r.1.Now,.osl 5002 0 r.1.Entries.length],dB r.2]) [⟨5001,116,4,r.1.Doors.length,rows QzY.enc r.1.Doors⟩,⟨5002,120,7,r.1.Entries.length,rows QzZ.enc r.1.Entries⟩]:=by
 refine Qj tOk (fn:=f18) (c:=Ql f18) rfl rfl ?_;unfold Qcn at h;(conv=>whnf);refine Qd tOk ?_;(conv=>whnf);obtain⟨x1,hx1,h⟩:=Qa h;refine cC 0 (Jz hx1) ?_;clear hx1;(conv=>whnf);refine QC h (fun _ h=>?_) (fun _ h=>?_)
 ·(conv=>whnf);obtain rfl:=sj_ h;exact lfP [.p 5001 116 4 (rows QzY.enc ([]:List QzY)),.p 5002 120 7 (rows QzZ.enc ([]:List QzZ))]
 ·(conv=>whnf);obtain⟨x2,hx2,h⟩:=Qa h;refine cC 1000 (Qni hx2) ?_;clear hx2;(conv=>whnf);obtain rfl:=sj_ h;exact lfP [.s [(5001,6001),(5002,6002),(6001,5001),(6002,5002)]]
end
end Go.Proofs.YtfpbhbbdhfbilaaGreatDoor
