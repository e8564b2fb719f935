/-
  What some of the program's functions compute: their models, and that the functions compute these; no condition.
-/
import Derived.Test.YtfpbhbbdhfbilaaGreatDoorTyz
import Derived.Test.YtfpbhbbdhfbilaaGreatDoorTbz
import Derived.Test.YtfpbhbbdhfbilaaGreatDoorLayz
import Derived.Test.YtfpbhbbdhfbilaaGreatDoorLay4z
import Derived.Test.YtfpbhbbdhfbilaaGreatDoorAbz8
import Derived.BigCall
import Derived.BigGuard
import Derived.BigQuiet
import Derived.Deep.Draws
import Derived.Deep.QuietTactic
import Derived.Maps.OwnSet
import Derived.Shelf.SlSortCmp.QuietGrown
import Derived.StringKeys
import Derived.WalkKit
import Derived.Test.YtfpbhbbdhfbilaaGreatDoorKz1
set_option linter.all false
namespace Go.Proofs.YtfpbhbbdhfbilaaGreatDoor
open Go Go.Ab Tryz
set_option maxRecDepth 100000
set_option maxHeartbeats 40000000
noncomputable section
def JE (a0:(List QzS)):Option (Bool):=
 bd (QcN a0) fun x1=>
 bd (lp (σ:=Int×Int) (β:=(Unit⊕Int)) (fun s2=>
(if(decide (s2.2<((a0.length:Nat):Int)))=true then
 gd ((0:Int)≤s2.2∧s2.2<((a0.length:Nat):Int))<|
 bd (Qe (a0.getD s2.2.toNat default) 0) fun x7=>
(if(!(x7==(⟨#[100,111,111,114]⟩:Bt)))=true then
 some (.inl (s2.1,IntKind.i64.wrap (s2.2+1)))
else
 gd ((decide (x1<0))=false→((0:Int)≤x1∧x1<((a0.length:Nat):Int)))<|
 bd (Qt ((decide (x1<0))=false) (Qcg a0 s2.2 (a0.getD x1.toNat default))) fun x9=>
(if((decide (x1<0))||(!x9))=true then
 some (.inr (.inl ()))
else
 some (.inl (IntKind.i64.wrap (s2.1+1),IntKind.i64.wrap (s2.2+1)))))
else
 some (.inr (.inr s2.1)))) (0,0)) fun x5=>
(match x5 with
| .inl d10=>
 some false
| .inr d11=>
(if(decide (x1<0))=true then
 some true
else
 gd ((0:Int)≤x1∧x1<((a0.length:Nat):Int))<|
 bd (Qe (a0.getD x1.toNat default) 1) fun x13=>
 bd (Zx x13) fun x14=>
 gd ((0:Int)≤x1∧x1<((a0.length:Nat):Int))<|
 bd (Qe (a0.getD x1.toNat default) 2) fun x16=>
 bd (QZ x16) fun x17=>
 gd (((decide (d11≤6))&&((decide (x17<x14.1))||(decide (x17≥(IntKind.i64.wrap (x14.1+x14.2))))))=true→((0:Int)≤x1∧x1<((a0.length:Nat):Int)))<|
 bd (Qt (((decide (d11≤6))&&((decide (x17<x14.1))||(decide (x17≥(IntKind.i64.wrap (x14.1+x14.2))))))=true) (Qe (a0.getD x1.toNat default) 3)) fun x19=>
 bd (Qt (((decide (d11≤6))&&((decide (x17<x14.1))||(decide (x17≥(IntKind.i64.wrap (x14.1+x14.2))))))=true) (QR x19)) fun x20=>
 gd (((decide (d11≤6))&&((decide (x17<x14.1))||(decide (x17≥(IntKind.i64.wrap (x14.1+x14.2))))))=true→((0:Int)≤x1∧x1<((a0.length:Nat):Int)))<|
 bd (Qt (((decide (d11≤6))&&((decide (x17<x14.1))||(decide (x17≥(IntKind.i64.wrap (x14.1+x14.2))))))=true) (Qe (a0.getD x1.toNat default) 4)) fun x22=>
 bd (Qt (((decide (d11≤6))&&((decide (x17<x14.1))||(decide (x17≥(IntKind.i64.wrap (x14.1+x14.2))))))=true) (QR x22)) fun x23=>
 some (((decide (d11≤6))&&((decide (x17<x14.1))||(decide (x17≥(IntKind.i64.wrap (x14.1+x14.2))))))&&(decide (x20≤x23)))))
theorem QgK {a0:(List QzS)} {r:Bool} (h:JE a0=some r):PureC prog 95 [.d (slD QzS.enc a0)] (dB r) []:=by
 refine Qj tOk (fn:=f95) (c:=Ql f95) rfl rfl ?_;unfold JE at h;(conv=>whnf);obtain⟨x1,hx1,h⟩:=Qa h;refine cC 0 (Qnb hx1) ?_;clear hx1;(conv=>whnf);refine Qd tOk ?_;(conv=>whnf);obtain⟨x5,hx5,h⟩:=Qa h;refine QD tOk hx5 (fun s2=>⟨0,83,[(0,.d (slD QzS.enc a0)),(3,dI x1),(4,dI s2.1),(5,dI s2.2)],[],[],[]⟩) ?_ ?_
 ·exact leX []
 ·clear hx5;intro s2 y3 g4 hy3;(conv=>whnf);refine Qd tOk ?_;(conv=>whnf);refine QC g4 (fun _ g4=>?_) (fun _ g4=>?_)
  ·(conv=>whnf);refine Qd tOk ?_;(conv=>whnf);refine Qd tOk ?_;(conv=>whnf);refine gdI g4 (fun g4=>?_);(conv=>whnf);obtain⟨x7,hx7,g4⟩:=Qa g4;refine cC 0 (Qf hx7) ?_;clear hx7;(conv=>whnf);refine QC g4 (fun _ g4=>?_) (fun _ g4=>?_)
   ·(conv=>whnf);obtain rfl:=sj_ g4;exact⟨_,rfl,leX []⟩
   ·(conv=>whnf);refine gdI g4 (fun g4=>?_);(conv=>whnf);obtain⟨x9,hx9,g4⟩:=Qa g4;refine cG (fun c0=>QlH (Qg hx9 c0)) ?_;(conv=>whnf);refine QC g4 (fun _ g4=>?_) (fun _ g4=>?_)
    ·(conv=>whnf);obtain rfl:=sj_ g4;obtain rfl:=hy3 _ rfl;obtain rfl:=sj_ h;exact lfP []
    ·(conv=>whnf);obtain rfl:=sj_ g4;exact⟨_,rfl,leX []⟩
  ·(conv=>whnf);obtain rfl:=sj_ g4;obtain rfl:=hy3 _ rfl;refine Qd tOk ?_;(conv=>whnf);refine QC h (fun _ h=>?_) (fun _ h=>?_)
   ·(conv=>whnf);obtain rfl:=sj_ h;exact lfP []
   ·(conv=>whnf);refine gdI h (fun h=>?_);(conv=>whnf);obtain⟨x13,hx13,h⟩:=Qa h;refine cC 0 (Qf hx13) ?_;clear hx13;(conv=>whnf);obtain⟨x14,hx14,h⟩:=Qa h;refine cC 0 (Qaf hx14) ?_;clear hx14;(conv=>whnf);refine gdI h (fun h=>?_);(conv=>whnf);obtain⟨x16,hx16,h⟩:=Qa h;refine cC 0 (Qf hx16) ?_;clear hx16;(conv=>whnf);obtain⟨x17,hx17,h⟩:=Qa h;refine cC 0 (Zr hx17) ?_;clear hx17;(conv=>whnf);obtain⟨g18,h⟩:=Qh h;obtain⟨x19,hx19,h⟩:=Qa h;obtain⟨x20,hx20,h⟩:=Qa h;obtain⟨g21,h⟩:=Qh h;obtain⟨x22,hx22,h⟩:=Qa h;obtain⟨x23,hx23,h⟩:=Qa h;refine Zq tOk [.u 19 0 (.d (.str x19)) [],.u 20 0 (dI x20) [],.u 25 0 (.d (.str x22)) [],.u 26 0 (dI x23) []] 30 [] [0,1,3,7,7,31,63,127,127,127,895,2047,4095,8191,16383,32767,32767,131071,262143,524287,1048575,32767,32767,6324223,14712831,33554431,67108863,134217727,268435455,536870911] [] ?_;(conv=>whnf);refine And.intro g18 ?_;clear g18;(conv=>whnf);refine And.intro (QV rfl rfl rfl rfl (by intro c0;exact Qf (Qg hx19 c0))) ?_;(conv=>whnf);refine And.intro (QV rfl rfl rfl rfl (by intro c0;exact Q4 (Qg hx20 c0))) ?_;(conv=>whnf);refine And.intro g21 ?_;clear g21;(conv=>whnf);refine And.intro (QV rfl rfl rfl rfl (by intro c0;exact Qf (Qg hx22 c0))) ?_;(conv=>whnf);refine And.intro (QV rfl rfl rfl rfl (by intro c0;exact Q4 (Qg hx23 c0))) ?_;(conv=>whnf);refine And.intro (by kernel_rfl) ?_;(conv=>whnf);obtain rfl:=sj_ h;exact lfP []
def Zk (a0:(List Bt)):Option (Int):=
 bd (Qce a0) fun x1=>
(if(x1 !=0)=true then
 some x1
else
 bd (Qbg a0) fun x2=>
 bd (Qcf x2) fun x3=>
(if(!x3)=true then
 some 5
else
 bd (Qbr x2) fun x4=>
(if(!x4)=true then
 some 6
else
 bd (Qbs x2) fun x5=>
(if(!x5)=true then
 some 7
else
 bd (Qbt x2) fun x6=>
(if(!x6)=true then
 some 8
else
 bd (JE x2) fun x7=>
(if(!x7)=true then
 some 9
else
 some 0))))))
theorem Jz {a0:(List Bt)} {r:Int} (h:Zk a0=some r):PureC prog 29 [.d (slD Qi a0)] (dI r) []:=by
 refine Qj tOk (fn:=f29) (c:=Ql f29) rfl rfl ?_;unfold Zk at h;(conv=>whnf);obtain⟨x1,hx1,h⟩:=Qa h;refine cC 0 (QlF hx1) ?_;clear hx1;(conv=>whnf);refine Qd tOk ?_;(conv=>whnf);refine QC h (fun _ h=>?_) (fun _ h=>?_)
 ·(conv=>whnf);obtain rfl:=sj_ h;exact lfP []
 ·(conv=>whnf);obtain⟨x2,hx2,h⟩:=Qa h;refine cE [] 1000 (QgS hx2) ?_;(conv=>whnf);refine Qd tOk ?_;(conv=>whnf);obtain⟨x3,hx3,h⟩:=Qa h;refine cC 0 (QlG hx3) ?_;clear hx3;(conv=>whnf);refine QC h (fun _ h=>?_) (fun _ h=>?_)
  ·(conv=>whnf);obtain rfl:=sj_ h;exact lfP []
  ·(conv=>whnf);obtain⟨x4,hx4,h⟩:=Qa h;refine cC 0 (Qkl hx4) ?_;clear hx4;(conv=>whnf);refine QC h (fun _ h=>?_) (fun _ h=>?_)
   ·(conv=>whnf);obtain rfl:=sj_ h;exact lfP []
   ·(conv=>whnf);obtain⟨x5,hx5,h⟩:=Qa h;refine cC 0 (Qkm hx5) ?_;clear hx5;(conv=>whnf);refine QC h (fun _ h=>?_) (fun _ h=>?_)
    ·(conv=>whnf);obtain rfl:=sj_ h;exact lfP []
    ·(conv=>whnf);obtain⟨x6,hx6,h⟩:=Qa h;refine cC 0 (Qkn hx6) ?_;clear hx6;(conv=>whnf);refine QC h (fun _ h=>?_) (fun _ h=>?_)
     ·(conv=>whnf);obtain rfl:=sj_ h;exact lfP []
     ·(conv=>whnf);obtain⟨x7,hx7,h⟩:=Qa h;refine cC 0 (QgK hx7) ?_;clear hx7;(conv=>whnf);refine QC h (fun _ h=>?_) (fun _ h=>?_)
      ·(conv=>whnf);obtain rfl:=sj_ h;exact lfP []
      ·(conv=>whnf);obtain rfl:=sj_ h;exact lfP []
def ZS (a0:(List Bt)) (a1:Bt):Option ((List Bt)):=
 bd (JR a1) fun x1=>
 bd (QcM a0 x1) fun x2=>
 bd (α:=List Bt) ((if(decide (x2≥0))=true then
 bd (JW a0 x2) fun x6=>
 some x6
else
 some a0)) fun x3=>
 bd (Qak x3 a1) fun x7=>
 bd (Zk x7) fun x8=>
(if(x8==0)=true then
 some x7
else
 some a0)
theorem Qal {a0:(List Bt)} {a1:Bt} {r:(List Bt)} (h:ZS a0 a1=some r):EffC prog 58 [.d (slD Qi a0),.d (.str a1)] [] (.d (slD Qi r)) []:=by
 refine QaR tOk (fn:=f58) (c:=Ql f58) rfl rfl ?_;unfold ZS at h;(conv=>whnf);obtain⟨x1,hx1,h⟩:=Qa h;refine cC 0 (QeI hx1) ?_;clear hx1;(conv=>whnf);obtain⟨x2,hx2,h⟩:=Qa h;refine cC 0 (Qna hx2) ?_;clear hx2;(conv=>whnf);obtain⟨x3,hx3,h⟩:=Qa h;refine QcL tOk (fun s4=>⟨0,25,[(0,.d (slD Qi a0)),(1,.d (.str a1)),(5,.d (slD Qi s4))],[],[],[⟨[],[]⟩]⟩) (fun s4=>x3=s4) ?_ ?_
 ·(conv=>whnf);refine QC hx3 (fun _ hx3=>?_) (fun _ hx3=>?_)
  ·(conv=>whnf);obtain⟨x6,hx6,hx3⟩:=Qa hx3;refine cC 1000 (QeV hx6) ?_;clear hx6;(conv=>whnf);obtain rfl:=sj_ hx3;exact⟨_,rfl,leX [.f [6001]]⟩
  ·(conv=>whnf);obtain rfl:=sj_ hx3;exact⟨_,rfl,leX []⟩
 ·rintro _ rfl;(conv=>whnf);obtain⟨x7,hx7,h⟩:=Qa h;refine cC 1000 (QdV hx7) ?_;clear hx7;(conv=>whnf);refine Qd tOk ?_;(conv=>whnf);obtain⟨x8,hx8,h⟩:=Qa h;refine cC 0 (Jz hx8) ?_;clear hx8;(conv=>whnf);refine QC h (fun _ h=>?_) (fun _ h=>?_)
  ·(conv=>whnf);obtain rfl:=sj_ h;exact lfE [.f [6001]]
  ·(conv=>whnf);obtain rfl:=sj_ h;exact lfE []
def Qv (a0:l1Rd) (a1:(List Bt)):Option (Bt×l1Rd):=
 bd (Zc a0 ((a1.length:Nat):Int)) fun x1=>
 gd ((0:Int)≤x1.1∧x1.1<((a1.length:Nat):Int))<|
 some ((a1.getD x1.1.toNat default),(⟨a0.b,x1.2.p⟩:l1Rd))
theorem QG {a0:l1Rd} {a1:(List Bt)} {r:Bt×l1Rd} (h:Qv a0 a1=some r):EffC prog 59 [.ref 9000 0 0,.d (slD Qi a1)] [(9000,.box 156 [.d (slD QP a0.b),dI a0.p])] (.d (.str r.1)) [(9000,.box 156 [.d (slD QP a0.b),dI r.2.p])]:=by
 refine QaR tOk (fn:=f59) (c:=Ql f59) rfl rfl ?_;unfold Qv at h;(conv=>whnf);obtain⟨x1,hx1,h⟩:=Qa h;refine cE [(9000,9000)] 0 (Jd hx1) ?_;(conv=>whnf);refine gdI h (fun h=>?_);(conv=>whnf);obtain rfl:=sj_ h;exact lfE []
def Q1 (a0:QzT) (a1:Int):Option (Int×QzT):=
(if((decide (a1<1))||(((a0.b.length:Nat):Int)==0))=true then
 some (0,(⟨a0.b,IntKind.i64.wrap (a0.p+1)⟩:QzT))
else
(if(decide ((IntKind.i64.wrap ((IntKind.i64.wrap (a0.p+1)) -1))<((a0.b.length:Nat):Int)))=true then
 gd ((0:Int)≤IntKind.i64.wrap ((IntKind.i64.wrap (a0.p+1)) -1)∧IntKind.i64.wrap ((IntKind.i64.wrap (a0.p+1)) -1)<((a0.b.length:Nat):Int))<|
 gd ((a1:Int)≠0)<|
 some (((IntKind.i64.wrap (a0.b.getD ((IntKind.i64.wrap ((IntKind.i64.wrap (a0.p+1)) -1)).toNat) default):Int).tmod a1),(⟨a0.b,IntKind.i64.wrap (a0.p+1)⟩:QzT))
else
 gd ((((a0.b.length:Nat):Int):Int)≠0)<|
 gd ((0:Int)≤((IntKind.i64.wrap ((IntKind.i64.wrap (a0.p+1)) -1):Int).tmod ((a0.b.length:Nat):Int))∧((IntKind.i64.wrap ((IntKind.i64.wrap (a0.p+1)) -1):Int).tmod ((a0.b.length:Nat):Int))<((a0.b.length:Nat):Int))<|
 gd ((((a0.b.length:Nat):Int):Int)≠0)<|
 gd ((0:Int)≤((IntKind.i64.wrap ((IntKind.i64.wrap ((IntKind.i64.wrap ((IntKind.i64.wrap (a0.p+1)) -1))*7))+3):Int).tmod ((a0.b.length:Nat):Int))∧((IntKind.i64.wrap ((IntKind.i64.wrap ((IntKind.i64.wrap ((IntKind.i64.wrap (a0.p+1)) -1))*7))+3):Int).tmod ((a0.b.length:Nat):Int))<((a0.b.length:Nat):Int))<|
 gd ((((a0.b.length:Nat):Int):Int)≠0)<|
 gd ((64:Int)≠0)<|
 gd ((a1:Int)≠0)<|
 some ((((bits .xor .i64 (IntKind.i64.wrap ((IntKind.i64.wrap ((IntKind.i64.wrap ((IntKind.i64.wrap ((IntKind.i64.wrap (a0.b.getD (((IntKind.i64.wrap ((IntKind.i64.wrap (a0.p+1)) -1):Int).tmod ((a0.b.length:Nat):Int)).toNat) default))*131))+(IntKind.i64.wrap ((IntKind.i64.wrap (a0.b.getD (((IntKind.i64.wrap ((IntKind.i64.wrap ((IntKind.i64.wrap ((IntKind.i64.wrap (a0.p+1)) -1))*7))+3):Int).tmod ((a0.b.length:Nat):Int)).toNat) default))*1117))))+(IntKind.i64.wrap ((IntKind.i64.wrap ((IntKind.i64.wrap (a0.p+1)) -1))*29))))+(IntKind.i64.wrap ((IntKind.i64.wrap ((IntKind.i64.wrap ((IntKind.i64.wrap (a0.p+1)) -1):Int).tdiv ((a0.b.length:Nat):Int)))*53)))) (IntKind.i64.wrap ((IntKind.i64.wrap ((IntKind.i64.wrap ((IntKind.i64.wrap ((IntKind.i64.wrap ((IntKind.i64.wrap (a0.b.getD (((IntKind.i64.wrap ((IntKind.i64.wrap (a0.p+1)) -1):Int).tmod ((a0.b.length:Nat):Int)).toNat) default))*131))+(IntKind.i64.wrap ((IntKind.i64.wrap (a0.b.getD (((IntKind.i64.wrap ((IntKind.i64.wrap ((IntKind.i64.wrap ((IntKind.i64.wrap (a0.p+1)) -1))*7))+3):Int).tmod ((a0.b.length:Nat):Int)).toNat) default))*1117))))+(IntKind.i64.wrap ((IntKind.i64.wrap ((IntKind.i64.wrap (a0.p+1)) -1))*29))))+(IntKind.i64.wrap ((IntKind.i64.wrap ((IntKind.i64.wrap ((IntKind.i64.wrap (a0.p+1)) -1):Int).tdiv ((a0.b.length:Nat):Int)))*53))):Int).tdiv 64))):Int).tmod a1),(⟨a0.b,IntKind.i64.wrap (a0.p+1)⟩:QzT))))
theorem ZK {a0:QzT} {a1:Int} {r:Int×QzT} (h:Q1 a0 a1=some r):EffC prog 99 [.ref 9000 0 0,dI a1] [(9000,.box 139 [.d (slD QP a0.b),dI a0.p])] (dI r.1) [(9000,.box 139 [.d (slD QP a0.b),dI r.2.p])]:=by
 refine QaR tOk (fn:=f99) (c:=Ql f99) rfl rfl ?_;unfold Q1 at h;(conv=>whnf);refine Qd tOk ?_;(conv=>whnf);refine QC h (fun _ h=>?_) (fun _ h=>?_)
 ·(conv=>whnf);obtain rfl:=sj_ h;exact lfE []
 ·(conv=>whnf);refine Qd tOk ?_;(conv=>whnf);refine QC h (fun _ h=>?_) (fun _ h=>?_)
  ·(conv=>whnf);refine gdI h (fun h=>?_);(conv=>whnf);refine gdI h (fun h=>?_);(conv=>whnf);obtain rfl:=sj_ h;exact lfE []
  ·(conv=>whnf);obtain⟨g3,h⟩:=Qh h;obtain⟨g4,h⟩:=Qh h;obtain⟨g5,h⟩:=Qh h;obtain⟨g6,h⟩:=Qh h;obtain⟨g7,h⟩:=Qh h;refine Zq tOk [] 46 [] [0,1,3,7,0,0,32,96,224,480,1008,2047,4095,8191,16383,0,32768,98304,229376,0,524288,1572864,0,4194304,12582912,29360128,62914560,133693440,268402688,536838144,1073709056,2147450880,4294967295,0,8589934592,34359738367,0,0,137438953472,412316860416,962072674304,2061584302080,4329327034368,8727373545472,17592186044415,35184372088831] [] ?_;(conv=>whnf);refine And.intro g3 ?_;clear g3;(conv=>whnf);refine And.intro g4 ?_;clear g4;(conv=>whnf);refine And.intro g5 ?_;clear g5;(conv=>whnf);refine And.intro g6 ?_;clear g6;(conv=>whnf);refine And.intro g7 ?_;clear g7;(conv=>whnf);refine And.intro (by kernel_rfl) ?_;(conv=>whnf);refine gdI h (fun h=>?_);(conv=>whnf);refine gdI h (fun h=>?_);(conv=>whnf);obtain rfl:=sj_ h;exact lfE []
def Qz (a0:QzT) (a1:(List Bt)):Option (Bt×QzT):=
 bd (Q1 a0 ((a1.length:Nat):Int)) fun x1=>
 gd ((0:Int)≤x1.1∧x1.1<((a1.length:Nat):Int))<|
 some ((a1.getD x1.1.toNat default),(⟨a0.b,x1.2.p⟩:QzT))
theorem QO {a0:QzT} {a1:(List Bt)} {r:Bt×QzT} (h:Qz a0 a1=some r):EffC prog 100 [.ref 9000 0 0,.d (slD Qi a1)] [(9000,.box 139 [.d (slD QP a0.b),dI a0.p])] (.d (.str r.1)) [(9000,.box 139 [.d (slD QP a0.b),dI r.2.p])]:=by
 refine QaR tOk (fn:=f100) (c:=Ql f100) rfl rfl ?_;unfold Qz at h;(conv=>whnf);obtain⟨x1,hx1,h⟩:=Qa h;refine cE [(9000,9000)] 0 (ZK hx1) ?_;(conv=>whnf);refine gdI h (fun h=>?_);(conv=>whnf);obtain rfl:=sj_ h;exact lfE []
def Je (a0:QzT):Option (Bt×QzT):=
 bd (Qz a0 ([(⟨#[49,48,46,48,47,56]⟩:Bt),(⟨#[49,48,46,48,47,49,54]⟩:Bt),(⟨#[49,48,46,49,50,56,47,57]⟩:Bt),(⟨#[49,49,46,48,47,56]⟩:Bt),(⟨#[48,46,48,47,48]⟩:Bt),(⟨#[49,49,46,52,47,49,54]⟩:Bt),(⟨#[50,48,48,46,48,47,49,53]⟩:Bt),(⟨#[50,48,48,46,48,47,57]⟩:Bt)]:List Bt)) fun x1=>
 some (x1.1,(⟨a0.b,x1.2.p⟩:QzT))
theorem Qcv {a0:QzT} {r:Bt×QzT} (h:Je a0=some r):EffC prog 101 [.ref 9000 0 0] [(9000,.box 139 [.d (slD QP a0.b),dI a0.p])] (.d (.str r.1)) [(9000,.box 139 [.d (slD QP a0.b),dI r.2.p])]:=by
 refine QaR tOk (fn:=f101) (c:=Ql f101) rfl rfl ?_;unfold Je at h;(conv=>whnf);refine J1 (enc:=Qi) ([(⟨#[49,48,46,48,47,56]⟩:Bt),(⟨#[49,48,46,48,47,49,54]⟩:Bt),(⟨#[49,48,46,49,50,56,47,57]⟩:Bt),(⟨#[49,49,46,48,47,56]⟩:Bt),(⟨#[48,46,48,47,48]⟩:Bt),(⟨#[49,49,46,52,47,49,54]⟩:Bt),(⟨#[50,48,48,46,48,47,49,53]⟩:Bt),(⟨#[50,48,48,46,48,47,57]⟩:Bt)]:List Bt) ?_;(conv=>whnf);obtain⟨x1,hx1,h⟩:=Qa h;refine Zy [4] ?_;(conv=>whnf);refine cE [(9000,9000)] 0 (QO hx1) ?_;(conv=>whnf);obtain rfl:=sj_ h;exact lfE []
def Qav (a0:QzT):Option (Bt×QzT):=
 bd (Qz a0 ([(⟨#[49,48,46,49]⟩:Bt),(⟨#[49,48,46,50]⟩:Bt),(⟨#[49,49,46,52]⟩:Bt),(⟨#[50,48,48,46,49]⟩:Bt),(⟨#[48,46,48]⟩:Bt),(⟨#[50,53,53,46,50,53,53]⟩:Bt)]:List Bt)) fun x1=>
 some (x1.1,(⟨a0.b,x1.2.p⟩:QzT))
theorem QeJ {a0:QzT} {r:Bt×QzT} (h:Qav a0=some r):EffC prog 102 [.ref 9000 0 0] [(9000,.box 139 [.d (slD QP a0.b),dI a0.p])] (.d (.str r.1)) [(9000,.box 139 [.d (slD QP a0.b),dI r.2.p])]:=by
 refine QaR tOk (fn:=f102) (c:=Ql f102) rfl rfl ?_;unfold Qav at h;(conv=>whnf);refine J1 (enc:=Qi) ([(⟨#[49,48,46,49]⟩:Bt),(⟨#[49,48,46,50]⟩:Bt),(⟨#[49,49,46,52]⟩:Bt),(⟨#[50,48,48,46,49]⟩:Bt),(⟨#[48,46,48]⟩:Bt),(⟨#[50,53,53,46,50,53,53]⟩:Bt)]:List Bt) ?_;(conv=>whnf);obtain⟨x1,hx1,h⟩:=Qa h;refine Zy [4] ?_;(conv=>whnf);refine cE [(9000,9000)] 0 (QO hx1) ?_;(conv=>whnf);obtain rfl:=sj_ h;exact lfE []
def Qbi (a0:QzT):Option (Bt×QzT):=
 bd (Q1 a0 10) fun x1=>
(if(x1.1==9)=true then
 bd (Qz (⟨a0.b,x1.2.p⟩:QzT) ([(⟨#[49,48,46,48,47,56]⟩:Bt),(⟨#[49,48,46,48,47,57]⟩:Bt),(⟨#[48,46,48,47,49]⟩:Bt)]:List Bt)) fun x2=>
 gd ((⟨#[110,97,116,32]⟩:Bt).size+x2.1.size≤9223372036854775807)<|
 gd (((⟨#[110,97,116,32]⟩:Bt)++x2.1).size+(⟨#[32]⟩:Bt).size≤9223372036854775807)<|
 bd (Qz (⟨a0.b,x2.2.p⟩:QzT) ([(⟨#[50,48,48,46,49]⟩:Bt),(⟨#[49,49,46,52]⟩:Bt),(⟨#[49,48,46,49]⟩:Bt)]:List Bt)) fun x5=>
 gd ((((⟨#[110,97,116,32]⟩:Bt)++x2.1)++(⟨#[32]⟩:Bt)).size+x5.1.size≤9223372036854775807)<|
 gd (((((⟨#[110,97,116,32]⟩:Bt)++x2.1)++(⟨#[32]⟩:Bt))++x5.1).size+(⟨#[32]⟩:Bt).size≤9223372036854775807)<|
 bd (Qz (⟨a0.b,x5.2.p⟩:QzT) ([(⟨#[52,48,32,52,51]⟩:Bt),(⟨#[50,50,32,50,50]⟩:Bt),(⟨#[57,32,56]⟩:Bt),(⟨#[49,32,54,53,53,51,53]⟩:Bt)]:List Bt)) fun x8=>
 gd ((((((⟨#[110,97,116,32]⟩:Bt)++x2.1)++(⟨#[32]⟩:Bt))++x5.1)++(⟨#[32]⟩:Bt)).size+x8.1.size≤9223372036854775807)<|
 some (((((((⟨#[110,97,116,32]⟩:Bt)++x2.1)++(⟨#[32]⟩:Bt))++x5.1)++(⟨#[32]⟩:Bt))++x8.1),(⟨a0.b,x8.2.p⟩:QzT))
else
(if(x1.1==0)=true then
 bd (Qz (⟨a0.b,x1.2.p⟩:QzT) ([(⟨#[116,101,114,110]⟩:Bt),(⟨#[116,50]⟩:Bt),(⟨#[97,45,98]⟩:Bt)]:List Bt)) fun x10=>
 gd ((⟨#[104,111,115,116,32]⟩:Bt).size+x10.1.size≤9223372036854775807)<|
 some (((⟨#[104,111,115,116,32]⟩:Bt)++x10.1),(⟨a0.b,x10.2.p⟩:QzT))
else
(if(x1.1==1)=true then
 bd (Qz (⟨a0.b,x1.2.p⟩:QzT) ([(⟨#[97,110,110]⟩:Bt),(⟨#[98,111,98]⟩:Bt),(⟨#[101,118,101]⟩:Bt),(⟨#[106,111,101]⟩:Bt)]:List Bt)) fun x12=>
 gd ((⟨#[117,115,101,114,32]⟩:Bt).size+x12.1.size≤9223372036854775807)<|
 gd (((⟨#[117,115,101,114,32]⟩:Bt)++x12.1).size+(⟨#[32]⟩:Bt).size≤9223372036854775807)<|
 bd (Qz (⟨a0.b,x12.2.p⟩:QzT) ([(⟨#[97,108,108]⟩:Bt),(⟨#[110,111,110,101]⟩:Bt),(⟨#[114,111,117,116,101]⟩:Bt),(⟨#[112,101,101,114,44,114,111,117,116,101,44,114,117,108,101]⟩:Bt),(⟨#[117,115,101,114]⟩:Bt),(⟨#[100,111,111,114,44,104,111,115,116]⟩:Bt)]:List Bt)) fun x15=>
 gd ((((⟨#[117,115,101,114,32]⟩:Bt)++x12.1)++(⟨#[32]⟩:Bt)).size+x15.1.size≤9223372036854775807)<|
 some (((((⟨#[117,115,101,114,32]⟩:Bt)++x12.1)++(⟨#[32]⟩:Bt))++x15.1),(⟨a0.b,x15.2.p⟩:QzT))
else
 bd (α:=Bool) ((if(x1.1==2)=true then
 some (x1.1==2)
else
 some (x1.1==3))) fun x17=>
(if x17=true then
 bd (α:=Int×Bt) (bd (Q1 (⟨a0.b,x1.2.p⟩:QzT) 3) fun x23=>
(if(x23.1==0)=true then
 bd (Qz (⟨a0.b,x23.2.p⟩:QzT) ([(⟨#[119,101,98]⟩:Bt),(⟨#[115,115,104]⟩:Bt)]:List Bt)) fun x24=>
 gd ((⟨#[32,105,110,32]⟩:Bt).size+x24.1.size≤9223372036854775807)<|
 some (x24.2.p,((⟨#[32,105,110,32]⟩:Bt)++x24.1))
else
 some (x23.2.p,(⟨#[]⟩:Bt)))) fun x20=>
 bd (Qz (⟨a0.b,x20.1⟩:QzT) ([(⟨#[48]⟩:Bt),(⟨#[49]⟩:Bt),(⟨#[50]⟩:Bt),(⟨#[55]⟩:Bt)]:List Bt)) fun x26=>
 gd ((⟨#[112,111,114,116,32]⟩:Bt).size+x26.1.size≤9223372036854775807)<|
 gd (((⟨#[112,111,114,116,32]⟩:Bt)++x26.1).size+(⟨#[32]⟩:Bt).size≤9223372036854775807)<|
 bd (Je (⟨a0.b,x26.2.p⟩:QzT)) fun x29=>
 gd ((((⟨#[112,111,114,116,32]⟩:Bt)++x26.1)++(⟨#[32]⟩:Bt)).size+x29.1.size≤9223372036854775807)<|
 gd (((((⟨#[112,111,114,116,32]⟩:Bt)++x26.1)++(⟨#[32]⟩:Bt))++x29.1).size+x20.2.size≤9223372036854775807)<|
 some ((((((⟨#[112,111,114,116,32]⟩:Bt)++x26.1)++(⟨#[32]⟩:Bt))++x29.1)++x20.2),(⟨a0.b,x29.2.p⟩:QzT))
else
(if(x1.1==4)=true then
 bd (Qz (⟨a0.b,x1.2.p⟩:QzT) ([(⟨#[119,101,98]⟩:Bt),(⟨#[115,115,104]⟩:Bt)]:List Bt)) fun x32=>
 gd ((⟨#[114,117,108,101,32]⟩:Bt).size+x32.1.size≤9223372036854775807)<|
 gd (((⟨#[114,117,108,101,32]⟩:Bt)++x32.1).size+(⟨#[32]⟩:Bt).size≤9223372036854775807)<|
 bd (Qz (⟨a0.b,x32.2.p⟩:QzT) ([(⟨#[48]⟩:Bt),(⟨#[53]⟩:Bt),(⟨#[49,48]⟩:Bt),(⟨#[57,57]⟩:Bt)]:List Bt)) fun x35=>
 gd ((((⟨#[114,117,108,101,32]⟩:Bt)++x32.1)++(⟨#[32]⟩:Bt)).size+x35.1.size≤9223372036854775807)<|
 gd (((((⟨#[114,117,108,101,32]⟩:Bt)++x32.1)++(⟨#[32]⟩:Bt))++x35.1).size+(⟨#[32]⟩:Bt).size≤9223372036854775807)<|
 bd (Qz (⟨a0.b,x35.2.p⟩:QzT) ([(⟨#[112,101,114,109,105,116]⟩:Bt),(⟨#[100,101,110,121]⟩:Bt)]:List Bt)) fun x38=>
 gd ((((((⟨#[114,117,108,101,32]⟩:Bt)++x32.1)++(⟨#[32]⟩:Bt))++x35.1)++(⟨#[32]⟩:Bt)).size+x38.1.size≤9223372036854775807)<|
 gd (((((((⟨#[114,117,108,101,32]⟩:Bt)++x32.1)++(⟨#[32]⟩:Bt))++x35.1)++(⟨#[32]⟩:Bt))++x38.1).size+(⟨#[32]⟩:Bt).size≤9223372036854775807)<|
 bd (Je (⟨a0.b,x38.2.p⟩:QzT)) fun x41=>
 gd ((((((((⟨#[114,117,108,101,32]⟩:Bt)++x32.1)++(⟨#[32]⟩:Bt))++x35.1)++(⟨#[32]⟩:Bt))++x38.1)++(⟨#[32]⟩:Bt)).size+x41.1.size≤9223372036854775807)<|
 gd (((((((((⟨#[114,117,108,101,32]⟩:Bt)++x32.1)++(⟨#[32]⟩:Bt))++x35.1)++(⟨#[32]⟩:Bt))++x38.1)++(⟨#[32]⟩:Bt))++x41.1).size+(⟨#[32]⟩:Bt).size≤9223372036854775807)<|
 bd (Je (⟨a0.b,x41.2.p⟩:QzT)) fun x44=>
 gd ((((((((((⟨#[114,117,108,101,32]⟩:Bt)++x32.1)++(⟨#[32]⟩:Bt))++x35.1)++(⟨#[32]⟩:Bt))++x38.1)++(⟨#[32]⟩:Bt))++x41.1)++(⟨#[32]⟩:Bt)).size+x44.1.size≤9223372036854775807)<|
 gd (((((((((((⟨#[114,117,108,101,32]⟩:Bt)++x32.1)++(⟨#[32]⟩:Bt))++x35.1)++(⟨#[32]⟩:Bt))++x38.1)++(⟨#[32]⟩:Bt))++x41.1)++(⟨#[32]⟩:Bt))++x44.1).size+(⟨#[32]⟩:Bt).size≤9223372036854775807)<|
 bd (Qz (⟨a0.b,x44.2.p⟩:QzT) ([(⟨#[48]⟩:Bt),(⟨#[49]⟩:Bt),(⟨#[55]⟩:Bt)]:List Bt)) fun x47=>
 gd ((((((((((((⟨#[114,117,108,101,32]⟩:Bt)++x32.1)++(⟨#[32]⟩:Bt))++x35.1)++(⟨#[32]⟩:Bt))++x38.1)++(⟨#[32]⟩:Bt))++x41.1)++(⟨#[32]⟩:Bt))++x44.1)++(⟨#[32]⟩:Bt)).size+x47.1.size≤9223372036854775807)<|
 some (((((((((((((⟨#[114,117,108,101,32]⟩:Bt)++x32.1)++(⟨#[32]⟩:Bt))++x35.1)++(⟨#[32]⟩:Bt))++x38.1)++(⟨#[32]⟩:Bt))++x41.1)++(⟨#[32]⟩:Bt))++x44.1)++(⟨#[32]⟩:Bt))++x47.1),(⟨a0.b,x47.2.p⟩:QzT))
else
 bd (α:=Bool) ((if(x1.1==5)=true then
 some (x1.1==5)
else
 some (x1.1==6))) fun x49=>
(if x49=true then
 bd (Je (⟨a0.b,x1.2.p⟩:QzT)) fun x52=>
 gd ((⟨#[114,111,117,116,101,32]⟩:Bt).size+x52.1.size≤9223372036854775807)<|
 gd (((⟨#[114,111,117,116,101,32]⟩:Bt)++x52.1).size+(⟨#[32]⟩:Bt).size≤9223372036854775807)<|
 bd (Qav (⟨a0.b,x52.2.p⟩:QzT)) fun x55=>
 gd ((((⟨#[114,111,117,116,101,32]⟩:Bt)++x52.1)++(⟨#[32]⟩:Bt)).size+x55.1.size≤9223372036854775807)<|
 some (((((⟨#[114,111,117,116,101,32]⟩:Bt)++x52.1)++(⟨#[32]⟩:Bt))++x55.1),(⟨a0.b,x55.2.p⟩:QzT))
else
(if(x1.1==7)=true then
 bd (Qav (⟨a0.b,x1.2.p⟩:QzT)) fun x57=>
 gd ((⟨#[112,101,101,114,32]⟩:Bt).size+x57.1.size≤9223372036854775807)<|
 gd (((⟨#[112,101,101,114,32]⟩:Bt)++x57.1).size+(⟨#[32]⟩:Bt).size≤9223372036854775807)<|
 bd (Qz (⟨a0.b,x57.2.p⟩:QzT) ([(⟨#[49]⟩:Bt),(⟨#[57]⟩:Bt)]:List Bt)) fun x60=>
 gd ((((⟨#[112,101,101,114,32]⟩:Bt)++x57.1)++(⟨#[32]⟩:Bt)).size+x60.1.size≤9223372036854775807)<|
 gd (((((⟨#[112,101,101,114,32]⟩:Bt)++x57.1)++(⟨#[32]⟩:Bt))++x60.1).size+(⟨#[32]⟩:Bt).size≤9223372036854775807)<|
 bd (Qz (⟨a0.b,x60.2.p⟩:QzT) ([(⟨#[55]⟩:Bt),(⟨#[57,57,57,57,57,57]⟩:Bt)]:List Bt)) fun x63=>
 gd ((((((⟨#[112,101,101,114,32]⟩:Bt)++x57.1)++(⟨#[32]⟩:Bt))++x60.1)++(⟨#[32]⟩:Bt)).size+x63.1.size≤9223372036854775807)<|
 some (((((((⟨#[112,101,101,114,32]⟩:Bt)++x57.1)++(⟨#[32]⟩:Bt))++x60.1)++(⟨#[32]⟩:Bt))++x63.1),(⟨a0.b,x63.2.p⟩:QzT))
else
 bd (Qz (⟨a0.b,x1.2.p⟩:QzT) ([(⟨#[49]⟩:Bt),(⟨#[55]⟩:Bt)]:List Bt)) fun x65=>
 gd ((⟨#[100,111,111,114,32]⟩:Bt).size+x65.1.size≤9223372036854775807)<|
 gd (((⟨#[100,111,111,114,32]⟩:Bt)++x65.1).size+(⟨#[32]⟩:Bt).size≤9223372036854775807)<|
 bd (Qz (⟨a0.b,x65.2.p⟩:QzT) ([(⟨#[50,50]⟩:Bt),(⟨#[56,48]⟩:Bt),(⟨#[54,53,53,51,53]⟩:Bt)]:List Bt)) fun x68=>
 gd ((((⟨#[100,111,111,114,32]⟩:Bt)++x65.1)++(⟨#[32]⟩:Bt)).size+x68.1.size≤9223372036854775807)<|
 gd (((((⟨#[100,111,111,114,32]⟩:Bt)++x65.1)++(⟨#[32]⟩:Bt))++x68.1).size+(⟨#[32]⟩:Bt).size≤9223372036854775807)<|
 bd (Qav (⟨a0.b,x68.2.p⟩:QzT)) fun x71=>
 gd ((((((⟨#[100,111,111,114,32]⟩:Bt)++x65.1)++(⟨#[32]⟩:Bt))++x68.1)++(⟨#[32]⟩:Bt)).size+x71.1.size≤9223372036854775807)<|
 gd (((((((⟨#[100,111,111,114,32]⟩:Bt)++x65.1)++(⟨#[32]⟩:Bt))++x68.1)++(⟨#[32]⟩:Bt))++x71.1).size+(⟨#[32]⟩:Bt).size≤9223372036854775807)<|
 bd (Qz (⟨a0.b,x71.2.p⟩:QzT) ([(⟨#[50,50]⟩:Bt),(⟨#[49]⟩:Bt)]:List Bt)) fun x74=>
 gd ((((((((⟨#[100,111,111,114,32]⟩:Bt)++x65.1)++(⟨#[32]⟩:Bt))++x68.1)++(⟨#[32]⟩:Bt))++x71.1)++(⟨#[32]⟩:Bt)).size+x74.1.size≤9223372036854775807)<|
 some (((((((((⟨#[100,111,111,114,32]⟩:Bt)++x65.1)++(⟨#[32]⟩:Bt))++x68.1)++(⟨#[32]⟩:Bt))++x71.1)++(⟨#[32]⟩:Bt))++x74.1),(⟨a0.b,x74.2.p⟩:QzT)))))))))
theorem QgV {a0:QzT} {r:Bt×QzT} (h:Qbi a0=some r):EffC prog 38 [.ref 9000 0 0] [(9000,.box 139 [.d (slD QP a0.b),dI a0.p])] (.d (.str r.1)) [(9000,.box 139 [.d (slD QP a0.b),dI r.2.p])]:=by
 refine QaR tOk (fn:=f38) (c:=Ql f38) rfl rfl ?_;unfold Qbi at h;(conv=>whnf);refine Qd tOk ?_;(conv=>whnf);obtain⟨x1,hx1,h⟩:=Qa h;refine cE [(9000,9000)] 0 (ZK hx1) ?_;(conv=>whnf);refine QC h (fun _ h=>?_) (fun _ h=>?_)
 ·(conv=>whnf);refine J1 (enc:=Qi) ([(⟨#[49,48,46,48,47,56]⟩:Bt),(⟨#[49,48,46,48,47,57]⟩:Bt),(⟨#[48,46,48,47,49]⟩:Bt)]:List Bt) ?_;(conv=>whnf);obtain⟨x2,hx2,h⟩:=Qa h;refine Zy [9] ?_;(conv=>whnf);refine cE [(9000,9000)] 0 (QO hx2) ?_;(conv=>whnf);refine gdI h (fun h=>?_);(conv=>whnf);refine gdI h (fun h=>?_);(conv=>whnf);refine J1 (enc:=Qi) ([(⟨#[50,48,48,46,49]⟩:Bt),(⟨#[49,49,46,52]⟩:Bt),(⟨#[49,48,46,49]⟩:Bt)]:List Bt) ?_;(conv=>whnf);obtain⟨x5,hx5,h⟩:=Qa h;refine Zy [14] ?_;(conv=>whnf);refine cE [(9000,9000)] 0 (QO hx5) ?_;(conv=>whnf);refine gdI h (fun h=>?_);(conv=>whnf);refine gdI h (fun h=>?_);(conv=>whnf);refine J1 (enc:=Qi) ([(⟨#[52,48,32,52,51]⟩:Bt),(⟨#[50,50,32,50,50]⟩:Bt),(⟨#[57,32,56]⟩:Bt),(⟨#[49,32,54,53,53,51,53]⟩:Bt)]:List Bt) ?_;(conv=>whnf);obtain⟨x8,hx8,h⟩:=Qa h;refine Zy [19] ?_;(conv=>whnf);refine cE [(9000,9000)] 0 (QO hx8) ?_;(conv=>whnf);refine gdI h (fun h=>?_);(conv=>whnf);obtain rfl:=sj_ h;exact lfE []
 ·(conv=>whnf);refine QC h (fun _ h=>?_) (fun _ h=>?_)
  ·(conv=>whnf);refine J1 (enc:=Qi) ([(⟨#[116,101,114,110]⟩:Bt),(⟨#[116,50]⟩:Bt),(⟨#[97,45,98]⟩:Bt)]:List Bt) ?_;(conv=>whnf);obtain⟨x10,hx10,h⟩:=Qa h;refine Zy [25] ?_;(conv=>whnf);refine cE [(9000,9000)] 0 (QO hx10) ?_;(conv=>whnf);refine gdI h (fun h=>?_);(conv=>whnf);obtain rfl:=sj_ h;exact lfE []
  ·(conv=>whnf);refine QC h (fun _ h=>?_) (fun _ h=>?_)
   ·(conv=>whnf);refine J1 (enc:=Qi) ([(⟨#[97,110,110]⟩:Bt),(⟨#[98,111,98]⟩:Bt),(⟨#[101,118,101]⟩:Bt),(⟨#[106,111,101]⟩:Bt)]:List Bt) ?_;(conv=>whnf);obtain⟨x12,hx12,h⟩:=Qa h;refine Zy [31] ?_;(conv=>whnf);refine cE [(9000,9000)] 0 (QO hx12) ?_;(conv=>whnf);refine gdI h (fun h=>?_);(conv=>whnf);refine gdI h (fun h=>?_);(conv=>whnf);refine J1 (enc:=Qi) ([(⟨#[97,108,108]⟩:Bt),(⟨#[110,111,110,101]⟩:Bt),(⟨#[114,111,117,116,101]⟩:Bt),(⟨#[112,101,101,114,44,114,111,117,116,101,44,114,117,108,101]⟩:Bt),(⟨#[117,115,101,114]⟩:Bt),(⟨#[100,111,111,114,44,104,111,115,116]⟩:Bt)]:List Bt) ?_;(conv=>whnf);obtain⟨x15,hx15,h⟩:=Qa h;refine Zy [36] ?_;(conv=>whnf);refine cE [(9000,9000)] 0 (QO hx15) ?_;(conv=>whnf);refine gdI h (fun h=>?_);(conv=>whnf);obtain rfl:=sj_ h;exact lfE []
   ·(conv=>whnf);obtain⟨x17,hx17,h⟩:=Qa h;refine QcL tOk (fun s18=>⟨0,131,[(0,.ref 9000 0 0),(5,dI x1.1),(39,dB s18)],[],[(9000,.box 139 [.d (slD QP a0.b),dI x1.2.p])],[⟨[(0,.ref 9000 0 0)],[]⟩]⟩) (fun s18=>x17=s18) ?_ ?_
    ·(conv=>whnf);refine QC hx17 (fun _ hx17=>?_) (fun _ hx17=>?_)
     ·(conv=>whnf);obtain rfl:=sj_ hx17;exact⟨_,rfl,leX []⟩
     ·(conv=>whnf);obtain rfl:=sj_ hx17;exact⟨_,rfl,leX []⟩
    ·rintro _ rfl;(conv=>whnf);refine QC h (fun _ h=>?_) (fun _ h=>?_)
     ·(conv=>whnf);obtain⟨x20,hx20,h⟩:=Qa h;refine QcL tOk (fun s21=>⟨0,131,[(0,.ref 9000 0 0),(3,.d (.str s21.2))],[],[(9000,.box 139 [.d (slD QP a0.b),dI s21.1])],[⟨[(0,.ref 9000 0 0)],[]⟩]⟩) (fun s21=>x20=s21) ?_ ?_
      ·(conv=>whnf);obtain⟨x23,hx23,hx20⟩:=Qa hx20;refine cE [(9000,9000)] 0 (ZK hx23) ?_;(conv=>whnf);refine QC hx20 (fun _ hx20=>?_) (fun _ hx20=>?_)
       ·(conv=>whnf);refine J1 (enc:=Qi) ([(⟨#[119,101,98]⟩:Bt),(⟨#[115,115,104]⟩:Bt)]:List Bt) ?_;(conv=>whnf);obtain⟨x24,hx24,hx20⟩:=Qa hx20;refine Zy [46] ?_;(conv=>whnf);refine cE [(9000,9000)] 0 (QO hx24) ?_;(conv=>whnf);refine gdI hx20 (fun hx20=>?_);(conv=>whnf);obtain rfl:=sj_ hx20;exact⟨_,rfl,leX []⟩
       ·(conv=>whnf);obtain rfl:=sj_ hx20;exact⟨_,rfl,leX []⟩
      ·rintro _ rfl;(conv=>whnf);refine J1 (enc:=Qi) ([(⟨#[48]⟩:Bt),(⟨#[49]⟩:Bt),(⟨#[50]⟩:Bt),(⟨#[55]⟩:Bt)]:List Bt) ?_;(conv=>whnf);obtain⟨x26,hx26,h⟩:=Qa h;refine Zy [50] ?_;(conv=>whnf);refine cE [(9000,9000)] 0 (QO hx26) ?_;(conv=>whnf);refine gdI h (fun h=>?_);(conv=>whnf);refine gdI h (fun h=>?_);(conv=>whnf);obtain⟨x29,hx29,h⟩:=Qa h;refine cE [(9000,9000)] 0 (Qcv hx29) ?_;(conv=>whnf);refine gdI h (fun h=>?_);(conv=>whnf);refine gdI h (fun h=>?_);(conv=>whnf);obtain rfl:=sj_ h;exact lfE []
     ·(conv=>whnf);refine QC h (fun _ h=>?_) (fun _ h=>?_)
      ·(conv=>whnf);refine J1 (enc:=Qi) ([(⟨#[119,101,98]⟩:Bt),(⟨#[115,115,104]⟩:Bt)]:List Bt) ?_;(conv=>whnf);obtain⟨x32,hx32,h⟩:=Qa h;refine Zy [62] ?_;(conv=>whnf);refine cE [(9000,9000)] 0 (QO hx32) ?_;(conv=>whnf);refine gdI h (fun h=>?_);(conv=>whnf);refine gdI h (fun h=>?_);(conv=>whnf);refine J1 (enc:=Qi) ([(⟨#[48]⟩:Bt),(⟨#[53]⟩:Bt),(⟨#[49,48]⟩:Bt),(⟨#[57,57]⟩:Bt)]:List Bt) ?_;(conv=>whnf);obtain⟨x35,hx35,h⟩:=Qa h;refine Zy [67] ?_;(conv=>whnf);refine cE [(9000,9000)] 0 (QO hx35) ?_;(conv=>whnf);refine gdI h (fun h=>?_);(conv=>whnf);refine gdI h (fun h=>?_);(conv=>whnf);refine J1 (enc:=Qi) ([(⟨#[112,101,114,109,105,116]⟩:Bt),(⟨#[100,101,110,121]⟩:Bt)]:List Bt) ?_;(conv=>whnf);obtain⟨x38,hx38,h⟩:=Qa h;refine Zy [72] ?_;(conv=>whnf);refine cE [(9000,9000)] 0 (QO hx38) ?_;(conv=>whnf);refine gdI h (fun h=>?_);(conv=>whnf);refine gdI h (fun h=>?_);(conv=>whnf);obtain⟨x41,hx41,h⟩:=Qa h;refine cE [(9000,9000)] 0 (Qcv hx41) ?_;(conv=>whnf);refine gdI h (fun h=>?_);(conv=>whnf);refine gdI h (fun h=>?_);(conv=>whnf);obtain⟨x44,hx44,h⟩:=Qa h;refine cE [(9000,9000)] 0 (Qcv hx44) ?_;(conv=>whnf);refine gdI h (fun h=>?_);(conv=>whnf);refine gdI h (fun h=>?_);(conv=>whnf);refine J1 (enc:=Qi) ([(⟨#[48]⟩:Bt),(⟨#[49]⟩:Bt),(⟨#[55]⟩:Bt)]:List Bt) ?_;(conv=>whnf);obtain⟨x47,hx47,h⟩:=Qa h;refine Zy [85] ?_;(conv=>whnf);refine cE [(9000,9000)] 0 (QO hx47) ?_;(conv=>whnf);refine gdI h (fun h=>?_);(conv=>whnf);obtain rfl:=sj_ h;exact lfE []
      ·(conv=>whnf);obtain⟨x49,hx49,h⟩:=Qa h;refine QcL tOk (fun s50=>⟨0,131,[(0,.ref 9000 0 0),(5,dI x1.1),(88,dB s50)],[],[(9000,.box 139 [.d (slD QP a0.b),dI x1.2.p])],[⟨[(0,.ref 9000 0 0)],[]⟩]⟩) (fun s50=>x49=s50) ?_ ?_
       ·(conv=>whnf);refine QC hx49 (fun _ hx49=>?_) (fun _ hx49=>?_)
        ·(conv=>whnf);obtain rfl:=sj_ hx49;exact⟨_,rfl,leX []⟩
        ·(conv=>whnf);obtain rfl:=sj_ hx49;exact⟨_,rfl,leX []⟩
       ·rintro _ rfl;(conv=>whnf);refine QC h (fun _ h=>?_) (fun _ h=>?_)
        ·(conv=>whnf);obtain⟨x52,hx52,h⟩:=Qa h;refine cE [(9000,9000)] 0 (Qcv hx52) ?_;(conv=>whnf);refine gdI h (fun h=>?_);(conv=>whnf);refine gdI h (fun h=>?_);(conv=>whnf);obtain⟨x55,hx55,h⟩:=Qa h;refine cE [(9000,9000)] 0 (QeJ hx55) ?_;(conv=>whnf);refine gdI h (fun h=>?_);(conv=>whnf);obtain rfl:=sj_ h;exact lfE []
        ·(conv=>whnf);refine QC h (fun _ h=>?_) (fun _ h=>?_)
         ·(conv=>whnf);obtain⟨x57,hx57,h⟩:=Qa h;refine cE [(9000,9000)] 0 (QeJ hx57) ?_;(conv=>whnf);refine gdI h (fun h=>?_);(conv=>whnf);refine gdI h (fun h=>?_);(conv=>whnf);refine J1 (enc:=Qi) ([(⟨#[49]⟩:Bt),(⟨#[57]⟩:Bt)]:List Bt) ?_;(conv=>whnf);obtain⟨x60,hx60,h⟩:=Qa h;refine Zy [105] ?_;(conv=>whnf);refine cE [(9000,9000)] 0 (QO hx60) ?_;(conv=>whnf);refine gdI h (fun h=>?_);(conv=>whnf);refine gdI h (fun h=>?_);(conv=>whnf);refine J1 (enc:=Qi) ([(⟨#[55]⟩:Bt),(⟨#[57,57,57,57,57,57]⟩:Bt)]:List Bt) ?_;(conv=>whnf);obtain⟨x63,hx63,h⟩:=Qa h;refine Zy [110] ?_;(conv=>whnf);refine cE [(9000,9000)] 0 (QO hx63) ?_;(conv=>whnf);refine gdI h (fun h=>?_);(conv=>whnf);obtain rfl:=sj_ h;exact lfE []
         ·(conv=>whnf);refine J1 (enc:=Qi) ([(⟨#[49]⟩:Bt),(⟨#[55]⟩:Bt)]:List Bt) ?_;(conv=>whnf);obtain⟨x65,hx65,h⟩:=Qa h;refine Zy [114] ?_;(conv=>whnf);refine cE [(9000,9000)] 0 (QO hx65) ?_;(conv=>whnf);refine gdI h (fun h=>?_);(conv=>whnf);refine gdI h (fun h=>?_);(conv=>whnf);refine J1 (enc:=Qi) ([(⟨#[50,50]⟩:Bt),(⟨#[56,48]⟩:Bt),(⟨#[54,53,53,51,53]⟩:Bt)]:List Bt) ?_;(conv=>whnf);obtain⟨x68,hx68,h⟩:=Qa h;refine Zy [119] ?_;(conv=>whnf);refine cE [(9000,9000)] 0 (QO hx68) ?_;(conv=>whnf);refine gdI h (fun h=>?_);(conv=>whnf);refine gdI h (fun h=>?_);(conv=>whnf);obtain⟨x71,hx71,h⟩:=Qa h;refine cE [(9000,9000)] 0 (QeJ hx71) ?_;(conv=>whnf);refine gdI h (fun h=>?_);(conv=>whnf);refine gdI h (fun h=>?_);(conv=>whnf);refine J1 (enc:=Qi) ([(⟨#[50,50]⟩:Bt),(⟨#[49]⟩:Bt)]:List Bt) ?_;(conv=>whnf);obtain⟨x74,hx74,h⟩:=Qa h;refine Zy [128] ?_;(conv=>whnf);refine cE [(9000,9000)] 0 (QO hx74) ?_;(conv=>whnf);refine gdI h (fun h=>?_);(conv=>whnf);obtain rfl:=sj_ h;exact lfE []
def Qch (a0:l1Rd):Option (Bt×l1Rd):=
 bd (Zc a0 12) fun x1=>
(if(x1.1==0)=true then
 bd (Qv (⟨a0.b,x1.2.p⟩:l1Rd) ([(⟨#[]⟩:Bt),(⟨#[32,105,110,32,119,101,98]⟩:Bt),(⟨#[32,105,110,32,111,117,116]⟩:Bt)]:List Bt)) fun x2=>
 gd ((⟨#[112,111,114,116,32,48,32,49,48,46,48,47,56]⟩:Bt).size+x2.1.size≤9223372036854775807)<|
 some (((⟨#[112,111,114,116,32,48,32,49,48,46,48,47,56]⟩:Bt)++x2.1),(⟨a0.b,x2.2.p⟩:l1Rd))
else
(if(x1.1==1)=true then
 bd (Qv (⟨a0.b,x1.2.p⟩:l1Rd) ([(⟨#[]⟩:Bt),(⟨#[32,105,110,32,119,101,98]⟩:Bt),(⟨#[32,105,110,32,111,117,116]⟩:Bt)]:List Bt)) fun x4=>
 gd ((⟨#[112,111,114,116,32,49,32,50,48,48,46,48,47,57]⟩:Bt).size+x4.1.size≤9223372036854775807)<|
 some (((⟨#[112,111,114,116,32,49,32,50,48,48,46,48,47,57]⟩:Bt)++x4.1),(⟨a0.b,x4.2.p⟩:l1Rd))
else
(if(x1.1==2)=true then
 some ((⟨#[112,111,114,116,32,50,32,49,49,46,48,47,56]⟩:Bt),(⟨a0.b,x1.2.p⟩:l1Rd))
else
(if(x1.1==3)=true then
 bd (Qv (⟨a0.b,x1.2.p⟩:l1Rd) ([(⟨#[119,101,98]⟩:Bt),(⟨#[111,117,116]⟩:Bt)]:List Bt)) fun x6=>
 gd ((⟨#[114,117,108,101,32]⟩:Bt).size+x6.1.size≤9223372036854775807)<|
 gd (((⟨#[114,117,108,101,32]⟩:Bt)++x6.1).size+(⟨#[32]⟩:Bt).size≤9223372036854775807)<|
 bd (Qv (⟨a0.b,x6.2.p⟩:l1Rd) ([(⟨#[53]⟩:Bt),(⟨#[49,48]⟩:Bt),(⟨#[57,48]⟩:Bt)]:List Bt)) fun x9=>
 gd ((((⟨#[114,117,108,101,32]⟩:Bt)++x6.1)++(⟨#[32]⟩:Bt)).size+x9.1.size≤9223372036854775807)<|
 gd (((((⟨#[114,117,108,101,32]⟩:Bt)++x6.1)++(⟨#[32]⟩:Bt))++x9.1).size+(⟨#[32]⟩:Bt).size≤9223372036854775807)<|
 bd (Qv (⟨a0.b,x9.2.p⟩:l1Rd) ([(⟨#[112,101,114,109,105,116]⟩:Bt),(⟨#[112,101,114,109,105,116]⟩:Bt),(⟨#[100,101,110,121]⟩:Bt)]:List Bt)) fun x12=>
 gd ((((((⟨#[114,117,108,101,32]⟩:Bt)++x6.1)++(⟨#[32]⟩:Bt))++x9.1)++(⟨#[32]⟩:Bt)).size+x12.1.size≤9223372036854775807)<|
 gd (((((((⟨#[114,117,108,101,32]⟩:Bt)++x6.1)++(⟨#[32]⟩:Bt))++x9.1)++(⟨#[32]⟩:Bt))++x12.1).size+(⟨#[32]⟩:Bt).size≤9223372036854775807)<|
 bd (Qv (⟨a0.b,x12.2.p⟩:l1Rd) ([(⟨#[48,46,48,47,48]⟩:Bt),(⟨#[49,48,46,48,47,56]⟩:Bt),(⟨#[50,48,48,46,48,47,57]⟩:Bt),(⟨#[49,48,46,52,47,49,53]⟩:Bt)]:List Bt)) fun x15=>
 gd ((((((((⟨#[114,117,108,101,32]⟩:Bt)++x6.1)++(⟨#[32]⟩:Bt))++x9.1)++(⟨#[32]⟩:Bt))++x12.1)++(⟨#[32]⟩:Bt)).size+x15.1.size≤9223372036854775807)<|
 gd (((((((((⟨#[114,117,108,101,32]⟩:Bt)++x6.1)++(⟨#[32]⟩:Bt))++x9.1)++(⟨#[32]⟩:Bt))++x12.1)++(⟨#[32]⟩:Bt))++x15.1).size+(⟨#[32]⟩:Bt).size≤9223372036854775807)<|
 bd (Qv (⟨a0.b,x15.2.p⟩:l1Rd) ([(⟨#[48,46,48,47,48]⟩:Bt),(⟨#[48,46,48,47,48]⟩:Bt),(⟨#[49,48,46,48,47,56]⟩:Bt),(⟨#[52,56,46,48,47,56]⟩:Bt)]:List Bt)) fun x18=>
 gd ((((((((((⟨#[114,117,108,101,32]⟩:Bt)++x6.1)++(⟨#[32]⟩:Bt))++x9.1)++(⟨#[32]⟩:Bt))++x12.1)++(⟨#[32]⟩:Bt))++x15.1)++(⟨#[32]⟩:Bt)).size+x18.1.size≤9223372036854775807)<|
 gd (((((((((((⟨#[114,117,108,101,32]⟩:Bt)++x6.1)++(⟨#[32]⟩:Bt))++x9.1)++(⟨#[32]⟩:Bt))++x12.1)++(⟨#[32]⟩:Bt))++x15.1)++(⟨#[32]⟩:Bt))++x18.1).size+(⟨#[32]⟩:Bt).size≤9223372036854775807)<|
 bd (Qv (⟨a0.b,x18.2.p⟩:l1Rd) ([(⟨#[48]⟩:Bt),(⟨#[49]⟩:Bt),(⟨#[50]⟩:Bt)]:List Bt)) fun x21=>
 gd ((((((((((((⟨#[114,117,108,101,32]⟩:Bt)++x6.1)++(⟨#[32]⟩:Bt))++x9.1)++(⟨#[32]⟩:Bt))++x12.1)++(⟨#[32]⟩:Bt))++x15.1)++(⟨#[32]⟩:Bt))++x18.1)++(⟨#[32]⟩:Bt)).size+x21.1.size≤9223372036854775807)<|
 some (((((((((((((⟨#[114,117,108,101,32]⟩:Bt)++x6.1)++(⟨#[32]⟩:Bt))++x9.1)++(⟨#[32]⟩:Bt))++x12.1)++(⟨#[32]⟩:Bt))++x15.1)++(⟨#[32]⟩:Bt))++x18.1)++(⟨#[32]⟩:Bt))++x21.1),(⟨a0.b,x21.2.p⟩:l1Rd))
else
 bd (α:=Bool) ((if(x1.1==4)=true then
 some (x1.1==4)
else
 some (x1.1==5))) fun x23=>
(if x23=true then
 bd (Qv (⟨a0.b,x1.2.p⟩:l1Rd) ([(⟨#[48,46,48,47,48]⟩:Bt),(⟨#[52,56,46,48,47,56]⟩:Bt),(⟨#[52,56,46,48,47,49,50]⟩:Bt),(⟨#[49,48,46,49,50,56,47,57]⟩:Bt),(⟨#[50,48,48,46,54,52,47,49,48]⟩:Bt)]:List Bt)) fun x26=>
 gd ((⟨#[114,111,117,116,101,32]⟩:Bt).size+x26.1.size≤9223372036854775807)<|
 gd (((⟨#[114,111,117,116,101,32]⟩:Bt)++x26.1).size+(⟨#[32]⟩:Bt).size≤9223372036854775807)<|
 bd (Qv (⟨a0.b,x26.2.p⟩:l1Rd) ([(⟨#[50,48,48,46,49]⟩:Bt),(⟨#[49,48,46,49]⟩:Bt),(⟨#[50,48,48,46,51]⟩:Bt),(⟨#[49,49,46,52]⟩:Bt)]:List Bt)) fun x29=>
 gd ((((⟨#[114,111,117,116,101,32]⟩:Bt)++x26.1)++(⟨#[32]⟩:Bt)).size+x29.1.size≤9223372036854775807)<|
 some (((((⟨#[114,111,117,116,101,32]⟩:Bt)++x26.1)++(⟨#[32]⟩:Bt))++x29.1),(⟨a0.b,x29.2.p⟩:l1Rd))
else
 bd (α:=Bool) ((if(x1.1==6)=true then
 some (x1.1==6)
else
(if(x1.1==7)=true then
 some (x1.1==7)
else
 some (x1.1==8)))) fun x31=>
(if x31=true then
 bd (Qv (⟨a0.b,x1.2.p⟩:l1Rd) ([(⟨#[49,48,46,49,32,49,32,55]⟩:Bt),(⟨#[49,49,46,52,32,49,32,55]⟩:Bt),(⟨#[50,48,48,46,49,32,49,32,55]⟩:Bt),(⟨#[50,48,48,46,49,32,50,32,49,50,51,52,53,54,55]⟩:Bt),(⟨#[49,48,46,49,32,57,32,57,57,57,57,57,57]⟩:Bt)]:List Bt)) fun x34=>
 gd ((⟨#[112,101,101,114,32]⟩:Bt).size+x34.1.size≤9223372036854775807)<|
 some (((⟨#[112,101,101,114,32]⟩:Bt)++x34.1),(⟨a0.b,x34.2.p⟩:l1Rd))
else
(if(x1.1==9)=true then
 bd (Qv (⟨a0.b,x1.2.p⟩:l1Rd) ([(⟨#[50,48,48,46,57]⟩:Bt),(⟨#[50,48,48,46,48]⟩:Bt)]:List Bt)) fun x36=>
 gd ((⟨#[110,97,116,32,49,48,46,48,47,56,32]⟩:Bt).size+x36.1.size≤9223372036854775807)<|
 gd (((⟨#[110,97,116,32,49,48,46,48,47,56,32]⟩:Bt)++x36.1).size+(⟨#[32]⟩:Bt).size≤9223372036854775807)<|
 bd (Qv (⟨a0.b,x36.2.p⟩:l1Rd) ([(⟨#[52,48,32,52,51]⟩:Bt),(⟨#[52,48,32,52,48]⟩:Bt)]:List Bt)) fun x39=>
 gd ((((⟨#[110,97,116,32,49,48,46,48,47,56,32]⟩:Bt)++x36.1)++(⟨#[32]⟩:Bt)).size+x39.1.size≤9223372036854775807)<|
 some (((((⟨#[110,97,116,32,49,48,46,48,47,56,32]⟩:Bt)++x36.1)++(⟨#[32]⟩:Bt))++x39.1),(⟨a0.b,x39.2.p⟩:l1Rd))
else
(if(x1.1==10)=true then
 bd (Qv (⟨a0.b,x1.2.p⟩:l1Rd) ([(⟨#[50,50]⟩:Bt),(⟨#[56,48]⟩:Bt)]:List Bt)) fun x41=>
 gd ((⟨#[100,111,111,114,32,49,32]⟩:Bt).size+x41.1.size≤9223372036854775807)<|
 gd (((⟨#[100,111,111,114,32,49,32]⟩:Bt)++x41.1).size+(⟨#[32]⟩:Bt).size≤9223372036854775807)<|
 bd (Qv (⟨a0.b,x41.2.p⟩:l1Rd) ([(⟨#[49,48,46,53]⟩:Bt),(⟨#[49,48,46,54]⟩:Bt)]:List Bt)) fun x44=>
 gd ((((⟨#[100,111,111,114,32,49,32]⟩:Bt)++x41.1)++(⟨#[32]⟩:Bt)).size+x44.1.size≤9223372036854775807)<|
 gd (((((⟨#[100,111,111,114,32,49,32]⟩:Bt)++x41.1)++(⟨#[32]⟩:Bt))++x44.1).size+(⟨#[32,50,50]⟩:Bt).size≤9223372036854775807)<|
 some ((((((⟨#[100,111,111,114,32,49,32]⟩:Bt)++x41.1)++(⟨#[32]⟩:Bt))++x44.1)++(⟨#[32,50,50]⟩:Bt)),(⟨a0.b,x44.2.p⟩:l1Rd))
else
 bd (Qbi (⟨a0.b,x1.2.p⟩:QzT)) fun x47=>
 some (x47.1,(⟨a0.b,x47.2.p⟩:l1Rd))))))))))
theorem QlI {a0:l1Rd} {r:Bt×l1Rd} (h:Qch a0=some r):EffC prog 198 [.ref 9000 0 0] [(9000,.box 156 [.d (slD QP a0.b),dI a0.p])] (.d (.str r.1)) [(9000,.box 156 [.d (slD QP a0.b),dI r.2.p])]:=by
 refine QaR tOk (fn:=f198) (c:=Ql f198) rfl rfl ?_;unfold Qch at h;(conv=>whnf);refine Qd tOk ?_;(conv=>whnf);obtain⟨x1,hx1,h⟩:=Qa h;refine cE [(9000,9000)] 0 (Jd hx1) ?_;(conv=>whnf);refine QC h (fun _ h=>?_) (fun _ h=>?_)
 ·(conv=>whnf);refine J1 (enc:=Qi) ([(⟨#[]⟩:Bt),(⟨#[32,105,110,32,119,101,98]⟩:Bt),(⟨#[32,105,110,32,111,117,116]⟩:Bt)]:List Bt) ?_;(conv=>whnf);obtain⟨x2,hx2,h⟩:=Qa h;refine Zy [8] ?_;(conv=>whnf);refine cE [(9000,9000)] 0 (QG hx2) ?_;(conv=>whnf);refine gdI h (fun h=>?_);(conv=>whnf);obtain rfl:=sj_ h;exact lfE []
 ·(conv=>whnf);refine QC h (fun _ h=>?_) (fun _ h=>?_)
  ·(conv=>whnf);refine J1 (enc:=Qi) ([(⟨#[]⟩:Bt),(⟨#[32,105,110,32,119,101,98]⟩:Bt),(⟨#[32,105,110,32,111,117,116]⟩:Bt)]:List Bt) ?_;(conv=>whnf);obtain⟨x4,hx4,h⟩:=Qa h;refine Zy [14] ?_;(conv=>whnf);refine cE [(9000,9000)] 0 (QG hx4) ?_;(conv=>whnf);refine gdI h (fun h=>?_);(conv=>whnf);obtain rfl:=sj_ h;exact lfE []
  ·(conv=>whnf);refine QC h (fun _ h=>?_) (fun _ h=>?_)
   ·(conv=>whnf);obtain rfl:=sj_ h;exact lfE []
   ·(conv=>whnf);refine QC h (fun _ h=>?_) (fun _ h=>?_)
    ·(conv=>whnf);refine J1 (enc:=Qi) ([(⟨#[119,101,98]⟩:Bt),(⟨#[111,117,116]⟩:Bt)]:List Bt) ?_;(conv=>whnf);obtain⟨x6,hx6,h⟩:=Qa h;refine Zy [22] ?_;(conv=>whnf);refine cE [(9000,9000)] 0 (QG hx6) ?_;(conv=>whnf);refine gdI h (fun h=>?_);(conv=>whnf);refine gdI h (fun h=>?_);(conv=>whnf);refine J1 (enc:=Qi) ([(⟨#[53]⟩:Bt),(⟨#[49,48]⟩:Bt),(⟨#[57,48]⟩:Bt)]:List Bt) ?_;(conv=>whnf);obtain⟨x9,hx9,h⟩:=Qa h;refine Zy [27] ?_;(conv=>whnf);refine cE [(9000,9000)] 0 (QG hx9) ?_;(conv=>whnf);refine gdI h (fun h=>?_);(conv=>whnf);refine gdI h (fun h=>?_);(conv=>whnf);refine J1 (enc:=Qi) ([(⟨#[112,101,114,109,105,116]⟩:Bt),(⟨#[112,101,114,109,105,116]⟩:Bt),(⟨#[100,101,110,121]⟩:Bt)]:List Bt) ?_;(conv=>whnf);obtain⟨x12,hx12,h⟩:=Qa h;refine Zy [32] ?_;(conv=>whnf);refine cE [(9000,9000)] 0 (QG hx12) ?_;(conv=>whnf);refine gdI h (fun h=>?_);(conv=>whnf);refine gdI h (fun h=>?_);(conv=>whnf);refine J1 (enc:=Qi) ([(⟨#[48,46,48,47,48]⟩:Bt),(⟨#[49,48,46,48,47,56]⟩:Bt),(⟨#[50,48,48,46,48,47,57]⟩:Bt),(⟨#[49,48,46,52,47,49,53]⟩:Bt)]:List Bt) ?_;(conv=>whnf);obtain⟨x15,hx15,h⟩:=Qa h;refine Zy [37] ?_;(conv=>whnf);refine cE [(9000,9000)] 0 (QG hx15) ?_;(conv=>whnf);refine gdI h (fun h=>?_);(conv=>whnf);refine gdI h (fun h=>?_);(conv=>whnf);refine J1 (enc:=Qi) ([(⟨#[48,46,48,47,48]⟩:Bt),(⟨#[48,46,48,47,48]⟩:Bt),(⟨#[49,48,46,48,47,56]⟩:Bt),(⟨#[52,56,46,48,47,56]⟩:Bt)]:List Bt) ?_;(conv=>whnf);obtain⟨x18,hx18,h⟩:=Qa h;refine Zy [42] ?_;(conv=>whnf);refine cE [(9000,9000)] 0 (QG hx18) ?_;(conv=>whnf);refine gdI h (fun h=>?_);(conv=>whnf);refine gdI h (fun h=>?_);(conv=>whnf);refine J1 (enc:=Qi) ([(⟨#[48]⟩:Bt),(⟨#[49]⟩:Bt),(⟨#[50]⟩:Bt)]:List Bt) ?_;(conv=>whnf);obtain⟨x21,hx21,h⟩:=Qa h;refine Zy [47] ?_;(conv=>whnf);refine cE [(9000,9000)] 0 (QG hx21) ?_;(conv=>whnf);refine gdI h (fun h=>?_);(conv=>whnf);obtain rfl:=sj_ h;exact lfE []
    ·(conv=>whnf);obtain⟨x23,hx23,h⟩:=Qa h;refine QcL tOk (fun s24=>⟨0,96,[(0,.ref 9000 0 0),(4,dI x1.1),(50,dB s24)],[],[(9000,.box 156 [.d (slD QP a0.b),dI x1.2.p])],[⟨[(0,.ref 9000 0 0)],[]⟩]⟩) (fun s24=>x23=s24) ?_ ?_
     ·(conv=>whnf);refine QC hx23 (fun _ hx23=>?_) (fun _ hx23=>?_)
      ·(conv=>whnf);obtain rfl:=sj_ hx23;exact⟨_,rfl,leX []⟩
      ·(conv=>whnf);obtain rfl:=sj_ hx23;exact⟨_,rfl,leX []⟩
     ·rintro _ rfl;(conv=>whnf);refine QC h (fun _ h=>?_) (fun _ h=>?_)
      ·(conv=>whnf);refine J1 (enc:=Qi) ([(⟨#[48,46,48,47,48]⟩:Bt),(⟨#[52,56,46,48,47,56]⟩:Bt),(⟨#[52,56,46,48,47,49,50]⟩:Bt),(⟨#[49,48,46,49,50,56,47,57]⟩:Bt),(⟨#[50,48,48,46,54,52,47,49,48]⟩:Bt)]:List Bt) ?_;(conv=>whnf);obtain⟨x26,hx26,h⟩:=Qa h;refine Zy [54] ?_;(conv=>whnf);refine cE [(9000,9000)] 0 (QG hx26) ?_;(conv=>whnf);refine gdI h (fun h=>?_);(conv=>whnf);refine gdI h (fun h=>?_);(conv=>whnf);refine J1 (enc:=Qi) ([(⟨#[50,48,48,46,49]⟩:Bt),(⟨#[49,48,46,49]⟩:Bt),(⟨#[50,48,48,46,51]⟩:Bt),(⟨#[49,49,46,52]⟩:Bt)]:List Bt) ?_;(conv=>whnf);obtain⟨x29,hx29,h⟩:=Qa h;refine Zy [59] ?_;(conv=>whnf);refine cE [(9000,9000)] 0 (QG hx29) ?_;(conv=>whnf);refine gdI h (fun h=>?_);(conv=>whnf);obtain rfl:=sj_ h;exact lfE []
      ·(conv=>whnf);obtain⟨x31,hx31,h⟩:=Qa h;refine QcL tOk (fun s32=>⟨0,96,[(0,.ref 9000 0 0),(4,dI x1.1),(62,dB s32)],[],[(9000,.box 156 [.d (slD QP a0.b),dI x1.2.p])],[⟨[(0,.ref 9000 0 0)],[]⟩]⟩) (fun s32=>x31=s32) ?_ ?_
       ·(conv=>whnf);refine QC hx31 (fun _ hx31=>?_) (fun _ hx31=>?_)
        ·(conv=>whnf);obtain rfl:=sj_ hx31;exact⟨_,rfl,leX []⟩
        ·(conv=>whnf);refine QC hx31 (fun _ hx31=>?_) (fun _ hx31=>?_)
         ·(conv=>whnf);obtain rfl:=sj_ hx31;exact⟨_,rfl,leX []⟩
         ·(conv=>whnf);obtain rfl:=sj_ hx31;exact⟨_,rfl,leX []⟩
       ·rintro _ rfl;(conv=>whnf);refine QC h (fun _ h=>?_) (fun _ h=>?_)
        ·(conv=>whnf);refine J1 (enc:=Qi) ([(⟨#[49,48,46,49,32,49,32,55]⟩:Bt),(⟨#[49,49,46,52,32,49,32,55]⟩:Bt),(⟨#[50,48,48,46,49,32,49,32,55]⟩:Bt),(⟨#[50,48,48,46,49,32,50,32,49,50,51,52,53,54,55]⟩:Bt),(⟨#[49,48,46,49,32,57,32,57,57,57,57,57,57]⟩:Bt)]:List Bt) ?_;(conv=>whnf);obtain⟨x34,hx34,h⟩:=Qa h;refine Zy [67] ?_;(conv=>whnf);refine cE [(9000,9000)] 0 (QG hx34) ?_;(conv=>whnf);refine gdI h (fun h=>?_);(conv=>whnf);obtain rfl:=sj_ h;exact lfE []
        ·(conv=>whnf);refine QC h (fun _ h=>?_) (fun _ h=>?_)
         ·(conv=>whnf);refine J1 (enc:=Qi) ([(⟨#[50,48,48,46,57]⟩:Bt),(⟨#[50,48,48,46,48]⟩:Bt)]:List Bt) ?_;(conv=>whnf);obtain⟨x36,hx36,h⟩:=Qa h;refine Zy [73] ?_;(conv=>whnf);refine cE [(9000,9000)] 0 (QG hx36) ?_;(conv=>whnf);refine gdI h (fun h=>?_);(conv=>whnf);refine gdI h (fun h=>?_);(conv=>whnf);refine J1 (enc:=Qi) ([(⟨#[52,48,32,52,51]⟩:Bt),(⟨#[52,48,32,52,48]⟩:Bt)]:List Bt) ?_;(conv=>whnf);obtain⟨x39,hx39,h⟩:=Qa h;refine Zy [78] ?_;(conv=>whnf);refine cE [(9000,9000)] 0 (QG hx39) ?_;(conv=>whnf);refine gdI h (fun h=>?_);(conv=>whnf);obtain rfl:=sj_ h;exact lfE []
         ·(conv=>whnf);refine QC h (fun _ h=>?_) (fun _ h=>?_)
          ·(conv=>whnf);refine J1 (enc:=Qi) ([(⟨#[50,50]⟩:Bt),(⟨#[56,48]⟩:Bt)]:List Bt) ?_;(conv=>whnf);obtain⟨x41,hx41,h⟩:=Qa h;refine Zy [84] ?_;(conv=>whnf);refine cE [(9000,9000)] 0 (QG hx41) ?_;(conv=>whnf);refine gdI h (fun h=>?_);(conv=>whnf);refine gdI h (fun h=>?_);(conv=>whnf);refine J1 (enc:=Qi) ([(⟨#[49,48,46,53]⟩:Bt),(⟨#[49,48,46,54]⟩:Bt)]:List Bt) ?_;(conv=>whnf);obtain⟨x44,hx44,h⟩:=Qa h;refine Zy [89] ?_;(conv=>whnf);refine cE [(9000,9000)] 0 (QG hx44) ?_;(conv=>whnf);refine gdI h (fun h=>?_);(conv=>whnf);refine gdI h (fun h=>?_);(conv=>whnf);obtain rfl:=sj_ h;exact lfE []
          ·(conv=>whnf);refine Qw1 tOk 20000 (fn:=f137) (c:=Ql f137) rfl rfl (by kernel_rfl) rfl ?_;(conv=>whnf);obtain⟨x47,hx47,h⟩:=Qa h;refine cE [(9000,9000)] 0 (QgV hx47) ?_;(conv=>whnf);obtain rfl:=sj_ h;exact lfE []
def Qci (a0:l1Rd):Option ((List Bt)×l1Rd):=
 bd (lp (σ:=Int×List Bt×Int) (β:=((List Bt)×Int)) (fun s1=>
(if(decide (s1.2.2<((([(⟨#[112,111,114,116,32,48,32,49,48,46,48,47,56]⟩:Bt),(⟨#[112,111,114,116,32,49,32,50,48,48,46,48,47,57]⟩:Bt),(⟨#[112,101,101,114,32,49,48,46,49,32,49,32,55]⟩:Bt),(⟨#[112,101,101,114,32,50,48,48,46,49,32,49,32,55]⟩:Bt),(⟨#[110,97,116,32,49,48,46,48,47,56,32,50,48,48,46,57,32,52,48,32,52,51]⟩:Bt),(⟨#[114,111,117,116,101,32,48,46,48,47,48,32,50,48,48,46,49]⟩:Bt)]:List Bt).length:Nat):Int)))=true then
 bd (Zc (⟨a0.b,s1.1⟩:l1Rd) 12) fun x5=>
(if(decide (x5.1>0))=true then
(if(s1.2.2 !=4)=true then
(if((decide (x5.1>0))&&((s1.2.2 !=4)||((0:Int)==0)))=true then
 gd ((0:Int)≤s1.2.2∧s1.2.2<((([(⟨#[112,111,114,116,32,48,32,49,48,46,48,47,56]⟩:Bt),(⟨#[112,111,114,116,32,49,32,50,48,48,46,48,47,57]⟩:Bt),(⟨#[112,101,101,114,32,49,48,46,49,32,49,32,55]⟩:Bt),(⟨#[112,101,101,114,32,50,48,48,46,49,32,49,32,55]⟩:Bt),(⟨#[110,97,116,32,49,48,46,48,47,56,32,50,48,48,46,57,32,52,48,32,52,51]⟩:Bt),(⟨#[114,111,117,116,101,32,48,46,48,47,48,32,50,48,48,46,49]⟩:Bt)]:List Bt).length:Nat):Int))<|
 bd (ZS s1.2.1 (([(⟨#[112,111,114,116,32,48,32,49,48,46,48,47,56]⟩:Bt),(⟨#[112,111,114,116,32,49,32,50,48,48,46,48,47,57]⟩:Bt),(⟨#[112,101,101,114,32,49,48,46,49,32,49,32,55]⟩:Bt),(⟨#[112,101,101,114,32,50,48,48,46,49,32,49,32,55]⟩:Bt),(⟨#[110,97,116,32,49,48,46,48,47,56,32,50,48,48,46,57,32,52,48,32,52,51]⟩:Bt),(⟨#[114,111,117,116,101,32,48,46,48,47,48,32,50,48,48,46,49]⟩:Bt)]:List Bt).getD s1.2.2.toNat default)) fun x12=>
 some (.inl (x5.2.p,x12,IntKind.i64.wrap (s1.2.2+1)))
else
 some (.inl (x5.2.p,s1.2.1,IntKind.i64.wrap (s1.2.2+1))))
else
 bd (Zc (⟨a0.b,x5.2.p⟩:l1Rd) 2) fun x7=>
(if((decide (x5.1>0))&&((s1.2.2 !=4)||(x7.1==0)))=true then
 gd ((0:Int)≤s1.2.2∧s1.2.2<((([(⟨#[112,111,114,116,32,48,32,49,48,46,48,47,56]⟩:Bt),(⟨#[112,111,114,116,32,49,32,50,48,48,46,48,47,57]⟩:Bt),(⟨#[112,101,101,114,32,49,48,46,49,32,49,32,55]⟩:Bt),(⟨#[112,101,101,114,32,50,48,48,46,49,32,49,32,55]⟩:Bt),(⟨#[110,97,116,32,49,48,46,48,47,56,32,50,48,48,46,57,32,52,48,32,52,51]⟩:Bt),(⟨#[114,111,117,116,101,32,48,46,48,47,48,32,50,48,48,46,49]⟩:Bt)]:List Bt).length:Nat):Int))<|
 bd (ZS s1.2.1 (([(⟨#[112,111,114,116,32,48,32,49,48,46,48,47,56]⟩:Bt),(⟨#[112,111,114,116,32,49,32,50,48,48,46,48,47,57]⟩:Bt),(⟨#[112,101,101,114,32,49,48,46,49,32,49,32,55]⟩:Bt),(⟨#[112,101,101,114,32,50,48,48,46,49,32,49,32,55]⟩:Bt),(⟨#[110,97,116,32,49,48,46,48,47,56,32,50,48,48,46,57,32,52,48,32,52,51]⟩:Bt),(⟨#[114,111,117,116,101,32,48,46,48,47,48,32,50,48,48,46,49]⟩:Bt)]:List Bt).getD s1.2.2.toNat default)) fun x9=>
 some (.inl (x7.2.p,x9,IntKind.i64.wrap (s1.2.2+1)))
else
 some (.inl (x7.2.p,s1.2.1,IntKind.i64.wrap (s1.2.2+1)))))
else
(if((decide (x5.1>0))&&((s1.2.2 !=4)||((0:Int)==0)))=true then
 gd ((0:Int)≤s1.2.2∧s1.2.2<((([(⟨#[112,111,114,116,32,48,32,49,48,46,48,47,56]⟩:Bt),(⟨#[112,111,114,116,32,49,32,50,48,48,46,48,47,57]⟩:Bt),(⟨#[112,101,101,114,32,49,48,46,49,32,49,32,55]⟩:Bt),(⟨#[112,101,101,114,32,50,48,48,46,49,32,49,32,55]⟩:Bt),(⟨#[110,97,116,32,49,48,46,48,47,56,32,50,48,48,46,57,32,52,48,32,52,51]⟩:Bt),(⟨#[114,111,117,116,101,32,48,46,48,47,48,32,50,48,48,46,49]⟩:Bt)]:List Bt).length:Nat):Int))<|
 bd (ZS s1.2.1 (([(⟨#[112,111,114,116,32,48,32,49,48,46,48,47,56]⟩:Bt),(⟨#[112,111,114,116,32,49,32,50,48,48,46,48,47,57]⟩:Bt),(⟨#[112,101,101,114,32,49,48,46,49,32,49,32,55]⟩:Bt),(⟨#[112,101,101,114,32,50,48,48,46,49,32,49,32,55]⟩:Bt),(⟨#[110,97,116,32,49,48,46,48,47,56,32,50,48,48,46,57,32,52,48,32,52,51]⟩:Bt),(⟨#[114,111,117,116,101,32,48,46,48,47,48,32,50,48,48,46,49]⟩:Bt)]:List Bt).getD s1.2.2.toNat default)) fun x12=>
 some (.inl (x5.2.p,x12,IntKind.i64.wrap (s1.2.2+1)))
else
 some (.inl (x5.2.p,s1.2.1,IntKind.i64.wrap (s1.2.2+1)))))
else
 some (.inr (s1.2.1,s1.1)))) (a0.p,([(⟨#[117,115,101,114,32,97,110,110,32,97,108,108]⟩:Bt)]:List Bt),0)) fun x4=>
 bd (α:=Int×List Bt) (bd (Zc (⟨a0.b,x4.2⟩:l1Rd) 2) fun x17=>
(if(x17.1==0)=true then
 bd (Qv (⟨a0.b,x17.2.p⟩:l1Rd) ([(⟨#[112,101,114,109,105,116]⟩:Bt),(⟨#[100,101,110,121]⟩:Bt)]:List Bt)) fun x18=>
 gd ((⟨#[114,117,108,101,32,119,101,98,32,49,48,32]⟩:Bt).size+x18.1.size≤9223372036854775807)<|
 gd (((⟨#[114,117,108,101,32,119,101,98,32,49,48,32]⟩:Bt)++x18.1).size+(⟨#[32]⟩:Bt).size≤9223372036854775807)<|
 bd (Qv (⟨a0.b,x18.2.p⟩:l1Rd) ([(⟨#[48,46,48,47,48]⟩:Bt),(⟨#[49,48,46,52,47,49,53]⟩:Bt),(⟨#[52,56,46,48,47,56]⟩:Bt)]:List Bt)) fun x21=>
 gd ((((⟨#[114,117,108,101,32,119,101,98,32,49,48,32]⟩:Bt)++x18.1)++(⟨#[32]⟩:Bt)).size+x21.1.size≤9223372036854775807)<|
 gd (((((⟨#[114,117,108,101,32,119,101,98,32,49,48,32]⟩:Bt)++x18.1)++(⟨#[32]⟩:Bt))++x21.1).size+(⟨#[32]⟩:Bt).size≤9223372036854775807)<|
 bd (Qv (⟨a0.b,x21.2.p⟩:l1Rd) ([(⟨#[48,46,48,47,48]⟩:Bt),(⟨#[52,56,46,48,47,56]⟩:Bt),(⟨#[50,48,48,46,48,47,57]⟩:Bt)]:List Bt)) fun x24=>
 gd ((((((⟨#[114,117,108,101,32,119,101,98,32,49,48,32]⟩:Bt)++x18.1)++(⟨#[32]⟩:Bt))++x21.1)++(⟨#[32]⟩:Bt)).size+x24.1.size≤9223372036854775807)<|
 gd (((((((⟨#[114,117,108,101,32,119,101,98,32,49,48,32]⟩:Bt)++x18.1)++(⟨#[32]⟩:Bt))++x21.1)++(⟨#[32]⟩:Bt))++x24.1).size+(⟨#[32]⟩:Bt).size≤9223372036854775807)<|
 bd (Qv (⟨a0.b,x24.2.p⟩:l1Rd) ([(⟨#[48]⟩:Bt),(⟨#[49]⟩:Bt),(⟨#[50]⟩:Bt)]:List Bt)) fun x27=>
 gd ((((((((⟨#[114,117,108,101,32,119,101,98,32,49,48,32]⟩:Bt)++x18.1)++(⟨#[32]⟩:Bt))++x21.1)++(⟨#[32]⟩:Bt))++x24.1)++(⟨#[32]⟩:Bt)).size+x27.1.size≤9223372036854775807)<|
 bd (ZS x4.1 ((((((((⟨#[114,117,108,101,32,119,101,98,32,49,48,32]⟩:Bt)++x18.1)++(⟨#[32]⟩:Bt))++x21.1)++(⟨#[32]⟩:Bt))++x24.1)++(⟨#[32]⟩:Bt))++x27.1)) fun x29=>
 bd (Qv (⟨a0.b,x27.2.p⟩:l1Rd) ([(⟨#[48]⟩:Bt),(⟨#[49]⟩:Bt)]:List Bt)) fun x30=>
 gd ((⟨#[114,117,108,101,32,119,101,98,32,50,48,32,112,101,114,109,105,116,32,48,46,48,47,48,32,48,46,48,47,48,32]⟩:Bt).size+x30.1.size≤9223372036854775807)<|
 bd (ZS x29 ((⟨#[114,117,108,101,32,119,101,98,32,50,48,32,112,101,114,109,105,116,32,48,46,48,47,48,32,48,46,48,47,48,32]⟩:Bt)++x30.1)) fun x32=>
 bd (Qv (⟨a0.b,x30.2.p⟩:l1Rd) ([(⟨#[112,111,114,116,32,48,32,49,48,46,48,47,56,32,105,110,32,119,101,98]⟩:Bt),(⟨#[112,111,114,116,32,49,32,50,48,48,46,48,47,57,32,105,110,32,119,101,98]⟩:Bt)]:List Bt)) fun x33=>
 bd (ZS x32 x33.1) fun x34=>
 some (x33.2.p,x34)
else
 some (x17.2.p,x4.1))) fun x14=>
 bd (Zc (⟨a0.b,x14.1⟩:l1Rd) 6) fun x35=>
 bd (lp (σ:=Int×List Bt×Int) (β:=((List Bt)×Int)) (fun s36=>
(if(decide (s36.2.2>0))=true then
 bd (Qch (⟨a0.b,s36.1⟩:l1Rd)) fun x40=>
 bd (ZS s36.2.1 x40.1) fun x41=>
 some (.inl (x40.2.p,x41,IntKind.i64.wrap (s36.2.2-1)))
else
 some (.inr (s36.2.1,s36.1)))) (x35.2.p,x14.2,x35.1)) fun x39=>
 some (x39.1,(⟨a0.b,x39.2⟩:l1Rd))
theorem QlJ {a0:l1Rd} {r:(List Bt)×l1Rd} (h:Qci a0=some r):EffC prog 135 [.ref 9000 0 0] [(9000,.box 156 [.d (slD QP a0.b),dI a0.p])] (.d (slD Qi r.1)) [(9000,.box 156 [.d (slD QP a0.b),dI r.2.p])]:=by
 refine QaR tOk (fn:=f135) (c:=Ql f135) rfl rfl ?_;unfold Qci at h;(conv=>whnf);refine J1 (enc:=Qi) ([(⟨#[117,115,101,114,32,97,110,110,32,97,108,108]⟩:Bt)]:List Bt) ?_;(conv=>whnf);refine J1 (enc:=Qi) ([(⟨#[112,111,114,116,32,48,32,49,48,46,48,47,56]⟩:Bt),(⟨#[112,111,114,116,32,49,32,50,48,48,46,48,47,57]⟩:Bt),(⟨#[112,101,101,114,32,49,48,46,49,32,49,32,55]⟩:Bt),(⟨#[112,101,101,114,32,50,48,48,46,49,32,49,32,55]⟩:Bt),(⟨#[110,97,116,32,49,48,46,48,47,56,32,50,48,48,46,57,32,52,48,32,52,51]⟩:Bt),(⟨#[114,111,117,116,101,32,48,46,48,47,48,32,50,48,48,46,49]⟩:Bt)]:List Bt) ?_;(conv=>whnf);refine Qd tOk ?_;(conv=>whnf);obtain⟨x4,hx4,h⟩:=Qa h;refine QD tOk hx4 (fun s1=>⟨0,79,[(0,.ref 9000 0 0),(3,.d (slD Qi s1.2.1)),(4,.osl 8 0 (([(⟨#[112,111,114,116,32,48,32,49,48,46,48,47,56]⟩:Bt),(⟨#[112,111,114,116,32,49,32,50,48,48,46,48,47,57]⟩:Bt),(⟨#[112,101,101,114,32,49,48,46,49,32,49,32,55]⟩:Bt),(⟨#[112,101,101,114,32,50,48,48,46,49,32,49,32,55]⟩:Bt),(⟨#[110,97,116,32,49,48,46,48,47,56,32,50,48,48,46,57,32,52,48,32,52,51]⟩:Bt),(⟨#[114,111,117,116,101,32,48,46,48,47,48,32,50,48,48,46,49]⟩:Bt)]:List Bt).length)),(5,dI s1.2.2)],[],[(8,.arr 9 1 (([(⟨#[112,111,114,116,32,48,32,49,48,46,48,47,56]⟩:Bt),(⟨#[112,111,114,116,32,49,32,50,48,48,46,48,47,57]⟩:Bt),(⟨#[112,101,101,114,32,49,48,46,49,32,49,32,55]⟩:Bt),(⟨#[112,101,101,114,32,50,48,48,46,49,32,49,32,55]⟩:Bt),(⟨#[110,97,116,32,49,48,46,48,47,56,32,50,48,48,46,57,32,52,48,32,52,51]⟩:Bt),(⟨#[114,111,117,116,101,32,48,46,48,47,48,32,50,48,48,46,49]⟩:Bt)]:List Bt).length) (rows Qi ([(⟨#[112,111,114,116,32,48,32,49,48,46,48,47,56]⟩:Bt),(⟨#[112,111,114,116,32,49,32,50,48,48,46,48,47,57]⟩:Bt),(⟨#[112,101,101,114,32,49,48,46,49,32,49,32,55]⟩:Bt),(⟨#[112,101,101,114,32,50,48,48,46,49,32,49,32,55]⟩:Bt),(⟨#[110,97,116,32,49,48,46,48,47,56,32,50,48,48,46,57,32,52,48,32,52,51]⟩:Bt),(⟨#[114,111,117,116,101,32,48,46,48,47,48,32,50,48,48,46,49]⟩:Bt)]:List Bt))),(9000,.box 156 [.d (slD QP a0.b),dI s1.1])],[⟨[(0,.ref 9000 0 0)],[]⟩]⟩) ?_ ?_
 ·exact leX [.f [7]]
 ·clear hx4;intro s1 y2 g3 hy2;(conv=>whnf);refine Qd tOk ?_;(conv=>whnf);refine QC g3 (fun _ g3=>?_) (fun _ g3=>?_)
  ·(conv=>whnf);refine Qd tOk ?_;(conv=>whnf);obtain⟨x5,hx5,g3⟩:=Qa g3;refine cE [(9000,9000)] 0 (Jd hx5) ?_;(conv=>whnf);refine spI g3 (fun hb10 g3=>?_) (fun hb10 g3=>?_)
   ·refine spI g3 (fun hb6 g3=>?_) (fun hb6 g3=>?_)
    ·refine Qnc (dI 0) ?_ (by(conv=>whnf);intro q1;(conv=>whnf);intro q2;first|exact absurd (hb6.symm.trans q1) (by simp)|exact absurd (hb6.symm.trans q2) (by simp))
     (conv=>whnf);refine QC g3 (fun _ g3=>?_) (fun _ g3=>?_)
     ·(conv=>whnf);refine gdI g3 (fun g3=>?_);(conv=>whnf);obtain⟨x12,hx12,g3⟩:=Qa g3;refine cE [] 0 (Qal hx12) ?_;(conv=>whnf);obtain rfl:=sj_ g3;exact⟨_,rfl,leX []⟩
     ·(conv=>whnf);obtain rfl:=sj_ g3;exact⟨_,rfl,leX []⟩
    ·obtain⟨x7,hx7,g3⟩:=Qa g3;refine Qs1 [(9000,9000)] 0 (Jd hx7) (by(conv=>whnf);exact⟨fun _ q=>absurd (q.symm.trans hb6) (by simp),fun q=>absurd (q.symm.trans hb10) (by simp)⟩) ?_;(conv=>whnf);refine QC g3 (fun _ g3=>?_) (fun _ g3=>?_)
     ·(conv=>whnf);refine gdI g3 (fun g3=>?_);(conv=>whnf);obtain⟨x9,hx9,g3⟩:=Qa g3;refine cE [] 0 (Qal hx9) ?_;(conv=>whnf);obtain rfl:=sj_ g3;exact⟨_,rfl,leX []⟩
     ·(conv=>whnf);obtain rfl:=sj_ g3;exact⟨_,rfl,leX []⟩
   ·refine Qnc (dI 0) ?_ (by(conv=>whnf);intro q1;(conv=>whnf);intro q2;first|exact absurd (hb10.symm.trans q1) (by simp)|exact absurd (hb10.symm.trans q2) (by simp))
    (conv=>whnf);refine QC g3 (fun _ g3=>?_) (fun _ g3=>?_)
    ·(conv=>whnf);refine gdI g3 (fun g3=>?_);(conv=>whnf);obtain⟨x12,hx12,g3⟩:=Qa g3;refine cE [] 0 (Qal hx12) ?_;(conv=>whnf);obtain rfl:=sj_ g3;exact⟨_,rfl,leX []⟩
    ·(conv=>whnf);obtain rfl:=sj_ g3;exact⟨_,rfl,leX []⟩
  ·(conv=>whnf);obtain rfl:=sj_ g3;obtain rfl:=hy2 _ rfl;obtain⟨x14,hx14,h⟩:=Qa h;refine QcL tOk (fun s15=>⟨0,79,[(0,.ref 9000 0 0),(3,.d (slD Qi s15.2))],[],[(9000,.box 156 [.d (slD QP a0.b),dI s15.1])],[⟨[(0,.ref 9000 0 0)],[]⟩]⟩) (fun s15=>x14=s15) ?_ ?_
   ·(conv=>whnf);obtain⟨x17,hx17,hx14⟩:=Qa hx14;refine cE [(9000,9000)] 0 (Jd hx17) ?_;(conv=>whnf);refine QC hx14 (fun _ hx14=>?_) (fun _ hx14=>?_)
    ·(conv=>whnf);refine J1 (enc:=Qi) ([(⟨#[112,101,114,109,105,116]⟩:Bt),(⟨#[100,101,110,121]⟩:Bt)]:List Bt) ?_;(conv=>whnf);obtain⟨x18,hx18,hx14⟩:=Qa hx14;refine Zy [38] ?_;(conv=>whnf);refine cE [(9000,9000)] 0 (QG hx18) ?_;(conv=>whnf);refine gdI hx14 (fun hx14=>?_);(conv=>whnf);refine gdI hx14 (fun hx14=>?_);(conv=>whnf);refine J1 (enc:=Qi) ([(⟨#[48,46,48,47,48]⟩:Bt),(⟨#[49,48,46,52,47,49,53]⟩:Bt),(⟨#[52,56,46,48,47,56]⟩:Bt)]:List Bt) ?_;(conv=>whnf);obtain⟨x21,hx21,hx14⟩:=Qa hx14;refine Zy [43] ?_;(conv=>whnf);refine cE [(9000,9000)] 0 (QG hx21) ?_;(conv=>whnf);refine gdI hx14 (fun hx14=>?_);(conv=>whnf);refine gdI hx14 (fun hx14=>?_);(conv=>whnf);refine J1 (enc:=Qi) ([(⟨#[48,46,48,47,48]⟩:Bt),(⟨#[52,56,46,48,47,56]⟩:Bt),(⟨#[50,48,48,46,48,47,57]⟩:Bt)]:List Bt) ?_;(conv=>whnf);obtain⟨x24,hx24,hx14⟩:=Qa hx14;refine Zy [48] ?_;(conv=>whnf);refine cE [(9000,9000)] 0 (QG hx24) ?_;(conv=>whnf);refine gdI hx14 (fun hx14=>?_);(conv=>whnf);refine gdI hx14 (fun hx14=>?_);(conv=>whnf);refine J1 (enc:=Qi) ([(⟨#[48]⟩:Bt),(⟨#[49]⟩:Bt),(⟨#[50]⟩:Bt)]:List Bt) ?_;(conv=>whnf);obtain⟨x27,hx27,hx14⟩:=Qa hx14;refine Zy [53] ?_;(conv=>whnf);refine cE [(9000,9000)] 0 (QG hx27) ?_;(conv=>whnf);refine gdI hx14 (fun hx14=>?_);(conv=>whnf);obtain⟨x29,hx29,hx14⟩:=Qa hx14;refine cE [] 0 (Qal hx29) ?_;(conv=>whnf);refine J1 (enc:=Qi) ([(⟨#[48]⟩:Bt),(⟨#[49]⟩:Bt)]:List Bt) ?_;(conv=>whnf);obtain⟨x30,hx30,hx14⟩:=Qa hx14;refine Zy [59] ?_;(conv=>whnf);refine cE [(9000,9000)] 0 (QG hx30) ?_;(conv=>whnf);refine gdI hx14 (fun hx14=>?_);(conv=>whnf);obtain⟨x32,hx32,hx14⟩:=Qa hx14;refine cE [] 0 (Qal hx32) ?_;(conv=>whnf);refine J1 (enc:=Qi) ([(⟨#[112,111,114,116,32,48,32,49,48,46,48,47,56,32,105,110,32,119,101,98]⟩:Bt),(⟨#[112,111,114,116,32,49,32,50,48,48,46,48,47,57,32,105,110,32,119,101,98]⟩:Bt)]:List Bt) ?_;(conv=>whnf);obtain⟨x33,hx33,hx14⟩:=Qa hx14;refine Zy [65] ?_;(conv=>whnf);refine cE [(9000,9000)] 0 (QG hx33) ?_;(conv=>whnf);obtain⟨x34,hx34,hx14⟩:=Qa hx14;refine cE [] 0 (Qal hx34) ?_;(conv=>whnf);obtain rfl:=sj_ hx14;exact⟨_,rfl,leX []⟩
    ·(conv=>whnf);obtain rfl:=sj_ hx14;exact⟨_,rfl,leX []⟩
   ·rintro _ rfl;(conv=>whnf);refine Qd tOk ?_;(conv=>whnf);obtain⟨x35,hx35,h⟩:=Qa h;refine cE [(9000,9000)] 0 (Jd hx35) ?_;(conv=>whnf);obtain⟨x39,hx39,h⟩:=Qa h;refine QD tOk hx39 (fun s36=>⟨0,79,[(0,.ref 9000 0 0),(3,.d (slD Qi s36.2.1)),(6,dI s36.2.2)],[],[(9000,.box 156 [.d (slD QP a0.b),dI s36.1])],[⟨[(0,.ref 9000 0 0)],[]⟩]⟩) ?_ ?_
    ·exact leX []
    ·clear hx39;intro s36 y37 g38 hy37;(conv=>whnf);refine Qd tOk ?_;(conv=>whnf);refine QC g38 (fun _ g38=>?_) (fun _ g38=>?_)
     ·(conv=>whnf);refine Qd tOk ?_;(conv=>whnf);obtain⟨x40,hx40,g38⟩:=Qa g38;refine cE [(9000,9000)] 0 (QlI hx40) ?_;(conv=>whnf);obtain⟨x41,hx41,g38⟩:=Qa g38;refine cE [] 0 (Qal hx41) ?_;(conv=>whnf);obtain rfl:=sj_ g38;exact⟨_,rfl,leX []⟩
     ·(conv=>whnf);obtain rfl:=sj_ g38;obtain rfl:=hy37 _ rfl;obtain rfl:=sj_ h;exact lfE []
def Qbu (a0:(List Bt)):Option ((List Bt)):=
 gd (((0)+(a0.length))*(16+1)≤70368744177664)<|
 some a0
theorem Qko {a0:(List Bt)} {r:(List Bt)} (h:Qbu a0=some r):PureC prog 104 [.d (slD Qi a0)] (.osl 5001 0 r.length) [⟨5001,9,1,r.length,rows Qi r⟩]:=by
 refine Qj tOk (fn:=f104) (c:=Ql f104) rfl rfl ?_;unfold Qbu at h;(conv=>whnf);refine gdI h (fun h=>?_);refine QwZ (enc:=Qi) (ys:=a0) ?_;(conv=>whnf);obtain rfl:=sj_ h;exact lfP [.s [(5,5001),(5001,5)]]
def J2 (a0:QzT) (a1:(List Bt)):Option (Bt×QzT×(List Bt)):=
 bd (Q1 a0 ((a1.length:Nat):Int)) fun x1=>
 gd ((0:Int)≤x1.1∧x1.1<((a1.length:Nat):Int))<|
 some ((a1.getD x1.1.toNat default),(⟨a0.b,x1.2.p⟩:QzT),a1)
theorem Qhc {a0:QzT} {a1:(List Bt)} {r:Bt×QzT×(List Bt)} (h:J2 a0 a1=some r):EffC prog 100 [.ref 9000 0 0,.osl 9001 0 a1.length] [(9000,.box 139 [.d (slD QP a0.b),dI a0.p]),(9001,.arr 9 1 a1.length (rows Qi a1))] (.d (.str r.1)) [(9000,.box 139 [.d (slD QP a0.b),dI r.2.1.p]),(9001,.arr 9 1 a1.length (rows Qi r.2.2))]:=by
 refine QaR tOk (fn:=f100) (c:=Ql f100) rfl rfl ?_;unfold J2 at h;(conv=>whnf);obtain⟨x1,hx1,h⟩:=Qa h;refine cE [(9000,9000)] 0 (ZK hx1) ?_;(conv=>whnf);refine gdI h (fun h=>?_);(conv=>whnf);obtain rfl:=sj_ h;exact lfE []
def Qbv (a0:QzT) (a1:(List Bt)):Option ((List Bt)×QzT):=
 bd (Qbu a1) fun x1=>
 bd (α:=Int⊕(Nat×(List Bt)×Int)) ((if(((x1.length:Nat):Int)==0)=true then
(if((((x1.length:Nat):Int)==0)||((0:Int)==0))=true then
 bd (lp (σ:=List Bt×Int×Int) (β:=(Nat×(List Bt)×Int)) (fun s18=>
 bd (Q1 (⟨a0.b,s18.2.1⟩:QzT) 2) fun x22=>
(if(decide (s18.2.2<(IntKind.i64.wrap (16+x22.1))))=true then
 gd ((0:Int)≤s18.2.2∧s18.2.2<((([(⟨#[49,48]⟩:Bt),(⟨#[49,49]⟩:Bt),(⟨#[49,50]⟩:Bt),(⟨#[49,51]⟩:Bt),(⟨#[49,52]⟩:Bt),(⟨#[49,53]⟩:Bt),(⟨#[49,54]⟩:Bt),(⟨#[49,55]⟩:Bt),(⟨#[49,56]⟩:Bt),(⟨#[49,57]⟩:Bt),(⟨#[50,48]⟩:Bt),(⟨#[50,49]⟩:Bt),(⟨#[50,50]⟩:Bt),(⟨#[50,51]⟩:Bt),(⟨#[50,52]⟩:Bt),(⟨#[50,53]⟩:Bt),(⟨#[50,54]⟩:Bt)]:List Bt).length:Nat):Int))<|
 gd ((⟨#[114,117,108,101,32,122,32]⟩:Bt).size+(([(⟨#[49,48]⟩:Bt),(⟨#[49,49]⟩:Bt),(⟨#[49,50]⟩:Bt),(⟨#[49,51]⟩:Bt),(⟨#[49,52]⟩:Bt),(⟨#[49,53]⟩:Bt),(⟨#[49,54]⟩:Bt),(⟨#[49,55]⟩:Bt),(⟨#[49,56]⟩:Bt),(⟨#[49,57]⟩:Bt),(⟨#[50,48]⟩:Bt),(⟨#[50,49]⟩:Bt),(⟨#[50,50]⟩:Bt),(⟨#[50,51]⟩:Bt),(⟨#[50,52]⟩:Bt),(⟨#[50,53]⟩:Bt),(⟨#[50,54]⟩:Bt)]:List Bt).getD s18.2.2.toNat default).size≤9223372036854775807)<|
 gd (((⟨#[114,117,108,101,32,122,32]⟩:Bt)++(([(⟨#[49,48]⟩:Bt),(⟨#[49,49]⟩:Bt),(⟨#[49,50]⟩:Bt),(⟨#[49,51]⟩:Bt),(⟨#[49,52]⟩:Bt),(⟨#[49,53]⟩:Bt),(⟨#[49,54]⟩:Bt),(⟨#[49,55]⟩:Bt),(⟨#[49,56]⟩:Bt),(⟨#[49,57]⟩:Bt),(⟨#[50,48]⟩:Bt),(⟨#[50,49]⟩:Bt),(⟨#[50,50]⟩:Bt),(⟨#[50,51]⟩:Bt),(⟨#[50,52]⟩:Bt),(⟨#[50,53]⟩:Bt),(⟨#[50,54]⟩:Bt)]:List Bt).getD s18.2.2.toNat default)).size+(⟨#[32,100,101,110,121,32,48,46,48,47,48,32,48,46,48,47,48,32,48]⟩:Bt).size≤9223372036854775807)<|
 bd (Qak s18.1 (((⟨#[114,117,108,101,32,122,32]⟩:Bt)++(([(⟨#[49,48]⟩:Bt),(⟨#[49,49]⟩:Bt),(⟨#[49,50]⟩:Bt),(⟨#[49,51]⟩:Bt),(⟨#[49,52]⟩:Bt),(⟨#[49,53]⟩:Bt),(⟨#[49,54]⟩:Bt),(⟨#[49,55]⟩:Bt),(⟨#[49,56]⟩:Bt),(⟨#[49,57]⟩:Bt),(⟨#[50,48]⟩:Bt),(⟨#[50,49]⟩:Bt),(⟨#[50,50]⟩:Bt),(⟨#[50,51]⟩:Bt),(⟨#[50,52]⟩:Bt),(⟨#[50,53]⟩:Bt),(⟨#[50,54]⟩:Bt)]:List Bt).getD s18.2.2.toNat default))++(⟨#[32,100,101,110,121,32,48,46,48,47,48,32,48,46,48,47,48,32,48]⟩:Bt))) fun x26=>
 some (.inl (x26,x22.2.p,IntKind.i64.wrap (s18.2.2+1)))
else
 some (.inr (s18.1.length,s18.1,x22.2.p)))) (x1,a0.p,0)) fun x21=>
 some (.inr (x21.1,x21.2.1,x21.2.2))
else
 some (.inl a0.p))
else
 bd (Q1 a0 5) fun x6=>
(if((((x1.length:Nat):Int)==0)||(x6.1==0))=true then
 bd (lp (σ:=List Bt×Int×Int) (β:=(Nat×(List Bt)×Int)) (fun s7=>
 bd (Q1 (⟨a0.b,s7.2.1⟩:QzT) 2) fun x11=>
(if(decide (s7.2.2<(IntKind.i64.wrap (16+x11.1))))=true then
 gd ((0:Int)≤s7.2.2∧s7.2.2<((([(⟨#[49,48]⟩:Bt),(⟨#[49,49]⟩:Bt),(⟨#[49,50]⟩:Bt),(⟨#[49,51]⟩:Bt),(⟨#[49,52]⟩:Bt),(⟨#[49,53]⟩:Bt),(⟨#[49,54]⟩:Bt),(⟨#[49,55]⟩:Bt),(⟨#[49,56]⟩:Bt),(⟨#[49,57]⟩:Bt),(⟨#[50,48]⟩:Bt),(⟨#[50,49]⟩:Bt),(⟨#[50,50]⟩:Bt),(⟨#[50,51]⟩:Bt),(⟨#[50,52]⟩:Bt),(⟨#[50,53]⟩:Bt),(⟨#[50,54]⟩:Bt)]:List Bt).length:Nat):Int))<|
 gd ((⟨#[114,117,108,101,32,122,32]⟩:Bt).size+(([(⟨#[49,48]⟩:Bt),(⟨#[49,49]⟩:Bt),(⟨#[49,50]⟩:Bt),(⟨#[49,51]⟩:Bt),(⟨#[49,52]⟩:Bt),(⟨#[49,53]⟩:Bt),(⟨#[49,54]⟩:Bt),(⟨#[49,55]⟩:Bt),(⟨#[49,56]⟩:Bt),(⟨#[49,57]⟩:Bt),(⟨#[50,48]⟩:Bt),(⟨#[50,49]⟩:Bt),(⟨#[50,50]⟩:Bt),(⟨#[50,51]⟩:Bt),(⟨#[50,52]⟩:Bt),(⟨#[50,53]⟩:Bt),(⟨#[50,54]⟩:Bt)]:List Bt).getD s7.2.2.toNat default).size≤9223372036854775807)<|
 gd (((⟨#[114,117,108,101,32,122,32]⟩:Bt)++(([(⟨#[49,48]⟩:Bt),(⟨#[49,49]⟩:Bt),(⟨#[49,50]⟩:Bt),(⟨#[49,51]⟩:Bt),(⟨#[49,52]⟩:Bt),(⟨#[49,53]⟩:Bt),(⟨#[49,54]⟩:Bt),(⟨#[49,55]⟩:Bt),(⟨#[49,56]⟩:Bt),(⟨#[49,57]⟩:Bt),(⟨#[50,48]⟩:Bt),(⟨#[50,49]⟩:Bt),(⟨#[50,50]⟩:Bt),(⟨#[50,51]⟩:Bt),(⟨#[50,52]⟩:Bt),(⟨#[50,53]⟩:Bt),(⟨#[50,54]⟩:Bt)]:List Bt).getD s7.2.2.toNat default)).size+(⟨#[32,100,101,110,121,32,48,46,48,47,48,32,48,46,48,47,48,32,48]⟩:Bt).size≤9223372036854775807)<|
 bd (Qak s7.1 (((⟨#[114,117,108,101,32,122,32]⟩:Bt)++(([(⟨#[49,48]⟩:Bt),(⟨#[49,49]⟩:Bt),(⟨#[49,50]⟩:Bt),(⟨#[49,51]⟩:Bt),(⟨#[49,52]⟩:Bt),(⟨#[49,53]⟩:Bt),(⟨#[49,54]⟩:Bt),(⟨#[49,55]⟩:Bt),(⟨#[49,56]⟩:Bt),(⟨#[49,57]⟩:Bt),(⟨#[50,48]⟩:Bt),(⟨#[50,49]⟩:Bt),(⟨#[50,50]⟩:Bt),(⟨#[50,51]⟩:Bt),(⟨#[50,52]⟩:Bt),(⟨#[50,53]⟩:Bt),(⟨#[50,54]⟩:Bt)]:List Bt).getD s7.2.2.toNat default))++(⟨#[32,100,101,110,121,32,48,46,48,47,48,32,48,46,48,47,48,32,48]⟩:Bt))) fun x15=>
 some (.inl (x15,x11.2.p,IntKind.i64.wrap (s7.2.2+1)))
else
 some (.inr (s7.1.length,s7.1,x11.2.p)))) (x1,x6.2.p,0)) fun x10=>
 some (.inr (x10.1,x10.2.1,x10.2.2))
else
 some (.inl x6.2.p)))) fun x2=>
(match x2 with
| .inl d4=>
 bd (Q1 (⟨a0.b,d4⟩:QzT) ((x1.length:Nat):Int)) fun x28=>
 bd (Q1 (⟨a0.b,x28.2.p⟩:QzT) 4) fun x29=>
(if(x29.1==0)=true then
 gd ((0:Int)≤x28.1∧x28.1<((x1.length:Nat):Int))<|
 bd (J2 (⟨a0.b,x29.2.p⟩:QzT) ([(⟨#[32]⟩:Bt),(⟨#[32,120]⟩:Bt),(⟨#[48]⟩:Bt),(⟨#[35]⟩:Bt)]:List Bt)) fun x31=>
 gd (x31.2.2.length=([(⟨#[32]⟩:Bt),(⟨#[32,120]⟩:Bt),(⟨#[48]⟩:Bt),(⟨#[35]⟩:Bt)]:List Bt).length)<|
 gd ((x1.getD x28.1.toNat default).size+x31.1.size≤9223372036854775807)<|
 gd ((0:Int)≤x28.1∧x28.1<((x1.length:Nat):Int))<|
 some (x1.set x28.1.toNat ((x1.getD x28.1.toNat default)++x31.1),(⟨a0.b,x31.2.1.p⟩:QzT))
else
(if(x29.1==1)=true then
 gd ((0:Int)≤x28.1∧x28.1<((x1.length:Nat):Int))<|
 gd (((x1.length)+(([(x1.getD x28.1.toNat default)]:List Bt).length))*(16+1)≤70368744177664)<|
 some ((x1++([(x1.getD x28.1.toNat default)]:List Bt)),(⟨a0.b,x29.2.p⟩:QzT))
else
(if(x29.1==2)=true then
 bd (Qz (⟨a0.b,x29.2.p⟩:QzT) ([(⟨#[]⟩:Bt),(⟨#[104,111,115,116]⟩:Bt),(⟨#[104,111,115,116,32,97,32,98]⟩:Bt),(⟨#[117,115,101,114,32,97,110,110]⟩:Bt),(⟨#[117,115,101,114,32,97,110,110,32,97,108,108,44,104,111,115,116]⟩:Bt),(⟨#[117,115,101,114,32,97,110,110,32,114,117,108,101,44,114,111,117,116,101]⟩:Bt),(⟨#[112,111,114,116,32,56,32,49,48,46,48,47,56]⟩:Bt),(⟨#[112,111,114,116,32,49,32,49,48,46,48,47,55]⟩:Bt),(⟨#[112,111,114,116,32,49,32,49,48,46,48,47,56,32,105,110]⟩:Bt),(⟨#[112,111,114,116,32,49,32,49,48,46,48,47,56,32,111,110,32,119,101,98]⟩:Bt),(⟨#[114,117,108,101,32,119,101,98,32,49,48,48,32,100,101,110,121,32,48,46,48,47,48,32,48,46,48,47,48,32,48]⟩:Bt),(⟨#[114,117,108,101,32,119,101,98,32,49,32,100,114,111,112,32,48,46,48,47,48,32,48,46,48,47,48,32,48]⟩:Bt),(⟨#[114,117,108,101,32,119,101,98,32,49,32,100,101,110,121,32,48,46,48,47,48,32,48,46,48,47,48,32,56]⟩:Bt),(⟨#[114,111,117,116,101,32,49,48,46,48,47,56,32,49,48,46,50,53,54]⟩:Bt),(⟨#[112,101,101,114,32,49,48,46,49,32,48,32,55]⟩:Bt),(⟨#[112,101,101,114,32,49,48,46,49,32,49,32,48]⟩:Bt),(⟨#[112,101,101,114,32,49,48,46,49,32,49,32,49,48,48,48,48,48,48]⟩:Bt),(⟨#[100,111,111,114,32,48,32,49,32,49,48,46,49,32,49]⟩:Bt),(⟨#[100,111,111,114,32,49,32,54,53,53,51,54,32,49,48,46,49,32,49]⟩:Bt),(⟨#[100,111,111,114,32,49,32,49,32,49,48,46,49,32,48]⟩:Bt),(⟨#[110,97,116,32,49,48,46,48,47,56,32,50,48,48,46,49,32,48,32,49]⟩:Bt),(⟨#[110,97,116,32,49,48,46,48,47,56,32,50,48,48,46,49,32,49]⟩:Bt),(⟨#[102,114,111,98,32,49]⟩:Bt)]:List Bt)) fun x37=>
 gd ((0:Int)≤x28.1∧x28.1<((x1.length:Nat):Int))<|
 some (x1.set x28.1.toNat x37.1,(⟨a0.b,x37.2.p⟩:QzT))
else
 bd (JW x1 x28.1) fun x39=>
 bd (Qbi (⟨a0.b,x29.2.p⟩:QzT)) fun x40=>
 bd (Qak x39 x40.1) fun x41=>
 some (x41,(⟨a0.b,x40.2.p⟩:QzT)))))
| .inr d42=>
 some (d42.2.1,(⟨a0.b,d42.2.2⟩:QzT)))
theorem Qkp {a0:QzT} {a1:(List Bt)} {r:(List Bt)×QzT} (h:Qbv a0 a1=some r):EffC prog 136 [.ref 9000 0 0,.d (slD Qi a1)] [(9000,.box 139 [.d (slD QP a0.b),dI a0.p])] (.osl 5001 0 r.1.length) [(9000,.box 139 [.d (slD QP a0.b),dI r.2.p]),(5001,.arr 9 1 r.1.length (rows Qi r.1))]:=by
 refine QaR tOk (fn:=f136) (c:=Ql f136) rfl rfl ?_;unfold Qbv at h;(conv=>whnf);obtain⟨x1,hx1,h⟩:=Qa h;refine cC 1000 (Qko hx1) ?_;clear hx1;(conv=>whnf);obtain⟨x2,hx2,h⟩:=Qa h;refine QcL tOk (fun s3=>⟨0,77,[(0,.ref 9000 0 0),(5,.osl 6001 0 x1.length)],[],[(6001,.arr 9 1 x1.length (rows Qi x1)),(9000,.box 139 [.d (slD QP a0.b),dI s3])],[⟨[(0,.ref 9000 0 0)],[]⟩]⟩) (fun s3=>x2=.inl s3) ?_ ?_
 ·(conv=>whnf);refine spI hx2 (fun hb5 hx2=>?_) (fun hb5 hx2=>?_)
  ·refine Qnc (dI 0) ?_ (by(conv=>whnf);exact fun q=>absurd (hb5.symm.trans q) (by decide));(conv=>whnf);refine QC hx2 (fun _ hx2=>?_) (fun _ hx2=>?_)
   ·(conv=>whnf);refine Qd tOk ?_;(conv=>whnf);obtain⟨x21,hx21,hx2⟩:=Qa hx2;refine QD tOk hx21 (fun s18=>⟨0,77,[(0,.ref 9000 0 0),(5,.osl 6001 0 s18.1.length),(6,dI s18.2.2)],[],[(6001,.arr 9 1 s18.1.length (rows Qi s18.1)),(9000,.box 139 [.d (slD QP a0.b),dI s18.2.1])],[⟨[(0,.ref 9000 0 0)],[]⟩]⟩) ?_ ?_
    ·exact leX []
    ·clear hx21;intro s18 y19 g20 hy19;(conv=>whnf);refine Qd tOk ?_;(conv=>whnf);obtain⟨x22,hx22,g20⟩:=Qa g20;refine cE [(9000,9000)] 0 (ZK hx22) ?_;(conv=>whnf);refine QC g20 (fun _ g20=>?_) (fun _ g20=>?_)
     ·(conv=>whnf);refine Qd tOk ?_;(conv=>whnf);refine J1 (enc:=Qi) ([(⟨#[49,48]⟩:Bt),(⟨#[49,49]⟩:Bt),(⟨#[49,50]⟩:Bt),(⟨#[49,51]⟩:Bt),(⟨#[49,52]⟩:Bt),(⟨#[49,53]⟩:Bt),(⟨#[49,54]⟩:Bt),(⟨#[49,55]⟩:Bt),(⟨#[49,56]⟩:Bt),(⟨#[49,57]⟩:Bt),(⟨#[50,48]⟩:Bt),(⟨#[50,49]⟩:Bt),(⟨#[50,50]⟩:Bt),(⟨#[50,51]⟩:Bt),(⟨#[50,52]⟩:Bt),(⟨#[50,53]⟩:Bt),(⟨#[50,54]⟩:Bt)]:List Bt) ?_;(conv=>whnf);refine gdI g20 (fun g20=>?_);(conv=>whnf);refine gdI g20 (fun g20=>?_);(conv=>whnf);refine gdI g20 (fun g20=>?_);(conv=>whnf);obtain⟨x26,hx26,g20⟩:=Qa g20;refine cC 2000 (QdV hx26) ?_;clear hx26;(conv=>whnf);obtain rfl:=sj_ g20;exact⟨_,rfl,leX [.s [(6001,7001),(7001,6001)]]⟩
     ·(conv=>whnf);obtain rfl:=sj_ g20;obtain rfl:=hy19 _ rfl;obtain rfl:=sj_ hx2;obtain rfl:=sj_ h;exact lfE [.s [(5001,6001),(6001,5001)]]
   ·(conv=>whnf);obtain rfl:=sj_ hx2;exact⟨_,rfl,leX []⟩
  ·obtain⟨x6,hx6,hx2⟩:=Qa hx2;refine Qs1 [(9000,9000)] 0 (ZK hx6) (by(conv=>whnf);exact fun q=>absurd (q.symm.trans hb5) (by decide)) ?_;(conv=>whnf);refine QC hx2 (fun _ hx2=>?_) (fun _ hx2=>?_)
   ·(conv=>whnf);refine Qd tOk ?_;(conv=>whnf);obtain⟨x10,hx10,hx2⟩:=Qa hx2;refine QD tOk hx10 (fun s7=>⟨0,77,[(0,.ref 9000 0 0),(5,.osl 6001 0 s7.1.length),(6,dI s7.2.2)],[],[(6001,.arr 9 1 s7.1.length (rows Qi s7.1)),(9000,.box 139 [.d (slD QP a0.b),dI s7.2.1])],[⟨[(0,.ref 9000 0 0)],[]⟩]⟩) ?_ ?_
    ·exact leX []
    ·clear hx10;intro s7 y8 g9 hy8;(conv=>whnf);refine Qd tOk ?_;(conv=>whnf);obtain⟨x11,hx11,g9⟩:=Qa g9;refine cE [(9000,9000)] 0 (ZK hx11) ?_;(conv=>whnf);refine QC g9 (fun _ g9=>?_) (fun _ g9=>?_)
     ·(conv=>whnf);refine Qd tOk ?_;(conv=>whnf);refine J1 (enc:=Qi) ([(⟨#[49,48]⟩:Bt),(⟨#[49,49]⟩:Bt),(⟨#[49,50]⟩:Bt),(⟨#[49,51]⟩:Bt),(⟨#[49,52]⟩:Bt),(⟨#[49,53]⟩:Bt),(⟨#[49,54]⟩:Bt),(⟨#[49,55]⟩:Bt),(⟨#[49,56]⟩:Bt),(⟨#[49,57]⟩:Bt),(⟨#[50,48]⟩:Bt),(⟨#[50,49]⟩:Bt),(⟨#[50,50]⟩:Bt),(⟨#[50,51]⟩:Bt),(⟨#[50,52]⟩:Bt),(⟨#[50,53]⟩:Bt),(⟨#[50,54]⟩:Bt)]:List Bt) ?_;(conv=>whnf);refine gdI g9 (fun g9=>?_);(conv=>whnf);refine gdI g9 (fun g9=>?_);(conv=>whnf);refine gdI g9 (fun g9=>?_);(conv=>whnf);obtain⟨x15,hx15,g9⟩:=Qa g9;refine cC 2000 (QdV hx15) ?_;clear hx15;(conv=>whnf);obtain rfl:=sj_ g9;exact⟨_,rfl,leX [.s [(6001,7001),(7001,6001)]]⟩
     ·(conv=>whnf);obtain rfl:=sj_ g9;obtain rfl:=hy8 _ rfl;obtain rfl:=sj_ hx2;obtain rfl:=sj_ h;exact lfE [.s [(5001,6001),(6001,5001)]]
   ·(conv=>whnf);obtain rfl:=sj_ hx2;exact⟨_,rfl,leX []⟩
 ·intro d4 hdd4;subst hdd4;(conv=>whnf);obtain⟨x28,hx28,h⟩:=Qa h;refine cE [(9000,9000)] 0 (ZK hx28) ?_;(conv=>whnf);refine Qd tOk ?_;(conv=>whnf);obtain⟨x29,hx29,h⟩:=Qa h;refine cE [(9000,9000)] 0 (ZK hx29) ?_;(conv=>whnf);refine QC h (fun _ h=>?_) (fun _ h=>?_)
  ·(conv=>whnf);obtain⟨g30,h⟩:=Qh h;obtain⟨x31,hx31,h⟩:=Qa h;obtain⟨g32,h⟩:=Qh h;obtain⟨g33,h⟩:=Qh h;obtain⟨g34,h⟩:=Qh h;refine Ql5 tOk [.a 7 [] (.osl 55 0 (([(⟨#[32]⟩:Bt),(⟨#[32,120]⟩:Bt),(⟨#[48]⟩:Bt),(⟨#[35]⟩:Bt)]:List Bt).length)) [(55,.arr 9 1 (([(⟨#[32]⟩:Bt),(⟨#[32,120]⟩:Bt),(⟨#[48]⟩:Bt),(⟨#[35]⟩:Bt)]:List Bt).length) (rows Qi ([(⟨#[32]⟩:Bt),(⟨#[32,120]⟩:Bt),(⟨#[48]⟩:Bt),(⟨#[35]⟩:Bt)]:List Bt)))],.e 8 [(9000,.box 139 [.d (slD QP a0.b),dI x29.2.p]),(55,.arr 9 1 (([(⟨#[32]⟩:Bt),(⟨#[32,120]⟩:Bt),(⟨#[48]⟩:Bt),(⟨#[35]⟩:Bt)]:List Bt).length) (rows Qi ([(⟨#[32]⟩:Bt),(⟨#[32,120]⟩:Bt),(⟨#[48]⟩:Bt),(⟨#[35]⟩:Bt)]:List Bt)))] (.d (.str x31.1)) [] [(9000,.box 139 [.d (slD QP a0.b),dI x31.2.1.p]),(55,.arr 9 1 (([(⟨#[32]⟩:Bt),(⟨#[32,120]⟩:Bt),(⟨#[48]⟩:Bt),(⟨#[35]⟩:Bt)]:List Bt).length) (rows Qi x31.2.2))]] 11 [] [0,0,0,0,12,28,0,0,192,508,1023] [2047] [9000] ?_;(conv=>whnf);refine And.intro g30 ?_;clear g30;(conv=>whnf);refine And.intro (by(conv=>whnf);exact J1 (enc:=Qi) ([(⟨#[32]⟩:Bt),(⟨#[32,120]⟩:Bt),(⟨#[48]⟩:Bt),(⟨#[35]⟩:Bt)]:List Bt) ⟨rfl,rfl⟩) ?_;(conv=>whnf);refine And.intro (eD [(9000,9000),(9001,55)] 0 (Qhc hx31)) ?_;(conv=>whnf);refine And.intro g33 ?_;clear g33;(conv=>whnf);refine And.intro g34 ?_;clear g34;(conv=>whnf);refine And.intro (by kernel_rfl) ?_;(conv=>whnf);refine⟨rows Qi (x1.set x28.1.toNat ((x1.getD x28.1.toNat default)++x31.1)),Qc8 QuV rfl,?_⟩;(conv=>whnf);obtain rfl:=sj_ h;exact lfE [.s [(5001,6001),(6001,5001)]]
  ·(conv=>whnf);refine QC h (fun _ h=>?_) (fun _ h=>?_)
   ·(conv=>whnf);refine gdI h (fun h=>?_);(conv=>whnf);refine J1 (enc:=Qi) ([(x1.getD x28.1.toNat default)]:List Bt) ?_;(conv=>whnf);refine gdI h (fun h=>?_);refine QfZ (enc:=Qi) (xs:=x1) (ys:=([(x1.getD x28.1.toNat default)]:List Bt)) ?_;(conv=>whnf);obtain rfl:=sj_ h;exact lfE [.s [(5001,6001),(6001,5001)]]
   ·(conv=>whnf);refine QC h (fun _ h=>?_) (fun _ h=>?_)
    ·(conv=>whnf);refine J1 (enc:=Qi) ([(⟨#[]⟩:Bt),(⟨#[104,111,115,116]⟩:Bt),(⟨#[104,111,115,116,32,97,32,98]⟩:Bt),(⟨#[117,115,101,114,32,97,110,110]⟩:Bt),(⟨#[117,115,101,114,32,97,110,110,32,97,108,108,44,104,111,115,116]⟩:Bt),(⟨#[117,115,101,114,32,97,110,110,32,114,117,108,101,44,114,111,117,116,101]⟩:Bt),(⟨#[112,111,114,116,32,56,32,49,48,46,48,47,56]⟩:Bt),(⟨#[112,111,114,116,32,49,32,49,48,46,48,47,55]⟩:Bt),(⟨#[112,111,114,116,32,49,32,49,48,46,48,47,56,32,105,110]⟩:Bt),(⟨#[112,111,114,116,32,49,32,49,48,46,48,47,56,32,111,110,32,119,101,98]⟩:Bt),(⟨#[114,117,108,101,32,119,101,98,32,49,48,48,32,100,101,110,121,32,48,46,48,47,48,32,48,46,48,47,48,32,48]⟩:Bt),(⟨#[114,117,108,101,32,119,101,98,32,49,32,100,114,111,112,32,48,46,48,47,48,32,48,46,48,47,48,32,48]⟩:Bt),(⟨#[114,117,108,101,32,119,101,98,32,49,32,100,101,110,121,32,48,46,48,47,48,32,48,46,48,47,48,32,56]⟩:Bt),(⟨#[114,111,117,116,101,32,49,48,46,48,47,56,32,49,48,46,50,53,54]⟩:Bt),(⟨#[112,101,101,114,32,49,48,46,49,32,48,32,55]⟩:Bt),(⟨#[112,101,101,114,32,49,48,46,49,32,49,32,48]⟩:Bt),(⟨#[112,101,101,114,32,49,48,46,49,32,49,32,49,48,48,48,48,48,48]⟩:Bt),(⟨#[100,111,111,114,32,48,32,49,32,49,48,46,49,32,49]⟩:Bt),(⟨#[100,111,111,114,32,49,32,54,53,53,51,54,32,49,48,46,49,32,49]⟩:Bt),(⟨#[100,111,111,114,32,49,32,49,32,49,48,46,49,32,48]⟩:Bt),(⟨#[110,97,116,32,49,48,46,48,47,56,32,50,48,48,46,49,32,48,32,49]⟩:Bt),(⟨#[110,97,116,32,49,48,46,48,47,56,32,50,48,48,46,49,32,49]⟩:Bt),(⟨#[102,114,111,98,32,49]⟩:Bt)]:List Bt) ?_;(conv=>whnf);obtain⟨x37,hx37,h⟩:=Qa h;refine Zy [73] ?_;(conv=>whnf);refine cE [(9000,9000)] 0 (QO hx37) ?_;(conv=>whnf);refine gdI h (fun h=>?_);(conv=>whnf);refine⟨rows Qi (x1.set x28.1.toNat x37.1),Qc8 QuV rfl,?_⟩;(conv=>whnf);obtain rfl:=sj_ h;exact lfE [.s [(5001,6001),(6001,5001)]]
    ·(conv=>whnf);obtain⟨x39,hx39,h⟩:=Qa h;refine cC 2000 (QeV hx39) ?_;clear hx39;(conv=>whnf);obtain⟨x40,hx40,h⟩:=Qa h;refine cE [(9000,9000)] 0 (QgV hx40) ?_;(conv=>whnf);obtain⟨x41,hx41,h⟩:=Qa h;refine cC 3000 (QdV hx41) ?_;clear hx41;(conv=>whnf);obtain rfl:=sj_ h;exact lfE [.s [(5001,8001),(8001,5001)]]
def QcO (a0:l1Rd):Option ((List Bt)×l1Rd):=
 bd (Qci a0) fun x1=>
 bd (Zc (⟨a0.b,x1.2.p⟩:l1Rd) 16) fun x2=>
(if(x2.1==0)=true then
 bd (Qbv (⟨a0.b,x2.2.p⟩:QzT) x1.1) fun x3=>
 some (x3.1,(⟨a0.b,x3.2.p⟩:l1Rd))
else
 some (x1.1,(⟨a0.b,x2.2.p⟩:l1Rd)))
theorem Qnd {a0:l1Rd} {r:(List Bt)×l1Rd} (h:QcO a0=some r):EffC prog 56 [.ref 9000 0 0] [(9000,.box 156 [.d (slD QP a0.b),dI a0.p])] (.d (slD Qi r.1)) [(9000,.box 156 [.d (slD QP a0.b),dI r.2.p])]:=by
 refine QaR tOk (fn:=f56) (c:=Ql f56) rfl rfl ?_;unfold QcO at h;(conv=>whnf);obtain⟨x1,hx1,h⟩:=Qa h;refine cE [(9000,9000)] 0 (QlJ hx1) ?_;(conv=>whnf);refine Qd tOk ?_;(conv=>whnf);obtain⟨x2,hx2,h⟩:=Qa h;refine cE [(9000,9000)] 0 (Jd hx2) ?_;(conv=>whnf);refine QC h (fun _ h=>?_) (fun _ h=>?_)
 ·(conv=>whnf);refine Qw1 tOk 20000 (fn:=f137) (c:=Ql f137) rfl rfl (by kernel_rfl) rfl ?_;(conv=>whnf);obtain⟨x3,hx3,h⟩:=Qa h;refine cE [(9000,9000)] 1000 (Qkp hx3) ?_;(conv=>whnf);obtain rfl:=sj_ h;exact lfE [.f [6001]]
 ·(conv=>whnf);obtain rfl:=sj_ h;exact lfE []
end
end Go.Proofs.YtfpbhbbdhfbilaaGreatDoor
