/-
  What some of the program's functions compute: their models, and that the functions compute these; no condition.
-/
import Derived.Test.YtfpbhbbdhfbilaaGreatDoorTyz
import Derived.Test.YtfpbhbbdhfbilaaGreatDoorTbz
import Derived.Test.YtfpbhbbdhfbilaaGreatDoorLayz
import Derived.Test.YtfpbhbbdhfbilaaGreatDoorLay4z
import Derived.Test.YtfpbhbbdhfbilaaGreatDoorAbz8
import Derived.BigCall
import Derived.BigGuard
import Derived.BigQuiet
import Derived.Deep.Draws
import Derived.Deep.QuietTactic
import Derived.Maps.OwnSet
import Derived.Shelf.SlSortCmp.QuietGrown
import Derived.StringKeys
import Derived.WalkKit
import Derived.Test.YtfpbhbbdhfbilaaGreatDoorKz5
set_option linter.all false
namespace Go.Proofs.YtfpbhbbdhfbilaaGreatDoor
open Go Go.Ab Tryz
set_option maxRecDepth 100000
set_option maxHeartbeats 40000000
noncomputable section
def Qbn (a0:(List Int)):Option (Bool):=
(if(decide (((a0.length:Nat):Int)>1048576))=true then
 some true
else
 bd (JF a0) fun x1=>
 bd (Qa4 x1.1 x1.2) fun x2=>
 bd (QbD x1.1) fun x3=>
 bd (Qa5 x1.1) fun x4=>
 bd (Qcl x1.1) fun x5=>
 bd (Qcn x1.1) fun x6=>
 bd (Qa7 x1.1 x1.2) fun x7=>
 bd (Qco x2 x7) fun x8=>
 bd (Qt (((!x8)||(!(x5.2==x6.2)))=false) (QcT x5.1 x6.1)) fun x9=>
 bd (Qt (x5.2=true∧(((!x8)||(!(x5.2==x6.2)))||(!x9))=false) (JB x5.1)) fun x10=>
 bd (Qt (((((!x8)||(!(x5.2==x6.2)))||(!x9))||(x5.2&&(!x10)))=false) (QcG x2)) fun x11=>
(if(((((!x8)||(!(x5.2==x6.2)))||(!x9))||(x5.2&&(!x10)))||(!x11))=true then
 some false
else
 bd (Qa9 x1.1) fun x12=>
 bd (Qba x1.1) fun x13=>
 bd (Qcp x12 x13) fun x14=>
 bd (Qt ((!x14)=false) (QaT x1.1)) fun x15=>
 bd (Qt ((!x14)=false) (Jm x15)) fun x16=>
(if((!x14)||(!x16))=true then
 some false
else
 bd (lp (σ:=Int×Int) (β:=(Int)) (fun s17=>
(if(decide (s17.2<((x1.1.length:Nat):Int)))=true then
 gd ((0:Int)≤s17.2∧s17.2<((x1.1.length:Nat):Int))<|
 bd (ZR (x1.1.getD s17.2.toNat default)) fun x22=>
 bd (Zk x1.1) fun x23=>
 gd (((x23==0)&&(decide (((x22.1.length:Nat):Int)>1)))=true→((0:Int)≤0∧0<((x22.1.length:Nat):Int)))<|
 gd ((((x23==0)&&(decide (((x22.1.length:Nat):Int)>1)))&&((x22.1.getD 0 default)==(⟨#[114,117,108,101]⟩:Bt)))=true→((0:Int)≤1∧1<((x22.1.length:Nat):Int)))<|
(if((((x23==0)&&(decide (((x22.1.length:Nat):Int)>1)))&&((x22.1.getD 0 default)==(⟨#[114,117,108,101]⟩:Bt)))&&((x22.1.getD 1 default)==x1.2))=true then
 some (.inl (IntKind.i64.wrap (s17.1+1),IntKind.i64.wrap (s17.2+1)))
else
 some (.inl (s17.1,IntKind.i64.wrap (s17.2+1))))
else
 some (.inr s17.1))) (0,0)) fun x20=>
 bd (QbL x1.1) fun x27=>
(if((((x3.length:Nat):Int) !=((x27.length:Nat):Int))||(x20 !=((x2.length:Nat):Int)))=true then
 some false
else
 bd (lp (σ:=Int) (β:=(Unit⊕Unit)) (fun s28=>
(if(decide (s28<((x3.length:Nat):Int)))=true then
 gd ((0:Int)≤s28∧s28<((x3.length:Nat):Int))<|
 gd ((0:Int)≤s28∧s28<((x27.length:Nat):Int))<|
 gd ((!((((x3.getD s28.toNat default).Addr)==((x27.getD s28.toNat default).Addr))&&((((x3.getD s28.toNat default).Len)==((x27.getD s28.toNat default).Len))&&((((x3.getD s28.toNat default).Next)==((x27.getD s28.toNat default).Next))&&true))))=false→((0:Int)≤s28∧s28<((x3.length:Nat):Int)))<|
 bd (Qt ((!((((x3.getD s28.toNat default).Addr)==((x27.getD s28.toNat default).Addr))&&((((x3.getD s28.toNat default).Len)==((x27.getD s28.toNat default).Len))&&((((x3.getD s28.toNat default).Next)==((x27.getD s28.toNat default).Next))&&true))))=false) (ZY x1.1 ((x3.getD s28.toNat default).Next))) fun x35=>
(if((!((((x3.getD s28.toNat default).Addr)==((x27.getD s28.toNat default).Addr))&&((((x3.getD s28.toNat default).Len)==((x27.getD s28.toNat default).Len))&&((((x3.getD s28.toNat default).Next)==((x27.getD s28.toNat default).Next))&&true))))||(decide (x35<0)))=true then
 some (.inr (.inl ()))
else
 some (.inl (IntKind.i64.wrap (s28+1))))
else
 some (.inr (.inr ())))) 0) fun x31=>
(match x31 with
| .inl d36=>
 some false
| .inr d37=>
 bd (lp (σ:=Int) (β:=(Unit⊕Unit)) (fun s38=>
(if(decide (s38<((x4.length:Nat):Int)))=true then
 gd ((0:Int)≤s38∧s38<((x4.length:Nat):Int))<|
 bd (ZY x1.1 ((x4.getD s38.toNat default).Addr)) fun x43=>
 gd ((decide (s38>0))=true→((decide (x43<0))=false→((0:Int)≤IntKind.i64.wrap (s38-1)∧IntKind.i64.wrap (s38-1)<((x4.length:Nat):Int))))<|
 gd ((decide (s38>0))=true→((decide (x43<0))=false→((0:Int)≤s38∧s38<((x4.length:Nat):Int))))<|
(if((decide (x43<0))||((decide (s38>0))&&(decide (((x4.getD ((IntKind.i64.wrap (s38-1)).toNat) default).Addr)≥((x4.getD s38.toNat default).Addr)))))=true then
 some (.inr (.inl ()))
else
 some (.inl (IntKind.i64.wrap (s38+1))))
else
 some (.inr (.inr ())))) 0) fun x41=>
(match x41 with
| .inl d46=>
 some false
| .inr d47=>
 bd (Qbb x1.1) fun x48=>
 some (((x4.length:Nat):Int)==((x48.length:Nat):Int))))))))
theorem QhX {a0:(List Int)} {r:Bool} (h:Qbn a0=some r):PureC prog 4 [.d (slD QP a0)] (dB r) []:=by
 refine Qj tOk (fn:=f4) (c:=Ql f4) rfl rfl ?_;unfold Qbn at h;(conv=>whnf);refine Qd tOk ?_;(conv=>whnf);refine QC h (fun _ h=>?_) (fun _ h=>?_)
 ·(conv=>whnf);obtain rfl:=sj_ h;exact lfP []
 ·(conv=>whnf);obtain⟨x1,hx1,h⟩:=Qa h;refine cE [] 0 (QgL hx1) ?_;(conv=>whnf);obtain⟨x2,hx2,h⟩:=Qa h;refine cC 1000 (QjK hx2) ?_;clear hx2;(conv=>whnf);obtain⟨x3,hx3,h⟩:=Qa h;refine cC 2000 (Qkz hx3) ?_;clear hx3;(conv=>whnf);obtain⟨x4,hx4,h⟩:=Qa h;refine cC 3000 (QjL hx4) ?_;clear hx4;(conv=>whnf);obtain⟨x5,hx5,h⟩:=Qa h;refine cC 4000 (QlO hx5) ?_;clear hx5;(conv=>whnf);obtain⟨x6,hx6,h⟩:=Qa h;refine cC 5000 (QlQ hx6) ?_;clear hx6;(conv=>whnf);refine Qd tOk ?_;(conv=>whnf);obtain⟨x7,hx7,h⟩:=Qa h;refine cC 6000 (QjM hx7) ?_;clear hx7;(conv=>whnf);obtain⟨x8,hx8,h⟩:=Qa h;refine cC 0 (QlR hx8) ?_;clear hx8;(conv=>whnf);obtain⟨x9,hx9,h⟩:=Qa h;refine cG (fun c0=>Qnj (Qg hx9 c0)) ?_;(conv=>whnf);obtain⟨x10,hx10,h⟩:=Qa h;refine cG (fun c0 c1=>QjO (Qg hx10 ⟨c0,c1⟩)) ?_;(conv=>whnf);obtain⟨x11,hx11,h⟩:=Qa h;refine cG (fun c0=>QoA (Qg hx11 c0)) ?_;(conv=>whnf);refine QC h (fun _ h=>?_) (fun _ h=>?_)
  ·(conv=>whnf);obtain rfl:=sj_ h;exact lfP []
  ·(conv=>whnf);refine Qd tOk ?_;(conv=>whnf);obtain⟨x12,hx12,h⟩:=Qa h;refine cC 7000 (QjP hx12) ?_;clear hx12;(conv=>whnf);obtain⟨x13,hx13,h⟩:=Qa h;refine cC 8000 (QjQ hx13) ?_;clear hx13;(conv=>whnf);obtain⟨x14,hx14,h⟩:=Qa h;refine cC 0 (QlT hx14) ?_;clear hx14;(conv=>whnf);obtain⟨x15,hx15,h⟩:=Qa h;refine Qs8 [] 0 rfl rfl rfl (by intro c0;exact Qhj (Qg hx15 c0)) QuU inA rfl rfl (Qnm inA) ?_;(conv=>whnf);obtain⟨x16,hx16,h⟩:=Qa h;refine cG (fun c0=>Qhk (Qg hx16 c0)) ?_;(conv=>whnf);refine QC h (fun _ h=>?_) (fun _ h=>?_)
   ·(conv=>whnf);obtain rfl:=sj_ h;exact lfP []
   ·(conv=>whnf);refine Qd tOk ?_;(conv=>whnf);obtain⟨x20,hx20,h⟩:=Qa h;refine QD tOk hx20 (fun s17=>⟨0,199,[(3,.d (slD Qi x1.1)),(4,.d (.str x1.2)),(5,.osl 6001 0 x2.length),(6,.osl 7001 0 x3.length),(7,.osl 8001 0 x4.length),(12,dI s17.1),(13,dI s17.2)],[],[(8001,.arr 73 3 x4.length (rows QzX.enc x4)),(7001,.arr 70 3 x3.length (rows QzW.enc x3)),(6001,.arr 109 6 x2.length (rows QzV.enc x2))],[]⟩) ?_ ?_
    ·exact leX []
    ·clear hx20;intro s17 y18 g19 hy18;(conv=>whnf);refine Qd tOk ?_;(conv=>whnf);refine QC g19 (fun _ g19=>?_) (fun _ g19=>?_)
     ·(conv=>whnf);refine Qd tOk ?_;(conv=>whnf);refine gdI g19 (fun g19=>?_);(conv=>whnf);obtain⟨x22,hx22,g19⟩:=Qa g19;refine cC 4000 (Qcu hx22) ?_;clear hx22;(conv=>whnf);obtain⟨x23,hx23,g19⟩:=Qa g19;refine cC 0 (Jz hx23) ?_;clear hx23;(conv=>whnf);refine gdI g19 (fun g19=>?_);(conv=>whnf);refine gdI g19 (fun g19=>?_);(conv=>whnf);refine QC g19 (fun _ g19=>?_) (fun _ g19=>?_)
      ·(conv=>whnf);obtain rfl:=sj_ g19;exact⟨_,rfl,leX []⟩
      ·(conv=>whnf);obtain rfl:=sj_ g19;exact⟨_,rfl,leX []⟩
     ·(conv=>whnf);obtain rfl:=sj_ g19;obtain rfl:=hy18 _ rfl;obtain⟨x27,hx27,h⟩:=Qa h;refine cC 4000 (QkF hx27) ?_;clear hx27;(conv=>whnf);refine Qd tOk ?_;(conv=>whnf);refine QC h (fun _ h=>?_) (fun _ h=>?_)
      ·(conv=>whnf);obtain rfl:=sj_ h;exact lfP []
      ·(conv=>whnf);refine Qd tOk ?_;(conv=>whnf);obtain⟨x31,hx31,h⟩:=Qa h;refine QD tOk hx31 (fun s28=>⟨0,199,[(3,.d (slD Qi x1.1)),(6,.osl 7001 0 x3.length),(7,.osl 8001 0 x4.length),(16,.osl 9001 0 x27.length),(17,dI s28)],[],[(9001,.arr 70 3 x27.length (rows QzW.enc x27)),(8001,.arr 73 3 x4.length (rows QzX.enc x4)),(7001,.arr 70 3 x3.length (rows QzW.enc x3))],[]⟩) ?_ ?_
       ·exact leX []
       ·clear hx31;intro s28 y29 g30 hy29;(conv=>whnf);refine Qd tOk ?_;(conv=>whnf);refine QC g30 (fun _ g30=>?_) (fun _ g30=>?_)
        ·(conv=>whnf);refine Qd tOk ?_;(conv=>whnf);obtain⟨g32,g30⟩:=Qh g30;obtain⟨g33,g30⟩:=Qh g30;obtain⟨g34,g30⟩:=Qh g30;obtain⟨x35,hx35,g30⟩:=Qa g30;refine Zq tOk [.u 16 0 (dI x35) []] 19 [] [0,0,3,7,0,0,48,112,255,511,1023,1023,1023,7167,15359,31743,65535,131071,262143] [] ?_;(conv=>whnf);refine And.intro g32 ?_;clear g32;(conv=>whnf);refine And.intro g33 ?_;clear g33;(conv=>whnf);refine And.intro g34 ?_;clear g34;(conv=>whnf);refine And.intro (QV rfl rfl rfl rfl (by intro c0;exact QeX (Qg hx35 c0))) ?_;(conv=>whnf);refine And.intro (by kernel_rfl) ?_;(conv=>whnf);refine QC g30 (fun _ g30=>?_) (fun _ g30=>?_)
         ·(conv=>whnf);obtain rfl:=sj_ g30;obtain rfl:=hy29 _ rfl;obtain rfl:=sj_ h;exact lfP []
         ·(conv=>whnf);obtain rfl:=sj_ g30;exact⟨_,rfl,leX []⟩
        ·(conv=>whnf);obtain rfl:=sj_ g30;obtain rfl:=hy29 _ rfl;refine Qd tOk ?_;(conv=>whnf);obtain⟨x41,hx41,h⟩:=Qa h;refine QD tOk hx41 (fun s38=>⟨0,199,[(3,.d (slD Qi x1.1)),(7,.osl 8001 0 x4.length),(18,dI s38)],[],[(8001,.arr 73 3 x4.length (rows QzX.enc x4))],[]⟩) ?_ ?_
         ·exact leX []
         ·clear hx41;intro s38 y39 g40 hy39;(conv=>whnf);refine Qd tOk ?_;(conv=>whnf);refine QC g40 (fun _ g40=>?_) (fun _ g40=>?_)
          ·(conv=>whnf);refine Qd tOk ?_;(conv=>whnf);obtain⟨g42,g40⟩:=Qh g40;obtain⟨x43,hx43,g40⟩:=Qa g40;obtain⟨g44,g40⟩:=Qh g40;obtain⟨g45,g40⟩:=Qh g40;refine Zq tOk [.u 6 0 (dI x43) []] 26 [] [0,0,0,6,14,30,63,127,255,511,1023,2047,4095,4095,12287,32767,65535,131071,4095,4095,790527,1839103,3936255,8388607,16777215,33554431] [] ?_;(conv=>whnf);refine And.intro g42 ?_;clear g42;(conv=>whnf);refine And.intro (Qo (QeX hx43) (by kernel_rfl)) ?_;(conv=>whnf);refine And.intro g44 ?_;clear g44;(conv=>whnf);refine And.intro g45 ?_;clear g45;(conv=>whnf);refine And.intro (by kernel_rfl) ?_;(conv=>whnf);refine QC g40 (fun _ g40=>?_) (fun _ g40=>?_)
           ·(conv=>whnf);obtain rfl:=sj_ g40;obtain rfl:=hy39 _ rfl;obtain rfl:=sj_ h;exact lfP []
           ·(conv=>whnf);obtain rfl:=sj_ g40;exact⟨_,rfl,leX []⟩
          ·(conv=>whnf);obtain rfl:=sj_ g40;obtain rfl:=hy39 _ rfl;obtain⟨x48,hx48,h⟩:=Qa h;refine cC 1000 (QjR hx48) ?_;clear hx48;(conv=>whnf);obtain rfl:=sj_ h;exact lfP []
end
end Go.Proofs.YtfpbhbbdhfbilaaGreatDoor
