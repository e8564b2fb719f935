/-
  What some of the program's functions compute: their models, and that the functions compute these; no condition.
-/
import Derived.Test.YtfpbhbbdhfbilaaGreatDoorTyz
import Derived.Test.YtfpbhbbdhfbilaaGreatDoorTbz
import Derived.Test.YtfpbhbbdhfbilaaGreatDoorLayz
import Derived.Test.YtfpbhbbdhfbilaaGreatDoorLay4z
import Derived.Test.YtfpbhbbdhfbilaaGreatDoorAbz8
import Derived.BigCall
import Derived.BigGuard
import Derived.BigQuiet
import Derived.Deep.Draws
import Derived.Deep.QuietTactic
import Derived.Maps.OwnSet
import Derived.Shelf.SlSortCmp.QuietGrown
import Derived.StringKeys
import Derived.WalkKit
import Derived.Test.YtfpbhbbdhfbilaaGreatDoorKz4
set_option linter.all false
namespace Go.Proofs.YtfpbhbbdhfbilaaGreatDoor
open Go Go.Ab Tryz
set_option maxRecDepth 100000
set_option maxHeartbeats 40000000
noncomputable section
def QbH (a0:(List Bt)) (a1:Bt):Option ((List QzV)):=
 bd (ZC a0 (⟨#[114,117,108,101]⟩:Bt)) fun x1=>
 bd (lp (σ:=List QzV×Int) (β:=(Nat×(List QzV))) (fun s2=>
(if(decide (s2.2≤99))=true then
 bd (lp (σ:=List QzV×Int) (β:=(Nat×(List QzV))) (fun s6=>
(if(decide (s6.2<((x1.length:Nat):Int)))=true then
 gd ((0:Int)≤s6.2∧s6.2<((x1.length:Nat):Int))<|
 bd (Qe (x1.getD s6.2.toNat default) 1) fun x11=>
 gd ((x11==a1)=true→((0:Int)≤s6.2∧s6.2<((x1.length:Nat):Int)))<|
 bd (Qt ((x11==a1)=true) (Qe (x1.getD s6.2.toNat default) 2)) fun x13=>
 bd (Qt ((x11==a1)=true) (QR x13)) fun x14=>
(if((x11==a1)&&(x14==s2.2))=true then
 gd ((0:Int)≤s6.2∧s6.2<((x1.length:Nat):Int))<|
 bd (Qe (x1.getD s6.2.toNat default) 3) fun x16=>
 gd ((0:Int)≤s6.2∧s6.2<((x1.length:Nat):Int))<|
 bd (Qe (x1.getD s6.2.toNat default) 4) fun x18=>
 bd (ZJ x18) fun x19=>
 gd ((0:Int)≤s6.2∧s6.2<((x1.length:Nat):Int))<|
 bd (Qe (x1.getD s6.2.toNat default) 5) fun x21=>
 bd (ZJ x21) fun x22=>
 gd ((0:Int)≤s6.2∧s6.2<((x1.length:Nat):Int))<|
 bd (Qe (x1.getD s6.2.toNat default) 6) fun x24=>
 bd (QR x24) fun x25=>
 gd (((s6.1.length)+(([(⟨(x16==(⟨#[112,101,114,109,105,116]⟩:Bt)),x19,x22,x25⟩:QzV)]:List QzV).length))*(48+1)≤70368744177664)<|
 some (.inl ((s6.1++([(⟨(x16==(⟨#[112,101,114,109,105,116]⟩:Bt)),x19,x22,x25⟩:QzV)]:List QzV)),IntKind.i64.wrap (s6.2+1)))
else
 some (.inl (s6.1,IntKind.i64.wrap (s6.2+1))))
else
 some (.inr (s6.1.length,s6.1)))) (s2.1,0)) fun x9=>
 some (.inl (x9.2,IntKind.i64.wrap (s2.2+1)))
else
 some (.inr (s2.1.length,s2.1)))) (([]:List QzV),0)) fun x5=>
 some x5.2
theorem QkC {a0:(List Bt)} {a1:Bt} {r:(List QzV)} (h:QbH a0 a1=some r):PureC prog 76 [.d (slD Qi a0),.d (.str a1)] (.osl 5001 0 r.length) [⟨5001,109,6,r.length,rows QzV.enc r⟩]:=by
 refine Qj tOk (fn:=f76) (c:=Ql f76) rfl rfl ?_;unfold QbH at h;(conv=>whnf);obtain⟨x1,hx1,h⟩:=Qa h;refine cE [] 1000 (QcD hx1) ?_;(conv=>whnf);refine Qd tOk ?_;(conv=>whnf);obtain⟨x5,hx5,h⟩:=Qa h;refine QD tOk hx5 (fun s2=>⟨0,68,[(1,.d (.str a1)),(5,.osl 6001 0 x1.length),(6,.osl 7001 0 s2.1.length),(7,dI s2.2)],[],[(7001,.arr 109 6 s2.1.length (rows QzV.enc s2.1)),(6001,.arr 171 1 x1.length (rows QzS.enc x1))],[]⟩) ?_ ?_
 ·exact leX [.p 7001 109 6 (rows QzV.enc ([]:List QzV))]
 ·clear hx5;intro s2 y3 g4 hy3;(conv=>whnf);refine Qd tOk ?_;(conv=>whnf);refine QC g4 (fun _ g4=>?_) (fun _ g4=>?_)
  ·(conv=>whnf);refine Qd tOk ?_;(conv=>whnf);obtain⟨x9,hx9,g4⟩:=Qa g4;refine QD tOk hx9 (fun s6=>⟨0,68,[(1,.d (.str a1)),(5,.osl 6001 0 x1.length),(6,.osl 7001 0 s6.1.length),(7,dI s2.2),(8,dI s6.2)],[],[(7001,.arr 109 6 s6.1.length (rows QzV.enc s6.1)),(6001,.arr 171 1 x1.length (rows QzS.enc x1))],[]⟩) ?_ ?_
   ·exact leX []
   ·clear hx9;intro s6 y7 g8 hy7;(conv=>whnf);refine Qd tOk ?_;(conv=>whnf);refine QC g8 (fun _ g8=>?_) (fun _ g8=>?_)
    ·(conv=>whnf);refine Qd tOk ?_;(conv=>whnf);refine gdI g8 (fun g8=>?_);(conv=>whnf);obtain⟨x11,hx11,g8⟩:=Qa g8;refine cC 0 (Qf hx11) ?_;clear hx11;(conv=>whnf);refine gdI g8 (fun g8=>?_);(conv=>whnf);obtain⟨x13,hx13,g8⟩:=Qa g8;refine cG (fun c0=>Qf (Qg hx13 c0)) ?_;(conv=>whnf);obtain⟨x14,hx14,g8⟩:=Qa g8;refine cG (fun c0=>Q4 (Qg hx14 c0)) ?_;(conv=>whnf);refine QC g8 (fun _ g8=>?_) (fun _ g8=>?_)
     ·(conv=>whnf);obtain⟨g15,g8⟩:=Qh g8;obtain⟨x16,hx16,g8⟩:=Qa g8;obtain⟨g17,g8⟩:=Qh g8;obtain⟨x18,hx18,g8⟩:=Qa g8;obtain⟨x19,hx19,g8⟩:=Qa g8;obtain⟨g20,g8⟩:=Qh g8;obtain⟨x21,hx21,g8⟩:=Qa g8;obtain⟨x22,hx22,g8⟩:=Qa g8;obtain⟨g23,g8⟩:=Qh g8;obtain⟨x24,hx24,g8⟩:=Qa g8;obtain⟨x25,hx25,g8⟩:=Qa g8;refine Zq tOk [.u 5 0 (.d (.str x16)) [],.u 11 0 (.d (.str x18)) [],.u 12 0 (.agg [dI x19.Addr,dI x19.Len]) [],.u 17 0 (.d (.str x21)) [],.u 18 0 (.agg [dI x22.Addr,dI x22.Len]) [],.u 23 0 (.d (.str x24)) [],.u 24 0 (dI x25) []] 27 [] [0,0,0,6,14,30,62,0,0,384,896,1982,4030,0,0,24576,57344,131006,262078,0,0,1572864,3670016,8388542,16777150,33554430,67108862] [134217727,268435455] ?_;(conv=>whnf);refine And.intro g15 ?_;clear g15;(conv=>whnf);refine And.intro (Qo (Qf hx16) (by kernel_rfl)) ?_;(conv=>whnf);refine And.intro g17 ?_;clear g17;(conv=>whnf);refine And.intro (Qo (Qf hx18) (by kernel_rfl)) ?_;(conv=>whnf);refine And.intro (Qo (Qa6 hx19) (by kernel_rfl)) ?_;(conv=>whnf);refine And.intro g20 ?_;clear g20;(conv=>whnf);refine And.intro (Qo (Qf hx21) (by kernel_rfl)) ?_;(conv=>whnf);refine And.intro (Qo (Qa6 hx22) (by kernel_rfl)) ?_;(conv=>whnf);refine And.intro g23 ?_;clear g23;(conv=>whnf);refine And.intro (Qo (Qf hx24) (by kernel_rfl)) ?_;(conv=>whnf);refine And.intro (Qo (Q4 hx25) (by kernel_rfl)) ?_;(conv=>whnf);refine J1 (enc:=QzV.enc) ([(⟨(x16==(⟨#[112,101,114,109,105,116]⟩:Bt)),x19,x22,x25⟩:QzV)]:List QzV) ?_;(conv=>whnf);refine And.intro (by kernel_rfl) ?_;(conv=>whnf);refine gdI g8 (fun g8=>?_);refine QfZ (enc:=QzV.enc) (xs:=s6.1) (ys:=([(⟨(x16==(⟨#[112,101,114,109,105,116]⟩:Bt)),x19,x22,x25⟩:QzV)]:List QzV)) ?_;(conv=>whnf);obtain rfl:=sj_ g8;exact⟨_,rfl,leX []⟩
     ·(conv=>whnf);obtain rfl:=sj_ g8;exact⟨_,rfl,leX []⟩
    ·(conv=>whnf);obtain rfl:=sj_ g8;obtain rfl:=hy7 _ rfl;obtain rfl:=sj_ g4;exact⟨_,rfl,leX []⟩
  ·(conv=>whnf);obtain rfl:=sj_ g4;obtain rfl:=hy3 _ rfl;obtain rfl:=sj_ h;exact lfP [.s [(5001,7001),(7001,5001)]]
def Qa7 (a0:(List Bt)) (a1:Bt):Option ((List QzV)):=
 bd (Zk a0) fun x1=>
(if(x1 !=0)=true then
 some []
else
 bd (QbH a0 a1) fun x2=>
 some x2)
theorem QjM {a0:(List Bt)} {a1:Bt} {r:(List QzV)} (h:Qa7 a0 a1=some r):PureC prog 20 [.d (slD Qi a0),.d (.str a1)] (.osl 5001 0 r.length) [⟨5001,109,6,r.length,rows QzV.enc r⟩]:=by
 refine Qj tOk (fn:=f20) (c:=Ql f20) rfl rfl ?_;unfold Qa7 at h;(conv=>whnf);refine Qd tOk ?_;(conv=>whnf);obtain⟨x1,hx1,h⟩:=Qa h;refine cC 0 (Jz hx1) ?_;clear hx1;(conv=>whnf);refine QC h (fun _ h=>?_) (fun _ h=>?_)
 ·(conv=>whnf);obtain rfl:=sj_ h;exact lfP [.p 5001 109 6 (rows QzV.enc ([]:List QzV))]
 ·(conv=>whnf);obtain⟨x2,hx2,h⟩:=Qa h;refine cC 1000 (QkC hx2) ?_;clear hx2;(conv=>whnf);obtain rfl:=sj_ h;exact lfP [.s [(5001,6001),(6001,5001)]]
def Qco (a0:(List QzV)) (a1:(List QzV)):Option (Bool):=
(if(((a0.length:Nat):Int) !=((a1.length:Nat):Int))=true then
 some false
else
 bd (lp (σ:=Int) (β:=(Unit⊕Unit)) (fun s1=>
(if(decide (s1<((a0.length:Nat):Int)))=true then
 gd ((0:Int)≤s1∧s1<((a0.length:Nat):Int))<|
 gd ((0:Int)≤s1∧s1<((a1.length:Nat):Int))<|
(if(!((((a0.getD s1.toNat default).Permit)==((a1.getD s1.toNat default).Permit))&&((((((a0.getD s1.toNat default).From).Addr)==(((a1.getD s1.toNat default).From).Addr))&&(((((a0.getD s1.toNat default).From).Len)==(((a1.getD s1.toNat default).From).Len))&&true))&&((((((a0.getD s1.toNat default).To).Addr)==(((a1.getD s1.toNat default).To).Addr))&&(((((a0.getD s1.toNat default).To).Len)==(((a1.getD s1.toNat default).To).Len))&&true))&&((((a0.getD s1.toNat default).Kind)==((a1.getD s1.toNat default).Kind))&&true)))))=true then
 some (.inr (.inl ()))
else
 some (.inl (IntKind.i64.wrap (s1+1))))
else
 some (.inr (.inr ())))) 0) fun x4=>
(match x4 with
| .inl d7=>
 some false
| .inr d8=>
 some true))
theorem QlR {a0:(List QzV)} {a1:(List QzV)} {r:Bool} (h:Qco a0 a1=some r):PureC prog 19 [.d (slD QzV.enc a0),.d (slD QzV.enc a1)] (dB r) []:=by
 refine Qj tOk (fn:=f19) (c:=Ql f19) rfl rfl ?_;unfold Qco at h;(conv=>whnf);refine Qd tOk ?_;(conv=>whnf);refine QC h (fun _ h=>?_) (fun _ h=>?_)
 ·(conv=>whnf);obtain rfl:=sj_ h;exact lfP []
 ·(conv=>whnf);refine Qd tOk ?_;(conv=>whnf);obtain⟨x4,hx4,h⟩:=Qa h;refine QD tOk hx4 (fun s1=>⟨0,26,[(0,.d (slD QzV.enc a0)),(1,.d (slD QzV.enc a1)),(5,dI s1)],[],[],[]⟩) ?_ ?_
  ·exact leX []
  ·clear hx4;intro s1 y2 g3 hy2;(conv=>whnf);refine Qd tOk ?_;(conv=>whnf);refine QC g3 (fun _ g3=>?_) (fun _ g3=>?_)
   ·(conv=>whnf);refine Qd tOk ?_;(conv=>whnf);obtain⟨g5,g3⟩:=Qh g3;obtain⟨g6,g3⟩:=Qh g3;refine Zq tOk [] 9 [] [0,0,3,7,0,0,48,112,255] [] ?_;(conv=>whnf);refine And.intro g5 ?_;clear g5;(conv=>whnf);refine And.intro g6 ?_;clear g6;(conv=>whnf);refine And.intro (by kernel_rfl) ?_;(conv=>whnf);refine QC g3 (fun _ g3=>?_) (fun _ g3=>?_)
    ·(conv=>whnf);obtain rfl:=sj_ g3;obtain rfl:=hy2 _ rfl;obtain rfl:=sj_ h;exact lfP []
    ·(conv=>whnf);obtain rfl:=sj_ g3;exact⟨_,rfl,leX []⟩
   ·(conv=>whnf);obtain rfl:=sj_ g3;obtain rfl:=hy2 _ rfl;obtain rfl:=sj_ h;exact lfP []
def QcT (a0:Qz0) (a1:Qz0):Option (Bool):=
(if((((((((a0.Addr !=a1.Addr)||(a0.Len !=a1.Len))||(a0.Own !=a1.Own))||(a0.Low !=a1.Low))||(a0.High !=a1.High))||(a0.Now !=a1.Now))||(((a0.Doors.length:Nat):Int) !=((a1.Doors.length:Nat):Int)))||(((a0.Entries.length:Nat):Int) !=((a1.Entries.length:Nat):Int)))=true then
 some false
else
 bd (lp (σ:=Int) (β:=(Unit⊕Unit)) (fun s1=>
(if(decide (s1<((a0.Doors.length:Nat):Int)))=true then
 gd ((0:Int)≤s1∧s1<((a0.Doors.length:Nat):Int))<|
 gd ((0:Int)≤s1∧s1<((a1.Doors.length:Nat):Int))<|
(if(!((((a0.Doors.getD s1.toNat default).Kind)==((a1.Doors.getD s1.toNat default).Kind))&&((((a0.Doors.getD s1.toNat default).Outer)==((a1.Doors.getD s1.toNat default).Outer))&&((((a0.Doors.getD s1.toNat default).Inner)==((a1.Doors.getD s1.toNat default).Inner))&&((((a0.Doors.getD s1.toNat default).InnerPort)==((a1.Doors.getD s1.toNat default).InnerPort))&&true)))))=true then
 some (.inr (.inl ()))
else
 some (.inl (IntKind.i64.wrap (s1+1))))
else
 some (.inr (.inr ())))) 0) fun x4=>
(match x4 with
| .inl d7=>
 some false
| .inr d8=>
 bd (lp (σ:=Int) (β:=(Unit⊕Unit)) (fun s9=>
(if(decide (s9<((a0.Entries.length:Nat):Int)))=true then
 gd ((0:Int)≤s9∧s9<((a0.Entries.length:Nat):Int))<|
 gd ((0:Int)≤s9∧s9<((a1.Entries.length:Nat):Int))<|
(if(!((((a0.Entries.getD s9.toNat default).Kind)==((a1.Entries.getD s9.toNat default).Kind))&&((((a0.Entries.getD s9.toNat default).Peer)==((a1.Entries.getD s9.toNat default).Peer))&&((((a0.Entries.getD s9.toNat default).PeerPort)==((a1.Entries.getD s9.toNat default).PeerPort))&&((((a0.Entries.getD s9.toNat default).Outer)==((a1.Entries.getD s9.toNat default).Outer))&&((((a0.Entries.getD s9.toNat default).Inner)==((a1.Entries.getD s9.toNat default).Inner))&&((((a0.Entries.getD s9.toNat default).InnerPort)==((a1.Entries.getD s9.toNat default).InnerPort))&&((((a0.Entries.getD s9.toNat default).Last)==((a1.Entries.getD s9.toNat default).Last))&&true))))))))=true then
 some (.inr (.inl ()))
else
 some (.inl (IntKind.i64.wrap (s9+1))))
else
 some (.inr (.inr ())))) 0) fun x12=>
(match x12 with
| .inl d15=>
 some false
| .inr d16=>
 some true)))
theorem Qnj {a0:Qz0} {a1:Qz0} {r:Bool} (h:QcT a0 a1=some r):PureC prog 21 [.agg [dI a0.Addr,dI a0.Len,dI a0.Own,dI a0.Low,dI a0.High,.d (slD QzY.enc a0.Doors),dI a0.Now,.d (slD QzZ.enc a0.Entries)],.agg [dI a1.Addr,dI a1.Len,dI a1.Own,dI a1.Low,dI a1.High,.d (slD QzY.enc a1.Doors),dI a1.Now,.d (slD QzZ.enc a1.Entries)]] (dB r) []:=by
 refine Qj tOk (fn:=f21) (c:=Ql f21) rfl rfl ?_;unfold QcT at h;(conv=>whnf);refine Qd tOk ?_;(conv=>whnf);refine QC h (fun _ h=>?_) (fun _ h=>?_)
 ·(conv=>whnf);obtain rfl:=sj_ h;exact lfP []
 ·(conv=>whnf);refine Qd tOk ?_;(conv=>whnf);obtain⟨x4,hx4,h⟩:=Qa h;refine QD tOk hx4 (fun s1=>⟨0,101,[(2,.ref 2 0 0),(3,.ref 3 0 0),(5,dI s1)],[],[(3,.box 56 [dI a1.Addr,dI a1.Len,dI a1.Own,dI a1.Low,dI a1.High,.d (slD QzY.enc a1.Doors),dI a1.Now,.d (slD QzZ.enc a1.Entries)]),(2,.box 56 [dI a0.Addr,dI a0.Len,dI a0.Own,dI a0.Low,dI a0.High,.d (slD QzY.enc a0.Doors),dI a0.Now,.d (slD QzZ.enc a0.Entries)])],[]⟩) ?_ ?_
  ·exact leX []
  ·clear hx4;intro s1 y2 g3 hy2;(conv=>whnf);refine Qd tOk ?_;(conv=>whnf);refine QC g3 (fun _ g3=>?_) (fun _ g3=>?_)
   ·(conv=>whnf);refine Qd tOk ?_;(conv=>whnf);obtain⟨g5,g3⟩:=Qh g3;obtain⟨g6,g3⟩:=Qh g3;refine Zq tOk [] 11 [] [0,1,0,7,15,0,32,0,224,480,1023] [] ?_;(conv=>whnf);refine And.intro g5 ?_;clear g5;(conv=>whnf);refine And.intro g6 ?_;clear g6;(conv=>whnf);refine And.intro (by kernel_rfl) ?_;(conv=>whnf);refine QC g3 (fun _ g3=>?_) (fun _ g3=>?_)
    ·(conv=>whnf);obtain rfl:=sj_ g3;obtain rfl:=hy2 _ rfl;obtain rfl:=sj_ h;exact lfP []
    ·(conv=>whnf);obtain rfl:=sj_ g3;exact⟨_,rfl,leX []⟩
   ·(conv=>whnf);obtain rfl:=sj_ g3;obtain rfl:=hy2 _ rfl;refine Qd tOk ?_;(conv=>whnf);obtain⟨x12,hx12,h⟩:=Qa h;refine QD tOk hx12 (fun s9=>⟨0,101,[(2,.ref 2 0 0),(3,.ref 3 0 0),(6,dI s9)],[],[(3,.box 56 [dI a1.Addr,dI a1.Len,dI a1.Own,dI a1.Low,dI a1.High,.d (slD QzY.enc a1.Doors),dI a1.Now,.d (slD QzZ.enc a1.Entries)]),(2,.box 56 [dI a0.Addr,dI a0.Len,dI a0.Own,dI a0.Low,dI a0.High,.d (slD QzY.enc a0.Doors),dI a0.Now,.d (slD QzZ.enc a0.Entries)])],[]⟩) ?_ ?_
    ·exact leX []
    ·clear hx12;intro s9 y10 g11 hy10;(conv=>whnf);refine Qd tOk ?_;(conv=>whnf);refine QC g11 (fun _ g11=>?_) (fun _ g11=>?_)
     ·(conv=>whnf);refine Qd tOk ?_;(conv=>whnf);obtain⟨g13,g11⟩:=Qh g11;obtain⟨g14,g11⟩:=Qh g11;refine Zq tOk [] 11 [] [0,1,0,7,15,0,32,0,224,480,1023] [] ?_;(conv=>whnf);refine And.intro g13 ?_;clear g13;(conv=>whnf);refine And.intro g14 ?_;clear g14;(conv=>whnf);refine And.intro (by kernel_rfl) ?_;(conv=>whnf);refine QC g11 (fun _ g11=>?_) (fun _ g11=>?_)
      ·(conv=>whnf);obtain rfl:=sj_ g11;obtain rfl:=hy10 _ rfl;obtain rfl:=sj_ h;exact lfP []
      ·(conv=>whnf);obtain rfl:=sj_ g11;exact⟨_,rfl,leX []⟩
     ·(conv=>whnf);obtain rfl:=sj_ g11;obtain rfl:=hy10 _ rfl;obtain rfl:=sj_ h;exact lfP []
def Zu (a0:Qz0) (a1:Int):Option (Bool):=
 bd (QX (⟨a0.Addr,a0.Len⟩:QzU) a1) fun x1=>
 some x1
theorem Qar {a0:Qz0} {a1:Int} {r:Bool} (h:Zu a0 a1=some r):PureC prog 78 [.agg [dI a0.Addr,dI a0.Len,dI a0.Own,dI a0.Low,dI a0.High,.d (slD QzY.enc a0.Doors),dI a0.Now,.d (slD QzZ.enc a0.Entries)],dI a1] (dB r) []:=by
 refine Qj tOk (fn:=f78) (c:=Ql f78) rfl rfl ?_;unfold Zu at h;(conv=>whnf);obtain⟨x1,hx1,h⟩:=Qa h;refine cC 0 (Jc hx1) ?_;clear hx1;(conv=>whnf);obtain rfl:=sj_ h;exact lfP []
def QbI (a0:Int):Option (Bool):=
 some (a0 !=a0)
theorem Qf3 {a0:Int} {r:Bool} (h:QbI a0=some r):PureC prog 240 [dI a0] (dB r) []:=by
 refine Qj tOk (fn:=f240) (c:=Ql f240) rfl rfl ?_;unfold QbI at h;(conv=>whnf);obtain rfl:=sj_ h;exact lfP []
def ZA (a0:Int) (a1:Int):Option (Int):=
 bd (QbI a0) fun x1=>
 bd (QbI a1) fun x2=>
(if x1=true then
(if x2=true then
 some 0
else
 some (-1))
else
(if x2=true then
 some 1
else
(if(decide (a0<a1))=true then
 some (-1)
else
(if(decide (a0>a1))=true then
 some 1
else
 some 0))))
theorem JZ {a0:Int} {a1:Int} {r:Int} (h:ZA a0 a1=some r):PureC prog 154 [dI a0,dI a1] (dI r) []:=by
 refine Qj tOk (fn:=f154) (c:=Ql f154) rfl rfl ?_;unfold ZA at h;(conv=>whnf);obtain⟨x1,hx1,h⟩:=Qa h;refine cC 0 (Qf3 hx1) ?_;clear hx1;(conv=>whnf);obtain⟨x2,hx2,h⟩:=Qa h;refine cC 0 (Qf3 hx2) ?_;clear hx2;(conv=>whnf);refine Qd tOk ?_;(conv=>whnf);refine QC h (fun _ h=>?_) (fun _ h=>?_)
 ·(conv=>whnf);refine Qd tOk ?_;(conv=>whnf);refine QC h (fun _ h=>?_) (fun _ h=>?_)
  ·(conv=>whnf);obtain rfl:=sj_ h;exact lfP []
  ·(conv=>whnf);obtain rfl:=sj_ h;exact lfP []
 ·(conv=>whnf);refine Qd tOk ?_;(conv=>whnf);refine QC h (fun _ h=>?_) (fun _ h=>?_)
  ·(conv=>whnf);obtain rfl:=sj_ h;exact lfP []
  ·(conv=>whnf);refine Qd tOk ?_;(conv=>whnf);refine QC h (fun _ h=>?_) (fun _ h=>?_)
   ·(conv=>whnf);obtain rfl:=sj_ h;exact lfP []
   ·(conv=>whnf);refine Qd tOk ?_;(conv=>whnf);refine QC h (fun _ h=>?_) (fun _ h=>?_)
    ·(conv=>whnf);obtain rfl:=sj_ h;exact lfP []
    ·(conv=>whnf);obtain rfl:=sj_ h;exact lfP []
def QcF (a0:(List Int)):Option (Int):=
 bd (lp (σ:=Int) (β:=(Int⊕Unit)) (fun s1=>
(if(decide (s1<((a0.length:Nat):Int)))=true then
 gd ((0:Int)≤s1∧s1<((a0.length:Nat):Int))<|
(if((a0.getD s1.toNat default) !=0)=true then
 some (.inr (.inl (a0.getD s1.toNat default)))
else
 some (.inl (IntKind.i64.wrap (s1+1))))
else
 some (.inr (.inr ())))) 0) fun x4=>
(match x4 with
| .inl d6=>
 some d6
| .inr d7=>
 some 0)
theorem Qjm {a0:(List Int)} {r:Int} (h:QcF a0=some r):PureC prog 70 [.d (slD Qs7 a0)] (dI r) []:=by
 refine Qj tOk (fn:=f70) (c:=Ql f70) rfl rfl ?_;unfold QcF at h;(conv=>whnf);refine Qd tOk ?_;(conv=>whnf);obtain⟨x4,hx4,h⟩:=Qa h;refine QD tOk hx4 (fun s1=>⟨0,18,[(3,dI 0),(6,.d (slD Qs7 a0)),(7,dI ((a0.length:Nat):Int)),(8,dI s1)],[],[],[]⟩) ?_ ?_
 ·exact leX []
 ·clear hx4;intro s1 y2 g3 hy2;(conv=>whnf);refine Qd tOk ?_;(conv=>whnf);refine QC g3 (fun _ g3=>?_) (fun _ g3=>?_)
  ·(conv=>whnf);refine Qd tOk ?_;(conv=>whnf);refine gdI g3 (fun g3=>?_);(conv=>whnf);refine QC g3 (fun _ g3=>?_) (fun _ g3=>?_)
   ·(conv=>whnf);obtain rfl:=sj_ g3;obtain rfl:=hy2 _ rfl;obtain rfl:=sj_ h;exact lfP []
   ·(conv=>whnf);obtain rfl:=sj_ g3;exact⟨_,rfl,leX []⟩
  ·(conv=>whnf);obtain rfl:=sj_ g3;obtain rfl:=hy2 _ rfl;obtain rfl:=sj_ h;exact lfP []
def Jg (a0:Qz0):Option (Bool):=
 bd (lp (σ:=Int) (β:=(Unit⊕Unit)) (fun s1=>
(if(decide (s1<((a0.Doors.length:Nat):Int)))=true then
 gd ((0:Int)≤s1∧s1<((a0.Doors.length:Nat):Int))<|
 bd (Qw ((a0.Doors.getD s1.toNat default).Kind) 1 7) fun x6=>
 bd (Qt ((!x6)=false) (Qw ((a0.Doors.getD s1.toNat default).Outer) 1 65535)) fun x7=>
 bd (Qt (((!x6)||(!x7))=false) (Qw ((a0.Doors.getD s1.toNat default).Outer) a0.Low a0.High)) fun x8=>
 bd (Qt ((((!x6)||(!x7))||x8)=false) (Zu a0 ((a0.Doors.getD s1.toNat default).Inner))) fun x9=>
 bd (Qt (((((!x6)||(!x7))||x8)||(!x9))=false) (Qw ((a0.Doors.getD s1.toNat default).InnerPort) 1 65535)) fun x10=>
(if(((((!x6)||(!x7))||x8)||(!x9))||(!x10))=true then
 some (.inr (.inl ()))
else
 gd ((decide (s1>0))=true→((0:Int)≤IntKind.i64.wrap (s1-1)∧IntKind.i64.wrap (s1-1)<((a0.Doors.length:Nat):Int)))<|
 bd (Qt ((decide (s1>0))=true) (ZA ((a0.Doors.getD ((IntKind.i64.wrap (s1-1)).toNat) default).Kind) ((a0.Doors.getD s1.toNat default).Kind))) fun x12=>
 gd ((decide (s1>0))=true→((0:Int)≤IntKind.i64.wrap (s1-1)∧IntKind.i64.wrap (s1-1)<((a0.Doors.length:Nat):Int)))<|
 bd (Qt ((decide (s1>0))=true) (ZA ((a0.Doors.getD ((IntKind.i64.wrap (s1-1)).toNat) default).Outer) ((a0.Doors.getD s1.toNat default).Outer))) fun x14=>
 bd (Qt ((decide (s1>0))=true) (QcF ([x12,x14]:List Int))) fun x15=>
(if((decide (s1>0))&&(decide (x15≥0)))=true then
 some (.inr (.inl ()))
else
 gd ((0:Int)≤(0:Int)∧(0:Int)≤s1∧s1≤((a0.Doors.length:Nat):Int))<|
 bd (lp (σ:=Int) (β:=(Unit⊕Unit)) (fun s17=>
(if(decide (s17<((s1.toNat:Nat):Int)))=true then
 gd ((0:Int)≤s17∧s17<((s1.toNat:Nat):Int))<|
(if(((((a0.Doors.getD s17.toNat default).Kind)==((a0.Doors.getD s1.toNat default).Kind))&&(((a0.Doors.getD s17.toNat default).Inner)==((a0.Doors.getD s1.toNat default).Inner)))&&(((a0.Doors.getD s17.toNat default).InnerPort)==((a0.Doors.getD s1.toNat default).InnerPort)))=true then
 some (.inr (.inl ()))
else
 some (.inl (IntKind.i64.wrap (s17+1))))
else
 some (.inr (.inr ())))) 0) fun x20=>
(match x20 with
| .inl d22=>
 some (.inr (.inl ()))
| .inr d23=>
 some (.inl (IntKind.i64.wrap (s1+1))))))
else
 some (.inr (.inr ())))) 0) fun x4=>
(match x4 with
| .inl d24=>
 some false
| .inr d25=>
 some (decide (((a0.Doors.length:Nat):Int)≤6)))
theorem QfS {a0:Qz0} {r:Bool} (h:Jg a0=some r):PureC prog 79 [.agg [dI a0.Addr,dI a0.Len,dI a0.Own,dI a0.Low,dI a0.High,.d (slD QzY.enc a0.Doors),dI a0.Now,.d (slD QzZ.enc a0.Entries)]] (dB r) []:=by
 refine Qj tOk (fn:=f79) (c:=Ql f79) rfl rfl ?_;unfold Jg at h;(conv=>whnf);refine Qd tOk ?_;(conv=>whnf);obtain⟨x4,hx4,h⟩:=Qa h;refine QD tOk hx4 (fun s1=>⟨0,108,[(1,.ref 1 0 0),(8,.d (slD QzY.enc a0.Doors)),(9,dI ((a0.Doors.length:Nat):Int)),(10,dI s1)],[],[(1,.box 56 [dI a0.Addr,dI a0.Len,dI a0.Own,dI a0.Low,dI a0.High,.d (slD QzY.enc a0.Doors),dI a0.Now,.d (slD QzZ.enc a0.Entries)])],[]⟩) ?_ ?_
 ·exact leX []
 ·clear hx4;intro s1 y2 g3 hy2;(conv=>whnf);refine Qd tOk ?_;(conv=>whnf);refine QC g3 (fun _ g3=>?_) (fun _ g3=>?_)
  ·(conv=>whnf);refine Qd tOk ?_;(conv=>whnf);refine gdI g3 (fun g3=>?_);(conv=>whnf);refine Qd tOk ?_;(conv=>whnf);obtain⟨x6,hx6,g3⟩:=Qa g3;refine cC 0 (QN hx6) ?_;clear hx6;(conv=>whnf);obtain⟨x7,hx7,g3⟩:=Qa g3;refine cG (fun c0=>QN (Qg hx7 c0)) ?_;(conv=>whnf);obtain⟨x8,hx8,g3⟩:=Qa g3;refine cG (fun c0=>QN (Qg hx8 c0)) ?_;(conv=>whnf);obtain⟨x9,hx9,g3⟩:=Qa g3;refine cG (fun c0=>Qar (Qg hx9 c0)) ?_;(conv=>whnf);obtain⟨x10,hx10,g3⟩:=Qa g3;refine cG (fun c0=>QN (Qg hx10 c0)) ?_;(conv=>whnf);refine QC g3 (fun _ g3=>?_) (fun _ g3=>?_)
   ·(conv=>whnf);obtain rfl:=sj_ g3;obtain rfl:=hy2 _ rfl;obtain rfl:=sj_ h;exact lfP []
   ·(conv=>whnf);refine Qd tOk ?_;(conv=>whnf);obtain⟨g11,g3⟩:=Qh g3;obtain⟨x12,hx12,g3⟩:=Qa g3;obtain⟨g13,g3⟩:=Qh g3;obtain⟨x14,hx14,g3⟩:=Qa g3;obtain⟨x15,hx15,g3⟩:=Qa g3;refine Zq tOk [.u 12 0 (dI x12) [],.u 22 0 (dI x14) [],.u 24 0 (dI x15) []] 27 [] [0,1,3,7,15,7,39,127,255,511,7,1031,4095,7,8199,7,32775,122887,253959,516103,7,1048583,4194303,8388607,16777215,33554431,67108863] [] ?_;(conv=>whnf);refine And.intro g11 ?_;clear g11;(conv=>whnf);refine And.intro (QV rfl rfl rfl rfl (by intro c0;exact JZ (Qg hx12 c0))) ?_;(conv=>whnf);refine And.intro g13 ?_;clear g13;(conv=>whnf);refine And.intro (QV rfl rfl rfl rfl (by intro c0;exact JZ (Qg hx14 c0))) ?_;(conv=>whnf);refine And.intro (QV rfl rfl rfl rfl (by intro c0;exact(Qjm (Qg hx15 c0)).le QuU)) ?_;(conv=>whnf);refine And.intro (by kernel_rfl) ?_;(conv=>whnf);refine QC g3 (fun _ g3=>?_) (fun _ g3=>?_)
    ·(conv=>whnf);obtain rfl:=sj_ g3;obtain rfl:=hy2 _ rfl;obtain rfl:=sj_ h;exact lfP []
    ·(conv=>whnf);obtain⟨g16,g3⟩:=Qh g3;refine And.intro ⟨g16,.inr rfl⟩ ?_;(conv=>whnf);obtain⟨x20,hx20,g3⟩:=Qa g3;refine QD tOk hx20 (fun s17=>⟨0,108,[(1,.ref 1 0 0),(4,.ref 4 0 0),(8,.d (slD QzY.enc a0.Doors)),(9,dI ((a0.Doors.length:Nat):Int)),(10,dI s1),(77,.d (.sl s1.toNat (rows QzY.enc a0.Doors))),(78,dI ((s1.toNat:Nat):Int)),(79,dI s17)],[],[(4,.box 116 [dI ((a0.Doors.getD s1.toNat default).Kind),dI ((a0.Doors.getD s1.toNat default).Outer),dI ((a0.Doors.getD s1.toNat default).Inner),dI ((a0.Doors.getD s1.toNat default).InnerPort)]),(1,.box 56 [dI a0.Addr,dI a0.Len,dI a0.Own,dI a0.Low,dI a0.High,.d (slD QzY.enc a0.Doors),dI a0.Now,.d (slD QzZ.enc a0.Entries)])],[]⟩) ?_ ?_
     ·exact leX []
     ·clear hx20;intro s17 y18 g19 hy18;(conv=>whnf);refine Qd tOk ?_;(conv=>whnf);refine QC g19 (fun _ g19=>?_) (fun _ g19=>?_)
      ·(conv=>whnf);refine Qd tOk ?_;(conv=>whnf);refine gdI g19 (fun g19=>?_);(conv=>whnf);refine QC g19 (fun _ g19=>?_) (fun _ g19=>?_)
       ·(conv=>whnf);obtain rfl:=sj_ g19;obtain rfl:=hy18 _ rfl;obtain rfl:=sj_ g3;obtain rfl:=hy2 _ rfl;obtain rfl:=sj_ h;exact lfP []
       ·(conv=>whnf);obtain rfl:=sj_ g19;exact⟨_,rfl,leX []⟩
      ·(conv=>whnf);obtain rfl:=sj_ g19;obtain rfl:=hy18 _ rfl;obtain rfl:=sj_ g3;exact⟨_,rfl,leX []⟩
  ·(conv=>whnf);obtain rfl:=sj_ g3;obtain rfl:=hy2 _ rfl;obtain rfl:=sj_ h;exact lfP []
def ZD (a0:QzZ):Option (Qz1):=
 some (⟨a0.Kind,a0.Inner,a0.InnerPort,a0.Peer,a0.PeerPort⟩:Qz1)
theorem Qb8 {a0:QzZ} {r:Qz1} (h:ZD a0=some r):PureC prog 158 [.agg [dI a0.Kind,dI a0.Peer,dI a0.PeerPort,dI a0.Outer,dI a0.Inner,dI a0.InnerPort,dI a0.Last]] (.agg [dI r.Kind,dI r.From,dI r.FromPort,dI r.To,dI r.ToPort]) []:=by
 refine Qj tOk (fn:=f158) (c:=Ql f158) rfl rfl ?_;unfold ZD at h;(conv=>whnf);obtain rfl:=sj_ h;exact lfP []
def Qa8 (a0:Qz1):Option (Bool):=
 bd (Qw a0.Kind 1 7) fun x1=>
 bd (Qt (x1=true) (Qw a0.From 0 65535)) fun x2=>
 bd (Qt ((x1&&x2)=true) (Qw a0.To 0 65535)) fun x3=>
 bd (Qt (((x1&&x2)&&x3)=true) (Qw a0.FromPort 1 65535)) fun x4=>
 bd (Qt ((((x1&&x2)&&x3)&&x4)=true) (Qw a0.ToPort 1 65535)) fun x5=>
 some ((((x1&&x2)&&x3)&&x4)&&x5)
theorem QjN {a0:Qz1} {r:Bool} (h:Qa8 a0=some r):PureC prog 241 [.agg [dI a0.Kind,dI a0.From,dI a0.FromPort,dI a0.To,dI a0.ToPort]] (dB r) []:=by
 refine Qj tOk (fn:=f241) (c:=Ql f241) rfl rfl ?_;unfold Qa8 at h;(conv=>whnf);obtain⟨x1,hx1,h⟩:=Qa h;refine cC 0 (QN hx1) ?_;clear hx1;(conv=>whnf);obtain⟨x2,hx2,h⟩:=Qa h;refine cG (fun c0=>QN (Qg hx2 c0)) ?_;(conv=>whnf);obtain⟨x3,hx3,h⟩:=Qa h;refine cG (fun c0=>QN (Qg hx3 c0)) ?_;(conv=>whnf);obtain⟨x4,hx4,h⟩:=Qa h;refine cG (fun c0=>QN (Qg hx4 c0)) ?_;(conv=>whnf);obtain⟨x5,hx5,h⟩:=Qa h;refine cG (fun c0=>QN (Qg hx5 c0)) ?_;(conv=>whnf);obtain rfl:=sj_ h;exact lfP []
def Qas (a0:Qz0) (a1:QzZ):Option (Int):=
 some (IntKind.i64.wrap (a0.Now-a1.Last))
theorem Qey {a0:Qz0} {a1:QzZ} {r:Int} (h:Qas a0 a1=some r):PureC prog 242 [.agg [dI a0.Addr,dI a0.Len,dI a0.Own,dI a0.Low,dI a0.High,.d (slD QzY.enc a0.Doors),dI a0.Now,.d (slD QzZ.enc a0.Entries)],.agg [dI a1.Kind,dI a1.Peer,dI a1.PeerPort,dI a1.Outer,dI a1.Inner,dI a1.InnerPort,dI a1.Last]] (dI r) []:=by
 refine Qj tOk (fn:=f242) (c:=Ql f242) rfl rfl ?_;unfold Qas at h;(conv=>whnf);obtain rfl:=sj_ h;exact lfP []
def Jh (a0:Qz0) (a1:QzZ):Option (Bool):=
 bd (ZD a1) fun x1=>
 bd (Qa8 x1) fun x2=>
 bd (Qt (x2=true) (Qw a1.Outer a0.Low a0.High)) fun x3=>
 bd (Qt ((x2&&x3)=true) (Zu a0 a1.Inner)) fun x4=>
 bd (Qt (((x2&&x3)&&x4)=true) (Zu a0 a1.Peer)) fun x5=>
 bd (Qt (((((x2&&x3)&&x4)&&(!x5))&&(a1.Peer !=a0.Own))=true) (Qw a1.Last 0 a0.Now)) fun x6=>
 bd (Qt ((((((x2&&x3)&&x4)&&(!x5))&&(a1.Peer !=a0.Own))&&x6)=true) (Qas a0 a1)) fun x7=>
 some ((((((x2&&x3)&&x4)&&(!x5))&&(a1.Peer !=a0.Own))&&x6)&&(decide (x7<12)))
theorem QfT {a0:Qz0} {a1:QzZ} {r:Bool} (h:Jh a0 a1=some r):PureC prog 155 [.agg [dI a0.Addr,dI a0.Len,dI a0.Own,dI a0.Low,dI a0.High,.d (slD QzY.enc a0.Doors),dI a0.Now,.d (slD QzZ.enc a0.Entries)],.agg [dI a1.Kind,dI a1.Peer,dI a1.PeerPort,dI a1.Outer,dI a1.Inner,dI a1.InnerPort,dI a1.Last]] (dB r) []:=by
 refine Qj tOk (fn:=f155) (c:=Ql f155) rfl rfl ?_;unfold Jh at h;(conv=>whnf);obtain⟨x1,hx1,h⟩:=Qa h;refine cC 0 (Qb8 hx1) ?_;clear hx1;(conv=>whnf);obtain⟨x2,hx2,h⟩:=Qa h;refine cC 0 (QjN hx2) ?_;clear hx2;(conv=>whnf);obtain⟨x3,hx3,h⟩:=Qa h;refine cG (fun c0=>QN (Qg hx3 c0)) ?_;(conv=>whnf);obtain⟨x4,hx4,h⟩:=Qa h;refine cG (fun c0=>Qar (Qg hx4 c0)) ?_;(conv=>whnf);obtain⟨x5,hx5,h⟩:=Qa h;refine cG (fun c0=>Qar (Qg hx5 c0)) ?_;(conv=>whnf);obtain⟨x6,hx6,h⟩:=Qa h;refine cG (fun c0=>QN (Qg hx6 c0)) ?_;(conv=>whnf);obtain⟨x7,hx7,h⟩:=Qa h;refine cG (fun c0=>Qey (Qg hx7 c0)) ?_;(conv=>whnf);obtain rfl:=sj_ h;exact lfP []
def Z9 (a0:QzZ) (a1:QzZ):Option (Int):=
 bd (ZA a0.Kind a1.Kind) fun x1=>
 bd (ZA a0.Peer a1.Peer) fun x2=>
 bd (ZA a0.PeerPort a1.PeerPort) fun x3=>
 bd (ZA a0.Outer a1.Outer) fun x4=>
 bd (QcF ([x1,x2,x3,x4]:List Int)) fun x5=>
 some x5
theorem Qfj {a0:QzZ} {a1:QzZ} {r:Int} (h:Z9 a0 a1=some r):PureC prog 156 [.agg [dI a0.Kind,dI a0.Peer,dI a0.PeerPort,dI a0.Outer,dI a0.Inner,dI a0.InnerPort,dI a0.Last],.agg [dI a1.Kind,dI a1.Peer,dI a1.PeerPort,dI a1.Outer,dI a1.Inner,dI a1.InnerPort,dI a1.Last]] (dI r) []:=by
 refine Qj tOk (fn:=f156) (c:=Ql f156) rfl rfl ?_;unfold Z9 at h;(conv=>whnf);obtain⟨x1,hx1,h⟩:=Qa h;obtain⟨x2,hx2,h⟩:=Qa h;obtain⟨x3,hx3,h⟩:=Qa h;obtain⟨x4,hx4,h⟩:=Qa h;obtain⟨x5,hx5,h⟩:=Qa h;refine Zq tOk [.u 4 0 (dI x1) [],.u 9 0 (dI x2) [],.u 14 0 (dI x3) [],.u 19 0 (dI x4) [],.u 21 0 (dI x5) []] 23 [] [0,1,0,4,15,0,32,0,128,511,0,1024,0,4096,16383,0,32768,0,131072,524287,1048575,2097151,4194303] [] ?_;(conv=>whnf);refine And.intro (Qo (JZ hx1) (by kernel_rfl)) ?_;(conv=>whnf);refine And.intro (Qo (JZ hx2) (by kernel_rfl)) ?_;(conv=>whnf);refine And.intro (Qo (JZ hx3) (by kernel_rfl)) ?_;(conv=>whnf);refine And.intro (Qo (JZ hx4) (by kernel_rfl)) ?_;(conv=>whnf);refine J1 (enc:=Qs7) ([x1,x2,x3,x4]:List Int) ?_;(conv=>whnf);refine And.intro (Qo (Qjm hx5) (by kernel_rfl)) ?_;(conv=>whnf);refine And.intro (by kernel_rfl) ?_;(conv=>whnf);obtain rfl:=sj_ h;exact lfP []
def ZO (a0:Qz0) (a1:QzZ):Option (Bool):=
 bd (Qas a0 a1) fun x1=>
 some (decide (x1<8))
theorem QdS {a0:Qz0} {a1:QzZ} {r:Bool} (h:ZO a0 a1=some r):PureC prog 157 [.agg [dI a0.Addr,dI a0.Len,dI a0.Own,dI a0.Low,dI a0.High,.d (slD QzY.enc a0.Doors),dI a0.Now,.d (slD QzZ.enc a0.Entries)],.agg [dI a1.Kind,dI a1.Peer,dI a1.PeerPort,dI a1.Outer,dI a1.Inner,dI a1.InnerPort,dI a1.Last]] (dB r) []:=by
 refine Qj tOk (fn:=f157) (c:=Ql f157) rfl rfl ?_;unfold ZO at h;(conv=>whnf);obtain⟨x1,hx1,h⟩:=Qa h;refine cC 0 (Qey hx1) ?_;clear hx1;(conv=>whnf);obtain rfl:=sj_ h;exact lfP []
def ZX (a0:Qz0):Option (Bool):=
 bd (lp (σ:=Int) (β:=(Unit⊕Unit)) (fun s1=>
(if(decide (s1<((a0.Entries.length:Nat):Int)))=true then
 gd ((0:Int)≤s1∧s1<((a0.Entries.length:Nat):Int))<|
 bd (Jh a0 (a0.Entries.getD s1.toNat default)) fun x6=>
 gd ((decide (s1>0))=true→((!x6)=false→((0:Int)≤IntKind.i64.wrap (s1-1)∧IntKind.i64.wrap (s1-1)<((a0.Entries.length:Nat):Int))))<|
 bd (Qt ((decide (s1>0))=true∧(!x6)=false) (Z9 (a0.Entries.getD ((IntKind.i64.wrap (s1-1)).toNat) default) (a0.Entries.getD s1.toNat default))) fun x8=>
(if((!x6)||((decide (s1>0))&&(decide (x8≥0))))=true then
 some (.inr (.inl ()))
else
 gd ((0:Int)≤(0:Int)∧(0:Int)≤s1∧s1≤((a0.Entries.length:Nat):Int))<|
 bd (lp (σ:=Int) (β:=(Unit⊕Unit)) (fun s10=>
(if(decide (s10<((s1.toNat:Nat):Int)))=true then
 gd ((0:Int)≤s10∧s10<((s1.toNat:Nat):Int))<|
 bd (ZO a0 (a0.Entries.getD s1.toNat default)) fun x15=>
 bd (Qt (x15=true) (ZO a0 (a0.Entries.getD s10.toNat default))) fun x16=>
 bd (Qt ((x15&&x16)=true) (ZD (a0.Entries.getD s1.toNat default))) fun x17=>
 bd (Qt ((x15&&x16)=true) (ZD (a0.Entries.getD s10.toNat default))) fun x18=>
(if((x15&&x16)&&((x17.Kind==x18.Kind)&&((x17.From==x18.From)&&((x17.FromPort==x18.FromPort)&&((x17.To==x18.To)&&((x17.ToPort==x18.ToPort)&&true))))))=true then
 some (.inr (.inl ()))
else
 some (.inl (IntKind.i64.wrap (s10+1))))
else
 some (.inr (.inr ())))) 0) fun x13=>
(match x13 with
| .inl d19=>
 some (.inr (.inl ()))
| .inr d20=>
 some (.inl (IntKind.i64.wrap (s1+1)))))
else
 some (.inr (.inr ())))) 0) fun x4=>
(match x4 with
| .inl d21=>
 some false
| .inr d22=>
 some (decide (((a0.Entries.length:Nat):Int)≤16)))
theorem QeW {a0:Qz0} {r:Bool} (h:ZX a0=some r):PureC prog 80 [.agg [dI a0.Addr,dI a0.Len,dI a0.Own,dI a0.Low,dI a0.High,.d (slD QzY.enc a0.Doors),dI a0.Now,.d (slD QzZ.enc a0.Entries)]] (dB r) []:=by
 refine Qj tOk (fn:=f80) (c:=Ql f80) rfl rfl ?_;unfold ZX at h;(conv=>whnf);refine Qd tOk ?_;(conv=>whnf);obtain⟨x4,hx4,h⟩:=Qa h;refine QD tOk hx4 (fun s1=>⟨0,64,[(1,.ref 1 0 0),(8,.d (slD QzZ.enc a0.Entries)),(9,dI ((a0.Entries.length:Nat):Int)),(10,dI s1)],[],[(1,.box 56 [dI a0.Addr,dI a0.Len,dI a0.Own,dI a0.Low,dI a0.High,.d (slD QzY.enc a0.Doors),dI a0.Now,.d (slD QzZ.enc a0.Entries)])],[]⟩) ?_ ?_
 ·exact leX []
 ·clear hx4;intro s1 y2 g3 hy2;(conv=>whnf);refine Qd tOk ?_;(conv=>whnf);refine QC g3 (fun _ g3=>?_) (fun _ g3=>?_)
  ·(conv=>whnf);refine Qd tOk ?_;(conv=>whnf);refine gdI g3 (fun g3=>?_);(conv=>whnf);refine Qd tOk ?_;(conv=>whnf);obtain⟨x6,hx6,g3⟩:=Qa g3;obtain⟨g7,g3⟩:=Qh g3;obtain⟨x8,hx8,g3⟩:=Qa g3;refine Zq tOk [.u 2 0 (dB x6) [],.u 15 0 (dI x8) []] 19 [] [0,0,3,7,15,31,63,127,255,511,255,1279,4095,8191,255,32767,65535,131071,262143] [] ?_;(conv=>whnf);refine And.intro (Qo (QfT hx6) (by kernel_rfl)) ?_;(conv=>whnf);refine And.intro g7 ?_;clear g7;(conv=>whnf);refine And.intro (QV rfl rfl rfl rfl (by intro c0 c1;exact Qfj (Qg hx8 ⟨c0,c1⟩))) ?_;(conv=>whnf);refine And.intro (by kernel_rfl) ?_;(conv=>whnf);refine QC g3 (fun _ g3=>?_) (fun _ g3=>?_)
   ·(conv=>whnf);obtain rfl:=sj_ g3;obtain rfl:=hy2 _ rfl;obtain rfl:=sj_ h;exact lfP []
   ·(conv=>whnf);obtain⟨g9,g3⟩:=Qh g3;refine And.intro ⟨g9,.inr rfl⟩ ?_;(conv=>whnf);obtain⟨x13,hx13,g3⟩:=Qa g3;refine QD tOk hx13 (fun s10=>⟨0,64,[(1,.ref 1 0 0),(4,.ref 4 0 0),(8,.d (slD QzZ.enc a0.Entries)),(9,dI ((a0.Entries.length:Nat):Int)),(10,dI s1),(37,.d (.sl s1.toNat (rows QzZ.enc a0.Entries))),(38,dI ((s1.toNat:Nat):Int)),(39,dI s10)],[],[(4,.box 120 [dI ((a0.Entries.getD s1.toNat default).Kind),dI ((a0.Entries.getD s1.toNat default).Peer),dI ((a0.Entries.getD s1.toNat default).PeerPort),dI ((a0.Entries.getD s1.toNat default).Outer),dI ((a0.Entries.getD s1.toNat default).Inner),dI ((a0.Entries.getD s1.toNat default).InnerPort),dI ((a0.Entries.getD s1.toNat default).Last)]),(1,.box 56 [dI a0.Addr,dI a0.Len,dI a0.Own,dI a0.Low,dI a0.High,.d (slD QzY.enc a0.Doors),dI a0.Now,.d (slD QzZ.enc a0.Entries)])],[]⟩) ?_ ?_
    ·exact leX []
    ·clear hx13;intro s10 y11 g12 hy11;(conv=>whnf);refine Qd tOk ?_;(conv=>whnf);refine QC g12 (fun _ g12=>?_) (fun _ g12=>?_)
     ·(conv=>whnf);refine Qd tOk ?_;(conv=>whnf);refine gdI g12 (fun g12=>?_);(conv=>whnf);obtain⟨x15,hx15,g12⟩:=Qa g12;obtain⟨x16,hx16,g12⟩:=Qa g12;obtain⟨x17,hx17,g12⟩:=Qa g12;obtain⟨x18,hx18,g12⟩:=Qa g12;refine Zq tOk [.u 2 0 (dB x15) [],.u 6 0 (dB x16) [],.u 10 0 (.agg [dI x17.Kind,dI x17.From,dI x17.FromPort,dI x17.To,dI x17.ToPort]) [],.u 12 0 (.agg [dI x18.Kind,dI x18.From,dI x18.FromPort,dI x18.To,dI x18.ToPort]) []] 15 [] [0,0,3,7,15,15,63,127,255,511,1023,511,4095,8191,16383] [] ?_;(conv=>whnf);refine And.intro (Qo (QdS hx15) (by kernel_rfl)) ?_;(conv=>whnf);refine And.intro (QV rfl rfl rfl rfl (by intro c0;exact QdS (Qg hx16 c0))) ?_;(conv=>whnf);refine And.intro (QV rfl rfl rfl rfl (by intro c0;exact Qb8 (Qg hx17 c0))) ?_;(conv=>whnf);refine And.intro (QV rfl rfl rfl rfl (by intro c0;exact Qb8 (Qg hx18 c0))) ?_;(conv=>whnf);refine And.intro (by kernel_rfl) ?_;(conv=>whnf);refine QC g12 (fun _ g12=>?_) (fun _ g12=>?_)
      ·(conv=>whnf);obtain rfl:=sj_ g12;obtain rfl:=hy11 _ rfl;obtain rfl:=sj_ g3;obtain rfl:=hy2 _ rfl;obtain rfl:=sj_ h;exact lfP []
      ·(conv=>whnf);obtain rfl:=sj_ g12;exact⟨_,rfl,leX []⟩
     ·(conv=>whnf);obtain rfl:=sj_ g12;obtain rfl:=hy11 _ rfl;obtain rfl:=sj_ g3;exact⟨_,rfl,leX []⟩
  ·(conv=>whnf);obtain rfl:=sj_ g3;obtain rfl:=hy2 _ rfl;obtain rfl:=sj_ h;exact lfP []
def JB (a0:Qz0):Option (Bool):=
 bd (JU (⟨a0.Addr,a0.Len⟩:QzU)) fun x1=>
 bd (Qt ((!x1)=false) (Qw a0.Own 0 65535)) fun x2=>
 bd (Qt (((!x1)||(!x2))=false) (Zu a0 a0.Own)) fun x3=>
 bd (Qt (((((((!x1)||(!x2))||x3)||(decide (a0.Low<1)))||(decide (a0.Low>a0.High)))||(decide (a0.High>65535)))=false) (Qw a0.Now 0 1000000)) fun x4=>
(if(((((((!x1)||(!x2))||x3)||(decide (a0.Low<1)))||(decide (a0.Low>a0.High)))||(decide (a0.High>65535)))||(!x4))=true then
 some false
else
 bd (Jg a0) fun x5=>
 bd (Qt (x5=true) (ZX a0)) fun x6=>
 some (x5&&x6))
theorem QjO {a0:Qz0} {r:Bool} (h:JB a0=some r):PureC prog 22 [.agg [dI a0.Addr,dI a0.Len,dI a0.Own,dI a0.Low,dI a0.High,.d (slD QzY.enc a0.Doors),dI a0.Now,.d (slD QzZ.enc a0.Entries)]] (dB r) []:=by
 refine Qj tOk (fn:=f22) (c:=Ql f22) rfl rfl ?_;unfold JB at h;(conv=>whnf);refine Qd tOk ?_;(conv=>whnf);obtain⟨x1,hx1,h⟩:=Qa h;refine cC 0 (Qdu hx1) ?_;clear hx1;(conv=>whnf);obtain⟨x2,hx2,h⟩:=Qa h;refine cG (fun c0=>QN (Qg hx2 c0)) ?_;(conv=>whnf);obtain⟨x3,hx3,h⟩:=Qa h;refine cG (fun c0=>Qar (Qg hx3 c0)) ?_;(conv=>whnf);obtain⟨x4,hx4,h⟩:=Qa h;refine cG (fun c0=>QN (Qg hx4 c0)) ?_;(conv=>whnf);refine QC h (fun _ h=>?_) (fun _ h=>?_)
 ·(conv=>whnf);obtain rfl:=sj_ h;exact lfP []
 ·(conv=>whnf);obtain⟨x5,hx5,h⟩:=Qa h;refine cC 0 (QfS hx5) ?_;clear hx5;(conv=>whnf);obtain⟨x6,hx6,h⟩:=Qa h;refine cG (fun c0=>QeW (Qg hx6 c0)) ?_;(conv=>whnf);obtain rfl:=sj_ h;exact lfP []
def QcG (a0:(List QzV)):Option (Bool):=
 bd (lp (σ:=Int) (β:=(Unit⊕Unit)) (fun s1=>
(if(decide (s1<((a0.length:Nat):Int)))=true then
 gd ((0:Int)≤s1∧s1<((a0.length:Nat):Int))<|
 bd (JU ((a0.getD s1.toNat default).From)) fun x6=>
 bd (Qt ((!x6)=false) (JU ((a0.getD s1.toNat default).To))) fun x7=>
 bd (Qt (((!x6)||(!x7))=false) (Qw ((a0.getD s1.toNat default).Kind) 0 7)) fun x8=>
(if(((!x6)||(!x7))||(!x8))=true then
 some (.inr (.inl ()))
else
 some (.inl (IntKind.i64.wrap (s1+1))))
else
 some (.inr (.inr ())))) 0) fun x4=>
(match x4 with
| .inl d9=>
 some false
| .inr d10=>
 some (decide (((a0.length:Nat):Int)≤12)))
theorem QoA {a0:(List QzV)} {r:Bool} (h:QcG a0=some r):PureC prog 23 [.d (slD QzV.enc a0)] (dB r) []:=by
 refine Qj tOk (fn:=f23) (c:=Ql f23) rfl rfl ?_;unfold QcG at h;(conv=>whnf);refine Qd tOk ?_;(conv=>whnf);obtain⟨x4,hx4,h⟩:=Qa h;refine QD tOk hx4 (fun s1=>⟨0,31,[(0,.d (slD QzV.enc a0)),(5,.d (slD QzV.enc a0)),(6,dI ((a0.length:Nat):Int)),(7,dI s1)],[],[],[]⟩) ?_ ?_
 ·exact leX []
 ·clear hx4;intro s1 y2 g3 hy2;(conv=>whnf);refine Qd tOk ?_;(conv=>whnf);refine QC g3 (fun _ g3=>?_) (fun _ g3=>?_)
  ·(conv=>whnf);refine Qd tOk ?_;(conv=>whnf);refine gdI g3 (fun g3=>?_);(conv=>whnf);obtain⟨x6,hx6,g3⟩:=Qa g3;refine cC 0 (Qdu hx6) ?_;clear hx6;(conv=>whnf);obtain⟨x7,hx7,g3⟩:=Qa g3;refine cG (fun c0=>Qdu (Qg hx7 c0)) ?_;(conv=>whnf);obtain⟨x8,hx8,g3⟩:=Qa g3;refine cG (fun c0=>QN (Qg hx8 c0)) ?_;(conv=>whnf);refine QC g3 (fun _ g3=>?_) (fun _ g3=>?_)
   ·(conv=>whnf);obtain rfl:=sj_ g3;obtain rfl:=hy2 _ rfl;obtain rfl:=sj_ h;exact lfP []
   ·(conv=>whnf);obtain rfl:=sj_ g3;exact⟨_,rfl,leX []⟩
  ·(conv=>whnf);obtain rfl:=sj_ g3;obtain rfl:=hy2 _ rfl;obtain rfl:=sj_ h;exact lfP []
def JC (a0:(List Bt)):Option ((List Qz2)):=
 bd (QY a0 (⟨#[112,111,114,116]⟩:Bt)) fun x1=>
 bd (lp (σ:=List Qz2×Int) (β:=(Nat×(List Qz2))) (fun s2=>
(if(decide (s2.2<((x1.length:Nat):Int)))=true then
 gd ((0:Int)≤s2.2∧s2.2<((x1.length:Nat):Int))<|
 gd ((0:Int)≤2∧2<(((x1.getD s2.2.toNat default).length:Nat):Int))<|
 bd (Z8 ((x1.getD s2.2.toNat default).getD 2 default)) fun x8=>
 gd ((0:Int)≤1∧1<(((x1.getD s2.2.toNat default).length:Nat):Int))<|
 bd (Q5 ((x1.getD s2.2.toNat default).getD 1 default)) fun x10=>
(if(decide ((((x1.getD s2.2.toNat default).length:Nat):Int)>4))=true then
 gd ((0:Int)≤4∧4<(((x1.getD s2.2.toNat default).length:Nat):Int))<|
 gd (((s2.1.length)+(([(⟨x10,x8.Addr,x8.Len,((x1.getD s2.2.toNat default).getD 4 default)⟩:Qz2)]:List Qz2).length))*(40+1)≤70368744177664)<|
 some (.inl ((s2.1++([(⟨x10,x8.Addr,x8.Len,((x1.getD s2.2.toNat default).getD 4 default)⟩:Qz2)]:List Qz2)),IntKind.i64.wrap (s2.2+1)))
else
 gd (((s2.1.length)+(([(⟨x10,x8.Addr,x8.Len,ByteArray.empty⟩:Qz2)]:List Qz2).length))*(40+1)≤70368744177664)<|
 some (.inl ((s2.1++([(⟨x10,x8.Addr,x8.Len,ByteArray.empty⟩:Qz2)]:List Qz2)),IntKind.i64.wrap (s2.2+1))))
else
 some (.inr (s2.1.length,s2.1)))) (([]:List Qz2),0)) fun x5=>
 some x5.2
theorem QdM {a0:(List Bt)} {r:(List Qz2)} (h:JC a0=some r):PureC prog 81 [.d (slD Qi a0)] (.osl 5001 0 r.length) [⟨5001,129,4,r.length,rows Qz2.enc r⟩]:=by
 refine Qj tOk (fn:=f81) (c:=Ql f81) rfl rfl ?_;unfold JC at h;(conv=>whnf);refine Qd tOk ?_;(conv=>whnf);obtain⟨x1,hx1,h⟩:=Qa h;refine cE [] 1000 (Qai hx1) ?_;(conv=>whnf);obtain⟨x5,hx5,h⟩:=Qa h;refine QD tOk hx5 (fun s2=>⟨0,42,[(3,.osl 7001 0 s2.1.length),(10,.osl 6001 0 x1.length),(11,dI ((x1.length:Nat):Int)),(12,dI s2.2)],[],[(7001,.arr 129 4 s2.1.length (rows Qz2.enc s2.1)),(6001,.arr 23 1 x1.length (rows (QbZ Qi) x1))],[]⟩) ?_ ?_
 ·exact leX [.p 7001 129 4 (rows Qz2.enc ([]:List Qz2))]
 ·clear hx5;intro s2 y3 g4 hy3;(conv=>whnf);refine Qd tOk ?_;(conv=>whnf);refine QC g4 (fun _ g4=>?_) (fun _ g4=>?_)
  ·(conv=>whnf);refine Qd tOk ?_;(conv=>whnf);refine gdI g4 (fun g4=>?_);(conv=>whnf);refine gdI g4 (fun g4=>?_);(conv=>whnf);obtain⟨x8,hx8,g4⟩:=Qa g4;refine cC 0 (QbC hx8) ?_;clear hx8;(conv=>whnf);obtain⟨g9,g4⟩:=Qh g4;obtain⟨x10,hx10,g4⟩:=Qa g4;refine Zq tOk [.u 3 0 (dI x10) []] 10 [] [0,1,3,7,0,16,0,64,255,0] [1023] ?_;(conv=>whnf);refine And.intro g9 ?_;clear g9;(conv=>whnf);refine And.intro (Qo (ZL hx10) (by kernel_rfl)) ?_;(conv=>whnf);refine And.intro (by kernel_rfl) ?_;(conv=>whnf);refine Qd tOk ?_;(conv=>whnf);refine QC g4 (fun _ g4=>?_) (fun _ g4=>?_)
   ·(conv=>whnf);refine gdI g4 (fun g4=>?_);(conv=>whnf);refine J1 (enc:=Qz2.enc) ([(⟨x10,x8.Addr,x8.Len,((x1.getD s2.2.toNat default).getD 4 default)⟩:Qz2)]:List Qz2) ?_;(conv=>whnf);refine gdI g4 (fun g4=>?_);refine QfZ (enc:=Qz2.enc) (xs:=s2.1) (ys:=([(⟨x10,x8.Addr,x8.Len,((x1.getD s2.2.toNat default).getD 4 default)⟩:Qz2)]:List Qz2)) ?_;(conv=>whnf);obtain rfl:=sj_ g4;exact⟨_,rfl,leX []⟩
   ·(conv=>whnf);refine J1 (enc:=Qz2.enc) ([(⟨x10,x8.Addr,x8.Len,ByteArray.empty⟩:Qz2)]:List Qz2) ?_;(conv=>whnf);refine gdI g4 (fun g4=>?_);refine QfZ (enc:=Qz2.enc) (xs:=s2.1) (ys:=([(⟨x10,x8.Addr,x8.Len,ByteArray.empty⟩:Qz2)]:List Qz2)) ?_;(conv=>whnf);obtain rfl:=sj_ g4;exact⟨_,rfl,leX []⟩
  ·(conv=>whnf);obtain rfl:=sj_ g4;obtain rfl:=hy3 _ rfl;obtain rfl:=sj_ h;exact lfP [.s [(5001,7001),(7001,5001)]]
def Qp (a0:(List Qz3)):Option ((List Qz3)):=
 gd (a0.length<4611686018427387904)<|
 gd (∀x∈a0,(-1000000≤x.Addr∧x.Addr≤1000000)∧(-1000000≤x.Len∧x.Len≤1000000))<|
 gd (∀x∈a0,∀y∈a0,[x.Addr,x.Len]=[y.Addr,y.Len]→x=y)<|
 some (sortS (fun x y=>kLt [x.Addr,x.Len] [y.Addr,y.Len]) a0)
namespace Sf83
open Go.RowKit Go.Sort
theorem w85 (a0 a1 a2 a3:Int) (W:World):Calls prog 85 #[.agg #[.int .i64 a0,.int .i64 a1,.int .i64 a2,.int .i64 a3]] W fun e w'=>e=.returned (.agg #[.int .i64 a0,.int .i64 a1])∧∃q os',w'=grow (W.drewN q) os':=by
 go_enter func85,ntmps85
 go_wp2
 refine bodyPost_ret (v:=.agg #[.int .i64 a0,.int .i64 a1]) ?_ rfl ⟨rfl,0,_,by rw[alloc_eq_grow,alloc_eq_grow,grow_grow];rfl⟩
 simp only[results,show f85.results=#[.cell 2 106] from rfl]
 go_simp
theorem w84 (a0 a1 b0 b1:Int) (ha:-1000000≤a0∧a0≤1000000) (hb:-1000000≤b0∧b0≤1000000) (ha1:-1000000≤a1∧a1≤1000000) (hb1:-1000000≤b1∧b1≤1000000) (W:World):Calls prog 84 #[.agg #[.int .i64 a0,.int .i64 a1],.agg #[.int .i64 b0,.int .i64 b1]] W fun e w'=>e=.returned (.int .i64 (orI (QhR [a0,a1] [b0,b1])))∧∃q os',w'=grow (W.drewN q) os':=by
 have hw:IntKind.i64.wrap (a0-b0)=a0-b0:=Qs (by omega) (by omega)
 have hw1:IntKind.i64.wrap (a1-b1)=a1-b1:=Qs (by omega) (by omega)
 have ho1:a0=b0→orI (QhR [a0,a1] [b0,b1])=a1-b1:=fun h=>by subst h;simp only[QhR,orI];split<;>(try split)<;>omega
 have ho2:a0≠b0→orI (QhR [a0,a1] [b0,b1])=a0-b0:=fun h=>by simp only[QhR,orI];split<;>omega
 generalize orI (QhR [a0,a1] [b0,b1])=r at ho1 ho2⊢
 go_enter func84,ntmps84
 go_wp2
 all_goals go_ret
 ·rename_i h
  have h:a0≠b0:=by simpa using h
  exact⟨by rw[ho2 h];rfl,0,_,by rw[alloc_eq_grow,alloc_eq_grow,grow_grow];rfl⟩
 ·rename_i h
  have h:a0=b0:=by simpa using h
  exact⟨by rw[ho1 h];rfl,0,_,by rw[alloc_eq_grow,alloc_eq_grow,grow_grow];rfl⟩
theorem QzE (b j:Nat):(⟨b,0,none⟩:Addr).add j=⟨b,j,none⟩:=by
 unfold Addr.add
 by_cases h:j=0
 ·subst h;rfl
 ·rw[if_neg h,Nat.zero_add]
theorem Qq1 (w:World) (A B:Array Value) (t u:TypeId) {l:List Value} (e:A.toList=l):∀j v,l[j]? =some v→((w.alloc (.cells A t)).alloc (.cells B u)).cell? ((⟨w.heap.size,0,none⟩:Addr).add j)=some v:=fun j v h=>by
 subst e
 have e:((w.alloc (.cells A t)).alloc (.cells B u)).heap[w.heap.size]? =some (.cells A t):=by
  show((w.heap.push _).push _)[w.heap.size]? =_
  rw[Array.getElem?_push,if_neg (by simp),Array.getElem?_push_size]
 rw[QzE]
 unfold World.cell?
 simp only[e]
 simpa using h
theorem Qq2 (w:World) (A B:Array Value) (t u:TypeId) {l:List Value} (e:B.toList=l):∀j v,l[j]? =some v→((w.alloc (.cells A t)).alloc (.cells B u)).cell? ((⟨w.heap.size+1,0,none⟩:Addr).add j)=some v:=fun j v h=>by
 subst e
 have e:((w.alloc (.cells A t)).alloc (.cells B u)).heap[w.heap.size+1]? =some (.cells B u):=by
  show((w.heap.push _).push _)[w.heap.size+1]? =_
  rw[Array.getElem?_push,if_pos (by simp)]
 rw[QzE]
 unfold World.cell?
 simp only[e]
 simpa using h
theorem walk (a0 a1 a2 a3 b0 b1 b2 b3:Int) (ha:-1000000≤a0∧a0≤1000000) (hb:-1000000≤b0∧b0≤1000000) (ha1:-1000000≤a1∧a1≤1000000) (hb1:-1000000≤b1∧b1≤1000000) (W:World):Calls prog 83 #[.agg #[.int .i64 a0,.int .i64 a1,.int .i64 a2,.int .i64 a3],.agg #[.int .i64 b0,.int .i64 b1,.int .i64 b2,.int .i64 b3]] W fun e w'=>e=.returned (.int .i64 (orI (QhR [a0,a1] [b0,b1])))∧∃q os',w'=grow (W.drewN q) os':=by
 have h1:=w85 a0 a1 a2 a3
 have h2:=w85 b0 b1 b2 b3
 have h3:=w84 a0 a1 b0 b1 ha hb ha1 hb1
 generalize orI (QhR [a0,a1] [b0,b1])=r at h3⊢
 go_enter func83,ntmps83
 have szA:W.heap.size+1<((W.alloc (.cells #[.int .i64 a0,.int .i64 a1,.int .i64 a2,.int .i64 a3] 125)).alloc (.cells #[.int .i64 b0,.int .i64 b1,.int .i64 b2,.int .i64 b3] 125)).heap.size:=by show _<((W.heap.push _).push _).size;rw[Array.size_push,Array.size_push];omega
 have hA0:∀n os,(grow (((W.alloc (.cells #[.int .i64 a0,.int .i64 a1,.int .i64 a2,.int .i64 a3] 125)).alloc (.cells #[.int .i64 b0,.int .i64 b1,.int .i64 b2,.int .i64 b3] 125)).drewN n) os).cell? ⟨W.heap.size,0,none⟩=some (.int .i64 a0):=cell_grown (by show W.heap.size<_;omega) (Qq1 _ _ _ _ _ rfl 0 _ rfl)
 have hA1:∀n os,(grow (((W.alloc (.cells #[.int .i64 a0,.int .i64 a1,.int .i64 a2,.int .i64 a3] 125)).alloc (.cells #[.int .i64 b0,.int .i64 b1,.int .i64 b2,.int .i64 b3] 125)).drewN n) os).cell? ⟨W.heap.size,1,none⟩=some (.int .i64 a1):=cell_grown (by show W.heap.size<_;omega) (Qq1 _ _ _ _ _ rfl 1 _ rfl)
 have hA2:∀n os,(grow (((W.alloc (.cells #[.int .i64 a0,.int .i64 a1,.int .i64 a2,.int .i64 a3] 125)).alloc (.cells #[.int .i64 b0,.int .i64 b1,.int .i64 b2,.int .i64 b3] 125)).drewN n) os).cell? ⟨W.heap.size,2,none⟩=some (.int .i64 a2):=cell_grown (by show W.heap.size<_;omega) (Qq1 _ _ _ _ _ rfl 2 _ rfl)
 have hA3:∀n os,(grow (((W.alloc (.cells #[.int .i64 a0,.int .i64 a1,.int .i64 a2,.int .i64 a3] 125)).alloc (.cells #[.int .i64 b0,.int .i64 b1,.int .i64 b2,.int .i64 b3] 125)).drewN n) os).cell? ⟨W.heap.size,3,none⟩=some (.int .i64 a3):=cell_grown (by show W.heap.size<_;omega) (Qq1 _ _ _ _ _ rfl 3 _ rfl)
 have hB0:∀n os,(grow (((W.alloc (.cells #[.int .i64 a0,.int .i64 a1,.int .i64 a2,.int .i64 a3] 125)).alloc (.cells #[.int .i64 b0,.int .i64 b1,.int .i64 b2,.int .i64 b3] 125)).drewN n) os).cell? ⟨W.heap.size+1,0,none⟩=some (.int .i64 b0):=cell_grown (by show W.heap.size+1<_;omega) (Qq2 _ _ _ _ _ rfl 0 _ rfl)
 have hB1:∀n os,(grow (((W.alloc (.cells #[.int .i64 a0,.int .i64 a1,.int .i64 a2,.int .i64 a3] 125)).alloc (.cells #[.int .i64 b0,.int .i64 b1,.int .i64 b2,.int .i64 b3] 125)).drewN n) os).cell? ⟨W.heap.size+1,1,none⟩=some (.int .i64 b1):=cell_grown (by show W.heap.size+1<_;omega) (Qq2 _ _ _ _ _ rfl 1 _ rfl)
 have hB2:∀n os,(grow (((W.alloc (.cells #[.int .i64 a0,.int .i64 a1,.int .i64 a2,.int .i64 a3] 125)).alloc (.cells #[.int .i64 b0,.int .i64 b1,.int .i64 b2,.int .i64 b3] 125)).drewN n) os).cell? ⟨W.heap.size+1,2,none⟩=some (.int .i64 b2):=cell_grown (by show W.heap.size+1<_;omega) (Qq2 _ _ _ _ _ rfl 2 _ rfl)
 have hB3:∀n os,(grow (((W.alloc (.cells #[.int .i64 a0,.int .i64 a1,.int .i64 a2,.int .i64 a3] 125)).alloc (.cells #[.int .i64 b0,.int .i64 b1,.int .i64 b2,.int .i64 b3] 125)).drewN n) os).cell? ⟨W.heap.size+1,3,none⟩=some (.int .i64 b3):=cell_grown (by show W.heap.size+1<_;omega) (Qq2 _ _ _ _ _ rfl 3 _ rfl)
 have hfin:∀n os,∃q os',grow (((W.alloc (.cells #[.int .i64 a0,.int .i64 a1,.int .i64 a2,.int .i64 a3] 125)).alloc (.cells #[.int .i64 b0,.int .i64 b1,.int .i64 b2,.int .i64 b3] 125)).drewN n) os=grow (W.drewN q) os':=fun n os=>⟨n,_,by rw[alloc_eq_grow,alloc_eq_grow,grow_grow];show grow (grow (W.drewN n) _) os=_;exact grow_grow _ _ _⟩
 have hm:prog.follows .mixedOrders=true:=by kernel_rfl
 go_wp2_with fail
 generalize (W.alloc (.cells #[.int .i64 a0,.int .i64 a1,.int .i64 a2,.int .i64 a3] 125)).alloc (.cells #[.int .i64 b0,.int .i64 b1,.int .i64 b2,.int .i64 b3] 125)=W2 at hA0 hA1 hA2 hA3 hB0 hB1 hB2 hB3 hfin⊢
 clear szA
 go_quiet_grown (first|(go_at_call 85;first|(refine Calls.grown_of (h1 _))|(refine Calls.grown_of (h2 _)))|(go_at_call 84;refine Calls.grown_of (h3 _)))
 go_wp2
 go_ret
 exact⟨rfl,hfin _ _⟩
end Sf83
theorem Zw {a0:(List Qz3)} {r:(List Qz3)} (h:Qp a0=some r):EffC prog 82 [.osl 9000 0 a0.length,.fn 83 []] [(9000,.arr 125 4 a0.length (rows Qz3.enc a0))] (.tup []) [(9000,.arr 125 4 a0.length (rows Qz3.enc r))]:=by
 unfold Qp at h
 obtain⟨g0,h⟩:=Qh h
 obtain⟨g1,h⟩:=Qh h
 obtain⟨g2,h⟩:=Qh h
 obtain rfl:=sj_ h
 exact Qgw (t:=125) (k:=4) (q:=2) (xs:=a0) (row:=Qz3.enc) (ρ:=Lay.srfT_ren) (fs:=fun x=>[x.Addr,x.Len,x.Cost,x.Label]) (ks:=fun x=>[x.Addr,x.Len]) Lay.srfT rfl isAgg125 sizeOf125 (fun _=>rfl) (fun _=>rfl) (fun _=>rfl) (Qed (fn:=f82) (c:=Ql f82) rfl rfl (by kernel_rfl)) (enters_of func83 (by kernel_rfl) rfl) g2 g0 (fun x hx y hy W=>Sf83.walk x.Addr x.Len x.Cost x.Label y.Addr y.Len y.Cost y.Label (g1 x hx).1 (g1 y hy).1 (g1 x hx).2 (g1 y hy).2 W)
def Qa9 (a0:(List Bt)):Option ((List Qz3)):=
 bd (JC a0) fun x1=>
 bd (lp (σ:=List Qz3×Int) (β:=(Nat×(List Qz3))) (fun s2=>
(if(decide (s2.2<((x1.length:Nat):Int)))=true then
 gd ((0:Int)≤s2.2∧s2.2<((x1.length:Nat):Int))<|
 gd (((s2.1.length)+(([(⟨(x1.getD s2.2.toNat default).Addr,(x1.getD s2.2.toNat default).Len,1,0⟩:Qz3)]:List Qz3).length))*(32+1)≤70368744177664)<|
 some (.inl ((s2.1++([(⟨(x1.getD s2.2.toNat default).Addr,(x1.getD s2.2.toNat default).Len,1,0⟩:Qz3)]:List Qz3)),IntKind.i64.wrap (s2.2+1)))
else
 some (.inr (s2.1.length,s2.1)))) (([]:List Qz3),0)) fun x5=>
 bd (Qp x5.2) fun x9=>
 gd (x9.length=x5.1)<|
 some x9
theorem QjP {a0:(List Bt)} {r:(List Qz3)} (h:Qa9 a0=some r):PureC prog 25 [.d (slD Qi a0)] (.osl 5001 0 r.length) [⟨5001,125,4,r.length,rows Qz3.enc r⟩]:=by
 refine Qj tOk (fn:=f25) (c:=Ql f25) rfl rfl ?_;unfold Qa9 at h;(conv=>whnf);refine Qd tOk ?_;(conv=>whnf);obtain⟨x1,hx1,h⟩:=Qa h;refine cC 1000 (QdM hx1) ?_;clear hx1;(conv=>whnf);obtain⟨x5,hx5,h⟩:=Qa h;refine QD tOk hx5 (fun s2=>⟨0,26,[(3,.osl 7001 0 s2.1.length),(8,.osl 6001 0 x1.length),(9,dI ((x1.length:Nat):Int)),(10,dI s2.2)],[],[(7001,.arr 125 4 s2.1.length (rows Qz3.enc s2.1)),(6001,.arr 129 4 x1.length (rows Qz2.enc x1))],[]⟩) ?_ ?_
 ·exact leX [.p 7001 125 4 (rows Qz3.enc ([]:List Qz3))]
 ·clear hx5;intro s2 y3 g4 hy3;(conv=>whnf);refine Qd tOk ?_;(conv=>whnf);refine QC g4 (fun _ g4=>?_) (fun _ g4=>?_)
  ·(conv=>whnf);refine Qd tOk ?_;(conv=>whnf);refine gdI g4 (fun g4=>?_);(conv=>whnf);refine J1 (enc:=Qz3.enc) ([(⟨(x1.getD s2.2.toNat default).Addr,(x1.getD s2.2.toNat default).Len,1,0⟩:Qz3)]:List Qz3) ?_;(conv=>whnf);refine gdI g4 (fun g4=>?_);refine QfZ (enc:=Qz3.enc) (xs:=s2.1) (ys:=([(⟨(x1.getD s2.2.toNat default).Addr,(x1.getD s2.2.toNat default).Len,1,0⟩:Qz3)]:List Qz3)) ?_;(conv=>whnf);obtain rfl:=sj_ g4;exact⟨_,rfl,leX []⟩
  ·(conv=>whnf);obtain rfl:=sj_ g4;obtain rfl:=hy3 _ rfl;obtain⟨x9,hx9,h⟩:=Qa h;obtain⟨g10,h⟩:=Qh h;refine cE [(9000,7001)] 0 (Zw hx9) ?_;(conv=>whnf);obtain rfl:=sj_ h;exact lfP [.s [(5001,7001),(7001,5001)]]
def QbJ (a0:(List Bt)):Option ((List Qz2)):=
 bd (ZC a0 (⟨#[112,111,114,116]⟩:Bt)) fun x1=>
 bd (lp (σ:=List Qz2×Int) (β:=(Nat×(List Qz2))) (fun s2=>
(if(decide (s2.2<((x1.length:Nat):Int)))=true then
 gd ((0:Int)≤s2.2∧s2.2<((x1.length:Nat):Int))<|
 bd (Qe (x1.getD s2.2.toNat default) 2) fun x7=>
 bd (ZJ x7) fun x8=>
 gd ((0:Int)≤s2.2∧s2.2<((x1.length:Nat):Int))<|
 bd (Qe (x1.getD s2.2.toNat default) 1) fun x10=>
 bd (QR x10) fun x11=>
 gd ((0:Int)≤s2.2∧s2.2<((x1.length:Nat):Int))<|
 bd (Qe (x1.getD s2.2.toNat default) 4) fun x13=>
 gd (((s2.1.length)+(([(⟨x11,x8.Addr,x8.Len,x13⟩:Qz2)]:List Qz2).length))*(40+1)≤70368744177664)<|
 some (.inl ((s2.1++([(⟨x11,x8.Addr,x8.Len,x13⟩:Qz2)]:List Qz2)),IntKind.i64.wrap (s2.2+1)))
else
 some (.inr (s2.1.length,s2.1)))) (([]:List Qz2),0)) fun x5=>
 some x5.2
theorem QkD {a0:(List Bt)} {r:(List Qz2)} (h:QbJ a0=some r):PureC prog 160 [.d (slD Qi a0)] (.osl 5001 0 r.length) [⟨5001,129,4,r.length,rows Qz2.enc r⟩]:=by
 refine Qj tOk (fn:=f160) (c:=Ql f160) rfl rfl ?_;unfold QbJ at h;(conv=>whnf);obtain⟨x1,hx1,h⟩:=Qa h;refine cE [] 1000 (QcD hx1) ?_;(conv=>whnf);refine Qd tOk ?_;(conv=>whnf);obtain⟨x5,hx5,h⟩:=Qa h;refine QD tOk hx5 (fun s2=>⟨0,42,[(3,.osl 6001 0 x1.length),(4,.osl 7001 0 s2.1.length),(5,dI s2.2)],[],[(7001,.arr 129 4 s2.1.length (rows Qz2.enc s2.1)),(6001,.arr 171 1 x1.length (rows QzS.enc x1))],[]⟩) ?_ ?_
 ·exact leX [.p 7001 129 4 (rows Qz2.enc ([]:List Qz2))]
 ·clear hx5;intro s2 y3 g4 hy3;(conv=>whnf);refine Qd tOk ?_;(conv=>whnf);refine QC g4 (fun _ g4=>?_) (fun _ g4=>?_)
  ·(conv=>whnf);refine Qd tOk ?_;(conv=>whnf);refine gdI g4 (fun g4=>?_);(conv=>whnf);obtain⟨x7,hx7,g4⟩:=Qa g4;refine cC 0 (Qf hx7) ?_;clear hx7;(conv=>whnf);obtain⟨x8,hx8,g4⟩:=Qa g4;refine cC 0 (Qa6 hx8) ?_;clear hx8;(conv=>whnf);obtain⟨g9,g4⟩:=Qh g4;obtain⟨x10,hx10,g4⟩:=Qa g4;obtain⟨x11,hx11,g4⟩:=Qa g4;obtain⟨g12,g4⟩:=Qh g4;obtain⟨x13,hx13,g4⟩:=Qa g4;refine Zq tOk [.u 5 0 (.d (.str x10)) [],.u 6 0 (dI x11) [],.u 15 0 (.d (.str x13)) []] 18 [] [0,0,0,6,14,30,62,0,128,0,512,0,0,6144,14336,30846,65534,131070] [262143,524287] ?_;(conv=>whnf);refine And.intro g9 ?_;clear g9;(conv=>whnf);refine And.intro (Qo (Qf hx10) (by kernel_rfl)) ?_;(conv=>whnf);refine And.intro (Qo (Q4 hx11) (by kernel_rfl)) ?_;(conv=>whnf);refine And.intro g12 ?_;clear g12;(conv=>whnf);refine And.intro (Qo (Qf hx13) (by kernel_rfl)) ?_;(conv=>whnf);refine J1 (enc:=Qz2.enc) ([(⟨x11,x8.Addr,x8.Len,x13⟩:Qz2)]:List Qz2) ?_;(conv=>whnf);refine And.intro (by kernel_rfl) ?_;(conv=>whnf);refine gdI g4 (fun g4=>?_);refine QfZ (enc:=Qz2.enc) (xs:=s2.1) (ys:=([(⟨x11,x8.Addr,x8.Len,x13⟩:Qz2)]:List Qz2)) ?_;(conv=>whnf);obtain rfl:=sj_ g4;exact⟨_,rfl,leX []⟩
  ·(conv=>whnf);obtain rfl:=sj_ g4;obtain rfl:=hy3 _ rfl;obtain rfl:=sj_ h;exact lfP [.s [(5001,7001),(7001,5001)]]
def Qdj (a0:Qz3) (a1:Qz3):Option (Bool):=
 some ((decide (a0.Addr<a1.Addr))||((a0.Addr==a1.Addr)&&(decide (a0.Len<a1.Len))))
theorem QlS {a0:Qz3} {a1:Qz3} {r:Bool} (h:Qdj a0 a1=some r):PureC prog 251 [.agg (hnC a0),.agg (hnC a1)] (dB r) []:=by
 refine Qj tOk (fn:=f251) (c:=Ql f251) rfl rfl ?_;unfold Qdj at h;(conv=>whnf);obtain rfl:=sj_ h;exact lfP []
def QaG (a0:(List Qz3)):Option ((List Qz3)):=
 gd (((0)+(a0.length))*(32+1)≤70368744177664)<|
 some a0
theorem Qf4 {a0:(List Qz3)} {r:(List Qz3)} (h:QaG a0=some r):PureC prog 252 [.d (slD Qz3.enc a0)] (.osl 5001 0 r.length) [⟨5001,125,4,r.length,rows Qz3.enc r⟩]:=by
 refine Qj tOk (fn:=f252) (c:=Ql f252) rfl rfl ?_;unfold QaG at h;(conv=>whnf);refine gdI h (fun h=>?_);refine QwZ (enc:=Qz3.enc) (ys:=a0) ?_;(conv=>whnf);obtain rfl:=sj_ h;exact lfP [.s [(5,5001),(5001,5)]]
def Qb0 (a0:(List Qz3)) (a1:Qz3):Option ((List Qz3)):=
 bd (lp (σ:=Int) (β:=(Int)) (fun s1=>
 gd ((decide (s1<((a0.length:Nat):Int)))=true→((0:Int)≤s1∧s1<((a0.length:Nat):Int)))<|
 bd (Qt ((decide (s1<((a0.length:Nat):Int)))=true) (Qdj (a0.getD s1.toNat default) a1)) fun x6=>
(if((decide (s1<((a0.length:Nat):Int)))&&x6)=true then
 some (.inl (IntKind.i64.wrap (s1+1)))
else
 some (.inr s1))) 0) fun x4=>
 gd ((decide (x4<((a0.length:Nat):Int)))=true→((0:Int)≤x4∧x4<((a0.length:Nat):Int)))<|
 gd (((decide (x4<((a0.length:Nat):Int)))&&(((a0.getD x4.toNat default).Addr)==a1.Addr))=true→((0:Int)≤x4∧x4<((a0.length:Nat):Int)))<|
(if(((decide (x4<((a0.length:Nat):Int)))&&(((a0.getD x4.toNat default).Addr)==a1.Addr))&&(((a0.getD x4.toNat default).Len)==a1.Len))=true then
 bd (QaG a0) fun x10=>
 gd ((0:Int)≤x4∧x4<((x10.length:Nat):Int))<|
 some (x10.set x4.toNat a1)
else
 gd ((0:Int)≤(0:Int)∧(0:Int)≤x4∧x4≤((a0.length:Nat):Int))<|
 bd (QaG (a0.take x4.toNat)) fun x13=>
 gd (((x13.length)+(([a1]:List Qz3).length))*(32+1)≤70368744177664)<|
 gd ((0:Int)≤x4∧x4≤((a0.length:Nat):Int)∧((a0.length:Nat):Int)≤((a0.length:Nat):Int))<|
 gd ((((x13++([a1]:List Qz3)).length)+((QdL ((a0.length:Nat):Int) x4)))*(32+1)≤70368744177664)<|
 some ((x13++([a1]:List Qz3))++(((a0).take (x4.toNat+(QdL ((a0.length:Nat):Int) x4))).drop x4.toNat)))
theorem Qnk {a0:(List Qz3)} {a1:Qz3} {r:(List Qz3)} (h:Qb0 a0 a1=some r):PureC prog 161 [.d (slD Qz3.enc a0),.agg (hnC a1)] (.osl 5001 0 r.length) [⟨5001,125,4,r.length,rows Qz3.enc r⟩]:=by
 refine Qj tOk (fn:=f161) (c:=Ql f161) rfl rfl ?_;unfold Qb0 at h;(conv=>whnf);refine Qd tOk ?_;(conv=>whnf);obtain⟨x4,hx4,h⟩:=Qa h;refine QD tOk hx4 (fun s1=>⟨0,63,[(0,.d (slD Qz3.enc a0)),(3,.ref 3 0 0),(5,dI s1)],[],[(3,.box 125 (hnC a1))],[]⟩) ?_ ?_
 ·exact leX []
 ·clear hx4;intro s1 y2 g3 hy2;(conv=>whnf);refine Qd tOk ?_;(conv=>whnf);obtain⟨g5,g3⟩:=Qh g3;obtain⟨x6,hx6,g3⟩:=Qa g3;refine Zq tOk [.u 10 0 (dB x6) []] 12 [] [0,0,2,7,15,31,31,127,255,31,1023,2047] [] ?_;(conv=>whnf);refine And.intro g5 ?_;clear g5;(conv=>whnf);refine And.intro (QV rfl rfl rfl rfl (by intro c0;exact QlS (Qg hx6 c0))) ?_;(conv=>whnf);refine And.intro (by kernel_rfl) ?_;(conv=>whnf);refine QC g3 (fun _ g3=>?_) (fun _ g3=>?_)
  ·(conv=>whnf);obtain rfl:=sj_ g3;exact⟨_,rfl,leX []⟩
  ·(conv=>whnf);obtain rfl:=sj_ g3;obtain rfl:=hy2 _ rfl;refine Qd tOk ?_;(conv=>whnf);obtain⟨g8,h⟩:=Qh h;obtain⟨g9,h⟩:=Qh h;refine Zq tOk [] 24 [] [0,0,2,7,15,31,31,127,255,511,31,1055,4095,8191,16383,32767,32767,131071,262143,524287,32767,1081343,4194303,8388607] [] ?_;(conv=>whnf);refine And.intro g8 ?_;clear g8;(conv=>whnf);refine And.intro g9 ?_;clear g9;(conv=>whnf);refine And.intro (by kernel_rfl) ?_;(conv=>whnf);refine QC h (fun _ h=>?_) (fun _ h=>?_)
   ·(conv=>whnf);obtain⟨x10,hx10,h⟩:=Qa h;refine cC 1000 (Qf4 hx10) ?_;clear hx10;(conv=>whnf);refine gdI h (fun h=>?_);(conv=>whnf);refine⟨rows Qz3.enc (x10.set s1.toNat a1),Qc8 QuV rfl,?_⟩;(conv=>whnf);obtain rfl:=sj_ h;exact lfP [.s [(5001,6001),(6001,5001)]]
   ·(conv=>whnf);obtain⟨g12,h⟩:=Qh h;obtain⟨x13,hx13,h⟩:=Qa h;obtain⟨g14,h⟩:=Qh h;obtain⟨g15,h⟩:=Qh h;obtain⟨g16,h⟩:=Qh h;refine Ql5 tOk [.e 3 [] (.osl 6001 0 x13.length) [] [(6001,.arr 125 4 x13.length (rows Qz3.enc x13))],.a 6 [(6001,.arr 125 4 x13.length (rows Qz3.enc x13))] (.osl 58 0 ((x13++([a1]:List Qz3)).length)) [(58,.arr 125 4 ((x13++([a1]:List Qz3)).length) (rows Qz3.enc (x13++([a1]:List Qz3))))],.a 10 [(58,.arr 125 4 ((x13++([a1]:List Qz3)).length) (rows Qz3.enc (x13++([a1]:List Qz3))))] (.osl 62 0 (((x13++([a1]:List Qz3))++(((a0).take (s1.toNat+(QdL ((a0.length:Nat):Int) s1))).drop s1.toNat)).length)) [(62,.arr 125 4 (((x13++([a1]:List Qz3))++(((a0).take (s1.toNat+(QdL ((a0.length:Nat):Int) s1))).drop s1.toNat)).length) (rows Qz3.enc ((x13++([a1]:List Qz3))++(((a0).take (s1.toNat+(QdL ((a0.length:Nat):Int) s1))).drop s1.toNat))))]] 12 [] [0,0,3,7,0,16,63,0,0,384,1023,2047] [] [] ?_;(conv=>whnf);refine And.intro ⟨g12,.inr rfl⟩ ?_;(conv=>whnf);refine And.intro (eH [] 1000 ((Qf4 hx13).eff rfl rfl)) ?_;(conv=>whnf);refine J1 (enc:=Qz3.enc) ([a1]:List Qz3) ?_;(conv=>whnf);refine And.intro (by(conv=>whnf);exact⟨g14,QfZ (enc:=Qz3.enc) (xs:=x13) (ys:=([a1]:List Qz3)) ⟨rfl,rfl⟩⟩) ?_;(conv=>whnf);refine And.intro ⟨g15,.inr rfl⟩ ?_;(conv=>whnf);refine And.intro (by(conv=>whnf);exact⟨g16,QfZ (enc:=Qz3.enc) (xs:=(x13++([a1]:List Qz3))) (ys:=((a0).take (s1.toNat+(QdL ((a0.length:Nat):Int) s1))).drop s1.toNat) ⟨rfl,rfl⟩⟩) ?_;(conv=>whnf);refine And.intro (by kernel_rfl) ?_;(conv=>whnf);obtain rfl:=sj_ h;exact lfP [.s [(62,5001),(5001,62)]]
def QbK (a0:(List Bt)):Option ((List Qz3)):=
 bd (QbJ a0) fun x1=>
 bd (lp (σ:=List Qz3×Int) (β:=(Nat×(List Qz3))) (fun s2=>
(if(decide (s2.2<((x1.length:Nat):Int)))=true then
 gd ((0:Int)≤s2.2∧s2.2<((x1.length:Nat):Int))<|
 gd ((0:Int)≤s2.2∧s2.2<((x1.length:Nat):Int))<|
 bd (Qb0 s2.1 (⟨(x1.getD s2.2.toNat default).Addr,(x1.getD s2.2.toNat default).Len,1,0⟩:Qz3)) fun x8=>
 some (.inl (x8,IntKind.i64.wrap (s2.2+1)))
else
 some (.inr (s2.1.length,s2.1)))) (([]:List Qz3),0)) fun x5=>
 some x5.2
theorem QkE {a0:(List Bt)} {r:(List Qz3)} (h:QbK a0=some r):PureC prog 86 [.d (slD Qi a0)] (.osl 5001 0 r.length) [⟨5001,125,4,r.length,rows Qz3.enc r⟩]:=by
 refine Qj tOk (fn:=f86) (c:=Ql f86) rfl rfl ?_;unfold QbK at h;(conv=>whnf);obtain⟨x1,hx1,h⟩:=Qa h;refine cC 1000 (QkD hx1) ?_;clear hx1;(conv=>whnf);refine Qd tOk ?_;(conv=>whnf);obtain⟨x5,hx5,h⟩:=Qa h;refine QD tOk hx5 (fun s2=>⟨0,29,[(3,.osl 6001 0 x1.length),(4,.osl 7001 0 s2.1.length),(5,dI s2.2)],[],[(7001,.arr 125 4 s2.1.length (rows Qz3.enc s2.1)),(6001,.arr 129 4 x1.length (rows Qz2.enc x1))],[]⟩) ?_ ?_
 ·exact leX [.p 7001 125 4 (rows Qz3.enc ([]:List Qz3))]
 ·clear hx5;intro s2 y3 g4 hy3;(conv=>whnf);refine Qd tOk ?_;(conv=>whnf);refine QC g4 (fun _ g4=>?_) (fun _ g4=>?_)
  ·(conv=>whnf);refine Qd tOk ?_;(conv=>whnf);obtain⟨g6,g4⟩:=Qh g4;obtain⟨g7,g4⟩:=Qh g4;obtain⟨x8,hx8,g4⟩:=Qa g4;refine Zq tOk [.u 12 3000 (.osl 5001 0 x8.length) [⟨5001,125,4,x8.length,rows Qz3.enc x8⟩]] 13 [] [0,0,0,6,14,30,0,0,192,448,960,2046,4095] [8191] ?_;(conv=>whnf);refine And.intro g6 ?_;clear g6;(conv=>whnf);refine And.intro g7 ?_;clear g7;(conv=>whnf);refine And.intro (Qo (Qnk hx8) (by kernel_rfl)) ?_;(conv=>whnf);refine And.intro (by kernel_rfl) ?_;(conv=>whnf);obtain rfl:=sj_ g4;exact⟨_,rfl,leX [.s [(7001,8001),(8001,7001)]]⟩
  ·(conv=>whnf);obtain rfl:=sj_ g4;obtain rfl:=hy3 _ rfl;obtain rfl:=sj_ h;exact lfP [.s [(5001,7001),(7001,5001)]]
def Qba (a0:(List Bt)):Option ((List Qz3)):=
 bd (Zk a0) fun x1=>
(if(x1 !=0)=true then
 some []
else
 bd (QbK a0) fun x2=>
 some x2)
theorem QjQ {a0:(List Bt)} {r:(List Qz3)} (h:Qba a0=some r):PureC prog 26 [.d (slD Qi a0)] (.osl 5001 0 r.length) [⟨5001,125,4,r.length,rows Qz3.enc r⟩]:=by
 refine Qj tOk (fn:=f26) (c:=Ql f26) rfl rfl ?_;unfold Qba at h;(conv=>whnf);refine Qd tOk ?_;(conv=>whnf);obtain⟨x1,hx1,h⟩:=Qa h;refine cC 0 (Jz hx1) ?_;clear hx1;(conv=>whnf);refine QC h (fun _ h=>?_) (fun _ h=>?_)
 ·(conv=>whnf);obtain rfl:=sj_ h;exact lfP [.p 5001 125 4 (rows Qz3.enc ([]:List Qz3))]
 ·(conv=>whnf);obtain⟨x2,hx2,h⟩:=Qa h;refine cC 1000 (QkE hx2) ?_;clear hx2;(conv=>whnf);obtain rfl:=sj_ h;exact lfP [.s [(5001,6001),(6001,5001)]]
def Qcp (a0:(List Qz3)) (a1:(List Qz3)):Option (Bool):=
(if(((a0.length:Nat):Int) !=((a1.length:Nat):Int))=true then
 some false
else
 bd (lp (σ:=Int) (β:=(Unit⊕Unit)) (fun s1=>
(if(decide (s1<((a0.length:Nat):Int)))=true then
 gd ((0:Int)≤s1∧s1<((a0.length:Nat):Int))<|
 gd ((0:Int)≤s1∧s1<((a1.length:Nat):Int))<|
(if(!((((a0.getD s1.toNat default).Addr)==((a1.getD s1.toNat default).Addr))&&((((a0.getD s1.toNat default).Len)==((a1.getD s1.toNat default).Len))&&((((a0.getD s1.toNat default).Cost)==((a1.getD s1.toNat default).Cost))&&((((a0.getD s1.toNat default).Label)==((a1.getD s1.toNat default).Label))&&true)))))=true then
 some (.inr (.inl ()))
else
 some (.inl (IntKind.i64.wrap (s1+1))))
else
 some (.inr (.inr ())))) 0) fun x4=>
(match x4 with
| .inl d7=>
 some false
| .inr d8=>
 some true))
theorem QlT {a0:(List Qz3)} {a1:(List Qz3)} {r:Bool} (h:Qcp a0 a1=some r):PureC prog 24 [.d (slD Qz3.enc a0),.d (slD Qz3.enc a1)] (dB r) []:=by
 refine Qj tOk (fn:=f24) (c:=Ql f24) rfl rfl ?_;unfold Qcp at h;(conv=>whnf);refine Qd tOk ?_;(conv=>whnf);refine QC h (fun _ h=>?_) (fun _ h=>?_)
 ·(conv=>whnf);obtain rfl:=sj_ h;exact lfP []
 ·(conv=>whnf);refine Qd tOk ?_;(conv=>whnf);obtain⟨x4,hx4,h⟩:=Qa h;refine QD tOk hx4 (fun s1=>⟨0,26,[(0,.d (slD Qz3.enc a0)),(1,.d (slD Qz3.enc a1)),(5,dI s1)],[],[],[]⟩) ?_ ?_
  ·exact leX []
  ·clear hx4;intro s1 y2 g3 hy2;(conv=>whnf);refine Qd tOk ?_;(conv=>whnf);refine QC g3 (fun _ g3=>?_) (fun _ g3=>?_)
   ·(conv=>whnf);refine Qd tOk ?_;(conv=>whnf);obtain⟨g5,g3⟩:=Qh g3;obtain⟨g6,g3⟩:=Qh g3;refine Zq tOk [] 9 [] [0,0,3,7,0,0,48,112,255] [] ?_;(conv=>whnf);refine And.intro g5 ?_;clear g5;(conv=>whnf);refine And.intro g6 ?_;clear g6;(conv=>whnf);refine And.intro (by kernel_rfl) ?_;(conv=>whnf);refine QC g3 (fun _ g3=>?_) (fun _ g3=>?_)
    ·(conv=>whnf);obtain rfl:=sj_ g3;obtain rfl:=hy2 _ rfl;obtain rfl:=sj_ h;exact lfP []
    ·(conv=>whnf);obtain rfl:=sj_ g3;exact⟨_,rfl,leX []⟩
   ·(conv=>whnf);obtain rfl:=sj_ g3;obtain rfl:=hy2 _ rfl;obtain rfl:=sj_ h;exact lfP []
def QaT (a0:(List Bt)):Option ((List Qz3)):=
 bd (JC a0) fun x1=>
 bd (lp (σ:=List Qz3×Int) (β:=(Nat×(List Qz3))) (fun s2=>
(if(decide (s2.2<((x1.length:Nat):Int)))=true then
 gd ((0:Int)≤s2.2∧s2.2<((x1.length:Nat):Int))<|
 gd (((s2.1.length)+(([(⟨(x1.getD s2.2.toNat default).Addr,(x1.getD s2.2.toNat default).Len,1,0⟩:Qz3)]:List Qz3).length))*(32+1)≤70368744177664)<|
 some (.inl ((s2.1++([(⟨(x1.getD s2.2.toNat default).Addr,(x1.getD s2.2.toNat default).Len,1,0⟩:Qz3)]:List Qz3)),IntKind.i64.wrap (s2.2+1)))
else
 some (.inr (s2.1.length,s2.1)))) (([]:List Qz3),0)) fun x5=>
 bd (Qp x5.2) fun x9=>
 gd (x9.length=x5.1)<|
 some x9
theorem Qhj {a0:(List Bt)} {r:(List Qz3)} (h:QaT a0=some r):EffC prog 25 [.d (slD Qi a0)] [] (.d (slD Qz3.enc r)) []:=by
 refine QaR tOk (fn:=f25) (c:=Ql f25) rfl rfl ?_;unfold QaT at h;(conv=>whnf);refine Qd tOk ?_;(conv=>whnf);obtain⟨x1,hx1,h⟩:=Qa h;refine cC 1000 (QdM hx1) ?_;clear hx1;(conv=>whnf);obtain⟨x5,hx5,h⟩:=Qa h;refine QD tOk hx5 (fun s2=>⟨0,26,[(3,.osl 7001 0 s2.1.length),(8,.osl 6001 0 x1.length),(9,dI ((x1.length:Nat):Int)),(10,dI s2.2)],[],[(7001,.arr 125 4 s2.1.length (rows Qz3.enc s2.1)),(6001,.arr 129 4 x1.length (rows Qz2.enc x1))],[⟨[],[]⟩]⟩) ?_ ?_
 ·exact leX [.p 7001 125 4 (rows Qz3.enc ([]:List Qz3))]
 ·clear hx5;intro s2 y3 g4 hy3;(conv=>whnf);refine Qd tOk ?_;(conv=>whnf);refine QC g4 (fun _ g4=>?_) (fun _ g4=>?_)
  ·(conv=>whnf);refine Qd tOk ?_;(conv=>whnf);refine gdI g4 (fun g4=>?_);(conv=>whnf);refine J1 (enc:=Qz3.enc) ([(⟨(x1.getD s2.2.toNat default).Addr,(x1.getD s2.2.toNat default).Len,1,0⟩:Qz3)]:List Qz3) ?_;(conv=>whnf);refine gdI g4 (fun g4=>?_);refine QfZ (enc:=Qz3.enc) (xs:=s2.1) (ys:=([(⟨(x1.getD s2.2.toNat default).Addr,(x1.getD s2.2.toNat default).Len,1,0⟩:Qz3)]:List Qz3)) ?_;(conv=>whnf);obtain rfl:=sj_ g4;exact⟨_,rfl,leX []⟩
  ·(conv=>whnf);obtain rfl:=sj_ g4;obtain rfl:=hy3 _ rfl;obtain⟨x9,hx9,h⟩:=Qa h;obtain⟨g10,h⟩:=Qh h;refine cE [(9000,7001)] 0 (Zw hx9) ?_;(conv=>whnf);obtain rfl:=sj_ h;exact lfE [.f [7001]]
def Zl (a0:Qz3):Option (QzU):=
 some (⟨a0.Addr,a0.Len⟩:QzU)
theorem QaH {a0:Qz3} {r:QzU} (h:Zl a0=some r):PureC prog 85 [.agg (hnC a0)] (.agg [dI r.Addr,dI r.Len]) []:=by
 refine Qj tOk (fn:=f85) (c:=Ql f85) rfl rfl ?_;unfold Zl at h;(conv=>whnf);obtain rfl:=sj_ h;exact lfP []
def JI (a0:Qz3):Option (Bool):=
 bd (Zl a0) fun x1=>
 bd (JU x1) fun x2=>
 bd (Qt (x2=true) (Qw a0.Cost 1 255)) fun x3=>
 bd (Qt ((x2&&x3)=true) (Qw a0.Label 0 1000)) fun x4=>
 some ((x2&&x3)&&x4)
theorem QgM {a0:Qz3} {r:Bool} (h:JI a0=some r):PureC prog 87 [.agg (hnC a0)] (dB r) []:=by
 refine Qj tOk (fn:=f87) (c:=Ql f87) rfl rfl ?_;unfold JI at h;(conv=>whnf);obtain⟨x1,hx1,h⟩:=Qa h;refine cC 0 (QaH hx1) ?_;clear hx1;(conv=>whnf);obtain⟨x2,hx2,h⟩:=Qa h;refine cC 0 (Qdu hx2) ?_;clear hx2;(conv=>whnf);obtain⟨x3,hx3,h⟩:=Qa h;refine cG (fun c0=>QN (Qg hx3 c0)) ?_;(conv=>whnf);obtain⟨x4,hx4,h⟩:=Qa h;refine cG (fun c0=>QN (Qg hx4 c0)) ?_;(conv=>whnf);obtain rfl:=sj_ h;exact lfP []
def JJ (a0:QzU) (a1:QzU):Option (Int):=
(if(a0.Addr !=a1.Addr)=true then
 some (IntKind.i64.wrap (a0.Addr-a1.Addr))
else
 some (IntKind.i64.wrap (a0.Len-a1.Len)))
theorem QgN {a0:QzU} {a1:QzU} {r:Int} (h:JJ a0 a1=some r):PureC prog 84 [.agg [dI a0.Addr,dI a0.Len],.agg [dI a1.Addr,dI a1.Len]] (dI r) []:=by
 refine Qj tOk (fn:=f84) (c:=Ql f84) rfl rfl ?_;unfold JJ at h;(conv=>whnf);refine Qd tOk ?_;(conv=>whnf);refine QC h (fun _ h=>?_) (fun _ h=>?_)
 ·(conv=>whnf);obtain rfl:=sj_ h;exact lfP []
 ·(conv=>whnf);obtain rfl:=sj_ h;exact lfP []
def Jm (a0:(List Qz3)):Option (Bool):=
 bd (lp (σ:=Int) (β:=(Unit⊕Unit)) (fun s1=>
(if(decide (s1<((a0.length:Nat):Int)))=true then
 gd ((0:Int)≤s1∧s1<((a0.length:Nat):Int))<|
 bd (JI (a0.getD s1.toNat default)) fun x6=>
 gd ((decide (s1>0))=true→((!x6)=false→((0:Int)≤IntKind.i64.wrap (s1-1)∧IntKind.i64.wrap (s1-1)<((a0.length:Nat):Int))))<|
 bd (Qt ((decide (s1>0))=true∧(!x6)=false) (Zl (a0.getD ((IntKind.i64.wrap (s1-1)).toNat) default))) fun x8=>
 bd (Qt ((decide (s1>0))=true∧(!x6)=false) (Zl (a0.getD s1.toNat default))) fun x9=>
 bd (Qt ((decide (s1>0))=true∧(!x6)=false) (JJ x8 x9)) fun x10=>
(if((!x6)||((decide (s1>0))&&(decide (x10≥0))))=true then
 some (.inr (.inl ()))
else
 some (.inl (IntKind.i64.wrap (s1+1))))
else
 some (.inr (.inr ())))) 0) fun x4=>
(match x4 with
| .inl d11=>
 some false
| .inr d12=>
 some (decide (((a0.length:Nat):Int)≤8)))
theorem Qhk {a0:(List Qz3)} {r:Bool} (h:Jm a0=some r):PureC prog 27 [.d (slD Qz3.enc a0)] (dB r) []:=by
 refine Qj tOk (fn:=f27) (c:=Ql f27) rfl rfl ?_;unfold Jm at h;(conv=>whnf);refine Qd tOk ?_;(conv=>whnf);obtain⟨x4,hx4,h⟩:=Qa h;refine QD tOk hx4 (fun s1=>⟨0,35,[(0,.d (slD Qz3.enc a0)),(5,.d (slD Qz3.enc a0)),(6,dI ((a0.length:Nat):Int)),(7,dI s1)],[],[],[]⟩) ?_ ?_
 ·exact leX []
 ·clear hx4;intro s1 y2 g3 hy2;(conv=>whnf);refine Qd tOk ?_;(conv=>whnf);refine QC g3 (fun _ g3=>?_) (fun _ g3=>?_)
  ·(conv=>whnf);refine Qd tOk ?_;(conv=>whnf);refine gdI g3 (fun g3=>?_);(conv=>whnf);obtain⟨x6,hx6,g3⟩:=Qa g3;obtain⟨g7,g3⟩:=Qh g3;obtain⟨x8,hx8,g3⟩:=Qa g3;obtain⟨x9,hx9,g3⟩:=Qa g3;obtain⟨x10,hx10,g3⟩:=Qa g3;refine Zq tOk [.u 1 0 (dB x6) [],.u 12 0 (.agg [dI x8.Addr,dI x8.Len]) [],.u 14 0 (.agg [dI x9.Addr,dI x9.Len]) [],.u 15 0 (dI x10) []] 19 [] [0,1,3,7,15,31,63,127,127,383,1023,2047,4095,127,16383,32767,65535,131071,262143] [] ?_;(conv=>whnf);refine And.intro (Qo (QgM hx6) (by kernel_rfl)) ?_;(conv=>whnf);refine And.intro g7 ?_;clear g7;(conv=>whnf);refine And.intro (QV rfl rfl rfl rfl (by intro c0 c1;exact QaH (Qg hx8 ⟨c0,c1⟩))) ?_;(conv=>whnf);refine And.intro (QV rfl rfl rfl rfl (by intro c0 c1;exact QaH (Qg hx9 ⟨c0,c1⟩))) ?_;(conv=>whnf);refine And.intro (QV rfl rfl rfl rfl (by intro c0 c1;exact QgN (Qg hx10 ⟨c0,c1⟩))) ?_;(conv=>whnf);refine And.intro (by kernel_rfl) ?_;(conv=>whnf);refine QC g3 (fun _ g3=>?_) (fun _ g3=>?_)
   ·(conv=>whnf);obtain rfl:=sj_ g3;obtain rfl:=hy2 _ rfl;obtain rfl:=sj_ h;exact lfP []
   ·(conv=>whnf);obtain rfl:=sj_ g3;exact⟨_,rfl,leX []⟩
  ·(conv=>whnf);obtain rfl:=sj_ g3;obtain rfl:=hy2 _ rfl;obtain rfl:=sj_ h;exact lfP []
def QaI (a0:QzW) (a1:QzW):Option (Bool):=
(if(a0.Addr !=a1.Addr)=true then
 some (decide (a0.Addr<a1.Addr))
else
(if(a0.Len !=a1.Len)=true then
 some (decide (a0.Len<a1.Len))
else
 some (decide (a0.Next<a1.Next))))
theorem QiF {a0:QzW} {a1:QzW} {r:Bool} (h:QaI a0 a1=some r):PureC prog 169 [.agg [dI a0.Addr,dI a0.Len,dI a0.Next],.agg [dI a1.Addr,dI a1.Len,dI a1.Next]] (dB r) []:=by
 refine Qj tOk (fn:=f169) (c:=Ql f169) rfl rfl ?_;unfold QaI at h;(conv=>whnf);refine Qd tOk ?_;(conv=>whnf);refine QC h (fun _ h=>?_) (fun _ h=>?_)
 ·(conv=>whnf);obtain rfl:=sj_ h;exact lfP []
 ·(conv=>whnf);refine Qd tOk ?_;(conv=>whnf);refine QC h (fun _ h=>?_) (fun _ h=>?_)
  ·(conv=>whnf);obtain rfl:=sj_ h;exact lfP []
  ·(conv=>whnf);obtain rfl:=sj_ h;exact lfP []
def Qcq (a0:(List Bt)):Option ((List QzW)):=
 bd (ZC a0 (⟨#[114,111,117,116,101]⟩:Bt)) fun x1=>
 bd (lp (σ:=List QzW×Int) (β:=(Nat×(List QzW))) (fun s2=>
(if(decide (s2.2<((x1.length:Nat):Int)))=true then
 gd ((0:Int)≤s2.2∧s2.2<((x1.length:Nat):Int))<|
 bd (Qe (x1.getD s2.2.toNat default) 1) fun x7=>
 bd (ZJ x7) fun x8=>
 gd ((0:Int)≤s2.2∧s2.2<((x1.length:Nat):Int))<|
 bd (Qe (x1.getD s2.2.toNat default) 2) fun x10=>
 bd (QZ x10) fun x11=>
 bd (lp (σ:=Int) (β:=(Int)) (fun s12=>
 gd ((decide (s12<((s2.1.length:Nat):Int)))=true→((0:Int)≤s12∧s12<((s2.1.length:Nat):Int)))<|
 bd (Qt ((decide (s12<((s2.1.length:Nat):Int)))=true) (QaI (s2.1.getD s12.toNat default) (⟨x8.Addr,x8.Len,x11⟩:QzW))) fun x17=>
(if((decide (s12<((s2.1.length:Nat):Int)))&&x17)=true then
 some (.inl (IntKind.i64.wrap (s12+1)))
else
 some (.inr s12))) 0) fun x15=>
 gd ((0:Int)≤(0:Int)∧(0:Int)≤x15∧x15≤((s2.1.length:Nat):Int))<|
 gd (((0)+(x15.toNat))*(24+1)≤70368744177664)<|
 gd ((((s2.1.take x15.toNat).length)+(([(⟨x8.Addr,x8.Len,x11⟩:QzW)]:List QzW).length))*(24+1)≤70368744177664)<|
 gd ((0:Int)≤x15∧x15≤((s2.1.length:Nat):Int)∧((s2.1.length:Nat):Int)≤((s2.1.length:Nat):Int))<|
 gd (((((s2.1.take x15.toNat)++([(⟨x8.Addr,x8.Len,x11⟩:QzW)]:List QzW)).length)+((QdL ((s2.1.length:Nat):Int) x15)))*(24+1)≤70368744177664)<|
 some (.inl ((((s2.1.take x15.toNat)++([(⟨x8.Addr,x8.Len,x11⟩:QzW)]:List QzW))++(((s2.1).take (x15.toNat+(QdL ((s2.1.length:Nat):Int) x15))).drop x15.toNat)),IntKind.i64.wrap (s2.2+1)))
else
 some (.inr (s2.1.length,s2.1)))) (([]:List QzW),0)) fun x5=>
 some x5.2
theorem QlU {a0:(List Bt)} {r:(List QzW)} (h:Qcq a0=some r):PureC prog 96 [.d (slD Qi a0)] (.osl 5001 0 r.length) [⟨5001,70,3,r.length,rows QzW.enc r⟩]:=by
 refine Qj tOk (fn:=f96) (c:=Ql f96) rfl rfl ?_;unfold Qcq at h;(conv=>whnf);obtain⟨x1,hx1,h⟩:=Qa h;refine cE [] 1000 (QcD hx1) ?_;(conv=>whnf);refine Qd tOk ?_;(conv=>whnf);obtain⟨x5,hx5,h⟩:=Qa h;refine QD tOk hx5 (fun s2=>⟨0,62,[(3,.osl 6001 0 x1.length),(4,.osl 7001 0 s2.1.length),(5,dI s2.2)],[],[(7001,.arr 70 3 s2.1.length (rows QzW.enc s2.1)),(6001,.arr 171 1 x1.length (rows QzS.enc x1))],[]⟩) ?_ ?_
 ·exact leX [.p 7001 70 3 (rows QzW.enc ([]:List QzW))]
 ·clear hx5;intro s2 y3 g4 hy3;(conv=>whnf);refine Qd tOk ?_;(conv=>whnf);refine QC g4 (fun _ g4=>?_) (fun _ g4=>?_)
  ·(conv=>whnf);refine Qd tOk ?_;(conv=>whnf);refine gdI g4 (fun g4=>?_);(conv=>whnf);obtain⟨x7,hx7,g4⟩:=Qa g4;refine cC 0 (Qf hx7) ?_;clear hx7;(conv=>whnf);obtain⟨x8,hx8,g4⟩:=Qa g4;refine cC 0 (Qa6 hx8) ?_;clear hx8;(conv=>whnf);obtain⟨g9,g4⟩:=Qh g4;obtain⟨x10,hx10,g4⟩:=Qa g4;obtain⟨x11,hx11,g4⟩:=Qa g4;refine Zq tOk [.u 8 0 (.d (.str x10)) [],.u 9 0 (dI x11) []] 12 [] [0,1,0,4,0,0,48,112,240,496,1023,0] [4095] ?_;(conv=>whnf);refine And.intro g9 ?_;clear g9;(conv=>whnf);refine And.intro (Qo (Qf hx10) (by kernel_rfl)) ?_;(conv=>whnf);refine And.intro (Qo (Zr hx11) (by kernel_rfl)) ?_;(conv=>whnf);refine And.intro (by kernel_rfl) ?_;(conv=>whnf);refine Qd tOk ?_;(conv=>whnf);obtain⟨x15,hx15,g4⟩:=Qa g4;refine QD tOk hx15 (fun s12=>⟨0,62,[(3,.osl 6001 0 x1.length),(4,.osl 7001 0 s2.1.length),(5,dI s2.2),(7,.ref 7 0 0),(8,dI s12)],[],[(7,.box 70 [dI x8.Addr,dI x8.Len,dI x11]),(7001,.arr 70 3 s2.1.length (rows QzW.enc s2.1)),(6001,.arr 171 1 x1.length (rows QzS.enc x1))],[]⟩) ?_ ?_
   ·exact leX []
   ·clear hx15;intro s12 y13 g14 hy13;(conv=>whnf);refine Qd tOk ?_;(conv=>whnf);obtain⟨g16,g14⟩:=Qh g14;obtain⟨x17,hx17,g14⟩:=Qa g14;refine Zq tOk [.u 10 0 (dB x17) []] 12 [] [0,0,2,7,15,31,31,127,255,31,1023,2047] [] ?_;(conv=>whnf);refine And.intro g16 ?_;clear g16;(conv=>whnf);refine And.intro (QV rfl rfl rfl rfl (by intro c0;exact QiF (Qg hx17 c0))) ?_;(conv=>whnf);refine And.intro (by kernel_rfl) ?_;(conv=>whnf);refine QC g14 (fun _ g14=>?_) (fun _ g14=>?_)
    ·(conv=>whnf);obtain rfl:=sj_ g14;exact⟨_,rfl,leX []⟩
    ·(conv=>whnf);obtain rfl:=sj_ g14;obtain rfl:=hy13 _ rfl;obtain⟨g19,g4⟩:=Qh g4;obtain⟨g20,g4⟩:=Qh g4;obtain⟨g21,g4⟩:=Qh g4;obtain⟨g22,g4⟩:=Qh g4;obtain⟨g23,g4⟩:=Qh g4;refine Ql5 tOk [.a 4 [] (.osl 53 0 ((s2.1.take s12.toNat).length)) [(53,.arr 70 3 ((s2.1.take s12.toNat).length) (rows QzW.enc (s2.1.take s12.toNat)))],.a 7 [(53,.arr 70 3 ((s2.1.take s12.toNat).length) (rows QzW.enc (s2.1.take s12.toNat)))] (.osl 56 0 (((s2.1.take s12.toNat)++([(⟨x8.Addr,x8.Len,x11⟩:QzW)]:List QzW)).length)) [(56,.arr 70 3 (((s2.1.take s12.toNat)++([(⟨x8.Addr,x8.Len,x11⟩:QzW)]:List QzW)).length) (rows QzW.enc ((s2.1.take s12.toNat)++([(⟨x8.Addr,x8.Len,x11⟩:QzW)]:List QzW))))],.a 11 [(56,.arr 70 3 (((s2.1.take s12.toNat)++([(⟨x8.Addr,x8.Len,x11⟩:QzW)]:List QzW)).length) (rows QzW.enc ((s2.1.take s12.toNat)++([(⟨x8.Addr,x8.Len,x11⟩:QzW)]:List QzW))))] (.osl 60 0 ((((s2.1.take s12.toNat)++([(⟨x8.Addr,x8.Len,x11⟩:QzW)]:List QzW))++(((s2.1).take (s12.toNat+(QdL ((s2.1.length:Nat):Int) s12))).drop s12.toNat)).length)) [(60,.arr 70 3 ((((s2.1.take s12.toNat)++([(⟨x8.Addr,x8.Len,x11⟩:QzW)]:List QzW))++(((s2.1).take (s12.toNat+(QdL ((s2.1.length:Nat):Int) s12))).drop s12.toNat)).length) (rows QzW.enc (((s2.1.take s12.toNat)++([(⟨x8.Addr,x8.Len,x11⟩:QzW)]:List QzW))++(((s2.1).take (s12.toNat+(QdL ((s2.1.length:Nat):Int) s12))).drop s12.toNat))))]] 12 [] [0,0,0,6,15,0,32,127,0,0,768,2047] [4095] [] ?_;(conv=>whnf);refine And.intro g19 ?_;(conv=>whnf);refine And.intro (by(conv=>whnf);exact⟨g20,QwZ (enc:=QzW.enc) (ys:=s2.1.take s12.toNat) ⟨rfl,rfl⟩⟩) ?_;(conv=>whnf);refine J1 (enc:=QzW.enc) ([(⟨x8.Addr,x8.Len,x11⟩:QzW)]:List QzW) ?_;(conv=>whnf);refine And.intro (by(conv=>whnf);exact⟨g21,QfZ (enc:=QzW.enc) (xs:=(s2.1.take s12.toNat)) (ys:=([(⟨x8.Addr,x8.Len,x11⟩:QzW)]:List QzW)) ⟨rfl,rfl⟩⟩) ?_;(conv=>whnf);refine And.intro g22 ?_;(conv=>whnf);refine And.intro (by(conv=>whnf);exact⟨g23,QfZ (enc:=QzW.enc) (xs:=((s2.1.take s12.toNat)++([(⟨x8.Addr,x8.Len,x11⟩:QzW)]:List QzW))) (ys:=((s2.1).take (s12.toNat+(QdL ((s2.1.length:Nat):Int) s12))).drop s12.toNat) ⟨rfl,rfl⟩⟩) ?_;(conv=>whnf);refine And.intro (by kernel_rfl) ?_;(conv=>whnf);obtain rfl:=sj_ g4;exact⟨_,rfl,leX [.s [(60,7001),(7001,60)]]⟩
  ·(conv=>whnf);obtain rfl:=sj_ g4;obtain rfl:=hy3 _ rfl;obtain rfl:=sj_ h;exact lfP [.s [(5001,7001),(7001,5001)]]
def QbL (a0:(List Bt)):Option ((List QzW)):=
 bd (Zk a0) fun x1=>
(if(x1 !=0)=true then
 some []
else
 bd (Qcq a0) fun x2=>
 some x2)
theorem QkF {a0:(List Bt)} {r:(List QzW)} (h:QbL a0=some r):PureC prog 30 [.d (slD Qi a0)] (.osl 5001 0 r.length) [⟨5001,70,3,r.length,rows QzW.enc r⟩]:=by
 refine Qj tOk (fn:=f30) (c:=Ql f30) rfl rfl ?_;unfold QbL at h;(conv=>whnf);refine Qd tOk ?_;(conv=>whnf);obtain⟨x1,hx1,h⟩:=Qa h;refine cC 0 (Jz hx1) ?_;clear hx1;(conv=>whnf);refine QC h (fun _ h=>?_) (fun _ h=>?_)
 ·(conv=>whnf);obtain rfl:=sj_ h;exact lfP [.p 5001 70 3 (rows QzW.enc ([]:List QzW))]
 ·(conv=>whnf);obtain⟨x2,hx2,h⟩:=Qa h;refine cC 1000 (QlU hx2) ?_;clear hx2;(conv=>whnf);obtain rfl:=sj_ h;exact lfP [.s [(5001,6001),(6001,5001)]]
def QcU (a0:(List Qz2)) (a1:Int):Option (Int):=
 bd (lp (σ:=Int) (β:=(Int⊕Unit)) (fun s1=>
(if(decide (s1<((a0.length:Nat):Int)))=true then
 gd ((0:Int)≤s1∧s1<((a0.length:Nat):Int))<|
 bd (QX (⟨(a0.getD s1.toNat default).Addr,(a0.getD s1.toNat default).Len⟩:QzU) a1) fun x6=>
(if x6=true then
 some (.inr (.inl ((a0.getD s1.toNat default).Port)))
else
 some (.inl (IntKind.i64.wrap (s1+1))))
else
 some (.inr (.inr ())))) 0) fun x4=>
(match x4 with
| .inl d7=>
 some d7
| .inr d8=>
 some (-1))
theorem Qnl {a0:(List Qz2)} {a1:Int} {r:Int} (h:QcU a0 a1=some r):PureC prog 97 [.d (slD Qz2.enc a0),dI a1] (dI r) []:=by
 refine Qj tOk (fn:=f97) (c:=Ql f97) rfl rfl ?_;unfold QcU at h;(conv=>whnf);refine Qd tOk ?_;(conv=>whnf);obtain⟨x4,hx4,h⟩:=Qa h;refine QD tOk hx4 (fun s1=>⟨0,23,[(1,dI a1),(7,.d (slD Qz2.enc a0)),(8,dI ((a0.length:Nat):Int)),(9,dI s1)],[],[],[]⟩) ?_ ?_
 ·exact leX []
 ·clear hx4;intro s1 y2 g3 hy2;(conv=>whnf);refine Qd tOk ?_;(conv=>whnf);refine QC g3 (fun _ g3=>?_) (fun _ g3=>?_)
  ·(conv=>whnf);refine Qd tOk ?_;(conv=>whnf);refine gdI g3 (fun g3=>?_);(conv=>whnf);obtain⟨x6,hx6,g3⟩:=Qa g3;refine cC 0 (Jc hx6) ?_;clear hx6;(conv=>whnf);refine QC g3 (fun _ g3=>?_) (fun _ g3=>?_)
   ·(conv=>whnf);obtain rfl:=sj_ g3;obtain rfl:=hy2 _ rfl;obtain rfl:=sj_ h;exact lfP []
   ·(conv=>whnf);obtain rfl:=sj_ g3;exact⟨_,rfl,leX []⟩
  ·(conv=>whnf);obtain rfl:=sj_ g3;obtain rfl:=hy2 _ rfl;obtain rfl:=sj_ h;exact lfP []
def ZY (a0:(List Bt)) (a1:Int):Option (Int):=
 bd (JC a0) fun x1=>
 bd (QcU x1 a1) fun x2=>
 some x2
theorem QeX {a0:(List Bt)} {a1:Int} {r:Int} (h:ZY a0 a1=some r):PureC prog 31 [.d (slD Qi a0),dI a1] (dI r) []:=by
 refine Qj tOk (fn:=f31) (c:=Ql f31) rfl rfl ?_;unfold ZY at h;(conv=>whnf);obtain⟨x1,hx1,h⟩:=Qa h;refine cC 1000 (QdM hx1) ?_;clear hx1;(conv=>whnf);obtain⟨x2,hx2,h⟩:=Qa h;refine cC 0 (Qnl hx2) ?_;clear hx2;(conv=>whnf);obtain rfl:=sj_ h;exact lfP []
def QbM (a0:(List Bt)):Option ((List QzX)):=
 bd (ZC a0 (⟨#[112,101,101,114]⟩:Bt)) fun x1=>
 bd (lp (σ:=List QzX×Int) (β:=(Nat×(List QzX))) (fun s2=>
(if(decide (s2.2<((x1.length:Nat):Int)))=true then
 gd ((0:Int)≤s2.2∧s2.2<((x1.length:Nat):Int))<|
 bd (Qe (x1.getD s2.2.toNat default) 1) fun x7=>
 bd (QZ x7) fun x8=>
 gd ((0:Int)≤s2.2∧s2.2<((x1.length:Nat):Int))<|
 bd (Qe (x1.getD s2.2.toNat default) 2) fun x10=>
 bd (QR x10) fun x11=>
 gd ((0:Int)≤s2.2∧s2.2<((x1.length:Nat):Int))<|
 bd (Qe (x1.getD s2.2.toNat default) 3) fun x13=>
 bd (QR x13) fun x14=>
 bd (lp (σ:=Int) (β:=(Int)) (fun s15=>
 gd ((decide (s15<((s2.1.length:Nat):Int)))=true→((0:Int)≤s15∧s15<((s2.1.length:Nat):Int)))<|
(if((decide (s15<((s2.1.length:Nat):Int)))&&(decide (((s2.1.getD s15.toNat default).Addr)<x8)))=true then
 some (.inl (IntKind.i64.wrap (s15+1)))
else
 some (.inr s15))) 0) fun x18=>
 gd ((0:Int)≤(0:Int)∧(0:Int)≤x18∧x18≤((s2.1.length:Nat):Int))<|
 gd (((0)+(x18.toNat))*(24+1)≤70368744177664)<|
 gd ((((s2.1.take x18.toNat).length)+(([(⟨x8,x11,x14⟩:QzX)]:List QzX).length))*(24+1)≤70368744177664)<|
 gd ((0:Int)≤x18∧x18≤((s2.1.length:Nat):Int)∧((s2.1.length:Nat):Int)≤((s2.1.length:Nat):Int))<|
 gd (((((s2.1.take x18.toNat)++([(⟨x8,x11,x14⟩:QzX)]:List QzX)).length)+((QdL ((s2.1.length:Nat):Int) x18)))*(24+1)≤70368744177664)<|
 some (.inl ((((s2.1.take x18.toNat)++([(⟨x8,x11,x14⟩:QzX)]:List QzX))++(((s2.1).take (x18.toNat+(QdL ((s2.1.length:Nat):Int) x18))).drop x18.toNat)),IntKind.i64.wrap (s2.2+1)))
else
 some (.inr (s2.1.length,s2.1)))) (([]:List QzX),0)) fun x5=>
 some x5.2
theorem QkG {a0:(List Bt)} {r:(List QzX)} (h:QbM a0=some r):PureC prog 98 [.d (slD Qi a0)] (.osl 5001 0 r.length) [⟨5001,73,3,r.length,rows QzX.enc r⟩]:=by
 refine Qj tOk (fn:=f98) (c:=Ql f98) rfl rfl ?_;unfold QbM at h;(conv=>whnf);obtain⟨x1,hx1,h⟩:=Qa h;refine cE [] 1000 (QcD hx1) ?_;(conv=>whnf);refine Qd tOk ?_;(conv=>whnf);obtain⟨x5,hx5,h⟩:=Qa h;refine QD tOk hx5 (fun s2=>⟨0,65,[(3,.osl 6001 0 x1.length),(4,.osl 7001 0 s2.1.length),(5,dI s2.2)],[],[(7001,.arr 73 3 s2.1.length (rows QzX.enc s2.1)),(6001,.arr 171 1 x1.length (rows QzS.enc x1))],[]⟩) ?_ ?_
 ·exact leX [.p 7001 73 3 (rows QzX.enc ([]:List QzX))]
 ·clear hx5;intro s2 y3 g4 hy3;(conv=>whnf);refine Qd tOk ?_;(conv=>whnf);refine QC g4 (fun _ g4=>?_) (fun _ g4=>?_)
  ·(conv=>whnf);refine Qd tOk ?_;(conv=>whnf);obtain⟨g6,g4⟩:=Qh g4;obtain⟨x7,hx7,g4⟩:=Qa g4;obtain⟨x8,hx8,g4⟩:=Qa g4;obtain⟨g9,g4⟩:=Qh g4;obtain⟨x10,hx10,g4⟩:=Qa g4;obtain⟨x11,hx11,g4⟩:=Qa g4;obtain⟨g12,g4⟩:=Qh g4;obtain⟨x13,hx13,g4⟩:=Qa g4;obtain⟨x14,hx14,g4⟩:=Qa g4;refine Zq tOk [.u 4 0 (.d (.str x7)) [],.u 5 0 (dI x8) [],.u 10 0 (.d (.str x10)) [],.u 11 0 (dI x11) [],.u 16 0 (.d (.str x13)) [],.u 17 0 (dI x14) []] 20 [] [0,0,3,7,15,31,0,0,192,448,1023,2047,0,0,12288,28672,65535,131071,262143,0] [1048575] ?_;(conv=>whnf);refine And.intro g6 ?_;clear g6;(conv=>whnf);refine And.intro (Qo (Qf hx7) (by kernel_rfl)) ?_;(conv=>whnf);refine And.intro (Qo (Zr hx8) (by kernel_rfl)) ?_;(conv=>whnf);refine And.intro g9 ?_;clear g9;(conv=>whnf);refine And.intro (Qo (Qf hx10) (by kernel_rfl)) ?_;(conv=>whnf);refine And.intro (Qo (Q4 hx11) (by kernel_rfl)) ?_;(conv=>whnf);refine And.intro g12 ?_;clear g12;(conv=>whnf);refine And.intro (Qo (Qf hx13) (by kernel_rfl)) ?_;(conv=>whnf);refine And.intro (Qo (Q4 hx14) (by kernel_rfl)) ?_;(conv=>whnf);refine And.intro (by kernel_rfl) ?_;(conv=>whnf);refine Qd tOk ?_;(conv=>whnf);obtain⟨x18,hx18,g4⟩:=Qa g4;refine QD tOk hx18 (fun s15=>⟨0,65,[(3,.osl 6001 0 x1.length),(4,.osl 7001 0 s2.1.length),(5,dI s2.2),(6,.ref 6 0 0),(7,dI s15)],[],[(6,.box 73 [dI x8,dI x11,dI x14]),(7001,.arr 73 3 s2.1.length (rows QzX.enc s2.1)),(6001,.arr 171 1 x1.length (rows QzS.enc x1))],[]⟩) ?_ ?_
   ·exact leX []
   ·clear hx18;intro s15 y16 g17 hy16;(conv=>whnf);refine Qd tOk ?_;(conv=>whnf);obtain⟨g19,g17⟩:=Qh g17;refine Zq tOk [] 14 [] [0,0,2,7,15,31,31,127,255,511,31,1055,4095,8191] [] ?_;(conv=>whnf);refine And.intro g19 ?_;clear g19;(conv=>whnf);refine And.intro (by kernel_rfl) ?_;(conv=>whnf);refine QC g17 (fun _ g17=>?_) (fun _ g17=>?_)
    ·(conv=>whnf);obtain rfl:=sj_ g17;exact⟨_,rfl,leX []⟩
    ·(conv=>whnf);obtain rfl:=sj_ g17;obtain rfl:=hy16 _ rfl;obtain⟨g21,g4⟩:=Qh g4;obtain⟨g22,g4⟩:=Qh g4;obtain⟨g23,g4⟩:=Qh g4;obtain⟨g24,g4⟩:=Qh g4;obtain⟨g25,g4⟩:=Qh g4;refine Ql5 tOk [.a 4 [] (.osl 56 0 ((s2.1.take s15.toNat).length)) [(56,.arr 73 3 ((s2.1.take s15.toNat).length) (rows QzX.enc (s2.1.take s15.toNat)))],.a 7 [(56,.arr 73 3 ((s2.1.take s15.toNat).length) (rows QzX.enc (s2.1.take s15.toNat)))] (.osl 59 0 (((s2.1.take s15.toNat)++([(⟨x8,x11,x14⟩:QzX)]:List QzX)).length)) [(59,.arr 73 3 (((s2.1.take s15.toNat)++([(⟨x8,x11,x14⟩:QzX)]:List QzX)).length) (rows QzX.enc ((s2.1.take s15.toNat)++([(⟨x8,x11,x14⟩:QzX)]:List QzX))))],.a 11 [(59,.arr 73 3 (((s2.1.take s15.toNat)++([(⟨x8,x11,x14⟩:QzX)]:List QzX)).length) (rows QzX.enc ((s2.1.take s15.toNat)++([(⟨x8,x11,x14⟩:QzX)]:List QzX))))] (.osl 63 0 ((((s2.1.take s15.toNat)++([(⟨x8,x11,x14⟩:QzX)]:List QzX))++(((s2.1).take (s15.toNat+(QdL ((s2.1.length:Nat):Int) s15))).drop s15.toNat)).length)) [(63,.arr 73 3 ((((s2.1.take s15.toNat)++([(⟨x8,x11,x14⟩:QzX)]:List QzX))++(((s2.1).take (s15.toNat+(QdL ((s2.1.length:Nat):Int) s15))).drop s15.toNat)).length) (rows QzX.enc (((s2.1.take s15.toNat)++([(⟨x8,x11,x14⟩:QzX)]:List QzX))++(((s2.1).take (s15.toNat+(QdL ((s2.1.length:Nat):Int) s15))).drop s15.toNat))))]] 12 [] [0,0,0,6,15,0,32,127,0,0,768,2047] [4095] [] ?_;(conv=>whnf);refine And.intro g21 ?_;(conv=>whnf);refine And.intro (by(conv=>whnf);exact⟨g22,QwZ (enc:=QzX.enc) (ys:=s2.1.take s15.toNat) ⟨rfl,rfl⟩⟩) ?_;(conv=>whnf);refine J1 (enc:=QzX.enc) ([(⟨x8,x11,x14⟩:QzX)]:List QzX) ?_;(conv=>whnf);refine And.intro (by(conv=>whnf);exact⟨g23,QfZ (enc:=QzX.enc) (xs:=(s2.1.take s15.toNat)) (ys:=([(⟨x8,x11,x14⟩:QzX)]:List QzX)) ⟨rfl,rfl⟩⟩) ?_;(conv=>whnf);refine And.intro g24 ?_;(conv=>whnf);refine And.intro (by(conv=>whnf);exact⟨g25,QfZ (enc:=QzX.enc) (xs:=((s2.1.take s15.toNat)++([(⟨x8,x11,x14⟩:QzX)]:List QzX))) (ys:=((s2.1).take (s15.toNat+(QdL ((s2.1.length:Nat):Int) s15))).drop s15.toNat) ⟨rfl,rfl⟩⟩) ?_;(conv=>whnf);refine And.intro (by kernel_rfl) ?_;(conv=>whnf);obtain rfl:=sj_ g4;exact⟨_,rfl,leX [.s [(63,7001),(7001,63)]]⟩
  ·(conv=>whnf);obtain rfl:=sj_ g4;obtain rfl:=hy3 _ rfl;obtain rfl:=sj_ h;exact lfP [.s [(5001,7001),(7001,5001)]]
def Qbb (a0:(List Bt)):Option ((List QzX)):=
 bd (Zk a0) fun x1=>
(if(x1 !=0)=true then
 some []
else
 bd (QbM a0) fun x2=>
 some x2)
theorem QjR {a0:(List Bt)} {r:(List QzX)} (h:Qbb a0=some r):PureC prog 32 [.d (slD Qi a0)] (.osl 5001 0 r.length) [⟨5001,73,3,r.length,rows QzX.enc r⟩]:=by
 refine Qj tOk (fn:=f32) (c:=Ql f32) rfl rfl ?_;unfold Qbb at h;(conv=>whnf);refine Qd tOk ?_;(conv=>whnf);obtain⟨x1,hx1,h⟩:=Qa h;refine cC 0 (Jz hx1) ?_;clear hx1;(conv=>whnf);refine QC h (fun _ h=>?_) (fun _ h=>?_)
 ·(conv=>whnf);obtain rfl:=sj_ h;exact lfP [.p 5001 73 3 (rows QzX.enc ([]:List QzX))]
 ·(conv=>whnf);obtain⟨x2,hx2,h⟩:=Qa h;refine cC 1000 (QkG hx2) ?_;clear hx2;(conv=>whnf);obtain rfl:=sj_ h;exact lfP [.s [(5001,6001),(6001,5001)]]
end
end Go.Proofs.YtfpbhbbdhfbilaaGreatDoor
