/-
  What some of the program's functions compute: their models, and that the functions compute these; no condition.
-/
import Derived.Test.YtfpbhbbdhfbilaaGreatDoorTyz
import Derived.Test.YtfpbhbbdhfbilaaGreatDoorTbz
import Derived.Test.YtfpbhbbdhfbilaaGreatDoorLayz
import Derived.Test.YtfpbhbbdhfbilaaGreatDoorLay4z
import Derived.Test.YtfpbhbbdhfbilaaGreatDoorAbz8
import Derived.BigCall
import Derived.BigGuard
import Derived.BigQuiet
import Derived.Deep.Draws
import Derived.Deep.QuietTactic
import Derived.Maps.OwnSet
import Derived.Shelf.SlSortCmp.QuietGrown
import Derived.StringKeys
import Derived.WalkKit
import Derived.Test.YtfpbhbbdhfbilaaGreatDoorKz2
set_option linter.all false
namespace Go.Proofs.YtfpbhbbdhfbilaaGreatDoor
open Go Go.Ab Tryz
set_option maxRecDepth 100000
set_option maxHeartbeats 40000000
noncomputable section
def JF (a0:(List Int)):Option ((List Bt)×Bt):=
 bd (QcJ a0) fun x1=>
 bd (QcO x1) fun x2=>
 bd (Zc (⟨x1.b,x2.2.p⟩:l1Rd) 2) fun x3=>
(if(x3.1==0)=true then
 bd (lp (σ:=Int×List Bt×Int) (β:=((List Bt)×Int)) (fun s4=>
(if(decide (s4.2.2<4))=true then
 bd (Qv (⟨x1.b,s4.1⟩:l1Rd) ([(⟨#[53]⟩:Bt),(⟨#[49,48]⟩:Bt),(⟨#[57,48]⟩:Bt),(⟨#[55]⟩:Bt)]:List Bt)) fun x8=>
 gd ((⟨#[114,117,108,101,32,119,101,98,32]⟩:Bt).size+x8.1.size≤9223372036854775807)<|
 gd (((⟨#[114,117,108,101,32,119,101,98,32]⟩:Bt)++x8.1).size+(⟨#[32,112,101,114,109,105,116,32,48,46,48,47,48,32,52,56,46,48,47,56,32]⟩:Bt).size≤9223372036854775807)<|
 bd (Qv (⟨x1.b,x8.2.p⟩:l1Rd) ([(⟨#[48]⟩:Bt),(⟨#[49]⟩:Bt)]:List Bt)) fun x11=>
 gd ((((⟨#[114,117,108,101,32,119,101,98,32]⟩:Bt)++x8.1)++(⟨#[32,112,101,114,109,105,116,32,48,46,48,47,48,32,52,56,46,48,47,56,32]⟩:Bt)).size+x11.1.size≤9223372036854775807)<|
 bd (ZS s4.2.1 ((((⟨#[114,117,108,101,32,119,101,98,32]⟩:Bt)++x8.1)++(⟨#[32,112,101,114,109,105,116,32,48,46,48,47,48,32,52,56,46,48,47,56,32]⟩:Bt))++x11.1)) fun x13=>
 some (.inl (x11.2.p,x13,IntKind.i64.wrap (s4.2.2+1)))
else
 some (.inr (s4.2.1,s4.1)))) (x3.2.p,x2.1,0)) fun x7=>
 bd (Qv (⟨x1.b,x7.2⟩:l1Rd) ([(⟨#[119,101,98]⟩:Bt),(⟨#[119,101,98]⟩:Bt),(⟨#[111,117,116]⟩:Bt),(⟨#[]⟩:Bt),(⟨#[110,111,110,101]⟩:Bt)]:List Bt)) fun x15=>
 some (x7.1,x15.1)
else
 bd (Qv (⟨x1.b,x3.2.p⟩:l1Rd) ([(⟨#[119,101,98]⟩:Bt),(⟨#[119,101,98]⟩:Bt),(⟨#[111,117,116]⟩:Bt),(⟨#[]⟩:Bt),(⟨#[110,111,110,101]⟩:Bt)]:List Bt)) fun x16=>
 some (x2.1,x16.1))
theorem QgL {a0:(List Int)} {r:(List Bt)×Bt} (h:JF a0=some r):EffC prog 13 [.d (slD QP a0)] [] (.tup [.d (slD Qi r.1),.d (.str r.2)]) []:=by
 refine QaR tOk (fn:=f13) (c:=Ql f13) rfl rfl ?_;unfold JF at h;(conv=>whnf);obtain⟨x1,hx1,h⟩:=Qa h;refine cE [] 1000 (Qm9 hx1) ?_;(conv=>whnf);obtain⟨x2,hx2,h⟩:=Qa h;refine cE [(9000,6001)] 0 (Qnd hx2) ?_;(conv=>whnf);refine Qd tOk ?_;(conv=>whnf);obtain⟨x3,hx3,h⟩:=Qa h;refine cE [(9000,6001)] 0 (Jd hx3) ?_;(conv=>whnf);refine QC h (fun _ h=>?_) (fun _ h=>?_)
 ·(conv=>whnf);obtain⟨x7,hx7,h⟩:=Qa h;refine QD tOk hx7 (fun s4=>⟨0,33,[(4,.ref 6001 0 0),(5,.d (slD Qi s4.2.1)),(6,dI s4.2.2)],[],[(6001,.box 156 [.d (slD QP x1.b),dI s4.1])],[⟨[],[]⟩]⟩) ?_ ?_
  ·exact leX []
  ·clear hx7;intro s4 y5 g6 hy5;(conv=>whnf);refine Qd tOk ?_;(conv=>whnf);refine QC g6 (fun _ g6=>?_) (fun _ g6=>?_)
   ·(conv=>whnf);refine Qd tOk ?_;(conv=>whnf);refine J1 (enc:=Qi) ([(⟨#[53]⟩:Bt),(⟨#[49,48]⟩:Bt),(⟨#[57,48]⟩:Bt),(⟨#[55]⟩:Bt)]:List Bt) ?_;(conv=>whnf);obtain⟨x8,hx8,g6⟩:=Qa g6;refine Zy [20] ?_;(conv=>whnf);refine cE [(9000,6001)] 0 (QG hx8) ?_;(conv=>whnf);refine gdI g6 (fun g6=>?_);(conv=>whnf);refine gdI g6 (fun g6=>?_);(conv=>whnf);refine J1 (enc:=Qi) ([(⟨#[48]⟩:Bt),(⟨#[49]⟩:Bt)]:List Bt) ?_;(conv=>whnf);obtain⟨x11,hx11,g6⟩:=Qa g6;refine Zy [25] ?_;(conv=>whnf);refine cE [(9000,6001)] 0 (QG hx11) ?_;(conv=>whnf);refine gdI g6 (fun g6=>?_);(conv=>whnf);obtain⟨x13,hx13,g6⟩:=Qa g6;refine cE [] 0 (Qal hx13) ?_;(conv=>whnf);obtain rfl:=sj_ g6;exact⟨_,rfl,leX []⟩
   ·(conv=>whnf);obtain rfl:=sj_ g6;obtain rfl:=hy5 _ rfl;refine J1 (enc:=Qi) ([(⟨#[119,101,98]⟩:Bt),(⟨#[119,101,98]⟩:Bt),(⟨#[111,117,116]⟩:Bt),(⟨#[]⟩:Bt),(⟨#[110,111,110,101]⟩:Bt)]:List Bt) ?_;(conv=>whnf);obtain⟨x15,hx15,h⟩:=Qa h;refine Zy [31] ?_;(conv=>whnf);refine cE [(9000,6001)] 0 (QG hx15) ?_;(conv=>whnf);obtain rfl:=sj_ h;exact lfE []
 ·(conv=>whnf);refine J1 (enc:=Qi) ([(⟨#[119,101,98]⟩:Bt),(⟨#[119,101,98]⟩:Bt),(⟨#[111,117,116]⟩:Bt),(⟨#[]⟩:Bt),(⟨#[110,111,110,101]⟩:Bt)]:List Bt) ?_;(conv=>whnf);obtain⟨x16,hx16,h⟩:=Qa h;refine Zy [31] ?_;(conv=>whnf);refine cE [(9000,6001)] 0 (QG hx16) ?_;(conv=>whnf);obtain rfl:=sj_ h;exact lfE []
def Qam (a0:Bt) (a1:Bt):Option (Bt×Bt×Bool):=
 gd (a0.size<4294967281)<|
 some (Qs2 a0 a1)
theorem Qfi {a0:Bt} {a1:Bt} {r:Bt×Bt×Bool} (h:Qam a0 a1=some r):PureC prog 143 [.d (.str a0),.d (.str a1)] (.tup [.d (.str r.1),.d (.str r.2.1),dB r.2.2]) []:=by
 unfold Qam at h;obtain⟨g,h⟩:=Qh h;obtain rfl:=sj_ h;exact Qs3 ⟨f143,rfl,by kernel_rfl,by kernel_rfl⟩ (by kernel_rfl) (fun s sep m w h1 h2=>Any.strings_Cut Lay.cut s sep m w h1 h2) g
def Qw (a0:Int) (a1:Int) (a2:Int):Option (Bool):=
 some ((decide (a1≤a0))&&(decide (a0≤a2)))
theorem QN {a0:Int} {a1:Int} {a2:Int} {r:Bool} (h:Qw a0 a1 a2=some r):PureC prog 46 [dI a0,dI a1,dI a2] (dB r) []:=by
 refine Qj tOk (fn:=f46) (c:=Ql f46) rfl rfl ?_;unfold Qw at h;(conv=>whnf);obtain rfl:=sj_ h;exact lfP []
def ZQ (a0:Bt) (a1:Bt):Option ((List Bt)):=
 gd (a0.size<4294967281∧1≤a1.size)<|
 some (Qlw a0 a1)
theorem QcP {a0:Bt} {a1:Bt} {r:(List Bt)} (h:ZQ a0 a1=some r):PureC prog 193 [.d (.str a0),.d (.str a1)] (.osl 5001 0 r.length) [⟨5001,9,1,r.length,rows Qi r⟩]:=by
 unfold ZQ at h;obtain⟨⟨g,g1⟩,h⟩:=Qh h;obtain rfl:=sj_ h;exact QpU ⟨f193,rfl,by kernel_rfl,by kernel_rfl⟩ (by kernel_rfl) (fun s sep m w h1 h2 h3=>Any.strings_Split Lay.spl (by kernel_rfl) s sep m w h1 h2 h3) g g1
def Jw (a0:Bt):Option (Bool):=
 some (a0==(⟨#[]⟩:Bt))
theorem Qev {a0:Bt} {r:Bool} (h:Jw a0=some r):PureC prog 308 [.d (.str a0)] (dB r) []:=by
 refine Qj tOk (fn:=f308) (c:=Ql f308) rfl rfl ?_;unfold Jw at h;(conv=>whnf);obtain rfl:=sj_ h;exact lfP []
def Q9 (a0:(List Bt)):Option (Int):=
 bd (lp (σ:=Int) (β:=(Int⊕Unit)) (fun s1=>
(if(decide (s1<((a0.length:Nat):Int)))=true then
 gd ((0:Int)≤s1∧s1<((a0.length:Nat):Int))<|
 bd (Jw (a0.getD s1.toNat default)) fun x6=>
(if x6=true then
 some (.inr (.inl s1))
else
 some (.inl (IntKind.i64.wrap (s1+1))))
else
 some (.inr (.inr ())))) 0) fun x4=>
(match x4 with
| .inl d7=>
 some d7
| .inr d8=>
 some (-1))
theorem Qab {a0:(List Bt)} {r:Int} (h:Q9 a0=some r):PureC prog 192 [.d (slD Qi a0),.fn 308 []] (dI r) []:=by
 refine Qj tOk (fn:=f192) (c:=Ql f192) rfl rfl ?_;unfold Q9 at h;(conv=>whnf);refine Qd tOk ?_;(conv=>whnf);obtain⟨x4,hx4,h⟩:=Qa h;refine QD tOk hx4 (fun s1=>⟨0,19,[(0,.d (slD Qi a0)),(1,.fn 308 []),(7,dI ((a0.length:Nat):Int)),(8,dI s1)],[],[],[]⟩) ?_ ?_
 ·exact leX []
 ·clear hx4;intro s1 y2 g3 hy2;(conv=>whnf);refine Qd tOk ?_;(conv=>whnf);refine QC g3 (fun _ g3=>?_) (fun _ g3=>?_)
  ·(conv=>whnf);refine Qd tOk ?_;(conv=>whnf);refine gdI g3 (fun g3=>?_);(conv=>whnf);obtain⟨x6,hx6,g3⟩:=Qa g3;refine cC 0 (Qev hx6) ?_;clear hx6;(conv=>whnf);refine QC g3 (fun _ g3=>?_) (fun _ g3=>?_)
   ·(conv=>whnf);obtain rfl:=sj_ g3;obtain rfl:=hy2 _ rfl;obtain rfl:=sj_ h;exact lfP []
   ·(conv=>whnf);obtain rfl:=sj_ g3;exact⟨_,rfl,leX []⟩
  ·(conv=>whnf);obtain rfl:=sj_ g3;obtain rfl:=hy2 _ rfl;obtain rfl:=sj_ h;exact lfP []
def Qx (a0:(List Bt)):Option ((List Bt)):=
 bd (Q9 a0) fun x1=>
(if(x1==(-1))=true then
 some a0
else
 bd (lp (σ:=List Bt×Int×Int) (β:=(Nat×Int×(List Bt))) (fun s2=>
(if(decide (s2.2.2<((s2.1.length:Nat):Int)))=true then
 gd ((0:Int)≤s2.2.2∧s2.2.2<((s2.1.length:Nat):Int))<|
 bd (Jw (s2.1.getD s2.2.2.toNat default)) fun x7=>
(if(!x7)=true then
 gd ((0:Int)≤s2.2.1∧s2.2.1<((s2.1.length:Nat):Int))<|
 some (.inl (s2.1.set s2.2.1.toNat (s2.1.getD s2.2.2.toNat default),IntKind.i64.wrap (s2.2.1+1),IntKind.i64.wrap (s2.2.2+1)))
else
 some (.inl (s2.1,s2.2.1,IntKind.i64.wrap (s2.2.2+1))))
else
 some (.inr (s2.1.length,s2.2.1,s2.1)))) (a0,x1,IntKind.i64.wrap (x1+1))) fun x5=>
 gd ((0:Int)≤x5.2.1∧x5.2.1≤((x5.1:Nat):Int)∧((x5.1:Nat):Int)≤((x5.1:Nat):Int))<|
 gd ((0:Int)≤(0:Int)∧(0:Int)≤x5.2.1∧x5.2.1≤((x5.1:Nat):Int))<|
 some ((QpV x5.2.2 x5.2.1.toNat (QdL ((x5.1:Nat):Int) x5.2.1)).take x5.2.1.toNat))
theorem JG {a0:(List Bt)} {r:(List Bt)} (h:Qx a0=some r):EffC prog 186 [.osl 9000 0 a0.length,.fn 308 []] [(9000,.arr 9 1 a0.length (rows Qi a0))] (.osl 5001 0 r.length) [(5001,.arr 9 1 r.length (rows Qi r))]:=by
 refine QaR tOk (fn:=f186) (c:=Ql f186) rfl rfl ?_;unfold Qx at h;(conv=>whnf);obtain⟨x1,hx1,h⟩:=Qa h;refine cC 0 (Qab hx1) ?_;clear hx1;(conv=>whnf);refine Qd tOk ?_;(conv=>whnf);refine QC h (fun _ h=>?_) (fun _ h=>?_)
 ·(conv=>whnf);obtain rfl:=sj_ h;exact lfE [.s [(5001,9000),(9000,5001)]]
 ·(conv=>whnf);refine Qd tOk ?_;(conv=>whnf);obtain⟨x5,hx5,h⟩:=Qa h;refine QD tOk hx5 (fun s2=>⟨0,42,[(0,.osl 9000 0 s2.1.length),(1,.fn 308 []),(5,dI s2.2.1),(6,dI s2.2.2)],[],[(9000,.arr 9 1 s2.1.length (rows Qi s2.1))],[⟨[],[]⟩]⟩) ?_ ?_
  ·exact leX []
  ·clear hx5;intro s2 y3 g4 hy3;(conv=>whnf);refine Qd tOk ?_;(conv=>whnf);refine QC g4 (fun _ g4=>?_) (fun _ g4=>?_)
   ·(conv=>whnf);refine Qd tOk ?_;(conv=>whnf);refine gdI g4 (fun g4=>?_);(conv=>whnf);obtain⟨x7,hx7,g4⟩:=Qa g4;refine cC 0 (Qev hx7) ?_;clear hx7;(conv=>whnf);refine QC g4 (fun _ g4=>?_) (fun _ g4=>?_)
    ·(conv=>whnf);refine gdI g4 (fun g4=>?_);(conv=>whnf);refine⟨rows Qi (s2.1.set s2.2.1.toNat (s2.1.getD s2.2.2.toNat default)),Qc8 QuV rfl,?_⟩;(conv=>whnf);obtain rfl:=sj_ g4;exact⟨_,rfl,leX []⟩
    ·(conv=>whnf);obtain rfl:=sj_ g4;exact⟨_,rfl,leX []⟩
   ·(conv=>whnf);obtain rfl:=sj_ g4;obtain rfl:=hy3 _ rfl;dsimp only at h;obtain⟨g10,h⟩:=Qh h;refine And.intro g10 ?_;(conv=>whnf);refine⟨rows Qi (QpV (s2.1.length,s2.2.1,s2.1).2.2 (s2.1.length,s2.2.1,s2.1).2.1.toNat (QdL (((s2.1.length,s2.2.1,s2.1).1:Nat):Int) (s2.1.length,s2.2.1,s2.1).2.1)),Qne QuV zlA,?_⟩;(conv=>whnf);obtain⟨g11,h⟩:=Qh h;refine And.intro g11 ?_;(conv=>whnf);obtain rfl:=sj_ h;exact lfE [.c 4,.s [(5001,9000),(9000,5001)]]
def Qan (a0:Bt):Option (Bool):=
 some (decide (((a0.size:Nat):Int)>24))
theorem QhT {a0:Bt} {r:Bool} (h:Qan a0=some r):PureC prog 309 [.d (.str a0)] (dB r) []:=by
 refine Qj tOk (fn:=f309) (c:=Ql f309) rfl rfl ?_;unfold Qan at h;(conv=>whnf);obtain rfl:=sj_ h;exact lfP []
def Za (a0:(List Bt)):Option (Int):=
 bd (lp (σ:=Int) (β:=(Int⊕Unit)) (fun s1=>
(if(decide (s1<((a0.length:Nat):Int)))=true then
 gd ((0:Int)≤s1∧s1<((a0.length:Nat):Int))<|
 bd (Qan (a0.getD s1.toNat default)) fun x6=>
(if x6=true then
 some (.inr (.inl s1))
else
 some (.inl (IntKind.i64.wrap (s1+1))))
else
 some (.inr (.inr ())))) 0) fun x4=>
(match x4 with
| .inl d7=>
 some d7
| .inr d8=>
 some (-1))
theorem Qac {a0:(List Bt)} {r:Int} (h:Za a0=some r):PureC prog 192 [.d (slD Qi a0),.fn 309 []] (dI r) []:=by
 refine Qj tOk (fn:=f192) (c:=Ql f192) rfl rfl ?_;unfold Za at h;(conv=>whnf);refine Qd tOk ?_;(conv=>whnf);obtain⟨x4,hx4,h⟩:=Qa h;refine QD tOk hx4 (fun s1=>⟨0,19,[(0,.d (slD Qi a0)),(1,.fn 309 []),(7,dI ((a0.length:Nat):Int)),(8,dI s1)],[],[],[]⟩) ?_ ?_
 ·exact leX []
 ·clear hx4;intro s1 y2 g3 hy2;(conv=>whnf);refine Qd tOk ?_;(conv=>whnf);refine QC g3 (fun _ g3=>?_) (fun _ g3=>?_)
  ·(conv=>whnf);refine Qd tOk ?_;(conv=>whnf);refine gdI g3 (fun g3=>?_);(conv=>whnf);obtain⟨x6,hx6,g3⟩:=Qa g3;refine cC 0 (QhT hx6) ?_;clear hx6;(conv=>whnf);refine QC g3 (fun _ g3=>?_) (fun _ g3=>?_)
   ·(conv=>whnf);obtain rfl:=sj_ g3;obtain rfl:=hy2 _ rfl;obtain rfl:=sj_ h;exact lfP []
   ·(conv=>whnf);obtain rfl:=sj_ g3;exact⟨_,rfl,leX []⟩
  ·(conv=>whnf);obtain rfl:=sj_ g3;obtain rfl:=hy2 _ rfl;obtain rfl:=sj_ h;exact lfP []
def QE (a0:(List Bt)):Option (Bool):=
 bd (Za a0) fun x1=>
 some (decide (x1≥0))
theorem JX {a0:(List Bt)} {r:Bool} (h:QE a0=some r):PureC prog 119 [.d (slD Qi a0),.fn 309 []] (dB r) []:=by
 refine Qj tOk (fn:=f119) (c:=Ql f119) rfl rfl ?_;unfold QE at h;(conv=>whnf);obtain⟨x1,hx1,h⟩:=Qa h;refine cC 0 (Qac hx1) ?_;clear hx1;(conv=>whnf);obtain rfl:=sj_ h;exact lfP []
def QaZ (a0:Bt):Option ((List Bt)×Bool):=
 bd (Qam a0 (⟨#[35]⟩:Bt)) fun x1=>
 bd (lp (σ:=Int) (β:=(Unit⊕Unit)) (fun s2=>
(if(decide (s2<((x1.1.size:Nat):Int)))=true then
 gd ((0:Int)≤s2∧s2<((x1.1.size:Nat):Int))<|
 bd (Qw (IntKind.i64.wrap (JL x1.1 s2.toNat)) 32 126) fun x7=>
(if(!x7)=true then
 some (.inr (.inl ()))
else
 some (.inl (IntKind.i64.wrap (s2+1))))
else
 some (.inr (.inr ())))) 0) fun x5=>
(match x5 with
| .inl d8=>
 some ([],false)
| .inr d9=>
 bd (ZQ x1.1 (⟨#[32]⟩:Bt)) fun x10=>
 bd (Qx x10) fun x11=>
 bd (Qt ((decide (((x11.length:Nat):Int)>8))=false) (QE x11)) fun x12=>
(if((decide (((x11.length:Nat):Int)>8))||x12)=true then
 some ([],false)
else
 some (x11,true)))
theorem QjD {a0:Bt} {r:(List Bt)×Bool} (h:QaZ a0=some r):PureC prog 260 [.d (.str a0)] (.tup [.osl 5001 0 r.1.length,dB r.2]) [⟨5001,9,1,r.1.length,rows Qi r.1⟩]:=by
 refine Qj tOk (fn:=f260) (c:=Ql f260) rfl rfl ?_;unfold QaZ at h;(conv=>whnf);obtain⟨x1,hx1,h⟩:=Qa h;refine cC 0 (Qfi hx1) ?_;clear hx1;(conv=>whnf);refine Qd tOk ?_;(conv=>whnf);obtain⟨x5,hx5,h⟩:=Qa h;refine QD tOk hx5 (fun s2=>⟨0,35,[(0,.d (.str x1.1)),(4,dI s2)],[],[],[]⟩) ?_ ?_
 ·exact leX []
 ·clear hx5;intro s2 y3 g4 hy3;(conv=>whnf);refine Qd tOk ?_;(conv=>whnf);refine QC g4 (fun _ g4=>?_) (fun _ g4=>?_)
  ·(conv=>whnf);refine Qd tOk ?_;(conv=>whnf);refine gdI g4 (fun g4=>?_);(conv=>whnf);obtain⟨x7,hx7,g4⟩:=Qa g4;refine cC 0 (QN hx7) ?_;clear hx7;(conv=>whnf);refine QC g4 (fun _ g4=>?_) (fun _ g4=>?_)
   ·(conv=>whnf);obtain rfl:=sj_ g4;obtain rfl:=hy3 _ rfl;obtain rfl:=sj_ h;exact lfP [.p 5001 9 1 (rows Qi ([]:List Bt))]
   ·(conv=>whnf);obtain rfl:=sj_ g4;exact⟨_,rfl,leX []⟩
  ·(conv=>whnf);obtain rfl:=sj_ g4;obtain rfl:=hy3 _ rfl;obtain⟨x10,hx10,h⟩:=Qa h;refine cC 1000 (QcP hx10) ?_;clear hx10;(conv=>whnf);obtain⟨x11,hx11,h⟩:=Qa h;refine cE [(9000,6001)] 2000 (JG hx11) ?_;(conv=>whnf);refine Qd tOk ?_;(conv=>whnf);obtain⟨x12,hx12,h⟩:=Qa h;refine cG (fun c0=>JX (Qg hx12 c0)) ?_;(conv=>whnf);refine QC h (fun _ h=>?_) (fun _ h=>?_)
   ·(conv=>whnf);obtain rfl:=sj_ h;exact lfP [.k [7001],.p 5001 9 1 (rows Qi ([]:List Bt))]
   ·(conv=>whnf);obtain rfl:=sj_ h;exact lfP [.s [(5001,7001),(7001,5001)]]
def Z5 (a0:Int) (a1:Int):Option (Fnv):=
 some (Fnv.r 359 a0 a1)
theorem JS {a0:Int} {a1:Int} {r:Fnv} (h:Z5 a0 a1=some r):EffC prog 322 [dI a0,dI a1] [] (.d (.fn r.f r.caps)) []:=by
 refine QaR tOk (fn:=f322) (c:=Ql f322) rfl rfl ?_;unfold Z5 at h;(conv=>whnf);obtain rfl:=sj_ h;exact lfE [.f [2,3]]
def QdW (a0:(List Bt)):Option (Fnv):=
 some (Fnv.w 360 a0)
theorem QhU {a0:(List Bt)} {r:Fnv} (h:QdW a0=some r):EffC prog 325 [.d (slD Qi a0)] [] (.d (.fn r.f r.caps)) []:=by
 refine QaR tOk (fn:=f325) (c:=Ql f325) rfl rfl ?_;unfold QdW at h;(conv=>whnf);obtain rfl:=sj_ h;exact lfE [.f [1]]
def Qag (a0:form) (a1:Bt):Option (Bool):=
 some (!(a0.word==a1))
theorem QfN {a0:form} {a1:Bt} {r:Bool} (h:Qag a0 a1=some r):PureC prog 328 [.agg [.d (.str a0.word),dI a0.key,.d (slD QbV a0.checks)],.rp [.str a1]] (dB r) []:=by
 refine Qj tOk (fn:=f328) (c:=Ql f328) rfl rfl ?_;unfold Qag at h;(conv=>whnf);obtain rfl:=sj_ h;exact lfP []
def Zv (a0:(List form)) (a1c0:Bt):Option (Int):=
 bd (lp (σ:=Int) (β:=(Int⊕Unit)) (fun s1=>
(if(decide (s1<((a0.length:Nat):Int)))=true then
 gd ((0:Int)≤s1∧s1<((a0.length:Nat):Int))<|
 bd (Qag (a0.getD s1.toNat default) a1c0) fun x6=>
(if x6=true then
 some (.inr (.inl s1))
else
 some (.inl (IntKind.i64.wrap (s1+1))))
else
 some (.inr (.inr ())))) 0) fun x4=>
(match x4 with
| .inl d7=>
 some d7
| .inr d8=>
 some (-1))
theorem QaS {a0:(List form)} {a1c0:Bt} {r:Int} (h:Zv a0 a1c0=some r):PureC prog 361 [.d (slD form.enc a0),.fn 328 [.rp [.str a1c0]]] (dI r) []:=by
 refine Qj tOk (fn:=f361) (c:=Ql f361) rfl rfl ?_;unfold Zv at h;(conv=>whnf);refine Qd tOk ?_;(conv=>whnf);obtain⟨x4,hx4,h⟩:=Qa h;refine QD tOk hx4 (fun s1=>⟨0,19,[(0,.d (slD form.enc a0)),(1,.fn 328 [.rp [.str a1c0]]),(7,dI ((a0.length:Nat):Int)),(8,dI s1)],[],[],[]⟩) ?_ ?_
 ·exact leX []
 ·clear hx4;intro s1 y2 g3 hy2;(conv=>whnf);refine Qd tOk ?_;(conv=>whnf);refine QC g3 (fun _ g3=>?_) (fun _ g3=>?_)
  ·(conv=>whnf);refine Qd tOk ?_;(conv=>whnf);refine gdI g3 (fun g3=>?_);(conv=>whnf);obtain⟨x6,hx6,g3⟩:=Qa g3;refine cC 0 (QfN hx6) ?_;clear hx6;(conv=>whnf);refine QC g3 (fun _ g3=>?_) (fun _ g3=>?_)
   ·(conv=>whnf);obtain rfl:=sj_ g3;obtain rfl:=hy2 _ rfl;obtain rfl:=sj_ h;exact lfP []
   ·(conv=>whnf);obtain rfl:=sj_ g3;exact⟨_,rfl,leX []⟩
  ·(conv=>whnf);obtain rfl:=sj_ g3;obtain rfl:=hy2 _ rfl;obtain rfl:=sj_ h;exact lfP []
def Qcj (a0:Bt):Option ((List form)):=
 bd (Z5 1 65535) fun x1=>
 bd (Z5 1 7) fun x2=>
 bd (Z5 0 7) fun x3=>
 bd (Z5 0 7) fun x4=>
 bd (QdW ([(⟨#[105,110]⟩:Bt)]:List Bt)) fun x5=>
 bd (Z5 0 99) fun x6=>
 bd (QdW ([(⟨#[112,101,114,109,105,116]⟩:Bt),(⟨#[100,101,110,121]⟩:Bt)]:List Bt)) fun x7=>
 bd (Z5 0 7) fun x8=>
 bd (Z5 1 9) fun x9=>
 bd (Z5 1 999999) fun x10=>
 bd (Zv ([(⟨(⟨#[104,111,115,116]⟩:Bt),1,([(Fnv.k 174)]:List Fnv)⟩:form),(⟨(⟨#[117,115,101,114]⟩:Bt),2,([(Fnv.k 174),(Fnv.k 323)]:List Fnv)⟩:form),(⟨(⟨#[112,111,114,116]⟩:Bt),2,([x3,(Fnv.k 324)]:List Fnv)⟩:form),(⟨(⟨#[112,111,114,116]⟩:Bt),2,([x4,(Fnv.k 324),x5,(Fnv.k 174)]:List Fnv)⟩:form),(⟨(⟨#[114,117,108,101]⟩:Bt),3,([(Fnv.k 174),x6,x7,(Fnv.k 324),(Fnv.k 324),x8]:List Fnv)⟩:form),(⟨(⟨#[114,111,117,116,101]⟩:Bt),3,([(Fnv.k 324),(Fnv.k 326)]:List Fnv)⟩:form),(⟨(⟨#[112,101,101,114]⟩:Bt),2,([(Fnv.k 326),x9,x10]:List Fnv)⟩:form),(⟨(⟨#[110,97,116]⟩:Bt),1,([(Fnv.k 324),(Fnv.k 326),x1,x1]:List Fnv)⟩:form),(⟨(⟨#[100,111,111,114]⟩:Bt),3,([x2,x1,(Fnv.k 326),x1]:List Fnv)⟩:form)]:List form) a0) fun x11=>
(if(x11==(-1))=true then
 some ([(⟨(⟨#[104,111,115,116]⟩:Bt),1,([(Fnv.k 174)]:List Fnv)⟩:form),(⟨(⟨#[117,115,101,114]⟩:Bt),2,([(Fnv.k 174),(Fnv.k 323)]:List Fnv)⟩:form),(⟨(⟨#[112,111,114,116]⟩:Bt),2,([x3,(Fnv.k 324)]:List Fnv)⟩:form),(⟨(⟨#[112,111,114,116]⟩:Bt),2,([x4,(Fnv.k 324),x5,(Fnv.k 174)]:List Fnv)⟩:form),(⟨(⟨#[114,117,108,101]⟩:Bt),3,([(Fnv.k 174),x6,x7,(Fnv.k 324),(Fnv.k 324),x8]:List Fnv)⟩:form),(⟨(⟨#[114,111,117,116,101]⟩:Bt),3,([(Fnv.k 324),(Fnv.k 326)]:List Fnv)⟩:form),(⟨(⟨#[112,101,101,114]⟩:Bt),2,([(Fnv.k 326),x9,x10]:List Fnv)⟩:form),(⟨(⟨#[110,97,116]⟩:Bt),1,([(Fnv.k 324),(Fnv.k 326),x1,x1]:List Fnv)⟩:form),(⟨(⟨#[100,111,111,114]⟩:Bt),3,([x2,x1,(Fnv.k 326),x1]:List Fnv)⟩:form)]:List form)
else
 bd (lp (σ:=List form×Int×Int) (β:=(Nat×Int×(List form))) (fun s12=>
(if(decide (s12.2.2<((s12.1.length:Nat):Int)))=true then
 gd ((0:Int)≤s12.2.2∧s12.2.2<((s12.1.length:Nat):Int))<|
 bd (Qag (s12.1.getD s12.2.2.toNat default) a0) fun x17=>
(if(!x17)=true then
 gd ((0:Int)≤s12.2.1∧s12.2.1<((s12.1.length:Nat):Int))<|
 some (.inl (s12.1.set s12.2.1.toNat (s12.1.getD s12.2.2.toNat default),IntKind.i64.wrap (s12.2.1+1),IntKind.i64.wrap (s12.2.2+1)))
else
 some (.inl (s12.1,s12.2.1,IntKind.i64.wrap (s12.2.2+1))))
else
 some (.inr (s12.1.length,s12.2.1,s12.1)))) (([(⟨(⟨#[104,111,115,116]⟩:Bt),1,([(Fnv.k 174)]:List Fnv)⟩:form),(⟨(⟨#[117,115,101,114]⟩:Bt),2,([(Fnv.k 174),(Fnv.k 323)]:List Fnv)⟩:form),(⟨(⟨#[112,111,114,116]⟩:Bt),2,([x3,(Fnv.k 324)]:List Fnv)⟩:form),(⟨(⟨#[112,111,114,116]⟩:Bt),2,([x4,(Fnv.k 324),x5,(Fnv.k 174)]:List Fnv)⟩:form),(⟨(⟨#[114,117,108,101]⟩:Bt),3,([(Fnv.k 174),x6,x7,(Fnv.k 324),(Fnv.k 324),x8]:List Fnv)⟩:form),(⟨(⟨#[114,111,117,116,101]⟩:Bt),3,([(Fnv.k 324),(Fnv.k 326)]:List Fnv)⟩:form),(⟨(⟨#[112,101,101,114]⟩:Bt),2,([(Fnv.k 326),x9,x10]:List Fnv)⟩:form),(⟨(⟨#[110,97,116]⟩:Bt),1,([(Fnv.k 324),(Fnv.k 326),x1,x1]:List Fnv)⟩:form),(⟨(⟨#[100,111,111,114]⟩:Bt),3,([x2,x1,(Fnv.k 326),x1]:List Fnv)⟩:form)]:List form),x11,IntKind.i64.wrap (x11+1))) fun x15=>
 gd ((0:Int)≤x15.2.1∧x15.2.1≤((x15.1:Nat):Int)∧((x15.1:Nat):Int)≤((x15.1:Nat):Int))<|
 gd ((0:Int)≤(0:Int)∧(0:Int)≤x15.2.1∧x15.2.1≤((x15.1:Nat):Int))<|
 some ((QpV x15.2.2 x15.2.1.toNat (QdL ((x15.1:Nat):Int) x15.2.1)).take x15.2.1.toNat))
theorem QlK {a0:Bt} {r:(List form)} (h:Qcj a0=some r):EffC prog 266 [.d (.str a0)] [] (.osl 5001 0 r.length) [(5001,.arr 210 3 r.length (rows form.enc r))]:=by
 refine QaR tOk (fn:=f266) (c:=Ql f266) rfl rfl ?_;unfold Qcj at h;(conv=>whnf);obtain⟨x1,hx1,h⟩:=Qa h;refine cE [] 0 (JS hx1) ?_;(conv=>whnf);obtain⟨x2,hx2,h⟩:=Qa h;refine cE [] 0 (JS hx2) ?_;(conv=>whnf);refine J1 (enc:=QbV) ([(Fnv.k 174)]:List Fnv) ?_;(conv=>whnf);refine J1 (enc:=QbV) ([(Fnv.k 174),(Fnv.k 323)]:List Fnv) ?_;(conv=>whnf);obtain⟨x3,hx3,h⟩:=Qa h;refine cE [] 0 (JS hx3) ?_;(conv=>whnf);refine J1 (enc:=QbV) ([x3,(Fnv.k 324)]:List Fnv) ?_;(conv=>whnf);obtain⟨x4,hx4,h⟩:=Qa h;refine cE [] 0 (JS hx4) ?_;(conv=>whnf);refine J1 (enc:=Qi) ([(⟨#[105,110]⟩:Bt)]:List Bt) ?_;(conv=>whnf);obtain⟨x5,hx5,h⟩:=Qa h;refine Zy [16] ?_;(conv=>whnf);refine cE [] 0 (QhU hx5) ?_;(conv=>whnf);refine J1 (enc:=QbV) ([x4,(Fnv.k 324),x5,(Fnv.k 174)]:List Fnv) ?_;(conv=>whnf);obtain⟨x6,hx6,h⟩:=Qa h;refine cE [] 0 (JS hx6) ?_;(conv=>whnf);refine J1 (enc:=Qi) ([(⟨#[112,101,114,109,105,116]⟩:Bt),(⟨#[100,101,110,121]⟩:Bt)]:List Bt) ?_;(conv=>whnf);obtain⟨x7,hx7,h⟩:=Qa h;refine Zy [21] ?_;(conv=>whnf);refine cE [] 0 (QhU hx7) ?_;(conv=>whnf);obtain⟨x8,hx8,h⟩:=Qa h;refine cE [] 0 (JS hx8) ?_;(conv=>whnf);refine J1 (enc:=QbV) ([(Fnv.k 174),x6,x7,(Fnv.k 324),(Fnv.k 324),x8]:List Fnv) ?_;(conv=>whnf);refine J1 (enc:=QbV) ([(Fnv.k 324),(Fnv.k 326)]:List Fnv) ?_;(conv=>whnf);obtain⟨x9,hx9,h⟩:=Qa h;refine cE [] 0 (JS hx9) ?_;(conv=>whnf);obtain⟨x10,hx10,h⟩:=Qa h;refine cE [] 0 (JS hx10) ?_;(conv=>whnf);refine J1 (enc:=QbV) ([(Fnv.k 326),x9,x10]:List Fnv) ?_;(conv=>whnf);refine J1 (enc:=QbV) ([(Fnv.k 324),(Fnv.k 326),x1,x1]:List Fnv) ?_;(conv=>whnf);refine J1 (enc:=QbV) ([x2,x1,(Fnv.k 326),x1]:List Fnv) ?_;(conv=>whnf);refine J1 (enc:=form.enc) ([(⟨(⟨#[104,111,115,116]⟩:Bt),1,([(Fnv.k 174)]:List Fnv)⟩:form),(⟨(⟨#[117,115,101,114]⟩:Bt),2,([(Fnv.k 174),(Fnv.k 323)]:List Fnv)⟩:form),(⟨(⟨#[112,111,114,116]⟩:Bt),2,([x3,(Fnv.k 324)]:List Fnv)⟩:form),(⟨(⟨#[112,111,114,116]⟩:Bt),2,([x4,(Fnv.k 324),x5,(Fnv.k 174)]:List Fnv)⟩:form),(⟨(⟨#[114,117,108,101]⟩:Bt),3,([(Fnv.k 174),x6,x7,(Fnv.k 324),(Fnv.k 324),x8]:List Fnv)⟩:form),(⟨(⟨#[114,111,117,116,101]⟩:Bt),3,([(Fnv.k 324),(Fnv.k 326)]:List Fnv)⟩:form),(⟨(⟨#[112,101,101,114]⟩:Bt),2,([(Fnv.k 326),x9,x10]:List Fnv)⟩:form),(⟨(⟨#[110,97,116]⟩:Bt),1,([(Fnv.k 324),(Fnv.k 326),x1,x1]:List Fnv)⟩:form),(⟨(⟨#[100,111,111,114]⟩:Bt),3,([x2,x1,(Fnv.k 326),x1]:List Fnv)⟩:form)]:List form) ?_;(conv=>whnf);refine Qw1 tOk 20000 (fn:=f327) (c:=Ql f327) rfl rfl (by kernel_rfl) rfl ?_;(conv=>whnf);obtain⟨x11,hx11,h⟩:=Qa h;refine cC 0 (QaS hx11) ?_;clear hx11;(conv=>whnf);refine Qd tOk ?_;(conv=>whnf);refine QC h (fun _ h=>?_) (fun _ h=>?_)
 ·(conv=>whnf);obtain rfl:=sj_ h;exact lfE [.s [(41,5001),(5001,41)]]
 ·(conv=>whnf);refine Qd tOk ?_;(conv=>whnf);obtain⟨x15,hx15,h⟩:=Qa h;refine QD tOk hx15 (fun s12=>⟨20000,42,[(0,.osl 41 0 s12.1.length),(1,.fn 328 [.ref 1 0 0]),(5,dI s12.2.1),(6,dI s12.2.2)],[],[(41,.arr 210 3 s12.1.length (rows form.enc s12.1)),(1,.box 9 [.d (.str a0)])],[⟨[(0,.d (.str a0)),(1,.ref 1 0 0),(2,.d (.nil)),(3,.d (.fn x1.f x1.caps)),(4,.d (.fn x2.f x2.caps)),(5,.osl 41 0 s12.1.length),(6,.d (.fn x1.f x1.caps)),(7,.d (.fn x2.f x2.caps)),(8,.d (slD QbV ([(Fnv.k 174)]:List Fnv))),(9,.agg [.d (.str (⟨#[104,111,115,116]⟩:Bt)),dI 1,.d (slD QbV ([(Fnv.k 174)]:List Fnv))]),(10,.d (slD QbV ([(Fnv.k 174),(Fnv.k 323)]:List Fnv))),(11,.agg [.d (.str (⟨#[117,115,101,114]⟩:Bt)),dI 2,.d (slD QbV ([(Fnv.k 174),(Fnv.k 323)]:List Fnv))]),(12,.d (.fn x3.f x3.caps)),(13,.d (slD QbV ([x3,(Fnv.k 324)]:List Fnv))),(14,.agg [.d (.str (⟨#[112,111,114,116]⟩:Bt)),dI 2,.d (slD QbV ([x3,(Fnv.k 324)]:List Fnv))]),(15,.d (.fn x4.f x4.caps)),(16,.d (slD Qi ([(⟨#[105,110]⟩:Bt)]:List Bt))),(17,.d (.fn x5.f x5.caps)),(18,.d (slD QbV ([x4,(Fnv.k 324),x5,(Fnv.k 174)]:List Fnv))),(19,.agg [.d (.str (⟨#[112,111,114,116]⟩:Bt)),dI 2,.d (slD QbV ([x4,(Fnv.k 324),x5,(Fnv.k 174)]:List Fnv))]),(20,.d (.fn x6.f x6.caps)),(21,.d (slD Qi ([(⟨#[112,101,114,109,105,116]⟩:Bt),(⟨#[100,101,110,121]⟩:Bt)]:List Bt))),(22,.d (.fn x7.f x7.caps)),(23,.d (.fn x8.f x8.caps)),(24,.d (slD QbV ([(Fnv.k 174),x6,x7,(Fnv.k 324),(Fnv.k 324),x8]:List Fnv))),(25,.agg [.d (.str (⟨#[114,117,108,101]⟩:Bt)),dI 3,.d (slD QbV ([(Fnv.k 174),x6,x7,(Fnv.k 324),(Fnv.k 324),x8]:List Fnv))]),(26,.d (slD QbV ([(Fnv.k 324),(Fnv.k 326)]:List Fnv))),(27,.agg [.d (.str (⟨#[114,111,117,116,101]⟩:Bt)),dI 3,.d (slD QbV ([(Fnv.k 324),(Fnv.k 326)]:List Fnv))]),(28,.d (.fn x9.f x9.caps)),(29,.d (.fn x10.f x10.caps)),(30,.d (slD QbV ([(Fnv.k 326),x9,x10]:List Fnv))),(31,.agg [.d (.str (⟨#[112,101,101,114]⟩:Bt)),dI 2,.d (slD QbV ([(Fnv.k 326),x9,x10]:List Fnv))]),(32,.d (.fn x1.f x1.caps)),(33,.d (.fn x1.f x1.caps)),(34,.d (slD QbV ([(Fnv.k 324),(Fnv.k 326),x1,x1]:List Fnv))),(35,.agg [.d (.str (⟨#[110,97,116]⟩:Bt)),dI 1,.d (slD QbV ([(Fnv.k 324),(Fnv.k 326),x1,x1]:List Fnv))]),(36,.d (.fn x2.f x2.caps)),(37,.d (.fn x1.f x1.caps)),(38,.d (.fn x1.f x1.caps)),(39,.d (slD QbV ([x2,x1,(Fnv.k 326),x1]:List Fnv))),(40,.agg [.d (.str (⟨#[100,111,111,114]⟩:Bt)),dI 3,.d (slD QbV ([x2,x1,(Fnv.k 326),x1]:List Fnv))]),(41,.osl 41 0 s12.1.length),(42,.osl 41 0 s12.1.length),(43,.fn 328 [.ref 1 0 0])],[]⟩,⟨[],[]⟩]⟩) ?_ ?_
  ·exact leX []
  ·clear hx15;intro s12 y13 g14 hy13;(conv=>whnf);refine Qd tOk ?_;(conv=>whnf);refine QC g14 (fun _ g14=>?_) (fun _ g14=>?_)
   ·(conv=>whnf);refine Qd tOk ?_;(conv=>whnf);refine gdI g14 (fun g14=>?_);(conv=>whnf);obtain⟨x17,hx17,g14⟩:=Qa g14;refine cC 0 (QfN hx17) ?_;clear hx17;(conv=>whnf);refine QC g14 (fun _ g14=>?_) (fun _ g14=>?_)
    ·(conv=>whnf);refine gdI g14 (fun g14=>?_);(conv=>whnf);refine⟨rows form.enc (s12.1.set s12.2.1.toNat (s12.1.getD s12.2.2.toNat default)),Qc8 QuV rfl,?_⟩;(conv=>whnf);obtain rfl:=sj_ g14;exact⟨_,rfl,leX []⟩
    ·(conv=>whnf);obtain rfl:=sj_ g14;exact⟨_,rfl,leX []⟩
   ·(conv=>whnf);obtain rfl:=sj_ g14;obtain rfl:=hy13 _ rfl;obtain⟨g20,h⟩:=Qh h;refine And.intro g20 ?_;(conv=>whnf);refine⟨rows form.enc (QpV (s12.1.length,s12.2.1,s12.1).2.2 (s12.1.length,s12.2.1,s12.1).2.1.toNat (QdL (((s12.1.length,s12.2.1,s12.1).1:Nat):Int) (s12.1.length,s12.2.1,s12.1).2.1)),Qne QuV zlA,?_⟩;(conv=>whnf);obtain⟨g21,h⟩:=Qh h;refine And.intro g21 ?_;(conv=>whnf);obtain rfl:=sj_ h;exact lfE [.c 2,.s [(41,5001),(5001,41)]]
def QcQ (a0:Bt):Option (Bool):=
 bd (lp (σ:=Int) (β:=(Unit⊕Unit)) (fun s1=>
(if(decide (s1<((a0.size:Nat):Int)))=true then
 gd ((0:Int)≤s1∧s1<((a0.size:Nat):Int))<|
(if((((JL a0 s1.toNat) !=45)&&((decide ((JL a0 s1.toNat)<97))||(decide ((JL a0 s1.toNat)>122))))&&((decide ((JL a0 s1.toNat)<48))||(decide ((JL a0 s1.toNat)>57))))=true then
 some (.inr (.inl ()))
else
 some (.inl (IntKind.i64.wrap (s1+1))))
else
 some (.inr (.inr ())))) 0) fun x4=>
(match x4 with
| .inl d6=>
 some false
| .inr d7=>
 bd (Qw ((a0.size:Nat):Int) 1 8) fun x8=>
 some x8)
theorem Qnf {a0:Bt} {r:Bool} (h:QcQ a0=some r):PureC prog 174 [.d (.str a0)] (dB r) []:=by
 refine Qj tOk (fn:=f174) (c:=Ql f174) rfl rfl ?_;unfold QcQ at h;(conv=>whnf);refine Qd tOk ?_;(conv=>whnf);obtain⟨x4,hx4,h⟩:=Qa h;refine QD tOk hx4 (fun s1=>⟨0,35,[(0,.d (.str a0)),(3,dI s1)],[],[],[]⟩) ?_ ?_
 ·exact leX []
 ·clear hx4;intro s1 y2 g3 hy2;(conv=>whnf);refine Qd tOk ?_;(conv=>whnf);refine QC g3 (fun _ g3=>?_) (fun _ g3=>?_)
  ·(conv=>whnf);refine Qd tOk ?_;(conv=>whnf);refine gdI g3 (fun g3=>?_);(conv=>whnf);refine QC g3 (fun _ g3=>?_) (fun _ g3=>?_)
   ·(conv=>whnf);obtain rfl:=sj_ g3;obtain rfl:=hy2 _ rfl;obtain rfl:=sj_ h;exact lfP []
   ·(conv=>whnf);obtain rfl:=sj_ g3;exact⟨_,rfl,leX []⟩
  ·(conv=>whnf);obtain rfl:=sj_ g3;obtain rfl:=hy2 _ rfl;obtain⟨x8,hx8,h⟩:=Qa h;refine cC 0 (QN hx8) ?_;clear hx8;(conv=>whnf);obtain rfl:=sj_ h;exact lfP []
def Z3 (a0:(List Bt)) (a1:Bt):Option (Int):=
 bd (lp (σ:=Int) (β:=(Int⊕Unit)) (fun s1=>
(if(decide (s1<((a0.length:Nat):Int)))=true then
 gd ((0:Int)≤s1∧s1<((a0.length:Nat):Int))<|
(if(a1==(a0.getD s1.toNat default))=true then
 some (.inr (.inl s1))
else
 some (.inl (IntKind.i64.wrap (s1+1))))
else
 some (.inr (.inr ())))) 0) fun x4=>
(match x4 with
| .inl d6=>
 some d6
| .inr d7=>
 some (-1))
theorem QdX {a0:(List Bt)} {a1:Bt} {r:Int} (h:Z3 a0 a1=some r):PureC prog 184 [.d (slD Qi a0),.d (.str a1)] (dI r) []:=by
 refine Qj tOk (fn:=f184) (c:=Ql f184) rfl rfl ?_;unfold Z3 at h;(conv=>whnf);refine Qd tOk ?_;(conv=>whnf);obtain⟨x4,hx4,h⟩:=Qa h;refine QD tOk hx4 (fun s1=>⟨0,19,[(0,.d (slD Qi a0)),(1,.d (.str a1)),(7,dI ((a0.length:Nat):Int)),(8,dI s1)],[],[],[]⟩) ?_ ?_
 ·exact leX []
 ·clear hx4;intro s1 y2 g3 hy2;(conv=>whnf);refine Qd tOk ?_;(conv=>whnf);refine QC g3 (fun _ g3=>?_) (fun _ g3=>?_)
  ·(conv=>whnf);refine Qd tOk ?_;(conv=>whnf);refine gdI g3 (fun g3=>?_);(conv=>whnf);refine QC g3 (fun _ g3=>?_) (fun _ g3=>?_)
   ·(conv=>whnf);obtain rfl:=sj_ g3;obtain rfl:=hy2 _ rfl;obtain rfl:=sj_ h;exact lfP []
   ·(conv=>whnf);obtain rfl:=sj_ g3;exact⟨_,rfl,leX []⟩
  ·(conv=>whnf);obtain rfl:=sj_ g3;obtain rfl:=hy2 _ rfl;obtain rfl:=sj_ h;exact lfP []
def QU (a0:(List Bt)) (a1:Bt):Option (Bool):=
 bd (Z3 a0 a1) fun x1=>
 some (decide (x1≥0))
theorem QaD {a0:(List Bt)} {a1:Bt} {r:Bool} (h:QU a0 a1=some r):PureC prog 264 [.d (slD Qi a0),.d (.str a1)] (dB r) []:=by
 refine Qj tOk (fn:=f264) (c:=Ql f264) rfl rfl ?_;unfold QU at h;(conv=>whnf);obtain⟨x1,hx1,h⟩:=Qa h;refine cC 0 (QdX hx1) ?_;clear hx1;(conv=>whnf);obtain rfl:=sj_ h;exact lfP []
def Qbw (a0:Bt):Option ((List Bt)×Bool):=
(if((a0==(⟨#[97,108,108]⟩:Bt))||(a0==(⟨#[110,111,110,101]⟩:Bt)))=true then
 some (([a0]:List Bt),true)
else
 bd (ZQ a0 (⟨#[44]⟩:Bt)) fun x1=>
 bd (lp (σ:=Int) (β:=(Unit⊕Unit)) (fun s2=>
(if(decide (s2<((x1.length:Nat):Int)))=true then
 gd ((0:Int)≤s2∧s2<((x1.length:Nat):Int))<|
 bd (QU ([(⟨#[100,111,111,114]⟩:Bt),(⟨#[104,111,115,116]⟩:Bt),(⟨#[110,97,116]⟩:Bt),(⟨#[112,101,101,114]⟩:Bt),(⟨#[112,111,114,116]⟩:Bt),(⟨#[114,111,117,116,101]⟩:Bt),(⟨#[114,117,108,101]⟩:Bt),(⟨#[117,115,101,114]⟩:Bt)]:List Bt) (x1.getD s2.toNat default)) fun x7=>
 gd ((decide (s2>0))=true→((!x7)=false→((0:Int)≤IntKind.i64.wrap (s2-1)∧IntKind.i64.wrap (s2-1)<((x1.length:Nat):Int))))<|
(if((!x7)||((decide (s2>0))&&(!(bsl (x1.getD ((IntKind.i64.wrap (s2-1)).toNat) default) (x1.getD s2.toNat default)))))=true then
 some (.inr (.inl ()))
else
 some (.inl (IntKind.i64.wrap (s2+1))))
else
 some (.inr (.inr ())))) 0) fun x5=>
(match x5 with
| .inl d9=>
 some ([],false)
| .inr d10=>
 some (x1,true)))
theorem Qkq {a0:Bt} {r:(List Bt)×Bool} (h:Qbw a0=some r):PureC prog 256 [.d (.str a0)] (.tup [.osl 5001 0 r.1.length,dB r.2]) [⟨5001,9,1,r.1.length,rows Qi r.1⟩]:=by
 refine Qj tOk (fn:=f256) (c:=Ql f256) rfl rfl ?_;unfold Qbw at h;(conv=>whnf);refine Qd tOk ?_;(conv=>whnf);refine QC h (fun _ h=>?_) (fun _ h=>?_)
 ·(conv=>whnf);refine J1 (enc:=Qi) ([a0]:List Bt) ?_;(conv=>whnf);obtain rfl:=sj_ h;exact lfP [.s [(14,5001),(5001,14)]]
 ·(conv=>whnf);obtain⟨x1,hx1,h⟩:=Qa h;refine cC 1000 (QcP hx1) ?_;clear hx1;(conv=>whnf);refine Qd tOk ?_;(conv=>whnf);obtain⟨x5,hx5,h⟩:=Qa h;refine QD tOk hx5 (fun s2=>⟨0,43,[(4,.osl 6001 0 x1.length),(17,.osl 6001 0 x1.length),(18,dI ((x1.length:Nat):Int)),(19,dI s2)],[],[(6001,.arr 9 1 x1.length (rows Qi x1))],[]⟩) ?_ ?_
  ·exact leX []
  ·clear hx5;intro s2 y3 g4 hy3;(conv=>whnf);refine Qd tOk ?_;(conv=>whnf);refine QC g4 (fun _ g4=>?_) (fun _ g4=>?_)
   ·(conv=>whnf);refine Qd tOk ?_;(conv=>whnf);refine gdI g4 (fun g4=>?_);(conv=>whnf);refine J1 (enc:=Qi) ([(⟨#[100,111,111,114]⟩:Bt),(⟨#[104,111,115,116]⟩:Bt),(⟨#[110,97,116]⟩:Bt),(⟨#[112,101,101,114]⟩:Bt),(⟨#[112,111,114,116]⟩:Bt),(⟨#[114,111,117,116,101]⟩:Bt),(⟨#[114,117,108,101]⟩:Bt),(⟨#[117,115,101,114]⟩:Bt)]:List Bt) ?_;(conv=>whnf);obtain⟨x7,hx7,g4⟩:=Qa g4;refine cC 0 (QaD hx7) ?_;clear hx7;(conv=>whnf);refine gdI g4 (fun g4=>?_);(conv=>whnf);refine QC g4 (fun _ g4=>?_) (fun _ g4=>?_)
    ·(conv=>whnf);obtain rfl:=sj_ g4;obtain rfl:=hy3 _ rfl;obtain rfl:=sj_ h;exact lfP [.p 5001 9 1 (rows Qi ([]:List Bt))]
    ·(conv=>whnf);obtain rfl:=sj_ g4;exact⟨_,rfl,leX []⟩
   ·(conv=>whnf);obtain rfl:=sj_ g4;obtain rfl:=hy3 _ rfl;obtain rfl:=sj_ h;exact lfP [.s [(5001,6001),(6001,5001)]]
def Qbx (a0:Bt):Option (Bool):=
 bd (Qbw a0) fun x1=>
 some x1.2
theorem Qkr {a0:Bt} {r:Bool} (h:Qbx a0=some r):PureC prog 323 [.d (.str a0)] (dB r) []:=by
 refine Qj tOk (fn:=f323) (c:=Ql f323) rfl rfl ?_;unfold Qbx at h;(conv=>whnf);obtain⟨x1,hx1,h⟩:=Qa h;refine cC 1000 (Qkq hx1) ?_;clear hx1;(conv=>whnf);obtain rfl:=sj_ h;exact lfP []
def JT (a0:Bt):Option (Int):=
 gd (a0.size≤281474976710656)<|
 some (QhQ a0)
namespace Dc
open Go.RowKit
theorem dec_walk (s:Bt) (hs:s.size≤281474976710656) (w:World) (ht:TabB prog (fun b=>b<w.heap.size) w):
  Calls prog 142 #[.string s] w fun e w'=>e=.returned (.int .i64 (QhQ s))∧Below w.heap.size w w':=by
 unfold QhQ
 cases h:Lib.atoiAll s.data.toList with
 |range=>
  obtain⟨_,ev,hv,hev⟩:=ht.2 2 _ (Lay.atoi_ren.g 16) rfl (by kernel_rfl)
  go_enter func142,ntmps142
  go_wp2_with (go_at_call 209;refine(Any.strconv_Atoi_range Lay.atoi s hs h ev w hv hev).mono ?_;rintro e w' ⟨N,rfl,hN,hb,hB⟩)
  go_ret
  exact⟨rfl,hB⟩
 |ok v=>
  have hat:=Any.strconv_Atoi_ok Lay.atoi s (by omega) v h w
  obtain⟨h0,h1⟩:=Qks h
  have hbel:∀ {w':World},(w'=w∨ ∃t,w'=Lib.bytesWorld w (Lay.atoi_ren.t 5) t)→Below w.heap.size w w':=fun {w'} h=>by
   rcases h with rfl|⟨t,rfl⟩
   ·exact Below.refl _ _
   ·exact Lib.bytesWorld_below w _ t
  have hqi:=Qs4 (v:=v) (s:=s)
  by_cases hv:v<0
  ·go_enter func142,ntmps142
   go_wp2_with (go_at_call 209;refine hat.mono ?_;rintro e w' ⟨rfl,hw⟩)
   go_ret
   exact⟨by simp[hv],hbel hw⟩
  ·by_cases hq:QlL v=s
   ·have h2:=hqi.1 hq
    have h3:(!(Lib.itoa v==s.toList))=false:=by simp[h2]
    have h4:decide (v<0)=false:=by simp[hv]
    simp only[hv,hq,ne_eq,not_true,or_self,if_false]
    clear hqi hq
    go_enter func142,ntmps142
    go_wp2_with (first|(go_at_call 209;refine hat.mono ?_;rintro e w' ⟨rfl,hw⟩)|(go_at_call 210;refine(Any.strconv_Itoa Lay.itoa v h0 h1 _ (Qs5 (Qkt (by kernel_rfl) ht (hbel hw)))).mono ?_;rintro e w'' ⟨rfl,k,os,rfl⟩))
    all_goals go_ret
    all_goals exact⟨rfl,Qhd (hbel hw)⟩
   ·have h2:¬Lib.itoa v=s.toList:=fun e=>hq (hqi.2 e)
    have h3:(!(Lib.itoa v==s.toList))=true:=by simp[h2]
    have h4:decide (v<0)=false:=by simp[hv]
    simp only[hv,hq,ne_eq,not_false_iff,or_true,if_true]
    clear hqi hq
    go_enter func142,ntmps142
    go_wp2_with (first|(go_at_call 209;refine hat.mono ?_;rintro e w' ⟨rfl,hw⟩)|(go_at_call 210;refine(Any.strconv_Itoa Lay.itoa v h0 h1 _ (Qs5 (Qkt (by kernel_rfl) ht (hbel hw)))).mono ?_;rintro e w'' ⟨rfl,k,os,rfl⟩))
    all_goals go_ret
    all_goals exact⟨rfl,Qhd (hbel hw)⟩
 |_=>
  obtain⟨_,ev,hv,hev⟩:=ht.2 1 _ (Lay.atoi_ren.g 15) rfl (by kernel_rfl)
  go_enter func142,ntmps142
  go_wp2_with (go_at_call 209;refine(Any.strconv_Atoi_syntax Lay.atoi s hs h ev w hv hev).mono ?_;rintro e w' ⟨N,rfl,hN,hb,hB⟩)
  go_ret
  exact⟨rfl,hB⟩
end Dc
theorem Qdi {a0:Bt} {r:Int} (h:JT a0=some r):PureC prog 142 [.d (.str a0)] (dI r) []:=by
 unfold JT at h
 obtain⟨g,h⟩:=Qh h
 obtain rfl:=sj_ h
 exact Qhe (v:=.int .i64 (QhQ a0)) ⟨f142,rfl,by kernel_rfl,by kernel_rfl⟩ rfl (fun _=>rfl) (fun _ _ _=>.d .int) fun w vals ρ0 hv ht=>by
  rw[Qs6 hv]
  exact(Dc.dec_walk a0 g w ht).mono fun e w' ⟨he,hb⟩=>⟨he,Below.pure hb⟩
def Zs (a0:Bt):Option (Int):=
 bd (Qam a0 (⟨#[46]⟩:Bt)) fun x1=>
 bd (JT x1.1) fun x2=>
 bd (JT x1.2.1) fun x3=>
 bd (Qt ((!x1.2.2)=false) (Qw x2 0 255)) fun x4=>
 bd (Qt (((!x1.2.2)||(!x4))=false) (Qw x3 0 255)) fun x5=>
(if(((!x1.2.2)||(!x4))||(!x5))=true then
 some (-1)
else
 some (IntKind.i64.wrap ((IntKind.i64.wrap (256*x2))+x3)))
theorem Jq {a0:Bt} {r:Int} (h:Zs a0=some r):PureC prog 67 [.d (.str a0)] (dI r) []:=by
 refine Qj tOk (fn:=f67) (c:=Ql f67) rfl rfl ?_;unfold Zs at h;(conv=>whnf);obtain⟨x1,hx1,h⟩:=Qa h;refine cC 0 (Qfi hx1) ?_;clear hx1;(conv=>whnf);obtain⟨x2,hx2,h⟩:=Qa h;refine cC 0 (Qdi hx2) ?_;clear hx2;(conv=>whnf);obtain⟨x3,hx3,h⟩:=Qa h;refine cC 0 (Qdi hx3) ?_;clear hx3;(conv=>whnf);refine Qd tOk ?_;(conv=>whnf);obtain⟨x4,hx4,h⟩:=Qa h;refine cG (fun c0=>QN (Qg hx4 c0)) ?_;(conv=>whnf);obtain⟨x5,hx5,h⟩:=Qa h;refine cG (fun c0=>QN (Qg hx5 c0)) ?_;(conv=>whnf);refine QC h (fun _ h=>?_) (fun _ h=>?_)
 ·(conv=>whnf);obtain rfl:=sj_ h;exact lfP []
 ·(conv=>whnf);obtain rfl:=sj_ h;exact lfP []
def Zd (a0:QzU):Option (Int):=
 gd ((0:Int)≤(IntKind.i64.wrap (16-a0.Len)))<|
 some (IntKind.i64.wrap (1*2^min (IntKind.i64.wrap (16-a0.Len):Int).toNat IntKind.i64.bits))
theorem Qdt {a0:QzU} {r:Int} (h:Zd a0=some r):PureC prog 153 [.agg [dI a0.Addr,dI a0.Len]] (dI r) []:=by
 refine Qj tOk (fn:=f153) (c:=Ql f153) rfl rfl ?_;unfold Zd at h;(conv=>whnf);refine gdI h (fun h=>?_);(conv=>whnf);obtain rfl:=sj_ h;exact lfP []
def JU (a0:QzU):Option (Bool):=
 bd (Qw a0.Len 0 16) fun x1=>
 bd (Qt (x1=true) (Qw a0.Addr 0 65535)) fun x2=>
 bd (Qt ((x1&&x2)=true) (Zd a0)) fun x3=>
 gd ((x1&&x2)=true→((x3:Int)≠0))<|
 some ((x1&&x2)&&(((a0.Addr:Int).tmod x3)==0))
theorem Qdu {a0:QzU} {r:Bool} (h:JU a0=some r):PureC prog 77 [.agg [dI a0.Addr,dI a0.Len]] (dB r) []:=by
 refine Qj tOk (fn:=f77) (c:=Ql f77) rfl rfl ?_;unfold JU at h;(conv=>whnf);obtain⟨x1,hx1,h⟩:=Qa h;obtain⟨x2,hx2,h⟩:=Qa h;obtain⟨x3,hx3,h⟩:=Qa h;obtain⟨g4,h⟩:=Qh h;refine Zq tOk [.u 2 0 (dB x1) [],.u 6 0 (dB x2) [],.u 12 0 (dI x3) []] 17 [] [0,1,3,7,15,31,63,127,255,511,1023,511,2559,8191,16383,32767,65535] [] ?_;(conv=>whnf);refine And.intro (Qo (QN hx1) (by kernel_rfl)) ?_;(conv=>whnf);refine And.intro (QV rfl rfl rfl rfl (by intro c0;exact QN (Qg hx2 c0))) ?_;(conv=>whnf);refine And.intro (QV rfl rfl rfl rfl (by intro c0;exact Qdt (Qg hx3 c0))) ?_;(conv=>whnf);refine And.intro g4 ?_;clear g4;(conv=>whnf);refine And.intro (by kernel_rfl) ?_;(conv=>whnf);obtain rfl:=sj_ h;exact lfP []
def Z7 (a0:Bt):Option (QzU×Bool):=
 bd (Qam a0 (⟨#[47]⟩:Bt)) fun x1=>
 bd (Zs x1.1) fun x2=>
 bd (JT x1.2.1) fun x3=>
 bd (Qt ((!x1.2.2)=false) (JU (⟨x2,x3⟩:QzU))) fun x4=>
(if((!x1.2.2)||(!x4))=true then
 some ((⟨0,0⟩:QzU),false)
else
 some ((⟨x2,x3⟩:QzU),true))
theorem QcR {a0:Bt} {r:QzU×Bool} (h:Z7 a0=some r):PureC prog 134 [.d (.str a0)] (.tup [.agg [dI r.1.Addr,dI r.1.Len],dB r.2]) []:=by
 refine Qj tOk (fn:=f134) (c:=Ql f134) rfl rfl ?_;unfold Z7 at h;(conv=>whnf);obtain⟨x1,hx1,h⟩:=Qa h;refine cC 0 (Qfi hx1) ?_;clear hx1;(conv=>whnf);obtain⟨x2,hx2,h⟩:=Qa h;refine cC 0 (Jq hx2) ?_;clear hx2;(conv=>whnf);obtain⟨x3,hx3,h⟩:=Qa h;refine cC 0 (Qdi hx3) ?_;clear hx3;(conv=>whnf);refine Qd tOk ?_;(conv=>whnf);obtain⟨x4,hx4,h⟩:=Qa h;refine cG (fun c0=>Qdu (Qg hx4 c0)) ?_;(conv=>whnf);refine QC h (fun _ h=>?_) (fun _ h=>?_)
 ·(conv=>whnf);obtain rfl:=sj_ h;exact lfP []
 ·(conv=>whnf);obtain rfl:=sj_ h;exact lfP []
def Qby (a0:Bt):Option (Bool):=
 bd (Z7 a0) fun x1=>
 some x1.2
theorem Qku {a0:Bt} {r:Bool} (h:Qby a0=some r):PureC prog 324 [.d (.str a0)] (dB r) []:=by
 refine Qj tOk (fn:=f324) (c:=Ql f324) rfl rfl ?_;unfold Qby at h;(conv=>whnf);obtain⟨x1,hx1,h⟩:=Qa h;refine cC 0 (QcR hx1) ?_;clear hx1;(conv=>whnf);obtain rfl:=sj_ h;exact lfP []
def Qa0 (a0:Bt):Option (Bool):=
 bd (Zs a0) fun x1=>
 some (decide (x1≥0))
theorem QjE {a0:Bt} {r:Bool} (h:Qa0 a0=some r):PureC prog 326 [.d (.str a0)] (dB r) []:=by
 refine Qj tOk (fn:=f326) (c:=Ql f326) rfl rfl ?_;unfold Qa0 at h;(conv=>whnf);obtain⟨x1,hx1,h⟩:=Qa h;refine cC 0 (Jq hx1) ?_;clear hx1;(conv=>whnf);obtain rfl:=sj_ h;exact lfP []
def Q5 (a0:Bt):Option (Int):=
(if(decide (((a0.size:Nat):Int)>6))=true then
 some (-1)
else
 bd (JT a0) fun x1=>
 some x1)
theorem ZL {a0:Bt} {r:Int} (h:Q5 a0=some r):PureC prog 65 [.d (.str a0)] (dI r) []:=by
 refine Qj tOk (fn:=f65) (c:=Ql f65) rfl rfl ?_;unfold Q5 at h;(conv=>whnf);refine Qd tOk ?_;(conv=>whnf);refine QC h (fun _ h=>?_) (fun _ h=>?_)
 ·(conv=>whnf);obtain rfl:=sj_ h;exact lfP []
 ·(conv=>whnf);obtain⟨x1,hx1,h⟩:=Qa h;refine cC 0 (Qdi hx1) ?_;clear hx1;(conv=>whnf);obtain rfl:=sj_ h;exact lfP []
def Qa1 (a0:Bt) (a1:Int) (a2:Int):Option (Bool):=
 bd (Q5 a0) fun x1=>
 bd (Qw x1 a1 a2) fun x2=>
 some x2
theorem QjF {a0:Bt} {a1:Int} {a2:Int} {r:Bool} (h:Qa1 a0 a1 a2=some r):PureC prog 359 [.d (.str a0),.rp [.int .i64 a1],.rp [.int .i64 a2]] (dB r) []:=by
 refine Qj tOk (fn:=f359) (c:=Ql f359) rfl rfl ?_;unfold Qa1 at h;(conv=>whnf);obtain⟨x1,hx1,h⟩:=Qa h;obtain⟨x2,hx2,h⟩:=Qa h;refine Zq tOk [.u 1 0 (dI x1) [],.u 4 0 (dB x2) []] 6 [] [0,1,0,0,15,31] [] ?_;(conv=>whnf);refine And.intro (Qo (ZL hx1) (by kernel_rfl)) ?_;(conv=>whnf);refine And.intro (Qo (QN hx2) (by kernel_rfl)) ?_;(conv=>whnf);refine And.intro (by kernel_rfl) ?_;(conv=>whnf);obtain rfl:=sj_ h;exact lfP []
def Qbz (a0:Bt) (a1:(List Bt)):Option (Bool):=
 bd (QU a1 a0) fun x1=>
 some x1
theorem Qkv {a0:Bt} {a1:(List Bt)} {r:Bool} (h:Qbz a0 a1=some r):PureC prog 360 [.d (.str a0),.rp [slD Qi a1]] (dB r) []:=by
 refine Qj tOk (fn:=f360) (c:=Ql f360) rfl rfl ?_;unfold Qbz at h;(conv=>whnf);obtain⟨x1,hx1,h⟩:=Qa h;refine cC 0 (QaD hx1) ?_;clear hx1;(conv=>whnf);obtain rfl:=sj_ h;exact lfP []
def Qhf (c:Fnv) (x:Bt):Option Bool:=match c with
 | .k f=>if f=174 then QcQ x else if f=323 then Qbx x else if f=324 then Qby x else if f=326 then Qa0 x else none
 | .r f lo hi=>if f=359 then Qa1 x lo hi else none
 | .w f ws=>if f=360 then Qbz x ws else none
theorem Qw2 {c:Fnv} {x:Bt} {r:Bool} (h:Qhf c x=some r):PureC prog c.f ([.d (.str x)]++c.caps.map .rp) (.d (.bool r)) []:=by
 cases c with
 |k f=>
  simp only[Qhf] at h;split at h
  ·rename_i e;subst e;exact Qnf h
  split at h
  ·rename_i e;subst e;exact Qkr h
  split at h
  ·rename_i e;subst e;exact Qku h
  split at h
  ·rename_i e;subst e;exact QjE h
  cases h
 |r f lo hi=>
  simp only[Qhf] at h;split at h
  ·rename_i e;subst e;exact QjF h
  cases h
 |w f ws=>
  simp only[Qhf] at h;split at h
  ·rename_i e;subst e;exact Qkv h
  cases h
def Qa2 (a0:form) (a1:(List Bt)):Option (Bool):=
(if(((a1.length:Nat):Int) !=(IntKind.i64.wrap (((a0.checks.length:Nat):Int)+1)))=true then
 some false
else
 bd (lp (σ:=Int) (β:=(Unit⊕Unit)) (fun s1=>
(if(decide (s1<((a0.checks.length:Nat):Int)))=true then
 gd ((0:Int)≤s1∧s1<((a0.checks.length:Nat):Int))<|
 gd ((0:Int)≤IntKind.i64.wrap (s1+1)∧IntKind.i64.wrap (s1+1)<((a1.length:Nat):Int))<|
 bd (Qhf (a0.checks.getD s1.toNat default) (a1.getD ((IntKind.i64.wrap (s1+1)).toNat) default)) fun x7=>
(if(!x7)=true then
 some (.inr (.inl ()))
else
 some (.inl (IntKind.i64.wrap (s1+1))))
else
 some (.inr (.inr ())))) 0) fun x4=>
(match x4 with
| .inl d8=>
 some false
| .inr d9=>
 some true))
theorem QjG {a0:form} {a1:(List Bt)} {r:Bool} (h:Qa2 a0 a1=some r):PureC prog 267 [.agg [.d (.str a0.word),dI a0.key,.d (slD QbV a0.checks)],.d (slD Qi a1)] (dB r) []:=by
 refine Qj tOk (fn:=f267) (c:=Ql f267) rfl rfl ?_;unfold Qa2 at h;(conv=>whnf);refine Qd tOk ?_;(conv=>whnf);refine QC h (fun _ h=>?_) (fun _ h=>?_)
 ·(conv=>whnf);obtain rfl:=sj_ h;exact lfP []
 ·(conv=>whnf);refine Qd tOk ?_;(conv=>whnf);obtain⟨x4,hx4,h⟩:=Qa h;refine QD tOk hx4 (fun s1=>⟨0,31,[(1,.d (slD Qi a1)),(15,.d (slD QbV a0.checks)),(16,dI ((a0.checks.length:Nat):Int)),(17,dI s1)],[],[],[]⟩) ?_ ?_
  ·exact leX []
  ·clear hx4;intro s1 y2 g3 hy2;(conv=>whnf);refine Qd tOk ?_;(conv=>whnf);refine QC g3 (fun _ g3=>?_) (fun _ g3=>?_)
   ·(conv=>whnf);refine Qd tOk ?_;(conv=>whnf);refine gdI g3 (fun g3=>?_);(conv=>whnf);refine gdI g3 (fun g3=>?_);(conv=>whnf);obtain⟨x7,hx7,g3⟩:=Qa g3;refine cDy (Qw2 hx7) ?_;(conv=>whnf);refine QC g3 (fun _ g3=>?_) (fun _ g3=>?_)
    ·(conv=>whnf);obtain rfl:=sj_ g3;obtain rfl:=hy2 _ rfl;obtain rfl:=sj_ h;exact lfP []
    ·(conv=>whnf);obtain rfl:=sj_ g3;exact⟨_,rfl,leX []⟩
   ·(conv=>whnf);obtain rfl:=sj_ g3;obtain rfl:=hy2 _ rfl;obtain rfl:=sj_ h;exact lfP []
def QbX (a0:(List Bt)):Option (form×Bool):=
(if(((a0.length:Nat):Int)==0)=true then
 some ((⟨ByteArray.empty,0,[]⟩:form),false)
else
 gd ((0:Int)≤0∧0<((a0.length:Nat):Int))<|
 bd (Qcj (a0.getD 0 default)) fun x2=>
 bd (lp (σ:=Int) (β:=((Bt×Int×(List Fnv))⊕Unit)) (fun s3=>
(if(decide (s3<((x2.length:Nat):Int)))=true then
 gd ((0:Int)≤s3∧s3<((x2.length:Nat):Int))<|
 bd (Qa2 (x2.getD s3.toNat default) a0) fun x8=>
(if x8=true then
 some (.inr (.inl ((x2.getD s3.toNat default).word,(x2.getD s3.toNat default).key,(x2.getD s3.toNat default).checks)))
else
 some (.inl (IntKind.i64.wrap (s3+1))))
else
 some (.inr (.inr ())))) 0) fun x6=>
(match x6 with
| .inl d9=>
 some ((⟨d9.1,d9.2.1,d9.2.2⟩:form),true)
| .inr d10=>
 some ((⟨ByteArray.empty,0,[]⟩:form),false)))
theorem QhV {a0:(List Bt)} {r:form×Bool} (h:QbX a0=some r):EffC prog 194 [.d (slD Qi a0)] [] (.tup [.agg [.d (.str r.1.word),dI r.1.key,.d (slD QbV r.1.checks)],dB r.2]) []:=by
 refine QaR tOk (fn:=f194) (c:=Ql f194) rfl rfl ?_;unfold QbX at h;(conv=>whnf);refine Qd tOk ?_;(conv=>whnf);refine QC h (fun _ h=>?_) (fun _ h=>?_)
 ·(conv=>whnf);obtain rfl:=sj_ h;exact lfE []
 ·(conv=>whnf);refine Qd tOk ?_;(conv=>whnf);refine gdI h (fun h=>?_);(conv=>whnf);obtain⟨x2,hx2,h⟩:=Qa h;refine cE [] 1000 (QlK hx2) ?_;(conv=>whnf);obtain⟨x6,hx6,h⟩:=Qa h;refine QD tOk hx6 (fun s3=>⟨0,25,[(0,.d (slD Qi a0)),(2,.ref 2 0 0),(13,.osl 6001 0 x2.length),(14,dI ((x2.length:Nat):Int)),(15,dI s3)],[],[(6001,.arr 210 3 x2.length (rows form.enc x2)),(2,.box 210 [.d (.str ByteArray.empty),dI 0,.d (.nil)])],[⟨[],[]⟩]⟩) ?_ ?_
  ·exact leX []
  ·clear hx6;intro s3 y4 g5 hy4;(conv=>whnf);refine Qd tOk ?_;(conv=>whnf);refine QC g5 (fun _ g5=>?_) (fun _ g5=>?_)
   ·(conv=>whnf);refine Qd tOk ?_;(conv=>whnf);refine gdI g5 (fun g5=>?_);(conv=>whnf);obtain⟨x8,hx8,g5⟩:=Qa g5;refine cC 0 (QjG hx8) ?_;clear hx8;(conv=>whnf);refine QC g5 (fun _ g5=>?_) (fun _ g5=>?_)
    ·(conv=>whnf);obtain rfl:=sj_ g5;obtain rfl:=hy4 _ rfl;obtain rfl:=sj_ h;exact lfE []
    ·(conv=>whnf);obtain rfl:=sj_ g5;exact⟨_,rfl,leX []⟩
   ·(conv=>whnf);obtain rfl:=sj_ g5;obtain rfl:=hy4 _ rfl;obtain rfl:=sj_ h;exact lfE []
def Qbj (a0:(List Bt)) (a1:Bt):Option (Bt):=
 gd (a0.length≤140737488355328∧(QjH a0 a1).size≤140737488355328)<|
 some (QjH a0 a1)
theorem QgW {a0:(List Bt)} {a1:Bt} {r:Bt} (h:Qbj a0 a1=some r):PureC prog 195 [.d (slD Qi a0),.d (.str a1)] (.d (.str r)) []:=by
 unfold Qbj at h;obtain⟨⟨g0,g1⟩,h⟩:=Qh h;obtain rfl:=sj_ h;exact QrQ ⟨f195,rfl,by kernel_rfl,by kernel_rfl⟩ (fun bk o c xs sep w h1 h2 h3 h4 h5=>Any.strings_Join Lay.joi Lay.joiX bk o c xs sep w h1 h2 h3 h4 h5) (fun a c sep w=>Any.strings_Join_none Lay.joi Lay.joiX a c sep w) g0 g1
def QbA (a0:Bt):Option (Bt×Bool):=
 bd (QaZ a0) fun x1=>
(if(!x1.2)=true then
 some ((⟨#[]⟩:Bt),false)
else
 bd (QbX x1.1) fun x2=>
(if(!x2.2)=true then
 some ((⟨#[]⟩:Bt),false)
else
 bd (Qbj x1.1 (⟨#[32]⟩:Bt)) fun x3=>
 some (x3,true)))
theorem Qkw {a0:Bt} {r:Bt×Bool} (h:QbA a0=some r):PureC prog 183 [.d (.str a0)] (.tup [.d (.str r.1),dB r.2]) []:=by
 refine Qj tOk (fn:=f183) (c:=Ql f183) rfl rfl ?_;unfold QbA at h;(conv=>whnf);obtain⟨x1,hx1,h⟩:=Qa h;refine cC 1000 (QjD hx1) ?_;clear hx1;(conv=>whnf);refine Qd tOk ?_;(conv=>whnf);refine QC h (fun _ h=>?_) (fun _ h=>?_)
 ·(conv=>whnf);obtain rfl:=sj_ h;exact lfP []
 ·(conv=>whnf);refine Qd tOk ?_;(conv=>whnf);obtain⟨x2,hx2,h⟩:=Qa h;refine Zy [6001] ?_;(conv=>whnf);refine cE [] 0 (QhV hx2) ?_;(conv=>whnf);refine QC h (fun _ h=>?_) (fun _ h=>?_)
  ·(conv=>whnf);obtain rfl:=sj_ h;exact lfP []
  ·(conv=>whnf);obtain⟨x3,hx3,h⟩:=Qa h;refine cC 0 (QgW hx3) ?_;clear hx3;(conv=>whnf);obtain rfl:=sj_ h;exact lfP []
def QbY (a0:Bt):Option (Bool):=
 bd (QbA a0) fun x1=>
 some (x1.2&&(x1.1==a0))
theorem QhW {a0:Bt} {r:Bool} (h:QbY a0=some r):PureC prog 121 [.d (.str a0)] (dB r) []:=by
 refine Qj tOk (fn:=f121) (c:=Ql f121) rfl rfl ?_;unfold QbY at h;(conv=>whnf);obtain⟨x1,hx1,h⟩:=Qa h;refine cC 0 (Qkw hx1) ?_;clear hx1;(conv=>whnf);obtain rfl:=sj_ h;exact lfP []
def ZW (a0:Bt):Option (Bool):=
 bd (QbY a0) fun x1=>
 some (!x1)
theorem QiA {a0:Bt} {r:Bool} (h:ZW a0=some r):PureC prog 120 [.d (.str a0)] (dB r) []:=by
 refine Qj tOk (fn:=f120) (c:=Ql f120) rfl rfl ?_;unfold ZW at h;(conv=>whnf);obtain⟨x1,hx1,h⟩:=Qa h;refine cC 0 (QhW hx1) ?_;clear hx1;(conv=>whnf);obtain rfl:=sj_ h;exact lfP []
def Ze (a0:(List Bt)):Option (Int):=
 bd (lp (σ:=Int) (β:=(Int⊕Unit)) (fun s1=>
(if(decide (s1<((a0.length:Nat):Int)))=true then
 gd ((0:Int)≤s1∧s1<((a0.length:Nat):Int))<|
 bd (ZW (a0.getD s1.toNat default)) fun x6=>
(if x6=true then
 some (.inr (.inl s1))
else
 some (.inl (IntKind.i64.wrap (s1+1))))
else
 some (.inr (.inr ())))) 0) fun x4=>
(match x4 with
| .inl d7=>
 some d7
| .inr d8=>
 some (-1))
theorem Qao {a0:(List Bt)} {r:Int} (h:Ze a0=some r):PureC prog 192 [.d (slD Qi a0),.fn 120 []] (dI r) []:=by
 refine Qj tOk (fn:=f192) (c:=Ql f192) rfl rfl ?_;unfold Ze at h;(conv=>whnf);refine Qd tOk ?_;(conv=>whnf);obtain⟨x4,hx4,h⟩:=Qa h;refine QD tOk hx4 (fun s1=>⟨0,19,[(0,.d (slD Qi a0)),(1,.fn 120 []),(7,dI ((a0.length:Nat):Int)),(8,dI s1)],[],[],[]⟩) ?_ ?_
 ·exact leX []
 ·clear hx4;intro s1 y2 g3 hy2;(conv=>whnf);refine Qd tOk ?_;(conv=>whnf);refine QC g3 (fun _ g3=>?_) (fun _ g3=>?_)
  ·(conv=>whnf);refine Qd tOk ?_;(conv=>whnf);refine gdI g3 (fun g3=>?_);(conv=>whnf);obtain⟨x6,hx6,g3⟩:=Qa g3;refine cC 0 (QiA hx6) ?_;clear hx6;(conv=>whnf);refine QC g3 (fun _ g3=>?_) (fun _ g3=>?_)
   ·(conv=>whnf);obtain rfl:=sj_ g3;obtain rfl:=hy2 _ rfl;obtain rfl:=sj_ h;exact lfP []
   ·(conv=>whnf);obtain rfl:=sj_ g3;exact⟨_,rfl,leX []⟩
  ·(conv=>whnf);obtain rfl:=sj_ g3;obtain rfl:=hy2 _ rfl;obtain rfl:=sj_ h;exact lfP []
def Qu (a0:(List Bt)):Option (Bool):=
 bd (Ze a0) fun x1=>
 some (decide (x1≥0))
theorem J3 {a0:(List Bt)} {r:Bool} (h:Qu a0=some r):PureC prog 119 [.d (slD Qi a0),.fn 120 []] (dB r) []:=by
 refine Qj tOk (fn:=f119) (c:=Ql f119) rfl rfl ?_;unfold Qu at h;(conv=>whnf);obtain⟨x1,hx1,h⟩:=Qa h;refine cC 0 (Qao hx1) ?_;clear hx1;(conv=>whnf);obtain rfl:=sj_ h;exact lfP []
def Qaw (a0:Bt):Option (Bt):=
 bd (QbY a0) fun x1=>
(if(!x1)=true then
 some (⟨#[]⟩:Bt)
else
 bd (ZQ a0 (⟨#[32]⟩:Bt)) fun x2=>
 bd (QbX x2) fun x3=>
 gd ((0:Int)≤(0:Int)∧(0:Int)≤x3.1.key∧x3.1.key≤((x2.length:Nat):Int))<|
 bd (Qbj (x2.take x3.1.key.toNat) (⟨#[32]⟩:Bt)) fun x5=>
 some x5)
theorem QlM {a0:Bt} {r:Bt} (h:Qaw a0=some r):PureC prog 122 [.d (.str a0)] (.d (.str r)) []:=by
 refine Qj tOk (fn:=f122) (c:=Ql f122) rfl rfl ?_;unfold Qaw at h;(conv=>whnf);refine Qd tOk ?_;(conv=>whnf);obtain⟨x1,hx1,h⟩:=Qa h;refine cC 0 (QhW hx1) ?_;clear hx1;(conv=>whnf);refine QC h (fun _ h=>?_) (fun _ h=>?_)
 ·(conv=>whnf);obtain rfl:=sj_ h;exact lfP []
 ·(conv=>whnf);obtain⟨x2,hx2,h⟩:=Qa h;refine cC 1000 (QcP hx2) ?_;clear hx2;(conv=>whnf);obtain⟨x3,hx3,h⟩:=Qa h;refine Zy [6001] ?_;(conv=>whnf);refine cE [] 0 (QhV hx3) ?_;(conv=>whnf);obtain⟨g4,h⟩:=Qh h;refine And.intro ⟨g4,.inr rfl⟩ ?_;(conv=>whnf);obtain⟨x5,hx5,h⟩:=Qa h;refine Qyn 0 (QgW hx5) rfl QuU rfl ?_;(conv=>whnf);obtain rfl:=sj_ h;exact lfP []
def Qow:List Bt→Option (List Bt)
 |[]=>some []
 |x::r=>bd (Qaw x) fun k=>gd (k.size≤1000000)<|bd (Qow r) fun ks=>some (k::ks)
def QrR (ks:List Bt):Nat:=(List.range ks.length).countP fun i=>!((ks.take i).any (· ==ks.getD i default))
def J4 (a0:(List Bt)):Option (Int):=
 if a0.length>16 then some 1 else
 bd (Qu a0) fun b=>
 if b=true then some 2 else
 if J5 a0.length (fun i=>decide (i<1)||bsl (a0.getD (i-1) default) (a0.getD i default))=false then some 3 else
 bd (Qow a0) fun ks=>if QrR ks<a0.length then some 4 else some 0
namespace Nc
open Go.RowKit Go.Maps
theorem QuW {ks:List Bt} {k:Nat} (h:k<ks.length):QrR (ks.take (k+1))=if(ks.take k).any (· ==ks.getD k default)=true then QrR (ks.take k) else QrR (ks.take k)+1:=by
 unfold QrR
 rw[List.length_take,List.length_take,Nat.min_eq_left (by omega),Nat.min_eq_left (by omega),List.range_succ,List.countP_append]
 have e:∀i,i<k→(!((ks.take (k+1)).take i).any (· ==(ks.take (k+1)).getD i default))=!((ks.take k).take i).any (· ==(ks.take k).getD i default):=fun i hi=>by
  rw[List.take_take,List.take_take,Nat.min_eq_left (by omega),Nat.min_eq_left (by omega)]
  simp[List.getD_eq_getElem?_getD,List.getElem?_take,hi,show i<k+1 by omega]
 have e1:(List.range k).countP (fun i=>!((ks.take (k+1)).take i).any (· ==(ks.take (k+1)).getD i default))=(List.range k).countP fun i=>!((ks.take k).take i).any (· ==(ks.take k).getD i default):=by
  apply List.countP_congr
  intro i hi
  rw[e i (List.mem_range.1 hi)]
 rw[e1,List.countP_cons,List.countP_nil,List.take_take,Nat.min_eq_left (by omega)]
 have e2:(ks.take (k+1)).getD k default=ks.getD k default:=by simp[List.getD_eq_getElem?_getD,List.getElem?_take]
 rw[e2]
 cases (ks.take k).any (· ==ks.getD k default)<;>simp
theorem QuX {ks:List Bt} {k:Nat} (h:k<ks.length) (s:Bt):(ks.take (k+1)).any (· ==s)=((ks.take k).any (· ==s)||ks.getD k default==s):=by
 have e:ks[k]? =some (ks.getD k default):=by simp[List.getD_eq_getElem?_getD,h]
 rw[List.take_succ,e,List.any_append]
 simp
def kl (s:Bt):Lit:=.string s.data.toList
theorem Qyo {s t:Bt} (h:kl s=kl t):s=t:=by
 unfold kl at h
 injection h with h
 cases s;cases t
 simp at h
 exact congrArg _ h
theorem bq {s t:Bt}:(s==t)=true↔s=t:=by
 constructor
 ·intro h
  have h1:(s.data==t.data)=true:=h
  have h2:s.data=t.data:=by simpa using h1
  cases s;cases t;simp_all
 ·intro h;subst h
  show(s.data==s.data)=true
  simp
theorem Qox {w w':World} (h:Below w.heap.size w w'):w.grownBy w' none:=⟨h.os,h.tape,h.output,h.size,fun i hi _=>h.block i hi⟩
theorem Qyp:Keyed prog 9:=string_keyed underlying9
theorem Qw3 {P:Program} {t:TypeId} {a b:Bt} {w:World}:(binOp .geq t (.string a) (.string b)).run P w=.ok (.bool (!(bsl a b))) w:=by
 simp[binOp,Op.stringOp,bsl,beq_toListBytes]
theorem Qyq (w:World) (b:Nat) (o c n:Nat) (hn:0<n) (hn2:n≤16) (xs ks:List Bt) (hx:xs.length=n) (hks:ks.length=n) (hsz:∀k∈ks,k.size≤1000000) (hb:b<w.heap.size) (V:Int)
  (hc:∀i,i<n→w.cell? ⟨b,o+i,none⟩=some (.string (xs.getD i default)))
  (h3:J5 n (fun i=>decide (i<1)||bsl (xs.getD (i-1) default) (xs.getD i default))=false→V=3)
  (h4:J5 n (fun i=>decide (i<1)||bsl (xs.getD (i-1) default) (xs.getD i default))=true→V=if QrR ks<n then 4 else 0)
  (hkey:J5 n (fun i=>decide (i<1)||bsl (xs.getD (i-1) default) (xs.getD i default))=true→∀w',Below w.heap.size w w'→∀i,i<n→Calls prog 122 #[.string (xs.getD i default)] w' fun e w''=>e=.returned (.string (ks.getD i default))∧Below w'.heap.size w' w'')
  (h119:Calls prog 119 #[.slice (some ⟨b,o,none⟩) n c,.func (.func 120) #[] #[]] w fun e w'=>e=.returned (.bool false)∧Below w.heap.size w w'):
  Calls prog 49 #[.slice (some ⟨b,o,none⟩) n c] w fun e w'=>e=.returned (.int .i64 V)∧Below w.heap.size w w':=by
 have hmm:=@run_makeMap prog
 go_enter func49,ntmps49
 go_wp2_with (go_at_call 119;refine h119.mono ?_;rintro e w1 ⟨rfl,hB1⟩)
 have hc1:∀i,i<n→w1.cell? ⟨b,o+i,none⟩=some (.string (xs.getD i default)):=fun i hi=>(World.cell?_of_block (hB1.block b hb)).trans (hc i hi)
 go_loopw [3] (fun i wr=>∃(k q:Nat),1≤k∧k≤n∧i=.int .i64 k∧wr=w1.drewN q∧∀j,j<k→(decide (j<1)||bsl (xs.getD (j-1) default) (xs.getD j default))=true)
  (fun i _=>n-(intOf i).toNat)
 case atStart=>
  exact⟨1,0,Nat.le_refl _,hn,rfl,rfl,fun j hj=>by simp[hj]⟩
 case round=>
  obtain⟨k,q,hk1,hkn,rfl,rfl,hs⟩:=hrel
  have g1:k<n→(w1.drewN q).cell? ⟨b,o+(k-1),none⟩=some (.string (xs.getD (k-1) default)):=fun h=>hc1 _ (by omega)
  have g2:k<n→(w1.drewN q).cell? ⟨b,o+k,none⟩=some (.string (xs.getD k default)):=fun h=>hc1 _ h
  go_wp2
  ·have hlt:k<n:=by assumption
   have e1:IntKind.i64.wrap ((k:Int) -1)=((k-1:Nat):Int):=Qdv hlt (by omega) (by omega)
   have e2:((k-1:Nat):Int).toNat=k-1:=Int.toNat_natCast _
   have e3:((k:Nat):Int).toNat=k:=Int.toNat_natCast _
   have hk1':k-1<n:=by omega
   have g1:=g1 hlt
   have g2:=g2 hlt
   refine wp_region_quiet_lit (by kernel_rfl) (by kernel_rfl) ?_
   repeat (any_goals (first|go_big_quiet_step (fail)|quiet_step (fail)))
   refine wpQuiet_step (fun K hK=>?_)
   go_simp
   refine⟨.bool (!(bsl xs[k-1] xs[k])),fun a=>?_,hK _ ?_⟩
   ·rw[Qw3]
    exact⟨rfl,rfl⟩
   refine wpQuiet_nil ?_
   intro _ hw'
   obtain⟨nq,hw''⟩:=hw'
   subst hw''
   have hb1:xs[k-1]=xs.getD (k-1) default:=by rw[List.getD_eq_getElem?_getD,List.getElem?_eq_getElem (by omega)];rfl
   have hb2:xs[k]=xs.getD k default:=by rw[List.getD_eq_getElem?_getD,List.getElem?_eq_getElem (by omega)];rfl
   rw[hb1,hb2]
   clear hb1 hb2 e1 e2 e3 hK K
   have hBd:Below w.heap.size w ((w1.drewN q).drewN nq):=⟨hB1.os,hB1.tape,hB1.output,hB1.size,hB1.block⟩
   by_cases hl:bsl (xs.getD (k-1) default) (xs.getD k default)=true
   ·rw[hl]
    go_wp2
    go_roundw
    case rel=>
     refine⟨k+1,q+nq,by omega,by omega,by go_num,by simp[World.drewN,Nat.add_assoc],fun j hj=>?_⟩
     rcases Nat.lt_or_ge j k with h|h
     ·exact hs j h
     ·have:j=k:=by omega
      subst this
      rw[hl,Bool.or_true]
    case measure=>simp[intOf];omega
   ·rw[Bool.eq_false_iff.2 hl]
    go_wp2
    go_ret
    refine⟨?_,hBd⟩
    rw[h3 (QiB (i:=k) hlt (by rw[Bool.eq_false_iff.2 hl];simp;omega))]
    rfl
  ·have hkn':k=n:=by omega
   subst hkn'
   have hkk:decide (k<k)=false:=by simp
   rw[hkk]
   have hall:J5 k (fun i=>decide (i<1)||bsl (xs.getD (i-1) default) (xs.getD i default))=true:=Qax hs
   have hkey:=hkey hall
   clear h3 hs g1 g2 hc1
   have hown:=World.ownsMap_made (H:=Unit) (w1.drewN q) prog 9 (plainElem prog 4)
   have hB2:Below w.heap.size w ((w1.drewN q).alloc (Obj.map #[] 0)):=Below.alloc (w:=w1.drewN q) ⟨hB1.os,hB1.tape,hB1.output,hB1.size,hB1.block⟩ hB1.size _
   have hsz1:(w1.drewN q).heap.size=w1.heap.size:=rfl
   rw[hsz1] at hown
   have hbs:w.heap.size≤w1.heap.size:=hB1.size
   generalize (w1.drewN q).alloc (Obj.map #[] 0)=w2 at hown hB2⊢
   generalize w1.heap.size=mb at hown hbs⊢
   go_loopw [31] (fun i wr=>∃(j:Nat) (D:DataW Unit),j≤k∧i=.int .i64 j∧wr.ownsMap prog 9 (plainElem prog 4) mb j D∧Maps.size D=QrR (ks.take j)∧(∀s,Maps.has D (kl s)=(ks.take j).any (· ==s))∧Below w.heap.size w wr)
    (fun i _=>k-(intOf i).toNat)
   case atStart=>
    exact⟨0,.map [],Nat.zero_le _,rfl,hown,rfl,fun s=>rfl,hB2⟩
   case round=>
    obtain⟨j,D,hjk,rfl,hown,hsize,hhas,hB⟩:=hrel
    have g1:j<k→wr.cell? ⟨b,o+j,none⟩=some (.string (xs.getD j default)):=fun h=>(World.cell?_of_block (hB.block b hb)).trans (hc j h)
    have hlen:(Builtin.len_ #[149] 3 #[.map (some mb)]).run prog wr=.ok (.int .i64 (Maps.size D)) wr:=hown.len underlying149 3
    have hkj:=fun h=>hkey wr hB j h
    have hsj:j<k→(ks.getD j default).size≤1000000:=fun h=>hsz _ (by rw[List.getD_eq_getElem?_getD,List.getElem?_eq_getElem (by omega)];exact List.getElem_mem (by omega))
    have hcs:j<k→QrR (ks.take (j+1))=if(ks.take j).any (· ==ks.getD j default)=true then QrR (ks.take j) else QrR (ks.take j)+1:=fun h=>QuW (by omega)
    have hsn:j<k→∀s,(ks.take (j+1)).any (· ==s)=((ks.take j).any (· ==s)||ks.getD j default==s):=fun h s=>QuX (by omega) s
    clear hkey
    generalize xs.getD j default=x at g1 hkj
    generalize ks.getD j default=y at hkj hsj hcs hsn
    go_wp2_with (first
     |(go_at_call 122;have hlt:j<k:=by assumption
       refine(hkj hlt).mono ?_;rintro e w3 ⟨rfl,hB3⟩)
     |(at_mapUpdate;have hlt:j<k:=by assumption
       have hys:=hsj hlt
       have hk1:=hown.kept (Qox hB3) (by simp)
       have hk2:keyOf prog 9 (.string y)=some (kl y):=Go.WideMaps.keyOf_string_mk underlying9 (by unfold maxLen;omega)
       have hk3:j<maxLen:=by unfold maxLen;omega
       refine wpList_mapUpdate_own _ rfl _ _ _ 149 rfl 9 4 Qyp underlying149 (plainElem prog 4) mb j D rfl hk1 hk3 _ _ (kl y) rfl rfl hk2 _ [] (plainElem_bool underlying4 true) ?_
       intro w4 hown4 hgrow4)
     |(at_len;refine wpList_len_own _ rfl _ 149 rfl 9 4 underlying149 (plainElem (H:=Unit) prog 4) mb j D rfl hown ?_)
     |go_in)
    ·have hlt:j<k:=by assumption
     go_roundw
     case rel=>
      refine⟨j+1,D.put (kl y) (.lit (.bool true)),by omega,by go_num,hown4,?_,fun s=>?_,?_⟩
      ·rw[Maps.size_put (hown.tidy Qyp),hhas,hcs hlt,hsize]
      ·rw[hsn hlt]
       by_cases hy:y=s
       ·subst hy
        rw[Maps.has_put_same hown.isMap (show WideAt.IsKeyLit (kl y) from trivial)]
        rw[bq.2 rfl,Bool.or_true]
       ·rw[Maps.has_put_other (fun h=>hy (Qyo h).symm),hhas]
        have:(y==s)=false:=Bool.eq_false_iff.2 fun h=>hy (bq.1 h)
        rw[this,Bool.or_false]
      ·exact(hB.trans (hB3.mono hB.size)).grown hgrow4 (Nat.le_trans hB.size hB3.size) (fun j hj=>by cases hj;exact hbs)
     case measure=>simp[intOf];omega
    all_goals go_ret
    all_goals refine⟨?_,hB⟩
    all_goals rw[h4 hall]
    all_goals have e:ks.take j=ks:=List.take_of_length_le (by omega)
    all_goals rw[e] at hsize
    all_goals rename_i hcnt
    all_goals rw[e] at hcnt
    ·rw[if_pos hcnt];rfl
    ·rw[if_neg hcnt];rfl
theorem Qy9 (w:World) (ad:Option Addr) (c n:Nat) (hn:16<n):
  Calls prog 49 #[.slice ad n c] w fun e w'=>e=.returned (.int .i64 1)∧Below w.heap.size w w':=by
 go_enter func49,ntmps49
 go_wp2
 go_ret
 exact⟨rfl,Below.refl _ _⟩
theorem Qyr (w:World) (ad:Option Addr) (c n:Nat) (hn:n≤16)
  (h119:Calls prog 119 #[.slice ad n c,.func (.func 120) #[] #[]] w fun e w'=>e=.returned (.bool true)∧Below w.heap.size w w'):
  Calls prog 49 #[.slice ad n c] w fun e w'=>e=.returned (.int .i64 2)∧Below w.heap.size w w':=by
 go_enter func49,ntmps49
 go_wp2_with (go_at_call 119;refine h119.mono ?_;rintro e w1 ⟨rfl,hB1⟩)
 go_ret
 exact⟨rfl,hB1⟩
theorem Qys (w:World) (ad:Option Addr) (c:Nat)
  (h119:Calls prog 119 #[.slice ad 0 c,.func (.func 120) #[] #[]] w fun e w'=>e=.returned (.bool false)∧Below w.heap.size w w'):
  Calls prog 49 #[.slice ad 0 c] w fun e w'=>e=.returned (.int .i64 0)∧Below w.heap.size w w':=by
 have hmm:=@run_makeMap prog
 go_enter func49,ntmps49
 go_wp2_with (go_at_call 119;refine h119.mono ?_;rintro e w1 ⟨rfl,hB1⟩)
 refine wp_loop_rounds 1 ?_
 rw[rounds_succ]
 go_wp2
 refine wp_loop_rounds 1 ?_
 rw[rounds_succ]
 have hown:=World.ownsMap_made (H:=Unit) w1 prog 9 (plainElem prog 4)
 have hB2:Below w.heap.size w (w1.alloc (Obj.map #[] 0)):=hB1.alloc hB1.size _
 have hlen:(Builtin.len_ #[149] 3 #[.map (some w1.heap.size)]).run prog (w1.alloc (Obj.map #[] 0))=.ok (.int .i64 (Maps.size (.map []:DataW Unit))) (w1.alloc (Obj.map #[] 0)):=hown.len underlying149 3
 generalize w1.alloc (Obj.map #[] 0)=w2 at hown hB2 hlen⊢
 generalize w1.heap.size=mb at hown hlen⊢
 go_wp2_with (at_len;refine wpList_len_own _ rfl _ 149 rfl 9 4 underlying149 (plainElem (H:=Unit) prog 4) mb 0 (.map []) rfl hown ?_)
 all_goals go_ret
 all_goals first|exact⟨rfl,hB2⟩|skip
theorem Ql6:∀ {xs ks:List Bt},Qow xs=some ks→ks.length=xs.length∧(∀k∈ks,k.size≤1000000)∧∀i,i<xs.length→Qaw (xs.getD i default)=some (ks.getD i default)
 |[],ks,h=>by
  simp only[Qow,Option.some.injEq] at h
  subst h
  exact⟨rfl,by simp,by simp⟩
 |x::r,ks,h=>by
  unfold Qow at h
  obtain⟨k,hk,h⟩:=Qa h
  obtain⟨g,h⟩:=Qh h
  obtain⟨ks',hks,h⟩:=Qa h
  simp only[Option.some.injEq] at h
  subst h
  obtain⟨h1,h2,h3⟩:=Ql6 hks
  refine⟨by simp[h1],fun y hy=>?_,fun i hi=>?_⟩
  ·rcases List.mem_cons.1 hy with rfl|hy
   ·exact g
   ·exact h2 y hy
  ·cases i with
   |zero=>simpa using hk
   |succ i=>simpa using h3 i (by simpa using hi)
theorem Qyt {w w':World} (ht:TabB prog (fun b=>b<w.heap.size) w) (hB:Below w.heap.size w w'):TabB prog (fun b=>b<w'.heap.size) w':=
 ht.keep (B':=fun b=>b<w'.heap.size) ⟨hB.os,hB.tape,hB.output,hB.size,hB.block⟩ (fun b h=>Nat.lt_of_lt_of_le h hB.size)
theorem QuY {x k:Bt} (h:Qaw x=some k) (ρ0:Env) {w:World} (ht:TabB prog (fun b=>b<w.heap.size) w):Calls prog 122 #[.string x] w fun e w'=>e=.returned (.string k)∧Below w.heap.size w w':=by
 refine((QlM h).out w #[.string x] ρ0 ⟨rfl,fun j v hj=>?_⟩ ht).mono ?_
 ·cases j with
  |zero=>simp only[List.getElem?_cons_zero,Option.some.injEq] at hj;subst hj;exact .d .str
  |succ j=>simp at hj
 ·rintro e w' ⟨v,ρ,rfl,hp,hv,_⟩
  cases hv with
  |d hd=>cases hd with
   |str=>exact⟨rfl,hp.below⟩
theorem QuZ {xs:List Bt} {r:Bool} (h:Qu xs=some r) {w:World} {v:Value} {ρ0:Env} (hv:VR w (fun _=>False) ρ0 (.d (slD Qi xs)) v) (ht:TabB prog (fun b=>b<w.heap.size) w):Calls prog 119 #[v,.func (.func 120) #[] #[]] w fun e w'=>e=.returned (.bool r)∧Below w.heap.size w w':=by
 refine((J3 h).out w #[v,.func (.func 120) #[] #[]] ρ0 ⟨rfl,fun j u hj=>?_⟩ ht).mono ?_
 ·rcases j with _|_|j
  ·simp only[List.getElem?_cons_zero,Option.some.injEq] at hj;subst hj;exact hv
  ·simp only[List.getElem?_cons_succ,List.getElem?_cons_zero,Option.some.injEq] at hj;subst hj
   exact .fn rfl fun j u hj=>by simp at hj
  ·simp at hj
 ·rintro e w' ⟨v,ρ,rfl,hp,hv,_⟩
  cases hv with
  |d hd=>cases hd with
   |bool=>exact⟨rfl,hp.below⟩
theorem walk {xs:List Bt} {r:Int} (h:J4 xs=some r) {w:World} {v:Value} {ρ0:Env} (hv:VR w (fun _=>False) ρ0 (.d (slD Qi xs)) v) (ht:TabB prog (fun b=>b<w.heap.size) w):
  Calls prog 49 #[v] w fun e w'=>e=.returned (.int .i64 r)∧Below w.heap.size w w':=by
 have hform:(∃ad c,v=.slice ad 0 c∧xs.length=0)∨ ∃b o c,v=.slice (some ⟨b,o,none⟩) xs.length c∧b<w.heap.size∧∀i,i<xs.length→w.cell? ⟨b,o+i,none⟩=some (.string (xs.getD i default)):=by
  cases hv with
  |d hd=>
   cases hd with
   |sl0 hn=>exact .inl ⟨_,_,rfl,hn⟩
   |sl vals ho hb hl hcell hval hcap=>
    refine .inr ⟨_,_,_,rfl,hb,fun i hi=>?_⟩
    have er:rows Qi xs i=[.str (xs.getD i default)]:=rfl
    have h1:=hl i hi
    rw[er] at h1
    have h2:=hcell i 0 (.str (xs.getD i default)) hi (by rw[er];rfl)
    have h3:=hval i 0 (.str (xs.getD i default)) hi (by rw[er];rfl)
    rw[←h1] at h2
    generalize vals i 0=u at h2 h3
    cases h3
    simpa using h2
 unfold J4 at h
 by_cases h16:xs.length>16
 ·rw[if_pos h16] at h
  simp only[Option.some.injEq] at h
  subst h
  rcases hform with ⟨ad,c,rfl,h0⟩|⟨b,o,c,rfl,_,_⟩
  ·omega
  ·exact Qy9 w _ c _ h16
 rw[if_neg h16] at h
 obtain⟨bl,hbl,h⟩:=Qa h
 have hcall:=QuZ hbl hv ht
 cases bl with
 |true=>
  rw[if_pos rfl] at h
  simp only[Option.some.injEq] at h
  subst h
  rcases hform with ⟨ad,c,rfl,h0⟩|⟨b,o,c,rfl,_,_⟩
  ·exact Qyr w _ c _ (by omega) hcall
  ·exact Qyr w _ c _ (by omega) hcall
 |false=>
  rw[if_neg (by decide)] at h
  rcases hform with ⟨ad,c,rfl,h0⟩|⟨b,o,c,rfl,hb,hc⟩
  ·have hx:xs=[]:=List.eq_nil_of_length_eq_zero h0
   subst hx
   have:r=0:=by
    have e:some (0:Int)=some r:=h
    simpa using e.symm
   subst this
   exact Qys w _ c hcall
  ·by_cases hn:xs.length=0
   ·have hx:xs=[]:=List.eq_nil_of_length_eq_zero hn
    subst hx
    have:r=0:=by
     have e:some (0:Int)=some r:=h
     simpa using e.symm
    subst this
    exact Qys w _ c hcall
   ·cases ha:J5 xs.length fun i=>decide (i<1)||bsl (xs.getD (i-1) default) (xs.getD i default)
    ·rw[ha,if_pos rfl] at h
     simp only[Option.some.injEq] at h
     refine Qyq w b o c xs.length (by omega) (by omega) xs (xs.map fun _=>default) rfl (by simp) (fun k hk=>?_) hb r hc (fun _=>h.symm) (fun h=>by rw[ha] at h;cases h) (fun h=>by rw[ha] at h;cases h) hcall
     obtain⟨_,_,rfl⟩:=List.mem_map.1 hk
     decide
    ·rw[ha,if_neg (by decide)] at h
     obtain⟨ks,hks,h⟩:=Qa h
     obtain⟨k1,k2,k3⟩:=Ql6 hks
     refine Qyq w b o c xs.length (by omega) (by omega) xs ks rfl k1 k2 hb r hc (fun h=>by rw[ha] at h;cases h) (fun _=>?_) (fun _ w' hB i hi=>QuY (k3 i hi) ρ0 (Qyt ht hB)) hcall
     split at h<;>rename_i hc<;>simp only[Option.some.injEq] at h
     ·rw[if_pos hc];exact h.symm
     ·rw[if_neg hc];exact h.symm
end Nc
theorem Qkx {a0:(List Bt)} {r:Int} (h:J4 a0=some r):PureC prog 49 [.d (slD Qi a0)] (dI r) []:=by
 unfold J4 at h
 exact Qhe (v:=.int .i64 r) ⟨f49,rfl,by kernel_rfl,by kernel_rfl⟩ rfl (fun _=>rfl) (fun _ _ _=>.d .int) fun w vals ρ0 hv ht=>by
  obtain⟨v1,v2⟩:=hv
  have e:vals=#[vals.getD 0 undef]:=by
   apply Array.ext
   ·simpa using v1
   ·intro i hi hi'
    have hi0:i=0:=by simp at hi';exact hi'
    subst hi0
    simp[hi]
  have hv:=v2 0 _ rfl
  rw[e]
  exact(Nc.walk h hv ht).mono fun e w' ⟨he,hb⟩=>⟨he,Below.pure hb⟩
def QM (a0:(List Bt)) (a1:Bt):Option ((List (List Bt))):=
 bd (lp (σ:=List (List Bt)×Int) (β:=(Nat×(List (List Bt)))) (fun s1=>
(if(decide (s1.2<((a0.length:Nat):Int)))=true then
 gd ((0:Int)≤s1.2∧s1.2<((a0.length:Nat):Int))<|
 bd (ZQ (a0.getD s1.2.toNat default) (⟨#[32]⟩:Bt)) fun x6=>
 gd ((0:Int)≤0∧0<((x6.length:Nat):Int))<|
(if((x6.getD 0 default)==a1)=true then
 gd (((s1.1.length)+(([x6]:List (List Bt)).length))*(24+1)≤70368744177664)<|
 some (.inl ((s1.1++([x6]:List (List Bt))),IntKind.i64.wrap (s1.2+1)))
else
 some (.inl (s1.1,IntKind.i64.wrap (s1.2+1))))
else
 some (.inr (s1.1.length,s1.1)))) (([]:List (List Bt)),0)) fun x4=>
 some x4.2
theorem Z6 {a0:(List Bt)} {a1:Bt} {r:(List (List Bt))} (h:QM a0 a1=some r):EffC prog 124 [.d (slD Qi a0),.d (.str a1)] [] (.osl 5001 0 r.length) [(5001,.arr 23 1 r.length (rows (QbZ Qi) r))]:=by
 refine QaR tOk (fn:=f124) (c:=Ql f124) rfl rfl ?_;unfold QM at h;(conv=>whnf);refine Qd tOk ?_;(conv=>whnf);obtain⟨x4,hx4,h⟩:=Qa h;refine QD tOk hx4 (fun s1=>⟨0,29,[(1,.d (.str a1)),(5,.osl 7001 0 s1.1.length),(10,.d (slD Qi a0)),(11,dI ((a0.length:Nat):Int)),(12,dI s1.2)],[],[(7001,.arr 23 1 s1.1.length (rows (QbZ Qi) s1.1))],[⟨[],[]⟩]⟩) ?_ ?_
 ·exact leX [.p 7001 23 1 (rows (QbZ Qi) ([]:List (List Bt)))]
 ·clear hx4;intro s1 y2 g3 hy2;(conv=>whnf);refine Qd tOk ?_;(conv=>whnf);refine QC g3 (fun _ g3=>?_) (fun _ g3=>?_)
  ·(conv=>whnf);refine Qd tOk ?_;(conv=>whnf);refine gdI g3 (fun g3=>?_);(conv=>whnf);obtain⟨x6,hx6,g3⟩:=Qa g3;refine cC 1000 (QcP hx6) ?_;clear hx6;(conv=>whnf);refine gdI g3 (fun g3=>?_);(conv=>whnf);refine QC g3 (fun _ g3=>?_) (fun _ g3=>?_)
   ·(conv=>whnf);refine J1 (enc:=(QbZ Qi)) ([x6]:List (List Bt)) ?_;(conv=>whnf);refine gdI g3 (fun g3=>?_);refine QfZ (enc:=(QbZ Qi)) (xs:=s1.1) (ys:=([x6]:List (List Bt))) ?_;(conv=>whnf);obtain rfl:=sj_ g3;exact⟨_,rfl,leX []⟩
   ·(conv=>whnf);obtain rfl:=sj_ g3;exact⟨_,rfl,leX []⟩
  ·(conv=>whnf);obtain rfl:=sj_ g3;obtain rfl:=hy2 _ rfl;obtain rfl:=sj_ h;exact lfE [.s [(5001,7001),(7001,5001)]]
def Qah (a0:(List Bt)):Option (Bool):=
 gd ((0:Int)≤2∧2<((a0.length:Nat):Int))<|
 some ((a0.getD 2 default)==(⟨#[97,108,108]⟩:Bt))
theorem QjI {a0:(List Bt)} {r:Bool} (h:Qah a0=some r):PureC prog 125 [.d (slD Qi a0)] (dB r) []:=by
 refine Qj tOk (fn:=f125) (c:=Ql f125) rfl rfl ?_;unfold Qah at h;(conv=>whnf);refine gdI h (fun h=>?_);(conv=>whnf);obtain rfl:=sj_ h;exact lfP []
def Zg (a0:(List (List Bt))):Option (Int):=
 bd (lp (σ:=Int) (β:=(Int⊕Unit)) (fun s1=>
(if(decide (s1<((a0.length:Nat):Int)))=true then
 gd ((0:Int)≤s1∧s1<((a0.length:Nat):Int))<|
 bd (Qah (a0.getD s1.toNat default)) fun x6=>
(if x6=true then
 some (.inr (.inl s1))
else
 some (.inl (IntKind.i64.wrap (s1+1))))
else
 some (.inr (.inr ())))) 0) fun x4=>
(match x4 with
| .inl d7=>
 some d7
| .inr d8=>
 some (-1))
theorem Qay {a0:(List (List Bt))} {r:Int} (h:Zg a0=some r):PureC prog 138 [.d (slD (QbZ Qi) a0),.fn 125 []] (dI r) []:=by
 refine Qj tOk (fn:=f138) (c:=Ql f138) rfl rfl ?_;unfold Zg at h;(conv=>whnf);refine Qd tOk ?_;(conv=>whnf);obtain⟨x4,hx4,h⟩:=Qa h;refine QD tOk hx4 (fun s1=>⟨0,19,[(0,.d (slD (QbZ Qi) a0)),(1,.fn 125 []),(7,dI ((a0.length:Nat):Int)),(8,dI s1)],[],[],[]⟩) ?_ ?_
 ·exact leX []
 ·clear hx4;intro s1 y2 g3 hy2;(conv=>whnf);refine Qd tOk ?_;(conv=>whnf);refine QC g3 (fun _ g3=>?_) (fun _ g3=>?_)
  ·(conv=>whnf);refine Qd tOk ?_;(conv=>whnf);refine gdI g3 (fun g3=>?_);(conv=>whnf);obtain⟨x6,hx6,g3⟩:=Qa g3;refine cC 0 (QjI hx6) ?_;clear hx6;(conv=>whnf);refine QC g3 (fun _ g3=>?_) (fun _ g3=>?_)
   ·(conv=>whnf);obtain rfl:=sj_ g3;obtain rfl:=hy2 _ rfl;obtain rfl:=sj_ h;exact lfP []
   ·(conv=>whnf);obtain rfl:=sj_ g3;exact⟨_,rfl,leX []⟩
  ·(conv=>whnf);obtain rfl:=sj_ g3;obtain rfl:=hy2 _ rfl;obtain rfl:=sj_ h;exact lfP []
def QS (a0:(List (List Bt))):Option (Bool):=
 bd (Zg a0) fun x1=>
 some (decide (x1≥0))
theorem J8 {a0:(List (List Bt))} {r:Bool} (h:QS a0=some r):PureC prog 123 [.d (slD (QbZ Qi) a0),.fn 125 []] (dB r) []:=by
 refine Qj tOk (fn:=f123) (c:=Ql f123) rfl rfl ?_;unfold QS at h;(conv=>whnf);obtain⟨x1,hx1,h⟩:=Qa h;refine cC 0 (Qay hx1) ?_;clear hx1;(conv=>whnf);obtain rfl:=sj_ h;exact lfP []
def Qck (a0:(List Bt)):Option (Bool):=
 bd (QM a0 (⟨#[117,115,101,114]⟩:Bt)) fun x1=>
 bd (QS x1) fun x2=>
 some (!x2)
theorem QlN {a0:(List Bt)} {r:Bool} (h:Qck a0=some r):PureC prog 50 [.d (slD Qi a0)] (dB r) []:=by
 refine Qj tOk (fn:=f50) (c:=Ql f50) rfl rfl ?_;unfold Qck at h;(conv=>whnf);obtain⟨x1,hx1,h⟩:=Qa h;refine cE [] 1000 (Z6 hx1) ?_;(conv=>whnf);obtain⟨x2,hx2,h⟩:=Qa h;refine cC 0 (J8 hx2) ?_;clear hx2;(conv=>whnf);obtain rfl:=sj_ h;exact lfP []
def Qbk (a0:(List Bt)) (a1:Bt):Option (Int):=
 bd (QM a0 (⟨#[114,117,108,101]⟩:Bt)) fun x1=>
 bd (lp (σ:=Int×Int) (β:=(Int)) (fun s2=>
(if(decide (s2.1<((x1.length:Nat):Int)))=true then
 gd ((0:Int)≤s2.1∧s2.1<((x1.length:Nat):Int))<|
 gd ((0:Int)≤1∧1<(((x1.getD s2.1.toNat default).length:Nat):Int))<|
(if(((x1.getD s2.1.toNat default).getD 1 default)==a1)=true then
 some (.inl (IntKind.i64.wrap (s2.1+1),IntKind.i64.wrap (s2.2+1)))
else
 some (.inl (IntKind.i64.wrap (s2.1+1),s2.2)))
else
 some (.inr s2.2))) (0,0)) fun x5=>
 some x5
theorem QgX {a0:(List Bt)} {a1:Bt} {r:Int} (h:Qbk a0 a1=some r):PureC prog 126 [.d (slD Qi a0),.d (.str a1)] (dI r) []:=by
 refine Qj tOk (fn:=f126) (c:=Ql f126) rfl rfl ?_;unfold Qbk at h;(conv=>whnf);refine Qd tOk ?_;(conv=>whnf);obtain⟨x1,hx1,h⟩:=Qa h;refine cE [] 1000 (Z6 hx1) ?_;(conv=>whnf);obtain⟨x5,hx5,h⟩:=Qa h;refine QD tOk hx5 (fun s2=>⟨0,24,[(1,.d (.str a1)),(5,dI s2.2),(9,.osl 6001 0 x1.length),(10,dI ((x1.length:Nat):Int)),(11,dI s2.1)],[],[(6001,.arr 23 1 x1.length (rows (QbZ Qi) x1))],[]⟩) ?_ ?_
 ·exact leX []
 ·clear hx5;intro s2 y3 g4 hy3;(conv=>whnf);refine Qd tOk ?_;(conv=>whnf);refine QC g4 (fun _ g4=>?_) (fun _ g4=>?_)
  ·(conv=>whnf);refine Qd tOk ?_;(conv=>whnf);refine gdI g4 (fun g4=>?_);(conv=>whnf);refine gdI g4 (fun g4=>?_);(conv=>whnf);refine QC g4 (fun _ g4=>?_) (fun _ g4=>?_)
   ·(conv=>whnf);obtain rfl:=sj_ g4;exact⟨_,rfl,leX []⟩
   ·(conv=>whnf);obtain rfl:=sj_ g4;exact⟨_,rfl,leX []⟩
  ·(conv=>whnf);obtain rfl:=sj_ g4;obtain rfl:=hy3 _ rfl;obtain rfl:=sj_ h;exact lfP []
def Zh (a0:(List Bt)) (a1:(List Bt)):Option (Bool):=
 gd ((0:Int)≤1∧1<((a0.length:Nat):Int))<|
 bd (Qbk a1 (a0.getD 1 default)) fun x2=>
 some (decide (x2>12))
theorem Qhg {a0:(List Bt)} {a1:(List Bt)} {r:Bool} (h:Zh a0 a1=some r):PureC prog 127 [.d (slD Qi a0),.rp [slD Qi a1]] (dB r) []:=by
 refine Qj tOk (fn:=f127) (c:=Ql f127) rfl rfl ?_;unfold Zh at h;(conv=>whnf);obtain⟨g1,h⟩:=Qh h;obtain⟨x2,hx2,h⟩:=Qa h;refine Zq tOk [.u 4 0 (dI x2) []] 7 [] [0,0,2,6,15,31,63] [] ?_;(conv=>whnf);refine And.intro g1 ?_;clear g1;(conv=>whnf);refine And.intro (Qo (QgX hx2) (by kernel_rfl)) ?_;(conv=>whnf);refine And.intro (by kernel_rfl) ?_;(conv=>whnf);obtain rfl:=sj_ h;exact lfP []
def Q6 (a0:(List (List Bt))) (a1c0:(List Bt)):Option (Int):=
 bd (lp (σ:=Int) (β:=(Int⊕Unit)) (fun s1=>
(if(decide (s1<((a0.length:Nat):Int)))=true then
 gd ((0:Int)≤s1∧s1<((a0.length:Nat):Int))<|
 bd (Zh (a0.getD s1.toNat default) a1c0) fun x6=>
(if x6=true then
 some (.inr (.inl s1))
else
 some (.inl (IntKind.i64.wrap (s1+1))))
else
 some (.inr (.inr ())))) 0) fun x4=>
(match x4 with
| .inl d7=>
 some d7
| .inr d8=>
 some (-1))
theorem J9 {a0:(List (List Bt))} {a1c0:(List Bt)} {r:Int} (h:Q6 a0 a1c0=some r):PureC prog 138 [.d (slD (QbZ Qi) a0),.fn 127 [.rp [slD Qi a1c0]]] (dI r) []:=by
 refine Qj tOk (fn:=f138) (c:=Ql f138) rfl rfl ?_;unfold Q6 at h;(conv=>whnf);refine Qd tOk ?_;(conv=>whnf);obtain⟨x4,hx4,h⟩:=Qa h;refine QD tOk hx4 (fun s1=>⟨0,19,[(0,.d (slD (QbZ Qi) a0)),(1,.fn 127 [.rp [slD Qi a1c0]]),(7,dI ((a0.length:Nat):Int)),(8,dI s1)],[],[],[]⟩) ?_ ?_
 ·exact leX []
 ·clear hx4;intro s1 y2 g3 hy2;(conv=>whnf);refine Qd tOk ?_;(conv=>whnf);refine QC g3 (fun _ g3=>?_) (fun _ g3=>?_)
  ·(conv=>whnf);refine Qd tOk ?_;(conv=>whnf);refine gdI g3 (fun g3=>?_);(conv=>whnf);obtain⟨x6,hx6,g3⟩:=Qa g3;refine cC 0 (Qhg hx6) ?_;clear hx6;(conv=>whnf);refine QC g3 (fun _ g3=>?_) (fun _ g3=>?_)
   ·(conv=>whnf);obtain rfl:=sj_ g3;obtain rfl:=hy2 _ rfl;obtain rfl:=sj_ h;exact lfP []
   ·(conv=>whnf);obtain rfl:=sj_ g3;exact⟨_,rfl,leX []⟩
  ·(conv=>whnf);obtain rfl:=sj_ g3;obtain rfl:=hy2 _ rfl;obtain rfl:=sj_ h;exact lfP []
def QA (a0:(List (List Bt))) (a1c0:(List Bt)):Option (Bool):=
 bd (Q6 a0 a1c0) fun x1=>
 some (decide (x1≥0))
theorem JM {a0:(List (List Bt))} {a1c0:(List Bt)} {r:Bool} (h:QA a0 a1c0=some r):PureC prog 123 [.d (slD (QbZ Qi) a0),.fn 127 [.rp [slD Qi a1c0]]] (dB r) []:=by
 refine Qj tOk (fn:=f123) (c:=Ql f123) rfl rfl ?_;unfold QA at h;(conv=>whnf);obtain⟨x1,hx1,h⟩:=Qa h;refine cC 0 (J9 hx1) ?_;clear hx1;(conv=>whnf);obtain rfl:=sj_ h;exact lfP []
def QaE (a0:(List Bt)):Option (Bool):=
 bd (QM a0 (⟨#[112,111,114,116]⟩:Bt)) fun x1=>
 bd (lp (σ:=Int) (β:=(Unit⊕Unit)) (fun s2=>
(if(decide (s2<((x1.length:Nat):Int)))=true then
 gd ((0:Int)≤s2∧s2<((x1.length:Nat):Int))<|
 gd ((decide ((((x1.getD s2.toNat default).length:Nat):Int)>4))=true→((0:Int)≤4∧4<(((x1.getD s2.toNat default).length:Nat):Int)))<|
 bd (Qt ((decide ((((x1.getD s2.toNat default).length:Nat):Int)>4))=true) (Qbk a0 ((x1.getD s2.toNat default).getD 4 default))) fun x8=>
(if((decide ((((x1.getD s2.toNat default).length:Nat):Int)>4))&&(x8==0))=true then
 some (.inr (.inl ()))
else
 some (.inl (IntKind.i64.wrap (s2+1))))
else
 some (.inr (.inr ())))) 0) fun x5=>
(match x5 with
| .inl d9=>
 some true
| .inr d10=>
 bd (QM a0 (⟨#[114,117,108,101]⟩:Bt)) fun x11=>
 bd (QA x11 a0) fun x12=>
 some x12)
theorem QiC {a0:(List Bt)} {r:Bool} (h:QaE a0=some r):PureC prog 51 [.d (slD Qi a0)] (dB r) []:=by
 refine Qj tOk (fn:=f51) (c:=Ql f51) rfl rfl ?_;unfold QaE at h;(conv=>whnf);refine Qd tOk ?_;(conv=>whnf);obtain⟨x1,hx1,h⟩:=Qa h;refine cE [] 1000 (Z6 hx1) ?_;(conv=>whnf);obtain⟨x5,hx5,h⟩:=Qa h;refine QD tOk hx5 (fun s2=>⟨0,28,[(1,.ref 1 0 0),(6,.osl 6001 0 x1.length),(7,dI ((x1.length:Nat):Int)),(8,dI s2)],[],[(6001,.arr 23 1 x1.length (rows (QbZ Qi) x1)),(1,.box 23 [.d (slD Qi a0)])],[]⟩) ?_ ?_
 ·exact leX []
 ·clear hx5;intro s2 y3 g4 hy3;(conv=>whnf);refine Qd tOk ?_;(conv=>whnf);refine QC g4 (fun _ g4=>?_) (fun _ g4=>?_)
  ·(conv=>whnf);refine Qd tOk ?_;(conv=>whnf);refine gdI g4 (fun g4=>?_);(conv=>whnf);obtain⟨g7,g4⟩:=Qh g4;obtain⟨x8,hx8,g4⟩:=Qa g4;refine Zq tOk [.u 8 0 (dI x8) []] 11 [] [0,1,3,7,15,15,47,111,255,511,1023] [] ?_;(conv=>whnf);refine And.intro g7 ?_;clear g7;(conv=>whnf);refine And.intro (QV rfl rfl rfl rfl (by intro c0;exact QgX (Qg hx8 c0))) ?_;(conv=>whnf);refine And.intro (by kernel_rfl) ?_;(conv=>whnf);refine QC g4 (fun _ g4=>?_) (fun _ g4=>?_)
   ·(conv=>whnf);obtain rfl:=sj_ g4;obtain rfl:=hy3 _ rfl;obtain rfl:=sj_ h;exact lfP []
   ·(conv=>whnf);obtain rfl:=sj_ g4;exact⟨_,rfl,leX []⟩
  ·(conv=>whnf);obtain rfl:=sj_ g4;obtain rfl:=hy3 _ rfl;obtain⟨x11,hx11,h⟩:=Qa h;refine cE [] 2000 (Z6 hx11) ?_;(conv=>whnf);obtain⟨x12,hx12,h⟩:=Qa h;refine cC 0 (JM hx12) ?_;clear hx12;(conv=>whnf);obtain rfl:=sj_ h;exact lfP []
def Jk (a0:(List Bt)):Option ((List QzU)):=
 bd (QM a0 (⟨#[112,111,114,116]⟩:Bt)) fun x1=>
 bd (lp (σ:=List QzU×Int) (β:=(Nat×(List QzU))) (fun s2=>
(if(decide (s2.2<((x1.length:Nat):Int)))=true then
 gd ((0:Int)≤s2.2∧s2.2<((x1.length:Nat):Int))<|
 gd ((0:Int)≤2∧2<(((x1.getD s2.2.toNat default).length:Nat):Int))<|
 bd (Z7 ((x1.getD s2.2.toNat default).getD 2 default)) fun x8=>
 gd (((s2.1.length)+(([x8.1]:List QzU).length))*(16+1)≤70368744177664)<|
 some (.inl ((s2.1++([x8.1]:List QzU)),IntKind.i64.wrap (s2.2+1)))
else
 some (.inr (s2.1.length,s2.1)))) (([]:List QzU),0)) fun x5=>
 some x5.2
theorem Qeb {a0:(List Bt)} {r:(List QzU)} (h:Jk a0=some r):PureC prog 128 [.d (slD Qi a0)] (.osl 5001 0 r.length) [⟨5001,106,2,r.length,rows QzU.enc r⟩]:=by
 refine Qj tOk (fn:=f128) (c:=Ql f128) rfl rfl ?_;unfold Jk at h;(conv=>whnf);refine Qd tOk ?_;(conv=>whnf);obtain⟨x1,hx1,h⟩:=Qa h;refine cE [] 1000 (Z6 hx1) ?_;(conv=>whnf);obtain⟨x5,hx5,h⟩:=Qa h;refine QD tOk hx5 (fun s2=>⟨0,29,[(3,.osl 7001 0 s2.1.length),(10,.osl 6001 0 x1.length),(11,dI ((x1.length:Nat):Int)),(12,dI s2.2)],[],[(7001,.arr 106 2 s2.1.length (rows QzU.enc s2.1)),(6001,.arr 23 1 x1.length (rows (QbZ Qi) x1))],[]⟩) ?_ ?_
 ·exact leX [.p 7001 106 2 (rows QzU.enc ([]:List QzU))]
 ·clear hx5;intro s2 y3 g4 hy3;(conv=>whnf);refine Qd tOk ?_;(conv=>whnf);refine QC g4 (fun _ g4=>?_) (fun _ g4=>?_)
  ·(conv=>whnf);refine Qd tOk ?_;(conv=>whnf);refine gdI g4 (fun g4=>?_);(conv=>whnf);refine gdI g4 (fun g4=>?_);(conv=>whnf);obtain⟨x8,hx8,g4⟩:=Qa g4;refine cC 0 (QcR hx8) ?_;clear hx8;(conv=>whnf);refine J1 (enc:=QzU.enc) ([x8.1]:List QzU) ?_;(conv=>whnf);refine gdI g4 (fun g4=>?_);refine QfZ (enc:=QzU.enc) (xs:=s2.1) (ys:=([x8.1]:List QzU)) ?_;(conv=>whnf);obtain rfl:=sj_ g4;exact⟨_,rfl,leX []⟩
  ·(conv=>whnf);obtain rfl:=sj_ g4;obtain rfl:=hy3 _ rfl;obtain rfl:=sj_ h;exact lfP [.s [(5001,7001),(7001,5001)]]
def Js (a0:QzU):Option (Int):=
 bd (Zd a0) fun x1=>
 some (IntKind.i64.wrap ((IntKind.i64.wrap (a0.Addr+x1)) -1))
theorem Qf0 {a0:QzU} {r:Int} (h:Js a0=some r):PureC prog 197 [.agg [dI a0.Addr,dI a0.Len]] (dI r) []:=by
 refine Qj tOk (fn:=f197) (c:=Ql f197) rfl rfl ?_;unfold Js at h;(conv=>whnf);obtain⟨x1,hx1,h⟩:=Qa h;refine Zq tOk [.u 3 0 (dI x1) []] 7 [] [0,1,0,4,15,31,63] [] ?_;(conv=>whnf);refine And.intro (Qo (Qdt hx1) (by kernel_rfl)) ?_;(conv=>whnf);refine And.intro (by kernel_rfl) ?_;(conv=>whnf);obtain rfl:=sj_ h;exact lfP []
def QX (a0:QzU) (a1:Int):Option (Bool):=
 bd (Js a0) fun x1=>
 bd (Qw a1 a0.Addr x1) fun x2=>
 some x2
theorem Jc {a0:QzU} {a1:Int} {r:Bool} (h:QX a0 a1=some r):PureC prog 133 [.agg [dI a0.Addr,dI a0.Len],dI a1] (dB r) []:=by
 refine Qj tOk (fn:=f133) (c:=Ql f133) rfl rfl ?_;unfold QX at h;(conv=>whnf);obtain⟨x1,hx1,h⟩:=Qa h;obtain⟨x2,hx2,h⟩:=Qa h;refine Zq tOk [.u 4 0 (dI x1) [],.u 5 0 (dB x2) []] 7 [] [0,0,2,0,8,31,63] [] ?_;(conv=>whnf);refine And.intro (Qo (Qf0 hx1) (by kernel_rfl)) ?_;(conv=>whnf);refine And.intro (Qo (QN hx2) (by kernel_rfl)) ?_;(conv=>whnf);refine And.intro (by kernel_rfl) ?_;(conv=>whnf);obtain rfl:=sj_ h;exact lfP []
def Jl (a0:QzU) (a1:QzU):Option (Bool):=
 bd (Qt ((decide (a1.Len≤a0.Len))=true) (QX a1 a0.Addr)) fun x1=>
 some ((decide (a1.Len≤a0.Len))&&x1)
theorem Qec {a0:QzU} {a1:QzU} {r:Bool} (h:Jl a0 a1=some r):PureC prog 129 [.agg [dI a0.Addr,dI a0.Len],.agg [dI a1.Addr,dI a1.Len]] (dB r) []:=by
 refine Qj tOk (fn:=f129) (c:=Ql f129) rfl rfl ?_;unfold Jl at h;(conv=>whnf);obtain⟨x1,hx1,h⟩:=Qa h;refine cG (fun c0=>Jc (Qg hx1 c0)) ?_;(conv=>whnf);obtain rfl:=sj_ h;exact lfP []
end
end Go.Proofs.YtfpbhbbdhfbilaaGreatDoor
