/-
  What some of the program's functions compute: their models, and that the functions compute these; no condition.
-/
import Derived.Test.YtfpbhbbdhfbilaaGreatDoorTyz
import Derived.Test.YtfpbhbbdhfbilaaGreatDoorTbz
import Derived.Test.YtfpbhbbdhfbilaaGreatDoorLayz
import Derived.Test.YtfpbhbbdhfbilaaGreatDoorLay4z
import Derived.Test.YtfpbhbbdhfbilaaGreatDoorAbz8
import Derived.BigCall
import Derived.BigGuard
import Derived.BigQuiet
import Derived.Deep.Draws
import Derived.Deep.QuietTactic
import Derived.Maps.OwnSet
import Derived.Shelf.SlSortCmp.QuietGrown
import Derived.StringKeys
import Derived.WalkKit
set_option linter.all false
namespace Go.Proofs.YtfpbhbbdhfbilaaGreatDoor
open Go Go.Ab Tryz
set_option maxRecDepth 100000
set_option maxHeartbeats 40000000
noncomputable section
def QcJ (a0:(List Int)):Option (l1Rd):=
(if(decide (((a0.length:Nat):Int)>2000))=true then
 gd ((0:Int)≤(0:Int)∧(0:Int)≤(2000:Int)∧(2000:Int)≤((a0.length:Nat):Int))<|
 some (⟨a0.take ((2000:Int).toNat),0⟩:l1Rd)
else
 some (⟨a0,0⟩:l1Rd))
theorem Qm9 {a0:(List Int)} {r:l1Rd} (h:QcJ a0=some r):EffC prog 55 [.d (slD QP a0)] [] (.ref 5001 0 0) [(5001,.box 156 [.d (slD QP r.b),dI r.p])]:=by
 refine QaR tOk (fn:=f55) (c:=Ql f55) rfl rfl ?_;unfold QcJ at h;(conv=>whnf);refine Qd tOk ?_;(conv=>whnf);refine QC h (fun _ h=>?_) (fun _ h=>?_)
 ·(conv=>whnf);obtain⟨g1,h⟩:=Qh h;refine And.intro ⟨g1,.inr rfl⟩ ?_;(conv=>whnf);obtain rfl:=sj_ h;exact lfE [.s [(10,5001),(5001,10)]]
 ·(conv=>whnf);obtain rfl:=sj_ h;exact lfE [.s [(10,5001),(5001,10)]]
def Zc (a0:l1Rd) (a1:Int):Option (Int×l1Rd):=
(if((decide (a1<1))||(((a0.b.length:Nat):Int)==0))=true then
 some (0,(⟨a0.b,IntKind.i64.wrap (a0.p+1)⟩:l1Rd))
else
(if(decide ((IntKind.i64.wrap ((IntKind.i64.wrap (a0.p+1)) -1))<((a0.b.length:Nat):Int)))=true then
 gd ((0:Int)≤IntKind.i64.wrap ((IntKind.i64.wrap (a0.p+1)) -1)∧IntKind.i64.wrap ((IntKind.i64.wrap (a0.p+1)) -1)<((a0.b.length:Nat):Int))<|
 gd ((a1:Int)≠0)<|
 some (((IntKind.i64.wrap (a0.b.getD ((IntKind.i64.wrap ((IntKind.i64.wrap (a0.p+1)) -1)).toNat) default):Int).tmod a1),(⟨a0.b,IntKind.i64.wrap (a0.p+1)⟩:l1Rd))
else
 gd ((((a0.b.length:Nat):Int):Int)≠0)<|
 gd ((0:Int)≤((IntKind.i64.wrap ((IntKind.i64.wrap (a0.p+1)) -1):Int).tmod ((a0.b.length:Nat):Int))∧((IntKind.i64.wrap ((IntKind.i64.wrap (a0.p+1)) -1):Int).tmod ((a0.b.length:Nat):Int))<((a0.b.length:Nat):Int))<|
 gd ((((a0.b.length:Nat):Int):Int)≠0)<|
 gd ((0:Int)≤((IntKind.i64.wrap ((IntKind.i64.wrap ((IntKind.i64.wrap ((IntKind.i64.wrap (a0.p+1)) -1))*7))+3):Int).tmod ((a0.b.length:Nat):Int))∧((IntKind.i64.wrap ((IntKind.i64.wrap ((IntKind.i64.wrap ((IntKind.i64.wrap (a0.p+1)) -1))*7))+3):Int).tmod ((a0.b.length:Nat):Int))<((a0.b.length:Nat):Int))<|
 gd ((((a0.b.length:Nat):Int):Int)≠0)<|
 gd ((64:Int)≠0)<|
 gd ((a1:Int)≠0)<|
 some ((((bits .xor .i64 (IntKind.i64.wrap ((IntKind.i64.wrap ((IntKind.i64.wrap ((IntKind.i64.wrap ((IntKind.i64.wrap (a0.b.getD (((IntKind.i64.wrap ((IntKind.i64.wrap (a0.p+1)) -1):Int).tmod ((a0.b.length:Nat):Int)).toNat) default))*131))+(IntKind.i64.wrap ((IntKind.i64.wrap (a0.b.getD (((IntKind.i64.wrap ((IntKind.i64.wrap ((IntKind.i64.wrap ((IntKind.i64.wrap (a0.p+1)) -1))*7))+3):Int).tmod ((a0.b.length:Nat):Int)).toNat) default))*1117))))+(IntKind.i64.wrap ((IntKind.i64.wrap ((IntKind.i64.wrap (a0.p+1)) -1))*29))))+(IntKind.i64.wrap ((IntKind.i64.wrap ((IntKind.i64.wrap ((IntKind.i64.wrap (a0.p+1)) -1):Int).tdiv ((a0.b.length:Nat):Int)))*53)))) (IntKind.i64.wrap ((IntKind.i64.wrap ((IntKind.i64.wrap ((IntKind.i64.wrap ((IntKind.i64.wrap ((IntKind.i64.wrap (a0.b.getD (((IntKind.i64.wrap ((IntKind.i64.wrap (a0.p+1)) -1):Int).tmod ((a0.b.length:Nat):Int)).toNat) default))*131))+(IntKind.i64.wrap ((IntKind.i64.wrap (a0.b.getD (((IntKind.i64.wrap ((IntKind.i64.wrap ((IntKind.i64.wrap ((IntKind.i64.wrap (a0.p+1)) -1))*7))+3):Int).tmod ((a0.b.length:Nat):Int)).toNat) default))*1117))))+(IntKind.i64.wrap ((IntKind.i64.wrap ((IntKind.i64.wrap (a0.p+1)) -1))*29))))+(IntKind.i64.wrap ((IntKind.i64.wrap ((IntKind.i64.wrap ((IntKind.i64.wrap (a0.p+1)) -1):Int).tdiv ((a0.b.length:Nat):Int)))*53))):Int).tdiv 64))):Int).tmod a1),(⟨a0.b,IntKind.i64.wrap (a0.p+1)⟩:l1Rd))))
theorem Jd {a0:l1Rd} {a1:Int} {r:Int×l1Rd} (h:Zc a0 a1=some r):EffC prog 57 [.ref 9000 0 0,dI a1] [(9000,.box 156 [.d (slD QP a0.b),dI a0.p])] (dI r.1) [(9000,.box 156 [.d (slD QP a0.b),dI r.2.p])]:=by
 refine QaR tOk (fn:=f57) (c:=Ql f57) rfl rfl ?_;unfold Zc at h;(conv=>whnf);refine Qd tOk ?_;(conv=>whnf);refine QC h (fun _ h=>?_) (fun _ h=>?_)
 ·(conv=>whnf);obtain rfl:=sj_ h;exact lfE []
 ·(conv=>whnf);refine Qd tOk ?_;(conv=>whnf);refine QC h (fun _ h=>?_) (fun _ h=>?_)
  ·(conv=>whnf);refine gdI h (fun h=>?_);(conv=>whnf);refine gdI h (fun h=>?_);(conv=>whnf);obtain rfl:=sj_ h;exact lfE []
  ·(conv=>whnf);obtain⟨g3,h⟩:=Qh h;obtain⟨g4,h⟩:=Qh h;obtain⟨g5,h⟩:=Qh h;obtain⟨g6,h⟩:=Qh h;obtain⟨g7,h⟩:=Qh h;refine Zq tOk [] 46 [] [0,1,3,7,0,0,32,96,224,480,1008,2047,4095,8191,16383,0,32768,98304,229376,0,524288,1572864,0,4194304,12582912,29360128,62914560,133693440,268402688,536838144,1073709056,2147450880,4294967295,0,8589934592,34359738367,0,0,137438953472,412316860416,962072674304,2061584302080,4329327034368,8727373545472,17592186044415,35184372088831] [] ?_;(conv=>whnf);refine And.intro g3 ?_;clear g3;(conv=>whnf);refine And.intro g4 ?_;clear g4;(conv=>whnf);refine And.intro g5 ?_;clear g5;(conv=>whnf);refine And.intro g6 ?_;clear g6;(conv=>whnf);refine And.intro g7 ?_;clear g7;(conv=>whnf);refine And.intro (by kernel_rfl) ?_;(conv=>whnf);refine gdI h (fun h=>?_);(conv=>whnf);refine gdI h (fun h=>?_);(conv=>whnf);obtain rfl:=sj_ h;exact lfE []
def Qbp (a0:Bt):Option (Bt):=
 bd (lp (σ:=Int) (β:=(Bt⊕Unit)) (fun s1=>
(if(decide (s1<((a0.size:Nat):Int)))=true then
 gd ((0:Int)≤s1∧s1<((a0.size:Nat):Int))<|
(if((JL a0 s1.toNat)==35)=true then
 gd ((0:Int)≤(0:Int)∧(0:Int)≤s1∧s1≤((a0.size:Nat):Int))<|
 some (.inr (.inl (a0.extract 0 s1.toNat)))
else
 some (.inl (IntKind.i64.wrap (s1+1))))
else
 some (.inr (.inr ())))) 0) fun x4=>
(match x4 with
| .inl d7=>
 some d7
| .inr d8=>
 some a0)
theorem Qki {a0:Bt} {r:Bt} (h:Qbp a0=some r):PureC prog 88 [.d (.str a0)] (.d (.str r)) []:=by
 refine Qj tOk (fn:=f88) (c:=Ql f88) rfl rfl ?_;unfold Qbp at h;(conv=>whnf);refine Qd tOk ?_;(conv=>whnf);obtain⟨x4,hx4,h⟩:=Qa h;refine QD tOk hx4 (fun s1=>⟨0,18,[(0,.d (.str a0)),(3,dI s1)],[],[],[]⟩) ?_ ?_
 ·exact leX []
 ·clear hx4;intro s1 y2 g3 hy2;(conv=>whnf);refine Qd tOk ?_;(conv=>whnf);refine QC g3 (fun _ g3=>?_) (fun _ g3=>?_)
  ·(conv=>whnf);refine Qd tOk ?_;(conv=>whnf);refine gdI g3 (fun g3=>?_);(conv=>whnf);refine QC g3 (fun _ g3=>?_) (fun _ g3=>?_)
   ·(conv=>whnf);refine gdI g3 (fun g3=>?_);(conv=>whnf);obtain rfl:=sj_ g3;obtain rfl:=hy2 _ rfl;obtain rfl:=sj_ h;exact lfP []
   ·(conv=>whnf);obtain rfl:=sj_ g3;exact⟨_,rfl,leX []⟩
  ·(conv=>whnf);obtain rfl:=sj_ g3;obtain rfl:=hy2 _ rfl;obtain rfl:=sj_ h;exact lfP []
def ZR (a0:Bt):Option ((List Bt)×Bool):=
 bd (Qbp a0) fun x1=>
 bd (lp (σ:=List Int×List Bt×Int) (β:=(Unit⊕(Nat×(List Bt)))) (fun s2=>
(if(decide (s2.2.2≤((x1.size:Nat):Int)))=true then
 gd ((decide (s2.2.2<((x1.size:Nat):Int)))=true→((0:Int)≤s2.2.2∧s2.2.2<((x1.size:Nat):Int)))<|
 gd ((decide ((JL x1 s2.2.2.toNat)<32))=false→((decide (s2.2.2<((x1.size:Nat):Int)))=true→((0:Int)≤s2.2.2∧s2.2.2<((x1.size:Nat):Int))))<|
(if((decide (s2.2.2<((x1.size:Nat):Int)))&&((decide ((JL x1 s2.2.2.toNat)<32))||(decide ((JL x1 s2.2.2.toNat)>126))))=true then
 some (.inr (.inl ()))
else
 gd ((decide (s2.2.2<((x1.size:Nat):Int)))=true→((0:Int)≤s2.2.2∧s2.2.2<((x1.size:Nat):Int)))<|
(if((decide (s2.2.2<((x1.size:Nat):Int)))&&((JL x1 s2.2.2.toNat) !=32))=true then
 gd ((0:Int)≤s2.2.2∧s2.2.2<((x1.size:Nat):Int))<|
 gd (((s2.1.length)+(([(JL x1 s2.2.2.toNat)]:List Int).length))*(1+1)≤70368744177664)<|
(if(decide ((((s2.1++([(JL x1 s2.2.2.toNat)]:List Int)).length:Nat):Int)>24))=true then
 some (.inr (.inl ()))
else
 some (.inl ((s2.1++([(JL x1 s2.2.2.toNat)]:List Int)),s2.2.1,IntKind.i64.wrap (s2.2.2+1))))
else
(if(decide (((s2.1.length:Nat):Int)>0))=true then
 gd (((s2.2.1.length)+(([(QfY (QpT s2.1.length (rows QP s2.1)))]:List Bt).length))*(16+1)≤70368744177664)<|
(if(decide ((((s2.2.1++([(QfY (QpT s2.1.length (rows QP s2.1)))]:List Bt)).length:Nat):Int)>8))=true then
 some (.inr (.inl ()))
else
 some (.inl (([]:List Int),(s2.2.1++([(QfY (QpT s2.1.length (rows QP s2.1)))]:List Bt)),IntKind.i64.wrap (s2.2.2+1))))
else
 some (.inl (s2.1,s2.2.1,IntKind.i64.wrap (s2.2.2+1))))))
else
 some (.inr (.inr (s2.2.1.length,s2.2.1))))) (([]:List Int),([]:List Bt),0)) fun x5=>
(match x5 with
| .inl d12=>
 some ([],false)
| .inr d13=>
 some (d13.2,true))
theorem Qcu {a0:Bt} {r:(List Bt)×Bool} (h:ZR a0=some r):PureC prog 28 [.d (.str a0)] (.tup [.osl 5001 0 r.1.length,dB r.2]) [⟨5001,9,1,r.1.length,rows Qi r.1⟩]:=by
 refine Qj tOk (fn:=f28) (c:=Ql f28) rfl rfl ?_;unfold ZR at h;(conv=>whnf);obtain⟨x1,hx1,h⟩:=Qa h;refine cC 0 (Qki hx1) ?_;clear hx1;(conv=>whnf);refine Qd tOk ?_;(conv=>whnf);obtain⟨x5,hx5,h⟩:=Qa h;refine QD tOk hx5 (fun s2=>⟨0,69,[(4,.d (.str x1)),(5,.osl 7002 0 s2.2.1.length),(6,.osl 7001 0 s2.1.length),(7,dI s2.2.2)],[],[(7002,.arr 9 1 s2.2.1.length (rows Qi s2.2.1)),(7001,.arr 5 1 s2.1.length (rows QP s2.1))],[]⟩) ?_ ?_
 ·exact leX [.p 7002 9 1 (rows Qi ([]:List Bt)),.p 7001 5 1 (rows QP ([]:List Int))]
 ·clear hx5;intro s2 y3 g4 hy3;(conv=>whnf);refine Qd tOk ?_;(conv=>whnf);refine QC g4 (fun _ g4=>?_) (fun _ g4=>?_)
  ·(conv=>whnf);refine Qd tOk ?_;(conv=>whnf);refine Qd tOk ?_;(conv=>whnf);refine gdI g4 (fun g4=>?_);(conv=>whnf);refine gdI g4 (fun g4=>?_);(conv=>whnf);refine QC g4 (fun _ g4=>?_) (fun _ g4=>?_)
   ·(conv=>whnf);obtain rfl:=sj_ g4;obtain rfl:=hy3 _ rfl;obtain rfl:=sj_ h;exact lfP [.p 5001 9 1 (rows Qi ([]:List Bt))]
   ·(conv=>whnf);refine Qd tOk ?_;(conv=>whnf);refine gdI g4 (fun g4=>?_);(conv=>whnf);refine QC g4 (fun _ g4=>?_) (fun _ g4=>?_)
    ·(conv=>whnf);refine gdI g4 (fun g4=>?_);(conv=>whnf);refine J1 (enc:=QP) ([(JL x1 s2.2.2.toNat)]:List Int) ?_;(conv=>whnf);refine gdI g4 (fun g4=>?_);refine QfZ (enc:=QP) (xs:=s2.1) (ys:=([(JL x1 s2.2.2.toNat)]:List Int)) ?_;(conv=>whnf);refine Qd tOk ?_;(conv=>whnf);refine QC g4 (fun _ g4=>?_) (fun _ g4=>?_)
     ·(conv=>whnf);obtain rfl:=sj_ g4;obtain rfl:=hy3 _ rfl;obtain rfl:=sj_ h;exact lfP [.p 5001 9 1 (rows Qi ([]:List Bt))]
     ·(conv=>whnf);obtain rfl:=sj_ g4;exact⟨_,rfl,leX []⟩
    ·(conv=>whnf);refine QC g4 (fun _ g4=>?_) (fun _ g4=>?_)
     ·(conv=>whnf);refine And.intro bytes_row ?_;(conv=>whnf);refine J1 (enc:=Qi) ([(QfY (QpT s2.1.length (rows QP s2.1)))]:List Bt) ?_;(conv=>whnf);refine gdI g4 (fun g4=>?_);refine QfZ (enc:=Qi) (xs:=s2.2.1) (ys:=([(QfY (QpT s2.1.length (rows QP s2.1)))]:List Bt)) ?_;(conv=>whnf);refine QC g4 (fun _ g4=>?_) (fun _ g4=>?_)
      ·(conv=>whnf);obtain rfl:=sj_ g4;obtain rfl:=hy3 _ rfl;obtain rfl:=sj_ h;exact lfP [.p 5001 9 1 (rows Qi ([]:List Bt))]
      ·(conv=>whnf);obtain rfl:=sj_ g4;exact⟨_,rfl,leX [.k [61,7001],.p 7001 5 1 (rows QP ([]:List Int))]⟩
     ·(conv=>whnf);obtain rfl:=sj_ g4;exact⟨_,rfl,leX []⟩
  ·(conv=>whnf);obtain rfl:=sj_ g4;obtain rfl:=hy3 _ rfl;obtain rfl:=sj_ h;exact lfP [.s [(5001,7002),(7002,5001)]]
def JP (a0:Int) (a1:Int) (a2:Int):Option (Bool):=
 some ((decide (a0≥a1))&&(decide (a0≤a2)))
theorem QcC {a0:Int} {a1:Int} {a2:Int} {r:Bool} (h:JP a0 a1 a2=some r):PureC prog 239 [dI a0,dI a1,dI a2] (dB r) []:=by
 refine Qj tOk (fn:=f239) (c:=Ql f239) rfl rfl ?_;unfold JP at h;(conv=>whnf);obtain rfl:=sj_ h;exact lfP []
def JQ (a0:Bt):Option (Bool):=
 bd (JP ((a0.size:Nat):Int) 1 8) fun x1=>
(if(!x1)=true then
 some false
else
 bd (lp (σ:=Int) (β:=(Unit⊕Unit)) (fun s2=>
(if(decide (s2<((a0.size:Nat):Int)))=true then
 gd ((0:Int)≤s2∧s2<((a0.size:Nat):Int))<|
 bd (JP (IntKind.i64.wrap (JL a0 s2.toNat)) 97 122) fun x7=>
 gd ((!x7)=true→((0:Int)≤s2∧s2<((a0.size:Nat):Int)))<|
 bd (Qt ((!x7)=true) (JP (IntKind.i64.wrap (JL a0 s2.toNat)) 48 57)) fun x9=>
 gd (((!x7)&&(!x9))=true→((0:Int)≤s2∧s2<((a0.size:Nat):Int)))<|
(if(((!x7)&&(!x9))&&((JL a0 s2.toNat) !=45))=true then
 some (.inr (.inl ()))
else
 some (.inl (IntKind.i64.wrap (s2+1))))
else
 some (.inr (.inr ())))) 0) fun x5=>
(match x5 with
| .inl d11=>
 some false
| .inr d12=>
 some true))
theorem Qdh {a0:Bt} {r:Bool} (h:JQ a0=some r):PureC prog 296 [.d (.str a0)] (dB r) []:=by
 refine Qj tOk (fn:=f296) (c:=Ql f296) rfl rfl ?_;unfold JQ at h;(conv=>whnf);refine Qd tOk ?_;(conv=>whnf);obtain⟨x1,hx1,h⟩:=Qa h;refine cC 0 (QcC hx1) ?_;clear hx1;(conv=>whnf);refine QC h (fun _ h=>?_) (fun _ h=>?_)
 ·(conv=>whnf);obtain rfl:=sj_ h;exact lfP []
 ·(conv=>whnf);refine Qd tOk ?_;(conv=>whnf);obtain⟨x5,hx5,h⟩:=Qa h;refine QD tOk hx5 (fun s2=>⟨0,34,[(0,.d (.str a0)),(3,dI s2)],[],[],[]⟩) ?_ ?_
  ·exact leX []
  ·clear hx5;intro s2 y3 g4 hy3;(conv=>whnf);refine Qd tOk ?_;(conv=>whnf);refine QC g4 (fun _ g4=>?_) (fun _ g4=>?_)
   ·(conv=>whnf);refine Qd tOk ?_;(conv=>whnf);refine gdI g4 (fun g4=>?_);(conv=>whnf);obtain⟨x7,hx7,g4⟩:=Qa g4;refine cC 0 (QcC hx7) ?_;clear hx7;(conv=>whnf);refine gdI g4 (fun g4=>?_);(conv=>whnf);obtain⟨x9,hx9,g4⟩:=Qa g4;refine cG (fun c0=>QcC (Qg hx9 c0)) ?_;(conv=>whnf);refine gdI g4 (fun g4=>?_);(conv=>whnf);refine QC g4 (fun _ g4=>?_) (fun _ g4=>?_)
    ·(conv=>whnf);obtain rfl:=sj_ g4;obtain rfl:=hy3 _ rfl;obtain rfl:=sj_ h;exact lfP []
    ·(conv=>whnf);obtain rfl:=sj_ g4;exact⟨_,rfl,leX []⟩
   ·(conv=>whnf);obtain rfl:=sj_ g4;obtain rfl:=hy3 _ rfl;obtain rfl:=sj_ h;exact lfP []
def Jp (a0:Bt) (a1:Int):Option ((List Bt)):=
 bd (lp (σ:=List Bt×Int×Int) (β:=(Nat×Int×(List Bt))) (fun s1=>
(if(decide (s1.2.2<((a0.size:Nat):Int)))=true then
 gd ((0:Int)≤s1.2.2∧s1.2.2<((a0.size:Nat):Int))<|
(if((JL a0 s1.2.2.toNat)==a1)=true then
 gd ((0:Int)≤s1.2.1∧s1.2.1≤s1.2.2∧s1.2.2≤((a0.size:Nat):Int))<|
 gd (((s1.1.length)+(([(a0.extract s1.2.1.toNat s1.2.2.toNat)]:List Bt).length))*(16+1)≤70368744177664)<|
 some (.inl ((s1.1++([(a0.extract s1.2.1.toNat s1.2.2.toNat)]:List Bt)),IntKind.i64.wrap (s1.2.2+1),IntKind.i64.wrap (s1.2.2+1)))
else
 some (.inl (s1.1,s1.2.1,IntKind.i64.wrap (s1.2.2+1))))
else
 some (.inr (s1.1.length,s1.2.1,s1.1)))) (([]:List Bt),0,0)) fun x4=>
 gd ((0:Int)≤x4.2.1∧x4.2.1≤((a0.size:Nat):Int)∧((a0.size:Nat):Int)≤((a0.size:Nat):Int))<|
 gd (((x4.1)+(([(a0.extract x4.2.1.toNat ((a0.size:Nat):Int).toNat)]:List Bt).length))*(16+1)≤70368744177664)<|
 some (x4.2.2++([(a0.extract x4.2.1.toNat ((a0.size:Nat):Int).toNat)]:List Bt))
theorem Qfh {a0:Bt} {a1:Int} {r:(List Bt)} (h:Jp a0 a1=some r):PureC prog 237 [.d (.str a0),.d (.int .u8 a1)] (.osl 5001 0 r.length) [⟨5001,9,1,r.length,rows Qi r⟩]:=by
 refine Qj tOk (fn:=f237) (c:=Ql f237) rfl rfl ?_;unfold Jp at h;(conv=>whnf);refine Qd tOk ?_;(conv=>whnf);obtain⟨x4,hx4,h⟩:=Qa h;refine QD tOk hx4 (fun s1=>⟨0,35,[(0,.d (.str a0)),(1,.d (.int .u8 a1)),(5,.osl 7001 0 s1.1.length),(6,dI s1.2.1),(7,dI s1.2.2)],[],[(7001,.arr 9 1 s1.1.length (rows Qi s1.1))],[]⟩) ?_ ?_
 ·exact leX [.p 7001 9 1 (rows Qi ([]:List Bt))]
 ·clear hx4;intro s1 y2 g3 hy2;(conv=>whnf);refine Qd tOk ?_;(conv=>whnf);refine QC g3 (fun _ g3=>?_) (fun _ g3=>?_)
  ·(conv=>whnf);refine Qd tOk ?_;(conv=>whnf);refine gdI g3 (fun g3=>?_);(conv=>whnf);refine QC g3 (fun _ g3=>?_) (fun _ g3=>?_)
   ·(conv=>whnf);refine gdI g3 (fun g3=>?_);(conv=>whnf);refine J1 (enc:=Qi) ([(a0.extract s1.2.1.toNat s1.2.2.toNat)]:List Bt) ?_;(conv=>whnf);refine gdI g3 (fun g3=>?_);refine QfZ (enc:=Qi) (xs:=s1.1) (ys:=([(a0.extract s1.2.1.toNat s1.2.2.toNat)]:List Bt)) ?_;(conv=>whnf);obtain rfl:=sj_ g3;exact⟨_,rfl,leX []⟩
   ·(conv=>whnf);obtain rfl:=sj_ g3;exact⟨_,rfl,leX []⟩
  ·(conv=>whnf);obtain rfl:=sj_ g3;obtain rfl:=hy2 _ rfl;refine gdI h (fun h=>?_);(conv=>whnf);refine J1 (enc:=Qi) ([(a0.extract (s1.1.length,s1.2.1,s1.1).2.1.toNat ((a0.size:Nat):Int).toNat)]:List Bt) ?_;(conv=>whnf);refine gdI h (fun h=>?_);refine QfZ (enc:=Qi) (xs:=(s1.1.length,s1.2.1,s1.1).2.2) (ys:=([(a0.extract (s1.1.length,s1.2.1,s1.1).2.1.toNat ((a0.size:Nat):Int).toNat)]:List Bt)) ?_;(conv=>whnf);obtain rfl:=sj_ h;exact lfP [.s [(5001,7001),(7001,5001)]]
def QcK:Option ((List Bt)):=
 some ([(⟨#[100,111,111,114]⟩:Bt),(⟨#[104,111,115,116]⟩:Bt),(⟨#[110,97,116]⟩:Bt),(⟨#[112,101,101,114]⟩:Bt),(⟨#[112,111,114,116]⟩:Bt),(⟨#[114,111,117,116,101]⟩:Bt),(⟨#[114,117,108,101]⟩:Bt),(⟨#[117,115,101,114]⟩:Bt)]:List Bt)
theorem Qkj {r:(List Bt)} (h:QcK=some r):PureC prog 348 [] (.osl 5001 0 r.length) [⟨5001,9,1,r.length,rows Qi r⟩]:=by
 refine Qj tOk (fn:=f348) (c:=Ql f348) rfl rfl ?_;unfold QcK at h;(conv=>whnf);refine J1 (enc:=Qi) ([(⟨#[100,111,111,114]⟩:Bt),(⟨#[104,111,115,116]⟩:Bt),(⟨#[110,97,116]⟩:Bt),(⟨#[112,101,101,114]⟩:Bt),(⟨#[112,111,114,116]⟩:Bt),(⟨#[114,111,117,116,101]⟩:Bt),(⟨#[114,117,108,101]⟩:Bt),(⟨#[117,115,101,114]⟩:Bt)]:List Bt) ?_;(conv=>whnf);obtain rfl:=sj_ h;exact lfP [.s [(1,5001),(5001,1)]]
def QbW (a0:(List Bt)) (a1:Bt):Option (Bool):=
 bd (lp (σ:=Int) (β:=(Unit⊕Unit)) (fun s1=>
(if(decide (s1<((a0.length:Nat):Int)))=true then
 gd ((0:Int)≤s1∧s1<((a0.length:Nat):Int))<|
(if((a0.getD s1.toNat default)==a1)=true then
 some (.inr (.inl ()))
else
 some (.inl (IntKind.i64.wrap (s1+1))))
else
 some (.inr (.inr ())))) 0) fun x4=>
(match x4 with
| .inl d6=>
 some true
| .inr d7=>
 some false)
theorem QhS {a0:(List Bt)} {a1:Bt} {r:Bool} (h:QbW a0 a1=some r):PureC prog 163 [.d (slD Qi a0),.d (.str a1)] (dB r) []:=by
 refine Qj tOk (fn:=f163) (c:=Ql f163) rfl rfl ?_;unfold QbW at h;(conv=>whnf);refine Qd tOk ?_;(conv=>whnf);obtain⟨x4,hx4,h⟩:=Qa h;refine QD tOk hx4 (fun s1=>⟨0,18,[(0,.d (slD Qi a0)),(1,.d (.str a1)),(5,dI s1)],[],[],[]⟩) ?_ ?_
 ·exact leX []
 ·clear hx4;intro s1 y2 g3 hy2;(conv=>whnf);refine Qd tOk ?_;(conv=>whnf);refine QC g3 (fun _ g3=>?_) (fun _ g3=>?_)
  ·(conv=>whnf);refine Qd tOk ?_;(conv=>whnf);refine gdI g3 (fun g3=>?_);(conv=>whnf);refine QC g3 (fun _ g3=>?_) (fun _ g3=>?_)
   ·(conv=>whnf);obtain rfl:=sj_ g3;obtain rfl:=hy2 _ rfl;obtain rfl:=sj_ h;exact lfP []
   ·(conv=>whnf);obtain rfl:=sj_ g3;exact⟨_,rfl,leX []⟩
  ·(conv=>whnf);obtain rfl:=sj_ g3;obtain rfl:=hy2 _ rfl;obtain rfl:=sj_ h;exact lfP []
def QaY (a0:Bt):Option (Bool):=
(if((a0==(⟨#[97,108,108]⟩:Bt))||(a0==(⟨#[110,111,110,101]⟩:Bt)))=true then
 some true
else
 bd (Jp a0 44) fun x1=>
 bd (lp (σ:=Int) (β:=(Unit⊕Unit)) (fun s2=>
(if(decide (s2<((x1.length:Nat):Int)))=true then
 bd (QcK) fun x6=>
 gd ((0:Int)≤s2∧s2<((x1.length:Nat):Int))<|
 bd (QbW x6 (x1.getD s2.toNat default)) fun x8=>
 gd ((decide (s2>0))=true→((!x8)=false→((0:Int)≤IntKind.i64.wrap (s2-1)∧IntKind.i64.wrap (s2-1)<((x1.length:Nat):Int))))<|
 gd ((decide (s2>0))=true→((!x8)=false→((0:Int)≤s2∧s2<((x1.length:Nat):Int))))<|
(if((!x8)||((decide (s2>0))&&(!(bsl (x1.getD ((IntKind.i64.wrap (s2-1)).toNat) default) (x1.getD s2.toNat default)))))=true then
 some (.inr (.inl ()))
else
 some (.inl (IntKind.i64.wrap (s2+1))))
else
 some (.inr (.inr ())))) 0) fun x5=>
(match x5 with
| .inl d11=>
 some false
| .inr d12=>
 some true))
theorem QjC {a0:Bt} {r:Bool} (h:QaY a0=some r):PureC prog 297 [.d (.str a0)] (dB r) []:=by
 refine Qj tOk (fn:=f297) (c:=Ql f297) rfl rfl ?_;unfold QaY at h;(conv=>whnf);refine Qd tOk ?_;(conv=>whnf);refine QC h (fun _ h=>?_) (fun _ h=>?_)
 ·(conv=>whnf);obtain rfl:=sj_ h;exact lfP []
 ·(conv=>whnf);obtain⟨x1,hx1,h⟩:=Qa h;refine cC 1000 (Qfh hx1) ?_;clear hx1;(conv=>whnf);refine Qd tOk ?_;(conv=>whnf);obtain⟨x5,hx5,h⟩:=Qa h;refine QD tOk hx5 (fun s2=>⟨0,42,[(3,.osl 6001 0 x1.length),(4,dI s2)],[],[(6001,.arr 9 1 x1.length (rows Qi x1))],[]⟩) ?_ ?_
  ·exact leX []
  ·clear hx5;intro s2 y3 g4 hy3;(conv=>whnf);refine Qd tOk ?_;(conv=>whnf);refine QC g4 (fun _ g4=>?_) (fun _ g4=>?_)
   ·(conv=>whnf);refine Qd tOk ?_;(conv=>whnf);obtain⟨x6,hx6,g4⟩:=Qa g4;obtain⟨g7,g4⟩:=Qh g4;obtain⟨x8,hx8,g4⟩:=Qa g4;obtain⟨g9,g4⟩:=Qh g4;obtain⟨g10,g4⟩:=Qh g4;refine Zq tOk [.u 0 2000 (.osl 5001 0 x6.length) [⟨5001,9,1,x6.length,rows Qi x6⟩],.u 5 0 (dB x8) []] 23 [] [0,0,0,6,14,31,63,127,255,511,1023,2047,2047,6143,16383,32767,2047,2047,198655,460799,1048575,2097151,4194303] [] ?_;(conv=>whnf);refine And.intro (Qo (Qkj hx6) (by kernel_rfl)) ?_;(conv=>whnf);refine And.intro g7 ?_;clear g7;(conv=>whnf);refine And.intro (Qo (QhS hx8) (by kernel_rfl)) ?_;(conv=>whnf);refine And.intro g9 ?_;clear g9;(conv=>whnf);refine And.intro g10 ?_;clear g10;(conv=>whnf);refine And.intro (by kernel_rfl) ?_;(conv=>whnf);refine QC g4 (fun _ g4=>?_) (fun _ g4=>?_)
    ·(conv=>whnf);obtain rfl:=sj_ g4;obtain rfl:=hy3 _ rfl;obtain rfl:=sj_ h;exact lfP []
    ·(conv=>whnf);obtain rfl:=sj_ g4;exact⟨_,rfl,leX []⟩
   ·(conv=>whnf);obtain rfl:=sj_ g4;obtain rfl:=hy3 _ rfl;obtain rfl:=sj_ h;exact lfP []
def QR (a0:Bt):Option (Int):=
 bd (JP ((a0.size:Nat):Int) 1 6) fun x1=>
 gd ((decide (((a0.size:Nat):Int)>1))=true→((!x1)=false→((0:Int)≤(0:Int)∧(0:Int)<((a0.size:Nat):Int))))<|
(if((!x1)||((decide (((a0.size:Nat):Int)>1))&&((JL a0 0)==48)))=true then
 some (-1)
else
 bd (lp (σ:=Int×Int) (β:=(Unit⊕Int)) (fun s3=>
(if(decide (s3.2<((a0.size:Nat):Int)))=true then
 gd ((0:Int)≤s3.2∧s3.2<((a0.size:Nat):Int))<|
 bd (JP (IntKind.i64.wrap (JL a0 s3.2.toNat)) 48 57) fun x8=>
(if(!x8)=true then
 some (.inr (.inl ()))
else
 gd ((0:Int)≤s3.2∧s3.2<((a0.size:Nat):Int))<|
 some (.inl (IntKind.i64.wrap ((IntKind.i64.wrap (s3.1*10))+(IntKind.i64.wrap (IntKind.u8.wrap ((JL a0 s3.2.toNat) -48)))),IntKind.i64.wrap (s3.2+1))))
else
 some (.inr (.inr s3.1)))) (0,0)) fun x6=>
(match x6 with
| .inl d10=>
 some (-1)
| .inr d11=>
 some d11))
theorem Q4 {a0:Bt} {r:Int} (h:QR a0=some r):PureC prog 151 [.d (.str a0)] (dI r) []:=by
 refine Qj tOk (fn:=f151) (c:=Ql f151) rfl rfl ?_;unfold QR at h;(conv=>whnf);refine Qd tOk ?_;(conv=>whnf);obtain⟨x1,hx1,h⟩:=Qa h;refine cC 0 (QcC hx1) ?_;clear hx1;(conv=>whnf);refine gdI h (fun h=>?_);(conv=>whnf);refine QC h (fun _ h=>?_) (fun _ h=>?_)
 ·(conv=>whnf);obtain rfl:=sj_ h;exact lfP []
 ·(conv=>whnf);refine Qd tOk ?_;(conv=>whnf);obtain⟨x6,hx6,h⟩:=Qa h;refine QD tOk hx6 (fun s3=>⟨0,40,[(0,.d (.str a0)),(3,dI s3.1),(4,dI s3.2)],[],[],[]⟩) ?_ ?_
  ·exact leX []
  ·clear hx6;intro s3 y4 g5 hy4;(conv=>whnf);refine Qd tOk ?_;(conv=>whnf);refine QC g5 (fun _ g5=>?_) (fun _ g5=>?_)
   ·(conv=>whnf);refine Qd tOk ?_;(conv=>whnf);refine Qd tOk ?_;(conv=>whnf);refine gdI g5 (fun g5=>?_);(conv=>whnf);obtain⟨x8,hx8,g5⟩:=Qa g5;refine cC 0 (QcC hx8) ?_;clear hx8;(conv=>whnf);refine QC g5 (fun _ g5=>?_) (fun _ g5=>?_)
    ·(conv=>whnf);obtain rfl:=sj_ g5;obtain rfl:=hy4 _ rfl;obtain rfl:=sj_ h;exact lfP []
    ·(conv=>whnf);refine gdI g5 (fun g5=>?_);(conv=>whnf);obtain rfl:=sj_ g5;exact⟨_,rfl,leX []⟩
   ·(conv=>whnf);obtain rfl:=sj_ g5;obtain rfl:=hy4 _ rfl;obtain rfl:=sj_ h;exact lfP []
def Zi (a0:Bt) (a1:Int) (a2:Int):Option (Bool):=
 bd (QR a0) fun x1=>
 bd (JP x1 a1 a2) fun x2=>
 some x2
theorem ZP {a0:Bt} {a1:Int} {a2:Int} {r:Bool} (h:Zi a0 a1 a2=some r):PureC prog 238 [.d (.str a0),dI a1,dI a2] (dB r) []:=by
 refine Qj tOk (fn:=f238) (c:=Ql f238) rfl rfl ?_;unfold Zi at h;(conv=>whnf);obtain⟨x1,hx1,h⟩:=Qa h;refine cC 0 (Q4 hx1) ?_;clear hx1;(conv=>whnf);obtain⟨x2,hx2,h⟩:=Qa h;refine cC 0 (QcC hx2) ?_;clear hx2;(conv=>whnf);obtain rfl:=sj_ h;exact lfP []
def QZ (a0:Bt):Option (Int):=
 bd (Jp a0 46) fun x1=>
 gd ((((x1.length:Nat):Int) !=2)=false→((0:Int)≤0∧0<((x1.length:Nat):Int)))<|
 bd (Qt ((((x1.length:Nat):Int) !=2)=false) (Zi (x1.getD 0 default) 0 255)) fun x3=>
 gd (((((x1.length:Nat):Int) !=2)||(!x3))=false→((0:Int)≤1∧1<((x1.length:Nat):Int)))<|
 bd (Qt (((((x1.length:Nat):Int) !=2)||(!x3))=false) (Zi (x1.getD 1 default) 0 255)) fun x5=>
(if(((((x1.length:Nat):Int) !=2)||(!x3))||(!x5))=true then
 some (-1)
else
 gd ((0:Int)≤0∧0<((x1.length:Nat):Int))<|
 bd (QR (x1.getD 0 default)) fun x7=>
 gd ((0:Int)≤1∧1<((x1.length:Nat):Int))<|
 bd (QR (x1.getD 1 default)) fun x9=>
 some (IntKind.i64.wrap ((IntKind.i64.wrap (256*x7))+x9)))
theorem Zr {a0:Bt} {r:Int} (h:QZ a0=some r):PureC prog 150 [.d (.str a0)] (dI r) []:=by
 refine Qj tOk (fn:=f150) (c:=Ql f150) rfl rfl ?_;unfold QZ at h;(conv=>whnf);obtain⟨x1,hx1,h⟩:=Qa h;refine cC 1000 (Qfh hx1) ?_;clear hx1;(conv=>whnf);refine Qd tOk ?_;(conv=>whnf);refine gdI h (fun h=>?_);(conv=>whnf);obtain⟨x3,hx3,h⟩:=Qa h;refine cG (fun c0=>ZP (Qg hx3 c0)) ?_;(conv=>whnf);refine gdI h (fun h=>?_);(conv=>whnf);obtain⟨x5,hx5,h⟩:=Qa h;refine cG (fun c0=>ZP (Qg hx5 c0)) ?_;(conv=>whnf);refine QC h (fun _ h=>?_) (fun _ h=>?_)
 ·(conv=>whnf);obtain rfl:=sj_ h;exact lfP []
 ·(conv=>whnf);obtain⟨g6,h⟩:=Qh h;obtain⟨x7,hx7,h⟩:=Qa h;obtain⟨g8,h⟩:=Qh h;obtain⟨x9,hx9,h⟩:=Qa h;refine Zq tOk [.u 3 0 (dI x7) [],.u 8 0 (dI x9) []] 11 [] [0,1,3,7,15,0,32,96,239,511,1023] [] ?_;(conv=>whnf);refine And.intro g6 ?_;clear g6;(conv=>whnf);refine And.intro (Qo (Q4 hx7) (by kernel_rfl)) ?_;(conv=>whnf);refine And.intro g8 ?_;clear g8;(conv=>whnf);refine And.intro (Qo (Q4 hx9) (by kernel_rfl)) ?_;(conv=>whnf);refine And.intro (by kernel_rfl) ?_;(conv=>whnf);obtain rfl:=sj_ h;exact lfP []
def Qca (a0:Int):Option (Int):=
 bd (lp (σ:=Int×Int) (β:=(Int)) (fun s1=>
(if(decide (s1.2<16))=true then
 some (.inl (IntKind.i64.wrap (s1.1*2),IntKind.i64.wrap (s1.2+1)))
else
 some (.inr s1.1))) (1,a0)) fun x4=>
 some x4
theorem QlA {a0:Int} {r:Int} (h:Qca a0=some r):PureC prog 253 [dI a0] (dI r) []:=by
 refine Qj tOk (fn:=f253) (c:=Ql f253) rfl rfl ?_;unfold Qca at h;(conv=>whnf);refine Qd tOk ?_;(conv=>whnf);obtain⟨x4,hx4,h⟩:=Qa h;refine QD tOk hx4 (fun s1=>⟨0,13,[(3,dI s1.1),(4,dI s1.2)],[],[],[]⟩) ?_ ?_
 ·exact leX []
 ·clear hx4;intro s1 y2 g3 hy2;(conv=>whnf);refine Qd tOk ?_;(conv=>whnf);refine QC g3 (fun _ g3=>?_) (fun _ g3=>?_)
  ·(conv=>whnf);refine Qd tOk ?_;(conv=>whnf);obtain rfl:=sj_ g3;exact⟨_,rfl,leX []⟩
  ·(conv=>whnf);obtain rfl:=sj_ g3;obtain rfl:=hy2 _ rfl;obtain rfl:=sj_ h;exact lfP []
def Zx (a0:Bt):Option (Int×Int):=
 bd (Jp a0 47) fun x1=>
 gd ((((x1.length:Nat):Int) !=2)=false→((0:Int)≤0∧0<((x1.length:Nat):Int)))<|
 bd (Qt ((((x1.length:Nat):Int) !=2)=false) (QZ (x1.getD 0 default))) fun x3=>
 gd (((((x1.length:Nat):Int) !=2)||(decide (x3<0)))=false→((0:Int)≤1∧1<((x1.length:Nat):Int)))<|
 bd (Qt (((((x1.length:Nat):Int) !=2)||(decide (x3<0)))=false) (Zi (x1.getD 1 default) 0 16)) fun x5=>
(if(((((x1.length:Nat):Int) !=2)||(decide (x3<0)))||(!x5))=true then
 some (-1,0)
else
 gd ((0:Int)≤0∧0<((x1.length:Nat):Int))<|
 bd (QZ (x1.getD 0 default)) fun x7=>
 gd ((0:Int)≤1∧1<((x1.length:Nat):Int))<|
 bd (QR (x1.getD 1 default)) fun x9=>
 bd (Qca x9) fun x10=>
 gd ((x10:Int)≠0)<|
(if(((x7:Int).tmod x10) !=0)=true then
 some (-1,0)
else
 some (x7,x10)))
theorem Qaf {a0:Bt} {r:Int×Int} (h:Zx a0=some r):PureC prog 165 [.d (.str a0)] (.tup [dI r.1,dI r.2]) []:=by
 refine Qj tOk (fn:=f165) (c:=Ql f165) rfl rfl ?_;unfold Zx at h;(conv=>whnf);obtain⟨x1,hx1,h⟩:=Qa h;refine cC 1000 (Qfh hx1) ?_;clear hx1;(conv=>whnf);refine Qd tOk ?_;(conv=>whnf);refine gdI h (fun h=>?_);(conv=>whnf);obtain⟨x3,hx3,h⟩:=Qa h;refine cG (fun c0=>Zr (Qg hx3 c0)) ?_;(conv=>whnf);refine gdI h (fun h=>?_);(conv=>whnf);obtain⟨x5,hx5,h⟩:=Qa h;refine cG (fun c0=>ZP (Qg hx5 c0)) ?_;(conv=>whnf);refine QC h (fun _ h=>?_) (fun _ h=>?_)
 ·(conv=>whnf);obtain rfl:=sj_ h;exact lfP []
 ·(conv=>whnf);refine gdI h (fun h=>?_);(conv=>whnf);obtain⟨x7,hx7,h⟩:=Qa h;refine cC 0 (Zr hx7) ?_;clear hx7;(conv=>whnf);refine gdI h (fun h=>?_);(conv=>whnf);obtain⟨x9,hx9,h⟩:=Qa h;refine cC 0 (Q4 hx9) ?_;clear hx9;(conv=>whnf);obtain⟨x10,hx10,h⟩:=Qa h;refine cC 0 (QlA hx10) ?_;clear hx10;(conv=>whnf);refine Qd tOk ?_;(conv=>whnf);refine gdI h (fun h=>?_);(conv=>whnf);refine QC h (fun _ h=>?_) (fun _ h=>?_)
  ·(conv=>whnf);obtain rfl:=sj_ h;exact lfP []
  ·(conv=>whnf);obtain rfl:=sj_ h;exact lfP []
def ZF (a0:Bt):Option (Bool):=
 bd (Zx a0) fun x1=>
 some (decide (x1.1≥0))
theorem Qaj {a0:Bt} {r:Bool} (h:ZF a0=some r):PureC prog 298 [.d (.str a0)] (dB r) []:=by
 refine Qj tOk (fn:=f298) (c:=Ql f298) rfl rfl ?_;unfold ZF at h;(conv=>whnf);obtain⟨x1,hx1,h⟩:=Qa h;refine cC 0 (Qaf hx1) ?_;clear hx1;(conv=>whnf);obtain rfl:=sj_ h;exact lfP []
def Qcb (a0:(List Bt)):Option (Bool):=
(if(((a0.length:Nat):Int)==0)=true then
 some false
else
 gd ((0:Int)≤0∧0<((a0.length:Nat):Int))<|
(if((a0.getD 0 default)==(⟨#[104,111,115,116]⟩:Bt))=true then
 gd ((((a0.length:Nat):Int)==2)=true→((0:Int)≤1∧1<((a0.length:Nat):Int)))<|
 bd (Qt ((((a0.length:Nat):Int)==2)=true) (JQ (a0.getD 1 default))) fun x3=>
 some ((((a0.length:Nat):Int)==2)&&x3)
else
(if((a0.getD 0 default)==(⟨#[117,115,101,114]⟩:Bt))=true then
 gd ((((a0.length:Nat):Int)==3)=true→((0:Int)≤1∧1<((a0.length:Nat):Int)))<|
 bd (Qt ((((a0.length:Nat):Int)==3)=true) (JQ (a0.getD 1 default))) fun x5=>
 gd (((((a0.length:Nat):Int)==3)&&x5)=true→((0:Int)≤2∧2<((a0.length:Nat):Int)))<|
 bd (Qt (((((a0.length:Nat):Int)==3)&&x5)=true) (QaY (a0.getD 2 default))) fun x7=>
 some (((((a0.length:Nat):Int)==3)&&x5)&&x7)
else
(if((a0.getD 0 default)==(⟨#[112,111,114,116]⟩:Bt))=true then
 gd ((((a0.length:Nat):Int)==5)=true→((((a0.length:Nat):Int)==3)=false→((0:Int)≤3∧3<((a0.length:Nat):Int))))<|
 gd (((((a0.length:Nat):Int)==5)&&((a0.getD 3 default)==(⟨#[105,110]⟩:Bt)))=true→((((a0.length:Nat):Int)==3)=false→((0:Int)≤4∧4<((a0.length:Nat):Int))))<|
 bd (Qt (((((a0.length:Nat):Int)==5)&&((a0.getD 3 default)==(⟨#[105,110]⟩:Bt)))=true∧(((a0.length:Nat):Int)==3)=false) (JQ (a0.getD 4 default))) fun x10=>
 gd (((((a0.length:Nat):Int)==3)||(((((a0.length:Nat):Int)==5)&&((a0.getD 3 default)==(⟨#[105,110]⟩:Bt)))&&x10))=true→((0:Int)≤1∧1<((a0.length:Nat):Int)))<|
 bd (Qt (((((a0.length:Nat):Int)==3)||(((((a0.length:Nat):Int)==5)&&((a0.getD 3 default)==(⟨#[105,110]⟩:Bt)))&&x10))=true) (Zi (a0.getD 1 default) 0 7)) fun x12=>
 gd ((((((a0.length:Nat):Int)==3)||(((((a0.length:Nat):Int)==5)&&((a0.getD 3 default)==(⟨#[105,110]⟩:Bt)))&&x10))&&x12)=true→((0:Int)≤2∧2<((a0.length:Nat):Int)))<|
 bd (Qt ((((((a0.length:Nat):Int)==3)||(((((a0.length:Nat):Int)==5)&&((a0.getD 3 default)==(⟨#[105,110]⟩:Bt)))&&x10))&&x12)=true) (ZF (a0.getD 2 default))) fun x14=>
 some ((((((a0.length:Nat):Int)==3)||(((((a0.length:Nat):Int)==5)&&((a0.getD 3 default)==(⟨#[105,110]⟩:Bt)))&&x10))&&x12)&&x14)
else
(if((a0.getD 0 default)==(⟨#[114,117,108,101]⟩:Bt))=true then
 gd ((((a0.length:Nat):Int)==7)=true→((0:Int)≤1∧1<((a0.length:Nat):Int)))<|
 bd (Qt ((((a0.length:Nat):Int)==7)=true) (JQ (a0.getD 1 default))) fun x16=>
 gd (((((a0.length:Nat):Int)==7)&&x16)=true→((0:Int)≤2∧2<((a0.length:Nat):Int)))<|
 bd (Qt (((((a0.length:Nat):Int)==7)&&x16)=true) (Zi (a0.getD 2 default) 0 99)) fun x18=>
 gd ((((((a0.length:Nat):Int)==7)&&x16)&&x18)=true→((0:Int)≤3∧3<((a0.length:Nat):Int)))<|
 gd (((a0.getD 3 default)==(⟨#[112,101,114,109,105,116]⟩:Bt))=false→((((((a0.length:Nat):Int)==7)&&x16)&&x18)=true→((0:Int)≤3∧3<((a0.length:Nat):Int))))<|
 gd (((((((a0.length:Nat):Int)==7)&&x16)&&x18)&&(((a0.getD 3 default)==(⟨#[112,101,114,109,105,116]⟩:Bt))||((a0.getD 3 default)==(⟨#[100,101,110,121]⟩:Bt))))=true→((0:Int)≤4∧4<((a0.length:Nat):Int)))<|
 bd (Qt (((((((a0.length:Nat):Int)==7)&&x16)&&x18)&&(((a0.getD 3 default)==(⟨#[112,101,114,109,105,116]⟩:Bt))||((a0.getD 3 default)==(⟨#[100,101,110,121]⟩:Bt))))=true) (ZF (a0.getD 4 default))) fun x22=>
 gd ((((((((a0.length:Nat):Int)==7)&&x16)&&x18)&&(((a0.getD 3 default)==(⟨#[112,101,114,109,105,116]⟩:Bt))||((a0.getD 3 default)==(⟨#[100,101,110,121]⟩:Bt))))&&x22)=true→((0:Int)≤5∧5<((a0.length:Nat):Int)))<|
 bd (Qt ((((((((a0.length:Nat):Int)==7)&&x16)&&x18)&&(((a0.getD 3 default)==(⟨#[112,101,114,109,105,116]⟩:Bt))||((a0.getD 3 default)==(⟨#[100,101,110,121]⟩:Bt))))&&x22)=true) (ZF (a0.getD 5 default))) fun x24=>
 gd (((((((((a0.length:Nat):Int)==7)&&x16)&&x18)&&(((a0.getD 3 default)==(⟨#[112,101,114,109,105,116]⟩:Bt))||((a0.getD 3 default)==(⟨#[100,101,110,121]⟩:Bt))))&&x22)&&x24)=true→((0:Int)≤6∧6<((a0.length:Nat):Int)))<|
 bd (Qt (((((((((a0.length:Nat):Int)==7)&&x16)&&x18)&&(((a0.getD 3 default)==(⟨#[112,101,114,109,105,116]⟩:Bt))||((a0.getD 3 default)==(⟨#[100,101,110,121]⟩:Bt))))&&x22)&&x24)=true) (Zi (a0.getD 6 default) 0 7)) fun x26=>
 some (((((((((a0.length:Nat):Int)==7)&&x16)&&x18)&&(((a0.getD 3 default)==(⟨#[112,101,114,109,105,116]⟩:Bt))||((a0.getD 3 default)==(⟨#[100,101,110,121]⟩:Bt))))&&x22)&&x24)&&x26)
else
(if((a0.getD 0 default)==(⟨#[114,111,117,116,101]⟩:Bt))=true then
 gd ((((a0.length:Nat):Int)==3)=true→((0:Int)≤1∧1<((a0.length:Nat):Int)))<|
 bd (Qt ((((a0.length:Nat):Int)==3)=true) (ZF (a0.getD 1 default))) fun x28=>
 gd (((((a0.length:Nat):Int)==3)&&x28)=true→((0:Int)≤2∧2<((a0.length:Nat):Int)))<|
 bd (Qt (((((a0.length:Nat):Int)==3)&&x28)=true) (QZ (a0.getD 2 default))) fun x30=>
 some (((((a0.length:Nat):Int)==3)&&x28)&&(decide (x30≥0)))
else
(if((a0.getD 0 default)==(⟨#[112,101,101,114]⟩:Bt))=true then
 gd ((((a0.length:Nat):Int)==4)=true→((0:Int)≤1∧1<((a0.length:Nat):Int)))<|
 bd (Qt ((((a0.length:Nat):Int)==4)=true) (QZ (a0.getD 1 default))) fun x32=>
 gd (((((a0.length:Nat):Int)==4)&&(decide (x32≥0)))=true→((0:Int)≤2∧2<((a0.length:Nat):Int)))<|
 bd (Qt (((((a0.length:Nat):Int)==4)&&(decide (x32≥0)))=true) (Zi (a0.getD 2 default) 1 9)) fun x34=>
 gd ((((((a0.length:Nat):Int)==4)&&(decide (x32≥0)))&&x34)=true→((0:Int)≤3∧3<((a0.length:Nat):Int)))<|
 bd (Qt ((((((a0.length:Nat):Int)==4)&&(decide (x32≥0)))&&x34)=true) (Zi (a0.getD 3 default) 1 999999)) fun x36=>
 some ((((((a0.length:Nat):Int)==4)&&(decide (x32≥0)))&&x34)&&x36)
else
(if((a0.getD 0 default)==(⟨#[110,97,116]⟩:Bt))=true then
 gd ((((a0.length:Nat):Int)==5)=true→((0:Int)≤1∧1<((a0.length:Nat):Int)))<|
 bd (Qt ((((a0.length:Nat):Int)==5)=true) (ZF (a0.getD 1 default))) fun x38=>
 gd (((((a0.length:Nat):Int)==5)&&x38)=true→((0:Int)≤2∧2<((a0.length:Nat):Int)))<|
 bd (Qt (((((a0.length:Nat):Int)==5)&&x38)=true) (QZ (a0.getD 2 default))) fun x40=>
 gd ((((((a0.length:Nat):Int)==5)&&x38)&&(decide (x40≥0)))=true→((0:Int)≤3∧3<((a0.length:Nat):Int)))<|
 bd (Qt ((((((a0.length:Nat):Int)==5)&&x38)&&(decide (x40≥0)))=true) (Zi (a0.getD 3 default) 1 65535)) fun x42=>
 gd (((((((a0.length:Nat):Int)==5)&&x38)&&(decide (x40≥0)))&&x42)=true→((0:Int)≤4∧4<((a0.length:Nat):Int)))<|
 bd (Qt (((((((a0.length:Nat):Int)==5)&&x38)&&(decide (x40≥0)))&&x42)=true) (Zi (a0.getD 4 default) 1 65535)) fun x44=>
 some (((((((a0.length:Nat):Int)==5)&&x38)&&(decide (x40≥0)))&&x42)&&x44)
else
(if((a0.getD 0 default)==(⟨#[100,111,111,114]⟩:Bt))=true then
 gd ((((a0.length:Nat):Int)==5)=true→((0:Int)≤1∧1<((a0.length:Nat):Int)))<|
 bd (Qt ((((a0.length:Nat):Int)==5)=true) (Zi (a0.getD 1 default) 1 7)) fun x46=>
 gd (((((a0.length:Nat):Int)==5)&&x46)=true→((0:Int)≤2∧2<((a0.length:Nat):Int)))<|
 bd (Qt (((((a0.length:Nat):Int)==5)&&x46)=true) (Zi (a0.getD 2 default) 1 65535)) fun x48=>
 gd ((((((a0.length:Nat):Int)==5)&&x46)&&x48)=true→((0:Int)≤3∧3<((a0.length:Nat):Int)))<|
 bd (Qt ((((((a0.length:Nat):Int)==5)&&x46)&&x48)=true) (QZ (a0.getD 3 default))) fun x50=>
 gd (((((((a0.length:Nat):Int)==5)&&x46)&&x48)&&(decide (x50≥0)))=true→((0:Int)≤4∧4<((a0.length:Nat):Int)))<|
 bd (Qt (((((((a0.length:Nat):Int)==5)&&x46)&&x48)&&(decide (x50≥0)))=true) (Zi (a0.getD 4 default) 1 65535)) fun x52=>
 some (((((((a0.length:Nat):Int)==5)&&x46)&&x48)&&(decide (x50≥0)))&&x52)
else
 some false)))))))))
theorem QlB {a0:(List Bt)} {r:Bool} (h:Qcb a0=some r):PureC prog 254 [.d (slD Qi a0)] (dB r) []:=by
 refine Qj tOk (fn:=f254) (c:=Ql f254) rfl rfl ?_;unfold Qcb at h;(conv=>whnf);refine Qd tOk ?_;(conv=>whnf);refine QC h (fun _ h=>?_) (fun _ h=>?_)
 ·(conv=>whnf);obtain rfl:=sj_ h;exact lfP []
 ·(conv=>whnf);refine Qd tOk ?_;(conv=>whnf);refine gdI h (fun h=>?_);(conv=>whnf);refine QC h (fun _ h=>?_) (fun _ h=>?_)
  ·(conv=>whnf);refine gdI h (fun h=>?_);(conv=>whnf);obtain⟨x3,hx3,h⟩:=Qa h;refine cG (fun c0=>Qdh (Qg hx3 c0)) ?_;(conv=>whnf);obtain rfl:=sj_ h;exact lfP []
  ·(conv=>whnf);refine QC h (fun _ h=>?_) (fun _ h=>?_)
   ·(conv=>whnf);refine gdI h (fun h=>?_);(conv=>whnf);obtain⟨x5,hx5,h⟩:=Qa h;refine cG (fun c0=>Qdh (Qg hx5 c0)) ?_;(conv=>whnf);refine gdI h (fun h=>?_);(conv=>whnf);obtain⟨x7,hx7,h⟩:=Qa h;refine cG (fun c0=>QjC (Qg hx7 c0)) ?_;(conv=>whnf);obtain rfl:=sj_ h;exact lfP []
   ·(conv=>whnf);refine QC h (fun _ h=>?_) (fun _ h=>?_)
    ·(conv=>whnf);refine gdI h (fun h=>?_);(conv=>whnf);refine gdI h (fun h=>?_);(conv=>whnf);obtain⟨x10,hx10,h⟩:=Qa h;refine cG (fun c0 c1=>Qdh (Qg hx10 ⟨c0,c1⟩)) ?_;(conv=>whnf);refine gdI h (fun h=>?_);(conv=>whnf);obtain⟨x12,hx12,h⟩:=Qa h;refine cG (fun c0=>ZP (Qg hx12 c0)) ?_;(conv=>whnf);refine gdI h (fun h=>?_);(conv=>whnf);obtain⟨x14,hx14,h⟩:=Qa h;refine cG (fun c0=>Qaj (Qg hx14 c0)) ?_;(conv=>whnf);obtain rfl:=sj_ h;exact lfP []
    ·(conv=>whnf);refine QC h (fun _ h=>?_) (fun _ h=>?_)
     ·(conv=>whnf);refine gdI h (fun h=>?_);(conv=>whnf);obtain⟨x16,hx16,h⟩:=Qa h;refine cG (fun c0=>Qdh (Qg hx16 c0)) ?_;(conv=>whnf);refine gdI h (fun h=>?_);(conv=>whnf);obtain⟨x18,hx18,h⟩:=Qa h;refine cG (fun c0=>ZP (Qg hx18 c0)) ?_;(conv=>whnf);refine gdI h (fun h=>?_);(conv=>whnf);refine gdI h (fun h=>?_);(conv=>whnf);refine gdI h (fun h=>?_);(conv=>whnf);obtain⟨x22,hx22,h⟩:=Qa h;refine cG (fun c0=>Qaj (Qg hx22 c0)) ?_;(conv=>whnf);refine gdI h (fun h=>?_);(conv=>whnf);obtain⟨x24,hx24,h⟩:=Qa h;refine cG (fun c0=>Qaj (Qg hx24 c0)) ?_;(conv=>whnf);refine gdI h (fun h=>?_);(conv=>whnf);obtain⟨x26,hx26,h⟩:=Qa h;refine cG (fun c0=>ZP (Qg hx26 c0)) ?_;(conv=>whnf);obtain rfl:=sj_ h;exact lfP []
     ·(conv=>whnf);refine QC h (fun _ h=>?_) (fun _ h=>?_)
      ·(conv=>whnf);refine gdI h (fun h=>?_);(conv=>whnf);obtain⟨x28,hx28,h⟩:=Qa h;refine cG (fun c0=>Qaj (Qg hx28 c0)) ?_;(conv=>whnf);refine gdI h (fun h=>?_);(conv=>whnf);obtain⟨x30,hx30,h⟩:=Qa h;refine cG (fun c0=>Zr (Qg hx30 c0)) ?_;(conv=>whnf);obtain rfl:=sj_ h;exact lfP []
      ·(conv=>whnf);refine QC h (fun _ h=>?_) (fun _ h=>?_)
       ·(conv=>whnf);refine gdI h (fun h=>?_);(conv=>whnf);obtain⟨x32,hx32,h⟩:=Qa h;refine cG (fun c0=>Zr (Qg hx32 c0)) ?_;(conv=>whnf);refine gdI h (fun h=>?_);(conv=>whnf);obtain⟨x34,hx34,h⟩:=Qa h;refine cG (fun c0=>ZP (Qg hx34 c0)) ?_;(conv=>whnf);refine gdI h (fun h=>?_);(conv=>whnf);obtain⟨x36,hx36,h⟩:=Qa h;refine cG (fun c0=>ZP (Qg hx36 c0)) ?_;(conv=>whnf);obtain rfl:=sj_ h;exact lfP []
       ·(conv=>whnf);refine QC h (fun _ h=>?_) (fun _ h=>?_)
        ·(conv=>whnf);refine gdI h (fun h=>?_);(conv=>whnf);obtain⟨x38,hx38,h⟩:=Qa h;refine cG (fun c0=>Qaj (Qg hx38 c0)) ?_;(conv=>whnf);refine gdI h (fun h=>?_);(conv=>whnf);obtain⟨x40,hx40,h⟩:=Qa h;refine cG (fun c0=>Zr (Qg hx40 c0)) ?_;(conv=>whnf);refine gdI h (fun h=>?_);(conv=>whnf);obtain⟨x42,hx42,h⟩:=Qa h;refine cG (fun c0=>ZP (Qg hx42 c0)) ?_;(conv=>whnf);refine gdI h (fun h=>?_);(conv=>whnf);obtain⟨x44,hx44,h⟩:=Qa h;refine cG (fun c0=>ZP (Qg hx44 c0)) ?_;(conv=>whnf);obtain rfl:=sj_ h;exact lfP []
        ·(conv=>whnf);refine QC h (fun _ h=>?_) (fun _ h=>?_)
         ·(conv=>whnf);refine gdI h (fun h=>?_);(conv=>whnf);obtain⟨x46,hx46,h⟩:=Qa h;refine cG (fun c0=>ZP (Qg hx46 c0)) ?_;(conv=>whnf);refine gdI h (fun h=>?_);(conv=>whnf);obtain⟨x48,hx48,h⟩:=Qa h;refine cG (fun c0=>ZP (Qg hx48 c0)) ?_;(conv=>whnf);refine gdI h (fun h=>?_);(conv=>whnf);obtain⟨x50,hx50,h⟩:=Qa h;refine cG (fun c0=>Zr (Qg hx50 c0)) ?_;(conv=>whnf);refine gdI h (fun h=>?_);(conv=>whnf);obtain⟨x52,hx52,h⟩:=Qa h;refine cG (fun c0=>ZP (Qg hx52 c0)) ?_;(conv=>whnf);obtain rfl:=sj_ h;exact lfP []
         ·(conv=>whnf);obtain rfl:=sj_ h;exact lfP []
def Qbf (a0:(List Bt)) (a1:Bt):Option (Bt):=
 bd (lp (σ:=Bt×Int) (β:=(Bt)) (fun s1=>
(if(decide (s1.2<((a0.length:Nat):Int)))=true then
(if(decide (s1.2>0))=true then
 gd (s1.1.size+a1.size≤9223372036854775807)<|
 gd ((0:Int)≤s1.2∧s1.2<((a0.length:Nat):Int))<|
 gd ((s1.1++a1).size+(a0.getD s1.2.toNat default).size≤9223372036854775807)<|
 some (.inl (((s1.1++a1)++(a0.getD s1.2.toNat default)),IntKind.i64.wrap (s1.2+1)))
else
 gd ((0:Int)≤s1.2∧s1.2<((a0.length:Nat):Int))<|
 gd (s1.1.size+(a0.getD s1.2.toNat default).size≤9223372036854775807)<|
 some (.inl ((s1.1++(a0.getD s1.2.toNat default)),IntKind.i64.wrap (s1.2+1))))
else
 some (.inr s1.1))) ((⟨#[]⟩:Bt),0)) fun x4=>
 some x4
theorem QlC {a0:(List Bt)} {a1:Bt} {r:Bt} (h:Qbf a0 a1=some r):PureC prog 255 [.d (slD Qi a0),.d (.str a1)] (.d (.str r)) []:=by
 refine Qj tOk (fn:=f255) (c:=Ql f255) rfl rfl ?_;unfold Qbf at h;(conv=>whnf);refine Qd tOk ?_;(conv=>whnf);obtain⟨x4,hx4,h⟩:=Qa h;refine QD tOk hx4 (fun s1=>⟨0,25,[(0,.d (slD Qi a0)),(1,.d (.str a1)),(5,.d (.str s1.1)),(6,dI s1.2)],[],[],[]⟩) ?_ ?_
 ·exact leX []
 ·clear hx4;intro s1 y2 g3 hy2;(conv=>whnf);refine Qd tOk ?_;(conv=>whnf);refine QC g3 (fun _ g3=>?_) (fun _ g3=>?_)
  ·(conv=>whnf);refine Qd tOk ?_;(conv=>whnf);refine Qd tOk ?_;(conv=>whnf);refine QC g3 (fun _ g3=>?_) (fun _ g3=>?_)
   ·(conv=>whnf);refine gdI g3 (fun g3=>?_);(conv=>whnf);refine gdI g3 (fun g3=>?_);(conv=>whnf);refine gdI g3 (fun g3=>?_);(conv=>whnf);obtain rfl:=sj_ g3;exact⟨_,rfl,leX []⟩
   ·(conv=>whnf);refine gdI g3 (fun g3=>?_);(conv=>whnf);refine gdI g3 (fun g3=>?_);(conv=>whnf);obtain rfl:=sj_ g3;exact⟨_,rfl,leX []⟩
  ·(conv=>whnf);obtain rfl:=sj_ g3;obtain rfl:=hy2 _ rfl;obtain rfl:=sj_ h;exact lfP []
def Qbq (a0:Bt):Option (Bt×Bool):=
 bd (ZR a0) fun x1=>
 bd (Qt ((!x1.2)=false) (Qcb x1.1)) fun x2=>
(if((!x1.2)||(!x2))=true then
 some ((⟨#[]⟩:Bt),false)
else
 bd (Qbf x1.1 (⟨#[32]⟩:Bt)) fun x3=>
 some (x3,true))
theorem Qkk {a0:Bt} {r:Bt×Bool} (h:Qbq a0=some r):PureC prog 170 [.d (.str a0)] (.tup [.d (.str r.1),dB r.2]) []:=by
 refine Qj tOk (fn:=f170) (c:=Ql f170) rfl rfl ?_;unfold Qbq at h;(conv=>whnf);obtain⟨x1,hx1,h⟩:=Qa h;refine cC 1000 (Qcu hx1) ?_;clear hx1;(conv=>whnf);refine Qd tOk ?_;(conv=>whnf);obtain⟨x2,hx2,h⟩:=Qa h;refine cG (fun c0=>QlB (Qg hx2 c0)) ?_;(conv=>whnf);refine QC h (fun _ h=>?_) (fun _ h=>?_)
 ·(conv=>whnf);obtain rfl:=sj_ h;exact lfP []
 ·(conv=>whnf);obtain⟨x3,hx3,h⟩:=Qa h;refine cC 0 (QlC hx3) ?_;clear hx3;(conv=>whnf);obtain rfl:=sj_ h;exact lfP []
def Qcc (a0:Bt):Option (Bool):=
 bd (Qbq a0) fun x1=>
 some (x1.2&&(x1.1==a0))
theorem QlD {a0:Bt} {r:Bool} (h:Qcc a0=some r):PureC prog 103 [.d (.str a0)] (dB r) []:=by
 refine Qj tOk (fn:=f103) (c:=Ql f103) rfl rfl ?_;unfold Qcc at h;(conv=>whnf);obtain⟨x1,hx1,h⟩:=Qa h;refine cC 0 (Qkk hx1) ?_;clear hx1;(conv=>whnf);obtain rfl:=sj_ h;exact lfP []
def JR (a0:Bt):Option (Bt):=
 bd (Qcc a0) fun x1=>
(if(!x1)=true then
 some (⟨#[]⟩:Bt)
else
 bd (ZR a0) fun x2=>
 gd ((0:Int)≤0∧0<((x2.1.length:Nat):Int))<|
 bd (α:=Bool) ((if((x2.1.getD 0 default)==(⟨#[104,111,115,116]⟩:Bt))=true then
 some ((x2.1.getD 0 default)==(⟨#[104,111,115,116]⟩:Bt))
else
 some ((x2.1.getD 0 default)==(⟨#[110,97,116]⟩:Bt)))) fun x4=>
(if x4=true then
 gd ((0:Int)≤0∧0<((x2.1.length:Nat):Int))<|
 some (x2.1.getD 0 default)
else
 bd (α:=Bool) ((if((x2.1.getD 0 default)==(⟨#[117,115,101,114]⟩:Bt))=true then
 some ((x2.1.getD 0 default)==(⟨#[117,115,101,114]⟩:Bt))
else
(if((x2.1.getD 0 default)==(⟨#[112,111,114,116]⟩:Bt))=true then
 some ((x2.1.getD 0 default)==(⟨#[112,111,114,116]⟩:Bt))
else
 some ((x2.1.getD 0 default)==(⟨#[112,101,101,114]⟩:Bt))))) fun x8=>
(if x8=true then
 gd ((0:Int)≤0∧0<((x2.1.length:Nat):Int))<|
 gd ((x2.1.getD 0 default).size+(⟨#[32]⟩:Bt).size≤9223372036854775807)<|
 gd ((0:Int)≤1∧1<((x2.1.length:Nat):Int))<|
 gd (((x2.1.getD 0 default)++(⟨#[32]⟩:Bt)).size+(x2.1.getD 1 default).size≤9223372036854775807)<|
 some (((x2.1.getD 0 default)++(⟨#[32]⟩:Bt))++(x2.1.getD 1 default))
else
 bd (α:=Bool) ((if((x2.1.getD 0 default)==(⟨#[114,117,108,101]⟩:Bt))=true then
 some ((x2.1.getD 0 default)==(⟨#[114,117,108,101]⟩:Bt))
else
 some ((x2.1.getD 0 default)==(⟨#[100,111,111,114]⟩:Bt)))) fun x15=>
(if x15=true then
 gd ((0:Int)≤0∧0<((x2.1.length:Nat):Int))<|
 gd ((x2.1.getD 0 default).size+(⟨#[32]⟩:Bt).size≤9223372036854775807)<|
 gd ((0:Int)≤1∧1<((x2.1.length:Nat):Int))<|
 gd (((x2.1.getD 0 default)++(⟨#[32]⟩:Bt)).size+(x2.1.getD 1 default).size≤9223372036854775807)<|
 gd ((((x2.1.getD 0 default)++(⟨#[32]⟩:Bt))++(x2.1.getD 1 default)).size+(⟨#[32]⟩:Bt).size≤9223372036854775807)<|
 gd ((0:Int)≤2∧2<((x2.1.length:Nat):Int))<|
 gd (((((x2.1.getD 0 default)++(⟨#[32]⟩:Bt))++(x2.1.getD 1 default))++(⟨#[32]⟩:Bt)).size+(x2.1.getD 2 default).size≤9223372036854775807)<|
 some (((((x2.1.getD 0 default)++(⟨#[32]⟩:Bt))++(x2.1.getD 1 default))++(⟨#[32]⟩:Bt))++(x2.1.getD 2 default))
else
 some a0))))
theorem QeI {a0:Bt} {r:Bt} (h:JR a0=some r):PureC prog 39 [.d (.str a0)] (.d (.str r)) []:=by
 refine Qj tOk (fn:=f39) (c:=Ql f39) rfl rfl ?_;unfold JR at h;(conv=>whnf);refine Qd tOk ?_;(conv=>whnf);obtain⟨x1,hx1,h⟩:=Qa h;refine cC 0 (QlD hx1) ?_;clear hx1;(conv=>whnf);refine QC h (fun _ h=>?_) (fun _ h=>?_)
 ·(conv=>whnf);obtain rfl:=sj_ h;exact lfP []
 ·(conv=>whnf);obtain⟨x2,hx2,h⟩:=Qa h;refine cC 1000 (Qcu hx2) ?_;clear hx2;(conv=>whnf);refine Qd tOk ?_;(conv=>whnf);refine gdI h (fun h=>?_);(conv=>whnf);obtain⟨x4,hx4,h⟩:=Qa h;refine QcL tOk (fun s5=>⟨0,51,[(0,.d (.str a0)),(3,.osl 6001 0 x2.1.length),(15,.d (.str (x2.1.getD 0 default))),(16,dB s5)],[],[(6001,.arr 9 1 x2.1.length (rows Qi x2.1))],[]⟩) (fun s5=>x4=s5) ?_ ?_
  ·(conv=>whnf);refine QC hx4 (fun _ hx4=>?_) (fun _ hx4=>?_)
   ·(conv=>whnf);obtain rfl:=sj_ hx4;exact⟨_,rfl,leX []⟩
   ·(conv=>whnf);obtain rfl:=sj_ hx4;exact⟨_,rfl,leX []⟩
  ·rintro _ rfl;(conv=>whnf);refine QC h (fun _ h=>?_) (fun _ h=>?_)
   ·(conv=>whnf);refine gdI h (fun h=>?_);(conv=>whnf);obtain rfl:=sj_ h;exact lfP []
   ·(conv=>whnf);obtain⟨x8,hx8,h⟩:=Qa h;refine QcL tOk (fun s9=>⟨0,51,[(0,.d (.str a0)),(3,.osl 6001 0 x2.1.length),(15,.d (.str (x2.1.getD 0 default))),(22,dB s9)],[],[(6001,.arr 9 1 x2.1.length (rows Qi x2.1))],[]⟩) (fun s9=>x8=s9) ?_ ?_
    ·(conv=>whnf);refine QC hx8 (fun _ hx8=>?_) (fun _ hx8=>?_)
     ·(conv=>whnf);obtain rfl:=sj_ hx8;exact⟨_,rfl,leX []⟩
     ·(conv=>whnf);refine QC hx8 (fun _ hx8=>?_) (fun _ hx8=>?_)
      ·(conv=>whnf);obtain rfl:=sj_ hx8;exact⟨_,rfl,leX []⟩
      ·(conv=>whnf);obtain rfl:=sj_ hx8;exact⟨_,rfl,leX []⟩
    ·rintro _ rfl;(conv=>whnf);refine QC h (fun _ h=>?_) (fun _ h=>?_)
     ·(conv=>whnf);obtain⟨g11,h⟩:=Qh h;obtain⟨g12,h⟩:=Qh h;obtain⟨g13,h⟩:=Qh h;obtain⟨g14,h⟩:=Qh h;refine Zq tOk [] 9 [] [0,1,3,7,0,16,48,127,255] [] ?_;(conv=>whnf);refine And.intro g11 ?_;clear g11;(conv=>whnf);refine And.intro g12 ?_;clear g12;(conv=>whnf);refine And.intro g13 ?_;clear g13;(conv=>whnf);refine And.intro g14 ?_;clear g14;(conv=>whnf);refine And.intro (by kernel_rfl) ?_;(conv=>whnf);obtain rfl:=sj_ h;exact lfP []
     ·(conv=>whnf);obtain⟨x15,hx15,h⟩:=Qa h;refine QcL tOk (fun s16=>⟨0,51,[(0,.d (.str a0)),(3,.osl 6001 0 x2.1.length),(34,dB s16)],[],[(6001,.arr 9 1 x2.1.length (rows Qi x2.1))],[]⟩) (fun s16=>x15=s16) ?_ ?_
      ·(conv=>whnf);refine QC hx15 (fun _ hx15=>?_) (fun _ hx15=>?_)
       ·(conv=>whnf);obtain rfl:=sj_ hx15;exact⟨_,rfl,leX []⟩
       ·(conv=>whnf);obtain rfl:=sj_ hx15;exact⟨_,rfl,leX []⟩
      ·rintro _ rfl;(conv=>whnf);refine QC h (fun _ h=>?_) (fun _ h=>?_)
       ·(conv=>whnf);obtain⟨g18,h⟩:=Qh h;obtain⟨g19,h⟩:=Qh h;obtain⟨g20,h⟩:=Qh h;obtain⟨g21,h⟩:=Qh h;obtain⟨g22,h⟩:=Qh h;obtain⟨g23,h⟩:=Qh h;obtain⟨g24,h⟩:=Qh h;refine Zq tOk [] 14 [] [0,1,3,7,0,16,48,127,255,0,512,1536,4095,8191] [] ?_;(conv=>whnf);refine And.intro g18 ?_;clear g18;(conv=>whnf);refine And.intro g19 ?_;clear g19;(conv=>whnf);refine And.intro g20 ?_;clear g20;(conv=>whnf);refine And.intro g21 ?_;clear g21;(conv=>whnf);refine And.intro g22 ?_;clear g22;(conv=>whnf);refine And.intro g23 ?_;clear g23;(conv=>whnf);refine And.intro g24 ?_;clear g24;(conv=>whnf);refine And.intro (by kernel_rfl) ?_;(conv=>whnf);obtain rfl:=sj_ h;exact lfP []
       ·(conv=>whnf);obtain rfl:=sj_ h;exact lfP []
def QcM (a0:(List Bt)) (a1:Bt):Option (Int):=
 bd (lp (σ:=Int) (β:=(Int⊕Unit)) (fun s1=>
(if(decide (s1<((a0.length:Nat):Int)))=true then
 gd ((0:Int)≤s1∧s1<((a0.length:Nat):Int))<|
 bd (JR (a0.getD s1.toNat default)) fun x6=>
(if(x6==a1)=true then
 some (.inr (.inl s1))
else
 some (.inl (IntKind.i64.wrap (s1+1))))
else
 some (.inr (.inr ())))) 0) fun x4=>
(match x4 with
| .inl d7=>
 some d7
| .inr d8=>
 some (-1))
theorem Qna {a0:(List Bt)} {a1:Bt} {r:Int} (h:QcM a0 a1=some r):PureC prog 35 [.d (slD Qi a0),.d (.str a1)] (dI r) []:=by
 refine Qj tOk (fn:=f35) (c:=Ql f35) rfl rfl ?_;unfold QcM at h;(conv=>whnf);refine Qd tOk ?_;(conv=>whnf);obtain⟨x4,hx4,h⟩:=Qa h;refine QD tOk hx4 (fun s1=>⟨0,20,[(0,.d (slD Qi a0)),(1,.d (.str a1)),(5,dI s1)],[],[],[]⟩) ?_ ?_
 ·exact leX []
 ·clear hx4;intro s1 y2 g3 hy2;(conv=>whnf);refine Qd tOk ?_;(conv=>whnf);refine QC g3 (fun _ g3=>?_) (fun _ g3=>?_)
  ·(conv=>whnf);refine Qd tOk ?_;(conv=>whnf);refine gdI g3 (fun g3=>?_);(conv=>whnf);obtain⟨x6,hx6,g3⟩:=Qa g3;refine cC 0 (QeI hx6) ?_;clear hx6;(conv=>whnf);refine QC g3 (fun _ g3=>?_) (fun _ g3=>?_)
   ·(conv=>whnf);obtain rfl:=sj_ g3;obtain rfl:=hy2 _ rfl;obtain rfl:=sj_ h;exact lfP []
   ·(conv=>whnf);obtain rfl:=sj_ g3;exact⟨_,rfl,leX []⟩
  ·(conv=>whnf);obtain rfl:=sj_ g3;obtain rfl:=hy2 _ rfl;obtain rfl:=sj_ h;exact lfP []
def JW (a0:(List Bt)) (a1:Int):Option ((List Bt)):=
 gd ((0:Int)≤(0:Int)∧(0:Int)≤a1∧a1≤((a0.length:Nat):Int))<|
 gd (((0)+(a1.toNat))*(16+1)≤70368744177664)<|
 gd ((0:Int)≤IntKind.i64.wrap (a1+1)∧IntKind.i64.wrap (a1+1)≤((a0.length:Nat):Int)∧((a0.length:Nat):Int)≤((a0.length:Nat):Int))<|
 gd ((((a0.take a1.toNat).length)+((QdL ((a0.length:Nat):Int) (IntKind.i64.wrap (a1+1)))))*(16+1)≤70368744177664)<|
 some ((a0.take a1.toNat)++(((a0).take ((IntKind.i64.wrap (a1+1)).toNat+(QdL ((a0.length:Nat):Int) (IntKind.i64.wrap (a1+1))))).drop ((IntKind.i64.wrap (a1+1)).toNat)))
theorem QeV {a0:(List Bt)} {a1:Int} {r:(List Bt)} (h:JW a0 a1=some r):PureC prog 36 [.d (slD Qi a0),dI a1] (.osl 5001 0 r.length) [⟨5001,9,1,r.length,rows Qi r⟩]:=by
 refine Qj tOk (fn:=f36) (c:=Ql f36) rfl rfl ?_;unfold JW at h;(conv=>whnf);obtain⟨g1,h⟩:=Qh h;obtain⟨g2,h⟩:=Qh h;obtain⟨g3,h⟩:=Qh h;refine Zq tOk [] 9 [] [0,0,0,6,15,0,0,64,224] [511,1023] ?_;(conv=>whnf);refine And.intro ⟨g1,.inr rfl⟩ ?_;(conv=>whnf);refine And.intro g2 ?_;clear g2;refine QwZ (enc:=Qi) (ys:=a0.take a1.toNat) ?_;(conv=>whnf);refine And.intro ⟨g3,.inr rfl⟩ ?_;(conv=>whnf);refine And.intro (by kernel_rfl) ?_;(conv=>whnf);refine gdI h (fun h=>?_);refine QfZ (enc:=Qi) (xs:=(a0.take a1.toNat)) (ys:=((a0).take ((IntKind.i64.wrap (a1+1)).toNat+(QdL ((a0.length:Nat):Int) (IntKind.i64.wrap (a1+1))))).drop ((IntKind.i64.wrap (a1+1)).toNat)) ?_;(conv=>whnf);obtain rfl:=sj_ h;exact lfP [.s [(9,5001),(5001,9)]]
def Qak (a0:(List Bt)) (a1:Bt):Option ((List Bt)):=
 bd (lp (σ:=Int) (β:=(Int)) (fun s1=>
 gd ((decide (s1<((a0.length:Nat):Int)))=true→((0:Int)≤s1∧s1<((a0.length:Nat):Int)))<|
(if((decide (s1<((a0.length:Nat):Int)))&&(bsl (a0.getD s1.toNat default) a1))=true then
 some (.inl (IntKind.i64.wrap (s1+1)))
else
 some (.inr s1))) 0) fun x4=>
 gd ((0:Int)≤(0:Int)∧(0:Int)≤x4∧x4≤((a0.length:Nat):Int))<|
 gd (((0)+(x4.toNat))*(16+1)≤70368744177664)<|
 gd ((((a0.take x4.toNat).length)+(([a1]:List Bt).length))*(16+1)≤70368744177664)<|
 gd ((0:Int)≤x4∧x4≤((a0.length:Nat):Int)∧((a0.length:Nat):Int)≤((a0.length:Nat):Int))<|
 gd (((((a0.take x4.toNat)++([a1]:List Bt)).length)+((QdL ((a0.length:Nat):Int) x4)))*(16+1)≤70368744177664)<|
 some (((a0.take x4.toNat)++([a1]:List Bt))++(((a0).take (x4.toNat+(QdL ((a0.length:Nat):Int) x4))).drop x4.toNat))
theorem QdV {a0:(List Bt)} {a1:Bt} {r:(List Bt)} (h:Qak a0 a1=some r):PureC prog 37 [.d (slD Qi a0),.d (.str a1)] (.osl 5001 0 r.length) [⟨5001,9,1,r.length,rows Qi r⟩]:=by
 refine Qj tOk (fn:=f37) (c:=Ql f37) rfl rfl ?_;unfold Qak at h;(conv=>whnf);refine Qd tOk ?_;(conv=>whnf);obtain⟨x4,hx4,h⟩:=Qa h;refine QD tOk hx4 (fun s1=>⟨0,32,[(0,.d (slD Qi a0)),(1,.d (.str a1)),(5,dI s1)],[],[],[]⟩) ?_ ?_
 ·exact leX []
 ·clear hx4;intro s1 y2 g3 hy2;(conv=>whnf);refine Qd tOk ?_;(conv=>whnf);refine gdI g3 (fun g3=>?_);(conv=>whnf);refine QC g3 (fun _ g3=>?_) (fun _ g3=>?_)
  ·(conv=>whnf);obtain rfl:=sj_ g3;exact⟨_,rfl,leX []⟩
  ·(conv=>whnf);obtain rfl:=sj_ g3;obtain rfl:=hy2 _ rfl;obtain⟨g7,h⟩:=Qh h;obtain⟨g8,h⟩:=Qh h;obtain⟨g9,h⟩:=Qh h;obtain⟨g10,h⟩:=Qh h;obtain⟨g11,h⟩:=Qh h;refine Ql5 tOk [.a 4 [] (.osl 24 0 ((a0.take s1.toNat).length)) [(24,.arr 9 1 ((a0.take s1.toNat).length) (rows Qi (a0.take s1.toNat)))],.a 7 [(24,.arr 9 1 ((a0.take s1.toNat).length) (rows Qi (a0.take s1.toNat)))] (.osl 27 0 (((a0.take s1.toNat)++([a1]:List Bt)).length)) [(27,.arr 9 1 (((a0.take s1.toNat)++([a1]:List Bt)).length) (rows Qi ((a0.take s1.toNat)++([a1]:List Bt))))],.a 11 [(27,.arr 9 1 (((a0.take s1.toNat)++([a1]:List Bt)).length) (rows Qi ((a0.take s1.toNat)++([a1]:List Bt))))] (.osl 31 0 ((((a0.take s1.toNat)++([a1]:List Bt))++(((a0).take (s1.toNat+(QdL ((a0.length:Nat):Int) s1))).drop s1.toNat)).length)) [(31,.arr 9 1 ((((a0.take s1.toNat)++([a1]:List Bt))++(((a0).take (s1.toNat+(QdL ((a0.length:Nat):Int) s1))).drop s1.toNat)).length) (rows Qi (((a0.take s1.toNat)++([a1]:List Bt))++(((a0).take (s1.toNat+(QdL ((a0.length:Nat):Int) s1))).drop s1.toNat))))]] 13 [] [0,0,0,6,15,0,32,127,0,0,768,2047,4095] [] [] ?_;(conv=>whnf);refine And.intro ⟨g7,.inr rfl⟩ ?_;(conv=>whnf);refine And.intro (by(conv=>whnf);exact⟨g8,QwZ (enc:=Qi) (ys:=a0.take s1.toNat) ⟨rfl,rfl⟩⟩) ?_;(conv=>whnf);refine J1 (enc:=Qi) ([a1]:List Bt) ?_;(conv=>whnf);refine And.intro (by(conv=>whnf);exact⟨g9,QfZ (enc:=Qi) (xs:=(a0.take s1.toNat)) (ys:=([a1]:List Bt)) ⟨rfl,rfl⟩⟩) ?_;(conv=>whnf);refine And.intro ⟨g10,.inr rfl⟩ ?_;(conv=>whnf);refine And.intro (by(conv=>whnf);exact⟨g11,QfZ (enc:=Qi) (xs:=((a0.take s1.toNat)++([a1]:List Bt))) (ys:=((a0).take (s1.toNat+(QdL ((a0.length:Nat):Int) s1))).drop s1.toNat) ⟨rfl,rfl⟩⟩) ?_;(conv=>whnf);refine And.intro (by kernel_rfl) ?_;(conv=>whnf);obtain rfl:=sj_ h;exact lfP [.s [(31,5001),(5001,31)]]
def Qcd (a0:(List Bt)):Option ((List Bt)):=
 bd (lp (σ:=List Bt×Int) (β:=(Nat×(List Bt))) (fun s1=>
(if(decide (s1.2<((a0.length:Nat):Int)))=true then
 gd ((0:Int)≤s1.2∧s1.2<((a0.length:Nat):Int))<|
 bd (JR (a0.getD s1.2.toNat default)) fun x6=>
 gd (((s1.1.length)+(([x6]:List Bt).length))*(16+1)≤70368744177664)<|
 some (.inl ((s1.1++([x6]:List Bt)),IntKind.i64.wrap (s1.2+1)))
else
 some (.inr (s1.1.length,s1.1)))) (([]:List Bt),0)) fun x4=>
 some x4.2
theorem QlE {a0:(List Bt)} {r:(List Bt)} (h:Qcd a0=some r):PureC prog 162 [.d (slD Qi a0)] (.osl 5001 0 r.length) [⟨5001,9,1,r.length,rows Qi r⟩]:=by
 refine Qj tOk (fn:=f162) (c:=Ql f162) rfl rfl ?_;unfold Qcd at h;(conv=>whnf);refine Qd tOk ?_;(conv=>whnf);obtain⟨x4,hx4,h⟩:=Qa h;refine QD tOk hx4 (fun s1=>⟨0,21,[(0,.d (slD Qi a0)),(3,.osl 7001 0 s1.1.length),(4,dI s1.2)],[],[(7001,.arr 9 1 s1.1.length (rows Qi s1.1))],[]⟩) ?_ ?_
 ·exact leX [.p 7001 9 1 (rows Qi ([]:List Bt))]
 ·clear hx4;intro s1 y2 g3 hy2;(conv=>whnf);refine Qd tOk ?_;(conv=>whnf);refine QC g3 (fun _ g3=>?_) (fun _ g3=>?_)
  ·(conv=>whnf);refine Qd tOk ?_;(conv=>whnf);refine gdI g3 (fun g3=>?_);(conv=>whnf);obtain⟨x6,hx6,g3⟩:=Qa g3;refine cC 0 (QeI hx6) ?_;clear hx6;(conv=>whnf);refine J1 (enc:=Qi) ([x6]:List Bt) ?_;(conv=>whnf);refine gdI g3 (fun g3=>?_);refine QfZ (enc:=Qi) (xs:=s1.1) (ys:=([x6]:List Bt)) ?_;(conv=>whnf);obtain rfl:=sj_ g3;exact⟨_,rfl,leX []⟩
  ·(conv=>whnf);obtain rfl:=sj_ g3;obtain rfl:=hy2 _ rfl;obtain rfl:=sj_ h;exact lfP [.s [(5001,7001),(7001,5001)]]
def Qce (a0:(List Bt)):Option (Int):=
(if(decide (((a0.length:Nat):Int)>16))=true then
 some 1
else
 bd (Qcd a0) fun x1=>
 bd (lp (σ:=Int) (β:=(Unit⊕Unit)) (fun s2=>
(if(decide (s2<((a0.length:Nat):Int)))=true then
 gd ((0:Int)≤s2∧s2<((x1.length:Nat):Int))<|
(if((x1.getD s2.toNat default)==(⟨#[]⟩:Bt))=true then
 some (.inr (.inl ()))
else
 some (.inl (IntKind.i64.wrap (s2+1))))
else
 some (.inr (.inr ())))) 0) fun x5=>
(match x5 with
| .inl d7=>
 some 2
| .inr d8=>
 bd (lp (σ:=Int) (β:=(Unit⊕Unit)) (fun s9=>
(if(decide (s9<((a0.length:Nat):Int)))=true then
 gd ((0:Int)≤IntKind.i64.wrap (s9-1)∧IntKind.i64.wrap (s9-1)<((a0.length:Nat):Int))<|
 gd ((0:Int)≤s9∧s9<((a0.length:Nat):Int))<|
(if(!(bsl (a0.getD ((IntKind.i64.wrap (s9-1)).toNat) default) (a0.getD s9.toNat default)))=true then
 some (.inr (.inl ()))
else
 some (.inl (IntKind.i64.wrap (s9+1))))
else
 some (.inr (.inr ())))) 1) fun x12=>
(match x12 with
| .inl d15=>
 some 3
| .inr d16=>
 bd (lp (σ:=Int) (β:=(Unit⊕Unit)) (fun s17=>
(if(decide (s17<((a0.length:Nat):Int)))=true then
 gd ((0:Int)≤(0:Int)∧(0:Int)≤s17∧s17≤((x1.length:Nat):Int))<|
 gd ((0:Int)≤s17∧s17<((x1.length:Nat):Int))<|
 bd (QbW (x1.take s17.toNat) (x1.getD s17.toNat default)) fun x23=>
(if x23=true then
 some (.inr (.inl ()))
else
 some (.inl (IntKind.i64.wrap (s17+1))))
else
 some (.inr (.inr ())))) 0) fun x20=>
(match x20 with
| .inl d24=>
 some 4
| .inr d25=>
 some 0))))
theorem QlF {a0:(List Bt)} {r:Int} (h:Qce a0=some r):PureC prog 89 [.d (slD Qi a0)] (dI r) []:=by
 refine Qj tOk (fn:=f89) (c:=Ql f89) rfl rfl ?_;unfold Qce at h;(conv=>whnf);refine Qd tOk ?_;(conv=>whnf);refine QC h (fun _ h=>?_) (fun _ h=>?_)
 ·(conv=>whnf);obtain rfl:=sj_ h;exact lfP []
 ·(conv=>whnf);obtain⟨x1,hx1,h⟩:=Qa h;refine cC 1000 (QlE hx1) ?_;clear hx1;(conv=>whnf);refine Qd tOk ?_;(conv=>whnf);obtain⟨x5,hx5,h⟩:=Qa h;refine QD tOk hx5 (fun s2=>⟨0,53,[(0,.d (slD Qi a0)),(3,.osl 6001 0 x1.length),(4,dI s2)],[],[(6001,.arr 9 1 x1.length (rows Qi x1))],[]⟩) ?_ ?_
  ·exact leX []
  ·clear hx5;intro s2 y3 g4 hy3;(conv=>whnf);refine Qd tOk ?_;(conv=>whnf);refine QC g4 (fun _ g4=>?_) (fun _ g4=>?_)
   ·(conv=>whnf);refine Qd tOk ?_;(conv=>whnf);refine gdI g4 (fun g4=>?_);(conv=>whnf);refine QC g4 (fun _ g4=>?_) (fun _ g4=>?_)
    ·(conv=>whnf);obtain rfl:=sj_ g4;obtain rfl:=hy3 _ rfl;obtain rfl:=sj_ h;exact lfP []
    ·(conv=>whnf);obtain rfl:=sj_ g4;exact⟨_,rfl,leX []⟩
   ·(conv=>whnf);obtain rfl:=sj_ g4;obtain rfl:=hy3 _ rfl;refine Qd tOk ?_;(conv=>whnf);obtain⟨x12,hx12,h⟩:=Qa h;refine QD tOk hx12 (fun s9=>⟨0,53,[(0,.d (slD Qi a0)),(3,.osl 6001 0 x1.length),(5,dI s9)],[],[(6001,.arr 9 1 x1.length (rows Qi x1))],[]⟩) ?_ ?_
    ·exact leX []
    ·clear hx12;intro s9 y10 g11 hy10;(conv=>whnf);refine Qd tOk ?_;(conv=>whnf);refine QC g11 (fun _ g11=>?_) (fun _ g11=>?_)
     ·(conv=>whnf);refine Qd tOk ?_;(conv=>whnf);obtain⟨g13,g11⟩:=Qh g11;obtain⟨g14,g11⟩:=Qh g11;refine Zq tOk [] 10 [] [0,0,2,7,15,0,0,96,224,511] [] ?_;(conv=>whnf);refine And.intro g13 ?_;clear g13;(conv=>whnf);refine And.intro g14 ?_;clear g14;(conv=>whnf);refine And.intro (by kernel_rfl) ?_;(conv=>whnf);refine QC g11 (fun _ g11=>?_) (fun _ g11=>?_)
      ·(conv=>whnf);obtain rfl:=sj_ g11;obtain rfl:=hy10 _ rfl;obtain rfl:=sj_ h;exact lfP []
      ·(conv=>whnf);obtain rfl:=sj_ g11;exact⟨_,rfl,leX []⟩
     ·(conv=>whnf);obtain rfl:=sj_ g11;obtain rfl:=hy10 _ rfl;refine Qd tOk ?_;(conv=>whnf);obtain⟨x20,hx20,h⟩:=Qa h;refine QD tOk hx20 (fun s17=>⟨0,53,[(0,.d (slD Qi a0)),(3,.osl 6001 0 x1.length),(6,dI s17)],[],[(6001,.arr 9 1 x1.length (rows Qi x1))],[]⟩) ?_ ?_
      ·exact leX []
      ·clear hx20;intro s17 y18 g19 hy18;(conv=>whnf);refine Qd tOk ?_;(conv=>whnf);refine QC g19 (fun _ g19=>?_) (fun _ g19=>?_)
       ·(conv=>whnf);refine Qd tOk ?_;(conv=>whnf);obtain⟨g21,g19⟩:=Qh g19;obtain⟨g22,g19⟩:=Qh g19;obtain⟨x23,hx23,g19⟩:=Qa g19;refine Zq tOk [.u 7 0 (dB x23) []] 8 [] [0,0,3,0,0,24,56,127] [] ?_;(conv=>whnf);refine And.intro g21 ?_;(conv=>whnf);refine And.intro g22 ?_;clear g22;(conv=>whnf);refine And.intro (Qw0 (QhS hx23) rfl QuU) ?_;(conv=>whnf);refine And.intro (by kernel_rfl) ?_;(conv=>whnf);refine QC g19 (fun _ g19=>?_) (fun _ g19=>?_)
        ·(conv=>whnf);obtain rfl:=sj_ g19;obtain rfl:=hy18 _ rfl;obtain rfl:=sj_ h;exact lfP []
        ·(conv=>whnf);obtain rfl:=sj_ g19;exact⟨_,rfl,leX []⟩
       ·(conv=>whnf);obtain rfl:=sj_ g19;obtain rfl:=hy18 _ rfl;obtain rfl:=sj_ h;exact lfP []
def Qbg (a0:(List Bt)):Option ((List QzS)):=
 bd (lp (σ:=List QzS×Int) (β:=(Nat×(List QzS))) (fun s1=>
(if(decide (s1.2<((a0.length:Nat):Int)))=true then
 gd ((0:Int)≤s1.2∧s1.2<((a0.length:Nat):Int))<|
 bd (ZR (a0.getD s1.2.toNat default)) fun x6=>
 gd (((s1.1.length)+(([(⟨x6.1⟩:QzS)]:List QzS).length))*(24+1)≤70368744177664)<|
 some (.inl ((s1.1++([(⟨x6.1⟩:QzS)]:List QzS)),IntKind.i64.wrap (s1.2+1)))
else
 some (.inr (s1.1.length,s1.1)))) (([]:List QzS),0)) fun x4=>
 some x4.2
theorem QgS {a0:(List Bt)} {r:(List QzS)} (h:Qbg a0=some r):EffC prog 90 [.d (slD Qi a0)] [] (.osl 5001 0 r.length) [(5001,.arr 171 1 r.length (rows QzS.enc r))]:=by
 refine QaR tOk (fn:=f90) (c:=Ql f90) rfl rfl ?_;unfold Qbg at h;(conv=>whnf);refine Qd tOk ?_;(conv=>whnf);obtain⟨x4,hx4,h⟩:=Qa h;refine QD tOk hx4 (fun s1=>⟨0,28,[(0,.d (slD Qi a0)),(3,.osl 7001 0 s1.1.length),(4,dI s1.2)],[],[(7001,.arr 171 1 s1.1.length (rows QzS.enc s1.1))],[⟨[],[]⟩]⟩) ?_ ?_
 ·exact leX [.p 7001 171 1 (rows QzS.enc ([]:List QzS))]
 ·clear hx4;intro s1 y2 g3 hy2;(conv=>whnf);refine Qd tOk ?_;(conv=>whnf);refine QC g3 (fun _ g3=>?_) (fun _ g3=>?_)
  ·(conv=>whnf);refine Qd tOk ?_;(conv=>whnf);refine gdI g3 (fun g3=>?_);(conv=>whnf);obtain⟨x6,hx6,g3⟩:=Qa g3;refine cC 1000 (Qcu hx6) ?_;clear hx6;(conv=>whnf);refine J1 (enc:=QzS.enc) ([(⟨x6.1⟩:QzS)]:List QzS) ?_;(conv=>whnf);refine gdI g3 (fun g3=>?_);refine QfZ (enc:=QzS.enc) (xs:=s1.1) (ys:=([(⟨x6.1⟩:QzS)]:List QzS)) ?_;(conv=>whnf);obtain rfl:=sj_ g3;exact⟨_,rfl,leX []⟩
  ·(conv=>whnf);obtain rfl:=sj_ g3;obtain rfl:=hy2 _ rfl;obtain rfl:=sj_ h;exact lfE [.s [(5001,7001),(7001,5001)]]
def Qe (a0:QzS) (a1:Int):Option (Bt):=
(if(decide (a1<((a0.w.length:Nat):Int)))=true then
 gd ((0:Int)≤a1∧a1<((a0.w.length:Nat):Int))<|
 some (a0.w.getD a1.toNat default)
else
 some (⟨#[]⟩:Bt))
theorem Qf {a0:QzS} {a1:Int} {r:Bt} (h:Qe a0 a1=some r):PureC prog 149 [.agg [.d (slD Qi a0.w)],dI a1] (.d (.str r)) []:=by
 refine Qj tOk (fn:=f149) (c:=Ql f149) rfl rfl ?_;unfold Qe at h;(conv=>whnf);refine Qd tOk ?_;(conv=>whnf);refine QC h (fun _ h=>?_) (fun _ h=>?_)
 ·(conv=>whnf);refine gdI h (fun h=>?_);(conv=>whnf);obtain rfl:=sj_ h;exact lfP []
 ·(conv=>whnf);obtain rfl:=sj_ h;exact lfP []
def Qcf (a0:(List QzS)):Option (Bool):=
 bd (lp (σ:=Int) (β:=(Unit⊕Unit)) (fun s1=>
(if(decide (s1<((a0.length:Nat):Int)))=true then
 gd ((0:Int)≤s1∧s1<((a0.length:Nat):Int))<|
 bd (Qe (a0.getD s1.toNat default) 0) fun x6=>
 gd ((x6==(⟨#[117,115,101,114]⟩:Bt))=true→((0:Int)≤s1∧s1<((a0.length:Nat):Int)))<|
 bd (Qt ((x6==(⟨#[117,115,101,114]⟩:Bt))=true) (Qe (a0.getD s1.toNat default) 2)) fun x8=>
(if((x6==(⟨#[117,115,101,114]⟩:Bt))&&(x8==(⟨#[97,108,108]⟩:Bt)))=true then
 some (.inr (.inl ()))
else
 some (.inl (IntKind.i64.wrap (s1+1))))
else
 some (.inr (.inr ())))) 0) fun x4=>
(match x4 with
| .inl d9=>
 some true
| .inr d10=>
 some false)
theorem QlG {a0:(List QzS)} {r:Bool} (h:Qcf a0=some r):PureC prog 91 [.d (slD QzS.enc a0)] (dB r) []:=by
 refine Qj tOk (fn:=f91) (c:=Ql f91) rfl rfl ?_;unfold Qcf at h;(conv=>whnf);refine Qd tOk ?_;(conv=>whnf);obtain⟨x4,hx4,h⟩:=Qa h;refine QD tOk hx4 (fun s1=>⟨0,24,[(0,.d (slD QzS.enc a0)),(3,dI s1)],[],[],[]⟩) ?_ ?_
 ·exact leX []
 ·clear hx4;intro s1 y2 g3 hy2;(conv=>whnf);refine Qd tOk ?_;(conv=>whnf);refine QC g3 (fun _ g3=>?_) (fun _ g3=>?_)
  ·(conv=>whnf);refine Qd tOk ?_;(conv=>whnf);refine gdI g3 (fun g3=>?_);(conv=>whnf);obtain⟨x6,hx6,g3⟩:=Qa g3;refine cC 0 (Qf hx6) ?_;clear hx6;(conv=>whnf);refine gdI g3 (fun g3=>?_);(conv=>whnf);obtain⟨x8,hx8,g3⟩:=Qa g3;refine cG (fun c0=>Qf (Qg hx8 c0)) ?_;(conv=>whnf);refine QC g3 (fun _ g3=>?_) (fun _ g3=>?_)
   ·(conv=>whnf);obtain rfl:=sj_ g3;obtain rfl:=hy2 _ rfl;obtain rfl:=sj_ h;exact lfP []
   ·(conv=>whnf);obtain rfl:=sj_ g3;exact⟨_,rfl,leX []⟩
  ·(conv=>whnf);obtain rfl:=sj_ g3;obtain rfl:=hy2 _ rfl;obtain rfl:=sj_ h;exact lfP []
def Qau (a0:(List QzS)) (a1:Bt):Option (Int):=
 bd (lp (σ:=Int×Int) (β:=(Int)) (fun s1=>
(if(decide (s1.2<((a0.length:Nat):Int)))=true then
 gd ((0:Int)≤s1.2∧s1.2<((a0.length:Nat):Int))<|
 bd (Qe (a0.getD s1.2.toNat default) 0) fun x6=>
 gd ((x6==(⟨#[114,117,108,101]⟩:Bt))=true→((0:Int)≤s1.2∧s1.2<((a0.length:Nat):Int)))<|
 bd (Qt ((x6==(⟨#[114,117,108,101]⟩:Bt))=true) (Qe (a0.getD s1.2.toNat default) 1)) fun x8=>
(if((x6==(⟨#[114,117,108,101]⟩:Bt))&&(x8==a1))=true then
 some (.inl (IntKind.i64.wrap (s1.1+1),IntKind.i64.wrap (s1.2+1)))
else
 some (.inl (s1.1,IntKind.i64.wrap (s1.2+1))))
else
 some (.inr s1.1))) (0,0)) fun x4=>
 some x4
theorem QgT {a0:(List QzS)} {a1:Bt} {r:Int} (h:Qau a0 a1=some r):PureC prog 164 [.d (slD QzS.enc a0),.d (.str a1)] (dI r) []:=by
 refine Qj tOk (fn:=f164) (c:=Ql f164) rfl rfl ?_;unfold Qau at h;(conv=>whnf);refine Qd tOk ?_;(conv=>whnf);obtain⟨x4,hx4,h⟩:=Qa h;refine QD tOk hx4 (fun s1=>⟨0,31,[(0,.d (slD QzS.enc a0)),(1,.d (.str a1)),(5,dI s1.1),(6,dI s1.2)],[],[],[]⟩) ?_ ?_
 ·exact leX []
 ·clear hx4;intro s1 y2 g3 hy2;(conv=>whnf);refine Qd tOk ?_;(conv=>whnf);refine QC g3 (fun _ g3=>?_) (fun _ g3=>?_)
  ·(conv=>whnf);refine Qd tOk ?_;(conv=>whnf);refine gdI g3 (fun g3=>?_);(conv=>whnf);obtain⟨x6,hx6,g3⟩:=Qa g3;refine cC 0 (Qf hx6) ?_;clear hx6;(conv=>whnf);refine gdI g3 (fun g3=>?_);(conv=>whnf);obtain⟨x8,hx8,g3⟩:=Qa g3;refine cG (fun c0=>Qf (Qg hx8 c0)) ?_;(conv=>whnf);refine QC g3 (fun _ g3=>?_) (fun _ g3=>?_)
   ·(conv=>whnf);obtain rfl:=sj_ g3;exact⟨_,rfl,leX []⟩
   ·(conv=>whnf);obtain rfl:=sj_ g3;exact⟨_,rfl,leX []⟩
  ·(conv=>whnf);obtain rfl:=sj_ g3;obtain rfl:=hy2 _ rfl;obtain rfl:=sj_ h;exact lfP []
def Qbr (a0:(List QzS)):Option (Bool):=
 bd (lp (σ:=Int) (β:=(Unit⊕Unit)) (fun s1=>
(if(decide (s1<((a0.length:Nat):Int)))=true then
 gd ((0:Int)≤s1∧s1<((a0.length:Nat):Int))<|
 bd (Qe (a0.getD s1.toNat default) 0) fun x6=>
 gd ((x6==(⟨#[112,111,114,116]⟩:Bt))=true→((0:Int)≤s1∧s1<((a0.length:Nat):Int)))<|
 bd (Qt ((x6==(⟨#[112,111,114,116]⟩:Bt))=true) (Qe (a0.getD s1.toNat default) 4)) fun x8=>
 gd (((x6==(⟨#[112,111,114,116]⟩:Bt))&&(!(x8==(⟨#[]⟩:Bt))))=true→((0:Int)≤s1∧s1<((a0.length:Nat):Int)))<|
 bd (Qt (((x6==(⟨#[112,111,114,116]⟩:Bt))&&(!(x8==(⟨#[]⟩:Bt))))=true) (Qe (a0.getD s1.toNat default) 4)) fun x10=>
 bd (Qt (((x6==(⟨#[112,111,114,116]⟩:Bt))&&(!(x8==(⟨#[]⟩:Bt))))=true) (Qau a0 x10)) fun x11=>
(if(((x6==(⟨#[112,111,114,116]⟩:Bt))&&(!(x8==(⟨#[]⟩:Bt))))&&(x11==0))=true then
 some (.inr (.inl ()))
else
 gd ((0:Int)≤s1∧s1<((a0.length:Nat):Int))<|
 bd (Qe (a0.getD s1.toNat default) 0) fun x13=>
 gd ((x13==(⟨#[114,117,108,101]⟩:Bt))=true→((0:Int)≤s1∧s1<((a0.length:Nat):Int)))<|
 bd (Qt ((x13==(⟨#[114,117,108,101]⟩:Bt))=true) (Qe (a0.getD s1.toNat default) 1)) fun x15=>
 bd (Qt ((x13==(⟨#[114,117,108,101]⟩:Bt))=true) (Qau a0 x15)) fun x16=>
(if((x13==(⟨#[114,117,108,101]⟩:Bt))&&(decide (x16>12)))=true then
 some (.inr (.inl ()))
else
 some (.inl (IntKind.i64.wrap (s1+1)))))
else
 some (.inr (.inr ())))) 0) fun x4=>
(match x4 with
| .inl d17=>
 some false
| .inr d18=>
 some true)
theorem Qkl {a0:(List QzS)} {r:Bool} (h:Qbr a0=some r):PureC prog 92 [.d (slD QzS.enc a0)] (dB r) []:=by
 refine Qj tOk (fn:=f92) (c:=Ql f92) rfl rfl ?_;unfold Qbr at h;(conv=>whnf);refine Qd tOk ?_;(conv=>whnf);obtain⟨x4,hx4,h⟩:=Qa h;refine QD tOk hx4 (fun s1=>⟨0,50,[(0,.d (slD QzS.enc a0)),(3,dI s1)],[],[],[]⟩) ?_ ?_
 ·exact leX []
 ·clear hx4;intro s1 y2 g3 hy2;(conv=>whnf);refine Qd tOk ?_;(conv=>whnf);refine QC g3 (fun _ g3=>?_) (fun _ g3=>?_)
  ·(conv=>whnf);refine Qd tOk ?_;(conv=>whnf);refine Qd tOk ?_;(conv=>whnf);refine gdI g3 (fun g3=>?_);(conv=>whnf);obtain⟨x6,hx6,g3⟩:=Qa g3;refine cC 0 (Qf hx6) ?_;clear hx6;(conv=>whnf);refine gdI g3 (fun g3=>?_);(conv=>whnf);obtain⟨x8,hx8,g3⟩:=Qa g3;refine cG (fun c0=>Qf (Qg hx8 c0)) ?_;(conv=>whnf);refine gdI g3 (fun g3=>?_);(conv=>whnf);obtain⟨x10,hx10,g3⟩:=Qa g3;refine cG (fun c0=>Qf (Qg hx10 c0)) ?_;(conv=>whnf);obtain⟨x11,hx11,g3⟩:=Qa g3;refine cG (fun c0=>QgT (Qg hx11 c0)) ?_;(conv=>whnf);refine QC g3 (fun _ g3=>?_) (fun _ g3=>?_)
   ·(conv=>whnf);obtain rfl:=sj_ g3;obtain rfl:=hy2 _ rfl;obtain rfl:=sj_ h;exact lfP []
   ·(conv=>whnf);refine gdI g3 (fun g3=>?_);(conv=>whnf);obtain⟨x13,hx13,g3⟩:=Qa g3;refine cC 0 (Qf hx13) ?_;clear hx13;(conv=>whnf);refine gdI g3 (fun g3=>?_);(conv=>whnf);obtain⟨x15,hx15,g3⟩:=Qa g3;refine cG (fun c0=>Qf (Qg hx15 c0)) ?_;(conv=>whnf);obtain⟨x16,hx16,g3⟩:=Qa g3;refine cG (fun c0=>QgT (Qg hx16 c0)) ?_;(conv=>whnf);refine QC g3 (fun _ g3=>?_) (fun _ g3=>?_)
    ·(conv=>whnf);obtain rfl:=sj_ g3;obtain rfl:=hy2 _ rfl;obtain rfl:=sj_ h;exact lfP []
    ·(conv=>whnf);obtain rfl:=sj_ g3;exact⟨_,rfl,leX []⟩
  ·(conv=>whnf);obtain rfl:=sj_ g3;obtain rfl:=hy2 _ rfl;obtain rfl:=sj_ h;exact lfP []
def Qbs (a0:(List QzS)):Option (Bool):=
 bd (lp (σ:=Int) (β:=(Unit⊕Unit)) (fun s1=>
(if(decide (s1<((a0.length:Nat):Int)))=true then
 bd (lp (σ:=Int) (β:=(Unit⊕Unit)) (fun s5=>
(if(decide (s5<s1))=true then
 gd ((0:Int)≤s1∧s1<((a0.length:Nat):Int))<|
 bd (Qe (a0.getD s1.toNat default) 0) fun x10=>
 gd ((!(x10==(⟨#[112,111,114,116]⟩:Bt)))=false→((0:Int)≤s5∧s5<((a0.length:Nat):Int)))<|
 bd (Qt ((!(x10==(⟨#[112,111,114,116]⟩:Bt)))=false) (Qe (a0.getD s5.toNat default) 0)) fun x12=>
(if((!(x10==(⟨#[112,111,114,116]⟩:Bt)))||(!(x12==(⟨#[112,111,114,116]⟩:Bt))))=true then
 some (.inl (IntKind.i64.wrap (s5+1)))
else
 gd ((0:Int)≤s1∧s1<((a0.length:Nat):Int))<|
 bd (Qe (a0.getD s1.toNat default) 2) fun x14=>
 bd (Zx x14) fun x15=>
 gd ((0:Int)≤s5∧s5<((a0.length:Nat):Int))<|
 bd (Qe (a0.getD s5.toNat default) 2) fun x17=>
 bd (Zx x17) fun x18=>
(if((decide (x15.1<(IntKind.i64.wrap (x18.1+x18.2))))&&(decide (x18.1<(IntKind.i64.wrap (x15.1+x15.2)))))=true then
 some (.inr (.inl ()))
else
 some (.inl (IntKind.i64.wrap (s5+1)))))
else
 some (.inr (.inr ())))) 0) fun x8=>
(match x8 with
| .inl d19=>
 some (.inr (.inl ()))
| .inr d20=>
 some (.inl (IntKind.i64.wrap (s1+1))))
else
 some (.inr (.inr ())))) 0) fun x4=>
(match x4 with
| .inl d21=>
 some false
| .inr d22=>
 some true)
theorem Qkm {a0:(List QzS)} {r:Bool} (h:Qbs a0=some r):PureC prog 93 [.d (slD QzS.enc a0)] (dB r) []:=by
 refine Qj tOk (fn:=f93) (c:=Ql f93) rfl rfl ?_;unfold Qbs at h;(conv=>whnf);refine Qd tOk ?_;(conv=>whnf);obtain⟨x4,hx4,h⟩:=Qa h;refine QD tOk hx4 (fun s1=>⟨0,64,[(0,.d (slD QzS.enc a0)),(3,dI s1)],[],[],[]⟩) ?_ ?_
 ·exact leX []
 ·clear hx4;intro s1 y2 g3 hy2;(conv=>whnf);refine Qd tOk ?_;(conv=>whnf);refine QC g3 (fun _ g3=>?_) (fun _ g3=>?_)
  ·(conv=>whnf);refine Qd tOk ?_;(conv=>whnf);obtain⟨x8,hx8,g3⟩:=Qa g3;refine QD tOk hx8 (fun s5=>⟨0,64,[(0,.d (slD QzS.enc a0)),(3,dI s1),(4,dI s5)],[],[],[]⟩) ?_ ?_
   ·exact leX []
   ·clear hx8;intro s5 y6 g7 hy6;(conv=>whnf);refine Qd tOk ?_;(conv=>whnf);refine QC g7 (fun _ g7=>?_) (fun _ g7=>?_)
    ·(conv=>whnf);refine Qd tOk ?_;(conv=>whnf);refine Qd tOk ?_;(conv=>whnf);refine gdI g7 (fun g7=>?_);(conv=>whnf);obtain⟨x10,hx10,g7⟩:=Qa g7;refine cC 0 (Qf hx10) ?_;clear hx10;(conv=>whnf);refine gdI g7 (fun g7=>?_);(conv=>whnf);obtain⟨x12,hx12,g7⟩:=Qa g7;refine cG (fun c0=>Qf (Qg hx12 c0)) ?_;(conv=>whnf);refine QC g7 (fun _ g7=>?_) (fun _ g7=>?_)
     ·(conv=>whnf);obtain rfl:=sj_ g7;exact⟨_,rfl,leX []⟩
     ·(conv=>whnf);refine gdI g7 (fun g7=>?_);(conv=>whnf);obtain⟨x14,hx14,g7⟩:=Qa g7;refine cC 0 (Qf hx14) ?_;clear hx14;(conv=>whnf);obtain⟨x15,hx15,g7⟩:=Qa g7;refine cC 0 (Qaf hx15) ?_;clear hx15;(conv=>whnf);refine gdI g7 (fun g7=>?_);(conv=>whnf);obtain⟨x17,hx17,g7⟩:=Qa g7;refine cC 0 (Qf hx17) ?_;clear hx17;(conv=>whnf);obtain⟨x18,hx18,g7⟩:=Qa g7;refine cC 0 (Qaf hx18) ?_;clear hx18;(conv=>whnf);refine QC g7 (fun _ g7=>?_) (fun _ g7=>?_)
      ·(conv=>whnf);obtain rfl:=sj_ g7;obtain rfl:=hy6 _ rfl;obtain rfl:=sj_ g3;obtain rfl:=hy2 _ rfl;obtain rfl:=sj_ h;exact lfP []
      ·(conv=>whnf);obtain rfl:=sj_ g7;exact⟨_,rfl,leX []⟩
    ·(conv=>whnf);obtain rfl:=sj_ g7;obtain rfl:=hy6 _ rfl;obtain rfl:=sj_ g3;exact⟨_,rfl,leX []⟩
  ·(conv=>whnf);obtain rfl:=sj_ g3;obtain rfl:=hy2 _ rfl;obtain rfl:=sj_ h;exact lfP []
def Qbh (a0:(List QzS)) (a1:Int):Option (Bool):=
 bd (lp (σ:=Int) (β:=(Unit⊕Unit)) (fun s1=>
(if(decide (s1<((a0.length:Nat):Int)))=true then
 gd ((0:Int)≤s1∧s1<((a0.length:Nat):Int))<|
 bd (Qe (a0.getD s1.toNat default) 0) fun x6=>
(if(x6==(⟨#[112,111,114,116]⟩:Bt))=true then
 gd ((0:Int)≤s1∧s1<((a0.length:Nat):Int))<|
 bd (Qe (a0.getD s1.toNat default) 2) fun x8=>
 bd (Zx x8) fun x9=>
(if((decide (a1>x9.1))&&(decide (a1<(IntKind.i64.wrap (x9.1+x9.2)))))=true then
 some (.inr (.inl ()))
else
 some (.inl (IntKind.i64.wrap (s1+1))))
else
 some (.inl (IntKind.i64.wrap (s1+1))))
else
 some (.inr (.inr ())))) 0) fun x4=>
(match x4 with
| .inl d10=>
 some true
| .inr d11=>
 some false)
theorem QgU {a0:(List QzS)} {a1:Int} {r:Bool} (h:Qbh a0 a1=some r):PureC prog 166 [.d (slD QzS.enc a0),dI a1] (dB r) []:=by
 refine Qj tOk (fn:=f166) (c:=Ql f166) rfl rfl ?_;unfold Qbh at h;(conv=>whnf);refine Qd tOk ?_;(conv=>whnf);obtain⟨x4,hx4,h⟩:=Qa h;refine QD tOk hx4 (fun s1=>⟨0,39,[(0,.d (slD QzS.enc a0)),(1,dI a1),(5,dI s1)],[],[],[]⟩) ?_ ?_
 ·exact leX []
 ·clear hx4;intro s1 y2 g3 hy2;(conv=>whnf);refine Qd tOk ?_;(conv=>whnf);refine QC g3 (fun _ g3=>?_) (fun _ g3=>?_)
  ·(conv=>whnf);refine Qd tOk ?_;(conv=>whnf);refine gdI g3 (fun g3=>?_);(conv=>whnf);obtain⟨x6,hx6,g3⟩:=Qa g3;refine cC 0 (Qf hx6) ?_;clear hx6;(conv=>whnf);refine QC g3 (fun _ g3=>?_) (fun _ g3=>?_)
   ·(conv=>whnf);refine gdI g3 (fun g3=>?_);(conv=>whnf);obtain⟨x8,hx8,g3⟩:=Qa g3;refine cC 0 (Qf hx8) ?_;clear hx8;(conv=>whnf);obtain⟨x9,hx9,g3⟩:=Qa g3;refine cC 0 (Qaf hx9) ?_;clear hx9;(conv=>whnf);refine QC g3 (fun _ g3=>?_) (fun _ g3=>?_)
    ·(conv=>whnf);obtain rfl:=sj_ g3;obtain rfl:=hy2 _ rfl;obtain rfl:=sj_ h;exact lfP []
    ·(conv=>whnf);obtain rfl:=sj_ g3;exact⟨_,rfl,leX []⟩
   ·(conv=>whnf);obtain rfl:=sj_ g3;exact⟨_,rfl,leX []⟩
  ·(conv=>whnf);obtain rfl:=sj_ g3;obtain rfl:=hy2 _ rfl;obtain rfl:=sj_ h;exact lfP []
def Qbt (a0:(List QzS)):Option (Bool):=
 bd (lp (σ:=Int) (β:=(Unit⊕Unit)) (fun s1=>
(if(decide (s1<((a0.length:Nat):Int)))=true then
 gd ((0:Int)≤s1∧s1<((a0.length:Nat):Int))<|
 bd (Qe (a0.getD s1.toNat default) 0) fun x6=>
(if(x6==(⟨#[114,111,117,116,101]⟩:Bt))=true then
 gd ((0:Int)≤s1∧s1<((a0.length:Nat):Int))<|
 bd (Qe (a0.getD s1.toNat default) 2) fun x8=>
 bd (QZ x8) fun x9=>
 bd (Qbh a0 x9) fun x10=>
(if(!x10)=true then
 some (.inr (.inl ()))
else
 some (.inl (IntKind.i64.wrap (s1+1))))
else
(if(x6==(⟨#[112,101,101,114]⟩:Bt))=true then
 gd ((0:Int)≤s1∧s1<((a0.length:Nat):Int))<|
 bd (Qe (a0.getD s1.toNat default) 1) fun x12=>
 bd (QZ x12) fun x13=>
 bd (Qbh a0 x13) fun x14=>
(if(!x14)=true then
 some (.inr (.inl ()))
else
 some (.inl (IntKind.i64.wrap (s1+1))))
else
 some (.inl (IntKind.i64.wrap (s1+1)))))
else
 some (.inr (.inr ())))) 0) fun x4=>
(match x4 with
| .inl d15=>
 some false
| .inr d16=>
 some true)
theorem Qkn {a0:(List QzS)} {r:Bool} (h:Qbt a0=some r):PureC prog 94 [.d (slD QzS.enc a0)] (dB r) []:=by
 refine Qj tOk (fn:=f94) (c:=Ql f94) rfl rfl ?_;unfold Qbt at h;(conv=>whnf);refine Qd tOk ?_;(conv=>whnf);obtain⟨x4,hx4,h⟩:=Qa h;refine QD tOk hx4 (fun s1=>⟨0,37,[(0,.d (slD QzS.enc a0)),(3,dI s1)],[],[],[]⟩) ?_ ?_
 ·exact leX []
 ·clear hx4;intro s1 y2 g3 hy2;(conv=>whnf);refine Qd tOk ?_;(conv=>whnf);refine QC g3 (fun _ g3=>?_) (fun _ g3=>?_)
  ·(conv=>whnf);refine Qd tOk ?_;(conv=>whnf);refine gdI g3 (fun g3=>?_);(conv=>whnf);obtain⟨x6,hx6,g3⟩:=Qa g3;refine cC 0 (Qf hx6) ?_;clear hx6;(conv=>whnf);refine QC g3 (fun _ g3=>?_) (fun _ g3=>?_)
   ·(conv=>whnf);refine gdI g3 (fun g3=>?_);(conv=>whnf);obtain⟨x8,hx8,g3⟩:=Qa g3;refine cC 0 (Qf hx8) ?_;clear hx8;(conv=>whnf);obtain⟨x9,hx9,g3⟩:=Qa g3;refine cC 0 (Zr hx9) ?_;clear hx9;(conv=>whnf);obtain⟨x10,hx10,g3⟩:=Qa g3;refine cC 0 (QgU hx10) ?_;clear hx10;(conv=>whnf);refine QC g3 (fun _ g3=>?_) (fun _ g3=>?_)
    ·(conv=>whnf);obtain rfl:=sj_ g3;obtain rfl:=hy2 _ rfl;obtain rfl:=sj_ h;exact lfP []
    ·(conv=>whnf);obtain rfl:=sj_ g3;exact⟨_,rfl,leX []⟩
   ·(conv=>whnf);refine QC g3 (fun _ g3=>?_) (fun _ g3=>?_)
    ·(conv=>whnf);refine gdI g3 (fun g3=>?_);(conv=>whnf);obtain⟨x12,hx12,g3⟩:=Qa g3;refine cC 0 (Qf hx12) ?_;clear hx12;(conv=>whnf);obtain⟨x13,hx13,g3⟩:=Qa g3;refine cC 0 (Zr hx13) ?_;clear hx13;(conv=>whnf);obtain⟨x14,hx14,g3⟩:=Qa g3;refine cC 0 (QgU hx14) ?_;clear hx14;(conv=>whnf);refine QC g3 (fun _ g3=>?_) (fun _ g3=>?_)
     ·(conv=>whnf);obtain rfl:=sj_ g3;obtain rfl:=hy2 _ rfl;obtain rfl:=sj_ h;exact lfP []
     ·(conv=>whnf);obtain rfl:=sj_ g3;exact⟨_,rfl,leX []⟩
    ·(conv=>whnf);obtain rfl:=sj_ g3;exact⟨_,rfl,leX []⟩
  ·(conv=>whnf);obtain rfl:=sj_ g3;obtain rfl:=hy2 _ rfl;obtain rfl:=sj_ h;exact lfP []
def QcN (a0:(List QzS)):Option (Int):=
 bd (lp (σ:=Int) (β:=(Int⊕Unit)) (fun s1=>
(if(decide (s1<((a0.length:Nat):Int)))=true then
 gd ((0:Int)≤s1∧s1<((a0.length:Nat):Int))<|
 bd (Qe (a0.getD s1.toNat default) 0) fun x6=>
(if(x6==(⟨#[110,97,116]⟩:Bt))=true then
 some (.inr (.inl s1))
else
 some (.inl (IntKind.i64.wrap (s1+1))))
else
 some (.inr (.inr ())))) 0) fun x4=>
(match x4 with
| .inl d7=>
 some d7
| .inr d8=>
 some (-1))
theorem Qnb {a0:(List QzS)} {r:Int} (h:QcN a0=some r):PureC prog 167 [.d (slD QzS.enc a0)] (dI r) []:=by
 refine Qj tOk (fn:=f167) (c:=Ql f167) rfl rfl ?_;unfold QcN at h;(conv=>whnf);refine Qd tOk ?_;(conv=>whnf);obtain⟨x4,hx4,h⟩:=Qa h;refine QD tOk hx4 (fun s1=>⟨0,17,[(0,.d (slD QzS.enc a0)),(3,dI s1)],[],[],[]⟩) ?_ ?_
 ·exact leX []
 ·clear hx4;intro s1 y2 g3 hy2;(conv=>whnf);refine Qd tOk ?_;(conv=>whnf);refine QC g3 (fun _ g3=>?_) (fun _ g3=>?_)
  ·(conv=>whnf);refine Qd tOk ?_;(conv=>whnf);refine gdI g3 (fun g3=>?_);(conv=>whnf);obtain⟨x6,hx6,g3⟩:=Qa g3;refine cC 0 (Qf hx6) ?_;clear hx6;(conv=>whnf);refine QC g3 (fun _ g3=>?_) (fun _ g3=>?_)
   ·(conv=>whnf);obtain rfl:=sj_ g3;obtain rfl:=hy2 _ rfl;obtain rfl:=sj_ h;exact lfP []
   ·(conv=>whnf);obtain rfl:=sj_ g3;exact⟨_,rfl,leX []⟩
  ·(conv=>whnf);obtain rfl:=sj_ g3;obtain rfl:=hy2 _ rfl;obtain rfl:=sj_ h;exact lfP []
def Qcg (a0:(List QzS)) (a1:Int) (a2:QzS):Option (Bool):=
 gd ((0:Int)≤a1∧a1<((a0.length:Nat):Int))<|
 bd (Qe a2 1) fun x2=>
 bd (Zx x2) fun x3=>
 bd (Qe (a0.getD a1.toNat default) 3) fun x4=>
 bd (QZ x4) fun x5=>
 bd (Qt (((decide (x5<x3.1))||(decide (x5≥(IntKind.i64.wrap (x3.1+x3.2)))))=false) (Qe (a0.getD a1.toNat default) 2)) fun x6=>
 bd (Qt (((decide (x5<x3.1))||(decide (x5≥(IntKind.i64.wrap (x3.1+x3.2)))))=false) (Qe a2 3)) fun x7=>
 bd (Qt (((decide (x5<x3.1))||(decide (x5≥(IntKind.i64.wrap (x3.1+x3.2)))))=false) (QR x7)) fun x8=>
 bd (Qt (((decide (x5<x3.1))||(decide (x5≥(IntKind.i64.wrap (x3.1+x3.2)))))=false) (Qe a2 4)) fun x9=>
 bd (Qt (((decide (x5<x3.1))||(decide (x5≥(IntKind.i64.wrap (x3.1+x3.2)))))=false) (QR x9)) fun x10=>
 bd (Qt (((decide (x5<x3.1))||(decide (x5≥(IntKind.i64.wrap (x3.1+x3.2)))))=false) (Zi x6 x8 x10)) fun x11=>
(if(((decide (x5<x3.1))||(decide (x5≥(IntKind.i64.wrap (x3.1+x3.2)))))||x11)=true then
 some false
else
 bd (lp (σ:=Int) (β:=(Unit⊕Unit)) (fun s12=>
(if(decide (s12<a1))=true then
 gd ((0:Int)≤s12∧s12<((a0.length:Nat):Int))<|
 bd (Qe (a0.getD s12.toNat default) 0) fun x17=>
 gd ((x17==(⟨#[100,111,111,114]⟩:Bt))=true→((0:Int)≤s12∧s12<((a0.length:Nat):Int)))<|
 bd (Qt ((x17==(⟨#[100,111,111,114]⟩:Bt))=true) (Qe (a0.getD s12.toNat default) 1)) fun x19=>
 bd (Qt ((x17==(⟨#[100,111,111,114]⟩:Bt))=true) (Qe (a0.getD a1.toNat default) 1)) fun x20=>
 gd (((x17==(⟨#[100,111,111,114]⟩:Bt))&&(x19==x20))=true→((0:Int)≤s12∧s12<((a0.length:Nat):Int)))<|
 bd (Qt (((x17==(⟨#[100,111,111,114]⟩:Bt))&&(x19==x20))=true) (Qe (a0.getD s12.toNat default) 3)) fun x22=>
 bd (Qt (((x17==(⟨#[100,111,111,114]⟩:Bt))&&(x19==x20))=true) (Qe (a0.getD a1.toNat default) 3)) fun x23=>
 gd ((((x17==(⟨#[100,111,111,114]⟩:Bt))&&(x19==x20))&&(x22==x23))=true→((0:Int)≤s12∧s12<((a0.length:Nat):Int)))<|
 bd (Qt ((((x17==(⟨#[100,111,111,114]⟩:Bt))&&(x19==x20))&&(x22==x23))=true) (Qe (a0.getD s12.toNat default) 4)) fun x25=>
 bd (Qt ((((x17==(⟨#[100,111,111,114]⟩:Bt))&&(x19==x20))&&(x22==x23))=true) (Qe (a0.getD a1.toNat default) 4)) fun x26=>
(if((((x17==(⟨#[100,111,111,114]⟩:Bt))&&(x19==x20))&&(x22==x23))&&(x25==x26))=true then
 some (.inr (.inl ()))
else
 some (.inl (IntKind.i64.wrap (s12+1))))
else
 some (.inr (.inr ())))) 0) fun x15=>
(match x15 with
| .inl d27=>
 some false
| .inr d28=>
 some true))
theorem QlH {a0:(List QzS)} {a1:Int} {a2:QzS} {r:Bool} (h:Qcg a0 a1 a2=some r):PureC prog 168 [.d (slD QzS.enc a0),dI a1,.agg [.d (slD Qi a2.w)]] (dB r) []:=by
 refine Qj tOk (fn:=f168) (c:=Ql f168) rfl rfl ?_;unfold Qcg at h;(conv=>whnf);refine gdI h (fun h=>?_);(conv=>whnf);obtain⟨x2,hx2,h⟩:=Qa h;refine cC 0 (Qf hx2) ?_;clear hx2;(conv=>whnf);obtain⟨x3,hx3,h⟩:=Qa h;refine cC 0 (Qaf hx3) ?_;clear hx3;(conv=>whnf);obtain⟨x4,hx4,h⟩:=Qa h;refine cC 0 (Qf hx4) ?_;clear hx4;(conv=>whnf);obtain⟨x5,hx5,h⟩:=Qa h;refine cC 0 (Zr hx5) ?_;clear hx5;(conv=>whnf);refine Qd tOk ?_;(conv=>whnf);obtain⟨x6,hx6,h⟩:=Qa h;obtain⟨x7,hx7,h⟩:=Qa h;obtain⟨x8,hx8,h⟩:=Qa h;obtain⟨x9,hx9,h⟩:=Qa h;obtain⟨x10,hx10,h⟩:=Qa h;obtain⟨x11,hx11,h⟩:=Qa h;refine Zq tOk [.u 12 0 (.d (.str x6)) [],.u 14 0 (.d (.str x7)) [],.u 15 0 (dI x8) [],.u 17 0 (.d (.str x9)) [],.u 18 0 (dI x10) [],.u 19 0 (dB x11) []] 21 [] [0,0,3,7,15,15,15,111,255,511,1023,2047,4095,2047,16383,32767,2047,131071,262143,524287,1048575] [] ?_;(conv=>whnf);refine And.intro (QV rfl rfl rfl rfl (by intro c0;exact Qf (Qg hx6 c0))) ?_;(conv=>whnf);refine And.intro (QV rfl rfl rfl rfl (by intro c0;exact Qf (Qg hx7 c0))) ?_;(conv=>whnf);refine And.intro (QV rfl rfl rfl rfl (by intro c0;exact Q4 (Qg hx8 c0))) ?_;(conv=>whnf);refine And.intro (QV rfl rfl rfl rfl (by intro c0;exact Qf (Qg hx9 c0))) ?_;(conv=>whnf);refine And.intro (QV rfl rfl rfl rfl (by intro c0;exact Q4 (Qg hx10 c0))) ?_;(conv=>whnf);refine And.intro (QV rfl rfl rfl rfl (by intro c0;exact ZP (Qg hx11 c0))) ?_;(conv=>whnf);refine And.intro (by kernel_rfl) ?_;(conv=>whnf);refine QC h (fun _ h=>?_) (fun _ h=>?_)
 ·(conv=>whnf);obtain rfl:=sj_ h;exact lfP []
 ·(conv=>whnf);refine Qd tOk ?_;(conv=>whnf);obtain⟨x15,hx15,h⟩:=Qa h;refine QD tOk hx15 (fun s12=>⟨0,87,[(0,.d (slD QzS.enc a0)),(1,dI a1),(7,.ref 7 0 0),(11,dI s12)],[],[(7,.box 171 [.d (slD Qi ((a0.getD a1.toNat default).w))])],[]⟩) ?_ ?_
  ·exact leX []
  ·clear hx15;intro s12 y13 g14 hy13;(conv=>whnf);refine Qd tOk ?_;(conv=>whnf);refine QC g14 (fun _ g14=>?_) (fun _ g14=>?_)
   ·(conv=>whnf);refine Qd tOk ?_;(conv=>whnf);obtain⟨g16,g14⟩:=Qh g14;obtain⟨x17,hx17,g14⟩:=Qa g14;obtain⟨g18,g14⟩:=Qh g14;obtain⟨x19,hx19,g14⟩:=Qa g14;obtain⟨x20,hx20,g14⟩:=Qa g14;obtain⟨g21,g14⟩:=Qh g14;obtain⟨x22,hx22,g14⟩:=Qa g14;obtain⟨x23,hx23,g14⟩:=Qa g14;obtain⟨g24,g14⟩:=Qh g14;obtain⟨x25,hx25,g14⟩:=Qa g14;obtain⟨x26,hx26,g14⟩:=Qa g14;refine Zq tOk [.u 4 0 (.d (.str x17)) [],.u 11 0 (.d (.str x19)) [],.u 13 0 (.d (.str x20)) [],.u 21 0 (.d (.str x22)) [],.u 23 0 (.d (.str x23)) [],.u 31 0 (.d (.str x25)) [],.u 33 0 (.d (.str x26)) []] 36 [] [0,0,3,7,15,31,63,127,127,511,1023,2047,127,8191,16383,32767,65535,131071,131071,524287,1048575,2097151,131071,8388607,16777215,33554431,67108863,134217727,134217727,536870911,1073741823,2147483647,134217727,8589934591,17179869183,34359738367] [] ?_;(conv=>whnf);refine And.intro g16 ?_;clear g16;(conv=>whnf);refine And.intro (Qo (Qf hx17) (by kernel_rfl)) ?_;(conv=>whnf);refine And.intro g18 ?_;clear g18;(conv=>whnf);refine And.intro (QV rfl rfl rfl rfl (by intro c0;exact Qf (Qg hx19 c0))) ?_;(conv=>whnf);refine And.intro (QV rfl rfl rfl rfl (by intro c0;exact Qf (Qg hx20 c0))) ?_;(conv=>whnf);refine And.intro g21 ?_;clear g21;(conv=>whnf);refine And.intro (QV rfl rfl rfl rfl (by intro c0;exact Qf (Qg hx22 c0))) ?_;(conv=>whnf);refine And.intro (QV rfl rfl rfl rfl (by intro c0;exact Qf (Qg hx23 c0))) ?_;(conv=>whnf);refine And.intro g24 ?_;clear g24;(conv=>whnf);refine And.intro (QV rfl rfl rfl rfl (by intro c0;exact Qf (Qg hx25 c0))) ?_;(conv=>whnf);refine And.intro (QV rfl rfl rfl rfl (by intro c0;exact Qf (Qg hx26 c0))) ?_;(conv=>whnf);refine And.intro (by kernel_rfl) ?_;(conv=>whnf);refine QC g14 (fun _ g14=>?_) (fun _ g14=>?_)
    ·(conv=>whnf);obtain rfl:=sj_ g14;obtain rfl:=hy13 _ rfl;obtain rfl:=sj_ h;exact lfP []
    ·(conv=>whnf);obtain rfl:=sj_ g14;exact⟨_,rfl,leX []⟩
   ·(conv=>whnf);obtain rfl:=sj_ g14;obtain rfl:=hy13 _ rfl;obtain rfl:=sj_ h;exact lfP []
end
end Go.Proofs.YtfpbhbbdhfbilaaGreatDoor
