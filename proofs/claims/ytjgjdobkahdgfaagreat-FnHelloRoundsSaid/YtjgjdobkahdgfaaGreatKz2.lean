/-
  What some of the program's functions compute: their models, and that the functions compute these; no condition.
-/
import Derived.Test.YtjgjdobkahdgfaaGreatTyz
import Derived.Test.YtjgjdobkahdgfaaGreatTbz
import Derived.Test.YtjgjdobkahdgfaaGreatAbz7
import Derived.Test.YtjgjdobkahdgfaaGreatKz1
set_option linter.all false
namespace Go.Proofs.YtjgjdobkahdgfaaGreat
open Go Go.Ab
set_option maxRecDepth 100000
set_option maxHeartbeats 40000000
noncomputable def QcD (a0:(List Qv4)) (a1:Qv2):Option ((List Qv4) × Bool) :=
 bd (Qao a0 a1) fun x1 =>
 gd ((decide (x1<((a0.length:Nat):Int)))=true→((0:Int)≤x1∧x1<((a0.length:Nat):Int))) <|
 gd (((decide (x1<((a0.length:Nat):Int))) && ((((a0.getD x1.toNat default).Entry).Addr) == a1.Addr))=true→((0:Int)≤x1∧x1<((a0.length:Nat):Int))) <|
(if (((decide (x1<((a0.length:Nat):Int))) && ((((a0.getD x1.toNat default).Entry).Addr) == a1.Addr)) && ((((a0.getD x1.toNat default).Entry).Len) == a1.Len))=true then
 bd (Q6 a0) fun x4 =>
 gd ((0:Int)≤x1∧x1<((x4.length:Nat):Int)) <|
 some (x4.set x1.toNat (⟨a1,false⟩:Qv4),true)
else
(if (((a0.length:Nat):Int) == 16)=true then
 bd (ZV a0) fun x6 =>
(if (decide (x6<0))=true then
 some (a0,false)
else
 bd (Qat a0 x6) fun x7 =>
 bd (Qbb x7 a1) fun x8 =>
 some (x8.1,x8.2))
else
 gd ((0:Int)≤(0:Int)∧(0:Int)≤x1∧x1≤((a0.length:Nat):Int)) <|
 bd (Q6 (a0.take x1.toNat)) fun x10 =>
 gd (((x10.length)+(([(⟨a1,false⟩:Qv4)]:List Qv4).length))*(40+1)≤70368744177664) <|
 gd ((0:Int)≤x1∧x1≤((a0.length:Nat):Int)∧((a0.length:Nat):Int)≤((a0.length:Nat):Int)) <|
 gd ((((x10 ++ ([(⟨a1,false⟩:Qv4)]:List Qv4)).length)+((Qc8 ((a0.length:Nat):Int) x1)))*(40+1)≤70368744177664) <|
 some (((x10 ++ ([(⟨a1,false⟩:Qv4)]:List Qv4)) ++ (((a0).take (x1.toNat+(Qc8 ((a0.length:Nat):Int) x1))).drop x1.toNat)),true)))
theorem QlD {a0:(List Qv4)} {a1:Qv2} {r:(List Qv4) × Bool} (h:QcD a0 a1=some r):EffC Tryz.prog 171 [.d (slD Qv4.enc a0),.agg (hnC a1)] [] (.tup [.d (slD Qv4.enc r.1),dB r.2]) []:=by
  refine QQ tOk (fn:=Tryz.f171) (c:=Qj Tryz.f171) rfl rfl ?_;unfold QcD at h;(conv=>whnf);obtain ⟨x1,hx1,h⟩:=Qa h;refine cC 0 (QdN hx1) ?_;clear hx1;(conv=>whnf);refine Qe tOk ?_;(conv=>whnf);obtain ⟨g2,h⟩:=Qg h;obtain ⟨g3,h⟩:=Qg h;refine QP tOk [] 26 [] [0,0,2,7,15,31,31,127,255,511,1023,31,2079,8191,16383,32767,65535,65535,262143,524287,1048575,2097151,65535,4259839,16777215,33554431] [] ?_;(conv=>whnf);refine And.intro g2 ?_;clear g2;(conv=>whnf);refine And.intro g3 ?_;clear g3;(conv=>whnf);refine And.intro (by kernel_rfl) ?_;(conv=>whnf);refine Qu h (fun _ h=>?_) (fun _ h=>?_)
  · (conv=>whnf);obtain ⟨x4,hx4,h⟩:=Qa h;refine cC 1000 (Ju hx4) ?_;clear hx4;(conv=>whnf);refine gdI h (fun h=>?_);(conv=>whnf);refine ⟨rows Qv4.enc (x4.set x1.toNat (⟨a1,false⟩:Qv4)),Zd Qjk rfl,?_⟩;(conv=>whnf);obtain rfl:=sj_ h;exact lfE [.f [6001]]
  · (conv=>whnf);refine Qe tOk ?_;(conv=>whnf);refine Qu h (fun _ h=>?_) (fun _ h=>?_)
    · (conv=>whnf);obtain ⟨x6,hx6,h⟩:=Qa h;refine cC 0 (Qb5 hx6) ?_;clear hx6;(conv=>whnf);refine Qe tOk ?_;(conv=>whnf);refine Qu h (fun _ h=>?_) (fun _ h=>?_)
      · (conv=>whnf);obtain rfl:=sj_ h;exact lfE []
      · (conv=>whnf);obtain ⟨x7,hx7,h⟩:=Qa h;obtain ⟨x8,hx8,h⟩:=Qa h;refine JA tOk [.e 2 [] (.d (slD Qv4.enc x7)) [] [],.e 4 [] (.tup [.d (slD Qv4.enc x8.1),dB x8.2]) [] []] 9 [] [0,0,3,0,15,31,31,127,255] [] [] ?_;(conv=>whnf);refine And.intro (eD [] 0 (Qfq hx7)) ?_;(conv=>whnf);refine And.intro (eD [] 0 (QiO hx8)) ?_;(conv=>whnf);refine And.intro (by kernel_rfl) ?_;(conv=>whnf);obtain rfl:=sj_ h;exact lfE []
    · (conv=>whnf);obtain ⟨g9,h⟩:=Qg h;obtain ⟨x10,hx10,h⟩:=Qa h;obtain ⟨g11,h⟩:=Qg h;obtain ⟨g12,h⟩:=Qg h;obtain ⟨g13,h⟩:=Qg h;refine JA tOk [.e 3 [] (.osl 6001 0 x10.length) [] [(6001,.arr 96 5 x10.length (rows Qv4.enc x10))],.a 7 [(6001,.arr 96 5 x10.length (rows Qv4.enc x10))] (.osl 68 0 ((x10 ++ ([(⟨a1,false⟩:Qv4)]:List Qv4)).length)) [(68,.arr 96 5 ((x10 ++ ([(⟨a1,false⟩:Qv4)]:List Qv4)).length) (rows Qv4.enc (x10 ++ ([(⟨a1,false⟩:Qv4)]:List Qv4))))],.a 11 [(68,.arr 96 5 ((x10 ++ ([(⟨a1,false⟩:Qv4)]:List Qv4)).length) (rows Qv4.enc (x10 ++ ([(⟨a1,false⟩:Qv4)]:List Qv4))))] (.osl 72 0 (((x10 ++ ([(⟨a1,false⟩:Qv4)]:List Qv4)) ++ (((a0).take (x1.toNat+(Qc8 ((a0.length:Nat):Int) x1))).drop x1.toNat)).length)) [(72,.arr 96 5 (((x10 ++ ([(⟨a1,false⟩:Qv4)]:List Qv4)) ++ (((a0).take (x1.toNat+(Qc8 ((a0.length:Nat):Int) x1))).drop x1.toNat)).length) (rows Qv4.enc ((x10 ++ ([(⟨a1,false⟩:Qv4)]:List Qv4)) ++ (((a0).take (x1.toNat+(Qc8 ((a0.length:Nat):Int) x1))).drop x1.toNat))))]] 14 [] [0,0,3,7,0,16,48,127,0,0,768,2047,4095,8191] [] [] ?_;(conv=>whnf);refine And.intro ⟨g9,.inr rfl⟩ ?_;(conv=>whnf);refine And.intro (eH [] 1000 ((Ju hx10).eff rfl rfl)) ?_;(conv=>whnf);refine QcT (enc:=Qv4.enc) ([(⟨a1,false⟩:Qv4)]:List Qv4) ?_;(conv=>whnf);refine And.intro (by (conv=>whnf); exact ⟨g11,Qh0 (enc:=Qv4.enc) (xs:=x10) (ys:=([(⟨a1,false⟩:Qv4)]:List Qv4)) ⟨rfl,rfl⟩⟩) ?_;(conv=>whnf);refine And.intro ⟨g12,.inr rfl⟩ ?_;(conv=>whnf);refine And.intro (by (conv=>whnf); exact ⟨g13,Qh0 (enc:=Qv4.enc) (xs:=(x10 ++ ([(⟨a1,false⟩:Qv4)]:List Qv4))) (ys:=((a0).take (x1.toNat+(Qc8 ((a0.length:Nat):Int) x1))).drop x1.toNat) ⟨rfl,rfl⟩⟩) ?_;(conv=>whnf);refine And.intro (by kernel_rfl) ?_;(conv=>whnf);obtain rfl:=sj_ h;exact lfE [.f [72]]
noncomputable def QaX (a0:(List Qv4)):Option ((List Qv4)) :=
 bd (lp (σ:=List Qv4 × Int) (β:=(Nat × (List Qv4))) (fun s1 =>
(if (decide (s1.2<((a0.length:Nat):Int)))=true then
 gd ((0:Int)≤s1.2∧s1.2<((a0.length:Nat):Int)) <|
(if (!((a0.getD s1.2.toNat default).Stale))=true then
 gd ((0:Int)≤s1.2∧s1.2<((a0.length:Nat):Int)) <|
 gd (((s1.1.length)+(([(⟨((a0.getD s1.2.toNat default).Entry),(a0.getD s1.2.toNat default).Stale⟩:Qv4)]:List Qv4).length))*(40+1)≤70368744177664) <|
 some (.inl ((s1.1 ++ ([(⟨((a0.getD s1.2.toNat default).Entry),(a0.getD s1.2.toNat default).Stale⟩:Qv4)]:List Qv4)),IntKind.i64.wrap (s1.2+1)))
else
 some (.inl (s1.1,IntKind.i64.wrap (s1.2+1))))
else
 some (.inr (s1.1.length,s1.1)))) (([]:List Qv4),0)) fun x4 =>
 some x4.2
theorem Qfx {a0:(List Qv4)} {r:(List Qv4)} (h:QaX a0=some r):PureC Tryz.prog 146 [.d (slD Qv4.enc a0)] (.osl 5001 0 r.length) [⟨5001,96,5,r.length,rows Qv4.enc r⟩]:=by
  refine Qt tOk (fn:=Tryz.f146) (c:=Qj Tryz.f146) rfl rfl ?_;unfold QaX at h;(conv=>whnf);refine Qe tOk ?_;(conv=>whnf);obtain ⟨x4,hx4,h⟩:=Qa h;refine Zh tOk hx4 (fun s1=>⟨0,26,[(0,.d (slD Qv4.enc a0)),(3,.osl 7001 0 s1.1.length),(4,dI s1.2)],[],[(7001,.arr 96 5 s1.1.length (rows Qv4.enc s1.1))],[]⟩) ?_ ?_
  · exact leX [.p 7001 96 5 (rows Qv4.enc ([]:List Qv4))]
  · clear hx4;intro s1 y2 g3 hy2;(conv=>whnf);refine Qe tOk ?_;(conv=>whnf);refine Qu g3 (fun _ g3=>?_) (fun _ g3=>?_)
    · (conv=>whnf);refine Qe tOk ?_;(conv=>whnf);refine gdI g3 (fun g3=>?_);(conv=>whnf);refine Qu g3 (fun _ g3=>?_) (fun _ g3=>?_)
      · (conv=>whnf);refine gdI g3 (fun g3=>?_);(conv=>whnf);refine QcT (enc:=Qv4.enc) ([(⟨((a0.getD s1.2.toNat default).Entry),(a0.getD s1.2.toNat default).Stale⟩:Qv4)]:List Qv4) ?_;(conv=>whnf);refine gdI g3 (fun g3=>?_);refine Qh0 (enc:=Qv4.enc) (xs:=s1.1) (ys:=([(⟨((a0.getD s1.2.toNat default).Entry),(a0.getD s1.2.toNat default).Stale⟩:Qv4)]:List Qv4)) ?_;(conv=>whnf);obtain rfl:=sj_ g3;exact ⟨_,rfl,leX []⟩
      · (conv=>whnf);obtain rfl:=sj_ g3;exact ⟨_,rfl,leX []⟩
    · (conv=>whnf);obtain rfl:=sj_ g3;obtain rfl:=hy2 _ rfl;obtain rfl:=sj_ h;exact lfP [.s [(5001,7001),(7001,5001)]]
noncomputable def QaH (a0:(List Qv4)) (a1:Qv3):Option ((List Qv4) × Bool) :=
(if (a1.Kind == 1)=true then
 bd (QcD a0 a1.Entry) fun x1 =>
 some (x1.1,x1.2)
else
(if (a1.Kind == 2)=true then
 bd (Qao a0 a1.Entry) fun x2 =>
 gd ((decide (x2<((a0.length:Nat):Int)))=true→((0:Int)≤x2∧x2<((a0.length:Nat):Int))) <|
 gd (((decide (x2<((a0.length:Nat):Int))) && ((((a0.getD x2.toNat default).Entry).Addr) == a1.Entry.Addr))=true→((0:Int)≤x2∧x2<((a0.length:Nat):Int))) <|
(if (((decide (x2<((a0.length:Nat):Int))) && ((((a0.getD x2.toNat default).Entry).Addr) == a1.Entry.Addr)) && ((((a0.getD x2.toNat default).Entry).Len) == a1.Entry.Len))=true then
 bd (QaW a0 x2) fun x5 =>
 some (x5,true)
else
 some (a0,true))
else
 bd (QaX a0) fun x6 =>
 some (x6,true)))
theorem Qkr {a0:(List Qv4)} {a1:Qv3} {r:(List Qv4) × Bool} (h:QaH a0 a1=some r):EffC Tryz.prog 163 [.d (slD Qv4.enc a0),.agg (dI a1.Kind :: hnC a1.Entry)] [] (.tup [.d (slD Qv4.enc r.1),dB r.2]) []:=by
  refine QQ tOk (fn:=Tryz.f163) (c:=Qj Tryz.f163) rfl rfl ?_;unfold QaH at h;(conv=>whnf);refine Qe tOk ?_;(conv=>whnf);refine Qu h (fun _ h=>?_) (fun _ h=>?_)
  · (conv=>whnf);obtain ⟨x1,hx1,h⟩:=Qa h;refine cE [] 0 (QlD hx1) ?_;(conv=>whnf);obtain rfl:=sj_ h;exact lfE []
  · (conv=>whnf);refine Qu h (fun _ h=>?_) (fun _ h=>?_)
    · (conv=>whnf);obtain ⟨x2,hx2,h⟩:=Qa h;refine cC 0 (QdN hx2) ?_;clear hx2;(conv=>whnf);refine Qe tOk ?_;(conv=>whnf);obtain ⟨g3,h⟩:=Qg h;obtain ⟨g4,h⟩:=Qg h;refine QP tOk [] 28 [] [0,0,2,7,15,31,31,127,255,511,1023,31,2079,6175,16383,32767,65535,131071,131071,524287,1048575,2097151,4194303,131071,8519679,25296895,67108863,134217727] [] ?_;(conv=>whnf);refine And.intro g3 ?_;clear g3;(conv=>whnf);refine And.intro g4 ?_;clear g4;(conv=>whnf);refine And.intro (by kernel_rfl) ?_;(conv=>whnf);refine Qu h (fun _ h=>?_) (fun _ h=>?_)
      · (conv=>whnf);obtain ⟨x5,hx5,h⟩:=Qa h;refine cC 1000 (Qh2 hx5) ?_;clear hx5;(conv=>whnf);obtain rfl:=sj_ h;exact lfE [.f [6001]]
      · (conv=>whnf);obtain rfl:=sj_ h;exact lfE []
    · (conv=>whnf);obtain ⟨x6,hx6,h⟩:=Qa h;refine cC 1000 (Qfx hx6) ?_;clear hx6;(conv=>whnf);obtain rfl:=sj_ h;exact lfE [.f [6001]]
noncomputable def Zx (a0:Qv5):Option (Qv5) :=
 bd (ZV a0.Heard) fun x1 =>
(if (decide (x1<0))=true then
 some ({ a0 with Keep:=0 })
else
 some a0)
theorem Qen {a0:Qv5} {r:Qv5} (h:Zx a0=some r):EffC Tryz.prog 164 [.agg (heC a0 (.d (slD Qv4.enc a0.Heard)))] [] (.agg (heC r (.d (slD Qv4.enc r.Heard)))) []:=by
  refine QQ tOk (fn:=Tryz.f164) (c:=Qj Tryz.f164) rfl rfl ?_;unfold Zx at h;(conv=>whnf);refine Qe tOk ?_;(conv=>whnf);obtain ⟨x1,hx1,h⟩:=Qa h;refine cC 0 (Qb5 hx1) ?_;clear hx1;(conv=>whnf);refine Qu h (fun _ h=>?_) (fun _ h=>?_)
  · (conv=>whnf);obtain rfl:=sj_ h;exact lfE []
  · (conv=>whnf);obtain rfl:=sj_ h;exact lfE []
noncomputable def Qbc (a0:Qv5) (a1:Qv7):Option (Qv5) :=
 bd (α:=List Qv4 × Int × Int × Int × Int × Int × Int × Int × Int × List Qv2 × Bool × Int × Bool × List Qv1 × Int × Int × List Qv2 × Int × Int × Int × Bool × Int) ((if (decide (a1.Boot > a0.PeerBoot))=true then
 bd (QaG a0) fun x4 =>
 some (x4.Heard,x4.Name,x4.Peer,x4.Num,x4.Under.Kind,x4.Under.Entry.Addr,x4.Under.Entry.Len,x4.Under.Entry.Cost,x4.Under.Entry.Label,x4.Told,x4.All,x4.Got,x4.Full,x4.Keys,x4.Keep,x4.Boot,x4.Want,x4.Turn,a1.Boot,x4.PeerTurn,x4.Up,x4.Left)
else
 some (a0.Heard,a0.Name,a0.Peer,a0.Num,a0.Under.Kind,a0.Under.Entry.Addr,a0.Under.Entry.Len,a0.Under.Entry.Cost,a0.Under.Entry.Label,a0.Told,a0.All,a0.Got,a0.Full,a0.Keys,a0.Keep,a0.Boot,a0.Want,a0.Turn,a0.PeerBoot,a0.PeerTurn,a0.Up,a0.Left))) fun x1 =>
(if (!(a1.Yours == x1.2.2.2.2.2.2.2.2.2.2.2.2.2.2.2.1))=true then
 some (⟨x1.2.1,x1.2.2.1,x1.2.2.2.2.2.2.2.2.2.2.2.2.2.1,x1.2.2.2.2.2.2.2.2.2.2.2.2.2.2.2.1,x1.2.2.2.2.2.2.2.2.2.2.2.2.2.2.2.2.1,x1.2.2.2.2.2.2.2.2.2.2.2.2.2.2.2.2.2.1,x1.2.2.2.2.2.2.2.2.2.2.2.2.2.2.2.2.2.2.1,a1.Turn,(a1.Yours == x1.2.2.2.2.2.2.2.2.2.2.2.2.2.2.2.1),4,x1.2.2.2.1,(⟨x1.2.2.2.2.1,(⟨x1.2.2.2.2.2.1,x1.2.2.2.2.2.2.1,x1.2.2.2.2.2.2.2.1,x1.2.2.2.2.2.2.2.2.1⟩:Qv2)⟩:Qv3),x1.2.2.2.2.2.2.2.2.2.1,x1.2.2.2.2.2.2.2.2.2.2.1,x1.2.2.2.2.2.2.2.2.2.2.2.1,x1.2.2.2.2.2.2.2.2.2.2.2.2.1,x1.1,x1.2.2.2.2.2.2.2.2.2.2.2.2.2.2.1⟩:Qv5)
else
 bd (α:=Int × Int × Int × Int × Int × Int × Int × Int × List Qv2 × Bool × Int × Bool × List Qv1 × List Qv4 × Int × Int × List Qv2 × Int × Int × Int × Bool × Int) ((if ((decide (x1.2.2.2.2.1 > 0)) && (a1.Heard == x1.2.2.2.1))=true then
 bd (J0 (⟨x1.2.1,x1.2.2.1,x1.2.2.2.2.2.2.2.2.2.2.2.2.2.1,x1.2.2.2.2.2.2.2.2.2.2.2.2.2.2.2.1,x1.2.2.2.2.2.2.2.2.2.2.2.2.2.2.2.2.1,x1.2.2.2.2.2.2.2.2.2.2.2.2.2.2.2.2.2.1,x1.2.2.2.2.2.2.2.2.2.2.2.2.2.2.2.2.2.2.1,a1.Turn,(a1.Yours == x1.2.2.2.2.2.2.2.2.2.2.2.2.2.2.2.1),4,x1.2.2.2.1,(⟨x1.2.2.2.2.1,(⟨x1.2.2.2.2.2.1,x1.2.2.2.2.2.2.1,x1.2.2.2.2.2.2.2.1,x1.2.2.2.2.2.2.2.2.1⟩:Qv2)⟩:Qv3),x1.2.2.2.2.2.2.2.2.2.1,x1.2.2.2.2.2.2.2.2.2.2.1,x1.2.2.2.2.2.2.2.2.2.2.2.1,x1.2.2.2.2.2.2.2.2.2.2.2.2.1,x1.1,x1.2.2.2.2.2.2.2.2.2.2.2.2.2.2.1⟩:Qv5)) fun x8 =>
 some (x8.Name,x8.Peer,x8.Num,x8.Under.Kind,x8.Under.Entry.Addr,x8.Under.Entry.Len,x8.Under.Entry.Cost,x8.Under.Entry.Label,x8.Told,x8.All,x8.Got,x8.Full,x8.Keys,x8.Heard,x8.Keep,x8.Boot,x8.Want,x8.Turn,x8.PeerBoot,x8.PeerTurn,x8.Up,x8.Left)
else
 some (x1.2.1,x1.2.2.1,x1.2.2.2.1,x1.2.2.2.2.1,x1.2.2.2.2.2.1,x1.2.2.2.2.2.2.1,x1.2.2.2.2.2.2.2.1,x1.2.2.2.2.2.2.2.2.1,x1.2.2.2.2.2.2.2.2.2.1,x1.2.2.2.2.2.2.2.2.2.2.1,x1.2.2.2.2.2.2.2.2.2.2.2.1,x1.2.2.2.2.2.2.2.2.2.2.2.2.1,x1.2.2.2.2.2.2.2.2.2.2.2.2.2.1,x1.1,x1.2.2.2.2.2.2.2.2.2.2.2.2.2.2.1,x1.2.2.2.2.2.2.2.2.2.2.2.2.2.2.2.1,x1.2.2.2.2.2.2.2.2.2.2.2.2.2.2.2.2.1,x1.2.2.2.2.2.2.2.2.2.2.2.2.2.2.2.2.2.1,x1.2.2.2.2.2.2.2.2.2.2.2.2.2.2.2.2.2.2.1,a1.Turn,(a1.Yours == x1.2.2.2.2.2.2.2.2.2.2.2.2.2.2.2.1),4))) fun x5 =>
(if ((decide (a1.Change.Kind > 0)) && (a1.Num == (IntKind.i64.wrap (x5.2.2.2.2.2.2.2.2.2.2.1+1))))=true then
 bd (QaH x5.2.2.2.2.2.2.2.2.2.2.2.2.2.1 a1.Change) fun x9 =>
(if x9.2=true then
 bd (Zx (⟨x5.1,x5.2.1,x5.2.2.2.2.2.2.2.2.2.2.2.2.1,x5.2.2.2.2.2.2.2.2.2.2.2.2.2.2.2.1,x5.2.2.2.2.2.2.2.2.2.2.2.2.2.2.2.2.1,x5.2.2.2.2.2.2.2.2.2.2.2.2.2.2.2.2.2.1,x5.2.2.2.2.2.2.2.2.2.2.2.2.2.2.2.2.2.2.1,x5.2.2.2.2.2.2.2.2.2.2.2.2.2.2.2.2.2.2.2.1,x5.2.2.2.2.2.2.2.2.2.2.2.2.2.2.2.2.2.2.2.2.1,x5.2.2.2.2.2.2.2.2.2.2.2.2.2.2.2.2.2.2.2.2.2,x5.2.2.1,(⟨x5.2.2.2.1,(⟨x5.2.2.2.2.1,x5.2.2.2.2.2.1,x5.2.2.2.2.2.2.1,x5.2.2.2.2.2.2.2.1⟩:Qv2)⟩:Qv3),x5.2.2.2.2.2.2.2.2.1,x5.2.2.2.2.2.2.2.2.2.1,a1.Num,(x5.2.2.2.2.2.2.2.2.2.2.2.1 || (a1.Change.Kind == 3)),x9.1,x5.2.2.2.2.2.2.2.2.2.2.2.2.2.2.1⟩:Qv5)) fun x10 =>
 some x10
else
 bd (Zx (⟨x5.1,x5.2.1,x5.2.2.2.2.2.2.2.2.2.2.2.2.1,x5.2.2.2.2.2.2.2.2.2.2.2.2.2.2.2.1,x5.2.2.2.2.2.2.2.2.2.2.2.2.2.2.2.2.1,x5.2.2.2.2.2.2.2.2.2.2.2.2.2.2.2.2.2.1,x5.2.2.2.2.2.2.2.2.2.2.2.2.2.2.2.2.2.2.1,x5.2.2.2.2.2.2.2.2.2.2.2.2.2.2.2.2.2.2.2.1,x5.2.2.2.2.2.2.2.2.2.2.2.2.2.2.2.2.2.2.2.2.1,x5.2.2.2.2.2.2.2.2.2.2.2.2.2.2.2.2.2.2.2.2.2,x5.2.2.1,(⟨x5.2.2.2.1,(⟨x5.2.2.2.2.1,x5.2.2.2.2.2.1,x5.2.2.2.2.2.2.1,x5.2.2.2.2.2.2.2.1⟩:Qv2)⟩:Qv3),x5.2.2.2.2.2.2.2.2.1,x5.2.2.2.2.2.2.2.2.2.1,x5.2.2.2.2.2.2.2.2.2.2.1,x5.2.2.2.2.2.2.2.2.2.2.2.1,x5.2.2.2.2.2.2.2.2.2.2.2.2.2.1,x5.2.2.2.2.2.2.2.2.2.2.2.2.2.2.1⟩:Qv5)) fun x11 =>
 some x11)
else
 bd (Zx (⟨x5.1,x5.2.1,x5.2.2.2.2.2.2.2.2.2.2.2.2.1,x5.2.2.2.2.2.2.2.2.2.2.2.2.2.2.2.1,x5.2.2.2.2.2.2.2.2.2.2.2.2.2.2.2.2.1,x5.2.2.2.2.2.2.2.2.2.2.2.2.2.2.2.2.2.1,x5.2.2.2.2.2.2.2.2.2.2.2.2.2.2.2.2.2.2.1,x5.2.2.2.2.2.2.2.2.2.2.2.2.2.2.2.2.2.2.2.1,x5.2.2.2.2.2.2.2.2.2.2.2.2.2.2.2.2.2.2.2.2.1,x5.2.2.2.2.2.2.2.2.2.2.2.2.2.2.2.2.2.2.2.2.2,x5.2.2.1,(⟨x5.2.2.2.1,(⟨x5.2.2.2.2.1,x5.2.2.2.2.2.1,x5.2.2.2.2.2.2.1,x5.2.2.2.2.2.2.2.1⟩:Qv2)⟩:Qv3),x5.2.2.2.2.2.2.2.2.1,x5.2.2.2.2.2.2.2.2.2.1,x5.2.2.2.2.2.2.2.2.2.2.1,x5.2.2.2.2.2.2.2.2.2.2.2.1,x5.2.2.2.2.2.2.2.2.2.2.2.2.2.1,x5.2.2.2.2.2.2.2.2.2.2.2.2.2.2.1⟩:Qv5)) fun x12 =>
 some x12))
theorem QiP {a0:Qv5} {a1:Qv7} {r:Qv5} (h:Qbc a0 a1=some r):EffC Tryz.prog 151 [.agg (heC a0 (.osl 9000 0 a0.Heard.length)),.agg (hwC a1)] [(9000,.arr 96 5 a0.Heard.length (rows Qv4.enc a0.Heard))] (.agg (heC r (.d (slD Qv4.enc r.Heard)))) []:=by
  refine QQ tOk (fn:=Tryz.f151) (c:=Qj Tryz.f151) rfl rfl ?_;unfold Qbc at h;(conv=>whnf);obtain ⟨x1,hx1,h⟩:=Qa h;refine Ji tOk (fun s2=>⟨0,81,[(2,.ref 2 0 0),(3,.ref 3 0 0),(4,.ref 4 0 0)],[],[(6001,.arr 96 5 s2.1.length (rows Qv4.enc s2.1)),(4,.box 36 [dI 0,dI 0,.d (.nil),dI 0,.d (.nil),dI 0,dI 0,dI 0,dB false,dI 0,dI 0,dI 0,dI 0,dI 0,dI 0,dI 0,.d (.nil),dB false,dI 0,dB false,.d (.nil),dI 0]),(3,.box 42 (hwC a1)),(2,.box 36 [dI s2.2.1,dI s2.2.2.1,.d (slD Qv1.enc s2.2.2.2.2.2.2.2.2.2.2.2.2.2.1),dI s2.2.2.2.2.2.2.2.2.2.2.2.2.2.2.2.1,.d (slD Qv2.enc s2.2.2.2.2.2.2.2.2.2.2.2.2.2.2.2.2.1),dI s2.2.2.2.2.2.2.2.2.2.2.2.2.2.2.2.2.2.1,dI s2.2.2.2.2.2.2.2.2.2.2.2.2.2.2.2.2.2.2.1,dI s2.2.2.2.2.2.2.2.2.2.2.2.2.2.2.2.2.2.2.2.1,dB s2.2.2.2.2.2.2.2.2.2.2.2.2.2.2.2.2.2.2.2.2.1,dI s2.2.2.2.2.2.2.2.2.2.2.2.2.2.2.2.2.2.2.2.2.2,dI s2.2.2.2.1,dI s2.2.2.2.2.1,dI s2.2.2.2.2.2.1,dI s2.2.2.2.2.2.2.1,dI s2.2.2.2.2.2.2.2.1,dI s2.2.2.2.2.2.2.2.2.1,.d (slD Qv2.enc s2.2.2.2.2.2.2.2.2.2.1),dB s2.2.2.2.2.2.2.2.2.2.2.1,dI s2.2.2.2.2.2.2.2.2.2.2.2.1,dB s2.2.2.2.2.2.2.2.2.2.2.2.2.1,.osl 6001 0 s2.1.length,dI s2.2.2.2.2.2.2.2.2.2.2.2.2.2.2.1])],[⟨[],[]⟩]⟩) (fun s2=>x1=s2) ?_ ?_
  · (conv=>whnf);refine Qu hx1 (fun _ hx1=>?_) (fun _ hx1=>?_)
    · (conv=>whnf);obtain ⟨x4,hx4,hx1⟩:=Qa hx1;refine cE [(9000,9000)] 1000 (Qem hx4) ?_;(conv=>whnf);obtain rfl:=sj_ hx1;exact ⟨_,rfl,leX []⟩
    · (conv=>whnf);obtain rfl:=sj_ hx1;exact ⟨_,rfl,leX [.s [(6001,9000),(9000,6001)]]⟩
  · rintro _ rfl;(conv=>whnf);refine Qe tOk ?_;(conv=>whnf);refine Qu h (fun _ h=>?_) (fun _ h=>?_)
    · (conv=>whnf);obtain rfl:=sj_ h;exact lfE [.f [6001]]
    · (conv=>whnf);obtain ⟨x5,hx5,h⟩:=Qa h;refine Ji tOk (fun s6=>⟨0,81,[(2,.ref 2 0 0),(3,.ref 3 0 0),(4,.ref 4 0 0)],[],[(4,.box 36 [dI 0,dI 0,.d (.nil),dI 0,.d (.nil),dI 0,dI 0,dI 0,dB false,dI 0,dI 0,dI 0,dI 0,dI 0,dI 0,dI 0,.d (.nil),dB false,dI 0,dB false,.d (.nil),dI 0]),(3,.box 42 (hwC a1)),(2,.box 36 [dI s6.1,dI s6.2.1,.d (slD Qv1.enc s6.2.2.2.2.2.2.2.2.2.2.2.2.1),dI s6.2.2.2.2.2.2.2.2.2.2.2.2.2.2.2.1,.d (slD Qv2.enc s6.2.2.2.2.2.2.2.2.2.2.2.2.2.2.2.2.1),dI s6.2.2.2.2.2.2.2.2.2.2.2.2.2.2.2.2.2.1,dI s6.2.2.2.2.2.2.2.2.2.2.2.2.2.2.2.2.2.2.1,dI s6.2.2.2.2.2.2.2.2.2.2.2.2.2.2.2.2.2.2.2.1,dB s6.2.2.2.2.2.2.2.2.2.2.2.2.2.2.2.2.2.2.2.2.1,dI s6.2.2.2.2.2.2.2.2.2.2.2.2.2.2.2.2.2.2.2.2.2,dI s6.2.2.1,dI s6.2.2.2.1,dI s6.2.2.2.2.1,dI s6.2.2.2.2.2.1,dI s6.2.2.2.2.2.2.1,dI s6.2.2.2.2.2.2.2.1,.d (slD Qv2.enc s6.2.2.2.2.2.2.2.2.1),dB s6.2.2.2.2.2.2.2.2.2.1,dI s6.2.2.2.2.2.2.2.2.2.2.1,dB s6.2.2.2.2.2.2.2.2.2.2.2.1,.d (slD Qv4.enc s6.2.2.2.2.2.2.2.2.2.2.2.2.2.1),dI s6.2.2.2.2.2.2.2.2.2.2.2.2.2.2.1])],[⟨[],[]⟩]⟩) (fun s6=>x5=s6) ?_ ?_
      · (conv=>whnf);refine Qu hx5 (fun _ hx5=>?_) (fun _ hx5=>?_)
        · (conv=>whnf);obtain ⟨x8,hx8,hx5⟩:=Qa hx5;refine QcU [6001] ?_;(conv=>whnf);refine cE [] 1000 (Qhj hx8) ?_;(conv=>whnf);obtain rfl:=sj_ hx5;exact ⟨_,rfl,leX [.f [6001]]⟩
        · (conv=>whnf);obtain rfl:=sj_ hx5;exact ⟨_,rfl,leX [.f [6001]]⟩
      · rintro _ rfl;(conv=>whnf);refine Qe tOk ?_;(conv=>whnf);refine Qu h (fun _ h=>?_) (fun _ h=>?_)
        · (conv=>whnf);obtain ⟨x9,hx9,h⟩:=Qa h;refine cE [] 0 (Qkr hx9) ?_;(conv=>whnf);refine Qu h (fun _ h=>?_) (fun _ h=>?_)
          · (conv=>whnf);obtain ⟨x10,hx10,h⟩:=Qa h;refine cE [] 0 (Qen hx10) ?_;(conv=>whnf);obtain rfl:=sj_ h;exact lfE []
          · (conv=>whnf);obtain ⟨x11,hx11,h⟩:=Qa h;refine cE [] 0 (Qen hx11) ?_;(conv=>whnf);obtain rfl:=sj_ h;exact lfE []
        · (conv=>whnf);obtain ⟨x12,hx12,h⟩:=Qa h;refine cE [] 0 (Qen hx12) ?_;(conv=>whnf);obtain rfl:=sj_ h;exact lfE []
noncomputable def Qbd (a0:Qv5) (a1:Qv7):Option (Qv5) :=
 bd (ZP a0) fun x1 =>
(if (!x1)=true then
 some (⟨0,0,[],0,[],0,0,0,false,0,0,(⟨0,(⟨0,0,0,0⟩:Qv2)⟩:Qv3),[],false,0,false,[],0⟩:Qv5)
else
 bd (Za a0) fun x2 =>
 bd (gcall ((a0.Boot == 1000)=false) (ZQ a0.Keys a1)) fun x3 =>
(if ((((a0.Boot == 1000) || (!x3)) || (a1.From != a0.Peer)) || (a1.To != a0.Name))=true then
 some x2
else
(if ((decide (a1.Boot<a0.PeerBoot)) || ((a1.Boot == a0.PeerBoot) && (decide (a1.Turn≤a0.PeerTurn))))=true then
 some x2
else
 bd (Qbc x2 a1) fun x4 =>
 bd (Za x4) fun x5 =>
 some x5)))
theorem QiQ {a0:Qv5} {a1:Qv7} {r:Qv5} (h:Qbd a0 a1=some r):PureC Tryz.prog 125 [.agg (heC a0 (.d (slD Qv4.enc a0.Heard))),.agg (hwC a1)] (.agg (dI r.Name :: dI r.Peer :: .osl 5001 0 r.Keys.length :: dI r.Boot :: .osl 5002 0 r.Want.length :: dI r.Turn :: dI r.PeerBoot :: dI r.PeerTurn :: dB r.Up :: dI r.Left :: dI r.Num :: dI r.Under.Kind :: hnC r.Under.Entry ++ [.osl 5003 0 r.Told.length,dB r.All,dI r.Got,dB r.Full,.osl 5004 0 r.Heard.length,dI r.Keep])) [⟨5001,93,2,r.Keys.length,rows Qv1.enc r.Keys⟩,⟨5002,31,4,r.Want.length,rows Qv2.enc r.Want⟩,⟨5003,31,4,r.Told.length,rows Qv2.enc r.Told⟩,⟨5004,96,5,r.Heard.length,rows Qv4.enc r.Heard⟩]:=by
  refine Qt tOk (fn:=Tryz.f125) (c:=Qj Tryz.f125) rfl rfl ?_;unfold Qbd at h;(conv=>whnf);refine Qe tOk ?_;(conv=>whnf);obtain ⟨x1,hx1,h⟩:=Qa h;refine cC 0 (QaT hx1) ?_;clear hx1;(conv=>whnf);refine Qu h (fun _ h=>?_) (fun _ h=>?_)
  · (conv=>whnf);obtain rfl:=sj_ h;exact lfP [.k [2,3],.p 5001 93 2 (rows Qv1.enc ([]:List Qv1)),.p 5002 31 4 (rows Qv2.enc ([]:List Qv2)),.p 5003 31 4 (rows Qv2.enc ([]:List Qv2)),.p 5004 96 5 (rows Qv4.enc ([]:List Qv4))]
  · (conv=>whnf);obtain ⟨x2,hx2,h⟩:=Qa h;refine cC 1000 (Z4 hx2) ?_;clear hx2;(conv=>whnf);refine Qe tOk ?_;(conv=>whnf);obtain ⟨x3,hx3,h⟩:=Qa h;refine cG (fun c0=>QaV (Qf hx3 c0)) ?_;(conv=>whnf);refine Qu h (fun _ h=>?_) (fun _ h=>?_)
    · (conv=>whnf);obtain rfl:=sj_ h;exact lfP [.s [(5001,6001),(5002,6002),(5003,6003),(5004,6004),(6001,5001),(6002,5002),(6003,5003),(6004,5004)]]
    · (conv=>whnf);refine Qe tOk ?_;(conv=>whnf);refine Qu h (fun _ h=>?_) (fun _ h=>?_)
      · (conv=>whnf);obtain rfl:=sj_ h;exact lfP [.s [(5001,6001),(5002,6002),(5003,6003),(5004,6004),(6001,5001),(6002,5002),(6003,5003),(6004,5004)]]
      · (conv=>whnf);obtain ⟨x4,hx4,h⟩:=Qa h;refine QcU [6001,6002,6003] ?_;(conv=>whnf);refine cE [(9000,6004)] 0 (QiP hx4) ?_;(conv=>whnf);obtain ⟨x5,hx5,h⟩:=Qa h;refine cC 2000 (Z4 hx5) ?_;clear hx5;(conv=>whnf);obtain rfl:=sj_ h;exact lfP [.s [(5001,7001),(5002,7002),(5003,7003),(5004,7004),(7001,5001),(7002,5002),(7003,5003),(7004,5004)]]
noncomputable def Jm (a0:Qv8) (a1:Int):Option (Qv8) :=
 gd ((0:Int)≤a1∧a1<((a0.Radio.length:Nat):Int)) <|
 gd ((0:Int)≤(0:Int)∧(0:Int)≤a1∧a1≤((a0.Radio.length:Nat):Int)) <|
 gd (((0)+(a1.toNat))*(112+1)≤70368744177664) <|
 gd ((0:Int)≤IntKind.i64.wrap (a1+1)∧IntKind.i64.wrap (a1+1)≤((a0.Radio.length:Nat):Int)∧((a0.Radio.length:Nat):Int)≤((a0.Radio.length:Nat):Int)) <|
 gd ((((a0.Radio.take a1.toNat).length)+((Qc8 ((a0.Radio.length:Nat):Int) (IntKind.i64.wrap (a1+1)))))*(112+1)≤70368744177664) <|
 bd (lp (σ:=List Qv6 × Int) (β:=(Nat × (List Qv6))) (fun s5 =>
(if (decide (s5.2<2))=true then
 gd ((0:Int)≤s5.2∧s5.2<((s5.1.length:Nat):Int)) <|
 gd ((s5.1.getD s5.2.toNat default).Up=true→((0:Int)≤s5.2∧s5.2<((s5.1.length:Nat):Int))) <|
(if ((s5.1.getD s5.2.toNat default).Up && ((((s5.1.getD s5.2.toNat default).End).Name) == ((a0.Radio.getD a1.toNat default).To)))=true then
 gd ((0:Int)≤s5.2∧s5.2<((s5.1.length:Nat):Int)) <|
 bd (Qbd ({ ((s5.1.getD s5.2.toNat default).End) with Under:=(⟨(((s5.1.getD s5.2.toNat default).End).Under).Kind,((((s5.1.getD s5.2.toNat default).End).Under).Entry)⟩:Qv3) }) ({ (a0.Radio.getD a1.toNat default) with Change:=(⟨((a0.Radio.getD a1.toNat default).Change).Kind,(((a0.Radio.getD a1.toNat default).Change).Entry)⟩:Qv3) })) fun x12 =>
 gd ((0:Int)≤s5.2∧s5.2<((s5.1.length:Nat):Int)) <|
 some (.inl (s5.1.set s5.2.toNat (⟨(s5.1.getD s5.2.toNat default).Up,x12⟩:Qv6),IntKind.i64.wrap (s5.2+1)))
else
 some (.inl (s5.1,IntKind.i64.wrap (s5.2+1))))
else
 some (.inr (s5.1.length,s5.1)))) (a0.Sides,0)) fun x8 =>
 some (⟨x8.2,((a0.Radio.take a1.toNat) ++ (((a0.Radio).take ((IntKind.i64.wrap (a1+1)).toNat+(Qc8 ((a0.Radio.length:Nat):Int) (IntKind.i64.wrap (a1+1))))).drop ((IntKind.i64.wrap (a1+1)).toNat)))⟩:Qv8)
theorem QdO {a0:Qv8} {a1:Int} {r:Qv8} (h:Jm a0 a1=some r):EffC Tryz.prog 82 [.agg [.osl 9000 0 a0.Sides.length,.d (slD Qv7.enc a0.Radio)],dI a1] [(9000,.arr 38 23 a0.Sides.length (rows Qv6.enc a0.Sides))] (.agg [.osl 5001 0 r.Sides.length,.osl 5002 0 r.Radio.length]) [(5001,.arr 38 23 r.Sides.length (rows Qv6.enc r.Sides)),(5002,.arr 42 14 r.Radio.length (rows Qv7.enc r.Radio))]:=by
  refine QQ tOk (fn:=Tryz.f82) (c:=Qj Tryz.f82) rfl rfl ?_;unfold Jm at h;(conv=>whnf);refine gdI h (fun h=>?_);(conv=>whnf);obtain ⟨g2,h⟩:=Qg h;obtain ⟨g3,h⟩:=Qg h;obtain ⟨g4,h⟩:=Qg h;refine QP tOk [] 11 [] [0,0,2,0,14,31,0,64,0,256,960] [2047,4095,8191] ?_;(conv=>whnf);refine And.intro ⟨g2,.inr rfl⟩ ?_;(conv=>whnf);refine And.intro g3 ?_;clear g3;refine QtK (enc:=Qv7.enc) (ys:=a0.Radio.take a1.toNat) ?_;(conv=>whnf);refine And.intro ⟨g4,.inr rfl⟩ ?_;(conv=>whnf);refine And.intro (by kernel_rfl) ?_;(conv=>whnf);refine gdI h (fun h=>?_);refine Qh0 (enc:=Qv7.enc) (xs:=(a0.Radio.take a1.toNat)) (ys:=((a0.Radio).take ((IntKind.i64.wrap (a1+1)).toNat+(Qc8 ((a0.Radio.length:Nat):Int) (IntKind.i64.wrap (a1+1))))).drop ((IntKind.i64.wrap (a1+1)).toNat)) ?_;(conv=>whnf);refine Qe tOk ?_;(conv=>whnf);obtain ⟨x8,hx8,h⟩:=Qa h;refine Zh tOk hx8 (fun s5=>⟨0,61,[(2,.ref 2 0 0),(4,.ref 4 0 0),(5,.ref 5 0 0),(6,dI s5.2)],[],[(17,.arr 42 14 (((a0.Radio.take a1.toNat) ++ (((a0.Radio).take ((IntKind.i64.wrap (a1+1)).toNat+(Qc8 ((a0.Radio.length:Nat):Int) (IntKind.i64.wrap (a1+1))))).drop ((IntKind.i64.wrap (a1+1)).toNat))).length) (rows Qv7.enc ((a0.Radio.take a1.toNat) ++ (((a0.Radio).take ((IntKind.i64.wrap (a1+1)).toNat+(Qc8 ((a0.Radio.length:Nat):Int) (IntKind.i64.wrap (a1+1))))).drop ((IntKind.i64.wrap (a1+1)).toNat))))),(5,.box 42 (hwC (a0.Radio.getD a1.toNat default))),(4,.box 26 [.d (.nil),.d (.nil)]),(2,.box 26 [.osl 9000 0 s5.1.length,.osl 17 0 (((a0.Radio.take a1.toNat) ++ (((a0.Radio).take ((IntKind.i64.wrap (a1+1)).toNat+(Qc8 ((a0.Radio.length:Nat):Int) (IntKind.i64.wrap (a1+1))))).drop ((IntKind.i64.wrap (a1+1)).toNat))).length)]),(9000,.arr 38 23 s5.1.length (rows Qv6.enc s5.1))],[⟨[],[]⟩]⟩) ?_ ?_
  · exact leX []
  · clear hx8;intro s5 y6 g7 hy6;(conv=>whnf);refine Qe tOk ?_;(conv=>whnf);refine Qu g7 (fun _ g7=>?_) (fun _ g7=>?_)
    · (conv=>whnf);refine Qe tOk ?_;(conv=>whnf);obtain ⟨g9,g7⟩:=Qg g7;obtain ⟨g10,g7⟩:=Qg g7;refine QP tOk [] 18 [] [0,1,0,7,15,31,63,127,255,127,1023,2047,4095,8191,127,16511,65535,131071] [] ?_;(conv=>whnf);refine And.intro g9 ?_;clear g9;(conv=>whnf);refine And.intro g10 ?_;clear g10;(conv=>whnf);refine And.intro (by kernel_rfl) ?_;(conv=>whnf);refine Qu g7 (fun _ g7=>?_) (fun _ g7=>?_)
      · (conv=>whnf);obtain ⟨g11,g7⟩:=Qg g7;obtain ⟨x12,hx12,g7⟩:=Qa g7;obtain ⟨g13,g7⟩:=Qg g7;refine QP tOk [.u 10 1000 (.agg (dI x12.Name :: dI x12.Peer :: .osl 5001 0 x12.Keys.length :: dI x12.Boot :: .osl 5002 0 x12.Want.length :: dI x12.Turn :: dI x12.PeerBoot :: dI x12.PeerTurn :: dB x12.Up :: dI x12.Left :: dI x12.Num :: dI x12.Under.Kind :: hnC x12.Under.Entry ++ [.osl 5003 0 x12.Told.length,dB x12.All,dI x12.Got,dB x12.Full,.osl 5004 0 x12.Heard.length,dI x12.Keep])) [⟨5001,93,2,x12.Keys.length,rows Qv1.enc x12.Keys⟩,⟨5002,31,4,x12.Want.length,rows Qv2.enc x12.Want⟩,⟨5003,31,4,x12.Told.length,rows Qv2.enc x12.Told⟩,⟨5004,96,5,x12.Heard.length,rows Qv4.enc x12.Heard⟩]] 13 [] [0,1,0,0,8,0,56,120,248,0,1016,2047,4095] [8191] ?_;(conv=>whnf);refine And.intro g11 ?_;clear g11;(conv=>whnf);refine And.intro (QM (QiQ hx12) (by kernel_rfl)) ?_;(conv=>whnf);refine And.intro g13 ?_;clear g13;(conv=>whnf);refine And.intro (by kernel_rfl) ?_;(conv=>whnf);refine ⟨rows Qv6.enc (s5.1.set s5.2.toNat (⟨(s5.1.getD s5.2.toNat default).Up,x12⟩:Qv6)),Zd Qjk rfl,?_⟩;(conv=>whnf);obtain rfl:=sj_ g7;exact ⟨_,rfl,leX []⟩
      · (conv=>whnf);obtain rfl:=sj_ g7;exact ⟨_,rfl,leX []⟩
    · (conv=>whnf);obtain rfl:=sj_ g7;obtain rfl:=hy6 _ rfl;obtain rfl:=sj_ h;exact lfE [.s [(17,5002),(5001,9000),(5002,17),(9000,5001)]]
noncomputable def Qbm (a0:Qv5):Option (Qv5) :=
(if (decide (a0.Boot<1000))=true then
 bd (QaG ({ a0 with Boot:=IntKind.i64.wrap (a0.Boot+1),Turn:=0,Left:=0 })) fun x1 =>
 some x1
else
 bd (QaG ({ a0 with Turn:=0,Left:=0 })) fun x2 =>
 some x2)
theorem Qgz {a0:Qv5} {r:Qv5} (h:Qbm a0=some r):EffC Tryz.prog 118 [.agg (heC a0 (.osl 9000 0 a0.Heard.length))] [(9000,.arr 96 5 a0.Heard.length (rows Qv4.enc a0.Heard))] (.agg (heC r (.osl 5001 0 r.Heard.length))) [(5001,.arr 96 5 r.Heard.length (rows Qv4.enc r.Heard))]:=by
  refine QQ tOk (fn:=Tryz.f118) (c:=Qj Tryz.f118) rfl rfl ?_;unfold Qbm at h;(conv=>whnf);refine Qe tOk ?_;(conv=>whnf);refine Qu h (fun _ h=>?_) (fun _ h=>?_)
  · (conv=>whnf);obtain ⟨x1,hx1,h⟩:=Qa h;refine cE [(9000,9000)] 1000 (Qem hx1) ?_;(conv=>whnf);obtain rfl:=sj_ h;exact lfE [.s [(5001,6001),(6001,5001)]]
  · (conv=>whnf);obtain ⟨x2,hx2,h⟩:=Qa h;refine cE [(9000,9000)] 1000 (Qem hx2) ?_;(conv=>whnf);obtain rfl:=sj_ h;exact lfE [.s [(5001,6001),(6001,5001)]]
noncomputable def QbD (a0:(List Qv2)) (a1:(List Qv2)):Option (Qv2 × Bool) :=
 bd (lp (σ:=Int) (β:=((Int × Int × Int × Int) ⊕ Unit)) (fun s1 =>
(if (decide (s1<((a0.length:Nat):Int)))=true then
 gd ((0:Int)≤s1∧s1<((a0.length:Nat):Int)) <|
 bd (Qbz a1 (a0.getD s1.toNat default)) fun x6 =>
(if (decide (x6<0))=true then
 gd ((0:Int)≤s1∧s1<((a0.length:Nat):Int)) <|
 some (.inr (.inl ((a0.getD s1.toNat default).Addr,(a0.getD s1.toNat default).Len,(a0.getD s1.toNat default).Cost,(a0.getD s1.toNat default).Label)))
else
 some (.inl (IntKind.i64.wrap (s1+1))))
else
 some (.inr (.inr ())))) 0) fun x4 =>
(match x4 with
| .inl d8 =>
 some ((⟨d8.1,d8.2.1,d8.2.2.1,d8.2.2.2⟩:Qv2),true)
| .inr d9 =>
 some ((⟨0,0,0,0⟩:Qv2),false))
theorem Qjo {a0:(List Qv2)} {a1:(List Qv2)} {r:Qv2 × Bool} (h:QbD a0 a1=some r):PureC Tryz.prog 159 [.d (slD Qv2.enc a0),.d (slD Qv2.enc a1)] (.tup [.agg (hnC r.1),dB r.2]) []:=by
  refine Qt tOk (fn:=Tryz.f159) (c:=Qj Tryz.f159) rfl rfl ?_;unfold QbD at h;(conv=>whnf);refine Qe tOk ?_;(conv=>whnf);obtain ⟨x4,hx4,h⟩:=Qa h;refine Zh tOk hx4 (fun s1=>⟨0,25,[(0,.d (slD Qv2.enc a0)),(1,.d (slD Qv2.enc a1)),(4,.ref 4 0 0),(6,dI s1)],[],[(4,.box 31 [dI 0,dI 0,dI 0,dI 0])],[]⟩) ?_ ?_
  · exact leX []
  · clear hx4;intro s1 y2 g3 hy2;(conv=>whnf);refine Qe tOk ?_;(conv=>whnf);refine Qu g3 (fun _ g3=>?_) (fun _ g3=>?_)
    · (conv=>whnf);refine Qe tOk ?_;(conv=>whnf);refine gdI g3 (fun g3=>?_);(conv=>whnf);obtain ⟨x6,hx6,g3⟩:=Qa g3;refine cC 0 (Qfv hx6) ?_;clear hx6;(conv=>whnf);refine Qu g3 (fun _ g3=>?_) (fun _ g3=>?_)
      · (conv=>whnf);refine gdI g3 (fun g3=>?_);(conv=>whnf);obtain rfl:=sj_ g3;obtain rfl:=hy2 _ rfl;obtain rfl:=sj_ h;exact lfP []
      · (conv=>whnf);obtain rfl:=sj_ g3;exact ⟨_,rfl,leX []⟩
    · (conv=>whnf);obtain rfl:=sj_ g3;obtain rfl:=hy2 _ rfl;obtain rfl:=sj_ h;exact lfP []
noncomputable def QbE (a0:(List Qv2)) (a1:(List Qv2)):Option (Qv2 × Bool) :=
 bd (lp (σ:=Int) (β:=((Int × Int × Int × Int) ⊕ Unit)) (fun s1 =>
(if (decide (s1<((a0.length:Nat):Int)))=true then
 gd ((0:Int)≤s1∧s1<((a0.length:Nat):Int)) <|
 bd (Qbz a1 (a0.getD s1.toNat default)) fun x6 =>
 gd ((decide (x6<0))=false→((0:Int)≤x6∧x6<((a1.length:Nat):Int))) <|
 gd ((decide (x6<0))=false→((0:Int)≤s1∧s1<((a0.length:Nat):Int))) <|
(if ((decide (x6<0)) || (!((((a1.getD x6.toNat default).Addr) == ((a0.getD s1.toNat default).Addr)) && ((((a1.getD x6.toNat default).Len) == ((a0.getD s1.toNat default).Len)) && ((((a1.getD x6.toNat default).Cost) == ((a0.getD s1.toNat default).Cost)) && ((((a1.getD x6.toNat default).Label) == ((a0.getD s1.toNat default).Label)) && true))))))=true then
 gd ((0:Int)≤s1∧s1<((a0.length:Nat):Int)) <|
 some (.inr (.inl ((a0.getD s1.toNat default).Addr,(a0.getD s1.toNat default).Len,(a0.getD s1.toNat default).Cost,(a0.getD s1.toNat default).Label)))
else
 some (.inl (IntKind.i64.wrap (s1+1))))
else
 some (.inr (.inr ())))) 0) fun x4 =>
(match x4 with
| .inl d10 =>
 some ((⟨d10.1,d10.2.1,d10.2.2.1,d10.2.2.2⟩:Qv2),true)
| .inr d11 =>
 some ((⟨0,0,0,0⟩:Qv2),false))
theorem Qjp {a0:(List Qv2)} {a1:(List Qv2)} {r:Qv2 × Bool} (h:QbE a0 a1=some r):PureC Tryz.prog 160 [.d (slD Qv2.enc a0),.d (slD Qv2.enc a1)] (.tup [.agg (hnC r.1),dB r.2]) []:=by
  refine Qt tOk (fn:=Tryz.f160) (c:=Qj Tryz.f160) rfl rfl ?_;unfold QbE at h;(conv=>whnf);refine Qe tOk ?_;(conv=>whnf);obtain ⟨x4,hx4,h⟩:=Qa h;refine Zh tOk hx4 (fun s1=>⟨0,38,[(0,.d (slD Qv2.enc a0)),(1,.d (slD Qv2.enc a1)),(4,.ref 4 0 0),(6,dI s1)],[],[(4,.box 31 [dI 0,dI 0,dI 0,dI 0])],[]⟩) ?_ ?_
  · exact leX []
  · clear hx4;intro s1 y2 g3 hy2;(conv=>whnf);refine Qe tOk ?_;(conv=>whnf);refine Qu g3 (fun _ g3=>?_) (fun _ g3=>?_)
    · (conv=>whnf);refine Qe tOk ?_;(conv=>whnf);refine gdI g3 (fun g3=>?_);(conv=>whnf);obtain ⟨x6,hx6,g3⟩:=Qa g3;refine cC 0 (Qfv hx6) ?_;clear hx6;(conv=>whnf);obtain ⟨g7,g3⟩:=Qg g3;obtain ⟨g8,g3⟩:=Qg g3;refine QP tOk [] 13 [] [0,1,3,7,7,31,63,7,7,391,903,2047,4095] [] ?_;(conv=>whnf);refine And.intro g7 ?_;clear g7;(conv=>whnf);refine And.intro g8 ?_;clear g8;(conv=>whnf);refine And.intro (by kernel_rfl) ?_;(conv=>whnf);refine Qu g3 (fun _ g3=>?_) (fun _ g3=>?_)
      · (conv=>whnf);refine gdI g3 (fun g3=>?_);(conv=>whnf);obtain rfl:=sj_ g3;obtain rfl:=hy2 _ rfl;obtain rfl:=sj_ h;exact lfP []
      · (conv=>whnf);obtain rfl:=sj_ g3;exact ⟨_,rfl,leX []⟩
    · (conv=>whnf);obtain rfl:=sj_ g3;obtain rfl:=hy2 _ rfl;obtain rfl:=sj_ h;exact lfP []
noncomputable def QaI (a0:Qv5):Option (Qv3) :=
 bd (QbD a0.Told a0.Want) fun x1 =>
(if x1.2=true then
 some (⟨2,{ x1.1 with Cost:=0,Label:=0 }⟩:Qv3)
else
 bd (QbE a0.Want a0.Told) fun x2 =>
(if x2.2=true then
 some (⟨1,x2.1⟩:Qv3)
else
(if (!a0.All)=true then
 some (⟨3,(⟨0,0,0,0⟩:Qv2)⟩:Qv3)
else
 some (⟨0,(⟨0,0,0,0⟩:Qv2)⟩:Qv3))))
theorem Qks {a0:Qv5} {r:Qv3} (h:QaI a0=some r):PureC Tryz.prog 145 [.agg (heC a0 (.d (slD Qv4.enc a0.Heard)))] (.agg (dI r.Kind :: hnC r.Entry)) []:=by
  refine Qt tOk (fn:=Tryz.f145) (c:=Qj Tryz.f145) rfl rfl ?_;unfold QaI at h;(conv=>whnf);obtain ⟨x1,hx1,h⟩:=Qa h;refine cC 0 (Qjo hx1) ?_;clear hx1;(conv=>whnf);refine Qe tOk ?_;(conv=>whnf);refine Qu h (fun _ h=>?_) (fun _ h=>?_)
  · (conv=>whnf);obtain rfl:=sj_ h;exact lfP []
  · (conv=>whnf);obtain ⟨x2,hx2,h⟩:=Qa h;refine cC 0 (Qjp hx2) ?_;clear hx2;(conv=>whnf);refine Qe tOk ?_;(conv=>whnf);refine Qu h (fun _ h=>?_) (fun _ h=>?_)
    · (conv=>whnf);obtain rfl:=sj_ h;exact lfP []
    · (conv=>whnf);refine Qe tOk ?_;(conv=>whnf);refine Qu h (fun _ h=>?_) (fun _ h=>?_)
      · (conv=>whnf);obtain rfl:=sj_ h;exact lfP []
      · (conv=>whnf);obtain rfl:=sj_ h;exact lfP []
noncomputable def JO (a0:Qv5):Option (Qv5 × Qv7 × Bool) :=
 bd (ZP a0) fun x1 =>
(if (!x1)=true then
 some ((⟨0,0,[],0,[],0,0,0,false,0,0,(⟨0,(⟨0,0,0,0⟩:Qv2)⟩:Qv3),[],false,0,false,[],0⟩:Qv5),(⟨0,0,0,0,0,0,0,0,(⟨0,(⟨0,0,0,0⟩:Qv2)⟩:Qv3),0⟩:Qv7),false)
else
 bd (Za a0) fun x2 =>
(if (x2.Boot == 1000)=true then
 some (x2,(⟨0,0,0,0,0,0,0,0,(⟨0,(⟨0,0,0,0⟩:Qv2)⟩:Qv3),0⟩:Qv7),false)
else
(if (x2.Turn == 1000000)=true then
 bd (Qbm x2) fun x3 =>
 bd (Za x3) fun x4 =>
 some (x4,(⟨0,0,0,0,0,0,0,0,(⟨0,(⟨0,0,0,0⟩:Qv2)⟩:Qv3),0⟩:Qv7),false)
else
 bd (α:=Int × Int × Int × Int × Int × Int) ((if (x2.Up && (x2.Under.Kind == 0))=true then
 bd (QaI ({ x2 with Turn:=IntKind.i64.wrap (x2.Turn+1) })) fun x8 =>
(if (decide (x8.Kind > 0))=true then
 some (IntKind.i64.wrap (x2.Num+1),x8.Kind,x8.Entry.Addr,x8.Entry.Len,x8.Entry.Cost,x8.Entry.Label)
else
 some (x2.Num,x8.Kind,x8.Entry.Addr,x8.Entry.Len,x8.Entry.Cost,x8.Entry.Label))
else
 some (x2.Num,x2.Under.Kind,x2.Under.Entry.Addr,x2.Under.Entry.Len,x2.Under.Entry.Cost,x2.Under.Entry.Label))) fun x5 =>
 gd ((0:Int)≤IntKind.i64.wrap (((x2.Keys.length:Nat):Int) - 1)∧IntKind.i64.wrap (((x2.Keys.length:Nat):Int) - 1)<((x2.Keys.length:Nat):Int)) <|
 bd (JN ((x2.Keys.getD ((IntKind.i64.wrap (((x2.Keys.length:Nat):Int) - 1)).toNat) default).Secret) (⟨x2.Name,x2.Peer,(x2.Keys.getD ((IntKind.i64.wrap (((x2.Keys.length:Nat):Int) - 1)).toNat) default).Id,x2.Boot,x2.PeerBoot,IntKind.i64.wrap (x2.Turn+1),x5.1,x2.Got,(⟨x5.2.1,(⟨x5.2.2.1,x5.2.2.2.1,x5.2.2.2.2.1,x5.2.2.2.2.2⟩:Qv2)⟩:Qv3),0⟩:Qv7)) fun x10 =>
 some ({ x2 with Turn:=IntKind.i64.wrap (x2.Turn+1),Num:=x5.1,Under:=(⟨x5.2.1,(⟨x5.2.2.1,x5.2.2.2.1,x5.2.2.2.2.1,x5.2.2.2.2.2⟩:Qv2)⟩:Qv3) },(⟨x2.Name,x2.Peer,(x2.Keys.getD ((IntKind.i64.wrap (((x2.Keys.length:Nat):Int) - 1)).toNat) default).Id,x2.Boot,x2.PeerBoot,IntKind.i64.wrap (x2.Turn+1),x5.1,x2.Got,(⟨x5.2.1,(⟨x5.2.2.1,x5.2.2.2.1,x5.2.2.2.2.1,x5.2.2.2.2.2⟩:Qv2)⟩:Qv3),x10⟩:Qv7),true))))
theorem Qfy {a0:Qv5} {r:Qv5 × Qv7 × Bool} (h:JO a0=some r):PureC Tryz.prog 115 [.agg (heC a0 (.d (slD Qv4.enc a0.Heard)))] (.tup [.agg (dI r.1.Name :: dI r.1.Peer :: .osl 5001 0 r.1.Keys.length :: dI r.1.Boot :: .osl 5002 0 r.1.Want.length :: dI r.1.Turn :: dI r.1.PeerBoot :: dI r.1.PeerTurn :: dB r.1.Up :: dI r.1.Left :: dI r.1.Num :: dI r.1.Under.Kind :: hnC r.1.Under.Entry ++ [.osl 5003 0 r.1.Told.length,dB r.1.All,dI r.1.Got,dB r.1.Full,.osl 5004 0 r.1.Heard.length,dI r.1.Keep]),.agg (hwC r.2.1),dB r.2.2]) [⟨5001,93,2,r.1.Keys.length,rows Qv1.enc r.1.Keys⟩,⟨5002,31,4,r.1.Want.length,rows Qv2.enc r.1.Want⟩,⟨5003,31,4,r.1.Told.length,rows Qv2.enc r.1.Told⟩,⟨5004,96,5,r.1.Heard.length,rows Qv4.enc r.1.Heard⟩]:=by
  refine Qt tOk (fn:=Tryz.f115) (c:=Qj Tryz.f115) rfl rfl ?_;unfold JO at h;(conv=>whnf);refine Qe tOk ?_;(conv=>whnf);obtain ⟨x1,hx1,h⟩:=Qa h;refine cC 0 (QaT hx1) ?_;clear hx1;(conv=>whnf);refine Qu h (fun _ h=>?_) (fun _ h=>?_)
  · (conv=>whnf);obtain rfl:=sj_ h;exact lfP [.k [1],.p 5001 93 2 (rows Qv1.enc ([]:List Qv1)),.p 5002 31 4 (rows Qv2.enc ([]:List Qv2)),.p 5003 31 4 (rows Qv2.enc ([]:List Qv2)),.p 5004 96 5 (rows Qv4.enc ([]:List Qv4))]
  · (conv=>whnf);obtain ⟨x2,hx2,h⟩:=Qa h;refine cC 1000 (Z4 hx2) ?_;clear hx2;(conv=>whnf);refine Qe tOk ?_;(conv=>whnf);refine Qu h (fun _ h=>?_) (fun _ h=>?_)
    · (conv=>whnf);obtain rfl:=sj_ h;exact lfP [.s [(5001,6001),(5002,6002),(5003,6003),(5004,6004),(6001,5001),(6002,5002),(6003,5003),(6004,5004)]]
    · (conv=>whnf);refine Qe tOk ?_;(conv=>whnf);refine Qu h (fun _ h=>?_) (fun _ h=>?_)
      · (conv=>whnf);obtain ⟨x3,hx3,h⟩:=Qa h;refine QcU [6001,6002,6003] ?_;(conv=>whnf);refine cE [(9000,6004)] 1000 (Qgz hx3) ?_;(conv=>whnf);obtain ⟨x4,hx4,h⟩:=Qa h;refine cC 2000 (Z4 hx4) ?_;clear hx4;(conv=>whnf);obtain rfl:=sj_ h;exact lfP [.s [(5001,7001),(5002,7002),(5003,7003),(5004,7004),(7001,5001),(7002,5002),(7003,5003),(7004,5004)]]
      · (conv=>whnf);obtain ⟨x5,hx5,h⟩:=Qa h;refine Ji tOk (fun s6=>⟨0,84,[(2,.ref 2 0 0),(3,.ref 3 0 0),(5,.ref 5 0 0)],[],[(5,.box 36 [dI x2.Name,dI x2.Peer,.osl 6001 0 x2.Keys.length,dI x2.Boot,.osl 6002 0 x2.Want.length,dI (IntKind.i64.wrap (x2.Turn+1)),dI x2.PeerBoot,dI x2.PeerTurn,dB x2.Up,dI x2.Left,dI s6.1,dI s6.2.1,dI s6.2.2.1,dI s6.2.2.2.1,dI s6.2.2.2.2.1,dI s6.2.2.2.2.2,.osl 6003 0 x2.Told.length,dB x2.All,dI x2.Got,dB x2.Full,.osl 6004 0 x2.Heard.length,dI x2.Keep]),(6004,.arr 96 5 x2.Heard.length (rows Qv4.enc x2.Heard)),(6003,.arr 31 4 x2.Told.length (rows Qv2.enc x2.Told)),(6002,.arr 31 4 x2.Want.length (rows Qv2.enc x2.Want)),(6001,.arr 93 2 x2.Keys.length (rows Qv1.enc x2.Keys)),(3,.box 42 [dI 0,dI 0,dI 0,dI 0,dI 0,dI 0,dI 0,dI 0,dI 0,dI 0,dI 0,dI 0,dI 0,dI 0]),(2,.box 36 [dI 0,dI 0,.d (.nil),dI 0,.d (.nil),dI 0,dI 0,dI 0,dB false,dI 0,dI 0,dI 0,dI 0,dI 0,dI 0,dI 0,.d (.nil),dB false,dI 0,dB false,.d (.nil),dI 0])],[]⟩) (fun s6=>x5=s6) ?_ ?_
        · (conv=>whnf);refine Qu hx5 (fun _ hx5=>?_) (fun _ hx5=>?_)
          · (conv=>whnf);obtain ⟨x8,hx8,hx5⟩:=Qa hx5;refine cC 0 (Qks hx8) ?_;clear hx8;(conv=>whnf);refine Qu hx5 (fun _ hx5=>?_) (fun _ hx5=>?_)
            · (conv=>whnf);obtain rfl:=sj_ hx5;exact ⟨_,rfl,leX []⟩
            · (conv=>whnf);obtain rfl:=sj_ hx5;exact ⟨_,rfl,leX []⟩
          · (conv=>whnf);obtain rfl:=sj_ hx5;exact ⟨_,rfl,leX []⟩
        · rintro _ rfl;(conv=>whnf);refine gdI h (fun h=>?_);(conv=>whnf);obtain ⟨x10,hx10,h⟩:=Qa h;refine cC 0 (QcC hx10) ?_;clear hx10;(conv=>whnf);refine JA tOk [.a 2 [(2,.box 36 [dI 0,dI 0,.d (.nil),dI 0,.d (.nil),dI 0,dI 0,dI 0,dB false,dI 0,dI 0,dI 0,dI 0,dI 0,dI 0,dI 0,.d (.nil),dB false,dI 0,dB false,.d (.nil),dI 0])] (.any) [(2,.box 36 [dI x2.Name,dI x2.Peer,.osl 6001 0 x2.Keys.length,dI x2.Boot,.osl 6002 0 x2.Want.length,dI (IntKind.i64.wrap (x2.Turn+1)),dI x2.PeerBoot,dI x2.PeerTurn,dB x2.Up,dI x2.Left,dI x5.1,dI x5.2.1,dI x5.2.2.1,dI x5.2.2.2.1,dI x5.2.2.2.2.1,dI x5.2.2.2.2.2,.osl 6003 0 x2.Told.length,dB x2.All,dI x2.Got,dB x2.Full,.osl 6004 0 x2.Heard.length,dI x2.Keep])],.a 3 [(3,.box 42 [dI 0,dI 0,dI 0,dI 0,dI 0,dI 0,dI 0,dI 0,dI 0,dI 0,dI 0,dI 0,dI 0,dI 0])] (.any) [(3,.box 42 [dI x2.Name,dI x2.Peer,dI ((x2.Keys.getD ((IntKind.i64.wrap (((x2.Keys.length:Nat):Int) - 1)).toNat) default).Id),dI x2.Boot,dI x2.PeerBoot,dI (IntKind.i64.wrap (x2.Turn+1)),dI x5.1,dI x2.Got,dI x5.2.1,dI x5.2.2.1,dI x5.2.2.2.1,dI x5.2.2.2.2.1,dI x5.2.2.2.2.2,dI x10])]] 5 [] [0,0,1,7,15] [] [2,3] ?_;(conv=>whnf);refine And.intro (by (conv=>whnf); exact ⟨rfl,rfl⟩) ?_;(conv=>whnf);refine And.intro (by (conv=>whnf); exact ⟨rfl,rfl⟩) ?_;(conv=>whnf);refine And.intro (by kernel_rfl) ?_;(conv=>whnf);obtain rfl:=sj_ h;exact lfP [.s [(5001,6001),(5002,6002),(5003,6003),(5004,6004),(6001,5001),(6002,5002),(6003,5003),(6004,5004)]]
noncomputable def Qad (a0:Qv8) (a1:Qv7):Option (Qv8) :=
(if (decide (((a0.Radio.length:Nat):Int)<12))=true then
 gd (((a0.Radio.length)+(([a1]:List Qv7).length))*(112+1)≤70368744177664) <|
 some (⟨a0.Sides,(a0.Radio ++ ([a1]:List Qv7))⟩:Qv8)
else
 some a0)
theorem QeS {a0:Qv8} {a1:Qv7} {r:Qv8} (h:Qad a0 a1=some r):EffC Tryz.prog 113 [.agg [.d (slD Qv6.enc a0.Sides),.osl 9000 0 a0.Radio.length],.agg (hwC a1)] [(9000,.arr 42 14 a0.Radio.length (rows Qv7.enc a0.Radio))] (.agg [.d (slD Qv6.enc r.Sides),.osl 5001 0 r.Radio.length]) [(5001,.arr 42 14 r.Radio.length (rows Qv7.enc r.Radio))]:=by
  refine QQ tOk (fn:=Tryz.f113) (c:=Qj Tryz.f113) rfl rfl ?_;unfold Qad at h;(conv=>whnf);refine Qe tOk ?_;(conv=>whnf);refine Qu h (fun _ h=>?_) (fun _ h=>?_)
  · (conv=>whnf);refine QcT (enc:=Qv7.enc) ([a1]:List Qv7) ?_;(conv=>whnf);refine gdI h (fun h=>?_);refine Qh0 (enc:=Qv7.enc) (xs:=a0.Radio) (ys:=([a1]:List Qv7)) ?_;(conv=>whnf);obtain rfl:=sj_ h;exact lfE [.s [(5001,9000),(9000,5001)]]
  · (conv=>whnf);obtain rfl:=sj_ h;exact lfE [.s [(5001,9000),(9000,5001)]]
noncomputable def Qay (a0:Qv5):Option (Qv5) :=
 bd (ZP a0) fun x1 =>
(if (!x1)=true then
 some (⟨0,0,[],0,[],0,0,0,false,0,0,(⟨0,(⟨0,0,0,0⟩:Qv2)⟩:Qv3),[],false,0,false,[],0⟩:Qv5)
else
 bd (Za a0) fun x2 =>
 bd (α:=List Qv4 × Int) ((if (decide (x2.Keep > 0))=true then
(if ((IntKind.i64.wrap (x2.Keep - 1)) == 0)=true then
 bd (QaX x2.Heard) fun x6 =>
 some (x6,IntKind.i64.wrap (x2.Keep - 1))
else
 some (x2.Heard,IntKind.i64.wrap (x2.Keep - 1)))
else
 some (x2.Heard,x2.Keep))) fun x3 =>
(if (decide (x2.Left > 0))=true then
(if ((IntKind.i64.wrap (x2.Left - 1)) == 0)=true then
 bd (Qbm ({ x2 with Left:=IntKind.i64.wrap (x2.Left - 1),Heard:=x3.1,Keep:=x3.2 })) fun x7 =>
 bd (Za x7) fun x8 =>
 some x8
else
 bd (Za ({ x2 with Left:=IntKind.i64.wrap (x2.Left - 1),Heard:=x3.1,Keep:=x3.2 })) fun x9 =>
 some x9)
else
 bd (Za ({ x2 with Heard:=x3.1,Keep:=x3.2 })) fun x10 =>
 some x10))
theorem Qfl {a0:Qv5} {r:Qv5} (h:Qay a0=some r):PureC Tryz.prog 116 [.agg (heC a0 (.d (slD Qv4.enc a0.Heard)))] (.agg (dI r.Name :: dI r.Peer :: .osl 5001 0 r.Keys.length :: dI r.Boot :: .osl 5002 0 r.Want.length :: dI r.Turn :: dI r.PeerBoot :: dI r.PeerTurn :: dB r.Up :: dI r.Left :: dI r.Num :: dI r.Under.Kind :: hnC r.Under.Entry ++ [.osl 5003 0 r.Told.length,dB r.All,dI r.Got,dB r.Full,.osl 5004 0 r.Heard.length,dI r.Keep])) [⟨5001,93,2,r.Keys.length,rows Qv1.enc r.Keys⟩,⟨5002,31,4,r.Want.length,rows Qv2.enc r.Want⟩,⟨5003,31,4,r.Told.length,rows Qv2.enc r.Told⟩,⟨5004,96,5,r.Heard.length,rows Qv4.enc r.Heard⟩]:=by
  refine Qt tOk (fn:=Tryz.f116) (c:=Qj Tryz.f116) rfl rfl ?_;unfold Qay at h;(conv=>whnf);refine Qe tOk ?_;(conv=>whnf);obtain ⟨x1,hx1,h⟩:=Qa h;refine cC 0 (QaT hx1) ?_;clear hx1;(conv=>whnf);refine Qu h (fun _ h=>?_) (fun _ h=>?_)
  · (conv=>whnf);obtain rfl:=sj_ h;exact lfP [.k [1],.p 5001 93 2 (rows Qv1.enc ([]:List Qv1)),.p 5002 31 4 (rows Qv2.enc ([]:List Qv2)),.p 5003 31 4 (rows Qv2.enc ([]:List Qv2)),.p 5004 96 5 (rows Qv4.enc ([]:List Qv4))]
  · (conv=>whnf);obtain ⟨x2,hx2,h⟩:=Qa h;refine cC 1000 (Z4 hx2) ?_;clear hx2;(conv=>whnf);obtain ⟨x3,hx3,h⟩:=Qa h;refine Ji tOk (fun s4=>⟨0,38,[(2,.ref 2 0 0),(3,.ref 3 0 0)],[],[(7001,.arr 96 5 s4.1.length (rows Qv4.enc s4.1)),(3,.box 36 (dI x2.Name :: dI x2.Peer :: .osl 6001 0 x2.Keys.length :: dI x2.Boot :: .osl 6002 0 x2.Want.length :: dI x2.Turn :: dI x2.PeerBoot :: dI x2.PeerTurn :: dB x2.Up :: dI x2.Left :: dI x2.Num :: dI x2.Under.Kind :: hnC x2.Under.Entry ++ [.osl 6003 0 x2.Told.length,dB x2.All,dI x2.Got,dB x2.Full,.osl 7001 0 s4.1.length,dI s4.2])),(6003,.arr 31 4 x2.Told.length (rows Qv2.enc x2.Told)),(6002,.arr 31 4 x2.Want.length (rows Qv2.enc x2.Want)),(6001,.arr 93 2 x2.Keys.length (rows Qv1.enc x2.Keys)),(2,.box 36 [dI 0,dI 0,.d (.nil),dI 0,.d (.nil),dI 0,dI 0,dI 0,dB false,dI 0,dI 0,dI 0,dI 0,dI 0,dI 0,dI 0,.d (.nil),dB false,dI 0,dB false,.d (.nil),dI 0])],[]⟩) (fun s4=>x3=s4) ?_ ?_
    · (conv=>whnf);refine Qu hx3 (fun _ hx3=>?_) (fun _ hx3=>?_)
      · (conv=>whnf);refine Qu hx3 (fun _ hx3=>?_) (fun _ hx3=>?_)
        · (conv=>whnf);obtain ⟨x6,hx6,hx3⟩:=Qa hx3;refine cC 2000 (Qfx hx6) ?_;clear hx6;(conv=>whnf);obtain rfl:=sj_ hx3;exact ⟨_,rfl,leX []⟩
        · (conv=>whnf);obtain rfl:=sj_ hx3;exact ⟨_,rfl,leX [.s [(6004,7001),(7001,6004)]]⟩
      · (conv=>whnf);obtain rfl:=sj_ hx3;exact ⟨_,rfl,leX [.s [(6004,7001),(7001,6004)]]⟩
    · rintro _ rfl;(conv=>whnf);refine Qe tOk ?_;(conv=>whnf);refine Qu h (fun _ h=>?_) (fun _ h=>?_)
      · (conv=>whnf);refine Qu h (fun _ h=>?_) (fun _ h=>?_)
        · (conv=>whnf);obtain ⟨x7,hx7,h⟩:=Qa h;refine QcU [6001,6002,6003] ?_;(conv=>whnf);refine cE [(9000,7001)] 1000 (Qgz hx7) ?_;(conv=>whnf);obtain ⟨x8,hx8,h⟩:=Qa h;refine cC 3000 (Z4 hx8) ?_;clear hx8;(conv=>whnf);obtain rfl:=sj_ h;exact lfP [.s [(5001,8001),(5002,8002),(5003,8003),(5004,8004),(8001,5001),(8002,5002),(8003,5003),(8004,5004)]]
        · (conv=>whnf);obtain ⟨x9,hx9,h⟩:=Qa h;refine cC 3000 (Z4 hx9) ?_;clear hx9;(conv=>whnf);obtain rfl:=sj_ h;exact lfP [.s [(5001,8001),(5002,8002),(5003,8003),(5004,8004),(8001,5001),(8002,5002),(8003,5003),(8004,5004)]]
      · (conv=>whnf);obtain ⟨x10,hx10,h⟩:=Qa h;refine cC 3000 (Z4 hx10) ?_;clear hx10;(conv=>whnf);obtain rfl:=sj_ h;exact lfP [.s [(5001,8001),(5002,8002),(5003,8003),(5004,8004),(8001,5001),(8002,5002),(8003,5003),(8004,5004)]]
noncomputable def QaJ (a0:Qv5):Option (Qv5) :=
 bd (Za ({ a0 with Turn:=0,PeerBoot:=0,PeerTurn:=0,Up:=false,Left:=0,Num:=0,Under:=(⟨0,(⟨0,0,0,0⟩:Qv2)⟩:Qv3),Told:=[],All:=false,Got:=0,Full:=false,Heard:=[],Keep:=0 })) fun x1 =>
 some x1
theorem QgA {a0:Qv5} {r:Qv5} (h:QaJ a0=some r):PureC Tryz.prog 117 [.agg (heC a0 (.d (slD Qv4.enc a0.Heard)))] (.agg (dI r.Name :: dI r.Peer :: .osl 5001 0 r.Keys.length :: dI r.Boot :: .osl 5002 0 r.Want.length :: dI r.Turn :: dI r.PeerBoot :: dI r.PeerTurn :: dB r.Up :: dI r.Left :: dI r.Num :: dI r.Under.Kind :: hnC r.Under.Entry ++ [.osl 5003 0 r.Told.length,dB r.All,dI r.Got,dB r.Full,.osl 5004 0 r.Heard.length,dI r.Keep])) [⟨5001,93,2,r.Keys.length,rows Qv1.enc r.Keys⟩,⟨5002,31,4,r.Want.length,rows Qv2.enc r.Want⟩,⟨5003,31,4,r.Told.length,rows Qv2.enc r.Told⟩,⟨5004,96,5,r.Heard.length,rows Qv4.enc r.Heard⟩]:=by
  refine Qt tOk (fn:=Tryz.f117) (c:=Qj Tryz.f117) rfl rfl ?_;unfold QaJ at h;(conv=>whnf);obtain ⟨x1,hx1,h⟩:=Qa h;refine Qse 1000 (Z4 hx1) rfl Qou rfl ?_;(conv=>whnf);obtain rfl:=sj_ h;exact lfP [.s [(5001,6001),(5002,6002),(5003,6003),(5004,6004),(6001,5001),(6002,5002),(6003,5003),(6004,5004)]]
noncomputable def J6 (a0:Qv5):Option (Qv5) :=
 bd (lp (σ:=Unit) (β:=(Unit)) (fun s1 =>
(if (decide ((0:Int)<((a0.Heard.length:Nat):Int)))=true then
 none
else
 some (.inr ()))) ()) fun x4 =>
(if ((decide (((a0.Heard.length:Nat):Int) > 0)) && (a0.Keep == 0))=true then
 some ({ a0 with Keep:=6 })
else
 some a0)
theorem Qgq {a0:Qv5} {r:Qv5} (h:J6 a0=some r):EffC Tryz.prog 161 [.agg (heC a0 (.d (slD Qv4.enc a0.Heard)))] [] (.agg (heC r (.d (slD Qv4.enc r.Heard)))) []:=by
  refine QQ tOk (fn:=Tryz.f161) (c:=Qj Tryz.f161) rfl rfl ?_;unfold J6 at h;(conv=>whnf);refine Qe tOk ?_;(conv=>whnf);obtain ⟨x4,hx4,h⟩:=Qa h;refine Zh tOk hx4 (fun s1=>⟨0,27,[(1,.ref 1 0 0),(2,.ref 2 0 0),(3,dI 0)],[],[(2,.box 36 [dI 0,dI 0,.d (.nil),dI 0,.d (.nil),dI 0,dI 0,dI 0,dB false,dI 0,dI 0,dI 0,dI 0,dI 0,dI 0,dI 0,.d (.nil),dB false,dI 0,dB false,.d (.nil),dI 0]),(1,.box 36 (heC a0 (.d (slD Qv4.enc a0.Heard))))],[⟨[],[]⟩]⟩) ?_ ?_
  · exact leX []
  · clear hx4;intro s1 y2 g3 hy2;(conv=>whnf);refine Qe tOk ?_;(conv=>whnf);refine Qu g3 (fun _ g3=>?_) (fun _ g3=>?_)
    · (conv=>whnf);refine Qe tOk ?_;(conv=>whnf);cases g3
    · (conv=>whnf);obtain rfl:=sj_ g3;obtain rfl:=hy2 _ rfl;refine Qe tOk ?_;(conv=>whnf);refine Qu h (fun _ h=>?_) (fun _ h=>?_)
      · (conv=>whnf);obtain rfl:=sj_ h;exact lfE []
      · (conv=>whnf);obtain rfl:=sj_ h;exact lfE []
noncomputable def JC (a0:Qv5):Option (Qv5) :=
 bd (J6 ({ a0 with Up:=false,Num:=0,Under:=(⟨0,(⟨0,0,0,0⟩:Qv2)⟩:Qv3),Told:=[],All:=false,Got:=0,Full:=false })) fun x1 =>
 some x1
theorem QdP {a0:Qv5} {r:Qv5} (h:JC a0=some r):EffC Tryz.prog 147 [.agg (heC a0 (.d (slD Qv4.enc a0.Heard)))] [] (.agg (heC r (.d (slD Qv4.enc r.Heard)))) []:=by
  refine QQ tOk (fn:=Tryz.f147) (c:=Qj Tryz.f147) rfl rfl ?_;unfold JC at h;(conv=>whnf);obtain ⟨x1,hx1,h⟩:=Qa h;refine cE [] 0 (Qgq hx1) ?_;(conv=>whnf);obtain rfl:=sj_ h;exact lfE []
noncomputable def JD (a0:Qv5):Option (Qv5) :=
(if (decide (a0.Boot<1000))=true then
 bd (JC ({ a0 with Boot:=IntKind.i64.wrap (a0.Boot+1),Turn:=0,Left:=0 })) fun x1 =>
 some x1
else
 bd (JC ({ a0 with Turn:=0,Left:=0 })) fun x2 =>
 some x2)
theorem QdQ {a0:Qv5} {r:Qv5} (h:JD a0=some r):EffC Tryz.prog 118 [.agg (heC a0 (.d (slD Qv4.enc a0.Heard)))] [] (.agg (heC r (.d (slD Qv4.enc r.Heard)))) []:=by
  refine QQ tOk (fn:=Tryz.f118) (c:=Qj Tryz.f118) rfl rfl ?_;unfold JD at h;(conv=>whnf);refine Qe tOk ?_;(conv=>whnf);refine Qu h (fun _ h=>?_) (fun _ h=>?_)
  · (conv=>whnf);obtain ⟨x1,hx1,h⟩:=Qa h;refine cE [] 0 (QdP hx1) ?_;(conv=>whnf);obtain rfl:=sj_ h;exact lfE []
  · (conv=>whnf);obtain ⟨x2,hx2,h⟩:=Qa h;refine cE [] 0 (QdP hx2) ?_;(conv=>whnf);obtain rfl:=sj_ h;exact lfE []
noncomputable def JK (a0:Qv8):Option ((List Qv7)) :=
 bd (lp (σ:=List Qv7 × Int) (β:=(Nat × (List Qv7))) (fun s1 =>
(if (decide (s1.2<((a0.Radio.length:Nat):Int)))=true then
 gd ((0:Int)≤0∧0<((a0.Sides.length:Nat):Int)) <|
 gd ((0:Int)≤s1.2∧s1.2<((a0.Radio.length:Nat):Int)) <|
 bd (ZQ (((a0.Sides.getD 0 default).End).Keys) ({ (a0.Radio.getD s1.2.toNat default) with Change:=(⟨((a0.Radio.getD s1.2.toNat default).Change).Kind,(((a0.Radio.getD s1.2.toNat default).Change).Entry)⟩:Qv3) })) fun x7 =>
 gd (x7=false→((0:Int)≤1∧1<((a0.Sides.length:Nat):Int))) <|
 gd (x7=false→((0:Int)≤s1.2∧s1.2<((a0.Radio.length:Nat):Int))) <|
 bd (gcall (x7=false) (ZQ (((a0.Sides.getD 1 default).End).Keys) ({ (a0.Radio.getD s1.2.toNat default) with Change:=(⟨((a0.Radio.getD s1.2.toNat default).Change).Kind,(((a0.Radio.getD s1.2.toNat default).Change).Entry)⟩:Qv3) }))) fun x10 =>
(if (x7 || x10)=true then
 gd ((0:Int)≤s1.2∧s1.2<((a0.Radio.length:Nat):Int)) <|
 gd (((s1.1.length)+(([{ (a0.Radio.getD s1.2.toNat default) with Change:=(⟨((a0.Radio.getD s1.2.toNat default).Change).Kind,(((a0.Radio.getD s1.2.toNat default).Change).Entry)⟩:Qv3) }]:List Qv7).length))*(112+1)≤70368744177664) <|
 some (.inl ((s1.1 ++ ([{ (a0.Radio.getD s1.2.toNat default) with Change:=(⟨((a0.Radio.getD s1.2.toNat default).Change).Kind,(((a0.Radio.getD s1.2.toNat default).Change).Entry)⟩:Qv3) }]:List Qv7)),IntKind.i64.wrap (s1.2+1)))
else
 some (.inl (s1.1,IntKind.i64.wrap (s1.2+1))))
else
 some (.inr (s1.1.length,s1.1)))) (([]:List Qv7),0)) fun x4 =>
 some x4.2
theorem QgB {a0:Qv8} {r:(List Qv7)} (h:JK a0=some r):PureC Tryz.prog 121 [.agg [.d (slD Qv6.enc a0.Sides),.d (slD Qv7.enc a0.Radio)]] (.osl 5001 0 r.length) [⟨5001,42,14,r.length,rows Qv7.enc r⟩]:=by
  refine Qt tOk (fn:=Tryz.f121) (c:=Qj Tryz.f121) rfl rfl ?_;unfold JK at h;(conv=>whnf);refine Qe tOk ?_;(conv=>whnf);obtain ⟨x4,hx4,h⟩:=Qa h;refine Zh tOk hx4 (fun s1=>⟨0,48,[(1,.ref 1 0 0),(3,.osl 7001 0 s1.1.length),(4,dI s1.2)],[],[(7001,.arr 42 14 s1.1.length (rows Qv7.enc s1.1)),(1,.box 26 [.d (slD Qv6.enc a0.Sides),.d (slD Qv7.enc a0.Radio)])],[]⟩) ?_ ?_
  · exact leX [.p 7001 42 14 (rows Qv7.enc ([]:List Qv7))]
  · clear hx4;intro s1 y2 g3 hy2;(conv=>whnf);refine Qe tOk ?_;(conv=>whnf);refine Qu g3 (fun _ g3=>?_) (fun _ g3=>?_)
    · (conv=>whnf);refine Qe tOk ?_;(conv=>whnf);obtain ⟨g5,g3⟩:=Qg g3;obtain ⟨g6,g3⟩:=Qg g3;obtain ⟨x7,hx7,g3⟩:=Qa g3;obtain ⟨g8,g3⟩:=Qg g3;obtain ⟨g9,g3⟩:=Qg g3;obtain ⟨x10,hx10,g3⟩:=Qa g3;refine QP tOk [.u 11 0 (dB x7) [],.u 24 0 (dB x10) []] 26 [] [0,1,3,7,15,31,0,64,0,448,960,2047,4095,8191,16383,32767,65535,131071,262143,8191,532479,8191,3678207,7872511,16777215,33554431] [] ?_;(conv=>whnf);refine And.intro g5 ?_;clear g5;(conv=>whnf);refine And.intro g6 ?_;clear g6;(conv=>whnf);refine And.intro (QM (QaV hx7) (by kernel_rfl)) ?_;(conv=>whnf);refine And.intro g8 ?_;clear g8;(conv=>whnf);refine And.intro g9 ?_;clear g9;(conv=>whnf);refine And.intro (Q1 rfl rfl rfl rfl (by intro c0; exact QaV (Qf hx10 c0))) ?_;(conv=>whnf);refine And.intro (by kernel_rfl) ?_;(conv=>whnf);refine Qu g3 (fun _ g3=>?_) (fun _ g3=>?_)
      · (conv=>whnf);refine gdI g3 (fun g3=>?_);(conv=>whnf);refine QcT (enc:=Qv7.enc) ([{ (a0.Radio.getD s1.2.toNat default) with Change:=(⟨((a0.Radio.getD s1.2.toNat default).Change).Kind,(((a0.Radio.getD s1.2.toNat default).Change).Entry)⟩:Qv3) }]:List Qv7) ?_;(conv=>whnf);refine gdI g3 (fun g3=>?_);refine Qh0 (enc:=Qv7.enc) (xs:=s1.1) (ys:=([{ (a0.Radio.getD s1.2.toNat default) with Change:=(⟨((a0.Radio.getD s1.2.toNat default).Change).Kind,(((a0.Radio.getD s1.2.toNat default).Change).Entry)⟩:Qv3) }]:List Qv7)) ?_;(conv=>whnf);obtain rfl:=sj_ g3;exact ⟨_,rfl,leX []⟩
      · (conv=>whnf);obtain rfl:=sj_ g3;exact ⟨_,rfl,leX []⟩
    · (conv=>whnf);obtain rfl:=sj_ g3;obtain rfl:=hy2 _ rfl;obtain rfl:=sj_ h;exact lfP [.s [(5001,7001),(7001,5001)]]
noncomputable def Qcb (a0:Qv8) (a1:Qv9):Option (Qv8) :=
 bd (QA a1.At 0 1) fun x1 =>
(if (!x1)=true then
 some a0
else
 gd ((0:Int)≤a1.At∧a1.At<((a0.Sides.length:Nat):Int)) <|
 bd (α:=(List Qv6 × List Qv7) ⊕ ((List Qv7) × Nat × (List Qv6))) ((if (a1.Kind == 1)=true then
(if (a0.Sides.getD a1.At.toNat default).Up=true then
 bd (JO ({ ((a0.Sides.getD a1.At.toNat default).End) with Under:=(⟨(((a0.Sides.getD a1.At.toNat default).End).Under).Kind,((((a0.Sides.getD a1.At.toNat default).End).Under).Entry)⟩:Qv3) })) fun x6 =>
 gd ((0:Int)≤a1.At∧a1.At<((a0.Sides.length:Nat):Int)) <|
(if x6.2.2=true then
 bd (Qad (⟨a0.Sides.set a1.At.toNat (⟨(a0.Sides.getD a1.At.toNat default).Up,x6.1⟩:Qv6),a0.Radio⟩:Qv8) x6.2.1) fun x8 =>
 some (.inr (x8.Radio,x8.Radio.length,x8.Sides))
else
 some (.inl (a0.Sides.set a1.At.toNat (⟨(a0.Sides.getD a1.At.toNat default).Up,x6.1⟩:Qv6),a0.Radio)))
else
 some (.inl (a0.Sides,a0.Radio)))
else
(if (a1.Kind == 5)=true then
(if (a0.Sides.getD a1.At.toNat default).Up=true then
 bd (Qay ({ ((a0.Sides.getD a1.At.toNat default).End) with Under:=(⟨(((a0.Sides.getD a1.At.toNat default).End).Under).Kind,((((a0.Sides.getD a1.At.toNat default).End).Under).Entry)⟩:Qv3) })) fun x9 =>
 gd ((0:Int)≤a1.At∧a1.At<((a0.Sides.length:Nat):Int)) <|
 some (.inl (a0.Sides.set a1.At.toNat (⟨(a0.Sides.getD a1.At.toNat default).Up,x9⟩:Qv6),a0.Radio))
else
 some (.inl (a0.Sides,a0.Radio)))
else
(if (a1.Kind == 6)=true then
 bd (QaJ ({ ((a0.Sides.getD a1.At.toNat default).End) with Under:=(⟨(((a0.Sides.getD a1.At.toNat default).End).Under).Kind,((((a0.Sides.getD a1.At.toNat default).End).Under).Entry)⟩:Qv3) })) fun x11 =>
 gd ((0:Int)≤a1.At∧a1.At<((a0.Sides.length:Nat):Int)) <|
 some (.inl (a0.Sides.set a1.At.toNat (⟨false,x11⟩:Qv6),a0.Radio))
else
(if (a1.Kind == 7)=true then
(if (!((a0.Sides.getD a1.At.toNat default).Up))=true then
 bd (JD ({ ((a0.Sides.getD a1.At.toNat default).End) with Under:=(⟨(((a0.Sides.getD a1.At.toNat default).End).Under).Kind,((((a0.Sides.getD a1.At.toNat default).End).Under).Entry)⟩:Qv3) })) fun x13 =>
 gd ((0:Int)≤a1.At∧a1.At<((a0.Sides.length:Nat):Int)) <|
 some (.inl (a0.Sides.set a1.At.toNat (⟨true,x13⟩:Qv6),a0.Radio))
else
 some (.inl (a0.Sides,a0.Radio)))
else
(if (a1.Kind == 8)=true then
 bd (Zr a1.Want) fun x15 =>
(if x15=true then
 bd (QT a1.Want) fun x16 =>
 gd ((0:Int)≤a1.At∧a1.At<((a0.Sides.length:Nat):Int)) <|
 bd (some (a0.Sides.set a1.At.toNat (⟨(a0.Sides.getD a1.At.toNat default).Up,{ ((a0.Sides.getD a1.At.toNat default).End) with Want:=x16,Under:=(⟨(((a0.Sides.getD a1.At.toNat default).End).Under).Kind,((((a0.Sides.getD a1.At.toNat default).End).Under).Entry)⟩:Qv3) }⟩:Qv6))) fun x18 =>
 some (.inl (x18,a0.Radio))
else
 some (.inl (a0.Sides,a0.Radio)))
else
(if (a1.Kind == 9)=true then
 bd (Z2 a1.Keys) fun x19 =>
(if x19=true then
 bd (JK a0) fun x20 =>
 bd (ZL a1.Keys) fun x21 =>
 gd ((0:Int)≤a1.At∧a1.At<((a0.Sides.length:Nat):Int)) <|
 bd (some (a0.Sides.set a1.At.toNat (⟨(a0.Sides.getD a1.At.toNat default).Up,{ ((a0.Sides.getD a1.At.toNat default).End) with Keys:=x21,Under:=(⟨(((a0.Sides.getD a1.At.toNat default).End).Under).Kind,((((a0.Sides.getD a1.At.toNat default).End).Under).Entry)⟩:Qv3) }⟩:Qv6))) fun x23 =>
 some (.inl (x23,x20))
else
 some (.inl (a0.Sides,a0.Radio)))
else
 some (.inl (a0.Sides,a0.Radio))))))))) fun x3 =>
(match x3 with
| .inl d5 =>
 some (⟨d5.1,d5.2⟩:Qv8)
| .inr d24 =>
 some (⟨d24.2.2,d24.1⟩:Qv8)))
theorem Qkt {a0:Qv8} {a1:Qv9} {r:Qv8} (h:Qcb a0 a1=some r):EffC Tryz.prog 78 [.agg [.osl 9000 0 a0.Sides.length,.osl 9001 0 a0.Radio.length],.agg (dI a1.Kind :: dI a1.At :: .d (slD Qv2.enc a1.Want) :: .d (slD Qv1.enc a1.Keys) :: hwC a1.Word)] [(9000,.arr 38 23 a0.Sides.length (rows Qv6.enc a0.Sides)),(9001,.arr 42 14 a0.Radio.length (rows Qv7.enc a0.Radio))] (.agg [.d (slD Qv6.enc r.Sides),.d (slD Qv7.enc r.Radio)]) []:=by
  refine QQ tOk (fn:=Tryz.f78) (c:=Qj Tryz.f78) rfl rfl ?_;unfold Qcb at h;(conv=>whnf);refine Qe tOk ?_;(conv=>whnf);obtain ⟨x1,hx1,h⟩:=Qa h;refine cC 0 (QJ hx1) ?_;clear hx1;(conv=>whnf);refine Qu h (fun _ h=>?_) (fun _ h=>?_)
  · (conv=>whnf);obtain rfl:=sj_ h;exact lfE [.f [9000,9001]]
  · (conv=>whnf);refine gdI h (fun h=>?_);(conv=>whnf);obtain ⟨x3,hx3,h⟩:=Qa h;refine Ji tOk (fun s4=>⟨0,116,[(2,.ref 2 0 0),(4,.ref 4 0 0)],[],[(4,.box 26 [.d (.nil),.d (.nil)]),(2,.box 26 [.osl 9000 0 s4.1.length,.osl 9001 0 s4.2.length]),(9000,.arr 38 23 s4.1.length (rows Qv6.enc s4.1)),(9001,.arr 42 14 s4.2.length (rows Qv7.enc s4.2))],[⟨[],[]⟩]⟩) (fun s4=>x3=.inl s4) ?_ ?_
    · (conv=>whnf);refine Qu hx3 (fun _ hx3=>?_) (fun _ hx3=>?_)
      · (conv=>whnf);refine Qu hx3 (fun _ hx3=>?_) (fun _ hx3=>?_)
        · (conv=>whnf);obtain ⟨x6,hx6,hx3⟩:=Qa hx3;refine cC 1000 (Qfy hx6) ?_;clear hx6;(conv=>whnf);refine gdI hx3 (fun hx3=>?_);(conv=>whnf);refine ⟨rows Qv6.enc (a0.Sides.set a1.At.toNat (⟨(a0.Sides.getD a1.At.toNat default).Up,x6.1⟩:Qv6)),Zd Qjk rfl,?_⟩;(conv=>whnf);refine Qu hx3 (fun _ hx3=>?_) (fun _ hx3=>?_)
          · (conv=>whnf);obtain ⟨x8,hx8,hx3⟩:=Qa hx3;refine QcU [9000] ?_;(conv=>whnf);refine cE [(9000,9001)] 1000 (QeS hx8) ?_;(conv=>whnf);obtain rfl:=sj_ hx3;obtain rfl:=sj_ h;exact lfE [.f [6001]]
          · (conv=>whnf);obtain rfl:=sj_ hx3;exact ⟨_,rfl,leX []⟩
        · (conv=>whnf);obtain rfl:=sj_ hx3;exact ⟨_,rfl,leX []⟩
      · (conv=>whnf);refine Qu hx3 (fun _ hx3=>?_) (fun _ hx3=>?_)
        · (conv=>whnf);refine Qu hx3 (fun _ hx3=>?_) (fun _ hx3=>?_)
          · (conv=>whnf);obtain ⟨x9,hx9,hx3⟩:=Qa hx3;obtain ⟨g10,hx3⟩:=Qg hx3;refine QP tOk [.u 6 1000 (.agg (dI x9.Name :: dI x9.Peer :: .osl 5001 0 x9.Keys.length :: dI x9.Boot :: .osl 5002 0 x9.Want.length :: dI x9.Turn :: dI x9.PeerBoot :: dI x9.PeerTurn :: dB x9.Up :: dI x9.Left :: dI x9.Num :: dI x9.Under.Kind :: hnC x9.Under.Entry ++ [.osl 5003 0 x9.Told.length,dB x9.All,dI x9.Got,dB x9.Full,.osl 5004 0 x9.Heard.length,dI x9.Keep])) [⟨5001,93,2,x9.Keys.length,rows Qv1.enc x9.Keys⟩,⟨5002,31,4,x9.Want.length,rows Qv2.enc x9.Want⟩,⟨5003,31,4,x9.Told.length,rows Qv2.enc x9.Told⟩,⟨5004,96,5,x9.Heard.length,rows Qv4.enc x9.Heard⟩]] 9 [] [0,1,0,4,0,16,48,127,255] [511] ?_;(conv=>whnf);refine And.intro (QM (Qfl hx9) (by kernel_rfl)) ?_;(conv=>whnf);refine And.intro g10 ?_;clear g10;(conv=>whnf);refine And.intro (by kernel_rfl) ?_;(conv=>whnf);refine ⟨rows Qv6.enc (a0.Sides.set a1.At.toNat (⟨(a0.Sides.getD a1.At.toNat default).Up,x9⟩:Qv6)),Zd Qjk rfl,?_⟩;(conv=>whnf);obtain rfl:=sj_ hx3;exact ⟨_,rfl,leX []⟩
          · (conv=>whnf);obtain rfl:=sj_ hx3;exact ⟨_,rfl,leX []⟩
        · (conv=>whnf);refine Qu hx3 (fun _ hx3=>?_) (fun _ hx3=>?_)
          · (conv=>whnf);obtain ⟨x11,hx11,hx3⟩:=Qa hx3;obtain ⟨g12,hx3⟩:=Qg hx3;refine QP tOk [.u 6 1000 (.agg (dI x11.Name :: dI x11.Peer :: .osl 5001 0 x11.Keys.length :: dI x11.Boot :: .osl 5002 0 x11.Want.length :: dI x11.Turn :: dI x11.PeerBoot :: dI x11.PeerTurn :: dB x11.Up :: dI x11.Left :: dI x11.Num :: dI x11.Under.Kind :: hnC x11.Under.Entry ++ [.osl 5003 0 x11.Told.length,dB x11.All,dI x11.Got,dB x11.Full,.osl 5004 0 x11.Heard.length,dI x11.Keep])) [⟨5001,93,2,x11.Keys.length,rows Qv1.enc x11.Keys⟩,⟨5002,31,4,x11.Want.length,rows Qv2.enc x11.Want⟩,⟨5003,31,4,x11.Told.length,rows Qv2.enc x11.Told⟩,⟨5004,96,5,x11.Heard.length,rows Qv4.enc x11.Heard⟩]] 9 [] [0,1,0,4,0,16,48,112,255] [511] ?_;(conv=>whnf);refine And.intro (QM (QgA hx11) (by kernel_rfl)) ?_;(conv=>whnf);refine And.intro g12 ?_;clear g12;(conv=>whnf);refine And.intro (by kernel_rfl) ?_;(conv=>whnf);refine ⟨rows Qv6.enc (a0.Sides.set a1.At.toNat (⟨false,x11⟩:Qv6)),Zd Qjk rfl,?_⟩;(conv=>whnf);obtain rfl:=sj_ hx3;exact ⟨_,rfl,leX []⟩
          · (conv=>whnf);refine Qu hx3 (fun _ hx3=>?_) (fun _ hx3=>?_)
            · (conv=>whnf);refine Qu hx3 (fun _ hx3=>?_) (fun _ hx3=>?_)
              · (conv=>whnf);obtain ⟨x13,hx13,hx3⟩:=Qa hx3;obtain ⟨g14,hx3⟩:=Qg hx3;refine JA tOk [.e 6 [] (.agg (heC x13 (.d (slD Qv4.enc x13.Heard)))) [] []] 9 [] [0,1,0,4,0,16,48,112,255] [511] [] ?_;(conv=>whnf);refine And.intro (eD [] 0 (QdQ hx13)) ?_;(conv=>whnf);refine And.intro g14 ?_;clear g14;(conv=>whnf);refine And.intro (by kernel_rfl) ?_;(conv=>whnf);refine ⟨rows Qv6.enc (a0.Sides.set a1.At.toNat (⟨true,x13⟩:Qv6)),Zd Qjk rfl,?_⟩;(conv=>whnf);obtain rfl:=sj_ hx3;exact ⟨_,rfl,leX []⟩
              · (conv=>whnf);obtain rfl:=sj_ hx3;exact ⟨_,rfl,leX []⟩
            · (conv=>whnf);refine Qu hx3 (fun _ hx3=>?_) (fun _ hx3=>?_)
              · (conv=>whnf);obtain ⟨x15,hx15,hx3⟩:=Qa hx3;refine cC 0 (Qam hx15) ?_;clear hx15;(conv=>whnf);refine Qu hx3 (fun _ hx3=>?_) (fun _ hx3=>?_)
                · (conv=>whnf);obtain ⟨x16,hx16,hx3⟩:=Qa hx3;obtain ⟨g17,hx3⟩:=Qg hx3;refine QP tOk [.u 6 1000 (.osl 5001 0 x16.length) [⟨5001,31,4,x16.length,rows Qv2.enc x16⟩]] 10 [] [0,1,0,4,0,16,48,127,255,511] [1023] ?_;(conv=>whnf);refine And.intro (QM (Zl hx16) (by kernel_rfl)) ?_;(conv=>whnf);refine And.intro g17 ?_;clear g17;(conv=>whnf);refine And.intro (by kernel_rfl) ?_;(conv=>whnf);obtain ⟨x18,hx18,hlx18,hx3⟩:=QgC hx3;refine Qr8 (enc:=Qv6.enc) hx18 ?_;(conv=>whnf);obtain rfl:=sj_ hx3;exact ⟨_,rfl,leX []⟩
                · (conv=>whnf);obtain rfl:=sj_ hx3;exact ⟨_,rfl,leX []⟩
              · (conv=>whnf);refine Qu hx3 (fun _ hx3=>?_) (fun _ hx3=>?_)
                · (conv=>whnf);obtain ⟨x19,hx19,hx3⟩:=Qa hx3;refine cC 0 (Qbs hx19) ?_;clear hx19;(conv=>whnf);refine Qu hx3 (fun _ hx3=>?_) (fun _ hx3=>?_)
                  · (conv=>whnf);obtain ⟨x20,hx20,hx3⟩:=Qa hx3;refine cC 1000 (QgB hx20) ?_;clear hx20;(conv=>whnf);obtain ⟨x21,hx21,hx3⟩:=Qa hx3;obtain ⟨g22,hx3⟩:=Qg hx3;refine QP tOk [.u 6 2000 (.osl 5001 0 x21.length) [⟨5001,93,2,x21.length,rows Qv1.enc x21⟩]] 10 [] [0,1,0,4,0,16,48,127,255,511] [1023] ?_;(conv=>whnf);refine And.intro (QM (Qca hx21) (by kernel_rfl)) ?_;(conv=>whnf);refine And.intro g22 ?_;clear g22;(conv=>whnf);refine And.intro (by kernel_rfl) ?_;(conv=>whnf);obtain ⟨x23,hx23,hlx23,hx3⟩:=QgC hx3;refine Qr8 (enc:=Qv6.enc) hx23 ?_;(conv=>whnf);obtain rfl:=sj_ hx3;exact ⟨_,rfl,leX [.s [(6001,9001),(9001,6001)]]⟩
                  · (conv=>whnf);obtain rfl:=sj_ hx3;exact ⟨_,rfl,leX []⟩
                · (conv=>whnf);obtain rfl:=sj_ hx3;exact ⟨_,rfl,leX []⟩
    · intro d5 hdd5;subst hdd5;(conv=>whnf);obtain rfl:=sj_ h;exact lfE [.f [9000,9001]]
noncomputable def QaY (a0:Qv8) (a1:Qv7):Option (Qv8) :=
(if (decide (((a0.Radio.length:Nat):Int)<12))=true then
 gd (((a0.Radio.length)+(([a1]:List Qv7).length))*(112+1)≤70368744177664) <|
 some (⟨a0.Sides,(a0.Radio ++ ([a1]:List Qv7))⟩:Qv8)
else
 some a0)
theorem Qh3 {a0:Qv8} {a1:Qv7} {r:Qv8} (h:QaY a0 a1=some r):EffC Tryz.prog 113 [.agg [.osl 9000 0 a0.Sides.length,.osl 9001 0 a0.Radio.length],.agg (hwC a1)] [(9000,.arr 38 23 a0.Sides.length (rows Qv6.enc a0.Sides)),(9001,.arr 42 14 a0.Radio.length (rows Qv7.enc a0.Radio))] (.agg [.osl 5001 0 r.Sides.length,.osl 5002 0 r.Radio.length]) [(5001,.arr 38 23 r.Sides.length (rows Qv6.enc r.Sides)),(5002,.arr 42 14 r.Radio.length (rows Qv7.enc r.Radio))]:=by
  refine QQ tOk (fn:=Tryz.f113) (c:=Qj Tryz.f113) rfl rfl ?_;unfold QaY at h;(conv=>whnf);refine Qe tOk ?_;(conv=>whnf);refine Qu h (fun _ h=>?_) (fun _ h=>?_)
  · (conv=>whnf);refine QcT (enc:=Qv7.enc) ([a1]:List Qv7) ?_;(conv=>whnf);refine gdI h (fun h=>?_);refine Qh0 (enc:=Qv7.enc) (xs:=a0.Radio) (ys:=([a1]:List Qv7)) ?_;(conv=>whnf);obtain rfl:=sj_ h;exact lfE [.s [(5001,9000),(5002,9001),(9000,5001),(9001,5002)]]
  · (conv=>whnf);obtain rfl:=sj_ h;exact lfE [.s [(5001,9000),(5002,9001),(9000,5001),(9001,5002)]]
noncomputable def QU (a0:Qv8) (a1:Qv9):Option (Qv8) :=
 bd (QA a1.At 0 1) fun x1 =>
(if (!x1)=true then
 some a0
else
 gd ((0:Int)≤a1.At∧a1.At<((a0.Sides.length:Nat):Int)) <|
 bd (α:=(List Qv6 × List Qv7) ⊕ ((List Qv6) × Nat × (List Qv7) × Nat)) ((if (a1.Kind == 1)=true then
(if (a0.Sides.getD a1.At.toNat default).Up=true then
 bd (JO ({ ((a0.Sides.getD a1.At.toNat default).End) with Under:=(⟨(((a0.Sides.getD a1.At.toNat default).End).Under).Kind,((((a0.Sides.getD a1.At.toNat default).End).Under).Entry)⟩:Qv3) })) fun x6 =>
 gd ((0:Int)≤a1.At∧a1.At<((a0.Sides.length:Nat):Int)) <|
(if x6.2.2=true then
 bd (QaY (⟨a0.Sides.set a1.At.toNat (⟨(a0.Sides.getD a1.At.toNat default).Up,x6.1⟩:Qv6),a0.Radio⟩:Qv8) x6.2.1) fun x8 =>
 some (.inr (x8.Sides,x8.Sides.length,x8.Radio,x8.Radio.length))
else
 some (.inl (a0.Sides.set a1.At.toNat (⟨(a0.Sides.getD a1.At.toNat default).Up,x6.1⟩:Qv6),a0.Radio)))
else
 some (.inl (a0.Sides,a0.Radio)))
else
(if (a1.Kind == 5)=true then
(if (a0.Sides.getD a1.At.toNat default).Up=true then
 bd (Qay ({ ((a0.Sides.getD a1.At.toNat default).End) with Under:=(⟨(((a0.Sides.getD a1.At.toNat default).End).Under).Kind,((((a0.Sides.getD a1.At.toNat default).End).Under).Entry)⟩:Qv3) })) fun x9 =>
 gd ((0:Int)≤a1.At∧a1.At<((a0.Sides.length:Nat):Int)) <|
 some (.inl (a0.Sides.set a1.At.toNat (⟨(a0.Sides.getD a1.At.toNat default).Up,x9⟩:Qv6),a0.Radio))
else
 some (.inl (a0.Sides,a0.Radio)))
else
(if (a1.Kind == 6)=true then
 bd (QaJ ({ ((a0.Sides.getD a1.At.toNat default).End) with Under:=(⟨(((a0.Sides.getD a1.At.toNat default).End).Under).Kind,((((a0.Sides.getD a1.At.toNat default).End).Under).Entry)⟩:Qv3) })) fun x11 =>
 gd ((0:Int)≤a1.At∧a1.At<((a0.Sides.length:Nat):Int)) <|
 some (.inl (a0.Sides.set a1.At.toNat (⟨false,x11⟩:Qv6),a0.Radio))
else
(if (a1.Kind == 7)=true then
(if (!((a0.Sides.getD a1.At.toNat default).Up))=true then
 bd (JD ({ ((a0.Sides.getD a1.At.toNat default).End) with Under:=(⟨(((a0.Sides.getD a1.At.toNat default).End).Under).Kind,((((a0.Sides.getD a1.At.toNat default).End).Under).Entry)⟩:Qv3) })) fun x13 =>
 gd ((0:Int)≤a1.At∧a1.At<((a0.Sides.length:Nat):Int)) <|
 some (.inl (a0.Sides.set a1.At.toNat (⟨true,x13⟩:Qv6),a0.Radio))
else
 some (.inl (a0.Sides,a0.Radio)))
else
(if (a1.Kind == 8)=true then
 bd (Zr a1.Want) fun x15 =>
(if x15=true then
 bd (QT a1.Want) fun x16 =>
 gd ((0:Int)≤a1.At∧a1.At<((a0.Sides.length:Nat):Int)) <|
 bd (some (a0.Sides.set a1.At.toNat (⟨(a0.Sides.getD a1.At.toNat default).Up,{ ((a0.Sides.getD a1.At.toNat default).End) with Want:=x16,Under:=(⟨(((a0.Sides.getD a1.At.toNat default).End).Under).Kind,((((a0.Sides.getD a1.At.toNat default).End).Under).Entry)⟩:Qv3) }⟩:Qv6))) fun x18 =>
 some (.inl (x18,a0.Radio))
else
 some (.inl (a0.Sides,a0.Radio)))
else
(if (a1.Kind == 9)=true then
 bd (Z2 a1.Keys) fun x19 =>
(if x19=true then
 bd (JK a0) fun x20 =>
 bd (ZL a1.Keys) fun x21 =>
 gd ((0:Int)≤a1.At∧a1.At<((a0.Sides.length:Nat):Int)) <|
 bd (some (a0.Sides.set a1.At.toNat (⟨(a0.Sides.getD a1.At.toNat default).Up,{ ((a0.Sides.getD a1.At.toNat default).End) with Keys:=x21,Under:=(⟨(((a0.Sides.getD a1.At.toNat default).End).Under).Kind,((((a0.Sides.getD a1.At.toNat default).End).Under).Entry)⟩:Qv3) }⟩:Qv6))) fun x23 =>
 some (.inl (x23,x20))
else
 some (.inl (a0.Sides,a0.Radio)))
else
 some (.inl (a0.Sides,a0.Radio))))))))) fun x3 =>
(match x3 with
| .inl d5 =>
 some (⟨d5.1,d5.2⟩:Qv8)
| .inr d24 =>
 some (⟨d24.1,d24.2.2.1⟩:Qv8)))
theorem QaB {a0:Qv8} {a1:Qv9} {r:Qv8} (h:QU a0 a1=some r):EffC Tryz.prog 78 [.agg [.osl 9000 0 a0.Sides.length,.osl 9001 0 a0.Radio.length],.agg (dI a1.Kind :: dI a1.At :: .d (slD Qv2.enc a1.Want) :: .d (slD Qv1.enc a1.Keys) :: hwC a1.Word)] [(9000,.arr 38 23 a0.Sides.length (rows Qv6.enc a0.Sides)),(9001,.arr 42 14 a0.Radio.length (rows Qv7.enc a0.Radio))] (.agg [.osl 5001 0 r.Sides.length,.osl 5002 0 r.Radio.length]) [(5001,.arr 38 23 r.Sides.length (rows Qv6.enc r.Sides)),(5002,.arr 42 14 r.Radio.length (rows Qv7.enc r.Radio))]:=by
  refine QQ tOk (fn:=Tryz.f78) (c:=Qj Tryz.f78) rfl rfl ?_;unfold QU at h;(conv=>whnf);refine Qe tOk ?_;(conv=>whnf);obtain ⟨x1,hx1,h⟩:=Qa h;refine cC 0 (QJ hx1) ?_;clear hx1;(conv=>whnf);refine Qu h (fun _ h=>?_) (fun _ h=>?_)
  · (conv=>whnf);obtain rfl:=sj_ h;exact lfE [.s [(5001,9000),(5002,9001),(9000,5001),(9001,5002)]]
  · (conv=>whnf);refine gdI h (fun h=>?_);(conv=>whnf);obtain ⟨x3,hx3,h⟩:=Qa h;refine Ji tOk (fun s4=>⟨0,116,[(2,.ref 2 0 0),(4,.ref 4 0 0)],[],[(4,.box 26 [.d (.nil),.d (.nil)]),(2,.box 26 [.osl 9000 0 s4.1.length,.osl 9001 0 s4.2.length]),(9000,.arr 38 23 s4.1.length (rows Qv6.enc s4.1)),(9001,.arr 42 14 s4.2.length (rows Qv7.enc s4.2))],[⟨[],[]⟩]⟩) (fun s4=>x3=.inl s4) ?_ ?_
    · (conv=>whnf);refine Qu hx3 (fun _ hx3=>?_) (fun _ hx3=>?_)
      · (conv=>whnf);refine Qu hx3 (fun _ hx3=>?_) (fun _ hx3=>?_)
        · (conv=>whnf);obtain ⟨x6,hx6,hx3⟩:=Qa hx3;refine cC 1000 (Qfy hx6) ?_;clear hx6;(conv=>whnf);refine gdI hx3 (fun hx3=>?_);(conv=>whnf);refine ⟨rows Qv6.enc (a0.Sides.set a1.At.toNat (⟨(a0.Sides.getD a1.At.toNat default).Up,x6.1⟩:Qv6)),Zd Qjk rfl,?_⟩;(conv=>whnf);refine Qu hx3 (fun _ hx3=>?_) (fun _ hx3=>?_)
          · (conv=>whnf);obtain ⟨x8,hx8,hx3⟩:=Qa hx3;refine cE [(9000,9000),(9001,9001)] 1000 (Qh3 hx8) ?_;(conv=>whnf);obtain rfl:=sj_ hx3;obtain rfl:=sj_ h;exact lfE [.s [(5001,6001),(5002,6002),(6001,5001),(6002,5002)]]
          · (conv=>whnf);obtain rfl:=sj_ hx3;exact ⟨_,rfl,leX []⟩
        · (conv=>whnf);obtain rfl:=sj_ hx3;exact ⟨_,rfl,leX []⟩
      · (conv=>whnf);refine Qu hx3 (fun _ hx3=>?_) (fun _ hx3=>?_)
        · (conv=>whnf);refine Qu hx3 (fun _ hx3=>?_) (fun _ hx3=>?_)
          · (conv=>whnf);obtain ⟨x9,hx9,hx3⟩:=Qa hx3;obtain ⟨g10,hx3⟩:=Qg hx3;refine QP tOk [.u 6 1000 (.agg (dI x9.Name :: dI x9.Peer :: .osl 5001 0 x9.Keys.length :: dI x9.Boot :: .osl 5002 0 x9.Want.length :: dI x9.Turn :: dI x9.PeerBoot :: dI x9.PeerTurn :: dB x9.Up :: dI x9.Left :: dI x9.Num :: dI x9.Under.Kind :: hnC x9.Under.Entry ++ [.osl 5003 0 x9.Told.length,dB x9.All,dI x9.Got,dB x9.Full,.osl 5004 0 x9.Heard.length,dI x9.Keep])) [⟨5001,93,2,x9.Keys.length,rows Qv1.enc x9.Keys⟩,⟨5002,31,4,x9.Want.length,rows Qv2.enc x9.Want⟩,⟨5003,31,4,x9.Told.length,rows Qv2.enc x9.Told⟩,⟨5004,96,5,x9.Heard.length,rows Qv4.enc x9.Heard⟩]] 9 [] [0,1,0,4,0,16,48,127,255] [511] ?_;(conv=>whnf);refine And.intro (QM (Qfl hx9) (by kernel_rfl)) ?_;(conv=>whnf);refine And.intro g10 ?_;clear g10;(conv=>whnf);refine And.intro (by kernel_rfl) ?_;(conv=>whnf);refine ⟨rows Qv6.enc (a0.Sides.set a1.At.toNat (⟨(a0.Sides.getD a1.At.toNat default).Up,x9⟩:Qv6)),Zd Qjk rfl,?_⟩;(conv=>whnf);obtain rfl:=sj_ hx3;exact ⟨_,rfl,leX []⟩
          · (conv=>whnf);obtain rfl:=sj_ hx3;exact ⟨_,rfl,leX []⟩
        · (conv=>whnf);refine Qu hx3 (fun _ hx3=>?_) (fun _ hx3=>?_)
          · (conv=>whnf);obtain ⟨x11,hx11,hx3⟩:=Qa hx3;obtain ⟨g12,hx3⟩:=Qg hx3;refine QP tOk [.u 6 1000 (.agg (dI x11.Name :: dI x11.Peer :: .osl 5001 0 x11.Keys.length :: dI x11.Boot :: .osl 5002 0 x11.Want.length :: dI x11.Turn :: dI x11.PeerBoot :: dI x11.PeerTurn :: dB x11.Up :: dI x11.Left :: dI x11.Num :: dI x11.Under.Kind :: hnC x11.Under.Entry ++ [.osl 5003 0 x11.Told.length,dB x11.All,dI x11.Got,dB x11.Full,.osl 5004 0 x11.Heard.length,dI x11.Keep])) [⟨5001,93,2,x11.Keys.length,rows Qv1.enc x11.Keys⟩,⟨5002,31,4,x11.Want.length,rows Qv2.enc x11.Want⟩,⟨5003,31,4,x11.Told.length,rows Qv2.enc x11.Told⟩,⟨5004,96,5,x11.Heard.length,rows Qv4.enc x11.Heard⟩]] 9 [] [0,1,0,4,0,16,48,112,255] [511] ?_;(conv=>whnf);refine And.intro (QM (QgA hx11) (by kernel_rfl)) ?_;(conv=>whnf);refine And.intro g12 ?_;clear g12;(conv=>whnf);refine And.intro (by kernel_rfl) ?_;(conv=>whnf);refine ⟨rows Qv6.enc (a0.Sides.set a1.At.toNat (⟨false,x11⟩:Qv6)),Zd Qjk rfl,?_⟩;(conv=>whnf);obtain rfl:=sj_ hx3;exact ⟨_,rfl,leX []⟩
          · (conv=>whnf);refine Qu hx3 (fun _ hx3=>?_) (fun _ hx3=>?_)
            · (conv=>whnf);refine Qu hx3 (fun _ hx3=>?_) (fun _ hx3=>?_)
              · (conv=>whnf);obtain ⟨x13,hx13,hx3⟩:=Qa hx3;obtain ⟨g14,hx3⟩:=Qg hx3;refine JA tOk [.e 6 [] (.agg (heC x13 (.d (slD Qv4.enc x13.Heard)))) [] []] 9 [] [0,1,0,4,0,16,48,112,255] [511] [] ?_;(conv=>whnf);refine And.intro (eD [] 0 (QdQ hx13)) ?_;(conv=>whnf);refine And.intro g14 ?_;clear g14;(conv=>whnf);refine And.intro (by kernel_rfl) ?_;(conv=>whnf);refine ⟨rows Qv6.enc (a0.Sides.set a1.At.toNat (⟨true,x13⟩:Qv6)),Zd Qjk rfl,?_⟩;(conv=>whnf);obtain rfl:=sj_ hx3;exact ⟨_,rfl,leX []⟩
              · (conv=>whnf);obtain rfl:=sj_ hx3;exact ⟨_,rfl,leX []⟩
            · (conv=>whnf);refine Qu hx3 (fun _ hx3=>?_) (fun _ hx3=>?_)
              · (conv=>whnf);obtain ⟨x15,hx15,hx3⟩:=Qa hx3;refine cC 0 (Qam hx15) ?_;clear hx15;(conv=>whnf);refine Qu hx3 (fun _ hx3=>?_) (fun _ hx3=>?_)
                · (conv=>whnf);obtain ⟨x16,hx16,hx3⟩:=Qa hx3;obtain ⟨g17,hx3⟩:=Qg hx3;refine QP tOk [.u 6 1000 (.osl 5001 0 x16.length) [⟨5001,31,4,x16.length,rows Qv2.enc x16⟩]] 10 [] [0,1,0,4,0,16,48,127,255,511] [1023] ?_;(conv=>whnf);refine And.intro (QM (Zl hx16) (by kernel_rfl)) ?_;(conv=>whnf);refine And.intro g17 ?_;clear g17;(conv=>whnf);refine And.intro (by kernel_rfl) ?_;(conv=>whnf);obtain ⟨x18,hx18,hlx18,hx3⟩:=QgC hx3;refine Qr8 (enc:=Qv6.enc) hx18 ?_;(conv=>whnf);obtain rfl:=sj_ hx3;exact ⟨_,rfl,leX []⟩
                · (conv=>whnf);obtain rfl:=sj_ hx3;exact ⟨_,rfl,leX []⟩
              · (conv=>whnf);refine Qu hx3 (fun _ hx3=>?_) (fun _ hx3=>?_)
                · (conv=>whnf);obtain ⟨x19,hx19,hx3⟩:=Qa hx3;refine cC 0 (Qbs hx19) ?_;clear hx19;(conv=>whnf);refine Qu hx3 (fun _ hx3=>?_) (fun _ hx3=>?_)
                  · (conv=>whnf);obtain ⟨x20,hx20,hx3⟩:=Qa hx3;refine cC 1000 (QgB hx20) ?_;clear hx20;(conv=>whnf);obtain ⟨x21,hx21,hx3⟩:=Qa hx3;obtain ⟨g22,hx3⟩:=Qg hx3;refine QP tOk [.u 6 2000 (.osl 5001 0 x21.length) [⟨5001,93,2,x21.length,rows Qv1.enc x21⟩]] 10 [] [0,1,0,4,0,16,48,127,255,511] [1023] ?_;(conv=>whnf);refine And.intro (QM (Qca hx21) (by kernel_rfl)) ?_;(conv=>whnf);refine And.intro g22 ?_;clear g22;(conv=>whnf);refine And.intro (by kernel_rfl) ?_;(conv=>whnf);obtain ⟨x23,hx23,hlx23,hx3⟩:=QgC hx3;refine Qr8 (enc:=Qv6.enc) hx23 ?_;(conv=>whnf);obtain rfl:=sj_ hx3;exact ⟨_,rfl,leX [.s [(6001,9001),(9001,6001)]]⟩
                  · (conv=>whnf);obtain rfl:=sj_ hx3;exact ⟨_,rfl,leX []⟩
                · (conv=>whnf);obtain rfl:=sj_ hx3;exact ⟨_,rfl,leX []⟩
    · intro d5 hdd5;subst hdd5;(conv=>whnf);obtain rfl:=sj_ h;exact lfE [.s [(5001,9000),(5002,9001),(9000,5001),(9001,5002)]]
noncomputable def QaC (a0:Qv8):Option (Qv8) :=
 gd (((0)+(a0.Radio.length))*(112+1)≤70368744177664) <|
 bd (lp (σ:=List Qv6 × Int) (β:=((List Qv6) × Nat)) (fun s1 =>
(if (decide (s1.2<((a0.Sides.length:Nat):Int)))=true then
 gd ((0:Int)≤s1.2∧s1.2<((a0.Sides.length:Nat):Int)) <|
 gd ((0:Int)≤s1.2∧s1.2<((a0.Sides.length:Nat):Int)) <|
 bd (Zf ({ ((a0.Sides.getD s1.2.toNat default).End) with Under:=(⟨(((a0.Sides.getD s1.2.toNat default).End).Under).Kind,((((a0.Sides.getD s1.2.toNat default).End).Under).Entry)⟩:Qv3) })) fun x7 =>
 gd (((s1.1.length)+(([(⟨(a0.Sides.getD s1.2.toNat default).Up,x7⟩:Qv6)]:List Qv6).length))*(248+1)≤70368744177664) <|
 some (.inl ((s1.1 ++ ([(⟨(a0.Sides.getD s1.2.toNat default).Up,x7⟩:Qv6)]:List Qv6)),IntKind.i64.wrap (s1.2+1)))
else
 some (.inr (s1.1,s1.1.length)))) (([]:List Qv6),0)) fun x4 =>
 some (⟨x4.1,a0.Radio⟩:Qv8)
theorem Qfz {a0:Qv8} {r:Qv8} (h:QaC a0=some r):EffC Tryz.prog 38 [.agg [.d (slD Qv6.enc a0.Sides),.d (slD Qv7.enc a0.Radio)]] [] (.agg [.osl 5001 0 r.Sides.length,.osl 5002 0 r.Radio.length]) [(5001,.arr 38 23 r.Sides.length (rows Qv6.enc r.Sides)),(5002,.arr 42 14 r.Radio.length (rows Qv7.enc r.Radio))]:=by
  refine QQ tOk (fn:=Tryz.f38) (c:=Qj Tryz.f38) rfl rfl ?_;unfold QaC at h;(conv=>whnf);refine gdI h (fun h=>?_);refine QtK (enc:=Qv7.enc) (ys:=a0.Radio) ?_;(conv=>whnf);refine Qe tOk ?_;(conv=>whnf);obtain ⟨x4,hx4,h⟩:=Qa h;refine Zh tOk hx4 (fun s1=>⟨0,38,[(1,.ref 1 0 0),(2,.ref 2 0 0),(3,.ref 3 0 0),(4,dI s1.2)],[],[(7001,.arr 38 23 s1.1.length (rows Qv6.enc s1.1)),(3,.box 26 [.osl 7001 0 s1.1.length,.osl 9 0 a0.Radio.length]),(9,.arr 42 14 a0.Radio.length (rows Qv7.enc a0.Radio)),(2,.box 26 [.d (.nil),.d (.nil)]),(1,.box 26 [.d (slD Qv6.enc a0.Sides),.d (slD Qv7.enc a0.Radio)])],[⟨[],[]⟩]⟩) ?_ ?_
  · exact leX [.p 7001 38 23 (rows Qv6.enc ([]:List Qv6))]
  · clear hx4;intro s1 y2 g3 hy2;(conv=>whnf);refine Qe tOk ?_;(conv=>whnf);refine Qu g3 (fun _ g3=>?_) (fun _ g3=>?_)
    · (conv=>whnf);refine Qe tOk ?_;(conv=>whnf);obtain ⟨g5,g3⟩:=Qg g3;obtain ⟨g6,g3⟩:=Qg g3;obtain ⟨x7,hx7,g3⟩:=Qa g3;refine JA tOk [.e 14 [] (.agg (heC x7 (.d (slD Qv4.enc x7.Heard)))) [] []] 17 [] [0,1,0,4,0,28,60,124,0,256,0,1792,3840,7936,16128,32764,65532] [131071,262143,524287] [] ?_;(conv=>whnf);refine And.intro g5 ?_;clear g5;(conv=>whnf);refine And.intro g6 ?_;clear g6;(conv=>whnf);refine And.intro (eD [] 0 (Qaz hx7)) ?_;(conv=>whnf);refine QcT (enc:=Qv6.enc) ([(⟨(a0.Sides.getD s1.2.toNat default).Up,x7⟩:Qv6)]:List Qv6) ?_;(conv=>whnf);refine And.intro (by kernel_rfl) ?_;(conv=>whnf);refine gdI g3 (fun g3=>?_);refine Qh0 (enc:=Qv6.enc) (xs:=s1.1) (ys:=([(⟨(a0.Sides.getD s1.2.toNat default).Up,x7⟩:Qv6)]:List Qv6)) ?_;(conv=>whnf);obtain rfl:=sj_ g3;exact ⟨_,rfl,leX []⟩
    · (conv=>whnf);obtain rfl:=sj_ g3;obtain rfl:=hy2 _ rfl;obtain rfl:=sj_ h;exact lfE [.s [(9,5002),(5001,7001),(5002,9),(7001,5001)]]
noncomputable def ZC (a0:Qv8):Option (Qv8) :=
 bd (lp (σ:=List Qv6 × List Qv7) (β:=(Nat × Nat × (List Qv6) × (List Qv7))) (fun s1 =>
(if (decide (((s1.2.length:Nat):Int) > 0))=true then
 bd (Jm (⟨s1.1,s1.2⟩:Qv8) 0) fun x5 =>
 some (.inl (x5.Sides,x5.Radio))
else
 some (.inr (s1.1.length,s1.2.length,s1.1,s1.2)))) (a0.Sides,a0.Radio)) fun x4 =>
 bd (QU (⟨x4.2.2.1,x4.2.2.2⟩:Qv8) (⟨1,0,[],[],(⟨0,0,0,0,0,0,0,0,(⟨0,(⟨0,0,0,0⟩:Qv2)⟩:Qv3),0⟩:Qv7)⟩:Qv9)) fun x7 =>
 bd (QU x7 (⟨1,1,[],[],(⟨0,0,0,0,0,0,0,0,(⟨0,(⟨0,0,0,0⟩:Qv2)⟩:Qv3),0⟩:Qv7)⟩:Qv9)) fun x8 =>
 bd (lp (σ:=List Qv6 × List Qv7) (β:=((List Qv6) × Nat × (List Qv7) × Nat)) (fun s9 =>
(if (decide (((s9.2.length:Nat):Int) > 0))=true then
 bd (Jm (⟨s9.1,s9.2⟩:Qv8) 0) fun x13 =>
 some (.inl (x13.Sides,x13.Radio))
else
 some (.inr (s9.1,s9.1.length,s9.2,s9.2.length)))) (x8.Sides,x8.Radio)) fun x12 =>
 bd (QU (⟨x12.1,x12.2.2.1⟩:Qv8) (⟨5,0,[],[],(⟨0,0,0,0,0,0,0,0,(⟨0,(⟨0,0,0,0⟩:Qv2)⟩:Qv3),0⟩:Qv7)⟩:Qv9)) fun x15 =>
 bd (QU x15 (⟨5,1,[],[],(⟨0,0,0,0,0,0,0,0,(⟨0,(⟨0,0,0,0⟩:Qv2)⟩:Qv3),0⟩:Qv7)⟩:Qv9)) fun x16 =>
 some x16
theorem Qfr {a0:Qv8} {r:Qv8} (h:ZC a0=some r):EffC Tryz.prog 44 [.agg [.osl 9000 0 a0.Sides.length,.osl 9001 0 a0.Radio.length]] [(9000,.arr 38 23 a0.Sides.length (rows Qv6.enc a0.Sides)),(9001,.arr 42 14 a0.Radio.length (rows Qv7.enc a0.Radio))] (.agg [.osl 5001 0 r.Sides.length,.osl 5002 0 r.Radio.length]) [(5001,.arr 38 23 r.Sides.length (rows Qv6.enc r.Sides)),(5002,.arr 42 14 r.Radio.length (rows Qv7.enc r.Radio))]:=by
  refine QQ tOk (fn:=Tryz.f44) (c:=Qj Tryz.f44) rfl rfl ?_;unfold ZC at h;(conv=>whnf);refine Qe tOk ?_;(conv=>whnf);obtain ⟨x4,hx4,h⟩:=Qa h;refine Zh tOk hx4 (fun s1=>⟨0,27,[(1,.ref 1 0 0),(2,.ref 2 0 0)],[],[(2,.box 26 [.d (.nil),.d (.nil)]),(1,.box 26 [.osl 9000 0 s1.1.length,.osl 9001 0 s1.2.length]),(9000,.arr 38 23 s1.1.length (rows Qv6.enc s1.1)),(9001,.arr 42 14 s1.2.length (rows Qv7.enc s1.2))],[⟨[],[]⟩]⟩) ?_ ?_
  · exact leX []
  · clear hx4;intro s1 y2 g3 hy2;(conv=>whnf);refine Qe tOk ?_;(conv=>whnf);refine Qu g3 (fun _ g3=>?_) (fun _ g3=>?_)
    · (conv=>whnf);obtain ⟨x5,hx5,g3⟩:=Qa g3;refine QcU [9001] ?_;(conv=>whnf);refine cE [(9000,9000)] 1000 (QdO hx5) ?_;(conv=>whnf);obtain rfl:=sj_ g3;exact ⟨_,rfl,leX [.s [(6001,9000),(6002,9001),(9000,6001),(9001,6002)]]⟩
    · (conv=>whnf);obtain rfl:=sj_ g3;obtain rfl:=hy2 _ rfl;obtain ⟨x7,hx7,h⟩:=Qa h;refine cE [(9000,9000),(9001,9001)] 1000 (QaB hx7) ?_;(conv=>whnf);obtain ⟨x8,hx8,h⟩:=Qa h;refine cE [(9000,6001),(9001,6002)] 2000 (QaB hx8) ?_;(conv=>whnf);refine Qe tOk ?_;(conv=>whnf);obtain ⟨x12,hx12,h⟩:=Qa h;refine Zh tOk hx12 (fun s9=>⟨0,27,[(1,.ref 1 0 0),(2,.ref 2 0 0)],[],[(7001,.arr 38 23 s9.1.length (rows Qv6.enc s9.1)),(7002,.arr 42 14 s9.2.length (rows Qv7.enc s9.2)),(2,.box 26 [.d (.nil),.d (.nil)]),(1,.box 26 [.osl 7001 0 s9.1.length,.osl 7002 0 s9.2.length])],[⟨[],[]⟩]⟩) ?_ ?_
      · exact leX []
      · clear hx12;intro s9 y10 g11 hy10;(conv=>whnf);refine Qe tOk ?_;(conv=>whnf);refine Qu g11 (fun _ g11=>?_) (fun _ g11=>?_)
        · (conv=>whnf);obtain ⟨x13,hx13,g11⟩:=Qa g11;refine QcU [7002] ?_;(conv=>whnf);refine cE [(9000,7001)] 1000 (QdO hx13) ?_;(conv=>whnf);obtain rfl:=sj_ g11;exact ⟨_,rfl,leX [.s [(6001,7001),(6002,7002),(7001,6001),(7002,6002)]]⟩
        · (conv=>whnf);obtain rfl:=sj_ g11;obtain rfl:=hy10 _ rfl;obtain ⟨x15,hx15,h⟩:=Qa h;refine cE [(9000,7001),(9001,7002)] 1000 (QaB hx15) ?_;(conv=>whnf);obtain ⟨x16,hx16,h⟩:=Qa h;refine cE [(9000,6001),(9001,6002)] 3000 (QaB hx16) ?_;(conv=>whnf);obtain rfl:=sj_ h;exact lfE [.s [(5001,8001),(5002,8002),(8001,5001),(8002,5002)]]
end Go.Proofs.YtjgjdobkahdgfaaGreat
