/-
  What some of the program's functions compute: their models, and that the functions compute these; no condition.
-/
import Derived.Test.YtjgjdobkahdgfaaGreatTyz
import Derived.Test.YtjgjdobkahdgfaaGreatTbz
import Derived.Test.YtjgjdobkahdgfaaGreatAbz7
set_option linter.all false
namespace Go.Proofs.YtjgjdobkahdgfaaGreat
open Go Go.Ab
set_option maxRecDepth 100000
set_option maxHeartbeats 40000000
noncomputable def Qbj (a0:(List Int)):Option (Qv0) :=
(if (decide (((a0.length:Nat):Int) > 2000))=true then
 gd ((0:Int)≤(0:Int)∧(0:Int)≤(2000:Int)∧(2000:Int)≤((a0.length:Nat):Int)) <|
 some (⟨a0.take ((2000:Int).toNat),0⟩:Qv0)
else
 some (⟨a0,0⟩:Qv0))
theorem Qkq {a0:(List Int)} {r:Qv0} (h:Qbj a0=some r):EffC Tryz.prog 22 [.d (slD Qq a0)] [] (.ref 5001 0 0) [(5001,.box 75 [.d (slD Qq r.b),dI r.p])]:=by
  refine QQ tOk (fn:=Tryz.f22) (c:=Qj Tryz.f22) rfl rfl ?_;unfold Qbj at h;(conv=>whnf);refine Qe tOk ?_;(conv=>whnf);refine Qu h (fun _ h=>?_) (fun _ h=>?_)
  · (conv=>whnf);obtain ⟨g1,h⟩:=Qg h;refine And.intro ⟨g1,.inr rfl⟩ ?_;(conv=>whnf);obtain rfl:=sj_ h;exact lfE [.s [(10,5001),(5001,10)]]
  · (conv=>whnf);obtain rfl:=sj_ h;exact lfE [.s [(10,5001),(5001,10)]]
noncomputable def Qc (a0:Qv0) (a1:Int):Option (Int × Qv0) :=
(if ((decide (a1<1)) || (((a0.b.length:Nat):Int) == 0))=true then
 some (0,(⟨a0.b,IntKind.i64.wrap (a0.p+1)⟩:Qv0))
else
(if (decide ((IntKind.i64.wrap ((IntKind.i64.wrap (a0.p+1)) - 1))<((a0.b.length:Nat):Int)))=true then
 gd ((0:Int)≤IntKind.i64.wrap ((IntKind.i64.wrap (a0.p+1)) - 1)∧IntKind.i64.wrap ((IntKind.i64.wrap (a0.p+1)) - 1)<((a0.b.length:Nat):Int)) <|
 gd ((a1:Int) ≠ 0) <|
 some (((IntKind.i64.wrap (a0.b.getD ((IntKind.i64.wrap ((IntKind.i64.wrap (a0.p+1)) - 1)).toNat) default):Int).tmod a1),(⟨a0.b,IntKind.i64.wrap (a0.p+1)⟩:Qv0))
else
 gd ((((a0.b.length:Nat):Int):Int) ≠ 0) <|
 gd ((0:Int)≤((IntKind.i64.wrap ((IntKind.i64.wrap (a0.p+1)) - 1):Int).tmod ((a0.b.length:Nat):Int))∧((IntKind.i64.wrap ((IntKind.i64.wrap (a0.p+1)) - 1):Int).tmod ((a0.b.length:Nat):Int))<((a0.b.length:Nat):Int)) <|
 gd ((((a0.b.length:Nat):Int):Int) ≠ 0) <|
 gd ((0:Int)≤((IntKind.i64.wrap ((IntKind.i64.wrap ((IntKind.i64.wrap ((IntKind.i64.wrap (a0.p+1)) - 1))*7))+3):Int).tmod ((a0.b.length:Nat):Int))∧((IntKind.i64.wrap ((IntKind.i64.wrap ((IntKind.i64.wrap ((IntKind.i64.wrap (a0.p+1)) - 1))*7))+3):Int).tmod ((a0.b.length:Nat):Int))<((a0.b.length:Nat):Int)) <|
 gd ((((a0.b.length:Nat):Int):Int) ≠ 0) <|
 gd ((64:Int) ≠ 0) <|
 gd ((a1:Int) ≠ 0) <|
 some ((((bits .xor .i64 (IntKind.i64.wrap ((IntKind.i64.wrap ((IntKind.i64.wrap ((IntKind.i64.wrap ((IntKind.i64.wrap (a0.b.getD (((IntKind.i64.wrap ((IntKind.i64.wrap (a0.p+1)) - 1):Int).tmod ((a0.b.length:Nat):Int)).toNat) default))*131))+(IntKind.i64.wrap ((IntKind.i64.wrap (a0.b.getD (((IntKind.i64.wrap ((IntKind.i64.wrap ((IntKind.i64.wrap ((IntKind.i64.wrap (a0.p+1)) - 1))*7))+3):Int).tmod ((a0.b.length:Nat):Int)).toNat) default))*1117))))+(IntKind.i64.wrap ((IntKind.i64.wrap ((IntKind.i64.wrap (a0.p+1)) - 1))*29))))+(IntKind.i64.wrap ((IntKind.i64.wrap ((IntKind.i64.wrap ((IntKind.i64.wrap (a0.p+1)) - 1):Int).tdiv ((a0.b.length:Nat):Int)))*53)))) (IntKind.i64.wrap ((IntKind.i64.wrap ((IntKind.i64.wrap ((IntKind.i64.wrap ((IntKind.i64.wrap ((IntKind.i64.wrap (a0.b.getD (((IntKind.i64.wrap ((IntKind.i64.wrap (a0.p+1)) - 1):Int).tmod ((a0.b.length:Nat):Int)).toNat) default))*131))+(IntKind.i64.wrap ((IntKind.i64.wrap (a0.b.getD (((IntKind.i64.wrap ((IntKind.i64.wrap ((IntKind.i64.wrap ((IntKind.i64.wrap (a0.p+1)) - 1))*7))+3):Int).tmod ((a0.b.length:Nat):Int)).toNat) default))*1117))))+(IntKind.i64.wrap ((IntKind.i64.wrap ((IntKind.i64.wrap (a0.p+1)) - 1))*29))))+(IntKind.i64.wrap ((IntKind.i64.wrap ((IntKind.i64.wrap ((IntKind.i64.wrap (a0.p+1)) - 1):Int).tdiv ((a0.b.length:Nat):Int)))*53))):Int).tdiv 64))):Int).tmod a1),(⟨a0.b,IntKind.i64.wrap (a0.p+1)⟩:Qv0))))
theorem Qd {a0:Qv0} {a1:Int} {r:Int × Qv0} (h:Qc a0 a1=some r):EffC Tryz.prog 24 [.ref 9000 0 0,dI a1] [(9000,.box 75 [.d (slD Qq a0.b),dI a0.p])] (dI r.1) [(9000,.box 75 [.d (slD Qq a0.b),dI r.2.p])]:=by
  refine QQ tOk (fn:=Tryz.f24) (c:=Qj Tryz.f24) rfl rfl ?_;unfold Qc at h;(conv=>whnf);refine Qe tOk ?_;(conv=>whnf);refine Qu h (fun _ h=>?_) (fun _ h=>?_)
  · (conv=>whnf);obtain rfl:=sj_ h;exact lfE []
  · (conv=>whnf);refine Qe tOk ?_;(conv=>whnf);refine Qu h (fun _ h=>?_) (fun _ h=>?_)
    · (conv=>whnf);refine gdI h (fun h=>?_);(conv=>whnf);refine gdI h (fun h=>?_);(conv=>whnf);obtain rfl:=sj_ h;exact lfE []
    · (conv=>whnf);obtain ⟨g3,h⟩:=Qg h;obtain ⟨g4,h⟩:=Qg h;obtain ⟨g5,h⟩:=Qg h;obtain ⟨g6,h⟩:=Qg h;obtain ⟨g7,h⟩:=Qg h;refine QP tOk [] 46 [] [0,1,3,7,0,0,32,96,224,480,1008,2047,4095,8191,16383,0,32768,98304,229376,0,524288,1572864,0,4194304,12582912,29360128,62914560,133693440,268402688,536838144,1073709056,2147450880,4294967295,0,8589934592,34359738367,0,0,137438953472,412316860416,962072674304,2061584302080,4329327034368,8727373545472,17592186044415,35184372088831] [] ?_;(conv=>whnf);refine And.intro g3 ?_;clear g3;(conv=>whnf);refine And.intro g4 ?_;clear g4;(conv=>whnf);refine And.intro g5 ?_;clear g5;(conv=>whnf);refine And.intro g6 ?_;clear g6;(conv=>whnf);refine And.intro g7 ?_;clear g7;(conv=>whnf);refine And.intro (by kernel_rfl) ?_;(conv=>whnf);refine gdI h (fun h=>?_);(conv=>whnf);refine gdI h (fun h=>?_);(conv=>whnf);obtain rfl:=sj_ h;exact lfE []
noncomputable def Qbk (a0:Qv0):Option ((List Qv1) × Qv0) :=
 bd (Qc a0 6) fun x1 =>
(if (x1.1 == 0)=true then
 gd ((0:Int)≤(0:Int)∧(0:Int)≤(2:Int)∧(2:Int)≤((([(⟨1,7⟩:Qv1),(⟨2,1234567⟩:Qv1),(⟨9,2147483646⟩:Qv1)]:List Qv1).length:Nat):Int)) <|
 some (([(⟨1,7⟩:Qv1),(⟨2,1234567⟩:Qv1),(⟨9,2147483646⟩:Qv1)]:List Qv1).take ((2:Int).toNat),(⟨a0.b,x1.2.p⟩:Qv0))
else
(if (x1.1 == 1)=true then
 gd ((0:Int)≤(1:Int)∧(1:Int)≤((([(⟨1,7⟩:Qv1),(⟨2,1234567⟩:Qv1),(⟨9,2147483646⟩:Qv1)]:List Qv1).length:Nat):Int)∧((([(⟨1,7⟩:Qv1),(⟨2,1234567⟩:Qv1),(⟨9,2147483646⟩:Qv1)]:List Qv1).length:Nat):Int)≤((([(⟨1,7⟩:Qv1),(⟨2,1234567⟩:Qv1),(⟨9,2147483646⟩:Qv1)]:List Qv1).length:Nat):Int)) <|
 some (((([(⟨1,7⟩:Qv1),(⟨2,1234567⟩:Qv1),(⟨9,2147483646⟩:Qv1)]:List Qv1)).take ((1:Int).toNat+(Qc8 ((([(⟨1,7⟩:Qv1),(⟨2,1234567⟩:Qv1),(⟨9,2147483646⟩:Qv1)]:List Qv1).length:Nat):Int) (1:Int)))).drop ((1:Int).toNat),(⟨a0.b,x1.2.p⟩:Qv0))
else
(if (x1.1 == 2)=true then
 some (([(⟨1,7⟩:Qv1),(⟨2,1234567⟩:Qv1),(⟨9,2147483646⟩:Qv1)]:List Qv1),(⟨a0.b,x1.2.p⟩:Qv0))
else
 gd ((0:Int)≤(0:Int)∧(0:Int)≤(1:Int)∧(1:Int)≤((([(⟨1,7⟩:Qv1),(⟨2,1234567⟩:Qv1),(⟨9,2147483646⟩:Qv1)]:List Qv1).length:Nat):Int)) <|
 some (([(⟨1,7⟩:Qv1),(⟨2,1234567⟩:Qv1),(⟨9,2147483646⟩:Qv1)]:List Qv1).take ((1:Int).toNat),(⟨a0.b,x1.2.p⟩:Qv0)))))
theorem Qgw {a0:Qv0} {r:(List Qv1) × Qv0} (h:Qbk a0=some r):EffC Tryz.prog 69 [.ref 9000 0 0] [(9000,.box 75 [.d (slD Qq a0.b),dI a0.p])] (.osl 5001 0 r.1.length) [(9000,.box 75 [.d (slD Qq a0.b),dI r.2.p]),(5001,.arr 93 2 r.1.length (rows Qv1.enc r.1))]:=by
  refine QQ tOk (fn:=Tryz.f69) (c:=Qj Tryz.f69) rfl rfl ?_;unfold Qbk at h;(conv=>whnf);refine QcT (enc:=Qv1.enc) ([(⟨1,7⟩:Qv1),(⟨2,1234567⟩:Qv1),(⟨9,2147483646⟩:Qv1)]:List Qv1) ?_;(conv=>whnf);refine Qe tOk ?_;(conv=>whnf);obtain ⟨x1,hx1,h⟩:=Qa h;refine cE [(9000,9000)] 0 (Qd hx1) ?_;(conv=>whnf);refine Qu h (fun _ h=>?_) (fun _ h=>?_)
  · (conv=>whnf);obtain ⟨g2,h⟩:=Qg h;refine And.intro g2 ?_;(conv=>whnf);obtain rfl:=sj_ h
    try simp only [List.length_cons,List.length_nil] at *
    exact lfE [.c 2,.s [(7,5001),(5001,7)]]
  · (conv=>whnf);refine Qu h (fun _ h=>?_) (fun _ h=>?_)
    · (conv=>whnf);obtain ⟨g3,h⟩:=Qg h;refine And.intro g3 ?_;(conv=>whnf);obtain rfl:=sj_ h
      try simp only [List.length_cons,List.length_nil] at *
      exact lfE [.c 2,.s [(7,5001),(5001,7)]]
    · (conv=>whnf);refine Qu h (fun _ h=>?_) (fun _ h=>?_)
      · (conv=>whnf);obtain rfl:=sj_ h;exact lfE [.s [(7,5001),(5001,7)]]
      · (conv=>whnf);obtain ⟨g4,h⟩:=Qg h;refine And.intro g4 ?_;(conv=>whnf);obtain rfl:=sj_ h
        try simp only [List.length_cons,List.length_nil] at *
        exact lfE [.c 2,.s [(7,5001),(5001,7)]]
noncomputable def Qb9 (a0:Int):Option (Int) :=
 bd (lp (σ:=Int × Int) (β:=(Int)) (fun s1 =>
(if (decide (s1.2<16))=true then
 some (.inl (IntKind.i64.wrap (s1.1*2),IntKind.i64.wrap (s1.2+1)))
else
 some (.inr s1.1))) (1,a0)) fun x4 =>
 some x4
theorem Qgx {a0:Int} {r:Int} (h:Qb9 a0=some r):PureC Tryz.prog 153 [dI a0] (dI r) []:=by
  refine Qt tOk (fn:=Tryz.f153) (c:=Qj Tryz.f153) rfl rfl ?_;unfold Qb9 at h;(conv=>whnf);refine Qe tOk ?_;(conv=>whnf);obtain ⟨x4,hx4,h⟩:=Qa h;refine Zh tOk hx4 (fun s1=>⟨0,13,[(3,dI s1.1),(4,dI s1.2)],[],[],[]⟩) ?_ ?_
  · exact leX []
  · clear hx4;intro s1 y2 g3 hy2;(conv=>whnf);refine Qe tOk ?_;(conv=>whnf);refine Qu g3 (fun _ g3=>?_) (fun _ g3=>?_)
    · (conv=>whnf);refine Qe tOk ?_;(conv=>whnf);obtain rfl:=sj_ g3;exact ⟨_,rfl,leX []⟩
    · (conv=>whnf);obtain rfl:=sj_ g3;obtain rfl:=hy2 _ rfl;obtain rfl:=sj_ h;exact lfP []
noncomputable def Qba (a0:Qv0):Option (Qv2 × Qv0) :=
 bd (Qc a0 6) fun x1 =>
 gd ((0:Int)≤x1.1∧x1.1<((([0,1,8,8,15,16]:List Int).length:Nat):Int)) <|
 bd (Qc (⟨a0.b,x1.2.p⟩:Qv0) 5) fun x3 =>
 bd (Qc (⟨a0.b,x3.2.p⟩:Qv0) 5) fun x4 =>
 gd ((0:Int)≤x4.1∧x4.1<((([0,32768,2560,65535,IntKind.i64.wrap (x3.1*256)]:List Int).length:Nat):Int)) <|
 bd (Qb9 (([0,1,8,8,15,16]:List Int).getD x1.1.toNat default)) fun x6 =>
 gd ((x6:Int) ≠ 0) <|
 some ((⟨IntKind.i64.wrap ((([0,32768,2560,65535,IntKind.i64.wrap (x3.1*256)]:List Int).getD x4.1.toNat default) - (((([0,32768,2560,65535,IntKind.i64.wrap (x3.1*256)]:List Int).getD x4.1.toNat default):Int).tmod x6)),(([0,1,8,8,15,16]:List Int).getD x1.1.toNat default),0,0⟩:Qv2),(⟨a0.b,x4.2.p⟩:Qv0))
theorem QiM {a0:Qv0} {r:Qv2 × Qv0} (h:Qba a0=some r):EffC Tryz.prog 143 [.ref 9000 0 0] [(9000,.box 75 [.d (slD Qq a0.b),dI a0.p])] (.agg (hnC r.1)) [(9000,.box 75 [.d (slD Qq a0.b),dI r.2.p])]:=by
  refine QQ tOk (fn:=Tryz.f143) (c:=Qj Tryz.f143) rfl rfl ?_;unfold Qba at h;(conv=>whnf);refine QcT (enc:=Jz) ([0,1,8,8,15,16]:List Int) ?_;(conv=>whnf);obtain ⟨x1,hx1,h⟩:=Qa h;refine cE [(9000,9000)] 0 (Qd hx1) ?_;(conv=>whnf);refine gdI h (fun h=>?_);(conv=>whnf);obtain ⟨x3,hx3,h⟩:=Qa h;refine cE [(9000,9000)] 0 (Qd hx3) ?_;(conv=>whnf);refine QcT (enc:=Jz) ([0,32768,2560,65535,IntKind.i64.wrap (x3.1*256)]:List Int) ?_;(conv=>whnf);obtain ⟨x4,hx4,h⟩:=Qa h;refine cE [(9000,9000)] 0 (Qd hx4) ?_;(conv=>whnf);refine gdI h (fun h=>?_);(conv=>whnf);obtain ⟨x6,hx6,h⟩:=Qa h;refine cC 0 (Qgx hx6) ?_;clear hx6;(conv=>whnf);refine gdI h (fun h=>?_);(conv=>whnf);obtain rfl:=sj_ h;exact lfE []
noncomputable def JM (a0:Qv0):Option (Qv2 × Qv0) :=
 bd (Qba a0) fun x1 =>
 bd (Qc (⟨a0.b,x1.2.p⟩:Qv0) 4) fun x2 =>
 gd ((0:Int)≤x2.1∧x2.1<((([1,2,3,255]:List Int).length:Nat):Int)) <|
 bd (Qc (⟨a0.b,x2.2.p⟩:Qv0) 2) fun x4 =>
 bd (Qc (⟨a0.b,x4.2.p⟩:Qv0) 3) fun x5 =>
 gd ((0:Int)≤x5.1∧x5.1<((([1,17,1000]:List Int).length:Nat):Int)) <|
 some ({ x1.1 with Cost:=(([1,2,3,255]:List Int).getD x2.1.toNat default),Label:=IntKind.i64.wrap (x4.1*(([1,17,1000]:List Int).getD x5.1.toNat default)) },(⟨a0.b,x5.2.p⟩:Qv0))
theorem Qcz {a0:Qv0} {r:Qv2 × Qv0} (h:JM a0=some r):EffC Tryz.prog 106 [.ref 9000 0 0] [(9000,.box 75 [.d (slD Qq a0.b),dI a0.p])] (.agg (hnC r.1)) [(9000,.box 75 [.d (slD Qq a0.b),dI r.2.p])]:=by
  refine QQ tOk (fn:=Tryz.f106) (c:=Qj Tryz.f106) rfl rfl ?_;unfold JM at h;(conv=>whnf);obtain ⟨x1,hx1,h⟩:=Qa h;refine cE [(9000,9000)] 0 (QiM hx1) ?_;(conv=>whnf);refine QcT (enc:=Jz) ([1,2,3,255]:List Int) ?_;(conv=>whnf);obtain ⟨x2,hx2,h⟩:=Qa h;refine cE [(9000,9000)] 0 (Qd hx2) ?_;(conv=>whnf);refine gdI h (fun h=>?_);(conv=>whnf);obtain ⟨x4,hx4,h⟩:=Qa h;refine cE [(9000,9000)] 0 (Qd hx4) ?_;(conv=>whnf);refine QcT (enc:=Jz) ([1,17,1000]:List Int) ?_;(conv=>whnf);obtain ⟨x5,hx5,h⟩:=Qa h;refine cE [(9000,9000)] 0 (Qd hx5) ?_;(conv=>whnf);refine gdI h (fun h=>?_);(conv=>whnf);obtain rfl:=sj_ h;exact lfE []
noncomputable def ZK (a0:Qv2) (a1:Qv2):Option (Bool) :=
 some ((decide (a0.Addr<a1.Addr)) || ((a0.Addr == a1.Addr) && (decide (a0.Len<a1.Len))))
theorem Qc1 {a0:Qv2} {a1:Qv2} {r:Bool} (h:ZK a0 a1=some r):PureC Tryz.prog 142 [.agg (hnC a0),.agg (hnC a1)] (dB r) []:=by
  refine Qt tOk (fn:=Tryz.f142) (c:=Qj Tryz.f142) rfl rfl ?_;unfold ZK at h;(conv=>whnf);obtain rfl:=sj_ h;exact lfP []
noncomputable def QT (a0:(List Qv2)):Option ((List Qv2)) :=
 gd (((0)+(a0.length))*(32+1)≤70368744177664) <|
 some a0
theorem Zl {a0:(List Qv2)} {r:(List Qv2)} (h:QT a0=some r):PureC Tryz.prog 111 [.d (slD Qv2.enc a0)] (.osl 5001 0 r.length) [⟨5001,31,4,r.length,rows Qv2.enc r⟩]:=by
  refine Qt tOk (fn:=Tryz.f111) (c:=Qj Tryz.f111) rfl rfl ?_;unfold QT at h;(conv=>whnf);refine gdI h (fun h=>?_);refine QtK (enc:=Qv2.enc) (ys:=a0) ?_;(conv=>whnf);obtain rfl:=sj_ h;exact lfP [.s [(5,5001),(5001,5)]]
noncomputable def JI (a0:(List Qv2)) (a1:Qv2):Option ((List Qv2)) :=
 bd (lp (σ:=Int) (β:=(Int)) (fun s1 =>
 gd ((decide (s1<((a0.length:Nat):Int)))=true→((0:Int)≤s1∧s1<((a0.length:Nat):Int))) <|
 bd (gcall ((decide (s1<((a0.length:Nat):Int)))=true) (ZK (a0.getD s1.toNat default) a1)) fun x6 =>
(if ((decide (s1<((a0.length:Nat):Int))) && x6)=true then
 some (.inl (IntKind.i64.wrap (s1+1)))
else
 some (.inr s1))) 0) fun x4 =>
 gd ((decide (x4<((a0.length:Nat):Int)))=true→((0:Int)≤x4∧x4<((a0.length:Nat):Int))) <|
 gd (((decide (x4<((a0.length:Nat):Int))) && (((a0.getD x4.toNat default).Addr) == a1.Addr))=true→((0:Int)≤x4∧x4<((a0.length:Nat):Int))) <|
(if (((decide (x4<((a0.length:Nat):Int))) && (((a0.getD x4.toNat default).Addr) == a1.Addr)) && (((a0.getD x4.toNat default).Len) == a1.Len))=true then
 bd (QT a0) fun x10 =>
 gd ((0:Int)≤x4∧x4<((x10.length:Nat):Int)) <|
 some (x10.set x4.toNat a1)
else
 gd ((0:Int)≤(0:Int)∧(0:Int)≤x4∧x4≤((a0.length:Nat):Int)) <|
 bd (QT (a0.take x4.toNat)) fun x13 =>
 gd (((x13.length)+(([a1]:List Qv2).length))*(32+1)≤70368744177664) <|
 gd ((0:Int)≤x4∧x4≤((a0.length:Nat):Int)∧((a0.length:Nat):Int)≤((a0.length:Nat):Int)) <|
 gd ((((x13 ++ ([a1]:List Qv2)).length)+((Qc8 ((a0.length:Nat):Int) x4)))*(32+1)≤70368744177664) <|
 some ((x13 ++ ([a1]:List Qv2)) ++ (((a0).take (x4.toNat+(Qc8 ((a0.length:Nat):Int) x4))).drop x4.toNat)))
theorem QcA {a0:(List Qv2)} {a1:Qv2} {r:(List Qv2)} (h:JI a0 a1=some r):PureC Tryz.prog 105 [.d (slD Qv2.enc a0),.agg (hnC a1)] (.osl 5001 0 r.length) [⟨5001,31,4,r.length,rows Qv2.enc r⟩]:=by
  refine Qt tOk (fn:=Tryz.f105) (c:=Qj Tryz.f105) rfl rfl ?_;unfold JI at h;(conv=>whnf);refine Qe tOk ?_;(conv=>whnf);obtain ⟨x4,hx4,h⟩:=Qa h;refine Zh tOk hx4 (fun s1=>⟨0,63,[(0,.d (slD Qv2.enc a0)),(3,.ref 3 0 0),(5,dI s1)],[],[(3,.box 31 (hnC a1))],[]⟩) ?_ ?_
  · exact leX []
  · clear hx4;intro s1 y2 g3 hy2;(conv=>whnf);refine Qe tOk ?_;(conv=>whnf);obtain ⟨g5,g3⟩:=Qg g3;obtain ⟨x6,hx6,g3⟩:=Qa g3;refine QP tOk [.u 10 0 (dB x6) []] 12 [] [0,0,2,7,15,31,31,127,255,31,1023,2047] [] ?_;(conv=>whnf);refine And.intro g5 ?_;clear g5;(conv=>whnf);refine And.intro (Q1 rfl rfl rfl rfl (by intro c0; exact Qc1 (Qf hx6 c0))) ?_;(conv=>whnf);refine And.intro (by kernel_rfl) ?_;(conv=>whnf);refine Qu g3 (fun _ g3=>?_) (fun _ g3=>?_)
    · (conv=>whnf);obtain rfl:=sj_ g3;exact ⟨_,rfl,leX []⟩
    · (conv=>whnf);obtain rfl:=sj_ g3;obtain rfl:=hy2 _ rfl;refine Qe tOk ?_;(conv=>whnf);obtain ⟨g8,h⟩:=Qg h;obtain ⟨g9,h⟩:=Qg h;refine QP tOk [] 24 [] [0,0,2,7,15,31,31,127,255,511,31,1055,4095,8191,16383,32767,32767,131071,262143,524287,32767,1081343,4194303,8388607] [] ?_;(conv=>whnf);refine And.intro g8 ?_;clear g8;(conv=>whnf);refine And.intro g9 ?_;clear g9;(conv=>whnf);refine And.intro (by kernel_rfl) ?_;(conv=>whnf);refine Qu h (fun _ h=>?_) (fun _ h=>?_)
      · (conv=>whnf);obtain ⟨x10,hx10,h⟩:=Qa h;refine cC 1000 (Zl hx10) ?_;clear hx10;(conv=>whnf);refine gdI h (fun h=>?_);(conv=>whnf);refine ⟨rows Qv2.enc (x10.set s1.toNat a1),Zd Qjk rfl,?_⟩;(conv=>whnf);obtain rfl:=sj_ h;exact lfP [.s [(5001,6001),(6001,5001)]]
      · (conv=>whnf);obtain ⟨g12,h⟩:=Qg h;obtain ⟨x13,hx13,h⟩:=Qa h;obtain ⟨g14,h⟩:=Qg h;obtain ⟨g15,h⟩:=Qg h;obtain ⟨g16,h⟩:=Qg h;refine JA tOk [.e 3 [] (.osl 6001 0 x13.length) [] [(6001,.arr 31 4 x13.length (rows Qv2.enc x13))],.a 6 [(6001,.arr 31 4 x13.length (rows Qv2.enc x13))] (.osl 58 0 ((x13 ++ ([a1]:List Qv2)).length)) [(58,.arr 31 4 ((x13 ++ ([a1]:List Qv2)).length) (rows Qv2.enc (x13 ++ ([a1]:List Qv2))))],.a 10 [(58,.arr 31 4 ((x13 ++ ([a1]:List Qv2)).length) (rows Qv2.enc (x13 ++ ([a1]:List Qv2))))] (.osl 62 0 (((x13 ++ ([a1]:List Qv2)) ++ (((a0).take (s1.toNat+(Qc8 ((a0.length:Nat):Int) s1))).drop s1.toNat)).length)) [(62,.arr 31 4 (((x13 ++ ([a1]:List Qv2)) ++ (((a0).take (s1.toNat+(Qc8 ((a0.length:Nat):Int) s1))).drop s1.toNat)).length) (rows Qv2.enc ((x13 ++ ([a1]:List Qv2)) ++ (((a0).take (s1.toNat+(Qc8 ((a0.length:Nat):Int) s1))).drop s1.toNat))))]] 12 [] [0,0,3,7,0,16,63,0,0,384,1023,2047] [] [] ?_;(conv=>whnf);refine And.intro ⟨g12,.inr rfl⟩ ?_;(conv=>whnf);refine And.intro (eH [] 1000 ((Zl hx13).eff rfl rfl)) ?_;(conv=>whnf);refine QcT (enc:=Qv2.enc) ([a1]:List Qv2) ?_;(conv=>whnf);refine And.intro (by (conv=>whnf); exact ⟨g14,Qh0 (enc:=Qv2.enc) (xs:=x13) (ys:=([a1]:List Qv2)) ⟨rfl,rfl⟩⟩) ?_;(conv=>whnf);refine And.intro ⟨g15,.inr rfl⟩ ?_;(conv=>whnf);refine And.intro (by (conv=>whnf); exact ⟨g16,Qh0 (enc:=Qv2.enc) (xs:=(x13 ++ ([a1]:List Qv2))) (ys:=((a0).take (s1.toNat+(Qc8 ((a0.length:Nat):Int) s1))).drop s1.toNat) ⟨rfl,rfl⟩⟩) ?_;(conv=>whnf);refine And.intro (by kernel_rfl) ?_;(conv=>whnf);obtain rfl:=sj_ h;exact lfP [.s [(62,5001),(5001,62)]]
noncomputable def Qal (a0:Qv0):Option ((List Qv2) × Qv0) :=
 bd (Qc a0 5) fun x1 =>
 bd (lp (σ:=List Qv2 × Int × Int) (β:=(Nat × (List Qv2) × Int)) (fun s2 =>
(if (decide (s2.2.2 > 0))=true then
 bd (JM (⟨a0.b,s2.2.1⟩:Qv0)) fun x6 =>
 bd (JI s2.1 x6.1) fun x7 =>
 some (.inl (x7,x6.2.p,IntKind.i64.wrap (s2.2.2 - 1)))
else
 some (.inr (s2.1.length,s2.1,s2.2.1)))) (([]:List Qv2),x1.2.p,x1.1)) fun x5 =>
 bd (lp (σ:=List Qv2 × Int) (β:=(Nat × (List Qv2) × Int)) (fun s9 =>
 bd (Qc (⟨a0.b,s9.2⟩:Qv0) 12) fun x13 =>
(if ((x13.1 == 0) && (decide (((s9.1.length:Nat):Int)<8)))=true then
 bd (lp (σ:=List Qv2 × Int × Int) (β:=(Nat × (List Qv2) × Int)) (fun s14 =>
(if (decide (((s14.1.length:Nat):Int)<8))=true then
 bd (Qc (⟨a0.b,s14.2.1⟩:Qv0) 2) fun x18 =>
 bd (JI s14.1 (⟨IntKind.i64.wrap (16384+s14.2.2),16,IntKind.i64.wrap (1+x18.1),0⟩:Qv2)) fun x19 =>
 some (.inl (x19,x18.2.p,IntKind.i64.wrap (s14.2.2+1)))
else
 some (.inr (s14.1.length,s14.1,s14.2.1)))) (s9.1,x13.2.p,0)) fun x17 =>
 some (.inl (x17.2.1,x17.2.2))
else
 some (.inr (s9.1.length,s9.1,x13.2.p)))) (x5.2.1,x5.2.2)) fun x12 =>
 some (x12.2.1,(⟨a0.b,x12.2.2⟩:Qv0))
theorem QdM {a0:Qv0} {r:(List Qv2) × Qv0} (h:Qal a0=some r):EffC Tryz.prog 70 [.ref 9000 0 0] [(9000,.box 75 [.d (slD Qq a0.b),dI a0.p])] (.osl 5001 0 r.1.length) [(9000,.box 75 [.d (slD Qq a0.b),dI r.2.p]),(5001,.arr 31 4 r.1.length (rows Qv2.enc r.1))]:=by
  refine QQ tOk (fn:=Tryz.f70) (c:=Qj Tryz.f70) rfl rfl ?_;unfold Qal at h;(conv=>whnf);refine Qe tOk ?_;(conv=>whnf);obtain ⟨x1,hx1,h⟩:=Qa h;refine cE [(9000,9000)] 0 (Qd hx1) ?_;(conv=>whnf);obtain ⟨x5,hx5,h⟩:=Qa h;refine Zh tOk hx5 (fun s2=>⟨0,39,[(0,.ref 9000 0 0),(3,.osl 7001 0 s2.1.length),(4,dI s2.2.2)],[],[(7001,.arr 31 4 s2.1.length (rows Qv2.enc s2.1)),(9000,.box 75 [.d (slD Qq a0.b),dI s2.2.1])],[⟨[(0,.ref 9000 0 0)],[]⟩]⟩) ?_ ?_
  · exact leX [.p 7001 31 4 (rows Qv2.enc ([]:List Qv2))]
  · clear hx5;intro s2 y3 g4 hy3;(conv=>whnf);refine Qe tOk ?_;(conv=>whnf);refine Qu g4 (fun _ g4=>?_) (fun _ g4=>?_)
    · (conv=>whnf);refine Qe tOk ?_;(conv=>whnf);obtain ⟨x6,hx6,g4⟩:=Qa g4;refine cE [(9000,9000)] 0 (Qcz hx6) ?_;(conv=>whnf);obtain ⟨x7,hx7,g4⟩:=Qa g4;refine cC 1000 (QcA hx7) ?_;clear hx7;(conv=>whnf);obtain rfl:=sj_ g4;exact ⟨_,rfl,leX [.s [(6001,7001),(7001,6001)]]⟩
    · (conv=>whnf);obtain rfl:=sj_ g4;obtain rfl:=hy3 _ rfl;refine Qe tOk ?_;(conv=>whnf);obtain ⟨x12,hx12,h⟩:=Qa h;refine Zh tOk hx12 (fun s9=>⟨0,39,[(0,.ref 9000 0 0),(3,.osl 7001 0 s9.1.length)],[],[(7001,.arr 31 4 s9.1.length (rows Qv2.enc s9.1)),(9000,.box 75 [.d (slD Qq a0.b),dI s9.2])],[⟨[(0,.ref 9000 0 0)],[]⟩]⟩) ?_ ?_
      · exact leX []
      · clear hx12;intro s9 y10 g11 hy10;(conv=>whnf);refine Qe tOk ?_;(conv=>whnf);obtain ⟨x13,hx13,g11⟩:=Qa g11;refine cE [(9000,9000)] 0 (Qd hx13) ?_;(conv=>whnf);refine Qu g11 (fun _ g11=>?_) (fun _ g11=>?_)
        · (conv=>whnf);obtain ⟨x17,hx17,g11⟩:=Qa g11;refine Zh tOk hx17 (fun s14=>⟨0,39,[(0,.ref 9000 0 0),(3,.osl 7001 0 s14.1.length),(5,dI s14.2.2)],[],[(7001,.arr 31 4 s14.1.length (rows Qv2.enc s14.1)),(9000,.box 75 [.d (slD Qq a0.b),dI s14.2.1])],[⟨[(0,.ref 9000 0 0)],[]⟩]⟩) ?_ ?_
          · exact leX []
          · clear hx17;intro s14 y15 g16 hy15;(conv=>whnf);refine Qe tOk ?_;(conv=>whnf);refine Qu g16 (fun _ g16=>?_) (fun _ g16=>?_)
            · (conv=>whnf);refine Qe tOk ?_;(conv=>whnf);obtain ⟨x18,hx18,g16⟩:=Qa g16;refine cE [(9000,9000)] 0 (Qd hx18) ?_;(conv=>whnf);obtain ⟨x19,hx19,g16⟩:=Qa g16;refine cC 1000 (QcA hx19) ?_;clear hx19;(conv=>whnf);obtain rfl:=sj_ g16;exact ⟨_,rfl,leX [.s [(6001,7001),(7001,6001)]]⟩
            · (conv=>whnf);obtain rfl:=sj_ g16;obtain rfl:=hy15 _ rfl;obtain rfl:=sj_ g11;exact ⟨_,rfl,leX []⟩
        · (conv=>whnf);obtain rfl:=sj_ g11;obtain rfl:=hy10 _ rfl;obtain rfl:=sj_ h;exact lfE [.s [(5001,7001),(7001,5001)]]
noncomputable def ZL (a0:(List Qv1)):Option ((List Qv1)) :=
 gd (((0)+(a0.length))*(16+1)≤70368744177664) <|
 some a0
theorem Qca {a0:(List Qv1)} {r:(List Qv1)} (h:ZL a0=some r):PureC Tryz.prog 110 [.d (slD Qv1.enc a0)] (.osl 5001 0 r.length) [⟨5001,93,2,r.length,rows Qv1.enc r⟩]:=by
  refine Qt tOk (fn:=Tryz.f110) (c:=Qj Tryz.f110) rfl rfl ?_;unfold ZL at h;(conv=>whnf);refine gdI h (fun h=>?_);refine QtK (enc:=Qv1.enc) (ys:=a0) ?_;(conv=>whnf);obtain rfl:=sj_ h;exact lfP [.s [(5,5001),(5001,5)]]
noncomputable def Q6 (a0:(List Qv4)):Option ((List Qv4)) :=
 gd (((0)+(a0.length))*(40+1)≤70368744177664) <|
 some a0
theorem Ju {a0:(List Qv4)} {r:(List Qv4)} (h:Q6 a0=some r):PureC Tryz.prog 112 [.d (slD Qv4.enc a0)] (.osl 5001 0 r.length) [⟨5001,96,5,r.length,rows Qv4.enc r⟩]:=by
  refine Qt tOk (fn:=Tryz.f112) (c:=Qj Tryz.f112) rfl rfl ?_;unfold Q6 at h;(conv=>whnf);refine gdI h (fun h=>?_);refine QtK (enc:=Qv4.enc) (ys:=a0) ?_;(conv=>whnf);obtain rfl:=sj_ h;exact lfP [.s [(5,5001),(5001,5)]]
noncomputable def Za (a0:Qv5):Option (Qv5) :=
 bd (ZL a0.Keys) fun x1 =>
 bd (QT a0.Want) fun x2 =>
 bd (QT a0.Told) fun x3 =>
 bd (Q6 a0.Heard) fun x4 =>
 some ({ a0 with Keys:=x1,Want:=x2,Told:=x3,Heard:=x4 })
theorem Z4 {a0:Qv5} {r:Qv5} (h:Za a0=some r):PureC Tryz.prog 75 [.agg (heC a0 (.d (slD Qv4.enc a0.Heard)))] (.agg (dI r.Name :: dI r.Peer :: .osl 5001 0 r.Keys.length :: dI r.Boot :: .osl 5002 0 r.Want.length :: dI r.Turn :: dI r.PeerBoot :: dI r.PeerTurn :: dB r.Up :: dI r.Left :: dI r.Num :: dI r.Under.Kind :: hnC r.Under.Entry ++ [.osl 5003 0 r.Told.length,dB r.All,dI r.Got,dB r.Full,.osl 5004 0 r.Heard.length,dI r.Keep])) [⟨5001,93,2,r.Keys.length,rows Qv1.enc r.Keys⟩,⟨5002,31,4,r.Want.length,rows Qv2.enc r.Want⟩,⟨5003,31,4,r.Told.length,rows Qv2.enc r.Told⟩,⟨5004,96,5,r.Heard.length,rows Qv4.enc r.Heard⟩]:=by
  refine Qt tOk (fn:=Tryz.f75) (c:=Qj Tryz.f75) rfl rfl ?_;unfold Za at h;(conv=>whnf);obtain ⟨x1,hx1,h⟩:=Qa h;refine cC 1000 (Qca hx1) ?_;clear hx1;(conv=>whnf);obtain ⟨x2,hx2,h⟩:=Qa h;refine cC 2000 (Zl hx2) ?_;clear hx2;(conv=>whnf);obtain ⟨x3,hx3,h⟩:=Qa h;refine cC 3000 (Zl hx3) ?_;clear hx3;(conv=>whnf);obtain ⟨x4,hx4,h⟩:=Qa h;refine cC 4000 (Ju hx4) ?_;clear hx4;(conv=>whnf);obtain rfl:=sj_ h;exact lfP [.s [(5001,6001),(5002,7001),(5003,8001),(5004,9001),(6001,5001),(7001,5002),(8001,5003),(9001,5004)]]
noncomputable def QA (a0:Int) (a1:Int) (a2:Int):Option (Bool) :=
 some ((decide (a0 ≥ a1)) && (decide (a0≤a2)))
theorem QJ {a0:Int} {a1:Int} {a2:Int} {r:Bool} (h:QA a0 a1 a2=some r):PureC Tryz.prog 84 [dI a0,dI a1,dI a2] (dB r) []:=by
  refine Qt tOk (fn:=Tryz.f84) (c:=Qj Tryz.f84) rfl rfl ?_;unfold QA at h;(conv=>whnf);obtain rfl:=sj_ h;exact lfP []
noncomputable def Z2 (a0:(List Qv1)):Option (Bool) :=
 bd (QA ((a0.length:Nat):Int) 1 3) fun x1 =>
(if (!x1)=true then
 some false
else
 bd (lp (σ:=Int) (β:=(Unit ⊕ Unit)) (fun s2 =>
(if (decide (s2<((a0.length:Nat):Int)))=true then
 gd ((0:Int)≤s2∧s2<((a0.length:Nat):Int)) <|
 bd (QA ((a0.getD s2.toNat default).Id) 1 9) fun x7 =>
 gd ((!x7)=false→((0:Int)≤s2∧s2<((a0.length:Nat):Int))) <|
 bd (gcall ((!x7)=false) (QA ((a0.getD s2.toNat default).Secret) 1 2147483646)) fun x9 =>
 gd ((decide (s2 > 0))=true→(((!x7) || (!x9))=false→((0:Int)≤IntKind.i64.wrap (s2 - 1)∧IntKind.i64.wrap (s2 - 1)<((a0.length:Nat):Int)))) <|
 gd ((decide (s2 > 0))=true→(((!x7) || (!x9))=false→((0:Int)≤s2∧s2<((a0.length:Nat):Int)))) <|
(if (((!x7) || (!x9)) || ((decide (s2 > 0)) && (decide (((a0.getD ((IntKind.i64.wrap (s2 - 1)).toNat) default).Id) ≥ ((a0.getD s2.toNat default).Id)))))=true then
 some (.inr (.inl ()))
else
 some (.inl (IntKind.i64.wrap (s2+1))))
else
 some (.inr (.inr ())))) 0) fun x5 =>
(match x5 with
| .inl d12 =>
 some false
| .inr d13 =>
 some true))
theorem Qbs {a0:(List Qv1)} {r:Bool} (h:Z2 a0=some r):PureC Tryz.prog 120 [.d (slD Qv1.enc a0)] (dB r) []:=by
  refine Qt tOk (fn:=Tryz.f120) (c:=Qj Tryz.f120) rfl rfl ?_;unfold Z2 at h;(conv=>whnf);refine Qe tOk ?_;(conv=>whnf);obtain ⟨x1,hx1,h⟩:=Qa h;refine cC 0 (QJ hx1) ?_;clear hx1;(conv=>whnf);refine Qu h (fun _ h=>?_) (fun _ h=>?_)
  · (conv=>whnf);obtain rfl:=sj_ h;exact lfP []
  · (conv=>whnf);refine Qe tOk ?_;(conv=>whnf);obtain ⟨x5,hx5,h⟩:=Qa h;refine Zh tOk hx5 (fun s2=>⟨0,48,[(0,.d (slD Qv1.enc a0)),(3,dI s2)],[],[],[]⟩) ?_ ?_
    · exact leX []
    · clear hx5;intro s2 y3 g4 hy3;(conv=>whnf);refine Qe tOk ?_;(conv=>whnf);refine Qu g4 (fun _ g4=>?_) (fun _ g4=>?_)
      · (conv=>whnf);refine Qe tOk ?_;(conv=>whnf);obtain ⟨g6,g4⟩:=Qg g4;obtain ⟨x7,hx7,g4⟩:=Qa g4;obtain ⟨g8,g4⟩:=Qg g4;obtain ⟨x9,hx9,g4⟩:=Qa g4;obtain ⟨g10,g4⟩:=Qg g4;obtain ⟨g11,g4⟩:=Qg g4;refine QP tOk [.u 5 0 (dB x7) [],.u 13 0 (dB x9) []] 34 [] [0,0,3,7,15,31,63,127,255,255,1023,2047,4095,8191,16383,32767,65535,131071,262143,524287,1048575,1048575,3145727,8388607,16777215,33554431,1048575,1048575,202375167,470810623,1007681535,2147483647,4294967295,8589934591] [] ?_;(conv=>whnf);refine And.intro g6 ?_;clear g6;(conv=>whnf);refine And.intro (QM (QJ hx7) (by kernel_rfl)) ?_;(conv=>whnf);refine And.intro g8 ?_;clear g8;(conv=>whnf);refine And.intro (Q1 rfl rfl rfl rfl (by intro c0; exact QJ (Qf hx9 c0))) ?_;(conv=>whnf);refine And.intro g10 ?_;clear g10;(conv=>whnf);refine And.intro g11 ?_;clear g11;(conv=>whnf);refine And.intro (by kernel_rfl) ?_;(conv=>whnf);refine Qu g4 (fun _ g4=>?_) (fun _ g4=>?_)
        · (conv=>whnf);obtain rfl:=sj_ g4;obtain rfl:=hy3 _ rfl;obtain rfl:=sj_ h;exact lfP []
        · (conv=>whnf);obtain rfl:=sj_ g4;exact ⟨_,rfl,leX []⟩
      · (conv=>whnf);obtain rfl:=sj_ g4;obtain rfl:=hy3 _ rfl;obtain rfl:=sj_ h;exact lfP []
noncomputable def Qax (a0:Qv2):Option (Bool) :=
 bd (QA a0.Len 0 16) fun x1 =>
 bd (gcall (x1=true) (QA a0.Addr 0 65535)) fun x2 =>
 bd (gcall ((x1 && x2)=true) (Qb9 a0.Len)) fun x3 =>
 gd ((x1 && x2)=true→((x3:Int) ≠ 0)) <|
 some ((x1 && x2) && (((a0.Addr:Int).tmod x3) == 0))
theorem Qfj {a0:Qv2} {r:Bool} (h:Qax a0=some r):PureC Tryz.prog 129 [.agg (hnC a0)] (dB r) []:=by
  refine Qt tOk (fn:=Tryz.f129) (c:=Qj Tryz.f129) rfl rfl ?_;unfold Qax at h;(conv=>whnf);obtain ⟨x1,hx1,h⟩:=Qa h;obtain ⟨x2,hx2,h⟩:=Qa h;obtain ⟨x3,hx3,h⟩:=Qa h;obtain ⟨g4,h⟩:=Qg h;refine QP tOk [.u 2 0 (dB x1) [],.u 6 0 (dB x2) [],.u 13 0 (dI x3) []] 18 [] [0,1,3,7,15,31,63,127,255,511,1023,511,2559,6655,16383,32767,65535,131071] [] ?_;(conv=>whnf);refine And.intro (QM (QJ hx1) (by kernel_rfl)) ?_;(conv=>whnf);refine And.intro (Q1 rfl rfl rfl rfl (by intro c0; exact QJ (Qf hx2 c0))) ?_;(conv=>whnf);refine And.intro (Q1 rfl rfl rfl rfl (by intro c0; exact Qgx (Qf hx3 c0))) ?_;(conv=>whnf);refine And.intro g4 ?_;clear g4;(conv=>whnf);refine And.intro (by kernel_rfl) ?_;(conv=>whnf);obtain rfl:=sj_ h;exact lfP []
noncomputable def Ja (a0:Qv2):Option (Bool) :=
 bd (Qax a0) fun x1 =>
 bd (gcall (x1=true) (QA a0.Cost 1 255)) fun x2 =>
 bd (gcall ((x1 && x2)=true) (QA a0.Label 0 1000)) fun x3 =>
 some ((x1 && x2) && x3)
theorem QcV {a0:Qv2} {r:Bool} (h:Ja a0=some r):PureC Tryz.prog 128 [.agg (hnC a0)] (dB r) []:=by
  refine Qt tOk (fn:=Tryz.f128) (c:=Qj Tryz.f128) rfl rfl ?_;unfold Ja at h;(conv=>whnf);obtain ⟨x1,hx1,h⟩:=Qa h;refine cC 0 (Qfj hx1) ?_;clear hx1;(conv=>whnf);obtain ⟨x2,hx2,h⟩:=Qa h;refine cG (fun c0=>QJ (Qf hx2 c0)) ?_;(conv=>whnf);obtain ⟨x3,hx3,h⟩:=Qa h;refine cG (fun c0=>QJ (Qf hx3 c0)) ?_;(conv=>whnf);obtain rfl:=sj_ h;exact lfP []
noncomputable def Zr (a0:(List Qv2)):Option (Bool) :=
(if (decide (((a0.length:Nat):Int) > 8))=true then
 some false
else
 bd (lp (σ:=Int) (β:=(Unit ⊕ Unit)) (fun s1 =>
(if (decide (s1<((a0.length:Nat):Int)))=true then
 gd ((0:Int)≤s1∧s1<((a0.length:Nat):Int)) <|
 bd (Ja (a0.getD s1.toNat default)) fun x6 =>
 gd ((decide (s1 > 0))=true→((!x6)=false→((0:Int)≤IntKind.i64.wrap (s1 - 1)∧IntKind.i64.wrap (s1 - 1)<((a0.length:Nat):Int)))) <|
 gd ((decide (s1 > 0))=true→((!x6)=false→((0:Int)≤s1∧s1<((a0.length:Nat):Int)))) <|
 bd (gcall ((decide (s1 > 0))=true∧(!x6)=false) (ZK (a0.getD ((IntKind.i64.wrap (s1 - 1)).toNat) default) (a0.getD s1.toNat default))) fun x9 =>
(if ((!x6) || ((decide (s1 > 0)) && (!x9)))=true then
 some (.inr (.inl ()))
else
 some (.inl (IntKind.i64.wrap (s1+1))))
else
 some (.inr (.inr ())))) 0) fun x4 =>
(match x4 with
| .inl d10 =>
 some false
| .inr d11 =>
 some true))
theorem Qam {a0:(List Qv2)} {r:Bool} (h:Zr a0=some r):PureC Tryz.prog 119 [.d (slD Qv2.enc a0)] (dB r) []:=by
  refine Qt tOk (fn:=Tryz.f119) (c:=Qj Tryz.f119) rfl rfl ?_;unfold Zr at h;(conv=>whnf);refine Qe tOk ?_;(conv=>whnf);refine Qu h (fun _ h=>?_) (fun _ h=>?_)
  · (conv=>whnf);obtain rfl:=sj_ h;exact lfP []
  · (conv=>whnf);refine Qe tOk ?_;(conv=>whnf);obtain ⟨x4,hx4,h⟩:=Qa h;refine Zh tOk hx4 (fun s1=>⟨0,36,[(0,.d (slD Qv2.enc a0)),(3,dI s1)],[],[],[]⟩) ?_ ?_
    · exact leX []
    · clear hx4;intro s1 y2 g3 hy2;(conv=>whnf);refine Qe tOk ?_;(conv=>whnf);refine Qu g3 (fun _ g3=>?_) (fun _ g3=>?_)
      · (conv=>whnf);refine Qe tOk ?_;(conv=>whnf);obtain ⟨g5,g3⟩:=Qg g3;obtain ⟨x6,hx6,g3⟩:=Qa g3;obtain ⟨g7,g3⟩:=Qg g3;obtain ⟨g8,g3⟩:=Qg g3;obtain ⟨x9,hx9,g3⟩:=Qa g3;refine QP tOk [.u 4 0 (dB x6) [],.u 19 0 (dB x9) []] 23 [] [0,0,3,7,15,31,63,127,255,511,1023,1023,3071,8191,16383,1023,1023,99327,230399,524287,1048575,2097151,4194303] [] ?_;(conv=>whnf);refine And.intro g5 ?_;clear g5;(conv=>whnf);refine And.intro (QM (QcV hx6) (by kernel_rfl)) ?_;(conv=>whnf);refine And.intro g7 ?_;clear g7;(conv=>whnf);refine And.intro g8 ?_;clear g8;(conv=>whnf);refine And.intro (Q1 rfl rfl rfl rfl (by intro c0 c1; exact Qc1 (Qf hx9 ⟨c0,c1⟩))) ?_;(conv=>whnf);refine And.intro (by kernel_rfl) ?_;(conv=>whnf);refine Qu g3 (fun _ g3=>?_) (fun _ g3=>?_)
        · (conv=>whnf);obtain rfl:=sj_ g3;obtain rfl:=hy2 _ rfl;obtain rfl:=sj_ h;exact lfP []
        · (conv=>whnf);obtain rfl:=sj_ g3;exact ⟨_,rfl,leX []⟩
      · (conv=>whnf);obtain rfl:=sj_ g3;obtain rfl:=hy2 _ rfl;obtain rfl:=sj_ h;exact lfP []
noncomputable def JZ (a0:Qv3):Option (Bool) :=
 bd (α:=Bool) ((if (a0.Kind == 0)=true then
 some (a0.Kind == 0)
else
 some (a0.Kind == 3))) fun x1 =>
(if x1=true then
 some ((a0.Entry.Addr == 0) && ((a0.Entry.Len == 0) && ((a0.Entry.Cost == 0) && ((a0.Entry.Label == 0) && true))))
else
(if (a0.Kind == 1)=true then
 bd (Ja a0.Entry) fun x4 =>
 some x4
else
(if (a0.Kind == 2)=true then
 bd (Qax a0.Entry) fun x5 =>
 some ((x5 && (a0.Entry.Cost == 0)) && (a0.Entry.Label == 0))
else
 some false)))
theorem Qd9 {a0:Qv3} {r:Bool} (h:JZ a0=some r):PureC Tryz.prog 85 [.agg (dI a0.Kind :: hnC a0.Entry)] (dB r) []:=by
  refine Qt tOk (fn:=Tryz.f85) (c:=Qj Tryz.f85) rfl rfl ?_;unfold JZ at h;(conv=>whnf);refine Qe tOk ?_;(conv=>whnf);obtain ⟨x1,hx1,h⟩:=Qa h;refine Ji tOk (fun s2=>⟨0,34,[(1,.ref 1 0 0),(4,dI a0.Kind),(5,dB s2)],[],[(1,.box 33 (dI a0.Kind :: hnC a0.Entry))],[]⟩) (fun s2=>x1=s2) ?_ ?_
  · (conv=>whnf);refine Qu hx1 (fun _ hx1=>?_) (fun _ hx1=>?_)
    · (conv=>whnf);obtain rfl:=sj_ hx1;exact ⟨_,rfl,leX []⟩
    · (conv=>whnf);obtain rfl:=sj_ hx1;exact ⟨_,rfl,leX []⟩
  · rintro _ rfl;(conv=>whnf);refine Qu h (fun _ h=>?_) (fun _ h=>?_)
    · (conv=>whnf);obtain rfl:=sj_ h;exact lfP []
    · (conv=>whnf);refine Qu h (fun _ h=>?_) (fun _ h=>?_)
      · (conv=>whnf);obtain ⟨x4,hx4,h⟩:=Qa h;refine cC 0 (QcV hx4) ?_;clear hx4;(conv=>whnf);obtain rfl:=sj_ h;exact lfP []
      · (conv=>whnf);refine Qu h (fun _ h=>?_) (fun _ h=>?_)
        · (conv=>whnf);obtain ⟨x5,hx5,h⟩:=Qa h;refine cC 0 (Qfj hx5) ?_;clear hx5;(conv=>whnf);obtain rfl:=sj_ h;exact lfP []
        · (conv=>whnf);obtain rfl:=sj_ h;exact lfP []
noncomputable def Qbz (a0:(List Qv2)) (a1:Qv2):Option (Int) :=
 bd (lp (σ:=Int) (β:=(Int ⊕ Unit)) (fun s1 =>
(if (decide (s1<((a0.length:Nat):Int)))=true then
 gd ((0:Int)≤s1∧s1<((a0.length:Nat):Int)) <|
 gd ((((a0.getD s1.toNat default).Addr) == a1.Addr)=true→((0:Int)≤s1∧s1<((a0.length:Nat):Int))) <|
(if ((((a0.getD s1.toNat default).Addr) == a1.Addr) && (((a0.getD s1.toNat default).Len) == a1.Len))=true then
 some (.inr (.inl s1))
else
 some (.inl (IntKind.i64.wrap (s1+1))))
else
 some (.inr (.inr ())))) 0) fun x4 =>
(match x4 with
| .inl d7 =>
 some d7
| .inr d8 =>
 some (-1))
theorem Qfv {a0:(List Qv2)} {a1:Qv2} {r:Int} (h:Qbz a0 a1=some r):PureC Tryz.prog 165 [.d (slD Qv2.enc a0),.agg (hnC a1)] (dI r) []:=by
  refine Qt tOk (fn:=Tryz.f165) (c:=Qj Tryz.f165) rfl rfl ?_;unfold Qbz at h;(conv=>whnf);refine Qe tOk ?_;(conv=>whnf);obtain ⟨x4,hx4,h⟩:=Qa h;refine Zh tOk hx4 (fun s1=>⟨0,31,[(0,.d (slD Qv2.enc a0)),(3,.ref 3 0 0),(5,dI s1)],[],[(3,.box 31 (hnC a1))],[]⟩) ?_ ?_
  · exact leX []
  · clear hx4;intro s1 y2 g3 hy2;(conv=>whnf);refine Qe tOk ?_;(conv=>whnf);refine Qu g3 (fun _ g3=>?_) (fun _ g3=>?_)
    · (conv=>whnf);refine Qe tOk ?_;(conv=>whnf);obtain ⟨g5,g3⟩:=Qg g3;obtain ⟨g6,g3⟩:=Qg g3;refine QP tOk [] 18 [] [0,0,3,7,15,0,32,127,255,511,511,2047,4095,8191,511,16895,65535,131071] [] ?_;(conv=>whnf);refine And.intro g5 ?_;clear g5;(conv=>whnf);refine And.intro g6 ?_;clear g6;(conv=>whnf);refine And.intro (by kernel_rfl) ?_;(conv=>whnf);refine Qu g3 (fun _ g3=>?_) (fun _ g3=>?_)
      · (conv=>whnf);obtain rfl:=sj_ g3;obtain rfl:=hy2 _ rfl;obtain rfl:=sj_ h;exact lfP []
      · (conv=>whnf);obtain rfl:=sj_ g3;exact ⟨_,rfl,leX []⟩
    · (conv=>whnf);obtain rfl:=sj_ g3;obtain rfl:=hy2 _ rfl;obtain rfl:=sj_ h;exact lfP []
noncomputable def Qbl (a0:(List Qv2)) (a1:Qv2):Option ((List Qv2)) :=
 bd (Qbz a0 a1) fun x1 =>
(if (decide (x1<0))=true then
 bd (QT a0) fun x2 =>
 some x2
else
 gd ((0:Int)≤(0:Int)∧(0:Int)≤x1∧x1≤((a0.length:Nat):Int)) <|
 bd (QT (a0.take x1.toNat)) fun x4 =>
 gd ((0:Int)≤IntKind.i64.wrap (x1+1)∧IntKind.i64.wrap (x1+1)≤((a0.length:Nat):Int)∧((a0.length:Nat):Int)≤((a0.length:Nat):Int)) <|
 gd (((x4.length)+((Qc8 ((a0.length:Nat):Int) (IntKind.i64.wrap (x1+1)))))*(32+1)≤70368744177664) <|
 some (x4 ++ (((a0).take ((IntKind.i64.wrap (x1+1)).toNat+(Qc8 ((a0.length:Nat):Int) (IntKind.i64.wrap (x1+1))))).drop ((IntKind.i64.wrap (x1+1)).toNat))))
theorem Qgy {a0:(List Qv2)} {a1:Qv2} {r:(List Qv2)} (h:Qbl a0 a1=some r):PureC Tryz.prog 152 [.d (slD Qv2.enc a0),.agg (hnC a1)] (.osl 5001 0 r.length) [⟨5001,31,4,r.length,rows Qv2.enc r⟩]:=by
  refine Qt tOk (fn:=Tryz.f152) (c:=Qj Tryz.f152) rfl rfl ?_;unfold Qbl at h;(conv=>whnf);obtain ⟨x1,hx1,h⟩:=Qa h;refine cC 0 (Qfv hx1) ?_;clear hx1;(conv=>whnf);refine Qe tOk ?_;(conv=>whnf);refine Qu h (fun _ h=>?_) (fun _ h=>?_)
  · (conv=>whnf);obtain ⟨x2,hx2,h⟩:=Qa h;refine cC 1000 (Zl hx2) ?_;clear hx2;(conv=>whnf);obtain rfl:=sj_ h;exact lfP [.s [(5001,6001),(6001,5001)]]
  · (conv=>whnf);obtain ⟨g3,h⟩:=Qg h;obtain ⟨x4,hx4,h⟩:=Qa h;obtain ⟨g5,h⟩:=Qg h;refine QP tOk [.u 3 1000 (.osl 5001 0 x4.length) [⟨5001,31,4,x4.length,rows Qv2.enc x4⟩]] 8 [] [0,0,3,7,0,0,32,112] [255,511] ?_;(conv=>whnf);refine And.intro ⟨g3,.inr rfl⟩ ?_;(conv=>whnf);refine And.intro (QnB (Zl hx4) rfl Qou) ?_;(conv=>whnf);refine And.intro ⟨g5,.inr rfl⟩ ?_;(conv=>whnf);refine And.intro (by kernel_rfl) ?_;(conv=>whnf);refine gdI h (fun h=>?_);refine Qh0 (enc:=Qv2.enc) (xs:=x4) (ys:=((a0).take ((IntKind.i64.wrap (x1+1)).toNat+(Qc8 ((a0.length:Nat):Int) (IntKind.i64.wrap (x1+1))))).drop ((IntKind.i64.wrap (x1+1)).toNat)) ?_;(conv=>whnf);obtain rfl:=sj_ h;exact lfP [.s [(5001,6001),(6001,5001)]]
noncomputable def QbA (a0:(List Qv2)) (a1:Qv3):Option ((List Qv2)) :=
(if (a1.Kind == 1)=true then
 bd (JI a0 a1.Entry) fun x1 =>
 some x1
else
(if (a1.Kind == 2)=true then
 bd (Qbl a0 a1.Entry) fun x2 =>
 some x2
else
 bd (QT a0) fun x3 =>
 some x3))
theorem Qjl {a0:(List Qv2)} {a1:Qv3} {r:(List Qv2)} (h:QbA a0 a1=some r):PureC Tryz.prog 126 [.d (slD Qv2.enc a0),.agg (dI a1.Kind :: hnC a1.Entry)] (.osl 5001 0 r.length) [⟨5001,31,4,r.length,rows Qv2.enc r⟩]:=by
  refine Qt tOk (fn:=Tryz.f126) (c:=Qj Tryz.f126) rfl rfl ?_;unfold QbA at h;(conv=>whnf);refine Qe tOk ?_;(conv=>whnf);refine Qu h (fun _ h=>?_) (fun _ h=>?_)
  · (conv=>whnf);obtain ⟨x1,hx1,h⟩:=Qa h;refine cC 1000 (QcA hx1) ?_;clear hx1;(conv=>whnf);obtain rfl:=sj_ h;exact lfP [.s [(5001,6001),(6001,5001)]]
  · (conv=>whnf);refine Qu h (fun _ h=>?_) (fun _ h=>?_)
    · (conv=>whnf);obtain ⟨x2,hx2,h⟩:=Qa h;refine cC 1000 (Qgy hx2) ?_;clear hx2;(conv=>whnf);obtain rfl:=sj_ h;exact lfP [.s [(5001,6001),(6001,5001)]]
    · (conv=>whnf);obtain ⟨x3,hx3,h⟩:=Qa h;refine cC 1000 (Zl hx3) ?_;clear hx3;(conv=>whnf);obtain rfl:=sj_ h;exact lfP [.s [(5001,6001),(6001,5001)]]
noncomputable def Qbt (a0:(List Qv2)) (a1:Qv3):Option ((List Qv2)) :=
(if (a1.Kind == 1)=true then
 bd (JI a0 a1.Entry) fun x1 =>
 some x1
else
(if (a1.Kind == 2)=true then
 bd (Qbl a0 a1.Entry) fun x2 =>
 some x2
else
 bd (QT a0) fun x3 =>
 some x3))
theorem Qhi {a0:(List Qv2)} {a1:Qv3} {r:(List Qv2)} (h:Qbt a0 a1=some r):EffC Tryz.prog 126 [.d (slD Qv2.enc a0),.agg (dI a1.Kind :: hnC a1.Entry)] [] (.d (slD Qv2.enc r)) []:=by
  refine QQ tOk (fn:=Tryz.f126) (c:=Qj Tryz.f126) rfl rfl ?_;unfold Qbt at h;(conv=>whnf);refine Qe tOk ?_;(conv=>whnf);refine Qu h (fun _ h=>?_) (fun _ h=>?_)
  · (conv=>whnf);obtain ⟨x1,hx1,h⟩:=Qa h;refine cC 1000 (QcA hx1) ?_;clear hx1;(conv=>whnf);obtain rfl:=sj_ h;exact lfE [.f [6001]]
  · (conv=>whnf);refine Qu h (fun _ h=>?_) (fun _ h=>?_)
    · (conv=>whnf);obtain ⟨x2,hx2,h⟩:=Qa h;refine cC 1000 (Qgy hx2) ?_;clear hx2;(conv=>whnf);obtain rfl:=sj_ h;exact lfE [.f [6001]]
    · (conv=>whnf);obtain ⟨x3,hx3,h⟩:=Qa h;refine cC 1000 (Zl hx3) ?_;clear hx3;(conv=>whnf);obtain rfl:=sj_ h;exact lfE [.f [6001]]
noncomputable def QaS (a0:Qv5):Option (Bool) :=
 bd (gcall ((decide (((a0.Heard.length:Nat):Int) > 16))=false) (QA a0.Keep 0 6)) fun x1 =>
(if ((decide (((a0.Heard.length:Nat):Int) > 16)) || (!x1))=true then
 some false
else
 bd (lp (σ:=Bool × Int) (β:=(Unit ⊕ Bool)) (fun s2 =>
(if (decide (s2.2<((a0.Heard.length:Nat):Int)))=true then
 gd ((0:Int)≤s2.2∧s2.2<((a0.Heard.length:Nat):Int)) <|
 bd (Ja ((a0.Heard.getD s2.2.toNat default).Entry)) fun x7 =>
 gd ((decide (s2.2 > 0))=true→((!x7)=false→((0:Int)≤IntKind.i64.wrap (s2.2 - 1)∧IntKind.i64.wrap (s2.2 - 1)<((a0.Heard.length:Nat):Int)))) <|
 bd (gcall ((decide (s2.2 > 0))=true∧(!x7)=false) (ZK ((a0.Heard.getD ((IntKind.i64.wrap (s2.2 - 1)).toNat) default).Entry) ((a0.Heard.getD s2.2.toNat default).Entry))) fun x9 =>
(if (((!x7) || ((decide (s2.2 > 0)) && (!x9))) || ((!((a0.Heard.getD s2.2.toNat default).Stale)) && (a0.Left == 0)))=true then
 some (.inr (.inl ()))
else
 some (.inl ((s2.1 || (a0.Heard.getD s2.2.toNat default).Stale),IntKind.i64.wrap (s2.2+1))))
else
 some (.inr (.inr s2.1)))) (false,0)) fun x5 =>
(match x5 with
| .inl d10 =>
 some false
| .inr d11 =>
 some (d11 == (decide (a0.Keep > 0)))))
theorem Qh1 {a0:Qv5} {r:Bool} (h:QaS a0=some r):PureC Tryz.prog 127 [.agg (heC a0 (.d (slD Qv4.enc a0.Heard)))] (dB r) []:=by
  refine Qt tOk (fn:=Tryz.f127) (c:=Qj Tryz.f127) rfl rfl ?_;unfold QaS at h;(conv=>whnf);refine Qe tOk ?_;(conv=>whnf);obtain ⟨x1,hx1,h⟩:=Qa h;refine cG (fun c0=>QJ (Qf hx1 c0)) ?_;(conv=>whnf);refine Qu h (fun _ h=>?_) (fun _ h=>?_)
  · (conv=>whnf);obtain rfl:=sj_ h;exact lfP []
  · (conv=>whnf);refine Qe tOk ?_;(conv=>whnf);obtain ⟨x5,hx5,h⟩:=Qa h;refine Zh tOk hx5 (fun s2=>⟨0,69,[(1,.ref 1 0 0),(3,dB s2.1),(4,dI s2.2)],[],[(1,.box 36 (heC a0 (.d (slD Qv4.enc a0.Heard))))],[]⟩) ?_ ?_
    · exact leX []
    · clear hx5;intro s2 y3 g4 hy3;(conv=>whnf);refine Qe tOk ?_;(conv=>whnf);refine Qu g4 (fun _ g4=>?_) (fun _ g4=>?_)
      · (conv=>whnf);refine Qe tOk ?_;(conv=>whnf);refine gdI g4 (fun g4=>?_);(conv=>whnf);refine Qe tOk ?_;(conv=>whnf);obtain ⟨x7,hx7,g4⟩:=Qa g4;obtain ⟨g8,g4⟩:=Qg g4;obtain ⟨x9,hx9,g4⟩:=Qa g4;refine QP tOk [.u 2 0 (dB x7) [],.u 17 0 (dB x9) []] 31 [] [0,1,3,7,15,31,63,127,255,511,255,1279,4095,8191,16383,255,33023,131071,262143,524287,1048575,2097151,4194303,8388607,16777215,33554431,67108863,134217727,268435455,536870911,1073741823] [] ?_;(conv=>whnf);refine And.intro (QM (QcV hx7) (by kernel_rfl)) ?_;(conv=>whnf);refine And.intro g8 ?_;clear g8;(conv=>whnf);refine And.intro (Q1 rfl rfl rfl rfl (by intro c0 c1; exact Qc1 (Qf hx9 ⟨c0,c1⟩))) ?_;(conv=>whnf);refine And.intro (by kernel_rfl) ?_;(conv=>whnf);refine Qu g4 (fun _ g4=>?_) (fun _ g4=>?_)
        · (conv=>whnf);obtain rfl:=sj_ g4;obtain rfl:=hy3 _ rfl;obtain rfl:=sj_ h;exact lfP []
        · (conv=>whnf);obtain rfl:=sj_ g4;exact ⟨_,rfl,leX []⟩
      · (conv=>whnf);obtain rfl:=sj_ g4;obtain rfl:=hy3 _ rfl;obtain rfl:=sj_ h;exact lfP []
noncomputable def ZP (a0:Qv5):Option (Bool) :=
 bd (QA a0.Name 0 65535) fun x1 =>
 bd (gcall ((!x1)=false) (QA a0.Peer 0 65535)) fun x2 =>
 bd (gcall ((((!x1) || (!x2)) || (a0.Name == a0.Peer))=false) (Z2 a0.Keys)) fun x3 =>
 bd (gcall (((((!x1) || (!x2)) || (a0.Name == a0.Peer)) || (!x3))=false) (QA a0.Boot 1 1000)) fun x4 =>
 bd (gcall ((((((!x1) || (!x2)) || (a0.Name == a0.Peer)) || (!x3)) || (!x4))=false) (Zr a0.Want)) fun x5 =>
(if ((((((!x1) || (!x2)) || (a0.Name == a0.Peer)) || (!x3)) || (!x4)) || (!x5))=true then
 some false
else
 bd (QA a0.Turn 0 1000000) fun x6 =>
 bd (gcall ((!x6)=false) (QA a0.PeerBoot 0 999)) fun x7 =>
 bd (gcall (((!x6) || (!x7))=false) (QA a0.PeerTurn 0 1000000)) fun x8 =>
(if ((((!x6) || (!x7)) || (!x8)) || (!((a0.PeerBoot == 0) == (a0.PeerTurn == 0))))=true then
 some false
else
 bd (QA a0.Left 0 4) fun x9 =>
(if (((!x9) || ((decide (a0.Left > 0)) && (a0.PeerBoot == 0))) || (a0.Up && (a0.Left == 0)))=true then
 some false
else
 bd (QA a0.Num 0 a0.Turn) fun x10 =>
 bd (gcall ((!x10)=false) (QA a0.Got 0 1000000)) fun x11 =>
 bd (gcall (((!x10) || (!x11))=false) (JZ a0.Under)) fun x12 =>
 bd (gcall (((((!x10) || (!x11)) || (!x12)) || ((decide (a0.Under.Kind > 0)) && (a0.Num == 0)))=false) (Zr a0.Told)) fun x13 =>
 bd (gcall ((((((!x10) || (!x11)) || (!x12)) || ((decide (a0.Under.Kind > 0)) && (a0.Num == 0))) || (!x13))=false) (Qbt a0.Told a0.Under)) fun x14 =>
 bd (gcall ((((((!x10) || (!x11)) || (!x12)) || ((decide (a0.Under.Kind > 0)) && (a0.Num == 0))) || (!x13))=false) (Zr x14)) fun x15 =>
(if ((((((!x10) || (!x11)) || (!x12)) || ((decide (a0.Under.Kind > 0)) && (a0.Num == 0))) || (!x13)) || (!x15))=true then
 some false
else
 bd (QaS a0) fun x16 =>
 some x16))))
theorem QaT {a0:Qv5} {r:Bool} (h:ZP a0=some r):PureC Tryz.prog 83 [.agg (heC a0 (.d (slD Qv4.enc a0.Heard)))] (dB r) []:=by
  refine Qt tOk (fn:=Tryz.f83) (c:=Qj Tryz.f83) rfl rfl ?_;unfold ZP at h;(conv=>whnf);refine Qe tOk ?_;(conv=>whnf);obtain ⟨x1,hx1,h⟩:=Qa h;refine cC 0 (QJ hx1) ?_;clear hx1;(conv=>whnf);obtain ⟨x2,hx2,h⟩:=Qa h;refine cG (fun c0=>QJ (Qf hx2 c0)) ?_;(conv=>whnf);obtain ⟨x3,hx3,h⟩:=Qa h;refine cG (fun c0=>Qbs (Qf hx3 c0)) ?_;(conv=>whnf);obtain ⟨x4,hx4,h⟩:=Qa h;refine cG (fun c0=>QJ (Qf hx4 c0)) ?_;(conv=>whnf);obtain ⟨x5,hx5,h⟩:=Qa h;refine cG (fun c0=>Qam (Qf hx5 c0)) ?_;(conv=>whnf);refine Qu h (fun _ h=>?_) (fun _ h=>?_)
  · (conv=>whnf);obtain rfl:=sj_ h;exact lfP []
  · (conv=>whnf);refine Qe tOk ?_;(conv=>whnf);obtain ⟨x6,hx6,h⟩:=Qa h;refine cC 0 (QJ hx6) ?_;clear hx6;(conv=>whnf);obtain ⟨x7,hx7,h⟩:=Qa h;refine cG (fun c0=>QJ (Qf hx7 c0)) ?_;(conv=>whnf);obtain ⟨x8,hx8,h⟩:=Qa h;refine cG (fun c0=>QJ (Qf hx8 c0)) ?_;(conv=>whnf);refine Qu h (fun _ h=>?_) (fun _ h=>?_)
    · (conv=>whnf);obtain rfl:=sj_ h;exact lfP []
    · (conv=>whnf);refine Qe tOk ?_;(conv=>whnf);obtain ⟨x9,hx9,h⟩:=Qa h;refine cC 0 (QJ hx9) ?_;clear hx9;(conv=>whnf);refine Qu h (fun _ h=>?_) (fun _ h=>?_)
      · (conv=>whnf);obtain rfl:=sj_ h;exact lfP []
      · (conv=>whnf);refine Qe tOk ?_;(conv=>whnf);obtain ⟨x10,hx10,h⟩:=Qa h;refine cC 0 (QJ hx10) ?_;clear hx10;(conv=>whnf);obtain ⟨x11,hx11,h⟩:=Qa h;refine cG (fun c0=>QJ (Qf hx11 c0)) ?_;(conv=>whnf);obtain ⟨x12,hx12,h⟩:=Qa h;refine cG (fun c0=>Qd9 (Qf hx12 c0)) ?_;(conv=>whnf);obtain ⟨x13,hx13,h⟩:=Qa h;refine cG (fun c0=>Qam (Qf hx13 c0)) ?_;(conv=>whnf);obtain ⟨x14,hx14,h⟩:=Qa h;refine QnC [] 0 rfl rfl rfl (by intro c0; exact Qhi (Qf hx14 c0)) Qou inA rfl rfl (Qf8 inA) ?_;(conv=>whnf);obtain ⟨x15,hx15,h⟩:=Qa h;refine cG (fun c0=>Qam (Qf hx15 c0)) ?_;(conv=>whnf);refine Qu h (fun _ h=>?_) (fun _ h=>?_)
        · (conv=>whnf);obtain rfl:=sj_ h;exact lfP []
        · (conv=>whnf);obtain ⟨x16,hx16,h⟩:=Qa h;refine cC 0 (Qh1 hx16) ?_;clear hx16;(conv=>whnf);obtain rfl:=sj_ h;exact lfP []
noncomputable def QaU (a0:Int) (a1:Int) (a2:(List Qv1)) (a3:Int) (a4:(List Qv2)):Option (Qv5) :=
 bd (Za (⟨a0,a1,a2,a3,a4,0,0,0,false,0,0,(⟨0,(⟨0,0,0,0⟩:Qv2)⟩:Qv3),[],false,0,false,[],0⟩:Qv5)) fun x1 =>
 bd (ZP x1) fun x2 =>
(if (!x2)=true then
 some (⟨0,0,[],0,[],0,0,0,false,0,0,(⟨0,(⟨0,0,0,0⟩:Qv2)⟩:Qv3),[],false,0,false,[],0⟩:Qv5)
else
 some x1)
theorem Qfw {a0:Int} {a1:Int} {a2:(List Qv1)} {a3:Int} {a4:(List Qv2)} {r:Qv5} (h:QaU a0 a1 a2 a3 a4=some r):PureC Tryz.prog 104 [dI a0,dI a1,.d (slD Qv1.enc a2),dI a3,.d (slD Qv2.enc a4)] (.agg (dI r.Name :: dI r.Peer :: .osl 5001 0 r.Keys.length :: dI r.Boot :: .osl 5002 0 r.Want.length :: dI r.Turn :: dI r.PeerBoot :: dI r.PeerTurn :: dB r.Up :: dI r.Left :: dI r.Num :: dI r.Under.Kind :: hnC r.Under.Entry ++ [.osl 5003 0 r.Told.length,dB r.All,dI r.Got,dB r.Full,.osl 5004 0 r.Heard.length,dI r.Keep])) [⟨5001,93,2,r.Keys.length,rows Qv1.enc r.Keys⟩,⟨5002,31,4,r.Want.length,rows Qv2.enc r.Want⟩,⟨5003,31,4,r.Told.length,rows Qv2.enc r.Told⟩,⟨5004,96,5,r.Heard.length,rows Qv4.enc r.Heard⟩]:=by
  refine Qt tOk (fn:=Tryz.f104) (c:=Qj Tryz.f104) rfl rfl ?_;unfold QaU at h;(conv=>whnf);obtain ⟨x1,hx1,h⟩:=Qa h;refine Qse 1000 (Z4 hx1) rfl Qou rfl ?_;(conv=>whnf);refine Qe tOk ?_;(conv=>whnf);obtain ⟨x2,hx2,h⟩:=Qa h;refine cC 0 (QaT hx2) ?_;clear hx2;(conv=>whnf);refine Qu h (fun _ h=>?_) (fun _ h=>?_)
  · (conv=>whnf);obtain rfl:=sj_ h;exact lfP [.k [11,6001,6002,6003,6004],.p 5001 93 2 (rows Qv1.enc ([]:List Qv1)),.p 5002 31 4 (rows Qv2.enc ([]:List Qv2)),.p 5003 31 4 (rows Qv2.enc ([]:List Qv2)),.p 5004 96 5 (rows Qv4.enc ([]:List Qv4))]
  · (conv=>whnf);obtain rfl:=sj_ h;exact lfP [.s [(5001,6001),(5002,6002),(5003,6003),(5004,6004),(6001,5001),(6002,5002),(6003,5003),(6004,5004)]]
noncomputable def Jv (a0:Qv6):Option (Bool) :=
 bd (ZP a0.End) fun x1 =>
(if (!x1)=true then
 some false
else
 some (a0.Up || ((((((((((a0.End.Turn == 0) && (a0.End.PeerBoot == 0)) && (!a0.End.Up)) && (a0.End.Num == 0)) && (a0.End.Under.Kind == 0)) && (((a0.End.Told.length:Nat):Int) == 0)) && (!a0.End.All)) && (a0.End.Got == 0)) && (!a0.End.Full)) && (((a0.End.Heard.length:Nat):Int) == 0))))
theorem Qfk {a0:Qv6} {r:Bool} (h:Jv a0=some r):PureC Tryz.prog 45 [.agg (dB a0.Up :: heC a0.End (.d (slD Qv4.enc a0.End.Heard)))] (dB r) []:=by
  refine Qt tOk (fn:=Tryz.f45) (c:=Qj Tryz.f45) rfl rfl ?_;unfold Jv at h;(conv=>whnf);refine Qe tOk ?_;(conv=>whnf);obtain ⟨x1,hx1,h⟩:=Qa h;refine cC 0 (QaT hx1) ?_;clear hx1;(conv=>whnf);refine Qu h (fun _ h=>?_) (fun _ h=>?_)
  · (conv=>whnf);obtain rfl:=sj_ h;exact lfP []
  · (conv=>whnf);obtain rfl:=sj_ h;exact lfP []
noncomputable def Jl (a0:Qv7):Option (Bool) :=
 bd (QA a0.From 0 65535) fun x1 =>
 bd (gcall ((!x1)=false) (QA a0.To 0 65535)) fun x2 =>
 bd (gcall (((!x1) || (!x2))=false) (QA a0.Key 1 9)) fun x3 =>
 bd (gcall ((((!x1) || (!x2)) || (!x3))=false) (QA a0.Boot 1 999)) fun x4 =>
 bd (gcall (((((!x1) || (!x2)) || (!x3)) || (!x4))=false) (QA a0.Yours 0 999)) fun x5 =>
(if (((((!x1) || (!x2)) || (!x3)) || (!x4)) || (!x5))=true then
 some false
else
 bd (QA a0.Turn 1 1000000) fun x6 =>
 bd (gcall ((!x6)=false) (QA a0.Num 0 a0.Turn)) fun x7 =>
 bd (gcall (((!x6) || (!x7))=false) (QA a0.Heard 0 1000000)) fun x8 =>
 bd (gcall ((((!x6) || (!x7)) || (!x8))=false) (QA a0.Sum 0 2147483646)) fun x9 =>
(if ((((!x6) || (!x7)) || (!x8)) || (!x9))=true then
 some false
else
 bd (JZ a0.Change) fun x10 =>
 some (x10 && ((a0.Change.Kind == 0) || (decide (a0.Num > 0))))))
theorem QcB {a0:Qv7} {r:Bool} (h:Jl a0=some r):PureC Tryz.prog 46 [.agg (hwC a0)] (dB r) []:=by
  refine Qt tOk (fn:=Tryz.f46) (c:=Qj Tryz.f46) rfl rfl ?_;unfold Jl at h;(conv=>whnf);refine Qe tOk ?_;(conv=>whnf);obtain ⟨x1,hx1,h⟩:=Qa h;refine cC 0 (QJ hx1) ?_;clear hx1;(conv=>whnf);obtain ⟨x2,hx2,h⟩:=Qa h;refine cG (fun c0=>QJ (Qf hx2 c0)) ?_;(conv=>whnf);obtain ⟨x3,hx3,h⟩:=Qa h;refine cG (fun c0=>QJ (Qf hx3 c0)) ?_;(conv=>whnf);obtain ⟨x4,hx4,h⟩:=Qa h;refine cG (fun c0=>QJ (Qf hx4 c0)) ?_;(conv=>whnf);obtain ⟨x5,hx5,h⟩:=Qa h;refine cG (fun c0=>QJ (Qf hx5 c0)) ?_;(conv=>whnf);refine Qu h (fun _ h=>?_) (fun _ h=>?_)
  · (conv=>whnf);obtain rfl:=sj_ h;exact lfP []
  · (conv=>whnf);refine Qe tOk ?_;(conv=>whnf);obtain ⟨x6,hx6,h⟩:=Qa h;refine cC 0 (QJ hx6) ?_;clear hx6;(conv=>whnf);obtain ⟨x7,hx7,h⟩:=Qa h;refine cG (fun c0=>QJ (Qf hx7 c0)) ?_;(conv=>whnf);obtain ⟨x8,hx8,h⟩:=Qa h;refine cG (fun c0=>QJ (Qf hx8 c0)) ?_;(conv=>whnf);obtain ⟨x9,hx9,h⟩:=Qa h;refine cG (fun c0=>QJ (Qf hx9 c0)) ?_;(conv=>whnf);refine Qu h (fun _ h=>?_) (fun _ h=>?_)
    · (conv=>whnf);obtain rfl:=sj_ h;exact lfP []
    · (conv=>whnf);obtain ⟨x10,hx10,h⟩:=Qa h;refine cC 0 (Qd9 hx10) ?_;clear hx10;(conv=>whnf);obtain rfl:=sj_ h;exact lfP []
noncomputable def QN (a0:Qv8):Option (Bool) :=
 gd ((((a0.Sides.length:Nat):Int) != 2)=false→((0:Int)≤0∧0<((a0.Sides.length:Nat):Int))) <|
 bd (gcall ((((a0.Sides.length:Nat):Int) != 2)=false) (Jv (⟨(a0.Sides.getD 0 default).Up,{ ((a0.Sides.getD 0 default).End) with Under:=(⟨(((a0.Sides.getD 0 default).End).Under).Kind,((((a0.Sides.getD 0 default).End).Under).Entry)⟩:Qv3) }⟩:Qv6))) fun x2 =>
 gd (((((a0.Sides.length:Nat):Int) != 2) || (!x2))=false→((0:Int)≤1∧1<((a0.Sides.length:Nat):Int))) <|
 bd (gcall (((((a0.Sides.length:Nat):Int) != 2) || (!x2))=false) (Jv (⟨(a0.Sides.getD 1 default).Up,{ ((a0.Sides.getD 1 default).End) with Under:=(⟨(((a0.Sides.getD 1 default).End).Under).Kind,((((a0.Sides.getD 1 default).End).Under).Entry)⟩:Qv3) }⟩:Qv6))) fun x4 =>
 gd ((((((a0.Sides.length:Nat):Int) != 2) || (!x2)) || (!x4))=false→((0:Int)≤0∧0<((a0.Sides.length:Nat):Int))) <|
 gd ((((((a0.Sides.length:Nat):Int) != 2) || (!x2)) || (!x4))=false→((0:Int)≤1∧1<((a0.Sides.length:Nat):Int))) <|
 gd (((((((a0.Sides.length:Nat):Int) != 2) || (!x2)) || (!x4)) || ((((a0.Sides.getD 0 default).End).Name) != (((a0.Sides.getD 1 default).End).Peer)))=false→((0:Int)≤1∧1<((a0.Sides.length:Nat):Int))) <|
 gd (((((((a0.Sides.length:Nat):Int) != 2) || (!x2)) || (!x4)) || ((((a0.Sides.getD 0 default).End).Name) != (((a0.Sides.getD 1 default).End).Peer)))=false→((0:Int)≤0∧0<((a0.Sides.length:Nat):Int))) <|
(if ((((((((a0.Sides.length:Nat):Int) != 2) || (!x2)) || (!x4)) || ((((a0.Sides.getD 0 default).End).Name) != (((a0.Sides.getD 1 default).End).Peer))) || ((((a0.Sides.getD 1 default).End).Name) != (((a0.Sides.getD 0 default).End).Peer))) || (decide (((a0.Radio.length:Nat):Int) > 12)))=true then
 some false
else
 bd (lp (σ:=Int) (β:=(Unit ⊕ Unit)) (fun s9 =>
(if (decide (s9<((a0.Radio.length:Nat):Int)))=true then
 gd ((0:Int)≤s9∧s9<((a0.Radio.length:Nat):Int)) <|
 bd (Jl ({ (a0.Radio.getD s9.toNat default) with Change:=(⟨((a0.Radio.getD s9.toNat default).Change).Kind,(((a0.Radio.getD s9.toNat default).Change).Entry)⟩:Qv3) })) fun x14 =>
(if (!x14)=true then
 some (.inr (.inl ()))
else
 some (.inl (IntKind.i64.wrap (s9+1))))
else
 some (.inr (.inr ())))) 0) fun x12 =>
(match x12 with
| .inl d15 =>
 some false
| .inr d16 =>
 some true))
theorem Qan {a0:Qv8} {r:Bool} (h:QN a0=some r):PureC Tryz.prog 21 [.agg [.d (slD Qv6.enc a0.Sides),.d (slD Qv7.enc a0.Radio)]] (dB r) []:=by
  refine Qt tOk (fn:=Tryz.f21) (c:=Qj Tryz.f21) rfl rfl ?_;unfold QN at h;(conv=>whnf);refine Qe tOk ?_;(conv=>whnf);obtain ⟨g1,h⟩:=Qg h;obtain ⟨x2,hx2,h⟩:=Qa h;obtain ⟨g3,h⟩:=Qg h;obtain ⟨x4,hx4,h⟩:=Qa h;obtain ⟨g5,h⟩:=Qg h;obtain ⟨g6,h⟩:=Qg h;obtain ⟨g7,h⟩:=Qg h;obtain ⟨g8,h⟩:=Qg h;refine QP tOk [.u 9 0 (dB x2) [],.u 17 0 (dB x4) []] 56 [] [0,1,3,7,15,31,63,127,255,511,1023,2047,4095,8191,16383,32767,65535,131071,262143,524287,1048575,2097151,4194303,8388607,16777215,33554431,67108863,2097151,136314879,404750335,941621247,2015363071,4162846719,8589934591,17179869183,34359738367,68719476735,137438953471,274877906943,549755813887,1099511627775,2199023255551,68719476735,4466765987839,13262859010047,30855045054463,66039417143295,136408161320959,281474976710655,562949953421311,1125899906842623,2251799813685247,4503599627370495,9007199254740991,18014398509481983,36028797018963967] [] ?_;(conv=>whnf);refine And.intro g1 ?_;clear g1;(conv=>whnf);refine And.intro (Q1 rfl rfl rfl rfl (by intro c0; exact Qfk (Qf hx2 c0))) ?_;(conv=>whnf);refine And.intro g3 ?_;clear g3;(conv=>whnf);refine And.intro (Q1 rfl rfl rfl rfl (by intro c0; exact Qfk (Qf hx4 c0))) ?_;(conv=>whnf);refine And.intro g5 ?_;clear g5;(conv=>whnf);refine And.intro g6 ?_;clear g6;(conv=>whnf);refine And.intro g7 ?_;clear g7;(conv=>whnf);refine And.intro g8 ?_;clear g8;(conv=>whnf);refine And.intro (by kernel_rfl) ?_;(conv=>whnf);refine Qu h (fun _ h=>?_) (fun _ h=>?_)
  · (conv=>whnf);obtain rfl:=sj_ h;exact lfP []
  · (conv=>whnf);refine Qe tOk ?_;(conv=>whnf);obtain ⟨x12,hx12,h⟩:=Qa h;refine Zh tOk hx12 (fun s9=>⟨0,74,[(1,.ref 1 0 0),(3,dI s9)],[],[(1,.box 26 [.d (slD Qv6.enc a0.Sides),.d (slD Qv7.enc a0.Radio)])],[]⟩) ?_ ?_
    · exact leX []
    · clear hx12;intro s9 y10 g11 hy10;(conv=>whnf);refine Qe tOk ?_;(conv=>whnf);refine Qu g11 (fun _ g11=>?_) (fun _ g11=>?_)
      · (conv=>whnf);refine Qe tOk ?_;(conv=>whnf);refine gdI g11 (fun g11=>?_);(conv=>whnf);obtain ⟨x14,hx14,g11⟩:=Qa g11;refine cC 0 (QcB hx14) ?_;clear hx14;(conv=>whnf);refine Qu g11 (fun _ g11=>?_) (fun _ g11=>?_)
        · (conv=>whnf);obtain rfl:=sj_ g11;obtain rfl:=hy10 _ rfl;obtain rfl:=sj_ h;exact lfP []
        · (conv=>whnf);obtain rfl:=sj_ g11;exact ⟨_,rfl,leX []⟩
      · (conv=>whnf);obtain rfl:=sj_ g11;obtain rfl:=hy10 _ rfl;obtain rfl:=sj_ h;exact lfP []
noncomputable def Qco (a0:Int) (a1:Int) (a2:(List Qv1)) (a3:(List Qv2)) (a4:(List Qv2)):Option (Qv8 × Bool) :=
 bd (QaU a0 a1 a2 1 a3) fun x1 =>
 bd (QaU a1 a0 a2 1 a4) fun x2 =>
 bd (QN (⟨([(⟨true,x1⟩:Qv6),(⟨true,x2⟩:Qv6)]:List Qv6),[]⟩:Qv8)) fun x3 =>
(if (!x3)=true then
 some ((⟨[],[]⟩:Qv8),false)
else
 some ((⟨([(⟨true,x1⟩:Qv6),(⟨true,x2⟩:Qv6)]:List Qv6),[]⟩:Qv8),true))
theorem QiN {a0:Int} {a1:Int} {a2:(List Qv1)} {a3:(List Qv2)} {a4:(List Qv2)} {r:Qv8 × Bool} (h:Qco a0 a1 a2 a3 a4=some r):EffC Tryz.prog 68 [dI a0,dI a1,.d (slD Qv1.enc a2),.d (slD Qv2.enc a3),.d (slD Qv2.enc a4)] [] (.tup [.agg [.osl 5001 0 r.1.Sides.length,.osl 5002 0 r.1.Radio.length],dB r.2]) [(5001,.arr 38 23 r.1.Sides.length (rows Qv6.enc r.1.Sides)),(5002,.arr 42 14 r.1.Radio.length (rows Qv7.enc r.1.Radio))]:=by
  refine QQ tOk (fn:=Tryz.f68) (c:=Qj Tryz.f68) rfl rfl ?_;unfold Qco at h;(conv=>whnf);obtain ⟨x1,hx1,h⟩:=Qa h;refine cC 1000 (Qfw hx1) ?_;clear hx1;(conv=>whnf);obtain ⟨x2,hx2,h⟩:=Qa h;refine cC 2000 (Qfw hx2) ?_;clear hx2;(conv=>whnf);refine QcT (enc:=Qv6.enc) ([(⟨true,x1⟩:Qv6),(⟨true,x2⟩:Qv6)]:List Qv6) ?_;(conv=>whnf);refine Qe tOk ?_;(conv=>whnf);obtain ⟨x3,hx3,h⟩:=Qa h;refine Qse 0 (Qan hx3) rfl Qou rfl ?_;(conv=>whnf);refine Qu h (fun _ h=>?_) (fun _ h=>?_)
  · (conv=>whnf);obtain rfl:=sj_ h;exact lfE [.k [12,25],.p 5001 38 23 (rows Qv6.enc ([]:List Qv6)),.p 5002 42 14 (rows Qv7.enc ([]:List Qv7))]
  · (conv=>whnf);obtain rfl:=sj_ h;exact lfE [.k [12],.s [(25,5001),(5001,25)],.p 5002 42 14 (rows Qv7.enc ([]:List Qv7))]
noncomputable def QbB (a0:Qv0):Option (Qv8 × Qv0) :=
 bd (Qc a0 2) fun x1 =>
 bd (Qbk (⟨a0.b,x1.2.p⟩:Qv0)) fun x2 =>
 bd (Qal (⟨a0.b,x2.2.p⟩:Qv0)) fun x3 =>
 bd (Qal (⟨a0.b,x3.2.p⟩:Qv0)) fun x4 =>
 bd (Qco 1 (IntKind.i64.wrap (2+(IntKind.i64.wrap (x1.1*65533)))) x2.1 x3.1 x4.1) fun x5 =>
 some (x5.1,(⟨a0.b,x4.2.p⟩:Qv0))
theorem Qjm {a0:Qv0} {r:Qv8 × Qv0} (h:QbB a0=some r):EffC Tryz.prog 34 [.ref 9000 0 0] [(9000,.box 75 [.d (slD Qq a0.b),dI a0.p])] (.agg [.osl 5001 0 r.1.Sides.length,.osl 5002 0 r.1.Radio.length]) [(9000,.box 75 [.d (slD Qq a0.b),dI r.2.p]),(5001,.arr 38 23 r.1.Sides.length (rows Qv6.enc r.1.Sides)),(5002,.arr 42 14 r.1.Radio.length (rows Qv7.enc r.1.Radio))]:=by
  refine QQ tOk (fn:=Tryz.f34) (c:=Qj Tryz.f34) rfl rfl ?_;unfold QbB at h;(conv=>whnf);obtain ⟨x1,hx1,h⟩:=Qa h;refine cE [(9000,9000)] 0 (Qd hx1) ?_;(conv=>whnf);obtain ⟨x2,hx2,h⟩:=Qa h;refine cE [(9000,9000)] 1000 (Qgw hx2) ?_;(conv=>whnf);obtain ⟨x3,hx3,h⟩:=Qa h;refine cE [(9000,9000)] 2000 (QdM hx3) ?_;(conv=>whnf);obtain ⟨x4,hx4,h⟩:=Qa h;refine cE [(9000,9000)] 3000 (QdM hx4) ?_;(conv=>whnf);obtain ⟨x5,hx5,h⟩:=Qa h;refine QcU [6001,7001,8001] ?_;(conv=>whnf);refine cE [] 1000 (QiN hx5) ?_;(conv=>whnf);obtain rfl:=sj_ h;exact lfE [.s [(5001,6001),(5002,6002),(6001,5001),(6002,5002)]]
noncomputable def Zf (a0:Qv5):Option (Qv5) :=
 bd (ZL a0.Keys) fun x1 =>
 bd (QT a0.Want) fun x2 =>
 bd (QT a0.Told) fun x3 =>
 bd (Q6 a0.Heard) fun x4 =>
 some ({ a0 with Keys:=x1,Want:=x2,Told:=x3,Heard:=x4 })
theorem Qaz {a0:Qv5} {r:Qv5} (h:Zf a0=some r):EffC Tryz.prog 75 [.agg (heC a0 (.d (slD Qv4.enc a0.Heard)))] [] (.agg (heC r (.d (slD Qv4.enc r.Heard)))) []:=by
  refine QQ tOk (fn:=Tryz.f75) (c:=Qj Tryz.f75) rfl rfl ?_;unfold Zf at h;(conv=>whnf);obtain ⟨x1,hx1,h⟩:=Qa h;refine cC 1000 (Qca hx1) ?_;clear hx1;(conv=>whnf);obtain ⟨x2,hx2,h⟩:=Qa h;refine cC 2000 (Zl hx2) ?_;clear hx2;(conv=>whnf);obtain ⟨x3,hx3,h⟩:=Qa h;refine cC 3000 (Zl hx3) ?_;clear hx3;(conv=>whnf);obtain ⟨x4,hx4,h⟩:=Qa h;refine cC 4000 (Ju hx4) ?_;clear hx4;(conv=>whnf);obtain rfl:=sj_ h;exact lfE [.f [6001,7001,8001,9001]]
noncomputable def JJ (a0:Qv8):Option (Qv8) :=
 gd (((0)+(a0.Radio.length))*(112+1)≤70368744177664) <|
 bd (lp (σ:=List Qv6 × Int) (β:=((List Qv6) × Nat)) (fun s1 =>
(if (decide (s1.2<((a0.Sides.length:Nat):Int)))=true then
 gd ((0:Int)≤s1.2∧s1.2<((a0.Sides.length:Nat):Int)) <|
 gd ((0:Int)≤s1.2∧s1.2<((a0.Sides.length:Nat):Int)) <|
 bd (Zf ({ ((a0.Sides.getD s1.2.toNat default).End) with Under:=(⟨(((a0.Sides.getD s1.2.toNat default).End).Under).Kind,((((a0.Sides.getD s1.2.toNat default).End).Under).Entry)⟩:Qv3) })) fun x7 =>
 gd (((s1.1.length)+(([(⟨(a0.Sides.getD s1.2.toNat default).Up,x7⟩:Qv6)]:List Qv6).length))*(248+1)≤70368744177664) <|
 some (.inl ((s1.1 ++ ([(⟨(a0.Sides.getD s1.2.toNat default).Up,x7⟩:Qv6)]:List Qv6)),IntKind.i64.wrap (s1.2+1)))
else
 some (.inr (s1.1,s1.1.length)))) (([]:List Qv6),0)) fun x4 =>
 some (⟨x4.1,a0.Radio⟩:Qv8)
theorem Qc2 {a0:Qv8} {r:Qv8} (h:JJ a0=some r):EffC Tryz.prog 38 [.agg [.d (slD Qv6.enc a0.Sides),.d (slD Qv7.enc a0.Radio)]] [] (.agg [.osl 5001 0 r.Sides.length,.osl 5002 0 r.Radio.length]) [(5001,.arr 38 23 r.Sides.length (rows Qv6.enc r.Sides)),(5002,.arr 42 14 r.Radio.length (rows Qv7.enc r.Radio))]:=by
  refine QQ tOk (fn:=Tryz.f38) (c:=Qj Tryz.f38) rfl rfl ?_;unfold JJ at h;(conv=>whnf);refine gdI h (fun h=>?_);refine QtK (enc:=Qv7.enc) (ys:=a0.Radio) ?_;(conv=>whnf);refine Qe tOk ?_;(conv=>whnf);obtain ⟨x4,hx4,h⟩:=Qa h;refine Zh tOk hx4 (fun s1=>⟨0,38,[(1,.ref 1 0 0),(2,.ref 2 0 0),(3,.ref 3 0 0),(4,dI s1.2)],[],[(7001,.arr 38 23 s1.1.length (rows Qv6.enc s1.1)),(3,.box 26 [.osl 7001 0 s1.1.length,.osl 9 0 a0.Radio.length]),(9,.arr 42 14 a0.Radio.length (rows Qv7.enc a0.Radio)),(2,.box 26 [.d (.nil),.d (.nil)]),(1,.box 26 [.d (slD Qv6.enc a0.Sides),.d (slD Qv7.enc a0.Radio)])],[⟨[],[]⟩]⟩) ?_ ?_
  · exact leX [.p 7001 38 23 (rows Qv6.enc ([]:List Qv6))]
  · clear hx4;intro s1 y2 g3 hy2;(conv=>whnf);refine Qe tOk ?_;(conv=>whnf);refine Qu g3 (fun _ g3=>?_) (fun _ g3=>?_)
    · (conv=>whnf);refine Qe tOk ?_;(conv=>whnf);obtain ⟨g5,g3⟩:=Qg g3;obtain ⟨g6,g3⟩:=Qg g3;obtain ⟨x7,hx7,g3⟩:=Qa g3;refine JA tOk [.e 14 [] (.agg (heC x7 (.d (slD Qv4.enc x7.Heard)))) [] []] 17 [] [0,1,0,4,0,28,60,124,0,256,0,1792,3840,7936,16128,32764,65532] [131071,262143,524287] [] ?_;(conv=>whnf);refine And.intro g5 ?_;clear g5;(conv=>whnf);refine And.intro g6 ?_;clear g6;(conv=>whnf);refine And.intro (eD [] 0 (Qaz hx7)) ?_;(conv=>whnf);refine QcT (enc:=Qv6.enc) ([(⟨(a0.Sides.getD s1.2.toNat default).Up,x7⟩:Qv6)]:List Qv6) ?_;(conv=>whnf);refine And.intro (by kernel_rfl) ?_;(conv=>whnf);refine gdI g3 (fun g3=>?_);refine Qh0 (enc:=Qv6.enc) (xs:=s1.1) (ys:=([(⟨(a0.Sides.getD s1.2.toNat default).Up,x7⟩:Qv6)]:List Qv6)) ?_;(conv=>whnf);obtain rfl:=sj_ g3;exact ⟨_,rfl,leX []⟩
    · (conv=>whnf);obtain rfl:=sj_ g3;obtain rfl:=hy2 _ rfl;obtain rfl:=sj_ h;exact lfE [.s [(9,5002),(5001,7001),(5002,9),(7001,5001)]]
noncomputable def QaA (a0:Int) (a1:Int):Option (Int) :=
 gd ((2147483647:Int) ≠ 0) <|
(if (decide (((a1:Int).tmod 2147483647)<0))=true then
 gd ((2147483647:Int) ≠ 0) <|
 some ((IntKind.i64.wrap ((IntKind.i64.wrap ((IntKind.i64.wrap (a0*48271))+(IntKind.i64.wrap (((a1:Int).tmod 2147483647)+2147483647))))+1):Int).tmod 2147483647)
else
 gd ((2147483647:Int) ≠ 0) <|
 some ((IntKind.i64.wrap ((IntKind.i64.wrap ((IntKind.i64.wrap (a0*48271))+((a1:Int).tmod 2147483647)))+1):Int).tmod 2147483647))
theorem QeR {a0:Int} {a1:Int} {r:Int} (h:QaA a0 a1=some r):PureC Tryz.prog 144 [dI a0,dI a1] (dI r) []:=by
  refine Qt tOk (fn:=Tryz.f144) (c:=Qj Tryz.f144) rfl rfl ?_;unfold QaA at h;(conv=>whnf);refine gdI h (fun h=>?_);(conv=>whnf);refine Qe tOk ?_;(conv=>whnf);refine Qu h (fun _ h=>?_) (fun _ h=>?_)
  · (conv=>whnf);refine gdI h (fun h=>?_);(conv=>whnf);obtain rfl:=sj_ h;exact lfP []
  · (conv=>whnf);refine gdI h (fun h=>?_);(conv=>whnf);obtain rfl:=sj_ h;exact lfP []
noncomputable def JN (a0:Int) (a1:Qv7):Option (Int) :=
 bd (QaA 0 a0) fun x1 =>
 bd (lp (σ:=Int × Int) (β:=(Int)) (fun s2 =>
(if (decide (s2.2<((([a1.From,a1.To,a1.Key,a1.Boot,a1.Yours,a1.Turn,a1.Num,a1.Heard,a1.Change.Kind,a1.Change.Entry.Addr,a1.Change.Entry.Len,a1.Change.Entry.Cost,a1.Change.Entry.Label]:List Int).length:Nat):Int)))=true then
 gd ((0:Int)≤s2.2∧s2.2<((([a1.From,a1.To,a1.Key,a1.Boot,a1.Yours,a1.Turn,a1.Num,a1.Heard,a1.Change.Kind,a1.Change.Entry.Addr,a1.Change.Entry.Len,a1.Change.Entry.Cost,a1.Change.Entry.Label]:List Int).length:Nat):Int)) <|
 bd (QaA s2.1 (([a1.From,a1.To,a1.Key,a1.Boot,a1.Yours,a1.Turn,a1.Num,a1.Heard,a1.Change.Kind,a1.Change.Entry.Addr,a1.Change.Entry.Len,a1.Change.Entry.Cost,a1.Change.Entry.Label]:List Int).getD s2.2.toNat default)) fun x7 =>
 some (.inl (x7,IntKind.i64.wrap (s2.2+1)))
else
 some (.inr s2.1))) (x1,0)) fun x5 =>
 bd (QaA x5 a0) fun x9 =>
 some x9
theorem QcC {a0:Int} {a1:Qv7} {r:Int} (h:JN a0 a1=some r):PureC Tryz.prog 107 [dI a0,.agg (hwC a1)] (dI r) []:=by
  refine Qt tOk (fn:=Tryz.f107) (c:=Qj Tryz.f107) rfl rfl ?_;unfold JN at h;(conv=>whnf);obtain ⟨x1,hx1,h⟩:=Qa h;refine cC 0 (QeR hx1) ?_;clear hx1;(conv=>whnf);refine QcT (enc:=Jz) ([a1.From,a1.To,a1.Key,a1.Boot,a1.Yours,a1.Turn,a1.Num,a1.Heard,a1.Change.Kind,a1.Change.Entry.Addr,a1.Change.Entry.Len,a1.Change.Entry.Cost,a1.Change.Entry.Label]:List Int) ?_;(conv=>whnf);refine Qe tOk ?_;(conv=>whnf);obtain ⟨x5,hx5,h⟩:=Qa h;refine Zh tOk hx5 (fun s2=>⟨0,61,[(0,dI a0),(5,dI s2.1),(6,.osl 45 0 (([a1.From,a1.To,a1.Key,a1.Boot,a1.Yours,a1.Turn,a1.Num,a1.Heard,a1.Change.Kind,a1.Change.Entry.Addr,a1.Change.Entry.Len,a1.Change.Entry.Cost,a1.Change.Entry.Label]:List Int).length)),(7,dI s2.2)],[],[(45,.arr 3 1 (([a1.From,a1.To,a1.Key,a1.Boot,a1.Yours,a1.Turn,a1.Num,a1.Heard,a1.Change.Kind,a1.Change.Entry.Addr,a1.Change.Entry.Len,a1.Change.Entry.Cost,a1.Change.Entry.Label]:List Int).length) (rows Jz ([a1.From,a1.To,a1.Key,a1.Boot,a1.Yours,a1.Turn,a1.Num,a1.Heard,a1.Change.Kind,a1.Change.Entry.Addr,a1.Change.Entry.Len,a1.Change.Entry.Cost,a1.Change.Entry.Label]:List Int)))],[]⟩) ?_ ?_
  · exact leX []
  · clear hx5;intro s2 y3 g4 hy3;(conv=>whnf);refine Qe tOk ?_;(conv=>whnf);refine Qu g4 (fun _ g4=>?_) (fun _ g4=>?_)
    · (conv=>whnf);refine Qe tOk ?_;(conv=>whnf);refine gdI g4 (fun g4=>?_);(conv=>whnf);obtain ⟨x7,hx7,g4⟩:=Qa g4;refine cC 0 (QeR hx7) ?_;clear hx7;(conv=>whnf);obtain rfl:=sj_ g4;exact ⟨_,rfl,leX []⟩
    · (conv=>whnf);obtain rfl:=sj_ g4;obtain rfl:=hy3 _ rfl;obtain ⟨x9,hx9,h⟩:=Qa h;refine cC 0 (QeR hx9) ?_;clear hx9;(conv=>whnf);obtain rfl:=sj_ h;exact lfP []
noncomputable def ZQ (a0:(List Qv1)) (a1:Qv7):Option (Bool) :=
 bd (Z2 a0) fun x1 =>
 bd (gcall ((!x1)=false) (Jl a1)) fun x2 =>
(if ((!x1) || (!x2))=true then
 some false
else
 bd (lp (σ:=Int) (β:=(Bool ⊕ Unit)) (fun s3 =>
(if (decide (s3<((a0.length:Nat):Int)))=true then
 gd ((0:Int)≤s3∧s3<((a0.length:Nat):Int)) <|
(if (((a0.getD s3.toNat default).Id) == a1.Key)=true then
 gd ((0:Int)≤s3∧s3<((a0.length:Nat):Int)) <|
 bd (JN ((a0.getD s3.toNat default).Secret) a1) fun x9 =>
 some (.inr (.inl (x9 == a1.Sum)))
else
 some (.inl (IntKind.i64.wrap (s3+1))))
else
 some (.inr (.inr ())))) 0) fun x6 =>
(match x6 with
| .inl d10 =>
 some d10
| .inr d11 =>
 some false))
theorem QaV {a0:(List Qv1)} {a1:Qv7} {r:Bool} (h:ZQ a0 a1=some r):PureC Tryz.prog 114 [.d (slD Qv1.enc a0),.agg (hwC a1)] (dB r) []:=by
  refine Qt tOk (fn:=Tryz.f114) (c:=Qj Tryz.f114) rfl rfl ?_;unfold ZQ at h;(conv=>whnf);refine Qe tOk ?_;(conv=>whnf);obtain ⟨x1,hx1,h⟩:=Qa h;refine cC 0 (Qbs hx1) ?_;clear hx1;(conv=>whnf);obtain ⟨x2,hx2,h⟩:=Qa h;refine cG (fun c0=>QcB (Qf hx2 c0)) ?_;(conv=>whnf);refine Qu h (fun _ h=>?_) (fun _ h=>?_)
  · (conv=>whnf);obtain rfl:=sj_ h;exact lfP []
  · (conv=>whnf);refine Qe tOk ?_;(conv=>whnf);obtain ⟨x6,hx6,h⟩:=Qa h;refine Zh tOk hx6 (fun s3=>⟨0,38,[(0,.d (slD Qv1.enc a0)),(3,.ref 3 0 0),(5,dI s3)],[],[(3,.box 42 (hwC a1))],[]⟩) ?_ ?_
    · exact leX []
    · clear hx6;intro s3 y4 g5 hy4;(conv=>whnf);refine Qe tOk ?_;(conv=>whnf);refine Qu g5 (fun _ g5=>?_) (fun _ g5=>?_)
      · (conv=>whnf);refine Qe tOk ?_;(conv=>whnf);obtain ⟨g7,g5⟩:=Qg g5;refine QP tOk [] 8 [] [0,0,3,7,15,0,32,127] [] ?_;(conv=>whnf);refine And.intro g7 ?_;clear g7;(conv=>whnf);refine And.intro (by kernel_rfl) ?_;(conv=>whnf);refine Qu g5 (fun _ g5=>?_) (fun _ g5=>?_)
        · (conv=>whnf);obtain ⟨g8,g5⟩:=Qg g5;obtain ⟨x9,hx9,g5⟩:=Qa g5;refine QP tOk [.u 6 0 (dI x9) []] 11 [] [0,0,3,7,15,0,63,0,128,511,1023] [] ?_;(conv=>whnf);refine And.intro g8 ?_;clear g8;(conv=>whnf);refine And.intro (QM (QcC hx9) (by kernel_rfl)) ?_;(conv=>whnf);refine And.intro (by kernel_rfl) ?_;(conv=>whnf);obtain rfl:=sj_ g5;obtain rfl:=hy4 _ rfl;obtain rfl:=sj_ h;exact lfP []
        · (conv=>whnf);obtain rfl:=sj_ g5;exact ⟨_,rfl,leX []⟩
      · (conv=>whnf);obtain rfl:=sj_ g5;obtain rfl:=hy4 _ rfl;obtain rfl:=sj_ h;exact lfP []
noncomputable def QbC (a0:Qv5):Option (Qv5) :=
 bd (lp (σ:=List Qv4 × Int) (β:=(Nat × (List Qv4))) (fun s1 =>
(if (decide (s1.2<((s1.1.length:Nat):Int)))=true then
 gd ((0:Int)≤s1.2∧s1.2<((s1.1.length:Nat):Int)) <|
 some (.inl (s1.1.set s1.2.toNat (⟨((s1.1.getD s1.2.toNat default).Entry),true⟩:Qv4),IntKind.i64.wrap (s1.2+1)))
else
 some (.inr (s1.1.length,s1.1)))) (a0.Heard,0)) fun x4 =>
(if ((decide (((x4.1:Nat):Int) > 0)) && (a0.Keep == 0))=true then
 some ({ a0 with Heard:=x4.2,Keep:=6 })
else
 some ({ a0 with Heard:=x4.2 }))
theorem Qjn {a0:Qv5} {r:Qv5} (h:QbC a0=some r):EffC Tryz.prog 161 [.agg (heC a0 (.osl 9000 0 a0.Heard.length))] [(9000,.arr 96 5 a0.Heard.length (rows Qv4.enc a0.Heard))] (.agg (heC r (.osl 5001 0 r.Heard.length))) [(5001,.arr 96 5 r.Heard.length (rows Qv4.enc r.Heard))]:=by
  refine QQ tOk (fn:=Tryz.f161) (c:=Qj Tryz.f161) rfl rfl ?_;unfold QbC at h;(conv=>whnf);refine Qe tOk ?_;(conv=>whnf);obtain ⟨x4,hx4,h⟩:=Qa h;refine Zh tOk hx4 (fun s1=>⟨0,27,[(1,.ref 1 0 0),(2,.ref 2 0 0),(3,dI s1.2)],[],[(2,.box 36 [dI 0,dI 0,.d (.nil),dI 0,.d (.nil),dI 0,dI 0,dI 0,dB false,dI 0,dI 0,dI 0,dI 0,dI 0,dI 0,dI 0,.d (.nil),dB false,dI 0,dB false,.d (.nil),dI 0]),(1,.box 36 (heC a0 (.osl 9000 0 s1.1.length))),(9000,.arr 96 5 s1.1.length (rows Qv4.enc s1.1))],[⟨[],[]⟩]⟩) ?_ ?_
  · exact leX []
  · clear hx4;intro s1 y2 g3 hy2;(conv=>whnf);refine Qe tOk ?_;(conv=>whnf);refine Qu g3 (fun _ g3=>?_) (fun _ g3=>?_)
    · (conv=>whnf);refine Qe tOk ?_;(conv=>whnf);refine gdI g3 (fun g3=>?_);(conv=>whnf);refine ⟨rows Qv4.enc (s1.1.set s1.2.toNat (⟨((s1.1.getD s1.2.toNat default).Entry),true⟩:Qv4)),Zd Qjk rfl,?_⟩;(conv=>whnf);obtain rfl:=sj_ g3;exact ⟨_,rfl,leX []⟩
    · (conv=>whnf);obtain rfl:=sj_ g3;obtain rfl:=hy2 _ rfl;refine Qe tOk ?_;(conv=>whnf);refine Qu h (fun _ h=>?_) (fun _ h=>?_)
      · (conv=>whnf);obtain rfl:=sj_ h;exact lfE [.s [(5001,9000),(9000,5001)]]
      · (conv=>whnf);obtain rfl:=sj_ h;exact lfE [.s [(5001,9000),(9000,5001)]]
noncomputable def QaG (a0:Qv5):Option (Qv5) :=
 bd (QbC ({ a0 with Up:=false,Num:=0,Under:=(⟨0,(⟨0,0,0,0⟩:Qv2)⟩:Qv3),Told:=[],All:=false,Got:=0,Full:=false })) fun x1 =>
 some x1
theorem Qem {a0:Qv5} {r:Qv5} (h:QaG a0=some r):EffC Tryz.prog 147 [.agg (heC a0 (.osl 9000 0 a0.Heard.length))] [(9000,.arr 96 5 a0.Heard.length (rows Qv4.enc a0.Heard))] (.agg (heC r (.osl 5001 0 r.Heard.length))) [(5001,.arr 96 5 r.Heard.length (rows Qv4.enc r.Heard))]:=by
  refine QQ tOk (fn:=Tryz.f147) (c:=Qj Tryz.f147) rfl rfl ?_;unfold QaG at h;(conv=>whnf);obtain ⟨x1,hx1,h⟩:=Qa h;refine cE [(9000,9000)] 1000 (Qjn hx1) ?_;(conv=>whnf);obtain rfl:=sj_ h;exact lfE [.s [(5001,6001),(6001,5001)]]
noncomputable def J0 (a0:Qv5):Option (Qv5) :=
 bd (QbA a0.Told a0.Under) fun x1 =>
(if (a0.Under.Kind == 3)=true then
 some ({ a0 with Under:=(⟨0,(⟨0,0,0,0⟩:Qv2)⟩:Qv3),Told:=x1,All:=true })
else
 some ({ a0 with Under:=(⟨0,(⟨0,0,0,0⟩:Qv2)⟩:Qv3),Told:=x1 }))
theorem Qhj {a0:Qv5} {r:Qv5} (h:J0 a0=some r):EffC Tryz.prog 162 [.agg (heC a0 (.d (slD Qv4.enc a0.Heard)))] [] (.agg (dI r.Name :: dI r.Peer :: .d (slD Qv1.enc r.Keys) :: dI r.Boot :: .d (slD Qv2.enc r.Want) :: dI r.Turn :: dI r.PeerBoot :: dI r.PeerTurn :: dB r.Up :: dI r.Left :: dI r.Num :: dI r.Under.Kind :: hnC r.Under.Entry ++ [.osl 5001 0 r.Told.length,dB r.All,dI r.Got,dB r.Full,.d (slD Qv4.enc r.Heard),dI r.Keep])) [(5001,.arr 31 4 r.Told.length (rows Qv2.enc r.Told))]:=by
  refine QQ tOk (fn:=Tryz.f162) (c:=Qj Tryz.f162) rfl rfl ?_;unfold J0 at h;(conv=>whnf);obtain ⟨x1,hx1,h⟩:=Qa h;refine cC 1000 (Qjl hx1) ?_;clear hx1;(conv=>whnf);refine Qe tOk ?_;(conv=>whnf);refine Qu h (fun _ h=>?_) (fun _ h=>?_)
  · (conv=>whnf);obtain rfl:=sj_ h;exact lfE [.s [(5001,6001),(6001,5001)]]
  · (conv=>whnf);obtain rfl:=sj_ h;exact lfE [.s [(5001,6001),(6001,5001)]]
noncomputable def Qao (a0:(List Qv4)) (a1:Qv2):Option (Int) :=
 bd (lp (σ:=Int) (β:=(Int)) (fun s1 =>
 gd ((decide (s1<((a0.length:Nat):Int)))=true→((0:Int)≤s1∧s1<((a0.length:Nat):Int))) <|
 bd (gcall ((decide (s1<((a0.length:Nat):Int)))=true) (ZK ((a0.getD s1.toNat default).Entry) a1)) fun x6 =>
(if ((decide (s1<((a0.length:Nat):Int))) && x6)=true then
 some (.inl (IntKind.i64.wrap (s1+1)))
else
 some (.inr s1))) 0) fun x4 =>
 some x4
theorem QdN {a0:(List Qv4)} {a1:Qv2} {r:Int} (h:Qao a0 a1=some r):PureC Tryz.prog 172 [.d (slD Qv4.enc a0),.agg (hnC a1)] (dI r) []:=by
  refine Qt tOk (fn:=Tryz.f172) (c:=Qj Tryz.f172) rfl rfl ?_;unfold Qao at h;(conv=>whnf);refine Qe tOk ?_;(conv=>whnf);obtain ⟨x4,hx4,h⟩:=Qa h;refine Zh tOk hx4 (fun s1=>⟨0,22,[(0,.d (slD Qv4.enc a0)),(3,.ref 3 0 0),(5,dI s1)],[],[(3,.box 31 (hnC a1))],[]⟩) ?_ ?_
  · exact leX []
  · clear hx4;intro s1 y2 g3 hy2;(conv=>whnf);refine Qe tOk ?_;(conv=>whnf);obtain ⟨g5,g3⟩:=Qg g3;obtain ⟨x6,hx6,g3⟩:=Qa g3;refine QP tOk [.u 11 0 (dB x6) []] 13 [] [0,0,2,7,15,31,31,127,255,511,31,2047,4095] [] ?_;(conv=>whnf);refine And.intro g5 ?_;clear g5;(conv=>whnf);refine And.intro (Q1 rfl rfl rfl rfl (by intro c0; exact Qc1 (Qf hx6 c0))) ?_;(conv=>whnf);refine And.intro (by kernel_rfl) ?_;(conv=>whnf);refine Qu g3 (fun _ g3=>?_) (fun _ g3=>?_)
    · (conv=>whnf);obtain rfl:=sj_ g3;exact ⟨_,rfl,leX []⟩
    · (conv=>whnf);obtain rfl:=sj_ g3;obtain rfl:=hy2 _ rfl;obtain rfl:=sj_ h;exact lfP []
noncomputable def ZV (a0:(List Qv4)):Option (Int) :=
 bd (lp (σ:=Int) (β:=(Int ⊕ Unit)) (fun s1 =>
(if (decide (s1<((a0.length:Nat):Int)))=true then
 gd ((0:Int)≤s1∧s1<((a0.length:Nat):Int)) <|
(if (a0.getD s1.toNat default).Stale=true then
 some (.inr (.inl s1))
else
 some (.inl (IntKind.i64.wrap (s1+1))))
else
 some (.inr (.inr ())))) 0) fun x4 =>
(match x4 with
| .inl d6 =>
 some d6
| .inr d7 =>
 some (-1))
theorem Qb5 {a0:(List Qv4)} {r:Int} (h:ZV a0=some r):PureC Tryz.prog 174 [.d (slD Qv4.enc a0)] (dI r) []:=by
  refine Qt tOk (fn:=Tryz.f174) (c:=Qj Tryz.f174) rfl rfl ?_;unfold ZV at h;(conv=>whnf);refine Qe tOk ?_;(conv=>whnf);obtain ⟨x4,hx4,h⟩:=Qa h;refine Zh tOk hx4 (fun s1=>⟨0,16,[(0,.d (slD Qv4.enc a0)),(3,dI s1)],[],[],[]⟩) ?_ ?_
  · exact leX []
  · clear hx4;intro s1 y2 g3 hy2;(conv=>whnf);refine Qe tOk ?_;(conv=>whnf);refine Qu g3 (fun _ g3=>?_) (fun _ g3=>?_)
    · (conv=>whnf);refine Qe tOk ?_;(conv=>whnf);refine gdI g3 (fun g3=>?_);(conv=>whnf);refine Qu g3 (fun _ g3=>?_) (fun _ g3=>?_)
      · (conv=>whnf);obtain rfl:=sj_ g3;obtain rfl:=hy2 _ rfl;obtain rfl:=sj_ h;exact lfP []
      · (conv=>whnf);obtain rfl:=sj_ g3;exact ⟨_,rfl,leX []⟩
    · (conv=>whnf);obtain rfl:=sj_ g3;obtain rfl:=hy2 _ rfl;obtain rfl:=sj_ h;exact lfP []
noncomputable def QaW (a0:(List Qv4)) (a1:Int):Option ((List Qv4)) :=
 gd ((0:Int)≤(0:Int)∧(0:Int)≤a1∧a1≤((a0.length:Nat):Int)) <|
 bd (Q6 (a0.take a1.toNat)) fun x2 =>
 gd ((0:Int)≤IntKind.i64.wrap (a1+1)∧IntKind.i64.wrap (a1+1)≤((a0.length:Nat):Int)∧((a0.length:Nat):Int)≤((a0.length:Nat):Int)) <|
 gd (((x2.length)+((Qc8 ((a0.length:Nat):Int) (IntKind.i64.wrap (a1+1)))))*(40+1)≤70368744177664) <|
 some (x2 ++ (((a0).take ((IntKind.i64.wrap (a1+1)).toNat+(Qc8 ((a0.length:Nat):Int) (IntKind.i64.wrap (a1+1))))).drop ((IntKind.i64.wrap (a1+1)).toNat)))
theorem Qh2 {a0:(List Qv4)} {a1:Int} {r:(List Qv4)} (h:QaW a0 a1=some r):PureC Tryz.prog 173 [.d (slD Qv4.enc a0),dI a1] (.osl 5001 0 r.length) [⟨5001,96,5,r.length,rows Qv4.enc r⟩]:=by
  refine Qt tOk (fn:=Tryz.f173) (c:=Qj Tryz.f173) rfl rfl ?_;unfold QaW at h;(conv=>whnf);obtain ⟨g1,h⟩:=Qg h;obtain ⟨x2,hx2,h⟩:=Qa h;obtain ⟨g3,h⟩:=Qg h;refine QP tOk [.u 3 1000 (.osl 5001 0 x2.length) [⟨5001,96,5,x2.length,rows Qv4.enc x2⟩]] 8 [] [0,0,3,7,0,0,32,112] [255,511] ?_;(conv=>whnf);refine And.intro ⟨g1,.inr rfl⟩ ?_;(conv=>whnf);refine And.intro (QnB (Ju hx2) rfl Qou) ?_;(conv=>whnf);refine And.intro ⟨g3,.inr rfl⟩ ?_;(conv=>whnf);refine And.intro (by kernel_rfl) ?_;(conv=>whnf);refine gdI h (fun h=>?_);refine Qh0 (enc:=Qv4.enc) (xs:=x2) (ys:=((a0).take ((IntKind.i64.wrap (a1+1)).toNat+(Qc8 ((a0.length:Nat):Int) (IntKind.i64.wrap (a1+1))))).drop ((IntKind.i64.wrap (a1+1)).toNat)) ?_;(conv=>whnf);obtain rfl:=sj_ h;exact lfP [.s [(5001,6001),(6001,5001)]]
noncomputable def Qbb (a0:(List Qv4)) (a1:Qv2):Option ((List Qv4) × Bool) :=
 bd (Qao a0 a1) fun x1 =>
 gd ((decide (x1<((a0.length:Nat):Int)))=true→((0:Int)≤x1∧x1<((a0.length:Nat):Int))) <|
 gd (((decide (x1<((a0.length:Nat):Int))) && ((((a0.getD x1.toNat default).Entry).Addr) == a1.Addr))=true→((0:Int)≤x1∧x1<((a0.length:Nat):Int))) <|
(if (((decide (x1<((a0.length:Nat):Int))) && ((((a0.getD x1.toNat default).Entry).Addr) == a1.Addr)) && ((((a0.getD x1.toNat default).Entry).Len) == a1.Len))=true then
 bd (Q6 a0) fun x4 =>
 gd ((0:Int)≤x1∧x1<((x4.length:Nat):Int)) <|
 some (x4.set x1.toNat (⟨a1,false⟩:Qv4),true)
else
(if (((a0.length:Nat):Int) == 16)=true then
 bd (ZV a0) fun x6 =>
(if (decide (x6<0))=true then
 some (a0,false)
else
 none)
else
 gd ((0:Int)≤(0:Int)∧(0:Int)≤x1∧x1≤((a0.length:Nat):Int)) <|
 bd (Q6 (a0.take x1.toNat)) fun x8 =>
 gd (((x8.length)+(([(⟨a1,false⟩:Qv4)]:List Qv4).length))*(40+1)≤70368744177664) <|
 gd ((0:Int)≤x1∧x1≤((a0.length:Nat):Int)∧((a0.length:Nat):Int)≤((a0.length:Nat):Int)) <|
 gd ((((x8 ++ ([(⟨a1,false⟩:Qv4)]:List Qv4)).length)+((Qc8 ((a0.length:Nat):Int) x1)))*(40+1)≤70368744177664) <|
 some (((x8 ++ ([(⟨a1,false⟩:Qv4)]:List Qv4)) ++ (((a0).take (x1.toNat+(Qc8 ((a0.length:Nat):Int) x1))).drop x1.toNat)),true)))
theorem QiO {a0:(List Qv4)} {a1:Qv2} {r:(List Qv4) × Bool} (h:Qbb a0 a1=some r):EffC Tryz.prog 171 [.d (slD Qv4.enc a0),.agg (hnC a1)] [] (.tup [.d (slD Qv4.enc r.1),dB r.2]) []:=by
  refine QQ tOk (fn:=Tryz.f171) (c:=Qj Tryz.f171) rfl rfl ?_;unfold Qbb at h;(conv=>whnf);obtain ⟨x1,hx1,h⟩:=Qa h;refine cC 0 (QdN hx1) ?_;clear hx1;(conv=>whnf);refine Qe tOk ?_;(conv=>whnf);obtain ⟨g2,h⟩:=Qg h;obtain ⟨g3,h⟩:=Qg h;refine QP tOk [] 26 [] [0,0,2,7,15,31,31,127,255,511,1023,31,2079,8191,16383,32767,65535,65535,262143,524287,1048575,2097151,65535,4259839,16777215,33554431] [] ?_;(conv=>whnf);refine And.intro g2 ?_;clear g2;(conv=>whnf);refine And.intro g3 ?_;clear g3;(conv=>whnf);refine And.intro (by kernel_rfl) ?_;(conv=>whnf);refine Qu h (fun _ h=>?_) (fun _ h=>?_)
  · (conv=>whnf);obtain ⟨x4,hx4,h⟩:=Qa h;refine cC 1000 (Ju hx4) ?_;clear hx4;(conv=>whnf);refine gdI h (fun h=>?_);(conv=>whnf);refine ⟨rows Qv4.enc (x4.set x1.toNat (⟨a1,false⟩:Qv4)),Zd Qjk rfl,?_⟩;(conv=>whnf);obtain rfl:=sj_ h;exact lfE [.f [6001]]
  · (conv=>whnf);refine Qe tOk ?_;(conv=>whnf);refine Qu h (fun _ h=>?_) (fun _ h=>?_)
    · (conv=>whnf);obtain ⟨x6,hx6,h⟩:=Qa h;refine cC 0 (Qb5 hx6) ?_;clear hx6;(conv=>whnf);refine Qe tOk ?_;(conv=>whnf);refine Qu h (fun _ h=>?_) (fun _ h=>?_)
      · (conv=>whnf);obtain rfl:=sj_ h;exact lfE []
      · (conv=>whnf);cases h
    · (conv=>whnf);obtain ⟨g7,h⟩:=Qg h;obtain ⟨x8,hx8,h⟩:=Qa h;obtain ⟨g9,h⟩:=Qg h;obtain ⟨g10,h⟩:=Qg h;obtain ⟨g11,h⟩:=Qg h;refine JA tOk [.e 3 [] (.osl 6001 0 x8.length) [] [(6001,.arr 96 5 x8.length (rows Qv4.enc x8))],.a 7 [(6001,.arr 96 5 x8.length (rows Qv4.enc x8))] (.osl 68 0 ((x8 ++ ([(⟨a1,false⟩:Qv4)]:List Qv4)).length)) [(68,.arr 96 5 ((x8 ++ ([(⟨a1,false⟩:Qv4)]:List Qv4)).length) (rows Qv4.enc (x8 ++ ([(⟨a1,false⟩:Qv4)]:List Qv4))))],.a 11 [(68,.arr 96 5 ((x8 ++ ([(⟨a1,false⟩:Qv4)]:List Qv4)).length) (rows Qv4.enc (x8 ++ ([(⟨a1,false⟩:Qv4)]:List Qv4))))] (.osl 72 0 (((x8 ++ ([(⟨a1,false⟩:Qv4)]:List Qv4)) ++ (((a0).take (x1.toNat+(Qc8 ((a0.length:Nat):Int) x1))).drop x1.toNat)).length)) [(72,.arr 96 5 (((x8 ++ ([(⟨a1,false⟩:Qv4)]:List Qv4)) ++ (((a0).take (x1.toNat+(Qc8 ((a0.length:Nat):Int) x1))).drop x1.toNat)).length) (rows Qv4.enc ((x8 ++ ([(⟨a1,false⟩:Qv4)]:List Qv4)) ++ (((a0).take (x1.toNat+(Qc8 ((a0.length:Nat):Int) x1))).drop x1.toNat))))]] 14 [] [0,0,3,7,0,16,48,127,0,0,768,2047,4095,8191] [] [] ?_;(conv=>whnf);refine And.intro ⟨g7,.inr rfl⟩ ?_;(conv=>whnf);refine And.intro (eH [] 1000 ((Ju hx8).eff rfl rfl)) ?_;(conv=>whnf);refine QcT (enc:=Qv4.enc) ([(⟨a1,false⟩:Qv4)]:List Qv4) ?_;(conv=>whnf);refine And.intro (by (conv=>whnf); exact ⟨g9,Qh0 (enc:=Qv4.enc) (xs:=x8) (ys:=([(⟨a1,false⟩:Qv4)]:List Qv4)) ⟨rfl,rfl⟩⟩) ?_;(conv=>whnf);refine And.intro ⟨g10,.inr rfl⟩ ?_;(conv=>whnf);refine And.intro (by (conv=>whnf); exact ⟨g11,Qh0 (enc:=Qv4.enc) (xs:=(x8 ++ ([(⟨a1,false⟩:Qv4)]:List Qv4))) (ys:=((a0).take (x1.toNat+(Qc8 ((a0.length:Nat):Int) x1))).drop x1.toNat) ⟨rfl,rfl⟩⟩) ?_;(conv=>whnf);refine And.intro (by kernel_rfl) ?_;(conv=>whnf);obtain rfl:=sj_ h;exact lfE [.f [72]]
noncomputable def Qat (a0:(List Qv4)) (a1:Int):Option ((List Qv4)) :=
 gd ((0:Int)≤(0:Int)∧(0:Int)≤a1∧a1≤((a0.length:Nat):Int)) <|
 bd (Q6 (a0.take a1.toNat)) fun x2 =>
 gd ((0:Int)≤IntKind.i64.wrap (a1+1)∧IntKind.i64.wrap (a1+1)≤((a0.length:Nat):Int)∧((a0.length:Nat):Int)≤((a0.length:Nat):Int)) <|
 gd (((x2.length)+((Qc8 ((a0.length:Nat):Int) (IntKind.i64.wrap (a1+1)))))*(40+1)≤70368744177664) <|
 some (x2 ++ (((a0).take ((IntKind.i64.wrap (a1+1)).toNat+(Qc8 ((a0.length:Nat):Int) (IntKind.i64.wrap (a1+1))))).drop ((IntKind.i64.wrap (a1+1)).toNat)))
theorem Qfq {a0:(List Qv4)} {a1:Int} {r:(List Qv4)} (h:Qat a0 a1=some r):EffC Tryz.prog 173 [.d (slD Qv4.enc a0),dI a1] [] (.d (slD Qv4.enc r)) []:=by
  refine QQ tOk (fn:=Tryz.f173) (c:=Qj Tryz.f173) rfl rfl ?_;unfold Qat at h;(conv=>whnf);obtain ⟨g1,h⟩:=Qg h;obtain ⟨x2,hx2,h⟩:=Qa h;obtain ⟨g3,h⟩:=Qg h;refine QP tOk [.u 3 1000 (.osl 5001 0 x2.length) [⟨5001,96,5,x2.length,rows Qv4.enc x2⟩]] 8 [] [0,0,3,7,0,0,32,112] [255,511] ?_;(conv=>whnf);refine And.intro ⟨g1,.inr rfl⟩ ?_;(conv=>whnf);refine And.intro (QnB (Ju hx2) rfl Qou) ?_;(conv=>whnf);refine And.intro ⟨g3,.inr rfl⟩ ?_;(conv=>whnf);refine And.intro (by kernel_rfl) ?_;(conv=>whnf);refine gdI h (fun h=>?_);refine Qh0 (enc:=Qv4.enc) (xs:=x2) (ys:=((a0).take ((IntKind.i64.wrap (a1+1)).toNat+(Qc8 ((a0.length:Nat):Int) (IntKind.i64.wrap (a1+1))))).drop ((IntKind.i64.wrap (a1+1)).toNat)) ?_;(conv=>whnf);obtain rfl:=sj_ h;exact lfE [.f [6001]]
end Go.Proofs.YtjgjdobkahdgfaaGreat
