/-
  What some of the program's functions compute: their models, and that the functions compute these; no condition.
-/
import Derived.Test.YtjgjdobkahdgfaaGreatTyz
import Derived.Test.YtjgjdobkahdgfaaGreatTbz
import Derived.Test.YtjgjdobkahdgfaaGreatAbz7
set_option linter.all false
namespace Go.Proofs.YtjgjdobkahdgfaaGreat
open Go Go.Ab
set_option maxRecDepth 100000
set_option maxHeartbeats 40000000
noncomputable def Qbd (a0:(List Int)):Option (Qwe) :=
(if (decide (((a0.length:Nat):Int) > 2000))=true then
 gd ((0:Int)≤(0:Int)∧(0:Int)≤(2000:Int)∧(2000:Int)≤((a0.length:Nat):Int)) <|
 some (⟨a0.take ((2000:Int).toNat),0⟩:Qwe)
else
 some (⟨a0,0⟩:Qwe))
theorem Qj5 {a0:(List Int)} {r:Qwe} (h:Qbd a0=some r):EffC Tryz.prog 22 [.d (slD QR a0)] [] (.ref 5001 0 0) [(5001,.box 75 [.d (slD QR r.b),dI r.p])]:=by
  refine Q7 tOk (fn:=Tryz.f22) (c:=Qj Tryz.f22) rfl rfl ?_;unfold Qbd at h;(conv=>whnf);refine Qc tOk ?_;(conv=>whnf);refine Qz h (fun _ h=>?_) (fun _ h=>?_)
  · (conv=>whnf);obtain ⟨g1,h⟩:=Qf h;refine And.intro ⟨g1,.inr rfl⟩ ?_;(conv=>whnf);obtain rfl:=sj_ h;exact lfE [.s [(10,5001),(5001,10)]]
  · (conv=>whnf);obtain rfl:=sj_ h;exact lfE [.s [(10,5001),(5001,10)]]
noncomputable def Qe (a0:Qwe) (a1:Int):Option (Int × Qwe) :=
(if ((decide (a1<1)) || (((a0.b.length:Nat):Int) == 0))=true then
 some (0,(⟨a0.b,IntKind.i64.wrap (a0.p+1)⟩:Qwe))
else
(if (decide ((IntKind.i64.wrap ((IntKind.i64.wrap (a0.p+1)) - 1))<((a0.b.length:Nat):Int)))=true then
 gd ((0:Int)≤IntKind.i64.wrap ((IntKind.i64.wrap (a0.p+1)) - 1)∧IntKind.i64.wrap ((IntKind.i64.wrap (a0.p+1)) - 1)<((a0.b.length:Nat):Int)) <|
 gd ((a1:Int) ≠ 0) <|
 some (((IntKind.i64.wrap (a0.b.getD ((IntKind.i64.wrap ((IntKind.i64.wrap (a0.p+1)) - 1)).toNat) default):Int).tmod a1),(⟨a0.b,IntKind.i64.wrap (a0.p+1)⟩:Qwe))
else
 gd ((((a0.b.length:Nat):Int):Int) ≠ 0) <|
 gd ((0:Int)≤((IntKind.i64.wrap ((IntKind.i64.wrap (a0.p+1)) - 1):Int).tmod ((a0.b.length:Nat):Int))∧((IntKind.i64.wrap ((IntKind.i64.wrap (a0.p+1)) - 1):Int).tmod ((a0.b.length:Nat):Int))<((a0.b.length:Nat):Int)) <|
 gd ((((a0.b.length:Nat):Int):Int) ≠ 0) <|
 gd ((0:Int)≤((IntKind.i64.wrap ((IntKind.i64.wrap ((IntKind.i64.wrap ((IntKind.i64.wrap (a0.p+1)) - 1))*7))+3):Int).tmod ((a0.b.length:Nat):Int))∧((IntKind.i64.wrap ((IntKind.i64.wrap ((IntKind.i64.wrap ((IntKind.i64.wrap (a0.p+1)) - 1))*7))+3):Int).tmod ((a0.b.length:Nat):Int))<((a0.b.length:Nat):Int)) <|
 gd ((((a0.b.length:Nat):Int):Int) ≠ 0) <|
 gd ((64:Int) ≠ 0) <|
 gd ((a1:Int) ≠ 0) <|
 some ((((bits .xor .i64 (IntKind.i64.wrap ((IntKind.i64.wrap ((IntKind.i64.wrap ((IntKind.i64.wrap ((IntKind.i64.wrap (a0.b.getD (((IntKind.i64.wrap ((IntKind.i64.wrap (a0.p+1)) - 1):Int).tmod ((a0.b.length:Nat):Int)).toNat) default))*131))+(IntKind.i64.wrap ((IntKind.i64.wrap (a0.b.getD (((IntKind.i64.wrap ((IntKind.i64.wrap ((IntKind.i64.wrap ((IntKind.i64.wrap (a0.p+1)) - 1))*7))+3):Int).tmod ((a0.b.length:Nat):Int)).toNat) default))*1117))))+(IntKind.i64.wrap ((IntKind.i64.wrap ((IntKind.i64.wrap (a0.p+1)) - 1))*29))))+(IntKind.i64.wrap ((IntKind.i64.wrap ((IntKind.i64.wrap ((IntKind.i64.wrap (a0.p+1)) - 1):Int).tdiv ((a0.b.length:Nat):Int)))*53)))) (IntKind.i64.wrap ((IntKind.i64.wrap ((IntKind.i64.wrap ((IntKind.i64.wrap ((IntKind.i64.wrap ((IntKind.i64.wrap (a0.b.getD (((IntKind.i64.wrap ((IntKind.i64.wrap (a0.p+1)) - 1):Int).tmod ((a0.b.length:Nat):Int)).toNat) default))*131))+(IntKind.i64.wrap ((IntKind.i64.wrap (a0.b.getD (((IntKind.i64.wrap ((IntKind.i64.wrap ((IntKind.i64.wrap ((IntKind.i64.wrap (a0.p+1)) - 1))*7))+3):Int).tmod ((a0.b.length:Nat):Int)).toNat) default))*1117))))+(IntKind.i64.wrap ((IntKind.i64.wrap ((IntKind.i64.wrap (a0.p+1)) - 1))*29))))+(IntKind.i64.wrap ((IntKind.i64.wrap ((IntKind.i64.wrap ((IntKind.i64.wrap (a0.p+1)) - 1):Int).tdiv ((a0.b.length:Nat):Int)))*53))):Int).tdiv 64))):Int).tmod a1),(⟨a0.b,IntKind.i64.wrap (a0.p+1)⟩:Qwe))))
theorem Qh {a0:Qwe} {a1:Int} {r:Int × Qwe} (h:Qe a0 a1=some r):EffC Tryz.prog 24 [.ref 9000 0 0,dI a1] [(9000,.box 75 [.d (slD QR a0.b),dI a0.p])] (dI r.1) [(9000,.box 75 [.d (slD QR a0.b),dI r.2.p])]:=by
  refine Q7 tOk (fn:=Tryz.f24) (c:=Qj Tryz.f24) rfl rfl ?_;unfold Qe at h;(conv=>whnf);refine Qc tOk ?_;(conv=>whnf);refine Qz h (fun _ h=>?_) (fun _ h=>?_)
  · (conv=>whnf);obtain rfl:=sj_ h;exact lfE []
  · (conv=>whnf);refine Qc tOk ?_;(conv=>whnf);refine Qz h (fun _ h=>?_) (fun _ h=>?_)
    · (conv=>whnf);refine gdI h (fun h=>?_);(conv=>whnf);refine gdI h (fun h=>?_);(conv=>whnf);obtain rfl:=sj_ h;exact lfE []
    · (conv=>whnf);obtain ⟨g3,h⟩:=Qf h;obtain ⟨g4,h⟩:=Qf h;obtain ⟨g5,h⟩:=Qf h;obtain ⟨g6,h⟩:=Qf h;obtain ⟨g7,h⟩:=Qf h;refine QS tOk [] 46 [] [0,1,3,7,0,0,32,96,224,480,1008,2047,4095,8191,16383,0,32768,98304,229376,0,524288,1572864,0,4194304,12582912,29360128,62914560,133693440,268402688,536838144,1073709056,2147450880,4294967295,0,8589934592,34359738367,0,0,137438953472,412316860416,962072674304,2061584302080,4329327034368,8727373545472,17592186044415,35184372088831] [] ?_;(conv=>whnf);refine And.intro g3 ?_;clear g3;(conv=>whnf);refine And.intro g4 ?_;clear g4;(conv=>whnf);refine And.intro g5 ?_;clear g5;(conv=>whnf);refine And.intro g6 ?_;clear g6;(conv=>whnf);refine And.intro g7 ?_;clear g7;(conv=>whnf);refine And.intro (by kernel_rfl) ?_;(conv=>whnf);refine gdI h (fun h=>?_);(conv=>whnf);refine gdI h (fun h=>?_);(conv=>whnf);obtain rfl:=sj_ h;exact lfE []
noncomputable def Qbe (a0:Qwe):Option ((List Qwf) × Qwe) :=
 bd (Qe a0 6) fun x1 =>
(if (x1.1 == 0)=true then
 gd ((0:Int)≤(0:Int)∧(0:Int)≤(2:Int)∧(2:Int)≤((([(⟨1,7⟩:Qwf),(⟨2,1234567⟩:Qwf),(⟨9,2147483646⟩:Qwf)]:List Qwf).length:Nat):Int)) <|
 some (([(⟨1,7⟩:Qwf),(⟨2,1234567⟩:Qwf),(⟨9,2147483646⟩:Qwf)]:List Qwf).take ((2:Int).toNat),(⟨a0.b,x1.2.p⟩:Qwe))
else
(if (x1.1 == 1)=true then
 gd ((0:Int)≤(1:Int)∧(1:Int)≤((([(⟨1,7⟩:Qwf),(⟨2,1234567⟩:Qwf),(⟨9,2147483646⟩:Qwf)]:List Qwf).length:Nat):Int)∧((([(⟨1,7⟩:Qwf),(⟨2,1234567⟩:Qwf),(⟨9,2147483646⟩:Qwf)]:List Qwf).length:Nat):Int)≤((([(⟨1,7⟩:Qwf),(⟨2,1234567⟩:Qwf),(⟨9,2147483646⟩:Qwf)]:List Qwf).length:Nat):Int)) <|
 some (((([(⟨1,7⟩:Qwf),(⟨2,1234567⟩:Qwf),(⟨9,2147483646⟩:Qwf)]:List Qwf)).take ((1:Int).toNat+(QcL ((([(⟨1,7⟩:Qwf),(⟨2,1234567⟩:Qwf),(⟨9,2147483646⟩:Qwf)]:List Qwf).length:Nat):Int) (1:Int)))).drop ((1:Int).toNat),(⟨a0.b,x1.2.p⟩:Qwe))
else
(if (x1.1 == 2)=true then
 some (([(⟨1,7⟩:Qwf),(⟨2,1234567⟩:Qwf),(⟨9,2147483646⟩:Qwf)]:List Qwf),(⟨a0.b,x1.2.p⟩:Qwe))
else
 gd ((0:Int)≤(0:Int)∧(0:Int)≤(1:Int)∧(1:Int)≤((([(⟨1,7⟩:Qwf),(⟨2,1234567⟩:Qwf),(⟨9,2147483646⟩:Qwf)]:List Qwf).length:Nat):Int)) <|
 some (([(⟨1,7⟩:Qwf),(⟨2,1234567⟩:Qwf),(⟨9,2147483646⟩:Qwf)]:List Qwf).take ((1:Int).toNat),(⟨a0.b,x1.2.p⟩:Qwe)))))
theorem Qf9 {a0:Qwe} {r:(List Qwf) × Qwe} (h:Qbe a0=some r):EffC Tryz.prog 69 [.ref 9000 0 0] [(9000,.box 75 [.d (slD QR a0.b),dI a0.p])] (.osl 5001 0 r.1.length) [(9000,.box 75 [.d (slD QR a0.b),dI r.2.p]),(5001,.arr 93 2 r.1.length (rows Qwf.enc r.1))]:=by
  refine Q7 tOk (fn:=Tryz.f69) (c:=Qj Tryz.f69) rfl rfl ?_;unfold Qbe at h;(conv=>whnf);refine Qj1 (enc:=Qwf.enc) ([(⟨1,7⟩:Qwf),(⟨2,1234567⟩:Qwf),(⟨9,2147483646⟩:Qwf)]:List Qwf) ?_;(conv=>whnf);refine Qc tOk ?_;(conv=>whnf);obtain ⟨x1,hx1,h⟩:=Qa h;refine cE [(9000,9000)] 0 (Qh hx1) ?_;(conv=>whnf);refine Qz h (fun _ h=>?_) (fun _ h=>?_)
  · (conv=>whnf);obtain ⟨g2,h⟩:=Qf h;refine And.intro g2 ?_;(conv=>whnf);obtain rfl:=sj_ h
    try simp only [List.length_cons,List.length_nil] at *
    exact lfE [.c 2,.s [(7,5001),(5001,7)]]
  · (conv=>whnf);refine Qz h (fun _ h=>?_) (fun _ h=>?_)
    · (conv=>whnf);obtain ⟨g3,h⟩:=Qf h;refine And.intro g3 ?_;(conv=>whnf);obtain rfl:=sj_ h
      try simp only [List.length_cons,List.length_nil] at *
      exact lfE [.c 2,.s [(7,5001),(5001,7)]]
    · (conv=>whnf);refine Qz h (fun _ h=>?_) (fun _ h=>?_)
      · (conv=>whnf);obtain rfl:=sj_ h;exact lfE [.s [(7,5001),(5001,7)]]
      · (conv=>whnf);obtain ⟨g4,h⟩:=Qf h;refine And.intro g4 ?_;(conv=>whnf);obtain rfl:=sj_ h
        try simp only [List.length_cons,List.length_nil] at *
        exact lfE [.c 2,.s [(7,5001),(5001,7)]]
noncomputable def Qb1 (a0:Int):Option (Int) :=
 bd (lp (σ:=Int × Int) (β:=(Int)) (fun s1 =>
(if (decide (s1.2<16))=true then
 some (.inl (IntKind.i64.wrap (s1.1*2),IntKind.i64.wrap (s1.2+1)))
else
 some (.inr s1.1))) (1,a0)) fun x4 =>
 some x4
theorem Qga {a0:Int} {r:Int} (h:Qb1 a0=some r):PureC Tryz.prog 153 [dI a0] (dI r) []:=by
  refine Qq tOk (fn:=Tryz.f153) (c:=Qj Tryz.f153) rfl rfl ?_;unfold Qb1 at h;(conv=>whnf);refine Qc tOk ?_;(conv=>whnf);obtain ⟨x4,hx4,h⟩:=Qa h;refine Zj tOk hx4 (fun s1=>⟨0,13,[(3,dI s1.1),(4,dI s1.2)],[],[],[]⟩) ?_ ?_
  · exact leX []
  · clear hx4;intro s1 y2 g3 hy2;(conv=>whnf);refine Qc tOk ?_;(conv=>whnf);refine Qz g3 (fun _ g3=>?_) (fun _ g3=>?_)
    · (conv=>whnf);refine Qc tOk ?_;(conv=>whnf);obtain rfl:=sj_ g3;exact ⟨_,rfl,leX []⟩
    · (conv=>whnf);obtain rfl:=sj_ g3;obtain rfl:=hy2 _ rfl;obtain rfl:=sj_ h;exact lfP []
noncomputable def Qa1 (a0:Qwe):Option (Qwg × Qwe) :=
 bd (Qe a0 6) fun x1 =>
 gd ((0:Int)≤x1.1∧x1.1<((([0,1,8,8,15,16]:List Int).length:Nat):Int)) <|
 bd (Qe (⟨a0.b,x1.2.p⟩:Qwe) 5) fun x3 =>
 bd (Qe (⟨a0.b,x3.2.p⟩:Qwe) 5) fun x4 =>
 gd ((0:Int)≤x4.1∧x4.1<((([0,32768,2560,65535,IntKind.i64.wrap (x3.1*256)]:List Int).length:Nat):Int)) <|
 bd (Qb1 (([0,1,8,8,15,16]:List Int).getD x1.1.toNat default)) fun x6 =>
 gd ((x6:Int) ≠ 0) <|
 some ((⟨IntKind.i64.wrap ((([0,32768,2560,65535,IntKind.i64.wrap (x3.1*256)]:List Int).getD x4.1.toNat default) - (((([0,32768,2560,65535,IntKind.i64.wrap (x3.1*256)]:List Int).getD x4.1.toNat default):Int).tmod x6)),(([0,1,8,8,15,16]:List Int).getD x1.1.toNat default),0,0⟩:Qwg),(⟨a0.b,x4.2.p⟩:Qwe))
theorem Qip {a0:Qwe} {r:Qwg × Qwe} (h:Qa1 a0=some r):EffC Tryz.prog 143 [.ref 9000 0 0] [(9000,.box 75 [.d (slD QR a0.b),dI a0.p])] (.agg (hnC r.1)) [(9000,.box 75 [.d (slD QR a0.b),dI r.2.p])]:=by
  refine Q7 tOk (fn:=Tryz.f143) (c:=Qj Tryz.f143) rfl rfl ?_;unfold Qa1 at h;(conv=>whnf);refine Qj1 (enc:=Qgb) ([0,1,8,8,15,16]:List Int) ?_;(conv=>whnf);obtain ⟨x1,hx1,h⟩:=Qa h;refine cE [(9000,9000)] 0 (Qh hx1) ?_;(conv=>whnf);refine gdI h (fun h=>?_);(conv=>whnf);obtain ⟨x3,hx3,h⟩:=Qa h;refine cE [(9000,9000)] 0 (Qh hx3) ?_;(conv=>whnf);refine Qj1 (enc:=Qgb) ([0,32768,2560,65535,IntKind.i64.wrap (x3.1*256)]:List Int) ?_;(conv=>whnf);obtain ⟨x4,hx4,h⟩:=Qa h;refine cE [(9000,9000)] 0 (Qh hx4) ?_;(conv=>whnf);refine gdI h (fun h=>?_);(conv=>whnf);obtain ⟨x6,hx6,h⟩:=Qa h;refine cC 0 (Qga hx6) ?_;clear hx6;(conv=>whnf);refine gdI h (fun h=>?_);(conv=>whnf);obtain rfl:=sj_ h;exact lfE []
noncomputable def J9 (a0:Qwe):Option (Qwg × Qwe) :=
 bd (Qa1 a0) fun x1 =>
 bd (Qe (⟨a0.b,x1.2.p⟩:Qwe) 4) fun x2 =>
 gd ((0:Int)≤x2.1∧x2.1<((([1,2,3,255]:List Int).length:Nat):Int)) <|
 bd (Qe (⟨a0.b,x2.2.p⟩:Qwe) 2) fun x4 =>
 bd (Qe (⟨a0.b,x4.2.p⟩:Qwe) 3) fun x5 =>
 gd ((0:Int)≤x5.1∧x5.1<((([1,17,1000]:List Int).length:Nat):Int)) <|
 some ({ x1.1 with Cost:=(([1,2,3,255]:List Int).getD x2.1.toNat default),Label:=IntKind.i64.wrap (x4.1*(([1,17,1000]:List Int).getD x5.1.toNat default)) },(⟨a0.b,x5.2.p⟩:Qwe))
theorem QdH {a0:Qwe} {r:Qwg × Qwe} (h:J9 a0=some r):EffC Tryz.prog 106 [.ref 9000 0 0] [(9000,.box 75 [.d (slD QR a0.b),dI a0.p])] (.agg (hnC r.1)) [(9000,.box 75 [.d (slD QR a0.b),dI r.2.p])]:=by
  refine Q7 tOk (fn:=Tryz.f106) (c:=Qj Tryz.f106) rfl rfl ?_;unfold J9 at h;(conv=>whnf);obtain ⟨x1,hx1,h⟩:=Qa h;refine cE [(9000,9000)] 0 (Qip hx1) ?_;(conv=>whnf);refine Qj1 (enc:=Qgb) ([1,2,3,255]:List Int) ?_;(conv=>whnf);obtain ⟨x2,hx2,h⟩:=Qa h;refine cE [(9000,9000)] 0 (Qh hx2) ?_;(conv=>whnf);refine gdI h (fun h=>?_);(conv=>whnf);obtain ⟨x4,hx4,h⟩:=Qa h;refine cE [(9000,9000)] 0 (Qh hx4) ?_;(conv=>whnf);refine Qj1 (enc:=Qgb) ([1,17,1000]:List Int) ?_;(conv=>whnf);obtain ⟨x5,hx5,h⟩:=Qa h;refine cE [(9000,9000)] 0 (Qh hx5) ?_;(conv=>whnf);refine gdI h (fun h=>?_);(conv=>whnf);obtain rfl:=sj_ h;exact lfE []
noncomputable def ZK (a0:Qwg) (a1:Qwg):Option (Bool) :=
 some ((decide (a0.Addr<a1.Addr)) || ((a0.Addr == a1.Addr) && (decide (a0.Len<a1.Len))))
theorem QcW {a0:Qwg} {a1:Qwg} {r:Bool} (h:ZK a0 a1=some r):PureC Tryz.prog 142 [.agg (hnC a0),.agg (hnC a1)] (dB r) []:=by
  refine Qq tOk (fn:=Tryz.f142) (c:=Qj Tryz.f142) rfl rfl ?_;unfold ZK at h;(conv=>whnf);obtain rfl:=sj_ h;exact lfP []
noncomputable def Q8 (a0:(List Qwg)):Option ((List Qwg)) :=
 gd (((0)+(a0.length))*(32+1)≤70368744177664) <|
 some a0
theorem ZF {a0:(List Qwg)} {r:(List Qwg)} (h:Q8 a0=some r):PureC Tryz.prog 111 [.d (slD Qwg.enc a0)] (.osl 5001 0 r.length) [⟨5001,31,4,r.length,rows Qwg.enc r⟩]:=by
  refine Qq tOk (fn:=Tryz.f111) (c:=Qj Tryz.f111) rfl rfl ?_;unfold Q8 at h;(conv=>whnf);refine gdI h (fun h=>?_);refine QuX (enc:=Qwg.enc) (ys:=a0) ?_;(conv=>whnf);obtain rfl:=sj_ h;exact lfP [.s [(5,5001),(5001,5)]]
noncomputable def Qas (a0:(List Qwg)) (a1:Qwg):Option ((List Qwg)) :=
 bd (lp (σ:=Int) (β:=(Int)) (fun s1 =>
 gd ((decide (s1<((a0.length:Nat):Int)))=true→((0:Int)≤s1∧s1<((a0.length:Nat):Int))) <|
 bd (gcall ((decide (s1<((a0.length:Nat):Int)))=true) (ZK (a0.getD s1.toNat default) a1)) fun x6 =>
(if ((decide (s1<((a0.length:Nat):Int))) && x6)=true then
 some (.inl (IntKind.i64.wrap (s1+1)))
else
 some (.inr s1))) 0) fun x4 =>
 gd ((decide (x4<((a0.length:Nat):Int)))=true→((0:Int)≤x4∧x4<((a0.length:Nat):Int))) <|
 gd (((decide (x4<((a0.length:Nat):Int))) && (((a0.getD x4.toNat default).Addr) == a1.Addr))=true→((0:Int)≤x4∧x4<((a0.length:Nat):Int))) <|
(if (((decide (x4<((a0.length:Nat):Int))) && (((a0.getD x4.toNat default).Addr) == a1.Addr)) && (((a0.getD x4.toNat default).Len) == a1.Len))=true then
 bd (Q8 a0) fun x10 =>
 gd ((0:Int)≤x4∧x4<((x10.length:Nat):Int)) <|
 some (x10.set x4.toNat a1)
else
 gd ((0:Int)≤(0:Int)∧(0:Int)≤x4∧x4≤((a0.length:Nat):Int)) <|
 bd (Q8 (a0.take x4.toNat)) fun x13 =>
 gd (((x13.length)+(([a1]:List Qwg).length))*(32+1)≤70368744177664) <|
 gd ((0:Int)≤x4∧x4≤((a0.length:Nat):Int)∧((a0.length:Nat):Int)≤((a0.length:Nat):Int)) <|
 gd ((((x13 ++ ([a1]:List Qwg)).length)+((QcL ((a0.length:Nat):Int) x4)))*(32+1)≤70368744177664) <|
 some ((x13 ++ ([a1]:List Qwg)) ++ (((a0).take (x4.toNat+(QcL ((a0.length:Nat):Int) x4))).drop x4.toNat)))
theorem Qdv {a0:(List Qwg)} {a1:Qwg} {r:(List Qwg)} (h:Qas a0 a1=some r):PureC Tryz.prog 105 [.d (slD Qwg.enc a0),.agg (hnC a1)] (.osl 5001 0 r.length) [⟨5001,31,4,r.length,rows Qwg.enc r⟩]:=by
  refine Qq tOk (fn:=Tryz.f105) (c:=Qj Tryz.f105) rfl rfl ?_;unfold Qas at h;(conv=>whnf);refine Qc tOk ?_;(conv=>whnf);obtain ⟨x4,hx4,h⟩:=Qa h;refine Zj tOk hx4 (fun s1=>⟨0,63,[(0,.d (slD Qwg.enc a0)),(3,.ref 3 0 0),(5,dI s1)],[],[(3,.box 31 (hnC a1))],[]⟩) ?_ ?_
  · exact leX []
  · clear hx4;intro s1 y2 g3 hy2;(conv=>whnf);refine Qc tOk ?_;(conv=>whnf);obtain ⟨g5,g3⟩:=Qf g3;obtain ⟨x6,hx6,g3⟩:=Qa g3;refine QS tOk [.u 10 0 (dB x6) []] 12 [] [0,0,2,7,15,31,31,127,255,31,1023,2047] [] ?_;(conv=>whnf);refine And.intro g5 ?_;clear g5;(conv=>whnf);refine And.intro (Q1 rfl rfl rfl rfl (by intro c0; exact QcW (Qd hx6 c0))) ?_;(conv=>whnf);refine And.intro (by kernel_rfl) ?_;(conv=>whnf);refine Qz g3 (fun _ g3=>?_) (fun _ g3=>?_)
    · (conv=>whnf);obtain rfl:=sj_ g3;exact ⟨_,rfl,leX []⟩
    · (conv=>whnf);obtain rfl:=sj_ g3;obtain rfl:=hy2 _ rfl;refine Qc tOk ?_;(conv=>whnf);obtain ⟨g8,h⟩:=Qf h;obtain ⟨g9,h⟩:=Qf h;refine QS tOk [] 24 [] [0,0,2,7,15,31,31,127,255,511,31,1055,4095,8191,16383,32767,32767,131071,262143,524287,32767,1081343,4194303,8388607] [] ?_;(conv=>whnf);refine And.intro g8 ?_;clear g8;(conv=>whnf);refine And.intro g9 ?_;clear g9;(conv=>whnf);refine And.intro (by kernel_rfl) ?_;(conv=>whnf);refine Qz h (fun _ h=>?_) (fun _ h=>?_)
      · (conv=>whnf);obtain ⟨x10,hx10,h⟩:=Qa h;refine cC 1000 (ZF hx10) ?_;clear hx10;(conv=>whnf);refine gdI h (fun h=>?_);(conv=>whnf);refine ⟨rows Qwg.enc (x10.set s1.toNat a1),Jg Qm7 rfl,?_⟩;(conv=>whnf);obtain rfl:=sj_ h;exact lfP [.s [(5001,6001),(6001,5001)]]
      · (conv=>whnf);obtain ⟨g12,h⟩:=Qf h;obtain ⟨x13,hx13,h⟩:=Qa h;obtain ⟨g14,h⟩:=Qf h;obtain ⟨g15,h⟩:=Qf h;obtain ⟨g16,h⟩:=Qf h;refine QaG tOk [.e 3 [] (.osl 6001 0 x13.length) [] [(6001,.arr 31 4 x13.length (rows Qwg.enc x13))],.a 6 [(6001,.arr 31 4 x13.length (rows Qwg.enc x13))] (.osl 58 0 ((x13 ++ ([a1]:List Qwg)).length)) [(58,.arr 31 4 ((x13 ++ ([a1]:List Qwg)).length) (rows Qwg.enc (x13 ++ ([a1]:List Qwg))))],.a 10 [(58,.arr 31 4 ((x13 ++ ([a1]:List Qwg)).length) (rows Qwg.enc (x13 ++ ([a1]:List Qwg))))] (.osl 62 0 (((x13 ++ ([a1]:List Qwg)) ++ (((a0).take (s1.toNat+(QcL ((a0.length:Nat):Int) s1))).drop s1.toNat)).length)) [(62,.arr 31 4 (((x13 ++ ([a1]:List Qwg)) ++ (((a0).take (s1.toNat+(QcL ((a0.length:Nat):Int) s1))).drop s1.toNat)).length) (rows Qwg.enc ((x13 ++ ([a1]:List Qwg)) ++ (((a0).take (s1.toNat+(QcL ((a0.length:Nat):Int) s1))).drop s1.toNat))))]] 12 [] [0,0,3,7,0,16,63,0,0,384,1023,2047] [] [] ?_;(conv=>whnf);refine And.intro ⟨g12,.inr rfl⟩ ?_;(conv=>whnf);refine And.intro (eH [] 1000 ((ZF hx13).eff rfl rfl)) ?_;(conv=>whnf);refine Qj1 (enc:=Qwg.enc) ([a1]:List Qwg) ?_;(conv=>whnf);refine And.intro (by (conv=>whnf); exact ⟨g14,Qj2 (enc:=Qwg.enc) (xs:=x13) (ys:=([a1]:List Qwg)) ⟨rfl,rfl⟩⟩) ?_;(conv=>whnf);refine And.intro ⟨g15,.inr rfl⟩ ?_;(conv=>whnf);refine And.intro (by (conv=>whnf); exact ⟨g16,Qj2 (enc:=Qwg.enc) (xs:=(x13 ++ ([a1]:List Qwg))) (ys:=((a0).take (s1.toNat+(QcL ((a0.length:Nat):Int) s1))).drop s1.toNat) ⟨rfl,rfl⟩⟩) ?_;(conv=>whnf);refine And.intro (by kernel_rfl) ?_;(conv=>whnf);obtain rfl:=sj_ h;exact lfP [.s [(62,5001),(5001,62)]]
noncomputable def Qaa (a0:Qwe):Option ((List Qwg) × Qwe) :=
 bd (Qe a0 5) fun x1 =>
 bd (lp (σ:=List Qwg × Int × Int) (β:=(Nat × (List Qwg) × Int)) (fun s2 =>
(if (decide (s2.2.2 > 0))=true then
 bd (J9 (⟨a0.b,s2.2.1⟩:Qwe)) fun x6 =>
 bd (Qas s2.1 x6.1) fun x7 =>
 some (.inl (x7,x6.2.p,IntKind.i64.wrap (s2.2.2 - 1)))
else
 some (.inr (s2.1.length,s2.1,s2.2.1)))) (([]:List Qwg),x1.2.p,x1.1)) fun x5 =>
 bd (lp (σ:=List Qwg × Int) (β:=(Nat × (List Qwg) × Int)) (fun s9 =>
 bd (Qe (⟨a0.b,s9.2⟩:Qwe) 12) fun x13 =>
(if ((x13.1 == 0) && (decide (((s9.1.length:Nat):Int)<8)))=true then
 bd (lp (σ:=List Qwg × Int × Int) (β:=(Nat × (List Qwg) × Int)) (fun s14 =>
(if (decide (((s14.1.length:Nat):Int)<8))=true then
 bd (Qe (⟨a0.b,s14.2.1⟩:Qwe) 2) fun x18 =>
 bd (Qas s14.1 (⟨IntKind.i64.wrap (16384+s14.2.2),16,IntKind.i64.wrap (1+x18.1),0⟩:Qwg)) fun x19 =>
 some (.inl (x19,x18.2.p,IntKind.i64.wrap (s14.2.2+1)))
else
 some (.inr (s14.1.length,s14.1,s14.2.1)))) (s9.1,x13.2.p,0)) fun x17 =>
 some (.inl (x17.2.1,x17.2.2))
else
 some (.inr (s9.1.length,s9.1,x13.2.p)))) (x5.2.1,x5.2.2)) fun x12 =>
 some (x12.2.1,(⟨a0.b,x12.2.2⟩:Qwe))
theorem QdI {a0:Qwe} {r:(List Qwg) × Qwe} (h:Qaa a0=some r):EffC Tryz.prog 70 [.ref 9000 0 0] [(9000,.box 75 [.d (slD QR a0.b),dI a0.p])] (.osl 5001 0 r.1.length) [(9000,.box 75 [.d (slD QR a0.b),dI r.2.p]),(5001,.arr 31 4 r.1.length (rows Qwg.enc r.1))]:=by
  refine Q7 tOk (fn:=Tryz.f70) (c:=Qj Tryz.f70) rfl rfl ?_;unfold Qaa at h;(conv=>whnf);refine Qc tOk ?_;(conv=>whnf);obtain ⟨x1,hx1,h⟩:=Qa h;refine cE [(9000,9000)] 0 (Qh hx1) ?_;(conv=>whnf);obtain ⟨x5,hx5,h⟩:=Qa h;refine Zj tOk hx5 (fun s2=>⟨0,39,[(0,.ref 9000 0 0),(3,.osl 7001 0 s2.1.length),(4,dI s2.2.2)],[],[(7001,.arr 31 4 s2.1.length (rows Qwg.enc s2.1)),(9000,.box 75 [.d (slD QR a0.b),dI s2.2.1])],[⟨[(0,.ref 9000 0 0)],[]⟩]⟩) ?_ ?_
  · exact leX [.p 7001 31 4 (rows Qwg.enc ([]:List Qwg))]
  · clear hx5;intro s2 y3 g4 hy3;(conv=>whnf);refine Qc tOk ?_;(conv=>whnf);refine Qz g4 (fun _ g4=>?_) (fun _ g4=>?_)
    · (conv=>whnf);refine Qc tOk ?_;(conv=>whnf);obtain ⟨x6,hx6,g4⟩:=Qa g4;refine cE [(9000,9000)] 0 (QdH hx6) ?_;(conv=>whnf);obtain ⟨x7,hx7,g4⟩:=Qa g4;refine cC 1000 (Qdv hx7) ?_;clear hx7;(conv=>whnf);obtain rfl:=sj_ g4;exact ⟨_,rfl,leX [.s [(6001,7001),(7001,6001)]]⟩
    · (conv=>whnf);obtain rfl:=sj_ g4;obtain rfl:=hy3 _ rfl;refine Qc tOk ?_;(conv=>whnf);obtain ⟨x12,hx12,h⟩:=Qa h;refine Zj tOk hx12 (fun s9=>⟨0,39,[(0,.ref 9000 0 0),(3,.osl 7001 0 s9.1.length)],[],[(7001,.arr 31 4 s9.1.length (rows Qwg.enc s9.1)),(9000,.box 75 [.d (slD QR a0.b),dI s9.2])],[⟨[(0,.ref 9000 0 0)],[]⟩]⟩) ?_ ?_
      · exact leX []
      · clear hx12;intro s9 y10 g11 hy10;(conv=>whnf);refine Qc tOk ?_;(conv=>whnf);obtain ⟨x13,hx13,g11⟩:=Qa g11;refine cE [(9000,9000)] 0 (Qh hx13) ?_;(conv=>whnf);refine Qz g11 (fun _ g11=>?_) (fun _ g11=>?_)
        · (conv=>whnf);obtain ⟨x17,hx17,g11⟩:=Qa g11;refine Zj tOk hx17 (fun s14=>⟨0,39,[(0,.ref 9000 0 0),(3,.osl 7001 0 s14.1.length),(5,dI s14.2.2)],[],[(7001,.arr 31 4 s14.1.length (rows Qwg.enc s14.1)),(9000,.box 75 [.d (slD QR a0.b),dI s14.2.1])],[⟨[(0,.ref 9000 0 0)],[]⟩]⟩) ?_ ?_
          · exact leX []
          · clear hx17;intro s14 y15 g16 hy15;(conv=>whnf);refine Qc tOk ?_;(conv=>whnf);refine Qz g16 (fun _ g16=>?_) (fun _ g16=>?_)
            · (conv=>whnf);refine Qc tOk ?_;(conv=>whnf);obtain ⟨x18,hx18,g16⟩:=Qa g16;refine cE [(9000,9000)] 0 (Qh hx18) ?_;(conv=>whnf);obtain ⟨x19,hx19,g16⟩:=Qa g16;refine cC 1000 (Qdv hx19) ?_;clear hx19;(conv=>whnf);obtain rfl:=sj_ g16;exact ⟨_,rfl,leX [.s [(6001,7001),(7001,6001)]]⟩
            · (conv=>whnf);obtain rfl:=sj_ g16;obtain rfl:=hy15 _ rfl;obtain rfl:=sj_ g11;exact ⟨_,rfl,leX []⟩
        · (conv=>whnf);obtain rfl:=sj_ g11;obtain rfl:=hy10 _ rfl;obtain rfl:=sj_ h;exact lfE [.s [(5001,7001),(7001,5001)]]
noncomputable def Qaw (a0:(List Qwf)):Option ((List Qwf)) :=
 gd (((0)+(a0.length))*(16+1)≤70368744177664) <|
 some a0
theorem Qec {a0:(List Qwf)} {r:(List Qwf)} (h:Qaw a0=some r):PureC Tryz.prog 110 [.d (slD Qwf.enc a0)] (.osl 5001 0 r.length) [⟨5001,93,2,r.length,rows Qwf.enc r⟩]:=by
  refine Qq tOk (fn:=Tryz.f110) (c:=Qj Tryz.f110) rfl rfl ?_;unfold Qaw at h;(conv=>whnf);refine gdI h (fun h=>?_);refine QuX (enc:=Qwf.enc) (ys:=a0) ?_;(conv=>whnf);obtain rfl:=sj_ h;exact lfP [.s [(5,5001),(5001,5)]]
noncomputable def Q6 (a0:(List Qwi)):Option ((List Qwi)) :=
 gd (((0)+(a0.length))*(40+1)≤70368744177664) <|
 some a0
theorem Jo {a0:(List Qwi)} {r:(List Qwi)} (h:Q6 a0=some r):PureC Tryz.prog 112 [.d (slD Qwi.enc a0)] (.osl 5001 0 r.length) [⟨5001,96,5,r.length,rows Qwi.enc r⟩]:=by
  refine Qq tOk (fn:=Tryz.f112) (c:=Qj Tryz.f112) rfl rfl ?_;unfold Q6 at h;(conv=>whnf);refine gdI h (fun h=>?_);refine QuX (enc:=Qwi.enc) (ys:=a0) ?_;(conv=>whnf);obtain rfl:=sj_ h;exact lfP [.s [(5,5001),(5001,5)]]
noncomputable def Zg (a0:Qwj):Option (Qwj) :=
 bd (Qaw a0.Keys) fun x1 =>
 bd (Q8 a0.Want) fun x2 =>
 bd (Q8 a0.Told) fun x3 =>
 bd (Q6 a0.Heard) fun x4 =>
 some ({ a0 with Keys:=x1,Want:=x2,Told:=x3,Heard:=x4 })
theorem Jf {a0:Qwj} {r:Qwj} (h:Zg a0=some r):PureC Tryz.prog 75 [.agg (heC a0 (.d (slD Qwi.enc a0.Heard)))] (.agg (dI r.Name :: dI r.Peer :: .osl 5001 0 r.Keys.length :: dI r.Boot :: .osl 5002 0 r.Want.length :: dI r.Turn :: dI r.PeerBoot :: dI r.PeerTurn :: dB r.Up :: dI r.Left :: dI r.Num :: dI r.Under.Kind :: hnC r.Under.Entry ++ [.osl 5003 0 r.Told.length,dB r.All,dI r.Got,dB r.Full,.osl 5004 0 r.Heard.length,dI r.Keep])) [⟨5001,93,2,r.Keys.length,rows Qwf.enc r.Keys⟩,⟨5002,31,4,r.Want.length,rows Qwg.enc r.Want⟩,⟨5003,31,4,r.Told.length,rows Qwg.enc r.Told⟩,⟨5004,96,5,r.Heard.length,rows Qwi.enc r.Heard⟩]:=by
  refine Qq tOk (fn:=Tryz.f75) (c:=Qj Tryz.f75) rfl rfl ?_;unfold Zg at h;(conv=>whnf);obtain ⟨x1,hx1,h⟩:=Qa h;refine cC 1000 (Qec hx1) ?_;clear hx1;(conv=>whnf);obtain ⟨x2,hx2,h⟩:=Qa h;refine cC 2000 (ZF hx2) ?_;clear hx2;(conv=>whnf);obtain ⟨x3,hx3,h⟩:=Qa h;refine cC 3000 (ZF hx3) ?_;clear hx3;(conv=>whnf);obtain ⟨x4,hx4,h⟩:=Qa h;refine cC 4000 (Jo hx4) ?_;clear hx4;(conv=>whnf);obtain rfl:=sj_ h;exact lfP [.s [(5001,6001),(5002,7001),(5003,8001),(5004,9001),(6001,5001),(7001,5002),(8001,5003),(9001,5004)]]
noncomputable def QB (a0:Int) (a1:Int) (a2:Int):Option (Bool) :=
 some ((decide (a0 ≥ a1)) && (decide (a0≤a2)))
theorem QK {a0:Int} {a1:Int} {a2:Int} {r:Bool} (h:QB a0 a1 a2=some r):PureC Tryz.prog 84 [dI a0,dI a1,dI a2] (dB r) []:=by
  refine Qq tOk (fn:=Tryz.f84) (c:=Qj Tryz.f84) rfl rfl ?_;unfold QB at h;(conv=>whnf);obtain rfl:=sj_ h;exact lfP []
noncomputable def Jh (a0:(List Qwf)):Option (Bool) :=
 bd (QB ((a0.length:Nat):Int) 1 3) fun x1 =>
(if (!x1)=true then
 some false
else
 bd (lp (σ:=Int) (β:=(Unit ⊕ Unit)) (fun s2 =>
(if (decide (s2<((a0.length:Nat):Int)))=true then
 gd ((0:Int)≤s2∧s2<((a0.length:Nat):Int)) <|
 bd (QB ((a0.getD s2.toNat default).Id) 1 9) fun x7 =>
 gd ((!x7)=false→((0:Int)≤s2∧s2<((a0.length:Nat):Int))) <|
 bd (gcall ((!x7)=false) (QB ((a0.getD s2.toNat default).Secret) 1 2147483646)) fun x9 =>
 gd ((decide (s2 > 0))=true→(((!x7) || (!x9))=false→((0:Int)≤IntKind.i64.wrap (s2 - 1)∧IntKind.i64.wrap (s2 - 1)<((a0.length:Nat):Int)))) <|
 gd ((decide (s2 > 0))=true→(((!x7) || (!x9))=false→((0:Int)≤s2∧s2<((a0.length:Nat):Int)))) <|
(if (((!x7) || (!x9)) || ((decide (s2 > 0)) && (decide (((a0.getD ((IntKind.i64.wrap (s2 - 1)).toNat) default).Id) ≥ ((a0.getD s2.toNat default).Id)))))=true then
 some (.inr (.inl ()))
else
 some (.inl (IntKind.i64.wrap (s2+1))))
else
 some (.inr (.inr ())))) 0) fun x5 =>
(match x5 with
| .inl d12 =>
 some false
| .inr d13 =>
 some true))
theorem Qcq {a0:(List Qwf)} {r:Bool} (h:Jh a0=some r):PureC Tryz.prog 120 [.d (slD Qwf.enc a0)] (dB r) []:=by
  refine Qq tOk (fn:=Tryz.f120) (c:=Qj Tryz.f120) rfl rfl ?_;unfold Jh at h;(conv=>whnf);refine Qc tOk ?_;(conv=>whnf);obtain ⟨x1,hx1,h⟩:=Qa h;refine cC 0 (QK hx1) ?_;clear hx1;(conv=>whnf);refine Qz h (fun _ h=>?_) (fun _ h=>?_)
  · (conv=>whnf);obtain rfl:=sj_ h;exact lfP []
  · (conv=>whnf);refine Qc tOk ?_;(conv=>whnf);obtain ⟨x5,hx5,h⟩:=Qa h;refine Zj tOk hx5 (fun s2=>⟨0,48,[(0,.d (slD Qwf.enc a0)),(3,dI s2)],[],[],[]⟩) ?_ ?_
    · exact leX []
    · clear hx5;intro s2 y3 g4 hy3;(conv=>whnf);refine Qc tOk ?_;(conv=>whnf);refine Qz g4 (fun _ g4=>?_) (fun _ g4=>?_)
      · (conv=>whnf);refine Qc tOk ?_;(conv=>whnf);obtain ⟨g6,g4⟩:=Qf g4;obtain ⟨x7,hx7,g4⟩:=Qa g4;obtain ⟨g8,g4⟩:=Qf g4;obtain ⟨x9,hx9,g4⟩:=Qa g4;obtain ⟨g10,g4⟩:=Qf g4;obtain ⟨g11,g4⟩:=Qf g4;refine QS tOk [.u 5 0 (dB x7) [],.u 13 0 (dB x9) []] 34 [] [0,0,3,7,15,31,63,127,255,255,1023,2047,4095,8191,16383,32767,65535,131071,262143,524287,1048575,1048575,3145727,8388607,16777215,33554431,1048575,1048575,202375167,470810623,1007681535,2147483647,4294967295,8589934591] [] ?_;(conv=>whnf);refine And.intro g6 ?_;clear g6;(conv=>whnf);refine And.intro (QM (QK hx7) (by kernel_rfl)) ?_;(conv=>whnf);refine And.intro g8 ?_;clear g8;(conv=>whnf);refine And.intro (Q1 rfl rfl rfl rfl (by intro c0; exact QK (Qd hx9 c0))) ?_;(conv=>whnf);refine And.intro g10 ?_;clear g10;(conv=>whnf);refine And.intro g11 ?_;clear g11;(conv=>whnf);refine And.intro (by kernel_rfl) ?_;(conv=>whnf);refine Qz g4 (fun _ g4=>?_) (fun _ g4=>?_)
        · (conv=>whnf);obtain rfl:=sj_ g4;obtain rfl:=hy3 _ rfl;obtain rfl:=sj_ h;exact lfP []
        · (conv=>whnf);obtain rfl:=sj_ g4;exact ⟨_,rfl,leX []⟩
      · (conv=>whnf);obtain rfl:=sj_ g4;obtain rfl:=hy3 _ rfl;obtain rfl:=sj_ h;exact lfP []
noncomputable def Qao (a0:Qwg):Option (Bool) :=
 bd (QB a0.Len 0 16) fun x1 =>
 bd (gcall (x1=true) (QB a0.Addr 0 65535)) fun x2 =>
 bd (gcall ((x1 && x2)=true) (Qb1 a0.Len)) fun x3 =>
 gd ((x1 && x2)=true→((x3:Int) ≠ 0)) <|
 some ((x1 && x2) && (((a0.Addr:Int).tmod x3) == 0))
theorem Qe8 {a0:Qwg} {r:Bool} (h:Qao a0=some r):PureC Tryz.prog 129 [.agg (hnC a0)] (dB r) []:=by
  refine Qq tOk (fn:=Tryz.f129) (c:=Qj Tryz.f129) rfl rfl ?_;unfold Qao at h;(conv=>whnf);obtain ⟨x1,hx1,h⟩:=Qa h;obtain ⟨x2,hx2,h⟩:=Qa h;obtain ⟨x3,hx3,h⟩:=Qa h;obtain ⟨g4,h⟩:=Qf h;refine QS tOk [.u 2 0 (dB x1) [],.u 6 0 (dB x2) [],.u 13 0 (dI x3) []] 18 [] [0,1,3,7,15,31,63,127,255,511,1023,511,2559,6655,16383,32767,65535,131071] [] ?_;(conv=>whnf);refine And.intro (QM (QK hx1) (by kernel_rfl)) ?_;(conv=>whnf);refine And.intro (Q1 rfl rfl rfl rfl (by intro c0; exact QK (Qd hx2 c0))) ?_;(conv=>whnf);refine And.intro (Q1 rfl rfl rfl rfl (by intro c0; exact Qga (Qd hx3 c0))) ?_;(conv=>whnf);refine And.intro g4 ?_;clear g4;(conv=>whnf);refine And.intro (by kernel_rfl) ?_;(conv=>whnf);obtain rfl:=sj_ h;exact lfP []
noncomputable def Z5 (a0:Qwg):Option (Bool) :=
 bd (Qao a0) fun x1 =>
 bd (gcall (x1=true) (QB a0.Cost 1 255)) fun x2 =>
 bd (gcall ((x1 && x2)=true) (QB a0.Label 0 1000)) fun x3 =>
 some ((x1 && x2) && x3)
theorem QcM {a0:Qwg} {r:Bool} (h:Z5 a0=some r):PureC Tryz.prog 128 [.agg (hnC a0)] (dB r) []:=by
  refine Qq tOk (fn:=Tryz.f128) (c:=Qj Tryz.f128) rfl rfl ?_;unfold Z5 at h;(conv=>whnf);obtain ⟨x1,hx1,h⟩:=Qa h;refine cC 0 (Qe8 hx1) ?_;clear hx1;(conv=>whnf);obtain ⟨x2,hx2,h⟩:=Qa h;refine cG (fun c0=>QK (Qd hx2 c0)) ?_;(conv=>whnf);obtain ⟨x3,hx3,h⟩:=Qa h;refine cG (fun c0=>QK (Qd hx3 c0)) ?_;(conv=>whnf);obtain rfl:=sj_ h;exact lfP []
noncomputable def ZG (a0:(List Qwg)):Option (Bool) :=
(if (decide (((a0.length:Nat):Int) > 8))=true then
 some false
else
 bd (lp (σ:=Int) (β:=(Unit ⊕ Unit)) (fun s1 =>
(if (decide (s1<((a0.length:Nat):Int)))=true then
 gd ((0:Int)≤s1∧s1<((a0.length:Nat):Int)) <|
 bd (Z5 (a0.getD s1.toNat default)) fun x6 =>
 gd ((decide (s1 > 0))=true→((!x6)=false→((0:Int)≤IntKind.i64.wrap (s1 - 1)∧IntKind.i64.wrap (s1 - 1)<((a0.length:Nat):Int)))) <|
 gd ((decide (s1 > 0))=true→((!x6)=false→((0:Int)≤s1∧s1<((a0.length:Nat):Int)))) <|
 bd (gcall ((decide (s1 > 0))=true∧(!x6)=false) (ZK (a0.getD ((IntKind.i64.wrap (s1 - 1)).toNat) default) (a0.getD s1.toNat default))) fun x9 =>
(if ((!x6) || ((decide (s1 > 0)) && (!x9)))=true then
 some (.inr (.inl ()))
else
 some (.inl (IntKind.i64.wrap (s1+1))))
else
 some (.inr (.inr ())))) 0) fun x4 =>
(match x4 with
| .inl d10 =>
 some false
| .inr d11 =>
 some true))
theorem QaW {a0:(List Qwg)} {r:Bool} (h:ZG a0=some r):PureC Tryz.prog 119 [.d (slD Qwg.enc a0)] (dB r) []:=by
  refine Qq tOk (fn:=Tryz.f119) (c:=Qj Tryz.f119) rfl rfl ?_;unfold ZG at h;(conv=>whnf);refine Qc tOk ?_;(conv=>whnf);refine Qz h (fun _ h=>?_) (fun _ h=>?_)
  · (conv=>whnf);obtain rfl:=sj_ h;exact lfP []
  · (conv=>whnf);refine Qc tOk ?_;(conv=>whnf);obtain ⟨x4,hx4,h⟩:=Qa h;refine Zj tOk hx4 (fun s1=>⟨0,36,[(0,.d (slD Qwg.enc a0)),(3,dI s1)],[],[],[]⟩) ?_ ?_
    · exact leX []
    · clear hx4;intro s1 y2 g3 hy2;(conv=>whnf);refine Qc tOk ?_;(conv=>whnf);refine Qz g3 (fun _ g3=>?_) (fun _ g3=>?_)
      · (conv=>whnf);refine Qc tOk ?_;(conv=>whnf);obtain ⟨g5,g3⟩:=Qf g3;obtain ⟨x6,hx6,g3⟩:=Qa g3;obtain ⟨g7,g3⟩:=Qf g3;obtain ⟨g8,g3⟩:=Qf g3;obtain ⟨x9,hx9,g3⟩:=Qa g3;refine QS tOk [.u 4 0 (dB x6) [],.u 19 0 (dB x9) []] 23 [] [0,0,3,7,15,31,63,127,255,511,1023,1023,3071,8191,16383,1023,1023,99327,230399,524287,1048575,2097151,4194303] [] ?_;(conv=>whnf);refine And.intro g5 ?_;clear g5;(conv=>whnf);refine And.intro (QM (QcM hx6) (by kernel_rfl)) ?_;(conv=>whnf);refine And.intro g7 ?_;clear g7;(conv=>whnf);refine And.intro g8 ?_;clear g8;(conv=>whnf);refine And.intro (Q1 rfl rfl rfl rfl (by intro c0 c1; exact QcW (Qd hx9 ⟨c0,c1⟩))) ?_;(conv=>whnf);refine And.intro (by kernel_rfl) ?_;(conv=>whnf);refine Qz g3 (fun _ g3=>?_) (fun _ g3=>?_)
        · (conv=>whnf);obtain rfl:=sj_ g3;obtain rfl:=hy2 _ rfl;obtain rfl:=sj_ h;exact lfP []
        · (conv=>whnf);obtain rfl:=sj_ g3;exact ⟨_,rfl,leX []⟩
      · (conv=>whnf);obtain rfl:=sj_ g3;obtain rfl:=hy2 _ rfl;obtain rfl:=sj_ h;exact lfP []
noncomputable def JK (a0:Qwh):Option (Bool) :=
 bd (α:=Bool) ((if (a0.Kind == 0)=true then
 some (a0.Kind == 0)
else
 some (a0.Kind == 3))) fun x1 =>
(if x1=true then
 some ((a0.Entry.Addr == 0) && ((a0.Entry.Len == 0) && ((a0.Entry.Cost == 0) && ((a0.Entry.Label == 0) && true))))
else
(if (a0.Kind == 1)=true then
 bd (Z5 a0.Entry) fun x4 =>
 some x4
else
(if (a0.Kind == 2)=true then
 bd (Qao a0.Entry) fun x5 =>
 some ((x5 && (a0.Entry.Cost == 0)) && (a0.Entry.Label == 0))
else
 some false)))
theorem Qd3 {a0:Qwh} {r:Bool} (h:JK a0=some r):PureC Tryz.prog 85 [.agg (dI a0.Kind :: hnC a0.Entry)] (dB r) []:=by
  refine Qq tOk (fn:=Tryz.f85) (c:=Qj Tryz.f85) rfl rfl ?_;unfold JK at h;(conv=>whnf);refine Qc tOk ?_;(conv=>whnf);obtain ⟨x1,hx1,h⟩:=Qa h;refine JZ tOk (fun s2=>⟨0,34,[(1,.ref 1 0 0),(4,dI a0.Kind),(5,dB s2)],[],[(1,.box 33 (dI a0.Kind :: hnC a0.Entry))],[]⟩) (fun s2=>x1=s2) ?_ ?_
  · (conv=>whnf);refine Qz hx1 (fun _ hx1=>?_) (fun _ hx1=>?_)
    · (conv=>whnf);obtain rfl:=sj_ hx1;exact ⟨_,rfl,leX []⟩
    · (conv=>whnf);obtain rfl:=sj_ hx1;exact ⟨_,rfl,leX []⟩
  · rintro _ rfl;(conv=>whnf);refine Qz h (fun _ h=>?_) (fun _ h=>?_)
    · (conv=>whnf);obtain rfl:=sj_ h;exact lfP []
    · (conv=>whnf);refine Qz h (fun _ h=>?_) (fun _ h=>?_)
      · (conv=>whnf);obtain ⟨x4,hx4,h⟩:=Qa h;refine cC 0 (QcM hx4) ?_;clear hx4;(conv=>whnf);obtain rfl:=sj_ h;exact lfP []
      · (conv=>whnf);refine Qz h (fun _ h=>?_) (fun _ h=>?_)
        · (conv=>whnf);obtain ⟨x5,hx5,h⟩:=Qa h;refine cC 0 (Qe8 hx5) ?_;clear hx5;(conv=>whnf);obtain rfl:=sj_ h;exact lfP []
        · (conv=>whnf);obtain rfl:=sj_ h;exact lfP []
noncomputable def Qbt (a0:(List Qwg)) (a1:Qwg):Option (Int) :=
 bd (lp (σ:=Int) (β:=(Int ⊕ Unit)) (fun s1 =>
(if (decide (s1<((a0.length:Nat):Int)))=true then
 gd ((0:Int)≤s1∧s1<((a0.length:Nat):Int)) <|
 gd ((((a0.getD s1.toNat default).Addr) == a1.Addr)=true→((0:Int)≤s1∧s1<((a0.length:Nat):Int))) <|
(if ((((a0.getD s1.toNat default).Addr) == a1.Addr) && (((a0.getD s1.toNat default).Len) == a1.Len))=true then
 some (.inr (.inl s1))
else
 some (.inl (IntKind.i64.wrap (s1+1))))
else
 some (.inr (.inr ())))) 0) fun x4 =>
(match x4 with
| .inl d7 =>
 some d7
| .inr d8 =>
 some (-1))
theorem Qfl {a0:(List Qwg)} {a1:Qwg} {r:Int} (h:Qbt a0 a1=some r):PureC Tryz.prog 165 [.d (slD Qwg.enc a0),.agg (hnC a1)] (dI r) []:=by
  refine Qq tOk (fn:=Tryz.f165) (c:=Qj Tryz.f165) rfl rfl ?_;unfold Qbt at h;(conv=>whnf);refine Qc tOk ?_;(conv=>whnf);obtain ⟨x4,hx4,h⟩:=Qa h;refine Zj tOk hx4 (fun s1=>⟨0,31,[(0,.d (slD Qwg.enc a0)),(3,.ref 3 0 0),(5,dI s1)],[],[(3,.box 31 (hnC a1))],[]⟩) ?_ ?_
  · exact leX []
  · clear hx4;intro s1 y2 g3 hy2;(conv=>whnf);refine Qc tOk ?_;(conv=>whnf);refine Qz g3 (fun _ g3=>?_) (fun _ g3=>?_)
    · (conv=>whnf);refine Qc tOk ?_;(conv=>whnf);obtain ⟨g5,g3⟩:=Qf g3;obtain ⟨g6,g3⟩:=Qf g3;refine QS tOk [] 18 [] [0,0,3,7,15,0,32,127,255,511,511,2047,4095,8191,511,16895,65535,131071] [] ?_;(conv=>whnf);refine And.intro g5 ?_;clear g5;(conv=>whnf);refine And.intro g6 ?_;clear g6;(conv=>whnf);refine And.intro (by kernel_rfl) ?_;(conv=>whnf);refine Qz g3 (fun _ g3=>?_) (fun _ g3=>?_)
      · (conv=>whnf);obtain rfl:=sj_ g3;obtain rfl:=hy2 _ rfl;obtain rfl:=sj_ h;exact lfP []
      · (conv=>whnf);obtain rfl:=sj_ g3;exact ⟨_,rfl,leX []⟩
    · (conv=>whnf);obtain rfl:=sj_ g3;obtain rfl:=hy2 _ rfl;obtain rfl:=sj_ h;exact lfP []
noncomputable def Qbf (a0:(List Qwg)) (a1:Qwg):Option ((List Qwg)) :=
 bd (Qbt a0 a1) fun x1 =>
(if (decide (x1<0))=true then
 bd (Q8 a0) fun x2 =>
 some x2
else
 gd ((0:Int)≤(0:Int)∧(0:Int)≤x1∧x1≤((a0.length:Nat):Int)) <|
 bd (Q8 (a0.take x1.toNat)) fun x4 =>
 gd ((0:Int)≤IntKind.i64.wrap (x1+1)∧IntKind.i64.wrap (x1+1)≤((a0.length:Nat):Int)∧((a0.length:Nat):Int)≤((a0.length:Nat):Int)) <|
 gd (((x4.length)+((QcL ((a0.length:Nat):Int) (IntKind.i64.wrap (x1+1)))))*(32+1)≤70368744177664) <|
 some (x4 ++ (((a0).take ((IntKind.i64.wrap (x1+1)).toNat+(QcL ((a0.length:Nat):Int) (IntKind.i64.wrap (x1+1))))).drop ((IntKind.i64.wrap (x1+1)).toNat))))
theorem Qgc {a0:(List Qwg)} {a1:Qwg} {r:(List Qwg)} (h:Qbf a0 a1=some r):PureC Tryz.prog 152 [.d (slD Qwg.enc a0),.agg (hnC a1)] (.osl 5001 0 r.length) [⟨5001,31,4,r.length,rows Qwg.enc r⟩]:=by
  refine Qq tOk (fn:=Tryz.f152) (c:=Qj Tryz.f152) rfl rfl ?_;unfold Qbf at h;(conv=>whnf);obtain ⟨x1,hx1,h⟩:=Qa h;refine cC 0 (Qfl hx1) ?_;clear hx1;(conv=>whnf);refine Qc tOk ?_;(conv=>whnf);refine Qz h (fun _ h=>?_) (fun _ h=>?_)
  · (conv=>whnf);obtain ⟨x2,hx2,h⟩:=Qa h;refine cC 1000 (ZF hx2) ?_;clear hx2;(conv=>whnf);obtain rfl:=sj_ h;exact lfP [.s [(5001,6001),(6001,5001)]]
  · (conv=>whnf);obtain ⟨g3,h⟩:=Qf h;obtain ⟨x4,hx4,h⟩:=Qa h;obtain ⟨g5,h⟩:=Qf h;refine QS tOk [.u 3 1000 (.osl 5001 0 x4.length) [⟨5001,31,4,x4.length,rows Qwg.enc x4⟩]] 8 [] [0,0,3,7,0,0,32,112] [255,511] ?_;(conv=>whnf);refine And.intro ⟨g3,.inr rfl⟩ ?_;(conv=>whnf);refine And.intro (Qm8 (ZF hx4) rfl Qpj) ?_;(conv=>whnf);refine And.intro ⟨g5,.inr rfl⟩ ?_;(conv=>whnf);refine And.intro (by kernel_rfl) ?_;(conv=>whnf);refine gdI h (fun h=>?_);refine Qj2 (enc:=Qwg.enc) (xs:=x4) (ys:=((a0).take ((IntKind.i64.wrap (x1+1)).toNat+(QcL ((a0.length:Nat):Int) (IntKind.i64.wrap (x1+1))))).drop ((IntKind.i64.wrap (x1+1)).toNat)) ?_;(conv=>whnf);obtain rfl:=sj_ h;exact lfP [.s [(5001,6001),(6001,5001)]]
noncomputable def Qbu (a0:(List Qwg)) (a1:Qwh):Option ((List Qwg)) :=
(if (a1.Kind == 1)=true then
 bd (Qas a0 a1.Entry) fun x1 =>
 some x1
else
(if (a1.Kind == 2)=true then
 bd (Qbf a0 a1.Entry) fun x2 =>
 some x2
else
 bd (Q8 a0) fun x3 =>
 some x3))
theorem QiV {a0:(List Qwg)} {a1:Qwh} {r:(List Qwg)} (h:Qbu a0 a1=some r):PureC Tryz.prog 126 [.d (slD Qwg.enc a0),.agg (dI a1.Kind :: hnC a1.Entry)] (.osl 5001 0 r.length) [⟨5001,31,4,r.length,rows Qwg.enc r⟩]:=by
  refine Qq tOk (fn:=Tryz.f126) (c:=Qj Tryz.f126) rfl rfl ?_;unfold Qbu at h;(conv=>whnf);refine Qc tOk ?_;(conv=>whnf);refine Qz h (fun _ h=>?_) (fun _ h=>?_)
  · (conv=>whnf);obtain ⟨x1,hx1,h⟩:=Qa h;refine cC 1000 (Qdv hx1) ?_;clear hx1;(conv=>whnf);obtain rfl:=sj_ h;exact lfP [.s [(5001,6001),(6001,5001)]]
  · (conv=>whnf);refine Qz h (fun _ h=>?_) (fun _ h=>?_)
    · (conv=>whnf);obtain ⟨x2,hx2,h⟩:=Qa h;refine cC 1000 (Qgc hx2) ?_;clear hx2;(conv=>whnf);obtain rfl:=sj_ h;exact lfP [.s [(5001,6001),(6001,5001)]]
    · (conv=>whnf);obtain ⟨x3,hx3,h⟩:=Qa h;refine cC 1000 (ZF hx3) ?_;clear hx3;(conv=>whnf);obtain rfl:=sj_ h;exact lfP [.s [(5001,6001),(6001,5001)]]
noncomputable def Qbp (a0:(List Qwg)) (a1:Qwh):Option ((List Qwg)) :=
(if (a1.Kind == 1)=true then
 bd (Qas a0 a1.Entry) fun x1 =>
 some x1
else
(if (a1.Kind == 2)=true then
 bd (Qbf a0 a1.Entry) fun x2 =>
 some x2
else
 bd (Q8 a0) fun x3 =>
 some x3))
theorem QgZ {a0:(List Qwg)} {a1:Qwh} {r:(List Qwg)} (h:Qbp a0 a1=some r):EffC Tryz.prog 126 [.d (slD Qwg.enc a0),.agg (dI a1.Kind :: hnC a1.Entry)] [] (.d (slD Qwg.enc r)) []:=by
  refine Q7 tOk (fn:=Tryz.f126) (c:=Qj Tryz.f126) rfl rfl ?_;unfold Qbp at h;(conv=>whnf);refine Qc tOk ?_;(conv=>whnf);refine Qz h (fun _ h=>?_) (fun _ h=>?_)
  · (conv=>whnf);obtain ⟨x1,hx1,h⟩:=Qa h;refine cC 1000 (Qdv hx1) ?_;clear hx1;(conv=>whnf);obtain rfl:=sj_ h;exact lfE [.f [6001]]
  · (conv=>whnf);refine Qz h (fun _ h=>?_) (fun _ h=>?_)
    · (conv=>whnf);obtain ⟨x2,hx2,h⟩:=Qa h;refine cC 1000 (Qgc hx2) ?_;clear hx2;(conv=>whnf);obtain rfl:=sj_ h;exact lfE [.f [6001]]
    · (conv=>whnf);obtain ⟨x3,hx3,h⟩:=Qa h;refine cC 1000 (ZF hx3) ?_;clear hx3;(conv=>whnf);obtain rfl:=sj_ h;exact lfE [.f [6001]]
noncomputable def QaH (a0:Qwj):Option (Bool) :=
 bd (gcall ((decide (((a0.Heard.length:Nat):Int) > 16))=false) (QB a0.Keep 0 6)) fun x1 =>
(if ((decide (((a0.Heard.length:Nat):Int) > 16)) || (!x1))=true then
 some false
else
 bd (lp (σ:=Bool × Int) (β:=(Unit ⊕ Bool)) (fun s2 =>
(if (decide (s2.2<((a0.Heard.length:Nat):Int)))=true then
 gd ((0:Int)≤s2.2∧s2.2<((a0.Heard.length:Nat):Int)) <|
 bd (Z5 ((a0.Heard.getD s2.2.toNat default).Entry)) fun x7 =>
 gd ((decide (s2.2 > 0))=true→((!x7)=false→((0:Int)≤IntKind.i64.wrap (s2.2 - 1)∧IntKind.i64.wrap (s2.2 - 1)<((a0.Heard.length:Nat):Int)))) <|
 bd (gcall ((decide (s2.2 > 0))=true∧(!x7)=false) (ZK ((a0.Heard.getD ((IntKind.i64.wrap (s2.2 - 1)).toNat) default).Entry) ((a0.Heard.getD s2.2.toNat default).Entry))) fun x9 =>
(if (((!x7) || ((decide (s2.2 > 0)) && (!x9))) || ((!((a0.Heard.getD s2.2.toNat default).Stale)) && (a0.Left == 0)))=true then
 some (.inr (.inl ()))
else
 some (.inl ((s2.1 || (a0.Heard.getD s2.2.toNat default).Stale),IntKind.i64.wrap (s2.2+1))))
else
 some (.inr (.inr s2.1)))) (false,0)) fun x5 =>
(match x5 with
| .inl d10 =>
 some false
| .inr d11 =>
 some (d11 == (decide (a0.Keep > 0)))))
theorem QhE {a0:Qwj} {r:Bool} (h:QaH a0=some r):PureC Tryz.prog 127 [.agg (heC a0 (.d (slD Qwi.enc a0.Heard)))] (dB r) []:=by
  refine Qq tOk (fn:=Tryz.f127) (c:=Qj Tryz.f127) rfl rfl ?_;unfold QaH at h;(conv=>whnf);refine Qc tOk ?_;(conv=>whnf);obtain ⟨x1,hx1,h⟩:=Qa h;refine cG (fun c0=>QK (Qd hx1 c0)) ?_;(conv=>whnf);refine Qz h (fun _ h=>?_) (fun _ h=>?_)
  · (conv=>whnf);obtain rfl:=sj_ h;exact lfP []
  · (conv=>whnf);refine Qc tOk ?_;(conv=>whnf);obtain ⟨x5,hx5,h⟩:=Qa h;refine Zj tOk hx5 (fun s2=>⟨0,69,[(1,.ref 1 0 0),(3,dB s2.1),(4,dI s2.2)],[],[(1,.box 36 (heC a0 (.d (slD Qwi.enc a0.Heard))))],[]⟩) ?_ ?_
    · exact leX []
    · clear hx5;intro s2 y3 g4 hy3;(conv=>whnf);refine Qc tOk ?_;(conv=>whnf);refine Qz g4 (fun _ g4=>?_) (fun _ g4=>?_)
      · (conv=>whnf);refine Qc tOk ?_;(conv=>whnf);refine gdI g4 (fun g4=>?_);(conv=>whnf);refine Qc tOk ?_;(conv=>whnf);obtain ⟨x7,hx7,g4⟩:=Qa g4;obtain ⟨g8,g4⟩:=Qf g4;obtain ⟨x9,hx9,g4⟩:=Qa g4;refine QS tOk [.u 2 0 (dB x7) [],.u 17 0 (dB x9) []] 31 [] [0,1,3,7,15,31,63,127,255,511,255,1279,4095,8191,16383,255,33023,131071,262143,524287,1048575,2097151,4194303,8388607,16777215,33554431,67108863,134217727,268435455,536870911,1073741823] [] ?_;(conv=>whnf);refine And.intro (QM (QcM hx7) (by kernel_rfl)) ?_;(conv=>whnf);refine And.intro g8 ?_;clear g8;(conv=>whnf);refine And.intro (Q1 rfl rfl rfl rfl (by intro c0 c1; exact QcW (Qd hx9 ⟨c0,c1⟩))) ?_;(conv=>whnf);refine And.intro (by kernel_rfl) ?_;(conv=>whnf);refine Qz g4 (fun _ g4=>?_) (fun _ g4=>?_)
        · (conv=>whnf);obtain rfl:=sj_ g4;obtain rfl:=hy3 _ rfl;obtain rfl:=sj_ h;exact lfP []
        · (conv=>whnf);obtain rfl:=sj_ g4;exact ⟨_,rfl,leX []⟩
      · (conv=>whnf);obtain rfl:=sj_ g4;obtain rfl:=hy3 _ rfl;obtain rfl:=sj_ h;exact lfP []
noncomputable def ZM (a0:Qwj):Option (Bool) :=
 bd (QB a0.Name 0 65535) fun x1 =>
 bd (gcall ((!x1)=false) (QB a0.Peer 0 65535)) fun x2 =>
 bd (gcall ((((!x1) || (!x2)) || (a0.Name == a0.Peer))=false) (Jh a0.Keys)) fun x3 =>
 bd (gcall (((((!x1) || (!x2)) || (a0.Name == a0.Peer)) || (!x3))=false) (QB a0.Boot 1 1000)) fun x4 =>
 bd (gcall ((((((!x1) || (!x2)) || (a0.Name == a0.Peer)) || (!x3)) || (!x4))=false) (ZG a0.Want)) fun x5 =>
(if ((((((!x1) || (!x2)) || (a0.Name == a0.Peer)) || (!x3)) || (!x4)) || (!x5))=true then
 some false
else
 bd (QB a0.Turn 0 1000000) fun x6 =>
 bd (gcall ((!x6)=false) (QB a0.PeerBoot 0 999)) fun x7 =>
 bd (gcall (((!x6) || (!x7))=false) (QB a0.PeerTurn 0 1000000)) fun x8 =>
(if ((((!x6) || (!x7)) || (!x8)) || (!((a0.PeerBoot == 0) == (a0.PeerTurn == 0))))=true then
 some false
else
 bd (QB a0.Left 0 4) fun x9 =>
(if (((!x9) || ((decide (a0.Left > 0)) && (a0.PeerBoot == 0))) || (a0.Up && (a0.Left == 0)))=true then
 some false
else
 bd (QB a0.Num 0 a0.Turn) fun x10 =>
 bd (gcall ((!x10)=false) (QB a0.Got 0 1000000)) fun x11 =>
 bd (gcall (((!x10) || (!x11))=false) (JK a0.Under)) fun x12 =>
 bd (gcall (((((!x10) || (!x11)) || (!x12)) || ((decide (a0.Under.Kind > 0)) && (a0.Num == 0)))=false) (ZG a0.Told)) fun x13 =>
 bd (gcall ((((((!x10) || (!x11)) || (!x12)) || ((decide (a0.Under.Kind > 0)) && (a0.Num == 0))) || (!x13))=false) (Qbp a0.Told a0.Under)) fun x14 =>
 bd (gcall ((((((!x10) || (!x11)) || (!x12)) || ((decide (a0.Under.Kind > 0)) && (a0.Num == 0))) || (!x13))=false) (ZG x14)) fun x15 =>
(if ((((((!x10) || (!x11)) || (!x12)) || ((decide (a0.Under.Kind > 0)) && (a0.Num == 0))) || (!x13)) || (!x15))=true then
 some false
else
 bd (QaH a0) fun x16 =>
 some x16))))
theorem QaI {a0:Qwj} {r:Bool} (h:ZM a0=some r):PureC Tryz.prog 83 [.agg (heC a0 (.d (slD Qwi.enc a0.Heard)))] (dB r) []:=by
  refine Qq tOk (fn:=Tryz.f83) (c:=Qj Tryz.f83) rfl rfl ?_;unfold ZM at h;(conv=>whnf);refine Qc tOk ?_;(conv=>whnf);obtain ⟨x1,hx1,h⟩:=Qa h;refine cC 0 (QK hx1) ?_;clear hx1;(conv=>whnf);obtain ⟨x2,hx2,h⟩:=Qa h;refine cG (fun c0=>QK (Qd hx2 c0)) ?_;(conv=>whnf);obtain ⟨x3,hx3,h⟩:=Qa h;refine cG (fun c0=>Qcq (Qd hx3 c0)) ?_;(conv=>whnf);obtain ⟨x4,hx4,h⟩:=Qa h;refine cG (fun c0=>QK (Qd hx4 c0)) ?_;(conv=>whnf);obtain ⟨x5,hx5,h⟩:=Qa h;refine cG (fun c0=>QaW (Qd hx5 c0)) ?_;(conv=>whnf);refine Qz h (fun _ h=>?_) (fun _ h=>?_)
  · (conv=>whnf);obtain rfl:=sj_ h;exact lfP []
  · (conv=>whnf);refine Qc tOk ?_;(conv=>whnf);obtain ⟨x6,hx6,h⟩:=Qa h;refine cC 0 (QK hx6) ?_;clear hx6;(conv=>whnf);obtain ⟨x7,hx7,h⟩:=Qa h;refine cG (fun c0=>QK (Qd hx7 c0)) ?_;(conv=>whnf);obtain ⟨x8,hx8,h⟩:=Qa h;refine cG (fun c0=>QK (Qd hx8 c0)) ?_;(conv=>whnf);refine Qz h (fun _ h=>?_) (fun _ h=>?_)
    · (conv=>whnf);obtain rfl:=sj_ h;exact lfP []
    · (conv=>whnf);refine Qc tOk ?_;(conv=>whnf);obtain ⟨x9,hx9,h⟩:=Qa h;refine cC 0 (QK hx9) ?_;clear hx9;(conv=>whnf);refine Qz h (fun _ h=>?_) (fun _ h=>?_)
      · (conv=>whnf);obtain rfl:=sj_ h;exact lfP []
      · (conv=>whnf);refine Qc tOk ?_;(conv=>whnf);obtain ⟨x10,hx10,h⟩:=Qa h;refine cC 0 (QK hx10) ?_;clear hx10;(conv=>whnf);obtain ⟨x11,hx11,h⟩:=Qa h;refine cG (fun c0=>QK (Qd hx11 c0)) ?_;(conv=>whnf);obtain ⟨x12,hx12,h⟩:=Qa h;refine cG (fun c0=>Qd3 (Qd hx12 c0)) ?_;(conv=>whnf);obtain ⟨x13,hx13,h⟩:=Qa h;refine cG (fun c0=>QaW (Qd hx13 c0)) ?_;(conv=>whnf);obtain ⟨x14,hx14,h⟩:=Qa h;refine Qm9 [] 0 rfl rfl rfl (by intro c0; exact QgZ (Qd hx14 c0)) Qpj inA rfl rfl (QfT inA) ?_;(conv=>whnf);obtain ⟨x15,hx15,h⟩:=Qa h;refine cG (fun c0=>QaW (Qd hx15 c0)) ?_;(conv=>whnf);refine Qz h (fun _ h=>?_) (fun _ h=>?_)
        · (conv=>whnf);obtain rfl:=sj_ h;exact lfP []
        · (conv=>whnf);obtain ⟨x16,hx16,h⟩:=Qa h;refine cC 0 (QhE hx16) ?_;clear hx16;(conv=>whnf);obtain rfl:=sj_ h;exact lfP []
noncomputable def QaJ (a0:Int) (a1:Int) (a2:(List Qwf)) (a3:Int) (a4:(List Qwg)):Option (Qwj) :=
 bd (Zg (⟨a0,a1,a2,a3,a4,0,0,0,false,0,0,(⟨0,(⟨0,0,0,0⟩:Qwg)⟩:Qwh),[],false,0,false,[],0⟩:Qwj)) fun x1 =>
 bd (ZM x1) fun x2 =>
(if (!x2)=true then
 some (⟨0,0,[],0,[],0,0,0,false,0,0,(⟨0,(⟨0,0,0,0⟩:Qwg)⟩:Qwh),[],false,0,false,[],0⟩:Qwj)
else
 some x1)
theorem Qfm {a0:Int} {a1:Int} {a2:(List Qwf)} {a3:Int} {a4:(List Qwg)} {r:Qwj} (h:QaJ a0 a1 a2 a3 a4=some r):PureC Tryz.prog 104 [dI a0,dI a1,.d (slD Qwf.enc a2),dI a3,.d (slD Qwg.enc a4)] (.agg (dI r.Name :: dI r.Peer :: .osl 5001 0 r.Keys.length :: dI r.Boot :: .osl 5002 0 r.Want.length :: dI r.Turn :: dI r.PeerBoot :: dI r.PeerTurn :: dB r.Up :: dI r.Left :: dI r.Num :: dI r.Under.Kind :: hnC r.Under.Entry ++ [.osl 5003 0 r.Told.length,dB r.All,dI r.Got,dB r.Full,.osl 5004 0 r.Heard.length,dI r.Keep])) [⟨5001,93,2,r.Keys.length,rows Qwf.enc r.Keys⟩,⟨5002,31,4,r.Want.length,rows Qwg.enc r.Want⟩,⟨5003,31,4,r.Told.length,rows Qwg.enc r.Told⟩,⟨5004,96,5,r.Heard.length,rows Qwi.enc r.Heard⟩]:=by
  refine Qq tOk (fn:=Tryz.f104) (c:=Qj Tryz.f104) rfl rfl ?_;unfold QaJ at h;(conv=>whnf);obtain ⟨x1,hx1,h⟩:=Qa h;refine QtR 1000 (Jf hx1) rfl Qpj rfl ?_;(conv=>whnf);refine Qc tOk ?_;(conv=>whnf);obtain ⟨x2,hx2,h⟩:=Qa h;refine cC 0 (QaI hx2) ?_;clear hx2;(conv=>whnf);refine Qz h (fun _ h=>?_) (fun _ h=>?_)
  · (conv=>whnf);obtain rfl:=sj_ h;exact lfP [.k [11,6001,6002,6003,6004],.p 5001 93 2 (rows Qwf.enc ([]:List Qwf)),.p 5002 31 4 (rows Qwg.enc ([]:List Qwg)),.p 5003 31 4 (rows Qwg.enc ([]:List Qwg)),.p 5004 96 5 (rows Qwi.enc ([]:List Qwi))]
  · (conv=>whnf);obtain rfl:=sj_ h;exact lfP [.s [(5001,6001),(5002,6002),(5003,6003),(5004,6004),(6001,5001),(6002,5002),(6003,5003),(6004,5004)]]
noncomputable def Qap (a0:Qwk):Option (Bool) :=
 bd (ZM a0.End) fun x1 =>
(if (!x1)=true then
 some false
else
 some (a0.Up || ((((((((((a0.End.Turn == 0) && (a0.End.PeerBoot == 0)) && (!a0.End.Up)) && (a0.End.Num == 0)) && (a0.End.Under.Kind == 0)) && (((a0.End.Told.length:Nat):Int) == 0)) && (!a0.End.All)) && (a0.End.Got == 0)) && (!a0.End.Full)) && (((a0.End.Heard.length:Nat):Int) == 0))))
theorem Qe9 {a0:Qwk} {r:Bool} (h:Qap a0=some r):PureC Tryz.prog 45 [.agg (dB a0.Up :: heC a0.End (.d (slD Qwi.enc a0.End.Heard)))] (dB r) []:=by
  refine Qq tOk (fn:=Tryz.f45) (c:=Qj Tryz.f45) rfl rfl ?_;unfold Qap at h;(conv=>whnf);refine Qc tOk ?_;(conv=>whnf);obtain ⟨x1,hx1,h⟩:=Qa h;refine cC 0 (QaI hx1) ?_;clear hx1;(conv=>whnf);refine Qz h (fun _ h=>?_) (fun _ h=>?_)
  · (conv=>whnf);obtain rfl:=sj_ h;exact lfP []
  · (conv=>whnf);obtain rfl:=sj_ h;exact lfP []
noncomputable def Ji (a0:Qwl):Option (Bool) :=
 bd (QB a0.From 0 65535) fun x1 =>
 bd (gcall ((!x1)=false) (QB a0.To 0 65535)) fun x2 =>
 bd (gcall (((!x1) || (!x2))=false) (QB a0.Key 1 9)) fun x3 =>
 bd (gcall ((((!x1) || (!x2)) || (!x3))=false) (QB a0.Boot 1 999)) fun x4 =>
 bd (gcall (((((!x1) || (!x2)) || (!x3)) || (!x4))=false) (QB a0.Yours 0 999)) fun x5 =>
(if (((((!x1) || (!x2)) || (!x3)) || (!x4)) || (!x5))=true then
 some false
else
 bd (QB a0.Turn 1 1000000) fun x6 =>
 bd (gcall ((!x6)=false) (QB a0.Num 0 a0.Turn)) fun x7 =>
 bd (gcall (((!x6) || (!x7))=false) (QB a0.Heard 0 1000000)) fun x8 =>
 bd (gcall ((((!x6) || (!x7)) || (!x8))=false) (QB a0.Sum 0 2147483646)) fun x9 =>
(if ((((!x6) || (!x7)) || (!x8)) || (!x9))=true then
 some false
else
 bd (JK a0.Change) fun x10 =>
 some (x10 && ((a0.Change.Kind == 0) || (decide (a0.Num > 0))))))
theorem Qcr {a0:Qwl} {r:Bool} (h:Ji a0=some r):PureC Tryz.prog 46 [.agg (hwC a0)] (dB r) []:=by
  refine Qq tOk (fn:=Tryz.f46) (c:=Qj Tryz.f46) rfl rfl ?_;unfold Ji at h;(conv=>whnf);refine Qc tOk ?_;(conv=>whnf);obtain ⟨x1,hx1,h⟩:=Qa h;refine cC 0 (QK hx1) ?_;clear hx1;(conv=>whnf);obtain ⟨x2,hx2,h⟩:=Qa h;refine cG (fun c0=>QK (Qd hx2 c0)) ?_;(conv=>whnf);obtain ⟨x3,hx3,h⟩:=Qa h;refine cG (fun c0=>QK (Qd hx3 c0)) ?_;(conv=>whnf);obtain ⟨x4,hx4,h⟩:=Qa h;refine cG (fun c0=>QK (Qd hx4 c0)) ?_;(conv=>whnf);obtain ⟨x5,hx5,h⟩:=Qa h;refine cG (fun c0=>QK (Qd hx5 c0)) ?_;(conv=>whnf);refine Qz h (fun _ h=>?_) (fun _ h=>?_)
  · (conv=>whnf);obtain rfl:=sj_ h;exact lfP []
  · (conv=>whnf);refine Qc tOk ?_;(conv=>whnf);obtain ⟨x6,hx6,h⟩:=Qa h;refine cC 0 (QK hx6) ?_;clear hx6;(conv=>whnf);obtain ⟨x7,hx7,h⟩:=Qa h;refine cG (fun c0=>QK (Qd hx7 c0)) ?_;(conv=>whnf);obtain ⟨x8,hx8,h⟩:=Qa h;refine cG (fun c0=>QK (Qd hx8 c0)) ?_;(conv=>whnf);obtain ⟨x9,hx9,h⟩:=Qa h;refine cG (fun c0=>QK (Qd hx9 c0)) ?_;(conv=>whnf);refine Qz h (fun _ h=>?_) (fun _ h=>?_)
    · (conv=>whnf);obtain rfl:=sj_ h;exact lfP []
    · (conv=>whnf);obtain ⟨x10,hx10,h⟩:=Qa h;refine cC 0 (Qd3 hx10) ?_;clear hx10;(conv=>whnf);obtain rfl:=sj_ h;exact lfP []
noncomputable def Js (a0:Qwm):Option (Bool) :=
 gd ((((a0.Sides.length:Nat):Int) != 2)=false→((0:Int)≤0∧0<((a0.Sides.length:Nat):Int))) <|
 bd (gcall ((((a0.Sides.length:Nat):Int) != 2)=false) (Qap (⟨(a0.Sides.getD 0 default).Up,{ ((a0.Sides.getD 0 default).End) with Under:=(⟨(((a0.Sides.getD 0 default).End).Under).Kind,((((a0.Sides.getD 0 default).End).Under).Entry)⟩:Qwh) }⟩:Qwk))) fun x2 =>
 gd (((((a0.Sides.length:Nat):Int) != 2) || (!x2))=false→((0:Int)≤1∧1<((a0.Sides.length:Nat):Int))) <|
 bd (gcall (((((a0.Sides.length:Nat):Int) != 2) || (!x2))=false) (Qap (⟨(a0.Sides.getD 1 default).Up,{ ((a0.Sides.getD 1 default).End) with Under:=(⟨(((a0.Sides.getD 1 default).End).Under).Kind,((((a0.Sides.getD 1 default).End).Under).Entry)⟩:Qwh) }⟩:Qwk))) fun x4 =>
 gd ((((((a0.Sides.length:Nat):Int) != 2) || (!x2)) || (!x4))=false→((0:Int)≤0∧0<((a0.Sides.length:Nat):Int))) <|
 gd ((((((a0.Sides.length:Nat):Int) != 2) || (!x2)) || (!x4))=false→((0:Int)≤1∧1<((a0.Sides.length:Nat):Int))) <|
 gd (((((((a0.Sides.length:Nat):Int) != 2) || (!x2)) || (!x4)) || ((((a0.Sides.getD 0 default).End).Name) != (((a0.Sides.getD 1 default).End).Peer)))=false→((0:Int)≤1∧1<((a0.Sides.length:Nat):Int))) <|
 gd (((((((a0.Sides.length:Nat):Int) != 2) || (!x2)) || (!x4)) || ((((a0.Sides.getD 0 default).End).Name) != (((a0.Sides.getD 1 default).End).Peer)))=false→((0:Int)≤0∧0<((a0.Sides.length:Nat):Int))) <|
(if ((((((((a0.Sides.length:Nat):Int) != 2) || (!x2)) || (!x4)) || ((((a0.Sides.getD 0 default).End).Name) != (((a0.Sides.getD 1 default).End).Peer))) || ((((a0.Sides.getD 1 default).End).Name) != (((a0.Sides.getD 0 default).End).Peer))) || (decide (((a0.Radio.length:Nat):Int) > 12)))=true then
 some false
else
 bd (lp (σ:=Int) (β:=(Unit ⊕ Unit)) (fun s9 =>
(if (decide (s9<((a0.Radio.length:Nat):Int)))=true then
 gd ((0:Int)≤s9∧s9<((a0.Radio.length:Nat):Int)) <|
 bd (Ji ({ (a0.Radio.getD s9.toNat default) with Change:=(⟨((a0.Radio.getD s9.toNat default).Change).Kind,(((a0.Radio.getD s9.toNat default).Change).Entry)⟩:Qwh) })) fun x14 =>
(if (!x14)=true then
 some (.inr (.inl ()))
else
 some (.inl (IntKind.i64.wrap (s9+1))))
else
 some (.inr (.inr ())))) 0) fun x12 =>
(match x12 with
| .inl d15 =>
 some false
| .inr d16 =>
 some true))
theorem QdJ {a0:Qwm} {r:Bool} (h:Js a0=some r):PureC Tryz.prog 21 [.agg [.d (slD Qwk.enc a0.Sides),.d (slD Qwl.enc a0.Radio)]] (dB r) []:=by
  refine Qq tOk (fn:=Tryz.f21) (c:=Qj Tryz.f21) rfl rfl ?_;unfold Js at h;(conv=>whnf);refine Qc tOk ?_;(conv=>whnf);obtain ⟨g1,h⟩:=Qf h;obtain ⟨x2,hx2,h⟩:=Qa h;obtain ⟨g3,h⟩:=Qf h;obtain ⟨x4,hx4,h⟩:=Qa h;obtain ⟨g5,h⟩:=Qf h;obtain ⟨g6,h⟩:=Qf h;obtain ⟨g7,h⟩:=Qf h;obtain ⟨g8,h⟩:=Qf h;refine QS tOk [.u 9 0 (dB x2) [],.u 17 0 (dB x4) []] 56 [] [0,1,3,7,15,31,63,127,255,511,1023,2047,4095,8191,16383,32767,65535,131071,262143,524287,1048575,2097151,4194303,8388607,16777215,33554431,67108863,2097151,136314879,404750335,941621247,2015363071,4162846719,8589934591,17179869183,34359738367,68719476735,137438953471,274877906943,549755813887,1099511627775,2199023255551,68719476735,4466765987839,13262859010047,30855045054463,66039417143295,136408161320959,281474976710655,562949953421311,1125899906842623,2251799813685247,4503599627370495,9007199254740991,18014398509481983,36028797018963967] [] ?_;(conv=>whnf);refine And.intro g1 ?_;clear g1;(conv=>whnf);refine And.intro (Q1 rfl rfl rfl rfl (by intro c0; exact Qe9 (Qd hx2 c0))) ?_;(conv=>whnf);refine And.intro g3 ?_;clear g3;(conv=>whnf);refine And.intro (Q1 rfl rfl rfl rfl (by intro c0; exact Qe9 (Qd hx4 c0))) ?_;(conv=>whnf);refine And.intro g5 ?_;clear g5;(conv=>whnf);refine And.intro g6 ?_;clear g6;(conv=>whnf);refine And.intro g7 ?_;clear g7;(conv=>whnf);refine And.intro g8 ?_;clear g8;(conv=>whnf);refine And.intro (by kernel_rfl) ?_;(conv=>whnf);refine Qz h (fun _ h=>?_) (fun _ h=>?_)
  · (conv=>whnf);obtain rfl:=sj_ h;exact lfP []
  · (conv=>whnf);refine Qc tOk ?_;(conv=>whnf);obtain ⟨x12,hx12,h⟩:=Qa h;refine Zj tOk hx12 (fun s9=>⟨0,74,[(1,.ref 1 0 0),(3,dI s9)],[],[(1,.box 26 [.d (slD Qwk.enc a0.Sides),.d (slD Qwl.enc a0.Radio)])],[]⟩) ?_ ?_
    · exact leX []
    · clear hx12;intro s9 y10 g11 hy10;(conv=>whnf);refine Qc tOk ?_;(conv=>whnf);refine Qz g11 (fun _ g11=>?_) (fun _ g11=>?_)
      · (conv=>whnf);refine Qc tOk ?_;(conv=>whnf);refine gdI g11 (fun g11=>?_);(conv=>whnf);obtain ⟨x14,hx14,g11⟩:=Qa g11;refine cC 0 (Qcr hx14) ?_;clear hx14;(conv=>whnf);refine Qz g11 (fun _ g11=>?_) (fun _ g11=>?_)
        · (conv=>whnf);obtain rfl:=sj_ g11;obtain rfl:=hy10 _ rfl;obtain rfl:=sj_ h;exact lfP []
        · (conv=>whnf);obtain rfl:=sj_ g11;exact ⟨_,rfl,leX []⟩
      · (conv=>whnf);obtain rfl:=sj_ g11;obtain rfl:=hy10 _ rfl;obtain rfl:=sj_ h;exact lfP []
noncomputable def Qcd (a0:Int) (a1:Int) (a2:(List Qwf)) (a3:(List Qwg)) (a4:(List Qwg)):Option (Qwm × Bool) :=
 bd (QaJ a0 a1 a2 1 a3) fun x1 =>
 bd (QaJ a1 a0 a2 1 a4) fun x2 =>
 bd (Js (⟨([(⟨true,x1⟩:Qwk),(⟨true,x2⟩:Qwk)]:List Qwk),[]⟩:Qwm)) fun x3 =>
(if (!x3)=true then
 some ((⟨[],[]⟩:Qwm),false)
else
 some ((⟨([(⟨true,x1⟩:Qwk),(⟨true,x2⟩:Qwk)]:List Qwk),[]⟩:Qwm),true))
theorem Qiq {a0:Int} {a1:Int} {a2:(List Qwf)} {a3:(List Qwg)} {a4:(List Qwg)} {r:Qwm × Bool} (h:Qcd a0 a1 a2 a3 a4=some r):EffC Tryz.prog 68 [dI a0,dI a1,.d (slD Qwf.enc a2),.d (slD Qwg.enc a3),.d (slD Qwg.enc a4)] [] (.tup [.agg [.osl 5001 0 r.1.Sides.length,.osl 5002 0 r.1.Radio.length],dB r.2]) [(5001,.arr 38 23 r.1.Sides.length (rows Qwk.enc r.1.Sides)),(5002,.arr 42 14 r.1.Radio.length (rows Qwl.enc r.1.Radio))]:=by
  refine Q7 tOk (fn:=Tryz.f68) (c:=Qj Tryz.f68) rfl rfl ?_;unfold Qcd at h;(conv=>whnf);obtain ⟨x1,hx1,h⟩:=Qa h;refine cC 1000 (Qfm hx1) ?_;clear hx1;(conv=>whnf);obtain ⟨x2,hx2,h⟩:=Qa h;refine cC 2000 (Qfm hx2) ?_;clear hx2;(conv=>whnf);refine Qj1 (enc:=Qwk.enc) ([(⟨true,x1⟩:Qwk),(⟨true,x2⟩:Qwk)]:List Qwk) ?_;(conv=>whnf);refine Qc tOk ?_;(conv=>whnf);obtain ⟨x3,hx3,h⟩:=Qa h;refine QtR 0 (QdJ hx3) rfl Qpj rfl ?_;(conv=>whnf);refine Qz h (fun _ h=>?_) (fun _ h=>?_)
  · (conv=>whnf);obtain rfl:=sj_ h;exact lfE [.k [12,25],.p 5001 38 23 (rows Qwk.enc ([]:List Qwk)),.p 5002 42 14 (rows Qwl.enc ([]:List Qwl))]
  · (conv=>whnf);obtain rfl:=sj_ h;exact lfE [.k [12],.s [(25,5001),(5001,25)],.p 5002 42 14 (rows Qwl.enc ([]:List Qwl))]
noncomputable def Qbv (a0:Qwe):Option (Qwm × Qwe) :=
 bd (Qe a0 2) fun x1 =>
 bd (Qbe (⟨a0.b,x1.2.p⟩:Qwe)) fun x2 =>
 bd (Qaa (⟨a0.b,x2.2.p⟩:Qwe)) fun x3 =>
 bd (Qaa (⟨a0.b,x3.2.p⟩:Qwe)) fun x4 =>
 bd (Qcd 1 (IntKind.i64.wrap (2+(IntKind.i64.wrap (x1.1*65533)))) x2.1 x3.1 x4.1) fun x5 =>
 some (x5.1,(⟨a0.b,x4.2.p⟩:Qwe))
theorem QiW {a0:Qwe} {r:Qwm × Qwe} (h:Qbv a0=some r):EffC Tryz.prog 34 [.ref 9000 0 0] [(9000,.box 75 [.d (slD QR a0.b),dI a0.p])] (.agg [.osl 5001 0 r.1.Sides.length,.osl 5002 0 r.1.Radio.length]) [(9000,.box 75 [.d (slD QR a0.b),dI r.2.p]),(5001,.arr 38 23 r.1.Sides.length (rows Qwk.enc r.1.Sides)),(5002,.arr 42 14 r.1.Radio.length (rows Qwl.enc r.1.Radio))]:=by
  refine Q7 tOk (fn:=Tryz.f34) (c:=Qj Tryz.f34) rfl rfl ?_;unfold Qbv at h;(conv=>whnf);obtain ⟨x1,hx1,h⟩:=Qa h;refine cE [(9000,9000)] 0 (Qh hx1) ?_;(conv=>whnf);obtain ⟨x2,hx2,h⟩:=Qa h;refine cE [(9000,9000)] 1000 (Qf9 hx2) ?_;(conv=>whnf);obtain ⟨x3,hx3,h⟩:=Qa h;refine cE [(9000,9000)] 2000 (QdI hx3) ?_;(conv=>whnf);obtain ⟨x4,hx4,h⟩:=Qa h;refine cE [(9000,9000)] 3000 (QdI hx4) ?_;(conv=>whnf);obtain ⟨x5,hx5,h⟩:=Qa h;refine Qgd [6001,7001,8001] ?_;(conv=>whnf);refine cE [] 1000 (Qiq hx5) ?_;(conv=>whnf);obtain rfl:=sj_ h;exact lfE [.s [(5001,6001),(5002,6002),(6001,5001),(6002,5002)]]
noncomputable def Qat (a0:Int) (a1:Int):Option (Int) :=
 gd ((2147483647:Int) ≠ 0) <|
(if (decide (((a1:Int).tmod 2147483647)<0))=true then
 gd ((2147483647:Int) ≠ 0) <|
 some ((IntKind.i64.wrap ((IntKind.i64.wrap ((IntKind.i64.wrap (a0*48271))+(IntKind.i64.wrap (((a1:Int).tmod 2147483647)+2147483647))))+1):Int).tmod 2147483647)
else
 gd ((2147483647:Int) ≠ 0) <|
 some ((IntKind.i64.wrap ((IntKind.i64.wrap ((IntKind.i64.wrap (a0*48271))+((a1:Int).tmod 2147483647)))+1):Int).tmod 2147483647))
theorem QeF {a0:Int} {a1:Int} {r:Int} (h:Qat a0 a1=some r):PureC Tryz.prog 144 [dI a0,dI a1] (dI r) []:=by
  refine Qq tOk (fn:=Tryz.f144) (c:=Qj Tryz.f144) rfl rfl ?_;unfold Qat at h;(conv=>whnf);refine gdI h (fun h=>?_);(conv=>whnf);refine Qc tOk ?_;(conv=>whnf);refine Qz h (fun _ h=>?_) (fun _ h=>?_)
  · (conv=>whnf);refine gdI h (fun h=>?_);(conv=>whnf);obtain rfl:=sj_ h;exact lfP []
  · (conv=>whnf);refine gdI h (fun h=>?_);(conv=>whnf);obtain rfl:=sj_ h;exact lfP []
noncomputable def Qab (a0:Int) (a1:Qwl):Option (Int) :=
 bd (Qat 0 a0) fun x1 =>
 bd (lp (σ:=Int × Int) (β:=(Int)) (fun s2 =>
(if (decide (s2.2<((([a1.From,a1.To,a1.Key,a1.Boot,a1.Yours,a1.Turn,a1.Num,a1.Heard,a1.Change.Kind,a1.Change.Entry.Addr,a1.Change.Entry.Len,a1.Change.Entry.Cost,a1.Change.Entry.Label]:List Int).length:Nat):Int)))=true then
 gd ((0:Int)≤s2.2∧s2.2<((([a1.From,a1.To,a1.Key,a1.Boot,a1.Yours,a1.Turn,a1.Num,a1.Heard,a1.Change.Kind,a1.Change.Entry.Addr,a1.Change.Entry.Len,a1.Change.Entry.Cost,a1.Change.Entry.Label]:List Int).length:Nat):Int)) <|
 bd (Qat s2.1 (([a1.From,a1.To,a1.Key,a1.Boot,a1.Yours,a1.Turn,a1.Num,a1.Heard,a1.Change.Kind,a1.Change.Entry.Addr,a1.Change.Entry.Len,a1.Change.Entry.Cost,a1.Change.Entry.Label]:List Int).getD s2.2.toNat default)) fun x7 =>
 some (.inl (x7,IntKind.i64.wrap (s2.2+1)))
else
 some (.inr s2.1))) (x1,0)) fun x5 =>
 bd (Qat x5 a0) fun x9 =>
 some x9
theorem QdK {a0:Int} {a1:Qwl} {r:Int} (h:Qab a0 a1=some r):PureC Tryz.prog 107 [dI a0,.agg (hwC a1)] (dI r) []:=by
  refine Qq tOk (fn:=Tryz.f107) (c:=Qj Tryz.f107) rfl rfl ?_;unfold Qab at h;(conv=>whnf);obtain ⟨x1,hx1,h⟩:=Qa h;refine cC 0 (QeF hx1) ?_;clear hx1;(conv=>whnf);refine Qj1 (enc:=Qgb) ([a1.From,a1.To,a1.Key,a1.Boot,a1.Yours,a1.Turn,a1.Num,a1.Heard,a1.Change.Kind,a1.Change.Entry.Addr,a1.Change.Entry.Len,a1.Change.Entry.Cost,a1.Change.Entry.Label]:List Int) ?_;(conv=>whnf);refine Qc tOk ?_;(conv=>whnf);obtain ⟨x5,hx5,h⟩:=Qa h;refine Zj tOk hx5 (fun s2=>⟨0,61,[(0,dI a0),(5,dI s2.1),(6,.osl 45 0 (([a1.From,a1.To,a1.Key,a1.Boot,a1.Yours,a1.Turn,a1.Num,a1.Heard,a1.Change.Kind,a1.Change.Entry.Addr,a1.Change.Entry.Len,a1.Change.Entry.Cost,a1.Change.Entry.Label]:List Int).length)),(7,dI s2.2)],[],[(45,.arr 3 1 (([a1.From,a1.To,a1.Key,a1.Boot,a1.Yours,a1.Turn,a1.Num,a1.Heard,a1.Change.Kind,a1.Change.Entry.Addr,a1.Change.Entry.Len,a1.Change.Entry.Cost,a1.Change.Entry.Label]:List Int).length) (rows Qgb ([a1.From,a1.To,a1.Key,a1.Boot,a1.Yours,a1.Turn,a1.Num,a1.Heard,a1.Change.Kind,a1.Change.Entry.Addr,a1.Change.Entry.Len,a1.Change.Entry.Cost,a1.Change.Entry.Label]:List Int)))],[]⟩) ?_ ?_
  · exact leX []
  · clear hx5;intro s2 y3 g4 hy3;(conv=>whnf);refine Qc tOk ?_;(conv=>whnf);refine Qz g4 (fun _ g4=>?_) (fun _ g4=>?_)
    · (conv=>whnf);refine Qc tOk ?_;(conv=>whnf);refine gdI g4 (fun g4=>?_);(conv=>whnf);obtain ⟨x7,hx7,g4⟩:=Qa g4;refine cC 0 (QeF hx7) ?_;clear hx7;(conv=>whnf);obtain rfl:=sj_ g4;exact ⟨_,rfl,leX []⟩
    · (conv=>whnf);obtain rfl:=sj_ g4;obtain rfl:=hy3 _ rfl;obtain ⟨x9,hx9,h⟩:=Qa h;refine cC 0 (QeF hx9) ?_;clear hx9;(conv=>whnf);obtain rfl:=sj_ h;exact lfP []
noncomputable def Qa2 (a0:Qwe) (a1:Qwm):Option (Qwl × Qwe) :=
 bd (Qe a0 2) fun x1 =>
 gd ((0:Int)≤x1.1∧x1.1<((a1.Sides.length:Nat):Int)) <|
 bd (Qe (⟨a0.b,x1.2.p⟩:Qwe) 2) fun x3 =>
 bd (Qe (⟨a0.b,x3.2.p⟩:Qwe) 5) fun x4 =>
 bd (Qe (⟨a0.b,x4.2.p⟩:Qwe) 200) fun x5 =>
 bd (Qe (⟨a0.b,x5.2.p⟩:Qwe) 3) fun x6 =>
 bd (Qe (⟨a0.b,x6.2.p⟩:Qwe) 9) fun x7 =>
 bd (Qe (⟨a0.b,x7.2.p⟩:Qwe) 2) fun x8 =>
 bd (Qe (⟨a0.b,x8.2.p⟩:Qwe) 4) fun x9 =>
 bd (α:=Int ⊕ ((Int × Int × Int × Int × Int × Int × Int × Int × Int × Int × Int × Int × Int × Int × Int) ⊕ (Int × Int × Int × Int × Int × Int × Int × Int × Int × Int × Int × Int × Int × Int))) ((if (decide (((a1.Radio.length:Nat):Int) > 0))=true then
 bd (Qe (⟨a0.b,x9.2.p⟩:Qwe) 2) fun x14 =>
(if ((decide (((a1.Radio.length:Nat):Int) > 0)) && (x14.1 == 0))=true then
 bd (Qe (⟨a0.b,x14.2.p⟩:Qwe) ((a1.Radio.length:Nat):Int)) fun x15 =>
 gd ((0:Int)≤x15.1∧x15.1<((a1.Radio.length:Nat):Int)) <|
 bd (Qe (⟨a0.b,x15.2.p⟩:Qwe) 4) fun x17 =>
(if (x17.1 == 0)=true then
 bd (Qe (⟨a0.b,x17.2.p⟩:Qwe) 9) fun x18 =>
 some (.inr (.inl ((a1.Radio.getD x15.1.toNat default).From,(a1.Radio.getD x15.1.toNat default).To,(a1.Radio.getD x15.1.toNat default).Key,(a1.Radio.getD x15.1.toNat default).Boot,(a1.Radio.getD x15.1.toNat default).Yours,IntKind.i64.wrap ((IntKind.i64.wrap (((a1.Radio.getD x15.1.toNat default).Turn)+1))+x18.1),(a1.Radio.getD x15.1.toNat default).Num,(a1.Radio.getD x15.1.toNat default).Heard,((a1.Radio.getD x15.1.toNat default).Change).Kind,(((a1.Radio.getD x15.1.toNat default).Change).Entry).Addr,(((a1.Radio.getD x15.1.toNat default).Change).Entry).Len,(((a1.Radio.getD x15.1.toNat default).Change).Entry).Cost,(((a1.Radio.getD x15.1.toNat default).Change).Entry).Label,(a1.Radio.getD x15.1.toNat default).Sum,x18.2.p)))
else
(if (x17.1 == 1)=true then
 some (.inr (.inl ((a1.Radio.getD x15.1.toNat default).From,(a1.Radio.getD x15.1.toNat default).To,(a1.Radio.getD x15.1.toNat default).Key,(a1.Radio.getD x15.1.toNat default).Boot,(a1.Radio.getD x15.1.toNat default).Yours,(a1.Radio.getD x15.1.toNat default).Turn,(a1.Radio.getD x15.1.toNat default).Num,IntKind.i64.wrap (((a1.Radio.getD x15.1.toNat default).Heard)+1),((a1.Radio.getD x15.1.toNat default).Change).Kind,(((a1.Radio.getD x15.1.toNat default).Change).Entry).Addr,(((a1.Radio.getD x15.1.toNat default).Change).Entry).Len,(((a1.Radio.getD x15.1.toNat default).Change).Entry).Cost,(((a1.Radio.getD x15.1.toNat default).Change).Entry).Label,(a1.Radio.getD x15.1.toNat default).Sum,x17.2.p)))
else
(if (x17.1 == 2)=true then
 some (.inr (.inl ((a1.Radio.getD x15.1.toNat default).From,(a1.Radio.getD x15.1.toNat default).To,(a1.Radio.getD x15.1.toNat default).Key,IntKind.i64.wrap (((a1.Radio.getD x15.1.toNat default).Boot)+1),(a1.Radio.getD x15.1.toNat default).Yours,(a1.Radio.getD x15.1.toNat default).Turn,(a1.Radio.getD x15.1.toNat default).Num,(a1.Radio.getD x15.1.toNat default).Heard,((a1.Radio.getD x15.1.toNat default).Change).Kind,(((a1.Radio.getD x15.1.toNat default).Change).Entry).Addr,(((a1.Radio.getD x15.1.toNat default).Change).Entry).Len,(((a1.Radio.getD x15.1.toNat default).Change).Entry).Cost,(((a1.Radio.getD x15.1.toNat default).Change).Entry).Label,(a1.Radio.getD x15.1.toNat default).Sum,x17.2.p)))
else
 bd (J9 (⟨a0.b,x17.2.p⟩:Qwe)) fun x19 =>
 some (.inr (.inr ((a1.Radio.getD x15.1.toNat default).From,(a1.Radio.getD x15.1.toNat default).To,(a1.Radio.getD x15.1.toNat default).Key,(a1.Radio.getD x15.1.toNat default).Boot,(a1.Radio.getD x15.1.toNat default).Yours,IntKind.i64.wrap (((a1.Radio.getD x15.1.toNat default).Turn)+1),IntKind.i64.wrap (((a1.Radio.getD x15.1.toNat default).Num)+1),(a1.Radio.getD x15.1.toNat default).Heard,x19.1.Addr,x19.1.Len,x19.1.Cost,x19.1.Label,(a1.Radio.getD x15.1.toNat default).Sum,x19.2.p))))))
else
 some (.inl x14.2.p))
else
(if ((decide (((a1.Radio.length:Nat):Int) > 0)) && ((0:Int) == 0))=true then
 bd (Qe (⟨a0.b,x9.2.p⟩:Qwe) ((a1.Radio.length:Nat):Int)) fun x20 =>
 gd ((0:Int)≤x20.1∧x20.1<((a1.Radio.length:Nat):Int)) <|
 bd (Qe (⟨a0.b,x20.2.p⟩:Qwe) 4) fun x22 =>
(if (x22.1 == 0)=true then
 bd (Qe (⟨a0.b,x22.2.p⟩:Qwe) 9) fun x23 =>
 some (.inr (.inl ((a1.Radio.getD x20.1.toNat default).From,(a1.Radio.getD x20.1.toNat default).To,(a1.Radio.getD x20.1.toNat default).Key,(a1.Radio.getD x20.1.toNat default).Boot,(a1.Radio.getD x20.1.toNat default).Yours,IntKind.i64.wrap ((IntKind.i64.wrap (((a1.Radio.getD x20.1.toNat default).Turn)+1))+x23.1),(a1.Radio.getD x20.1.toNat default).Num,(a1.Radio.getD x20.1.toNat default).Heard,((a1.Radio.getD x20.1.toNat default).Change).Kind,(((a1.Radio.getD x20.1.toNat default).Change).Entry).Addr,(((a1.Radio.getD x20.1.toNat default).Change).Entry).Len,(((a1.Radio.getD x20.1.toNat default).Change).Entry).Cost,(((a1.Radio.getD x20.1.toNat default).Change).Entry).Label,(a1.Radio.getD x20.1.toNat default).Sum,x23.2.p)))
else
(if (x22.1 == 1)=true then
 some (.inr (.inl ((a1.Radio.getD x20.1.toNat default).From,(a1.Radio.getD x20.1.toNat default).To,(a1.Radio.getD x20.1.toNat default).Key,(a1.Radio.getD x20.1.toNat default).Boot,(a1.Radio.getD x20.1.toNat default).Yours,(a1.Radio.getD x20.1.toNat default).Turn,(a1.Radio.getD x20.1.toNat default).Num,IntKind.i64.wrap (((a1.Radio.getD x20.1.toNat default).Heard)+1),((a1.Radio.getD x20.1.toNat default).Change).Kind,(((a1.Radio.getD x20.1.toNat default).Change).Entry).Addr,(((a1.Radio.getD x20.1.toNat default).Change).Entry).Len,(((a1.Radio.getD x20.1.toNat default).Change).Entry).Cost,(((a1.Radio.getD x20.1.toNat default).Change).Entry).Label,(a1.Radio.getD x20.1.toNat default).Sum,x22.2.p)))
else
(if (x22.1 == 2)=true then
 some (.inr (.inl ((a1.Radio.getD x20.1.toNat default).From,(a1.Radio.getD x20.1.toNat default).To,(a1.Radio.getD x20.1.toNat default).Key,IntKind.i64.wrap (((a1.Radio.getD x20.1.toNat default).Boot)+1),(a1.Radio.getD x20.1.toNat default).Yours,(a1.Radio.getD x20.1.toNat default).Turn,(a1.Radio.getD x20.1.toNat default).Num,(a1.Radio.getD x20.1.toNat default).Heard,((a1.Radio.getD x20.1.toNat default).Change).Kind,(((a1.Radio.getD x20.1.toNat default).Change).Entry).Addr,(((a1.Radio.getD x20.1.toNat default).Change).Entry).Len,(((a1.Radio.getD x20.1.toNat default).Change).Entry).Cost,(((a1.Radio.getD x20.1.toNat default).Change).Entry).Label,(a1.Radio.getD x20.1.toNat default).Sum,x22.2.p)))
else
 bd (J9 (⟨a0.b,x22.2.p⟩:Qwe)) fun x24 =>
 some (.inr (.inr ((a1.Radio.getD x20.1.toNat default).From,(a1.Radio.getD x20.1.toNat default).To,(a1.Radio.getD x20.1.toNat default).Key,(a1.Radio.getD x20.1.toNat default).Boot,(a1.Radio.getD x20.1.toNat default).Yours,IntKind.i64.wrap (((a1.Radio.getD x20.1.toNat default).Turn)+1),IntKind.i64.wrap (((a1.Radio.getD x20.1.toNat default).Num)+1),(a1.Radio.getD x20.1.toNat default).Heard,x24.1.Addr,x24.1.Len,x24.1.Cost,x24.1.Label,(a1.Radio.getD x20.1.toNat default).Sum,x24.2.p))))))
else
 some (.inl x9.2.p)))) fun x10 =>
(match x10 with
| .inl d12 =>
 bd (Qe (⟨a0.b,d12⟩:Qwe) 256) fun x25 =>
 bd (Qe (⟨a0.b,x25.2.p⟩:Qwe) 2) fun x26 =>
(if (x26.1 == 0)=true then
 bd (Qab 8 (⟨((a1.Sides.getD x1.1.toNat default).End).Name,((a1.Sides.getD x1.1.toNat default).End).Peer,IntKind.i64.wrap (1+x3.1),IntKind.i64.wrap (1+(IntKind.i64.wrap (x4.1*x5.1))),IntKind.i64.wrap (1+x6.1),IntKind.i64.wrap (1+x7.1),x8.1,x9.1,(⟨0,(⟨0,0,0,0⟩:Qwg)⟩:Qwh),x25.1⟩:Qwl)) fun x27 =>
 some ((⟨((a1.Sides.getD x1.1.toNat default).End).Name,((a1.Sides.getD x1.1.toNat default).End).Peer,IntKind.i64.wrap (1+x3.1),IntKind.i64.wrap (1+(IntKind.i64.wrap (x4.1*x5.1))),IntKind.i64.wrap (1+x6.1),IntKind.i64.wrap (1+x7.1),x8.1,x9.1,(⟨0,(⟨0,0,0,0⟩:Qwg)⟩:Qwh),x27⟩:Qwl),(⟨a0.b,x26.2.p⟩:Qwe))
else
 some ((⟨((a1.Sides.getD x1.1.toNat default).End).Name,((a1.Sides.getD x1.1.toNat default).End).Peer,IntKind.i64.wrap (1+x3.1),IntKind.i64.wrap (1+(IntKind.i64.wrap (x4.1*x5.1))),IntKind.i64.wrap (1+x6.1),IntKind.i64.wrap (1+x7.1),x8.1,x9.1,(⟨0,(⟨0,0,0,0⟩:Qwg)⟩:Qwh),x25.1⟩:Qwl),(⟨a0.b,x26.2.p⟩:Qwe)))
| .inr (.inl d28) =>
 some ((⟨d28.1,d28.2.1,d28.2.2.1,d28.2.2.2.1,d28.2.2.2.2.1,d28.2.2.2.2.2.1,d28.2.2.2.2.2.2.1,d28.2.2.2.2.2.2.2.1,(⟨d28.2.2.2.2.2.2.2.2.1,(⟨d28.2.2.2.2.2.2.2.2.2.1,d28.2.2.2.2.2.2.2.2.2.2.1,d28.2.2.2.2.2.2.2.2.2.2.2.1,d28.2.2.2.2.2.2.2.2.2.2.2.2.1⟩:Qwg)⟩:Qwh),d28.2.2.2.2.2.2.2.2.2.2.2.2.2.1⟩:Qwl),(⟨a0.b,d28.2.2.2.2.2.2.2.2.2.2.2.2.2.2⟩:Qwe))
| .inr (.inr d29) =>
 some ((⟨d29.1,d29.2.1,d29.2.2.1,d29.2.2.2.1,d29.2.2.2.2.1,d29.2.2.2.2.2.1,d29.2.2.2.2.2.2.1,d29.2.2.2.2.2.2.2.1,(⟨1,(⟨d29.2.2.2.2.2.2.2.2.1,d29.2.2.2.2.2.2.2.2.2.1,d29.2.2.2.2.2.2.2.2.2.2.1,d29.2.2.2.2.2.2.2.2.2.2.2.1⟩:Qwg)⟩:Qwh),d29.2.2.2.2.2.2.2.2.2.2.2.2.1⟩:Qwl),(⟨a0.b,d29.2.2.2.2.2.2.2.2.2.2.2.2.2⟩:Qwe)))
theorem Qir {a0:Qwe} {a1:Qwm} {r:Qwl × Qwe} (h:Qa2 a0 a1=some r):EffC Tryz.prog 71 [.ref 9000 0 0,.agg [.d (slD Qwk.enc a1.Sides),.d (slD Qwl.enc a1.Radio)]] [(9000,.box 75 [.d (slD QR a0.b),dI a0.p])] (.agg (hwC r.1)) [(9000,.box 75 [.d (slD QR a0.b),dI r.2.p])]:=by
  refine Q7 tOk (fn:=Tryz.f71) (c:=Qj Tryz.f71) rfl rfl ?_;unfold Qa2 at h;(conv=>whnf);obtain ⟨x1,hx1,h⟩:=Qa h;refine cE [(9000,9000)] 0 (Qh hx1) ?_;(conv=>whnf);refine gdI h (fun h=>?_);(conv=>whnf);obtain ⟨x3,hx3,h⟩:=Qa h;obtain ⟨x4,hx4,h⟩:=Qa h;obtain ⟨x5,hx5,h⟩:=Qa h;obtain ⟨x6,hx6,h⟩:=Qa h;obtain ⟨x7,hx7,h⟩:=Qa h;obtain ⟨x8,hx8,h⟩:=Qa h;obtain ⟨x9,hx9,h⟩:=Qa h;refine QaG tOk [.e 5 [(9000,.box 75 [.d (slD QR a0.b),dI x1.2.p])] (dI x3.1) [] [(9000,.box 75 [.d (slD QR a0.b),dI x3.2.p])],.e 8 [(9000,.box 75 [.d (slD QR a0.b),dI x3.2.p])] (dI x4.1) [] [(9000,.box 75 [.d (slD QR a0.b),dI x4.2.p])],.e 10 [(9000,.box 75 [.d (slD QR a0.b),dI x4.2.p])] (dI x5.1) [] [(9000,.box 75 [.d (slD QR a0.b),dI x5.2.p])],.e 14 [(9000,.box 75 [.d (slD QR a0.b),dI x5.2.p])] (dI x6.1) [] [(9000,.box 75 [.d (slD QR a0.b),dI x6.2.p])],.e 17 [(9000,.box 75 [.d (slD QR a0.b),dI x6.2.p])] (dI x7.1) [] [(9000,.box 75 [.d (slD QR a0.b),dI x7.2.p])],.e 20 [(9000,.box 75 [.d (slD QR a0.b),dI x7.2.p])] (dI x8.1) [] [(9000,.box 75 [.d (slD QR a0.b),dI x8.2.p])],.e 22 [(9000,.box 75 [.d (slD QR a0.b),dI x8.2.p])] (dI x9.1) [] [(9000,.box 75 [.d (slD QR a0.b),dI x9.2.p])]] 25 [] [0,1,0,4,0,16,48,0,176,0,944,1968,4016,0,10160,26544,0,92080,223152,0,747440,0,3893168,8388607,0] [33554431] [9000] ?_;(conv=>whnf);refine And.intro (eD [(9000,9000)] 0 (Qh hx3)) ?_;(conv=>whnf);refine And.intro (eD [(9000,9000)] 0 (Qh hx4)) ?_;(conv=>whnf);refine And.intro (eD [(9000,9000)] 0 (Qh hx5)) ?_;(conv=>whnf);refine And.intro (eD [(9000,9000)] 0 (Qh hx6)) ?_;(conv=>whnf);refine And.intro (eD [(9000,9000)] 0 (Qh hx7)) ?_;(conv=>whnf);refine And.intro (eD [(9000,9000)] 0 (Qh hx8)) ?_;(conv=>whnf);refine And.intro (eD [(9000,9000)] 0 (Qh hx9)) ?_;(conv=>whnf);refine And.intro (by kernel_rfl) ?_;(conv=>whnf);obtain ⟨x10,hx10,h⟩:=Qa h;refine JZ tOk (fun s11=>⟨0,104,[(0,.ref 9000 0 0),(4,.ref 4 0 0),(7,.ref 7 0 0)],[],[(7,.box 42 [dI (((a1.Sides.getD x1.1.toNat default).End).Name),dI (((a1.Sides.getD x1.1.toNat default).End).Peer),dI (IntKind.i64.wrap (1+x3.1)),dI (IntKind.i64.wrap (1+(IntKind.i64.wrap (x4.1*x5.1)))),dI (IntKind.i64.wrap (1+x6.1)),dI (IntKind.i64.wrap (1+x7.1)),dI x8.1,dI x9.1,dI 0,dI 0,dI 0,dI 0,dI 0,dI 0]),(4,.box 42 [dI 0,dI 0,dI 0,dI 0,dI 0,dI 0,dI 0,dI 0,dI 0,dI 0,dI 0,dI 0,dI 0,dI 0]),(9000,.box 75 [.d (slD QR a0.b),dI s11])],[⟨[(0,.ref 9000 0 0)],[]⟩]⟩) (fun s11=>x10=.inl s11) ?_ ?_
  · (conv=>whnf);refine spI hx10 (fun hb13 hx10=>?_) (fun hb13 hx10=>?_)
    · obtain ⟨x14,hx14,hx10⟩:=Qa hx10;refine Qna [(9000,9000)] 0 (Qh hx14) (by (conv=>whnf); exact fun q=>absurd (q.symm.trans hb13) (by decide)) ?_;(conv=>whnf);refine Qz hx10 (fun _ hx10=>?_) (fun _ hx10=>?_)
      · (conv=>whnf);obtain ⟨x15,hx15,hx10⟩:=Qa hx10;obtain ⟨g16,hx10⟩:=Qf hx10;refine QaG tOk [.e 6 [(9000,.box 75 [.d (slD QR a0.b),dI x14.2.p])] (dI x15.1) [] [(9000,.box 75 [.d (slD QR a0.b),dI x15.2.p])]] 9 [] [0,1,0,0,8,24,60,127,255] [511] [9000] ?_;(conv=>whnf);refine And.intro (eD [(9000,9000)] 0 (Qh hx15)) ?_;(conv=>whnf);refine And.intro g16 ?_;clear g16;(conv=>whnf);refine And.intro (by kernel_rfl) ?_;(conv=>whnf);refine Qc tOk ?_;(conv=>whnf);obtain ⟨x17,hx17,hx10⟩:=Qa hx10;refine cE [(9000,9000)] 0 (Qh hx17) ?_;(conv=>whnf);refine Qz hx10 (fun _ hx10=>?_) (fun _ hx10=>?_)
        · (conv=>whnf);obtain ⟨x18,hx18,hx10⟩:=Qa hx10;refine QaG tOk [.e 4 [(9000,.box 75 [.d (slD QR a0.b),dI x17.2.p])] (dI x18.1) [] [(9000,.box 75 [.d (slD QR a0.b),dI x18.2.p])]] 7 [] [0,1,3,0,8,31,63] [127] [9000] ?_;(conv=>whnf);refine And.intro (eD [(9000,9000)] 0 (Qh hx18)) ?_;(conv=>whnf);refine And.intro (by kernel_rfl) ?_;(conv=>whnf);obtain rfl:=sj_ hx10;obtain rfl:=sj_ h;exact lfE []
        · (conv=>whnf);refine Qz hx10 (fun _ hx10=>?_) (fun _ hx10=>?_)
          · (conv=>whnf);obtain rfl:=sj_ hx10;obtain rfl:=sj_ h;exact lfE []
          · (conv=>whnf);refine Qz hx10 (fun _ hx10=>?_) (fun _ hx10=>?_)
            · (conv=>whnf);obtain rfl:=sj_ hx10;obtain rfl:=sj_ h;exact lfE []
            · (conv=>whnf);obtain ⟨x19,hx19,hx10⟩:=Qa hx10;refine cE [(9000,9000)] 0 (QdH hx19) ?_;(conv=>whnf);obtain rfl:=sj_ hx10;obtain rfl:=sj_ h;exact lfE []
      · (conv=>whnf);obtain rfl:=sj_ hx10;exact ⟨_,rfl,leX []⟩
    · refine Qlc (dI 0) ?_ (by (conv=>whnf); exact fun q=>absurd (hb13.symm.trans q) (by decide));(conv=>whnf);refine Qz hx10 (fun _ hx10=>?_) (fun _ hx10=>?_)
      · (conv=>whnf);obtain ⟨x20,hx20,hx10⟩:=Qa hx10;obtain ⟨g21,hx10⟩:=Qf hx10;refine QaG tOk [.e 6 [(9000,.box 75 [.d (slD QR a0.b),dI x9.2.p])] (dI x20.1) [] [(9000,.box 75 [.d (slD QR a0.b),dI x20.2.p])]] 9 [] [0,1,0,0,8,24,60,127,255] [511] [9000] ?_;(conv=>whnf);refine And.intro (eD [(9000,9000)] 0 (Qh hx20)) ?_;(conv=>whnf);refine And.intro g21 ?_;clear g21;(conv=>whnf);refine And.intro (by kernel_rfl) ?_;(conv=>whnf);refine Qc tOk ?_;(conv=>whnf);obtain ⟨x22,hx22,hx10⟩:=Qa hx10;refine cE [(9000,9000)] 0 (Qh hx22) ?_;(conv=>whnf);refine Qz hx10 (fun _ hx10=>?_) (fun _ hx10=>?_)
        · (conv=>whnf);obtain ⟨x23,hx23,hx10⟩:=Qa hx10;refine QaG tOk [.e 4 [(9000,.box 75 [.d (slD QR a0.b),dI x22.2.p])] (dI x23.1) [] [(9000,.box 75 [.d (slD QR a0.b),dI x23.2.p])]] 7 [] [0,1,3,0,8,31,63] [127] [9000] ?_;(conv=>whnf);refine And.intro (eD [(9000,9000)] 0 (Qh hx23)) ?_;(conv=>whnf);refine And.intro (by kernel_rfl) ?_;(conv=>whnf);obtain rfl:=sj_ hx10;obtain rfl:=sj_ h;exact lfE []
        · (conv=>whnf);refine Qz hx10 (fun _ hx10=>?_) (fun _ hx10=>?_)
          · (conv=>whnf);obtain rfl:=sj_ hx10;obtain rfl:=sj_ h;exact lfE []
          · (conv=>whnf);refine Qz hx10 (fun _ hx10=>?_) (fun _ hx10=>?_)
            · (conv=>whnf);obtain rfl:=sj_ hx10;obtain rfl:=sj_ h;exact lfE []
            · (conv=>whnf);obtain ⟨x24,hx24,hx10⟩:=Qa hx10;refine cE [(9000,9000)] 0 (QdH hx24) ?_;(conv=>whnf);obtain rfl:=sj_ hx10;obtain rfl:=sj_ h;exact lfE []
      · (conv=>whnf);obtain rfl:=sj_ hx10;exact ⟨_,rfl,leX []⟩
  · intro d12 hdd12;subst hdd12;(conv=>whnf);obtain ⟨x25,hx25,h⟩:=Qa h;refine cE [(9000,9000)] 0 (Qh hx25) ?_;(conv=>whnf);refine Qc tOk ?_;(conv=>whnf);obtain ⟨x26,hx26,h⟩:=Qa h;refine cE [(9000,9000)] 0 (Qh hx26) ?_;(conv=>whnf);refine Qz h (fun _ h=>?_) (fun _ h=>?_)
    · (conv=>whnf);obtain ⟨x27,hx27,h⟩:=Qa h;refine cC 0 (QdK hx27) ?_;clear hx27;(conv=>whnf);obtain rfl:=sj_ h;exact lfE []
    · (conv=>whnf);obtain rfl:=sj_ h;exact lfE []
end Go.Proofs.YtjgjdobkahdgfaaGreat
