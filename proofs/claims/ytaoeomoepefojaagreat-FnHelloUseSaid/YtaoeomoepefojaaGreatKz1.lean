/-
  What some of the program's functions compute: their models, and that the functions compute these; no condition.
-/
import Derived.Test.YtaoeomoepefojaaGreatTyz
import Derived.Test.YtaoeomoepefojaaGreatTbz
import Derived.Test.YtaoeomoepefojaaGreatAbz7
set_option linter.all false
namespace Go.Proofs.YtaoeomoepefojaaGreat
open Go Go.Ab
set_option maxRecDepth 100000
set_option maxHeartbeats 40000000
noncomputable def spec_l41Open_m (a0:(List Int)):Option (l41Rd) :=
(if (decide (((a0.length:Nat):Int) > 2000))=true then
 gd ((0:Int)≤(0:Int)∧(0:Int)≤(2000:Int)∧(2000:Int)≤((a0.length:Nat):Int)) <|
 some (⟨a0.take ((2000:Int).toNat),0⟩:l41Rd)
else
 some (⟨a0,0⟩:l41Rd))
theorem spec_l41Open_c {a0:(List Int)} {r:l41Rd} (h:spec_l41Open_m a0=some r):EffC Tryz.prog 50 [.d (slD encByte a0)] [] (.ref 5001 0 0) [(5001,.box 113 [.d (slD encByte r.b),.d (.int .i64 r.p)])]:=by
  refine effC_x tOk (fn:=Tryz.f50) (c:=codeOf Tryz.f50) rfl rfl ?_;unfold spec_l41Open_m at h;(conv=>whnf);refine seq_in tOk ?_;(conv=>whnf);refine andI h (fun _ h=>?_) (fun _ h=>?_)
  · (conv=>whnf);obtain ⟨g1,h⟩:=gd_some h;refine And.intro ⟨g1,.inr rfl⟩ ?_;(conv=>whnf);obtain rfl:=Option.some.inj h;exact lfE [.s [(10,5001),(5001,10)]]
  · (conv=>whnf);obtain rfl:=Option.some.inj h;exact lfE [.s [(10,5001),(5001,10)]]
noncomputable def spec_l41Rd_pick_m (a0:l41Rd) (a1:Int):Option (Int × l41Rd) :=
(if ((decide (a1<1)) || (((a0.b.length:Nat):Int) == 0))=true then
 some (0,(⟨a0.b,IntKind.i64.wrap (a0.p+1)⟩:l41Rd))
else
(if (decide ((IntKind.i64.wrap ((IntKind.i64.wrap (a0.p+1)) - 1))<((a0.b.length:Nat):Int)))=true then
 gd ((0:Int)≤IntKind.i64.wrap ((IntKind.i64.wrap (a0.p+1)) - 1)∧IntKind.i64.wrap ((IntKind.i64.wrap (a0.p+1)) - 1)<((a0.b.length:Nat):Int)) <|
 gd ((a1:Int) ≠ 0) <|
 some (((IntKind.i64.wrap (a0.b.getD ((IntKind.i64.wrap ((IntKind.i64.wrap (a0.p+1)) - 1)).toNat) default):Int).tmod a1),(⟨a0.b,IntKind.i64.wrap (a0.p+1)⟩:l41Rd))
else
 gd ((((a0.b.length:Nat):Int):Int) ≠ 0) <|
 gd ((0:Int)≤((IntKind.i64.wrap ((IntKind.i64.wrap (a0.p+1)) - 1):Int).tmod ((a0.b.length:Nat):Int))∧((IntKind.i64.wrap ((IntKind.i64.wrap (a0.p+1)) - 1):Int).tmod ((a0.b.length:Nat):Int))<((a0.b.length:Nat):Int)) <|
 gd ((((a0.b.length:Nat):Int):Int) ≠ 0) <|
 gd ((0:Int)≤((IntKind.i64.wrap ((IntKind.i64.wrap ((IntKind.i64.wrap ((IntKind.i64.wrap (a0.p+1)) - 1))*7))+3):Int).tmod ((a0.b.length:Nat):Int))∧((IntKind.i64.wrap ((IntKind.i64.wrap ((IntKind.i64.wrap ((IntKind.i64.wrap (a0.p+1)) - 1))*7))+3):Int).tmod ((a0.b.length:Nat):Int))<((a0.b.length:Nat):Int)) <|
 gd ((((a0.b.length:Nat):Int):Int) ≠ 0) <|
 gd ((64:Int) ≠ 0) <|
 gd ((a1:Int) ≠ 0) <|
 some ((((bits .xor .i64 (IntKind.i64.wrap ((IntKind.i64.wrap ((IntKind.i64.wrap ((IntKind.i64.wrap ((IntKind.i64.wrap (a0.b.getD (((IntKind.i64.wrap ((IntKind.i64.wrap (a0.p+1)) - 1):Int).tmod ((a0.b.length:Nat):Int)).toNat) default))*131))+(IntKind.i64.wrap ((IntKind.i64.wrap (a0.b.getD (((IntKind.i64.wrap ((IntKind.i64.wrap ((IntKind.i64.wrap ((IntKind.i64.wrap (a0.p+1)) - 1))*7))+3):Int).tmod ((a0.b.length:Nat):Int)).toNat) default))*1117))))+(IntKind.i64.wrap ((IntKind.i64.wrap ((IntKind.i64.wrap (a0.p+1)) - 1))*29))))+(IntKind.i64.wrap ((IntKind.i64.wrap ((IntKind.i64.wrap ((IntKind.i64.wrap (a0.p+1)) - 1):Int).tdiv ((a0.b.length:Nat):Int)))*53)))) (IntKind.i64.wrap ((IntKind.i64.wrap ((IntKind.i64.wrap ((IntKind.i64.wrap ((IntKind.i64.wrap ((IntKind.i64.wrap (a0.b.getD (((IntKind.i64.wrap ((IntKind.i64.wrap (a0.p+1)) - 1):Int).tmod ((a0.b.length:Nat):Int)).toNat) default))*131))+(IntKind.i64.wrap ((IntKind.i64.wrap (a0.b.getD (((IntKind.i64.wrap ((IntKind.i64.wrap ((IntKind.i64.wrap ((IntKind.i64.wrap (a0.p+1)) - 1))*7))+3):Int).tmod ((a0.b.length:Nat):Int)).toNat) default))*1117))))+(IntKind.i64.wrap ((IntKind.i64.wrap ((IntKind.i64.wrap (a0.p+1)) - 1))*29))))+(IntKind.i64.wrap ((IntKind.i64.wrap ((IntKind.i64.wrap ((IntKind.i64.wrap (a0.p+1)) - 1):Int).tdiv ((a0.b.length:Nat):Int)))*53))):Int).tdiv 64))):Int).tmod a1),(⟨a0.b,IntKind.i64.wrap (a0.p+1)⟩:l41Rd))))
theorem spec_l41Rd_pick_c {a0:l41Rd} {a1:Int} {r:Int × l41Rd} (h:spec_l41Rd_pick_m a0 a1=some r):EffC Tryz.prog 98 [.ref 9000 0 0,.d (.int .i64 a1)] [(9000,.box 113 [.d (slD encByte a0.b),.d (.int .i64 a0.p)])] (.d (.int .i64 r.1)) [(9000,.box 113 [.d (slD encByte a0.b),.d (.int .i64 r.2.p)])]:=by
  refine effC_x tOk (fn:=Tryz.f98) (c:=codeOf Tryz.f98) rfl rfl ?_;unfold spec_l41Rd_pick_m at h;(conv=>whnf);refine seq_in tOk ?_;(conv=>whnf);refine andI h (fun _ h=>?_) (fun _ h=>?_)
  · (conv=>whnf);obtain rfl:=Option.some.inj h;exact lfE []
  · (conv=>whnf);refine seq_in tOk ?_;(conv=>whnf);refine andI h (fun _ h=>?_) (fun _ h=>?_)
    · (conv=>whnf);refine gdI h (fun h=>?_);(conv=>whnf);refine gdI h (fun h=>?_);(conv=>whnf);obtain rfl:=Option.some.inj h;exact lfE []
    · (conv=>whnf);obtain ⟨g3,h⟩:=gd_some h;obtain ⟨g4,h⟩:=gd_some h;obtain ⟨g5,h⟩:=gd_some h;obtain ⟨g6,h⟩:=gd_some h;obtain ⟨g7,h⟩:=gd_some h;refine draw_u tOk [] 46 [] [0,1,3,7,0,0,32,96,224,480,1008,2047,4095,8191,16383,0,32768,98304,229376,0,524288,1572864,0,4194304,12582912,29360128,62914560,133693440,268402688,536838144,1073709056,2147450880,4294967295,0,8589934592,34359738367,0,0,137438953472,412316860416,962072674304,2061584302080,4329327034368,8727373545472,17592186044415,35184372088831] [] ?_;(conv=>whnf);refine And.intro g3 ?_;clear g3;(conv=>whnf);refine And.intro g4 ?_;clear g4;(conv=>whnf);refine And.intro g5 ?_;clear g5;(conv=>whnf);refine And.intro g6 ?_;clear g6;(conv=>whnf);refine And.intro g7 ?_;clear g7;(conv=>whnf);refine And.intro (by kernel_rfl) ?_;(conv=>whnf);refine gdI h (fun h=>?_);(conv=>whnf);refine gdI h (fun h=>?_);(conv=>whnf);obtain rfl:=Option.some.inj h;exact lfE []
noncomputable def spec_l46Keys_m (a0:l41Rd):Option ((List HelloKey) × l41Rd) :=
 bd (spec_l41Rd_pick_m a0 6) fun x1 =>
(if (x1.1 == 0)=true then
 gd ((0:Int)≤(0:Int)∧(0:Int)≤(2:Int)∧(2:Int)≤((([(⟨1,7⟩:HelloKey),(⟨2,1234567⟩:HelloKey),(⟨9,2147483646⟩:HelloKey)]:List HelloKey).length:Nat):Int)) <|
 some (([(⟨1,7⟩:HelloKey),(⟨2,1234567⟩:HelloKey),(⟨9,2147483646⟩:HelloKey)]:List HelloKey).take ((2:Int).toNat),(⟨a0.b,x1.2.p⟩:l41Rd))
else
(if (x1.1 == 1)=true then
 gd ((0:Int)≤(1:Int)∧(1:Int)≤((([(⟨1,7⟩:HelloKey),(⟨2,1234567⟩:HelloKey),(⟨9,2147483646⟩:HelloKey)]:List HelloKey).length:Nat):Int)∧((([(⟨1,7⟩:HelloKey),(⟨2,1234567⟩:HelloKey),(⟨9,2147483646⟩:HelloKey)]:List HelloKey).length:Nat):Int)≤((([(⟨1,7⟩:HelloKey),(⟨2,1234567⟩:HelloKey),(⟨9,2147483646⟩:HelloKey)]:List HelloKey).length:Nat):Int)) <|
 some (((([(⟨1,7⟩:HelloKey),(⟨2,1234567⟩:HelloKey),(⟨9,2147483646⟩:HelloKey)]:List HelloKey)).take ((1:Int).toNat+(dsub ((([(⟨1,7⟩:HelloKey),(⟨2,1234567⟩:HelloKey),(⟨9,2147483646⟩:HelloKey)]:List HelloKey).length:Nat):Int) (1:Int)))).drop ((1:Int).toNat),(⟨a0.b,x1.2.p⟩:l41Rd))
else
(if (x1.1 == 2)=true then
 some (([(⟨1,7⟩:HelloKey),(⟨2,1234567⟩:HelloKey),(⟨9,2147483646⟩:HelloKey)]:List HelloKey),(⟨a0.b,x1.2.p⟩:l41Rd))
else
 gd ((0:Int)≤(0:Int)∧(0:Int)≤(1:Int)∧(1:Int)≤((([(⟨1,7⟩:HelloKey),(⟨2,1234567⟩:HelloKey),(⟨9,2147483646⟩:HelloKey)]:List HelloKey).length:Nat):Int)) <|
 some (([(⟨1,7⟩:HelloKey),(⟨2,1234567⟩:HelloKey),(⟨9,2147483646⟩:HelloKey)]:List HelloKey).take ((1:Int).toNat),(⟨a0.b,x1.2.p⟩:l41Rd)))))
theorem spec_l46Keys_c {a0:l41Rd} {r:(List HelloKey) × l41Rd} (h:spec_l46Keys_m a0=some r):EffC Tryz.prog 157 [.ref 9000 0 0] [(9000,.box 113 [.d (slD encByte a0.b),.d (.int .i64 a0.p)])] (.osl 5001 0 r.1.length) [(9000,.box 113 [.d (slD encByte a0.b),.d (.int .i64 r.2.p)]),(5001,.arr 90 2 r.1.length (rows HelloKey.enc r.1))]:=by
  refine effC_x tOk (fn:=Tryz.f157) (c:=codeOf Tryz.f157) rfl rfl ?_;unfold spec_l46Keys_m at h;(conv=>whnf);refine bldS (enc:=HelloKey.enc) ([(⟨1,7⟩:HelloKey),(⟨2,1234567⟩:HelloKey),(⟨9,2147483646⟩:HelloKey)]:List HelloKey) ?_;(conv=>whnf);refine seq_in tOk ?_;(conv=>whnf);obtain ⟨x1,hx1,h⟩:=bd_some h;refine cE [(9000,9000)] 0 (spec_l41Rd_pick_c hx1) ?_;(conv=>whnf);refine andI h (fun _ h=>?_) (fun _ h=>?_)
  · (conv=>whnf);obtain ⟨g2,h⟩:=gd_some h;refine And.intro g2 ?_;(conv=>whnf);obtain rfl:=Option.some.inj h
    try simp only [List.length_cons,List.length_nil] at *
    try simp only [List.length_cons,List.length_nil] at *
    try simp only [List.length_cons,List.length_nil] at *
    try simp only [List.length_cons,List.length_nil] at *
    try simp only [List.length_cons,List.length_nil] at *
    try simp only [List.length_cons,List.length_nil] at *
    try simp only [List.length_cons,List.length_nil] at *
    try simp only [List.length_cons,List.length_nil] at *
    try simp only [List.length_cons,List.length_nil] at *
    try simp only [List.length_cons,List.length_nil] at *
    try simp only [List.length_cons,List.length_nil] at *
    try simp only [List.length_cons,List.length_nil] at *
    try simp only [List.length_cons,List.length_nil] at *
    try simp only [List.length_cons,List.length_nil] at *
    try simp only [List.length_cons,List.length_nil] at *
    try simp only [List.length_cons,List.length_nil] at *
    try simp only [List.length_cons,List.length_nil] at *
    try simp only [List.length_cons,List.length_nil] at *
    try simp only [List.length_cons,List.length_nil] at *
    try simp only [List.length_cons,List.length_nil] at *
    try simp only [List.length_cons,List.length_nil] at *
    try simp only [List.length_cons,List.length_nil] at *
    try simp only [List.length_cons,List.length_nil] at *
    try simp only [List.length_cons,List.length_nil] at *
    try simp only [List.length_cons,List.length_nil] at *
    try simp only [List.length_cons,List.length_nil] at *
    try simp only [List.length_cons,List.length_nil] at *
    try simp only [List.length_cons,List.length_nil] at *
    try simp only [List.length_cons,List.length_nil] at *
    try simp only [List.length_cons,List.length_nil] at *
    try simp only [List.length_cons,List.length_nil] at *
    try simp only [List.length_cons,List.length_nil] at *
    try simp only [List.length_cons,List.length_nil] at *
    try simp only [List.length_cons,List.length_nil] at *
    try simp only [List.length_cons,List.length_nil] at *
    try simp only [List.length_cons,List.length_nil] at *
    try simp only [List.length_cons,List.length_nil] at *
    try simp only [List.length_cons,List.length_nil] at *
    try simp only [List.length_cons,List.length_nil] at *
    try simp only [List.length_cons,List.length_nil] at *
    try simp only [List.length_cons,List.length_nil] at *
    try simp only [List.length_cons,List.length_nil] at *
    try simp only [List.length_cons,List.length_nil] at *
    try simp only [List.length_cons,List.length_nil] at *
    try simp only [List.length_cons,List.length_nil] at *
    try simp only [List.length_cons,List.length_nil] at *
    try simp only [List.length_cons,List.length_nil] at *
    try simp only [List.length_cons,List.length_nil] at *
    try simp only [List.length_cons,List.length_nil] at *
    try simp only [List.length_cons,List.length_nil] at *
    try simp only [List.length_cons,List.length_nil] at *
    try simp only [List.length_cons,List.length_nil] at *
    try simp only [List.length_cons,List.length_nil] at *
    try simp only [List.length_cons,List.length_nil] at *
    try simp only [List.length_cons,List.length_nil] at *
    try simp only [List.length_cons,List.length_nil] at *
    try simp only [List.length_cons,List.length_nil] at *
    try simp only [List.length_cons,List.length_nil] at *
    try simp only [List.length_cons,List.length_nil] at *
    try simp only [List.length_cons,List.length_nil] at *
    try simp only [List.length_cons,List.length_nil] at *
    try simp only [List.length_cons,List.length_nil] at *
    try simp only [List.length_cons,List.length_nil] at *
    try simp only [List.length_cons,List.length_nil] at *
    try simp only [List.length_cons,List.length_nil] at *
    try simp only [List.length_cons,List.length_nil] at *
    try simp only [List.length_cons,List.length_nil] at *
    try simp only [List.length_cons,List.length_nil] at *
    try simp only [List.length_cons,List.length_nil] at *
    try simp only [List.length_cons,List.length_nil] at *
    try simp only [List.length_cons,List.length_nil] at *
    try simp only [List.length_cons,List.length_nil] at *
    try simp only [List.length_cons,List.length_nil] at *
    try simp only [List.length_cons,List.length_nil] at *
    try simp only [List.length_cons,List.length_nil] at *
    try simp only [List.length_cons,List.length_nil] at *
    try simp only [List.length_cons,List.length_nil] at *
    try simp only [List.length_cons,List.length_nil] at *
    try simp only [List.length_cons,List.length_nil] at *
    try simp only [List.length_cons,List.length_nil] at *
    try simp only [List.length_cons,List.length_nil] at *
    try simp only [List.length_cons,List.length_nil] at *
    try simp only [List.length_cons,List.length_nil] at *
    try simp only [List.length_cons,List.length_nil] at *
    try simp only [List.length_cons,List.length_nil] at *
    try simp only [List.length_cons,List.length_nil] at *
    try simp only [List.length_cons,List.length_nil] at *
    try simp only [List.length_cons,List.length_nil] at *
    try simp only [List.length_cons,List.length_nil] at *
    try simp only [List.length_cons,List.length_nil] at *
    try simp only [List.length_cons,List.length_nil] at *
    try simp only [List.length_cons,List.length_nil] at *
    try simp only [List.length_cons,List.length_nil] at *
    try simp only [List.length_cons,List.length_nil] at *
    try simp only [List.length_cons,List.length_nil] at *
    try simp only [List.length_cons,List.length_nil] at *
    try simp only [List.length_cons,List.length_nil] at *
    try simp only [List.length_cons,List.length_nil] at *
    try simp only [List.length_cons,List.length_nil] at *
    try simp only [List.length_cons,List.length_nil] at *
    try simp only [List.length_cons,List.length_nil] at *
    try simp only [List.length_cons,List.length_nil] at *
    try simp only [List.length_cons,List.length_nil] at *
    try simp only [List.length_cons,List.length_nil] at *
    try simp only [List.length_cons,List.length_nil] at *
    try simp only [List.length_cons,List.length_nil] at *
    try simp only [List.length_cons,List.length_nil] at *
    try simp only [List.length_cons,List.length_nil] at *
    try simp only [List.length_cons,List.length_nil] at *
    try simp only [List.length_cons,List.length_nil] at *
    try simp only [List.length_cons,List.length_nil] at *
    try simp only [List.length_cons,List.length_nil] at *
    try simp only [List.length_cons,List.length_nil] at *
    try simp only [List.length_cons,List.length_nil] at *
    try simp only [List.length_cons,List.length_nil] at *
    try simp only [List.length_cons,List.length_nil] at *
    try simp only [List.length_cons,List.length_nil] at *
    try simp only [List.length_cons,List.length_nil] at *
    try simp only [List.length_cons,List.length_nil] at *
    try simp only [List.length_cons,List.length_nil] at *
    try simp only [List.length_cons,List.length_nil] at *
    exact lfE [.c 2,.s [(7,5001),(5001,7)]]
  · (conv=>whnf);refine andI h (fun _ h=>?_) (fun _ h=>?_)
    · (conv=>whnf);obtain ⟨g3,h⟩:=gd_some h;refine And.intro g3 ?_;(conv=>whnf);obtain rfl:=Option.some.inj h
      try simp only [List.length_cons,List.length_nil] at *
      try simp only [List.length_cons,List.length_nil] at *
      try simp only [List.length_cons,List.length_nil] at *
      try simp only [List.length_cons,List.length_nil] at *
      try simp only [List.length_cons,List.length_nil] at *
      try simp only [List.length_cons,List.length_nil] at *
      try simp only [List.length_cons,List.length_nil] at *
      try simp only [List.length_cons,List.length_nil] at *
      try simp only [List.length_cons,List.length_nil] at *
      try simp only [List.length_cons,List.length_nil] at *
      try simp only [List.length_cons,List.length_nil] at *
      try simp only [List.length_cons,List.length_nil] at *
      try simp only [List.length_cons,List.length_nil] at *
      try simp only [List.length_cons,List.length_nil] at *
      try simp only [List.length_cons,List.length_nil] at *
      try simp only [List.length_cons,List.length_nil] at *
      try simp only [List.length_cons,List.length_nil] at *
      try simp only [List.length_cons,List.length_nil] at *
      try simp only [List.length_cons,List.length_nil] at *
      try simp only [List.length_cons,List.length_nil] at *
      try simp only [List.length_cons,List.length_nil] at *
      try simp only [List.length_cons,List.length_nil] at *
      try simp only [List.length_cons,List.length_nil] at *
      try simp only [List.length_cons,List.length_nil] at *
      try simp only [List.length_cons,List.length_nil] at *
      try simp only [List.length_cons,List.length_nil] at *
      try simp only [List.length_cons,List.length_nil] at *
      try simp only [List.length_cons,List.length_nil] at *
      try simp only [List.length_cons,List.length_nil] at *
      try simp only [List.length_cons,List.length_nil] at *
      try simp only [List.length_cons,List.length_nil] at *
      try simp only [List.length_cons,List.length_nil] at *
      try simp only [List.length_cons,List.length_nil] at *
      try simp only [List.length_cons,List.length_nil] at *
      try simp only [List.length_cons,List.length_nil] at *
      try simp only [List.length_cons,List.length_nil] at *
      try simp only [List.length_cons,List.length_nil] at *
      try simp only [List.length_cons,List.length_nil] at *
      try simp only [List.length_cons,List.length_nil] at *
      try simp only [List.length_cons,List.length_nil] at *
      try simp only [List.length_cons,List.length_nil] at *
      try simp only [List.length_cons,List.length_nil] at *
      try simp only [List.length_cons,List.length_nil] at *
      try simp only [List.length_cons,List.length_nil] at *
      try simp only [List.length_cons,List.length_nil] at *
      try simp only [List.length_cons,List.length_nil] at *
      try simp only [List.length_cons,List.length_nil] at *
      try simp only [List.length_cons,List.length_nil] at *
      try simp only [List.length_cons,List.length_nil] at *
      try simp only [List.length_cons,List.length_nil] at *
      try simp only [List.length_cons,List.length_nil] at *
      try simp only [List.length_cons,List.length_nil] at *
      try simp only [List.length_cons,List.length_nil] at *
      try simp only [List.length_cons,List.length_nil] at *
      try simp only [List.length_cons,List.length_nil] at *
      try simp only [List.length_cons,List.length_nil] at *
      try simp only [List.length_cons,List.length_nil] at *
      try simp only [List.length_cons,List.length_nil] at *
      try simp only [List.length_cons,List.length_nil] at *
      try simp only [List.length_cons,List.length_nil] at *
      try simp only [List.length_cons,List.length_nil] at *
      try simp only [List.length_cons,List.length_nil] at *
      try simp only [List.length_cons,List.length_nil] at *
      try simp only [List.length_cons,List.length_nil] at *
      try simp only [List.length_cons,List.length_nil] at *
      try simp only [List.length_cons,List.length_nil] at *
      try simp only [List.length_cons,List.length_nil] at *
      try simp only [List.length_cons,List.length_nil] at *
      try simp only [List.length_cons,List.length_nil] at *
      try simp only [List.length_cons,List.length_nil] at *
      try simp only [List.length_cons,List.length_nil] at *
      try simp only [List.length_cons,List.length_nil] at *
      try simp only [List.length_cons,List.length_nil] at *
      try simp only [List.length_cons,List.length_nil] at *
      try simp only [List.length_cons,List.length_nil] at *
      try simp only [List.length_cons,List.length_nil] at *
      try simp only [List.length_cons,List.length_nil] at *
      try simp only [List.length_cons,List.length_nil] at *
      try simp only [List.length_cons,List.length_nil] at *
      try simp only [List.length_cons,List.length_nil] at *
      try simp only [List.length_cons,List.length_nil] at *
      try simp only [List.length_cons,List.length_nil] at *
      try simp only [List.length_cons,List.length_nil] at *
      try simp only [List.length_cons,List.length_nil] at *
      try simp only [List.length_cons,List.length_nil] at *
      try simp only [List.length_cons,List.length_nil] at *
      try simp only [List.length_cons,List.length_nil] at *
      try simp only [List.length_cons,List.length_nil] at *
      try simp only [List.length_cons,List.length_nil] at *
      try simp only [List.length_cons,List.length_nil] at *
      try simp only [List.length_cons,List.length_nil] at *
      try simp only [List.length_cons,List.length_nil] at *
      try simp only [List.length_cons,List.length_nil] at *
      try simp only [List.length_cons,List.length_nil] at *
      try simp only [List.length_cons,List.length_nil] at *
      try simp only [List.length_cons,List.length_nil] at *
      try simp only [List.length_cons,List.length_nil] at *
      try simp only [List.length_cons,List.length_nil] at *
      try simp only [List.length_cons,List.length_nil] at *
      try simp only [List.length_cons,List.length_nil] at *
      try simp only [List.length_cons,List.length_nil] at *
      try simp only [List.length_cons,List.length_nil] at *
      try simp only [List.length_cons,List.length_nil] at *
      try simp only [List.length_cons,List.length_nil] at *
      try simp only [List.length_cons,List.length_nil] at *
      try simp only [List.length_cons,List.length_nil] at *
      try simp only [List.length_cons,List.length_nil] at *
      try simp only [List.length_cons,List.length_nil] at *
      try simp only [List.length_cons,List.length_nil] at *
      try simp only [List.length_cons,List.length_nil] at *
      try simp only [List.length_cons,List.length_nil] at *
      try simp only [List.length_cons,List.length_nil] at *
      try simp only [List.length_cons,List.length_nil] at *
      try simp only [List.length_cons,List.length_nil] at *
      try simp only [List.length_cons,List.length_nil] at *
      try simp only [List.length_cons,List.length_nil] at *
      try simp only [List.length_cons,List.length_nil] at *
      try simp only [List.length_cons,List.length_nil] at *
      try simp only [List.length_cons,List.length_nil] at *
      try simp only [List.length_cons,List.length_nil] at *
      try simp only [List.length_cons,List.length_nil] at *
      exact lfE [.c 2,.s [(7,5001),(5001,7)]]
    · (conv=>whnf);refine andI h (fun _ h=>?_) (fun _ h=>?_)
      · (conv=>whnf);obtain rfl:=Option.some.inj h;exact lfE [.s [(7,5001),(5001,7)]]
      · (conv=>whnf);obtain ⟨g4,h⟩:=gd_some h;refine And.intro g4 ?_;(conv=>whnf);obtain rfl:=Option.some.inj h
        try simp only [List.length_cons,List.length_nil] at *
        try simp only [List.length_cons,List.length_nil] at *
        try simp only [List.length_cons,List.length_nil] at *
        try simp only [List.length_cons,List.length_nil] at *
        try simp only [List.length_cons,List.length_nil] at *
        try simp only [List.length_cons,List.length_nil] at *
        try simp only [List.length_cons,List.length_nil] at *
        try simp only [List.length_cons,List.length_nil] at *
        try simp only [List.length_cons,List.length_nil] at *
        try simp only [List.length_cons,List.length_nil] at *
        try simp only [List.length_cons,List.length_nil] at *
        try simp only [List.length_cons,List.length_nil] at *
        try simp only [List.length_cons,List.length_nil] at *
        try simp only [List.length_cons,List.length_nil] at *
        try simp only [List.length_cons,List.length_nil] at *
        try simp only [List.length_cons,List.length_nil] at *
        try simp only [List.length_cons,List.length_nil] at *
        try simp only [List.length_cons,List.length_nil] at *
        try simp only [List.length_cons,List.length_nil] at *
        try simp only [List.length_cons,List.length_nil] at *
        try simp only [List.length_cons,List.length_nil] at *
        try simp only [List.length_cons,List.length_nil] at *
        try simp only [List.length_cons,List.length_nil] at *
        try simp only [List.length_cons,List.length_nil] at *
        try simp only [List.length_cons,List.length_nil] at *
        try simp only [List.length_cons,List.length_nil] at *
        try simp only [List.length_cons,List.length_nil] at *
        try simp only [List.length_cons,List.length_nil] at *
        try simp only [List.length_cons,List.length_nil] at *
        try simp only [List.length_cons,List.length_nil] at *
        try simp only [List.length_cons,List.length_nil] at *
        try simp only [List.length_cons,List.length_nil] at *
        try simp only [List.length_cons,List.length_nil] at *
        try simp only [List.length_cons,List.length_nil] at *
        try simp only [List.length_cons,List.length_nil] at *
        try simp only [List.length_cons,List.length_nil] at *
        try simp only [List.length_cons,List.length_nil] at *
        try simp only [List.length_cons,List.length_nil] at *
        try simp only [List.length_cons,List.length_nil] at *
        try simp only [List.length_cons,List.length_nil] at *
        try simp only [List.length_cons,List.length_nil] at *
        try simp only [List.length_cons,List.length_nil] at *
        try simp only [List.length_cons,List.length_nil] at *
        try simp only [List.length_cons,List.length_nil] at *
        try simp only [List.length_cons,List.length_nil] at *
        try simp only [List.length_cons,List.length_nil] at *
        try simp only [List.length_cons,List.length_nil] at *
        try simp only [List.length_cons,List.length_nil] at *
        try simp only [List.length_cons,List.length_nil] at *
        try simp only [List.length_cons,List.length_nil] at *
        try simp only [List.length_cons,List.length_nil] at *
        try simp only [List.length_cons,List.length_nil] at *
        try simp only [List.length_cons,List.length_nil] at *
        try simp only [List.length_cons,List.length_nil] at *
        try simp only [List.length_cons,List.length_nil] at *
        try simp only [List.length_cons,List.length_nil] at *
        try simp only [List.length_cons,List.length_nil] at *
        try simp only [List.length_cons,List.length_nil] at *
        try simp only [List.length_cons,List.length_nil] at *
        try simp only [List.length_cons,List.length_nil] at *
        try simp only [List.length_cons,List.length_nil] at *
        try simp only [List.length_cons,List.length_nil] at *
        try simp only [List.length_cons,List.length_nil] at *
        try simp only [List.length_cons,List.length_nil] at *
        try simp only [List.length_cons,List.length_nil] at *
        try simp only [List.length_cons,List.length_nil] at *
        try simp only [List.length_cons,List.length_nil] at *
        try simp only [List.length_cons,List.length_nil] at *
        try simp only [List.length_cons,List.length_nil] at *
        try simp only [List.length_cons,List.length_nil] at *
        try simp only [List.length_cons,List.length_nil] at *
        try simp only [List.length_cons,List.length_nil] at *
        try simp only [List.length_cons,List.length_nil] at *
        try simp only [List.length_cons,List.length_nil] at *
        try simp only [List.length_cons,List.length_nil] at *
        try simp only [List.length_cons,List.length_nil] at *
        try simp only [List.length_cons,List.length_nil] at *
        try simp only [List.length_cons,List.length_nil] at *
        try simp only [List.length_cons,List.length_nil] at *
        try simp only [List.length_cons,List.length_nil] at *
        try simp only [List.length_cons,List.length_nil] at *
        try simp only [List.length_cons,List.length_nil] at *
        try simp only [List.length_cons,List.length_nil] at *
        try simp only [List.length_cons,List.length_nil] at *
        try simp only [List.length_cons,List.length_nil] at *
        try simp only [List.length_cons,List.length_nil] at *
        try simp only [List.length_cons,List.length_nil] at *
        try simp only [List.length_cons,List.length_nil] at *
        try simp only [List.length_cons,List.length_nil] at *
        try simp only [List.length_cons,List.length_nil] at *
        try simp only [List.length_cons,List.length_nil] at *
        try simp only [List.length_cons,List.length_nil] at *
        try simp only [List.length_cons,List.length_nil] at *
        try simp only [List.length_cons,List.length_nil] at *
        try simp only [List.length_cons,List.length_nil] at *
        try simp only [List.length_cons,List.length_nil] at *
        try simp only [List.length_cons,List.length_nil] at *
        try simp only [List.length_cons,List.length_nil] at *
        try simp only [List.length_cons,List.length_nil] at *
        try simp only [List.length_cons,List.length_nil] at *
        try simp only [List.length_cons,List.length_nil] at *
        try simp only [List.length_cons,List.length_nil] at *
        try simp only [List.length_cons,List.length_nil] at *
        try simp only [List.length_cons,List.length_nil] at *
        try simp only [List.length_cons,List.length_nil] at *
        try simp only [List.length_cons,List.length_nil] at *
        try simp only [List.length_cons,List.length_nil] at *
        try simp only [List.length_cons,List.length_nil] at *
        try simp only [List.length_cons,List.length_nil] at *
        try simp only [List.length_cons,List.length_nil] at *
        try simp only [List.length_cons,List.length_nil] at *
        try simp only [List.length_cons,List.length_nil] at *
        try simp only [List.length_cons,List.length_nil] at *
        try simp only [List.length_cons,List.length_nil] at *
        try simp only [List.length_cons,List.length_nil] at *
        try simp only [List.length_cons,List.length_nil] at *
        try simp only [List.length_cons,List.length_nil] at *
        try simp only [List.length_cons,List.length_nil] at *
        try simp only [List.length_cons,List.length_nil] at *
        try simp only [List.length_cons,List.length_nil] at *
        try simp only [List.length_cons,List.length_nil] at *
        exact lfE [.c 2,.s [(7,5001),(5001,7)]]
noncomputable def spec_l41Size_m (a0:Int):Option (Int) :=
 bd (lp (σ:=Int × Int) (β:=(Int)) (fun s1 =>
(if (decide (s1.2<16))=true then
 some (.inl (IntKind.i64.wrap (s1.1*2),IntKind.i64.wrap (s1.2+1)))
else
 some (.inr s1.1))) (1,a0)) fun x4 =>
 some x4
theorem spec_l41Size_c {a0:Int} {r:Int} (h:spec_l41Size_m a0=some r):PureC Tryz.prog 137 [.d (.int .i64 a0)] (.d (.int .i64 r)) []:=by
  refine pureC_x tOk (fn:=Tryz.f137) (c:=codeOf Tryz.f137) rfl rfl ?_;unfold spec_l41Size_m at h;(conv=>whnf);refine seq_in tOk ?_;(conv=>whnf);obtain ⟨x4,hx4,h⟩:=bd_some h;refine loop_m tOk hx4 (fun s1=>⟨0,13,[(3,.d (.int .i64 s1.1)),(4,.d (.int .i64 s1.2))],[],[],[]⟩) ?_ ?_
  · exact leX []
  · clear hx4;intro s1 y2 g3 hy2;(conv=>whnf);refine seq_in tOk ?_;(conv=>whnf);refine andI g3 (fun _ g3=>?_) (fun _ g3=>?_)
    · (conv=>whnf);refine seq_in tOk ?_;(conv=>whnf);obtain rfl:=Option.some.inj g3;exact ⟨_,rfl,leX []⟩
    · (conv=>whnf);obtain rfl:=Option.some.inj g3;obtain rfl:=hy2 _ rfl;obtain rfl:=Option.some.inj h;exact lfP []
noncomputable def spec_l46Prefix_m (a0:l41Rd):Option (HelloEntry × l41Rd) :=
 bd (spec_l41Rd_pick_m a0 6) fun x1 =>
 gd ((0:Int)≤x1.1∧x1.1<((([0,1,8,8,15,16]:List Int).length:Nat):Int)) <|
 bd (spec_l41Rd_pick_m (⟨a0.b,x1.2.p⟩:l41Rd) 5) fun x3 =>
 bd (spec_l41Rd_pick_m (⟨a0.b,x3.2.p⟩:l41Rd) 5) fun x4 =>
 gd ((0:Int)≤x4.1∧x4.1<((([0,32768,2560,65535,IntKind.i64.wrap (x3.1*256)]:List Int).length:Nat):Int)) <|
 bd (spec_l41Size_m (([0,1,8,8,15,16]:List Int).getD x1.1.toNat default)) fun x6 =>
 gd ((x6:Int) ≠ 0) <|
 some ((⟨IntKind.i64.wrap ((([0,32768,2560,65535,IntKind.i64.wrap (x3.1*256)]:List Int).getD x4.1.toNat default) - (((([0,32768,2560,65535,IntKind.i64.wrap (x3.1*256)]:List Int).getD x4.1.toNat default):Int).tmod x6)),(([0,1,8,8,15,16]:List Int).getD x1.1.toNat default),0,0⟩:HelloEntry),(⟨a0.b,x4.2.p⟩:l41Rd))
theorem spec_l46Prefix_c {a0:l41Rd} {r:HelloEntry × l41Rd} (h:spec_l46Prefix_m a0=some r):EffC Tryz.prog 114 [.ref 9000 0 0] [(9000,.box 113 [.d (slD encByte a0.b),.d (.int .i64 a0.p)])] (.agg [.d (.int .i64 r.1.Addr),.d (.int .i64 r.1.Len),.d (.int .i64 r.1.Cost),.d (.int .i64 r.1.Label)]) [(9000,.box 113 [.d (slD encByte a0.b),.d (.int .i64 r.2.p)])]:=by
  refine effC_x tOk (fn:=Tryz.f114) (c:=codeOf Tryz.f114) rfl rfl ?_;unfold spec_l46Prefix_m at h;(conv=>whnf);refine bldS (enc:=encInt) ([0,1,8,8,15,16]:List Int) ?_;(conv=>whnf);obtain ⟨x1,hx1,h⟩:=bd_some h;refine cE [(9000,9000)] 0 (spec_l41Rd_pick_c hx1) ?_;(conv=>whnf);refine gdI h (fun h=>?_);(conv=>whnf);obtain ⟨x3,hx3,h⟩:=bd_some h;refine cE [(9000,9000)] 0 (spec_l41Rd_pick_c hx3) ?_;(conv=>whnf);refine bldS (enc:=encInt) ([0,32768,2560,65535,IntKind.i64.wrap (x3.1*256)]:List Int) ?_;(conv=>whnf);obtain ⟨x4,hx4,h⟩:=bd_some h;refine cE [(9000,9000)] 0 (spec_l41Rd_pick_c hx4) ?_;(conv=>whnf);refine gdI h (fun h=>?_);(conv=>whnf);obtain ⟨x6,hx6,h⟩:=bd_some h;refine cC 0 (spec_l41Size_c hx6) ?_;clear hx6;(conv=>whnf);refine gdI h (fun h=>?_);(conv=>whnf);obtain rfl:=Option.some.inj h;exact lfE []
noncomputable def spec_l46Entry_m (a0:l41Rd):Option (HelloEntry × l41Rd) :=
 bd (spec_l46Prefix_m a0) fun x1 =>
 bd (spec_l41Rd_pick_m (⟨a0.b,x1.2.p⟩:l41Rd) 4) fun x2 =>
 gd ((0:Int)≤x2.1∧x2.1<((([1,2,3,255]:List Int).length:Nat):Int)) <|
 bd (spec_l41Rd_pick_m (⟨a0.b,x2.2.p⟩:l41Rd) 2) fun x4 =>
 bd (spec_l41Rd_pick_m (⟨a0.b,x4.2.p⟩:l41Rd) 3) fun x5 =>
 gd ((0:Int)≤x5.1∧x5.1<((([1,17,1000]:List Int).length:Nat):Int)) <|
 some ({ x1.1 with Cost:=(([1,2,3,255]:List Int).getD x2.1.toNat default),Label:=IntKind.i64.wrap (x4.1*(([1,17,1000]:List Int).getD x5.1.toNat default)) },(⟨a0.b,x5.2.p⟩:l41Rd))
theorem spec_l46Entry_c {a0:l41Rd} {r:HelloEntry × l41Rd} (h:spec_l46Entry_m a0=some r):EffC Tryz.prog 115 [.ref 9000 0 0] [(9000,.box 113 [.d (slD encByte a0.b),.d (.int .i64 a0.p)])] (.agg [.d (.int .i64 r.1.Addr),.d (.int .i64 r.1.Len),.d (.int .i64 r.1.Cost),.d (.int .i64 r.1.Label)]) [(9000,.box 113 [.d (slD encByte a0.b),.d (.int .i64 r.2.p)])]:=by
  refine effC_x tOk (fn:=Tryz.f115) (c:=codeOf Tryz.f115) rfl rfl ?_;unfold spec_l46Entry_m at h;(conv=>whnf);obtain ⟨x1,hx1,h⟩:=bd_some h;refine cE [(9000,9000)] 0 (spec_l46Prefix_c hx1) ?_;(conv=>whnf);refine bldS (enc:=encInt) ([1,2,3,255]:List Int) ?_;(conv=>whnf);obtain ⟨x2,hx2,h⟩:=bd_some h;refine cE [(9000,9000)] 0 (spec_l41Rd_pick_c hx2) ?_;(conv=>whnf);refine gdI h (fun h=>?_);(conv=>whnf);obtain ⟨x4,hx4,h⟩:=bd_some h;refine cE [(9000,9000)] 0 (spec_l41Rd_pick_c hx4) ?_;(conv=>whnf);refine bldS (enc:=encInt) ([1,17,1000]:List Int) ?_;(conv=>whnf);obtain ⟨x5,hx5,h⟩:=bd_some h;refine cE [(9000,9000)] 0 (spec_l41Rd_pick_c hx5) ?_;(conv=>whnf);refine gdI h (fun h=>?_);(conv=>whnf);obtain rfl:=Option.some.inj h;exact lfE []
noncomputable def spec_l41Less_m (a0:HelloEntry) (a1:HelloEntry):Option (Bool) :=
 some ((decide (a0.Addr<a1.Addr)) || ((a0.Addr == a1.Addr) && (decide (a0.Len<a1.Len))))
theorem spec_l41Less_c {a0:HelloEntry} {a1:HelloEntry} {r:Bool} (h:spec_l41Less_m a0 a1=some r):PureC Tryz.prog 103 [.agg [.d (.int .i64 a0.Addr),.d (.int .i64 a0.Len),.d (.int .i64 a0.Cost),.d (.int .i64 a0.Label)],.agg [.d (.int .i64 a1.Addr),.d (.int .i64 a1.Len),.d (.int .i64 a1.Cost),.d (.int .i64 a1.Label)]] (.d (.bool r)) []:=by
  refine pureC_x tOk (fn:=Tryz.f103) (c:=codeOf Tryz.f103) rfl rfl ?_;unfold spec_l41Less_m at h;(conv=>whnf);obtain rfl:=Option.some.inj h;exact lfP []
noncomputable def spec_l42Table_m (a0:(List HelloEntry)):Option ((List HelloEntry)) :=
 gd (((0)+(a0.length))*(32+1)≤70368744177664) <|
 some a0
theorem spec_l42Table_c {a0:(List HelloEntry)} {r:(List HelloEntry)} (h:spec_l42Table_m a0=some r):PureC Tryz.prog 77 [.d (slD HelloEntry.enc a0)] (.osl 5001 0 r.length) [⟨5001,36,4,r.length,rows HelloEntry.enc r⟩]:=by
  refine pureC_x tOk (fn:=Tryz.f77) (c:=codeOf Tryz.f77) rfl rfl ?_;unfold spec_l42Table_m at h;(conv=>whnf);refine gdI h (fun h=>?_);refine appN (enc:=HelloEntry.enc) (ys:=a0) ?_;(conv=>whnf);obtain rfl:=Option.some.inj h;exact lfP [.s [(5,5001),(5001,5)]]
noncomputable def spec_l43Put_m (a0:(List HelloEntry)) (a1:HelloEntry):Option ((List HelloEntry)) :=
 bd (lp (σ:=Int) (β:=(Int)) (fun s1 =>
 gd ((decide (s1<((a0.length:Nat):Int)))=true→((0:Int)≤s1∧s1<((a0.length:Nat):Int))) <|
 bd (gcall ((decide (s1<((a0.length:Nat):Int)))=true) (spec_l41Less_m (a0.getD s1.toNat default) a1)) fun x6 =>
(if ((decide (s1<((a0.length:Nat):Int))) && x6)=true then
 some (.inl (IntKind.i64.wrap (s1+1)))
else
 some (.inr s1))) 0) fun x4 =>
 gd ((decide (x4<((a0.length:Nat):Int)))=true→((0:Int)≤x4∧x4<((a0.length:Nat):Int))) <|
 gd (((decide (x4<((a0.length:Nat):Int))) && (((a0.getD x4.toNat default).Addr) == a1.Addr))=true→((0:Int)≤x4∧x4<((a0.length:Nat):Int))) <|
(if (((decide (x4<((a0.length:Nat):Int))) && (((a0.getD x4.toNat default).Addr) == a1.Addr)) && (((a0.getD x4.toNat default).Len) == a1.Len))=true then
 bd (spec_l42Table_m a0) fun x10 =>
 gd ((0:Int)≤x4∧x4<((x10.length:Nat):Int)) <|
 some (x10.set x4.toNat a1)
else
 gd ((0:Int)≤(0:Int)∧(0:Int)≤x4∧x4≤((a0.length:Nat):Int)) <|
 bd (spec_l42Table_m (a0.take x4.toNat)) fun x13 =>
 gd (((x13.length)+(([a1]:List HelloEntry).length))*(32+1)≤70368744177664) <|
 gd ((0:Int)≤x4∧x4≤((a0.length:Nat):Int)∧((a0.length:Nat):Int)≤((a0.length:Nat):Int)) <|
 gd ((((x13 ++ ([a1]:List HelloEntry)).length)+((dsub ((a0.length:Nat):Int) x4)))*(32+1)≤70368744177664) <|
 some ((x13 ++ ([a1]:List HelloEntry)) ++ (((a0).take (x4.toNat+(dsub ((a0.length:Nat):Int) x4))).drop x4.toNat)))
theorem spec_l43Put_c {a0:(List HelloEntry)} {a1:HelloEntry} {r:(List HelloEntry)} (h:spec_l43Put_m a0 a1=some r):PureC Tryz.prog 105 [.d (slD HelloEntry.enc a0),.agg [.d (.int .i64 a1.Addr),.d (.int .i64 a1.Len),.d (.int .i64 a1.Cost),.d (.int .i64 a1.Label)]] (.osl 5001 0 r.length) [⟨5001,36,4,r.length,rows HelloEntry.enc r⟩]:=by
  refine pureC_x tOk (fn:=Tryz.f105) (c:=codeOf Tryz.f105) rfl rfl ?_;unfold spec_l43Put_m at h;(conv=>whnf);refine seq_in tOk ?_;(conv=>whnf);obtain ⟨x4,hx4,h⟩:=bd_some h;refine loop_m tOk hx4 (fun s1=>⟨0,63,[(0,.d (slD HelloEntry.enc a0)),(3,.ref 3 0 0),(5,.d (.int .i64 s1))],[],[(3,.box 36 [.d (.int .i64 a1.Addr),.d (.int .i64 a1.Len),.d (.int .i64 a1.Cost),.d (.int .i64 a1.Label)])],[]⟩) ?_ ?_
  · exact leX []
  · clear hx4;intro s1 y2 g3 hy2;(conv=>whnf);refine seq_in tOk ?_;(conv=>whnf);obtain ⟨g5,g3⟩:=gd_some g3;obtain ⟨x6,hx6,g3⟩:=bd_some g3;refine draw_u tOk [.u 10 0 (.d (.bool x6)) []] 12 [] [0,0,2,7,15,31,31,127,255,31,1023,2047] [] ?_;(conv=>whnf);refine And.intro g5 ?_;clear g5;(conv=>whnf);refine And.intro (callDG_if rfl rfl rfl rfl (by intro c0; exact spec_l41Less_c (gcall_some hx6 c0))) ?_;(conv=>whnf);refine And.intro (by kernel_rfl) ?_;(conv=>whnf);refine andI g3 (fun _ g3=>?_) (fun _ g3=>?_)
    · (conv=>whnf);obtain rfl:=Option.some.inj g3;exact ⟨_,rfl,leX []⟩
    · (conv=>whnf);obtain rfl:=Option.some.inj g3;obtain rfl:=hy2 _ rfl;refine seq_in tOk ?_;(conv=>whnf);obtain ⟨g8,h⟩:=gd_some h;obtain ⟨g9,h⟩:=gd_some h;refine draw_u tOk [] 24 [] [0,0,2,7,15,31,31,127,255,511,31,1055,4095,8191,16383,32767,32767,131071,262143,524287,32767,1081343,4194303,8388607] [] ?_;(conv=>whnf);refine And.intro g8 ?_;clear g8;(conv=>whnf);refine And.intro g9 ?_;clear g9;(conv=>whnf);refine And.intro (by kernel_rfl) ?_;(conv=>whnf);refine andI h (fun _ h=>?_) (fun _ h=>?_)
      · (conv=>whnf);obtain ⟨x10,hx10,h⟩:=bd_some h;refine cC 1000 (spec_l42Table_c hx10) ?_;clear hx10;(conv=>whnf);refine gdI h (fun h=>?_);(conv=>whnf);refine ⟨rows HelloEntry.enc (x10.set s1.toNat a1),store_rows' lenA rfl,?_⟩;(conv=>whnf);obtain rfl:=Option.some.inj h;exact lfP [.s [(5001,6001),(6001,5001)]]
      · (conv=>whnf);obtain ⟨g12,h⟩:=gd_some h;obtain ⟨x13,hx13,h⟩:=bd_some h;obtain ⟨g14,h⟩:=gd_some h;obtain ⟨g15,h⟩:=gd_some h;obtain ⟨g16,h⟩:=gd_some h;refine draw_t tOk [.e 3 [] (.osl 6001 0 x13.length) [] [(6001,.arr 36 4 x13.length (rows HelloEntry.enc x13))],.a 6 [(6001,.arr 36 4 x13.length (rows HelloEntry.enc x13))] (.osl 58 0 ((x13 ++ ([a1]:List HelloEntry)).length)) [(58,.arr 36 4 ((x13 ++ ([a1]:List HelloEntry)).length) (rows HelloEntry.enc (x13 ++ ([a1]:List HelloEntry))))],.a 10 [(58,.arr 36 4 ((x13 ++ ([a1]:List HelloEntry)).length) (rows HelloEntry.enc (x13 ++ ([a1]:List HelloEntry))))] (.osl 62 0 (((x13 ++ ([a1]:List HelloEntry)) ++ (((a0).take (s1.toNat+(dsub ((a0.length:Nat):Int) s1))).drop s1.toNat)).length)) [(62,.arr 36 4 (((x13 ++ ([a1]:List HelloEntry)) ++ (((a0).take (s1.toNat+(dsub ((a0.length:Nat):Int) s1))).drop s1.toNat)).length) (rows HelloEntry.enc ((x13 ++ ([a1]:List HelloEntry)) ++ (((a0).take (s1.toNat+(dsub ((a0.length:Nat):Int) s1))).drop s1.toNat))))]] 12 [] [0,0,3,7,0,16,63,0,0,384,1023,2047] [] [] ?_;(conv=>whnf);refine And.intro ⟨g12,.inr rfl⟩ ?_;(conv=>whnf);refine And.intro (eH [] 1000 ((spec_l42Table_c hx13).eff rfl rfl)) ?_;(conv=>whnf);refine bldS (enc:=HelloEntry.enc) ([a1]:List HelloEntry) ?_;(conv=>whnf);refine And.intro (by (conv=>whnf); exact ⟨g14,appS (enc:=HelloEntry.enc) (xs:=x13) (ys:=([a1]:List HelloEntry)) ⟨rfl,rfl⟩⟩) ?_;(conv=>whnf);refine And.intro ⟨g15,.inr rfl⟩ ?_;(conv=>whnf);refine And.intro (by (conv=>whnf); exact ⟨g16,appS (enc:=HelloEntry.enc) (xs:=(x13 ++ ([a1]:List HelloEntry))) (ys:=((a0).take (s1.toNat+(dsub ((a0.length:Nat):Int) s1))).drop s1.toNat) ⟨rfl,rfl⟩⟩) ?_;(conv=>whnf);refine And.intro (by kernel_rfl) ?_;(conv=>whnf);obtain rfl:=Option.some.inj h;exact lfP [.s [(62,5001),(5001,62)]]
noncomputable def spec_l46Table_m (a0:l41Rd):Option ((List HelloEntry) × l41Rd) :=
 bd (spec_l41Rd_pick_m a0 5) fun x1 =>
 bd (lp (σ:=List HelloEntry × Int × Int) (β:=(Nat × (List HelloEntry) × Int)) (fun s2 =>
(if (decide (s2.2.2 > 0))=true then
 bd (spec_l46Entry_m (⟨a0.b,s2.2.1⟩:l41Rd)) fun x6 =>
 bd (spec_l43Put_m s2.1 x6.1) fun x7 =>
 some (.inl (x7,x6.2.p,IntKind.i64.wrap (s2.2.2 - 1)))
else
 some (.inr (s2.1.length,s2.1,s2.2.1)))) (([]:List HelloEntry),x1.2.p,x1.1)) fun x5 =>
 bd (lp (σ:=List HelloEntry × Int) (β:=(Nat × (List HelloEntry) × Int)) (fun s9 =>
 bd (spec_l41Rd_pick_m (⟨a0.b,s9.2⟩:l41Rd) 12) fun x13 =>
(if ((x13.1 == 0) && (decide (((s9.1.length:Nat):Int)<8)))=true then
 bd (lp (σ:=List HelloEntry × Int × Int) (β:=(Nat × (List HelloEntry) × Int)) (fun s14 =>
(if (decide (((s14.1.length:Nat):Int)<8))=true then
 bd (spec_l41Rd_pick_m (⟨a0.b,s14.2.1⟩:l41Rd) 2) fun x18 =>
 bd (spec_l43Put_m s14.1 (⟨IntKind.i64.wrap (16384+s14.2.2),16,IntKind.i64.wrap (1+x18.1),0⟩:HelloEntry)) fun x19 =>
 some (.inl (x19,x18.2.p,IntKind.i64.wrap (s14.2.2+1)))
else
 some (.inr (s14.1.length,s14.1,s14.2.1)))) (s9.1,x13.2.p,0)) fun x17 =>
 some (.inl (x17.2.1,x17.2.2))
else
 some (.inr (s9.1.length,s9.1,x13.2.p)))) (x5.2.1,x5.2.2)) fun x12 =>
 some (x12.2.1,(⟨a0.b,x12.2.2⟩:l41Rd))
theorem spec_l46Table_c {a0:l41Rd} {r:(List HelloEntry) × l41Rd} (h:spec_l46Table_m a0=some r):EffC Tryz.prog 158 [.ref 9000 0 0] [(9000,.box 113 [.d (slD encByte a0.b),.d (.int .i64 a0.p)])] (.osl 5001 0 r.1.length) [(9000,.box 113 [.d (slD encByte a0.b),.d (.int .i64 r.2.p)]),(5001,.arr 36 4 r.1.length (rows HelloEntry.enc r.1))]:=by
  refine effC_x tOk (fn:=Tryz.f158) (c:=codeOf Tryz.f158) rfl rfl ?_;unfold spec_l46Table_m at h;(conv=>whnf);refine seq_in tOk ?_;(conv=>whnf);obtain ⟨x1,hx1,h⟩:=bd_some h;refine cE [(9000,9000)] 0 (spec_l41Rd_pick_c hx1) ?_;(conv=>whnf);obtain ⟨x5,hx5,h⟩:=bd_some h;refine loop_m tOk hx5 (fun s2=>⟨0,39,[(0,.ref 9000 0 0),(3,.osl 7001 0 s2.1.length),(4,.d (.int .i64 s2.2.2))],[],[(7001,.arr 36 4 s2.1.length (rows HelloEntry.enc s2.1)),(9000,.box 113 [.d (slD encByte a0.b),.d (.int .i64 s2.2.1)])],[⟨[(0,.ref 9000 0 0)],[]⟩]⟩) ?_ ?_
  · exact leX [.p 7001 36 4 (rows HelloEntry.enc ([]:List HelloEntry))]
  · clear hx5;intro s2 y3 g4 hy3;(conv=>whnf);refine seq_in tOk ?_;(conv=>whnf);refine andI g4 (fun _ g4=>?_) (fun _ g4=>?_)
    · (conv=>whnf);refine seq_in tOk ?_;(conv=>whnf);obtain ⟨x6,hx6,g4⟩:=bd_some g4;refine cE [(9000,9000)] 0 (spec_l46Entry_c hx6) ?_;(conv=>whnf);obtain ⟨x7,hx7,g4⟩:=bd_some g4;refine cC 1000 (spec_l43Put_c hx7) ?_;clear hx7;(conv=>whnf);obtain rfl:=Option.some.inj g4;exact ⟨_,rfl,leX [.s [(6001,7001),(7001,6001)]]⟩
    · (conv=>whnf);obtain rfl:=Option.some.inj g4;obtain rfl:=hy3 _ rfl;refine seq_in tOk ?_;(conv=>whnf);obtain ⟨x12,hx12,h⟩:=bd_some h;refine loop_m tOk hx12 (fun s9=>⟨0,39,[(0,.ref 9000 0 0),(3,.osl 7001 0 s9.1.length)],[],[(7001,.arr 36 4 s9.1.length (rows HelloEntry.enc s9.1)),(9000,.box 113 [.d (slD encByte a0.b),.d (.int .i64 s9.2)])],[⟨[(0,.ref 9000 0 0)],[]⟩]⟩) ?_ ?_
      · exact leX []
      · clear hx12;intro s9 y10 g11 hy10;(conv=>whnf);refine seq_in tOk ?_;(conv=>whnf);obtain ⟨x13,hx13,g11⟩:=bd_some g11;refine cE [(9000,9000)] 0 (spec_l41Rd_pick_c hx13) ?_;(conv=>whnf);refine andI g11 (fun _ g11=>?_) (fun _ g11=>?_)
        · (conv=>whnf);obtain ⟨x17,hx17,g11⟩:=bd_some g11;refine loop_m tOk hx17 (fun s14=>⟨0,39,[(0,.ref 9000 0 0),(3,.osl 7001 0 s14.1.length),(5,.d (.int .i64 s14.2.2))],[],[(7001,.arr 36 4 s14.1.length (rows HelloEntry.enc s14.1)),(9000,.box 113 [.d (slD encByte a0.b),.d (.int .i64 s14.2.1)])],[⟨[(0,.ref 9000 0 0)],[]⟩]⟩) ?_ ?_
          · exact leX []
          · clear hx17;intro s14 y15 g16 hy15;(conv=>whnf);refine seq_in tOk ?_;(conv=>whnf);refine andI g16 (fun _ g16=>?_) (fun _ g16=>?_)
            · (conv=>whnf);refine seq_in tOk ?_;(conv=>whnf);obtain ⟨x18,hx18,g16⟩:=bd_some g16;refine cE [(9000,9000)] 0 (spec_l41Rd_pick_c hx18) ?_;(conv=>whnf);obtain ⟨x19,hx19,g16⟩:=bd_some g16;refine cC 1000 (spec_l43Put_c hx19) ?_;clear hx19;(conv=>whnf);obtain rfl:=Option.some.inj g16;exact ⟨_,rfl,leX [.s [(6001,7001),(7001,6001)]]⟩
            · (conv=>whnf);obtain rfl:=Option.some.inj g16;obtain rfl:=hy15 _ rfl;obtain rfl:=Option.some.inj g11;exact ⟨_,rfl,leX []⟩
        · (conv=>whnf);obtain rfl:=Option.some.inj g11;obtain rfl:=hy10 _ rfl;obtain rfl:=Option.some.inj h;exact lfE [.s [(5001,7001),(7001,5001)]]
noncomputable def spec_l42Keys_m (a0:(List HelloKey)):Option ((List HelloKey)) :=
 gd (((0)+(a0.length))*(16+1)≤70368744177664) <|
 some a0
theorem spec_l42Keys_c {a0:(List HelloKey)} {r:(List HelloKey)} (h:spec_l42Keys_m a0=some r):PureC Tryz.prog 76 [.d (slD HelloKey.enc a0)] (.osl 5001 0 r.length) [⟨5001,90,2,r.length,rows HelloKey.enc r⟩]:=by
  refine pureC_x tOk (fn:=Tryz.f76) (c:=codeOf Tryz.f76) rfl rfl ?_;unfold spec_l42Keys_m at h;(conv=>whnf);refine gdI h (fun h=>?_);refine appN (enc:=HelloKey.enc) (ys:=a0) ?_;(conv=>whnf);obtain rfl:=Option.some.inj h;exact lfP [.s [(5,5001),(5001,5)]]
noncomputable def spec_l42Routes_m (a0:(List HelloRoute)):Option ((List HelloRoute)) :=
 gd (((0)+(a0.length))*(40+1)≤70368744177664) <|
 some a0
theorem spec_l42Routes_c {a0:(List HelloRoute)} {r:(List HelloRoute)} (h:spec_l42Routes_m a0=some r):PureC Tryz.prog 78 [.d (slD HelloRoute.enc a0)] (.osl 5001 0 r.length) [⟨5001,94,5,r.length,rows HelloRoute.enc r⟩]:=by
  refine pureC_x tOk (fn:=Tryz.f78) (c:=codeOf Tryz.f78) rfl rfl ?_;unfold spec_l42Routes_m at h;(conv=>whnf);refine gdI h (fun h=>?_);refine appN (enc:=HelloRoute.enc) (ys:=a0) ?_;(conv=>whnf);obtain rfl:=Option.some.inj h;exact lfP [.s [(5,5001),(5001,5)]]
noncomputable def spec_l42Copy_m (a0:HelloEnd):Option (HelloEnd) :=
 bd (spec_l42Keys_m a0.Keys) fun x1 =>
 bd (spec_l42Table_m a0.Want) fun x2 =>
 bd (spec_l42Table_m a0.Told) fun x3 =>
 bd (spec_l42Routes_m a0.Heard) fun x4 =>
 some ({ a0 with Keys:=x1,Want:=x2,Told:=x3,Heard:=x4 })
theorem spec_l42Copy_c {a0:HelloEnd} {r:HelloEnd} (h:spec_l42Copy_m a0=some r):PureC Tryz.prog 31 [.agg [.d (.int .i64 a0.Name),.d (.int .i64 a0.Peer),.d (slD HelloKey.enc a0.Keys),.d (.int .i64 a0.Boot),.d (slD HelloEntry.enc a0.Want),.d (.int .i64 a0.Turn),.d (.int .i64 a0.PeerBoot),.d (.int .i64 a0.PeerTurn),.d (.bool a0.Up),.d (.int .i64 a0.Left),.d (.int .i64 a0.Num),.d (.int .i64 a0.Under.Kind),.d (.int .i64 a0.Under.Entry.Addr),.d (.int .i64 a0.Under.Entry.Len),.d (.int .i64 a0.Under.Entry.Cost),.d (.int .i64 a0.Under.Entry.Label),.d (slD HelloEntry.enc a0.Told),.d (.bool a0.All),.d (.int .i64 a0.Got),.d (.bool a0.Full),.d (slD HelloRoute.enc a0.Heard),.d (.int .i64 a0.Keep)]] (.agg [.d (.int .i64 r.Name),.d (.int .i64 r.Peer),.osl 5001 0 r.Keys.length,.d (.int .i64 r.Boot),.osl 5002 0 r.Want.length,.d (.int .i64 r.Turn),.d (.int .i64 r.PeerBoot),.d (.int .i64 r.PeerTurn),.d (.bool r.Up),.d (.int .i64 r.Left),.d (.int .i64 r.Num),.d (.int .i64 r.Under.Kind),.d (.int .i64 r.Under.Entry.Addr),.d (.int .i64 r.Under.Entry.Len),.d (.int .i64 r.Under.Entry.Cost),.d (.int .i64 r.Under.Entry.Label),.osl 5003 0 r.Told.length,.d (.bool r.All),.d (.int .i64 r.Got),.d (.bool r.Full),.osl 5004 0 r.Heard.length,.d (.int .i64 r.Keep)]) [⟨5001,90,2,r.Keys.length,rows HelloKey.enc r.Keys⟩,⟨5002,36,4,r.Want.length,rows HelloEntry.enc r.Want⟩,⟨5003,36,4,r.Told.length,rows HelloEntry.enc r.Told⟩,⟨5004,94,5,r.Heard.length,rows HelloRoute.enc r.Heard⟩]:=by
  refine pureC_x tOk (fn:=Tryz.f31) (c:=codeOf Tryz.f31) rfl rfl ?_;unfold spec_l42Copy_m at h;(conv=>whnf);obtain ⟨x1,hx1,h⟩:=bd_some h;refine cC 1000 (spec_l42Keys_c hx1) ?_;clear hx1;(conv=>whnf);obtain ⟨x2,hx2,h⟩:=bd_some h;refine cC 2000 (spec_l42Table_c hx2) ?_;clear hx2;(conv=>whnf);obtain ⟨x3,hx3,h⟩:=bd_some h;refine cC 3000 (spec_l42Table_c hx3) ?_;clear hx3;(conv=>whnf);obtain ⟨x4,hx4,h⟩:=bd_some h;refine cC 4000 (spec_l42Routes_c hx4) ?_;clear hx4;(conv=>whnf);obtain rfl:=Option.some.inj h;exact lfP [.s [(5001,6001),(5002,7001),(5003,8001),(5004,9001),(6001,5001),(7001,5002),(8001,5003),(9001,5004)]]
noncomputable def spec_l41In_m (a0:Int) (a1:Int) (a2:Int):Option (Bool) :=
 some ((decide (a0 ≥ a1)) && (decide (a0≤a2)))
theorem spec_l41In_c {a0:Int} {a1:Int} {a2:Int} {r:Bool} (h:spec_l41In_m a0 a1 a2=some r):PureC Tryz.prog 57 [.d (.int .i64 a0),.d (.int .i64 a1),.d (.int .i64 a2)] (.d (.bool r)) []:=by
  refine pureC_x tOk (fn:=Tryz.f57) (c:=codeOf Tryz.f57) rfl rfl ?_;unfold spec_l41In_m at h;(conv=>whnf);obtain rfl:=Option.some.inj h;exact lfP []
noncomputable def spec_HelloKeysOk_m (a0:(List HelloKey)):Option (Bool) :=
 bd (spec_l41In_m ((a0.length:Nat):Int) 1 3) fun x1 =>
(if (!x1)=true then
 some false
else
 bd (lp (σ:=Int) (β:=(Unit ⊕ Unit)) (fun s2 =>
(if (decide (s2<((a0.length:Nat):Int)))=true then
 gd ((0:Int)≤s2∧s2<((a0.length:Nat):Int)) <|
 bd (spec_l41In_m ((a0.getD s2.toNat default).Id) 1 9) fun x7 =>
 gd ((!x7)=false→((0:Int)≤s2∧s2<((a0.length:Nat):Int))) <|
 bd (gcall ((!x7)=false) (spec_l41In_m ((a0.getD s2.toNat default).Secret) 1 2147483646)) fun x9 =>
 gd ((decide (s2 > 0))=true→(((!x7) || (!x9))=false→((0:Int)≤IntKind.i64.wrap (s2 - 1)∧IntKind.i64.wrap (s2 - 1)<((a0.length:Nat):Int)))) <|
 gd ((decide (s2 > 0))=true→(((!x7) || (!x9))=false→((0:Int)≤s2∧s2<((a0.length:Nat):Int)))) <|
(if (((!x7) || (!x9)) || ((decide (s2 > 0)) && (decide (((a0.getD ((IntKind.i64.wrap (s2 - 1)).toNat) default).Id) ≥ ((a0.getD s2.toNat default).Id)))))=true then
 some (.inr (.inl ()))
else
 some (.inl (IntKind.i64.wrap (s2+1))))
else
 some (.inr (.inr ())))) 0) fun x5 =>
(match x5 with
| .inl d12 =>
 some false
| .inr d13 =>
 some true))
theorem spec_HelloKeysOk_c {a0:(List HelloKey)} {r:Bool} (h:spec_HelloKeysOk_m a0=some r):PureC Tryz.prog 58 [.d (slD HelloKey.enc a0)] (.d (.bool r)) []:=by
  refine pureC_x tOk (fn:=Tryz.f58) (c:=codeOf Tryz.f58) rfl rfl ?_;unfold spec_HelloKeysOk_m at h;(conv=>whnf);refine seq_in tOk ?_;(conv=>whnf);obtain ⟨x1,hx1,h⟩:=bd_some h;refine cC 0 (spec_l41In_c hx1) ?_;clear hx1;(conv=>whnf);refine andI h (fun _ h=>?_) (fun _ h=>?_)
  · (conv=>whnf);obtain rfl:=Option.some.inj h;exact lfP []
  · (conv=>whnf);refine seq_in tOk ?_;(conv=>whnf);obtain ⟨x5,hx5,h⟩:=bd_some h;refine loop_m tOk hx5 (fun s2=>⟨0,48,[(0,.d (slD HelloKey.enc a0)),(3,.d (.int .i64 s2))],[],[],[]⟩) ?_ ?_
    · exact leX []
    · clear hx5;intro s2 y3 g4 hy3;(conv=>whnf);refine seq_in tOk ?_;(conv=>whnf);refine andI g4 (fun _ g4=>?_) (fun _ g4=>?_)
      · (conv=>whnf);refine seq_in tOk ?_;(conv=>whnf);obtain ⟨g6,g4⟩:=gd_some g4;obtain ⟨x7,hx7,g4⟩:=bd_some g4;obtain ⟨g8,g4⟩:=gd_some g4;obtain ⟨x9,hx9,g4⟩:=bd_some g4;obtain ⟨g10,g4⟩:=gd_some g4;obtain ⟨g11,g4⟩:=gd_some g4;refine draw_u tOk [.u 5 0 (.d (.bool x7)) [],.u 13 0 (.d (.bool x9)) []] 34 [] [0,0,3,7,15,31,63,127,255,255,1023,2047,4095,8191,16383,32767,65535,131071,262143,524287,1048575,1048575,3145727,8388607,16777215,33554431,1048575,1048575,202375167,470810623,1007681535,2147483647,4294967295,8589934591] [] ?_;(conv=>whnf);refine And.intro g6 ?_;clear g6;(conv=>whnf);refine And.intro (callD_any (spec_l41In_c hx7) (by kernel_rfl)) ?_;(conv=>whnf);refine And.intro g8 ?_;clear g8;(conv=>whnf);refine And.intro (callDG_if rfl rfl rfl rfl (by intro c0; exact spec_l41In_c (gcall_some hx9 c0))) ?_;(conv=>whnf);refine And.intro g10 ?_;clear g10;(conv=>whnf);refine And.intro g11 ?_;clear g11;(conv=>whnf);refine And.intro (by kernel_rfl) ?_;(conv=>whnf);refine andI g4 (fun _ g4=>?_) (fun _ g4=>?_)
        · (conv=>whnf);obtain rfl:=Option.some.inj g4;obtain rfl:=hy3 _ rfl;obtain rfl:=Option.some.inj h;exact lfP []
        · (conv=>whnf);obtain rfl:=Option.some.inj g4;exact ⟨_,rfl,leX []⟩
      · (conv=>whnf);obtain rfl:=Option.some.inj g4;obtain rfl:=hy3 _ rfl;obtain rfl:=Option.some.inj h;exact lfP []
noncomputable def spec_l41Prefix_m (a0:HelloEntry):Option (Bool) :=
 bd (spec_l41In_m a0.Len 0 16) fun x1 =>
 bd (gcall (x1=true) (spec_l41In_m a0.Addr 0 65535)) fun x2 =>
 bd (gcall ((x1 && x2)=true) (spec_l41Size_m a0.Len)) fun x3 =>
 gd ((x1 && x2)=true→((x3:Int) ≠ 0)) <|
 some ((x1 && x2) && (((a0.Addr:Int).tmod x3) == 0))
theorem spec_l41Prefix_c {a0:HelloEntry} {r:Bool} (h:spec_l41Prefix_m a0=some r):PureC Tryz.prog 104 [.agg [.d (.int .i64 a0.Addr),.d (.int .i64 a0.Len),.d (.int .i64 a0.Cost),.d (.int .i64 a0.Label)]] (.d (.bool r)) []:=by
  refine pureC_x tOk (fn:=Tryz.f104) (c:=codeOf Tryz.f104) rfl rfl ?_;unfold spec_l41Prefix_m at h;(conv=>whnf);obtain ⟨x1,hx1,h⟩:=bd_some h;obtain ⟨x2,hx2,h⟩:=bd_some h;obtain ⟨x3,hx3,h⟩:=bd_some h;obtain ⟨g4,h⟩:=gd_some h;refine draw_u tOk [.u 2 0 (.d (.bool x1)) [],.u 6 0 (.d (.bool x2)) [],.u 13 0 (.d (.int .i64 x3)) []] 18 [] [0,1,3,7,15,31,63,127,255,511,1023,511,2559,6655,16383,32767,65535,131071] [] ?_;(conv=>whnf);refine And.intro (callD_any (spec_l41In_c hx1) (by kernel_rfl)) ?_;(conv=>whnf);refine And.intro (callDG_if rfl rfl rfl rfl (by intro c0; exact spec_l41In_c (gcall_some hx2 c0))) ?_;(conv=>whnf);refine And.intro (callDG_if rfl rfl rfl rfl (by intro c0; exact spec_l41Size_c (gcall_some hx3 c0))) ?_;(conv=>whnf);refine And.intro g4 ?_;clear g4;(conv=>whnf);refine And.intro (by kernel_rfl) ?_;(conv=>whnf);obtain rfl:=Option.some.inj h;exact lfP []
noncomputable def spec_l41EntryOk_m (a0:HelloEntry):Option (Bool) :=
 bd (spec_l41Prefix_m a0) fun x1 =>
 bd (gcall (x1=true) (spec_l41In_m a0.Cost 1 255)) fun x2 =>
 bd (gcall ((x1 && x2)=true) (spec_l41In_m a0.Label 0 1000)) fun x3 =>
 some ((x1 && x2) && x3)
theorem spec_l41EntryOk_c {a0:HelloEntry} {r:Bool} (h:spec_l41EntryOk_m a0=some r):PureC Tryz.prog 102 [.agg [.d (.int .i64 a0.Addr),.d (.int .i64 a0.Len),.d (.int .i64 a0.Cost),.d (.int .i64 a0.Label)]] (.d (.bool r)) []:=by
  refine pureC_x tOk (fn:=Tryz.f102) (c:=codeOf Tryz.f102) rfl rfl ?_;unfold spec_l41EntryOk_m at h;(conv=>whnf);obtain ⟨x1,hx1,h⟩:=bd_some h;refine cC 0 (spec_l41Prefix_c hx1) ?_;clear hx1;(conv=>whnf);obtain ⟨x2,hx2,h⟩:=bd_some h;refine cG (fun c0=>spec_l41In_c (gcall_some hx2 c0)) ?_;(conv=>whnf);obtain ⟨x3,hx3,h⟩:=bd_some h;refine cG (fun c0=>spec_l41In_c (gcall_some hx3 c0)) ?_;(conv=>whnf);obtain rfl:=Option.some.inj h;exact lfP []
noncomputable def spec_HelloTableOk_m (a0:(List HelloEntry)):Option (Bool) :=
(if (decide (((a0.length:Nat):Int) > 8))=true then
 some false
else
 bd (lp (σ:=Int) (β:=(Unit ⊕ Unit)) (fun s1 =>
(if (decide (s1<((a0.length:Nat):Int)))=true then
 gd ((0:Int)≤s1∧s1<((a0.length:Nat):Int)) <|
 bd (spec_l41EntryOk_m (a0.getD s1.toNat default)) fun x6 =>
 gd ((decide (s1 > 0))=true→((!x6)=false→((0:Int)≤IntKind.i64.wrap (s1 - 1)∧IntKind.i64.wrap (s1 - 1)<((a0.length:Nat):Int)))) <|
 gd ((decide (s1 > 0))=true→((!x6)=false→((0:Int)≤s1∧s1<((a0.length:Nat):Int)))) <|
 bd (gcall ((decide (s1 > 0))=true∧(!x6)=false) (spec_l41Less_m (a0.getD ((IntKind.i64.wrap (s1 - 1)).toNat) default) (a0.getD s1.toNat default))) fun x9 =>
(if ((!x6) || ((decide (s1 > 0)) && (!x9)))=true then
 some (.inr (.inl ()))
else
 some (.inl (IntKind.i64.wrap (s1+1))))
else
 some (.inr (.inr ())))) 0) fun x4 =>
(match x4 with
| .inl d10 =>
 some false
| .inr d11 =>
 some true))
theorem spec_HelloTableOk_c {a0:(List HelloEntry)} {r:Bool} (h:spec_HelloTableOk_m a0=some r):PureC Tryz.prog 59 [.d (slD HelloEntry.enc a0)] (.d (.bool r)) []:=by
  refine pureC_x tOk (fn:=Tryz.f59) (c:=codeOf Tryz.f59) rfl rfl ?_;unfold spec_HelloTableOk_m at h;(conv=>whnf);refine seq_in tOk ?_;(conv=>whnf);refine andI h (fun _ h=>?_) (fun _ h=>?_)
  · (conv=>whnf);obtain rfl:=Option.some.inj h;exact lfP []
  · (conv=>whnf);refine seq_in tOk ?_;(conv=>whnf);obtain ⟨x4,hx4,h⟩:=bd_some h;refine loop_m tOk hx4 (fun s1=>⟨0,36,[(0,.d (slD HelloEntry.enc a0)),(3,.d (.int .i64 s1))],[],[],[]⟩) ?_ ?_
    · exact leX []
    · clear hx4;intro s1 y2 g3 hy2;(conv=>whnf);refine seq_in tOk ?_;(conv=>whnf);refine andI g3 (fun _ g3=>?_) (fun _ g3=>?_)
      · (conv=>whnf);refine seq_in tOk ?_;(conv=>whnf);obtain ⟨g5,g3⟩:=gd_some g3;obtain ⟨x6,hx6,g3⟩:=bd_some g3;obtain ⟨g7,g3⟩:=gd_some g3;obtain ⟨g8,g3⟩:=gd_some g3;obtain ⟨x9,hx9,g3⟩:=bd_some g3;refine draw_u tOk [.u 4 0 (.d (.bool x6)) [],.u 19 0 (.d (.bool x9)) []] 23 [] [0,0,3,7,15,31,63,127,255,511,1023,1023,3071,8191,16383,1023,1023,99327,230399,524287,1048575,2097151,4194303] [] ?_;(conv=>whnf);refine And.intro g5 ?_;clear g5;(conv=>whnf);refine And.intro (callD_any (spec_l41EntryOk_c hx6) (by kernel_rfl)) ?_;(conv=>whnf);refine And.intro g7 ?_;clear g7;(conv=>whnf);refine And.intro g8 ?_;clear g8;(conv=>whnf);refine And.intro (callDG_if rfl rfl rfl rfl (by intro c0 c1; exact spec_l41Less_c (gcall_some hx9 ⟨c0,c1⟩))) ?_;(conv=>whnf);refine And.intro (by kernel_rfl) ?_;(conv=>whnf);refine andI g3 (fun _ g3=>?_) (fun _ g3=>?_)
        · (conv=>whnf);obtain rfl:=Option.some.inj g3;obtain rfl:=hy2 _ rfl;obtain rfl:=Option.some.inj h;exact lfP []
        · (conv=>whnf);obtain rfl:=Option.some.inj g3;exact ⟨_,rfl,leX []⟩
      · (conv=>whnf);obtain rfl:=Option.some.inj g3;obtain rfl:=hy2 _ rfl;obtain rfl:=Option.some.inj h;exact lfP []
noncomputable def spec_l41ChangeOk_m (a0:HelloChange):Option (Bool) :=
 bd (α:=Bool) ((if (a0.Kind == 0)=true then
 some (a0.Kind == 0)
else
 some (a0.Kind == 3))) fun x1 =>
(if x1=true then
 some ((a0.Entry.Addr == 0) && ((a0.Entry.Len == 0) && ((a0.Entry.Cost == 0) && ((a0.Entry.Label == 0) && true))))
else
(if (a0.Kind == 1)=true then
 bd (spec_l41EntryOk_m a0.Entry) fun x4 =>
 some x4
else
(if (a0.Kind == 2)=true then
 bd (spec_l41Prefix_m a0.Entry) fun x5 =>
 some ((x5 && (a0.Entry.Cost == 0)) && (a0.Entry.Label == 0))
else
 some false)))
theorem spec_l41ChangeOk_c {a0:HelloChange} {r:Bool} (h:spec_l41ChangeOk_m a0=some r):PureC Tryz.prog 60 [.agg [.d (.int .i64 a0.Kind),.d (.int .i64 a0.Entry.Addr),.d (.int .i64 a0.Entry.Len),.d (.int .i64 a0.Entry.Cost),.d (.int .i64 a0.Entry.Label)]] (.d (.bool r)) []:=by
  refine pureC_x tOk (fn:=Tryz.f60) (c:=codeOf Tryz.f60) rfl rfl ?_;unfold spec_l41ChangeOk_m at h;(conv=>whnf);refine seq_in tOk ?_;(conv=>whnf);obtain ⟨x1,hx1,h⟩:=bd_some h;refine seq_join tOk (fun s2=>⟨0,34,[(1,.ref 1 0 0),(4,.d (.int .i64 a0.Kind)),(5,.d (.bool s2))],[],[(1,.box 38 [.d (.int .i64 a0.Kind),.d (.int .i64 a0.Entry.Addr),.d (.int .i64 a0.Entry.Len),.d (.int .i64 a0.Entry.Cost),.d (.int .i64 a0.Entry.Label)])],[]⟩) (fun s2=>x1=s2) ?_ ?_
  · (conv=>whnf);refine andI hx1 (fun _ hx1=>?_) (fun _ hx1=>?_)
    · (conv=>whnf);obtain rfl:=Option.some.inj hx1;exact ⟨_,rfl,leX []⟩
    · (conv=>whnf);obtain rfl:=Option.some.inj hx1;exact ⟨_,rfl,leX []⟩
  · rintro _ rfl;(conv=>whnf);refine andI h (fun _ h=>?_) (fun _ h=>?_)
    · (conv=>whnf);obtain rfl:=Option.some.inj h;exact lfP []
    · (conv=>whnf);refine andI h (fun _ h=>?_) (fun _ h=>?_)
      · (conv=>whnf);obtain ⟨x4,hx4,h⟩:=bd_some h;refine cC 0 (spec_l41EntryOk_c hx4) ?_;clear hx4;(conv=>whnf);obtain rfl:=Option.some.inj h;exact lfP []
      · (conv=>whnf);refine andI h (fun _ h=>?_) (fun _ h=>?_)
        · (conv=>whnf);obtain ⟨x5,hx5,h⟩:=bd_some h;refine cC 0 (spec_l41Prefix_c hx5) ?_;clear hx5;(conv=>whnf);obtain rfl:=Option.some.inj h;exact lfP []
        · (conv=>whnf);obtain rfl:=Option.some.inj h;exact lfP []
noncomputable def spec_l42At_m (a0:(List HelloEntry)) (a1:HelloEntry):Option (Int) :=
 bd (lp (σ:=Int) (β:=(Int ⊕ Unit)) (fun s1 =>
(if (decide (s1<((a0.length:Nat):Int)))=true then
 gd ((0:Int)≤s1∧s1<((a0.length:Nat):Int)) <|
 gd ((((a0.getD s1.toNat default).Addr) == a1.Addr)=true→((0:Int)≤s1∧s1<((a0.length:Nat):Int))) <|
(if ((((a0.getD s1.toNat default).Addr) == a1.Addr) && (((a0.getD s1.toNat default).Len) == a1.Len))=true then
 some (.inr (.inl s1))
else
 some (.inl (IntKind.i64.wrap (s1+1))))
else
 some (.inr (.inr ())))) 0) fun x4 =>
(match x4 with
| .inl d7 =>
 some d7
| .inr d8 =>
 some (-1))
theorem spec_l42At_c {a0:(List HelloEntry)} {a1:HelloEntry} {r:Int} (h:spec_l42At_m a0 a1=some r):PureC Tryz.prog 138 [.d (slD HelloEntry.enc a0),.agg [.d (.int .i64 a1.Addr),.d (.int .i64 a1.Len),.d (.int .i64 a1.Cost),.d (.int .i64 a1.Label)]] (.d (.int .i64 r)) []:=by
  refine pureC_x tOk (fn:=Tryz.f138) (c:=codeOf Tryz.f138) rfl rfl ?_;unfold spec_l42At_m at h;(conv=>whnf);refine seq_in tOk ?_;(conv=>whnf);obtain ⟨x4,hx4,h⟩:=bd_some h;refine loop_m tOk hx4 (fun s1=>⟨0,31,[(0,.d (slD HelloEntry.enc a0)),(3,.ref 3 0 0),(5,.d (.int .i64 s1))],[],[(3,.box 36 [.d (.int .i64 a1.Addr),.d (.int .i64 a1.Len),.d (.int .i64 a1.Cost),.d (.int .i64 a1.Label)])],[]⟩) ?_ ?_
  · exact leX []
  · clear hx4;intro s1 y2 g3 hy2;(conv=>whnf);refine seq_in tOk ?_;(conv=>whnf);refine andI g3 (fun _ g3=>?_) (fun _ g3=>?_)
    · (conv=>whnf);refine seq_in tOk ?_;(conv=>whnf);obtain ⟨g5,g3⟩:=gd_some g3;obtain ⟨g6,g3⟩:=gd_some g3;refine draw_u tOk [] 18 [] [0,0,3,7,15,0,32,127,255,511,511,2047,4095,8191,511,16895,65535,131071] [] ?_;(conv=>whnf);refine And.intro g5 ?_;clear g5;(conv=>whnf);refine And.intro g6 ?_;clear g6;(conv=>whnf);refine And.intro (by kernel_rfl) ?_;(conv=>whnf);refine andI g3 (fun _ g3=>?_) (fun _ g3=>?_)
      · (conv=>whnf);obtain rfl:=Option.some.inj g3;obtain rfl:=hy2 _ rfl;obtain rfl:=Option.some.inj h;exact lfP []
      · (conv=>whnf);obtain rfl:=Option.some.inj g3;exact ⟨_,rfl,leX []⟩
    · (conv=>whnf);obtain rfl:=Option.some.inj g3;obtain rfl:=hy2 _ rfl;obtain rfl:=Option.some.inj h;exact lfP []
noncomputable def spec_l43Drop_m (a0:(List HelloEntry)) (a1:HelloEntry):Option ((List HelloEntry)) :=
 bd (spec_l42At_m a0 a1) fun x1 =>
(if (decide (x1<0))=true then
 bd (spec_l42Table_m a0) fun x2 =>
 some x2
else
 gd ((0:Int)≤(0:Int)∧(0:Int)≤x1∧x1≤((a0.length:Nat):Int)) <|
 bd (spec_l42Table_m (a0.take x1.toNat)) fun x4 =>
 gd ((0:Int)≤IntKind.i64.wrap (x1+1)∧IntKind.i64.wrap (x1+1)≤((a0.length:Nat):Int)∧((a0.length:Nat):Int)≤((a0.length:Nat):Int)) <|
 gd (((x4.length)+((dsub ((a0.length:Nat):Int) (IntKind.i64.wrap (x1+1)))))*(32+1)≤70368744177664) <|
 some (x4 ++ (((a0).take ((IntKind.i64.wrap (x1+1)).toNat+(dsub ((a0.length:Nat):Int) (IntKind.i64.wrap (x1+1))))).drop ((IntKind.i64.wrap (x1+1)).toNat))))
theorem spec_l43Drop_c {a0:(List HelloEntry)} {a1:HelloEntry} {r:(List HelloEntry)} (h:spec_l43Drop_m a0 a1=some r):PureC Tryz.prog 106 [.d (slD HelloEntry.enc a0),.agg [.d (.int .i64 a1.Addr),.d (.int .i64 a1.Len),.d (.int .i64 a1.Cost),.d (.int .i64 a1.Label)]] (.osl 5001 0 r.length) [⟨5001,36,4,r.length,rows HelloEntry.enc r⟩]:=by
  refine pureC_x tOk (fn:=Tryz.f106) (c:=codeOf Tryz.f106) rfl rfl ?_;unfold spec_l43Drop_m at h;(conv=>whnf);obtain ⟨x1,hx1,h⟩:=bd_some h;refine cC 0 (spec_l42At_c hx1) ?_;clear hx1;(conv=>whnf);refine seq_in tOk ?_;(conv=>whnf);refine andI h (fun _ h=>?_) (fun _ h=>?_)
  · (conv=>whnf);obtain ⟨x2,hx2,h⟩:=bd_some h;refine cC 1000 (spec_l42Table_c hx2) ?_;clear hx2;(conv=>whnf);obtain rfl:=Option.some.inj h;exact lfP [.s [(5001,6001),(6001,5001)]]
  · (conv=>whnf);obtain ⟨g3,h⟩:=gd_some h;obtain ⟨x4,hx4,h⟩:=bd_some h;obtain ⟨g5,h⟩:=gd_some h;refine draw_u tOk [.u 3 1000 (.osl 5001 0 x4.length) [⟨5001,36,4,x4.length,rows HelloEntry.enc x4⟩]] 8 [] [0,0,3,7,0,0,32,112] [255,511] ?_;(conv=>whnf);refine And.intro ⟨g3,.inr rfl⟩ ?_;(conv=>whnf);refine And.intro (callD_w (spec_l42Table_c hx4) rfl argA) ?_;(conv=>whnf);refine And.intro ⟨g5,.inr rfl⟩ ?_;(conv=>whnf);refine And.intro (by kernel_rfl) ?_;(conv=>whnf);refine gdI h (fun h=>?_);refine appS (enc:=HelloEntry.enc) (xs:=x4) (ys:=((a0).take ((IntKind.i64.wrap (x1+1)).toNat+(dsub ((a0.length:Nat):Int) (IntKind.i64.wrap (x1+1))))).drop ((IntKind.i64.wrap (x1+1)).toNat)) ?_;(conv=>whnf);obtain rfl:=Option.some.inj h;exact lfP [.s [(5001,6001),(6001,5001)]]
noncomputable def spec_l43Apply_m (a0:(List HelloEntry)) (a1:HelloChange):Option ((List HelloEntry)) :=
(if (a1.Kind == 1)=true then
 bd (spec_l43Put_m a0 a1.Entry) fun x1 =>
 some x1
else
(if (a1.Kind == 2)=true then
 bd (spec_l43Drop_m a0 a1.Entry) fun x2 =>
 some x2
else
 bd (spec_l42Table_m a0) fun x3 =>
 some x3))
theorem spec_l43Apply_c {a0:(List HelloEntry)} {a1:HelloChange} {r:(List HelloEntry)} (h:spec_l43Apply_m a0 a1=some r):PureC Tryz.prog 61 [.d (slD HelloEntry.enc a0),.agg [.d (.int .i64 a1.Kind),.d (.int .i64 a1.Entry.Addr),.d (.int .i64 a1.Entry.Len),.d (.int .i64 a1.Entry.Cost),.d (.int .i64 a1.Entry.Label)]] (.osl 5001 0 r.length) [⟨5001,36,4,r.length,rows HelloEntry.enc r⟩]:=by
  refine pureC_x tOk (fn:=Tryz.f61) (c:=codeOf Tryz.f61) rfl rfl ?_;unfold spec_l43Apply_m at h;(conv=>whnf);refine seq_in tOk ?_;(conv=>whnf);refine andI h (fun _ h=>?_) (fun _ h=>?_)
  · (conv=>whnf);obtain ⟨x1,hx1,h⟩:=bd_some h;refine cC 1000 (spec_l43Put_c hx1) ?_;clear hx1;(conv=>whnf);obtain rfl:=Option.some.inj h;exact lfP [.s [(5001,6001),(6001,5001)]]
  · (conv=>whnf);refine andI h (fun _ h=>?_) (fun _ h=>?_)
    · (conv=>whnf);obtain ⟨x2,hx2,h⟩:=bd_some h;refine cC 1000 (spec_l43Drop_c hx2) ?_;clear hx2;(conv=>whnf);obtain rfl:=Option.some.inj h;exact lfP [.s [(5001,6001),(6001,5001)]]
    · (conv=>whnf);obtain ⟨x3,hx3,h⟩:=bd_some h;refine cC 1000 (spec_l42Table_c hx3) ?_;clear hx3;(conv=>whnf);obtain rfl:=Option.some.inj h;exact lfP [.s [(5001,6001),(6001,5001)]]
noncomputable def spec_l43Apply_fz_m (a0:(List HelloEntry)) (a1:HelloChange):Option ((List HelloEntry)) :=
(if (a1.Kind == 1)=true then
 bd (spec_l43Put_m a0 a1.Entry) fun x1 =>
 some x1
else
(if (a1.Kind == 2)=true then
 bd (spec_l43Drop_m a0 a1.Entry) fun x2 =>
 some x2
else
 bd (spec_l42Table_m a0) fun x3 =>
 some x3))
theorem spec_l43Apply_fz_c {a0:(List HelloEntry)} {a1:HelloChange} {r:(List HelloEntry)} (h:spec_l43Apply_fz_m a0 a1=some r):EffC Tryz.prog 61 [.d (slD HelloEntry.enc a0),.agg [.d (.int .i64 a1.Kind),.d (.int .i64 a1.Entry.Addr),.d (.int .i64 a1.Entry.Len),.d (.int .i64 a1.Entry.Cost),.d (.int .i64 a1.Entry.Label)]] [] (.d (slD HelloEntry.enc r)) []:=by
  refine effC_x tOk (fn:=Tryz.f61) (c:=codeOf Tryz.f61) rfl rfl ?_;unfold spec_l43Apply_fz_m at h;(conv=>whnf);refine seq_in tOk ?_;(conv=>whnf);refine andI h (fun _ h=>?_) (fun _ h=>?_)
  · (conv=>whnf);obtain ⟨x1,hx1,h⟩:=bd_some h;refine cC 1000 (spec_l43Put_c hx1) ?_;clear hx1;(conv=>whnf);obtain rfl:=Option.some.inj h;exact lfE [.f [6001]]
  · (conv=>whnf);refine andI h (fun _ h=>?_) (fun _ h=>?_)
    · (conv=>whnf);obtain ⟨x2,hx2,h⟩:=bd_some h;refine cC 1000 (spec_l43Drop_c hx2) ?_;clear hx2;(conv=>whnf);obtain rfl:=Option.some.inj h;exact lfE [.f [6001]]
    · (conv=>whnf);obtain ⟨x3,hx3,h⟩:=bd_some h;refine cC 1000 (spec_l42Table_c hx3) ?_;clear hx3;(conv=>whnf);obtain rfl:=Option.some.inj h;exact lfE [.f [6001]]
noncomputable def spec_l42HeardOk_m (a0:HelloEnd):Option (Bool) :=
 bd (gcall ((decide (((a0.Heard.length:Nat):Int) > 16))=false) (spec_l41In_m a0.Keep 0 6)) fun x1 =>
(if ((decide (((a0.Heard.length:Nat):Int) > 16)) || (!x1))=true then
 some false
else
 bd (lp (σ:=Bool × Int) (β:=(Unit ⊕ Bool)) (fun s2 =>
(if (decide (s2.2<((a0.Heard.length:Nat):Int)))=true then
 gd ((0:Int)≤s2.2∧s2.2<((a0.Heard.length:Nat):Int)) <|
 bd (spec_l41EntryOk_m ((a0.Heard.getD s2.2.toNat default).Entry)) fun x7 =>
 gd ((decide (s2.2 > 0))=true→((!x7)=false→((0:Int)≤IntKind.i64.wrap (s2.2 - 1)∧IntKind.i64.wrap (s2.2 - 1)<((a0.Heard.length:Nat):Int)))) <|
 bd (gcall ((decide (s2.2 > 0))=true∧(!x7)=false) (spec_l41Less_m ((a0.Heard.getD ((IntKind.i64.wrap (s2.2 - 1)).toNat) default).Entry) ((a0.Heard.getD s2.2.toNat default).Entry))) fun x9 =>
(if (((!x7) || ((decide (s2.2 > 0)) && (!x9))) || ((!((a0.Heard.getD s2.2.toNat default).Stale)) && (a0.Left == 0)))=true then
 some (.inr (.inl ()))
else
 some (.inl ((s2.1 || (a0.Heard.getD s2.2.toNat default).Stale),IntKind.i64.wrap (s2.2+1))))
else
 some (.inr (.inr s2.1)))) (false,0)) fun x5 =>
(match x5 with
| .inl d10 =>
 some false
| .inr d11 =>
 some (d11 == (decide (a0.Keep > 0)))))
theorem spec_l42HeardOk_c {a0:HelloEnd} {r:Bool} (h:spec_l42HeardOk_m a0=some r):PureC Tryz.prog 62 [.agg [.d (.int .i64 a0.Name),.d (.int .i64 a0.Peer),.d (slD HelloKey.enc a0.Keys),.d (.int .i64 a0.Boot),.d (slD HelloEntry.enc a0.Want),.d (.int .i64 a0.Turn),.d (.int .i64 a0.PeerBoot),.d (.int .i64 a0.PeerTurn),.d (.bool a0.Up),.d (.int .i64 a0.Left),.d (.int .i64 a0.Num),.d (.int .i64 a0.Under.Kind),.d (.int .i64 a0.Under.Entry.Addr),.d (.int .i64 a0.Under.Entry.Len),.d (.int .i64 a0.Under.Entry.Cost),.d (.int .i64 a0.Under.Entry.Label),.d (slD HelloEntry.enc a0.Told),.d (.bool a0.All),.d (.int .i64 a0.Got),.d (.bool a0.Full),.d (slD HelloRoute.enc a0.Heard),.d (.int .i64 a0.Keep)]] (.d (.bool r)) []:=by
  refine pureC_x tOk (fn:=Tryz.f62) (c:=codeOf Tryz.f62) rfl rfl ?_;unfold spec_l42HeardOk_m at h;(conv=>whnf);refine seq_in tOk ?_;(conv=>whnf);obtain ⟨x1,hx1,h⟩:=bd_some h;refine cG (fun c0=>spec_l41In_c (gcall_some hx1 c0)) ?_;(conv=>whnf);refine andI h (fun _ h=>?_) (fun _ h=>?_)
  · (conv=>whnf);obtain rfl:=Option.some.inj h;exact lfP []
  · (conv=>whnf);refine seq_in tOk ?_;(conv=>whnf);obtain ⟨x5,hx5,h⟩:=bd_some h;refine loop_m tOk hx5 (fun s2=>⟨0,69,[(1,.ref 1 0 0),(3,.d (.bool s2.1)),(4,.d (.int .i64 s2.2))],[],[(1,.box 41 [.d (.int .i64 a0.Name),.d (.int .i64 a0.Peer),.d (slD HelloKey.enc a0.Keys),.d (.int .i64 a0.Boot),.d (slD HelloEntry.enc a0.Want),.d (.int .i64 a0.Turn),.d (.int .i64 a0.PeerBoot),.d (.int .i64 a0.PeerTurn),.d (.bool a0.Up),.d (.int .i64 a0.Left),.d (.int .i64 a0.Num),.d (.int .i64 a0.Under.Kind),.d (.int .i64 a0.Under.Entry.Addr),.d (.int .i64 a0.Under.Entry.Len),.d (.int .i64 a0.Under.Entry.Cost),.d (.int .i64 a0.Under.Entry.Label),.d (slD HelloEntry.enc a0.Told),.d (.bool a0.All),.d (.int .i64 a0.Got),.d (.bool a0.Full),.d (slD HelloRoute.enc a0.Heard),.d (.int .i64 a0.Keep)])],[]⟩) ?_ ?_
    · exact leX []
    · clear hx5;intro s2 y3 g4 hy3;(conv=>whnf);refine seq_in tOk ?_;(conv=>whnf);refine andI g4 (fun _ g4=>?_) (fun _ g4=>?_)
      · (conv=>whnf);refine seq_in tOk ?_;(conv=>whnf);refine gdI g4 (fun g4=>?_);(conv=>whnf);refine seq_in tOk ?_;(conv=>whnf);obtain ⟨x7,hx7,g4⟩:=bd_some g4;obtain ⟨g8,g4⟩:=gd_some g4;obtain ⟨x9,hx9,g4⟩:=bd_some g4;refine draw_u tOk [.u 2 0 (.d (.bool x7)) [],.u 17 0 (.d (.bool x9)) []] 31 [] [0,1,3,7,15,31,63,127,255,511,255,1279,4095,8191,16383,255,33023,131071,262143,524287,1048575,2097151,4194303,8388607,16777215,33554431,67108863,134217727,268435455,536870911,1073741823] [] ?_;(conv=>whnf);refine And.intro (callD_any (spec_l41EntryOk_c hx7) (by kernel_rfl)) ?_;(conv=>whnf);refine And.intro g8 ?_;clear g8;(conv=>whnf);refine And.intro (callDG_if rfl rfl rfl rfl (by intro c0 c1; exact spec_l41Less_c (gcall_some hx9 ⟨c0,c1⟩))) ?_;(conv=>whnf);refine And.intro (by kernel_rfl) ?_;(conv=>whnf);refine andI g4 (fun _ g4=>?_) (fun _ g4=>?_)
        · (conv=>whnf);obtain rfl:=Option.some.inj g4;obtain rfl:=hy3 _ rfl;obtain rfl:=Option.some.inj h;exact lfP []
        · (conv=>whnf);obtain rfl:=Option.some.inj g4;exact ⟨_,rfl,leX []⟩
      · (conv=>whnf);obtain rfl:=Option.some.inj g4;obtain rfl:=hy3 _ rfl;obtain rfl:=Option.some.inj h;exact lfP []
noncomputable def spec_HelloEndOk_m (a0:HelloEnd):Option (Bool) :=
 bd (spec_l41In_m a0.Name 0 65535) fun x1 =>
 bd (gcall ((!x1)=false) (spec_l41In_m a0.Peer 0 65535)) fun x2 =>
 bd (gcall ((((!x1) || (!x2)) || (a0.Name == a0.Peer))=false) (spec_HelloKeysOk_m a0.Keys)) fun x3 =>
 bd (gcall (((((!x1) || (!x2)) || (a0.Name == a0.Peer)) || (!x3))=false) (spec_l41In_m a0.Boot 1 1000)) fun x4 =>
 bd (gcall ((((((!x1) || (!x2)) || (a0.Name == a0.Peer)) || (!x3)) || (!x4))=false) (spec_HelloTableOk_m a0.Want)) fun x5 =>
(if ((((((!x1) || (!x2)) || (a0.Name == a0.Peer)) || (!x3)) || (!x4)) || (!x5))=true then
 some false
else
 bd (spec_l41In_m a0.Turn 0 1000000) fun x6 =>
 bd (gcall ((!x6)=false) (spec_l41In_m a0.PeerBoot 0 999)) fun x7 =>
 bd (gcall (((!x6) || (!x7))=false) (spec_l41In_m a0.PeerTurn 0 1000000)) fun x8 =>
(if ((((!x6) || (!x7)) || (!x8)) || (!((a0.PeerBoot == 0) == (a0.PeerTurn == 0))))=true then
 some false
else
 bd (spec_l41In_m a0.Left 0 4) fun x9 =>
(if (((!x9) || ((decide (a0.Left > 0)) && (a0.PeerBoot == 0))) || (a0.Up && (a0.Left == 0)))=true then
 some false
else
 bd (spec_l41In_m a0.Num 0 a0.Turn) fun x10 =>
 bd (gcall ((!x10)=false) (spec_l41In_m a0.Got 0 1000000)) fun x11 =>
 bd (gcall (((!x10) || (!x11))=false) (spec_l41ChangeOk_m a0.Under)) fun x12 =>
 bd (gcall (((((!x10) || (!x11)) || (!x12)) || ((decide (a0.Under.Kind > 0)) && (a0.Num == 0)))=false) (spec_HelloTableOk_m a0.Told)) fun x13 =>
 bd (gcall ((((((!x10) || (!x11)) || (!x12)) || ((decide (a0.Under.Kind > 0)) && (a0.Num == 0))) || (!x13))=false) (spec_l43Apply_fz_m a0.Told a0.Under)) fun x14 =>
 bd (gcall ((((((!x10) || (!x11)) || (!x12)) || ((decide (a0.Under.Kind > 0)) && (a0.Num == 0))) || (!x13))=false) (spec_HelloTableOk_m x14)) fun x15 =>
(if ((((((!x10) || (!x11)) || (!x12)) || ((decide (a0.Under.Kind > 0)) && (a0.Num == 0))) || (!x13)) || (!x15))=true then
 some false
else
 bd (spec_l42HeardOk_m a0) fun x16 =>
 some x16))))
theorem spec_HelloEndOk_c {a0:HelloEnd} {r:Bool} (h:spec_HelloEndOk_m a0=some r):PureC Tryz.prog 20 [.agg [.d (.int .i64 a0.Name),.d (.int .i64 a0.Peer),.d (slD HelloKey.enc a0.Keys),.d (.int .i64 a0.Boot),.d (slD HelloEntry.enc a0.Want),.d (.int .i64 a0.Turn),.d (.int .i64 a0.PeerBoot),.d (.int .i64 a0.PeerTurn),.d (.bool a0.Up),.d (.int .i64 a0.Left),.d (.int .i64 a0.Num),.d (.int .i64 a0.Under.Kind),.d (.int .i64 a0.Under.Entry.Addr),.d (.int .i64 a0.Under.Entry.Len),.d (.int .i64 a0.Under.Entry.Cost),.d (.int .i64 a0.Under.Entry.Label),.d (slD HelloEntry.enc a0.Told),.d (.bool a0.All),.d (.int .i64 a0.Got),.d (.bool a0.Full),.d (slD HelloRoute.enc a0.Heard),.d (.int .i64 a0.Keep)]] (.d (.bool r)) []:=by
  refine pureC_x tOk (fn:=Tryz.f20) (c:=codeOf Tryz.f20) rfl rfl ?_;unfold spec_HelloEndOk_m at h;(conv=>whnf);refine seq_in tOk ?_;(conv=>whnf);obtain ⟨x1,hx1,h⟩:=bd_some h;refine cC 0 (spec_l41In_c hx1) ?_;clear hx1;(conv=>whnf);obtain ⟨x2,hx2,h⟩:=bd_some h;refine cG (fun c0=>spec_l41In_c (gcall_some hx2 c0)) ?_;(conv=>whnf);obtain ⟨x3,hx3,h⟩:=bd_some h;refine cG (fun c0=>spec_HelloKeysOk_c (gcall_some hx3 c0)) ?_;(conv=>whnf);obtain ⟨x4,hx4,h⟩:=bd_some h;refine cG (fun c0=>spec_l41In_c (gcall_some hx4 c0)) ?_;(conv=>whnf);obtain ⟨x5,hx5,h⟩:=bd_some h;refine cG (fun c0=>spec_HelloTableOk_c (gcall_some hx5 c0)) ?_;(conv=>whnf);refine andI h (fun _ h=>?_) (fun _ h=>?_)
  · (conv=>whnf);obtain rfl:=Option.some.inj h;exact lfP []
  · (conv=>whnf);refine seq_in tOk ?_;(conv=>whnf);obtain ⟨x6,hx6,h⟩:=bd_some h;refine cC 0 (spec_l41In_c hx6) ?_;clear hx6;(conv=>whnf);obtain ⟨x7,hx7,h⟩:=bd_some h;refine cG (fun c0=>spec_l41In_c (gcall_some hx7 c0)) ?_;(conv=>whnf);obtain ⟨x8,hx8,h⟩:=bd_some h;refine cG (fun c0=>spec_l41In_c (gcall_some hx8 c0)) ?_;(conv=>whnf);refine andI h (fun _ h=>?_) (fun _ h=>?_)
    · (conv=>whnf);obtain rfl:=Option.some.inj h;exact lfP []
    · (conv=>whnf);refine seq_in tOk ?_;(conv=>whnf);obtain ⟨x9,hx9,h⟩:=bd_some h;refine cC 0 (spec_l41In_c hx9) ?_;clear hx9;(conv=>whnf);refine andI h (fun _ h=>?_) (fun _ h=>?_)
      · (conv=>whnf);obtain rfl:=Option.some.inj h;exact lfP []
      · (conv=>whnf);refine seq_in tOk ?_;(conv=>whnf);obtain ⟨x10,hx10,h⟩:=bd_some h;refine cC 0 (spec_l41In_c hx10) ?_;clear hx10;(conv=>whnf);obtain ⟨x11,hx11,h⟩:=bd_some h;refine cG (fun c0=>spec_l41In_c (gcall_some hx11 c0)) ?_;(conv=>whnf);obtain ⟨x12,hx12,h⟩:=bd_some h;refine cG (fun c0=>spec_l41ChangeOk_c (gcall_some hx12 c0)) ?_;(conv=>whnf);obtain ⟨x13,hx13,h⟩:=bd_some h;refine cG (fun c0=>spec_HelloTableOk_c (gcall_some hx13 c0)) ?_;(conv=>whnf);obtain ⟨x14,hx14,h⟩:=bd_some h;refine callG_e [] 0 rfl rfl rfl (by intro c0; exact spec_l43Apply_fz_c (gcall_some hx14 c0)) argA inA rfl rfl (condN_of inA) ?_;(conv=>whnf);obtain ⟨x15,hx15,h⟩:=bd_some h;refine cG (fun c0=>spec_HelloTableOk_c (gcall_some hx15 c0)) ?_;(conv=>whnf);refine andI h (fun _ h=>?_) (fun _ h=>?_)
        · (conv=>whnf);obtain rfl:=Option.some.inj h;exact lfP []
        · (conv=>whnf);obtain ⟨x16,hx16,h⟩:=bd_some h;refine cC 0 (spec_l42HeardOk_c hx16) ?_;clear hx16;(conv=>whnf);obtain rfl:=Option.some.inj h;exact lfP []
noncomputable def spec_HelloNew_m (a0:Int) (a1:Int) (a2:(List HelloKey)) (a3:Int) (a4:(List HelloEntry)):Option (HelloEnd) :=
 bd (spec_l42Copy_m (⟨a0,a1,a2,a3,a4,0,0,0,false,0,0,(⟨0,(⟨0,0,0,0⟩:HelloEntry)⟩:HelloChange),[],false,0,false,[],0⟩:HelloEnd)) fun x1 =>
 bd (spec_HelloEndOk_m x1) fun x2 =>
(if (!x2)=true then
 some (⟨0,0,[],0,[],0,0,0,false,0,0,(⟨0,(⟨0,0,0,0⟩:HelloEntry)⟩:HelloChange),[],false,0,false,[],0⟩:HelloEnd)
else
 some x1)
theorem spec_HelloNew_c {a0:Int} {a1:Int} {a2:(List HelloKey)} {a3:Int} {a4:(List HelloEntry)} {r:HelloEnd} (h:spec_HelloNew_m a0 a1 a2 a3 a4=some r):PureC Tryz.prog 166 [.d (.int .i64 a0),.d (.int .i64 a1),.d (slD HelloKey.enc a2),.d (.int .i64 a3),.d (slD HelloEntry.enc a4)] (.agg [.d (.int .i64 r.Name),.d (.int .i64 r.Peer),.osl 5001 0 r.Keys.length,.d (.int .i64 r.Boot),.osl 5002 0 r.Want.length,.d (.int .i64 r.Turn),.d (.int .i64 r.PeerBoot),.d (.int .i64 r.PeerTurn),.d (.bool r.Up),.d (.int .i64 r.Left),.d (.int .i64 r.Num),.d (.int .i64 r.Under.Kind),.d (.int .i64 r.Under.Entry.Addr),.d (.int .i64 r.Under.Entry.Len),.d (.int .i64 r.Under.Entry.Cost),.d (.int .i64 r.Under.Entry.Label),.osl 5003 0 r.Told.length,.d (.bool r.All),.d (.int .i64 r.Got),.d (.bool r.Full),.osl 5004 0 r.Heard.length,.d (.int .i64 r.Keep)]) [⟨5001,90,2,r.Keys.length,rows HelloKey.enc r.Keys⟩,⟨5002,36,4,r.Want.length,rows HelloEntry.enc r.Want⟩,⟨5003,36,4,r.Told.length,rows HelloEntry.enc r.Told⟩,⟨5004,94,5,r.Heard.length,rows HelloRoute.enc r.Heard⟩]:=by
  refine pureC_x tOk (fn:=Tryz.f166) (c:=codeOf Tryz.f166) rfl rfl ?_;unfold spec_HelloNew_m at h;(conv=>whnf);obtain ⟨x1,hx1,h⟩:=bd_some h;refine callW 1000 (spec_l42Copy_c hx1) rfl argA rfl ?_;(conv=>whnf);refine seq_in tOk ?_;(conv=>whnf);obtain ⟨x2,hx2,h⟩:=bd_some h;refine cC 0 (spec_HelloEndOk_c hx2) ?_;clear hx2;(conv=>whnf);refine andI h (fun _ h=>?_) (fun _ h=>?_)
  · (conv=>whnf);obtain rfl:=Option.some.inj h;exact lfP [.k [11,6001,6002,6003,6004],.p 5001 90 2 (rows HelloKey.enc ([]:List HelloKey)),.p 5002 36 4 (rows HelloEntry.enc ([]:List HelloEntry)),.p 5003 36 4 (rows HelloEntry.enc ([]:List HelloEntry)),.p 5004 94 5 (rows HelloRoute.enc ([]:List HelloRoute))]
  · (conv=>whnf);obtain rfl:=Option.some.inj h;exact lfP [.s [(5001,6001),(5002,6002),(5003,6003),(5004,6004),(6001,5001),(6002,5002),(6003,5003),(6004,5004)]]
noncomputable def spec_l44SideOk_m (a0:HelloSide):Option (Bool) :=
 bd (spec_HelloEndOk_m a0.End) fun x1 =>
(if (!x1)=true then
 some false
else
 some (a0.Up || ((((((((((a0.End.Turn == 0) && (a0.End.PeerBoot == 0)) && (!a0.End.Up)) && (a0.End.Num == 0)) && (a0.End.Under.Kind == 0)) && (((a0.End.Told.length:Nat):Int) == 0)) && (!a0.End.All)) && (a0.End.Got == 0)) && (!a0.End.Full)) && (((a0.End.Heard.length:Nat):Int) == 0))))
theorem spec_l44SideOk_c {a0:HelloSide} {r:Bool} (h:spec_l44SideOk_m a0=some r):PureC Tryz.prog 167 [.agg [.d (.bool a0.Up),.d (.int .i64 a0.End.Name),.d (.int .i64 a0.End.Peer),.d (slD HelloKey.enc a0.End.Keys),.d (.int .i64 a0.End.Boot),.d (slD HelloEntry.enc a0.End.Want),.d (.int .i64 a0.End.Turn),.d (.int .i64 a0.End.PeerBoot),.d (.int .i64 a0.End.PeerTurn),.d (.bool a0.End.Up),.d (.int .i64 a0.End.Left),.d (.int .i64 a0.End.Num),.d (.int .i64 a0.End.Under.Kind),.d (.int .i64 a0.End.Under.Entry.Addr),.d (.int .i64 a0.End.Under.Entry.Len),.d (.int .i64 a0.End.Under.Entry.Cost),.d (.int .i64 a0.End.Under.Entry.Label),.d (slD HelloEntry.enc a0.End.Told),.d (.bool a0.End.All),.d (.int .i64 a0.End.Got),.d (.bool a0.End.Full),.d (slD HelloRoute.enc a0.End.Heard),.d (.int .i64 a0.End.Keep)]] (.d (.bool r)) []:=by
  refine pureC_x tOk (fn:=Tryz.f167) (c:=codeOf Tryz.f167) rfl rfl ?_;unfold spec_l44SideOk_m at h;(conv=>whnf);refine seq_in tOk ?_;(conv=>whnf);obtain ⟨x1,hx1,h⟩:=bd_some h;refine cC 0 (spec_HelloEndOk_c hx1) ?_;clear hx1;(conv=>whnf);refine andI h (fun _ h=>?_) (fun _ h=>?_)
  · (conv=>whnf);obtain rfl:=Option.some.inj h;exact lfP []
  · (conv=>whnf);obtain rfl:=Option.some.inj h;exact lfP []
noncomputable def spec_HelloWordOk_m (a0:HelloWord):Option (Bool) :=
 bd (spec_l41In_m a0.From 0 65535) fun x1 =>
 bd (gcall ((!x1)=false) (spec_l41In_m a0.To 0 65535)) fun x2 =>
 bd (gcall (((!x1) || (!x2))=false) (spec_l41In_m a0.Key 1 9)) fun x3 =>
 bd (gcall ((((!x1) || (!x2)) || (!x3))=false) (spec_l41In_m a0.Boot 1 999)) fun x4 =>
 bd (gcall (((((!x1) || (!x2)) || (!x3)) || (!x4))=false) (spec_l41In_m a0.Yours 0 999)) fun x5 =>
(if (((((!x1) || (!x2)) || (!x3)) || (!x4)) || (!x5))=true then
 some false
else
 bd (spec_l41In_m a0.Turn 1 1000000) fun x6 =>
 bd (gcall ((!x6)=false) (spec_l41In_m a0.Num 0 a0.Turn)) fun x7 =>
 bd (gcall (((!x6) || (!x7))=false) (spec_l41In_m a0.Heard 0 1000000)) fun x8 =>
 bd (gcall ((((!x6) || (!x7)) || (!x8))=false) (spec_l41In_m a0.Sum 0 2147483646)) fun x9 =>
(if ((((!x6) || (!x7)) || (!x8)) || (!x9))=true then
 some false
else
 bd (spec_l41ChangeOk_m a0.Change) fun x10 =>
 some (x10 && ((a0.Change.Kind == 0) || (decide (a0.Num > 0))))))
theorem spec_HelloWordOk_c {a0:HelloWord} {r:Bool} (h:spec_HelloWordOk_m a0=some r):PureC Tryz.prog 74 [.agg [.d (.int .i64 a0.From),.d (.int .i64 a0.To),.d (.int .i64 a0.Key),.d (.int .i64 a0.Boot),.d (.int .i64 a0.Yours),.d (.int .i64 a0.Turn),.d (.int .i64 a0.Num),.d (.int .i64 a0.Heard),.d (.int .i64 a0.Change.Kind),.d (.int .i64 a0.Change.Entry.Addr),.d (.int .i64 a0.Change.Entry.Len),.d (.int .i64 a0.Change.Entry.Cost),.d (.int .i64 a0.Change.Entry.Label),.d (.int .i64 a0.Sum)]] (.d (.bool r)) []:=by
  refine pureC_x tOk (fn:=Tryz.f74) (c:=codeOf Tryz.f74) rfl rfl ?_;unfold spec_HelloWordOk_m at h;(conv=>whnf);refine seq_in tOk ?_;(conv=>whnf);obtain ⟨x1,hx1,h⟩:=bd_some h;refine cC 0 (spec_l41In_c hx1) ?_;clear hx1;(conv=>whnf);obtain ⟨x2,hx2,h⟩:=bd_some h;refine cG (fun c0=>spec_l41In_c (gcall_some hx2 c0)) ?_;(conv=>whnf);obtain ⟨x3,hx3,h⟩:=bd_some h;refine cG (fun c0=>spec_l41In_c (gcall_some hx3 c0)) ?_;(conv=>whnf);obtain ⟨x4,hx4,h⟩:=bd_some h;refine cG (fun c0=>spec_l41In_c (gcall_some hx4 c0)) ?_;(conv=>whnf);obtain ⟨x5,hx5,h⟩:=bd_some h;refine cG (fun c0=>spec_l41In_c (gcall_some hx5 c0)) ?_;(conv=>whnf);refine andI h (fun _ h=>?_) (fun _ h=>?_)
  · (conv=>whnf);obtain rfl:=Option.some.inj h;exact lfP []
  · (conv=>whnf);refine seq_in tOk ?_;(conv=>whnf);obtain ⟨x6,hx6,h⟩:=bd_some h;refine cC 0 (spec_l41In_c hx6) ?_;clear hx6;(conv=>whnf);obtain ⟨x7,hx7,h⟩:=bd_some h;refine cG (fun c0=>spec_l41In_c (gcall_some hx7 c0)) ?_;(conv=>whnf);obtain ⟨x8,hx8,h⟩:=bd_some h;refine cG (fun c0=>spec_l41In_c (gcall_some hx8 c0)) ?_;(conv=>whnf);obtain ⟨x9,hx9,h⟩:=bd_some h;refine cG (fun c0=>spec_l41In_c (gcall_some hx9 c0)) ?_;(conv=>whnf);refine andI h (fun _ h=>?_) (fun _ h=>?_)
    · (conv=>whnf);obtain rfl:=Option.some.inj h;exact lfP []
    · (conv=>whnf);obtain ⟨x10,hx10,h⟩:=bd_some h;refine cC 0 (spec_l41ChangeOk_c hx10) ?_;clear hx10;(conv=>whnf);obtain rfl:=Option.some.inj h;exact lfP []
noncomputable def spec_HelloWorldOk_m (a0:HelloWorld):Option (Bool) :=
 gd ((((a0.Sides.length:Nat):Int) != 2)=false→((0:Int)≤0∧0<((a0.Sides.length:Nat):Int))) <|
 bd (gcall ((((a0.Sides.length:Nat):Int) != 2)=false) (spec_l44SideOk_m (⟨(a0.Sides.getD 0 default).Up,{ ((a0.Sides.getD 0 default).End) with Under:=(⟨(((a0.Sides.getD 0 default).End).Under).Kind,((((a0.Sides.getD 0 default).End).Under).Entry)⟩:HelloChange) }⟩:HelloSide))) fun x2 =>
 gd (((((a0.Sides.length:Nat):Int) != 2) || (!x2))=false→((0:Int)≤1∧1<((a0.Sides.length:Nat):Int))) <|
 bd (gcall (((((a0.Sides.length:Nat):Int) != 2) || (!x2))=false) (spec_l44SideOk_m (⟨(a0.Sides.getD 1 default).Up,{ ((a0.Sides.getD 1 default).End) with Under:=(⟨(((a0.Sides.getD 1 default).End).Under).Kind,((((a0.Sides.getD 1 default).End).Under).Entry)⟩:HelloChange) }⟩:HelloSide))) fun x4 =>
 gd ((((((a0.Sides.length:Nat):Int) != 2) || (!x2)) || (!x4))=false→((0:Int)≤0∧0<((a0.Sides.length:Nat):Int))) <|
 gd ((((((a0.Sides.length:Nat):Int) != 2) || (!x2)) || (!x4))=false→((0:Int)≤1∧1<((a0.Sides.length:Nat):Int))) <|
 gd (((((((a0.Sides.length:Nat):Int) != 2) || (!x2)) || (!x4)) || ((((a0.Sides.getD 0 default).End).Name) != (((a0.Sides.getD 1 default).End).Peer)))=false→((0:Int)≤1∧1<((a0.Sides.length:Nat):Int))) <|
 gd (((((((a0.Sides.length:Nat):Int) != 2) || (!x2)) || (!x4)) || ((((a0.Sides.getD 0 default).End).Name) != (((a0.Sides.getD 1 default).End).Peer)))=false→((0:Int)≤0∧0<((a0.Sides.length:Nat):Int))) <|
(if ((((((((a0.Sides.length:Nat):Int) != 2) || (!x2)) || (!x4)) || ((((a0.Sides.getD 0 default).End).Name) != (((a0.Sides.getD 1 default).End).Peer))) || ((((a0.Sides.getD 1 default).End).Name) != (((a0.Sides.getD 0 default).End).Peer))) || (decide (((a0.Radio.length:Nat):Int) > 12)))=true then
 some false
else
 bd (lp (σ:=Int) (β:=(Unit ⊕ Unit)) (fun s9 =>
(if (decide (s9<((a0.Radio.length:Nat):Int)))=true then
 gd ((0:Int)≤s9∧s9<((a0.Radio.length:Nat):Int)) <|
 bd (spec_HelloWordOk_m ({ (a0.Radio.getD s9.toNat default) with Change:=(⟨((a0.Radio.getD s9.toNat default).Change).Kind,(((a0.Radio.getD s9.toNat default).Change).Entry)⟩:HelloChange) })) fun x14 =>
(if (!x14)=true then
 some (.inr (.inl ()))
else
 some (.inl (IntKind.i64.wrap (s9+1))))
else
 some (.inr (.inr ())))) 0) fun x12 =>
(match x12 with
| .inl d15 =>
 some false
| .inr d16 =>
 some true))
theorem spec_HelloWorldOk_c {a0:HelloWorld} {r:Bool} (h:spec_HelloWorldOk_m a0=some r):PureC Tryz.prog 159 [.agg [.d (slD HelloSide.enc a0.Sides),.d (slD HelloWord.enc a0.Radio)]] (.d (.bool r)) []:=by
  refine pureC_x tOk (fn:=Tryz.f159) (c:=codeOf Tryz.f159) rfl rfl ?_;unfold spec_HelloWorldOk_m at h;(conv=>whnf);refine seq_in tOk ?_;(conv=>whnf);obtain ⟨g1,h⟩:=gd_some h;obtain ⟨x2,hx2,h⟩:=bd_some h;obtain ⟨g3,h⟩:=gd_some h;obtain ⟨x4,hx4,h⟩:=bd_some h;obtain ⟨g5,h⟩:=gd_some h;obtain ⟨g6,h⟩:=gd_some h;obtain ⟨g7,h⟩:=gd_some h;obtain ⟨g8,h⟩:=gd_some h;refine draw_u tOk [.u 9 0 (.d (.bool x2)) [],.u 17 0 (.d (.bool x4)) []] 56 [] [0,1,3,7,15,31,63,127,255,511,1023,2047,4095,8191,16383,32767,65535,131071,262143,524287,1048575,2097151,4194303,8388607,16777215,33554431,67108863,2097151,136314879,404750335,941621247,2015363071,4162846719,8589934591,17179869183,34359738367,68719476735,137438953471,274877906943,549755813887,1099511627775,2199023255551,68719476735,4466765987839,13262859010047,30855045054463,66039417143295,136408161320959,281474976710655,562949953421311,1125899906842623,2251799813685247,4503599627370495,9007199254740991,18014398509481983,36028797018963967] [] ?_;(conv=>whnf);refine And.intro g1 ?_;clear g1;(conv=>whnf);refine And.intro (callDG_if rfl rfl rfl rfl (by intro c0; exact spec_l44SideOk_c (gcall_some hx2 c0))) ?_;(conv=>whnf);refine And.intro g3 ?_;clear g3;(conv=>whnf);refine And.intro (callDG_if rfl rfl rfl rfl (by intro c0; exact spec_l44SideOk_c (gcall_some hx4 c0))) ?_;(conv=>whnf);refine And.intro g5 ?_;clear g5;(conv=>whnf);refine And.intro g6 ?_;clear g6;(conv=>whnf);refine And.intro g7 ?_;clear g7;(conv=>whnf);refine And.intro g8 ?_;clear g8;(conv=>whnf);refine And.intro (by kernel_rfl) ?_;(conv=>whnf);refine andI h (fun _ h=>?_) (fun _ h=>?_)
  · (conv=>whnf);obtain rfl:=Option.some.inj h;exact lfP []
  · (conv=>whnf);refine seq_in tOk ?_;(conv=>whnf);obtain ⟨x12,hx12,h⟩:=bd_some h;refine loop_m tOk hx12 (fun s9=>⟨0,74,[(1,.ref 1 0 0),(3,.d (.int .i64 s9))],[],[(1,.box 142 [.d (slD HelloSide.enc a0.Sides),.d (slD HelloWord.enc a0.Radio)])],[]⟩) ?_ ?_
    · exact leX []
    · clear hx12;intro s9 y10 g11 hy10;(conv=>whnf);refine seq_in tOk ?_;(conv=>whnf);refine andI g11 (fun _ g11=>?_) (fun _ g11=>?_)
      · (conv=>whnf);refine seq_in tOk ?_;(conv=>whnf);refine gdI g11 (fun g11=>?_);(conv=>whnf);obtain ⟨x14,hx14,g11⟩:=bd_some g11;refine cC 0 (spec_HelloWordOk_c hx14) ?_;clear hx14;(conv=>whnf);refine andI g11 (fun _ g11=>?_) (fun _ g11=>?_)
        · (conv=>whnf);obtain rfl:=Option.some.inj g11;obtain rfl:=hy10 _ rfl;obtain rfl:=Option.some.inj h;exact lfP []
        · (conv=>whnf);obtain rfl:=Option.some.inj g11;exact ⟨_,rfl,leX []⟩
      · (conv=>whnf);obtain rfl:=Option.some.inj g11;obtain rfl:=hy10 _ rfl;obtain rfl:=Option.some.inj h;exact lfP []
noncomputable def spec_HelloOpen_m (a0:Int) (a1:Int) (a2:(List HelloKey)) (a3:(List HelloEntry)) (a4:(List HelloEntry)):Option (HelloWorld × Bool) :=
 bd (spec_HelloNew_m a0 a1 a2 1 a3) fun x1 =>
 bd (spec_HelloNew_m a1 a0 a2 1 a4) fun x2 =>
 bd (spec_HelloWorldOk_m (⟨([(⟨true,x1⟩:HelloSide),(⟨true,x2⟩:HelloSide)]:List HelloSide),[]⟩:HelloWorld)) fun x3 =>
(if (!x3)=true then
 some ((⟨[],[]⟩:HelloWorld),false)
else
 some ((⟨([(⟨true,x1⟩:HelloSide),(⟨true,x2⟩:HelloSide)]:List HelloSide),[]⟩:HelloWorld),true))
theorem spec_HelloOpen_c {a0:Int} {a1:Int} {a2:(List HelloKey)} {a3:(List HelloEntry)} {a4:(List HelloEntry)} {r:HelloWorld × Bool} (h:spec_HelloOpen_m a0 a1 a2 a3 a4=some r):EffC Tryz.prog 156 [.d (.int .i64 a0),.d (.int .i64 a1),.d (slD HelloKey.enc a2),.d (slD HelloEntry.enc a3),.d (slD HelloEntry.enc a4)] [] (.tup [.agg [.osl 5001 0 r.1.Sides.length,.osl 5002 0 r.1.Radio.length],.d (.bool r.2)]) [(5001,.arr 145 23 r.1.Sides.length (rows HelloSide.enc r.1.Sides)),(5002,.arr 45 14 r.1.Radio.length (rows HelloWord.enc r.1.Radio))]:=by
  refine effC_x tOk (fn:=Tryz.f156) (c:=codeOf Tryz.f156) rfl rfl ?_;unfold spec_HelloOpen_m at h;(conv=>whnf);obtain ⟨x1,hx1,h⟩:=bd_some h;refine cC 1000 (spec_HelloNew_c hx1) ?_;clear hx1;(conv=>whnf);obtain ⟨x2,hx2,h⟩:=bd_some h;refine cC 2000 (spec_HelloNew_c hx2) ?_;clear hx2;(conv=>whnf);refine bldS (enc:=HelloSide.enc) ([(⟨true,x1⟩:HelloSide),(⟨true,x2⟩:HelloSide)]:List HelloSide) ?_;(conv=>whnf);refine seq_in tOk ?_;(conv=>whnf);obtain ⟨x3,hx3,h⟩:=bd_some h;refine callW 0 (spec_HelloWorldOk_c hx3) rfl argA rfl ?_;(conv=>whnf);refine andI h (fun _ h=>?_) (fun _ h=>?_)
  · (conv=>whnf);obtain rfl:=Option.some.inj h;exact lfE [.k [12,25],.p 5001 145 23 (rows HelloSide.enc ([]:List HelloSide)),.p 5002 45 14 (rows HelloWord.enc ([]:List HelloWord))]
  · (conv=>whnf);obtain rfl:=Option.some.inj h;exact lfE [.k [12],.s [(25,5001),(5001,25)],.p 5002 45 14 (rows HelloWord.enc ([]:List HelloWord))]
noncomputable def spec_l46Start_m (a0:l41Rd):Option (HelloWorld × l41Rd) :=
 bd (spec_l41Rd_pick_m a0 2) fun x1 =>
 bd (spec_l46Keys_m (⟨a0.b,x1.2.p⟩:l41Rd)) fun x2 =>
 bd (spec_l46Table_m (⟨a0.b,x2.2.p⟩:l41Rd)) fun x3 =>
 bd (spec_l46Table_m (⟨a0.b,x3.2.p⟩:l41Rd)) fun x4 =>
 bd (spec_HelloOpen_m 1 (IntKind.i64.wrap (2+(IntKind.i64.wrap (x1.1*65533)))) x2.1 x3.1 x4.1) fun x5 =>
 some (x5.1,(⟨a0.b,x4.2.p⟩:l41Rd))
theorem spec_l46Start_c {a0:l41Rd} {r:HelloWorld × l41Rd} (h:spec_l46Start_m a0=some r):EffC Tryz.prog 149 [.ref 9000 0 0] [(9000,.box 113 [.d (slD encByte a0.b),.d (.int .i64 a0.p)])] (.agg [.osl 5001 0 r.1.Sides.length,.osl 5002 0 r.1.Radio.length]) [(9000,.box 113 [.d (slD encByte a0.b),.d (.int .i64 r.2.p)]),(5001,.arr 145 23 r.1.Sides.length (rows HelloSide.enc r.1.Sides)),(5002,.arr 45 14 r.1.Radio.length (rows HelloWord.enc r.1.Radio))]:=by
  refine effC_x tOk (fn:=Tryz.f149) (c:=codeOf Tryz.f149) rfl rfl ?_;unfold spec_l46Start_m at h;(conv=>whnf);obtain ⟨x1,hx1,h⟩:=bd_some h;refine cE [(9000,9000)] 0 (spec_l41Rd_pick_c hx1) ?_;(conv=>whnf);obtain ⟨x2,hx2,h⟩:=bd_some h;refine cE [(9000,9000)] 1000 (spec_l46Keys_c hx2) ?_;(conv=>whnf);obtain ⟨x3,hx3,h⟩:=bd_some h;refine cE [(9000,9000)] 2000 (spec_l46Table_c hx3) ?_;(conv=>whnf);obtain ⟨x4,hx4,h⟩:=bd_some h;refine cE [(9000,9000)] 3000 (spec_l46Table_c hx4) ?_;(conv=>whnf);obtain ⟨x5,hx5,h⟩:=bd_some h;refine callFz [6001,7001,8001] ?_;(conv=>whnf);refine cE [] 1000 (spec_HelloOpen_c hx5) ?_;(conv=>whnf);obtain rfl:=Option.some.inj h;exact lfE [.s [(5001,6001),(5002,6002),(6001,5001),(6002,5002)]]
noncomputable def spec_l42Copy_o02f_04f_016f_020f_m (a0:HelloEnd):Option (HelloEnd) :=
 bd (spec_l42Keys_m a0.Keys) fun x1 =>
 bd (spec_l42Table_m a0.Want) fun x2 =>
 bd (spec_l42Table_m a0.Told) fun x3 =>
 bd (spec_l42Routes_m a0.Heard) fun x4 =>
 some ({ a0 with Keys:=x1,Want:=x2,Told:=x3,Heard:=x4 })
theorem spec_l42Copy_o02f_04f_016f_020f_c {a0:HelloEnd} {r:HelloEnd} (h:spec_l42Copy_o02f_04f_016f_020f_m a0=some r):EffC Tryz.prog 31 [.agg [.d (.int .i64 a0.Name),.d (.int .i64 a0.Peer),.d (slD HelloKey.enc a0.Keys),.d (.int .i64 a0.Boot),.d (slD HelloEntry.enc a0.Want),.d (.int .i64 a0.Turn),.d (.int .i64 a0.PeerBoot),.d (.int .i64 a0.PeerTurn),.d (.bool a0.Up),.d (.int .i64 a0.Left),.d (.int .i64 a0.Num),.d (.int .i64 a0.Under.Kind),.d (.int .i64 a0.Under.Entry.Addr),.d (.int .i64 a0.Under.Entry.Len),.d (.int .i64 a0.Under.Entry.Cost),.d (.int .i64 a0.Under.Entry.Label),.d (slD HelloEntry.enc a0.Told),.d (.bool a0.All),.d (.int .i64 a0.Got),.d (.bool a0.Full),.d (slD HelloRoute.enc a0.Heard),.d (.int .i64 a0.Keep)]] [] (.agg [.d (.int .i64 r.Name),.d (.int .i64 r.Peer),.d (slD HelloKey.enc r.Keys),.d (.int .i64 r.Boot),.d (slD HelloEntry.enc r.Want),.d (.int .i64 r.Turn),.d (.int .i64 r.PeerBoot),.d (.int .i64 r.PeerTurn),.d (.bool r.Up),.d (.int .i64 r.Left),.d (.int .i64 r.Num),.d (.int .i64 r.Under.Kind),.d (.int .i64 r.Under.Entry.Addr),.d (.int .i64 r.Under.Entry.Len),.d (.int .i64 r.Under.Entry.Cost),.d (.int .i64 r.Under.Entry.Label),.d (slD HelloEntry.enc r.Told),.d (.bool r.All),.d (.int .i64 r.Got),.d (.bool r.Full),.d (slD HelloRoute.enc r.Heard),.d (.int .i64 r.Keep)]) []:=by
  refine effC_x tOk (fn:=Tryz.f31) (c:=codeOf Tryz.f31) rfl rfl ?_;unfold spec_l42Copy_o02f_04f_016f_020f_m at h;(conv=>whnf);obtain ⟨x1,hx1,h⟩:=bd_some h;refine cC 1000 (spec_l42Keys_c hx1) ?_;clear hx1;(conv=>whnf);obtain ⟨x2,hx2,h⟩:=bd_some h;refine cC 2000 (spec_l42Table_c hx2) ?_;clear hx2;(conv=>whnf);obtain ⟨x3,hx3,h⟩:=bd_some h;refine cC 3000 (spec_l42Table_c hx3) ?_;clear hx3;(conv=>whnf);obtain ⟨x4,hx4,h⟩:=bd_some h;refine cC 4000 (spec_l42Routes_c hx4) ?_;clear hx4;(conv=>whnf);obtain rfl:=Option.some.inj h;exact lfE [.f [6001,7001,8001,9001]]
end Go.Proofs.YtaoeomoepefojaaGreat
