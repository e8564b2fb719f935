/-
  What some of the program's functions compute: their models, and that the functions compute these; no condition.
-/
import Derived.Test.YtejhbiefhpgjeaaTyz
import Derived.Test.YtejhbiefhpgjeaaTbz
set_option linter.all false
namespace Go.Proofs.Ytejhbiefhpgjeaa
open Go Go.Ab
set_option maxRecDepth 100000
set_option maxHeartbeats 40000000
noncomputable def spec_l21Open_m (a0:(List Int)):Option (l21Rd) :=
(if (decide (((a0.length:Nat):Int) > 2000)) = true then
 gd ((0:Int)≤(0:Int)∧(0:Int)≤(2000:Int)∧(2000:Int)≤((a0.length:Nat):Int)) <|
 some (⟨a0.take ((2000:Int).toNat),0⟩:l21Rd)
else
 some (⟨a0,0⟩:l21Rd))
theorem spec_l21Open_c {a0:(List Int)} {r:l21Rd} (h:spec_l21Open_m a0 = some r):EffC Try.prog 62 [.d (slD encByte a0)] [] (.ref 5001 0 0) [(5001,.box 155 [.d (slD encByte r.b),.d (.int .i64 r.p)])]:=by
  refine effC_x tOk (fn:=Try.f62) (c:=codeOf Try.f62) rfl rfl ?_;unfold spec_l21Open_m at h;(conv=>whnf);refine seq_in tOk ?_;(conv=>whnf);refine andI h (fun _ h=>?_) (fun _ h=>?_)
  · (conv=>whnf);obtain ⟨g1,h⟩:=gd_some h;refine And.intro ⟨g1,.inr rfl⟩ ?_;(conv=>whnf);obtain rfl:=Option.some.inj h;exact lfE [.s [(10,5001),(5001,10)]]
  · (conv=>whnf);obtain rfl:=Option.some.inj h;exact lfE [.s [(10,5001),(5001,10)]]
noncomputable def spec_l21Rd_pick_m (a0:l21Rd) (a1:Int):Option (Int × l21Rd) :=
(if ((decide (a1<1)) || (((a0.b.length:Nat):Int) == 0)) = true then
 some (0,(⟨a0.b,IntKind.i64.wrap (a0.p+1)⟩:l21Rd))
else
(if (decide ((IntKind.i64.wrap ((IntKind.i64.wrap (a0.p+1)) - 1))<((a0.b.length:Nat):Int))) = true then
 gd ((0:Int)≤IntKind.i64.wrap ((IntKind.i64.wrap (a0.p+1)) - 1)∧IntKind.i64.wrap ((IntKind.i64.wrap (a0.p+1)) - 1)<((a0.b.length:Nat):Int)) <|
 gd ((a1:Int) ≠ 0) <|
 some (((IntKind.i64.wrap (a0.b.getD ((IntKind.i64.wrap ((IntKind.i64.wrap (a0.p+1)) - 1)).toNat) default):Int).tmod a1),(⟨a0.b,IntKind.i64.wrap (a0.p+1)⟩:l21Rd))
else
 gd ((((a0.b.length:Nat):Int):Int) ≠ 0) <|
 gd ((0:Int)≤((IntKind.i64.wrap ((IntKind.i64.wrap (a0.p+1)) - 1):Int).tmod ((a0.b.length:Nat):Int))∧((IntKind.i64.wrap ((IntKind.i64.wrap (a0.p+1)) - 1):Int).tmod ((a0.b.length:Nat):Int))<((a0.b.length:Nat):Int)) <|
 gd ((((a0.b.length:Nat):Int):Int) ≠ 0) <|
 gd ((0:Int)≤((IntKind.i64.wrap ((IntKind.i64.wrap ((IntKind.i64.wrap ((IntKind.i64.wrap (a0.p+1)) - 1)) * 7))+3):Int).tmod ((a0.b.length:Nat):Int))∧((IntKind.i64.wrap ((IntKind.i64.wrap ((IntKind.i64.wrap ((IntKind.i64.wrap (a0.p+1)) - 1)) * 7))+3):Int).tmod ((a0.b.length:Nat):Int))<((a0.b.length:Nat):Int)) <|
 gd ((((a0.b.length:Nat):Int):Int) ≠ 0) <|
 gd ((64:Int) ≠ 0) <|
 gd ((a1:Int) ≠ 0) <|
 some ((((bits .xor .i64 (IntKind.i64.wrap ((IntKind.i64.wrap ((IntKind.i64.wrap ((IntKind.i64.wrap ((IntKind.i64.wrap (a0.b.getD (((IntKind.i64.wrap ((IntKind.i64.wrap (a0.p+1)) - 1):Int).tmod ((a0.b.length:Nat):Int)).toNat) default)) * 131))+(IntKind.i64.wrap ((IntKind.i64.wrap (a0.b.getD (((IntKind.i64.wrap ((IntKind.i64.wrap ((IntKind.i64.wrap ((IntKind.i64.wrap (a0.p+1)) - 1)) * 7))+3):Int).tmod ((a0.b.length:Nat):Int)).toNat) default)) * 1117))))+(IntKind.i64.wrap ((IntKind.i64.wrap ((IntKind.i64.wrap (a0.p+1)) - 1)) * 29))))+(IntKind.i64.wrap ((IntKind.i64.wrap ((IntKind.i64.wrap ((IntKind.i64.wrap (a0.p+1)) - 1):Int).tdiv ((a0.b.length:Nat):Int))) * 53)))) (IntKind.i64.wrap ((IntKind.i64.wrap ((IntKind.i64.wrap ((IntKind.i64.wrap ((IntKind.i64.wrap ((IntKind.i64.wrap (a0.b.getD (((IntKind.i64.wrap ((IntKind.i64.wrap (a0.p+1)) - 1):Int).tmod ((a0.b.length:Nat):Int)).toNat) default)) * 131))+(IntKind.i64.wrap ((IntKind.i64.wrap (a0.b.getD (((IntKind.i64.wrap ((IntKind.i64.wrap ((IntKind.i64.wrap ((IntKind.i64.wrap (a0.p+1)) - 1)) * 7))+3):Int).tmod ((a0.b.length:Nat):Int)).toNat) default)) * 1117))))+(IntKind.i64.wrap ((IntKind.i64.wrap ((IntKind.i64.wrap (a0.p+1)) - 1)) * 29))))+(IntKind.i64.wrap ((IntKind.i64.wrap ((IntKind.i64.wrap ((IntKind.i64.wrap (a0.p+1)) - 1):Int).tdiv ((a0.b.length:Nat):Int))) * 53))):Int).tdiv 64))):Int).tmod a1),(⟨a0.b,IntKind.i64.wrap (a0.p+1)⟩:l21Rd))))
theorem spec_l21Rd_pick_c {a0:l21Rd} {a1:Int} {r:Int × l21Rd} (h:spec_l21Rd_pick_m a0 a1 = some r):EffC Try.prog 72 [.ref 9000 0 0,.d (.int .i64 a1)] [(9000,.box 155 [.d (slD encByte a0.b),.d (.int .i64 a0.p)])] (.d (.int .i64 r.1)) [(9000,.box 155 [.d (slD encByte a0.b),.d (.int .i64 r.2.p)])]:=by
  refine effC_x tOk (fn:=Try.f72) (c:=codeOf Try.f72) rfl rfl ?_;unfold spec_l21Rd_pick_m at h;(conv=>whnf);refine seq_in tOk ?_;(conv=>whnf);refine andI h (fun _ h=>?_) (fun _ h=>?_)
  · (conv=>whnf);obtain rfl:=Option.some.inj h;exact lfE []
  · (conv=>whnf);refine seq_in tOk ?_;(conv=>whnf);refine andI h (fun _ h=>?_) (fun _ h=>?_)
    · (conv=>whnf);refine gdI h (fun h=>?_);(conv=>whnf);refine gdI h (fun h=>?_);(conv=>whnf);obtain rfl:=Option.some.inj h;exact lfE []
    · (conv=>whnf);obtain ⟨g3,h⟩:=gd_some h;obtain ⟨g4,h⟩:=gd_some h;obtain ⟨g5,h⟩:=gd_some h;obtain ⟨g6,h⟩:=gd_some h;obtain ⟨g7,h⟩:=gd_some h;refine draw_u tOk [] 46 [] [0,1,3,7,0,0,32,96,224,480,1008,2047,4095,8191,16383,0,32768,98304,229376,0,524288,1572864,0,4194304,12582912,29360128,62914560,133693440,268402688,536838144,1073709056,2147450880,4294967295,0,8589934592,34359738367,0,0,137438953472,412316860416,962072674304,2061584302080,4329327034368,8727373545472,17592186044415,35184372088831] [] ?_;(conv=>whnf);refine And.intro g3 ?_;clear g3;(conv=>whnf);refine And.intro g4 ?_;clear g4;(conv=>whnf);refine And.intro g5 ?_;clear g5;(conv=>whnf);refine And.intro g6 ?_;clear g6;(conv=>whnf);refine And.intro g7 ?_;clear g7;(conv=>whnf);refine And.intro (by kernel_rfl) ?_;(conv=>whnf);refine gdI h (fun h=>?_);(conv=>whnf);refine gdI h (fun h=>?_);(conv=>whnf);obtain rfl:=Option.some.inj h;exact lfE []
noncomputable def spec_l21In_m (a0:Int) (a1:Int) (a2:Int):Option (Bool) :=
 some ((decide (a0 ≥ a1)) && (decide (a0≤a2)))
theorem spec_l21In_c {a0:Int} {a1:Int} {a2:Int} {r:Bool} (h:spec_l21In_m a0 a1 a2 = some r):PureC Try.prog 118 [.d (.int .i64 a0),.d (.int .i64 a1),.d (.int .i64 a2)] (.d (.bool r)) []:=by
  refine pureC_x tOk (fn:=Try.f118) (c:=codeOf Try.f118) rfl rfl ?_;unfold spec_l21In_m at h;(conv=>whnf);obtain rfl:=Option.some.inj h;exact lfP []
noncomputable def spec_l22Size_m (a0:Int):Option (Int) :=
 bd (lp (σ:=Int × Int) (β:=(Int)) (fun s1 =>
(if (decide (s1.2<16)) = true then
 some (.inl (IntKind.i64.wrap (s1.1 * 2),IntKind.i64.wrap (s1.2+1)))
else
 some (.inr s1.1))) (1,a0)) fun x4 =>
 some x4
theorem spec_l22Size_c {a0:Int} {r:Int} (h:spec_l22Size_m a0 = some r):PureC Try.prog 119 [.d (.int .i64 a0)] (.d (.int .i64 r)) []:=by
  refine pureC_x tOk (fn:=Try.f119) (c:=codeOf Try.f119) rfl rfl ?_;unfold spec_l22Size_m at h;(conv=>whnf);refine seq_in tOk ?_;(conv=>whnf);obtain ⟨x4,hx4,h⟩:=bd_some h;refine loop_m tOk hx4 (fun s1=>⟨0,13,[(3,.d (.int .i64 s1.1)),(4,.d (.int .i64 s1.2))],[],[],[]⟩) ?_ ?_
  · exact leX []
  · clear hx4;intro s1 y2 g3 hy2;(conv=>whnf);refine seq_in tOk ?_;(conv=>whnf);refine andI g3 (fun _ g3=>?_) (fun _ g3=>?_)
    · (conv=>whnf);refine seq_in tOk ?_;(conv=>whnf);obtain rfl:=Option.some.inj g3;exact ⟨_,rfl,leX []⟩
    · (conv=>whnf);obtain rfl:=Option.some.inj g3;obtain rfl:=hy2 _ rfl;obtain rfl:=Option.some.inj h;exact lfP []
noncomputable def spec_l25Inner_m (a0:l21Rd) (a1:NatBook):Option (Int × l21Rd) :=
 bd (spec_l21In_m a1.Len 0 16) fun x1 =>
(if (!x1) = true then
 some (a1.Addr,a0)
else
 bd (spec_l22Size_m a1.Len) fun x2 =>
 bd (spec_l21Rd_pick_m a0 x2) fun x3 =>
 bd (spec_l21Rd_pick_m (⟨a0.b,x3.2.p⟩:l21Rd) 3) fun x4 =>
 gd ((x2:Int) ≠ 0) <|
 bd (spec_l21Rd_pick_m (⟨a0.b,x4.2.p⟩:l21Rd) 4) fun x6 =>
 gd ((0:Int)≤x6.1∧x6.1<((([0,IntKind.i64.wrap (x2 - 1),x3.1,((x4.1:Int).tmod x2)]:List Int).length:Nat):Int)) <|
 some (IntKind.i64.wrap (a1.Addr+(([0,IntKind.i64.wrap (x2 - 1),x3.1,((x4.1:Int).tmod x2)]:List Int).getD x6.1.toNat default)),(⟨a0.b,x6.2.p⟩:l21Rd)))
theorem spec_l25Inner_c {a0:l21Rd} {a1:NatBook} {r:Int × l21Rd} (h:spec_l25Inner_m a0 a1 = some r):EffC Try.prog 168 [.ref 9000 0 0,.agg [.d (.int .i64 a1.Addr),.d (.int .i64 a1.Len),.d (.int .i64 a1.Own),.d (.int .i64 a1.Low),.d (.int .i64 a1.High),.d (slD NatDoor.enc a1.Doors),.d (.int .i64 a1.Now),.d (slD NatEntry.enc a1.Entries)]] [(9000,.box 155 [.d (slD encByte a0.b),.d (.int .i64 a0.p)])] (.d (.int .i64 r.1)) [(9000,.box 155 [.d (slD encByte a0.b),.d (.int .i64 r.2.p)])]:=by
  refine effC_x tOk (fn:=Try.f168) (c:=codeOf Try.f168) rfl rfl ?_;unfold spec_l25Inner_m at h;(conv=>whnf);refine seq_in tOk ?_;(conv=>whnf);obtain ⟨x1,hx1,h⟩:=bd_some h;refine cC 0 (spec_l21In_c hx1) ?_;clear hx1;(conv=>whnf);refine andI h (fun _ h=>?_) (fun _ h=>?_)
  · (conv=>whnf);obtain rfl:=Option.some.inj h;exact lfE []
  · (conv=>whnf);obtain ⟨x2,hx2,h⟩:=bd_some h;refine cC 0 (spec_l22Size_c hx2) ?_;clear hx2;(conv=>whnf);obtain ⟨x3,hx3,h⟩:=bd_some h;obtain ⟨x4,hx4,h⟩:=bd_some h;obtain ⟨g5,h⟩:=gd_some h;obtain ⟨x6,hx6,h⟩:=bd_some h;obtain ⟨g7,h⟩:=gd_some h;refine draw_t tOk [.e 6 [(9000,.box 155 [.d (slD encByte a0.b),.d (.int .i64 a0.p)])] (.d (.int .i64 x3.1)) [] [(9000,.box 155 [.d (slD encByte a0.b),.d (.int .i64 x3.2.p)])],.e 8 [(9000,.box 155 [.d (slD encByte a0.b),.d (.int .i64 x3.2.p)])] (.d (.int .i64 x4.1)) [] [(9000,.box 155 [.d (slD encByte a0.b),.d (.int .i64 x4.2.p)])],.e 13 [(9000,.box 155 [.d (slD encByte a0.b),.d (.int .i64 x4.2.p)])] (.d (.int .i64 x6.1)) [] [(9000,.box 155 [.d (slD encByte a0.b),.d (.int .i64 x6.2.p)])]] 18 [] [0,1,0,4,0,0,48,0,240,0,1008,2044,0,4592,16380,32764,65535,131071] [] [9000] ?_;(conv=>whnf);refine And.intro (eD [(9000,9000)] 0 (spec_l21Rd_pick_c hx3)) ?_;(conv=>whnf);refine And.intro (eD [(9000,9000)] 0 (spec_l21Rd_pick_c hx4)) ?_;(conv=>whnf);refine And.intro g5 ?_;clear g5;(conv=>whnf);refine bldS (enc:=encInt) ([0,IntKind.i64.wrap (x2 - 1),x3.1,((x4.1:Int).tmod x2)]:List Int) ?_;(conv=>whnf);refine And.intro (eD [(9000,9000)] 0 (spec_l21Rd_pick_c hx6)) ?_;(conv=>whnf);refine And.intro g7 ?_;clear g7;(conv=>whnf);refine And.intro (by kernel_rfl) ?_;(conv=>whnf);obtain rfl:=Option.some.inj h;exact lfE []
noncomputable def spec_l25Port_m (a0:l21Rd):Option (Int × l21Rd) :=
 bd (spec_l21Rd_pick_m a0 5) fun x1 =>
 gd ((0:Int)≤x1.1∧x1.1<((([1,2,80,4000,65535]:List Int).length:Nat):Int)) <|
 some ((([1,2,80,4000,65535]:List Int).getD x1.1.toNat default),(⟨a0.b,x1.2.p⟩:l21Rd))
theorem spec_l25Port_c {a0:l21Rd} {r:Int × l21Rd} (h:spec_l25Port_m a0 = some r):EffC Try.prog 169 [.ref 9000 0 0] [(9000,.box 155 [.d (slD encByte a0.b),.d (.int .i64 a0.p)])] (.d (.int .i64 r.1)) [(9000,.box 155 [.d (slD encByte a0.b),.d (.int .i64 r.2.p)])]:=by
  refine effC_x tOk (fn:=Try.f169) (c:=codeOf Try.f169) rfl rfl ?_;unfold spec_l25Port_m at h;(conv=>whnf);refine bldS (enc:=encInt) ([1,2,80,4000,65535]:List Int) ?_;(conv=>whnf);obtain ⟨x1,hx1,h⟩:=bd_some h;refine cE [(9000,9000)] 0 (spec_l21Rd_pick_c hx1) ?_;(conv=>whnf);refine gdI h (fun h=>?_);(conv=>whnf);obtain rfl:=Option.some.inj h;exact lfE []
noncomputable def spec_l25PutDoor_m (a0:(List NatDoor)) (a1:NatDoor):Option ((List NatDoor)) :=
 bd (lp (σ:=Int) (β:=(Int)) (fun s1 =>
 gd ((decide (s1<((a0.length:Nat):Int))) = true → ((0:Int)≤s1∧s1<((a0.length:Nat):Int))) <|
 gd ((decide (((a0.getD s1.toNat default).Kind)<a1.Kind)) = false → ((decide (s1<((a0.length:Nat):Int))) = true → ((0:Int)≤s1∧s1<((a0.length:Nat):Int)))) <|
 gd ((((a0.getD s1.toNat default).Kind) == a1.Kind) = true → ((decide (((a0.getD s1.toNat default).Kind)<a1.Kind)) = false → ((decide (s1<((a0.length:Nat):Int))) = true → ((0:Int)≤s1∧s1<((a0.length:Nat):Int))))) <|
(if ((decide (s1<((a0.length:Nat):Int))) && ((decide (((a0.getD s1.toNat default).Kind)<a1.Kind)) || ((((a0.getD s1.toNat default).Kind) == a1.Kind) && (decide (((a0.getD s1.toNat default).Outer)<a1.Outer))))) = true then
 some (.inl (IntKind.i64.wrap (s1+1)))
else
 some (.inr s1))) 0) fun x4 =>
 gd ((0:Int)≤(0:Int)∧(0:Int)≤x4∧x4≤((a0.length:Nat):Int)) <|
 gd (((0)+(x4.toNat)) * (32+1)≤70368744177664) <|
 gd ((((a0.take x4.toNat).length)+(([a1]:List NatDoor).length)) * (32+1)≤70368744177664) <|
 gd ((0:Int)≤x4∧x4≤((a0.length:Nat):Int)∧((a0.length:Nat):Int)≤((a0.length:Nat):Int)) <|
 gd (((((a0.take x4.toNat) ++ ([a1]:List NatDoor)).length)+((dsub ((a0.length:Nat):Int) x4))) * (32+1)≤70368744177664) <|
 some (((a0.take x4.toNat) ++ ([a1]:List NatDoor)) ++ (((a0).take (x4.toNat+(dsub ((a0.length:Nat):Int) x4))).drop x4.toNat))
theorem spec_l25PutDoor_c {a0:(List NatDoor)} {a1:NatDoor} {r:(List NatDoor)} (h:spec_l25PutDoor_m a0 a1 = some r):PureC Try.prog 170 [.d (slD NatDoor.enc a0),.agg [.d (.int .i64 a1.Kind),.d (.int .i64 a1.Outer),.d (.int .i64 a1.Inner),.d (.int .i64 a1.InnerPort)]] (.osl 5001 0 r.length) [⟨5001,104,4,r.length,rows NatDoor.enc r⟩]:=by
  refine pureC_x tOk (fn:=Try.f170) (c:=codeOf Try.f170) rfl rfl ?_;unfold spec_l25PutDoor_m at h;(conv=>whnf);refine seq_in tOk ?_;(conv=>whnf);obtain ⟨x4,hx4,h⟩:=bd_some h;refine loop_m tOk hx4 (fun s1=>⟨0,54,[(0,.d (slD NatDoor.enc a0)),(3,.ref 3 0 0),(5,.d (.int .i64 s1))],[],[(3,.box 104 [.d (.int .i64 a1.Kind),.d (.int .i64 a1.Outer),.d (.int .i64 a1.Inner),.d (.int .i64 a1.InnerPort)])],[]⟩) ?_ ?_
  · exact leX []
  · clear hx4;intro s1 y2 g3 hy2;(conv=>whnf);refine seq_in tOk ?_;(conv=>whnf);obtain ⟨g5,g3⟩:=gd_some g3;obtain ⟨g6,g3⟩:=gd_some g3;obtain ⟨g7,g3⟩:=gd_some g3;refine draw_u tOk [] 34 [] [0,0,2,7,15,31,31,127,255,511,31,1055,4095,8191,16383,16383,65535,131071,262143,16383,540671,2097151,4194303,8388607,8388607,33554431,67108863,134217727,8388607,276824063,1073741823,2147483647,4294967295,8589934591] [] ?_;(conv=>whnf);refine And.intro g5 ?_;clear g5;(conv=>whnf);refine And.intro g6 ?_;clear g6;(conv=>whnf);refine And.intro g7 ?_;clear g7;(conv=>whnf);refine And.intro (by kernel_rfl) ?_;(conv=>whnf);refine andI g3 (fun _ g3=>?_) (fun _ g3=>?_)
    · (conv=>whnf);obtain rfl:=Option.some.inj g3;exact ⟨_,rfl,leX []⟩
    · (conv=>whnf);obtain rfl:=Option.some.inj g3;obtain rfl:=hy2 _ rfl;obtain ⟨g9,h⟩:=gd_some h;obtain ⟨g10,h⟩:=gd_some h;obtain ⟨g11,h⟩:=gd_some h;obtain ⟨g12,h⟩:=gd_some h;obtain ⟨g13,h⟩:=gd_some h;refine draw_t tOk [.a 4 [] (.osl 46 0 ((a0.take s1.toNat).length)) [(46,.arr 104 4 ((a0.take s1.toNat).length) (rows NatDoor.enc (a0.take s1.toNat)))],.a 7 [(46,.arr 104 4 ((a0.take s1.toNat).length) (rows NatDoor.enc (a0.take s1.toNat)))] (.osl 49 0 (((a0.take s1.toNat) ++ ([a1]:List NatDoor)).length)) [(49,.arr 104 4 (((a0.take s1.toNat) ++ ([a1]:List NatDoor)).length) (rows NatDoor.enc ((a0.take s1.toNat) ++ ([a1]:List NatDoor))))],.a 11 [(49,.arr 104 4 (((a0.take s1.toNat) ++ ([a1]:List NatDoor)).length) (rows NatDoor.enc ((a0.take s1.toNat) ++ ([a1]:List NatDoor))))] (.osl 53 0 ((((a0.take s1.toNat) ++ ([a1]:List NatDoor)) ++ (((a0).take (s1.toNat+(dsub ((a0.length:Nat):Int) s1))).drop s1.toNat)).length)) [(53,.arr 104 4 ((((a0.take s1.toNat) ++ ([a1]:List NatDoor)) ++ (((a0).take (s1.toNat+(dsub ((a0.length:Nat):Int) s1))).drop s1.toNat)).length) (rows NatDoor.enc (((a0.take s1.toNat) ++ ([a1]:List NatDoor)) ++ (((a0).take (s1.toNat+(dsub ((a0.length:Nat):Int) s1))).drop s1.toNat))))]] 13 [] [0,0,0,6,15,0,32,127,0,0,768,2047,4095] [] [] ?_;(conv=>whnf);refine And.intro ⟨g9,.inr rfl⟩ ?_;(conv=>whnf);refine And.intro (by (conv=>whnf); exact ⟨g10,appN (enc:=NatDoor.enc) (ys:=a0.take s1.toNat) ⟨rfl,rfl⟩⟩) ?_;(conv=>whnf);refine bldS (enc:=NatDoor.enc) ([a1]:List NatDoor) ?_;(conv=>whnf);refine And.intro (by (conv=>whnf); exact ⟨g11,appS (enc:=NatDoor.enc) (xs:=(a0.take s1.toNat)) (ys:=([a1]:List NatDoor)) ⟨rfl,rfl⟩⟩) ?_;(conv=>whnf);refine And.intro ⟨g12,.inr rfl⟩ ?_;(conv=>whnf);refine And.intro (by (conv=>whnf); exact ⟨g13,appS (enc:=NatDoor.enc) (xs:=((a0.take s1.toNat) ++ ([a1]:List NatDoor))) (ys:=((a0).take (s1.toNat+(dsub ((a0.length:Nat):Int) s1))).drop s1.toNat) ⟨rfl,rfl⟩⟩) ?_;(conv=>whnf);refine And.intro (by kernel_rfl) ?_;(conv=>whnf);obtain rfl:=Option.some.inj h;exact lfP [.s [(53,5001),(5001,53)]]
noncomputable def spec_l22Inside_m (a0:NatBook) (a1:Int):Option (Bool) :=
 bd (gcall ((decide (a1 ≥ a0.Addr)) = true) (spec_l22Size_m a0.Len)) fun x1 =>
 some ((decide (a1 ≥ a0.Addr)) && (decide (a1<(IntKind.i64.wrap (a0.Addr+x1)))))
theorem spec_l22Inside_c {a0:NatBook} {a1:Int} {r:Bool} (h:spec_l22Inside_m a0 a1 = some r):PureC Try.prog 75 [.agg [.d (.int .i64 a0.Addr),.d (.int .i64 a0.Len),.d (.int .i64 a0.Own),.d (.int .i64 a0.Low),.d (.int .i64 a0.High),.d (slD NatDoor.enc a0.Doors),.d (.int .i64 a0.Now),.d (slD NatEntry.enc a0.Entries)],.d (.int .i64 a1)] (.d (.bool r)) []:=by
  refine pureC_x tOk (fn:=Try.f75) (c:=codeOf Try.f75) rfl rfl ?_;unfold spec_l22Inside_m at h;(conv=>whnf);obtain ⟨x1,hx1,h⟩:=bd_some h;refine draw_u tOk [.u 10 0 (.d (.int .i64 x1)) []] 15 [] [0,0,2,7,15,31,31,95,31,287,799,2015,4095,8191,16383] [] ?_;(conv=>whnf);refine And.intro (callDG_if rfl rfl rfl rfl (by intro c0; exact spec_l22Size_c (gcall_some hx1 c0))) ?_;(conv=>whnf);refine And.intro (by kernel_rfl) ?_;(conv=>whnf);obtain rfl:=Option.some.inj h;exact lfP []
noncomputable def spec_l22Frame_m (a0:NatBook):Option (Bool) :=
 bd (spec_l21In_m a0.Len 0 16) fun x1 =>
 bd (gcall ((!x1) = false) (spec_l21In_m a0.Addr 0 65535)) fun x2 =>
 bd (gcall (((!x1) || (!x2)) = false) (spec_l22Size_m a0.Len)) fun x3 =>
 gd (((!x1) || (!x2)) = false → ((x3:Int) ≠ 0)) <|
(if (((!x1) || (!x2)) || (((a0.Addr:Int).tmod x3) != 0)) = true then
 some false
else
 bd (spec_l21In_m a0.Own 0 65535) fun x5 =>
 bd (gcall ((!x5) = false) (spec_l22Inside_m a0 a0.Own)) fun x6 =>
(if ((!x5) || x6) = true then
 some false
else
 bd (gcall ((((decide (a0.Low ≥ 1)) && (decide (a0.Low≤a0.High))) && (decide (a0.High≤65535))) = true) (spec_l21In_m a0.Now 0 1000000)) fun x7 =>
 some ((((decide (a0.Low ≥ 1)) && (decide (a0.Low≤a0.High))) && (decide (a0.High≤65535))) && x7)))
theorem spec_l22Frame_c {a0:NatBook} {r:Bool} (h:spec_l22Frame_m a0 = some r):PureC Try.prog 68 [.agg [.d (.int .i64 a0.Addr),.d (.int .i64 a0.Len),.d (.int .i64 a0.Own),.d (.int .i64 a0.Low),.d (.int .i64 a0.High),.d (slD NatDoor.enc a0.Doors),.d (.int .i64 a0.Now),.d (slD NatEntry.enc a0.Entries)]] (.d (.bool r)) []:=by
  refine pureC_x tOk (fn:=Try.f68) (c:=codeOf Try.f68) rfl rfl ?_;unfold spec_l22Frame_m at h;(conv=>whnf);refine seq_in tOk ?_;(conv=>whnf);obtain ⟨x1,hx1,h⟩:=bd_some h;obtain ⟨x2,hx2,h⟩:=bd_some h;obtain ⟨x3,hx3,h⟩:=bd_some h;obtain ⟨g4,h⟩:=gd_some h;refine draw_u tOk [.u 2 0 (.d (.bool x1)) [],.u 7 0 (.d (.bool x2)) [],.u 15 0 (.d (.int .i64 x3)) []] 19 [] [0,1,3,7,15,31,63,127,255,511,1023,2047,4095,2047,10239,26623,65535,131071,262143] [] ?_;(conv=>whnf);refine And.intro (callD_any (spec_l21In_c hx1) (by kernel_rfl)) ?_;(conv=>whnf);refine And.intro (callDG_if rfl rfl rfl rfl (by intro c0; exact spec_l21In_c (gcall_some hx2 c0))) ?_;(conv=>whnf);refine And.intro (callDG_if rfl rfl rfl rfl (by intro c0; exact spec_l22Size_c (gcall_some hx3 c0))) ?_;(conv=>whnf);refine And.intro g4 ?_;clear g4;(conv=>whnf);refine And.intro (by kernel_rfl) ?_;(conv=>whnf);refine andI h (fun _ h=>?_) (fun _ h=>?_)
  · (conv=>whnf);obtain rfl:=Option.some.inj h;exact lfP []
  · (conv=>whnf);refine seq_in tOk ?_;(conv=>whnf);obtain ⟨x5,hx5,h⟩:=bd_some h;refine cC 0 (spec_l21In_c hx5) ?_;clear hx5;(conv=>whnf);obtain ⟨x6,hx6,h⟩:=bd_some h;refine cG (fun c0=>spec_l22Inside_c (gcall_some hx6 c0)) ?_;(conv=>whnf);refine andI h (fun _ h=>?_) (fun _ h=>?_)
    · (conv=>whnf);obtain rfl:=Option.some.inj h;exact lfP []
    · (conv=>whnf);obtain ⟨x7,hx7,h⟩:=bd_some h;refine cG (fun c0=>spec_l21In_c (gcall_some hx7 c0)) ?_;(conv=>whnf);obtain rfl:=Option.some.inj h;exact lfP []
noncomputable def spec_l22DoorOk_m (a0:NatBook) (a1:NatDoor):Option (Bool) :=
 bd (spec_l21In_m a1.Kind 1 7) fun x1 =>
 bd (gcall (x1 = true) (spec_l21In_m a1.Outer 1 65535)) fun x2 =>
 bd (gcall ((x1 && x2) = true) (spec_l21In_m a1.Outer a0.Low a0.High)) fun x3 =>
 bd (gcall (((x1 && x2) && (!x3)) = true) (spec_l22Inside_m a0 a1.Inner)) fun x4 =>
 bd (gcall ((((x1 && x2) && (!x3)) && x4) = true) (spec_l21In_m a1.InnerPort 1 65535)) fun x5 =>
 some ((((x1 && x2) && (!x3)) && x4) && x5)
theorem spec_l22DoorOk_c {a0:NatBook} {a1:NatDoor} {r:Bool} (h:spec_l22DoorOk_m a0 a1 = some r):PureC Try.prog 120 [.agg [.d (.int .i64 a0.Addr),.d (.int .i64 a0.Len),.d (.int .i64 a0.Own),.d (.int .i64 a0.Low),.d (.int .i64 a0.High),.d (slD NatDoor.enc a0.Doors),.d (.int .i64 a0.Now),.d (slD NatEntry.enc a0.Entries)],.agg [.d (.int .i64 a1.Kind),.d (.int .i64 a1.Outer),.d (.int .i64 a1.Inner),.d (.int .i64 a1.InnerPort)]] (.d (.bool r)) []:=by
  refine pureC_x tOk (fn:=Try.f120) (c:=codeOf Try.f120) rfl rfl ?_;unfold spec_l22DoorOk_m at h;(conv=>whnf);obtain ⟨x1,hx1,h⟩:=bd_some h;refine cC 0 (spec_l21In_c hx1) ?_;clear hx1;(conv=>whnf);obtain ⟨x2,hx2,h⟩:=bd_some h;refine cG (fun c0=>spec_l21In_c (gcall_some hx2 c0)) ?_;(conv=>whnf);obtain ⟨x3,hx3,h⟩:=bd_some h;refine cG (fun c0=>spec_l21In_c (gcall_some hx3 c0)) ?_;(conv=>whnf);obtain ⟨x4,hx4,h⟩:=bd_some h;refine cG (fun c0=>spec_l22Inside_c (gcall_some hx4 c0)) ?_;(conv=>whnf);obtain ⟨x5,hx5,h⟩:=bd_some h;refine cG (fun c0=>spec_l21In_c (gcall_some hx5 c0)) ?_;(conv=>whnf);obtain rfl:=Option.some.inj h;exact lfP []
noncomputable def spec_l22Doors_m (a0:NatBook):Option (Bool) :=
(if (decide (((a0.Doors.length:Nat):Int) > 6)) = true then
 some false
else
 bd (lp (σ:=Int) (β:=(Unit ⊕ Unit)) (fun s1 =>
(if (decide (s1<((a0.Doors.length:Nat):Int))) = true then
 gd ((0:Int)≤s1∧s1<((a0.Doors.length:Nat):Int)) <|
 bd (spec_l22DoorOk_m a0 (a0.Doors.getD s1.toNat default)) fun x6 =>
(if (!x6) = true then
 some (.inr (.inl ()))
else
 bd (lp (σ:=Int) (β:=(Unit ⊕ Unit)) (fun s7 =>
(if (decide (s7<s1)) = true then
 gd ((0:Int)≤s7∧s7<((a0.Doors.length:Nat):Int)) <|
(if ((decide (((a0.Doors.getD s7.toNat default).Kind) > ((a0.Doors.getD s1.toNat default).Kind))) || ((((a0.Doors.getD s7.toNat default).Kind) == ((a0.Doors.getD s1.toNat default).Kind)) && ((decide (((a0.Doors.getD s7.toNat default).Outer) ≥ ((a0.Doors.getD s1.toNat default).Outer))) || ((((a0.Doors.getD s7.toNat default).Inner) == ((a0.Doors.getD s1.toNat default).Inner)) && (((a0.Doors.getD s7.toNat default).InnerPort) == ((a0.Doors.getD s1.toNat default).InnerPort)))))) = true then
 some (.inr (.inl ()))
else
 some (.inl (IntKind.i64.wrap (s7+1))))
else
 some (.inr (.inr ())))) 0) fun x10 =>
(match x10 with
| .inl d12 =>
 some (.inr (.inl ()))
| .inr d13 =>
 some (.inl (IntKind.i64.wrap (s1+1)))))
else
 some (.inr (.inr ())))) 0) fun x4 =>
(match x4 with
| .inl d14 =>
 some false
| .inr d15 =>
 some true))
theorem spec_l22Doors_c {a0:NatBook} {r:Bool} (h:spec_l22Doors_m a0 = some r):PureC Try.prog 69 [.agg [.d (.int .i64 a0.Addr),.d (.int .i64 a0.Len),.d (.int .i64 a0.Own),.d (.int .i64 a0.Low),.d (.int .i64 a0.High),.d (slD NatDoor.enc a0.Doors),.d (.int .i64 a0.Now),.d (slD NatEntry.enc a0.Entries)]] (.d (.bool r)) []:=by
  refine pureC_x tOk (fn:=Try.f69) (c:=codeOf Try.f69) rfl rfl ?_;unfold spec_l22Doors_m at h;(conv=>whnf);refine seq_in tOk ?_;(conv=>whnf);refine andI h (fun _ h=>?_) (fun _ h=>?_)
  · (conv=>whnf);obtain rfl:=Option.some.inj h;exact lfP []
  · (conv=>whnf);refine seq_in tOk ?_;(conv=>whnf);obtain ⟨x4,hx4,h⟩:=bd_some h;refine loop_m tOk hx4 (fun s1=>⟨0,70,[(1,.ref 1 0 0),(3,.d (.int .i64 s1))],[],[(1,.box 56 [.d (.int .i64 a0.Addr),.d (.int .i64 a0.Len),.d (.int .i64 a0.Own),.d (.int .i64 a0.Low),.d (.int .i64 a0.High),.d (slD NatDoor.enc a0.Doors),.d (.int .i64 a0.Now),.d (slD NatEntry.enc a0.Entries)])],[]⟩) ?_ ?_
    · exact leX []
    · clear hx4;intro s1 y2 g3 hy2;(conv=>whnf);refine seq_in tOk ?_;(conv=>whnf);refine andI g3 (fun _ g3=>?_) (fun _ g3=>?_)
      · (conv=>whnf);refine seq_in tOk ?_;(conv=>whnf);refine gdI g3 (fun g3=>?_);(conv=>whnf);refine seq_in tOk ?_;(conv=>whnf);obtain ⟨x6,hx6,g3⟩:=bd_some g3;refine cC 0 (spec_l22DoorOk_c hx6) ?_;clear hx6;(conv=>whnf);refine andI g3 (fun _ g3=>?_) (fun _ g3=>?_)
        · (conv=>whnf);obtain rfl:=Option.some.inj g3;obtain rfl:=hy2 _ rfl;obtain rfl:=Option.some.inj h;exact lfP []
        · (conv=>whnf);obtain ⟨x10,hx10,g3⟩:=bd_some g3;refine loop_m tOk hx10 (fun s7=>⟨0,70,[(1,.ref 1 0 0),(3,.d (.int .i64 s1)),(4,.ref 4 0 0),(5,.d (.int .i64 s7))],[],[(4,.box 104 [.d (.int .i64 ((a0.Doors.getD s1.toNat default).Kind)),.d (.int .i64 ((a0.Doors.getD s1.toNat default).Outer)),.d (.int .i64 ((a0.Doors.getD s1.toNat default).Inner)),.d (.int .i64 ((a0.Doors.getD s1.toNat default).InnerPort))]),(1,.box 56 [.d (.int .i64 a0.Addr),.d (.int .i64 a0.Len),.d (.int .i64 a0.Own),.d (.int .i64 a0.Low),.d (.int .i64 a0.High),.d (slD NatDoor.enc a0.Doors),.d (.int .i64 a0.Now),.d (slD NatEntry.enc a0.Entries)])],[]⟩) ?_ ?_
          · exact leX []
          · clear hx10;intro s7 y8 g9 hy8;(conv=>whnf);refine seq_in tOk ?_;(conv=>whnf);refine andI g9 (fun _ g9=>?_) (fun _ g9=>?_)
            · (conv=>whnf);refine seq_in tOk ?_;(conv=>whnf);refine gdI g9 (fun g9=>?_);(conv=>whnf);refine andI g9 (fun _ g9=>?_) (fun _ g9=>?_)
              · (conv=>whnf);obtain rfl:=Option.some.inj g9;obtain rfl:=hy8 _ rfl;obtain rfl:=Option.some.inj g3;obtain rfl:=hy2 _ rfl;obtain rfl:=Option.some.inj h;exact lfP []
              · (conv=>whnf);obtain rfl:=Option.some.inj g9;exact ⟨_,rfl,leX []⟩
            · (conv=>whnf);obtain rfl:=Option.some.inj g9;obtain rfl:=hy8 _ rfl;obtain rfl:=Option.some.inj g3;exact ⟨_,rfl,leX []⟩
      · (conv=>whnf);obtain rfl:=Option.some.inj g3;obtain rfl:=hy2 _ rfl;obtain rfl:=Option.some.inj h;exact lfP []
noncomputable def spec_l22EntryOk_m (a0:NatBook) (a1:NatEntry):Option (Bool) :=
 bd (spec_l21In_m a1.Kind 1 7) fun x1 =>
 bd (gcall ((!x1) = false) (spec_l21In_m a1.Peer 0 65535)) fun x2 =>
 bd (gcall (((!x1) || (!x2)) = false) (spec_l22Inside_m a0 a1.Peer)) fun x3 =>
 bd (gcall (((((!x1) || (!x2)) || x3) || (a1.Peer == a0.Own)) = false) (spec_l21In_m a1.PeerPort 1 65535)) fun x4 =>
(if (((((!x1) || (!x2)) || x3) || (a1.Peer == a0.Own)) || (!x4)) = true then
 some false
else
 bd (spec_l21In_m a1.Outer a0.Low a0.High) fun x5 =>
 bd (gcall ((!x5) = false) (spec_l22Inside_m a0 a1.Inner)) fun x6 =>
 bd (gcall (((!x5) || (!x6)) = false) (spec_l21In_m a1.InnerPort 1 65535)) fun x7 =>
(if (((!x5) || (!x6)) || (!x7)) = true then
 some false
else
 bd (spec_l21In_m a1.Last 0 a0.Now) fun x8 =>
 some (x8 && (decide ((IntKind.i64.wrap (a0.Now - a1.Last))<12)))))
theorem spec_l22EntryOk_c {a0:NatBook} {a1:NatEntry} {r:Bool} (h:spec_l22EntryOk_m a0 a1 = some r):PureC Try.prog 121 [.agg [.d (.int .i64 a0.Addr),.d (.int .i64 a0.Len),.d (.int .i64 a0.Own),.d (.int .i64 a0.Low),.d (.int .i64 a0.High),.d (slD NatDoor.enc a0.Doors),.d (.int .i64 a0.Now),.d (slD NatEntry.enc a0.Entries)],.agg [.d (.int .i64 a1.Kind),.d (.int .i64 a1.Peer),.d (.int .i64 a1.PeerPort),.d (.int .i64 a1.Outer),.d (.int .i64 a1.Inner),.d (.int .i64 a1.InnerPort),.d (.int .i64 a1.Last)]] (.d (.bool r)) []:=by
  refine pureC_x tOk (fn:=Try.f121) (c:=codeOf Try.f121) rfl rfl ?_;unfold spec_l22EntryOk_m at h;(conv=>whnf);refine seq_in tOk ?_;(conv=>whnf);obtain ⟨x1,hx1,h⟩:=bd_some h;refine cC 0 (spec_l21In_c hx1) ?_;clear hx1;(conv=>whnf);obtain ⟨x2,hx2,h⟩:=bd_some h;refine cG (fun c0=>spec_l21In_c (gcall_some hx2 c0)) ?_;(conv=>whnf);obtain ⟨x3,hx3,h⟩:=bd_some h;refine cG (fun c0=>spec_l22Inside_c (gcall_some hx3 c0)) ?_;(conv=>whnf);obtain ⟨x4,hx4,h⟩:=bd_some h;refine cG (fun c0=>spec_l21In_c (gcall_some hx4 c0)) ?_;(conv=>whnf);refine andI h (fun _ h=>?_) (fun _ h=>?_)
  · (conv=>whnf);obtain rfl:=Option.some.inj h;exact lfP []
  · (conv=>whnf);refine seq_in tOk ?_;(conv=>whnf);obtain ⟨x5,hx5,h⟩:=bd_some h;refine cC 0 (spec_l21In_c hx5) ?_;clear hx5;(conv=>whnf);obtain ⟨x6,hx6,h⟩:=bd_some h;refine cG (fun c0=>spec_l22Inside_c (gcall_some hx6 c0)) ?_;(conv=>whnf);obtain ⟨x7,hx7,h⟩:=bd_some h;refine cG (fun c0=>spec_l21In_c (gcall_some hx7 c0)) ?_;(conv=>whnf);refine andI h (fun _ h=>?_) (fun _ h=>?_)
    · (conv=>whnf);obtain rfl:=Option.some.inj h;exact lfP []
    · (conv=>whnf);obtain ⟨x8,hx8,h⟩:=bd_some h;refine cC 0 (spec_l21In_c hx8) ?_;clear hx8;(conv=>whnf);obtain rfl:=Option.some.inj h;exact lfP []
noncomputable def spec_l22Less_m (a0:NatEntry) (a1:NatEntry):Option (Bool) :=
(if (a0.Kind != a1.Kind) = true then
 some (decide (a0.Kind<a1.Kind))
else
(if (a0.Peer != a1.Peer) = true then
 some (decide (a0.Peer<a1.Peer))
else
(if (a0.PeerPort != a1.PeerPort) = true then
 some (decide (a0.PeerPort<a1.PeerPort))
else
 some (decide (a0.Outer<a1.Outer)))))
theorem spec_l22Less_c {a0:NatEntry} {a1:NatEntry} {r:Bool} (h:spec_l22Less_m a0 a1 = some r):PureC Try.prog 122 [.agg [.d (.int .i64 a0.Kind),.d (.int .i64 a0.Peer),.d (.int .i64 a0.PeerPort),.d (.int .i64 a0.Outer),.d (.int .i64 a0.Inner),.d (.int .i64 a0.InnerPort),.d (.int .i64 a0.Last)],.agg [.d (.int .i64 a1.Kind),.d (.int .i64 a1.Peer),.d (.int .i64 a1.PeerPort),.d (.int .i64 a1.Outer),.d (.int .i64 a1.Inner),.d (.int .i64 a1.InnerPort),.d (.int .i64 a1.Last)]] (.d (.bool r)) []:=by
  refine pureC_x tOk (fn:=Try.f122) (c:=codeOf Try.f122) rfl rfl ?_;unfold spec_l22Less_m at h;(conv=>whnf);refine seq_in tOk ?_;(conv=>whnf);refine andI h (fun _ h=>?_) (fun _ h=>?_)
  · (conv=>whnf);obtain rfl:=Option.some.inj h;exact lfP []
  · (conv=>whnf);refine seq_in tOk ?_;(conv=>whnf);refine andI h (fun _ h=>?_) (fun _ h=>?_)
    · (conv=>whnf);obtain rfl:=Option.some.inj h;exact lfP []
    · (conv=>whnf);refine seq_in tOk ?_;(conv=>whnf);refine andI h (fun _ h=>?_) (fun _ h=>?_)
      · (conv=>whnf);obtain rfl:=Option.some.inj h;exact lfP []
      · (conv=>whnf);obtain rfl:=Option.some.inj h;exact lfP []
noncomputable def spec_l22Flow_m (a0:NatEntry):Option (NatFlow) :=
 some (⟨a0.Kind,a0.Inner,a0.InnerPort,a0.Peer,a0.PeerPort⟩:NatFlow)
theorem spec_l22Flow_c {a0:NatEntry} {r:NatFlow} (h:spec_l22Flow_m a0 = some r):PureC Try.prog 124 [.agg [.d (.int .i64 a0.Kind),.d (.int .i64 a0.Peer),.d (.int .i64 a0.PeerPort),.d (.int .i64 a0.Outer),.d (.int .i64 a0.Inner),.d (.int .i64 a0.InnerPort),.d (.int .i64 a0.Last)]] (.agg [.d (.int .i64 r.Kind),.d (.int .i64 r.From),.d (.int .i64 r.FromPort),.d (.int .i64 r.To),.d (.int .i64 r.ToPort)]) []:=by
  refine pureC_x tOk (fn:=Try.f124) (c:=codeOf Try.f124) rfl rfl ?_;unfold spec_l22Flow_m at h;(conv=>whnf);obtain rfl:=Option.some.inj h;exact lfP []
noncomputable def spec_l22Is_m (a0:NatEntry) (a1:NatFlow):Option (Bool) :=
 some (((((a0.Kind == a1.Kind) && (a0.Inner == a1.From)) && (a0.InnerPort == a1.FromPort)) && (a0.Peer == a1.To)) && (a0.PeerPort == a1.ToPort))
theorem spec_l22Is_c {a0:NatEntry} {a1:NatFlow} {r:Bool} (h:spec_l22Is_m a0 a1 = some r):PureC Try.prog 123 [.agg [.d (.int .i64 a0.Kind),.d (.int .i64 a0.Peer),.d (.int .i64 a0.PeerPort),.d (.int .i64 a0.Outer),.d (.int .i64 a0.Inner),.d (.int .i64 a0.InnerPort),.d (.int .i64 a0.Last)],.agg [.d (.int .i64 a1.Kind),.d (.int .i64 a1.From),.d (.int .i64 a1.FromPort),.d (.int .i64 a1.To),.d (.int .i64 a1.ToPort)]] (.d (.bool r)) []:=by
  refine pureC_x tOk (fn:=Try.f123) (c:=codeOf Try.f123) rfl rfl ?_;unfold spec_l22Is_m at h;(conv=>whnf);obtain rfl:=Option.some.inj h;exact lfP []
noncomputable def spec_l22Live_m (a0:NatBook) (a1:NatEntry):Option (Bool) :=
 some (decide ((IntKind.i64.wrap (a0.Now - a1.Last))<8))
theorem spec_l22Live_c {a0:NatBook} {a1:NatEntry} {r:Bool} (h:spec_l22Live_m a0 a1 = some r):PureC Try.prog 77 [.agg [.d (.int .i64 a0.Addr),.d (.int .i64 a0.Len),.d (.int .i64 a0.Own),.d (.int .i64 a0.Low),.d (.int .i64 a0.High),.d (slD NatDoor.enc a0.Doors),.d (.int .i64 a0.Now),.d (slD NatEntry.enc a0.Entries)],.agg [.d (.int .i64 a1.Kind),.d (.int .i64 a1.Peer),.d (.int .i64 a1.PeerPort),.d (.int .i64 a1.Outer),.d (.int .i64 a1.Inner),.d (.int .i64 a1.InnerPort),.d (.int .i64 a1.Last)]] (.d (.bool r)) []:=by
  refine pureC_x tOk (fn:=Try.f77) (c:=codeOf Try.f77) rfl rfl ?_;unfold spec_l22Live_m at h;(conv=>whnf);obtain rfl:=Option.some.inj h;exact lfP []
noncomputable def spec_l22Entries_m (a0:NatBook):Option (Bool) :=
(if (decide (((a0.Entries.length:Nat):Int) > 16)) = true then
 some false
else
 bd (lp (σ:=Int) (β:=(Unit ⊕ Unit)) (fun s1 =>
(if (decide (s1<((a0.Entries.length:Nat):Int))) = true then
 gd ((0:Int)≤s1∧s1<((a0.Entries.length:Nat):Int)) <|
 bd (spec_l22EntryOk_m a0 (a0.Entries.getD s1.toNat default)) fun x6 =>
 gd ((decide (s1 > 0)) = true → ((!x6) = false → ((0:Int)≤IntKind.i64.wrap (s1 - 1)∧IntKind.i64.wrap (s1 - 1)<((a0.Entries.length:Nat):Int)))) <|
 bd (gcall ((decide (s1 > 0)) = true∧(!x6) = false) (spec_l22Less_m (a0.Entries.getD ((IntKind.i64.wrap (s1 - 1)).toNat) default) (a0.Entries.getD s1.toNat default))) fun x8 =>
(if ((!x6) || ((decide (s1 > 0)) && (!x8))) = true then
 some (.inr (.inl ()))
else
 bd (lp (σ:=Int) (β:=(Unit ⊕ Unit)) (fun s9 =>
(if (decide (s9<s1)) = true then
 gd ((0:Int)≤s9∧s9<((a0.Entries.length:Nat):Int)) <|
 bd (spec_l22Flow_m (a0.Entries.getD s1.toNat default)) fun x14 =>
 bd (spec_l22Is_m (a0.Entries.getD s9.toNat default) x14) fun x15 =>
 bd (gcall (x15 = true) (spec_l22Live_m a0 (a0.Entries.getD s1.toNat default))) fun x16 =>
 gd ((x15 && x16) = true → ((0:Int)≤s9∧s9<((a0.Entries.length:Nat):Int))) <|
 bd (gcall ((x15 && x16) = true) (spec_l22Live_m a0 (a0.Entries.getD s9.toNat default))) fun x18 =>
(if ((x15 && x16) && x18) = true then
 some (.inr (.inl ()))
else
 some (.inl (IntKind.i64.wrap (s9+1))))
else
 some (.inr (.inr ())))) 0) fun x12 =>
(match x12 with
| .inl d19 =>
 some (.inr (.inl ()))
| .inr d20 =>
 some (.inl (IntKind.i64.wrap (s1+1)))))
else
 some (.inr (.inr ())))) 0) fun x4 =>
(match x4 with
| .inl d21 =>
 some false
| .inr d22 =>
 some true))
theorem spec_l22Entries_c {a0:NatBook} {r:Bool} (h:spec_l22Entries_m a0 = some r):PureC Try.prog 70 [.agg [.d (.int .i64 a0.Addr),.d (.int .i64 a0.Len),.d (.int .i64 a0.Own),.d (.int .i64 a0.Low),.d (.int .i64 a0.High),.d (slD NatDoor.enc a0.Doors),.d (.int .i64 a0.Now),.d (slD NatEntry.enc a0.Entries)]] (.d (.bool r)) []:=by
  refine pureC_x tOk (fn:=Try.f70) (c:=codeOf Try.f70) rfl rfl ?_;unfold spec_l22Entries_m at h;(conv=>whnf);refine seq_in tOk ?_;(conv=>whnf);refine andI h (fun _ h=>?_) (fun _ h=>?_)
  · (conv=>whnf);obtain rfl:=Option.some.inj h;exact lfP []
  · (conv=>whnf);refine seq_in tOk ?_;(conv=>whnf);obtain ⟨x4,hx4,h⟩:=bd_some h;refine loop_m tOk hx4 (fun s1=>⟨0,68,[(1,.ref 1 0 0),(3,.d (.int .i64 s1))],[],[(1,.box 56 [.d (.int .i64 a0.Addr),.d (.int .i64 a0.Len),.d (.int .i64 a0.Own),.d (.int .i64 a0.Low),.d (.int .i64 a0.High),.d (slD NatDoor.enc a0.Doors),.d (.int .i64 a0.Now),.d (slD NatEntry.enc a0.Entries)])],[]⟩) ?_ ?_
    · exact leX []
    · clear hx4;intro s1 y2 g3 hy2;(conv=>whnf);refine seq_in tOk ?_;(conv=>whnf);refine andI g3 (fun _ g3=>?_) (fun _ g3=>?_)
      · (conv=>whnf);refine seq_in tOk ?_;(conv=>whnf);refine gdI g3 (fun g3=>?_);(conv=>whnf);refine seq_in tOk ?_;(conv=>whnf);obtain ⟨x6,hx6,g3⟩:=bd_some g3;obtain ⟨g7,g3⟩:=gd_some g3;obtain ⟨x8,hx8,g3⟩:=bd_some g3;refine draw_u tOk [.u 2 0 (.d (.bool x6)) [],.u 15 0 (.d (.bool x8)) []] 19 [] [0,0,3,7,15,31,63,127,255,511,255,1279,4095,8191,255,32767,65535,131071,262143] [] ?_;(conv=>whnf);refine And.intro (callD_any (spec_l22EntryOk_c hx6) (by kernel_rfl)) ?_;(conv=>whnf);refine And.intro g7 ?_;clear g7;(conv=>whnf);refine And.intro (callDG_if rfl rfl rfl rfl (by intro c0 c1; exact spec_l22Less_c (gcall_some hx8 ⟨c0,c1⟩))) ?_;(conv=>whnf);refine And.intro (by kernel_rfl) ?_;(conv=>whnf);refine andI g3 (fun _ g3=>?_) (fun _ g3=>?_)
        · (conv=>whnf);obtain rfl:=Option.some.inj g3;obtain rfl:=hy2 _ rfl;obtain rfl:=Option.some.inj h;exact lfP []
        · (conv=>whnf);obtain ⟨x12,hx12,g3⟩:=bd_some g3;refine loop_m tOk hx12 (fun s9=>⟨0,68,[(1,.ref 1 0 0),(3,.d (.int .i64 s1)),(4,.ref 4 0 0),(5,.d (.int .i64 s9))],[],[(4,.box 65 [.d (.int .i64 ((a0.Entries.getD s1.toNat default).Kind)),.d (.int .i64 ((a0.Entries.getD s1.toNat default).Peer)),.d (.int .i64 ((a0.Entries.getD s1.toNat default).PeerPort)),.d (.int .i64 ((a0.Entries.getD s1.toNat default).Outer)),.d (.int .i64 ((a0.Entries.getD s1.toNat default).Inner)),.d (.int .i64 ((a0.Entries.getD s1.toNat default).InnerPort)),.d (.int .i64 ((a0.Entries.getD s1.toNat default).Last))]),(1,.box 56 [.d (.int .i64 a0.Addr),.d (.int .i64 a0.Len),.d (.int .i64 a0.Own),.d (.int .i64 a0.Low),.d (.int .i64 a0.High),.d (slD NatDoor.enc a0.Doors),.d (.int .i64 a0.Now),.d (slD NatEntry.enc a0.Entries)])],[]⟩) ?_ ?_
          · exact leX []
          · clear hx12;intro s9 y10 g11 hy10;(conv=>whnf);refine seq_in tOk ?_;(conv=>whnf);refine andI g11 (fun _ g11=>?_) (fun _ g11=>?_)
            · (conv=>whnf);refine seq_in tOk ?_;(conv=>whnf);obtain ⟨g13,g11⟩:=gd_some g11;obtain ⟨x14,hx14,g11⟩:=bd_some g11;obtain ⟨x15,hx15,g11⟩:=bd_some g11;obtain ⟨x16,hx16,g11⟩:=bd_some g11;obtain ⟨g17,g11⟩:=gd_some g11;obtain ⟨x18,hx18,g11⟩:=bd_some g11;refine draw_u tOk [.u 6 0 (.agg [.d (.int .i64 x14.Kind),.d (.int .i64 x14.From),.d (.int .i64 x14.FromPort),.d (.int .i64 x14.To),.d (.int .i64 x14.ToPort)]) [],.u 7 0 (.d (.bool x15)) [],.u 11 0 (.d (.bool x16)) [],.u 20 0 (.d (.bool x18)) []] 22 [] [0,1,0,7,15,0,32,127,255,511,511,2047,4095,8191,16383,16383,49151,16383,245759,507903,1048575,2097151] [] ?_;(conv=>whnf);refine And.intro g13 ?_;clear g13;(conv=>whnf);refine And.intro (callD_any (spec_l22Flow_c hx14) (by kernel_rfl)) ?_;(conv=>whnf);refine And.intro (callD_any (spec_l22Is_c hx15) (by kernel_rfl)) ?_;(conv=>whnf);refine And.intro (callDG_if rfl rfl rfl rfl (by intro c0; exact spec_l22Live_c (gcall_some hx16 c0))) ?_;(conv=>whnf);refine And.intro g17 ?_;clear g17;(conv=>whnf);refine And.intro (callDG_if rfl rfl rfl rfl (by intro c0; exact spec_l22Live_c (gcall_some hx18 c0))) ?_;(conv=>whnf);refine And.intro (by kernel_rfl) ?_;(conv=>whnf);refine andI g11 (fun _ g11=>?_) (fun _ g11=>?_)
              · (conv=>whnf);obtain rfl:=Option.some.inj g11;obtain rfl:=hy10 _ rfl;obtain rfl:=Option.some.inj g3;obtain rfl:=hy2 _ rfl;obtain rfl:=Option.some.inj h;exact lfP []
              · (conv=>whnf);obtain rfl:=Option.some.inj g11;exact ⟨_,rfl,leX []⟩
            · (conv=>whnf);obtain rfl:=Option.some.inj g11;obtain rfl:=hy10 _ rfl;obtain rfl:=Option.some.inj g3;exact ⟨_,rfl,leX []⟩
      · (conv=>whnf);obtain rfl:=Option.some.inj g3;obtain rfl:=hy2 _ rfl;obtain rfl:=Option.some.inj h;exact lfP []
noncomputable def spec_NatBookOk_m (a0:NatBook):Option (Bool) :=
 bd (spec_l22Frame_m a0) fun x1 =>
 bd (gcall (x1 = true) (spec_l22Doors_m a0)) fun x2 =>
 bd (gcall ((x1 && x2) = true) (spec_l22Entries_m a0)) fun x3 =>
 some ((x1 && x2) && x3)
theorem spec_NatBookOk_c {a0:NatBook} {r:Bool} (h:spec_NatBookOk_m a0 = some r):PureC Try.prog 27 [.agg [.d (.int .i64 a0.Addr),.d (.int .i64 a0.Len),.d (.int .i64 a0.Own),.d (.int .i64 a0.Low),.d (.int .i64 a0.High),.d (slD NatDoor.enc a0.Doors),.d (.int .i64 a0.Now),.d (slD NatEntry.enc a0.Entries)]] (.d (.bool r)) []:=by
  refine pureC_x tOk (fn:=Try.f27) (c:=codeOf Try.f27) rfl rfl ?_;unfold spec_NatBookOk_m at h;(conv=>whnf);obtain ⟨x1,hx1,h⟩:=bd_some h;refine cC 0 (spec_l22Frame_c hx1) ?_;clear hx1;(conv=>whnf);obtain ⟨x2,hx2,h⟩:=bd_some h;refine cG (fun c0=>spec_l22Doors_c (gcall_some hx2 c0)) ?_;(conv=>whnf);obtain ⟨x3,hx3,h⟩:=bd_some h;refine cG (fun c0=>spec_l22Entries_c (gcall_some hx3 c0)) ?_;(conv=>whnf);obtain rfl:=Option.some.inj h;exact lfP []
noncomputable def spec_l25Frame_m (a0:l21Rd):Option (NatBook × l21Rd) :=
 bd (spec_l21Rd_pick_m a0 4) fun x1 =>
 bd (α:=Int × Int × Int × Int) (bd (spec_l21Rd_pick_m (⟨a0.b,x1.2.p⟩:l21Rd) 6) fun x5 =>
(if (x5.1 == 0) = true then
 some (0,1,IntKind.i64.wrap (40+x1.1),x5.2.p)
else
(if (x5.1 == 1) = true then
 bd (spec_l21Rd_pick_m (⟨a0.b,x5.2.p⟩:l21Rd) 2) fun x6 =>
 some (2562,IntKind.i64.wrap (15+x6.1),IntKind.i64.wrap (40+x1.1),x6.2.p)
else
(if (x5.1 == 2) = true then
 some (2560,8,60,x5.2.p)
else
 some (2560,8,IntKind.i64.wrap (40+x1.1),x5.2.p))))) fun x2 =>
 bd (spec_l21Rd_pick_m (⟨a0.b,x2.2.2.2⟩:l21Rd) 4) fun x7 =>
 bd (lp (σ:=List NatDoor × Int × Int) (β:=((List NatDoor) × Int)) (fun s8 =>
(if (decide (s8.2.2 > 0)) = true then
 bd (spec_l21Rd_pick_m (⟨a0.b,s8.2.1⟩:l21Rd) 2) fun x12 =>
 bd (spec_l21Rd_pick_m (⟨a0.b,x12.2.p⟩:l21Rd) 5) fun x13 =>
 gd ((0:Int)≤x13.1∧x13.1<((([1,22,39,61,65535]:List Int).length:Nat):Int)) <|
 bd (spec_l25Inner_m (⟨a0.b,x13.2.p⟩:l21Rd) (⟨x2.1,x2.2.1,51201,40,x2.2.2.1,s8.1,0,[]⟩:NatBook)) fun x15 =>
 bd (spec_l25Port_m (⟨a0.b,x15.2.p⟩:l21Rd)) fun x16 =>
 bd (spec_l25PutDoor_m s8.1 (⟨IntKind.i64.wrap (1+x12.1),(([1,22,39,61,65535]:List Int).getD x13.1.toNat default),x15.1,x16.1⟩:NatDoor)) fun x17 =>
 bd (spec_NatBookOk_m (⟨x2.1,x2.2.1,51201,40,x2.2.2.1,x17,0,[]⟩:NatBook)) fun x18 =>
(if x18 = true then
 some (.inl (x17,x16.2.p,IntKind.i64.wrap (s8.2.2 - 1)))
else
 some (.inl (s8.1,x16.2.p,IntKind.i64.wrap (s8.2.2 - 1))))
else
 some (.inr (s8.1,s8.2.1)))) (([]:List NatDoor),x7.2.p,x7.1)) fun x11 =>
 some ((⟨x2.1,x2.2.1,51201,40,x2.2.2.1,x11.1,0,[]⟩:NatBook),(⟨a0.b,x11.2⟩:l21Rd))
theorem spec_l25Frame_c {a0:l21Rd} {r:NatBook × l21Rd} (h:spec_l25Frame_m a0 = some r):EffC Try.prog 154 [.ref 9000 0 0] [(9000,.box 155 [.d (slD encByte a0.b),.d (.int .i64 a0.p)])] (.agg [.d (.int .i64 r.1.Addr),.d (.int .i64 r.1.Len),.d (.int .i64 r.1.Own),.d (.int .i64 r.1.Low),.d (.int .i64 r.1.High),.d (slD NatDoor.enc r.1.Doors),.d (.int .i64 r.1.Now),.osl 5001 0 r.1.Entries.length]) [(9000,.box 155 [.d (slD encByte a0.b),.d (.int .i64 r.2.p)]),(5001,.arr 65 7 r.1.Entries.length (rows NatEntry.enc r.1.Entries))]:=by
  refine effC_x tOk (fn:=Try.f154) (c:=codeOf Try.f154) rfl rfl ?_;unfold spec_l25Frame_m at h;(conv=>whnf);obtain ⟨x1,hx1,h⟩:=bd_some h;refine cE [(9000,9000)] 0 (spec_l21Rd_pick_c hx1) ?_;(conv=>whnf);obtain ⟨x2,hx2,h⟩:=bd_some h;refine seq_join tOk (fun s3=>⟨0,57,[(0,.ref 9000 0 0),(2,.ref 2 0 0),(3,.ref 3 0 0)],[],[(3,.box 56 [.d (.int .i64 s3.1),.d (.int .i64 s3.2.1),.d (.int .i64 51201),.d (.int .i64 40),.d (.int .i64 s3.2.2.1),.d (.nil),.d (.int .i64 0),.d (.nil)]),(2,.box 56 [.d (.int .i64 0),.d (.int .i64 0),.d (.int .i64 0),.d (.int .i64 0),.d (.int .i64 0),.d (.nil),.d (.int .i64 0),.d (.nil)]),(9000,.box 155 [.d (slD encByte a0.b),.d (.int .i64 s3.2.2.2)])],[⟨[(0,.ref 9000 0 0)],[]⟩]⟩) (fun s3=>x2 = s3) ?_ ?_
  · (conv=>whnf);obtain ⟨x5,hx5,hx2⟩:=bd_some hx2;refine cE [(9000,9000)] 0 (spec_l21Rd_pick_c hx5) ?_;(conv=>whnf);refine andI hx2 (fun _ hx2=>?_) (fun _ hx2=>?_)
    · (conv=>whnf);obtain rfl:=Option.some.inj hx2;exact ⟨_,rfl,leX []⟩
    · (conv=>whnf);refine andI hx2 (fun _ hx2=>?_) (fun _ hx2=>?_)
      · (conv=>whnf);obtain ⟨x6,hx6,hx2⟩:=bd_some hx2;refine cE [(9000,9000)] 0 (spec_l21Rd_pick_c hx6) ?_;(conv=>whnf);obtain rfl:=Option.some.inj hx2;exact ⟨_,rfl,leX []⟩
      · (conv=>whnf);refine andI hx2 (fun _ hx2=>?_) (fun _ hx2=>?_)
        · (conv=>whnf);obtain rfl:=Option.some.inj hx2;exact ⟨_,rfl,leX []⟩
        · (conv=>whnf);obtain rfl:=Option.some.inj hx2;exact ⟨_,rfl,leX []⟩
  · rintro _ rfl;(conv=>whnf);refine seq_in tOk ?_;(conv=>whnf);obtain ⟨x7,hx7,h⟩:=bd_some h;refine cE [(9000,9000)] 0 (spec_l21Rd_pick_c hx7) ?_;(conv=>whnf);obtain ⟨x11,hx11,h⟩:=bd_some h;refine loop_m tOk hx11 (fun s8=>⟨0,57,[(0,.ref 9000 0 0),(2,.ref 2 0 0),(3,.ref 3 0 0),(4,.d (.int .i64 s8.2.2))],[],[(3,.box 56 [.d (.int .i64 x2.1),.d (.int .i64 x2.2.1),.d (.int .i64 51201),.d (.int .i64 40),.d (.int .i64 x2.2.2.1),.d (slD NatDoor.enc s8.1),.d (.int .i64 0),.d (.nil)]),(2,.box 56 [.d (.int .i64 0),.d (.int .i64 0),.d (.int .i64 0),.d (.int .i64 0),.d (.int .i64 0),.d (.nil),.d (.int .i64 0),.d (.nil)]),(9000,.box 155 [.d (slD encByte a0.b),.d (.int .i64 s8.2.1)])],[⟨[(0,.ref 9000 0 0)],[]⟩]⟩) ?_ ?_
    · exact leX []
    · clear hx11;intro s8 y9 g10 hy9;(conv=>whnf);refine seq_in tOk ?_;(conv=>whnf);refine andI g10 (fun _ g10=>?_) (fun _ g10=>?_)
      · (conv=>whnf);refine seq_in tOk ?_;(conv=>whnf);obtain ⟨x12,hx12,g10⟩:=bd_some g10;obtain ⟨x13,hx13,g10⟩:=bd_some g10;obtain ⟨g14,g10⟩:=gd_some g10;obtain ⟨x15,hx15,g10⟩:=bd_some g10;obtain ⟨x16,hx16,g10⟩:=bd_some g10;refine draw_t tOk [.e 1 [(9000,.box 155 [.d (slD encByte a0.b),.d (.int .i64 s8.2.1)])] (.d (.int .i64 x12.1)) [] [(9000,.box 155 [.d (slD encByte a0.b),.d (.int .i64 x12.2.p)])],.e 5 [(9000,.box 155 [.d (slD encByte a0.b),.d (.int .i64 x12.2.p)])] (.d (.int .i64 x13.1)) [] [(9000,.box 155 [.d (slD encByte a0.b),.d (.int .i64 x13.2.p)])],.e 10 [(9000,.box 155 [.d (slD encByte a0.b),.d (.int .i64 x13.2.p)])] (.d (.int .i64 x15.1)) [] [(9000,.box 155 [.d (slD encByte a0.b),.d (.int .i64 x15.2.p)])],.e 12 [(9000,.box 155 [.d (slD encByte a0.b),.d (.int .i64 x15.2.p)])] (.d (.int .i64 x16.1)) [] [(9000,.box 155 [.d (slD encByte a0.b),.d (.int .i64 x16.2.p)])]] 15 [] [0,1,3,0,0,19,59,123,0,0,819,0,3891,8191,0] [32767] [9000] ?_;(conv=>whnf);refine And.intro (eD [(9000,9000)] 0 (spec_l21Rd_pick_c hx12)) ?_;(conv=>whnf);refine bldS (enc:=encInt) ([1,22,39,61,65535]:List Int) ?_;(conv=>whnf);refine And.intro (eD [(9000,9000)] 0 (spec_l21Rd_pick_c hx13)) ?_;(conv=>whnf);refine And.intro g14 ?_;clear g14;(conv=>whnf);refine And.intro (eD [(9000,9000)] 0 (spec_l25Inner_c hx15)) ?_;(conv=>whnf);refine And.intro (eD [(9000,9000)] 0 (spec_l25Port_c hx16)) ?_;(conv=>whnf);refine And.intro (by kernel_rfl) ?_;(conv=>whnf);obtain ⟨x17,hx17,g10⟩:=bd_some g10;refine cC 1000 (spec_l25PutDoor_c hx17) ?_;clear hx17;(conv=>whnf);obtain ⟨x18,hx18,g10⟩:=bd_some g10;refine callW 0 (spec_NatBookOk_c hx18) rfl argA rfl ?_;(conv=>whnf);refine andI g10 (fun _ g10=>?_) (fun _ g10=>?_)
        · (conv=>whnf);obtain rfl:=Option.some.inj g10;exact ⟨_,rfl,leX [.f [6001]]⟩
        · (conv=>whnf);obtain rfl:=Option.some.inj g10;exact ⟨_,rfl,leX []⟩
      · (conv=>whnf);obtain rfl:=Option.some.inj g10;obtain rfl:=hy9 _ rfl;obtain rfl:=Option.some.inj h;exact lfE [.k [3],.p 5001 65 7 (rows NatEntry.enc ([]:List NatEntry))]
noncomputable def spec_l22Copy_m (a0:NatBook):Option (NatBook) :=
 gd (((0)+(a0.Doors.length)) * (32+1)≤70368744177664) <|
 gd (((0)+(a0.Entries.length)) * (56+1)≤70368744177664) <|
 some a0
theorem spec_l22Copy_c {a0:NatBook} {r:NatBook} (h:spec_l22Copy_m a0 = some r):PureC Try.prog 47 [.agg [.d (.int .i64 a0.Addr),.d (.int .i64 a0.Len),.d (.int .i64 a0.Own),.d (.int .i64 a0.Low),.d (.int .i64 a0.High),.d (slD NatDoor.enc a0.Doors),.d (.int .i64 a0.Now),.d (slD NatEntry.enc a0.Entries)]] (.agg [.d (.int .i64 r.Addr),.d (.int .i64 r.Len),.d (.int .i64 r.Own),.d (.int .i64 r.Low),.d (.int .i64 r.High),.osl 5001 0 r.Doors.length,.d (.int .i64 r.Now),.osl 5002 0 r.Entries.length]) [⟨5001,104,4,r.Doors.length,rows NatDoor.enc r.Doors⟩,⟨5002,65,7,r.Entries.length,rows NatEntry.enc r.Entries⟩]:=by
  refine pureC_x tOk (fn:=Try.f47) (c:=codeOf Try.f47) rfl rfl ?_;unfold spec_l22Copy_m at h;(conv=>whnf);refine gdI h (fun h=>?_);refine appN (enc:=NatDoor.enc) (ys:=a0.Doors) ?_;(conv=>whnf);refine gdI h (fun h=>?_);refine appN (enc:=NatEntry.enc) (ys:=a0.Entries) ?_;(conv=>whnf);obtain rfl:=Option.some.inj h;exact lfP [.s [(6,5001),(11,5002),(5001,6),(5002,11)]]
noncomputable def spec_NatFlowOk_m (a0:NatFlow):Option (Bool) :=
 bd (spec_l21In_m a0.Kind 1 7) fun x1 =>
 bd (gcall (x1 = true) (spec_l21In_m a0.From 0 65535)) fun x2 =>
 bd (gcall ((x1 && x2) = true) (spec_l21In_m a0.To 0 65535)) fun x3 =>
 bd (gcall (((x1 && x2) && x3) = true) (spec_l21In_m a0.FromPort 1 65535)) fun x4 =>
 bd (gcall ((((x1 && x2) && x3) && x4) = true) (spec_l21In_m a0.ToPort 1 65535)) fun x5 =>
 some ((((x1 && x2) && x3) && x4) && x5)
theorem spec_NatFlowOk_c {a0:NatFlow} {r:Bool} (h:spec_NatFlowOk_m a0 = some r):PureC Try.prog 74 [.agg [.d (.int .i64 a0.Kind),.d (.int .i64 a0.From),.d (.int .i64 a0.FromPort),.d (.int .i64 a0.To),.d (.int .i64 a0.ToPort)]] (.d (.bool r)) []:=by
  refine pureC_x tOk (fn:=Try.f74) (c:=codeOf Try.f74) rfl rfl ?_;unfold spec_NatFlowOk_m at h;(conv=>whnf);obtain ⟨x1,hx1,h⟩:=bd_some h;refine cC 0 (spec_l21In_c hx1) ?_;clear hx1;(conv=>whnf);obtain ⟨x2,hx2,h⟩:=bd_some h;refine cG (fun c0=>spec_l21In_c (gcall_some hx2 c0)) ?_;(conv=>whnf);obtain ⟨x3,hx3,h⟩:=bd_some h;refine cG (fun c0=>spec_l21In_c (gcall_some hx3 c0)) ?_;(conv=>whnf);obtain ⟨x4,hx4,h⟩:=bd_some h;refine cG (fun c0=>spec_l21In_c (gcall_some hx4 c0)) ?_;(conv=>whnf);obtain ⟨x5,hx5,h⟩:=bd_some h;refine cG (fun c0=>spec_l21In_c (gcall_some hx5 c0)) ?_;(conv=>whnf);obtain rfl:=Option.some.inj h;exact lfP []
noncomputable def spec_l23Door_m (a0:NatBook) (a1:NatFlow):Option (Int) :=
 bd (lp (σ:=Int) (β:=(Int ⊕ Unit)) (fun s1 =>
(if (decide (s1<((a0.Doors.length:Nat):Int))) = true then
 gd ((0:Int)≤s1∧s1<((a0.Doors.length:Nat):Int)) <|
 gd ((((a0.Doors.getD s1.toNat default).Kind) == a1.Kind) = true → ((0:Int)≤s1∧s1<((a0.Doors.length:Nat):Int))) <|
 gd (((((a0.Doors.getD s1.toNat default).Kind) == a1.Kind) && (((a0.Doors.getD s1.toNat default).Inner) == a1.From)) = true → ((0:Int)≤s1∧s1<((a0.Doors.length:Nat):Int))) <|
(if (((((a0.Doors.getD s1.toNat default).Kind) == a1.Kind) && (((a0.Doors.getD s1.toNat default).Inner) == a1.From)) && (((a0.Doors.getD s1.toNat default).InnerPort) == a1.FromPort)) = true then
 some (.inr (.inl s1))
else
 some (.inl (IntKind.i64.wrap (s1+1))))
else
 some (.inr (.inr ())))) 0) fun x4 =>
(match x4 with
| .inl d8 =>
 some d8
| .inr d9 =>
 some (-1))
theorem spec_l23Door_c {a0:NatBook} {a1:NatFlow} {r:Int} (h:spec_l23Door_m a0 a1 = some r):PureC Try.prog 78 [.agg [.d (.int .i64 a0.Addr),.d (.int .i64 a0.Len),.d (.int .i64 a0.Own),.d (.int .i64 a0.Low),.d (.int .i64 a0.High),.d (slD NatDoor.enc a0.Doors),.d (.int .i64 a0.Now),.d (slD NatEntry.enc a0.Entries)],.agg [.d (.int .i64 a1.Kind),.d (.int .i64 a1.From),.d (.int .i64 a1.FromPort),.d (.int .i64 a1.To),.d (.int .i64 a1.ToPort)]] (.d (.int .i64 r)) []:=by
  refine pureC_x tOk (fn:=Try.f78) (c:=codeOf Try.f78) rfl rfl ?_;unfold spec_l23Door_m at h;(conv=>whnf);refine seq_in tOk ?_;(conv=>whnf);obtain ⟨x4,hx4,h⟩:=bd_some h;refine loop_m tOk hx4 (fun s1=>⟨0,45,[(2,.ref 2 0 0),(3,.ref 3 0 0),(5,.d (.int .i64 s1))],[],[(3,.box 67 [.d (.int .i64 a1.Kind),.d (.int .i64 a1.From),.d (.int .i64 a1.FromPort),.d (.int .i64 a1.To),.d (.int .i64 a1.ToPort)]),(2,.box 56 [.d (.int .i64 a0.Addr),.d (.int .i64 a0.Len),.d (.int .i64 a0.Own),.d (.int .i64 a0.Low),.d (.int .i64 a0.High),.d (slD NatDoor.enc a0.Doors),.d (.int .i64 a0.Now),.d (slD NatEntry.enc a0.Entries)])],[]⟩) ?_ ?_
  · exact leX []
  · clear hx4;intro s1 y2 g3 hy2;(conv=>whnf);refine seq_in tOk ?_;(conv=>whnf);refine andI g3 (fun _ g3=>?_) (fun _ g3=>?_)
    · (conv=>whnf);refine seq_in tOk ?_;(conv=>whnf);obtain ⟨g5,g3⟩:=gd_some g3;obtain ⟨g6,g3⟩:=gd_some g3;obtain ⟨g7,g3⟩:=gd_some g3;refine draw_u tOk [] 31 [] [0,1,0,7,15,31,0,64,255,511,1023,2047,1023,8191,16383,32767,1023,66559,262143,524287,1048575,2097151,4194303,2097151,16777215,33554431,67108863,2097151,136314879,536870911,1073741823] [] ?_;(conv=>whnf);refine And.intro g5 ?_;clear g5;(conv=>whnf);refine And.intro g6 ?_;clear g6;(conv=>whnf);refine And.intro g7 ?_;clear g7;(conv=>whnf);refine And.intro (by kernel_rfl) ?_;(conv=>whnf);refine andI g3 (fun _ g3=>?_) (fun _ g3=>?_)
      · (conv=>whnf);obtain rfl:=Option.some.inj g3;obtain rfl:=hy2 _ rfl;obtain rfl:=Option.some.inj h;exact lfP []
      · (conv=>whnf);obtain rfl:=Option.some.inj g3;exact ⟨_,rfl,leX []⟩
    · (conv=>whnf);obtain rfl:=Option.some.inj g3;obtain rfl:=hy2 _ rfl;obtain rfl:=Option.some.inj h;exact lfP []
noncomputable def spec_l23Under_m (a0:NatBook) (a1:NatFlow) (a2:Int):Option (NatFlow) :=
 some ({ a1 with From:=a0.Own,FromPort:=a2 })
theorem spec_l23Under_c {a0:NatBook} {a1:NatFlow} {a2:Int} {r:NatFlow} (h:spec_l23Under_m a0 a1 a2 = some r):PureC Try.prog 79 [.agg [.d (.int .i64 a0.Addr),.d (.int .i64 a0.Len),.d (.int .i64 a0.Own),.d (.int .i64 a0.Low),.d (.int .i64 a0.High),.d (slD NatDoor.enc a0.Doors),.d (.int .i64 a0.Now),.d (slD NatEntry.enc a0.Entries)],.agg [.d (.int .i64 a1.Kind),.d (.int .i64 a1.From),.d (.int .i64 a1.FromPort),.d (.int .i64 a1.To),.d (.int .i64 a1.ToPort)],.d (.int .i64 a2)] (.agg [.d (.int .i64 r.Kind),.d (.int .i64 r.From),.d (.int .i64 r.FromPort),.d (.int .i64 r.To),.d (.int .i64 r.ToPort)]) []:=by
  refine pureC_x tOk (fn:=Try.f79) (c:=codeOf Try.f79) rfl rfl ?_;unfold spec_l23Under_m at h;(conv=>whnf);obtain rfl:=Option.some.inj h;exact lfP []
noncomputable def spec_l23Entry_m (a0:NatBook) (a1:NatFlow):Option (Int) :=
 bd (lp (σ:=Int) (β:=(Int ⊕ Unit)) (fun s1 =>
(if (decide (s1<((a0.Entries.length:Nat):Int))) = true then
 gd ((0:Int)≤s1∧s1<((a0.Entries.length:Nat):Int)) <|
 bd (spec_l22Is_m (a0.Entries.getD s1.toNat default) a1) fun x6 =>
 gd (x6 = true → ((0:Int)≤s1∧s1<((a0.Entries.length:Nat):Int))) <|
 bd (gcall (x6 = true) (spec_l22Live_m a0 (a0.Entries.getD s1.toNat default))) fun x8 =>
(if (x6 && x8) = true then
 some (.inr (.inl s1))
else
 some (.inl (IntKind.i64.wrap (s1+1))))
else
 some (.inr (.inr ())))) 0) fun x4 =>
(match x4 with
| .inl d9 =>
 some d9
| .inr d10 =>
 some (-1))
theorem spec_l23Entry_c {a0:NatBook} {a1:NatFlow} {r:Int} (h:spec_l23Entry_m a0 a1 = some r):PureC Try.prog 80 [.agg [.d (.int .i64 a0.Addr),.d (.int .i64 a0.Len),.d (.int .i64 a0.Own),.d (.int .i64 a0.Low),.d (.int .i64 a0.High),.d (slD NatDoor.enc a0.Doors),.d (.int .i64 a0.Now),.d (slD NatEntry.enc a0.Entries)],.agg [.d (.int .i64 a1.Kind),.d (.int .i64 a1.From),.d (.int .i64 a1.FromPort),.d (.int .i64 a1.To),.d (.int .i64 a1.ToPort)]] (.d (.int .i64 r)) []:=by
  refine pureC_x tOk (fn:=Try.f80) (c:=codeOf Try.f80) rfl rfl ?_;unfold spec_l23Entry_m at h;(conv=>whnf);refine seq_in tOk ?_;(conv=>whnf);obtain ⟨x4,hx4,h⟩:=bd_some h;refine loop_m tOk hx4 (fun s1=>⟨0,30,[(2,.ref 2 0 0),(3,.ref 3 0 0),(5,.d (.int .i64 s1))],[],[(3,.box 67 [.d (.int .i64 a1.Kind),.d (.int .i64 a1.From),.d (.int .i64 a1.FromPort),.d (.int .i64 a1.To),.d (.int .i64 a1.ToPort)]),(2,.box 56 [.d (.int .i64 a0.Addr),.d (.int .i64 a0.Len),.d (.int .i64 a0.Own),.d (.int .i64 a0.Low),.d (.int .i64 a0.High),.d (slD NatDoor.enc a0.Doors),.d (.int .i64 a0.Now),.d (slD NatEntry.enc a0.Entries)])],[]⟩) ?_ ?_
  · exact leX []
  · clear hx4;intro s1 y2 g3 hy2;(conv=>whnf);refine seq_in tOk ?_;(conv=>whnf);refine andI g3 (fun _ g3=>?_) (fun _ g3=>?_)
    · (conv=>whnf);refine seq_in tOk ?_;(conv=>whnf);obtain ⟨g5,g3⟩:=gd_some g3;obtain ⟨x6,hx6,g3⟩:=bd_some g3;obtain ⟨g7,g3⟩:=gd_some g3;obtain ⟨x8,hx8,g3⟩:=bd_some g3;refine draw_u tOk [.u 6 0 (.d (.bool x6)) [],.u 14 0 (.d (.bool x8)) []] 16 [] [0,1,0,7,15,0,63,127,255,255,767,255,3839,7935,16383,32767] [] ?_;(conv=>whnf);refine And.intro g5 ?_;clear g5;(conv=>whnf);refine And.intro (callD_any (spec_l22Is_c hx6) (by kernel_rfl)) ?_;(conv=>whnf);refine And.intro g7 ?_;clear g7;(conv=>whnf);refine And.intro (callDG_if rfl rfl rfl rfl (by intro c0; exact spec_l22Live_c (gcall_some hx8 c0))) ?_;(conv=>whnf);refine And.intro (by kernel_rfl) ?_;(conv=>whnf);refine andI g3 (fun _ g3=>?_) (fun _ g3=>?_)
      · (conv=>whnf);obtain rfl:=Option.some.inj g3;obtain rfl:=hy2 _ rfl;obtain rfl:=Option.some.inj h;exact lfP []
      · (conv=>whnf);obtain rfl:=Option.some.inj g3;exact ⟨_,rfl,leX []⟩
    · (conv=>whnf);obtain rfl:=Option.some.inj g3;obtain rfl:=hy2 _ rfl;obtain rfl:=Option.some.inj h;exact lfP []
noncomputable def spec_l23Taken_m (a0:NatBook) (a1:NatFlow) (a2:Int):Option (Bool) :=
 bd (lp (σ:=Int) (β:=(Unit ⊕ Unit)) (fun s1 =>
(if (decide (s1<((a0.Entries.length:Nat):Int))) = true then
 gd ((0:Int)≤s1∧s1<((a0.Entries.length:Nat):Int)) <|
(if ((((((a0.Entries.getD s1.toNat default).Kind) == a1.Kind) && (((a0.Entries.getD s1.toNat default).Peer) == a1.To)) && (((a0.Entries.getD s1.toNat default).PeerPort) == a1.ToPort)) && (((a0.Entries.getD s1.toNat default).Outer) == a2)) = true then
 some (.inr (.inl ()))
else
 some (.inl (IntKind.i64.wrap (s1+1))))
else
 some (.inr (.inr ())))) 0) fun x4 =>
(match x4 with
| .inl d6 =>
 some true
| .inr d7 =>
 some false)
theorem spec_l23Taken_c {a0:NatBook} {a1:NatFlow} {a2:Int} {r:Bool} (h:spec_l23Taken_m a0 a1 a2 = some r):PureC Try.prog 126 [.agg [.d (.int .i64 a0.Addr),.d (.int .i64 a0.Len),.d (.int .i64 a0.Own),.d (.int .i64 a0.Low),.d (.int .i64 a0.High),.d (slD NatDoor.enc a0.Doors),.d (.int .i64 a0.Now),.d (slD NatEntry.enc a0.Entries)],.agg [.d (.int .i64 a1.Kind),.d (.int .i64 a1.From),.d (.int .i64 a1.FromPort),.d (.int .i64 a1.To),.d (.int .i64 a1.ToPort)],.d (.int .i64 a2)] (.d (.bool r)) []:=by
  refine pureC_x tOk (fn:=Try.f126) (c:=codeOf Try.f126) rfl rfl ?_;unfold spec_l23Taken_m at h;(conv=>whnf);refine seq_in tOk ?_;(conv=>whnf);obtain ⟨x4,hx4,h⟩:=bd_some h;refine loop_m tOk hx4 (fun s1=>⟨0,46,[(2,.d (.int .i64 a2)),(3,.ref 3 0 0),(4,.ref 4 0 0),(7,.d (.int .i64 s1))],[],[(4,.box 67 [.d (.int .i64 a1.Kind),.d (.int .i64 a1.From),.d (.int .i64 a1.FromPort),.d (.int .i64 a1.To),.d (.int .i64 a1.ToPort)]),(3,.box 56 [.d (.int .i64 a0.Addr),.d (.int .i64 a0.Len),.d (.int .i64 a0.Own),.d (.int .i64 a0.Low),.d (.int .i64 a0.High),.d (slD NatDoor.enc a0.Doors),.d (.int .i64 a0.Now),.d (slD NatEntry.enc a0.Entries)])],[]⟩) ?_ ?_
  · exact leX []
  · clear hx4;intro s1 y2 g3 hy2;(conv=>whnf);refine seq_in tOk ?_;(conv=>whnf);refine andI g3 (fun _ g3=>?_) (fun _ g3=>?_)
    · (conv=>whnf);refine seq_in tOk ?_;(conv=>whnf);refine gdI g3 (fun g3=>?_);(conv=>whnf);refine andI g3 (fun _ g3=>?_) (fun _ g3=>?_)
      · (conv=>whnf);obtain rfl:=Option.some.inj g3;obtain rfl:=hy2 _ rfl;obtain rfl:=Option.some.inj h;exact lfP []
      · (conv=>whnf);obtain rfl:=Option.some.inj g3;exact ⟨_,rfl,leX []⟩
    · (conv=>whnf);obtain rfl:=Option.some.inj g3;obtain rfl:=hy2 _ rfl;obtain rfl:=Option.some.inj h;exact lfP []
noncomputable def spec_l23Free_m (a0:NatBook) (a1:NatFlow):Option (Int) :=
 bd (lp (σ:=Int) (β:=(Int ⊕ Unit)) (fun s1 =>
(if (decide (s1≤a0.High)) = true then
 bd (spec_l23Taken_m a0 a1 s1) fun x5 =>
(if (!x5) = true then
 some (.inr (.inl s1))
else
 some (.inl (IntKind.i64.wrap (s1+1))))
else
 some (.inr (.inr ())))) a0.Low) fun x4 =>
(match x4 with
| .inl d6 =>
 some d6
| .inr d7 =>
 some 0)
theorem spec_l23Free_c {a0:NatBook} {a1:NatFlow} {r:Int} (h:spec_l23Free_m a0 a1 = some r):PureC Try.prog 81 [.agg [.d (.int .i64 a0.Addr),.d (.int .i64 a0.Len),.d (.int .i64 a0.Own),.d (.int .i64 a0.Low),.d (.int .i64 a0.High),.d (slD NatDoor.enc a0.Doors),.d (.int .i64 a0.Now),.d (slD NatEntry.enc a0.Entries)],.agg [.d (.int .i64 a1.Kind),.d (.int .i64 a1.From),.d (.int .i64 a1.FromPort),.d (.int .i64 a1.To),.d (.int .i64 a1.ToPort)]] (.d (.int .i64 r)) []:=by
  refine pureC_x tOk (fn:=Try.f81) (c:=codeOf Try.f81) rfl rfl ?_;unfold spec_l23Free_m at h;(conv=>whnf);refine seq_in tOk ?_;(conv=>whnf);obtain ⟨x4,hx4,h⟩:=bd_some h;refine loop_m tOk hx4 (fun s1=>⟨0,20,[(2,.ref 2 0 0),(3,.ref 3 0 0),(5,.d (.int .i64 s1))],[],[(3,.box 67 [.d (.int .i64 a1.Kind),.d (.int .i64 a1.From),.d (.int .i64 a1.FromPort),.d (.int .i64 a1.To),.d (.int .i64 a1.ToPort)]),(2,.box 56 [.d (.int .i64 a0.Addr),.d (.int .i64 a0.Len),.d (.int .i64 a0.Own),.d (.int .i64 a0.Low),.d (.int .i64 a0.High),.d (slD NatDoor.enc a0.Doors),.d (.int .i64 a0.Now),.d (slD NatEntry.enc a0.Entries)])],[]⟩) ?_ ?_
  · exact leX []
  · clear hx4;intro s1 y2 g3 hy2;(conv=>whnf);refine seq_in tOk ?_;(conv=>whnf);refine andI g3 (fun _ g3=>?_) (fun _ g3=>?_)
    · (conv=>whnf);refine seq_in tOk ?_;(conv=>whnf);obtain ⟨x5,hx5,g3⟩:=bd_some g3;refine cC 0 (spec_l23Taken_c hx5) ?_;clear hx5;(conv=>whnf);refine andI g3 (fun _ g3=>?_) (fun _ g3=>?_)
      · (conv=>whnf);obtain rfl:=Option.some.inj g3;obtain rfl:=hy2 _ rfl;obtain rfl:=Option.some.inj h;exact lfP []
      · (conv=>whnf);obtain rfl:=Option.some.inj g3;exact ⟨_,rfl,leX []⟩
    · (conv=>whnf);obtain rfl:=Option.some.inj g3;obtain rfl:=hy2 _ rfl;obtain rfl:=Option.some.inj h;exact lfP []
noncomputable def spec_l23Put_m (a0:(List NatEntry)) (a1:NatEntry):Option ((List NatEntry)) :=
 bd (lp (σ:=Int) (β:=(Int)) (fun s1 =>
 gd ((decide (s1<((a0.length:Nat):Int))) = true → ((0:Int)≤s1∧s1<((a0.length:Nat):Int))) <|
 bd (gcall ((decide (s1<((a0.length:Nat):Int))) = true) (spec_l22Less_m (a0.getD s1.toNat default) a1)) fun x6 =>
(if ((decide (s1<((a0.length:Nat):Int))) && x6) = true then
 some (.inl (IntKind.i64.wrap (s1+1)))
else
 some (.inr s1))) 0) fun x4 =>
 gd ((0:Int)≤(0:Int)∧(0:Int)≤x4∧x4≤((a0.length:Nat):Int)) <|
 gd (((0)+(x4.toNat)) * (56+1)≤70368744177664) <|
 gd ((((a0.take x4.toNat).length)+(([a1]:List NatEntry).length)) * (56+1)≤70368744177664) <|
 gd ((0:Int)≤x4∧x4≤((a0.length:Nat):Int)∧((a0.length:Nat):Int)≤((a0.length:Nat):Int)) <|
 gd (((((a0.take x4.toNat) ++ ([a1]:List NatEntry)).length)+((dsub ((a0.length:Nat):Int) x4))) * (56+1)≤70368744177664) <|
 some (((a0.take x4.toNat) ++ ([a1]:List NatEntry)) ++ (((a0).take (x4.toNat+(dsub ((a0.length:Nat):Int) x4))).drop x4.toNat))
theorem spec_l23Put_c {a0:(List NatEntry)} {a1:NatEntry} {r:(List NatEntry)} (h:spec_l23Put_m a0 a1 = some r):PureC Try.prog 82 [.d (slD NatEntry.enc a0),.agg [.d (.int .i64 a1.Kind),.d (.int .i64 a1.Peer),.d (.int .i64 a1.PeerPort),.d (.int .i64 a1.Outer),.d (.int .i64 a1.Inner),.d (.int .i64 a1.InnerPort),.d (.int .i64 a1.Last)]] (.osl 5001 0 r.length) [⟨5001,65,7,r.length,rows NatEntry.enc r⟩]:=by
  refine pureC_x tOk (fn:=Try.f82) (c:=codeOf Try.f82) rfl rfl ?_;unfold spec_l23Put_m at h;(conv=>whnf);refine seq_in tOk ?_;(conv=>whnf);obtain ⟨x4,hx4,h⟩:=bd_some h;refine loop_m tOk hx4 (fun s1=>⟨0,32,[(0,.d (slD NatEntry.enc a0)),(3,.ref 3 0 0),(5,.d (.int .i64 s1))],[],[(3,.box 65 [.d (.int .i64 a1.Kind),.d (.int .i64 a1.Peer),.d (.int .i64 a1.PeerPort),.d (.int .i64 a1.Outer),.d (.int .i64 a1.Inner),.d (.int .i64 a1.InnerPort),.d (.int .i64 a1.Last)])],[]⟩) ?_ ?_
  · exact leX []
  · clear hx4;intro s1 y2 g3 hy2;(conv=>whnf);refine seq_in tOk ?_;(conv=>whnf);obtain ⟨g5,g3⟩:=gd_some g3;obtain ⟨x6,hx6,g3⟩:=bd_some g3;refine draw_u tOk [.u 10 0 (.d (.bool x6)) []] 12 [] [0,0,2,7,15,31,31,127,255,31,1023,2047] [] ?_;(conv=>whnf);refine And.intro g5 ?_;clear g5;(conv=>whnf);refine And.intro (callDG_if rfl rfl rfl rfl (by intro c0; exact spec_l22Less_c (gcall_some hx6 c0))) ?_;(conv=>whnf);refine And.intro (by kernel_rfl) ?_;(conv=>whnf);refine andI g3 (fun _ g3=>?_) (fun _ g3=>?_)
    · (conv=>whnf);obtain rfl:=Option.some.inj g3;exact ⟨_,rfl,leX []⟩
    · (conv=>whnf);obtain rfl:=Option.some.inj g3;obtain rfl:=hy2 _ rfl;obtain ⟨g8,h⟩:=gd_some h;obtain ⟨g9,h⟩:=gd_some h;obtain ⟨g10,h⟩:=gd_some h;obtain ⟨g11,h⟩:=gd_some h;obtain ⟨g12,h⟩:=gd_some h;refine draw_t tOk [.a 4 [] (.osl 24 0 ((a0.take s1.toNat).length)) [(24,.arr 65 7 ((a0.take s1.toNat).length) (rows NatEntry.enc (a0.take s1.toNat)))],.a 7 [(24,.arr 65 7 ((a0.take s1.toNat).length) (rows NatEntry.enc (a0.take s1.toNat)))] (.osl 27 0 (((a0.take s1.toNat) ++ ([a1]:List NatEntry)).length)) [(27,.arr 65 7 (((a0.take s1.toNat) ++ ([a1]:List NatEntry)).length) (rows NatEntry.enc ((a0.take s1.toNat) ++ ([a1]:List NatEntry))))],.a 11 [(27,.arr 65 7 (((a0.take s1.toNat) ++ ([a1]:List NatEntry)).length) (rows NatEntry.enc ((a0.take s1.toNat) ++ ([a1]:List NatEntry))))] (.osl 31 0 ((((a0.take s1.toNat) ++ ([a1]:List NatEntry)) ++ (((a0).take (s1.toNat+(dsub ((a0.length:Nat):Int) s1))).drop s1.toNat)).length)) [(31,.arr 65 7 ((((a0.take s1.toNat) ++ ([a1]:List NatEntry)) ++ (((a0).take (s1.toNat+(dsub ((a0.length:Nat):Int) s1))).drop s1.toNat)).length) (rows NatEntry.enc (((a0.take s1.toNat) ++ ([a1]:List NatEntry)) ++ (((a0).take (s1.toNat+(dsub ((a0.length:Nat):Int) s1))).drop s1.toNat))))]] 13 [] [0,0,0,6,15,0,32,127,0,0,768,2047,4095] [] [] ?_;(conv=>whnf);refine And.intro ⟨g8,.inr rfl⟩ ?_;(conv=>whnf);refine And.intro (by (conv=>whnf); exact ⟨g9,appN (enc:=NatEntry.enc) (ys:=a0.take s1.toNat) ⟨rfl,rfl⟩⟩) ?_;(conv=>whnf);refine bldS (enc:=NatEntry.enc) ([a1]:List NatEntry) ?_;(conv=>whnf);refine And.intro (by (conv=>whnf); exact ⟨g10,appS (enc:=NatEntry.enc) (xs:=(a0.take s1.toNat)) (ys:=([a1]:List NatEntry)) ⟨rfl,rfl⟩⟩) ?_;(conv=>whnf);refine And.intro ⟨g11,.inr rfl⟩ ?_;(conv=>whnf);refine And.intro (by (conv=>whnf); exact ⟨g12,appS (enc:=NatEntry.enc) (xs:=((a0.take s1.toNat) ++ ([a1]:List NatEntry))) (ys:=((a0).take (s1.toNat+(dsub ((a0.length:Nat):Int) s1))).drop s1.toNat) ⟨rfl,rfl⟩⟩) ?_;(conv=>whnf);refine And.intro (by kernel_rfl) ?_;(conv=>whnf);obtain rfl:=Option.some.inj h;exact lfP [.s [(31,5001),(5001,31)]]
noncomputable def spec_NatOut_m (a0:NatBook) (a1:NatFlow):Option (NatBook × NatFlow × Int) :=
 bd (spec_NatBookOk_m a0) fun x1 =>
(if (!x1) = true then
 some ((⟨0,0,0,0,0,[],0,[]⟩:NatBook),(⟨0,0,0,0,0⟩:NatFlow),1)
else
 bd (spec_l22Copy_m a0) fun x2 =>
 bd (spec_NatFlowOk_m a1) fun x3 =>
(if (!x3) = true then
 some (x2,(⟨0,0,0,0,0⟩:NatFlow),2)
else
 bd (spec_l22Inside_m a0 a1.From) fun x4 =>
 bd (gcall ((!x4) = false) (spec_l22Inside_m a0 a1.To)) fun x5 =>
(if (((!x4) || x5) || (a1.To == a0.Own)) = true then
 some (x2,(⟨0,0,0,0,0⟩:NatFlow),3)
else
 bd (spec_l23Door_m a0 a1) fun x6 =>
(if (decide (x6 ≥ 0)) = true then
 gd ((0:Int)≤x6∧x6<((a0.Doors.length:Nat):Int)) <|
 bd (spec_l23Under_m a0 a1 ((a0.Doors.getD x6.toNat default).Outer)) fun x8 =>
 some (x2,x8,0)
else
 bd (spec_l23Entry_m a0 a1) fun x9 =>
(if (decide (x9 ≥ 0)) = true then
 gd ((0:Int)≤x9∧x9<((x2.Entries.length:Nat):Int)) <|
 gd ((0:Int)≤x9∧x9<((a0.Entries.length:Nat):Int)) <|
 bd (spec_l23Under_m a0 a1 ((a0.Entries.getD x9.toNat default).Outer)) fun x12 =>
 some ({ x2 with Entries:=x2.Entries.set x9.toNat ({ (x2.Entries.getD x9.toNat default) with Last:=a0.Now }) },x12,0)
else
(if (((a0.Entries.length:Nat):Int) == 16) = true then
 some (x2,(⟨0,0,0,0,0⟩:NatFlow),4)
else
 bd (spec_l23Free_m a0 a1) fun x13 =>
(if (x13 == 0) = true then
 some (x2,(⟨0,0,0,0,0⟩:NatFlow),5)
else
 bd (spec_l23Put_m x2.Entries (⟨a1.Kind,a1.To,a1.ToPort,x13,a1.From,a1.FromPort,a0.Now⟩:NatEntry)) fun x14 =>
 bd (spec_l23Under_m a0 a1 x13) fun x15 =>
 some ({ x2 with Entries:=x14 },x15,0))))))))
theorem spec_NatOut_c {a0:NatBook} {a1:NatFlow} {r:NatBook × NatFlow × Int} (h:spec_NatOut_m a0 a1 = some r):PureC Try.prog 30 [.agg [.d (.int .i64 a0.Addr),.d (.int .i64 a0.Len),.d (.int .i64 a0.Own),.d (.int .i64 a0.Low),.d (.int .i64 a0.High),.d (slD NatDoor.enc a0.Doors),.d (.int .i64 a0.Now),.d (slD NatEntry.enc a0.Entries)],.agg [.d (.int .i64 a1.Kind),.d (.int .i64 a1.From),.d (.int .i64 a1.FromPort),.d (.int .i64 a1.To),.d (.int .i64 a1.ToPort)]] (.tup [.agg [.d (.int .i64 r.1.Addr),.d (.int .i64 r.1.Len),.d (.int .i64 r.1.Own),.d (.int .i64 r.1.Low),.d (.int .i64 r.1.High),.osl 5001 0 r.1.Doors.length,.d (.int .i64 r.1.Now),.osl 5002 0 r.1.Entries.length],.agg [.d (.int .i64 r.2.1.Kind),.d (.int .i64 r.2.1.From),.d (.int .i64 r.2.1.FromPort),.d (.int .i64 r.2.1.To),.d (.int .i64 r.2.1.ToPort)],.d (.int .i64 r.2.2)]) [⟨5001,104,4,r.1.Doors.length,rows NatDoor.enc r.1.Doors⟩,⟨5002,65,7,r.1.Entries.length,rows NatEntry.enc r.1.Entries⟩]:=by
  refine pureC_x tOk (fn:=Try.f30) (c:=codeOf Try.f30) rfl rfl ?_;unfold spec_NatOut_m at h;(conv=>whnf);refine seq_in tOk ?_;(conv=>whnf);obtain ⟨x1,hx1,h⟩:=bd_some h;refine cC 0 (spec_NatBookOk_c hx1) ?_;clear hx1;(conv=>whnf);refine andI h (fun _ h=>?_) (fun _ h=>?_)
  · (conv=>whnf);obtain rfl:=Option.some.inj h;exact lfP [.k [2,3],.p 5001 104 4 (rows NatDoor.enc ([]:List NatDoor)),.p 5002 65 7 (rows NatEntry.enc ([]:List NatEntry))]
  · (conv=>whnf);obtain ⟨x2,hx2,h⟩:=bd_some h;refine cC 1000 (spec_l22Copy_c hx2) ?_;clear hx2;(conv=>whnf);refine seq_in tOk ?_;(conv=>whnf);obtain ⟨x3,hx3,h⟩:=bd_some h;refine cC 0 (spec_NatFlowOk_c hx3) ?_;clear hx3;(conv=>whnf);refine andI h (fun _ h=>?_) (fun _ h=>?_)
    · (conv=>whnf);obtain rfl:=Option.some.inj h;exact lfP [.s [(5001,6001),(5002,6002),(6001,5001),(6002,5002)]]
    · (conv=>whnf);refine seq_in tOk ?_;(conv=>whnf);obtain ⟨x4,hx4,h⟩:=bd_some h;refine cC 0 (spec_l22Inside_c hx4) ?_;clear hx4;(conv=>whnf);obtain ⟨x5,hx5,h⟩:=bd_some h;refine cG (fun c0=>spec_l22Inside_c (gcall_some hx5 c0)) ?_;(conv=>whnf);refine andI h (fun _ h=>?_) (fun _ h=>?_)
      · (conv=>whnf);obtain rfl:=Option.some.inj h;exact lfP [.s [(5001,6001),(5002,6002),(6001,5001),(6002,5002)]]
      · (conv=>whnf);obtain ⟨x6,hx6,h⟩:=bd_some h;refine cC 0 (spec_l23Door_c hx6) ?_;clear hx6;(conv=>whnf);refine seq_in tOk ?_;(conv=>whnf);refine andI h (fun _ h=>?_) (fun _ h=>?_)
        · (conv=>whnf);obtain ⟨g7,h⟩:=gd_some h;obtain ⟨x8,hx8,h⟩:=bd_some h;refine draw_u tOk [.u 9 0 (.agg [.d (.int .i64 x8.Kind),.d (.int .i64 x8.From),.d (.int .i64 x8.FromPort),.d (.int .i64 x8.To),.d (.int .i64 x8.ToPort)]) []] 10 [] [0,0,0,0,8,0,56,120,248,510] [1023,2047,4095] ?_;(conv=>whnf);refine And.intro g7 ?_;clear g7;(conv=>whnf);refine And.intro (callD_any (spec_l23Under_c hx8) (by kernel_rfl)) ?_;(conv=>whnf);refine And.intro (by kernel_rfl) ?_;(conv=>whnf);obtain rfl:=Option.some.inj h;exact lfP [.s [(5001,6001),(5002,6002),(6001,5001),(6002,5002)]]
        · (conv=>whnf);obtain ⟨x9,hx9,h⟩:=bd_some h;refine cC 0 (spec_l23Entry_c hx9) ?_;clear hx9;(conv=>whnf);refine seq_in tOk ?_;(conv=>whnf);refine andI h (fun _ h=>?_) (fun _ h=>?_)
          · (conv=>whnf);refine gdI h (fun h=>?_);(conv=>whnf);refine ⟨rows NatEntry.enc (x2.Entries.set x9.toNat ({ (x2.Entries.getD x9.toNat default) with Last:=a0.Now })),store_rows' lenA rfl,?_⟩;(conv=>whnf);obtain ⟨g11,h⟩:=gd_some h;obtain ⟨x12,hx12,h⟩:=bd_some h;refine draw_u tOk [.u 9 0 (.agg [.d (.int .i64 x12.Kind),.d (.int .i64 x12.From),.d (.int .i64 x12.FromPort),.d (.int .i64 x12.To),.d (.int .i64 x12.ToPort)]) []] 10 [] [0,0,0,0,8,0,56,120,248,510] [1023,2047,4095] ?_;(conv=>whnf);refine And.intro g11 ?_;clear g11;(conv=>whnf);refine And.intro (callD_any (spec_l23Under_c hx12) (by kernel_rfl)) ?_;(conv=>whnf);refine And.intro (by kernel_rfl) ?_;(conv=>whnf);obtain rfl:=Option.some.inj h;exact lfP [.s [(5001,6001),(5002,6002),(6001,5001),(6002,5002)]]
          · (conv=>whnf);refine seq_in tOk ?_;(conv=>whnf);refine andI h (fun _ h=>?_) (fun _ h=>?_)
            · (conv=>whnf);obtain rfl:=Option.some.inj h;exact lfP [.s [(5001,6001),(5002,6002),(6001,5001),(6002,5002)]]
            · (conv=>whnf);obtain ⟨x13,hx13,h⟩:=bd_some h;refine cC 0 (spec_l23Free_c hx13) ?_;clear hx13;(conv=>whnf);refine seq_in tOk ?_;(conv=>whnf);refine andI h (fun _ h=>?_) (fun _ h=>?_)
              · (conv=>whnf);obtain rfl:=Option.some.inj h;exact lfP [.s [(5001,6001),(5002,6002),(6001,5001),(6002,5002)]]
              · (conv=>whnf);obtain ⟨x14,hx14,h⟩:=bd_some h;refine cC 2000 (spec_l23Put_c hx14) ?_;clear hx14;(conv=>whnf);obtain ⟨x15,hx15,h⟩:=bd_some h;refine draw_u tOk [.u 4 0 (.agg [.d (.int .i64 x15.Kind),.d (.int .i64 x15.From),.d (.int .i64 x15.FromPort),.d (.int .i64 x15.To),.d (.int .i64 x15.ToPort)]) []] 5 [] [0,0,0,0,14] [31,63,127] ?_;(conv=>whnf);refine And.intro (callD_any (spec_l23Under_c hx15) (by kernel_rfl)) ?_;(conv=>whnf);refine And.intro (by kernel_rfl) ?_;(conv=>whnf);obtain rfl:=Option.some.inj h;exact lfP [.s [(5001,6001),(5002,7001),(6001,5001),(7001,5002)]]
noncomputable def spec_NatTick_m (a0:NatBook):Option (NatBook × Int) :=
 bd (spec_NatBookOk_m a0) fun x1 =>
(if (!x1) = true then
 some ((⟨0,0,0,0,0,[],0,[]⟩:NatBook),1)
else
 bd (spec_l22Copy_m a0) fun x2 =>
(if (a0.Now == 1000000) = true then
 some (x2,2)
else
 bd (lp (σ:=List NatEntry × Int) (β:=(Nat × (List NatEntry))) (fun s3 =>
(if (decide (s3.2<((x2.Entries.length:Nat):Int))) = true then
 gd ((0:Int)≤s3.2∧s3.2<((x2.Entries.length:Nat):Int)) <|
(if (decide ((IntKind.i64.wrap ((IntKind.i64.wrap (a0.Now+1)) - ((x2.Entries.getD s3.2.toNat default).Last)))<12)) = true then
 gd ((0:Int)≤s3.2∧s3.2<((x2.Entries.length:Nat):Int)) <|
 gd (((s3.1.length)+(([(x2.Entries.getD s3.2.toNat default)]:List NatEntry).length)) * (56+1)≤70368744177664) <|
 some (.inl ((s3.1 ++ ([(x2.Entries.getD s3.2.toNat default)]:List NatEntry)),IntKind.i64.wrap (s3.2+1)))
else
 some (.inl (s3.1,IntKind.i64.wrap (s3.2+1))))
else
 some (.inr (s3.1.length,s3.1)))) (([]:List NatEntry),0)) fun x6 =>
 some ({ x2 with Now:=IntKind.i64.wrap (a0.Now+1),Entries:=x6.2 },0)))
theorem spec_NatTick_c {a0:NatBook} {r:NatBook × Int} (h:spec_NatTick_m a0 = some r):PureC Try.prog 18 [.agg [.d (.int .i64 a0.Addr),.d (.int .i64 a0.Len),.d (.int .i64 a0.Own),.d (.int .i64 a0.Low),.d (.int .i64 a0.High),.d (slD NatDoor.enc a0.Doors),.d (.int .i64 a0.Now),.d (slD NatEntry.enc a0.Entries)]] (.tup [.agg [.d (.int .i64 r.1.Addr),.d (.int .i64 r.1.Len),.d (.int .i64 r.1.Own),.d (.int .i64 r.1.Low),.d (.int .i64 r.1.High),.osl 5001 0 r.1.Doors.length,.d (.int .i64 r.1.Now),.osl 5002 0 r.1.Entries.length],.d (.int .i64 r.2)]) [⟨5001,104,4,r.1.Doors.length,rows NatDoor.enc r.1.Doors⟩,⟨5002,65,7,r.1.Entries.length,rows NatEntry.enc r.1.Entries⟩]:=by
  refine pureC_x tOk (fn:=Try.f18) (c:=codeOf Try.f18) rfl rfl ?_;unfold spec_NatTick_m at h;(conv=>whnf);refine seq_in tOk ?_;(conv=>whnf);obtain ⟨x1,hx1,h⟩:=bd_some h;refine cC 0 (spec_NatBookOk_c hx1) ?_;clear hx1;(conv=>whnf);refine andI h (fun _ h=>?_) (fun _ h=>?_)
  · (conv=>whnf);obtain rfl:=Option.some.inj h;exact lfP [.k [1],.p 5001 104 4 (rows NatDoor.enc ([]:List NatDoor)),.p 5002 65 7 (rows NatEntry.enc ([]:List NatEntry))]
  · (conv=>whnf);obtain ⟨x2,hx2,h⟩:=bd_some h;refine cC 1000 (spec_l22Copy_c hx2) ?_;clear hx2;(conv=>whnf);refine seq_in tOk ?_;(conv=>whnf);refine andI h (fun _ h=>?_) (fun _ h=>?_)
    · (conv=>whnf);obtain rfl:=Option.some.inj h;exact lfP [.s [(5001,6001),(5002,6002),(6001,5001),(6002,5002)]]
    · (conv=>whnf);refine seq_in tOk ?_;(conv=>whnf);obtain ⟨x6,hx6,h⟩:=bd_some h;refine loop_m tOk hx6 (fun s3=>⟨0,50,[(2,.ref 2 0 0),(4,.ref 4 0 0),(5,.osl 7001 0 s3.1.length),(6,.d (.int .i64 s3.2))],[],[(7001,.arr 65 7 s3.1.length (rows NatEntry.enc s3.1)),(4,.box 56 [.d (.int .i64 x2.Addr),.d (.int .i64 x2.Len),.d (.int .i64 x2.Own),.d (.int .i64 x2.Low),.d (.int .i64 x2.High),.osl 6001 0 x2.Doors.length,.d (.int .i64 (IntKind.i64.wrap (a0.Now+1))),.osl 6002 0 x2.Entries.length]),(6002,.arr 65 7 x2.Entries.length (rows NatEntry.enc x2.Entries)),(6001,.arr 104 4 x2.Doors.length (rows NatDoor.enc x2.Doors)),(2,.box 56 [.d (.int .i64 0),.d (.int .i64 0),.d (.int .i64 0),.d (.int .i64 0),.d (.int .i64 0),.d (.nil),.d (.int .i64 0),.d (.nil)])],[]⟩) ?_ ?_
      · exact leX [.p 7001 65 7 (rows NatEntry.enc ([]:List NatEntry))]
      · clear hx6;intro s3 y4 g5 hy4;(conv=>whnf);refine seq_in tOk ?_;(conv=>whnf);refine andI g5 (fun _ g5=>?_) (fun _ g5=>?_)
        · (conv=>whnf);refine seq_in tOk ?_;(conv=>whnf);obtain ⟨g7,g5⟩:=gd_some g5;refine draw_u tOk [] 10 [] [0,1,0,4,0,28,60,124,255,511] [] ?_;(conv=>whnf);refine And.intro g7 ?_;clear g7;(conv=>whnf);refine And.intro (by kernel_rfl) ?_;(conv=>whnf);refine andI g5 (fun _ g5=>?_) (fun _ g5=>?_)
          · (conv=>whnf);refine gdI g5 (fun g5=>?_);(conv=>whnf);refine bldS (enc:=NatEntry.enc) ([(x2.Entries.getD s3.2.toNat default)]:List NatEntry) ?_;(conv=>whnf);refine gdI g5 (fun g5=>?_);refine appS (enc:=NatEntry.enc) (xs:=s3.1) (ys:=([(x2.Entries.getD s3.2.toNat default)]:List NatEntry)) ?_;(conv=>whnf);obtain rfl:=Option.some.inj g5;exact ⟨_,rfl,leX []⟩
          · (conv=>whnf);obtain rfl:=Option.some.inj g5;exact ⟨_,rfl,leX []⟩
        · (conv=>whnf);obtain rfl:=Option.some.inj g5;obtain rfl:=hy4 _ rfl;obtain rfl:=Option.some.inj h;exact lfP [.s [(5001,6001),(5002,7001),(6001,5001),(7001,5002)]]
noncomputable def spec_l25Peer_m (a0:l21Rd):Option (Int × l21Rd) :=
 bd (spec_l21Rd_pick_m a0 4) fun x1 =>
 gd ((0:Int)≤x1.1∧x1.1<((([51202,51203,65535,61440]:List Int).length:Nat):Int)) <|
 some ((([51202,51203,65535,61440]:List Int).getD x1.1.toNat default),(⟨a0.b,x1.2.p⟩:l21Rd))
theorem spec_l25Peer_c {a0:l21Rd} {r:Int × l21Rd} (h:spec_l25Peer_m a0 = some r):EffC Try.prog 125 [.ref 9000 0 0] [(9000,.box 155 [.d (slD encByte a0.b),.d (.int .i64 a0.p)])] (.d (.int .i64 r.1)) [(9000,.box 155 [.d (slD encByte a0.b),.d (.int .i64 r.2.p)])]:=by
  refine effC_x tOk (fn:=Try.f125) (c:=codeOf Try.f125) rfl rfl ?_;unfold spec_l25Peer_m at h;(conv=>whnf);refine bldS (enc:=encInt) ([51202,51203,65535,61440]:List Int) ?_;(conv=>whnf);obtain ⟨x1,hx1,h⟩:=bd_some h;refine cE [(9000,9000)] 0 (spec_l21Rd_pick_c hx1) ?_;(conv=>whnf);refine gdI h (fun h=>?_);(conv=>whnf);obtain rfl:=Option.some.inj h;exact lfE []
noncomputable def spec_l25OutFlow_m (a0:l21Rd) (a1:NatBook):Option (NatFlow × l21Rd) :=
 bd (spec_l21Rd_pick_m a0 2) fun x1 =>
 bd (spec_l25Inner_m (⟨a0.b,x1.2.p⟩:l21Rd) a1) fun x2 =>
 bd (spec_l25Port_m (⟨a0.b,x2.2.p⟩:l21Rd)) fun x3 =>
 bd (spec_l25Peer_m (⟨a0.b,x3.2.p⟩:l21Rd)) fun x4 =>
 bd (spec_l21Rd_pick_m (⟨a0.b,x4.2.p⟩:l21Rd) 2) fun x5 =>
 gd ((0:Int)≤x5.1∧x5.1<((([80,443]:List Int).length:Nat):Int)) <|
 bd (α:=Int × Int × Int × Int) (bd (gcallE ((decide (((a1.Doors.length:Nat):Int) > 0)) = true) (spec_l21Rd_pick_m (⟨a0.b,x5.2.p⟩:l21Rd) 5) ((⟨a0.b,x5.2.p⟩:l21Rd))) fun x10 =>
(if ((decide (((a1.Doors.length:Nat):Int) > 0)) && (x10.1 == 0)) = true then
 bd (spec_l21Rd_pick_m (⟨a0.b,x10.2.p⟩:l21Rd) ((a1.Doors.length:Nat):Int)) fun x11 =>
 gd ((0:Int)≤x11.1∧x11.1<((a1.Doors.length:Nat):Int)) <|
 some ((a1.Doors.getD x11.1.toNat default).Kind,(a1.Doors.getD x11.1.toNat default).Inner,(a1.Doors.getD x11.1.toNat default).InnerPort,x11.2.p)
else
 some (IntKind.i64.wrap (1+x1.1),x2.1,x3.1,x10.2.p))) fun x7 =>
 bd (gcallE ((decide (((a1.Entries.length:Nat):Int) > 0)) = true) (spec_l21Rd_pick_m (⟨a0.b,x7.2.2.2⟩:l21Rd) 3) ((⟨a0.b,x7.2.2.2⟩:l21Rd))) fun x13 =>
(if ((decide (((a1.Entries.length:Nat):Int) > 0)) && (x13.1 == 0)) = true then
 bd (spec_l21Rd_pick_m (⟨a0.b,x13.2.p⟩:l21Rd) ((a1.Entries.length:Nat):Int)) fun x14 =>
 gd ((0:Int)≤x14.1∧x14.1<((a1.Entries.length:Nat):Int)) <|
 bd (spec_l22Flow_m (a1.Entries.getD x14.1.toNat default)) fun x16 =>
 some (x16,(⟨a0.b,x14.2.p⟩:l21Rd))
else
 some ((⟨x7.1,x7.2.1,x7.2.2.1,x4.1,(([80,443]:List Int).getD x5.1.toNat default)⟩:NatFlow),(⟨a0.b,x13.2.p⟩:l21Rd)))
theorem spec_l25OutFlow_c {a0:l21Rd} {a1:NatBook} {r:NatFlow × l21Rd} (h:spec_l25OutFlow_m a0 a1 = some r):EffC Try.prog 171 [.ref 9000 0 0,.agg [.d (.int .i64 a1.Addr),.d (.int .i64 a1.Len),.d (.int .i64 a1.Own),.d (.int .i64 a1.Low),.d (.int .i64 a1.High),.d (slD NatDoor.enc a1.Doors),.d (.int .i64 a1.Now),.d (slD NatEntry.enc a1.Entries)]] [(9000,.box 155 [.d (slD encByte a0.b),.d (.int .i64 a0.p)])] (.agg [.d (.int .i64 r.1.Kind),.d (.int .i64 r.1.From),.d (.int .i64 r.1.FromPort),.d (.int .i64 r.1.To),.d (.int .i64 r.1.ToPort)]) [(9000,.box 155 [.d (slD encByte a0.b),.d (.int .i64 r.2.p)])]:=by
  refine effC_x tOk (fn:=Try.f171) (c:=codeOf Try.f171) rfl rfl ?_;unfold spec_l25OutFlow_m at h;(conv=>whnf);obtain ⟨x1,hx1,h⟩:=bd_some h;obtain ⟨x2,hx2,h⟩:=bd_some h;obtain ⟨x3,hx3,h⟩:=bd_some h;obtain ⟨x4,hx4,h⟩:=bd_some h;obtain ⟨x5,hx5,h⟩:=bd_some h;obtain ⟨g6,h⟩:=gd_some h;refine draw_t tOk [.e 1 [(9000,.box 155 [.d (slD encByte a0.b),.d (.int .i64 a0.p)])] (.d (.int .i64 x1.1)) [] [(9000,.box 155 [.d (slD encByte a0.b),.d (.int .i64 x1.2.p)])],.e 5 [(9000,.box 155 [.d (slD encByte a0.b),.d (.int .i64 x1.2.p)])] (.d (.int .i64 x2.1)) [] [(9000,.box 155 [.d (slD encByte a0.b),.d (.int .i64 x2.2.p)])],.e 7 [(9000,.box 155 [.d (slD encByte a0.b),.d (.int .i64 x2.2.p)])] (.d (.int .i64 x3.1)) [] [(9000,.box 155 [.d (slD encByte a0.b),.d (.int .i64 x3.2.p)])],.e 9 [(9000,.box 155 [.d (slD encByte a0.b),.d (.int .i64 x3.2.p)])] (.d (.int .i64 x4.1)) [] [(9000,.box 155 [.d (slD encByte a0.b),.d (.int .i64 x4.2.p)])],.e 12 [(9000,.box 155 [.d (slD encByte a0.b),.d (.int .i64 x4.2.p)])] (.d (.int .i64 x5.1)) [] [(9000,.box 155 [.d (slD encByte a0.b),.d (.int .i64 x5.2.p)])]] 17 [] [0,1,3,0,0,27,0,123,0,507,0,0,3067,8187,16379,32767,0] [131071] [9000] ?_;(conv=>whnf);refine And.intro (eD [(9000,9000)] 0 (spec_l21Rd_pick_c hx1)) ?_;(conv=>whnf);refine And.intro (eD [(9000,9000)] 0 (spec_l25Inner_c hx2)) ?_;(conv=>whnf);refine And.intro (eD [(9000,9000)] 0 (spec_l25Port_c hx3)) ?_;(conv=>whnf);refine And.intro (eD [(9000,9000)] 0 (spec_l25Peer_c hx4)) ?_;(conv=>whnf);refine bldS (enc:=encInt) ([80,443]:List Int) ?_;(conv=>whnf);refine And.intro (eD [(9000,9000)] 0 (spec_l21Rd_pick_c hx5)) ?_;(conv=>whnf);refine And.intro g6 ?_;clear g6;(conv=>whnf);refine And.intro (by kernel_rfl) ?_;(conv=>whnf);obtain ⟨x7,hx7,h⟩:=bd_some h;refine seq_join tOk (fun s8=>⟨0,70,[(0,.ref 9000 0 0),(3,.ref 3 0 0),(4,.ref 4 0 0),(5,.ref 5 0 0)],[],[(5,.box 67 [.d (.int .i64 s8.1),.d (.int .i64 s8.2.1),.d (.int .i64 s8.2.2.1),.d (.int .i64 x4.1),.d (.int .i64 (([80,443]:List Int).getD x5.1.toNat default))]),(4,.box 67 [.d (.int .i64 0),.d (.int .i64 0),.d (.int .i64 0),.d (.int .i64 0),.d (.int .i64 0)]),(3,.box 56 [.d (.int .i64 a1.Addr),.d (.int .i64 a1.Len),.d (.int .i64 a1.Own),.d (.int .i64 a1.Low),.d (.int .i64 a1.High),.d (slD NatDoor.enc a1.Doors),.d (.int .i64 a1.Now),.d (slD NatEntry.enc a1.Entries)]),(9000,.box 155 [.d (slD encByte a0.b),.d (.int .i64 s8.2.2.2)])],[⟨[(0,.ref 9000 0 0)],[]⟩]⟩) (fun s8=>x7 = s8) ?_ ?_
  · (conv=>whnf);obtain ⟨x10,hx10,hx7⟩:=bd_some hx7;refine callG_e [(9000,9000)] 0 rfl rfl rfl (by intro c0; exact spec_l21Rd_pick_c (gcallE_some hx10 c0)) argA inA rfl rfl (by intro c0; have e:=gcallE_none hx10 (by first | (rw [c0]; decide) | exact fun e=>Bool.noConfusion (e.symm.trans c0)); subst e; exact inA) ?_;(conv=>whnf);refine andI hx7 (fun _ hx7=>?_) (fun _ hx7=>?_)
    · (conv=>whnf);obtain ⟨x11,hx11,hx7⟩:=bd_some hx7;obtain ⟨g12,hx7⟩:=gd_some hx7;refine draw_t tOk [.e 6 [(9000,.box 155 [.d (slD encByte a0.b),.d (.int .i64 x10.2.p)])] (.d (.int .i64 x11.1)) [] [(9000,.box 155 [.d (slD encByte a0.b),.d (.int .i64 x11.2.p)])]] 10 [] [0,1,0,0,8,24,60,127,255,0] [1023] [9000] ?_;(conv=>whnf);refine And.intro (eD [(9000,9000)] 0 (spec_l21Rd_pick_c hx11)) ?_;(conv=>whnf);refine And.intro g12 ?_;clear g12;(conv=>whnf);refine And.intro (by kernel_rfl) ?_;(conv=>whnf);obtain rfl:=Option.some.inj hx7;exact ⟨_,rfl,leX []⟩
    · (conv=>whnf);obtain rfl:=Option.some.inj hx7;exact ⟨_,rfl,leX []⟩
  · rintro _ rfl;(conv=>whnf);refine seq_in tOk ?_;(conv=>whnf);obtain ⟨x13,hx13,h⟩:=bd_some h;refine callG_e [(9000,9000)] 0 rfl rfl rfl (by intro c0; exact spec_l21Rd_pick_c (gcallE_some hx13 c0)) argA inA rfl rfl (by intro c0; have e:=gcallE_none hx13 (by first | (rw [c0]; decide) | exact fun e=>Bool.noConfusion (e.symm.trans c0)); subst e; exact inA) ?_;(conv=>whnf);refine andI h (fun _ h=>?_) (fun _ h=>?_)
    · (conv=>whnf);obtain ⟨x14,hx14,h⟩:=bd_some h;obtain ⟨g15,h⟩:=gd_some h;obtain ⟨x16,hx16,h⟩:=bd_some h;refine draw_t tOk [.e 6 [(9000,.box 155 [.d (slD encByte a0.b),.d (.int .i64 x13.2.p)])] (.d (.int .i64 x14.1)) [] [(9000,.box 155 [.d (slD encByte a0.b),.d (.int .i64 x14.2.p)])],.u 9 0 (.agg [.d (.int .i64 x16.Kind),.d (.int .i64 x16.From),.d (.int .i64 x16.FromPort),.d (.int .i64 x16.To),.d (.int .i64 x16.ToPort)]) []] 10 [] [0,1,0,0,8,24,60,127,255,511] [1023] [9000] ?_;(conv=>whnf);refine And.intro (eD [(9000,9000)] 0 (spec_l21Rd_pick_c hx14)) ?_;(conv=>whnf);refine And.intro g15 ?_;clear g15;(conv=>whnf);refine And.intro (callD_any (spec_l22Flow_c hx16) (by kernel_rfl)) ?_;(conv=>whnf);refine And.intro (by kernel_rfl) ?_;(conv=>whnf);obtain rfl:=Option.some.inj h;exact lfE []
    · (conv=>whnf);obtain rfl:=Option.some.inj h;exact lfE []
noncomputable def spec_l25Play_m (a0:l21Rd) (a1:NatBook) (a2:Int):Option (NatBook × l21Rd) :=
 bd (spec_l21Rd_pick_m a0 4) fun x1 =>
 gd ((0:Int)≤x1.1∧x1.1<((([0,0,3,999994]:List Int).length:Nat):Int)) <|
 bd (lp (σ:=Int × Int × Int × Int × Int × List NatDoor × Int × List NatEntry × Int × Int) (β:=(Int × Int × Int × Int × Int × (List NatDoor) × Int × (List NatEntry) × Int)) (fun s3 =>
(if (decide (s3.2.2.2.2.2.2.2.2.2 > 0)) = true then
 bd (spec_l21Rd_pick_m (⟨a0.b,s3.2.2.2.2.2.2.2.2.1⟩:l21Rd) 4) fun x7 =>
(if (x7.1 == 0) = true then
 bd (spec_l21Rd_pick_m (⟨a0.b,x7.2.p⟩:l21Rd) 5) fun x8 =>
 bd (spec_l21Rd_pick_m (⟨a0.b,x8.2.p⟩:l21Rd) 2) fun x9 =>
 bd (lp (σ:=Int × Int × Int × Int × Int × List NatDoor × Int × List NatEntry × Int) (β:=(Int × Int × Int × Int × Int × (List NatDoor) × Int × (List NatEntry))) (fun s10 =>
(if (decide (s10.2.2.2.2.2.2.2.2 > 0)) = true then
 bd (spec_NatTick_m (⟨s10.1,s10.2.1,s10.2.2.1,s10.2.2.2.1,s10.2.2.2.2.1,s10.2.2.2.2.2.1,s10.2.2.2.2.2.2.1,s10.2.2.2.2.2.2.2.1⟩:NatBook)) fun x14 =>
 some (.inl (x14.1.Addr,x14.1.Len,x14.1.Own,x14.1.Low,x14.1.High,x14.1.Doors,x14.1.Now,x14.1.Entries,IntKind.i64.wrap (s10.2.2.2.2.2.2.2.2 - 1)))
else
 some (.inr (s10.1,s10.2.1,s10.2.2.1,s10.2.2.2.1,s10.2.2.2.2.1,s10.2.2.2.2.2.1,s10.2.2.2.2.2.2.1,s10.2.2.2.2.2.2.2.1)))) (s3.1,s3.2.1,s3.2.2.1,s3.2.2.2.1,s3.2.2.2.2.1,s3.2.2.2.2.2.1,s3.2.2.2.2.2.2.1,s3.2.2.2.2.2.2.2.1,IntKind.i64.wrap (1+(IntKind.i64.wrap (x8.1 * x9.1))))) fun x13 =>
 some (.inl (x13.1,x13.2.1,x13.2.2.1,x13.2.2.2.1,x13.2.2.2.2.1,x13.2.2.2.2.2.1,x13.2.2.2.2.2.2.1,x13.2.2.2.2.2.2.2,x9.2.p,IntKind.i64.wrap (s3.2.2.2.2.2.2.2.2.2 - 1)))
else
 bd (spec_l25OutFlow_m (⟨a0.b,x7.2.p⟩:l21Rd) (⟨s3.1,s3.2.1,s3.2.2.1,s3.2.2.2.1,s3.2.2.2.2.1,s3.2.2.2.2.2.1,s3.2.2.2.2.2.2.1,s3.2.2.2.2.2.2.2.1⟩:NatBook)) fun x16 =>
 bd (spec_NatOut_m (⟨s3.1,s3.2.1,s3.2.2.1,s3.2.2.2.1,s3.2.2.2.2.1,s3.2.2.2.2.2.1,s3.2.2.2.2.2.2.1,s3.2.2.2.2.2.2.2.1⟩:NatBook) x16.1) fun x17 =>
 some (.inl (x17.1.Addr,x17.1.Len,x17.1.Own,x17.1.Low,x17.1.High,x17.1.Doors,x17.1.Now,x17.1.Entries,x16.2.p,IntKind.i64.wrap (s3.2.2.2.2.2.2.2.2.2 - 1))))
else
 some (.inr (s3.1,s3.2.1,s3.2.2.1,s3.2.2.2.1,s3.2.2.2.2.1,s3.2.2.2.2.2.1,s3.2.2.2.2.2.2.1,s3.2.2.2.2.2.2.2.1,s3.2.2.2.2.2.2.2.2.1)))) (a1.Addr,a1.Len,a1.Own,a1.Low,a1.High,a1.Doors,(([0,0,3,999994]:List Int).getD x1.1.toNat default),a1.Entries,x1.2.p,a2)) fun x6 =>
 some ((⟨x6.1,x6.2.1,x6.2.2.1,x6.2.2.2.1,x6.2.2.2.2.1,x6.2.2.2.2.2.1,x6.2.2.2.2.2.2.1,x6.2.2.2.2.2.2.2.1⟩:NatBook),(⟨a0.b,x6.2.2.2.2.2.2.2.2⟩:l21Rd))
theorem spec_l25Play_c {a0:l21Rd} {a1:NatBook} {a2:Int} {r:NatBook × l21Rd} (h:spec_l25Play_m a0 a1 a2 = some r):EffC Try.prog 155 [.ref 9000 0 0,.agg [.d (.int .i64 a1.Addr),.d (.int .i64 a1.Len),.d (.int .i64 a1.Own),.d (.int .i64 a1.Low),.d (.int .i64 a1.High),.d (slD NatDoor.enc a1.Doors),.d (.int .i64 a1.Now),.d (slD NatEntry.enc a1.Entries)],.d (.int .i64 a2)] [(9000,.box 155 [.d (slD encByte a0.b),.d (.int .i64 a0.p)])] (.agg [.d (.int .i64 r.1.Addr),.d (.int .i64 r.1.Len),.d (.int .i64 r.1.Own),.d (.int .i64 r.1.Low),.d (.int .i64 r.1.High),.d (slD NatDoor.enc r.1.Doors),.d (.int .i64 r.1.Now),.d (slD NatEntry.enc r.1.Entries)]) [(9000,.box 155 [.d (slD encByte a0.b),.d (.int .i64 r.2.p)])]:=by
  refine effC_x tOk (fn:=Try.f155) (c:=codeOf Try.f155) rfl rfl ?_;unfold spec_l25Play_m at h;(conv=>whnf);refine bldS (enc:=encInt) ([0,0,3,999994]:List Int) ?_;(conv=>whnf);obtain ⟨x1,hx1,h⟩:=bd_some h;refine cE [(9000,9000)] 0 (spec_l21Rd_pick_c hx1) ?_;(conv=>whnf);refine gdI h (fun h=>?_);(conv=>whnf);refine seq_in tOk ?_;(conv=>whnf);obtain ⟨x6,hx6,h⟩:=bd_some h;refine loop_m tOk hx6 (fun s3=>⟨0,47,[(0,.ref 9000 0 0),(2,.d (.int .i64 s3.2.2.2.2.2.2.2.2.2)),(4,.ref 4 0 0),(6,.ref 6 0 0)],[],[(6,.box 56 [.d (.int .i64 0),.d (.int .i64 0),.d (.int .i64 0),.d (.int .i64 0),.d (.int .i64 0),.d (.nil),.d (.int .i64 0),.d (.nil)]),(4,.box 56 [.d (.int .i64 s3.1),.d (.int .i64 s3.2.1),.d (.int .i64 s3.2.2.1),.d (.int .i64 s3.2.2.2.1),.d (.int .i64 s3.2.2.2.2.1),.d (slD NatDoor.enc s3.2.2.2.2.2.1),.d (.int .i64 s3.2.2.2.2.2.2.1),.d (slD NatEntry.enc s3.2.2.2.2.2.2.2.1)]),(9000,.box 155 [.d (slD encByte a0.b),.d (.int .i64 s3.2.2.2.2.2.2.2.2.1)])],[⟨[(0,.ref 9000 0 0)],[]⟩]⟩) ?_ ?_
  · exact leX []
  · clear hx6;intro s3 y4 g5 hy4;(conv=>whnf);refine seq_in tOk ?_;(conv=>whnf);refine andI g5 (fun _ g5=>?_) (fun _ g5=>?_)
    · (conv=>whnf);refine seq_in tOk ?_;(conv=>whnf);obtain ⟨x7,hx7,g5⟩:=bd_some g5;refine cE [(9000,9000)] 0 (spec_l21Rd_pick_c hx7) ?_;(conv=>whnf);refine andI g5 (fun _ g5=>?_) (fun _ g5=>?_)
      · (conv=>whnf);obtain ⟨x8,hx8,g5⟩:=bd_some g5;refine cE [(9000,9000)] 0 (spec_l21Rd_pick_c hx8) ?_;(conv=>whnf);obtain ⟨x9,hx9,g5⟩:=bd_some g5;refine cE [(9000,9000)] 0 (spec_l21Rd_pick_c hx9) ?_;(conv=>whnf);obtain ⟨x13,hx13,g5⟩:=bd_some g5;refine loop_m tOk hx13 (fun s10=>⟨0,47,[(0,.ref 9000 0 0),(2,.d (.int .i64 s3.2.2.2.2.2.2.2.2.2)),(4,.ref 4 0 0),(6,.ref 6 0 0),(7,.d (.int .i64 s10.2.2.2.2.2.2.2.2))],[],[(6,.box 56 [.d (.int .i64 0),.d (.int .i64 0),.d (.int .i64 0),.d (.int .i64 0),.d (.int .i64 0),.d (.nil),.d (.int .i64 0),.d (.nil)]),(4,.box 56 [.d (.int .i64 s10.1),.d (.int .i64 s10.2.1),.d (.int .i64 s10.2.2.1),.d (.int .i64 s10.2.2.2.1),.d (.int .i64 s10.2.2.2.2.1),.d (slD NatDoor.enc s10.2.2.2.2.2.1),.d (.int .i64 s10.2.2.2.2.2.2.1),.d (slD NatEntry.enc s10.2.2.2.2.2.2.2.1)]),(9000,.box 155 [.d (slD encByte a0.b),.d (.int .i64 x9.2.p)])],[⟨[(0,.ref 9000 0 0)],[]⟩]⟩) ?_ ?_
        · exact leX []
        · clear hx13;intro s10 y11 g12 hy11;(conv=>whnf);refine seq_in tOk ?_;(conv=>whnf);refine andI g12 (fun _ g12=>?_) (fun _ g12=>?_)
          · (conv=>whnf);refine seq_in tOk ?_;(conv=>whnf);obtain ⟨x14,hx14,g12⟩:=bd_some g12;refine cC 1000 (spec_NatTick_c hx14) ?_;clear hx14;(conv=>whnf);obtain rfl:=Option.some.inj g12;exact ⟨_,rfl,leX [.f [6001,6002]]⟩
          · (conv=>whnf);obtain rfl:=Option.some.inj g12;obtain rfl:=hy11 _ rfl;obtain rfl:=Option.some.inj g5;exact ⟨_,rfl,leX []⟩
      · (conv=>whnf);obtain ⟨x16,hx16,g5⟩:=bd_some g5;obtain ⟨x17,hx17,g5⟩:=bd_some g5;refine draw_t tOk [.e 3 [(9000,.box 155 [.d (slD encByte a0.b),.d (.int .i64 x7.2.p)])] (.agg [.d (.int .i64 x16.1.Kind),.d (.int .i64 x16.1.From),.d (.int .i64 x16.1.FromPort),.d (.int .i64 x16.1.To),.d (.int .i64 x16.1.ToPort)]) [] [(9000,.box 155 [.d (slD encByte a0.b),.d (.int .i64 x16.2.p)])],.u 4 1000 (.tup [.agg [.d (.int .i64 x17.1.Addr),.d (.int .i64 x17.1.Len),.d (.int .i64 x17.1.Own),.d (.int .i64 x17.1.Low),.d (.int .i64 x17.1.High),.osl 5001 0 x17.1.Doors.length,.d (.int .i64 x17.1.Now),.osl 5002 0 x17.1.Entries.length],.agg [.d (.int .i64 x17.2.1.Kind),.d (.int .i64 x17.2.1.From),.d (.int .i64 x17.2.1.FromPort),.d (.int .i64 x17.2.1.To),.d (.int .i64 x17.2.1.ToPort)],.d (.int .i64 x17.2.2)]) [⟨5001,104,4,x17.1.Doors.length,rows NatDoor.enc x17.1.Doors⟩,⟨5002,65,7,x17.1.Entries.length,rows NatEntry.enc x17.1.Entries⟩]] 9 [7,8] [0,0,0,6,15,31,63,63,63] [127] [9000] ?_;(conv=>whnf);refine And.intro (eD [(9000,9000)] 0 (spec_l25OutFlow_c hx16)) ?_;(conv=>whnf);refine And.intro (callD_any (spec_NatOut_c hx17) (by kernel_rfl)) ?_;(conv=>whnf);refine And.intro (by kernel_rfl) ?_;(conv=>whnf);obtain rfl:=Option.some.inj g5;exact ⟨_,rfl,leX [.f [6001,6002]]⟩
    · (conv=>whnf);obtain rfl:=Option.some.inj g5;obtain rfl:=hy4 _ rfl;obtain rfl:=Option.some.inj h;exact lfE []
noncomputable def spec_l25Book_m (a0:l21Rd):Option (NatBook × l21Rd) :=
 bd (spec_l25Frame_m a0) fun x1 =>
 bd (spec_l21Rd_pick_m (⟨a0.b,x1.2.p⟩:l21Rd) 12) fun x2 =>
(if (x2.1 == 0) = true then
 bd (spec_l22Copy_m x1.1) fun x3 =>
 bd (lp (σ:=List NatDoor × List NatEntry × Int × Int × Int × Int × Int × Int × Int × Int) (β:=((List NatEntry) × Nat × (List NatDoor) × Nat × Int × Int × Int × Int × Int × Int × Int)) (fun s4 =>
 bd (spec_l21Rd_pick_m (⟨a0.b,s4.2.2.2.2.2.2.2.2.1⟩:l21Rd) 2) fun x8 =>
(if (decide (s4.2.2.2.2.2.2.2.2.2<(IntKind.i64.wrap (16 - x8.1)))) = true then
 bd (spec_NatOut_m (⟨s4.2.2.1,s4.2.2.2.1,s4.2.2.2.2.1,s4.2.2.2.2.2.1,s4.2.2.2.2.2.2.1,s4.1,s4.2.2.2.2.2.2.2.1,s4.2.1⟩:NatBook) (⟨1,s4.2.2.1,7,IntKind.i64.wrap (53248+s4.2.2.2.2.2.2.2.2.2),80⟩:NatFlow)) fun x9 =>
 some (.inl (x9.1.Doors,x9.1.Entries,x9.1.Addr,x9.1.Len,x9.1.Own,x9.1.Low,x9.1.High,x9.1.Now,x8.2.p,IntKind.i64.wrap (s4.2.2.2.2.2.2.2.2.2+1)))
else
 some (.inr (s4.2.1,s4.2.1.length,s4.1,s4.1.length,s4.2.2.1,s4.2.2.2.1,s4.2.2.2.2.1,s4.2.2.2.2.2.1,s4.2.2.2.2.2.2.1,s4.2.2.2.2.2.2.2.1,x8.2.p)))) (x3.Doors,x3.Entries,x3.Addr,x3.Len,x3.Own,x3.Low,x3.High,x3.Now,x2.2.p,0)) fun x7 =>
 some ((⟨x7.2.2.2.2.1,x7.2.2.2.2.2.1,x7.2.2.2.2.2.2.1,x7.2.2.2.2.2.2.2.1,x7.2.2.2.2.2.2.2.2.1,x7.2.2.1,x7.2.2.2.2.2.2.2.2.2.1,x7.1⟩:NatBook),(⟨a0.b,x7.2.2.2.2.2.2.2.2.2.2⟩:l21Rd))
else
 bd (spec_l21Rd_pick_m (⟨a0.b,x2.2.p⟩:l21Rd) 14) fun x11 =>
 bd (spec_l25Play_m (⟨a0.b,x11.2.p⟩:l21Rd) x1.1 x11.1) fun x12 =>
 some (x12.1,(⟨a0.b,x12.2.p⟩:l21Rd)))
theorem spec_l25Book_c {a0:l21Rd} {r:NatBook × l21Rd} (h:spec_l25Book_m a0 = some r):EffC Try.prog 115 [.ref 9000 0 0] [(9000,.box 155 [.d (slD encByte a0.b),.d (.int .i64 a0.p)])] (.agg [.d (.int .i64 r.1.Addr),.d (.int .i64 r.1.Len),.d (.int .i64 r.1.Own),.d (.int .i64 r.1.Low),.d (.int .i64 r.1.High),.d (slD NatDoor.enc r.1.Doors),.d (.int .i64 r.1.Now),.d (slD NatEntry.enc r.1.Entries)]) [(9000,.box 155 [.d (slD encByte a0.b),.d (.int .i64 r.2.p)])]:=by
  refine effC_x tOk (fn:=Try.f115) (c:=codeOf Try.f115) rfl rfl ?_;unfold spec_l25Book_m at h;(conv=>whnf);obtain ⟨x1,hx1,h⟩:=bd_some h;refine cE [(9000,9000)] 1000 (spec_l25Frame_c hx1) ?_;(conv=>whnf);refine seq_in tOk ?_;(conv=>whnf);obtain ⟨x2,hx2,h⟩:=bd_some h;refine cE [(9000,9000)] 0 (spec_l21Rd_pick_c hx2) ?_;(conv=>whnf);refine andI h (fun _ h=>?_) (fun _ h=>?_)
  · (conv=>whnf);obtain ⟨x3,hx3,h⟩:=bd_some h;refine cC 2000 (spec_l22Copy_c hx3) ?_;clear hx3;(conv=>whnf);refine seq_in tOk ?_;(conv=>whnf);obtain ⟨x7,hx7,h⟩:=bd_some h;refine loop_m tOk hx7 (fun s4=>⟨0,36,[(0,.ref 9000 0 0),(2,.ref 2 0 0),(3,.ref 3 0 0),(4,.d (.int .i64 s4.2.2.2.2.2.2.2.2.2))],[],[(7002,.arr 65 7 s4.2.1.length (rows NatEntry.enc s4.2.1)),(7001,.arr 104 4 s4.1.length (rows NatDoor.enc s4.1)),(3,.box 56 [.d (.int .i64 s4.2.2.1),.d (.int .i64 s4.2.2.2.1),.d (.int .i64 s4.2.2.2.2.1),.d (.int .i64 s4.2.2.2.2.2.1),.d (.int .i64 s4.2.2.2.2.2.2.1),.osl 7001 0 s4.1.length,.d (.int .i64 s4.2.2.2.2.2.2.2.1),.osl 7002 0 s4.2.1.length]),(2,.box 56 [.d (.int .i64 0),.d (.int .i64 0),.d (.int .i64 0),.d (.int .i64 0),.d (.int .i64 0),.d (.nil),.d (.int .i64 0),.d (.nil)]),(9000,.box 155 [.d (slD encByte a0.b),.d (.int .i64 s4.2.2.2.2.2.2.2.2.1)])],[⟨[(0,.ref 9000 0 0)],[]⟩]⟩) ?_ ?_
    · exact leX []
    · clear hx7;intro s4 y5 g6 hy5;(conv=>whnf);refine seq_in tOk ?_;(conv=>whnf);obtain ⟨x8,hx8,g6⟩:=bd_some g6;refine cE [(9000,9000)] 0 (spec_l21Rd_pick_c hx8) ?_;(conv=>whnf);refine andI g6 (fun _ g6=>?_) (fun _ g6=>?_)
      · (conv=>whnf);refine seq_in tOk ?_;(conv=>whnf);obtain ⟨x9,hx9,g6⟩:=bd_some g6;refine cC 1000 (spec_NatOut_c hx9) ?_;clear hx9;(conv=>whnf);obtain rfl:=Option.some.inj g6;exact ⟨_,rfl,leX [.s [(6001,7001),(6002,7002),(7001,6001),(7002,6002)]]⟩
      · (conv=>whnf);obtain rfl:=Option.some.inj g6;obtain rfl:=hy5 _ rfl;obtain rfl:=Option.some.inj h;exact lfE [.f [7001,7002]]
  · (conv=>whnf);obtain ⟨x11,hx11,h⟩:=bd_some h;obtain ⟨x12,hx12,h⟩:=bd_some h;refine drawFz [6001] ?_;(conv=>whnf);refine draw_t tOk [.e 3 [(9000,.box 155 [.d (slD encByte a0.b),.d (.int .i64 x2.2.p)])] (.d (.int .i64 x11.1)) [] [(9000,.box 155 [.d (slD encByte a0.b),.d (.int .i64 x11.2.p)])],.e 4 [(9000,.box 155 [.d (slD encByte a0.b),.d (.int .i64 x11.2.p)])] (.agg [.d (.int .i64 x12.1.Addr),.d (.int .i64 x12.1.Len),.d (.int .i64 x12.1.Own),.d (.int .i64 x12.1.Low),.d (.int .i64 x12.1.High),.d (slD NatDoor.enc x12.1.Doors),.d (.int .i64 x12.1.Now),.d (slD NatEntry.enc x12.1.Entries)]) [] [(9000,.box 155 [.d (slD encByte a0.b),.d (.int .i64 x12.2.p)])]] 5 [] [0,0,0,4,15] [31] [9000] ?_;(conv=>whnf);refine And.intro (eD [(9000,9000)] 0 (spec_l21Rd_pick_c hx11)) ?_;(conv=>whnf);refine And.intro (eD [(9000,9000)] 0 (spec_l25Play_c hx12)) ?_;(conv=>whnf);refine And.intro (by kernel_rfl) ?_;(conv=>whnf);obtain rfl:=Option.some.inj h;exact lfE []
end Go.Proofs.Ytejhbiefhpgjeaa
