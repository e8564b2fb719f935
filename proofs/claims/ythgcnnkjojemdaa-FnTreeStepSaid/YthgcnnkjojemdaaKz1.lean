/-
  What some of the program's functions compute: their models, and that the functions compute these; no condition.
-/
import Derived.Test.YthgcnnkjojemdaaTyz
import Derived.Test.YthgcnnkjojemdaaTbz
import Derived.Test.YthgcnnkjojemdaaAbz7
set_option linter.all false
namespace Go.Proofs.Ythgcnnkjojemdaa
open Go Go.Ab
set_option maxRecDepth 100000
set_option maxHeartbeats 4000000
noncomputable def spec_l81Open_m (a0:(List Int)):Option (l81Rd) :=
(if (decide (((a0.length:Nat):Int) > 2000)) = true then
 gd ((0:Int)≤(0:Int)∧(0:Int)≤(2000:Int)∧(2000:Int)≤((a0.length:Nat):Int)) <|
 some (⟨a0.take ((2000:Int).toNat),0⟩:l81Rd)
else
 some (⟨a0,0⟩:l81Rd))
theorem spec_l81Open_c {a0:(List Int)} {r:l81Rd} (h:spec_l81Open_m a0 = some r):EffC Try.prog 33 [.d (slD encByte a0)] [] (.ref 5001 0 0) [(5001,.box 97 [.d (slD encByte r.b),.d (.int .i64 r.p)])]:=by
  refine effC_x tOk (fn:=Try.f33) (c:=codeOf Try.f33) rfl rfl ?_;unfold spec_l81Open_m at h;(conv=>whnf);refine seq_in tOk ?_;(conv=>whnf);refine andI h (fun _ h=>?_) (fun _ h=>?_)
  · (conv=>whnf);obtain ⟨g1,h⟩:=gd_some h;refine And.intro ⟨g1,.inr rfl⟩ ?_;(conv=>whnf);obtain rfl:=Option.some.inj h;exact lfE [.s [(10,5001),(5001,10)]]
  · (conv=>whnf);obtain rfl:=Option.some.inj h;exact lfE [.s [(10,5001),(5001,10)]]
noncomputable def spec_l81Rd_pick_m (a0:l81Rd) (a1:Int):Option (Int × l81Rd) :=
(if ((decide (a1<1)) || (((a0.b.length:Nat):Int) == 0)) = true then
 some (0,(⟨a0.b,IntKind.i64.wrap (a0.p+1)⟩:l81Rd))
else
(if (decide ((IntKind.i64.wrap ((IntKind.i64.wrap (a0.p+1)) - 1))<((a0.b.length:Nat):Int))) = true then
 gd ((0:Int)≤IntKind.i64.wrap ((IntKind.i64.wrap (a0.p+1)) - 1)∧IntKind.i64.wrap ((IntKind.i64.wrap (a0.p+1)) - 1)<((a0.b.length:Nat):Int)) <|
 gd ((a1:Int) ≠ 0) <|
 some (((IntKind.i64.wrap (a0.b.getD ((IntKind.i64.wrap ((IntKind.i64.wrap (a0.p+1)) - 1)).toNat) default):Int).tmod a1),(⟨a0.b,IntKind.i64.wrap (a0.p+1)⟩:l81Rd))
else
 gd ((((a0.b.length:Nat):Int):Int) ≠ 0) <|
 gd ((0:Int)≤((IntKind.i64.wrap ((IntKind.i64.wrap (a0.p+1)) - 1):Int).tmod ((a0.b.length:Nat):Int))∧((IntKind.i64.wrap ((IntKind.i64.wrap (a0.p+1)) - 1):Int).tmod ((a0.b.length:Nat):Int))<((a0.b.length:Nat):Int)) <|
 gd ((((a0.b.length:Nat):Int):Int) ≠ 0) <|
 gd ((0:Int)≤((IntKind.i64.wrap ((IntKind.i64.wrap ((IntKind.i64.wrap ((IntKind.i64.wrap (a0.p+1)) - 1)) * 7))+3):Int).tmod ((a0.b.length:Nat):Int))∧((IntKind.i64.wrap ((IntKind.i64.wrap ((IntKind.i64.wrap ((IntKind.i64.wrap (a0.p+1)) - 1)) * 7))+3):Int).tmod ((a0.b.length:Nat):Int))<((a0.b.length:Nat):Int)) <|
 gd ((((a0.b.length:Nat):Int):Int) ≠ 0) <|
 gd ((64:Int) ≠ 0) <|
 gd ((a1:Int) ≠ 0) <|
 some ((((bits .xor .i64 (IntKind.i64.wrap ((IntKind.i64.wrap ((IntKind.i64.wrap ((IntKind.i64.wrap ((IntKind.i64.wrap (a0.b.getD (((IntKind.i64.wrap ((IntKind.i64.wrap (a0.p+1)) - 1):Int).tmod ((a0.b.length:Nat):Int)).toNat) default)) * 131))+(IntKind.i64.wrap ((IntKind.i64.wrap (a0.b.getD (((IntKind.i64.wrap ((IntKind.i64.wrap ((IntKind.i64.wrap ((IntKind.i64.wrap (a0.p+1)) - 1)) * 7))+3):Int).tmod ((a0.b.length:Nat):Int)).toNat) default)) * 1117))))+(IntKind.i64.wrap ((IntKind.i64.wrap ((IntKind.i64.wrap (a0.p+1)) - 1)) * 29))))+(IntKind.i64.wrap ((IntKind.i64.wrap ((IntKind.i64.wrap ((IntKind.i64.wrap (a0.p+1)) - 1):Int).tdiv ((a0.b.length:Nat):Int))) * 53)))) (IntKind.i64.wrap ((IntKind.i64.wrap ((IntKind.i64.wrap ((IntKind.i64.wrap ((IntKind.i64.wrap ((IntKind.i64.wrap (a0.b.getD (((IntKind.i64.wrap ((IntKind.i64.wrap (a0.p+1)) - 1):Int).tmod ((a0.b.length:Nat):Int)).toNat) default)) * 131))+(IntKind.i64.wrap ((IntKind.i64.wrap (a0.b.getD (((IntKind.i64.wrap ((IntKind.i64.wrap ((IntKind.i64.wrap ((IntKind.i64.wrap (a0.p+1)) - 1)) * 7))+3):Int).tmod ((a0.b.length:Nat):Int)).toNat) default)) * 1117))))+(IntKind.i64.wrap ((IntKind.i64.wrap ((IntKind.i64.wrap (a0.p+1)) - 1)) * 29))))+(IntKind.i64.wrap ((IntKind.i64.wrap ((IntKind.i64.wrap ((IntKind.i64.wrap (a0.p+1)) - 1):Int).tdiv ((a0.b.length:Nat):Int))) * 53))):Int).tdiv 64))):Int).tmod a1),(⟨a0.b,IntKind.i64.wrap (a0.p+1)⟩:l81Rd))))
theorem spec_l81Rd_pick_c {a0:l81Rd} {a1:Int} {r:Int × l81Rd} (h:spec_l81Rd_pick_m a0 a1 = some r):EffC Try.prog 43 [.ref 9000 0 0,.d (.int .i64 a1)] [(9000,.box 97 [.d (slD encByte a0.b),.d (.int .i64 a0.p)])] (.d (.int .i64 r.1)) [(9000,.box 97 [.d (slD encByte a0.b),.d (.int .i64 r.2.p)])]:=by
  refine effC_x tOk (fn:=Try.f43) (c:=codeOf Try.f43) rfl rfl ?_;unfold spec_l81Rd_pick_m at h;(conv=>whnf);refine seq_in tOk ?_;(conv=>whnf);refine andI h (fun _ h=>?_) (fun _ h=>?_)
  · (conv=>whnf);obtain rfl:=Option.some.inj h;exact lfE []
  · (conv=>whnf);refine seq_in tOk ?_;(conv=>whnf);refine andI h (fun _ h=>?_) (fun _ h=>?_)
    · (conv=>whnf);refine gdI h (fun h=>?_);(conv=>whnf);refine gdI h (fun h=>?_);(conv=>whnf);obtain rfl:=Option.some.inj h;exact lfE []
    · (conv=>whnf);obtain ⟨g3,h⟩:=gd_some h;obtain ⟨g4,h⟩:=gd_some h;obtain ⟨g5,h⟩:=gd_some h;obtain ⟨g6,h⟩:=gd_some h;obtain ⟨g7,h⟩:=gd_some h;refine draw_u tOk [] 46 [] [0,1,3,7,0,0,32,96,224,480,1008,2047,4095,8191,16383,0,32768,98304,229376,0,524288,1572864,0,4194304,12582912,29360128,62914560,133693440,268402688,536838144,1073709056,2147450880,4294967295,0,8589934592,34359738367,0,0,137438953472,412316860416,962072674304,2061584302080,4329327034368,8727373545472,17592186044415,35184372088831] [] ?_;(conv=>whnf);refine And.intro g3 ?_;clear g3;(conv=>whnf);refine And.intro g4 ?_;clear g4;(conv=>whnf);refine And.intro g5 ?_;clear g5;(conv=>whnf);refine And.intro g6 ?_;clear g6;(conv=>whnf);refine And.intro g7 ?_;clear g7;(conv=>whnf);refine And.intro (by kernel_rfl) ?_;(conv=>whnf);refine gdI h (fun h=>?_);(conv=>whnf);refine gdI h (fun h=>?_);(conv=>whnf);obtain rfl:=Option.some.inj h;exact lfE []
noncomputable def spec_l82Has_m (a0:(List Int)) (a1:Int):Option (Bool) :=
 bd (lp (σ:=Int) (β:=(Unit ⊕ Unit)) (fun s1 =>
(if (decide (s1<((a0.length:Nat):Int))) = true then
 gd ((0:Int)≤s1∧s1<((a0.length:Nat):Int)) <|
(if ((a0.getD s1.toNat default) == a1) = true then
 some (.inr (.inl ()))
else
 some (.inl (IntKind.i64.wrap (s1+1))))
else
 some (.inr (.inr ())))) 0) fun x4 =>
(match x4 with
| .inl d6 =>
 some true
| .inr d7 =>
 some false)
theorem spec_l82Has_c {a0:(List Int)} {a1:Int} {r:Bool} (h:spec_l82Has_m a0 a1 = some r):PureC Try.prog 82 [.d (slD encInt a0),.d (.int .i64 a1)] (.d (.bool r)) []:=by
  refine pureC_x tOk (fn:=Try.f82) (c:=codeOf Try.f82) rfl rfl ?_;unfold spec_l82Has_m at h;(conv=>whnf);refine seq_in tOk ?_;(conv=>whnf);obtain ⟨x4,hx4,h⟩:=bd_some h;refine loop_m tOk hx4 (fun s1=>⟨0,18,[(0,.d (slD encInt a0)),(1,.d (.int .i64 a1)),(5,.d (.int .i64 s1))],[],[],[]⟩) ?_ ?_
  · exact leX []
  · clear hx4;intro s1 y2 g3 hy2;(conv=>whnf);refine seq_in tOk ?_;(conv=>whnf);refine andI g3 (fun _ g3=>?_) (fun _ g3=>?_)
    · (conv=>whnf);refine seq_in tOk ?_;(conv=>whnf);refine gdI g3 (fun g3=>?_);(conv=>whnf);refine andI g3 (fun _ g3=>?_) (fun _ g3=>?_)
      · (conv=>whnf);obtain rfl:=Option.some.inj g3;obtain rfl:=hy2 _ rfl;obtain rfl:=Option.some.inj h;exact lfP []
      · (conv=>whnf);obtain rfl:=Option.some.inj g3;exact ⟨_,rfl,leX []⟩
    · (conv=>whnf);obtain rfl:=Option.some.inj g3;obtain rfl:=hy2 _ rfl;obtain rfl:=Option.some.inj h;exact lfP []
noncomputable def spec_l85Ids_m (a0:l81Rd) (a1:Int):Option ((List Int) × l81Rd) :=
 bd (lp (σ:=List Int × Int) (β:=(Nat × (List Int) × Int)) (fun s1 =>
(if (decide (((s1.1.length:Nat):Int)<a1)) = true then
 bd (spec_l81Rd_pick_m (⟨a0.b,s1.2⟩:l81Rd) 1000) fun x5 =>
 bd (α:=Int × Int) (bd (spec_l81Rd_pick_m (⟨a0.b,x5.2.p⟩:l81Rd) 3) fun x9 =>
(if (x9.1 == 0) = true then
 bd (spec_l81Rd_pick_m (⟨a0.b,x9.2.p⟩:l81Rd) 4) fun x10 =>
 gd ((0:Int)≤x10.1∧x10.1<((([1,1000,7,500]:List Int).length:Nat):Int)) <|
 some (x10.2.p,(([1,1000,7,500]:List Int).getD x10.1.toNat default))
else
 some (x9.2.p,IntKind.i64.wrap (1+x5.1)))) fun x6 =>
 bd (lp (σ:=Int) (β:=(Int)) (fun s12 =>
 bd (spec_l82Has_m s1.1 s12) fun x16 =>
(if x16 = true then
 gd ((1000:Int) ≠ 0) <|
 some (.inl (IntKind.i64.wrap (((s12:Int).tmod 1000)+1)))
else
 some (.inr s12))) x6.2) fun x15 =>
 gd (((s1.1.length)+(([x15]:List Int).length)) * (8+1)≤70368744177664) <|
 some (.inl ((s1.1 ++ ([x15]:List Int)),x6.1))
else
 some (.inr (s1.1.length,s1.1,s1.2)))) (([]:List Int),a0.p)) fun x4 =>
 some (x4.2.1,(⟨a0.b,x4.2.2⟩:l81Rd))
theorem spec_l85Ids_c {a0:l81Rd} {a1:Int} {r:(List Int) × l81Rd} (h:spec_l85Ids_m a0 a1 = some r):EffC Try.prog 84 [.ref 9000 0 0,.d (.int .i64 a1)] [(9000,.box 97 [.d (slD encByte a0.b),.d (.int .i64 a0.p)])] (.osl 5001 0 r.1.length) [(9000,.box 97 [.d (slD encByte a0.b),.d (.int .i64 r.2.p)]),(5001,.arr 3 1 r.1.length (rows encInt r.1))]:=by
  refine effC_x tOk (fn:=Try.f84) (c:=codeOf Try.f84) rfl rfl ?_;unfold spec_l85Ids_m at h;(conv=>whnf);refine seq_in tOk ?_;(conv=>whnf);obtain ⟨x4,hx4,h⟩:=bd_some h;refine loop_m tOk hx4 (fun s1=>⟨0,34,[(0,.ref 9000 0 0),(1,.d (.int .i64 a1)),(5,.osl 7001 0 s1.1.length)],[],[(7001,.arr 3 1 s1.1.length (rows encInt s1.1)),(9000,.box 97 [.d (slD encByte a0.b),.d (.int .i64 s1.2)])],[⟨[(0,.ref 9000 0 0)],[]⟩]⟩) ?_ ?_
  · exact leX [.p 7001 3 1 (rows encInt ([]:List Int))]
  · clear hx4;intro s1 y2 g3 hy2;(conv=>whnf);refine seq_in tOk ?_;(conv=>whnf);refine andI g3 (fun _ g3=>?_) (fun _ g3=>?_)
    · (conv=>whnf);obtain ⟨x5,hx5,g3⟩:=bd_some g3;refine cE [(9000,9000)] 0 (spec_l81Rd_pick_c hx5) ?_;(conv=>whnf);obtain ⟨x6,hx6,g3⟩:=bd_some g3;refine seq_join tOk (fun s7=>⟨0,34,[(0,.ref 9000 0 0),(1,.d (.int .i64 a1)),(5,.osl 7001 0 s1.1.length),(6,.d (.int .i64 s7.2))],[],[(7001,.arr 3 1 s1.1.length (rows encInt s1.1)),(9000,.box 97 [.d (slD encByte a0.b),.d (.int .i64 s7.1)])],[⟨[(0,.ref 9000 0 0)],[]⟩]⟩) (fun s7=>x6 = s7) ?_ ?_
      · (conv=>whnf);obtain ⟨x9,hx9,hx6⟩:=bd_some hx6;refine cE [(9000,9000)] 0 (spec_l81Rd_pick_c hx9) ?_;(conv=>whnf);refine andI hx6 (fun _ hx6=>?_) (fun _ hx6=>?_)
        · (conv=>whnf);refine bldS (enc:=encInt) ([1,1000,7,500]:List Int) ?_;(conv=>whnf);obtain ⟨x10,hx10,hx6⟩:=bd_some hx6;refine cE [(9000,9000)] 0 (spec_l81Rd_pick_c hx10) ?_;(conv=>whnf);refine gdI hx6 (fun hx6=>?_);(conv=>whnf);obtain rfl:=Option.some.inj hx6;exact ⟨_,rfl,leX []⟩
        · (conv=>whnf);obtain rfl:=Option.some.inj hx6;exact ⟨_,rfl,leX []⟩
      · rintro _ rfl;(conv=>whnf);refine seq_in tOk ?_;(conv=>whnf);obtain ⟨x15,hx15,g3⟩:=bd_some g3;refine loop_m tOk hx15 (fun s12=>⟨0,34,[(0,.ref 9000 0 0),(1,.d (.int .i64 a1)),(5,.osl 7001 0 s1.1.length),(6,.d (.int .i64 s12))],[],[(7001,.arr 3 1 s1.1.length (rows encInt s1.1)),(9000,.box 97 [.d (slD encByte a0.b),.d (.int .i64 x6.1)])],[⟨[(0,.ref 9000 0 0)],[]⟩]⟩) ?_ ?_
        · exact leX []
        · clear hx15;intro s12 y13 g14 hy13;(conv=>whnf);refine seq_in tOk ?_;(conv=>whnf);obtain ⟨x16,hx16,g14⟩:=bd_some g14;refine cC 0 (spec_l82Has_c hx16) ?_;clear hx16;(conv=>whnf);refine andI g14 (fun _ g14=>?_) (fun _ g14=>?_)
          · (conv=>whnf);refine gdI g14 (fun g14=>?_);(conv=>whnf);obtain rfl:=Option.some.inj g14;exact ⟨_,rfl,leX []⟩
          · (conv=>whnf);obtain rfl:=Option.some.inj g14;obtain rfl:=hy13 _ rfl;refine bldS (enc:=encInt) ([s12]:List Int) ?_;(conv=>whnf);refine gdI g3 (fun g3=>?_);refine appS (enc:=encInt) (xs:=s1.1) (ys:=([s12]:List Int)) ?_;(conv=>whnf);obtain rfl:=Option.some.inj g3;exact ⟨_,rfl,leX []⟩
    · (conv=>whnf);obtain rfl:=Option.some.inj g3;obtain rfl:=hy2 _ rfl;obtain rfl:=Option.some.inj h;exact lfE [.s [(5001,7001),(7001,5001)]]
noncomputable def spec_l85Links_m (a0:l81Rd) (a1:Int):Option ((List TreeLink) × l81Rd) :=
 bd (lp (σ:=List TreeLink × Int × Int) (β:=(Nat × (List TreeLink) × Int)) (fun s1 =>
(if (decide ((IntKind.i64.wrap (s1.2.2+1))<a1)) = true then
 bd (spec_l81Rd_pick_m (⟨a0.b,s1.2.1⟩:l81Rd) 10) fun x5 =>
(if (decide (x5.1 > 0)) = true then
 bd (spec_l81Rd_pick_m (⟨a0.b,x5.2.p⟩:l81Rd) 4) fun x6 =>
 gd (((s1.1.length)+(([(⟨s1.2.2,IntKind.i64.wrap (s1.2.2+1),IntKind.i64.wrap (1+x6.1)⟩:TreeLink)]:List TreeLink).length)) * (24+1)≤70368744177664) <|
 some (.inl ((s1.1 ++ ([(⟨s1.2.2,IntKind.i64.wrap (s1.2.2+1),IntKind.i64.wrap (1+x6.1)⟩:TreeLink)]:List TreeLink)),x6.2.p,IntKind.i64.wrap (s1.2.2+1)))
else
 some (.inl (s1.1,x5.2.p,IntKind.i64.wrap (s1.2.2+1))))
else
 some (.inr (s1.1.length,s1.1,s1.2.1)))) (([]:List TreeLink),a0.p,0)) fun x4 =>
 bd (spec_l81Rd_pick_m (⟨a0.b,x4.2.2⟩:l81Rd) 6) fun x9 =>
 bd (lp (σ:=List TreeLink × Int × Int) (β:=(Nat × (List TreeLink) × Int)) (fun s10 =>
(if (((decide (s10.2.2 > 0)) && (decide (a1 > 1))) && (decide (((s10.1.length:Nat):Int)<12))) = true then
 bd (spec_l81Rd_pick_m (⟨a0.b,s10.2.1⟩:l81Rd) (IntKind.i64.wrap (a1 - 1))) fun x14 =>
 bd (spec_l81Rd_pick_m (⟨a0.b,x14.2.p⟩:l81Rd) (IntKind.i64.wrap ((IntKind.i64.wrap (a1 - 1)) - x14.1))) fun x15 =>
 bd (spec_l81Rd_pick_m (⟨a0.b,x15.2.p⟩:l81Rd) 4) fun x16 =>
 gd ((0:Int)≤x16.1∧x16.1<((([1,2,3,50]:List Int).length:Nat):Int)) <|
 gd (((s10.1.length)+(([(⟨x14.1,IntKind.i64.wrap ((IntKind.i64.wrap (x14.1+1))+x15.1),(([1,2,3,50]:List Int).getD x16.1.toNat default)⟩:TreeLink)]:List TreeLink).length)) * (24+1)≤70368744177664) <|
 some (.inl ((s10.1 ++ ([(⟨x14.1,IntKind.i64.wrap ((IntKind.i64.wrap (x14.1+1))+x15.1),(([1,2,3,50]:List Int).getD x16.1.toNat default)⟩:TreeLink)]:List TreeLink)),x16.2.p,IntKind.i64.wrap (s10.2.2 - 1)))
else
 some (.inr (s10.1.length,s10.1,s10.2.1)))) (x4.2.1,x9.2.p,x9.1)) fun x13 =>
 some (x13.2.1,(⟨a0.b,x13.2.2⟩:l81Rd))
theorem spec_l85Links_c {a0:l81Rd} {a1:Int} {r:(List TreeLink) × l81Rd} (h:spec_l85Links_m a0 a1 = some r):EffC Try.prog 85 [.ref 9000 0 0,.d (.int .i64 a1)] [(9000,.box 97 [.d (slD encByte a0.b),.d (.int .i64 a0.p)])] (.osl 5001 0 r.1.length) [(9000,.box 97 [.d (slD encByte a0.b),.d (.int .i64 r.2.p)]),(5001,.arr 46 3 r.1.length (rows TreeLink.enc r.1))]:=by
  refine effC_x tOk (fn:=Try.f85) (c:=codeOf Try.f85) rfl rfl ?_;unfold spec_l85Links_m at h;(conv=>whnf);refine seq_in tOk ?_;(conv=>whnf);obtain ⟨x4,hx4,h⟩:=bd_some h;refine loop_m tOk hx4 (fun s1=>⟨0,70,[(0,.ref 9000 0 0),(1,.d (.int .i64 a1)),(5,.osl 7001 0 s1.1.length),(6,.d (.int .i64 s1.2.2))],[],[(7001,.arr 46 3 s1.1.length (rows TreeLink.enc s1.1)),(9000,.box 97 [.d (slD encByte a0.b),.d (.int .i64 s1.2.1)])],[⟨[(0,.ref 9000 0 0)],[]⟩]⟩) ?_ ?_
  · exact leX [.p 7001 46 3 (rows TreeLink.enc ([]:List TreeLink))]
  · clear hx4;intro s1 y2 g3 hy2;(conv=>whnf);refine seq_in tOk ?_;(conv=>whnf);refine andI g3 (fun _ g3=>?_) (fun _ g3=>?_)
    · (conv=>whnf);refine seq_in tOk ?_;(conv=>whnf);obtain ⟨x5,hx5,g3⟩:=bd_some g3;refine cE [(9000,9000)] 0 (spec_l81Rd_pick_c hx5) ?_;(conv=>whnf);refine andI g3 (fun _ g3=>?_) (fun _ g3=>?_)
      · (conv=>whnf);obtain ⟨x6,hx6,g3⟩:=bd_some g3;refine cE [(9000,9000)] 0 (spec_l81Rd_pick_c hx6) ?_;(conv=>whnf);refine bldS (enc:=TreeLink.enc) ([(⟨s1.2.2,IntKind.i64.wrap (s1.2.2+1),IntKind.i64.wrap (1+x6.1)⟩:TreeLink)]:List TreeLink) ?_;(conv=>whnf);refine gdI g3 (fun g3=>?_);refine appS (enc:=TreeLink.enc) (xs:=s1.1) (ys:=([(⟨s1.2.2,IntKind.i64.wrap (s1.2.2+1),IntKind.i64.wrap (1+x6.1)⟩:TreeLink)]:List TreeLink)) ?_;(conv=>whnf);obtain rfl:=Option.some.inj g3;exact ⟨_,rfl,leX []⟩
      · (conv=>whnf);obtain rfl:=Option.some.inj g3;exact ⟨_,rfl,leX []⟩
    · (conv=>whnf);obtain rfl:=Option.some.inj g3;obtain rfl:=hy2 _ rfl;refine seq_in tOk ?_;(conv=>whnf);obtain ⟨x9,hx9,h⟩:=bd_some h;refine cE [(9000,9000)] 0 (spec_l81Rd_pick_c hx9) ?_;(conv=>whnf);obtain ⟨x13,hx13,h⟩:=bd_some h;refine loop_m tOk hx13 (fun s10=>⟨0,70,[(0,.ref 9000 0 0),(1,.d (.int .i64 a1)),(5,.osl 7001 0 s10.1.length),(7,.d (.int .i64 s10.2.2))],[],[(7001,.arr 46 3 s10.1.length (rows TreeLink.enc s10.1)),(9000,.box 97 [.d (slD encByte a0.b),.d (.int .i64 s10.2.1)])],[⟨[(0,.ref 9000 0 0)],[]⟩]⟩) ?_ ?_
      · exact leX []
      · clear hx13;intro s10 y11 g12 hy11;(conv=>whnf);refine seq_in tOk ?_;(conv=>whnf);refine andI g12 (fun _ g12=>?_) (fun _ g12=>?_)
        · (conv=>whnf);refine seq_in tOk ?_;(conv=>whnf);obtain ⟨x14,hx14,g12⟩:=bd_some g12;refine cE [(9000,9000)] 0 (spec_l81Rd_pick_c hx14) ?_;(conv=>whnf);obtain ⟨x15,hx15,g12⟩:=bd_some g12;refine cE [(9000,9000)] 0 (spec_l81Rd_pick_c hx15) ?_;(conv=>whnf);refine bldS (enc:=encInt) ([1,2,3,50]:List Int) ?_;(conv=>whnf);obtain ⟨x16,hx16,g12⟩:=bd_some g12;refine cE [(9000,9000)] 0 (spec_l81Rd_pick_c hx16) ?_;(conv=>whnf);refine gdI g12 (fun g12=>?_);(conv=>whnf);refine bldS (enc:=TreeLink.enc) ([(⟨x14.1,IntKind.i64.wrap ((IntKind.i64.wrap (x14.1+1))+x15.1),(([1,2,3,50]:List Int).getD x16.1.toNat default)⟩:TreeLink)]:List TreeLink) ?_;(conv=>whnf);refine gdI g12 (fun g12=>?_);refine appS (enc:=TreeLink.enc) (xs:=s10.1) (ys:=([(⟨x14.1,IntKind.i64.wrap ((IntKind.i64.wrap (x14.1+1))+x15.1),(([1,2,3,50]:List Int).getD x16.1.toNat default)⟩:TreeLink)]:List TreeLink)) ?_;(conv=>whnf);obtain rfl:=Option.some.inj g12;exact ⟨_,rfl,leX []⟩
        · (conv=>whnf);obtain rfl:=Option.some.inj g12;obtain rfl:=hy11 _ rfl;obtain rfl:=Option.some.inj h;exact lfE [.s [(5001,7001),(7001,5001)]]
noncomputable def spec_l81In_m (a0:Int) (a1:Int) (a2:Int):Option (Bool) :=
 some ((decide (a0 ≥ a1)) && (decide (a0≤a2)))
theorem spec_l81In_c {a0:Int} {a1:Int} {a2:Int} {r:Bool} (h:spec_l81In_m a0 a1 a2 = some r):PureC Try.prog 62 [.d (.int .i64 a0),.d (.int .i64 a1),.d (.int .i64 a2)] (.d (.bool r)) []:=by
  refine pureC_x tOk (fn:=Try.f62) (c:=codeOf Try.f62) rfl rfl ?_;unfold spec_l81In_m at h;(conv=>whnf);obtain rfl:=Option.some.inj h;exact lfP []
noncomputable def spec_TreeLinksOk_m (a0:Int) (a1:(List TreeLink)):Option (Bool) :=
 bd (spec_l81In_m a0 1 8) fun x1 =>
(if ((!x1) || (decide (((a1.length:Nat):Int) > 12))) = true then
 some false
else
 bd (lp (σ:=Int) (β:=(Unit ⊕ Unit)) (fun s2 =>
(if (decide (s2<((a1.length:Nat):Int))) = true then
 gd ((0:Int)≤s2∧s2<((a1.length:Nat):Int)) <|
 bd (gcall ((((decide (((a1.getD s2.toNat default).A)<0)) || (decide (((a1.getD s2.toNat default).A) ≥ ((a1.getD s2.toNat default).B)))) || (decide (((a1.getD s2.toNat default).B) ≥ a0))) = false) (spec_l81In_m ((a1.getD s2.toNat default).Cost) 1 50)) fun x7 =>
(if ((((decide (((a1.getD s2.toNat default).A)<0)) || (decide (((a1.getD s2.toNat default).A) ≥ ((a1.getD s2.toNat default).B)))) || (decide (((a1.getD s2.toNat default).B) ≥ a0))) || (!x7)) = true then
 some (.inr (.inl ()))
else
 some (.inl (IntKind.i64.wrap (s2+1))))
else
 some (.inr (.inr ())))) 0) fun x5 =>
(match x5 with
| .inl d8 =>
 some false
| .inr d9 =>
 some true))
theorem spec_TreeLinksOk_c {a0:Int} {a1:(List TreeLink)} {r:Bool} (h:spec_TreeLinksOk_m a0 a1 = some r):PureC Try.prog 36 [.d (.int .i64 a0),.d (slD TreeLink.enc a1)] (.d (.bool r)) []:=by
  refine pureC_x tOk (fn:=Try.f36) (c:=codeOf Try.f36) rfl rfl ?_;unfold spec_TreeLinksOk_m at h;(conv=>whnf);refine seq_in tOk ?_;(conv=>whnf);obtain ⟨x1,hx1,h⟩:=bd_some h;refine cC 0 (spec_l81In_c hx1) ?_;clear hx1;(conv=>whnf);refine andI h (fun _ h=>?_) (fun _ h=>?_)
  · (conv=>whnf);obtain rfl:=Option.some.inj h;exact lfP []
  · (conv=>whnf);refine seq_in tOk ?_;(conv=>whnf);obtain ⟨x5,hx5,h⟩:=bd_some h;refine loop_m tOk hx5 (fun s2=>⟨0,47,[(0,.d (.int .i64 a0)),(1,.d (slD TreeLink.enc a1)),(5,.d (.int .i64 s2))],[],[],[]⟩) ?_ ?_
    · exact leX []
    · clear hx5;intro s2 y3 g4 hy3;(conv=>whnf);refine seq_in tOk ?_;(conv=>whnf);refine andI g4 (fun _ g4=>?_) (fun _ g4=>?_)
      · (conv=>whnf);refine seq_in tOk ?_;(conv=>whnf);refine gdI g4 (fun g4=>?_);(conv=>whnf);obtain ⟨x7,hx7,g4⟩:=bd_some g4;refine callG_m rfl rfl rfl rfl rfl rfl (by intro c0; exact spec_l81In_c (gcall_some hx7 c0)) ?_;(conv=>whnf);refine andI g4 (fun _ g4=>?_) (fun _ g4=>?_)
        · (conv=>whnf);obtain rfl:=Option.some.inj g4;obtain rfl:=hy3 _ rfl;obtain rfl:=Option.some.inj h;exact lfP []
        · (conv=>whnf);obtain rfl:=Option.some.inj g4;exact ⟨_,rfl,leX []⟩
      · (conv=>whnf);obtain rfl:=Option.some.inj g4;obtain rfl:=hy3 _ rfl;obtain rfl:=Option.some.inj h;exact lfP []
noncomputable def spec_l82Self_m (a0:Int):Option (TreeMind) :=
 some (⟨(⟨a0,0,0⟩:TreeVector),-1⟩:TreeMind)
theorem spec_l82Self_c {a0:Int} {r:TreeMind} (h:spec_l82Self_m a0 = some r):PureC Try.prog 108 [.d (.int .i64 a0)] (.agg [.d (.int .i64 r.Vector.Root),.d (.int .i64 r.Vector.Cost),.d (.int .i64 r.Vector.Age),.d (.int .i64 r.Link)]) []:=by
  refine pureC_x tOk (fn:=Try.f108) (c:=codeOf Try.f108) rfl rfl ?_;unfold spec_l82Self_m at h;(conv=>whnf);obtain rfl:=Option.some.inj h;exact lfP []
noncomputable def spec_TreeVectorOk_m (a0:TreeVector):Option (Bool) :=
(if (a0.Root == 0) = true then
 some ((a0.Cost == 0) && (a0.Age == 0))
else
 bd (spec_l81In_m a0.Root 1 1000) fun x1 =>
 bd (gcall (x1 = true) (spec_l81In_m a0.Cost 0 1000)) fun x2 =>
 bd (gcall ((x1 && x2) = true) (spec_l81In_m a0.Age 0 10)) fun x3 =>
 some ((x1 && x2) && x3))
theorem spec_TreeVectorOk_c {a0:TreeVector} {r:Bool} (h:spec_TreeVectorOk_m a0 = some r):PureC Try.prog 80 [.agg [.d (.int .i64 a0.Root),.d (.int .i64 a0.Cost),.d (.int .i64 a0.Age)]] (.d (.bool r)) []:=by
  refine pureC_x tOk (fn:=Try.f80) (c:=codeOf Try.f80) rfl rfl ?_;unfold spec_TreeVectorOk_m at h;(conv=>whnf);refine seq_in tOk ?_;(conv=>whnf);refine andI h (fun _ h=>?_) (fun _ h=>?_)
  · (conv=>whnf);obtain rfl:=Option.some.inj h;exact lfP []
  · (conv=>whnf);obtain ⟨x1,hx1,h⟩:=bd_some h;refine cC 0 (spec_l81In_c hx1) ?_;clear hx1;(conv=>whnf);obtain ⟨x2,hx2,h⟩:=bd_some h;refine callG_m rfl rfl rfl rfl rfl rfl (by intro c0; exact spec_l81In_c (gcall_some hx2 c0)) ?_;(conv=>whnf);obtain ⟨x3,hx3,h⟩:=bd_some h;refine callG_m rfl rfl rfl rfl rfl rfl (by intro c0; exact spec_l81In_c (gcall_some hx3 c0)) ?_;(conv=>whnf);obtain rfl:=Option.some.inj h;exact lfP []
noncomputable def spec_l82Lists_m (a0:TreeWorld):Option (Bool) :=
(if (((((a0.AtA.length:Nat):Int) != ((a0.Links.length:Nat):Int)) || (((a0.AtB.length:Nat):Int) != ((a0.Links.length:Nat):Int))) || (decide (((a0.Radio.length:Nat):Int) > 12))) = true then
 some false
else
 bd (lp (σ:=Int) (β:=(Unit ⊕ Unit)) (fun s1 =>
(if (decide (s1<((a0.Down.length:Nat):Int))) = true then
 gd ((0:Int)≤s1∧s1<((a0.Down.length:Nat):Int)) <|
 bd (spec_l81In_m (a0.Down.getD s1.toNat default) 0 (IntKind.i64.wrap (((a0.Links.length:Nat):Int) - 1))) fun x6 =>
 gd ((decide (s1 > 0)) = true → ((!x6) = false → ((0:Int)≤IntKind.i64.wrap (s1 - 1)∧IntKind.i64.wrap (s1 - 1)<((a0.Down.length:Nat):Int)))) <|
 gd ((decide (s1 > 0)) = true → ((!x6) = false → ((0:Int)≤s1∧s1<((a0.Down.length:Nat):Int)))) <|
(if ((!x6) || ((decide (s1 > 0)) && (decide ((a0.Down.getD ((IntKind.i64.wrap (s1 - 1)).toNat) default) ≥ (a0.Down.getD s1.toNat default))))) = true then
 some (.inr (.inl ()))
else
 some (.inl (IntKind.i64.wrap (s1+1))))
else
 some (.inr (.inr ())))) 0) fun x4 =>
(match x4 with
| .inl d9 =>
 some false
| .inr d10 =>
 bd (lp (σ:=Int) (β:=(Unit ⊕ Unit)) (fun s11 =>
(if (decide (s11<((a0.Radio.length:Nat):Int))) = true then
 gd ((0:Int)≤s11∧s11<((a0.Radio.length:Nat):Int)) <|
 bd (spec_l81In_m ((a0.Radio.getD s11.toNat default).Link) 0 (IntKind.i64.wrap (((a0.Links.length:Nat):Int) - 1))) fun x16 =>
 bd (gcall ((!x16) = false) (spec_l81In_m ((a0.Radio.getD s11.toNat default).End) 0 1)) fun x17 =>
 bd (gcall (((!x16) || (!x17)) = false) (spec_TreeVectorOk_m ((a0.Radio.getD s11.toNat default).Vector))) fun x18 =>
(if ((((!x16) || (!x17)) || (!x18)) || ((((a0.Radio.getD s11.toNat default).Vector).Root) == 0)) = true then
 some (.inr (.inl ()))
else
 some (.inl (IntKind.i64.wrap (s11+1))))
else
 some (.inr (.inr ())))) 0) fun x14 =>
(match x14 with
| .inl d19 =>
 some false
| .inr d20 =>
 some true)))
theorem spec_l82Lists_c {a0:TreeWorld} {r:Bool} (h:spec_l82Lists_m a0 = some r):PureC Try.prog 37 [.agg [.d (slD TreeBridge.enc a0.Bridges),.d (slD TreeLink.enc a0.Links),.d (slD encInt a0.Down),.d (slD TreeSlot.enc a0.AtA),.d (slD TreeSlot.enc a0.AtB),.d (slD TreeWord.enc a0.Radio)]] (.d (.bool r)) []:=by
  refine pureC_x tOk (fn:=Try.f37) (c:=codeOf Try.f37) rfl rfl ?_;unfold spec_l82Lists_m at h;(conv=>whnf);refine seq_in tOk ?_;(conv=>whnf);refine andI h (fun _ h=>?_) (fun _ h=>?_)
  · (conv=>whnf);obtain rfl:=Option.some.inj h;exact lfP []
  · (conv=>whnf);refine seq_in tOk ?_;(conv=>whnf);obtain ⟨x4,hx4,h⟩:=bd_some h;refine loop_m tOk hx4 (fun s1=>⟨0,102,[(1,.ref 1 0 0),(3,.d (.int .i64 s1))],[],[(1,.box 29 [.d (slD TreeBridge.enc a0.Bridges),.d (slD TreeLink.enc a0.Links),.d (slD encInt a0.Down),.d (slD TreeSlot.enc a0.AtA),.d (slD TreeSlot.enc a0.AtB),.d (slD TreeWord.enc a0.Radio)])],[]⟩) ?_ ?_
    · exact leX []
    · clear hx4;intro s1 y2 g3 hy2;(conv=>whnf);refine seq_in tOk ?_;(conv=>whnf);refine andI g3 (fun _ g3=>?_) (fun _ g3=>?_)
      · (conv=>whnf);refine seq_in tOk ?_;(conv=>whnf);obtain ⟨g5,g3⟩:=gd_some g3;obtain ⟨x6,hx6,g3⟩:=bd_some g3;obtain ⟨g7,g3⟩:=gd_some g3;obtain ⟨g8,g3⟩:=gd_some g3;refine draw_u tOk [.u 9 0 (.d (.bool x6)) []] 29 [] [0,1,0,7,15,0,32,96,224,511,1023,2047,4095,8191,16383,32767,65535,32767,163839,524287,1048575,32767,2129919,32767,14712831,31490047,67108863,134217727,268435455] [] ?_;(conv=>whnf);refine And.intro g5 ?_;clear g5;(conv=>whnf);refine And.intro (callD_any (spec_l81In_c hx6) (by kernel_rfl)) ?_;(conv=>whnf);refine And.intro g7 ?_;clear g7;(conv=>whnf);refine And.intro g8 ?_;clear g8;(conv=>whnf);refine And.intro (by kernel_rfl) ?_;(conv=>whnf);refine andI g3 (fun _ g3=>?_) (fun _ g3=>?_)
        · (conv=>whnf);obtain rfl:=Option.some.inj g3;obtain rfl:=hy2 _ rfl;obtain rfl:=Option.some.inj h;exact lfP []
        · (conv=>whnf);obtain rfl:=Option.some.inj g3;exact ⟨_,rfl,leX []⟩
      · (conv=>whnf);obtain rfl:=Option.some.inj g3;obtain rfl:=hy2 _ rfl;refine seq_in tOk ?_;(conv=>whnf);obtain ⟨x14,hx14,h⟩:=bd_some h;refine loop_m tOk hx14 (fun s11=>⟨0,102,[(1,.ref 1 0 0),(4,.d (.int .i64 s11))],[],[(1,.box 29 [.d (slD TreeBridge.enc a0.Bridges),.d (slD TreeLink.enc a0.Links),.d (slD encInt a0.Down),.d (slD TreeSlot.enc a0.AtA),.d (slD TreeSlot.enc a0.AtB),.d (slD TreeWord.enc a0.Radio)])],[]⟩) ?_ ?_
        · exact leX []
        · clear hx14;intro s11 y12 g13 hy12;(conv=>whnf);refine seq_in tOk ?_;(conv=>whnf);refine andI g13 (fun _ g13=>?_) (fun _ g13=>?_)
          · (conv=>whnf);refine seq_in tOk ?_;(conv=>whnf);refine gdI g13 (fun g13=>?_);(conv=>whnf);obtain ⟨x16,hx16,g13⟩:=bd_some g13;refine cC 0 (spec_l81In_c hx16) ?_;clear hx16;(conv=>whnf);obtain ⟨x17,hx17,g13⟩:=bd_some g13;refine callG_m rfl rfl rfl rfl rfl rfl (by intro c0; exact spec_l81In_c (gcall_some hx17 c0)) ?_;(conv=>whnf);obtain ⟨x18,hx18,g13⟩:=bd_some g13;refine callG_m rfl rfl rfl rfl rfl rfl (by intro c0; exact spec_TreeVectorOk_c (gcall_some hx18 c0)) ?_;(conv=>whnf);refine andI g13 (fun _ g13=>?_) (fun _ g13=>?_)
            · (conv=>whnf);obtain rfl:=Option.some.inj g13;obtain rfl:=hy12 _ rfl;obtain rfl:=Option.some.inj h;exact lfP []
            · (conv=>whnf);obtain rfl:=Option.some.inj g13;exact ⟨_,rfl,leX []⟩
          · (conv=>whnf);obtain rfl:=Option.some.inj g13;obtain rfl:=hy12 _ rfl;obtain rfl:=Option.some.inj h;exact lfP []
noncomputable def spec_l82BridgeOk_m (a0:TreeWorld) (a1:Int):Option (Bool) :=
 gd ((0:Int)≤a1∧a1<((a0.Bridges.length:Nat):Int)) <|
 bd (spec_l81In_m ((a0.Bridges.getD a1.toNat default).Id) 1 1000) fun x2 =>
(if (!x2) = true then
 some false
else
 bd (lp (σ:=Int) (β:=(Unit ⊕ Unit)) (fun s3 =>
(if (decide (s3<a1)) = true then
 gd ((0:Int)≤s3∧s3<((a0.Bridges.length:Nat):Int)) <|
(if (((a0.Bridges.getD s3.toNat default).Id) == ((a0.Bridges.getD a1.toNat default).Id)) = true then
 some (.inr (.inl ()))
else
 some (.inl (IntKind.i64.wrap (s3+1))))
else
 some (.inr (.inr ())))) 0) fun x6 =>
(match x6 with
| .inl d8 =>
 some false
| .inr d9 =>
(if (!((a0.Bridges.getD a1.toNat default).Up)) = true then
 some (((((((a0.Bridges.getD a1.toNat default).Mind).Vector).Root) == 0) && ((((((a0.Bridges.getD a1.toNat default).Mind).Vector).Cost) == 0) && ((((((a0.Bridges.getD a1.toNat default).Mind).Vector).Age) == 0) && true))) && (((((a0.Bridges.getD a1.toNat default).Mind).Link) == 0) && true))
else
 bd (spec_TreeVectorOk_m (((a0.Bridges.getD a1.toNat default).Mind).Vector)) fun x10 =>
 bd (gcall ((x10 && (decide (((((a0.Bridges.getD a1.toNat default).Mind).Vector).Root) > 0))) = true) (spec_l81In_m (((a0.Bridges.getD a1.toNat default).Mind).Link) (-1) (IntKind.i64.wrap (((a0.Links.length:Nat):Int) - 1)))) fun x11 =>
 some ((x10 && (decide (((((a0.Bridges.getD a1.toNat default).Mind).Vector).Root) > 0))) && x11))))
theorem spec_l82BridgeOk_c {a0:TreeWorld} {a1:Int} {r:Bool} (h:spec_l82BridgeOk_m a0 a1 = some r):PureC Try.prog 38 [.agg [.d (slD TreeBridge.enc a0.Bridges),.d (slD TreeLink.enc a0.Links),.d (slD encInt a0.Down),.d (slD TreeSlot.enc a0.AtA),.d (slD TreeSlot.enc a0.AtB),.d (slD TreeWord.enc a0.Radio)],.d (.int .i64 a1)] (.d (.bool r)) []:=by
  refine pureC_x tOk (fn:=Try.f38) (c:=codeOf Try.f38) rfl rfl ?_;unfold spec_l82BridgeOk_m at h;(conv=>whnf);refine gdI h (fun h=>?_);(conv=>whnf);refine seq_in tOk ?_;(conv=>whnf);obtain ⟨x2,hx2,h⟩:=bd_some h;refine cC 0 (spec_l81In_c hx2) ?_;clear hx2;(conv=>whnf);refine andI h (fun _ h=>?_) (fun _ h=>?_)
  · (conv=>whnf);obtain rfl:=Option.some.inj h;exact lfP []
  · (conv=>whnf);refine seq_in tOk ?_;(conv=>whnf);obtain ⟨x6,hx6,h⟩:=bd_some h;refine loop_m tOk hx6 (fun s3=>⟨0,57,[(1,.d (.int .i64 a1)),(2,.ref 2 0 0),(5,.ref 5 0 0),(6,.d (.int .i64 s3))],[],[(5,.box 43 [.d (.int .i64 ((a0.Bridges.getD a1.toNat default).Id)),.d (.bool ((a0.Bridges.getD a1.toNat default).Up)),.d (.int .i64 ((((a0.Bridges.getD a1.toNat default).Mind).Vector).Root)),.d (.int .i64 ((((a0.Bridges.getD a1.toNat default).Mind).Vector).Cost)),.d (.int .i64 ((((a0.Bridges.getD a1.toNat default).Mind).Vector).Age)),.d (.int .i64 (((a0.Bridges.getD a1.toNat default).Mind).Link))]),(2,.box 29 [.d (slD TreeBridge.enc a0.Bridges),.d (slD TreeLink.enc a0.Links),.d (slD encInt a0.Down),.d (slD TreeSlot.enc a0.AtA),.d (slD TreeSlot.enc a0.AtB),.d (slD TreeWord.enc a0.Radio)])],[]⟩) ?_ ?_
    · exact leX []
    · clear hx6;intro s3 y4 g5 hy4;(conv=>whnf);refine seq_in tOk ?_;(conv=>whnf);refine andI g5 (fun _ g5=>?_) (fun _ g5=>?_)
      · (conv=>whnf);refine seq_in tOk ?_;(conv=>whnf);obtain ⟨g7,g5⟩:=gd_some g5;refine draw_u tOk [] 9 [] [0,1,0,7,15,31,0,64,255] [] ?_;(conv=>whnf);refine And.intro g7 ?_;clear g7;(conv=>whnf);refine And.intro (by kernel_rfl) ?_;(conv=>whnf);refine andI g5 (fun _ g5=>?_) (fun _ g5=>?_)
        · (conv=>whnf);obtain rfl:=Option.some.inj g5;obtain rfl:=hy4 _ rfl;obtain rfl:=Option.some.inj h;exact lfP []
        · (conv=>whnf);obtain rfl:=Option.some.inj g5;exact ⟨_,rfl,leX []⟩
      · (conv=>whnf);obtain rfl:=Option.some.inj g5;obtain rfl:=hy4 _ rfl;refine seq_in tOk ?_;(conv=>whnf);refine andI h (fun _ h=>?_) (fun _ h=>?_)
        · (conv=>whnf);obtain rfl:=Option.some.inj h;exact lfP []
        · (conv=>whnf);obtain ⟨x10,hx10,h⟩:=bd_some h;refine cC 0 (spec_TreeVectorOk_c hx10) ?_;clear hx10;(conv=>whnf);obtain ⟨x11,hx11,h⟩:=bd_some h;refine callG_m rfl rfl rfl rfl rfl rfl (by intro c0; exact spec_l81In_c (gcall_some hx11 c0)) ?_;(conv=>whnf);obtain rfl:=Option.some.inj h;exact lfP []
noncomputable def spec_l82SlotOk_m (a0:TreeSlot):Option (Bool) :=
 bd (spec_TreeVectorOk_m a0.Vector) fun x1 =>
 bd (gcall (x1 = true) (spec_l81In_m a0.Left 0 3)) fun x2 =>
 some ((x1 && x2) && ((a0.Left == 0) == (a0.Vector.Root == 0)))
theorem spec_l82SlotOk_c {a0:TreeSlot} {r:Bool} (h:spec_l82SlotOk_m a0 = some r):PureC Try.prog 81 [.agg [.d (.int .i64 a0.Vector.Root),.d (.int .i64 a0.Vector.Cost),.d (.int .i64 a0.Vector.Age),.d (.int .i64 a0.Left)]] (.d (.bool r)) []:=by
  refine pureC_x tOk (fn:=Try.f81) (c:=codeOf Try.f81) rfl rfl ?_;unfold spec_l82SlotOk_m at h;(conv=>whnf);obtain ⟨x1,hx1,h⟩:=bd_some h;refine cC 0 (spec_TreeVectorOk_c hx1) ?_;clear hx1;(conv=>whnf);obtain ⟨x2,hx2,h⟩:=bd_some h;refine callG_m rfl rfl rfl rfl rfl rfl (by intro c0; exact spec_l81In_c (gcall_some hx2 c0)) ?_;(conv=>whnf);obtain rfl:=Option.some.inj h;exact lfP []
noncomputable def spec_l82Ends_m (a0:TreeWorld):Option (Bool) :=
 bd (lp (σ:=Int) (β:=(Unit ⊕ Unit)) (fun s1 =>
(if (decide (s1<((a0.Links.length:Nat):Int))) = true then
 gd ((0:Int)≤s1∧s1<((a0.Links.length:Nat):Int)) <|
 gd ((0:Int)≤s1∧s1<((a0.AtA.length:Nat):Int)) <|
 bd (spec_l82SlotOk_m (⟨((a0.AtA.getD s1.toNat default).Vector),(a0.AtA.getD s1.toNat default).Left⟩:TreeSlot)) fun x7 =>
 gd ((!x7) = false → ((0:Int)≤s1∧s1<((a0.AtB.length:Nat):Int))) <|
 bd (gcall ((!x7) = false) (spec_l82SlotOk_m (⟨((a0.AtB.getD s1.toNat default).Vector),(a0.AtB.getD s1.toNat default).Left⟩:TreeSlot))) fun x9 =>
(if ((!x7) || (!x9)) = true then
 some (.inr (.inl ()))
else
 bd (spec_l82Has_m a0.Down s1) fun x10 =>
 gd (x10 = false → ((0:Int)≤(a0.Links.getD s1.toNat default).A∧(a0.Links.getD s1.toNat default).A<((a0.Bridges.length:Nat):Int))) <|
 gd ((x10 || (!((a0.Bridges.getD (((a0.Links.getD s1.toNat default).A).toNat) default).Up))) = true → ((0:Int)≤s1∧s1<((a0.AtA.length:Nat):Int))) <|
 bd (gcall (((x10 || (!((a0.Bridges.getD (((a0.Links.getD s1.toNat default).A).toNat) default).Up))) && (decide (((a0.AtA.getD s1.toNat default).Left) > 0))) = false) (spec_l82Has_m a0.Down s1)) fun x13 =>
 gd (x13 = false → (((x10 || (!((a0.Bridges.getD (((a0.Links.getD s1.toNat default).A).toNat) default).Up))) && (decide (((a0.AtA.getD s1.toNat default).Left) > 0))) = false → ((0:Int)≤(a0.Links.getD s1.toNat default).B∧(a0.Links.getD s1.toNat default).B<((a0.Bridges.length:Nat):Int)))) <|
 gd ((x13 || (!((a0.Bridges.getD (((a0.Links.getD s1.toNat default).B).toNat) default).Up))) = true → (((x10 || (!((a0.Bridges.getD (((a0.Links.getD s1.toNat default).A).toNat) default).Up))) && (decide (((a0.AtA.getD s1.toNat default).Left) > 0))) = false → ((0:Int)≤s1∧s1<((a0.AtB.length:Nat):Int)))) <|
(if (((x10 || (!((a0.Bridges.getD (((a0.Links.getD s1.toNat default).A).toNat) default).Up))) && (decide (((a0.AtA.getD s1.toNat default).Left) > 0))) || ((x13 || (!((a0.Bridges.getD (((a0.Links.getD s1.toNat default).B).toNat) default).Up))) && (decide (((a0.AtB.getD s1.toNat default).Left) > 0)))) = true then
 some (.inr (.inl ()))
else
 some (.inl (IntKind.i64.wrap (s1+1)))))
else
 some (.inr (.inr ())))) 0) fun x4 =>
(match x4 with
| .inl d16 =>
 some false
| .inr d17 =>
 some true)
theorem spec_l82Ends_c {a0:TreeWorld} {r:Bool} (h:spec_l82Ends_m a0 = some r):PureC Try.prog 39 [.agg [.d (slD TreeBridge.enc a0.Bridges),.d (slD TreeLink.enc a0.Links),.d (slD encInt a0.Down),.d (slD TreeSlot.enc a0.AtA),.d (slD TreeSlot.enc a0.AtB),.d (slD TreeWord.enc a0.Radio)]] (.d (.bool r)) []:=by
  refine pureC_x tOk (fn:=Try.f39) (c:=codeOf Try.f39) rfl rfl ?_;unfold spec_l82Ends_m at h;(conv=>whnf);refine seq_in tOk ?_;(conv=>whnf);obtain ⟨x4,hx4,h⟩:=bd_some h;refine loop_m tOk hx4 (fun s1=>⟨0,81,[(1,.ref 1 0 0),(3,.d (.int .i64 s1))],[],[(1,.box 29 [.d (slD TreeBridge.enc a0.Bridges),.d (slD TreeLink.enc a0.Links),.d (slD encInt a0.Down),.d (slD TreeSlot.enc a0.AtA),.d (slD TreeSlot.enc a0.AtB),.d (slD TreeWord.enc a0.Radio)])],[]⟩) ?_ ?_
  · exact leX []
  · clear hx4;intro s1 y2 g3 hy2;(conv=>whnf);refine seq_in tOk ?_;(conv=>whnf);refine andI g3 (fun _ g3=>?_) (fun _ g3=>?_)
    · (conv=>whnf);refine seq_in tOk ?_;(conv=>whnf);refine gdI g3 (fun g3=>?_);(conv=>whnf);refine seq_in tOk ?_;(conv=>whnf);refine gdI g3 (fun g3=>?_);(conv=>whnf);obtain ⟨x7,hx7,g3⟩:=bd_some g3;refine cC 0 (spec_l82SlotOk_c hx7) ?_;clear hx7;(conv=>whnf);refine gdI g3 (fun g3=>?_);(conv=>whnf);obtain ⟨x9,hx9,g3⟩:=bd_some g3;refine callG_m rfl rfl rfl rfl rfl rfl (by intro c0; exact spec_l82SlotOk_c (gcall_some hx9 c0)) ?_;(conv=>whnf);refine andI g3 (fun _ g3=>?_) (fun _ g3=>?_)
      · (conv=>whnf);obtain rfl:=Option.some.inj g3;obtain rfl:=hy2 _ rfl;obtain rfl:=Option.some.inj h;exact lfP []
      · (conv=>whnf);obtain ⟨x10,hx10,g3⟩:=bd_some g3;refine cC 0 (spec_l82Has_c hx10) ?_;clear hx10;(conv=>whnf);refine gdI g3 (fun g3=>?_);(conv=>whnf);refine gdI g3 (fun g3=>?_);(conv=>whnf);obtain ⟨x13,hx13,g3⟩:=bd_some g3;refine callG_m rfl rfl rfl rfl rfl rfl (by intro c0; exact spec_l82Has_c (gcall_some hx13 c0)) ?_;(conv=>whnf);refine gdI g3 (fun g3=>?_);(conv=>whnf);refine gdI g3 (fun g3=>?_);(conv=>whnf);refine andI g3 (fun _ g3=>?_) (fun _ g3=>?_)
        · (conv=>whnf);obtain rfl:=Option.some.inj g3;obtain rfl:=hy2 _ rfl;obtain rfl:=Option.some.inj h;exact lfP []
        · (conv=>whnf);obtain rfl:=Option.some.inj g3;exact ⟨_,rfl,leX []⟩
    · (conv=>whnf);obtain rfl:=Option.some.inj g3;obtain rfl:=hy2 _ rfl;obtain rfl:=Option.some.inj h;exact lfP []
noncomputable def spec_TreeWorldOk_m (a0:TreeWorld):Option (Bool) :=
 bd (spec_TreeLinksOk_m ((a0.Bridges.length:Nat):Int) a0.Links) fun x1 =>
 bd (gcall ((!x1) = false) (spec_l82Lists_m a0)) fun x2 =>
(if ((!x1) || (!x2)) = true then
 some false
else
 bd (lp (σ:=Int) (β:=(Unit ⊕ Unit)) (fun s3 =>
(if (decide (s3<((a0.Bridges.length:Nat):Int))) = true then
 bd (spec_l82BridgeOk_m a0 s3) fun x7 =>
(if (!x7) = true then
 some (.inr (.inl ()))
else
 some (.inl (IntKind.i64.wrap (s3+1))))
else
 some (.inr (.inr ())))) 0) fun x6 =>
(match x6 with
| .inl d8 =>
 some false
| .inr d9 =>
 bd (spec_l82Ends_m a0) fun x10 =>
 some x10))
theorem spec_TreeWorldOk_c {a0:TreeWorld} {r:Bool} (h:spec_TreeWorldOk_m a0 = some r):PureC Try.prog 12 [.agg [.d (slD TreeBridge.enc a0.Bridges),.d (slD TreeLink.enc a0.Links),.d (slD encInt a0.Down),.d (slD TreeSlot.enc a0.AtA),.d (slD TreeSlot.enc a0.AtB),.d (slD TreeWord.enc a0.Radio)]] (.d (.bool r)) []:=by
  refine pureC_x tOk (fn:=Try.f12) (c:=codeOf Try.f12) rfl rfl ?_;unfold spec_TreeWorldOk_m at h;(conv=>whnf);refine seq_in tOk ?_;(conv=>whnf);obtain ⟨x1,hx1,h⟩:=bd_some h;refine cC 0 (spec_TreeLinksOk_c hx1) ?_;clear hx1;(conv=>whnf);obtain ⟨x2,hx2,h⟩:=bd_some h;refine callG_m rfl rfl rfl rfl rfl rfl (by intro c0; exact spec_l82Lists_c (gcall_some hx2 c0)) ?_;(conv=>whnf);refine andI h (fun _ h=>?_) (fun _ h=>?_)
  · (conv=>whnf);obtain rfl:=Option.some.inj h;exact lfP []
  · (conv=>whnf);refine seq_in tOk ?_;(conv=>whnf);obtain ⟨x6,hx6,h⟩:=bd_some h;refine loop_m tOk hx6 (fun s3=>⟨0,29,[(1,.ref 1 0 0),(3,.d (.int .i64 s3))],[],[(1,.box 29 [.d (slD TreeBridge.enc a0.Bridges),.d (slD TreeLink.enc a0.Links),.d (slD encInt a0.Down),.d (slD TreeSlot.enc a0.AtA),.d (slD TreeSlot.enc a0.AtB),.d (slD TreeWord.enc a0.Radio)])],[]⟩) ?_ ?_
    · exact leX []
    · clear hx6;intro s3 y4 g5 hy4;(conv=>whnf);refine seq_in tOk ?_;(conv=>whnf);refine andI g5 (fun _ g5=>?_) (fun _ g5=>?_)
      · (conv=>whnf);refine seq_in tOk ?_;(conv=>whnf);obtain ⟨x7,hx7,g5⟩:=bd_some g5;refine cC 0 (spec_l82BridgeOk_c hx7) ?_;clear hx7;(conv=>whnf);refine andI g5 (fun _ g5=>?_) (fun _ g5=>?_)
        · (conv=>whnf);obtain rfl:=Option.some.inj g5;obtain rfl:=hy4 _ rfl;obtain rfl:=Option.some.inj h;exact lfP []
        · (conv=>whnf);obtain rfl:=Option.some.inj g5;exact ⟨_,rfl,leX []⟩
      · (conv=>whnf);obtain rfl:=Option.some.inj g5;obtain rfl:=hy4 _ rfl;obtain ⟨x10,hx10,h⟩:=bd_some h;refine cC 0 (spec_l82Ends_c hx10) ?_;clear hx10;(conv=>whnf);obtain rfl:=Option.some.inj h;exact lfP []
noncomputable def spec_l82Copy_m (a0:TreeWorld):Option (TreeWorld) :=
 gd (((0)+(a0.Bridges.length)) * (48+1)≤70368744177664) <|
 gd (((0)+(a0.Links.length)) * (24+1)≤70368744177664) <|
 gd (((0)+(a0.Down.length)) * (8+1)≤70368744177664) <|
 gd (((0)+(a0.AtA.length)) * (32+1)≤70368744177664) <|
 gd (((0)+(a0.AtB.length)) * (32+1)≤70368744177664) <|
 gd (((0)+(a0.Radio.length)) * (40+1)≤70368744177664) <|
 some a0
theorem spec_l82Copy_c {a0:TreeWorld} {r:TreeWorld} (h:spec_l82Copy_m a0 = some r):PureC Try.prog 51 [.agg [.d (slD TreeBridge.enc a0.Bridges),.d (slD TreeLink.enc a0.Links),.d (slD encInt a0.Down),.d (slD TreeSlot.enc a0.AtA),.d (slD TreeSlot.enc a0.AtB),.d (slD TreeWord.enc a0.Radio)]] (.agg [.osl 5001 0 r.Bridges.length,.osl 5002 0 r.Links.length,.osl 5003 0 r.Down.length,.osl 5004 0 r.AtA.length,.osl 5005 0 r.AtB.length,.osl 5006 0 r.Radio.length]) [⟨5001,43,6,r.Bridges.length,rows TreeBridge.enc r.Bridges⟩,⟨5002,46,3,r.Links.length,rows TreeLink.enc r.Links⟩,⟨5003,3,1,r.Down.length,rows encInt r.Down⟩,⟨5004,107,4,r.AtA.length,rows TreeSlot.enc r.AtA⟩,⟨5005,107,4,r.AtB.length,rows TreeSlot.enc r.AtB⟩,⟨5006,76,5,r.Radio.length,rows TreeWord.enc r.Radio⟩]:=by
  refine pureC_x tOk (fn:=Try.f51) (c:=codeOf Try.f51) rfl rfl ?_;unfold spec_l82Copy_m at h;(conv=>whnf);obtain ⟨g1,h⟩:=gd_some h;obtain ⟨g2,h⟩:=gd_some h;obtain ⟨g3,h⟩:=gd_some h;obtain ⟨g4,h⟩:=gd_some h;obtain ⟨g5,h⟩:=gd_some h;obtain ⟨g6,h⟩:=gd_some h;refine draw_u tOk [] 25 [] [0,0,2,7,0,0,32,127,0,0,512,2047,0,0,8192,32767,0,0,131072,524287,0,0,2097152,8388607,16777215] [33554431] ?_;(conv=>whnf);refine And.intro g1 ?_;clear g1;refine appN (enc:=TreeBridge.enc) (ys:=a0.Bridges) ?_;(conv=>whnf);refine And.intro g2 ?_;clear g2;refine appN (enc:=TreeLink.enc) (ys:=a0.Links) ?_;(conv=>whnf);refine And.intro g3 ?_;clear g3;refine appN (enc:=encInt) (ys:=a0.Down) ?_;(conv=>whnf);refine And.intro g4 ?_;clear g4;refine appN (enc:=TreeSlot.enc) (ys:=a0.AtA) ?_;(conv=>whnf);refine And.intro g5 ?_;clear g5;refine appN (enc:=TreeSlot.enc) (ys:=a0.AtB) ?_;(conv=>whnf);refine And.intro g6 ?_;clear g6;refine appN (enc:=TreeWord.enc) (ys:=a0.Radio) ?_;(conv=>whnf);refine And.intro (by kernel_rfl) ?_;(conv=>whnf);obtain rfl:=Option.some.inj h;exact lfP [.s [(6,5001),(10,5002),(14,5003),(18,5004),(22,5005),(26,5006),(5001,6),(5002,10),(5003,14),(5004,18),(5005,22),(5006,26)]]
noncomputable def spec_TreeOpenWorld_m (a0:(List Int)) (a1:(List TreeLink)):Option (TreeWorld × Bool) :=
 bd (spec_TreeLinksOk_m ((a0.length:Nat):Int) a1) fun x1 =>
(if (!x1) = true then
 some ((⟨[],[],[],[],[],[]⟩:TreeWorld),false)
else
 gd ((0:Int)≤((a1.length:Nat):Int)∧((a1.length:Nat):Int)≤((a1.length:Nat):Int)∧((a1.length:Nat):Int) * 32≤140737488355328∧((a1.length:Nat):Int)≤140737488355328) <|
 gd ((0:Int)≤((a1.length:Nat):Int)∧((a1.length:Nat):Int)≤((a1.length:Nat):Int)∧((a1.length:Nat):Int) * 32≤140737488355328∧((a1.length:Nat):Int)≤140737488355328) <|
 bd (lp (σ:=List TreeBridge × Int) (β:=((List TreeBridge) × Nat)) (fun s4 =>
(if (decide (s4.2<((a0.length:Nat):Int))) = true then
 gd ((0:Int)≤s4.2∧s4.2<((a0.length:Nat):Int)) <|
 gd ((0:Int)≤s4.2∧s4.2<((a0.length:Nat):Int)) <|
 bd (spec_l82Self_m (a0.getD s4.2.toNat default)) fun x10 =>
 gd (((s4.1.length)+(([(⟨(a0.getD s4.2.toNat default),true,x10⟩:TreeBridge)]:List TreeBridge).length)) * (48+1)≤70368744177664) <|
 some (.inl ((s4.1 ++ ([(⟨(a0.getD s4.2.toNat default),true,x10⟩:TreeBridge)]:List TreeBridge)),IntKind.i64.wrap (s4.2+1)))
else
 some (.inr (s4.1,s4.1.length)))) (([]:List TreeBridge),0)) fun x7 =>
 bd (spec_TreeWorldOk_m (⟨x7.1,a1,[],(List.replicate (((a1.length:Nat):Int):Int).toNat (default:TreeSlot)),(List.replicate (((a1.length:Nat):Int):Int).toNat (default:TreeSlot)),[]⟩:TreeWorld)) fun x13 =>
(if (!x13) = true then
 some ((⟨[],[],[],[],[],[]⟩:TreeWorld),false)
else
 bd (spec_l82Copy_m (⟨x7.1,a1,[],(List.replicate (((a1.length:Nat):Int):Int).toNat (default:TreeSlot)),(List.replicate (((a1.length:Nat):Int):Int).toNat (default:TreeSlot)),[]⟩:TreeWorld)) fun x14 =>
 some (x14,true)))
theorem spec_TreeOpenWorld_c {a0:(List Int)} {a1:(List TreeLink)} {r:TreeWorld × Bool} (h:spec_TreeOpenWorld_m a0 a1 = some r):PureC Try.prog 83 [.d (slD encInt a0),.d (slD TreeLink.enc a1)] (.tup [.agg [.osl 5001 0 r.1.Bridges.length,.osl 5002 0 r.1.Links.length,.osl 5003 0 r.1.Down.length,.osl 5004 0 r.1.AtA.length,.osl 5005 0 r.1.AtB.length,.osl 5006 0 r.1.Radio.length],.d (.bool r.2)]) [⟨5001,43,6,r.1.Bridges.length,rows TreeBridge.enc r.1.Bridges⟩,⟨5002,46,3,r.1.Links.length,rows TreeLink.enc r.1.Links⟩,⟨5003,3,1,r.1.Down.length,rows encInt r.1.Down⟩,⟨5004,107,4,r.1.AtA.length,rows TreeSlot.enc r.1.AtA⟩,⟨5005,107,4,r.1.AtB.length,rows TreeSlot.enc r.1.AtB⟩,⟨5006,76,5,r.1.Radio.length,rows TreeWord.enc r.1.Radio⟩]:=by
  refine pureC_x tOk (fn:=Try.f83) (c:=codeOf Try.f83) rfl rfl ?_;unfold spec_TreeOpenWorld_m at h;(conv=>whnf);refine seq_in tOk ?_;(conv=>whnf);obtain ⟨x1,hx1,h⟩:=bd_some h;refine cC 0 (spec_TreeLinksOk_c hx1) ?_;clear hx1;(conv=>whnf);refine andI h (fun _ h=>?_) (fun _ h=>?_)
  · (conv=>whnf);obtain rfl:=Option.some.inj h;exact lfP [.p 5001 43 6 (rows TreeBridge.enc ([]:List TreeBridge)),.p 5002 46 3 (rows TreeLink.enc ([]:List TreeLink)),.p 5003 3 1 (rows encInt ([]:List Int)),.p 5004 107 4 (rows TreeSlot.enc ([]:List TreeSlot)),.p 5005 107 4 (rows TreeSlot.enc ([]:List TreeSlot)),.p 5006 76 5 (rows TreeWord.enc ([]:List TreeWord))]
  · (conv=>whnf);obtain ⟨g2,h⟩:=gd_some h;obtain ⟨g3,h⟩:=gd_some h;refine draw_u tOk [] 10 [] [0,0,0,4,12,0,32,96,255,0] [1023] ?_;(conv=>whnf);refine And.intro g2 ?_;clear g2;refine ⟨(List.replicate (((a1.length:Nat):Int):Int).toNat (default:TreeSlot)).length,rows TreeSlot.enc (List.replicate (((a1.length:Nat):Int):Int).toNat (default:TreeSlot)),by simp,make_rows rfl,?_⟩;(conv=>whnf);refine And.intro g3 ?_;clear g3;refine ⟨(List.replicate (((a1.length:Nat):Int):Int).toNat (default:TreeSlot)).length,rows TreeSlot.enc (List.replicate (((a1.length:Nat):Int):Int).toNat (default:TreeSlot)),by simp,make_rows rfl,?_⟩;(conv=>whnf);refine And.intro (by kernel_rfl) ?_;(conv=>whnf);refine seq_in tOk ?_;(conv=>whnf);obtain ⟨x7,hx7,h⟩:=bd_some h;refine loop_m tOk hx7 (fun s4=>⟨0,50,[(0,.d (slD encInt a0)),(4,.ref 4 0 0),(6,.ref 6 0 0),(7,.d (.int .i64 s4.2))],[],[(7001,.arr 43 6 s4.1.length (rows TreeBridge.enc s4.1)),(6,.box 29 [.osl 7001 0 s4.1.length,.d (slD TreeLink.enc a1),.d (.nil),.osl 18 0 ((List.replicate (((a1.length:Nat):Int):Int).toNat (default:TreeSlot)).length),.osl 21 0 ((List.replicate (((a1.length:Nat):Int):Int).toNat (default:TreeSlot)).length),.d (.nil)]),(21,.arr 107 4 ((List.replicate (((a1.length:Nat):Int):Int).toNat (default:TreeSlot)).length) (rows TreeSlot.enc (List.replicate (((a1.length:Nat):Int):Int).toNat (default:TreeSlot)))),(18,.arr 107 4 ((List.replicate (((a1.length:Nat):Int):Int).toNat (default:TreeSlot)).length) (rows TreeSlot.enc (List.replicate (((a1.length:Nat):Int):Int).toNat (default:TreeSlot)))),(4,.box 29 [.d (.nil),.d (.nil),.d (.nil),.d (.nil),.d (.nil),.d (.nil)])],[]⟩) ?_ ?_
    · exact leX [.p 7001 43 6 (rows TreeBridge.enc ([]:List TreeBridge))]
    · clear hx7;intro s4 y5 g6 hy5;(conv=>whnf);refine seq_in tOk ?_;(conv=>whnf);refine andI g6 (fun _ g6=>?_) (fun _ g6=>?_)
      · (conv=>whnf);refine seq_in tOk ?_;(conv=>whnf);obtain ⟨g8,g6⟩:=gd_some g6;obtain ⟨g9,g6⟩:=gd_some g6;obtain ⟨x10,hx10,g6⟩:=bd_some g6;refine draw_u tOk [.u 10 0 (.agg [.d (.int .i64 x10.Vector.Root),.d (.int .i64 x10.Vector.Cost),.d (.int .i64 x10.Vector.Age),.d (.int .i64 x10.Link)]) []] 13 [] [0,1,0,0,12,28,0,0,192,448,960,2044,4092] [8191,16383,32767] ?_;(conv=>whnf);refine And.intro g8 ?_;clear g8;(conv=>whnf);refine And.intro g9 ?_;clear g9;(conv=>whnf);refine And.intro (callD_any (spec_l82Self_c hx10) (by kernel_rfl)) ?_;(conv=>whnf);refine bldS (enc:=TreeBridge.enc) ([(⟨(a0.getD s4.2.toNat default),true,x10⟩:TreeBridge)]:List TreeBridge) ?_;(conv=>whnf);refine And.intro (by kernel_rfl) ?_;(conv=>whnf);refine gdI g6 (fun g6=>?_);refine appS (enc:=TreeBridge.enc) (xs:=s4.1) (ys:=([(⟨(a0.getD s4.2.toNat default),true,x10⟩:TreeBridge)]:List TreeBridge)) ?_;(conv=>whnf);obtain rfl:=Option.some.inj g6;exact ⟨_,rfl,leX []⟩
      · (conv=>whnf);obtain rfl:=Option.some.inj g6;obtain rfl:=hy5 _ rfl;refine seq_in tOk ?_;(conv=>whnf);obtain ⟨x13,hx13,h⟩:=bd_some h;refine callW (args1:=[.agg [.d (.sl (s4.1,s4.1.length).2 (rows TreeBridge.enc (s4.1,s4.1.length).1)),.d (slD TreeLink.enc a1),.d (.nil),.d (slD TreeSlot.enc (List.replicate (((a1.length:Nat):Int):Int).toNat (default:TreeSlot))),.d (slD TreeSlot.enc (List.replicate (((a1.length:Nat):Int):Int).toNat (default:TreeSlot))),.d (.nil)]]) 0 (spec_TreeWorldOk_c hx13) (by kernel_rfl) argA (by kernel_rfl) ?_;(conv=>whnf);refine andI h (fun _ h=>?_) (fun _ h=>?_)
        · (conv=>whnf);obtain rfl:=Option.some.inj h;exact lfP [.k [6,18,21,7001],.p 5001 43 6 (rows TreeBridge.enc ([]:List TreeBridge)),.p 5002 46 3 (rows TreeLink.enc ([]:List TreeLink)),.p 5003 3 1 (rows encInt ([]:List Int)),.p 5004 107 4 (rows TreeSlot.enc ([]:List TreeSlot)),.p 5005 107 4 (rows TreeSlot.enc ([]:List TreeSlot)),.p 5006 76 5 (rows TreeWord.enc ([]:List TreeWord))]
        · (conv=>whnf);obtain ⟨x14,hx14,h⟩:=bd_some h;refine callW (args1:=[.agg [.d (.sl (s4.1,s4.1.length).2 (rows TreeBridge.enc (s4.1,s4.1.length).1)),.d (slD TreeLink.enc a1),.d (.nil),.d (slD TreeSlot.enc (List.replicate (((a1.length:Nat):Int):Int).toNat (default:TreeSlot))),.d (slD TreeSlot.enc (List.replicate (((a1.length:Nat):Int):Int).toNat (default:TreeSlot))),.d (.nil)]]) 1000 (spec_l82Copy_c hx14) (by kernel_rfl) argA (by kernel_rfl) ?_;(conv=>whnf);obtain rfl:=Option.some.inj h;exact lfP [.s [(5001,6001),(5002,6002),(5003,6003),(5004,6004),(5005,6005),(5006,6006),(6001,5001),(6002,5002),(6003,5003),(6004,5004),(6005,5005),(6006,5006)]]
noncomputable def spec_l85Start_m (a0:l81Rd):Option (TreeWorld × l81Rd) :=
 bd (spec_l81Rd_pick_m a0 7) fun x1 =>
 gd ((0:Int)≤x1.1∧x1.1<((([2,3,4,5,6,8,1]:List Int).length:Nat):Int)) <|
 bd (spec_l85Ids_m (⟨a0.b,x1.2.p⟩:l81Rd) (([2,3,4,5,6,8,1]:List Int).getD x1.1.toNat default)) fun x3 =>
 bd (spec_l85Links_m (⟨a0.b,x3.2.p⟩:l81Rd) (([2,3,4,5,6,8,1]:List Int).getD x1.1.toNat default)) fun x4 =>
 bd (spec_TreeOpenWorld_m x3.1 x4.1) fun x5 =>
 some (x5.1,(⟨a0.b,x4.2.p⟩:l81Rd))
theorem spec_l85Start_c {a0:l81Rd} {r:TreeWorld × l81Rd} (h:spec_l85Start_m a0 = some r):EffC Try.prog 42 [.ref 9000 0 0] [(9000,.box 97 [.d (slD encByte a0.b),.d (.int .i64 a0.p)])] (.agg [.osl 5001 0 r.1.Bridges.length,.osl 5002 0 r.1.Links.length,.osl 5003 0 r.1.Down.length,.osl 5004 0 r.1.AtA.length,.osl 5005 0 r.1.AtB.length,.osl 5006 0 r.1.Radio.length]) [(9000,.box 97 [.d (slD encByte a0.b),.d (.int .i64 r.2.p)]),(5001,.arr 43 6 r.1.Bridges.length (rows TreeBridge.enc r.1.Bridges)),(5002,.arr 46 3 r.1.Links.length (rows TreeLink.enc r.1.Links)),(5003,.arr 3 1 r.1.Down.length (rows encInt r.1.Down)),(5004,.arr 107 4 r.1.AtA.length (rows TreeSlot.enc r.1.AtA)),(5005,.arr 107 4 r.1.AtB.length (rows TreeSlot.enc r.1.AtB)),(5006,.arr 76 5 r.1.Radio.length (rows TreeWord.enc r.1.Radio))]:=by
  refine effC_x tOk (fn:=Try.f42) (c:=codeOf Try.f42) rfl rfl ?_;unfold spec_l85Start_m at h;(conv=>whnf);refine bldS (enc:=encInt) ([2,3,4,5,6,8,1]:List Int) ?_;(conv=>whnf);obtain ⟨x1,hx1,h⟩:=bd_some h;refine cE [(9000,9000)] 0 (spec_l81Rd_pick_c hx1) ?_;(conv=>whnf);refine gdI h (fun h=>?_);(conv=>whnf);obtain ⟨x3,hx3,h⟩:=bd_some h;refine cE [(9000,9000)] 1000 (spec_l85Ids_c hx3) ?_;(conv=>whnf);obtain ⟨x4,hx4,h⟩:=bd_some h;refine cE [(9000,9000)] 2000 (spec_l85Links_c hx4) ?_;(conv=>whnf);obtain ⟨x5,hx5,h⟩:=bd_some h;refine cC 3000 (spec_TreeOpenWorld_c hx5) ?_;clear hx5;(conv=>whnf);obtain rfl:=Option.some.inj h;exact lfE [.s [(5001,8001),(5002,8002),(5003,8003),(5004,8004),(5005,8005),(5006,8006),(8001,5001),(8002,5002),(8003,5003),(8004,5004),(8005,5005),(8006,5006)]]
noncomputable def spec_l85Event_m (a0:l81Rd) (a1:TreeWorld):Option (TreeEvent × l81Rd) :=
 bd (α:=Int × Int) ((if (decide (((a1.Links.length:Nat):Int) > 0)) = true then
 bd (spec_l81Rd_pick_m a0 ((a1.Links.length:Nat):Int)) fun x4 =>
 some (x4.2.p,x4.1)
else
 some (a0.p,0))) fun x1 =>
 bd (spec_l81Rd_pick_m (⟨a0.b,x1.1⟩:l81Rd) 16) fun x5 =>
 bd (α:=Bool) ((if (x5.1 == 0) = true then
 some (x5.1 == 0)
else
(if (x5.1 == 1) = true then
 some (x5.1 == 1)
else
(if (x5.1 == 2) = true then
 some (x5.1 == 2)
else
(if (x5.1 == 3) = true then
 some (x5.1 == 3)
else
 some (x5.1 == 4)))))) fun x6 =>
(if x6 = true then
 bd (spec_l81Rd_pick_m (⟨a0.b,x5.2.p⟩:l81Rd) 2) fun x9 =>
 some ((⟨1,x1.2,x9.1⟩:TreeEvent),(⟨a0.b,x9.2.p⟩:l81Rd))
else
 bd (α:=Bool) ((if (x5.1 == 5) = true then
 some (x5.1 == 5)
else
(if (x5.1 == 6) = true then
 some (x5.1 == 6)
else
(if (x5.1 == 7) = true then
 some (x5.1 == 7)
else
 some (x5.1 == 8))))) fun x10 =>
(if x10 = true then
 bd (spec_l81Rd_pick_m (⟨a0.b,x5.2.p⟩:l81Rd) (IntKind.i64.wrap (((a1.Radio.length:Nat):Int)+1))) fun x13 =>
 some ((⟨2,x13.1,0⟩:TreeEvent),(⟨a0.b,x13.2.p⟩:l81Rd))
else
(if (x5.1 == 9) = true then
 bd (spec_l81Rd_pick_m (⟨a0.b,x5.2.p⟩:l81Rd) (IntKind.i64.wrap (((a1.Radio.length:Nat):Int)+1))) fun x14 =>
 some ((⟨3,x14.1,0⟩:TreeEvent),(⟨a0.b,x14.2.p⟩:l81Rd))
else
(if (x5.1 == 10) = true then
 bd (spec_l81Rd_pick_m (⟨a0.b,x5.2.p⟩:l81Rd) (IntKind.i64.wrap (((a1.Radio.length:Nat):Int)+1))) fun x15 =>
 some ((⟨4,x15.1,0⟩:TreeEvent),(⟨a0.b,x15.2.p⟩:l81Rd))
else
(if (x5.1 == 11) = true then
 some ((⟨5,0,0⟩:TreeEvent),(⟨a0.b,x5.2.p⟩:l81Rd))
else
(if (x5.1 == 12) = true then
 bd (spec_l81Rd_pick_m (⟨a0.b,x5.2.p⟩:l81Rd) 2) fun x16 =>
(if (x16.1 == 0) = true then
 bd (spec_l81Rd_pick_m (⟨a0.b,x16.2.p⟩:l81Rd) ((a1.Bridges.length:Nat):Int)) fun x17 =>
 some ((⟨6,x17.1,0⟩:TreeEvent),(⟨a0.b,x17.2.p⟩:l81Rd))
else
 bd (spec_l81Rd_pick_m (⟨a0.b,x16.2.p⟩:l81Rd) ((a1.Bridges.length:Nat):Int)) fun x18 =>
 some ((⟨7,x18.1,0⟩:TreeEvent),(⟨a0.b,x18.2.p⟩:l81Rd)))
else
(if (x5.1 == 13) = true then
 bd (spec_l81Rd_pick_m (⟨a0.b,x5.2.p⟩:l81Rd) ((a1.Bridges.length:Nat):Int)) fun x19 =>
 some ((⟨7,x19.1,0⟩:TreeEvent),(⟨a0.b,x19.2.p⟩:l81Rd))
else
(if (x5.1 == 14) = true then
 some ((⟨8,x1.2,0⟩:TreeEvent),(⟨a0.b,x5.2.p⟩:l81Rd))
else
 some ((⟨9,x1.2,0⟩:TreeEvent),(⟨a0.b,x5.2.p⟩:l81Rd))))))))))
theorem spec_l85Event_c {a0:l81Rd} {a1:TreeWorld} {r:TreeEvent × l81Rd} (h:spec_l85Event_m a0 a1 = some r):EffC Try.prog 44 [.ref 9000 0 0,.agg [.d (slD TreeBridge.enc a1.Bridges),.d (slD TreeLink.enc a1.Links),.d (slD encInt a1.Down),.d (slD TreeSlot.enc a1.AtA),.d (slD TreeSlot.enc a1.AtB),.d (slD TreeWord.enc a1.Radio)]] [(9000,.box 97 [.d (slD encByte a0.b),.d (.int .i64 a0.p)])] (.agg [.d (.int .i64 r.1.Kind),.d (.int .i64 r.1.At),.d (.int .i64 r.1.End)]) [(9000,.box 97 [.d (slD encByte a0.b),.d (.int .i64 r.2.p)])]:=by
  refine effC_x tOk (fn:=Try.f44) (c:=codeOf Try.f44) rfl rfl ?_;unfold spec_l85Event_m at h;(conv=>whnf);obtain ⟨x1,hx1,h⟩:=bd_some h;refine seq_join tOk (fun s2=>⟨0,91,[(0,.ref 9000 0 0),(3,.ref 3 0 0),(4,.ref 4 0 0),(5,.d (.int .i64 s2.2))],[],[(4,.box 53 [.d (.int .i64 0),.d (.int .i64 0),.d (.int .i64 0)]),(3,.box 29 [.d (slD TreeBridge.enc a1.Bridges),.d (slD TreeLink.enc a1.Links),.d (slD encInt a1.Down),.d (slD TreeSlot.enc a1.AtA),.d (slD TreeSlot.enc a1.AtB),.d (slD TreeWord.enc a1.Radio)]),(9000,.box 97 [.d (slD encByte a0.b),.d (.int .i64 s2.1)])],[⟨[(0,.ref 9000 0 0)],[]⟩]⟩) (fun s2=>x1 = s2) ?_ ?_
  · (conv=>whnf);refine andI hx1 (fun _ hx1=>?_) (fun _ hx1=>?_)
    · (conv=>whnf);obtain ⟨x4,hx4,hx1⟩:=bd_some hx1;refine cE [(9000,9000)] 0 (spec_l81Rd_pick_c hx4) ?_;(conv=>whnf);obtain rfl:=Option.some.inj hx1;exact ⟨_,rfl,leX []⟩
    · (conv=>whnf);obtain rfl:=Option.some.inj hx1;exact ⟨_,rfl,leX []⟩
  · rintro _ rfl;(conv=>whnf);refine seq_in tOk ?_;(conv=>whnf);obtain ⟨x5,hx5,h⟩:=bd_some h;refine cE [(9000,9000)] 0 (spec_l81Rd_pick_c hx5) ?_;(conv=>whnf);obtain ⟨x6,hx6,h⟩:=bd_some h;refine seq_join tOk (fun s7=>⟨0,91,[(0,.ref 9000 0 0),(3,.ref 3 0 0),(4,.ref 4 0 0),(5,.d (.int .i64 x1.2)),(16,.d (.int .i64 x5.1)),(17,.d (.bool s7))],[],[(4,.box 53 [.d (.int .i64 0),.d (.int .i64 0),.d (.int .i64 0)]),(3,.box 29 [.d (slD TreeBridge.enc a1.Bridges),.d (slD TreeLink.enc a1.Links),.d (slD encInt a1.Down),.d (slD TreeSlot.enc a1.AtA),.d (slD TreeSlot.enc a1.AtB),.d (slD TreeWord.enc a1.Radio)]),(9000,.box 97 [.d (slD encByte a0.b),.d (.int .i64 x5.2.p)])],[⟨[(0,.ref 9000 0 0)],[]⟩]⟩) (fun s7=>x6 = s7) ?_ ?_
    · (conv=>whnf);refine andI hx6 (fun _ hx6=>?_) (fun _ hx6=>?_)
      · (conv=>whnf);obtain rfl:=Option.some.inj hx6;exact ⟨_,rfl,leX []⟩
      · (conv=>whnf);refine andI hx6 (fun _ hx6=>?_) (fun _ hx6=>?_)
        · (conv=>whnf);obtain rfl:=Option.some.inj hx6;exact ⟨_,rfl,leX []⟩
        · (conv=>whnf);refine andI hx6 (fun _ hx6=>?_) (fun _ hx6=>?_)
          · (conv=>whnf);obtain rfl:=Option.some.inj hx6;exact ⟨_,rfl,leX []⟩
          · (conv=>whnf);refine andI hx6 (fun _ hx6=>?_) (fun _ hx6=>?_)
            · (conv=>whnf);obtain rfl:=Option.some.inj hx6;exact ⟨_,rfl,leX []⟩
            · (conv=>whnf);obtain rfl:=Option.some.inj hx6;exact ⟨_,rfl,leX []⟩
    · rintro _ rfl;(conv=>whnf);refine andI h (fun _ h=>?_) (fun _ h=>?_)
      · (conv=>whnf);obtain ⟨x9,hx9,h⟩:=bd_some h;refine cE [(9000,9000)] 0 (spec_l81Rd_pick_c hx9) ?_;(conv=>whnf);obtain rfl:=Option.some.inj h;exact lfE []
      · (conv=>whnf);obtain ⟨x10,hx10,h⟩:=bd_some h;refine seq_join tOk (fun s11=>⟨0,91,[(0,.ref 9000 0 0),(3,.ref 3 0 0),(4,.ref 4 0 0),(5,.d (.int .i64 x1.2)),(16,.d (.int .i64 x5.1)),(27,.d (.bool s11))],[],[(4,.box 53 [.d (.int .i64 0),.d (.int .i64 0),.d (.int .i64 0)]),(3,.box 29 [.d (slD TreeBridge.enc a1.Bridges),.d (slD TreeLink.enc a1.Links),.d (slD encInt a1.Down),.d (slD TreeSlot.enc a1.AtA),.d (slD TreeSlot.enc a1.AtB),.d (slD TreeWord.enc a1.Radio)]),(9000,.box 97 [.d (slD encByte a0.b),.d (.int .i64 x5.2.p)])],[⟨[(0,.ref 9000 0 0)],[]⟩]⟩) (fun s11=>x10 = s11) ?_ ?_
        · (conv=>whnf);refine andI hx10 (fun _ hx10=>?_) (fun _ hx10=>?_)
          · (conv=>whnf);obtain rfl:=Option.some.inj hx10;exact ⟨_,rfl,leX []⟩
          · (conv=>whnf);refine andI hx10 (fun _ hx10=>?_) (fun _ hx10=>?_)
            · (conv=>whnf);obtain rfl:=Option.some.inj hx10;exact ⟨_,rfl,leX []⟩
            · (conv=>whnf);refine andI hx10 (fun _ hx10=>?_) (fun _ hx10=>?_)
              · (conv=>whnf);obtain rfl:=Option.some.inj hx10;exact ⟨_,rfl,leX []⟩
              · (conv=>whnf);obtain rfl:=Option.some.inj hx10;exact ⟨_,rfl,leX []⟩
        · rintro _ rfl;(conv=>whnf);refine andI h (fun _ h=>?_) (fun _ h=>?_)
          · (conv=>whnf);obtain ⟨x13,hx13,h⟩:=bd_some h;refine cE [(9000,9000)] 0 (spec_l81Rd_pick_c hx13) ?_;(conv=>whnf);obtain rfl:=Option.some.inj h;exact lfE []
          · (conv=>whnf);refine andI h (fun _ h=>?_) (fun _ h=>?_)
            · (conv=>whnf);obtain ⟨x14,hx14,h⟩:=bd_some h;refine cE [(9000,9000)] 0 (spec_l81Rd_pick_c hx14) ?_;(conv=>whnf);obtain rfl:=Option.some.inj h;exact lfE []
            · (conv=>whnf);refine andI h (fun _ h=>?_) (fun _ h=>?_)
              · (conv=>whnf);obtain ⟨x15,hx15,h⟩:=bd_some h;refine cE [(9000,9000)] 0 (spec_l81Rd_pick_c hx15) ?_;(conv=>whnf);obtain rfl:=Option.some.inj h;exact lfE []
              · (conv=>whnf);refine andI h (fun _ h=>?_) (fun _ h=>?_)
                · (conv=>whnf);obtain rfl:=Option.some.inj h;exact lfE []
                · (conv=>whnf);refine andI h (fun _ h=>?_) (fun _ h=>?_)
                  · (conv=>whnf);refine seq_in tOk ?_;(conv=>whnf);obtain ⟨x16,hx16,h⟩:=bd_some h;refine cE [(9000,9000)] 0 (spec_l81Rd_pick_c hx16) ?_;(conv=>whnf);refine andI h (fun _ h=>?_) (fun _ h=>?_)
                    · (conv=>whnf);obtain ⟨x17,hx17,h⟩:=bd_some h;refine cE [(9000,9000)] 0 (spec_l81Rd_pick_c hx17) ?_;(conv=>whnf);obtain rfl:=Option.some.inj h;exact lfE []
                    · (conv=>whnf);obtain ⟨x18,hx18,h⟩:=bd_some h;refine cE [(9000,9000)] 0 (spec_l81Rd_pick_c hx18) ?_;(conv=>whnf);obtain rfl:=Option.some.inj h;exact lfE []
                  · (conv=>whnf);refine andI h (fun _ h=>?_) (fun _ h=>?_)
                    · (conv=>whnf);obtain ⟨x19,hx19,h⟩:=bd_some h;refine cE [(9000,9000)] 0 (spec_l81Rd_pick_c hx19) ?_;(conv=>whnf);obtain rfl:=Option.some.inj h;exact lfE []
                    · (conv=>whnf);refine andI h (fun _ h=>?_) (fun _ h=>?_)
                      · (conv=>whnf);obtain rfl:=Option.some.inj h;exact lfE []
                      · (conv=>whnf);obtain rfl:=Option.some.inj h;exact lfE []
noncomputable def spec_l83Open_m (a0:TreeWorld) (a1:Int):Option (Bool) :=
 bd (spec_l82Has_m a0.Down a1) fun x1 =>
 gd ((!x1) = true → ((0:Int)≤a1∧a1<((a0.Links.length:Nat):Int))) <|
 gd ((!x1) = true → ((0:Int)≤(a0.Links.getD a1.toNat default).A∧(a0.Links.getD a1.toNat default).A<((a0.Bridges.length:Nat):Int))) <|
 gd (((!x1) && (a0.Bridges.getD (((a0.Links.getD a1.toNat default).A).toNat) default).Up) = true → ((0:Int)≤a1∧a1<((a0.Links.length:Nat):Int))) <|
 gd (((!x1) && (a0.Bridges.getD (((a0.Links.getD a1.toNat default).A).toNat) default).Up) = true → ((0:Int)≤(a0.Links.getD a1.toNat default).B∧(a0.Links.getD a1.toNat default).B<((a0.Bridges.length:Nat):Int))) <|
 some (((!x1) && (a0.Bridges.getD (((a0.Links.getD a1.toNat default).A).toNat) default).Up) && (a0.Bridges.getD (((a0.Links.getD a1.toNat default).B).toNat) default).Up)
theorem spec_l83Open_c {a0:TreeWorld} {a1:Int} {r:Bool} (h:spec_l83Open_m a0 a1 = some r):PureC Try.prog 111 [.agg [.d (slD TreeBridge.enc a0.Bridges),.d (slD TreeLink.enc a0.Links),.d (slD encInt a0.Down),.d (slD TreeSlot.enc a0.AtA),.d (slD TreeSlot.enc a0.AtB),.d (slD TreeWord.enc a0.Radio)],.d (.int .i64 a1)] (.d (.bool r)) []:=by
  refine pureC_x tOk (fn:=Try.f111) (c:=codeOf Try.f111) rfl rfl ?_;unfold spec_l83Open_m at h;(conv=>whnf);obtain ⟨x1,hx1,h⟩:=bd_some h;obtain ⟨g2,h⟩:=gd_some h;obtain ⟨g3,h⟩:=gd_some h;obtain ⟨g4,h⟩:=gd_some h;obtain ⟨g5,h⟩:=gd_some h;refine draw_u tOk [.u 3 0 (.d (.bool x1)) []] 32 [] [0,1,0,7,15,31,63,127,63,319,63,1855,3903,7999,16383,32767,65535,131071,262143,524287,1048575,524287,2621439,524287,15204351,31981567,65535999,134217727,268435455,536870911,1073741823,2147483647] [] ?_;(conv=>whnf);refine And.intro (callD_any (spec_l82Has_c hx1) (by kernel_rfl)) ?_;(conv=>whnf);refine And.intro g2 ?_;clear g2;(conv=>whnf);refine And.intro g3 ?_;clear g3;(conv=>whnf);refine And.intro g4 ?_;clear g4;(conv=>whnf);refine And.intro g5 ?_;clear g5;(conv=>whnf);refine And.intro (by kernel_rfl) ?_;(conv=>whnf);obtain rfl:=Option.some.inj h;exact lfP []
noncomputable def spec_l83End_m (a0:TreeWorld) (a1:Int) (a2:Int):Option (Int) :=
(if (a2 == 0) = true then
 gd ((0:Int)≤a1∧a1<((a0.Links.length:Nat):Int)) <|
 some ((a0.Links.getD a1.toNat default).A)
else
 gd ((0:Int)≤a1∧a1<((a0.Links.length:Nat):Int)) <|
 some ((a0.Links.getD a1.toNat default).B))
theorem spec_l83End_c {a0:TreeWorld} {a1:Int} {a2:Int} {r:Int} (h:spec_l83End_m a0 a1 a2 = some r):PureC Try.prog 135 [.agg [.d (slD TreeBridge.enc a0.Bridges),.d (slD TreeLink.enc a0.Links),.d (slD encInt a0.Down),.d (slD TreeSlot.enc a0.AtA),.d (slD TreeSlot.enc a0.AtB),.d (slD TreeWord.enc a0.Radio)],.d (.int .i64 a1),.d (.int .i64 a2)] (.d (.int .i64 r)) []:=by
  refine pureC_x tOk (fn:=Try.f135) (c:=codeOf Try.f135) rfl rfl ?_;unfold spec_l83End_m at h;(conv=>whnf);refine seq_in tOk ?_;(conv=>whnf);refine andI h (fun _ h=>?_) (fun _ h=>?_)
  · (conv=>whnf);refine gdI h (fun h=>?_);(conv=>whnf);obtain rfl:=Option.some.inj h;exact lfP []
  · (conv=>whnf);refine gdI h (fun h=>?_);(conv=>whnf);obtain rfl:=Option.some.inj h;exact lfP []
noncomputable def spec_l83Word_m (a0:TreeWorld) (a1:Int) (a2:Int):Option (TreeWord) :=
 bd (spec_l83End_m a0 a1 (IntKind.i64.wrap (1 - a2))) fun x1 =>
 gd ((0:Int)≤x1∧x1<((a0.Bridges.length:Nat):Int)) <|
 some (⟨a1,a2,(((a0.Bridges.getD x1.toNat default).Mind).Vector)⟩:TreeWord)
theorem spec_l83Word_c {a0:TreeWorld} {a1:Int} {a2:Int} {r:TreeWord} (h:spec_l83Word_m a0 a1 a2 = some r):PureC Try.prog 113 [.agg [.d (slD TreeBridge.enc a0.Bridges),.d (slD TreeLink.enc a0.Links),.d (slD encInt a0.Down),.d (slD TreeSlot.enc a0.AtA),.d (slD TreeSlot.enc a0.AtB),.d (slD TreeWord.enc a0.Radio)],.d (.int .i64 a1),.d (.int .i64 a2)] (.agg [.d (.int .i64 r.Link),.d (.int .i64 r.End),.d (.int .i64 r.Vector.Root),.d (.int .i64 r.Vector.Cost),.d (.int .i64 r.Vector.Age)]) []:=by
  refine pureC_x tOk (fn:=Try.f113) (c:=codeOf Try.f113) rfl rfl ?_;unfold spec_l83Word_m at h;(conv=>whnf);obtain ⟨x1,hx1,h⟩:=bd_some h;obtain ⟨g2,h⟩:=gd_some h;refine draw_u tOk [.u 8 0 (.d (.int .i64 x1)) []] 14 [] [0,0,0,4,0,0,0,64,240,508,1020,2044,4092,8191] [16383] ?_;(conv=>whnf);refine And.intro (callD_any (spec_l83End_c hx1) (by kernel_rfl)) ?_;(conv=>whnf);refine And.intro g2 ?_;clear g2;(conv=>whnf);refine And.intro (by kernel_rfl) ?_;(conv=>whnf);obtain rfl:=Option.some.inj h;exact lfP []
noncomputable def spec_l83Put_m (a0:TreeWorld) (a1:TreeWord):Option (TreeWorld) :=
(if (decide (((a0.Radio.length:Nat):Int)<12)) = true then
 gd (((a0.Radio.length)+(([a1]:List TreeWord).length)) * (40+1)≤70368744177664) <|
 some ({ a0 with Radio:=(a0.Radio ++ ([a1]:List TreeWord)) })
else
 some a0)
theorem spec_l83Put_c {a0:TreeWorld} {a1:TreeWord} {r:TreeWorld} (h:spec_l83Put_m a0 a1 = some r):EffC Try.prog 128 [.agg [.d (slD TreeBridge.enc a0.Bridges),.d (slD TreeLink.enc a0.Links),.d (slD encInt a0.Down),.d (slD TreeSlot.enc a0.AtA),.d (slD TreeSlot.enc a0.AtB),.osl 9000 0 a0.Radio.length],.agg [.d (.int .i64 a1.Link),.d (.int .i64 a1.End),.d (.int .i64 a1.Vector.Root),.d (.int .i64 a1.Vector.Cost),.d (.int .i64 a1.Vector.Age)]] [(9000,.arr 76 5 a0.Radio.length (rows TreeWord.enc a0.Radio))] (.agg [.d (slD TreeBridge.enc r.Bridges),.d (slD TreeLink.enc r.Links),.d (slD encInt r.Down),.d (slD TreeSlot.enc r.AtA),.d (slD TreeSlot.enc r.AtB),.osl 5001 0 r.Radio.length]) [(5001,.arr 76 5 r.Radio.length (rows TreeWord.enc r.Radio))]:=by
  refine effC_x tOk (fn:=Try.f128) (c:=codeOf Try.f128) rfl rfl ?_;unfold spec_l83Put_m at h;(conv=>whnf);refine seq_in tOk ?_;(conv=>whnf);refine andI h (fun _ h=>?_) (fun _ h=>?_)
  · (conv=>whnf);refine bldS (enc:=TreeWord.enc) ([a1]:List TreeWord) ?_;(conv=>whnf);refine gdI h (fun h=>?_);refine appS (enc:=TreeWord.enc) (xs:=a0.Radio) (ys:=([a1]:List TreeWord)) ?_;(conv=>whnf);obtain rfl:=Option.some.inj h;exact lfE [.s [(5001,9000),(9000,5001)]]
  · (conv=>whnf);obtain rfl:=Option.some.inj h;exact lfE [.s [(5001,9000),(9000,5001)]]
noncomputable def spec_l83Say_m (a0:TreeWorld) (a1:TreeEvent):Option (TreeWorld) :=
 bd (spec_l81In_m a1.At 0 (IntKind.i64.wrap (((a0.Links.length:Nat):Int) - 1))) fun x1 =>
 bd (gcall ((!x1) = false) (spec_l81In_m a1.End 0 1)) fun x2 =>
 bd (gcall (((!x1) || (!x2)) = false) (spec_l83Open_m a0 a1.At)) fun x3 =>
(if (((!x1) || (!x2)) || (!x3)) = true then
 some a0
else
 bd (spec_l83Word_m a0 a1.At a1.End) fun x4 =>
 bd (spec_l83Put_m a0 x4) fun x5 =>
 some x5)
theorem spec_l83Say_c {a0:TreeWorld} {a1:TreeEvent} {r:TreeWorld} (h:spec_l83Say_m a0 a1 = some r):EffC Try.prog 99 [.agg [.d (slD TreeBridge.enc a0.Bridges),.d (slD TreeLink.enc a0.Links),.d (slD encInt a0.Down),.d (slD TreeSlot.enc a0.AtA),.d (slD TreeSlot.enc a0.AtB),.osl 9000 0 a0.Radio.length],.agg [.d (.int .i64 a1.Kind),.d (.int .i64 a1.At),.d (.int .i64 a1.End)]] [(9000,.arr 76 5 a0.Radio.length (rows TreeWord.enc a0.Radio))] (.agg [.d (slD TreeBridge.enc r.Bridges),.d (slD TreeLink.enc r.Links),.d (slD encInt r.Down),.d (slD TreeSlot.enc r.AtA),.d (slD TreeSlot.enc r.AtB),.d (slD TreeWord.enc r.Radio)]) []:=by
  refine effC_x tOk (fn:=Try.f99) (c:=codeOf Try.f99) rfl rfl ?_;unfold spec_l83Say_m at h;(conv=>whnf);refine seq_in tOk ?_;(conv=>whnf);obtain ⟨x1,hx1,h⟩:=bd_some h;refine cC 0 (spec_l81In_c hx1) ?_;clear hx1;(conv=>whnf);obtain ⟨x2,hx2,h⟩:=bd_some h;refine callG_m rfl rfl rfl rfl rfl rfl (by intro c0; exact spec_l81In_c (gcall_some hx2 c0)) ?_;(conv=>whnf);obtain ⟨x3,hx3,h⟩:=bd_some h;refine callG_m rfl rfl rfl rfl rfl rfl (by intro c0; exact spec_l83Open_c (gcall_some hx3 c0)) ?_;(conv=>whnf);refine andI h (fun _ h=>?_) (fun _ h=>?_)
  · (conv=>whnf);obtain rfl:=Option.some.inj h;exact lfE [.f [9000]]
  · (conv=>whnf);obtain ⟨x4,hx4,h⟩:=bd_some h;obtain ⟨x5,hx5,h⟩:=bd_some h;refine draw_t tOk [.r 6 [(9000,.arr 76 5 a0.Radio.length (rows TreeWord.enc a0.Radio))] (.agg [.d (.int .i64 x4.Link),.d (.int .i64 x4.End),.d (.int .i64 x4.Vector.Root),.d (.int .i64 x4.Vector.Cost),.d (.int .i64 x4.Vector.Age)]) [],.e 7 [(9000,.arr 76 5 a0.Radio.length (rows TreeWord.enc a0.Radio))] (.agg [.d (slD TreeBridge.enc x5.Bridges),.d (slD TreeLink.enc x5.Links),.d (slD encInt x5.Down),.d (slD TreeSlot.enc x5.AtA),.d (slD TreeSlot.enc x5.AtB),.osl 6001 0 x5.Radio.length]) [(6001,.arr 76 5 x5.Radio.length (rows TreeWord.enc x5.Radio))] []] 8 [] [0,0,0,4,0,16,62,127] [255] [9000] ?_;(conv=>whnf);refine And.intro (eD [(9000,9000)] 0 ((spec_l83Word_c hx4).effV (args:=[.agg [.d (slD TreeBridge.enc a0.Bridges),.d (slD TreeLink.enc a0.Links),.d (slD encInt a0.Down),.d (slD TreeSlot.enc a0.AtA),.d (slD TreeSlot.enc a0.AtB),.osl 9000 0 a0.Radio.length],.d (.int .i64 a1.At),.d (.int .i64 a1.End)]) (bs:=[(9000,.arr 76 5 a0.Radio.length (rows TreeWord.enc a0.Radio))]) rfl (by kernel_rfl) rfl rfl rfl)) ?_;(conv=>whnf);refine And.intro (eD [(9000,9000)] 1000 (spec_l83Put_c hx5)) ?_;(conv=>whnf);refine And.intro (by kernel_rfl) ?_;(conv=>whnf);obtain rfl:=Option.some.inj h;exact lfE [.f [6001]]
noncomputable def spec_l83Out_m (a0:TreeWorld) (a1:Int):Option (TreeWorld) :=
 gd ((0:Int)≤(0:Int)∧(0:Int)≤a1∧a1≤((a0.Radio.length:Nat):Int)) <|
 gd (((0)+(a1.toNat)) * (40+1)≤70368744177664) <|
 gd ((0:Int)≤IntKind.i64.wrap (a1+1)∧IntKind.i64.wrap (a1+1)≤((a0.Radio.length:Nat):Int)∧((a0.Radio.length:Nat):Int)≤((a0.Radio.length:Nat):Int)) <|
 gd ((((a0.Radio.take a1.toNat).length)+((dsub ((a0.Radio.length:Nat):Int) (IntKind.i64.wrap (a1+1))))) * (40+1)≤70368744177664) <|
 some ({ a0 with Radio:=((a0.Radio.take a1.toNat) ++ (((a0.Radio).take ((IntKind.i64.wrap (a1+1)).toNat+(dsub ((a0.Radio.length:Nat):Int) (IntKind.i64.wrap (a1+1))))).drop ((IntKind.i64.wrap (a1+1)).toNat))) })
theorem spec_l83Out_c {a0:TreeWorld} {a1:Int} {r:TreeWorld} (h:spec_l83Out_m a0 a1 = some r):EffC Try.prog 129 [.agg [.d (slD TreeBridge.enc a0.Bridges),.d (slD TreeLink.enc a0.Links),.d (slD encInt a0.Down),.d (slD TreeSlot.enc a0.AtA),.d (slD TreeSlot.enc a0.AtB),.d (slD TreeWord.enc a0.Radio)],.d (.int .i64 a1)] [] (.agg [.d (slD TreeBridge.enc r.Bridges),.d (slD TreeLink.enc r.Links),.d (slD encInt r.Down),.d (slD TreeSlot.enc r.AtA),.d (slD TreeSlot.enc r.AtB),.osl 5001 0 r.Radio.length]) [(5001,.arr 76 5 r.Radio.length (rows TreeWord.enc r.Radio))]:=by
  refine effC_x tOk (fn:=Try.f129) (c:=codeOf Try.f129) rfl rfl ?_;unfold spec_l83Out_m at h;(conv=>whnf);obtain ⟨g1,h⟩:=gd_some h;obtain ⟨g2,h⟩:=gd_some h;obtain ⟨g3,h⟩:=gd_some h;refine draw_u tOk [] 11 [] [0,0,2,0,14,31,0,64,0,256,960] [2047,4095,8191] ?_;(conv=>whnf);refine And.intro ⟨g1,.inr rfl⟩ ?_;(conv=>whnf);refine And.intro g2 ?_;clear g2;refine appN (enc:=TreeWord.enc) (ys:=a0.Radio.take a1.toNat) ?_;(conv=>whnf);refine And.intro ⟨g3,.inr rfl⟩ ?_;(conv=>whnf);refine And.intro (by kernel_rfl) ?_;(conv=>whnf);refine gdI h (fun h=>?_);refine appS (enc:=TreeWord.enc) (xs:=(a0.Radio.take a1.toNat)) (ys:=((a0.Radio).take ((IntKind.i64.wrap (a1+1)).toNat+(dsub ((a0.Radio.length:Nat):Int) (IntKind.i64.wrap (a1+1))))).drop ((IntKind.i64.wrap (a1+1)).toNat)) ?_;(conv=>whnf);obtain rfl:=Option.some.inj h;exact lfE [.s [(10,5001),(5001,10)]]
noncomputable def spec_l82At_m (a0:TreeWorld) (a1:Int) (a2:Int):Option (TreeVector × Int) :=
 gd ((0:Int)≤a2∧a2<((a0.Links.length:Nat):Int)) <|
(if (a1 == ((a0.Links.getD a2.toNat default).A)) = true then
 gd ((0:Int)≤a2∧a2<((a0.AtA.length:Nat):Int)) <|
 some (((a0.AtA.getD a2.toNat default).Vector),(a0.Links.getD a2.toNat default).B)
else
(if (a1 == ((a0.Links.getD a2.toNat default).B)) = true then
 gd ((0:Int)≤a2∧a2<((a0.AtB.length:Nat):Int)) <|
 some (((a0.AtB.getD a2.toNat default).Vector),(a0.Links.getD a2.toNat default).A)
else
 some ((⟨0,0,0⟩:TreeVector),-1)))
theorem spec_l82At_c {a0:TreeWorld} {a1:Int} {a2:Int} {r:TreeVector × Int} (h:spec_l82At_m a0 a1 a2 = some r):PureC Try.prog 79 [.agg [.d (slD TreeBridge.enc a0.Bridges),.d (slD TreeLink.enc a0.Links),.d (slD encInt a0.Down),.d (slD TreeSlot.enc a0.AtA),.d (slD TreeSlot.enc a0.AtB),.d (slD TreeWord.enc a0.Radio)],.d (.int .i64 a1),.d (.int .i64 a2)] (.tup [.agg [.d (.int .i64 r.1.Root),.d (.int .i64 r.1.Cost),.d (.int .i64 r.1.Age)],.d (.int .i64 r.2)]) []:=by
  refine pureC_x tOk (fn:=Try.f79) (c:=codeOf Try.f79) rfl rfl ?_;unfold spec_l82At_m at h;(conv=>whnf);refine gdI h (fun h=>?_);(conv=>whnf);refine seq_in tOk ?_;(conv=>whnf);refine andI h (fun _ h=>?_) (fun _ h=>?_)
  · (conv=>whnf);obtain ⟨g2,h⟩:=gd_some h;refine draw_t tOk [.a 8 [(6,.box 39 [.d (.int .i64 0),.d (.int .i64 0),.d (.int .i64 0)])] (.any) [(6,.box 39 [.d (.int .i64 (((a0.AtA.getD a2.toNat default).Vector).Root)),.d (.int .i64 (((a0.AtA.getD a2.toNat default).Vector).Cost)),.d (.int .i64 (((a0.AtA.getD a2.toNat default).Vector).Age))])]] 10 [] [0,1,0,7,15,31,0,64,63,511] [] [6] ?_;(conv=>whnf);refine And.intro g2 ?_;clear g2;(conv=>whnf);refine And.intro (by (conv=>whnf); exact ⟨rfl,rfl⟩) ?_;(conv=>whnf);refine And.intro (by kernel_rfl) ?_;(conv=>whnf);obtain rfl:=Option.some.inj h;exact lfP []
  · (conv=>whnf);refine andI h (fun _ h=>?_) (fun _ h=>?_)
    · (conv=>whnf);obtain ⟨g3,h⟩:=gd_some h;refine draw_t tOk [.a 8 [(6,.box 39 [.d (.int .i64 0),.d (.int .i64 0),.d (.int .i64 0)])] (.any) [(6,.box 39 [.d (.int .i64 (((a0.AtB.getD a2.toNat default).Vector).Root)),.d (.int .i64 (((a0.AtB.getD a2.toNat default).Vector).Cost)),.d (.int .i64 (((a0.AtB.getD a2.toNat default).Vector).Age))])]] 10 [] [0,1,0,7,15,31,0,64,63,511] [] [6] ?_;(conv=>whnf);refine And.intro g3 ?_;clear g3;(conv=>whnf);refine And.intro (by (conv=>whnf); exact ⟨rfl,rfl⟩) ?_;(conv=>whnf);refine And.intro (by kernel_rfl) ?_;(conv=>whnf);obtain rfl:=Option.some.inj h;exact lfP []
    · (conv=>whnf);obtain rfl:=Option.some.inj h;exact lfP []
noncomputable def spec_l82Far_m (a0:TreeVector) (a1:Int):Option (TreeVector) :=
(if (((a0.Root == 0) || (a0.Age == 10)) || (decide ((IntKind.i64.wrap (a0.Cost+a1)) > 1000))) = true then
 some (⟨0,0,0⟩:TreeVector)
else
 some (⟨a0.Root,IntKind.i64.wrap (a0.Cost+a1),IntKind.i64.wrap (a0.Age+1)⟩:TreeVector))
theorem spec_l82Far_c {a0:TreeVector} {a1:Int} {r:TreeVector} (h:spec_l82Far_m a0 a1 = some r):PureC Try.prog 109 [.agg [.d (.int .i64 a0.Root),.d (.int .i64 a0.Cost),.d (.int .i64 a0.Age)],.d (.int .i64 a1)] (.agg [.d (.int .i64 r.Root),.d (.int .i64 r.Cost),.d (.int .i64 r.Age)]) []:=by
  refine pureC_x tOk (fn:=Try.f109) (c:=codeOf Try.f109) rfl rfl ?_;unfold spec_l82Far_m at h;(conv=>whnf);refine seq_in tOk ?_;(conv=>whnf);refine andI h (fun _ h=>?_) (fun _ h=>?_)
  · (conv=>whnf);obtain rfl:=Option.some.inj h;exact lfP []
  · (conv=>whnf);obtain rfl:=Option.some.inj h;exact lfP []
noncomputable def spec_l82Better_m (a0:TreeVector) (a1:Int) (a2:TreeVector) (a3:Int):Option (Bool) :=
(if (a0.Root != a2.Root) = true then
 some (decide (a0.Root<a2.Root))
else
(if (a0.Cost != a2.Cost) = true then
 some (decide (a0.Cost<a2.Cost))
else
 some (decide (a1<a3))))
theorem spec_l82Better_c {a0:TreeVector} {a1:Int} {a2:TreeVector} {a3:Int} {r:Bool} (h:spec_l82Better_m a0 a1 a2 a3 = some r):PureC Try.prog 110 [.agg [.d (.int .i64 a0.Root),.d (.int .i64 a0.Cost),.d (.int .i64 a0.Age)],.d (.int .i64 a1),.agg [.d (.int .i64 a2.Root),.d (.int .i64 a2.Cost),.d (.int .i64 a2.Age)],.d (.int .i64 a3)] (.d (.bool r)) []:=by
  refine pureC_x tOk (fn:=Try.f110) (c:=codeOf Try.f110) rfl rfl ?_;unfold spec_l82Better_m at h;(conv=>whnf);refine seq_in tOk ?_;(conv=>whnf);refine andI h (fun _ h=>?_) (fun _ h=>?_)
  · (conv=>whnf);obtain rfl:=Option.some.inj h;exact lfP []
  · (conv=>whnf);refine seq_in tOk ?_;(conv=>whnf);refine andI h (fun _ h=>?_) (fun _ h=>?_)
    · (conv=>whnf);obtain rfl:=Option.some.inj h;exact lfP []
    · (conv=>whnf);obtain rfl:=Option.some.inj h;exact lfP []
noncomputable def spec_l82Think_m (a0:TreeWorld) (a1:Int):Option (TreeMind) :=
 gd ((0:Int)≤a1∧a1<((a0.Bridges.length:Nat):Int)) <|
 bd (spec_l82Self_m ((a0.Bridges.getD a1.toNat default).Id)) fun x2 =>
 bd (lp (σ:=Int × Int × Int × Int × Int × Int) (β:=(Int × Int × Int × Int)) (fun s3 =>
(if (decide (s3.2.2.2.2.2<((a0.Links.length:Nat):Int))) = true then
 bd (spec_l82At_m a0 a1 s3.2.2.2.2.2) fun x7 =>
(if (decide (x7.2<0)) = true then
 some (.inl (s3.1,s3.2.1,s3.2.2.1,s3.2.2.2.1,s3.2.2.2.2.1,IntKind.i64.wrap (s3.2.2.2.2.2+1)))
else
 gd ((0:Int)≤s3.2.2.2.2.2∧s3.2.2.2.2.2<((a0.Links.length:Nat):Int)) <|
 bd (spec_l82Far_m x7.1 ((a0.Links.getD s3.2.2.2.2.2.toNat default).Cost)) fun x9 =>
 gd ((decide (x9.Root > 0)) = true → ((0:Int)≤x7.2∧x7.2<((a0.Bridges.length:Nat):Int))) <|
 bd (gcall ((decide (x9.Root > 0)) = true) (spec_l82Better_m x9 ((a0.Bridges.getD x7.2.toNat default).Id) (⟨s3.1,s3.2.1,s3.2.2.1⟩:TreeVector) s3.2.2.2.2.1)) fun x11 =>
(if ((decide (x9.Root > 0)) && x11) = true then
 gd ((0:Int)≤x7.2∧x7.2<((a0.Bridges.length:Nat):Int)) <|
 some (.inl (x9.Root,x9.Cost,x9.Age,s3.2.2.2.2.2,(a0.Bridges.getD x7.2.toNat default).Id,IntKind.i64.wrap (s3.2.2.2.2.2+1)))
else
 some (.inl (s3.1,s3.2.1,s3.2.2.1,s3.2.2.2.1,s3.2.2.2.2.1,IntKind.i64.wrap (s3.2.2.2.2.2+1)))))
else
 some (.inr (s3.1,s3.2.1,s3.2.2.1,s3.2.2.2.1)))) (x2.Vector.Root,x2.Vector.Cost,x2.Vector.Age,x2.Link,0,0)) fun x6 =>
 some (⟨(⟨x6.1,x6.2.1,x6.2.2.1⟩:TreeVector),x6.2.2.2⟩:TreeMind)
theorem spec_l82Think_c {a0:TreeWorld} {a1:Int} {r:TreeMind} (h:spec_l82Think_m a0 a1 = some r):PureC Try.prog 63 [.agg [.d (slD TreeBridge.enc a0.Bridges),.d (slD TreeLink.enc a0.Links),.d (slD encInt a0.Down),.d (slD TreeSlot.enc a0.AtA),.d (slD TreeSlot.enc a0.AtB),.d (slD TreeWord.enc a0.Radio)],.d (.int .i64 a1)] (.agg [.d (.int .i64 r.Vector.Root),.d (.int .i64 r.Vector.Cost),.d (.int .i64 r.Vector.Age),.d (.int .i64 r.Link)]) []:=by
  refine pureC_x tOk (fn:=Try.f63) (c:=codeOf Try.f63) rfl rfl ?_;unfold spec_l82Think_m at h;(conv=>whnf);refine gdI h (fun h=>?_);(conv=>whnf);obtain ⟨x2,hx2,h⟩:=bd_some h;refine cC 0 (spec_l82Self_c hx2) ?_;clear hx2;(conv=>whnf);refine seq_in tOk ?_;(conv=>whnf);obtain ⟨x6,hx6,h⟩:=bd_some h;refine loop_m tOk hx6 (fun s3=>⟨0,68,[(1,.d (.int .i64 a1)),(2,.ref 2 0 0),(4,.ref 4 0 0),(5,.ref 5 0 0),(6,.d (.int .i64 s3.2.2.2.2.1)),(7,.d (.int .i64 s3.2.2.2.2.2))],[],[(5,.box 41 [.d (.int .i64 s3.1),.d (.int .i64 s3.2.1),.d (.int .i64 s3.2.2.1),.d (.int .i64 s3.2.2.2.1)]),(4,.box 41 [.d (.int .i64 0),.d (.int .i64 0),.d (.int .i64 0),.d (.int .i64 0)]),(2,.box 29 [.d (slD TreeBridge.enc a0.Bridges),.d (slD TreeLink.enc a0.Links),.d (slD encInt a0.Down),.d (slD TreeSlot.enc a0.AtA),.d (slD TreeSlot.enc a0.AtB),.d (slD TreeWord.enc a0.Radio)])],[]⟩) ?_ ?_
  · exact leX []
  · clear hx6;intro s3 y4 g5 hy4;(conv=>whnf);refine seq_in tOk ?_;(conv=>whnf);refine andI g5 (fun _ g5=>?_) (fun _ g5=>?_)
    · (conv=>whnf);refine seq_in tOk ?_;(conv=>whnf);obtain ⟨x7,hx7,g5⟩:=bd_some g5;refine cC 0 (spec_l82At_c hx7) ?_;clear hx7;(conv=>whnf);refine seq_in tOk ?_;(conv=>whnf);refine andI g5 (fun _ g5=>?_) (fun _ g5=>?_)
      · (conv=>whnf);obtain rfl:=Option.some.inj g5;exact ⟨_,rfl,leX []⟩
      · (conv=>whnf);obtain ⟨g8,g5⟩:=gd_some g5;obtain ⟨x9,hx9,g5⟩:=bd_some g5;refine draw_u tOk [.u 7 0 (.agg [.d (.int .i64 x9.Root),.d (.int .i64 x9.Cost),.d (.int .i64 x9.Age)]) []] 9 [] [0,0,2,0,14,30,62,127,0] [511] ?_;(conv=>whnf);refine And.intro g8 ?_;clear g8;(conv=>whnf);refine And.intro (callD_any (spec_l82Far_c hx9) (by kernel_rfl)) ?_;(conv=>whnf);refine And.intro (by kernel_rfl) ?_;(conv=>whnf);obtain ⟨g10,g5⟩:=gd_some g5;obtain ⟨x11,hx11,g5⟩:=bd_some g5;refine draw_u tOk [.u 14 0 (.d (.bool x11)) []] 16 [] [0,1,3,7,15,15,47,15,239,495,1007,15,2063,15,16383,32767] [] ?_;(conv=>whnf);refine And.intro g10 ?_;clear g10;(conv=>whnf);refine And.intro (callDG_if rfl rfl rfl rfl (by intro c0; exact spec_l82Better_c (gcall_some hx11 c0))) ?_;(conv=>whnf);refine And.intro (by kernel_rfl) ?_;(conv=>whnf);refine andI g5 (fun _ g5=>?_) (fun _ g5=>?_)
        · (conv=>whnf);refine gdI g5 (fun g5=>?_);(conv=>whnf);obtain rfl:=Option.some.inj g5;exact ⟨_,rfl,leX []⟩
        · (conv=>whnf);obtain rfl:=Option.some.inj g5;exact ⟨_,rfl,leX []⟩
    · (conv=>whnf);obtain rfl:=Option.some.inj g5;obtain rfl:=hy4 _ rfl;obtain rfl:=Option.some.inj h;exact lfP []
noncomputable def spec_l83Thinks_m (a0:TreeWorld) (a1:Int):Option (TreeWorld) :=
 gd ((0:Int)≤a1∧a1<((a0.Bridges.length:Nat):Int)) <|
(if (a0.Bridges.getD a1.toNat default).Up = true then
 bd (spec_l82Think_m a0 a1) fun x2 =>
 gd ((0:Int)≤a1∧a1<((a0.Bridges.length:Nat):Int)) <|
 some ({ a0 with Bridges:=a0.Bridges.set a1.toNat ({ (a0.Bridges.getD a1.toNat default) with Mind:=x2 }) })
else
 some a0)
theorem spec_l83Thinks_c {a0:TreeWorld} {a1:Int} {r:TreeWorld} (h:spec_l83Thinks_m a0 a1 = some r):EffC Try.prog 131 [.agg [.osl 9000 0 a0.Bridges.length,.d (slD TreeLink.enc a0.Links),.d (slD encInt a0.Down),.d (slD TreeSlot.enc a0.AtA),.d (slD TreeSlot.enc a0.AtB),.d (slD TreeWord.enc a0.Radio)],.d (.int .i64 a1)] [(9000,.arr 43 6 a0.Bridges.length (rows TreeBridge.enc a0.Bridges))] (.agg [.osl 5001 0 r.Bridges.length,.d (slD TreeLink.enc r.Links),.d (slD encInt r.Down),.d (slD TreeSlot.enc r.AtA),.d (slD TreeSlot.enc r.AtB),.d (slD TreeWord.enc r.Radio)]) [(5001,.arr 43 6 r.Bridges.length (rows TreeBridge.enc r.Bridges))]:=by
  refine effC_x tOk (fn:=Try.f131) (c:=codeOf Try.f131) rfl rfl ?_;unfold spec_l83Thinks_m at h;(conv=>whnf);refine seq_in tOk ?_;(conv=>whnf);refine gdI h (fun h=>?_);(conv=>whnf);refine andI h (fun _ h=>?_) (fun _ h=>?_)
  · (conv=>whnf);obtain ⟨x2,hx2,h⟩:=bd_some h;obtain ⟨g3,h⟩:=gd_some h;refine draw_u tOk [.u 5 0 (.agg [.d (.int .i64 x2.Vector.Root),.d (.int .i64 x2.Vector.Cost),.d (.int .i64 x2.Vector.Age),.d (.int .i64 x2.Link)]) []] 8 [] [0,1,0,0,0,24,63,127] [255] ?_;(conv=>whnf);refine And.intro (callD_any (spec_l82Think_c hx2) (by kernel_rfl)) ?_;(conv=>whnf);refine And.intro g3 ?_;clear g3;(conv=>whnf);refine And.intro (by kernel_rfl) ?_;(conv=>whnf);refine ⟨rows TreeBridge.enc (a0.Bridges.set a1.toNat ({ (a0.Bridges.getD a1.toNat default) with Mind:=x2 })),store_rows' lenA rfl,?_⟩;(conv=>whnf);obtain rfl:=Option.some.inj h;exact lfE [.s [(5001,9000),(9000,5001)]]
  · (conv=>whnf);obtain rfl:=Option.some.inj h;exact lfE [.s [(5001,9000),(9000,5001)]]
noncomputable def spec_l83Hear_m (a0:TreeWorld) (a1:TreeWord):Option (TreeWorld) :=
 bd (spec_l83End_m a0 a1.Link a1.End) fun x1 =>
 bd (spec_l82Has_m a0.Down a1.Link) fun x2 =>
 gd (x2 = false → ((0:Int)≤x1∧x1<((a0.Bridges.length:Nat):Int))) <|
(if (x2 || (!((a0.Bridges.getD x1.toNat default).Up))) = true then
 some a0
else
(if (a1.End == 0) = true then
 gd ((0:Int)≤a1.Link∧a1.Link<((a0.AtA.length:Nat):Int)) <|
 bd (spec_l83Thinks_m ({ a0 with AtA:=a0.AtA.set a1.Link.toNat (⟨a1.Vector,3⟩:TreeSlot) }) x1) fun x5 =>
 some x5
else
 gd ((0:Int)≤a1.Link∧a1.Link<((a0.AtB.length:Nat):Int)) <|
 bd (spec_l83Thinks_m ({ a0 with AtB:=a0.AtB.set a1.Link.toNat (⟨a1.Vector,3⟩:TreeSlot) }) x1) fun x7 =>
 some x7))
theorem spec_l83Hear_c {a0:TreeWorld} {a1:TreeWord} {r:TreeWorld} (h:spec_l83Hear_m a0 a1 = some r):EffC Try.prog 112 [.agg [.osl 9000 0 a0.Bridges.length,.d (slD TreeLink.enc a0.Links),.d (slD encInt a0.Down),.osl 9001 0 a0.AtA.length,.osl 9002 0 a0.AtB.length,.d (slD TreeWord.enc a0.Radio)],.agg [.d (.int .i64 a1.Link),.d (.int .i64 a1.End),.d (.int .i64 a1.Vector.Root),.d (.int .i64 a1.Vector.Cost),.d (.int .i64 a1.Vector.Age)]] [(9000,.arr 43 6 a0.Bridges.length (rows TreeBridge.enc a0.Bridges)),(9001,.arr 107 4 a0.AtA.length (rows TreeSlot.enc a0.AtA)),(9002,.arr 107 4 a0.AtB.length (rows TreeSlot.enc a0.AtB))] (.agg [.d (slD TreeBridge.enc r.Bridges),.d (slD TreeLink.enc r.Links),.d (slD encInt r.Down),.d (slD TreeSlot.enc r.AtA),.d (slD TreeSlot.enc r.AtB),.d (slD TreeWord.enc r.Radio)]) []:=by
  refine effC_x tOk (fn:=Try.f112) (c:=codeOf Try.f112) rfl rfl ?_;unfold spec_l83Hear_m at h;(conv=>whnf);obtain ⟨x1,hx1,h⟩:=bd_some h;refine cC 0 (spec_l83End_c hx1) ?_;clear hx1;(conv=>whnf);refine seq_in tOk ?_;(conv=>whnf);obtain ⟨x2,hx2,h⟩:=bd_some h;refine cC 0 (spec_l82Has_c hx2) ?_;clear hx2;(conv=>whnf);refine gdI h (fun h=>?_);(conv=>whnf);refine andI h (fun _ h=>?_) (fun _ h=>?_)
  · (conv=>whnf);obtain rfl:=Option.some.inj h;exact lfE [.f [9000,9001,9002]]
  · (conv=>whnf);refine seq_in tOk ?_;(conv=>whnf);refine andI h (fun _ h=>?_) (fun _ h=>?_)
    · (conv=>whnf);refine gdI h (fun h=>?_);(conv=>whnf);refine ⟨rows TreeSlot.enc (a0.AtA.set a1.Link.toNat (⟨a1.Vector,3⟩:TreeSlot)),store_rows' lenA rfl,?_⟩;(conv=>whnf);obtain ⟨x5,hx5,h⟩:=bd_some h;refine callFz [9001,9002] ?_;(conv=>whnf);refine cE [(9000,9000)] 1000 (spec_l83Thinks_c hx5) ?_;(conv=>whnf);obtain rfl:=Option.some.inj h;exact lfE [.f [6001]]
    · (conv=>whnf);refine gdI h (fun h=>?_);(conv=>whnf);refine ⟨rows TreeSlot.enc (a0.AtB.set a1.Link.toNat (⟨a1.Vector,3⟩:TreeSlot)),store_rows' lenA rfl,?_⟩;(conv=>whnf);obtain ⟨x7,hx7,h⟩:=bd_some h;refine callFz [9001,9002] ?_;(conv=>whnf);refine cE [(9000,9000)] 1000 (spec_l83Thinks_c hx7) ?_;(conv=>whnf);obtain rfl:=Option.some.inj h;exact lfE [.f [6001]]
noncomputable def spec_l83Out_o00_03_04_05f_m (a0:TreeWorld) (a1:Int):Option (TreeWorld) :=
 gd ((0:Int)≤(0:Int)∧(0:Int)≤a1∧a1≤((a0.Radio.length:Nat):Int)) <|
 gd (((0)+(a1.toNat)) * (40+1)≤70368744177664) <|
 gd ((0:Int)≤IntKind.i64.wrap (a1+1)∧IntKind.i64.wrap (a1+1)≤((a0.Radio.length:Nat):Int)∧((a0.Radio.length:Nat):Int)≤((a0.Radio.length:Nat):Int)) <|
 gd ((((a0.Radio.take a1.toNat).length)+((dsub ((a0.Radio.length:Nat):Int) (IntKind.i64.wrap (a1+1))))) * (40+1)≤70368744177664) <|
 some ({ a0 with Radio:=((a0.Radio.take a1.toNat) ++ (((a0.Radio).take ((IntKind.i64.wrap (a1+1)).toNat+(dsub ((a0.Radio.length:Nat):Int) (IntKind.i64.wrap (a1+1))))).drop ((IntKind.i64.wrap (a1+1)).toNat))) })
theorem spec_l83Out_o00_03_04_05f_c {a0:TreeWorld} {a1:Int} {r:TreeWorld} (h:spec_l83Out_o00_03_04_05f_m a0 a1 = some r):EffC Try.prog 129 [.agg [.osl 9000 0 a0.Bridges.length,.d (slD TreeLink.enc a0.Links),.d (slD encInt a0.Down),.osl 9001 0 a0.AtA.length,.osl 9002 0 a0.AtB.length,.d (slD TreeWord.enc a0.Radio)],.d (.int .i64 a1)] [(9000,.arr 43 6 a0.Bridges.length (rows TreeBridge.enc a0.Bridges)),(9001,.arr 107 4 a0.AtA.length (rows TreeSlot.enc a0.AtA)),(9002,.arr 107 4 a0.AtB.length (rows TreeSlot.enc a0.AtB))] (.agg [.osl 5001 0 r.Bridges.length,.d (slD TreeLink.enc r.Links),.d (slD encInt r.Down),.osl 5002 0 r.AtA.length,.osl 5003 0 r.AtB.length,.d (slD TreeWord.enc r.Radio)]) [(5001,.arr 43 6 r.Bridges.length (rows TreeBridge.enc r.Bridges)),(5002,.arr 107 4 r.AtA.length (rows TreeSlot.enc r.AtA)),(5003,.arr 107 4 r.AtB.length (rows TreeSlot.enc r.AtB))]:=by
  refine effC_x tOk (fn:=Try.f129) (c:=codeOf Try.f129) rfl rfl ?_;unfold spec_l83Out_o00_03_04_05f_m at h;(conv=>whnf);obtain ⟨g1,h⟩:=gd_some h;obtain ⟨g2,h⟩:=gd_some h;obtain ⟨g3,h⟩:=gd_some h;refine draw_u tOk [] 11 [] [0,0,2,0,14,31,0,64,0,256,960] [2047,4095,8191] ?_;(conv=>whnf);refine And.intro ⟨g1,.inr rfl⟩ ?_;(conv=>whnf);refine And.intro g2 ?_;clear g2;refine appN (enc:=TreeWord.enc) (ys:=a0.Radio.take a1.toNat) ?_;(conv=>whnf);refine And.intro ⟨g3,.inr rfl⟩ ?_;(conv=>whnf);refine And.intro (by kernel_rfl) ?_;(conv=>whnf);refine gdI h (fun h=>?_);refine appS (enc:=TreeWord.enc) (xs:=(a0.Radio.take a1.toNat)) (ys:=((a0.Radio).take ((IntKind.i64.wrap (a1+1)).toNat+(dsub ((a0.Radio.length:Nat):Int) (IntKind.i64.wrap (a1+1))))).drop ((IntKind.i64.wrap (a1+1)).toNat)) ?_;(conv=>whnf);obtain rfl:=Option.some.inj h;exact lfE [.f [10],.s [(5001,9000),(5002,9001),(5003,9002),(9000,5001),(9001,5002),(9002,5003)]]
noncomputable def spec_l83Words_m (a0:TreeWorld) (a1:TreeEvent):Option (TreeWorld) :=
 bd (spec_l81In_m a1.At 0 (IntKind.i64.wrap (((a0.Radio.length:Nat):Int) - 1))) fun x1 =>
(if (!x1) = true then
 some a0
else
 gd ((0:Int)≤a1.At∧a1.At<((a0.Radio.length:Nat):Int)) <|
(if (a1.Kind == 2) = true then
 bd (spec_l83Out_o00_03_04_05f_m a0 a1.At) fun x3 =>
 bd (spec_l83Hear_m x3 ({ (a0.Radio.getD a1.At.toNat default) with Vector:=((a0.Radio.getD a1.At.toNat default).Vector) })) fun x4 =>
 some x4
else
(if (a1.Kind == 3) = true then
 bd (spec_l83Put_m a0 ({ (a0.Radio.getD a1.At.toNat default) with Vector:=((a0.Radio.getD a1.At.toNat default).Vector) })) fun x5 =>
 some x5
else
 bd (spec_l83Out_m a0 a1.At) fun x6 =>
 some x6)))
theorem spec_l83Words_c {a0:TreeWorld} {a1:TreeEvent} {r:TreeWorld} (h:spec_l83Words_m a0 a1 = some r):EffC Try.prog 100 [.agg [.osl 9000 0 a0.Bridges.length,.d (slD TreeLink.enc a0.Links),.d (slD encInt a0.Down),.osl 9001 0 a0.AtA.length,.osl 9002 0 a0.AtB.length,.osl 9003 0 a0.Radio.length],.agg [.d (.int .i64 a1.Kind),.d (.int .i64 a1.At),.d (.int .i64 a1.End)]] [(9000,.arr 43 6 a0.Bridges.length (rows TreeBridge.enc a0.Bridges)),(9001,.arr 107 4 a0.AtA.length (rows TreeSlot.enc a0.AtA)),(9002,.arr 107 4 a0.AtB.length (rows TreeSlot.enc a0.AtB)),(9003,.arr 76 5 a0.Radio.length (rows TreeWord.enc a0.Radio))] (.agg [.d (slD TreeBridge.enc r.Bridges),.d (slD TreeLink.enc r.Links),.d (slD encInt r.Down),.d (slD TreeSlot.enc r.AtA),.d (slD TreeSlot.enc r.AtB),.d (slD TreeWord.enc r.Radio)]) []:=by
  refine effC_x tOk (fn:=Try.f100) (c:=codeOf Try.f100) rfl rfl ?_;unfold spec_l83Words_m at h;(conv=>whnf);refine seq_in tOk ?_;(conv=>whnf);obtain ⟨x1,hx1,h⟩:=bd_some h;refine cC 0 (spec_l81In_c hx1) ?_;clear hx1;(conv=>whnf);refine andI h (fun _ h=>?_) (fun _ h=>?_)
  · (conv=>whnf);obtain rfl:=Option.some.inj h;exact lfE [.f [9000,9001,9002,9003]]
  · (conv=>whnf);refine gdI h (fun h=>?_);(conv=>whnf);refine seq_in tOk ?_;(conv=>whnf);refine andI h (fun _ h=>?_) (fun _ h=>?_)
    · (conv=>whnf);obtain ⟨x3,hx3,h⟩:=bd_some h;obtain ⟨x4,hx4,h⟩:=bd_some h;refine drawFz [9003] ?_;(conv=>whnf);refine draw_t tOk [.e 3 [(9000,.arr 43 6 a0.Bridges.length (rows TreeBridge.enc a0.Bridges)),(9001,.arr 107 4 a0.AtA.length (rows TreeSlot.enc a0.AtA)),(9002,.arr 107 4 a0.AtB.length (rows TreeSlot.enc a0.AtB))] (.agg [.osl 6001 0 x3.Bridges.length,.d (slD TreeLink.enc x3.Links),.d (slD encInt x3.Down),.osl 6002 0 x3.AtA.length,.osl 6003 0 x3.AtB.length,.d (slD TreeWord.enc x3.Radio)]) [] [(6001,.arr 43 6 x3.Bridges.length (rows TreeBridge.enc x3.Bridges)),(6002,.arr 107 4 x3.AtA.length (rows TreeSlot.enc x3.AtA)),(6003,.arr 107 4 x3.AtB.length (rows TreeSlot.enc x3.AtB))],.e 5 [(6001,.arr 43 6 x3.Bridges.length (rows TreeBridge.enc x3.Bridges)),(6002,.arr 107 4 x3.AtA.length (rows TreeSlot.enc x3.AtA)),(6003,.arr 107 4 x3.AtB.length (rows TreeSlot.enc x3.AtB))] (.agg [.d (slD TreeBridge.enc x4.Bridges),.d (slD TreeLink.enc x4.Links),.d (slD encInt x4.Down),.d (slD TreeSlot.enc x4.AtA),.d (slD TreeSlot.enc x4.AtB),.d (slD TreeWord.enc x4.Radio)]) [] []] 6 [] [0,0,2,7,0,31] [63] [9000,9001,9002] ?_;(conv=>whnf);refine And.intro (eH [(9000,9000),(9001,9001),(9002,9002)] 1000 (spec_l83Out_o00_03_04_05f_c hx3)) ?_;(conv=>whnf);refine And.intro (eD [(9000,6001),(9001,6002),(9002,6003)] 0 (spec_l83Hear_c hx4)) ?_;(conv=>whnf);refine And.intro (by kernel_rfl) ?_;(conv=>whnf);obtain rfl:=Option.some.inj h;exact lfE []
    · (conv=>whnf);refine andI h (fun _ h=>?_) (fun _ h=>?_)
      · (conv=>whnf);obtain ⟨x5,hx5,h⟩:=bd_some h;refine callFz [9000,9001,9002] ?_;(conv=>whnf);refine cE [(9000,9003)] 1000 (spec_l83Put_c hx5) ?_;(conv=>whnf);obtain rfl:=Option.some.inj h;exact lfE [.f [6001]]
      · (conv=>whnf);obtain ⟨x6,hx6,h⟩:=bd_some h;refine callFz [9000,9001,9002,9003] ?_;(conv=>whnf);refine cE [] 1000 (spec_l83Out_c hx6) ?_;(conv=>whnf);obtain rfl:=Option.some.inj h;exact lfE [.f [6001]]
noncomputable def spec_l83Older_m (a0:TreeSlot):Option (TreeSlot) :=
(if (decide (a0.Left≤1)) = true then
 some (⟨(⟨0,0,0⟩:TreeVector),0⟩:TreeSlot)
else
 some (⟨a0.Vector,IntKind.i64.wrap (a0.Left - 1)⟩:TreeSlot))
theorem spec_l83Older_c {a0:TreeSlot} {r:TreeSlot} (h:spec_l83Older_m a0 = some r):PureC Try.prog 130 [.agg [.d (.int .i64 a0.Vector.Root),.d (.int .i64 a0.Vector.Cost),.d (.int .i64 a0.Vector.Age),.d (.int .i64 a0.Left)]] (.agg [.d (.int .i64 r.Vector.Root),.d (.int .i64 r.Vector.Cost),.d (.int .i64 r.Vector.Age),.d (.int .i64 r.Left)]) []:=by
  refine pureC_x tOk (fn:=Try.f130) (c:=codeOf Try.f130) rfl rfl ?_;unfold spec_l83Older_m at h;(conv=>whnf);refine seq_in tOk ?_;(conv=>whnf);refine andI h (fun _ h=>?_) (fun _ h=>?_)
  · (conv=>whnf);obtain rfl:=Option.some.inj h;exact lfP []
  · (conv=>whnf);obtain rfl:=Option.some.inj h;exact lfP []
end Go.Proofs.Ythgcnnkjojemdaa
