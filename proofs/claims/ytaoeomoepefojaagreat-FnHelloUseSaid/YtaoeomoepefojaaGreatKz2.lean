/-
  What some of the program's functions compute: their models, and that the functions compute these; no condition.
-/
import Derived.Test.YtaoeomoepefojaaGreatTyz
import Derived.Test.YtaoeomoepefojaaGreatTbz
import Derived.Test.YtaoeomoepefojaaGreatAbz7
import Derived.Test.YtaoeomoepefojaaGreatKz1
set_option linter.all false
namespace Go.Proofs.YtaoeomoepefojaaGreat
open Go Go.Ab
set_option maxRecDepth 100000
set_option maxHeartbeats 40000000
noncomputable def spec_l44Copy_m (a0:HelloWorld):Option (HelloWorld) :=
 gd (((0)+(a0.Radio.length))*(112+1)≤70368744177664) <|
 bd (lp (σ:=List HelloSide × Int) (β:=((List HelloSide) × Nat)) (fun s1 =>
(if (decide (s1.2<((a0.Sides.length:Nat):Int)))=true then
 gd ((0:Int)≤s1.2∧s1.2<((a0.Sides.length:Nat):Int)) <|
 gd ((0:Int)≤s1.2∧s1.2<((a0.Sides.length:Nat):Int)) <|
 bd (spec_l42Copy_o02f_04f_016f_020f_m ({ ((a0.Sides.getD s1.2.toNat default).End) with Under:=(⟨(((a0.Sides.getD s1.2.toNat default).End).Under).Kind,((((a0.Sides.getD s1.2.toNat default).End).Under).Entry)⟩:HelloChange) })) fun x7 =>
 gd (((s1.1.length)+(([(⟨(a0.Sides.getD s1.2.toNat default).Up,x7⟩:HelloSide)]:List HelloSide).length))*(248+1)≤70368744177664) <|
 some (.inl ((s1.1 ++ ([(⟨(a0.Sides.getD s1.2.toNat default).Up,x7⟩:HelloSide)]:List HelloSide)),IntKind.i64.wrap (s1.2+1)))
else
 some (.inr (s1.1,s1.1.length)))) (([]:List HelloSide),0)) fun x4 =>
 some (⟨x4.1,a0.Radio⟩:HelloWorld)
theorem spec_l44Copy_c {a0:HelloWorld} {r:HelloWorld} (h:spec_l44Copy_m a0=some r):EffC Tryz.prog 160 [.agg [.d (slD HelloSide.enc a0.Sides),.d (slD HelloWord.enc a0.Radio)]] [] (.agg [.osl 5001 0 r.Sides.length,.osl 5002 0 r.Radio.length]) [(5001,.arr 145 23 r.Sides.length (rows HelloSide.enc r.Sides)),(5002,.arr 45 14 r.Radio.length (rows HelloWord.enc r.Radio))]:=by
  refine effC_x tOk (fn:=Tryz.f160) (c:=codeOf Tryz.f160) rfl rfl ?_;unfold spec_l44Copy_m at h;(conv=>whnf);refine gdI h (fun h=>?_);refine appN (enc:=HelloWord.enc) (ys:=a0.Radio) ?_;(conv=>whnf);refine seq_in tOk ?_;(conv=>whnf);obtain ⟨x4,hx4,h⟩:=bd_some h;refine loop_m tOk hx4 (fun s1=>⟨0,38,[(1,.ref 1 0 0),(2,.ref 2 0 0),(3,.ref 3 0 0),(4,.d (.int .i64 s1.2))],[],[(7001,.arr 145 23 s1.1.length (rows HelloSide.enc s1.1)),(3,.box 142 [.osl 7001 0 s1.1.length,.osl 9 0 a0.Radio.length]),(9,.arr 45 14 a0.Radio.length (rows HelloWord.enc a0.Radio)),(2,.box 142 [.d (.nil),.d (.nil)]),(1,.box 142 [.d (slD HelloSide.enc a0.Sides),.d (slD HelloWord.enc a0.Radio)])],[⟨[],[]⟩]⟩) ?_ ?_
  · exact leX [.p 7001 145 23 (rows HelloSide.enc ([]:List HelloSide))]
  · clear hx4;intro s1 y2 g3 hy2;(conv=>whnf);refine seq_in tOk ?_;(conv=>whnf);refine andI g3 (fun _ g3=>?_) (fun _ g3=>?_)
    · (conv=>whnf);refine seq_in tOk ?_;(conv=>whnf);obtain ⟨g5,g3⟩:=gd_some g3;obtain ⟨g6,g3⟩:=gd_some g3;obtain ⟨x7,hx7,g3⟩:=bd_some g3;refine draw_t tOk [.e 14 [] (.agg [.d (.int .i64 x7.Name),.d (.int .i64 x7.Peer),.d (slD HelloKey.enc x7.Keys),.d (.int .i64 x7.Boot),.d (slD HelloEntry.enc x7.Want),.d (.int .i64 x7.Turn),.d (.int .i64 x7.PeerBoot),.d (.int .i64 x7.PeerTurn),.d (.bool x7.Up),.d (.int .i64 x7.Left),.d (.int .i64 x7.Num),.d (.int .i64 x7.Under.Kind),.d (.int .i64 x7.Under.Entry.Addr),.d (.int .i64 x7.Under.Entry.Len),.d (.int .i64 x7.Under.Entry.Cost),.d (.int .i64 x7.Under.Entry.Label),.d (slD HelloEntry.enc x7.Told),.d (.bool x7.All),.d (.int .i64 x7.Got),.d (.bool x7.Full),.d (slD HelloRoute.enc x7.Heard),.d (.int .i64 x7.Keep)]) [] []] 17 [] [0,1,0,4,0,28,60,124,0,256,0,1792,3840,7936,16128,32764,65532] [131071,262143,524287] [] ?_;(conv=>whnf);refine And.intro g5 ?_;clear g5;(conv=>whnf);refine And.intro g6 ?_;clear g6;(conv=>whnf);refine And.intro (eD [] 0 (spec_l42Copy_o02f_04f_016f_020f_c hx7)) ?_;(conv=>whnf);refine bldS (enc:=HelloSide.enc) ([(⟨(a0.Sides.getD s1.2.toNat default).Up,x7⟩:HelloSide)]:List HelloSide) ?_;(conv=>whnf);refine And.intro (by kernel_rfl) ?_;(conv=>whnf);refine gdI g3 (fun g3=>?_);refine appS (enc:=HelloSide.enc) (xs:=s1.1) (ys:=([(⟨(a0.Sides.getD s1.2.toNat default).Up,x7⟩:HelloSide)]:List HelloSide)) ?_;(conv=>whnf);obtain rfl:=Option.some.inj g3;exact ⟨_,rfl,leX []⟩
    · (conv=>whnf);obtain rfl:=Option.some.inj g3;obtain rfl:=hy2 _ rfl;obtain rfl:=Option.some.inj h;exact lfE [.s [(9,5002),(5001,7001),(5002,9),(7001,5001)]]
noncomputable def spec_l41Mix_m (a0:Int) (a1:Int):Option (Int) :=
 gd ((2147483647:Int) ≠ 0) <|
(if (decide (((a1:Int).tmod 2147483647)<0))=true then
 gd ((2147483647:Int) ≠ 0) <|
 some ((IntKind.i64.wrap ((IntKind.i64.wrap ((IntKind.i64.wrap (a0*48271))+(IntKind.i64.wrap (((a1:Int).tmod 2147483647)+2147483647))))+1):Int).tmod 2147483647)
else
 gd ((2147483647:Int) ≠ 0) <|
 some ((IntKind.i64.wrap ((IntKind.i64.wrap ((IntKind.i64.wrap (a0*48271))+((a1:Int).tmod 2147483647)))+1):Int).tmod 2147483647))
theorem spec_l41Mix_c {a0:Int} {a1:Int} {r:Int} (h:spec_l41Mix_m a0 a1=some r):PureC Tryz.prog 119 [.d (.int .i64 a0),.d (.int .i64 a1)] (.d (.int .i64 r)) []:=by
  refine pureC_x tOk (fn:=Tryz.f119) (c:=codeOf Tryz.f119) rfl rfl ?_;unfold spec_l41Mix_m at h;(conv=>whnf);refine gdI h (fun h=>?_);(conv=>whnf);refine seq_in tOk ?_;(conv=>whnf);refine andI h (fun _ h=>?_) (fun _ h=>?_)
  · (conv=>whnf);refine gdI h (fun h=>?_);(conv=>whnf);obtain rfl:=Option.some.inj h;exact lfP []
  · (conv=>whnf);refine gdI h (fun h=>?_);(conv=>whnf);obtain rfl:=Option.some.inj h;exact lfP []
noncomputable def spec_HelloSum_m (a0:Int) (a1:HelloWord):Option (Int) :=
 bd (spec_l41Mix_m 0 a0) fun x1 =>
 bd (lp (σ:=Int × Int) (β:=(Int)) (fun s2 =>
(if (decide (s2.2<((([a1.From,a1.To,a1.Key,a1.Boot,a1.Yours,a1.Turn,a1.Num,a1.Heard,a1.Change.Kind,a1.Change.Entry.Addr,a1.Change.Entry.Len,a1.Change.Entry.Cost,a1.Change.Entry.Label]:List Int).length:Nat):Int)))=true then
 gd ((0:Int)≤s2.2∧s2.2<((([a1.From,a1.To,a1.Key,a1.Boot,a1.Yours,a1.Turn,a1.Num,a1.Heard,a1.Change.Kind,a1.Change.Entry.Addr,a1.Change.Entry.Len,a1.Change.Entry.Cost,a1.Change.Entry.Label]:List Int).length:Nat):Int)) <|
 bd (spec_l41Mix_m s2.1 (([a1.From,a1.To,a1.Key,a1.Boot,a1.Yours,a1.Turn,a1.Num,a1.Heard,a1.Change.Kind,a1.Change.Entry.Addr,a1.Change.Entry.Len,a1.Change.Entry.Cost,a1.Change.Entry.Label]:List Int).getD s2.2.toNat default)) fun x7 =>
 some (.inl (x7,IntKind.i64.wrap (s2.2+1)))
else
 some (.inr s2.1))) (x1,0)) fun x5 =>
 bd (spec_l41Mix_m x5 a0) fun x9 =>
 some x9
theorem spec_HelloSum_c {a0:Int} {a1:HelloWord} {r:Int} (h:spec_HelloSum_m a0 a1=some r):PureC Tryz.prog 75 [.d (.int .i64 a0),.agg [.d (.int .i64 a1.From),.d (.int .i64 a1.To),.d (.int .i64 a1.Key),.d (.int .i64 a1.Boot),.d (.int .i64 a1.Yours),.d (.int .i64 a1.Turn),.d (.int .i64 a1.Num),.d (.int .i64 a1.Heard),.d (.int .i64 a1.Change.Kind),.d (.int .i64 a1.Change.Entry.Addr),.d (.int .i64 a1.Change.Entry.Len),.d (.int .i64 a1.Change.Entry.Cost),.d (.int .i64 a1.Change.Entry.Label),.d (.int .i64 a1.Sum)]] (.d (.int .i64 r)) []:=by
  refine pureC_x tOk (fn:=Tryz.f75) (c:=codeOf Tryz.f75) rfl rfl ?_;unfold spec_HelloSum_m at h;(conv=>whnf);obtain ⟨x1,hx1,h⟩:=bd_some h;refine cC 0 (spec_l41Mix_c hx1) ?_;clear hx1;(conv=>whnf);refine bldS (enc:=encInt) ([a1.From,a1.To,a1.Key,a1.Boot,a1.Yours,a1.Turn,a1.Num,a1.Heard,a1.Change.Kind,a1.Change.Entry.Addr,a1.Change.Entry.Len,a1.Change.Entry.Cost,a1.Change.Entry.Label]:List Int) ?_;(conv=>whnf);refine seq_in tOk ?_;(conv=>whnf);obtain ⟨x5,hx5,h⟩:=bd_some h;refine loop_m tOk hx5 (fun s2=>⟨0,61,[(0,.d (.int .i64 a0)),(5,.d (.int .i64 s2.1)),(6,.osl 45 0 (([a1.From,a1.To,a1.Key,a1.Boot,a1.Yours,a1.Turn,a1.Num,a1.Heard,a1.Change.Kind,a1.Change.Entry.Addr,a1.Change.Entry.Len,a1.Change.Entry.Cost,a1.Change.Entry.Label]:List Int).length)),(7,.d (.int .i64 s2.2))],[],[(45,.arr 3 1 (([a1.From,a1.To,a1.Key,a1.Boot,a1.Yours,a1.Turn,a1.Num,a1.Heard,a1.Change.Kind,a1.Change.Entry.Addr,a1.Change.Entry.Len,a1.Change.Entry.Cost,a1.Change.Entry.Label]:List Int).length) (rows encInt ([a1.From,a1.To,a1.Key,a1.Boot,a1.Yours,a1.Turn,a1.Num,a1.Heard,a1.Change.Kind,a1.Change.Entry.Addr,a1.Change.Entry.Len,a1.Change.Entry.Cost,a1.Change.Entry.Label]:List Int)))],[]⟩) ?_ ?_
  · exact leX []
  · clear hx5;intro s2 y3 g4 hy3;(conv=>whnf);refine seq_in tOk ?_;(conv=>whnf);refine andI g4 (fun _ g4=>?_) (fun _ g4=>?_)
    · (conv=>whnf);refine seq_in tOk ?_;(conv=>whnf);refine gdI g4 (fun g4=>?_);(conv=>whnf);obtain ⟨x7,hx7,g4⟩:=bd_some g4;refine cC 0 (spec_l41Mix_c hx7) ?_;clear hx7;(conv=>whnf);obtain rfl:=Option.some.inj g4;exact ⟨_,rfl,leX []⟩
    · (conv=>whnf);obtain rfl:=Option.some.inj g4;obtain rfl:=hy3 _ rfl;obtain ⟨x9,hx9,h⟩:=bd_some h;refine cC 0 (spec_l41Mix_c hx9) ?_;clear hx9;(conv=>whnf);obtain rfl:=Option.some.inj h;exact lfP []
noncomputable def spec_HelloRight_m (a0:(List HelloKey)) (a1:HelloWord):Option (Bool) :=
 bd (spec_HelloKeysOk_m a0) fun x1 =>
 bd (gcall ((!x1)=false) (spec_HelloWordOk_m a1)) fun x2 =>
(if ((!x1) || (!x2))=true then
 some false
else
 bd (lp (σ:=Int) (β:=(Bool ⊕ Unit)) (fun s3 =>
(if (decide (s3<((a0.length:Nat):Int)))=true then
 gd ((0:Int)≤s3∧s3<((a0.length:Nat):Int)) <|
(if (((a0.getD s3.toNat default).Id) == a1.Key)=true then
 gd ((0:Int)≤s3∧s3<((a0.length:Nat):Int)) <|
 bd (spec_HelloSum_m ((a0.getD s3.toNat default).Secret) a1) fun x9 =>
 some (.inr (.inl (x9 == a1.Sum)))
else
 some (.inl (IntKind.i64.wrap (s3+1))))
else
 some (.inr (.inr ())))) 0) fun x6 =>
(match x6 with
| .inl d10 =>
 some d10
| .inr d11 =>
 some false))
theorem spec_HelloRight_c {a0:(List HelloKey)} {a1:HelloWord} {r:Bool} (h:spec_HelloRight_m a0 a1=some r):PureC Tryz.prog 25 [.d (slD HelloKey.enc a0),.agg [.d (.int .i64 a1.From),.d (.int .i64 a1.To),.d (.int .i64 a1.Key),.d (.int .i64 a1.Boot),.d (.int .i64 a1.Yours),.d (.int .i64 a1.Turn),.d (.int .i64 a1.Num),.d (.int .i64 a1.Heard),.d (.int .i64 a1.Change.Kind),.d (.int .i64 a1.Change.Entry.Addr),.d (.int .i64 a1.Change.Entry.Len),.d (.int .i64 a1.Change.Entry.Cost),.d (.int .i64 a1.Change.Entry.Label),.d (.int .i64 a1.Sum)]] (.d (.bool r)) []:=by
  refine pureC_x tOk (fn:=Tryz.f25) (c:=codeOf Tryz.f25) rfl rfl ?_;unfold spec_HelloRight_m at h;(conv=>whnf);refine seq_in tOk ?_;(conv=>whnf);obtain ⟨x1,hx1,h⟩:=bd_some h;refine cC 0 (spec_HelloKeysOk_c hx1) ?_;clear hx1;(conv=>whnf);obtain ⟨x2,hx2,h⟩:=bd_some h;refine cG (fun c0=>spec_HelloWordOk_c (gcall_some hx2 c0)) ?_;(conv=>whnf);refine andI h (fun _ h=>?_) (fun _ h=>?_)
  · (conv=>whnf);obtain rfl:=Option.some.inj h;exact lfP []
  · (conv=>whnf);refine seq_in tOk ?_;(conv=>whnf);obtain ⟨x6,hx6,h⟩:=bd_some h;refine loop_m tOk hx6 (fun s3=>⟨0,38,[(0,.d (slD HelloKey.enc a0)),(3,.ref 3 0 0),(5,.d (.int .i64 s3))],[],[(3,.box 45 [.d (.int .i64 a1.From),.d (.int .i64 a1.To),.d (.int .i64 a1.Key),.d (.int .i64 a1.Boot),.d (.int .i64 a1.Yours),.d (.int .i64 a1.Turn),.d (.int .i64 a1.Num),.d (.int .i64 a1.Heard),.d (.int .i64 a1.Change.Kind),.d (.int .i64 a1.Change.Entry.Addr),.d (.int .i64 a1.Change.Entry.Len),.d (.int .i64 a1.Change.Entry.Cost),.d (.int .i64 a1.Change.Entry.Label),.d (.int .i64 a1.Sum)])],[]⟩) ?_ ?_
    · exact leX []
    · clear hx6;intro s3 y4 g5 hy4;(conv=>whnf);refine seq_in tOk ?_;(conv=>whnf);refine andI g5 (fun _ g5=>?_) (fun _ g5=>?_)
      · (conv=>whnf);refine seq_in tOk ?_;(conv=>whnf);obtain ⟨g7,g5⟩:=gd_some g5;refine draw_u tOk [] 8 [] [0,0,3,7,15,0,32,127] [] ?_;(conv=>whnf);refine And.intro g7 ?_;clear g7;(conv=>whnf);refine And.intro (by kernel_rfl) ?_;(conv=>whnf);refine andI g5 (fun _ g5=>?_) (fun _ g5=>?_)
        · (conv=>whnf);obtain ⟨g8,g5⟩:=gd_some g5;obtain ⟨x9,hx9,g5⟩:=bd_some g5;refine draw_u tOk [.u 6 0 (.d (.int .i64 x9)) []] 11 [] [0,0,3,7,15,0,63,0,128,511,1023] [] ?_;(conv=>whnf);refine And.intro g8 ?_;clear g8;(conv=>whnf);refine And.intro (callD_any (spec_HelloSum_c hx9) (by kernel_rfl)) ?_;(conv=>whnf);refine And.intro (by kernel_rfl) ?_;(conv=>whnf);obtain rfl:=Option.some.inj g5;obtain rfl:=hy4 _ rfl;obtain rfl:=Option.some.inj h;exact lfP []
        · (conv=>whnf);obtain rfl:=Option.some.inj g5;exact ⟨_,rfl,leX []⟩
      · (conv=>whnf);obtain rfl:=Option.some.inj g5;obtain rfl:=hy4 _ rfl;obtain rfl:=Option.some.inj h;exact lfP []
noncomputable def spec_l43Stale_m (a0:HelloEnd):Option (HelloEnd) :=
 bd (lp (σ:=List HelloRoute × Int) (β:=(Nat × (List HelloRoute))) (fun s1 =>
(if (decide (s1.2<((s1.1.length:Nat):Int)))=true then
 gd ((0:Int)≤s1.2∧s1.2<((s1.1.length:Nat):Int)) <|
 some (.inl (s1.1.set s1.2.toNat (⟨((s1.1.getD s1.2.toNat default).Entry),true⟩:HelloRoute),IntKind.i64.wrap (s1.2+1)))
else
 some (.inr (s1.1.length,s1.1)))) (a0.Heard,0)) fun x4 =>
(if ((decide (((x4.1:Nat):Int) > 0)) && (a0.Keep == 0))=true then
 some ({ a0 with Heard:=x4.2,Keep:=6 })
else
 some ({ a0 with Heard:=x4.2 }))
theorem spec_l43Stale_c {a0:HelloEnd} {r:HelloEnd} (h:spec_l43Stale_m a0=some r):EffC Tryz.prog 120 [.agg [.d (.int .i64 a0.Name),.d (.int .i64 a0.Peer),.d (slD HelloKey.enc a0.Keys),.d (.int .i64 a0.Boot),.d (slD HelloEntry.enc a0.Want),.d (.int .i64 a0.Turn),.d (.int .i64 a0.PeerBoot),.d (.int .i64 a0.PeerTurn),.d (.bool a0.Up),.d (.int .i64 a0.Left),.d (.int .i64 a0.Num),.d (.int .i64 a0.Under.Kind),.d (.int .i64 a0.Under.Entry.Addr),.d (.int .i64 a0.Under.Entry.Len),.d (.int .i64 a0.Under.Entry.Cost),.d (.int .i64 a0.Under.Entry.Label),.d (slD HelloEntry.enc a0.Told),.d (.bool a0.All),.d (.int .i64 a0.Got),.d (.bool a0.Full),.osl 9000 0 a0.Heard.length,.d (.int .i64 a0.Keep)]] [(9000,.arr 94 5 a0.Heard.length (rows HelloRoute.enc a0.Heard))] (.agg [.d (.int .i64 r.Name),.d (.int .i64 r.Peer),.d (slD HelloKey.enc r.Keys),.d (.int .i64 r.Boot),.d (slD HelloEntry.enc r.Want),.d (.int .i64 r.Turn),.d (.int .i64 r.PeerBoot),.d (.int .i64 r.PeerTurn),.d (.bool r.Up),.d (.int .i64 r.Left),.d (.int .i64 r.Num),.d (.int .i64 r.Under.Kind),.d (.int .i64 r.Under.Entry.Addr),.d (.int .i64 r.Under.Entry.Len),.d (.int .i64 r.Under.Entry.Cost),.d (.int .i64 r.Under.Entry.Label),.d (slD HelloEntry.enc r.Told),.d (.bool r.All),.d (.int .i64 r.Got),.d (.bool r.Full),.osl 5001 0 r.Heard.length,.d (.int .i64 r.Keep)]) [(5001,.arr 94 5 r.Heard.length (rows HelloRoute.enc r.Heard))]:=by
  refine effC_x tOk (fn:=Tryz.f120) (c:=codeOf Tryz.f120) rfl rfl ?_;unfold spec_l43Stale_m at h;(conv=>whnf);refine seq_in tOk ?_;(conv=>whnf);obtain ⟨x4,hx4,h⟩:=bd_some h;refine loop_m tOk hx4 (fun s1=>⟨0,27,[(1,.ref 1 0 0),(2,.ref 2 0 0),(3,.d (.int .i64 s1.2))],[],[(2,.box 41 [.d (.int .i64 0),.d (.int .i64 0),.d (.nil),.d (.int .i64 0),.d (.nil),.d (.int .i64 0),.d (.int .i64 0),.d (.int .i64 0),.d (.bool false),.d (.int .i64 0),.d (.int .i64 0),.d (.int .i64 0),.d (.int .i64 0),.d (.int .i64 0),.d (.int .i64 0),.d (.int .i64 0),.d (.nil),.d (.bool false),.d (.int .i64 0),.d (.bool false),.d (.nil),.d (.int .i64 0)]),(1,.box 41 [.d (.int .i64 a0.Name),.d (.int .i64 a0.Peer),.d (slD HelloKey.enc a0.Keys),.d (.int .i64 a0.Boot),.d (slD HelloEntry.enc a0.Want),.d (.int .i64 a0.Turn),.d (.int .i64 a0.PeerBoot),.d (.int .i64 a0.PeerTurn),.d (.bool a0.Up),.d (.int .i64 a0.Left),.d (.int .i64 a0.Num),.d (.int .i64 a0.Under.Kind),.d (.int .i64 a0.Under.Entry.Addr),.d (.int .i64 a0.Under.Entry.Len),.d (.int .i64 a0.Under.Entry.Cost),.d (.int .i64 a0.Under.Entry.Label),.d (slD HelloEntry.enc a0.Told),.d (.bool a0.All),.d (.int .i64 a0.Got),.d (.bool a0.Full),.osl 9000 0 s1.1.length,.d (.int .i64 a0.Keep)]),(9000,.arr 94 5 s1.1.length (rows HelloRoute.enc s1.1))],[⟨[],[]⟩]⟩) ?_ ?_
  · exact leX []
  · clear hx4;intro s1 y2 g3 hy2;(conv=>whnf);refine seq_in tOk ?_;(conv=>whnf);refine andI g3 (fun _ g3=>?_) (fun _ g3=>?_)
    · (conv=>whnf);refine seq_in tOk ?_;(conv=>whnf);refine gdI g3 (fun g3=>?_);(conv=>whnf);refine ⟨rows HelloRoute.enc (s1.1.set s1.2.toNat (⟨((s1.1.getD s1.2.toNat default).Entry),true⟩:HelloRoute)),store_rows' lenA rfl,?_⟩;(conv=>whnf);obtain rfl:=Option.some.inj g3;exact ⟨_,rfl,leX []⟩
    · (conv=>whnf);obtain rfl:=Option.some.inj g3;obtain rfl:=hy2 _ rfl;refine seq_in tOk ?_;(conv=>whnf);refine andI h (fun _ h=>?_) (fun _ h=>?_)
      · (conv=>whnf);obtain rfl:=Option.some.inj h;exact lfE [.s [(5001,9000),(9000,5001)]]
      · (conv=>whnf);obtain rfl:=Option.some.inj h;exact lfE [.s [(5001,9000),(9000,5001)]]
noncomputable def spec_l43Anew_m (a0:HelloEnd):Option (HelloEnd) :=
 bd (spec_l43Stale_m ({ a0 with Up:=false,Num:=0,Under:=(⟨0,(⟨0,0,0,0⟩:HelloEntry)⟩:HelloChange),Told:=[],All:=false,Got:=0,Full:=false })) fun x1 =>
 some x1
theorem spec_l43Anew_c {a0:HelloEnd} {r:HelloEnd} (h:spec_l43Anew_m a0=some r):EffC Tryz.prog 79 [.agg [.d (.int .i64 a0.Name),.d (.int .i64 a0.Peer),.d (slD HelloKey.enc a0.Keys),.d (.int .i64 a0.Boot),.d (slD HelloEntry.enc a0.Want),.d (.int .i64 a0.Turn),.d (.int .i64 a0.PeerBoot),.d (.int .i64 a0.PeerTurn),.d (.bool a0.Up),.d (.int .i64 a0.Left),.d (.int .i64 a0.Num),.d (.int .i64 a0.Under.Kind),.d (.int .i64 a0.Under.Entry.Addr),.d (.int .i64 a0.Under.Entry.Len),.d (.int .i64 a0.Under.Entry.Cost),.d (.int .i64 a0.Under.Entry.Label),.d (slD HelloEntry.enc a0.Told),.d (.bool a0.All),.d (.int .i64 a0.Got),.d (.bool a0.Full),.osl 9000 0 a0.Heard.length,.d (.int .i64 a0.Keep)]] [(9000,.arr 94 5 a0.Heard.length (rows HelloRoute.enc a0.Heard))] (.agg [.d (.int .i64 r.Name),.d (.int .i64 r.Peer),.d (slD HelloKey.enc r.Keys),.d (.int .i64 r.Boot),.d (slD HelloEntry.enc r.Want),.d (.int .i64 r.Turn),.d (.int .i64 r.PeerBoot),.d (.int .i64 r.PeerTurn),.d (.bool r.Up),.d (.int .i64 r.Left),.d (.int .i64 r.Num),.d (.int .i64 r.Under.Kind),.d (.int .i64 r.Under.Entry.Addr),.d (.int .i64 r.Under.Entry.Len),.d (.int .i64 r.Under.Entry.Cost),.d (.int .i64 r.Under.Entry.Label),.d (slD HelloEntry.enc r.Told),.d (.bool r.All),.d (.int .i64 r.Got),.d (.bool r.Full),.osl 5001 0 r.Heard.length,.d (.int .i64 r.Keep)]) [(5001,.arr 94 5 r.Heard.length (rows HelloRoute.enc r.Heard))]:=by
  refine effC_x tOk (fn:=Tryz.f79) (c:=codeOf Tryz.f79) rfl rfl ?_;unfold spec_l43Anew_m at h;(conv=>whnf);obtain ⟨x1,hx1,h⟩:=bd_some h;refine cE [(9000,9000)] 1000 (spec_l43Stale_c hx1) ?_;(conv=>whnf);obtain rfl:=Option.some.inj h;exact lfE [.s [(5001,6001),(6001,5001)]]
noncomputable def spec_l43Answered_m (a0:HelloEnd):Option (HelloEnd) :=
 bd (spec_l43Apply_m a0.Told a0.Under) fun x1 =>
(if (a0.Under.Kind == 3)=true then
 some ({ a0 with Under:=(⟨0,(⟨0,0,0,0⟩:HelloEntry)⟩:HelloChange),Told:=x1,All:=true })
else
 some ({ a0 with Under:=(⟨0,(⟨0,0,0,0⟩:HelloEntry)⟩:HelloChange),Told:=x1 }))
theorem spec_l43Answered_c {a0:HelloEnd} {r:HelloEnd} (h:spec_l43Answered_m a0=some r):EffC Tryz.prog 80 [.agg [.d (.int .i64 a0.Name),.d (.int .i64 a0.Peer),.d (slD HelloKey.enc a0.Keys),.d (.int .i64 a0.Boot),.d (slD HelloEntry.enc a0.Want),.d (.int .i64 a0.Turn),.d (.int .i64 a0.PeerBoot),.d (.int .i64 a0.PeerTurn),.d (.bool a0.Up),.d (.int .i64 a0.Left),.d (.int .i64 a0.Num),.d (.int .i64 a0.Under.Kind),.d (.int .i64 a0.Under.Entry.Addr),.d (.int .i64 a0.Under.Entry.Len),.d (.int .i64 a0.Under.Entry.Cost),.d (.int .i64 a0.Under.Entry.Label),.d (slD HelloEntry.enc a0.Told),.d (.bool a0.All),.d (.int .i64 a0.Got),.d (.bool a0.Full),.d (slD HelloRoute.enc a0.Heard),.d (.int .i64 a0.Keep)]] [] (.agg [.d (.int .i64 r.Name),.d (.int .i64 r.Peer),.d (slD HelloKey.enc r.Keys),.d (.int .i64 r.Boot),.d (slD HelloEntry.enc r.Want),.d (.int .i64 r.Turn),.d (.int .i64 r.PeerBoot),.d (.int .i64 r.PeerTurn),.d (.bool r.Up),.d (.int .i64 r.Left),.d (.int .i64 r.Num),.d (.int .i64 r.Under.Kind),.d (.int .i64 r.Under.Entry.Addr),.d (.int .i64 r.Under.Entry.Len),.d (.int .i64 r.Under.Entry.Cost),.d (.int .i64 r.Under.Entry.Label),.osl 5001 0 r.Told.length,.d (.bool r.All),.d (.int .i64 r.Got),.d (.bool r.Full),.d (slD HelloRoute.enc r.Heard),.d (.int .i64 r.Keep)]) [(5001,.arr 36 4 r.Told.length (rows HelloEntry.enc r.Told))]:=by
  refine effC_x tOk (fn:=Tryz.f80) (c:=codeOf Tryz.f80) rfl rfl ?_;unfold spec_l43Answered_m at h;(conv=>whnf);obtain ⟨x1,hx1,h⟩:=bd_some h;refine cC 1000 (spec_l43Apply_c hx1) ?_;clear hx1;(conv=>whnf);refine seq_in tOk ?_;(conv=>whnf);refine andI h (fun _ h=>?_) (fun _ h=>?_)
  · (conv=>whnf);obtain rfl:=Option.some.inj h;exact lfE [.s [(5001,6001),(6001,5001)]]
  · (conv=>whnf);obtain rfl:=Option.some.inj h;exact lfE [.s [(5001,6001),(6001,5001)]]
noncomputable def spec_l43Where_m (a0:(List HelloRoute)) (a1:HelloEntry):Option (Int) :=
 bd (lp (σ:=Int) (β:=(Int)) (fun s1 =>
 gd ((decide (s1<((a0.length:Nat):Int)))=true→((0:Int)≤s1∧s1<((a0.length:Nat):Int))) <|
 bd (gcall ((decide (s1<((a0.length:Nat):Int)))=true) (spec_l41Less_m ((a0.getD s1.toNat default).Entry) a1)) fun x6 =>
(if ((decide (s1<((a0.length:Nat):Int))) && x6)=true then
 some (.inl (IntKind.i64.wrap (s1+1)))
else
 some (.inr s1))) 0) fun x4 =>
 some x4
theorem spec_l43Where_c {a0:(List HelloRoute)} {a1:HelloEntry} {r:Int} (h:spec_l43Where_m a0 a1=some r):PureC Tryz.prog 122 [.d (slD HelloRoute.enc a0),.agg [.d (.int .i64 a1.Addr),.d (.int .i64 a1.Len),.d (.int .i64 a1.Cost),.d (.int .i64 a1.Label)]] (.d (.int .i64 r)) []:=by
  refine pureC_x tOk (fn:=Tryz.f122) (c:=codeOf Tryz.f122) rfl rfl ?_;unfold spec_l43Where_m at h;(conv=>whnf);refine seq_in tOk ?_;(conv=>whnf);obtain ⟨x4,hx4,h⟩:=bd_some h;refine loop_m tOk hx4 (fun s1=>⟨0,22,[(0,.d (slD HelloRoute.enc a0)),(3,.ref 3 0 0),(5,.d (.int .i64 s1))],[],[(3,.box 36 [.d (.int .i64 a1.Addr),.d (.int .i64 a1.Len),.d (.int .i64 a1.Cost),.d (.int .i64 a1.Label)])],[]⟩) ?_ ?_
  · exact leX []
  · clear hx4;intro s1 y2 g3 hy2;(conv=>whnf);refine seq_in tOk ?_;(conv=>whnf);obtain ⟨g5,g3⟩:=gd_some g3;obtain ⟨x6,hx6,g3⟩:=bd_some g3;refine draw_u tOk [.u 11 0 (.d (.bool x6)) []] 13 [] [0,0,2,7,15,31,31,127,255,511,31,2047,4095] [] ?_;(conv=>whnf);refine And.intro g5 ?_;clear g5;(conv=>whnf);refine And.intro (callDG_if rfl rfl rfl rfl (by intro c0; exact spec_l41Less_c (gcall_some hx6 c0))) ?_;(conv=>whnf);refine And.intro (by kernel_rfl) ?_;(conv=>whnf);refine andI g3 (fun _ g3=>?_) (fun _ g3=>?_)
    · (conv=>whnf);obtain rfl:=Option.some.inj g3;exact ⟨_,rfl,leX []⟩
    · (conv=>whnf);obtain rfl:=Option.some.inj g3;obtain rfl:=hy2 _ rfl;obtain rfl:=Option.some.inj h;exact lfP []
noncomputable def spec_l43FirstStale_m (a0:(List HelloRoute)):Option (Int) :=
 bd (lp (σ:=Int) (β:=(Int ⊕ Unit)) (fun s1 =>
(if (decide (s1<((a0.length:Nat):Int)))=true then
 gd ((0:Int)≤s1∧s1<((a0.length:Nat):Int)) <|
(if (a0.getD s1.toNat default).Stale=true then
 some (.inr (.inl s1))
else
 some (.inl (IntKind.i64.wrap (s1+1))))
else
 some (.inr (.inr ())))) 0) fun x4 =>
(match x4 with
| .inl d6 =>
 some d6
| .inr d7 =>
 some (-1))
theorem spec_l43FirstStale_c {a0:(List HelloRoute)} {r:Int} (h:spec_l43FirstStale_m a0=some r):PureC Tryz.prog 124 [.d (slD HelloRoute.enc a0)] (.d (.int .i64 r)) []:=by
  refine pureC_x tOk (fn:=Tryz.f124) (c:=codeOf Tryz.f124) rfl rfl ?_;unfold spec_l43FirstStale_m at h;(conv=>whnf);refine seq_in tOk ?_;(conv=>whnf);obtain ⟨x4,hx4,h⟩:=bd_some h;refine loop_m tOk hx4 (fun s1=>⟨0,16,[(0,.d (slD HelloRoute.enc a0)),(3,.d (.int .i64 s1))],[],[],[]⟩) ?_ ?_
  · exact leX []
  · clear hx4;intro s1 y2 g3 hy2;(conv=>whnf);refine seq_in tOk ?_;(conv=>whnf);refine andI g3 (fun _ g3=>?_) (fun _ g3=>?_)
    · (conv=>whnf);refine seq_in tOk ?_;(conv=>whnf);refine gdI g3 (fun g3=>?_);(conv=>whnf);refine andI g3 (fun _ g3=>?_) (fun _ g3=>?_)
      · (conv=>whnf);obtain rfl:=Option.some.inj g3;obtain rfl:=hy2 _ rfl;obtain rfl:=Option.some.inj h;exact lfP []
      · (conv=>whnf);obtain rfl:=Option.some.inj g3;exact ⟨_,rfl,leX []⟩
    · (conv=>whnf);obtain rfl:=Option.some.inj g3;obtain rfl:=hy2 _ rfl;obtain rfl:=Option.some.inj h;exact lfP []
noncomputable def spec_l43Without_m (a0:(List HelloRoute)) (a1:Int):Option ((List HelloRoute)) :=
 gd ((0:Int)≤(0:Int)∧(0:Int)≤a1∧a1≤((a0.length:Nat):Int)) <|
 bd (spec_l42Routes_m (a0.take a1.toNat)) fun x2 =>
 gd ((0:Int)≤IntKind.i64.wrap (a1+1)∧IntKind.i64.wrap (a1+1)≤((a0.length:Nat):Int)∧((a0.length:Nat):Int)≤((a0.length:Nat):Int)) <|
 gd (((x2.length)+((dsub ((a0.length:Nat):Int) (IntKind.i64.wrap (a1+1)))))*(40+1)≤70368744177664) <|
 some (x2 ++ (((a0).take ((IntKind.i64.wrap (a1+1)).toNat+(dsub ((a0.length:Nat):Int) (IntKind.i64.wrap (a1+1))))).drop ((IntKind.i64.wrap (a1+1)).toNat)))
theorem spec_l43Without_c {a0:(List HelloRoute)} {a1:Int} {r:(List HelloRoute)} (h:spec_l43Without_m a0 a1=some r):PureC Tryz.prog 123 [.d (slD HelloRoute.enc a0),.d (.int .i64 a1)] (.osl 5001 0 r.length) [⟨5001,94,5,r.length,rows HelloRoute.enc r⟩]:=by
  refine pureC_x tOk (fn:=Tryz.f123) (c:=codeOf Tryz.f123) rfl rfl ?_;unfold spec_l43Without_m at h;(conv=>whnf);obtain ⟨g1,h⟩:=gd_some h;obtain ⟨x2,hx2,h⟩:=bd_some h;obtain ⟨g3,h⟩:=gd_some h;refine draw_u tOk [.u 3 1000 (.osl 5001 0 x2.length) [⟨5001,94,5,x2.length,rows HelloRoute.enc x2⟩]] 8 [] [0,0,3,7,0,0,32,112] [255,511] ?_;(conv=>whnf);refine And.intro ⟨g1,.inr rfl⟩ ?_;(conv=>whnf);refine And.intro (callD_w (spec_l42Routes_c hx2) rfl argA) ?_;(conv=>whnf);refine And.intro ⟨g3,.inr rfl⟩ ?_;(conv=>whnf);refine And.intro (by kernel_rfl) ?_;(conv=>whnf);refine gdI h (fun h=>?_);refine appS (enc:=HelloRoute.enc) (xs:=x2) (ys:=((a0).take ((IntKind.i64.wrap (a1+1)).toNat+(dsub ((a0.length:Nat):Int) (IntKind.i64.wrap (a1+1))))).drop ((IntKind.i64.wrap (a1+1)).toNat)) ?_;(conv=>whnf);obtain rfl:=Option.some.inj h;exact lfP [.s [(5001,6001),(6001,5001)]]
noncomputable def spec_l43Has_d1_m (a0:(List HelloRoute)) (a1:HelloEntry):Option ((List HelloRoute) × Bool) :=
 bd (spec_l43Where_m a0 a1) fun x1 =>
 gd ((decide (x1<((a0.length:Nat):Int)))=true→((0:Int)≤x1∧x1<((a0.length:Nat):Int))) <|
 gd (((decide (x1<((a0.length:Nat):Int))) && ((((a0.getD x1.toNat default).Entry).Addr) == a1.Addr))=true→((0:Int)≤x1∧x1<((a0.length:Nat):Int))) <|
(if (((decide (x1<((a0.length:Nat):Int))) && ((((a0.getD x1.toNat default).Entry).Addr) == a1.Addr)) && ((((a0.getD x1.toNat default).Entry).Len) == a1.Len))=true then
 bd (spec_l42Routes_m a0) fun x4 =>
 gd ((0:Int)≤x1∧x1<((x4.length:Nat):Int)) <|
 some (x4.set x1.toNat (⟨a1,false⟩:HelloRoute),true)
else
(if (((a0.length:Nat):Int) == 16)=true then
 bd (spec_l43FirstStale_m a0) fun x6 =>
(if (decide (x6<0))=true then
 some (a0,false)
else
 none)
else
 gd ((0:Int)≤(0:Int)∧(0:Int)≤x1∧x1≤((a0.length:Nat):Int)) <|
 bd (spec_l42Routes_m (a0.take x1.toNat)) fun x8 =>
 gd (((x8.length)+(([(⟨a1,false⟩:HelloRoute)]:List HelloRoute).length))*(40+1)≤70368744177664) <|
 gd ((0:Int)≤x1∧x1≤((a0.length:Nat):Int)∧((a0.length:Nat):Int)≤((a0.length:Nat):Int)) <|
 gd ((((x8 ++ ([(⟨a1,false⟩:HelloRoute)]:List HelloRoute)).length)+((dsub ((a0.length:Nat):Int) x1)))*(40+1)≤70368744177664) <|
 some (((x8 ++ ([(⟨a1,false⟩:HelloRoute)]:List HelloRoute)) ++ (((a0).take (x1.toNat+(dsub ((a0.length:Nat):Int) x1))).drop x1.toNat)),true)))
theorem spec_l43Has_d1_c {a0:(List HelloRoute)} {a1:HelloEntry} {r:(List HelloRoute) × Bool} (h:spec_l43Has_d1_m a0 a1=some r):EffC Tryz.prog 121 [.d (slD HelloRoute.enc a0),.agg [.d (.int .i64 a1.Addr),.d (.int .i64 a1.Len),.d (.int .i64 a1.Cost),.d (.int .i64 a1.Label)]] [] (.tup [.d (slD HelloRoute.enc r.1),.d (.bool r.2)]) []:=by
  refine effC_x tOk (fn:=Tryz.f121) (c:=codeOf Tryz.f121) rfl rfl ?_;unfold spec_l43Has_d1_m at h;(conv=>whnf);obtain ⟨x1,hx1,h⟩:=bd_some h;refine cC 0 (spec_l43Where_c hx1) ?_;clear hx1;(conv=>whnf);refine seq_in tOk ?_;(conv=>whnf);obtain ⟨g2,h⟩:=gd_some h;obtain ⟨g3,h⟩:=gd_some h;refine draw_u tOk [] 26 [] [0,0,2,7,15,31,31,127,255,511,1023,31,2079,8191,16383,32767,65535,65535,262143,524287,1048575,2097151,65535,4259839,16777215,33554431] [] ?_;(conv=>whnf);refine And.intro g2 ?_;clear g2;(conv=>whnf);refine And.intro g3 ?_;clear g3;(conv=>whnf);refine And.intro (by kernel_rfl) ?_;(conv=>whnf);refine andI h (fun _ h=>?_) (fun _ h=>?_)
  · (conv=>whnf);obtain ⟨x4,hx4,h⟩:=bd_some h;refine cC 1000 (spec_l42Routes_c hx4) ?_;clear hx4;(conv=>whnf);refine gdI h (fun h=>?_);(conv=>whnf);refine ⟨rows HelloRoute.enc (x4.set x1.toNat (⟨a1,false⟩:HelloRoute)),store_rows' lenA rfl,?_⟩;(conv=>whnf);obtain rfl:=Option.some.inj h;exact lfE [.f [6001]]
  · (conv=>whnf);refine seq_in tOk ?_;(conv=>whnf);refine andI h (fun _ h=>?_) (fun _ h=>?_)
    · (conv=>whnf);obtain ⟨x6,hx6,h⟩:=bd_some h;refine cC 0 (spec_l43FirstStale_c hx6) ?_;clear hx6;(conv=>whnf);refine seq_in tOk ?_;(conv=>whnf);refine andI h (fun _ h=>?_) (fun _ h=>?_)
      · (conv=>whnf);obtain rfl:=Option.some.inj h;exact lfE []
      · (conv=>whnf);cases h
    · (conv=>whnf);obtain ⟨g7,h⟩:=gd_some h;obtain ⟨x8,hx8,h⟩:=bd_some h;obtain ⟨g9,h⟩:=gd_some h;obtain ⟨g10,h⟩:=gd_some h;obtain ⟨g11,h⟩:=gd_some h;refine draw_t tOk [.e 3 [] (.osl 6001 0 x8.length) [] [(6001,.arr 94 5 x8.length (rows HelloRoute.enc x8))],.a 7 [(6001,.arr 94 5 x8.length (rows HelloRoute.enc x8))] (.osl 68 0 ((x8 ++ ([(⟨a1,false⟩:HelloRoute)]:List HelloRoute)).length)) [(68,.arr 94 5 ((x8 ++ ([(⟨a1,false⟩:HelloRoute)]:List HelloRoute)).length) (rows HelloRoute.enc (x8 ++ ([(⟨a1,false⟩:HelloRoute)]:List HelloRoute))))],.a 11 [(68,.arr 94 5 ((x8 ++ ([(⟨a1,false⟩:HelloRoute)]:List HelloRoute)).length) (rows HelloRoute.enc (x8 ++ ([(⟨a1,false⟩:HelloRoute)]:List HelloRoute))))] (.osl 72 0 (((x8 ++ ([(⟨a1,false⟩:HelloRoute)]:List HelloRoute)) ++ (((a0).take (x1.toNat+(dsub ((a0.length:Nat):Int) x1))).drop x1.toNat)).length)) [(72,.arr 94 5 (((x8 ++ ([(⟨a1,false⟩:HelloRoute)]:List HelloRoute)) ++ (((a0).take (x1.toNat+(dsub ((a0.length:Nat):Int) x1))).drop x1.toNat)).length) (rows HelloRoute.enc ((x8 ++ ([(⟨a1,false⟩:HelloRoute)]:List HelloRoute)) ++ (((a0).take (x1.toNat+(dsub ((a0.length:Nat):Int) x1))).drop x1.toNat))))]] 14 [] [0,0,3,7,0,16,48,127,0,0,768,2047,4095,8191] [] [] ?_;(conv=>whnf);refine And.intro ⟨g7,.inr rfl⟩ ?_;(conv=>whnf);refine And.intro (eH [] 1000 ((spec_l42Routes_c hx8).eff rfl rfl)) ?_;(conv=>whnf);refine bldS (enc:=HelloRoute.enc) ([(⟨a1,false⟩:HelloRoute)]:List HelloRoute) ?_;(conv=>whnf);refine And.intro (by (conv=>whnf); exact ⟨g9,appS (enc:=HelloRoute.enc) (xs:=x8) (ys:=([(⟨a1,false⟩:HelloRoute)]:List HelloRoute)) ⟨rfl,rfl⟩⟩) ?_;(conv=>whnf);refine And.intro ⟨g10,.inr rfl⟩ ?_;(conv=>whnf);refine And.intro (by (conv=>whnf); exact ⟨g11,appS (enc:=HelloRoute.enc) (xs:=(x8 ++ ([(⟨a1,false⟩:HelloRoute)]:List HelloRoute))) (ys:=((a0).take (x1.toNat+(dsub ((a0.length:Nat):Int) x1))).drop x1.toNat) ⟨rfl,rfl⟩⟩) ?_;(conv=>whnf);refine And.intro (by kernel_rfl) ?_;(conv=>whnf);obtain rfl:=Option.some.inj h;exact lfE [.f [72]]
noncomputable def spec_l43Without_o00f_m (a0:(List HelloRoute)) (a1:Int):Option ((List HelloRoute)) :=
 gd ((0:Int)≤(0:Int)∧(0:Int)≤a1∧a1≤((a0.length:Nat):Int)) <|
 bd (spec_l42Routes_m (a0.take a1.toNat)) fun x2 =>
 gd ((0:Int)≤IntKind.i64.wrap (a1+1)∧IntKind.i64.wrap (a1+1)≤((a0.length:Nat):Int)∧((a0.length:Nat):Int)≤((a0.length:Nat):Int)) <|
 gd (((x2.length)+((dsub ((a0.length:Nat):Int) (IntKind.i64.wrap (a1+1)))))*(40+1)≤70368744177664) <|
 some (x2 ++ (((a0).take ((IntKind.i64.wrap (a1+1)).toNat+(dsub ((a0.length:Nat):Int) (IntKind.i64.wrap (a1+1))))).drop ((IntKind.i64.wrap (a1+1)).toNat)))
theorem spec_l43Without_o00f_c {a0:(List HelloRoute)} {a1:Int} {r:(List HelloRoute)} (h:spec_l43Without_o00f_m a0 a1=some r):EffC Tryz.prog 123 [.d (slD HelloRoute.enc a0),.d (.int .i64 a1)] [] (.d (slD HelloRoute.enc r)) []:=by
  refine effC_x tOk (fn:=Tryz.f123) (c:=codeOf Tryz.f123) rfl rfl ?_;unfold spec_l43Without_o00f_m at h;(conv=>whnf);obtain ⟨g1,h⟩:=gd_some h;obtain ⟨x2,hx2,h⟩:=bd_some h;obtain ⟨g3,h⟩:=gd_some h;refine draw_u tOk [.u 3 1000 (.osl 5001 0 x2.length) [⟨5001,94,5,x2.length,rows HelloRoute.enc x2⟩]] 8 [] [0,0,3,7,0,0,32,112] [255,511] ?_;(conv=>whnf);refine And.intro ⟨g1,.inr rfl⟩ ?_;(conv=>whnf);refine And.intro (callD_w (spec_l42Routes_c hx2) rfl argA) ?_;(conv=>whnf);refine And.intro ⟨g3,.inr rfl⟩ ?_;(conv=>whnf);refine And.intro (by kernel_rfl) ?_;(conv=>whnf);refine gdI h (fun h=>?_);refine appS (enc:=HelloRoute.enc) (xs:=x2) (ys:=((a0).take ((IntKind.i64.wrap (a1+1)).toNat+(dsub ((a0.length:Nat):Int) (IntKind.i64.wrap (a1+1))))).drop ((IntKind.i64.wrap (a1+1)).toNat)) ?_;(conv=>whnf);obtain rfl:=Option.some.inj h;exact lfE [.f [6001]]
noncomputable def spec_l43Has_m (a0:(List HelloRoute)) (a1:HelloEntry):Option ((List HelloRoute) × Bool) :=
 bd (spec_l43Where_m a0 a1) fun x1 =>
 gd ((decide (x1<((a0.length:Nat):Int)))=true→((0:Int)≤x1∧x1<((a0.length:Nat):Int))) <|
 gd (((decide (x1<((a0.length:Nat):Int))) && ((((a0.getD x1.toNat default).Entry).Addr) == a1.Addr))=true→((0:Int)≤x1∧x1<((a0.length:Nat):Int))) <|
(if (((decide (x1<((a0.length:Nat):Int))) && ((((a0.getD x1.toNat default).Entry).Addr) == a1.Addr)) && ((((a0.getD x1.toNat default).Entry).Len) == a1.Len))=true then
 bd (spec_l42Routes_m a0) fun x4 =>
 gd ((0:Int)≤x1∧x1<((x4.length:Nat):Int)) <|
 some (x4.set x1.toNat (⟨a1,false⟩:HelloRoute),true)
else
(if (((a0.length:Nat):Int) == 16)=true then
 bd (spec_l43FirstStale_m a0) fun x6 =>
(if (decide (x6<0))=true then
 some (a0,false)
else
 bd (spec_l43Without_o00f_m a0 x6) fun x7 =>
 bd (spec_l43Has_d1_m x7 a1) fun x8 =>
 some (x8.1,x8.2))
else
 gd ((0:Int)≤(0:Int)∧(0:Int)≤x1∧x1≤((a0.length:Nat):Int)) <|
 bd (spec_l42Routes_m (a0.take x1.toNat)) fun x10 =>
 gd (((x10.length)+(([(⟨a1,false⟩:HelloRoute)]:List HelloRoute).length))*(40+1)≤70368744177664) <|
 gd ((0:Int)≤x1∧x1≤((a0.length:Nat):Int)∧((a0.length:Nat):Int)≤((a0.length:Nat):Int)) <|
 gd ((((x10 ++ ([(⟨a1,false⟩:HelloRoute)]:List HelloRoute)).length)+((dsub ((a0.length:Nat):Int) x1)))*(40+1)≤70368744177664) <|
 some (((x10 ++ ([(⟨a1,false⟩:HelloRoute)]:List HelloRoute)) ++ (((a0).take (x1.toNat+(dsub ((a0.length:Nat):Int) x1))).drop x1.toNat)),true)))
theorem spec_l43Has_c {a0:(List HelloRoute)} {a1:HelloEntry} {r:(List HelloRoute) × Bool} (h:spec_l43Has_m a0 a1=some r):EffC Tryz.prog 121 [.d (slD HelloRoute.enc a0),.agg [.d (.int .i64 a1.Addr),.d (.int .i64 a1.Len),.d (.int .i64 a1.Cost),.d (.int .i64 a1.Label)]] [] (.tup [.d (slD HelloRoute.enc r.1),.d (.bool r.2)]) []:=by
  refine effC_x tOk (fn:=Tryz.f121) (c:=codeOf Tryz.f121) rfl rfl ?_;unfold spec_l43Has_m at h;(conv=>whnf);obtain ⟨x1,hx1,h⟩:=bd_some h;refine cC 0 (spec_l43Where_c hx1) ?_;clear hx1;(conv=>whnf);refine seq_in tOk ?_;(conv=>whnf);obtain ⟨g2,h⟩:=gd_some h;obtain ⟨g3,h⟩:=gd_some h;refine draw_u tOk [] 26 [] [0,0,2,7,15,31,31,127,255,511,1023,31,2079,8191,16383,32767,65535,65535,262143,524287,1048575,2097151,65535,4259839,16777215,33554431] [] ?_;(conv=>whnf);refine And.intro g2 ?_;clear g2;(conv=>whnf);refine And.intro g3 ?_;clear g3;(conv=>whnf);refine And.intro (by kernel_rfl) ?_;(conv=>whnf);refine andI h (fun _ h=>?_) (fun _ h=>?_)
  · (conv=>whnf);obtain ⟨x4,hx4,h⟩:=bd_some h;refine cC 1000 (spec_l42Routes_c hx4) ?_;clear hx4;(conv=>whnf);refine gdI h (fun h=>?_);(conv=>whnf);refine ⟨rows HelloRoute.enc (x4.set x1.toNat (⟨a1,false⟩:HelloRoute)),store_rows' lenA rfl,?_⟩;(conv=>whnf);obtain rfl:=Option.some.inj h;exact lfE [.f [6001]]
  · (conv=>whnf);refine seq_in tOk ?_;(conv=>whnf);refine andI h (fun _ h=>?_) (fun _ h=>?_)
    · (conv=>whnf);obtain ⟨x6,hx6,h⟩:=bd_some h;refine cC 0 (spec_l43FirstStale_c hx6) ?_;clear hx6;(conv=>whnf);refine seq_in tOk ?_;(conv=>whnf);refine andI h (fun _ h=>?_) (fun _ h=>?_)
      · (conv=>whnf);obtain rfl:=Option.some.inj h;exact lfE []
      · (conv=>whnf);obtain ⟨x7,hx7,h⟩:=bd_some h;obtain ⟨x8,hx8,h⟩:=bd_some h;refine draw_t tOk [.e 2 [] (.d (slD HelloRoute.enc x7)) [] [],.e 4 [] (.tup [.d (slD HelloRoute.enc x8.1),.d (.bool x8.2)]) [] []] 9 [] [0,0,3,0,15,31,31,127,255] [] [] ?_;(conv=>whnf);refine And.intro (eD [] 0 (spec_l43Without_o00f_c hx7)) ?_;(conv=>whnf);refine And.intro (eD [] 0 (spec_l43Has_d1_c hx8)) ?_;(conv=>whnf);refine And.intro (by kernel_rfl) ?_;(conv=>whnf);obtain rfl:=Option.some.inj h;exact lfE []
    · (conv=>whnf);obtain ⟨g9,h⟩:=gd_some h;obtain ⟨x10,hx10,h⟩:=bd_some h;obtain ⟨g11,h⟩:=gd_some h;obtain ⟨g12,h⟩:=gd_some h;obtain ⟨g13,h⟩:=gd_some h;refine draw_t tOk [.e 3 [] (.osl 6001 0 x10.length) [] [(6001,.arr 94 5 x10.length (rows HelloRoute.enc x10))],.a 7 [(6001,.arr 94 5 x10.length (rows HelloRoute.enc x10))] (.osl 68 0 ((x10 ++ ([(⟨a1,false⟩:HelloRoute)]:List HelloRoute)).length)) [(68,.arr 94 5 ((x10 ++ ([(⟨a1,false⟩:HelloRoute)]:List HelloRoute)).length) (rows HelloRoute.enc (x10 ++ ([(⟨a1,false⟩:HelloRoute)]:List HelloRoute))))],.a 11 [(68,.arr 94 5 ((x10 ++ ([(⟨a1,false⟩:HelloRoute)]:List HelloRoute)).length) (rows HelloRoute.enc (x10 ++ ([(⟨a1,false⟩:HelloRoute)]:List HelloRoute))))] (.osl 72 0 (((x10 ++ ([(⟨a1,false⟩:HelloRoute)]:List HelloRoute)) ++ (((a0).take (x1.toNat+(dsub ((a0.length:Nat):Int) x1))).drop x1.toNat)).length)) [(72,.arr 94 5 (((x10 ++ ([(⟨a1,false⟩:HelloRoute)]:List HelloRoute)) ++ (((a0).take (x1.toNat+(dsub ((a0.length:Nat):Int) x1))).drop x1.toNat)).length) (rows HelloRoute.enc ((x10 ++ ([(⟨a1,false⟩:HelloRoute)]:List HelloRoute)) ++ (((a0).take (x1.toNat+(dsub ((a0.length:Nat):Int) x1))).drop x1.toNat))))]] 14 [] [0,0,3,7,0,16,48,127,0,0,768,2047,4095,8191] [] [] ?_;(conv=>whnf);refine And.intro ⟨g9,.inr rfl⟩ ?_;(conv=>whnf);refine And.intro (eH [] 1000 ((spec_l42Routes_c hx10).eff rfl rfl)) ?_;(conv=>whnf);refine bldS (enc:=HelloRoute.enc) ([(⟨a1,false⟩:HelloRoute)]:List HelloRoute) ?_;(conv=>whnf);refine And.intro (by (conv=>whnf); exact ⟨g11,appS (enc:=HelloRoute.enc) (xs:=x10) (ys:=([(⟨a1,false⟩:HelloRoute)]:List HelloRoute)) ⟨rfl,rfl⟩⟩) ?_;(conv=>whnf);refine And.intro ⟨g12,.inr rfl⟩ ?_;(conv=>whnf);refine And.intro (by (conv=>whnf); exact ⟨g13,appS (enc:=HelloRoute.enc) (xs:=(x10 ++ ([(⟨a1,false⟩:HelloRoute)]:List HelloRoute))) (ys:=((a0).take (x1.toNat+(dsub ((a0.length:Nat):Int) x1))).drop x1.toNat) ⟨rfl,rfl⟩⟩) ?_;(conv=>whnf);refine And.intro (by kernel_rfl) ?_;(conv=>whnf);obtain rfl:=Option.some.inj h;exact lfE [.f [72]]
noncomputable def spec_l43Fresh_m (a0:(List HelloRoute)):Option ((List HelloRoute)) :=
 bd (lp (σ:=List HelloRoute × Int) (β:=(Nat × (List HelloRoute))) (fun s1 =>
(if (decide (s1.2<((a0.length:Nat):Int)))=true then
 gd ((0:Int)≤s1.2∧s1.2<((a0.length:Nat):Int)) <|
(if (!((a0.getD s1.2.toNat default).Stale))=true then
 gd ((0:Int)≤s1.2∧s1.2<((a0.length:Nat):Int)) <|
 gd (((s1.1.length)+(([(⟨((a0.getD s1.2.toNat default).Entry),(a0.getD s1.2.toNat default).Stale⟩:HelloRoute)]:List HelloRoute).length))*(40+1)≤70368744177664) <|
 some (.inl ((s1.1 ++ ([(⟨((a0.getD s1.2.toNat default).Entry),(a0.getD s1.2.toNat default).Stale⟩:HelloRoute)]:List HelloRoute)),IntKind.i64.wrap (s1.2+1)))
else
 some (.inl (s1.1,IntKind.i64.wrap (s1.2+1))))
else
 some (.inr (s1.1.length,s1.1)))) (([]:List HelloRoute),0)) fun x4 =>
 some x4.2
theorem spec_l43Fresh_c {a0:(List HelloRoute)} {r:(List HelloRoute)} (h:spec_l43Fresh_m a0=some r):PureC Tryz.prog 55 [.d (slD HelloRoute.enc a0)] (.osl 5001 0 r.length) [⟨5001,94,5,r.length,rows HelloRoute.enc r⟩]:=by
  refine pureC_x tOk (fn:=Tryz.f55) (c:=codeOf Tryz.f55) rfl rfl ?_;unfold spec_l43Fresh_m at h;(conv=>whnf);refine seq_in tOk ?_;(conv=>whnf);obtain ⟨x4,hx4,h⟩:=bd_some h;refine loop_m tOk hx4 (fun s1=>⟨0,26,[(0,.d (slD HelloRoute.enc a0)),(3,.osl 7001 0 s1.1.length),(4,.d (.int .i64 s1.2))],[],[(7001,.arr 94 5 s1.1.length (rows HelloRoute.enc s1.1))],[]⟩) ?_ ?_
  · exact leX [.p 7001 94 5 (rows HelloRoute.enc ([]:List HelloRoute))]
  · clear hx4;intro s1 y2 g3 hy2;(conv=>whnf);refine seq_in tOk ?_;(conv=>whnf);refine andI g3 (fun _ g3=>?_) (fun _ g3=>?_)
    · (conv=>whnf);refine seq_in tOk ?_;(conv=>whnf);refine gdI g3 (fun g3=>?_);(conv=>whnf);refine andI g3 (fun _ g3=>?_) (fun _ g3=>?_)
      · (conv=>whnf);refine gdI g3 (fun g3=>?_);(conv=>whnf);refine bldS (enc:=HelloRoute.enc) ([(⟨((a0.getD s1.2.toNat default).Entry),(a0.getD s1.2.toNat default).Stale⟩:HelloRoute)]:List HelloRoute) ?_;(conv=>whnf);refine gdI g3 (fun g3=>?_);refine appS (enc:=HelloRoute.enc) (xs:=s1.1) (ys:=([(⟨((a0.getD s1.2.toNat default).Entry),(a0.getD s1.2.toNat default).Stale⟩:HelloRoute)]:List HelloRoute)) ?_;(conv=>whnf);obtain rfl:=Option.some.inj g3;exact ⟨_,rfl,leX []⟩
      · (conv=>whnf);obtain rfl:=Option.some.inj g3;exact ⟨_,rfl,leX []⟩
    · (conv=>whnf);obtain rfl:=Option.some.inj g3;obtain rfl:=hy2 _ rfl;obtain rfl:=Option.some.inj h;exact lfP [.s [(5001,7001),(7001,5001)]]
noncomputable def spec_l43Told_m (a0:(List HelloRoute)) (a1:HelloChange):Option ((List HelloRoute) × Bool) :=
(if (a1.Kind == 1)=true then
 bd (spec_l43Has_m a0 a1.Entry) fun x1 =>
 some (x1.1,x1.2)
else
(if (a1.Kind == 2)=true then
 bd (spec_l43Where_m a0 a1.Entry) fun x2 =>
 gd ((decide (x2<((a0.length:Nat):Int)))=true→((0:Int)≤x2∧x2<((a0.length:Nat):Int))) <|
 gd (((decide (x2<((a0.length:Nat):Int))) && ((((a0.getD x2.toNat default).Entry).Addr) == a1.Entry.Addr))=true→((0:Int)≤x2∧x2<((a0.length:Nat):Int))) <|
(if (((decide (x2<((a0.length:Nat):Int))) && ((((a0.getD x2.toNat default).Entry).Addr) == a1.Entry.Addr)) && ((((a0.getD x2.toNat default).Entry).Len) == a1.Entry.Len))=true then
 bd (spec_l43Without_m a0 x2) fun x5 =>
 some (x5,true)
else
 some (a0,true))
else
 bd (spec_l43Fresh_m a0) fun x6 =>
 some (x6,true)))
theorem spec_l43Told_c {a0:(List HelloRoute)} {a1:HelloChange} {r:(List HelloRoute) × Bool} (h:spec_l43Told_m a0 a1=some r):EffC Tryz.prog 81 [.d (slD HelloRoute.enc a0),.agg [.d (.int .i64 a1.Kind),.d (.int .i64 a1.Entry.Addr),.d (.int .i64 a1.Entry.Len),.d (.int .i64 a1.Entry.Cost),.d (.int .i64 a1.Entry.Label)]] [] (.tup [.d (slD HelloRoute.enc r.1),.d (.bool r.2)]) []:=by
  refine effC_x tOk (fn:=Tryz.f81) (c:=codeOf Tryz.f81) rfl rfl ?_;unfold spec_l43Told_m at h;(conv=>whnf);refine seq_in tOk ?_;(conv=>whnf);refine andI h (fun _ h=>?_) (fun _ h=>?_)
  · (conv=>whnf);obtain ⟨x1,hx1,h⟩:=bd_some h;refine cE [] 0 (spec_l43Has_c hx1) ?_;(conv=>whnf);obtain rfl:=Option.some.inj h;exact lfE []
  · (conv=>whnf);refine andI h (fun _ h=>?_) (fun _ h=>?_)
    · (conv=>whnf);obtain ⟨x2,hx2,h⟩:=bd_some h;refine cC 0 (spec_l43Where_c hx2) ?_;clear hx2;(conv=>whnf);refine seq_in tOk ?_;(conv=>whnf);obtain ⟨g3,h⟩:=gd_some h;obtain ⟨g4,h⟩:=gd_some h;refine draw_u tOk [] 28 [] [0,0,2,7,15,31,31,127,255,511,1023,31,2079,6175,16383,32767,65535,131071,131071,524287,1048575,2097151,4194303,131071,8519679,25296895,67108863,134217727] [] ?_;(conv=>whnf);refine And.intro g3 ?_;clear g3;(conv=>whnf);refine And.intro g4 ?_;clear g4;(conv=>whnf);refine And.intro (by kernel_rfl) ?_;(conv=>whnf);refine andI h (fun _ h=>?_) (fun _ h=>?_)
      · (conv=>whnf);obtain ⟨x5,hx5,h⟩:=bd_some h;refine cC 1000 (spec_l43Without_c hx5) ?_;clear hx5;(conv=>whnf);obtain rfl:=Option.some.inj h;exact lfE [.f [6001]]
      · (conv=>whnf);obtain rfl:=Option.some.inj h;exact lfE []
    · (conv=>whnf);obtain ⟨x6,hx6,h⟩:=bd_some h;refine cC 1000 (spec_l43Fresh_c hx6) ?_;clear hx6;(conv=>whnf);obtain rfl:=Option.some.inj h;exact lfE [.f [6001]]
noncomputable def spec_l43Kept_m (a0:HelloEnd):Option (HelloEnd) :=
 bd (spec_l43FirstStale_m a0.Heard) fun x1 =>
(if (decide (x1<0))=true then
 some ({ a0 with Keep:=0 })
else
 some a0)
theorem spec_l43Kept_c {a0:HelloEnd} {r:HelloEnd} (h:spec_l43Kept_m a0=some r):EffC Tryz.prog 82 [.agg [.d (.int .i64 a0.Name),.d (.int .i64 a0.Peer),.d (slD HelloKey.enc a0.Keys),.d (.int .i64 a0.Boot),.d (slD HelloEntry.enc a0.Want),.d (.int .i64 a0.Turn),.d (.int .i64 a0.PeerBoot),.d (.int .i64 a0.PeerTurn),.d (.bool a0.Up),.d (.int .i64 a0.Left),.d (.int .i64 a0.Num),.d (.int .i64 a0.Under.Kind),.d (.int .i64 a0.Under.Entry.Addr),.d (.int .i64 a0.Under.Entry.Len),.d (.int .i64 a0.Under.Entry.Cost),.d (.int .i64 a0.Under.Entry.Label),.d (slD HelloEntry.enc a0.Told),.d (.bool a0.All),.d (.int .i64 a0.Got),.d (.bool a0.Full),.d (slD HelloRoute.enc a0.Heard),.d (.int .i64 a0.Keep)]] [] (.agg [.d (.int .i64 r.Name),.d (.int .i64 r.Peer),.d (slD HelloKey.enc r.Keys),.d (.int .i64 r.Boot),.d (slD HelloEntry.enc r.Want),.d (.int .i64 r.Turn),.d (.int .i64 r.PeerBoot),.d (.int .i64 r.PeerTurn),.d (.bool r.Up),.d (.int .i64 r.Left),.d (.int .i64 r.Num),.d (.int .i64 r.Under.Kind),.d (.int .i64 r.Under.Entry.Addr),.d (.int .i64 r.Under.Entry.Len),.d (.int .i64 r.Under.Entry.Cost),.d (.int .i64 r.Under.Entry.Label),.d (slD HelloEntry.enc r.Told),.d (.bool r.All),.d (.int .i64 r.Got),.d (.bool r.Full),.d (slD HelloRoute.enc r.Heard),.d (.int .i64 r.Keep)]) []:=by
  refine effC_x tOk (fn:=Tryz.f82) (c:=codeOf Tryz.f82) rfl rfl ?_;unfold spec_l43Kept_m at h;(conv=>whnf);refine seq_in tOk ?_;(conv=>whnf);obtain ⟨x1,hx1,h⟩:=bd_some h;refine cC 0 (spec_l43FirstStale_c hx1) ?_;clear hx1;(conv=>whnf);refine andI h (fun _ h=>?_) (fun _ h=>?_)
  · (conv=>whnf);obtain rfl:=Option.some.inj h;exact lfE []
  · (conv=>whnf);obtain rfl:=Option.some.inj h;exact lfE []
noncomputable def spec_l43Listen_m (a0:HelloEnd) (a1:HelloWord):Option (HelloEnd) :=
 bd (α:=List HelloRoute × Int × Int × Int × Int × Int × Int × Int × Int × List HelloEntry × Bool × Int × Bool × List HelloKey × Int × Int × List HelloEntry × Int × Int × Int × Bool × Int) ((if (decide (a1.Boot > a0.PeerBoot))=true then
 bd (spec_l43Anew_m a0) fun x4 =>
 some (x4.Heard,x4.Name,x4.Peer,x4.Num,x4.Under.Kind,x4.Under.Entry.Addr,x4.Under.Entry.Len,x4.Under.Entry.Cost,x4.Under.Entry.Label,x4.Told,x4.All,x4.Got,x4.Full,x4.Keys,x4.Keep,x4.Boot,x4.Want,x4.Turn,a1.Boot,x4.PeerTurn,x4.Up,x4.Left)
else
 some (a0.Heard,a0.Name,a0.Peer,a0.Num,a0.Under.Kind,a0.Under.Entry.Addr,a0.Under.Entry.Len,a0.Under.Entry.Cost,a0.Under.Entry.Label,a0.Told,a0.All,a0.Got,a0.Full,a0.Keys,a0.Keep,a0.Boot,a0.Want,a0.Turn,a0.PeerBoot,a0.PeerTurn,a0.Up,a0.Left))) fun x1 =>
(if (!(a1.Yours == x1.2.2.2.2.2.2.2.2.2.2.2.2.2.2.2.1))=true then
 some (⟨x1.2.1,x1.2.2.1,x1.2.2.2.2.2.2.2.2.2.2.2.2.2.1,x1.2.2.2.2.2.2.2.2.2.2.2.2.2.2.2.1,x1.2.2.2.2.2.2.2.2.2.2.2.2.2.2.2.2.1,x1.2.2.2.2.2.2.2.2.2.2.2.2.2.2.2.2.2.1,x1.2.2.2.2.2.2.2.2.2.2.2.2.2.2.2.2.2.2.1,a1.Turn,(a1.Yours == x1.2.2.2.2.2.2.2.2.2.2.2.2.2.2.2.1),4,x1.2.2.2.1,(⟨x1.2.2.2.2.1,(⟨x1.2.2.2.2.2.1,x1.2.2.2.2.2.2.1,x1.2.2.2.2.2.2.2.1,x1.2.2.2.2.2.2.2.2.1⟩:HelloEntry)⟩:HelloChange),x1.2.2.2.2.2.2.2.2.2.1,x1.2.2.2.2.2.2.2.2.2.2.1,x1.2.2.2.2.2.2.2.2.2.2.2.1,x1.2.2.2.2.2.2.2.2.2.2.2.2.1,x1.1,x1.2.2.2.2.2.2.2.2.2.2.2.2.2.2.1⟩:HelloEnd)
else
 bd (α:=Int × Int × Int × Int × Int × Int × Int × Int × List HelloEntry × Bool × Int × Bool × List HelloKey × List HelloRoute × Int × Int × List HelloEntry × Int × Int × Int × Bool × Int) ((if ((decide (x1.2.2.2.2.1 > 0)) && (a1.Heard == x1.2.2.2.1))=true then
 bd (spec_l43Answered_m (⟨x1.2.1,x1.2.2.1,x1.2.2.2.2.2.2.2.2.2.2.2.2.2.1,x1.2.2.2.2.2.2.2.2.2.2.2.2.2.2.2.1,x1.2.2.2.2.2.2.2.2.2.2.2.2.2.2.2.2.1,x1.2.2.2.2.2.2.2.2.2.2.2.2.2.2.2.2.2.1,x1.2.2.2.2.2.2.2.2.2.2.2.2.2.2.2.2.2.2.1,a1.Turn,(a1.Yours == x1.2.2.2.2.2.2.2.2.2.2.2.2.2.2.2.1),4,x1.2.2.2.1,(⟨x1.2.2.2.2.1,(⟨x1.2.2.2.2.2.1,x1.2.2.2.2.2.2.1,x1.2.2.2.2.2.2.2.1,x1.2.2.2.2.2.2.2.2.1⟩:HelloEntry)⟩:HelloChange),x1.2.2.2.2.2.2.2.2.2.1,x1.2.2.2.2.2.2.2.2.2.2.1,x1.2.2.2.2.2.2.2.2.2.2.2.1,x1.2.2.2.2.2.2.2.2.2.2.2.2.1,x1.1,x1.2.2.2.2.2.2.2.2.2.2.2.2.2.2.1⟩:HelloEnd)) fun x8 =>
 some (x8.Name,x8.Peer,x8.Num,x8.Under.Kind,x8.Under.Entry.Addr,x8.Under.Entry.Len,x8.Under.Entry.Cost,x8.Under.Entry.Label,x8.Told,x8.All,x8.Got,x8.Full,x8.Keys,x8.Heard,x8.Keep,x8.Boot,x8.Want,x8.Turn,x8.PeerBoot,x8.PeerTurn,x8.Up,x8.Left)
else
 some (x1.2.1,x1.2.2.1,x1.2.2.2.1,x1.2.2.2.2.1,x1.2.2.2.2.2.1,x1.2.2.2.2.2.2.1,x1.2.2.2.2.2.2.2.1,x1.2.2.2.2.2.2.2.2.1,x1.2.2.2.2.2.2.2.2.2.1,x1.2.2.2.2.2.2.2.2.2.2.1,x1.2.2.2.2.2.2.2.2.2.2.2.1,x1.2.2.2.2.2.2.2.2.2.2.2.2.1,x1.2.2.2.2.2.2.2.2.2.2.2.2.2.1,x1.1,x1.2.2.2.2.2.2.2.2.2.2.2.2.2.2.1,x1.2.2.2.2.2.2.2.2.2.2.2.2.2.2.2.1,x1.2.2.2.2.2.2.2.2.2.2.2.2.2.2.2.2.1,x1.2.2.2.2.2.2.2.2.2.2.2.2.2.2.2.2.2.1,x1.2.2.2.2.2.2.2.2.2.2.2.2.2.2.2.2.2.2.1,a1.Turn,(a1.Yours == x1.2.2.2.2.2.2.2.2.2.2.2.2.2.2.2.1),4))) fun x5 =>
(if ((decide (a1.Change.Kind > 0)) && (a1.Num == (IntKind.i64.wrap (x5.2.2.2.2.2.2.2.2.2.2.1+1))))=true then
 bd (spec_l43Told_m x5.2.2.2.2.2.2.2.2.2.2.2.2.2.1 a1.Change) fun x9 =>
(if x9.2=true then
 bd (spec_l43Kept_m (⟨x5.1,x5.2.1,x5.2.2.2.2.2.2.2.2.2.2.2.2.1,x5.2.2.2.2.2.2.2.2.2.2.2.2.2.2.2.1,x5.2.2.2.2.2.2.2.2.2.2.2.2.2.2.2.2.1,x5.2.2.2.2.2.2.2.2.2.2.2.2.2.2.2.2.2.1,x5.2.2.2.2.2.2.2.2.2.2.2.2.2.2.2.2.2.2.1,x5.2.2.2.2.2.2.2.2.2.2.2.2.2.2.2.2.2.2.2.1,x5.2.2.2.2.2.2.2.2.2.2.2.2.2.2.2.2.2.2.2.2.1,x5.2.2.2.2.2.2.2.2.2.2.2.2.2.2.2.2.2.2.2.2.2,x5.2.2.1,(⟨x5.2.2.2.1,(⟨x5.2.2.2.2.1,x5.2.2.2.2.2.1,x5.2.2.2.2.2.2.1,x5.2.2.2.2.2.2.2.1⟩:HelloEntry)⟩:HelloChange),x5.2.2.2.2.2.2.2.2.1,x5.2.2.2.2.2.2.2.2.2.1,a1.Num,(x5.2.2.2.2.2.2.2.2.2.2.2.1 || (a1.Change.Kind == 3)),x9.1,x5.2.2.2.2.2.2.2.2.2.2.2.2.2.2.1⟩:HelloEnd)) fun x10 =>
 some x10
else
 bd (spec_l43Kept_m (⟨x5.1,x5.2.1,x5.2.2.2.2.2.2.2.2.2.2.2.2.1,x5.2.2.2.2.2.2.2.2.2.2.2.2.2.2.2.1,x5.2.2.2.2.2.2.2.2.2.2.2.2.2.2.2.2.1,x5.2.2.2.2.2.2.2.2.2.2.2.2.2.2.2.2.2.1,x5.2.2.2.2.2.2.2.2.2.2.2.2.2.2.2.2.2.2.1,x5.2.2.2.2.2.2.2.2.2.2.2.2.2.2.2.2.2.2.2.1,x5.2.2.2.2.2.2.2.2.2.2.2.2.2.2.2.2.2.2.2.2.1,x5.2.2.2.2.2.2.2.2.2.2.2.2.2.2.2.2.2.2.2.2.2,x5.2.2.1,(⟨x5.2.2.2.1,(⟨x5.2.2.2.2.1,x5.2.2.2.2.2.1,x5.2.2.2.2.2.2.1,x5.2.2.2.2.2.2.2.1⟩:HelloEntry)⟩:HelloChange),x5.2.2.2.2.2.2.2.2.1,x5.2.2.2.2.2.2.2.2.2.1,x5.2.2.2.2.2.2.2.2.2.2.1,x5.2.2.2.2.2.2.2.2.2.2.2.1,x5.2.2.2.2.2.2.2.2.2.2.2.2.2.1,x5.2.2.2.2.2.2.2.2.2.2.2.2.2.2.1⟩:HelloEnd)) fun x11 =>
 some x11)
else
 bd (spec_l43Kept_m (⟨x5.1,x5.2.1,x5.2.2.2.2.2.2.2.2.2.2.2.2.1,x5.2.2.2.2.2.2.2.2.2.2.2.2.2.2.2.1,x5.2.2.2.2.2.2.2.2.2.2.2.2.2.2.2.2.1,x5.2.2.2.2.2.2.2.2.2.2.2.2.2.2.2.2.2.1,x5.2.2.2.2.2.2.2.2.2.2.2.2.2.2.2.2.2.2.1,x5.2.2.2.2.2.2.2.2.2.2.2.2.2.2.2.2.2.2.2.1,x5.2.2.2.2.2.2.2.2.2.2.2.2.2.2.2.2.2.2.2.2.1,x5.2.2.2.2.2.2.2.2.2.2.2.2.2.2.2.2.2.2.2.2.2,x5.2.2.1,(⟨x5.2.2.2.1,(⟨x5.2.2.2.2.1,x5.2.2.2.2.2.1,x5.2.2.2.2.2.2.1,x5.2.2.2.2.2.2.2.1⟩:HelloEntry)⟩:HelloChange),x5.2.2.2.2.2.2.2.2.1,x5.2.2.2.2.2.2.2.2.2.1,x5.2.2.2.2.2.2.2.2.2.2.1,x5.2.2.2.2.2.2.2.2.2.2.2.1,x5.2.2.2.2.2.2.2.2.2.2.2.2.2.1,x5.2.2.2.2.2.2.2.2.2.2.2.2.2.2.1⟩:HelloEnd)) fun x12 =>
 some x12))
theorem spec_l43Listen_c {a0:HelloEnd} {a1:HelloWord} {r:HelloEnd} (h:spec_l43Listen_m a0 a1=some r):EffC Tryz.prog 32 [.agg [.d (.int .i64 a0.Name),.d (.int .i64 a0.Peer),.d (slD HelloKey.enc a0.Keys),.d (.int .i64 a0.Boot),.d (slD HelloEntry.enc a0.Want),.d (.int .i64 a0.Turn),.d (.int .i64 a0.PeerBoot),.d (.int .i64 a0.PeerTurn),.d (.bool a0.Up),.d (.int .i64 a0.Left),.d (.int .i64 a0.Num),.d (.int .i64 a0.Under.Kind),.d (.int .i64 a0.Under.Entry.Addr),.d (.int .i64 a0.Under.Entry.Len),.d (.int .i64 a0.Under.Entry.Cost),.d (.int .i64 a0.Under.Entry.Label),.d (slD HelloEntry.enc a0.Told),.d (.bool a0.All),.d (.int .i64 a0.Got),.d (.bool a0.Full),.osl 9000 0 a0.Heard.length,.d (.int .i64 a0.Keep)],.agg [.d (.int .i64 a1.From),.d (.int .i64 a1.To),.d (.int .i64 a1.Key),.d (.int .i64 a1.Boot),.d (.int .i64 a1.Yours),.d (.int .i64 a1.Turn),.d (.int .i64 a1.Num),.d (.int .i64 a1.Heard),.d (.int .i64 a1.Change.Kind),.d (.int .i64 a1.Change.Entry.Addr),.d (.int .i64 a1.Change.Entry.Len),.d (.int .i64 a1.Change.Entry.Cost),.d (.int .i64 a1.Change.Entry.Label),.d (.int .i64 a1.Sum)]] [(9000,.arr 94 5 a0.Heard.length (rows HelloRoute.enc a0.Heard))] (.agg [.d (.int .i64 r.Name),.d (.int .i64 r.Peer),.d (slD HelloKey.enc r.Keys),.d (.int .i64 r.Boot),.d (slD HelloEntry.enc r.Want),.d (.int .i64 r.Turn),.d (.int .i64 r.PeerBoot),.d (.int .i64 r.PeerTurn),.d (.bool r.Up),.d (.int .i64 r.Left),.d (.int .i64 r.Num),.d (.int .i64 r.Under.Kind),.d (.int .i64 r.Under.Entry.Addr),.d (.int .i64 r.Under.Entry.Len),.d (.int .i64 r.Under.Entry.Cost),.d (.int .i64 r.Under.Entry.Label),.d (slD HelloEntry.enc r.Told),.d (.bool r.All),.d (.int .i64 r.Got),.d (.bool r.Full),.d (slD HelloRoute.enc r.Heard),.d (.int .i64 r.Keep)]) []:=by
  refine effC_x tOk (fn:=Tryz.f32) (c:=codeOf Tryz.f32) rfl rfl ?_;unfold spec_l43Listen_m at h;(conv=>whnf);obtain ⟨x1,hx1,h⟩:=bd_some h;refine seq_join tOk (fun s2=>⟨0,81,[(2,.ref 2 0 0),(3,.ref 3 0 0),(4,.ref 4 0 0)],[],[(6001,.arr 94 5 s2.1.length (rows HelloRoute.enc s2.1)),(4,.box 41 [.d (.int .i64 0),.d (.int .i64 0),.d (.nil),.d (.int .i64 0),.d (.nil),.d (.int .i64 0),.d (.int .i64 0),.d (.int .i64 0),.d (.bool false),.d (.int .i64 0),.d (.int .i64 0),.d (.int .i64 0),.d (.int .i64 0),.d (.int .i64 0),.d (.int .i64 0),.d (.int .i64 0),.d (.nil),.d (.bool false),.d (.int .i64 0),.d (.bool false),.d (.nil),.d (.int .i64 0)]),(3,.box 45 [.d (.int .i64 a1.From),.d (.int .i64 a1.To),.d (.int .i64 a1.Key),.d (.int .i64 a1.Boot),.d (.int .i64 a1.Yours),.d (.int .i64 a1.Turn),.d (.int .i64 a1.Num),.d (.int .i64 a1.Heard),.d (.int .i64 a1.Change.Kind),.d (.int .i64 a1.Change.Entry.Addr),.d (.int .i64 a1.Change.Entry.Len),.d (.int .i64 a1.Change.Entry.Cost),.d (.int .i64 a1.Change.Entry.Label),.d (.int .i64 a1.Sum)]),(2,.box 41 [.d (.int .i64 s2.2.1),.d (.int .i64 s2.2.2.1),.d (slD HelloKey.enc s2.2.2.2.2.2.2.2.2.2.2.2.2.2.1),.d (.int .i64 s2.2.2.2.2.2.2.2.2.2.2.2.2.2.2.2.1),.d (slD HelloEntry.enc s2.2.2.2.2.2.2.2.2.2.2.2.2.2.2.2.2.1),.d (.int .i64 s2.2.2.2.2.2.2.2.2.2.2.2.2.2.2.2.2.2.1),.d (.int .i64 s2.2.2.2.2.2.2.2.2.2.2.2.2.2.2.2.2.2.2.1),.d (.int .i64 s2.2.2.2.2.2.2.2.2.2.2.2.2.2.2.2.2.2.2.2.1),.d (.bool s2.2.2.2.2.2.2.2.2.2.2.2.2.2.2.2.2.2.2.2.2.1),.d (.int .i64 s2.2.2.2.2.2.2.2.2.2.2.2.2.2.2.2.2.2.2.2.2.2),.d (.int .i64 s2.2.2.2.1),.d (.int .i64 s2.2.2.2.2.1),.d (.int .i64 s2.2.2.2.2.2.1),.d (.int .i64 s2.2.2.2.2.2.2.1),.d (.int .i64 s2.2.2.2.2.2.2.2.1),.d (.int .i64 s2.2.2.2.2.2.2.2.2.1),.d (slD HelloEntry.enc s2.2.2.2.2.2.2.2.2.2.1),.d (.bool s2.2.2.2.2.2.2.2.2.2.2.1),.d (.int .i64 s2.2.2.2.2.2.2.2.2.2.2.2.1),.d (.bool s2.2.2.2.2.2.2.2.2.2.2.2.2.1),.osl 6001 0 s2.1.length,.d (.int .i64 s2.2.2.2.2.2.2.2.2.2.2.2.2.2.2.1)])],[⟨[],[]⟩]⟩) (fun s2=>x1=s2) ?_ ?_
  · (conv=>whnf);refine andI hx1 (fun _ hx1=>?_) (fun _ hx1=>?_)
    · (conv=>whnf);obtain ⟨x4,hx4,hx1⟩:=bd_some hx1;refine cE [(9000,9000)] 1000 (spec_l43Anew_c hx4) ?_;(conv=>whnf);obtain rfl:=Option.some.inj hx1;exact ⟨_,rfl,leX []⟩
    · (conv=>whnf);obtain rfl:=Option.some.inj hx1;exact ⟨_,rfl,leX [.s [(6001,9000),(9000,6001)]]⟩
  · rintro _ rfl;(conv=>whnf);refine seq_in tOk ?_;(conv=>whnf);refine andI h (fun _ h=>?_) (fun _ h=>?_)
    · (conv=>whnf);obtain rfl:=Option.some.inj h;exact lfE [.f [6001]]
    · (conv=>whnf);obtain ⟨x5,hx5,h⟩:=bd_some h;refine seq_join tOk (fun s6=>⟨0,81,[(2,.ref 2 0 0),(3,.ref 3 0 0),(4,.ref 4 0 0)],[],[(4,.box 41 [.d (.int .i64 0),.d (.int .i64 0),.d (.nil),.d (.int .i64 0),.d (.nil),.d (.int .i64 0),.d (.int .i64 0),.d (.int .i64 0),.d (.bool false),.d (.int .i64 0),.d (.int .i64 0),.d (.int .i64 0),.d (.int .i64 0),.d (.int .i64 0),.d (.int .i64 0),.d (.int .i64 0),.d (.nil),.d (.bool false),.d (.int .i64 0),.d (.bool false),.d (.nil),.d (.int .i64 0)]),(3,.box 45 [.d (.int .i64 a1.From),.d (.int .i64 a1.To),.d (.int .i64 a1.Key),.d (.int .i64 a1.Boot),.d (.int .i64 a1.Yours),.d (.int .i64 a1.Turn),.d (.int .i64 a1.Num),.d (.int .i64 a1.Heard),.d (.int .i64 a1.Change.Kind),.d (.int .i64 a1.Change.Entry.Addr),.d (.int .i64 a1.Change.Entry.Len),.d (.int .i64 a1.Change.Entry.Cost),.d (.int .i64 a1.Change.Entry.Label),.d (.int .i64 a1.Sum)]),(2,.box 41 [.d (.int .i64 s6.1),.d (.int .i64 s6.2.1),.d (slD HelloKey.enc s6.2.2.2.2.2.2.2.2.2.2.2.2.1),.d (.int .i64 s6.2.2.2.2.2.2.2.2.2.2.2.2.2.2.2.1),.d (slD HelloEntry.enc s6.2.2.2.2.2.2.2.2.2.2.2.2.2.2.2.2.1),.d (.int .i64 s6.2.2.2.2.2.2.2.2.2.2.2.2.2.2.2.2.2.1),.d (.int .i64 s6.2.2.2.2.2.2.2.2.2.2.2.2.2.2.2.2.2.2.1),.d (.int .i64 s6.2.2.2.2.2.2.2.2.2.2.2.2.2.2.2.2.2.2.2.1),.d (.bool s6.2.2.2.2.2.2.2.2.2.2.2.2.2.2.2.2.2.2.2.2.1),.d (.int .i64 s6.2.2.2.2.2.2.2.2.2.2.2.2.2.2.2.2.2.2.2.2.2),.d (.int .i64 s6.2.2.1),.d (.int .i64 s6.2.2.2.1),.d (.int .i64 s6.2.2.2.2.1),.d (.int .i64 s6.2.2.2.2.2.1),.d (.int .i64 s6.2.2.2.2.2.2.1),.d (.int .i64 s6.2.2.2.2.2.2.2.1),.d (slD HelloEntry.enc s6.2.2.2.2.2.2.2.2.1),.d (.bool s6.2.2.2.2.2.2.2.2.2.1),.d (.int .i64 s6.2.2.2.2.2.2.2.2.2.2.1),.d (.bool s6.2.2.2.2.2.2.2.2.2.2.2.1),.d (slD HelloRoute.enc s6.2.2.2.2.2.2.2.2.2.2.2.2.2.1),.d (.int .i64 s6.2.2.2.2.2.2.2.2.2.2.2.2.2.2.1)])],[⟨[],[]⟩]⟩) (fun s6=>x5=s6) ?_ ?_
      · (conv=>whnf);refine andI hx5 (fun _ hx5=>?_) (fun _ hx5=>?_)
        · (conv=>whnf);obtain ⟨x8,hx8,hx5⟩:=bd_some hx5;refine callFz [6001] ?_;(conv=>whnf);refine cE [] 1000 (spec_l43Answered_c hx8) ?_;(conv=>whnf);obtain rfl:=Option.some.inj hx5;exact ⟨_,rfl,leX [.f [6001]]⟩
        · (conv=>whnf);obtain rfl:=Option.some.inj hx5;exact ⟨_,rfl,leX [.f [6001]]⟩
      · rintro _ rfl;(conv=>whnf);refine seq_in tOk ?_;(conv=>whnf);refine andI h (fun _ h=>?_) (fun _ h=>?_)
        · (conv=>whnf);obtain ⟨x9,hx9,h⟩:=bd_some h;refine cE [] 0 (spec_l43Told_c hx9) ?_;(conv=>whnf);refine andI h (fun _ h=>?_) (fun _ h=>?_)
          · (conv=>whnf);obtain ⟨x10,hx10,h⟩:=bd_some h;refine cE [] 0 (spec_l43Kept_c hx10) ?_;(conv=>whnf);obtain rfl:=Option.some.inj h;exact lfE []
          · (conv=>whnf);obtain ⟨x11,hx11,h⟩:=bd_some h;refine cE [] 0 (spec_l43Kept_c hx11) ?_;(conv=>whnf);obtain rfl:=Option.some.inj h;exact lfE []
        · (conv=>whnf);obtain ⟨x12,hx12,h⟩:=bd_some h;refine cE [] 0 (spec_l43Kept_c hx12) ?_;(conv=>whnf);obtain rfl:=Option.some.inj h;exact lfE []
noncomputable def spec_HelloHear_m (a0:HelloEnd) (a1:HelloWord):Option (HelloEnd) :=
 bd (spec_HelloEndOk_m a0) fun x1 =>
(if (!x1)=true then
 some (⟨0,0,[],0,[],0,0,0,false,0,0,(⟨0,(⟨0,0,0,0⟩:HelloEntry)⟩:HelloChange),[],false,0,false,[],0⟩:HelloEnd)
else
 bd (spec_l42Copy_m a0) fun x2 =>
 bd (gcall ((a0.Boot == 1000)=false) (spec_HelloRight_m a0.Keys a1)) fun x3 =>
(if ((((a0.Boot == 1000) || (!x3)) || (a1.From != a0.Peer)) || (a1.To != a0.Name))=true then
 some x2
else
(if ((decide (a1.Boot<a0.PeerBoot)) || ((a1.Boot == a0.PeerBoot) && (decide (a1.Turn≤a0.PeerTurn))))=true then
 some x2
else
 bd (spec_l43Listen_m x2 a1) fun x4 =>
 bd (spec_l42Copy_m x4) fun x5 =>
 some x5)))
theorem spec_HelloHear_c {a0:HelloEnd} {a1:HelloWord} {r:HelloEnd} (h:spec_HelloHear_m a0 a1=some r):PureC Tryz.prog 8 [.agg [.d (.int .i64 a0.Name),.d (.int .i64 a0.Peer),.d (slD HelloKey.enc a0.Keys),.d (.int .i64 a0.Boot),.d (slD HelloEntry.enc a0.Want),.d (.int .i64 a0.Turn),.d (.int .i64 a0.PeerBoot),.d (.int .i64 a0.PeerTurn),.d (.bool a0.Up),.d (.int .i64 a0.Left),.d (.int .i64 a0.Num),.d (.int .i64 a0.Under.Kind),.d (.int .i64 a0.Under.Entry.Addr),.d (.int .i64 a0.Under.Entry.Len),.d (.int .i64 a0.Under.Entry.Cost),.d (.int .i64 a0.Under.Entry.Label),.d (slD HelloEntry.enc a0.Told),.d (.bool a0.All),.d (.int .i64 a0.Got),.d (.bool a0.Full),.d (slD HelloRoute.enc a0.Heard),.d (.int .i64 a0.Keep)],.agg [.d (.int .i64 a1.From),.d (.int .i64 a1.To),.d (.int .i64 a1.Key),.d (.int .i64 a1.Boot),.d (.int .i64 a1.Yours),.d (.int .i64 a1.Turn),.d (.int .i64 a1.Num),.d (.int .i64 a1.Heard),.d (.int .i64 a1.Change.Kind),.d (.int .i64 a1.Change.Entry.Addr),.d (.int .i64 a1.Change.Entry.Len),.d (.int .i64 a1.Change.Entry.Cost),.d (.int .i64 a1.Change.Entry.Label),.d (.int .i64 a1.Sum)]] (.agg [.d (.int .i64 r.Name),.d (.int .i64 r.Peer),.osl 5001 0 r.Keys.length,.d (.int .i64 r.Boot),.osl 5002 0 r.Want.length,.d (.int .i64 r.Turn),.d (.int .i64 r.PeerBoot),.d (.int .i64 r.PeerTurn),.d (.bool r.Up),.d (.int .i64 r.Left),.d (.int .i64 r.Num),.d (.int .i64 r.Under.Kind),.d (.int .i64 r.Under.Entry.Addr),.d (.int .i64 r.Under.Entry.Len),.d (.int .i64 r.Under.Entry.Cost),.d (.int .i64 r.Under.Entry.Label),.osl 5003 0 r.Told.length,.d (.bool r.All),.d (.int .i64 r.Got),.d (.bool r.Full),.osl 5004 0 r.Heard.length,.d (.int .i64 r.Keep)]) [⟨5001,90,2,r.Keys.length,rows HelloKey.enc r.Keys⟩,⟨5002,36,4,r.Want.length,rows HelloEntry.enc r.Want⟩,⟨5003,36,4,r.Told.length,rows HelloEntry.enc r.Told⟩,⟨5004,94,5,r.Heard.length,rows HelloRoute.enc r.Heard⟩]:=by
  refine pureC_x tOk (fn:=Tryz.f8) (c:=codeOf Tryz.f8) rfl rfl ?_;unfold spec_HelloHear_m at h;(conv=>whnf);refine seq_in tOk ?_;(conv=>whnf);obtain ⟨x1,hx1,h⟩:=bd_some h;refine cC 0 (spec_HelloEndOk_c hx1) ?_;clear hx1;(conv=>whnf);refine andI h (fun _ h=>?_) (fun _ h=>?_)
  · (conv=>whnf);obtain rfl:=Option.some.inj h;exact lfP [.k [2,3],.p 5001 90 2 (rows HelloKey.enc ([]:List HelloKey)),.p 5002 36 4 (rows HelloEntry.enc ([]:List HelloEntry)),.p 5003 36 4 (rows HelloEntry.enc ([]:List HelloEntry)),.p 5004 94 5 (rows HelloRoute.enc ([]:List HelloRoute))]
  · (conv=>whnf);obtain ⟨x2,hx2,h⟩:=bd_some h;refine cC 1000 (spec_l42Copy_c hx2) ?_;clear hx2;(conv=>whnf);refine seq_in tOk ?_;(conv=>whnf);obtain ⟨x3,hx3,h⟩:=bd_some h;refine cG (fun c0=>spec_HelloRight_c (gcall_some hx3 c0)) ?_;(conv=>whnf);refine andI h (fun _ h=>?_) (fun _ h=>?_)
    · (conv=>whnf);obtain rfl:=Option.some.inj h;exact lfP [.s [(5001,6001),(5002,6002),(5003,6003),(5004,6004),(6001,5001),(6002,5002),(6003,5003),(6004,5004)]]
    · (conv=>whnf);refine seq_in tOk ?_;(conv=>whnf);refine andI h (fun _ h=>?_) (fun _ h=>?_)
      · (conv=>whnf);obtain rfl:=Option.some.inj h;exact lfP [.s [(5001,6001),(5002,6002),(5003,6003),(5004,6004),(6001,5001),(6002,5002),(6003,5003),(6004,5004)]]
      · (conv=>whnf);obtain ⟨x4,hx4,h⟩:=bd_some h;refine callFz [6001,6002,6003] ?_;(conv=>whnf);refine cE [(9000,6004)] 0 (spec_l43Listen_c hx4) ?_;(conv=>whnf);obtain ⟨x5,hx5,h⟩:=bd_some h;refine cC 2000 (spec_l42Copy_c hx5) ?_;clear hx5;(conv=>whnf);obtain rfl:=Option.some.inj h;exact lfP [.s [(5001,7001),(5002,7002),(5003,7003),(5004,7004),(7001,5001),(7002,5002),(7003,5003),(7004,5004)]]
noncomputable def spec_l44Bring_m (a0:HelloWorld) (a1:Int):Option (HelloWorld) :=
 gd ((0:Int)≤a1∧a1<((a0.Radio.length:Nat):Int)) <|
 gd ((0:Int)≤(0:Int)∧(0:Int)≤a1∧a1≤((a0.Radio.length:Nat):Int)) <|
 gd (((0)+(a1.toNat))*(112+1)≤70368744177664) <|
 gd ((0:Int)≤IntKind.i64.wrap (a1+1)∧IntKind.i64.wrap (a1+1)≤((a0.Radio.length:Nat):Int)∧((a0.Radio.length:Nat):Int)≤((a0.Radio.length:Nat):Int)) <|
 gd ((((a0.Radio.take a1.toNat).length)+((dsub ((a0.Radio.length:Nat):Int) (IntKind.i64.wrap (a1+1)))))*(112+1)≤70368744177664) <|
 bd (lp (σ:=List HelloSide × Int) (β:=(Nat × (List HelloSide))) (fun s5 =>
(if (decide (s5.2<2))=true then
 gd ((0:Int)≤s5.2∧s5.2<((s5.1.length:Nat):Int)) <|
 gd ((s5.1.getD s5.2.toNat default).Up=true→((0:Int)≤s5.2∧s5.2<((s5.1.length:Nat):Int))) <|
(if ((s5.1.getD s5.2.toNat default).Up && ((((s5.1.getD s5.2.toNat default).End).Name) == ((a0.Radio.getD a1.toNat default).To)))=true then
 gd ((0:Int)≤s5.2∧s5.2<((s5.1.length:Nat):Int)) <|
 bd (spec_HelloHear_m ({ ((s5.1.getD s5.2.toNat default).End) with Under:=(⟨(((s5.1.getD s5.2.toNat default).End).Under).Kind,((((s5.1.getD s5.2.toNat default).End).Under).Entry)⟩:HelloChange) }) ({ (a0.Radio.getD a1.toNat default) with Change:=(⟨((a0.Radio.getD a1.toNat default).Change).Kind,(((a0.Radio.getD a1.toNat default).Change).Entry)⟩:HelloChange) })) fun x12 =>
 gd ((0:Int)≤s5.2∧s5.2<((s5.1.length:Nat):Int)) <|
 some (.inl (s5.1.set s5.2.toNat (⟨(s5.1.getD s5.2.toNat default).Up,x12⟩:HelloSide),IntKind.i64.wrap (s5.2+1)))
else
 some (.inl (s5.1,IntKind.i64.wrap (s5.2+1))))
else
 some (.inr (s5.1.length,s5.1)))) (a0.Sides,0)) fun x8 =>
 some (⟨x8.2,((a0.Radio.take a1.toNat) ++ (((a0.Radio).take ((IntKind.i64.wrap (a1+1)).toNat+(dsub ((a0.Radio.length:Nat):Int) (IntKind.i64.wrap (a1+1))))).drop ((IntKind.i64.wrap (a1+1)).toNat)))⟩:HelloWorld)
theorem spec_l44Bring_c {a0:HelloWorld} {a1:Int} {r:HelloWorld} (h:spec_l44Bring_m a0 a1=some r):EffC Tryz.prog 168 [.agg [.osl 9000 0 a0.Sides.length,.d (slD HelloWord.enc a0.Radio)],.d (.int .i64 a1)] [(9000,.arr 145 23 a0.Sides.length (rows HelloSide.enc a0.Sides))] (.agg [.osl 5001 0 r.Sides.length,.osl 5002 0 r.Radio.length]) [(5001,.arr 145 23 r.Sides.length (rows HelloSide.enc r.Sides)),(5002,.arr 45 14 r.Radio.length (rows HelloWord.enc r.Radio))]:=by
  refine effC_x tOk (fn:=Tryz.f168) (c:=codeOf Tryz.f168) rfl rfl ?_;unfold spec_l44Bring_m at h;(conv=>whnf);refine gdI h (fun h=>?_);(conv=>whnf);obtain ⟨g2,h⟩:=gd_some h;obtain ⟨g3,h⟩:=gd_some h;obtain ⟨g4,h⟩:=gd_some h;refine draw_u tOk [] 11 [] [0,0,2,0,14,31,0,64,0,256,960] [2047,4095,8191] ?_;(conv=>whnf);refine And.intro ⟨g2,.inr rfl⟩ ?_;(conv=>whnf);refine And.intro g3 ?_;clear g3;refine appN (enc:=HelloWord.enc) (ys:=a0.Radio.take a1.toNat) ?_;(conv=>whnf);refine And.intro ⟨g4,.inr rfl⟩ ?_;(conv=>whnf);refine And.intro (by kernel_rfl) ?_;(conv=>whnf);refine gdI h (fun h=>?_);refine appS (enc:=HelloWord.enc) (xs:=(a0.Radio.take a1.toNat)) (ys:=((a0.Radio).take ((IntKind.i64.wrap (a1+1)).toNat+(dsub ((a0.Radio.length:Nat):Int) (IntKind.i64.wrap (a1+1))))).drop ((IntKind.i64.wrap (a1+1)).toNat)) ?_;(conv=>whnf);refine seq_in tOk ?_;(conv=>whnf);obtain ⟨x8,hx8,h⟩:=bd_some h;refine loop_m tOk hx8 (fun s5=>⟨0,61,[(2,.ref 2 0 0),(4,.ref 4 0 0),(5,.ref 5 0 0),(6,.d (.int .i64 s5.2))],[],[(17,.arr 45 14 (((a0.Radio.take a1.toNat) ++ (((a0.Radio).take ((IntKind.i64.wrap (a1+1)).toNat+(dsub ((a0.Radio.length:Nat):Int) (IntKind.i64.wrap (a1+1))))).drop ((IntKind.i64.wrap (a1+1)).toNat))).length) (rows HelloWord.enc ((a0.Radio.take a1.toNat) ++ (((a0.Radio).take ((IntKind.i64.wrap (a1+1)).toNat+(dsub ((a0.Radio.length:Nat):Int) (IntKind.i64.wrap (a1+1))))).drop ((IntKind.i64.wrap (a1+1)).toNat))))),(5,.box 45 [.d (.int .i64 ((a0.Radio.getD a1.toNat default).From)),.d (.int .i64 ((a0.Radio.getD a1.toNat default).To)),.d (.int .i64 ((a0.Radio.getD a1.toNat default).Key)),.d (.int .i64 ((a0.Radio.getD a1.toNat default).Boot)),.d (.int .i64 ((a0.Radio.getD a1.toNat default).Yours)),.d (.int .i64 ((a0.Radio.getD a1.toNat default).Turn)),.d (.int .i64 ((a0.Radio.getD a1.toNat default).Num)),.d (.int .i64 ((a0.Radio.getD a1.toNat default).Heard)),.d (.int .i64 (((a0.Radio.getD a1.toNat default).Change).Kind)),.d (.int .i64 ((((a0.Radio.getD a1.toNat default).Change).Entry).Addr)),.d (.int .i64 ((((a0.Radio.getD a1.toNat default).Change).Entry).Len)),.d (.int .i64 ((((a0.Radio.getD a1.toNat default).Change).Entry).Cost)),.d (.int .i64 ((((a0.Radio.getD a1.toNat default).Change).Entry).Label)),.d (.int .i64 ((a0.Radio.getD a1.toNat default).Sum))]),(4,.box 142 [.d (.nil),.d (.nil)]),(2,.box 142 [.osl 9000 0 s5.1.length,.osl 17 0 (((a0.Radio.take a1.toNat) ++ (((a0.Radio).take ((IntKind.i64.wrap (a1+1)).toNat+(dsub ((a0.Radio.length:Nat):Int) (IntKind.i64.wrap (a1+1))))).drop ((IntKind.i64.wrap (a1+1)).toNat))).length)]),(9000,.arr 145 23 s5.1.length (rows HelloSide.enc s5.1))],[⟨[],[]⟩]⟩) ?_ ?_
  · exact leX []
  · clear hx8;intro s5 y6 g7 hy6;(conv=>whnf);refine seq_in tOk ?_;(conv=>whnf);refine andI g7 (fun _ g7=>?_) (fun _ g7=>?_)
    · (conv=>whnf);refine seq_in tOk ?_;(conv=>whnf);obtain ⟨g9,g7⟩:=gd_some g7;obtain ⟨g10,g7⟩:=gd_some g7;refine draw_u tOk [] 18 [] [0,1,0,7,15,31,63,127,255,127,1023,2047,4095,8191,127,16511,65535,131071] [] ?_;(conv=>whnf);refine And.intro g9 ?_;clear g9;(conv=>whnf);refine And.intro g10 ?_;clear g10;(conv=>whnf);refine And.intro (by kernel_rfl) ?_;(conv=>whnf);refine andI g7 (fun _ g7=>?_) (fun _ g7=>?_)
      · (conv=>whnf);obtain ⟨g11,g7⟩:=gd_some g7;obtain ⟨x12,hx12,g7⟩:=bd_some g7;obtain ⟨g13,g7⟩:=gd_some g7;refine draw_u tOk [.u 10 1000 (.agg [.d (.int .i64 x12.Name),.d (.int .i64 x12.Peer),.osl 5001 0 x12.Keys.length,.d (.int .i64 x12.Boot),.osl 5002 0 x12.Want.length,.d (.int .i64 x12.Turn),.d (.int .i64 x12.PeerBoot),.d (.int .i64 x12.PeerTurn),.d (.bool x12.Up),.d (.int .i64 x12.Left),.d (.int .i64 x12.Num),.d (.int .i64 x12.Under.Kind),.d (.int .i64 x12.Under.Entry.Addr),.d (.int .i64 x12.Under.Entry.Len),.d (.int .i64 x12.Under.Entry.Cost),.d (.int .i64 x12.Under.Entry.Label),.osl 5003 0 x12.Told.length,.d (.bool x12.All),.d (.int .i64 x12.Got),.d (.bool x12.Full),.osl 5004 0 x12.Heard.length,.d (.int .i64 x12.Keep)]) [⟨5001,90,2,x12.Keys.length,rows HelloKey.enc x12.Keys⟩,⟨5002,36,4,x12.Want.length,rows HelloEntry.enc x12.Want⟩,⟨5003,36,4,x12.Told.length,rows HelloEntry.enc x12.Told⟩,⟨5004,94,5,x12.Heard.length,rows HelloRoute.enc x12.Heard⟩]] 13 [] [0,1,0,0,8,0,56,120,248,0,1016,2047,4095] [8191] ?_;(conv=>whnf);refine And.intro g11 ?_;clear g11;(conv=>whnf);refine And.intro (callD_any (spec_HelloHear_c hx12) (by kernel_rfl)) ?_;(conv=>whnf);refine And.intro g13 ?_;clear g13;(conv=>whnf);refine And.intro (by kernel_rfl) ?_;(conv=>whnf);refine ⟨rows HelloSide.enc (s5.1.set s5.2.toNat (⟨(s5.1.getD s5.2.toNat default).Up,x12⟩:HelloSide)),store_rows' lenA rfl,?_⟩;(conv=>whnf);obtain rfl:=Option.some.inj g7;exact ⟨_,rfl,leX []⟩
      · (conv=>whnf);obtain rfl:=Option.some.inj g7;exact ⟨_,rfl,leX []⟩
    · (conv=>whnf);obtain rfl:=Option.some.inj g7;obtain rfl:=hy6 _ rfl;obtain rfl:=Option.some.inj h;exact lfE [.s [(17,5002),(5001,9000),(5002,17),(9000,5001)]]
noncomputable def spec_l43Life_m (a0:HelloEnd):Option (HelloEnd) :=
(if (decide (a0.Boot<1000))=true then
 bd (spec_l43Anew_m ({ a0 with Boot:=IntKind.i64.wrap (a0.Boot+1),Turn:=0,Left:=0 })) fun x1 =>
 some x1
else
 bd (spec_l43Anew_m ({ a0 with Turn:=0,Left:=0 })) fun x2 =>
 some x2)
theorem spec_l43Life_c {a0:HelloEnd} {r:HelloEnd} (h:spec_l43Life_m a0=some r):EffC Tryz.prog 56 [.agg [.d (.int .i64 a0.Name),.d (.int .i64 a0.Peer),.d (slD HelloKey.enc a0.Keys),.d (.int .i64 a0.Boot),.d (slD HelloEntry.enc a0.Want),.d (.int .i64 a0.Turn),.d (.int .i64 a0.PeerBoot),.d (.int .i64 a0.PeerTurn),.d (.bool a0.Up),.d (.int .i64 a0.Left),.d (.int .i64 a0.Num),.d (.int .i64 a0.Under.Kind),.d (.int .i64 a0.Under.Entry.Addr),.d (.int .i64 a0.Under.Entry.Len),.d (.int .i64 a0.Under.Entry.Cost),.d (.int .i64 a0.Under.Entry.Label),.d (slD HelloEntry.enc a0.Told),.d (.bool a0.All),.d (.int .i64 a0.Got),.d (.bool a0.Full),.osl 9000 0 a0.Heard.length,.d (.int .i64 a0.Keep)]] [(9000,.arr 94 5 a0.Heard.length (rows HelloRoute.enc a0.Heard))] (.agg [.d (.int .i64 r.Name),.d (.int .i64 r.Peer),.d (slD HelloKey.enc r.Keys),.d (.int .i64 r.Boot),.d (slD HelloEntry.enc r.Want),.d (.int .i64 r.Turn),.d (.int .i64 r.PeerBoot),.d (.int .i64 r.PeerTurn),.d (.bool r.Up),.d (.int .i64 r.Left),.d (.int .i64 r.Num),.d (.int .i64 r.Under.Kind),.d (.int .i64 r.Under.Entry.Addr),.d (.int .i64 r.Under.Entry.Len),.d (.int .i64 r.Under.Entry.Cost),.d (.int .i64 r.Under.Entry.Label),.d (slD HelloEntry.enc r.Told),.d (.bool r.All),.d (.int .i64 r.Got),.d (.bool r.Full),.osl 5001 0 r.Heard.length,.d (.int .i64 r.Keep)]) [(5001,.arr 94 5 r.Heard.length (rows HelloRoute.enc r.Heard))]:=by
  refine effC_x tOk (fn:=Tryz.f56) (c:=codeOf Tryz.f56) rfl rfl ?_;unfold spec_l43Life_m at h;(conv=>whnf);refine seq_in tOk ?_;(conv=>whnf);refine andI h (fun _ h=>?_) (fun _ h=>?_)
  · (conv=>whnf);obtain ⟨x1,hx1,h⟩:=bd_some h;refine cE [(9000,9000)] 1000 (spec_l43Anew_c hx1) ?_;(conv=>whnf);obtain rfl:=Option.some.inj h;exact lfE [.s [(5001,6001),(6001,5001)]]
  · (conv=>whnf);obtain ⟨x2,hx2,h⟩:=bd_some h;refine cE [(9000,9000)] 1000 (spec_l43Anew_c hx2) ?_;(conv=>whnf);obtain rfl:=Option.some.inj h;exact lfE [.s [(5001,6001),(6001,5001)]]
noncomputable def spec_l42Extra_m (a0:(List HelloEntry)) (a1:(List HelloEntry)):Option (HelloEntry × Bool) :=
 bd (lp (σ:=Int) (β:=((Int × Int × Int × Int) ⊕ Unit)) (fun s1 =>
(if (decide (s1<((a0.length:Nat):Int)))=true then
 gd ((0:Int)≤s1∧s1<((a0.length:Nat):Int)) <|
 bd (spec_l42At_m a1 (a0.getD s1.toNat default)) fun x6 =>
(if (decide (x6<0))=true then
 gd ((0:Int)≤s1∧s1<((a0.length:Nat):Int)) <|
 some (.inr (.inl ((a0.getD s1.toNat default).Addr,(a0.getD s1.toNat default).Len,(a0.getD s1.toNat default).Cost,(a0.getD s1.toNat default).Label)))
else
 some (.inl (IntKind.i64.wrap (s1+1))))
else
 some (.inr (.inr ())))) 0) fun x4 =>
(match x4 with
| .inl d8 =>
 some ((⟨d8.1,d8.2.1,d8.2.2.1,d8.2.2.2⟩:HelloEntry),true)
| .inr d9 =>
 some ((⟨0,0,0,0⟩:HelloEntry),false))
theorem spec_l42Extra_c {a0:(List HelloEntry)} {a1:(List HelloEntry)} {r:HelloEntry × Bool} (h:spec_l42Extra_m a0 a1=some r):PureC Tryz.prog 178 [.d (slD HelloEntry.enc a0),.d (slD HelloEntry.enc a1)] (.tup [.agg [.d (.int .i64 r.1.Addr),.d (.int .i64 r.1.Len),.d (.int .i64 r.1.Cost),.d (.int .i64 r.1.Label)],.d (.bool r.2)]) []:=by
  refine pureC_x tOk (fn:=Tryz.f178) (c:=codeOf Tryz.f178) rfl rfl ?_;unfold spec_l42Extra_m at h;(conv=>whnf);refine seq_in tOk ?_;(conv=>whnf);obtain ⟨x4,hx4,h⟩:=bd_some h;refine loop_m tOk hx4 (fun s1=>⟨0,25,[(0,.d (slD HelloEntry.enc a0)),(1,.d (slD HelloEntry.enc a1)),(4,.ref 4 0 0),(6,.d (.int .i64 s1))],[],[(4,.box 36 [.d (.int .i64 0),.d (.int .i64 0),.d (.int .i64 0),.d (.int .i64 0)])],[]⟩) ?_ ?_
  · exact leX []
  · clear hx4;intro s1 y2 g3 hy2;(conv=>whnf);refine seq_in tOk ?_;(conv=>whnf);refine andI g3 (fun _ g3=>?_) (fun _ g3=>?_)
    · (conv=>whnf);refine seq_in tOk ?_;(conv=>whnf);refine gdI g3 (fun g3=>?_);(conv=>whnf);obtain ⟨x6,hx6,g3⟩:=bd_some g3;refine cC 0 (spec_l42At_c hx6) ?_;clear hx6;(conv=>whnf);refine andI g3 (fun _ g3=>?_) (fun _ g3=>?_)
      · (conv=>whnf);refine gdI g3 (fun g3=>?_);(conv=>whnf);obtain rfl:=Option.some.inj g3;obtain rfl:=hy2 _ rfl;obtain rfl:=Option.some.inj h;exact lfP []
      · (conv=>whnf);obtain rfl:=Option.some.inj g3;exact ⟨_,rfl,leX []⟩
    · (conv=>whnf);obtain rfl:=Option.some.inj g3;obtain rfl:=hy2 _ rfl;obtain rfl:=Option.some.inj h;exact lfP []
noncomputable def spec_l42Lacks_m (a0:(List HelloEntry)) (a1:(List HelloEntry)):Option (HelloEntry × Bool) :=
 bd (lp (σ:=Int) (β:=((Int × Int × Int × Int) ⊕ Unit)) (fun s1 =>
(if (decide (s1<((a0.length:Nat):Int)))=true then
 gd ((0:Int)≤s1∧s1<((a0.length:Nat):Int)) <|
 bd (spec_l42At_m a1 (a0.getD s1.toNat default)) fun x6 =>
 gd ((decide (x6<0))=false→((0:Int)≤x6∧x6<((a1.length:Nat):Int))) <|
 gd ((decide (x6<0))=false→((0:Int)≤s1∧s1<((a0.length:Nat):Int))) <|
(if ((decide (x6<0)) || (!((((a1.getD x6.toNat default).Addr) == ((a0.getD s1.toNat default).Addr)) && ((((a1.getD x6.toNat default).Len) == ((a0.getD s1.toNat default).Len)) && ((((a1.getD x6.toNat default).Cost) == ((a0.getD s1.toNat default).Cost)) && ((((a1.getD x6.toNat default).Label) == ((a0.getD s1.toNat default).Label)) && true))))))=true then
 gd ((0:Int)≤s1∧s1<((a0.length:Nat):Int)) <|
 some (.inr (.inl ((a0.getD s1.toNat default).Addr,(a0.getD s1.toNat default).Len,(a0.getD s1.toNat default).Cost,(a0.getD s1.toNat default).Label)))
else
 some (.inl (IntKind.i64.wrap (s1+1))))
else
 some (.inr (.inr ())))) 0) fun x4 =>
(match x4 with
| .inl d10 =>
 some ((⟨d10.1,d10.2.1,d10.2.2.1,d10.2.2.2⟩:HelloEntry),true)
| .inr d11 =>
 some ((⟨0,0,0,0⟩:HelloEntry),false))
theorem spec_l42Lacks_c {a0:(List HelloEntry)} {a1:(List HelloEntry)} {r:HelloEntry × Bool} (h:spec_l42Lacks_m a0 a1=some r):PureC Tryz.prog 179 [.d (slD HelloEntry.enc a0),.d (slD HelloEntry.enc a1)] (.tup [.agg [.d (.int .i64 r.1.Addr),.d (.int .i64 r.1.Len),.d (.int .i64 r.1.Cost),.d (.int .i64 r.1.Label)],.d (.bool r.2)]) []:=by
  refine pureC_x tOk (fn:=Tryz.f179) (c:=codeOf Tryz.f179) rfl rfl ?_;unfold spec_l42Lacks_m at h;(conv=>whnf);refine seq_in tOk ?_;(conv=>whnf);obtain ⟨x4,hx4,h⟩:=bd_some h;refine loop_m tOk hx4 (fun s1=>⟨0,38,[(0,.d (slD HelloEntry.enc a0)),(1,.d (slD HelloEntry.enc a1)),(4,.ref 4 0 0),(6,.d (.int .i64 s1))],[],[(4,.box 36 [.d (.int .i64 0),.d (.int .i64 0),.d (.int .i64 0),.d (.int .i64 0)])],[]⟩) ?_ ?_
  · exact leX []
  · clear hx4;intro s1 y2 g3 hy2;(conv=>whnf);refine seq_in tOk ?_;(conv=>whnf);refine andI g3 (fun _ g3=>?_) (fun _ g3=>?_)
    · (conv=>whnf);refine seq_in tOk ?_;(conv=>whnf);refine gdI g3 (fun g3=>?_);(conv=>whnf);obtain ⟨x6,hx6,g3⟩:=bd_some g3;refine cC 0 (spec_l42At_c hx6) ?_;clear hx6;(conv=>whnf);obtain ⟨g7,g3⟩:=gd_some g3;obtain ⟨g8,g3⟩:=gd_some g3;refine draw_u tOk [] 13 [] [0,1,3,7,7,31,63,7,7,391,903,2047,4095] [] ?_;(conv=>whnf);refine And.intro g7 ?_;clear g7;(conv=>whnf);refine And.intro g8 ?_;clear g8;(conv=>whnf);refine And.intro (by kernel_rfl) ?_;(conv=>whnf);refine andI g3 (fun _ g3=>?_) (fun _ g3=>?_)
      · (conv=>whnf);refine gdI g3 (fun g3=>?_);(conv=>whnf);obtain rfl:=Option.some.inj g3;obtain rfl:=hy2 _ rfl;obtain rfl:=Option.some.inj h;exact lfP []
      · (conv=>whnf);obtain rfl:=Option.some.inj g3;exact ⟨_,rfl,leX []⟩
    · (conv=>whnf);obtain rfl:=Option.some.inj g3;obtain rfl:=hy2 _ rfl;obtain rfl:=Option.some.inj h;exact lfP []
noncomputable def spec_l42Next_m (a0:HelloEnd):Option (HelloChange) :=
 bd (spec_l42Extra_m a0.Told a0.Want) fun x1 =>
(if x1.2=true then
 some (⟨2,{ x1.1 with Cost:=0,Label:=0 }⟩:HelloChange)
else
 bd (spec_l42Lacks_m a0.Want a0.Told) fun x2 =>
(if x2.2=true then
 some (⟨1,x2.1⟩:HelloChange)
else
(if (!a0.All)=true then
 some (⟨3,(⟨0,0,0,0⟩:HelloEntry)⟩:HelloChange)
else
 some (⟨0,(⟨0,0,0,0⟩:HelloEntry)⟩:HelloChange))))
theorem spec_l42Next_c {a0:HelloEnd} {r:HelloChange} (h:spec_l42Next_m a0=some r):PureC Tryz.prog 177 [.agg [.d (.int .i64 a0.Name),.d (.int .i64 a0.Peer),.d (slD HelloKey.enc a0.Keys),.d (.int .i64 a0.Boot),.d (slD HelloEntry.enc a0.Want),.d (.int .i64 a0.Turn),.d (.int .i64 a0.PeerBoot),.d (.int .i64 a0.PeerTurn),.d (.bool a0.Up),.d (.int .i64 a0.Left),.d (.int .i64 a0.Num),.d (.int .i64 a0.Under.Kind),.d (.int .i64 a0.Under.Entry.Addr),.d (.int .i64 a0.Under.Entry.Len),.d (.int .i64 a0.Under.Entry.Cost),.d (.int .i64 a0.Under.Entry.Label),.d (slD HelloEntry.enc a0.Told),.d (.bool a0.All),.d (.int .i64 a0.Got),.d (.bool a0.Full),.d (slD HelloRoute.enc a0.Heard),.d (.int .i64 a0.Keep)]] (.agg [.d (.int .i64 r.Kind),.d (.int .i64 r.Entry.Addr),.d (.int .i64 r.Entry.Len),.d (.int .i64 r.Entry.Cost),.d (.int .i64 r.Entry.Label)]) []:=by
  refine pureC_x tOk (fn:=Tryz.f177) (c:=codeOf Tryz.f177) rfl rfl ?_;unfold spec_l42Next_m at h;(conv=>whnf);obtain ⟨x1,hx1,h⟩:=bd_some h;refine cC 0 (spec_l42Extra_c hx1) ?_;clear hx1;(conv=>whnf);refine seq_in tOk ?_;(conv=>whnf);refine andI h (fun _ h=>?_) (fun _ h=>?_)
  · (conv=>whnf);obtain rfl:=Option.some.inj h;exact lfP []
  · (conv=>whnf);obtain ⟨x2,hx2,h⟩:=bd_some h;refine cC 0 (spec_l42Lacks_c hx2) ?_;clear hx2;(conv=>whnf);refine seq_in tOk ?_;(conv=>whnf);refine andI h (fun _ h=>?_) (fun _ h=>?_)
    · (conv=>whnf);obtain rfl:=Option.some.inj h;exact lfP []
    · (conv=>whnf);refine seq_in tOk ?_;(conv=>whnf);refine andI h (fun _ h=>?_) (fun _ h=>?_)
      · (conv=>whnf);obtain rfl:=Option.some.inj h;exact lfP []
      · (conv=>whnf);obtain rfl:=Option.some.inj h;exact lfP []
noncomputable def spec_HelloSay_m (a0:HelloEnd):Option (HelloEnd × HelloWord × Bool) :=
 bd (spec_HelloEndOk_m a0) fun x1 =>
(if (!x1)=true then
 some ((⟨0,0,[],0,[],0,0,0,false,0,0,(⟨0,(⟨0,0,0,0⟩:HelloEntry)⟩:HelloChange),[],false,0,false,[],0⟩:HelloEnd),(⟨0,0,0,0,0,0,0,0,(⟨0,(⟨0,0,0,0⟩:HelloEntry)⟩:HelloChange),0⟩:HelloWord),false)
else
 bd (spec_l42Copy_m a0) fun x2 =>
(if (x2.Boot == 1000)=true then
 some (x2,(⟨0,0,0,0,0,0,0,0,(⟨0,(⟨0,0,0,0⟩:HelloEntry)⟩:HelloChange),0⟩:HelloWord),false)
else
(if (x2.Turn == 1000000)=true then
 bd (spec_l43Life_m x2) fun x3 =>
 bd (spec_l42Copy_m x3) fun x4 =>
 some (x4,(⟨0,0,0,0,0,0,0,0,(⟨0,(⟨0,0,0,0⟩:HelloEntry)⟩:HelloChange),0⟩:HelloWord),false)
else
 bd (α:=Int × Int × Int × Int × Int × Int) ((if (x2.Up && (x2.Under.Kind == 0))=true then
 bd (spec_l42Next_m ({ x2 with Turn:=IntKind.i64.wrap (x2.Turn+1) })) fun x8 =>
(if (decide (x8.Kind > 0))=true then
 some (IntKind.i64.wrap (x2.Num+1),x8.Kind,x8.Entry.Addr,x8.Entry.Len,x8.Entry.Cost,x8.Entry.Label)
else
 some (x2.Num,x8.Kind,x8.Entry.Addr,x8.Entry.Len,x8.Entry.Cost,x8.Entry.Label))
else
 some (x2.Num,x2.Under.Kind,x2.Under.Entry.Addr,x2.Under.Entry.Len,x2.Under.Entry.Cost,x2.Under.Entry.Label))) fun x5 =>
 gd ((0:Int)≤IntKind.i64.wrap (((x2.Keys.length:Nat):Int) - 1)∧IntKind.i64.wrap (((x2.Keys.length:Nat):Int) - 1)<((x2.Keys.length:Nat):Int)) <|
 bd (spec_HelloSum_m ((x2.Keys.getD ((IntKind.i64.wrap (((x2.Keys.length:Nat):Int) - 1)).toNat) default).Secret) (⟨x2.Name,x2.Peer,(x2.Keys.getD ((IntKind.i64.wrap (((x2.Keys.length:Nat):Int) - 1)).toNat) default).Id,x2.Boot,x2.PeerBoot,IntKind.i64.wrap (x2.Turn+1),x5.1,x2.Got,(⟨x5.2.1,(⟨x5.2.2.1,x5.2.2.2.1,x5.2.2.2.2.1,x5.2.2.2.2.2⟩:HelloEntry)⟩:HelloChange),0⟩:HelloWord)) fun x10 =>
 some ({ x2 with Turn:=IntKind.i64.wrap (x2.Turn+1),Num:=x5.1,Under:=(⟨x5.2.1,(⟨x5.2.2.1,x5.2.2.2.1,x5.2.2.2.2.1,x5.2.2.2.2.2⟩:HelloEntry)⟩:HelloChange) },(⟨x2.Name,x2.Peer,(x2.Keys.getD ((IntKind.i64.wrap (((x2.Keys.length:Nat):Int) - 1)).toNat) default).Id,x2.Boot,x2.PeerBoot,IntKind.i64.wrap (x2.Turn+1),x5.1,x2.Got,(⟨x5.2.1,(⟨x5.2.2.1,x5.2.2.2.1,x5.2.2.2.2.1,x5.2.2.2.2.2⟩:HelloEntry)⟩:HelloChange),x10⟩:HelloWord),true))))
theorem spec_HelloSay_c {a0:HelloEnd} {r:HelloEnd × HelloWord × Bool} (h:spec_HelloSay_m a0=some r):PureC Tryz.prog 173 [.agg [.d (.int .i64 a0.Name),.d (.int .i64 a0.Peer),.d (slD HelloKey.enc a0.Keys),.d (.int .i64 a0.Boot),.d (slD HelloEntry.enc a0.Want),.d (.int .i64 a0.Turn),.d (.int .i64 a0.PeerBoot),.d (.int .i64 a0.PeerTurn),.d (.bool a0.Up),.d (.int .i64 a0.Left),.d (.int .i64 a0.Num),.d (.int .i64 a0.Under.Kind),.d (.int .i64 a0.Under.Entry.Addr),.d (.int .i64 a0.Under.Entry.Len),.d (.int .i64 a0.Under.Entry.Cost),.d (.int .i64 a0.Under.Entry.Label),.d (slD HelloEntry.enc a0.Told),.d (.bool a0.All),.d (.int .i64 a0.Got),.d (.bool a0.Full),.d (slD HelloRoute.enc a0.Heard),.d (.int .i64 a0.Keep)]] (.tup [.agg [.d (.int .i64 r.1.Name),.d (.int .i64 r.1.Peer),.osl 5001 0 r.1.Keys.length,.d (.int .i64 r.1.Boot),.osl 5002 0 r.1.Want.length,.d (.int .i64 r.1.Turn),.d (.int .i64 r.1.PeerBoot),.d (.int .i64 r.1.PeerTurn),.d (.bool r.1.Up),.d (.int .i64 r.1.Left),.d (.int .i64 r.1.Num),.d (.int .i64 r.1.Under.Kind),.d (.int .i64 r.1.Under.Entry.Addr),.d (.int .i64 r.1.Under.Entry.Len),.d (.int .i64 r.1.Under.Entry.Cost),.d (.int .i64 r.1.Under.Entry.Label),.osl 5003 0 r.1.Told.length,.d (.bool r.1.All),.d (.int .i64 r.1.Got),.d (.bool r.1.Full),.osl 5004 0 r.1.Heard.length,.d (.int .i64 r.1.Keep)],.agg [.d (.int .i64 r.2.1.From),.d (.int .i64 r.2.1.To),.d (.int .i64 r.2.1.Key),.d (.int .i64 r.2.1.Boot),.d (.int .i64 r.2.1.Yours),.d (.int .i64 r.2.1.Turn),.d (.int .i64 r.2.1.Num),.d (.int .i64 r.2.1.Heard),.d (.int .i64 r.2.1.Change.Kind),.d (.int .i64 r.2.1.Change.Entry.Addr),.d (.int .i64 r.2.1.Change.Entry.Len),.d (.int .i64 r.2.1.Change.Entry.Cost),.d (.int .i64 r.2.1.Change.Entry.Label),.d (.int .i64 r.2.1.Sum)],.d (.bool r.2.2)]) [⟨5001,90,2,r.1.Keys.length,rows HelloKey.enc r.1.Keys⟩,⟨5002,36,4,r.1.Want.length,rows HelloEntry.enc r.1.Want⟩,⟨5003,36,4,r.1.Told.length,rows HelloEntry.enc r.1.Told⟩,⟨5004,94,5,r.1.Heard.length,rows HelloRoute.enc r.1.Heard⟩]:=by
  refine pureC_x tOk (fn:=Tryz.f173) (c:=codeOf Tryz.f173) rfl rfl ?_;unfold spec_HelloSay_m at h;(conv=>whnf);refine seq_in tOk ?_;(conv=>whnf);obtain ⟨x1,hx1,h⟩:=bd_some h;refine cC 0 (spec_HelloEndOk_c hx1) ?_;clear hx1;(conv=>whnf);refine andI h (fun _ h=>?_) (fun _ h=>?_)
  · (conv=>whnf);obtain rfl:=Option.some.inj h;exact lfP [.k [1],.p 5001 90 2 (rows HelloKey.enc ([]:List HelloKey)),.p 5002 36 4 (rows HelloEntry.enc ([]:List HelloEntry)),.p 5003 36 4 (rows HelloEntry.enc ([]:List HelloEntry)),.p 5004 94 5 (rows HelloRoute.enc ([]:List HelloRoute))]
  · (conv=>whnf);obtain ⟨x2,hx2,h⟩:=bd_some h;refine cC 1000 (spec_l42Copy_c hx2) ?_;clear hx2;(conv=>whnf);refine seq_in tOk ?_;(conv=>whnf);refine andI h (fun _ h=>?_) (fun _ h=>?_)
    · (conv=>whnf);obtain rfl:=Option.some.inj h;exact lfP [.s [(5001,6001),(5002,6002),(5003,6003),(5004,6004),(6001,5001),(6002,5002),(6003,5003),(6004,5004)]]
    · (conv=>whnf);refine seq_in tOk ?_;(conv=>whnf);refine andI h (fun _ h=>?_) (fun _ h=>?_)
      · (conv=>whnf);obtain ⟨x3,hx3,h⟩:=bd_some h;refine callFz [6001,6002,6003] ?_;(conv=>whnf);refine cE [(9000,6004)] 1000 (spec_l43Life_c hx3) ?_;(conv=>whnf);obtain ⟨x4,hx4,h⟩:=bd_some h;refine cC 2000 (spec_l42Copy_c hx4) ?_;clear hx4;(conv=>whnf);obtain rfl:=Option.some.inj h;exact lfP [.s [(5001,7001),(5002,7002),(5003,7003),(5004,7004),(7001,5001),(7002,5002),(7003,5003),(7004,5004)]]
      · (conv=>whnf);obtain ⟨x5,hx5,h⟩:=bd_some h;refine seq_join tOk (fun s6=>⟨0,84,[(2,.ref 2 0 0),(3,.ref 3 0 0),(5,.ref 5 0 0)],[],[(5,.box 41 [.d (.int .i64 x2.Name),.d (.int .i64 x2.Peer),.osl 6001 0 x2.Keys.length,.d (.int .i64 x2.Boot),.osl 6002 0 x2.Want.length,.d (.int .i64 (IntKind.i64.wrap (x2.Turn+1))),.d (.int .i64 x2.PeerBoot),.d (.int .i64 x2.PeerTurn),.d (.bool x2.Up),.d (.int .i64 x2.Left),.d (.int .i64 s6.1),.d (.int .i64 s6.2.1),.d (.int .i64 s6.2.2.1),.d (.int .i64 s6.2.2.2.1),.d (.int .i64 s6.2.2.2.2.1),.d (.int .i64 s6.2.2.2.2.2),.osl 6003 0 x2.Told.length,.d (.bool x2.All),.d (.int .i64 x2.Got),.d (.bool x2.Full),.osl 6004 0 x2.Heard.length,.d (.int .i64 x2.Keep)]),(6004,.arr 94 5 x2.Heard.length (rows HelloRoute.enc x2.Heard)),(6003,.arr 36 4 x2.Told.length (rows HelloEntry.enc x2.Told)),(6002,.arr 36 4 x2.Want.length (rows HelloEntry.enc x2.Want)),(6001,.arr 90 2 x2.Keys.length (rows HelloKey.enc x2.Keys)),(3,.box 45 [.d (.int .i64 0),.d (.int .i64 0),.d (.int .i64 0),.d (.int .i64 0),.d (.int .i64 0),.d (.int .i64 0),.d (.int .i64 0),.d (.int .i64 0),.d (.int .i64 0),.d (.int .i64 0),.d (.int .i64 0),.d (.int .i64 0),.d (.int .i64 0),.d (.int .i64 0)]),(2,.box 41 [.d (.int .i64 0),.d (.int .i64 0),.d (.nil),.d (.int .i64 0),.d (.nil),.d (.int .i64 0),.d (.int .i64 0),.d (.int .i64 0),.d (.bool false),.d (.int .i64 0),.d (.int .i64 0),.d (.int .i64 0),.d (.int .i64 0),.d (.int .i64 0),.d (.int .i64 0),.d (.int .i64 0),.d (.nil),.d (.bool false),.d (.int .i64 0),.d (.bool false),.d (.nil),.d (.int .i64 0)])],[]⟩) (fun s6=>x5=s6) ?_ ?_
        · (conv=>whnf);refine andI hx5 (fun _ hx5=>?_) (fun _ hx5=>?_)
          · (conv=>whnf);obtain ⟨x8,hx8,hx5⟩:=bd_some hx5;refine cC 0 (spec_l42Next_c hx8) ?_;clear hx8;(conv=>whnf);refine andI hx5 (fun _ hx5=>?_) (fun _ hx5=>?_)
            · (conv=>whnf);obtain rfl:=Option.some.inj hx5;exact ⟨_,rfl,leX []⟩
            · (conv=>whnf);obtain rfl:=Option.some.inj hx5;exact ⟨_,rfl,leX []⟩
          · (conv=>whnf);obtain rfl:=Option.some.inj hx5;exact ⟨_,rfl,leX []⟩
        · rintro _ rfl;(conv=>whnf);refine gdI h (fun h=>?_);(conv=>whnf);obtain ⟨x10,hx10,h⟩:=bd_some h;refine cC 0 (spec_HelloSum_c hx10) ?_;clear hx10;(conv=>whnf);refine draw_t tOk [.a 2 [(2,.box 41 [.d (.int .i64 0),.d (.int .i64 0),.d (.nil),.d (.int .i64 0),.d (.nil),.d (.int .i64 0),.d (.int .i64 0),.d (.int .i64 0),.d (.bool false),.d (.int .i64 0),.d (.int .i64 0),.d (.int .i64 0),.d (.int .i64 0),.d (.int .i64 0),.d (.int .i64 0),.d (.int .i64 0),.d (.nil),.d (.bool false),.d (.int .i64 0),.d (.bool false),.d (.nil),.d (.int .i64 0)])] (.any) [(2,.box 41 [.d (.int .i64 x2.Name),.d (.int .i64 x2.Peer),.osl 6001 0 x2.Keys.length,.d (.int .i64 x2.Boot),.osl 6002 0 x2.Want.length,.d (.int .i64 (IntKind.i64.wrap (x2.Turn+1))),.d (.int .i64 x2.PeerBoot),.d (.int .i64 x2.PeerTurn),.d (.bool x2.Up),.d (.int .i64 x2.Left),.d (.int .i64 x5.1),.d (.int .i64 x5.2.1),.d (.int .i64 x5.2.2.1),.d (.int .i64 x5.2.2.2.1),.d (.int .i64 x5.2.2.2.2.1),.d (.int .i64 x5.2.2.2.2.2),.osl 6003 0 x2.Told.length,.d (.bool x2.All),.d (.int .i64 x2.Got),.d (.bool x2.Full),.osl 6004 0 x2.Heard.length,.d (.int .i64 x2.Keep)])],.a 3 [(3,.box 45 [.d (.int .i64 0),.d (.int .i64 0),.d (.int .i64 0),.d (.int .i64 0),.d (.int .i64 0),.d (.int .i64 0),.d (.int .i64 0),.d (.int .i64 0),.d (.int .i64 0),.d (.int .i64 0),.d (.int .i64 0),.d (.int .i64 0),.d (.int .i64 0),.d (.int .i64 0)])] (.any) [(3,.box 45 [.d (.int .i64 x2.Name),.d (.int .i64 x2.Peer),.d (.int .i64 ((x2.Keys.getD ((IntKind.i64.wrap (((x2.Keys.length:Nat):Int) - 1)).toNat) default).Id)),.d (.int .i64 x2.Boot),.d (.int .i64 x2.PeerBoot),.d (.int .i64 (IntKind.i64.wrap (x2.Turn+1))),.d (.int .i64 x5.1),.d (.int .i64 x2.Got),.d (.int .i64 x5.2.1),.d (.int .i64 x5.2.2.1),.d (.int .i64 x5.2.2.2.1),.d (.int .i64 x5.2.2.2.2.1),.d (.int .i64 x5.2.2.2.2.2),.d (.int .i64 x10)])]] 5 [] [0,0,1,7,15] [] [2,3] ?_;(conv=>whnf);refine And.intro (by (conv=>whnf); exact ⟨rfl,rfl⟩) ?_;(conv=>whnf);refine And.intro (by (conv=>whnf); exact ⟨rfl,rfl⟩) ?_;(conv=>whnf);refine And.intro (by kernel_rfl) ?_;(conv=>whnf);obtain rfl:=Option.some.inj h;exact lfP [.s [(5001,6001),(5002,6002),(5003,6003),(5004,6004),(6001,5001),(6002,5002),(6003,5003),(6004,5004)]]
noncomputable def spec_l44Put_m (a0:HelloWorld) (a1:HelloWord):Option (HelloWorld) :=
(if (decide (((a0.Radio.length:Nat):Int)<12))=true then
 gd (((a0.Radio.length)+(([a1]:List HelloWord).length))*(112+1)≤70368744177664) <|
 some (⟨a0.Sides,(a0.Radio ++ ([a1]:List HelloWord))⟩:HelloWorld)
else
 some a0)
theorem spec_l44Put_c {a0:HelloWorld} {a1:HelloWord} {r:HelloWorld} (h:spec_l44Put_m a0 a1=some r):EffC Tryz.prog 174 [.agg [.d (slD HelloSide.enc a0.Sides),.osl 9000 0 a0.Radio.length],.agg [.d (.int .i64 a1.From),.d (.int .i64 a1.To),.d (.int .i64 a1.Key),.d (.int .i64 a1.Boot),.d (.int .i64 a1.Yours),.d (.int .i64 a1.Turn),.d (.int .i64 a1.Num),.d (.int .i64 a1.Heard),.d (.int .i64 a1.Change.Kind),.d (.int .i64 a1.Change.Entry.Addr),.d (.int .i64 a1.Change.Entry.Len),.d (.int .i64 a1.Change.Entry.Cost),.d (.int .i64 a1.Change.Entry.Label),.d (.int .i64 a1.Sum)]] [(9000,.arr 45 14 a0.Radio.length (rows HelloWord.enc a0.Radio))] (.agg [.d (slD HelloSide.enc r.Sides),.osl 5001 0 r.Radio.length]) [(5001,.arr 45 14 r.Radio.length (rows HelloWord.enc r.Radio))]:=by
  refine effC_x tOk (fn:=Tryz.f174) (c:=codeOf Tryz.f174) rfl rfl ?_;unfold spec_l44Put_m at h;(conv=>whnf);refine seq_in tOk ?_;(conv=>whnf);refine andI h (fun _ h=>?_) (fun _ h=>?_)
  · (conv=>whnf);refine bldS (enc:=HelloWord.enc) ([a1]:List HelloWord) ?_;(conv=>whnf);refine gdI h (fun h=>?_);refine appS (enc:=HelloWord.enc) (xs:=a0.Radio) (ys:=([a1]:List HelloWord)) ?_;(conv=>whnf);obtain rfl:=Option.some.inj h;exact lfE [.s [(5001,9000),(9000,5001)]]
  · (conv=>whnf);obtain rfl:=Option.some.inj h;exact lfE [.s [(5001,9000),(9000,5001)]]
noncomputable def spec_HelloTick_m (a0:HelloEnd):Option (HelloEnd) :=
 bd (spec_HelloEndOk_m a0) fun x1 =>
(if (!x1)=true then
 some (⟨0,0,[],0,[],0,0,0,false,0,0,(⟨0,(⟨0,0,0,0⟩:HelloEntry)⟩:HelloChange),[],false,0,false,[],0⟩:HelloEnd)
else
 bd (spec_l42Copy_m a0) fun x2 =>
 bd (α:=List HelloRoute × Int) ((if (decide (x2.Keep > 0))=true then
(if ((IntKind.i64.wrap (x2.Keep - 1)) == 0)=true then
 bd (spec_l43Fresh_m x2.Heard) fun x6 =>
 some (x6,IntKind.i64.wrap (x2.Keep - 1))
else
 some (x2.Heard,IntKind.i64.wrap (x2.Keep - 1)))
else
 some (x2.Heard,x2.Keep))) fun x3 =>
(if (decide (x2.Left > 0))=true then
(if ((IntKind.i64.wrap (x2.Left - 1)) == 0)=true then
 bd (spec_l43Life_m ({ x2 with Left:=IntKind.i64.wrap (x2.Left - 1),Heard:=x3.1,Keep:=x3.2 })) fun x7 =>
 bd (spec_l42Copy_m x7) fun x8 =>
 some x8
else
 bd (spec_l42Copy_m ({ x2 with Left:=IntKind.i64.wrap (x2.Left - 1),Heard:=x3.1,Keep:=x3.2 })) fun x9 =>
 some x9)
else
 bd (spec_l42Copy_m ({ x2 with Heard:=x3.1,Keep:=x3.2 })) fun x10 =>
 some x10))
theorem spec_HelloTick_c {a0:HelloEnd} {r:HelloEnd} (h:spec_HelloTick_m a0=some r):PureC Tryz.prog 19 [.agg [.d (.int .i64 a0.Name),.d (.int .i64 a0.Peer),.d (slD HelloKey.enc a0.Keys),.d (.int .i64 a0.Boot),.d (slD HelloEntry.enc a0.Want),.d (.int .i64 a0.Turn),.d (.int .i64 a0.PeerBoot),.d (.int .i64 a0.PeerTurn),.d (.bool a0.Up),.d (.int .i64 a0.Left),.d (.int .i64 a0.Num),.d (.int .i64 a0.Under.Kind),.d (.int .i64 a0.Under.Entry.Addr),.d (.int .i64 a0.Under.Entry.Len),.d (.int .i64 a0.Under.Entry.Cost),.d (.int .i64 a0.Under.Entry.Label),.d (slD HelloEntry.enc a0.Told),.d (.bool a0.All),.d (.int .i64 a0.Got),.d (.bool a0.Full),.d (slD HelloRoute.enc a0.Heard),.d (.int .i64 a0.Keep)]] (.agg [.d (.int .i64 r.Name),.d (.int .i64 r.Peer),.osl 5001 0 r.Keys.length,.d (.int .i64 r.Boot),.osl 5002 0 r.Want.length,.d (.int .i64 r.Turn),.d (.int .i64 r.PeerBoot),.d (.int .i64 r.PeerTurn),.d (.bool r.Up),.d (.int .i64 r.Left),.d (.int .i64 r.Num),.d (.int .i64 r.Under.Kind),.d (.int .i64 r.Under.Entry.Addr),.d (.int .i64 r.Under.Entry.Len),.d (.int .i64 r.Under.Entry.Cost),.d (.int .i64 r.Under.Entry.Label),.osl 5003 0 r.Told.length,.d (.bool r.All),.d (.int .i64 r.Got),.d (.bool r.Full),.osl 5004 0 r.Heard.length,.d (.int .i64 r.Keep)]) [⟨5001,90,2,r.Keys.length,rows HelloKey.enc r.Keys⟩,⟨5002,36,4,r.Want.length,rows HelloEntry.enc r.Want⟩,⟨5003,36,4,r.Told.length,rows HelloEntry.enc r.Told⟩,⟨5004,94,5,r.Heard.length,rows HelloRoute.enc r.Heard⟩]:=by
  refine pureC_x tOk (fn:=Tryz.f19) (c:=codeOf Tryz.f19) rfl rfl ?_;unfold spec_HelloTick_m at h;(conv=>whnf);refine seq_in tOk ?_;(conv=>whnf);obtain ⟨x1,hx1,h⟩:=bd_some h;refine cC 0 (spec_HelloEndOk_c hx1) ?_;clear hx1;(conv=>whnf);refine andI h (fun _ h=>?_) (fun _ h=>?_)
  · (conv=>whnf);obtain rfl:=Option.some.inj h;exact lfP [.k [1],.p 5001 90 2 (rows HelloKey.enc ([]:List HelloKey)),.p 5002 36 4 (rows HelloEntry.enc ([]:List HelloEntry)),.p 5003 36 4 (rows HelloEntry.enc ([]:List HelloEntry)),.p 5004 94 5 (rows HelloRoute.enc ([]:List HelloRoute))]
  · (conv=>whnf);obtain ⟨x2,hx2,h⟩:=bd_some h;refine cC 1000 (spec_l42Copy_c hx2) ?_;clear hx2;(conv=>whnf);obtain ⟨x3,hx3,h⟩:=bd_some h;refine seq_join tOk (fun s4=>⟨0,38,[(2,.ref 2 0 0),(3,.ref 3 0 0)],[],[(7001,.arr 94 5 s4.1.length (rows HelloRoute.enc s4.1)),(3,.box 41 [.d (.int .i64 x2.Name),.d (.int .i64 x2.Peer),.osl 6001 0 x2.Keys.length,.d (.int .i64 x2.Boot),.osl 6002 0 x2.Want.length,.d (.int .i64 x2.Turn),.d (.int .i64 x2.PeerBoot),.d (.int .i64 x2.PeerTurn),.d (.bool x2.Up),.d (.int .i64 x2.Left),.d (.int .i64 x2.Num),.d (.int .i64 x2.Under.Kind),.d (.int .i64 x2.Under.Entry.Addr),.d (.int .i64 x2.Under.Entry.Len),.d (.int .i64 x2.Under.Entry.Cost),.d (.int .i64 x2.Under.Entry.Label),.osl 6003 0 x2.Told.length,.d (.bool x2.All),.d (.int .i64 x2.Got),.d (.bool x2.Full),.osl 7001 0 s4.1.length,.d (.int .i64 s4.2)]),(6003,.arr 36 4 x2.Told.length (rows HelloEntry.enc x2.Told)),(6002,.arr 36 4 x2.Want.length (rows HelloEntry.enc x2.Want)),(6001,.arr 90 2 x2.Keys.length (rows HelloKey.enc x2.Keys)),(2,.box 41 [.d (.int .i64 0),.d (.int .i64 0),.d (.nil),.d (.int .i64 0),.d (.nil),.d (.int .i64 0),.d (.int .i64 0),.d (.int .i64 0),.d (.bool false),.d (.int .i64 0),.d (.int .i64 0),.d (.int .i64 0),.d (.int .i64 0),.d (.int .i64 0),.d (.int .i64 0),.d (.int .i64 0),.d (.nil),.d (.bool false),.d (.int .i64 0),.d (.bool false),.d (.nil),.d (.int .i64 0)])],[]⟩) (fun s4=>x3=s4) ?_ ?_
    · (conv=>whnf);refine andI hx3 (fun _ hx3=>?_) (fun _ hx3=>?_)
      · (conv=>whnf);refine andI hx3 (fun _ hx3=>?_) (fun _ hx3=>?_)
        · (conv=>whnf);obtain ⟨x6,hx6,hx3⟩:=bd_some hx3;refine cC 2000 (spec_l43Fresh_c hx6) ?_;clear hx6;(conv=>whnf);obtain rfl:=Option.some.inj hx3;exact ⟨_,rfl,leX []⟩
        · (conv=>whnf);obtain rfl:=Option.some.inj hx3;exact ⟨_,rfl,leX [.s [(6004,7001),(7001,6004)]]⟩
      · (conv=>whnf);obtain rfl:=Option.some.inj hx3;exact ⟨_,rfl,leX [.s [(6004,7001),(7001,6004)]]⟩
    · rintro _ rfl;(conv=>whnf);refine seq_in tOk ?_;(conv=>whnf);refine andI h (fun _ h=>?_) (fun _ h=>?_)
      · (conv=>whnf);refine andI h (fun _ h=>?_) (fun _ h=>?_)
        · (conv=>whnf);obtain ⟨x7,hx7,h⟩:=bd_some h;refine callFz [6001,6002,6003] ?_;(conv=>whnf);refine cE [(9000,7001)] 1000 (spec_l43Life_c hx7) ?_;(conv=>whnf);obtain ⟨x8,hx8,h⟩:=bd_some h;refine cC 3000 (spec_l42Copy_c hx8) ?_;clear hx8;(conv=>whnf);obtain rfl:=Option.some.inj h;exact lfP [.s [(5001,8001),(5002,8002),(5003,8003),(5004,8004),(8001,5001),(8002,5002),(8003,5003),(8004,5004)]]
        · (conv=>whnf);obtain ⟨x9,hx9,h⟩:=bd_some h;refine cC 3000 (spec_l42Copy_c hx9) ?_;clear hx9;(conv=>whnf);obtain rfl:=Option.some.inj h;exact lfP [.s [(5001,8001),(5002,8002),(5003,8003),(5004,8004),(8001,5001),(8002,5002),(8003,5003),(8004,5004)]]
      · (conv=>whnf);obtain ⟨x10,hx10,h⟩:=bd_some h;refine cC 3000 (spec_l42Copy_c hx10) ?_;clear hx10;(conv=>whnf);obtain rfl:=Option.some.inj h;exact lfP [.s [(5001,8001),(5002,8002),(5003,8003),(5004,8004),(8001,5001),(8002,5002),(8003,5003),(8004,5004)]]
noncomputable def spec_l44Down_m (a0:HelloEnd):Option (HelloEnd) :=
 bd (spec_l42Copy_m ({ a0 with Turn:=0,PeerBoot:=0,PeerTurn:=0,Up:=false,Left:=0,Num:=0,Under:=(⟨0,(⟨0,0,0,0⟩:HelloEntry)⟩:HelloChange),Told:=[],All:=false,Got:=0,Full:=false,Heard:=[],Keep:=0 })) fun x1 =>
 some x1
theorem spec_l44Down_c {a0:HelloEnd} {r:HelloEnd} (h:spec_l44Down_m a0=some r):PureC Tryz.prog 175 [.agg [.d (.int .i64 a0.Name),.d (.int .i64 a0.Peer),.d (slD HelloKey.enc a0.Keys),.d (.int .i64 a0.Boot),.d (slD HelloEntry.enc a0.Want),.d (.int .i64 a0.Turn),.d (.int .i64 a0.PeerBoot),.d (.int .i64 a0.PeerTurn),.d (.bool a0.Up),.d (.int .i64 a0.Left),.d (.int .i64 a0.Num),.d (.int .i64 a0.Under.Kind),.d (.int .i64 a0.Under.Entry.Addr),.d (.int .i64 a0.Under.Entry.Len),.d (.int .i64 a0.Under.Entry.Cost),.d (.int .i64 a0.Under.Entry.Label),.d (slD HelloEntry.enc a0.Told),.d (.bool a0.All),.d (.int .i64 a0.Got),.d (.bool a0.Full),.d (slD HelloRoute.enc a0.Heard),.d (.int .i64 a0.Keep)]] (.agg [.d (.int .i64 r.Name),.d (.int .i64 r.Peer),.osl 5001 0 r.Keys.length,.d (.int .i64 r.Boot),.osl 5002 0 r.Want.length,.d (.int .i64 r.Turn),.d (.int .i64 r.PeerBoot),.d (.int .i64 r.PeerTurn),.d (.bool r.Up),.d (.int .i64 r.Left),.d (.int .i64 r.Num),.d (.int .i64 r.Under.Kind),.d (.int .i64 r.Under.Entry.Addr),.d (.int .i64 r.Under.Entry.Len),.d (.int .i64 r.Under.Entry.Cost),.d (.int .i64 r.Under.Entry.Label),.osl 5003 0 r.Told.length,.d (.bool r.All),.d (.int .i64 r.Got),.d (.bool r.Full),.osl 5004 0 r.Heard.length,.d (.int .i64 r.Keep)]) [⟨5001,90,2,r.Keys.length,rows HelloKey.enc r.Keys⟩,⟨5002,36,4,r.Want.length,rows HelloEntry.enc r.Want⟩,⟨5003,36,4,r.Told.length,rows HelloEntry.enc r.Told⟩,⟨5004,94,5,r.Heard.length,rows HelloRoute.enc r.Heard⟩]:=by
  refine pureC_x tOk (fn:=Tryz.f175) (c:=codeOf Tryz.f175) rfl rfl ?_;unfold spec_l44Down_m at h;(conv=>whnf);obtain ⟨x1,hx1,h⟩:=bd_some h;refine callW 1000 (spec_l42Copy_c hx1) rfl argA rfl ?_;(conv=>whnf);obtain rfl:=Option.some.inj h;exact lfP [.s [(5001,6001),(5002,6002),(5003,6003),(5004,6004),(6001,5001),(6002,5002),(6003,5003),(6004,5004)]]
end Go.Proofs.YtaoeomoepefojaaGreat
