/-
  What some of the program's functions compute: their models, and that the functions compute these; no condition.
-/
import Derived.Test.YtaoeomoepefojaaGreatTyz
import Derived.Test.YtaoeomoepefojaaGreatTbz
import Derived.Test.YtaoeomoepefojaaGreatAbz7
import Derived.Test.YtaoeomoepefojaaGreatKz2
set_option linter.all false
namespace Go.Proofs.YtaoeomoepefojaaGreat
open Go Go.Ab
set_option maxRecDepth 100000
set_option maxHeartbeats 40000000
noncomputable def spec_l43Stale_z020_m (a0:HelloEnd):Option (HelloEnd) :=
 bd (lp (σ:=Unit) (β:=(Unit)) (fun s1 =>
(if (decide ((0:Int)<((a0.Heard.length:Nat):Int)))=true then
 none
else
 some (.inr ()))) ()) fun x4 =>
(if ((decide (((a0.Heard.length:Nat):Int) > 0)) && (a0.Keep == 0))=true then
 some ({ a0 with Keep:=6 })
else
 some a0)
theorem spec_l43Stale_z020_c {a0:HelloEnd} {r:HelloEnd} (h:spec_l43Stale_z020_m a0=some r):EffC Tryz.prog 120 [.agg [.d (.int .i64 a0.Name),.d (.int .i64 a0.Peer),.d (slD HelloKey.enc a0.Keys),.d (.int .i64 a0.Boot),.d (slD HelloEntry.enc a0.Want),.d (.int .i64 a0.Turn),.d (.int .i64 a0.PeerBoot),.d (.int .i64 a0.PeerTurn),.d (.bool a0.Up),.d (.int .i64 a0.Left),.d (.int .i64 a0.Num),.d (.int .i64 a0.Under.Kind),.d (.int .i64 a0.Under.Entry.Addr),.d (.int .i64 a0.Under.Entry.Len),.d (.int .i64 a0.Under.Entry.Cost),.d (.int .i64 a0.Under.Entry.Label),.d (slD HelloEntry.enc a0.Told),.d (.bool a0.All),.d (.int .i64 a0.Got),.d (.bool a0.Full),.d (slD HelloRoute.enc a0.Heard),.d (.int .i64 a0.Keep)]] [] (.agg [.d (.int .i64 r.Name),.d (.int .i64 r.Peer),.d (slD HelloKey.enc r.Keys),.d (.int .i64 r.Boot),.d (slD HelloEntry.enc r.Want),.d (.int .i64 r.Turn),.d (.int .i64 r.PeerBoot),.d (.int .i64 r.PeerTurn),.d (.bool r.Up),.d (.int .i64 r.Left),.d (.int .i64 r.Num),.d (.int .i64 r.Under.Kind),.d (.int .i64 r.Under.Entry.Addr),.d (.int .i64 r.Under.Entry.Len),.d (.int .i64 r.Under.Entry.Cost),.d (.int .i64 r.Under.Entry.Label),.d (slD HelloEntry.enc r.Told),.d (.bool r.All),.d (.int .i64 r.Got),.d (.bool r.Full),.d (slD HelloRoute.enc r.Heard),.d (.int .i64 r.Keep)]) []:=by
  refine effC_x tOk (fn:=Tryz.f120) (c:=codeOf Tryz.f120) rfl rfl ?_;unfold spec_l43Stale_z020_m at h;(conv=>whnf);refine seq_in tOk ?_;(conv=>whnf);obtain ⟨x4,hx4,h⟩:=bd_some h;refine loop_m tOk hx4 (fun s1=>⟨0,27,[(1,.ref 1 0 0),(2,.ref 2 0 0),(3,.d (.int .i64 0))],[],[(2,.box 41 [.d (.int .i64 0),.d (.int .i64 0),.d (.nil),.d (.int .i64 0),.d (.nil),.d (.int .i64 0),.d (.int .i64 0),.d (.int .i64 0),.d (.bool false),.d (.int .i64 0),.d (.int .i64 0),.d (.int .i64 0),.d (.int .i64 0),.d (.int .i64 0),.d (.int .i64 0),.d (.int .i64 0),.d (.nil),.d (.bool false),.d (.int .i64 0),.d (.bool false),.d (.nil),.d (.int .i64 0)]),(1,.box 41 [.d (.int .i64 a0.Name),.d (.int .i64 a0.Peer),.d (slD HelloKey.enc a0.Keys),.d (.int .i64 a0.Boot),.d (slD HelloEntry.enc a0.Want),.d (.int .i64 a0.Turn),.d (.int .i64 a0.PeerBoot),.d (.int .i64 a0.PeerTurn),.d (.bool a0.Up),.d (.int .i64 a0.Left),.d (.int .i64 a0.Num),.d (.int .i64 a0.Under.Kind),.d (.int .i64 a0.Under.Entry.Addr),.d (.int .i64 a0.Under.Entry.Len),.d (.int .i64 a0.Under.Entry.Cost),.d (.int .i64 a0.Under.Entry.Label),.d (slD HelloEntry.enc a0.Told),.d (.bool a0.All),.d (.int .i64 a0.Got),.d (.bool a0.Full),.d (slD HelloRoute.enc a0.Heard),.d (.int .i64 a0.Keep)])],[⟨[],[]⟩]⟩) ?_ ?_
  · exact leX []
  · clear hx4;intro s1 y2 g3 hy2;(conv=>whnf);refine seq_in tOk ?_;(conv=>whnf);refine andI g3 (fun _ g3=>?_) (fun _ g3=>?_)
    · (conv=>whnf);refine seq_in tOk ?_;(conv=>whnf);cases g3
    · (conv=>whnf);obtain rfl:=Option.some.inj g3;obtain rfl:=hy2 _ rfl;refine seq_in tOk ?_;(conv=>whnf);refine andI h (fun _ h=>?_) (fun _ h=>?_)
      · (conv=>whnf);obtain rfl:=Option.some.inj h;exact lfE []
      · (conv=>whnf);obtain rfl:=Option.some.inj h;exact lfE []
noncomputable def spec_l43Anew_z020_m (a0:HelloEnd):Option (HelloEnd) :=
 bd (spec_l43Stale_z020_m ({ a0 with Up:=false,Num:=0,Under:=(⟨0,(⟨0,0,0,0⟩:HelloEntry)⟩:HelloChange),Told:=[],All:=false,Got:=0,Full:=false })) fun x1 =>
 some x1
theorem spec_l43Anew_z020_c {a0:HelloEnd} {r:HelloEnd} (h:spec_l43Anew_z020_m a0=some r):EffC Tryz.prog 79 [.agg [.d (.int .i64 a0.Name),.d (.int .i64 a0.Peer),.d (slD HelloKey.enc a0.Keys),.d (.int .i64 a0.Boot),.d (slD HelloEntry.enc a0.Want),.d (.int .i64 a0.Turn),.d (.int .i64 a0.PeerBoot),.d (.int .i64 a0.PeerTurn),.d (.bool a0.Up),.d (.int .i64 a0.Left),.d (.int .i64 a0.Num),.d (.int .i64 a0.Under.Kind),.d (.int .i64 a0.Under.Entry.Addr),.d (.int .i64 a0.Under.Entry.Len),.d (.int .i64 a0.Under.Entry.Cost),.d (.int .i64 a0.Under.Entry.Label),.d (slD HelloEntry.enc a0.Told),.d (.bool a0.All),.d (.int .i64 a0.Got),.d (.bool a0.Full),.d (slD HelloRoute.enc a0.Heard),.d (.int .i64 a0.Keep)]] [] (.agg [.d (.int .i64 r.Name),.d (.int .i64 r.Peer),.d (slD HelloKey.enc r.Keys),.d (.int .i64 r.Boot),.d (slD HelloEntry.enc r.Want),.d (.int .i64 r.Turn),.d (.int .i64 r.PeerBoot),.d (.int .i64 r.PeerTurn),.d (.bool r.Up),.d (.int .i64 r.Left),.d (.int .i64 r.Num),.d (.int .i64 r.Under.Kind),.d (.int .i64 r.Under.Entry.Addr),.d (.int .i64 r.Under.Entry.Len),.d (.int .i64 r.Under.Entry.Cost),.d (.int .i64 r.Under.Entry.Label),.d (slD HelloEntry.enc r.Told),.d (.bool r.All),.d (.int .i64 r.Got),.d (.bool r.Full),.d (slD HelloRoute.enc r.Heard),.d (.int .i64 r.Keep)]) []:=by
  refine effC_x tOk (fn:=Tryz.f79) (c:=codeOf Tryz.f79) rfl rfl ?_;unfold spec_l43Anew_z020_m at h;(conv=>whnf);obtain ⟨x1,hx1,h⟩:=bd_some h;refine cE [] 0 (spec_l43Stale_z020_c hx1) ?_;(conv=>whnf);obtain rfl:=Option.some.inj h;exact lfE []
noncomputable def spec_l43Life_z020_m (a0:HelloEnd):Option (HelloEnd) :=
(if (decide (a0.Boot<1000))=true then
 bd (spec_l43Anew_z020_m ({ a0 with Boot:=IntKind.i64.wrap (a0.Boot+1),Turn:=0,Left:=0 })) fun x1 =>
 some x1
else
 bd (spec_l43Anew_z020_m ({ a0 with Turn:=0,Left:=0 })) fun x2 =>
 some x2)
theorem spec_l43Life_z020_c {a0:HelloEnd} {r:HelloEnd} (h:spec_l43Life_z020_m a0=some r):EffC Tryz.prog 56 [.agg [.d (.int .i64 a0.Name),.d (.int .i64 a0.Peer),.d (slD HelloKey.enc a0.Keys),.d (.int .i64 a0.Boot),.d (slD HelloEntry.enc a0.Want),.d (.int .i64 a0.Turn),.d (.int .i64 a0.PeerBoot),.d (.int .i64 a0.PeerTurn),.d (.bool a0.Up),.d (.int .i64 a0.Left),.d (.int .i64 a0.Num),.d (.int .i64 a0.Under.Kind),.d (.int .i64 a0.Under.Entry.Addr),.d (.int .i64 a0.Under.Entry.Len),.d (.int .i64 a0.Under.Entry.Cost),.d (.int .i64 a0.Under.Entry.Label),.d (slD HelloEntry.enc a0.Told),.d (.bool a0.All),.d (.int .i64 a0.Got),.d (.bool a0.Full),.d (slD HelloRoute.enc a0.Heard),.d (.int .i64 a0.Keep)]] [] (.agg [.d (.int .i64 r.Name),.d (.int .i64 r.Peer),.d (slD HelloKey.enc r.Keys),.d (.int .i64 r.Boot),.d (slD HelloEntry.enc r.Want),.d (.int .i64 r.Turn),.d (.int .i64 r.PeerBoot),.d (.int .i64 r.PeerTurn),.d (.bool r.Up),.d (.int .i64 r.Left),.d (.int .i64 r.Num),.d (.int .i64 r.Under.Kind),.d (.int .i64 r.Under.Entry.Addr),.d (.int .i64 r.Under.Entry.Len),.d (.int .i64 r.Under.Entry.Cost),.d (.int .i64 r.Under.Entry.Label),.d (slD HelloEntry.enc r.Told),.d (.bool r.All),.d (.int .i64 r.Got),.d (.bool r.Full),.d (slD HelloRoute.enc r.Heard),.d (.int .i64 r.Keep)]) []:=by
  refine effC_x tOk (fn:=Tryz.f56) (c:=codeOf Tryz.f56) rfl rfl ?_;unfold spec_l43Life_z020_m at h;(conv=>whnf);refine seq_in tOk ?_;(conv=>whnf);refine andI h (fun _ h=>?_) (fun _ h=>?_)
  · (conv=>whnf);obtain ⟨x1,hx1,h⟩:=bd_some h;refine cE [] 0 (spec_l43Anew_z020_c hx1) ?_;(conv=>whnf);obtain rfl:=Option.some.inj h;exact lfE []
  · (conv=>whnf);obtain ⟨x2,hx2,h⟩:=bd_some h;refine cE [] 0 (spec_l43Anew_z020_c hx2) ?_;(conv=>whnf);obtain rfl:=Option.some.inj h;exact lfE []
noncomputable def spec_l44Read_m (a0:HelloWorld):Option ((List HelloWord)) :=
 bd (lp (σ:=List HelloWord × Int) (β:=(Nat × (List HelloWord))) (fun s1 =>
(if (decide (s1.2<((a0.Radio.length:Nat):Int)))=true then
 gd ((0:Int)≤0∧0<((a0.Sides.length:Nat):Int)) <|
 gd ((0:Int)≤s1.2∧s1.2<((a0.Radio.length:Nat):Int)) <|
 bd (spec_HelloRight_m (((a0.Sides.getD 0 default).End).Keys) ({ (a0.Radio.getD s1.2.toNat default) with Change:=(⟨((a0.Radio.getD s1.2.toNat default).Change).Kind,(((a0.Radio.getD s1.2.toNat default).Change).Entry)⟩:HelloChange) })) fun x7 =>
 gd (x7=false→((0:Int)≤1∧1<((a0.Sides.length:Nat):Int))) <|
 gd (x7=false→((0:Int)≤s1.2∧s1.2<((a0.Radio.length:Nat):Int))) <|
 bd (gcall (x7=false) (spec_HelloRight_m (((a0.Sides.getD 1 default).End).Keys) ({ (a0.Radio.getD s1.2.toNat default) with Change:=(⟨((a0.Radio.getD s1.2.toNat default).Change).Kind,(((a0.Radio.getD s1.2.toNat default).Change).Entry)⟩:HelloChange) }))) fun x10 =>
(if (x7 || x10)=true then
 gd ((0:Int)≤s1.2∧s1.2<((a0.Radio.length:Nat):Int)) <|
 gd (((s1.1.length)+(([{ (a0.Radio.getD s1.2.toNat default) with Change:=(⟨((a0.Radio.getD s1.2.toNat default).Change).Kind,(((a0.Radio.getD s1.2.toNat default).Change).Entry)⟩:HelloChange) }]:List HelloWord).length))*(112+1)≤70368744177664) <|
 some (.inl ((s1.1 ++ ([{ (a0.Radio.getD s1.2.toNat default) with Change:=(⟨((a0.Radio.getD s1.2.toNat default).Change).Kind,(((a0.Radio.getD s1.2.toNat default).Change).Entry)⟩:HelloChange) }]:List HelloWord)),IntKind.i64.wrap (s1.2+1)))
else
 some (.inl (s1.1,IntKind.i64.wrap (s1.2+1))))
else
 some (.inr (s1.1.length,s1.1)))) (([]:List HelloWord),0)) fun x4 =>
 some x4.2
theorem spec_l44Read_c {a0:HelloWorld} {r:(List HelloWord)} (h:spec_l44Read_m a0=some r):PureC Tryz.prog 176 [.agg [.d (slD HelloSide.enc a0.Sides),.d (slD HelloWord.enc a0.Radio)]] (.osl 5001 0 r.length) [⟨5001,45,14,r.length,rows HelloWord.enc r⟩]:=by
  refine pureC_x tOk (fn:=Tryz.f176) (c:=codeOf Tryz.f176) rfl rfl ?_;unfold spec_l44Read_m at h;(conv=>whnf);refine seq_in tOk ?_;(conv=>whnf);obtain ⟨x4,hx4,h⟩:=bd_some h;refine loop_m tOk hx4 (fun s1=>⟨0,48,[(1,.ref 1 0 0),(3,.osl 7001 0 s1.1.length),(4,.d (.int .i64 s1.2))],[],[(7001,.arr 45 14 s1.1.length (rows HelloWord.enc s1.1)),(1,.box 142 [.d (slD HelloSide.enc a0.Sides),.d (slD HelloWord.enc a0.Radio)])],[]⟩) ?_ ?_
  · exact leX [.p 7001 45 14 (rows HelloWord.enc ([]:List HelloWord))]
  · clear hx4;intro s1 y2 g3 hy2;(conv=>whnf);refine seq_in tOk ?_;(conv=>whnf);refine andI g3 (fun _ g3=>?_) (fun _ g3=>?_)
    · (conv=>whnf);refine seq_in tOk ?_;(conv=>whnf);obtain ⟨g5,g3⟩:=gd_some g3;obtain ⟨g6,g3⟩:=gd_some g3;obtain ⟨x7,hx7,g3⟩:=bd_some g3;obtain ⟨g8,g3⟩:=gd_some g3;obtain ⟨g9,g3⟩:=gd_some g3;obtain ⟨x10,hx10,g3⟩:=bd_some g3;refine draw_u tOk [.u 11 0 (.d (.bool x7)) [],.u 24 0 (.d (.bool x10)) []] 26 [] [0,1,3,7,15,31,0,64,0,448,960,2047,4095,8191,16383,32767,65535,131071,262143,8191,532479,8191,3678207,7872511,16777215,33554431] [] ?_;(conv=>whnf);refine And.intro g5 ?_;clear g5;(conv=>whnf);refine And.intro g6 ?_;clear g6;(conv=>whnf);refine And.intro (callD_any (spec_HelloRight_c hx7) (by kernel_rfl)) ?_;(conv=>whnf);refine And.intro g8 ?_;clear g8;(conv=>whnf);refine And.intro g9 ?_;clear g9;(conv=>whnf);refine And.intro (callDG_if rfl rfl rfl rfl (by intro c0; exact spec_HelloRight_c (gcall_some hx10 c0))) ?_;(conv=>whnf);refine And.intro (by kernel_rfl) ?_;(conv=>whnf);refine andI g3 (fun _ g3=>?_) (fun _ g3=>?_)
      · (conv=>whnf);refine gdI g3 (fun g3=>?_);(conv=>whnf);refine bldS (enc:=HelloWord.enc) ([{ (a0.Radio.getD s1.2.toNat default) with Change:=(⟨((a0.Radio.getD s1.2.toNat default).Change).Kind,(((a0.Radio.getD s1.2.toNat default).Change).Entry)⟩:HelloChange) }]:List HelloWord) ?_;(conv=>whnf);refine gdI g3 (fun g3=>?_);refine appS (enc:=HelloWord.enc) (xs:=s1.1) (ys:=([{ (a0.Radio.getD s1.2.toNat default) with Change:=(⟨((a0.Radio.getD s1.2.toNat default).Change).Kind,(((a0.Radio.getD s1.2.toNat default).Change).Entry)⟩:HelloChange) }]:List HelloWord)) ?_;(conv=>whnf);obtain rfl:=Option.some.inj g3;exact ⟨_,rfl,leX []⟩
      · (conv=>whnf);obtain rfl:=Option.some.inj g3;exact ⟨_,rfl,leX []⟩
    · (conv=>whnf);obtain rfl:=Option.some.inj g3;obtain rfl:=hy2 _ rfl;obtain rfl:=Option.some.inj h;exact lfP [.s [(5001,7001),(7001,5001)]]
noncomputable def spec_l44Side_m (a0:HelloWorld) (a1:HelloEvent):Option (HelloWorld) :=
 bd (spec_l41In_m a1.At 0 1) fun x1 =>
(if (!x1)=true then
 some a0
else
 gd ((0:Int)≤a1.At∧a1.At<((a0.Sides.length:Nat):Int)) <|
 bd (α:=(List HelloSide × List HelloWord) ⊕ ((List HelloWord) × Nat × (List HelloSide))) ((if (a1.Kind == 1)=true then
(if (a0.Sides.getD a1.At.toNat default).Up=true then
 bd (spec_HelloSay_m ({ ((a0.Sides.getD a1.At.toNat default).End) with Under:=(⟨(((a0.Sides.getD a1.At.toNat default).End).Under).Kind,((((a0.Sides.getD a1.At.toNat default).End).Under).Entry)⟩:HelloChange) })) fun x6 =>
 gd ((0:Int)≤a1.At∧a1.At<((a0.Sides.length:Nat):Int)) <|
(if x6.2.2=true then
 bd (spec_l44Put_m (⟨a0.Sides.set a1.At.toNat (⟨(a0.Sides.getD a1.At.toNat default).Up,x6.1⟩:HelloSide),a0.Radio⟩:HelloWorld) x6.2.1) fun x8 =>
 some (.inr (x8.Radio,x8.Radio.length,x8.Sides))
else
 some (.inl (a0.Sides.set a1.At.toNat (⟨(a0.Sides.getD a1.At.toNat default).Up,x6.1⟩:HelloSide),a0.Radio)))
else
 some (.inl (a0.Sides,a0.Radio)))
else
(if (a1.Kind == 5)=true then
(if (a0.Sides.getD a1.At.toNat default).Up=true then
 bd (spec_HelloTick_m ({ ((a0.Sides.getD a1.At.toNat default).End) with Under:=(⟨(((a0.Sides.getD a1.At.toNat default).End).Under).Kind,((((a0.Sides.getD a1.At.toNat default).End).Under).Entry)⟩:HelloChange) })) fun x9 =>
 gd ((0:Int)≤a1.At∧a1.At<((a0.Sides.length:Nat):Int)) <|
 some (.inl (a0.Sides.set a1.At.toNat (⟨(a0.Sides.getD a1.At.toNat default).Up,x9⟩:HelloSide),a0.Radio))
else
 some (.inl (a0.Sides,a0.Radio)))
else
(if (a1.Kind == 6)=true then
 bd (spec_l44Down_m ({ ((a0.Sides.getD a1.At.toNat default).End) with Under:=(⟨(((a0.Sides.getD a1.At.toNat default).End).Under).Kind,((((a0.Sides.getD a1.At.toNat default).End).Under).Entry)⟩:HelloChange) })) fun x11 =>
 gd ((0:Int)≤a1.At∧a1.At<((a0.Sides.length:Nat):Int)) <|
 some (.inl (a0.Sides.set a1.At.toNat (⟨false,x11⟩:HelloSide),a0.Radio))
else
(if (a1.Kind == 7)=true then
(if (!((a0.Sides.getD a1.At.toNat default).Up))=true then
 bd (spec_l43Life_z020_m ({ ((a0.Sides.getD a1.At.toNat default).End) with Under:=(⟨(((a0.Sides.getD a1.At.toNat default).End).Under).Kind,((((a0.Sides.getD a1.At.toNat default).End).Under).Entry)⟩:HelloChange) })) fun x13 =>
 gd ((0:Int)≤a1.At∧a1.At<((a0.Sides.length:Nat):Int)) <|
 some (.inl (a0.Sides.set a1.At.toNat (⟨true,x13⟩:HelloSide),a0.Radio))
else
 some (.inl (a0.Sides,a0.Radio)))
else
(if (a1.Kind == 8)=true then
 bd (spec_HelloTableOk_m a1.Want) fun x15 =>
(if x15=true then
 bd (spec_l42Table_m a1.Want) fun x16 =>
 gd ((0:Int)≤a1.At∧a1.At<((a0.Sides.length:Nat):Int)) <|
 bd (some (a0.Sides.set a1.At.toNat (⟨(a0.Sides.getD a1.At.toNat default).Up,{ ((a0.Sides.getD a1.At.toNat default).End) with Want:=x16,Under:=(⟨(((a0.Sides.getD a1.At.toNat default).End).Under).Kind,((((a0.Sides.getD a1.At.toNat default).End).Under).Entry)⟩:HelloChange) }⟩:HelloSide))) fun x18 =>
 some (.inl (x18,a0.Radio))
else
 some (.inl (a0.Sides,a0.Radio)))
else
(if (a1.Kind == 9)=true then
 bd (spec_HelloKeysOk_m a1.Keys) fun x19 =>
(if x19=true then
 bd (spec_l44Read_m a0) fun x20 =>
 bd (spec_l42Keys_m a1.Keys) fun x21 =>
 gd ((0:Int)≤a1.At∧a1.At<((a0.Sides.length:Nat):Int)) <|
 bd (some (a0.Sides.set a1.At.toNat (⟨(a0.Sides.getD a1.At.toNat default).Up,{ ((a0.Sides.getD a1.At.toNat default).End) with Keys:=x21,Under:=(⟨(((a0.Sides.getD a1.At.toNat default).End).Under).Kind,((((a0.Sides.getD a1.At.toNat default).End).Under).Entry)⟩:HelloChange) }⟩:HelloSide))) fun x23 =>
 some (.inl (x23,x20))
else
 some (.inl (a0.Sides,a0.Radio)))
else
 some (.inl (a0.Sides,a0.Radio))))))))) fun x3 =>
(match x3 with
| .inl d5 =>
 some (⟨d5.1,d5.2⟩:HelloWorld)
| .inr d24 =>
 some (⟨d24.2.2,d24.1⟩:HelloWorld)))
theorem spec_l44Side_c {a0:HelloWorld} {a1:HelloEvent} {r:HelloWorld} (h:spec_l44Side_m a0 a1=some r):EffC Tryz.prog 169 [.agg [.osl 9000 0 a0.Sides.length,.osl 9001 0 a0.Radio.length],.agg [.d (.int .i64 a1.Kind),.d (.int .i64 a1.At),.d (slD HelloEntry.enc a1.Want),.d (slD HelloKey.enc a1.Keys),.d (.int .i64 a1.Word.From),.d (.int .i64 a1.Word.To),.d (.int .i64 a1.Word.Key),.d (.int .i64 a1.Word.Boot),.d (.int .i64 a1.Word.Yours),.d (.int .i64 a1.Word.Turn),.d (.int .i64 a1.Word.Num),.d (.int .i64 a1.Word.Heard),.d (.int .i64 a1.Word.Change.Kind),.d (.int .i64 a1.Word.Change.Entry.Addr),.d (.int .i64 a1.Word.Change.Entry.Len),.d (.int .i64 a1.Word.Change.Entry.Cost),.d (.int .i64 a1.Word.Change.Entry.Label),.d (.int .i64 a1.Word.Sum)]] [(9000,.arr 145 23 a0.Sides.length (rows HelloSide.enc a0.Sides)),(9001,.arr 45 14 a0.Radio.length (rows HelloWord.enc a0.Radio))] (.agg [.d (slD HelloSide.enc r.Sides),.d (slD HelloWord.enc r.Radio)]) []:=by
  refine effC_x tOk (fn:=Tryz.f169) (c:=codeOf Tryz.f169) rfl rfl ?_;unfold spec_l44Side_m at h;(conv=>whnf);refine seq_in tOk ?_;(conv=>whnf);obtain ⟨x1,hx1,h⟩:=bd_some h;refine cC 0 (spec_l41In_c hx1) ?_;clear hx1;(conv=>whnf);refine andI h (fun _ h=>?_) (fun _ h=>?_)
  · (conv=>whnf);obtain rfl:=Option.some.inj h;exact lfE [.f [9000,9001]]
  · (conv=>whnf);refine gdI h (fun h=>?_);(conv=>whnf);obtain ⟨x3,hx3,h⟩:=bd_some h;refine seq_join tOk (fun s4=>⟨0,116,[(2,.ref 2 0 0),(4,.ref 4 0 0)],[],[(4,.box 142 [.d (.nil),.d (.nil)]),(2,.box 142 [.osl 9000 0 s4.1.length,.osl 9001 0 s4.2.length]),(9000,.arr 145 23 s4.1.length (rows HelloSide.enc s4.1)),(9001,.arr 45 14 s4.2.length (rows HelloWord.enc s4.2))],[⟨[],[]⟩]⟩) (fun s4=>x3=.inl s4) ?_ ?_
    · (conv=>whnf);refine andI hx3 (fun _ hx3=>?_) (fun _ hx3=>?_)
      · (conv=>whnf);refine andI hx3 (fun _ hx3=>?_) (fun _ hx3=>?_)
        · (conv=>whnf);obtain ⟨x6,hx6,hx3⟩:=bd_some hx3;refine cC 1000 (spec_HelloSay_c hx6) ?_;clear hx6;(conv=>whnf);refine gdI hx3 (fun hx3=>?_);(conv=>whnf);refine ⟨rows HelloSide.enc (a0.Sides.set a1.At.toNat (⟨(a0.Sides.getD a1.At.toNat default).Up,x6.1⟩:HelloSide)),store_rows' lenA rfl,?_⟩;(conv=>whnf);refine andI hx3 (fun _ hx3=>?_) (fun _ hx3=>?_)
          · (conv=>whnf);obtain ⟨x8,hx8,hx3⟩:=bd_some hx3;refine callFz [9000] ?_;(conv=>whnf);refine cE [(9000,9001)] 1000 (spec_l44Put_c hx8) ?_;(conv=>whnf);obtain rfl:=Option.some.inj hx3;obtain rfl:=Option.some.inj h;exact lfE [.f [6001]]
          · (conv=>whnf);obtain rfl:=Option.some.inj hx3;exact ⟨_,rfl,leX []⟩
        · (conv=>whnf);obtain rfl:=Option.some.inj hx3;exact ⟨_,rfl,leX []⟩
      · (conv=>whnf);refine andI hx3 (fun _ hx3=>?_) (fun _ hx3=>?_)
        · (conv=>whnf);refine andI hx3 (fun _ hx3=>?_) (fun _ hx3=>?_)
          · (conv=>whnf);obtain ⟨x9,hx9,hx3⟩:=bd_some hx3;obtain ⟨g10,hx3⟩:=gd_some hx3;refine draw_u tOk [.u 6 1000 (.agg [.d (.int .i64 x9.Name),.d (.int .i64 x9.Peer),.osl 5001 0 x9.Keys.length,.d (.int .i64 x9.Boot),.osl 5002 0 x9.Want.length,.d (.int .i64 x9.Turn),.d (.int .i64 x9.PeerBoot),.d (.int .i64 x9.PeerTurn),.d (.bool x9.Up),.d (.int .i64 x9.Left),.d (.int .i64 x9.Num),.d (.int .i64 x9.Under.Kind),.d (.int .i64 x9.Under.Entry.Addr),.d (.int .i64 x9.Under.Entry.Len),.d (.int .i64 x9.Under.Entry.Cost),.d (.int .i64 x9.Under.Entry.Label),.osl 5003 0 x9.Told.length,.d (.bool x9.All),.d (.int .i64 x9.Got),.d (.bool x9.Full),.osl 5004 0 x9.Heard.length,.d (.int .i64 x9.Keep)]) [⟨5001,90,2,x9.Keys.length,rows HelloKey.enc x9.Keys⟩,⟨5002,36,4,x9.Want.length,rows HelloEntry.enc x9.Want⟩,⟨5003,36,4,x9.Told.length,rows HelloEntry.enc x9.Told⟩,⟨5004,94,5,x9.Heard.length,rows HelloRoute.enc x9.Heard⟩]] 9 [] [0,1,0,4,0,16,48,127,255] [511] ?_;(conv=>whnf);refine And.intro (callD_any (spec_HelloTick_c hx9) (by kernel_rfl)) ?_;(conv=>whnf);refine And.intro g10 ?_;clear g10;(conv=>whnf);refine And.intro (by kernel_rfl) ?_;(conv=>whnf);refine ⟨rows HelloSide.enc (a0.Sides.set a1.At.toNat (⟨(a0.Sides.getD a1.At.toNat default).Up,x9⟩:HelloSide)),store_rows' lenA rfl,?_⟩;(conv=>whnf);obtain rfl:=Option.some.inj hx3;exact ⟨_,rfl,leX []⟩
          · (conv=>whnf);obtain rfl:=Option.some.inj hx3;exact ⟨_,rfl,leX []⟩
        · (conv=>whnf);refine andI hx3 (fun _ hx3=>?_) (fun _ hx3=>?_)
          · (conv=>whnf);obtain ⟨x11,hx11,hx3⟩:=bd_some hx3;obtain ⟨g12,hx3⟩:=gd_some hx3;refine draw_u tOk [.u 6 1000 (.agg [.d (.int .i64 x11.Name),.d (.int .i64 x11.Peer),.osl 5001 0 x11.Keys.length,.d (.int .i64 x11.Boot),.osl 5002 0 x11.Want.length,.d (.int .i64 x11.Turn),.d (.int .i64 x11.PeerBoot),.d (.int .i64 x11.PeerTurn),.d (.bool x11.Up),.d (.int .i64 x11.Left),.d (.int .i64 x11.Num),.d (.int .i64 x11.Under.Kind),.d (.int .i64 x11.Under.Entry.Addr),.d (.int .i64 x11.Under.Entry.Len),.d (.int .i64 x11.Under.Entry.Cost),.d (.int .i64 x11.Under.Entry.Label),.osl 5003 0 x11.Told.length,.d (.bool x11.All),.d (.int .i64 x11.Got),.d (.bool x11.Full),.osl 5004 0 x11.Heard.length,.d (.int .i64 x11.Keep)]) [⟨5001,90,2,x11.Keys.length,rows HelloKey.enc x11.Keys⟩,⟨5002,36,4,x11.Want.length,rows HelloEntry.enc x11.Want⟩,⟨5003,36,4,x11.Told.length,rows HelloEntry.enc x11.Told⟩,⟨5004,94,5,x11.Heard.length,rows HelloRoute.enc x11.Heard⟩]] 9 [] [0,1,0,4,0,16,48,112,255] [511] ?_;(conv=>whnf);refine And.intro (callD_any (spec_l44Down_c hx11) (by kernel_rfl)) ?_;(conv=>whnf);refine And.intro g12 ?_;clear g12;(conv=>whnf);refine And.intro (by kernel_rfl) ?_;(conv=>whnf);refine ⟨rows HelloSide.enc (a0.Sides.set a1.At.toNat (⟨false,x11⟩:HelloSide)),store_rows' lenA rfl,?_⟩;(conv=>whnf);obtain rfl:=Option.some.inj hx3;exact ⟨_,rfl,leX []⟩
          · (conv=>whnf);refine andI hx3 (fun _ hx3=>?_) (fun _ hx3=>?_)
            · (conv=>whnf);refine andI hx3 (fun _ hx3=>?_) (fun _ hx3=>?_)
              · (conv=>whnf);obtain ⟨x13,hx13,hx3⟩:=bd_some hx3;obtain ⟨g14,hx3⟩:=gd_some hx3;refine draw_t tOk [.e 6 [] (.agg [.d (.int .i64 x13.Name),.d (.int .i64 x13.Peer),.d (slD HelloKey.enc x13.Keys),.d (.int .i64 x13.Boot),.d (slD HelloEntry.enc x13.Want),.d (.int .i64 x13.Turn),.d (.int .i64 x13.PeerBoot),.d (.int .i64 x13.PeerTurn),.d (.bool x13.Up),.d (.int .i64 x13.Left),.d (.int .i64 x13.Num),.d (.int .i64 x13.Under.Kind),.d (.int .i64 x13.Under.Entry.Addr),.d (.int .i64 x13.Under.Entry.Len),.d (.int .i64 x13.Under.Entry.Cost),.d (.int .i64 x13.Under.Entry.Label),.d (slD HelloEntry.enc x13.Told),.d (.bool x13.All),.d (.int .i64 x13.Got),.d (.bool x13.Full),.d (slD HelloRoute.enc x13.Heard),.d (.int .i64 x13.Keep)]) [] []] 9 [] [0,1,0,4,0,16,48,112,255] [511] [] ?_;(conv=>whnf);refine And.intro (eD [] 0 (spec_l43Life_z020_c hx13)) ?_;(conv=>whnf);refine And.intro g14 ?_;clear g14;(conv=>whnf);refine And.intro (by kernel_rfl) ?_;(conv=>whnf);refine ⟨rows HelloSide.enc (a0.Sides.set a1.At.toNat (⟨true,x13⟩:HelloSide)),store_rows' lenA rfl,?_⟩;(conv=>whnf);obtain rfl:=Option.some.inj hx3;exact ⟨_,rfl,leX []⟩
              · (conv=>whnf);obtain rfl:=Option.some.inj hx3;exact ⟨_,rfl,leX []⟩
            · (conv=>whnf);refine andI hx3 (fun _ hx3=>?_) (fun _ hx3=>?_)
              · (conv=>whnf);obtain ⟨x15,hx15,hx3⟩:=bd_some hx3;refine cC 0 (spec_HelloTableOk_c hx15) ?_;clear hx15;(conv=>whnf);refine andI hx3 (fun _ hx3=>?_) (fun _ hx3=>?_)
                · (conv=>whnf);obtain ⟨x16,hx16,hx3⟩:=bd_some hx3;obtain ⟨g17,hx3⟩:=gd_some hx3;refine draw_u tOk [.u 6 1000 (.osl 5001 0 x16.length) [⟨5001,36,4,x16.length,rows HelloEntry.enc x16⟩]] 10 [] [0,1,0,4,0,16,48,127,255,511] [1023] ?_;(conv=>whnf);refine And.intro (callD_any (spec_l42Table_c hx16) (by kernel_rfl)) ?_;(conv=>whnf);refine And.intro g17 ?_;clear g17;(conv=>whnf);refine And.intro (by kernel_rfl) ?_;(conv=>whnf);obtain ⟨x18,hx18,hlx18,hx3⟩:=bd_set hx3;refine setS (enc:=HelloSide.enc) hx18 ?_;(conv=>whnf);obtain rfl:=Option.some.inj hx3;exact ⟨_,rfl,leX []⟩
                · (conv=>whnf);obtain rfl:=Option.some.inj hx3;exact ⟨_,rfl,leX []⟩
              · (conv=>whnf);refine andI hx3 (fun _ hx3=>?_) (fun _ hx3=>?_)
                · (conv=>whnf);obtain ⟨x19,hx19,hx3⟩:=bd_some hx3;refine cC 0 (spec_HelloKeysOk_c hx19) ?_;clear hx19;(conv=>whnf);refine andI hx3 (fun _ hx3=>?_) (fun _ hx3=>?_)
                  · (conv=>whnf);obtain ⟨x20,hx20,hx3⟩:=bd_some hx3;refine cC 1000 (spec_l44Read_c hx20) ?_;clear hx20;(conv=>whnf);obtain ⟨x21,hx21,hx3⟩:=bd_some hx3;obtain ⟨g22,hx3⟩:=gd_some hx3;refine draw_u tOk [.u 6 2000 (.osl 5001 0 x21.length) [⟨5001,90,2,x21.length,rows HelloKey.enc x21⟩]] 10 [] [0,1,0,4,0,16,48,127,255,511] [1023] ?_;(conv=>whnf);refine And.intro (callD_any (spec_l42Keys_c hx21) (by kernel_rfl)) ?_;(conv=>whnf);refine And.intro g22 ?_;clear g22;(conv=>whnf);refine And.intro (by kernel_rfl) ?_;(conv=>whnf);obtain ⟨x23,hx23,hlx23,hx3⟩:=bd_set hx3;refine setS (enc:=HelloSide.enc) hx23 ?_;(conv=>whnf);obtain rfl:=Option.some.inj hx3;exact ⟨_,rfl,leX [.s [(6001,9001),(9001,6001)]]⟩
                  · (conv=>whnf);obtain rfl:=Option.some.inj hx3;exact ⟨_,rfl,leX []⟩
                · (conv=>whnf);obtain rfl:=Option.some.inj hx3;exact ⟨_,rfl,leX []⟩
    · intro d5 hdd5;subst hdd5;(conv=>whnf);obtain rfl:=Option.some.inj h;exact lfE [.f [9000,9001]]
noncomputable def spec_l44Put_o00_m (a0:HelloWorld) (a1:HelloWord):Option (HelloWorld) :=
(if (decide (((a0.Radio.length:Nat):Int)<12))=true then
 gd (((a0.Radio.length)+(([a1]:List HelloWord).length))*(112+1)≤70368744177664) <|
 some (⟨a0.Sides,(a0.Radio ++ ([a1]:List HelloWord))⟩:HelloWorld)
else
 some a0)
theorem spec_l44Put_o00_c {a0:HelloWorld} {a1:HelloWord} {r:HelloWorld} (h:spec_l44Put_o00_m a0 a1=some r):EffC Tryz.prog 174 [.agg [.osl 9000 0 a0.Sides.length,.osl 9001 0 a0.Radio.length],.agg [.d (.int .i64 a1.From),.d (.int .i64 a1.To),.d (.int .i64 a1.Key),.d (.int .i64 a1.Boot),.d (.int .i64 a1.Yours),.d (.int .i64 a1.Turn),.d (.int .i64 a1.Num),.d (.int .i64 a1.Heard),.d (.int .i64 a1.Change.Kind),.d (.int .i64 a1.Change.Entry.Addr),.d (.int .i64 a1.Change.Entry.Len),.d (.int .i64 a1.Change.Entry.Cost),.d (.int .i64 a1.Change.Entry.Label),.d (.int .i64 a1.Sum)]] [(9000,.arr 145 23 a0.Sides.length (rows HelloSide.enc a0.Sides)),(9001,.arr 45 14 a0.Radio.length (rows HelloWord.enc a0.Radio))] (.agg [.osl 5001 0 r.Sides.length,.osl 5002 0 r.Radio.length]) [(5001,.arr 145 23 r.Sides.length (rows HelloSide.enc r.Sides)),(5002,.arr 45 14 r.Radio.length (rows HelloWord.enc r.Radio))]:=by
  refine effC_x tOk (fn:=Tryz.f174) (c:=codeOf Tryz.f174) rfl rfl ?_;unfold spec_l44Put_o00_m at h;(conv=>whnf);refine seq_in tOk ?_;(conv=>whnf);refine andI h (fun _ h=>?_) (fun _ h=>?_)
  · (conv=>whnf);refine bldS (enc:=HelloWord.enc) ([a1]:List HelloWord) ?_;(conv=>whnf);refine gdI h (fun h=>?_);refine appS (enc:=HelloWord.enc) (xs:=a0.Radio) (ys:=([a1]:List HelloWord)) ?_;(conv=>whnf);obtain rfl:=Option.some.inj h;exact lfE [.s [(5001,9000),(5002,9001),(9000,5001),(9001,5002)]]
  · (conv=>whnf);obtain rfl:=Option.some.inj h;exact lfE [.s [(5001,9000),(5002,9001),(9000,5001),(9001,5002)]]
noncomputable def spec_l44Side_o00_01_m (a0:HelloWorld) (a1:HelloEvent):Option (HelloWorld) :=
 bd (spec_l41In_m a1.At 0 1) fun x1 =>
(if (!x1)=true then
 some a0
else
 gd ((0:Int)≤a1.At∧a1.At<((a0.Sides.length:Nat):Int)) <|
 bd (α:=(List HelloSide × List HelloWord) ⊕ ((List HelloSide) × Nat × (List HelloWord) × Nat)) ((if (a1.Kind == 1)=true then
(if (a0.Sides.getD a1.At.toNat default).Up=true then
 bd (spec_HelloSay_m ({ ((a0.Sides.getD a1.At.toNat default).End) with Under:=(⟨(((a0.Sides.getD a1.At.toNat default).End).Under).Kind,((((a0.Sides.getD a1.At.toNat default).End).Under).Entry)⟩:HelloChange) })) fun x6 =>
 gd ((0:Int)≤a1.At∧a1.At<((a0.Sides.length:Nat):Int)) <|
(if x6.2.2=true then
 bd (spec_l44Put_o00_m (⟨a0.Sides.set a1.At.toNat (⟨(a0.Sides.getD a1.At.toNat default).Up,x6.1⟩:HelloSide),a0.Radio⟩:HelloWorld) x6.2.1) fun x8 =>
 some (.inr (x8.Sides,x8.Sides.length,x8.Radio,x8.Radio.length))
else
 some (.inl (a0.Sides.set a1.At.toNat (⟨(a0.Sides.getD a1.At.toNat default).Up,x6.1⟩:HelloSide),a0.Radio)))
else
 some (.inl (a0.Sides,a0.Radio)))
else
(if (a1.Kind == 5)=true then
(if (a0.Sides.getD a1.At.toNat default).Up=true then
 bd (spec_HelloTick_m ({ ((a0.Sides.getD a1.At.toNat default).End) with Under:=(⟨(((a0.Sides.getD a1.At.toNat default).End).Under).Kind,((((a0.Sides.getD a1.At.toNat default).End).Under).Entry)⟩:HelloChange) })) fun x9 =>
 gd ((0:Int)≤a1.At∧a1.At<((a0.Sides.length:Nat):Int)) <|
 some (.inl (a0.Sides.set a1.At.toNat (⟨(a0.Sides.getD a1.At.toNat default).Up,x9⟩:HelloSide),a0.Radio))
else
 some (.inl (a0.Sides,a0.Radio)))
else
(if (a1.Kind == 6)=true then
 bd (spec_l44Down_m ({ ((a0.Sides.getD a1.At.toNat default).End) with Under:=(⟨(((a0.Sides.getD a1.At.toNat default).End).Under).Kind,((((a0.Sides.getD a1.At.toNat default).End).Under).Entry)⟩:HelloChange) })) fun x11 =>
 gd ((0:Int)≤a1.At∧a1.At<((a0.Sides.length:Nat):Int)) <|
 some (.inl (a0.Sides.set a1.At.toNat (⟨false,x11⟩:HelloSide),a0.Radio))
else
(if (a1.Kind == 7)=true then
(if (!((a0.Sides.getD a1.At.toNat default).Up))=true then
 bd (spec_l43Life_z020_m ({ ((a0.Sides.getD a1.At.toNat default).End) with Under:=(⟨(((a0.Sides.getD a1.At.toNat default).End).Under).Kind,((((a0.Sides.getD a1.At.toNat default).End).Under).Entry)⟩:HelloChange) })) fun x13 =>
 gd ((0:Int)≤a1.At∧a1.At<((a0.Sides.length:Nat):Int)) <|
 some (.inl (a0.Sides.set a1.At.toNat (⟨true,x13⟩:HelloSide),a0.Radio))
else
 some (.inl (a0.Sides,a0.Radio)))
else
(if (a1.Kind == 8)=true then
 bd (spec_HelloTableOk_m a1.Want) fun x15 =>
(if x15=true then
 bd (spec_l42Table_m a1.Want) fun x16 =>
 gd ((0:Int)≤a1.At∧a1.At<((a0.Sides.length:Nat):Int)) <|
 bd (some (a0.Sides.set a1.At.toNat (⟨(a0.Sides.getD a1.At.toNat default).Up,{ ((a0.Sides.getD a1.At.toNat default).End) with Want:=x16,Under:=(⟨(((a0.Sides.getD a1.At.toNat default).End).Under).Kind,((((a0.Sides.getD a1.At.toNat default).End).Under).Entry)⟩:HelloChange) }⟩:HelloSide))) fun x18 =>
 some (.inl (x18,a0.Radio))
else
 some (.inl (a0.Sides,a0.Radio)))
else
(if (a1.Kind == 9)=true then
 bd (spec_HelloKeysOk_m a1.Keys) fun x19 =>
(if x19=true then
 bd (spec_l44Read_m a0) fun x20 =>
 bd (spec_l42Keys_m a1.Keys) fun x21 =>
 gd ((0:Int)≤a1.At∧a1.At<((a0.Sides.length:Nat):Int)) <|
 bd (some (a0.Sides.set a1.At.toNat (⟨(a0.Sides.getD a1.At.toNat default).Up,{ ((a0.Sides.getD a1.At.toNat default).End) with Keys:=x21,Under:=(⟨(((a0.Sides.getD a1.At.toNat default).End).Under).Kind,((((a0.Sides.getD a1.At.toNat default).End).Under).Entry)⟩:HelloChange) }⟩:HelloSide))) fun x23 =>
 some (.inl (x23,x20))
else
 some (.inl (a0.Sides,a0.Radio)))
else
 some (.inl (a0.Sides,a0.Radio))))))))) fun x3 =>
(match x3 with
| .inl d5 =>
 some (⟨d5.1,d5.2⟩:HelloWorld)
| .inr d24 =>
 some (⟨d24.1,d24.2.2.1⟩:HelloWorld)))
theorem spec_l44Side_o00_01_c {a0:HelloWorld} {a1:HelloEvent} {r:HelloWorld} (h:spec_l44Side_o00_01_m a0 a1=some r):EffC Tryz.prog 169 [.agg [.osl 9000 0 a0.Sides.length,.osl 9001 0 a0.Radio.length],.agg [.d (.int .i64 a1.Kind),.d (.int .i64 a1.At),.d (slD HelloEntry.enc a1.Want),.d (slD HelloKey.enc a1.Keys),.d (.int .i64 a1.Word.From),.d (.int .i64 a1.Word.To),.d (.int .i64 a1.Word.Key),.d (.int .i64 a1.Word.Boot),.d (.int .i64 a1.Word.Yours),.d (.int .i64 a1.Word.Turn),.d (.int .i64 a1.Word.Num),.d (.int .i64 a1.Word.Heard),.d (.int .i64 a1.Word.Change.Kind),.d (.int .i64 a1.Word.Change.Entry.Addr),.d (.int .i64 a1.Word.Change.Entry.Len),.d (.int .i64 a1.Word.Change.Entry.Cost),.d (.int .i64 a1.Word.Change.Entry.Label),.d (.int .i64 a1.Word.Sum)]] [(9000,.arr 145 23 a0.Sides.length (rows HelloSide.enc a0.Sides)),(9001,.arr 45 14 a0.Radio.length (rows HelloWord.enc a0.Radio))] (.agg [.osl 5001 0 r.Sides.length,.osl 5002 0 r.Radio.length]) [(5001,.arr 145 23 r.Sides.length (rows HelloSide.enc r.Sides)),(5002,.arr 45 14 r.Radio.length (rows HelloWord.enc r.Radio))]:=by
  refine effC_x tOk (fn:=Tryz.f169) (c:=codeOf Tryz.f169) rfl rfl ?_;unfold spec_l44Side_o00_01_m at h;(conv=>whnf);refine seq_in tOk ?_;(conv=>whnf);obtain ⟨x1,hx1,h⟩:=bd_some h;refine cC 0 (spec_l41In_c hx1) ?_;clear hx1;(conv=>whnf);refine andI h (fun _ h=>?_) (fun _ h=>?_)
  · (conv=>whnf);obtain rfl:=Option.some.inj h;exact lfE [.s [(5001,9000),(5002,9001),(9000,5001),(9001,5002)]]
  · (conv=>whnf);refine gdI h (fun h=>?_);(conv=>whnf);obtain ⟨x3,hx3,h⟩:=bd_some h;refine seq_join tOk (fun s4=>⟨0,116,[(2,.ref 2 0 0),(4,.ref 4 0 0)],[],[(4,.box 142 [.d (.nil),.d (.nil)]),(2,.box 142 [.osl 9000 0 s4.1.length,.osl 9001 0 s4.2.length]),(9000,.arr 145 23 s4.1.length (rows HelloSide.enc s4.1)),(9001,.arr 45 14 s4.2.length (rows HelloWord.enc s4.2))],[⟨[],[]⟩]⟩) (fun s4=>x3=.inl s4) ?_ ?_
    · (conv=>whnf);refine andI hx3 (fun _ hx3=>?_) (fun _ hx3=>?_)
      · (conv=>whnf);refine andI hx3 (fun _ hx3=>?_) (fun _ hx3=>?_)
        · (conv=>whnf);obtain ⟨x6,hx6,hx3⟩:=bd_some hx3;refine cC 1000 (spec_HelloSay_c hx6) ?_;clear hx6;(conv=>whnf);refine gdI hx3 (fun hx3=>?_);(conv=>whnf);refine ⟨rows HelloSide.enc (a0.Sides.set a1.At.toNat (⟨(a0.Sides.getD a1.At.toNat default).Up,x6.1⟩:HelloSide)),store_rows' lenA rfl,?_⟩;(conv=>whnf);refine andI hx3 (fun _ hx3=>?_) (fun _ hx3=>?_)
          · (conv=>whnf);obtain ⟨x8,hx8,hx3⟩:=bd_some hx3;refine cE [(9000,9000),(9001,9001)] 1000 (spec_l44Put_o00_c hx8) ?_;(conv=>whnf);obtain rfl:=Option.some.inj hx3;obtain rfl:=Option.some.inj h;exact lfE [.s [(5001,6001),(5002,6002),(6001,5001),(6002,5002)]]
          · (conv=>whnf);obtain rfl:=Option.some.inj hx3;exact ⟨_,rfl,leX []⟩
        · (conv=>whnf);obtain rfl:=Option.some.inj hx3;exact ⟨_,rfl,leX []⟩
      · (conv=>whnf);refine andI hx3 (fun _ hx3=>?_) (fun _ hx3=>?_)
        · (conv=>whnf);refine andI hx3 (fun _ hx3=>?_) (fun _ hx3=>?_)
          · (conv=>whnf);obtain ⟨x9,hx9,hx3⟩:=bd_some hx3;obtain ⟨g10,hx3⟩:=gd_some hx3;refine draw_u tOk [.u 6 1000 (.agg [.d (.int .i64 x9.Name),.d (.int .i64 x9.Peer),.osl 5001 0 x9.Keys.length,.d (.int .i64 x9.Boot),.osl 5002 0 x9.Want.length,.d (.int .i64 x9.Turn),.d (.int .i64 x9.PeerBoot),.d (.int .i64 x9.PeerTurn),.d (.bool x9.Up),.d (.int .i64 x9.Left),.d (.int .i64 x9.Num),.d (.int .i64 x9.Under.Kind),.d (.int .i64 x9.Under.Entry.Addr),.d (.int .i64 x9.Under.Entry.Len),.d (.int .i64 x9.Under.Entry.Cost),.d (.int .i64 x9.Under.Entry.Label),.osl 5003 0 x9.Told.length,.d (.bool x9.All),.d (.int .i64 x9.Got),.d (.bool x9.Full),.osl 5004 0 x9.Heard.length,.d (.int .i64 x9.Keep)]) [⟨5001,90,2,x9.Keys.length,rows HelloKey.enc x9.Keys⟩,⟨5002,36,4,x9.Want.length,rows HelloEntry.enc x9.Want⟩,⟨5003,36,4,x9.Told.length,rows HelloEntry.enc x9.Told⟩,⟨5004,94,5,x9.Heard.length,rows HelloRoute.enc x9.Heard⟩]] 9 [] [0,1,0,4,0,16,48,127,255] [511] ?_;(conv=>whnf);refine And.intro (callD_any (spec_HelloTick_c hx9) (by kernel_rfl)) ?_;(conv=>whnf);refine And.intro g10 ?_;clear g10;(conv=>whnf);refine And.intro (by kernel_rfl) ?_;(conv=>whnf);refine ⟨rows HelloSide.enc (a0.Sides.set a1.At.toNat (⟨(a0.Sides.getD a1.At.toNat default).Up,x9⟩:HelloSide)),store_rows' lenA rfl,?_⟩;(conv=>whnf);obtain rfl:=Option.some.inj hx3;exact ⟨_,rfl,leX []⟩
          · (conv=>whnf);obtain rfl:=Option.some.inj hx3;exact ⟨_,rfl,leX []⟩
        · (conv=>whnf);refine andI hx3 (fun _ hx3=>?_) (fun _ hx3=>?_)
          · (conv=>whnf);obtain ⟨x11,hx11,hx3⟩:=bd_some hx3;obtain ⟨g12,hx3⟩:=gd_some hx3;refine draw_u tOk [.u 6 1000 (.agg [.d (.int .i64 x11.Name),.d (.int .i64 x11.Peer),.osl 5001 0 x11.Keys.length,.d (.int .i64 x11.Boot),.osl 5002 0 x11.Want.length,.d (.int .i64 x11.Turn),.d (.int .i64 x11.PeerBoot),.d (.int .i64 x11.PeerTurn),.d (.bool x11.Up),.d (.int .i64 x11.Left),.d (.int .i64 x11.Num),.d (.int .i64 x11.Under.Kind),.d (.int .i64 x11.Under.Entry.Addr),.d (.int .i64 x11.Under.Entry.Len),.d (.int .i64 x11.Under.Entry.Cost),.d (.int .i64 x11.Under.Entry.Label),.osl 5003 0 x11.Told.length,.d (.bool x11.All),.d (.int .i64 x11.Got),.d (.bool x11.Full),.osl 5004 0 x11.Heard.length,.d (.int .i64 x11.Keep)]) [⟨5001,90,2,x11.Keys.length,rows HelloKey.enc x11.Keys⟩,⟨5002,36,4,x11.Want.length,rows HelloEntry.enc x11.Want⟩,⟨5003,36,4,x11.Told.length,rows HelloEntry.enc x11.Told⟩,⟨5004,94,5,x11.Heard.length,rows HelloRoute.enc x11.Heard⟩]] 9 [] [0,1,0,4,0,16,48,112,255] [511] ?_;(conv=>whnf);refine And.intro (callD_any (spec_l44Down_c hx11) (by kernel_rfl)) ?_;(conv=>whnf);refine And.intro g12 ?_;clear g12;(conv=>whnf);refine And.intro (by kernel_rfl) ?_;(conv=>whnf);refine ⟨rows HelloSide.enc (a0.Sides.set a1.At.toNat (⟨false,x11⟩:HelloSide)),store_rows' lenA rfl,?_⟩;(conv=>whnf);obtain rfl:=Option.some.inj hx3;exact ⟨_,rfl,leX []⟩
          · (conv=>whnf);refine andI hx3 (fun _ hx3=>?_) (fun _ hx3=>?_)
            · (conv=>whnf);refine andI hx3 (fun _ hx3=>?_) (fun _ hx3=>?_)
              · (conv=>whnf);obtain ⟨x13,hx13,hx3⟩:=bd_some hx3;obtain ⟨g14,hx3⟩:=gd_some hx3;refine draw_t tOk [.e 6 [] (.agg [.d (.int .i64 x13.Name),.d (.int .i64 x13.Peer),.d (slD HelloKey.enc x13.Keys),.d (.int .i64 x13.Boot),.d (slD HelloEntry.enc x13.Want),.d (.int .i64 x13.Turn),.d (.int .i64 x13.PeerBoot),.d (.int .i64 x13.PeerTurn),.d (.bool x13.Up),.d (.int .i64 x13.Left),.d (.int .i64 x13.Num),.d (.int .i64 x13.Under.Kind),.d (.int .i64 x13.Under.Entry.Addr),.d (.int .i64 x13.Under.Entry.Len),.d (.int .i64 x13.Under.Entry.Cost),.d (.int .i64 x13.Under.Entry.Label),.d (slD HelloEntry.enc x13.Told),.d (.bool x13.All),.d (.int .i64 x13.Got),.d (.bool x13.Full),.d (slD HelloRoute.enc x13.Heard),.d (.int .i64 x13.Keep)]) [] []] 9 [] [0,1,0,4,0,16,48,112,255] [511] [] ?_;(conv=>whnf);refine And.intro (eD [] 0 (spec_l43Life_z020_c hx13)) ?_;(conv=>whnf);refine And.intro g14 ?_;clear g14;(conv=>whnf);refine And.intro (by kernel_rfl) ?_;(conv=>whnf);refine ⟨rows HelloSide.enc (a0.Sides.set a1.At.toNat (⟨true,x13⟩:HelloSide)),store_rows' lenA rfl,?_⟩;(conv=>whnf);obtain rfl:=Option.some.inj hx3;exact ⟨_,rfl,leX []⟩
              · (conv=>whnf);obtain rfl:=Option.some.inj hx3;exact ⟨_,rfl,leX []⟩
            · (conv=>whnf);refine andI hx3 (fun _ hx3=>?_) (fun _ hx3=>?_)
              · (conv=>whnf);obtain ⟨x15,hx15,hx3⟩:=bd_some hx3;refine cC 0 (spec_HelloTableOk_c hx15) ?_;clear hx15;(conv=>whnf);refine andI hx3 (fun _ hx3=>?_) (fun _ hx3=>?_)
                · (conv=>whnf);obtain ⟨x16,hx16,hx3⟩:=bd_some hx3;obtain ⟨g17,hx3⟩:=gd_some hx3;refine draw_u tOk [.u 6 1000 (.osl 5001 0 x16.length) [⟨5001,36,4,x16.length,rows HelloEntry.enc x16⟩]] 10 [] [0,1,0,4,0,16,48,127,255,511] [1023] ?_;(conv=>whnf);refine And.intro (callD_any (spec_l42Table_c hx16) (by kernel_rfl)) ?_;(conv=>whnf);refine And.intro g17 ?_;clear g17;(conv=>whnf);refine And.intro (by kernel_rfl) ?_;(conv=>whnf);obtain ⟨x18,hx18,hlx18,hx3⟩:=bd_set hx3;refine setS (enc:=HelloSide.enc) hx18 ?_;(conv=>whnf);obtain rfl:=Option.some.inj hx3;exact ⟨_,rfl,leX []⟩
                · (conv=>whnf);obtain rfl:=Option.some.inj hx3;exact ⟨_,rfl,leX []⟩
              · (conv=>whnf);refine andI hx3 (fun _ hx3=>?_) (fun _ hx3=>?_)
                · (conv=>whnf);obtain ⟨x19,hx19,hx3⟩:=bd_some hx3;refine cC 0 (spec_HelloKeysOk_c hx19) ?_;clear hx19;(conv=>whnf);refine andI hx3 (fun _ hx3=>?_) (fun _ hx3=>?_)
                  · (conv=>whnf);obtain ⟨x20,hx20,hx3⟩:=bd_some hx3;refine cC 1000 (spec_l44Read_c hx20) ?_;clear hx20;(conv=>whnf);obtain ⟨x21,hx21,hx3⟩:=bd_some hx3;obtain ⟨g22,hx3⟩:=gd_some hx3;refine draw_u tOk [.u 6 2000 (.osl 5001 0 x21.length) [⟨5001,90,2,x21.length,rows HelloKey.enc x21⟩]] 10 [] [0,1,0,4,0,16,48,127,255,511] [1023] ?_;(conv=>whnf);refine And.intro (callD_any (spec_l42Keys_c hx21) (by kernel_rfl)) ?_;(conv=>whnf);refine And.intro g22 ?_;clear g22;(conv=>whnf);refine And.intro (by kernel_rfl) ?_;(conv=>whnf);obtain ⟨x23,hx23,hlx23,hx3⟩:=bd_set hx3;refine setS (enc:=HelloSide.enc) hx23 ?_;(conv=>whnf);obtain rfl:=Option.some.inj hx3;exact ⟨_,rfl,leX [.s [(6001,9001),(9001,6001)]]⟩
                  · (conv=>whnf);obtain rfl:=Option.some.inj hx3;exact ⟨_,rfl,leX []⟩
                · (conv=>whnf);obtain rfl:=Option.some.inj hx3;exact ⟨_,rfl,leX []⟩
    · intro d5 hdd5;subst hdd5;(conv=>whnf);obtain rfl:=Option.some.inj h;exact lfE [.s [(5001,9000),(5002,9001),(9000,5001),(9001,5002)]]
noncomputable def spec_l44Copy_o00_01_m (a0:HelloWorld):Option (HelloWorld) :=
 gd (((0)+(a0.Radio.length))*(112+1)≤70368744177664) <|
 bd (lp (σ:=List HelloSide × Int) (β:=((List HelloSide) × Nat)) (fun s1 =>
(if (decide (s1.2<((a0.Sides.length:Nat):Int)))=true then
 gd ((0:Int)≤s1.2∧s1.2<((a0.Sides.length:Nat):Int)) <|
 gd ((0:Int)≤s1.2∧s1.2<((a0.Sides.length:Nat):Int)) <|
 bd (spec_l42Copy_o02f_04f_016f_020f_m ({ ((a0.Sides.getD s1.2.toNat default).End) with Under:=(⟨(((a0.Sides.getD s1.2.toNat default).End).Under).Kind,((((a0.Sides.getD s1.2.toNat default).End).Under).Entry)⟩:HelloChange) })) fun x7 =>
 gd (((s1.1.length)+(([(⟨(a0.Sides.getD s1.2.toNat default).Up,x7⟩:HelloSide)]:List HelloSide).length))*(248+1)≤70368744177664) <|
 some (.inl ((s1.1 ++ ([(⟨(a0.Sides.getD s1.2.toNat default).Up,x7⟩:HelloSide)]:List HelloSide)),IntKind.i64.wrap (s1.2+1)))
else
 some (.inr (s1.1,s1.1.length)))) (([]:List HelloSide),0)) fun x4 =>
 some (⟨x4.1,a0.Radio⟩:HelloWorld)
theorem spec_l44Copy_o00_01_c {a0:HelloWorld} {r:HelloWorld} (h:spec_l44Copy_o00_01_m a0=some r):EffC Tryz.prog 160 [.agg [.d (slD HelloSide.enc a0.Sides),.d (slD HelloWord.enc a0.Radio)]] [] (.agg [.osl 5001 0 r.Sides.length,.osl 5002 0 r.Radio.length]) [(5001,.arr 145 23 r.Sides.length (rows HelloSide.enc r.Sides)),(5002,.arr 45 14 r.Radio.length (rows HelloWord.enc r.Radio))]:=by
  refine effC_x tOk (fn:=Tryz.f160) (c:=codeOf Tryz.f160) rfl rfl ?_;unfold spec_l44Copy_o00_01_m at h;(conv=>whnf);refine gdI h (fun h=>?_);refine appN (enc:=HelloWord.enc) (ys:=a0.Radio) ?_;(conv=>whnf);refine seq_in tOk ?_;(conv=>whnf);obtain ⟨x4,hx4,h⟩:=bd_some h;refine loop_m tOk hx4 (fun s1=>⟨0,38,[(1,.ref 1 0 0),(2,.ref 2 0 0),(3,.ref 3 0 0),(4,.d (.int .i64 s1.2))],[],[(7001,.arr 145 23 s1.1.length (rows HelloSide.enc s1.1)),(3,.box 142 [.osl 7001 0 s1.1.length,.osl 9 0 a0.Radio.length]),(9,.arr 45 14 a0.Radio.length (rows HelloWord.enc a0.Radio)),(2,.box 142 [.d (.nil),.d (.nil)]),(1,.box 142 [.d (slD HelloSide.enc a0.Sides),.d (slD HelloWord.enc a0.Radio)])],[⟨[],[]⟩]⟩) ?_ ?_
  · exact leX [.p 7001 145 23 (rows HelloSide.enc ([]:List HelloSide))]
  · clear hx4;intro s1 y2 g3 hy2;(conv=>whnf);refine seq_in tOk ?_;(conv=>whnf);refine andI g3 (fun _ g3=>?_) (fun _ g3=>?_)
    · (conv=>whnf);refine seq_in tOk ?_;(conv=>whnf);obtain ⟨g5,g3⟩:=gd_some g3;obtain ⟨g6,g3⟩:=gd_some g3;obtain ⟨x7,hx7,g3⟩:=bd_some g3;refine draw_t tOk [.e 14 [] (.agg [.d (.int .i64 x7.Name),.d (.int .i64 x7.Peer),.d (slD HelloKey.enc x7.Keys),.d (.int .i64 x7.Boot),.d (slD HelloEntry.enc x7.Want),.d (.int .i64 x7.Turn),.d (.int .i64 x7.PeerBoot),.d (.int .i64 x7.PeerTurn),.d (.bool x7.Up),.d (.int .i64 x7.Left),.d (.int .i64 x7.Num),.d (.int .i64 x7.Under.Kind),.d (.int .i64 x7.Under.Entry.Addr),.d (.int .i64 x7.Under.Entry.Len),.d (.int .i64 x7.Under.Entry.Cost),.d (.int .i64 x7.Under.Entry.Label),.d (slD HelloEntry.enc x7.Told),.d (.bool x7.All),.d (.int .i64 x7.Got),.d (.bool x7.Full),.d (slD HelloRoute.enc x7.Heard),.d (.int .i64 x7.Keep)]) [] []] 17 [] [0,1,0,4,0,28,60,124,0,256,0,1792,3840,7936,16128,32764,65532] [131071,262143,524287] [] ?_;(conv=>whnf);refine And.intro g5 ?_;clear g5;(conv=>whnf);refine And.intro g6 ?_;clear g6;(conv=>whnf);refine And.intro (eD [] 0 (spec_l42Copy_o02f_04f_016f_020f_c hx7)) ?_;(conv=>whnf);refine bldS (enc:=HelloSide.enc) ([(⟨(a0.Sides.getD s1.2.toNat default).Up,x7⟩:HelloSide)]:List HelloSide) ?_;(conv=>whnf);refine And.intro (by kernel_rfl) ?_;(conv=>whnf);refine gdI g3 (fun g3=>?_);refine appS (enc:=HelloSide.enc) (xs:=s1.1) (ys:=([(⟨(a0.Sides.getD s1.2.toNat default).Up,x7⟩:HelloSide)]:List HelloSide)) ?_;(conv=>whnf);obtain rfl:=Option.some.inj g3;exact ⟨_,rfl,leX []⟩
    · (conv=>whnf);obtain rfl:=Option.some.inj g3;obtain rfl:=hy2 _ rfl;obtain rfl:=Option.some.inj h;exact lfE [.s [(9,5002),(5001,7001),(5002,9),(7001,5001)]]
noncomputable def spec_l45Round_o00_01_m (a0:HelloWorld):Option (HelloWorld) :=
 bd (lp (σ:=List HelloSide × List HelloWord) (β:=(Nat × Nat × (List HelloSide) × (List HelloWord))) (fun s1 =>
(if (decide (((s1.2.length:Nat):Int) > 0))=true then
 bd (spec_l44Bring_m (⟨s1.1,s1.2⟩:HelloWorld) 0) fun x5 =>
 some (.inl (x5.Sides,x5.Radio))
else
 some (.inr (s1.1.length,s1.2.length,s1.1,s1.2)))) (a0.Sides,a0.Radio)) fun x4 =>
 bd (spec_l44Side_o00_01_m (⟨x4.2.2.1,x4.2.2.2⟩:HelloWorld) (⟨1,0,[],[],(⟨0,0,0,0,0,0,0,0,(⟨0,(⟨0,0,0,0⟩:HelloEntry)⟩:HelloChange),0⟩:HelloWord)⟩:HelloEvent)) fun x7 =>
 bd (spec_l44Side_o00_01_m x7 (⟨1,1,[],[],(⟨0,0,0,0,0,0,0,0,(⟨0,(⟨0,0,0,0⟩:HelloEntry)⟩:HelloChange),0⟩:HelloWord)⟩:HelloEvent)) fun x8 =>
 bd (lp (σ:=List HelloSide × List HelloWord) (β:=((List HelloSide) × Nat × (List HelloWord) × Nat)) (fun s9 =>
(if (decide (((s9.2.length:Nat):Int) > 0))=true then
 bd (spec_l44Bring_m (⟨s9.1,s9.2⟩:HelloWorld) 0) fun x13 =>
 some (.inl (x13.Sides,x13.Radio))
else
 some (.inr (s9.1,s9.1.length,s9.2,s9.2.length)))) (x8.Sides,x8.Radio)) fun x12 =>
 bd (spec_l44Side_o00_01_m (⟨x12.1,x12.2.2.1⟩:HelloWorld) (⟨5,0,[],[],(⟨0,0,0,0,0,0,0,0,(⟨0,(⟨0,0,0,0⟩:HelloEntry)⟩:HelloChange),0⟩:HelloWord)⟩:HelloEvent)) fun x15 =>
 bd (spec_l44Side_o00_01_m x15 (⟨5,1,[],[],(⟨0,0,0,0,0,0,0,0,(⟨0,(⟨0,0,0,0⟩:HelloEntry)⟩:HelloChange),0⟩:HelloWord)⟩:HelloEvent)) fun x16 =>
 some x16
theorem spec_l45Round_o00_01_c {a0:HelloWorld} {r:HelloWorld} (h:spec_l45Round_o00_01_m a0=some r):EffC Tryz.prog 161 [.agg [.osl 9000 0 a0.Sides.length,.osl 9001 0 a0.Radio.length]] [(9000,.arr 145 23 a0.Sides.length (rows HelloSide.enc a0.Sides)),(9001,.arr 45 14 a0.Radio.length (rows HelloWord.enc a0.Radio))] (.agg [.osl 5001 0 r.Sides.length,.osl 5002 0 r.Radio.length]) [(5001,.arr 145 23 r.Sides.length (rows HelloSide.enc r.Sides)),(5002,.arr 45 14 r.Radio.length (rows HelloWord.enc r.Radio))]:=by
  refine effC_x tOk (fn:=Tryz.f161) (c:=codeOf Tryz.f161) rfl rfl ?_;unfold spec_l45Round_o00_01_m at h;(conv=>whnf);refine seq_in tOk ?_;(conv=>whnf);obtain ⟨x4,hx4,h⟩:=bd_some h;refine loop_m tOk hx4 (fun s1=>⟨0,27,[(1,.ref 1 0 0),(2,.ref 2 0 0)],[],[(2,.box 142 [.d (.nil),.d (.nil)]),(1,.box 142 [.osl 9000 0 s1.1.length,.osl 9001 0 s1.2.length]),(9000,.arr 145 23 s1.1.length (rows HelloSide.enc s1.1)),(9001,.arr 45 14 s1.2.length (rows HelloWord.enc s1.2))],[⟨[],[]⟩]⟩) ?_ ?_
  · exact leX []
  · clear hx4;intro s1 y2 g3 hy2;(conv=>whnf);refine seq_in tOk ?_;(conv=>whnf);refine andI g3 (fun _ g3=>?_) (fun _ g3=>?_)
    · (conv=>whnf);obtain ⟨x5,hx5,g3⟩:=bd_some g3;refine callFz [9001] ?_;(conv=>whnf);refine cE [(9000,9000)] 1000 (spec_l44Bring_c hx5) ?_;(conv=>whnf);obtain rfl:=Option.some.inj g3;exact ⟨_,rfl,leX [.s [(6001,9000),(6002,9001),(9000,6001),(9001,6002)]]⟩
    · (conv=>whnf);obtain rfl:=Option.some.inj g3;obtain rfl:=hy2 _ rfl;obtain ⟨x7,hx7,h⟩:=bd_some h;refine cE [(9000,9000),(9001,9001)] 1000 (spec_l44Side_o00_01_c hx7) ?_;(conv=>whnf);obtain ⟨x8,hx8,h⟩:=bd_some h;refine cE [(9000,6001),(9001,6002)] 2000 (spec_l44Side_o00_01_c hx8) ?_;(conv=>whnf);refine seq_in tOk ?_;(conv=>whnf);obtain ⟨x12,hx12,h⟩:=bd_some h;refine loop_m tOk hx12 (fun s9=>⟨0,27,[(1,.ref 1 0 0),(2,.ref 2 0 0)],[],[(7001,.arr 145 23 s9.1.length (rows HelloSide.enc s9.1)),(7002,.arr 45 14 s9.2.length (rows HelloWord.enc s9.2)),(2,.box 142 [.d (.nil),.d (.nil)]),(1,.box 142 [.osl 7001 0 s9.1.length,.osl 7002 0 s9.2.length])],[⟨[],[]⟩]⟩) ?_ ?_
      · exact leX []
      · clear hx12;intro s9 y10 g11 hy10;(conv=>whnf);refine seq_in tOk ?_;(conv=>whnf);refine andI g11 (fun _ g11=>?_) (fun _ g11=>?_)
        · (conv=>whnf);obtain ⟨x13,hx13,g11⟩:=bd_some g11;refine callFz [7002] ?_;(conv=>whnf);refine cE [(9000,7001)] 1000 (spec_l44Bring_c hx13) ?_;(conv=>whnf);obtain rfl:=Option.some.inj g11;exact ⟨_,rfl,leX [.s [(6001,7001),(6002,7002),(7001,6001),(7002,6002)]]⟩
        · (conv=>whnf);obtain rfl:=Option.some.inj g11;obtain rfl:=hy10 _ rfl;obtain ⟨x15,hx15,h⟩:=bd_some h;refine cE [(9000,7001),(9001,7002)] 1000 (spec_l44Side_o00_01_c hx15) ?_;(conv=>whnf);obtain ⟨x16,hx16,h⟩:=bd_some h;refine cE [(9000,6001),(9001,6002)] 3000 (spec_l44Side_o00_01_c hx16) ?_;(conv=>whnf);obtain rfl:=Option.some.inj h;exact lfE [.s [(5001,8001),(5002,8002),(8001,5001),(8002,5002)]]
noncomputable def spec_HelloCalm_m (a0:HelloWorld) (a1:Int):Option (HelloWorld) :=
 bd (spec_HelloWorldOk_m a0) fun x1 =>
(if (!x1)=true then
 some (⟨[],[]⟩:HelloWorld)
else
 bd (spec_l44Copy_o00_01_m a0) fun x2 =>
 bd (lp (σ:=List HelloSide × List HelloWord × Int) (β:=(Nat × Nat × (List HelloSide) × (List HelloWord))) (fun s3 =>
(if ((decide (s3.2.2<a1)) && (decide (s3.2.2<100)))=true then
 bd (spec_l45Round_o00_01_m (⟨s3.1,s3.2.1⟩:HelloWorld)) fun x7 =>
 some (.inl (x7.Sides,x7.Radio,IntKind.i64.wrap (s3.2.2+1)))
else
 some (.inr (s3.1.length,s3.2.1.length,s3.1,s3.2.1)))) (x2.Sides,x2.Radio,0)) fun x6 =>
 bd (spec_l44Copy_m (⟨x6.2.2.1,x6.2.2.2⟩:HelloWorld)) fun x9 =>
 some x9)
theorem spec_HelloCalm_c {a0:HelloWorld} {a1:Int} {r:HelloWorld} (h:spec_HelloCalm_m a0 a1=some r):EffC Tryz.prog 150 [.agg [.d (slD HelloSide.enc a0.Sides),.d (slD HelloWord.enc a0.Radio)],.d (.int .i64 a1)] [] (.agg [.osl 5001 0 r.Sides.length,.osl 5002 0 r.Radio.length]) [(5001,.arr 145 23 r.Sides.length (rows HelloSide.enc r.Sides)),(5002,.arr 45 14 r.Radio.length (rows HelloWord.enc r.Radio))]:=by
  refine effC_x tOk (fn:=Tryz.f150) (c:=codeOf Tryz.f150) rfl rfl ?_;unfold spec_HelloCalm_m at h;(conv=>whnf);refine seq_in tOk ?_;(conv=>whnf);obtain ⟨x1,hx1,h⟩:=bd_some h;refine cC 0 (spec_HelloWorldOk_c hx1) ?_;clear hx1;(conv=>whnf);refine andI h (fun _ h=>?_) (fun _ h=>?_)
  · (conv=>whnf);obtain rfl:=Option.some.inj h;exact lfE [.k [2],.p 5001 145 23 (rows HelloSide.enc ([]:List HelloSide)),.p 5002 45 14 (rows HelloWord.enc ([]:List HelloWord))]
  · (conv=>whnf);obtain ⟨x2,hx2,h⟩:=bd_some h;refine cE [] 1000 (spec_l44Copy_o00_01_c hx2) ?_;(conv=>whnf);refine seq_in tOk ?_;(conv=>whnf);obtain ⟨x6,hx6,h⟩:=bd_some h;refine loop_m tOk hx6 (fun s3=>⟨0,26,[(1,.d (.int .i64 a1)),(4,.ref 4 0 0),(5,.ref 5 0 0),(6,.d (.int .i64 s3.2.2))],[],[(5,.box 142 [.osl 6001 0 s3.1.length,.osl 6002 0 s3.2.1.length]),(6001,.arr 145 23 s3.1.length (rows HelloSide.enc s3.1)),(6002,.arr 45 14 s3.2.1.length (rows HelloWord.enc s3.2.1)),(4,.box 142 [.d (.nil),.d (.nil)])],[⟨[],[]⟩]⟩) ?_ ?_
    · exact leX []
    · clear hx6;intro s3 y4 g5 hy4;(conv=>whnf);refine seq_in tOk ?_;(conv=>whnf);refine andI g5 (fun _ g5=>?_) (fun _ g5=>?_)
      · (conv=>whnf);refine seq_in tOk ?_;(conv=>whnf);obtain ⟨x7,hx7,g5⟩:=bd_some g5;refine cE [(9000,6001),(9001,6002)] 2000 (spec_l45Round_o00_01_c hx7) ?_;(conv=>whnf);obtain rfl:=Option.some.inj g5;exact ⟨_,rfl,leX [.s [(6001,7001),(6002,7002),(7001,6001),(7002,6002)]]⟩
      · (conv=>whnf);obtain rfl:=Option.some.inj g5;obtain rfl:=hy4 _ rfl;obtain ⟨x9,hx9,h⟩:=bd_some h;refine callFz [6001,6002] ?_;(conv=>whnf);refine cE [] 1000 (spec_l44Copy_c hx9) ?_;(conv=>whnf);obtain rfl:=Option.some.inj h;exact lfE [.s [(5001,6001),(5002,6002),(6001,5001),(6002,5002)]]
noncomputable def spec_l46Forged_m (a0:l41Rd) (a1:HelloWorld):Option (HelloWord × l41Rd) :=
 bd (spec_l41Rd_pick_m a0 2) fun x1 =>
 gd ((0:Int)≤x1.1∧x1.1<((a1.Sides.length:Nat):Int)) <|
 bd (spec_l41Rd_pick_m (⟨a0.b,x1.2.p⟩:l41Rd) 2) fun x3 =>
 bd (spec_l41Rd_pick_m (⟨a0.b,x3.2.p⟩:l41Rd) 5) fun x4 =>
 bd (spec_l41Rd_pick_m (⟨a0.b,x4.2.p⟩:l41Rd) 200) fun x5 =>
 bd (spec_l41Rd_pick_m (⟨a0.b,x5.2.p⟩:l41Rd) 3) fun x6 =>
 bd (spec_l41Rd_pick_m (⟨a0.b,x6.2.p⟩:l41Rd) 9) fun x7 =>
 bd (spec_l41Rd_pick_m (⟨a0.b,x7.2.p⟩:l41Rd) 2) fun x8 =>
 bd (spec_l41Rd_pick_m (⟨a0.b,x8.2.p⟩:l41Rd) 4) fun x9 =>
 bd (α:=Int ⊕ ((Int × Int × Int × Int × Int × Int × Int × Int × Int × Int × Int × Int × Int × Int × Int) ⊕ (Int × Int × Int × Int × Int × Int × Int × Int × Int × Int × Int × Int × Int × Int))) ((if (decide (((a1.Radio.length:Nat):Int) > 0))=true then
 bd (spec_l41Rd_pick_m (⟨a0.b,x9.2.p⟩:l41Rd) 2) fun x14 =>
(if ((decide (((a1.Radio.length:Nat):Int) > 0)) && (x14.1 == 0))=true then
 bd (spec_l41Rd_pick_m (⟨a0.b,x14.2.p⟩:l41Rd) ((a1.Radio.length:Nat):Int)) fun x15 =>
 gd ((0:Int)≤x15.1∧x15.1<((a1.Radio.length:Nat):Int)) <|
 bd (spec_l41Rd_pick_m (⟨a0.b,x15.2.p⟩:l41Rd) 4) fun x17 =>
(if (x17.1 == 0)=true then
 bd (spec_l41Rd_pick_m (⟨a0.b,x17.2.p⟩:l41Rd) 9) fun x18 =>
 some (.inr (.inl ((a1.Radio.getD x15.1.toNat default).From,(a1.Radio.getD x15.1.toNat default).To,(a1.Radio.getD x15.1.toNat default).Key,(a1.Radio.getD x15.1.toNat default).Boot,(a1.Radio.getD x15.1.toNat default).Yours,IntKind.i64.wrap ((IntKind.i64.wrap (((a1.Radio.getD x15.1.toNat default).Turn)+1))+x18.1),(a1.Radio.getD x15.1.toNat default).Num,(a1.Radio.getD x15.1.toNat default).Heard,((a1.Radio.getD x15.1.toNat default).Change).Kind,(((a1.Radio.getD x15.1.toNat default).Change).Entry).Addr,(((a1.Radio.getD x15.1.toNat default).Change).Entry).Len,(((a1.Radio.getD x15.1.toNat default).Change).Entry).Cost,(((a1.Radio.getD x15.1.toNat default).Change).Entry).Label,(a1.Radio.getD x15.1.toNat default).Sum,x18.2.p)))
else
(if (x17.1 == 1)=true then
 some (.inr (.inl ((a1.Radio.getD x15.1.toNat default).From,(a1.Radio.getD x15.1.toNat default).To,(a1.Radio.getD x15.1.toNat default).Key,(a1.Radio.getD x15.1.toNat default).Boot,(a1.Radio.getD x15.1.toNat default).Yours,(a1.Radio.getD x15.1.toNat default).Turn,(a1.Radio.getD x15.1.toNat default).Num,IntKind.i64.wrap (((a1.Radio.getD x15.1.toNat default).Heard)+1),((a1.Radio.getD x15.1.toNat default).Change).Kind,(((a1.Radio.getD x15.1.toNat default).Change).Entry).Addr,(((a1.Radio.getD x15.1.toNat default).Change).Entry).Len,(((a1.Radio.getD x15.1.toNat default).Change).Entry).Cost,(((a1.Radio.getD x15.1.toNat default).Change).Entry).Label,(a1.Radio.getD x15.1.toNat default).Sum,x17.2.p)))
else
(if (x17.1 == 2)=true then
 some (.inr (.inl ((a1.Radio.getD x15.1.toNat default).From,(a1.Radio.getD x15.1.toNat default).To,(a1.Radio.getD x15.1.toNat default).Key,IntKind.i64.wrap (((a1.Radio.getD x15.1.toNat default).Boot)+1),(a1.Radio.getD x15.1.toNat default).Yours,(a1.Radio.getD x15.1.toNat default).Turn,(a1.Radio.getD x15.1.toNat default).Num,(a1.Radio.getD x15.1.toNat default).Heard,((a1.Radio.getD x15.1.toNat default).Change).Kind,(((a1.Radio.getD x15.1.toNat default).Change).Entry).Addr,(((a1.Radio.getD x15.1.toNat default).Change).Entry).Len,(((a1.Radio.getD x15.1.toNat default).Change).Entry).Cost,(((a1.Radio.getD x15.1.toNat default).Change).Entry).Label,(a1.Radio.getD x15.1.toNat default).Sum,x17.2.p)))
else
 bd (spec_l46Entry_m (⟨a0.b,x17.2.p⟩:l41Rd)) fun x19 =>
 some (.inr (.inr ((a1.Radio.getD x15.1.toNat default).From,(a1.Radio.getD x15.1.toNat default).To,(a1.Radio.getD x15.1.toNat default).Key,(a1.Radio.getD x15.1.toNat default).Boot,(a1.Radio.getD x15.1.toNat default).Yours,IntKind.i64.wrap (((a1.Radio.getD x15.1.toNat default).Turn)+1),IntKind.i64.wrap (((a1.Radio.getD x15.1.toNat default).Num)+1),(a1.Radio.getD x15.1.toNat default).Heard,x19.1.Addr,x19.1.Len,x19.1.Cost,x19.1.Label,(a1.Radio.getD x15.1.toNat default).Sum,x19.2.p))))))
else
 some (.inl x14.2.p))
else
(if ((decide (((a1.Radio.length:Nat):Int) > 0)) && ((0:Int) == 0))=true then
 bd (spec_l41Rd_pick_m (⟨a0.b,x9.2.p⟩:l41Rd) ((a1.Radio.length:Nat):Int)) fun x20 =>
 gd ((0:Int)≤x20.1∧x20.1<((a1.Radio.length:Nat):Int)) <|
 bd (spec_l41Rd_pick_m (⟨a0.b,x20.2.p⟩:l41Rd) 4) fun x22 =>
(if (x22.1 == 0)=true then
 bd (spec_l41Rd_pick_m (⟨a0.b,x22.2.p⟩:l41Rd) 9) fun x23 =>
 some (.inr (.inl ((a1.Radio.getD x20.1.toNat default).From,(a1.Radio.getD x20.1.toNat default).To,(a1.Radio.getD x20.1.toNat default).Key,(a1.Radio.getD x20.1.toNat default).Boot,(a1.Radio.getD x20.1.toNat default).Yours,IntKind.i64.wrap ((IntKind.i64.wrap (((a1.Radio.getD x20.1.toNat default).Turn)+1))+x23.1),(a1.Radio.getD x20.1.toNat default).Num,(a1.Radio.getD x20.1.toNat default).Heard,((a1.Radio.getD x20.1.toNat default).Change).Kind,(((a1.Radio.getD x20.1.toNat default).Change).Entry).Addr,(((a1.Radio.getD x20.1.toNat default).Change).Entry).Len,(((a1.Radio.getD x20.1.toNat default).Change).Entry).Cost,(((a1.Radio.getD x20.1.toNat default).Change).Entry).Label,(a1.Radio.getD x20.1.toNat default).Sum,x23.2.p)))
else
(if (x22.1 == 1)=true then
 some (.inr (.inl ((a1.Radio.getD x20.1.toNat default).From,(a1.Radio.getD x20.1.toNat default).To,(a1.Radio.getD x20.1.toNat default).Key,(a1.Radio.getD x20.1.toNat default).Boot,(a1.Radio.getD x20.1.toNat default).Yours,(a1.Radio.getD x20.1.toNat default).Turn,(a1.Radio.getD x20.1.toNat default).Num,IntKind.i64.wrap (((a1.Radio.getD x20.1.toNat default).Heard)+1),((a1.Radio.getD x20.1.toNat default).Change).Kind,(((a1.Radio.getD x20.1.toNat default).Change).Entry).Addr,(((a1.Radio.getD x20.1.toNat default).Change).Entry).Len,(((a1.Radio.getD x20.1.toNat default).Change).Entry).Cost,(((a1.Radio.getD x20.1.toNat default).Change).Entry).Label,(a1.Radio.getD x20.1.toNat default).Sum,x22.2.p)))
else
(if (x22.1 == 2)=true then
 some (.inr (.inl ((a1.Radio.getD x20.1.toNat default).From,(a1.Radio.getD x20.1.toNat default).To,(a1.Radio.getD x20.1.toNat default).Key,IntKind.i64.wrap (((a1.Radio.getD x20.1.toNat default).Boot)+1),(a1.Radio.getD x20.1.toNat default).Yours,(a1.Radio.getD x20.1.toNat default).Turn,(a1.Radio.getD x20.1.toNat default).Num,(a1.Radio.getD x20.1.toNat default).Heard,((a1.Radio.getD x20.1.toNat default).Change).Kind,(((a1.Radio.getD x20.1.toNat default).Change).Entry).Addr,(((a1.Radio.getD x20.1.toNat default).Change).Entry).Len,(((a1.Radio.getD x20.1.toNat default).Change).Entry).Cost,(((a1.Radio.getD x20.1.toNat default).Change).Entry).Label,(a1.Radio.getD x20.1.toNat default).Sum,x22.2.p)))
else
 bd (spec_l46Entry_m (⟨a0.b,x22.2.p⟩:l41Rd)) fun x24 =>
 some (.inr (.inr ((a1.Radio.getD x20.1.toNat default).From,(a1.Radio.getD x20.1.toNat default).To,(a1.Radio.getD x20.1.toNat default).Key,(a1.Radio.getD x20.1.toNat default).Boot,(a1.Radio.getD x20.1.toNat default).Yours,IntKind.i64.wrap (((a1.Radio.getD x20.1.toNat default).Turn)+1),IntKind.i64.wrap (((a1.Radio.getD x20.1.toNat default).Num)+1),(a1.Radio.getD x20.1.toNat default).Heard,x24.1.Addr,x24.1.Len,x24.1.Cost,x24.1.Label,(a1.Radio.getD x20.1.toNat default).Sum,x24.2.p))))))
else
 some (.inl x9.2.p)))) fun x10 =>
(match x10 with
| .inl d12 =>
 bd (spec_l41Rd_pick_m (⟨a0.b,d12⟩:l41Rd) 256) fun x25 =>
 bd (spec_l41Rd_pick_m (⟨a0.b,x25.2.p⟩:l41Rd) 2) fun x26 =>
(if (x26.1 == 0)=true then
 bd (spec_HelloSum_m 8 (⟨((a1.Sides.getD x1.1.toNat default).End).Name,((a1.Sides.getD x1.1.toNat default).End).Peer,IntKind.i64.wrap (1+x3.1),IntKind.i64.wrap (1+(IntKind.i64.wrap (x4.1*x5.1))),IntKind.i64.wrap (1+x6.1),IntKind.i64.wrap (1+x7.1),x8.1,x9.1,(⟨0,(⟨0,0,0,0⟩:HelloEntry)⟩:HelloChange),x25.1⟩:HelloWord)) fun x27 =>
 some ((⟨((a1.Sides.getD x1.1.toNat default).End).Name,((a1.Sides.getD x1.1.toNat default).End).Peer,IntKind.i64.wrap (1+x3.1),IntKind.i64.wrap (1+(IntKind.i64.wrap (x4.1*x5.1))),IntKind.i64.wrap (1+x6.1),IntKind.i64.wrap (1+x7.1),x8.1,x9.1,(⟨0,(⟨0,0,0,0⟩:HelloEntry)⟩:HelloChange),x27⟩:HelloWord),(⟨a0.b,x26.2.p⟩:l41Rd))
else
 some ((⟨((a1.Sides.getD x1.1.toNat default).End).Name,((a1.Sides.getD x1.1.toNat default).End).Peer,IntKind.i64.wrap (1+x3.1),IntKind.i64.wrap (1+(IntKind.i64.wrap (x4.1*x5.1))),IntKind.i64.wrap (1+x6.1),IntKind.i64.wrap (1+x7.1),x8.1,x9.1,(⟨0,(⟨0,0,0,0⟩:HelloEntry)⟩:HelloChange),x25.1⟩:HelloWord),(⟨a0.b,x26.2.p⟩:l41Rd)))
| .inr (.inl d28) =>
 some ((⟨d28.1,d28.2.1,d28.2.2.1,d28.2.2.2.1,d28.2.2.2.2.1,d28.2.2.2.2.2.1,d28.2.2.2.2.2.2.1,d28.2.2.2.2.2.2.2.1,(⟨d28.2.2.2.2.2.2.2.2.1,(⟨d28.2.2.2.2.2.2.2.2.2.1,d28.2.2.2.2.2.2.2.2.2.2.1,d28.2.2.2.2.2.2.2.2.2.2.2.1,d28.2.2.2.2.2.2.2.2.2.2.2.2.1⟩:HelloEntry)⟩:HelloChange),d28.2.2.2.2.2.2.2.2.2.2.2.2.2.1⟩:HelloWord),(⟨a0.b,d28.2.2.2.2.2.2.2.2.2.2.2.2.2.2⟩:l41Rd))
| .inr (.inr d29) =>
 some ((⟨d29.1,d29.2.1,d29.2.2.1,d29.2.2.2.1,d29.2.2.2.2.1,d29.2.2.2.2.2.1,d29.2.2.2.2.2.2.1,d29.2.2.2.2.2.2.2.1,(⟨1,(⟨d29.2.2.2.2.2.2.2.2.1,d29.2.2.2.2.2.2.2.2.2.1,d29.2.2.2.2.2.2.2.2.2.2.1,d29.2.2.2.2.2.2.2.2.2.2.2.1⟩:HelloEntry)⟩:HelloChange),d29.2.2.2.2.2.2.2.2.2.2.2.2.1⟩:HelloWord),(⟨a0.b,d29.2.2.2.2.2.2.2.2.2.2.2.2.2⟩:l41Rd)))
theorem spec_l46Forged_c {a0:l41Rd} {a1:HelloWorld} {r:HelloWord × l41Rd} (h:spec_l46Forged_m a0 a1=some r):EffC Tryz.prog 163 [.ref 9000 0 0,.agg [.d (slD HelloSide.enc a1.Sides),.d (slD HelloWord.enc a1.Radio)]] [(9000,.box 113 [.d (slD encByte a0.b),.d (.int .i64 a0.p)])] (.agg [.d (.int .i64 r.1.From),.d (.int .i64 r.1.To),.d (.int .i64 r.1.Key),.d (.int .i64 r.1.Boot),.d (.int .i64 r.1.Yours),.d (.int .i64 r.1.Turn),.d (.int .i64 r.1.Num),.d (.int .i64 r.1.Heard),.d (.int .i64 r.1.Change.Kind),.d (.int .i64 r.1.Change.Entry.Addr),.d (.int .i64 r.1.Change.Entry.Len),.d (.int .i64 r.1.Change.Entry.Cost),.d (.int .i64 r.1.Change.Entry.Label),.d (.int .i64 r.1.Sum)]) [(9000,.box 113 [.d (slD encByte a0.b),.d (.int .i64 r.2.p)])]:=by
  refine effC_x tOk (fn:=Tryz.f163) (c:=codeOf Tryz.f163) rfl rfl ?_;unfold spec_l46Forged_m at h;(conv=>whnf);obtain ⟨x1,hx1,h⟩:=bd_some h;refine cE [(9000,9000)] 0 (spec_l41Rd_pick_c hx1) ?_;(conv=>whnf);refine gdI h (fun h=>?_);(conv=>whnf);obtain ⟨x3,hx3,h⟩:=bd_some h;obtain ⟨x4,hx4,h⟩:=bd_some h;obtain ⟨x5,hx5,h⟩:=bd_some h;obtain ⟨x6,hx6,h⟩:=bd_some h;obtain ⟨x7,hx7,h⟩:=bd_some h;obtain ⟨x8,hx8,h⟩:=bd_some h;obtain ⟨x9,hx9,h⟩:=bd_some h;refine draw_t tOk [.e 5 [(9000,.box 113 [.d (slD encByte a0.b),.d (.int .i64 x1.2.p)])] (.d (.int .i64 x3.1)) [] [(9000,.box 113 [.d (slD encByte a0.b),.d (.int .i64 x3.2.p)])],.e 8 [(9000,.box 113 [.d (slD encByte a0.b),.d (.int .i64 x3.2.p)])] (.d (.int .i64 x4.1)) [] [(9000,.box 113 [.d (slD encByte a0.b),.d (.int .i64 x4.2.p)])],.e 10 [(9000,.box 113 [.d (slD encByte a0.b),.d (.int .i64 x4.2.p)])] (.d (.int .i64 x5.1)) [] [(9000,.box 113 [.d (slD encByte a0.b),.d (.int .i64 x5.2.p)])],.e 14 [(9000,.box 113 [.d (slD encByte a0.b),.d (.int .i64 x5.2.p)])] (.d (.int .i64 x6.1)) [] [(9000,.box 113 [.d (slD encByte a0.b),.d (.int .i64 x6.2.p)])],.e 17 [(9000,.box 113 [.d (slD encByte a0.b),.d (.int .i64 x6.2.p)])] (.d (.int .i64 x7.1)) [] [(9000,.box 113 [.d (slD encByte a0.b),.d (.int .i64 x7.2.p)])],.e 20 [(9000,.box 113 [.d (slD encByte a0.b),.d (.int .i64 x7.2.p)])] (.d (.int .i64 x8.1)) [] [(9000,.box 113 [.d (slD encByte a0.b),.d (.int .i64 x8.2.p)])],.e 22 [(9000,.box 113 [.d (slD encByte a0.b),.d (.int .i64 x8.2.p)])] (.d (.int .i64 x9.1)) [] [(9000,.box 113 [.d (slD encByte a0.b),.d (.int .i64 x9.2.p)])]] 25 [] [0,1,0,4,0,16,48,0,176,0,944,1968,4016,0,10160,26544,0,92080,223152,0,747440,0,3893168,8388607,0] [33554431] [9000] ?_;(conv=>whnf);refine And.intro (eD [(9000,9000)] 0 (spec_l41Rd_pick_c hx3)) ?_;(conv=>whnf);refine And.intro (eD [(9000,9000)] 0 (spec_l41Rd_pick_c hx4)) ?_;(conv=>whnf);refine And.intro (eD [(9000,9000)] 0 (spec_l41Rd_pick_c hx5)) ?_;(conv=>whnf);refine And.intro (eD [(9000,9000)] 0 (spec_l41Rd_pick_c hx6)) ?_;(conv=>whnf);refine And.intro (eD [(9000,9000)] 0 (spec_l41Rd_pick_c hx7)) ?_;(conv=>whnf);refine And.intro (eD [(9000,9000)] 0 (spec_l41Rd_pick_c hx8)) ?_;(conv=>whnf);refine And.intro (eD [(9000,9000)] 0 (spec_l41Rd_pick_c hx9)) ?_;(conv=>whnf);refine And.intro (by kernel_rfl) ?_;(conv=>whnf);obtain ⟨x10,hx10,h⟩:=bd_some h;refine seq_join tOk (fun s11=>⟨0,104,[(0,.ref 9000 0 0),(4,.ref 4 0 0),(7,.ref 7 0 0)],[],[(7,.box 45 [.d (.int .i64 (((a1.Sides.getD x1.1.toNat default).End).Name)),.d (.int .i64 (((a1.Sides.getD x1.1.toNat default).End).Peer)),.d (.int .i64 (IntKind.i64.wrap (1+x3.1))),.d (.int .i64 (IntKind.i64.wrap (1+(IntKind.i64.wrap (x4.1*x5.1))))),.d (.int .i64 (IntKind.i64.wrap (1+x6.1))),.d (.int .i64 (IntKind.i64.wrap (1+x7.1))),.d (.int .i64 x8.1),.d (.int .i64 x9.1),.d (.int .i64 0),.d (.int .i64 0),.d (.int .i64 0),.d (.int .i64 0),.d (.int .i64 0),.d (.int .i64 0)]),(4,.box 45 [.d (.int .i64 0),.d (.int .i64 0),.d (.int .i64 0),.d (.int .i64 0),.d (.int .i64 0),.d (.int .i64 0),.d (.int .i64 0),.d (.int .i64 0),.d (.int .i64 0),.d (.int .i64 0),.d (.int .i64 0),.d (.int .i64 0),.d (.int .i64 0),.d (.int .i64 0)]),(9000,.box 113 [.d (slD encByte a0.b),.d (.int .i64 s11)])],[⟨[(0,.ref 9000 0 0)],[]⟩]⟩) (fun s11=>x10=.inl s11) ?_ ?_
  · (conv=>whnf);refine spI hx10 (fun hb13 hx10=>?_) (fun hb13 hx10=>?_)
    · obtain ⟨x14,hx14,hx10⟩:=bd_some hx10;refine callG_t [(9000,9000)] 0 (spec_l41Rd_pick_c hx14) (by (conv=>whnf); exact fun q=>absurd (q.symm.trans hb13) (by decide)) ?_;(conv=>whnf);refine andI hx10 (fun _ hx10=>?_) (fun _ hx10=>?_)
      · (conv=>whnf);obtain ⟨x15,hx15,hx10⟩:=bd_some hx10;obtain ⟨g16,hx10⟩:=gd_some hx10;refine draw_t tOk [.e 6 [(9000,.box 113 [.d (slD encByte a0.b),.d (.int .i64 x14.2.p)])] (.d (.int .i64 x15.1)) [] [(9000,.box 113 [.d (slD encByte a0.b),.d (.int .i64 x15.2.p)])]] 9 [] [0,1,0,0,8,24,60,127,255] [511] [9000] ?_;(conv=>whnf);refine And.intro (eD [(9000,9000)] 0 (spec_l41Rd_pick_c hx15)) ?_;(conv=>whnf);refine And.intro g16 ?_;clear g16;(conv=>whnf);refine And.intro (by kernel_rfl) ?_;(conv=>whnf);refine seq_in tOk ?_;(conv=>whnf);obtain ⟨x17,hx17,hx10⟩:=bd_some hx10;refine cE [(9000,9000)] 0 (spec_l41Rd_pick_c hx17) ?_;(conv=>whnf);refine andI hx10 (fun _ hx10=>?_) (fun _ hx10=>?_)
        · (conv=>whnf);obtain ⟨x18,hx18,hx10⟩:=bd_some hx10;refine draw_t tOk [.e 4 [(9000,.box 113 [.d (slD encByte a0.b),.d (.int .i64 x17.2.p)])] (.d (.int .i64 x18.1)) [] [(9000,.box 113 [.d (slD encByte a0.b),.d (.int .i64 x18.2.p)])]] 7 [] [0,1,3,0,8,31,63] [127] [9000] ?_;(conv=>whnf);refine And.intro (eD [(9000,9000)] 0 (spec_l41Rd_pick_c hx18)) ?_;(conv=>whnf);refine And.intro (by kernel_rfl) ?_;(conv=>whnf);obtain rfl:=Option.some.inj hx10;obtain rfl:=Option.some.inj h;exact lfE []
        · (conv=>whnf);refine andI hx10 (fun _ hx10=>?_) (fun _ hx10=>?_)
          · (conv=>whnf);obtain rfl:=Option.some.inj hx10;obtain rfl:=Option.some.inj h;exact lfE []
          · (conv=>whnf);refine andI hx10 (fun _ hx10=>?_) (fun _ hx10=>?_)
            · (conv=>whnf);obtain rfl:=Option.some.inj hx10;obtain rfl:=Option.some.inj h;exact lfE []
            · (conv=>whnf);obtain ⟨x19,hx19,hx10⟩:=bd_some hx10;refine cE [(9000,9000)] 0 (spec_l46Entry_c hx19) ?_;(conv=>whnf);obtain rfl:=Option.some.inj hx10;obtain rfl:=Option.some.inj h;exact lfE []
      · (conv=>whnf);obtain rfl:=Option.some.inj hx10;exact ⟨_,rfl,leX []⟩
    · refine callG_no (.d (.int .i64 0)) ?_ (by (conv=>whnf); exact fun q=>absurd (hb13.symm.trans q) (by decide));(conv=>whnf);refine andI hx10 (fun _ hx10=>?_) (fun _ hx10=>?_)
      · (conv=>whnf);obtain ⟨x20,hx20,hx10⟩:=bd_some hx10;obtain ⟨g21,hx10⟩:=gd_some hx10;refine draw_t tOk [.e 6 [(9000,.box 113 [.d (slD encByte a0.b),.d (.int .i64 x9.2.p)])] (.d (.int .i64 x20.1)) [] [(9000,.box 113 [.d (slD encByte a0.b),.d (.int .i64 x20.2.p)])]] 9 [] [0,1,0,0,8,24,60,127,255] [511] [9000] ?_;(conv=>whnf);refine And.intro (eD [(9000,9000)] 0 (spec_l41Rd_pick_c hx20)) ?_;(conv=>whnf);refine And.intro g21 ?_;clear g21;(conv=>whnf);refine And.intro (by kernel_rfl) ?_;(conv=>whnf);refine seq_in tOk ?_;(conv=>whnf);obtain ⟨x22,hx22,hx10⟩:=bd_some hx10;refine cE [(9000,9000)] 0 (spec_l41Rd_pick_c hx22) ?_;(conv=>whnf);refine andI hx10 (fun _ hx10=>?_) (fun _ hx10=>?_)
        · (conv=>whnf);obtain ⟨x23,hx23,hx10⟩:=bd_some hx10;refine draw_t tOk [.e 4 [(9000,.box 113 [.d (slD encByte a0.b),.d (.int .i64 x22.2.p)])] (.d (.int .i64 x23.1)) [] [(9000,.box 113 [.d (slD encByte a0.b),.d (.int .i64 x23.2.p)])]] 7 [] [0,1,3,0,8,31,63] [127] [9000] ?_;(conv=>whnf);refine And.intro (eD [(9000,9000)] 0 (spec_l41Rd_pick_c hx23)) ?_;(conv=>whnf);refine And.intro (by kernel_rfl) ?_;(conv=>whnf);obtain rfl:=Option.some.inj hx10;obtain rfl:=Option.some.inj h;exact lfE []
        · (conv=>whnf);refine andI hx10 (fun _ hx10=>?_) (fun _ hx10=>?_)
          · (conv=>whnf);obtain rfl:=Option.some.inj hx10;obtain rfl:=Option.some.inj h;exact lfE []
          · (conv=>whnf);refine andI hx10 (fun _ hx10=>?_) (fun _ hx10=>?_)
            · (conv=>whnf);obtain rfl:=Option.some.inj hx10;obtain rfl:=Option.some.inj h;exact lfE []
            · (conv=>whnf);obtain ⟨x24,hx24,hx10⟩:=bd_some hx10;refine cE [(9000,9000)] 0 (spec_l46Entry_c hx24) ?_;(conv=>whnf);obtain rfl:=Option.some.inj hx10;obtain rfl:=Option.some.inj h;exact lfE []
      · (conv=>whnf);obtain rfl:=Option.some.inj hx10;exact ⟨_,rfl,leX []⟩
  · intro d12 hdd12;subst hdd12;(conv=>whnf);obtain ⟨x25,hx25,h⟩:=bd_some h;refine cE [(9000,9000)] 0 (spec_l41Rd_pick_c hx25) ?_;(conv=>whnf);refine seq_in tOk ?_;(conv=>whnf);obtain ⟨x26,hx26,h⟩:=bd_some h;refine cE [(9000,9000)] 0 (spec_l41Rd_pick_c hx26) ?_;(conv=>whnf);refine andI h (fun _ h=>?_) (fun _ h=>?_)
    · (conv=>whnf);obtain ⟨x27,hx27,h⟩:=bd_some h;refine cC 0 (spec_HelloSum_c hx27) ?_;clear hx27;(conv=>whnf);obtain rfl:=Option.some.inj h;exact lfE []
    · (conv=>whnf);obtain rfl:=Option.some.inj h;exact lfE []
noncomputable def spec_l44Word_m (a0:HelloWorld) (a1:HelloEvent):Option (HelloWorld) :=
 bd (spec_l41In_m a1.At 0 (IntKind.i64.wrap (((a0.Radio.length:Nat):Int) - 1))) fun x1 =>
(if (!x1)=true then
 some a0
else
(if (a1.Kind == 2)=true then
 bd (spec_l44Bring_m a0 a1.At) fun x2 =>
 some x2
else
(if (a1.Kind == 3)=true then
 gd ((0:Int)≤a1.At∧a1.At<((a0.Radio.length:Nat):Int)) <|
 bd (spec_l44Put_m a0 ({ (a0.Radio.getD a1.At.toNat default) with Change:=(⟨((a0.Radio.getD a1.At.toNat default).Change).Kind,(((a0.Radio.getD a1.At.toNat default).Change).Entry)⟩:HelloChange) })) fun x4 =>
 some x4
else
 gd ((0:Int)≤(0:Int)∧(0:Int)≤a1.At∧a1.At≤((a0.Radio.length:Nat):Int)) <|
 gd (((0)+(a1.At.toNat))*(112+1)≤70368744177664) <|
 gd ((0:Int)≤IntKind.i64.wrap (a1.At+1)∧IntKind.i64.wrap (a1.At+1)≤((a0.Radio.length:Nat):Int)∧((a0.Radio.length:Nat):Int)≤((a0.Radio.length:Nat):Int)) <|
 gd ((((a0.Radio.take a1.At.toNat).length)+((dsub ((a0.Radio.length:Nat):Int) (IntKind.i64.wrap (a1.At+1)))))*(112+1)≤70368744177664) <|
 some (⟨a0.Sides,((a0.Radio.take a1.At.toNat) ++ (((a0.Radio).take ((IntKind.i64.wrap (a1.At+1)).toNat+(dsub ((a0.Radio.length:Nat):Int) (IntKind.i64.wrap (a1.At+1))))).drop ((IntKind.i64.wrap (a1.At+1)).toNat)))⟩:HelloWorld))))
theorem spec_l44Word_c {a0:HelloWorld} {a1:HelloEvent} {r:HelloWorld} (h:spec_l44Word_m a0 a1=some r):EffC Tryz.prog 170 [.agg [.osl 9000 0 a0.Sides.length,.osl 9001 0 a0.Radio.length],.agg [.d (.int .i64 a1.Kind),.d (.int .i64 a1.At),.d (slD HelloEntry.enc a1.Want),.d (slD HelloKey.enc a1.Keys),.d (.int .i64 a1.Word.From),.d (.int .i64 a1.Word.To),.d (.int .i64 a1.Word.Key),.d (.int .i64 a1.Word.Boot),.d (.int .i64 a1.Word.Yours),.d (.int .i64 a1.Word.Turn),.d (.int .i64 a1.Word.Num),.d (.int .i64 a1.Word.Heard),.d (.int .i64 a1.Word.Change.Kind),.d (.int .i64 a1.Word.Change.Entry.Addr),.d (.int .i64 a1.Word.Change.Entry.Len),.d (.int .i64 a1.Word.Change.Entry.Cost),.d (.int .i64 a1.Word.Change.Entry.Label),.d (.int .i64 a1.Word.Sum)]] [(9000,.arr 145 23 a0.Sides.length (rows HelloSide.enc a0.Sides)),(9001,.arr 45 14 a0.Radio.length (rows HelloWord.enc a0.Radio))] (.agg [.d (slD HelloSide.enc r.Sides),.d (slD HelloWord.enc r.Radio)]) []:=by
  refine effC_x tOk (fn:=Tryz.f170) (c:=codeOf Tryz.f170) rfl rfl ?_;unfold spec_l44Word_m at h;(conv=>whnf);refine seq_in tOk ?_;(conv=>whnf);obtain ⟨x1,hx1,h⟩:=bd_some h;refine cC 0 (spec_l41In_c hx1) ?_;clear hx1;(conv=>whnf);refine andI h (fun _ h=>?_) (fun _ h=>?_)
  · (conv=>whnf);obtain rfl:=Option.some.inj h;exact lfE [.f [9000,9001]]
  · (conv=>whnf);refine seq_in tOk ?_;(conv=>whnf);refine andI h (fun _ h=>?_) (fun _ h=>?_)
    · (conv=>whnf);obtain ⟨x2,hx2,h⟩:=bd_some h;refine callFz [9001] ?_;(conv=>whnf);refine cE [(9000,9000)] 1000 (spec_l44Bring_c hx2) ?_;(conv=>whnf);obtain rfl:=Option.some.inj h;exact lfE [.f [6001,6002]]
    · (conv=>whnf);refine andI h (fun _ h=>?_) (fun _ h=>?_)
      · (conv=>whnf);obtain ⟨g3,h⟩:=gd_some h;obtain ⟨x4,hx4,h⟩:=bd_some h;refine drawFz [9000] ?_;(conv=>whnf);refine draw_t tOk [.l 5 [(9001,.arr 45 14 a0.Radio.length (rows HelloWord.enc a0.Radio))] (.ref 9001 a1.At.toNat 0),.l 6 [(9001,.arr 45 14 a0.Radio.length (rows HelloWord.enc a0.Radio))] (.agg [.d (.int .i64 ((a0.Radio.getD a1.At.toNat default).From)),.d (.int .i64 ((a0.Radio.getD a1.At.toNat default).To)),.d (.int .i64 ((a0.Radio.getD a1.At.toNat default).Key)),.d (.int .i64 ((a0.Radio.getD a1.At.toNat default).Boot)),.d (.int .i64 ((a0.Radio.getD a1.At.toNat default).Yours)),.d (.int .i64 ((a0.Radio.getD a1.At.toNat default).Turn)),.d (.int .i64 ((a0.Radio.getD a1.At.toNat default).Num)),.d (.int .i64 ((a0.Radio.getD a1.At.toNat default).Heard)),.d (.int .i64 (((a0.Radio.getD a1.At.toNat default).Change).Kind)),.d (.int .i64 ((((a0.Radio.getD a1.At.toNat default).Change).Entry).Addr)),.d (.int .i64 ((((a0.Radio.getD a1.At.toNat default).Change).Entry).Len)),.d (.int .i64 ((((a0.Radio.getD a1.At.toNat default).Change).Entry).Cost)),.d (.int .i64 ((((a0.Radio.getD a1.At.toNat default).Change).Entry).Label)),.d (.int .i64 ((a0.Radio.getD a1.At.toNat default).Sum))]),.e 7 [(9001,.arr 45 14 a0.Radio.length (rows HelloWord.enc a0.Radio))] (.agg [.d (slD HelloSide.enc x4.Sides),.osl 6001 0 x4.Radio.length]) [(6001,.arr 45 14 x4.Radio.length (rows HelloWord.enc x4.Radio))] []] 8 [] [0,0,2,0,8,30,62,127] [255] [9001] ?_;(conv=>whnf);refine And.intro (by (conv=>whnf); exact ⟨g3,rfl,rfl⟩) ?_;(conv=>whnf);refine And.intro (by (conv=>whnf); exact ⟨rfl,rfl⟩) ?_;(conv=>whnf);refine And.intro (eD [(9000,9001)] 1000 (spec_l44Put_c hx4)) ?_;(conv=>whnf);refine And.intro (by kernel_rfl) ?_;(conv=>whnf);obtain rfl:=Option.some.inj h;exact lfE [.f [6001]]
      · (conv=>whnf);obtain ⟨g5,h⟩:=gd_some h;obtain ⟨g6,h⟩:=gd_some h;obtain ⟨g7,h⟩:=gd_some h;refine draw_u tOk [] 13 [] [0,0,2,0,8,30,63,0,128,0,512,1536,3968] [8191,16383,32767] ?_;(conv=>whnf);refine And.intro g5 ?_;(conv=>whnf);refine And.intro g6 ?_;clear g6;refine appN (enc:=HelloWord.enc) (ys:=a0.Radio.take a1.At.toNat) ?_;(conv=>whnf);refine And.intro g7 ?_;(conv=>whnf);refine And.intro (by kernel_rfl) ?_;(conv=>whnf);refine gdI h (fun h=>?_);refine appS (enc:=HelloWord.enc) (xs:=(a0.Radio.take a1.At.toNat)) (ys:=((a0.Radio).take ((IntKind.i64.wrap (a1.At+1)).toNat+(dsub ((a0.Radio.length:Nat):Int) (IntKind.i64.wrap (a1.At+1))))).drop ((IntKind.i64.wrap (a1.At+1)).toNat)) ?_;(conv=>whnf);obtain rfl:=Option.some.inj h;exact lfE [.f [38,9000]]
noncomputable def spec_l44Forge_m (a0:HelloWorld) (a1:HelloWord):Option (HelloWorld) :=
 bd (spec_HelloWordOk_m a1) fun x1 =>
 gd ((!x1)=false→((0:Int)≤0∧0<((a0.Sides.length:Nat):Int))) <|
 bd (gcall ((!x1)=false) (spec_HelloRight_m (((a0.Sides.getD 0 default).End).Keys) a1)) fun x3 =>
 gd (((!x1) || x3)=false→((0:Int)≤1∧1<((a0.Sides.length:Nat):Int))) <|
 bd (gcall (((!x1) || x3)=false) (spec_HelloRight_m (((a0.Sides.getD 1 default).End).Keys) a1)) fun x5 =>
(if (((!x1) || x3) || x5)=true then
 some a0
else
 bd (spec_l44Put_m a0 a1) fun x6 =>
 some x6)
theorem spec_l44Forge_c {a0:HelloWorld} {a1:HelloWord} {r:HelloWorld} (h:spec_l44Forge_m a0 a1=some r):EffC Tryz.prog 171 [.agg [.d (slD HelloSide.enc a0.Sides),.osl 9000 0 a0.Radio.length],.agg [.d (.int .i64 a1.From),.d (.int .i64 a1.To),.d (.int .i64 a1.Key),.d (.int .i64 a1.Boot),.d (.int .i64 a1.Yours),.d (.int .i64 a1.Turn),.d (.int .i64 a1.Num),.d (.int .i64 a1.Heard),.d (.int .i64 a1.Change.Kind),.d (.int .i64 a1.Change.Entry.Addr),.d (.int .i64 a1.Change.Entry.Len),.d (.int .i64 a1.Change.Entry.Cost),.d (.int .i64 a1.Change.Entry.Label),.d (.int .i64 a1.Sum)]] [(9000,.arr 45 14 a0.Radio.length (rows HelloWord.enc a0.Radio))] (.agg [.d (slD HelloSide.enc r.Sides),.d (slD HelloWord.enc r.Radio)]) []:=by
  refine effC_x tOk (fn:=Tryz.f171) (c:=codeOf Tryz.f171) rfl rfl ?_;unfold spec_l44Forge_m at h;(conv=>whnf);refine seq_in tOk ?_;(conv=>whnf);obtain ⟨x1,hx1,h⟩:=bd_some h;obtain ⟨g2,h⟩:=gd_some h;obtain ⟨x3,hx3,h⟩:=bd_some h;obtain ⟨g4,h⟩:=gd_some h;obtain ⟨x5,hx5,h⟩:=bd_some h;refine draw_u tOk [.u 1 0 (.d (.bool x1)) [],.u 11 0 (.d (.bool x3)) [],.u 21 0 (.d (.bool x5)) []] 23 [] [0,1,3,7,15,31,63,127,255,511,15,2047,4095,8191,16383,32767,65535,131071,262143,524287,16383,2097151,4194303] [] ?_;(conv=>whnf);refine And.intro (callD_any (spec_HelloWordOk_c hx1) (by kernel_rfl)) ?_;(conv=>whnf);refine And.intro g2 ?_;clear g2;(conv=>whnf);refine And.intro (callDG_if rfl rfl rfl rfl (by intro c0; exact spec_HelloRight_c (gcall_some hx3 c0))) ?_;(conv=>whnf);refine And.intro g4 ?_;clear g4;(conv=>whnf);refine And.intro (callDG_if rfl rfl rfl rfl (by intro c0; exact spec_HelloRight_c (gcall_some hx5 c0))) ?_;(conv=>whnf);refine And.intro (by kernel_rfl) ?_;(conv=>whnf);refine andI h (fun _ h=>?_) (fun _ h=>?_)
  · (conv=>whnf);obtain rfl:=Option.some.inj h;exact lfE [.f [9000]]
  · (conv=>whnf);obtain ⟨x6,hx6,h⟩:=bd_some h;refine cE [(9000,9000)] 1000 (spec_l44Put_c hx6) ?_;(conv=>whnf);obtain rfl:=Option.some.inj h;exact lfE [.f [6001]]
noncomputable def spec_l44Do_m (a0:HelloWorld) (a1:HelloEvent):Option (HelloWorld) :=
 bd (α:=Bool) ((if (a1.Kind == 2)=true then
 some (a1.Kind == 2)
else
(if (a1.Kind == 3)=true then
 some (a1.Kind == 3)
else
 some (a1.Kind == 4)))) fun x1 =>
(if x1=true then
 bd (spec_l44Word_m a0 a1) fun x4 =>
 some x4
else
(if (a1.Kind == 10)=true then
 bd (spec_l44Forge_m a0 a1.Word) fun x5 =>
 some x5
else
 bd (spec_l44Side_m a0 a1) fun x6 =>
 some x6))
theorem spec_l44Do_c {a0:HelloWorld} {a1:HelloEvent} {r:HelloWorld} (h:spec_l44Do_m a0 a1=some r):EffC Tryz.prog 162 [.agg [.osl 9000 0 a0.Sides.length,.osl 9001 0 a0.Radio.length],.agg [.d (.int .i64 a1.Kind),.d (.int .i64 a1.At),.d (slD HelloEntry.enc a1.Want),.d (slD HelloKey.enc a1.Keys),.d (.int .i64 a1.Word.From),.d (.int .i64 a1.Word.To),.d (.int .i64 a1.Word.Key),.d (.int .i64 a1.Word.Boot),.d (.int .i64 a1.Word.Yours),.d (.int .i64 a1.Word.Turn),.d (.int .i64 a1.Word.Num),.d (.int .i64 a1.Word.Heard),.d (.int .i64 a1.Word.Change.Kind),.d (.int .i64 a1.Word.Change.Entry.Addr),.d (.int .i64 a1.Word.Change.Entry.Len),.d (.int .i64 a1.Word.Change.Entry.Cost),.d (.int .i64 a1.Word.Change.Entry.Label),.d (.int .i64 a1.Word.Sum)]] [(9000,.arr 145 23 a0.Sides.length (rows HelloSide.enc a0.Sides)),(9001,.arr 45 14 a0.Radio.length (rows HelloWord.enc a0.Radio))] (.agg [.d (slD HelloSide.enc r.Sides),.d (slD HelloWord.enc r.Radio)]) []:=by
  refine effC_x tOk (fn:=Tryz.f162) (c:=codeOf Tryz.f162) rfl rfl ?_;unfold spec_l44Do_m at h;(conv=>whnf);refine seq_in tOk ?_;(conv=>whnf);obtain ⟨x1,hx1,h⟩:=bd_some h;refine seq_join tOk (fun s2=>⟨0,23,[(2,.ref 2 0 0),(3,.ref 3 0 0),(4,.ref 4 0 0),(6,.d (.int .i64 a1.Kind)),(7,.d (.bool s2))],[],[(4,.box 142 [.d (.nil),.d (.nil)]),(3,.box 163 [.d (.int .i64 a1.Kind),.d (.int .i64 a1.At),.d (slD HelloEntry.enc a1.Want),.d (slD HelloKey.enc a1.Keys),.d (.int .i64 a1.Word.From),.d (.int .i64 a1.Word.To),.d (.int .i64 a1.Word.Key),.d (.int .i64 a1.Word.Boot),.d (.int .i64 a1.Word.Yours),.d (.int .i64 a1.Word.Turn),.d (.int .i64 a1.Word.Num),.d (.int .i64 a1.Word.Heard),.d (.int .i64 a1.Word.Change.Kind),.d (.int .i64 a1.Word.Change.Entry.Addr),.d (.int .i64 a1.Word.Change.Entry.Len),.d (.int .i64 a1.Word.Change.Entry.Cost),.d (.int .i64 a1.Word.Change.Entry.Label),.d (.int .i64 a1.Word.Sum)]),(2,.box 142 [.osl 9000 0 a0.Sides.length,.osl 9001 0 a0.Radio.length]),(9000,.arr 145 23 a0.Sides.length (rows HelloSide.enc a0.Sides)),(9001,.arr 45 14 a0.Radio.length (rows HelloWord.enc a0.Radio))],[⟨[],[]⟩]⟩) (fun s2=>x1=s2) ?_ ?_
  · (conv=>whnf);refine andI hx1 (fun _ hx1=>?_) (fun _ hx1=>?_)
    · (conv=>whnf);obtain rfl:=Option.some.inj hx1;exact ⟨_,rfl,leX []⟩
    · (conv=>whnf);refine andI hx1 (fun _ hx1=>?_) (fun _ hx1=>?_)
      · (conv=>whnf);obtain rfl:=Option.some.inj hx1;exact ⟨_,rfl,leX []⟩
      · (conv=>whnf);obtain rfl:=Option.some.inj hx1;exact ⟨_,rfl,leX []⟩
  · rintro _ rfl;(conv=>whnf);refine andI h (fun _ h=>?_) (fun _ h=>?_)
    · (conv=>whnf);obtain ⟨x4,hx4,h⟩:=bd_some h;refine cE [(9000,9000),(9001,9001)] 0 (spec_l44Word_c hx4) ?_;(conv=>whnf);obtain rfl:=Option.some.inj h;exact lfE []
    · (conv=>whnf);refine andI h (fun _ h=>?_) (fun _ h=>?_)
      · (conv=>whnf);obtain ⟨x5,hx5,h⟩:=bd_some h;refine callFz [9000] ?_;(conv=>whnf);refine cE [(9000,9001)] 0 (spec_l44Forge_c hx5) ?_;(conv=>whnf);obtain rfl:=Option.some.inj h;exact lfE []
      · (conv=>whnf);obtain ⟨x6,hx6,h⟩:=bd_some h;refine cE [(9000,9000),(9001,9001)] 0 (spec_l44Side_c hx6) ?_;(conv=>whnf);obtain rfl:=Option.some.inj h;exact lfE []
noncomputable def spec_HelloStep_m (a0:HelloWorld) (a1:HelloEvent):Option (HelloWorld) :=
 bd (spec_HelloWorldOk_m a0) fun x1 =>
(if (!x1)=true then
 some (⟨[],[]⟩:HelloWorld)
else
 bd (spec_l44Copy_m a0) fun x2 =>
 bd (spec_l44Do_m x2 a1) fun x3 =>
 bd (spec_l44Copy_m x3) fun x4 =>
 some x4)
theorem spec_HelloStep_c {a0:HelloWorld} {a1:HelloEvent} {r:HelloWorld} (h:spec_HelloStep_m a0 a1=some r):EffC Tryz.prog 151 [.agg [.d (slD HelloSide.enc a0.Sides),.d (slD HelloWord.enc a0.Radio)],.agg [.d (.int .i64 a1.Kind),.d (.int .i64 a1.At),.d (slD HelloEntry.enc a1.Want),.d (slD HelloKey.enc a1.Keys),.d (.int .i64 a1.Word.From),.d (.int .i64 a1.Word.To),.d (.int .i64 a1.Word.Key),.d (.int .i64 a1.Word.Boot),.d (.int .i64 a1.Word.Yours),.d (.int .i64 a1.Word.Turn),.d (.int .i64 a1.Word.Num),.d (.int .i64 a1.Word.Heard),.d (.int .i64 a1.Word.Change.Kind),.d (.int .i64 a1.Word.Change.Entry.Addr),.d (.int .i64 a1.Word.Change.Entry.Len),.d (.int .i64 a1.Word.Change.Entry.Cost),.d (.int .i64 a1.Word.Change.Entry.Label),.d (.int .i64 a1.Word.Sum)]] [] (.agg [.osl 5001 0 r.Sides.length,.osl 5002 0 r.Radio.length]) [(5001,.arr 145 23 r.Sides.length (rows HelloSide.enc r.Sides)),(5002,.arr 45 14 r.Radio.length (rows HelloWord.enc r.Radio))]:=by
  refine effC_x tOk (fn:=Tryz.f151) (c:=codeOf Tryz.f151) rfl rfl ?_;unfold spec_HelloStep_m at h;(conv=>whnf);refine seq_in tOk ?_;(conv=>whnf);obtain ⟨x1,hx1,h⟩:=bd_some h;refine cC 0 (spec_HelloWorldOk_c hx1) ?_;clear hx1;(conv=>whnf);refine andI h (fun _ h=>?_) (fun _ h=>?_)
  · (conv=>whnf);obtain rfl:=Option.some.inj h;exact lfE [.k [2,3],.p 5001 145 23 (rows HelloSide.enc ([]:List HelloSide)),.p 5002 45 14 (rows HelloWord.enc ([]:List HelloWord))]
  · (conv=>whnf);obtain ⟨x2,hx2,h⟩:=bd_some h;obtain ⟨x3,hx3,h⟩:=bd_some h;obtain ⟨x4,hx4,h⟩:=bd_some h;refine draw_t tOk [.e 1 [] (.agg [.osl 6001 0 x2.Sides.length,.osl 6002 0 x2.Radio.length]) [] [(6001,.arr 145 23 x2.Sides.length (rows HelloSide.enc x2.Sides)),(6002,.arr 45 14 x2.Radio.length (rows HelloWord.enc x2.Radio))],.e 3 [(6001,.arr 145 23 x2.Sides.length (rows HelloSide.enc x2.Sides)),(6002,.arr 45 14 x2.Radio.length (rows HelloWord.enc x2.Radio))] (.agg [.d (slD HelloSide.enc x3.Sides),.d (slD HelloWord.enc x3.Radio)]) [] [],.e 4 [] (.agg [.osl 7001 0 x4.Sides.length,.osl 7002 0 x4.Radio.length]) [(7001,.arr 145 23 x4.Sides.length (rows HelloSide.enc x4.Sides)),(7002,.arr 45 14 x4.Radio.length (rows HelloWord.enc x4.Radio))] []] 5 [] [0,1,0,7,15] [31] [] ?_;(conv=>whnf);refine And.intro (eH [] 1000 (spec_l44Copy_c hx2)) ?_;(conv=>whnf);refine And.intro (eD [(9000,6001),(9001,6002)] 0 (spec_l44Do_c hx3)) ?_;(conv=>whnf);refine And.intro (eD [] 2000 (spec_l44Copy_c hx4)) ?_;(conv=>whnf);refine And.intro (by kernel_rfl) ?_;(conv=>whnf);obtain rfl:=Option.some.inj h;exact lfE [.s [(5001,7001),(5002,7002),(7001,5001),(7002,5002)]]
end Go.Proofs.YtaoeomoepefojaaGreat
