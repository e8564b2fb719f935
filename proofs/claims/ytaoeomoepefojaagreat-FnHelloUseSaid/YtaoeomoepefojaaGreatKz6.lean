/-
  What some of the program's functions compute: their models, and that the functions compute these; no condition.
-/
import Derived.Test.YtaoeomoepefojaaGreatTyz
import Derived.Test.YtaoeomoepefojaaGreatTbz
import Derived.Test.YtaoeomoepefojaaGreatAbz7
import Derived.Test.YtaoeomoepefojaaGreatKz5
set_option linter.all false
namespace Go.Proofs.YtaoeomoepefojaaGreat
open Go Go.Ab
set_option maxRecDepth 100000
set_option maxHeartbeats 40000000
noncomputable def impl_HelloEnd_isNew_m (a0:HelloEnd) (a1:HelloWord):Option (Bool) :=
 bd (impl_HelloEnd_wornOut_m a0) fun x1 =>
 bd (gcall (x1=false) (impl_HelloRight_m a0.Keys a1)) fun x2 =>
(if (((x1 || (!x2)) || (a1.From != a0.Peer)) || (a1.To != a0.Name))=true then
 some false
else
 some ((decide (a1.Boot > a0.PeerBoot)) || ((a1.Boot == a0.PeerBoot) && (decide (a1.Turn > a0.PeerTurn)))))
theorem impl_HelloEnd_isNew_c {a0:HelloEnd} {a1:HelloWord} {r:Bool} (h:impl_HelloEnd_isNew_m a0 a1=some r):PureC Tryz.prog 89 [.rp [.int .i64 a0.Name,.int .i64 a0.Peer,slD HelloKey.enc a0.Keys,.int .i64 a0.Boot,slD HelloEntry.enc a0.Want,.int .i64 a0.Turn,.int .i64 a0.PeerBoot,.int .i64 a0.PeerTurn,.bool a0.Up,.int .i64 a0.Left,.int .i64 a0.Num,.int .i64 a0.Under.Kind,.int .i64 a0.Under.Entry.Addr,.int .i64 a0.Under.Entry.Len,.int .i64 a0.Under.Entry.Cost,.int .i64 a0.Under.Entry.Label,slD HelloEntry.enc a0.Told,.bool a0.All,.int .i64 a0.Got,.bool a0.Full,slD HelloRoute.enc a0.Heard,.int .i64 a0.Keep],.agg [.d (.int .i64 a1.From),.d (.int .i64 a1.To),.d (.int .i64 a1.Key),.d (.int .i64 a1.Boot),.d (.int .i64 a1.Yours),.d (.int .i64 a1.Turn),.d (.int .i64 a1.Num),.d (.int .i64 a1.Heard),.d (.int .i64 a1.Change.Kind),.d (.int .i64 a1.Change.Entry.Addr),.d (.int .i64 a1.Change.Entry.Len),.d (.int .i64 a1.Change.Entry.Cost),.d (.int .i64 a1.Change.Entry.Label),.d (.int .i64 a1.Sum)]] (.d (.bool r)) []:=by
  refine pureC_x tOk (fn:=Tryz.f89) (c:=codeOf Tryz.f89) rfl rfl ?_;unfold impl_HelloEnd_isNew_m at h;(conv=>whnf);refine seq_in tOk ?_;(conv=>whnf);obtain ⟨x1,hx1,h⟩:=bd_some h;obtain ⟨x2,hx2,h⟩:=bd_some h;refine draw_u tOk [.u 1 0 (.d (.bool x1)) [],.u 8 0 (.d (.bool x2)) []] 29 [] [0,1,3,7,15,31,63,7,255,511,1023,2047,4095,8191,4095,20479,53247,118783,262143,524287,1048575,2097151,4194303,2097151,10485759,27262975,60817407,134217727,268435455] [] ?_;(conv=>whnf);refine And.intro (callD_any (impl_HelloEnd_wornOut_c hx1) (by kernel_rfl)) ?_;(conv=>whnf);refine And.intro (callDG_if rfl rfl rfl rfl (by intro c0; exact impl_HelloRight_c (gcall_some hx2 c0))) ?_;(conv=>whnf);refine And.intro (by kernel_rfl) ?_;(conv=>whnf);refine andI h (fun _ h=>?_) (fun _ h=>?_)
  · (conv=>whnf);obtain rfl:=Option.some.inj h;exact lfP []
  · (conv=>whnf);refine draw_u tOk [] 26 [] [0,1,0,4,12,28,63,127,255,511,255,1279,3327,7423,16383,32767,65535,131071,65535,327679,851967,1900543,4194303,8388607,16777215,33554431] [] ?_;(conv=>whnf);refine And.intro (by kernel_rfl) ?_;(conv=>whnf);obtain rfl:=Option.some.inj h;exact lfP []
noncomputable def impl_HelloEnd_beginAnew_m (a0:HelloEnd):Option (HelloEnd) :=
 bd (lp (σ:=List HelloRoute × Int) (β:=(Nat × (List HelloRoute))) (fun s1 =>
(if (decide (s1.2<((a0.Heard.length:Nat):Int)))=true then
 gd ((0:Int)≤s1.2∧s1.2<((s1.1.length:Nat):Int)) <|
 some (.inl (s1.1.set s1.2.toNat (⟨((s1.1.getD s1.2.toNat default).Entry),true⟩:HelloRoute),IntKind.i64.wrap (s1.2+1)))
else
 some (.inr (s1.1.length,s1.1)))) (a0.Heard,0)) fun x4 =>
(if ((decide (((x4.1:Nat):Int) > 0)) && (a0.Keep == 0))=true then
 some ({ a0 with Up:=false,Num:=0,Under:=(⟨0,(⟨0,0,0,0⟩:HelloEntry)⟩:HelloChange),Told:=[],All:=false,Got:=0,Full:=false,Heard:=x4.2,Keep:=6 })
else
 some ({ a0 with Up:=false,Num:=0,Under:=(⟨0,(⟨0,0,0,0⟩:HelloEntry)⟩:HelloChange),Told:=[],All:=false,Got:=0,Full:=false,Heard:=x4.2 }))
theorem impl_HelloEnd_beginAnew_c {a0:HelloEnd} {r:HelloEnd} (h:impl_HelloEnd_beginAnew_m a0=some r):EffC Tryz.prog 90 [.ref 9000 0 0] [(9000,.box 41 [.d (.int .i64 a0.Name),.d (.int .i64 a0.Peer),.d (slD HelloKey.enc a0.Keys),.d (.int .i64 a0.Boot),.d (slD HelloEntry.enc a0.Want),.d (.int .i64 a0.Turn),.d (.int .i64 a0.PeerBoot),.d (.int .i64 a0.PeerTurn),.d (.bool a0.Up),.d (.int .i64 a0.Left),.d (.int .i64 a0.Num),.d (.int .i64 a0.Under.Kind),.d (.int .i64 a0.Under.Entry.Addr),.d (.int .i64 a0.Under.Entry.Len),.d (.int .i64 a0.Under.Entry.Cost),.d (.int .i64 a0.Under.Entry.Label),.d (slD HelloEntry.enc a0.Told),.d (.bool a0.All),.d (.int .i64 a0.Got),.d (.bool a0.Full),.osl 9001 0 a0.Heard.length,.d (.int .i64 a0.Keep)]),(9001,.arr 94 5 a0.Heard.length (rows HelloRoute.enc a0.Heard))] (.tup []) [(9000,.box 41 [.d (.int .i64 a0.Name),.d (.int .i64 a0.Peer),.d (slD HelloKey.enc a0.Keys),.d (.int .i64 a0.Boot),.d (slD HelloEntry.enc a0.Want),.d (.int .i64 a0.Turn),.d (.int .i64 a0.PeerBoot),.d (.int .i64 a0.PeerTurn),.d (.bool r.Up),.d (.int .i64 a0.Left),.d (.int .i64 r.Num),.d (.int .i64 r.Under.Kind),.d (.int .i64 r.Under.Entry.Addr),.d (.int .i64 r.Under.Entry.Len),.d (.int .i64 r.Under.Entry.Cost),.d (.int .i64 r.Under.Entry.Label),.d (slD HelloEntry.enc r.Told),.d (.bool r.All),.d (.int .i64 r.Got),.d (.bool r.Full),.osl 5001 0 r.Heard.length,.d (.int .i64 r.Keep)]),(5001,.arr 94 5 r.Heard.length (rows HelloRoute.enc r.Heard))]:=by
  refine effC_x tOk (fn:=Tryz.f90) (c:=codeOf Tryz.f90) rfl rfl ?_;unfold impl_HelloEnd_beginAnew_m at h;(conv=>whnf);refine seq_in tOk ?_;(conv=>whnf);obtain ⟨x4,hx4,h⟩:=bd_some h;refine loop_m tOk hx4 (fun s1=>⟨0,57,[(0,.ref 9000 0 0),(29,.d (.int .i64 ((a0.Heard.length:Nat):Int))),(30,.d (.int .i64 s1.2))],[],[(9000,.box 41 [.d (.int .i64 a0.Name),.d (.int .i64 a0.Peer),.d (slD HelloKey.enc a0.Keys),.d (.int .i64 a0.Boot),.d (slD HelloEntry.enc a0.Want),.d (.int .i64 a0.Turn),.d (.int .i64 a0.PeerBoot),.d (.int .i64 a0.PeerTurn),.d (.bool false),.d (.int .i64 a0.Left),.d (.int .i64 0),.d (.int .i64 0),.d (.int .i64 0),.d (.int .i64 0),.d (.int .i64 0),.d (.int .i64 0),.d (.nil),.d (.bool false),.d (.int .i64 0),.d (.bool false),.osl 9001 0 s1.1.length,.d (.int .i64 a0.Keep)]),(9001,.arr 94 5 s1.1.length (rows HelloRoute.enc s1.1))],[⟨[(0,.ref 9000 0 0)],[]⟩]⟩) ?_ ?_
  · exact leX []
  · clear hx4;intro s1 y2 g3 hy2;(conv=>whnf);refine seq_in tOk ?_;(conv=>whnf);refine andI g3 (fun _ g3=>?_) (fun _ g3=>?_)
    · (conv=>whnf);refine seq_in tOk ?_;(conv=>whnf);refine gdI g3 (fun g3=>?_);(conv=>whnf);refine ⟨rows HelloRoute.enc (s1.1.set s1.2.toNat (⟨((s1.1.getD s1.2.toNat default).Entry),true⟩:HelloRoute)),store_rows' lenA rfl,?_⟩;(conv=>whnf);obtain rfl:=Option.some.inj g3;exact ⟨_,rfl,leX []⟩
    · (conv=>whnf);obtain rfl:=Option.some.inj g3;obtain rfl:=hy2 _ rfl;refine andI h (fun _ h=>?_) (fun _ h=>?_)
      · (conv=>whnf);obtain rfl:=Option.some.inj h;exact lfE [.s [(5001,9001),(9001,5001)]]
      · (conv=>whnf);obtain rfl:=Option.some.inj h;exact lfE [.s [(5001,9001),(9001,5001)]]
noncomputable def impl_HelloEnd_findRoute_1_m (a0:HelloRoute) (a1:NetPrefix):Option (Int) :=
 bd (impl_HelloEntry_prefix_m a0.Entry) fun x1 =>
 bd (impl_comparePrefix_m x1 a1) fun x2 =>
 some x2
theorem impl_HelloEnd_findRoute_1_c {a0:HelloRoute} {a1:NetPrefix} {r:Int} (h:impl_HelloEnd_findRoute_1_m a0 a1=some r):PureC Tryz.prog 148 [.agg [.d (.int .i64 a0.Entry.Addr),.d (.int .i64 a0.Entry.Len),.d (.int .i64 a0.Entry.Cost),.d (.int .i64 a0.Entry.Label),.d (.bool a0.Stale)],.agg [.d (.int .i64 a1.Addr),.d (.int .i64 a1.Len)]] (.d (.int .i64 r)) []:=by
  refine pureC_x tOk (fn:=Tryz.f148) (c:=codeOf Tryz.f148) rfl rfl ?_;unfold impl_HelloEnd_findRoute_1_m at h;(conv=>whnf);obtain ⟨x1,hx1,h⟩:=bd_some h;obtain ⟨x2,hx2,h⟩:=bd_some h;refine draw_u tOk [.u 2 0 (.agg [.d (.int .i64 x1.Addr),.d (.int .i64 x1.Len)]) [],.u 4 0 (.d (.int .i64 x2)) []] 6 [] [0,1,3,0,15,31] [] ?_;(conv=>whnf);refine And.intro (callD_any (impl_HelloEntry_prefix_c hx1) (by kernel_rfl)) ?_;(conv=>whnf);refine And.intro (callD_any (impl_comparePrefix_c hx2) (by kernel_rfl)) ?_;(conv=>whnf);refine And.intro (by kernel_rfl) ?_;(conv=>whnf);obtain rfl:=Option.some.inj h;exact lfP []
noncomputable def slices_BinarySearchFunc_HelloRoute_HelloRoute_NetPrefix_impl_HelloEnd_findRoute_1_m (a0:(List HelloRoute)) (a1:NetPrefix):Option (Int × Bool) :=
 bd (lp (σ:=Int × Int) (β:=(Int)) (fun s1 =>
(if (decide (s1.2<s1.1))=true then
 gd ((0:Int)≤1) <|
 gd ((0:Int)≤IntKind.i64.wrap ((IntKind.u64.wrap (IntKind.i64.wrap (s1.2+s1.1)):Int).fdiv (2 ^ min (1:Int).toNat IntKind.u64.bits))∧IntKind.i64.wrap ((IntKind.u64.wrap (IntKind.i64.wrap (s1.2+s1.1)):Int).fdiv (2 ^ min (1:Int).toNat IntKind.u64.bits))<((a0.length:Nat):Int)) <|
 bd (impl_HelloEnd_findRoute_1_m (⟨((a0.getD ((IntKind.i64.wrap ((IntKind.u64.wrap (IntKind.i64.wrap (s1.2+s1.1)):Int).fdiv (2 ^ min (1:Int).toNat IntKind.u64.bits))).toNat) default).Entry),(a0.getD ((IntKind.i64.wrap ((IntKind.u64.wrap (IntKind.i64.wrap (s1.2+s1.1)):Int).fdiv (2 ^ min (1:Int).toNat IntKind.u64.bits))).toNat) default).Stale⟩:HelloRoute) a1) fun x7 =>
(if (decide (x7<0))=true then
 some (.inl (s1.1,IntKind.i64.wrap ((IntKind.i64.wrap ((IntKind.u64.wrap (IntKind.i64.wrap (s1.2+s1.1)):Int).fdiv (2 ^ min (1:Int).toNat IntKind.u64.bits)))+1)))
else
 some (.inl (IntKind.i64.wrap ((IntKind.u64.wrap (IntKind.i64.wrap (s1.2+s1.1)):Int).fdiv (2 ^ min (1:Int).toNat IntKind.u64.bits)),s1.2)))
else
 some (.inr s1.2))) (((a0.length:Nat):Int),0)) fun x4 =>
 gd ((decide (x4<((a0.length:Nat):Int)))=true→((0:Int)≤x4∧x4<((a0.length:Nat):Int))) <|
 bd (gcall ((decide (x4<((a0.length:Nat):Int)))=true) (impl_HelloEnd_findRoute_1_m (⟨((a0.getD x4.toNat default).Entry),(a0.getD x4.toNat default).Stale⟩:HelloRoute) a1)) fun x10 =>
 some (x4,((decide (x4<((a0.length:Nat):Int))) && (x10 == 0)))
theorem slices_BinarySearchFunc_HelloRoute_HelloRoute_NetPrefix_impl_HelloEnd_findRoute_1_c {a0:(List HelloRoute)} {a1:NetPrefix} {r:Int × Bool} (h:slices_BinarySearchFunc_HelloRoute_HelloRoute_NetPrefix_impl_HelloEnd_findRoute_1_m a0 a1=some r):PureC Tryz.prog 147 [.d (slD HelloRoute.enc a0),.agg [.d (.int .i64 a1.Addr),.d (.int .i64 a1.Len)],.fn 148 []] (.tup [.d (.int .i64 r.1),.d (.bool r.2)]) []:=by
  refine pureC_x tOk (fn:=Tryz.f147) (c:=codeOf Tryz.f147) rfl rfl ?_;unfold slices_BinarySearchFunc_HelloRoute_HelloRoute_NetPrefix_impl_HelloEnd_findRoute_1_m at h;(conv=>whnf);refine seq_in tOk ?_;(conv=>whnf);obtain ⟨x4,hx4,h⟩:=bd_some h;refine loop_m tOk hx4 (fun s1=>⟨0,49,[(0,.d (slD HelloRoute.enc a0)),(2,.fn 148 []),(4,.ref 4 0 0),(8,.d (.int .i64 ((a0.length:Nat):Int))),(9,.d (.int .i64 s1.2)),(10,.d (.int .i64 s1.1))],[],[(4,.box 118 [.d (.int .i64 a1.Addr),.d (.int .i64 a1.Len)])],[]⟩) ?_ ?_
  · exact leX []
  · clear hx4;intro s1 y2 g3 hy2;(conv=>whnf);refine seq_in tOk ?_;(conv=>whnf);refine andI g3 (fun _ g3=>?_) (fun _ g3=>?_)
    · (conv=>whnf);refine gdI g3 (fun g3=>?_);(conv=>whnf);obtain ⟨g6,g3⟩:=gd_some g3;obtain ⟨x7,hx7,g3⟩:=bd_some g3;refine draw_u tOk [.u 6 0 (.d (.int .i64 x7)) []] 8 [] [0,0,0,6,14,0,63,127] [] ?_;(conv=>whnf);refine And.intro g6 ?_;clear g6;(conv=>whnf);refine And.intro (callD_any (impl_HelloEnd_findRoute_1_c hx7) (by kernel_rfl)) ?_;(conv=>whnf);refine And.intro (by kernel_rfl) ?_;(conv=>whnf);refine andI g3 (fun _ g3=>?_) (fun _ g3=>?_)
      · (conv=>whnf);obtain rfl:=Option.some.inj g3;exact ⟨_,rfl,leX []⟩
      · (conv=>whnf);obtain rfl:=Option.some.inj g3;exact ⟨_,rfl,leX []⟩
    · (conv=>whnf);obtain rfl:=Option.some.inj g3;obtain rfl:=hy2 _ rfl;obtain ⟨g9,h⟩:=gd_some h;obtain ⟨x10,hx10,h⟩:=bd_some h;refine draw_u tOk [.u 11 0 (.d (.int .i64 x10)) []] 16 [] [0,0,0,6,14,30,30,30,222,478,30,2046,4094,8190,4095,32767] [] ?_;(conv=>whnf);refine And.intro g9 ?_;clear g9;(conv=>whnf);refine And.intro (callDG_if rfl rfl rfl rfl (by intro c0; exact impl_HelloEnd_findRoute_1_c (gcall_some hx10 c0))) ?_;(conv=>whnf);refine And.intro (by kernel_rfl) ?_;(conv=>whnf);obtain rfl:=Option.some.inj h;exact lfP []
noncomputable def impl_HelloEnd_findRoute_m (a0:HelloEnd) (a1:NetPrefix):Option (Int × Bool) :=
 bd (slices_BinarySearchFunc_HelloRoute_HelloRoute_NetPrefix_impl_HelloEnd_findRoute_1_m a0.Heard a1) fun x1 =>
 some (x1.1,x1.2)
theorem impl_HelloEnd_findRoute_c {a0:HelloEnd} {a1:NetPrefix} {r:Int × Bool} (h:impl_HelloEnd_findRoute_m a0 a1=some r):PureC Tryz.prog 127 [.rp [.int .i64 a0.Name,.int .i64 a0.Peer,slD HelloKey.enc a0.Keys,.int .i64 a0.Boot,slD HelloEntry.enc a0.Want,.int .i64 a0.Turn,.int .i64 a0.PeerBoot,.int .i64 a0.PeerTurn,.bool a0.Up,.int .i64 a0.Left,.int .i64 a0.Num,.int .i64 a0.Under.Kind,.int .i64 a0.Under.Entry.Addr,.int .i64 a0.Under.Entry.Len,.int .i64 a0.Under.Entry.Cost,.int .i64 a0.Under.Entry.Label,slD HelloEntry.enc a0.Told,.bool a0.All,.int .i64 a0.Got,.bool a0.Full,slD HelloRoute.enc a0.Heard,.int .i64 a0.Keep],.agg [.d (.int .i64 a1.Addr),.d (.int .i64 a1.Len)]] (.tup [.d (.int .i64 r.1),.d (.bool r.2)]) []:=by
  refine pureC_x tOk (fn:=Tryz.f127) (c:=codeOf Tryz.f127) rfl rfl ?_;unfold impl_HelloEnd_findRoute_m at h;(conv=>whnf);obtain ⟨x1,hx1,h⟩:=bd_some h;refine draw_u tOk [.u 5 0 (.tup [.d (.int .i64 x1.1),.d (.bool x1.2)]) []] 10 [] [0,1,3,7,0,31,63,63,255,511] [] ?_;(conv=>whnf);refine And.intro (callD_any (slices_BinarySearchFunc_HelloRoute_HelloRoute_NetPrefix_impl_HelloEnd_findRoute_1_c hx1) (by kernel_rfl)) ?_;(conv=>whnf);refine And.intro (by kernel_rfl) ?_;(conv=>whnf);obtain rfl:=Option.some.inj h;exact lfP []
noncomputable def impl_HelloEnd_learn_1_m (a0:HelloRoute):Option (Bool) :=
 some a0.Stale
theorem impl_HelloEnd_learn_1_c {a0:HelloRoute} {r:Bool} (h:impl_HelloEnd_learn_1_m a0=some r):PureC Tryz.prog 145 [.agg [.d (.int .i64 a0.Entry.Addr),.d (.int .i64 a0.Entry.Len),.d (.int .i64 a0.Entry.Cost),.d (.int .i64 a0.Entry.Label),.d (.bool a0.Stale)]] (.d (.bool r)) []:=by
  refine pureC_x tOk (fn:=Tryz.f145) (c:=codeOf Tryz.f145) rfl rfl ?_;unfold impl_HelloEnd_learn_1_m at h;(conv=>whnf);obtain rfl:=Option.some.inj h;exact lfP []
noncomputable def slices_IndexFunc_HelloRoute_HelloRoute_impl_HelloEnd_learn_1_m (a0:(List HelloRoute)):Option (Int) :=
 bd (lp (σ:=Int) (β:=(Int ⊕ Unit)) (fun s1 =>
(if (decide (s1<((a0.length:Nat):Int)))=true then
 gd ((0:Int)≤s1∧s1<((a0.length:Nat):Int)) <|
 bd (impl_HelloEnd_learn_1_m (⟨((a0.getD s1.toNat default).Entry),(a0.getD s1.toNat default).Stale⟩:HelloRoute)) fun x6 =>
(if x6=true then
 some (.inr (.inl s1))
else
 some (.inl (IntKind.i64.wrap (s1+1))))
else
 some (.inr (.inr ())))) 0) fun x4 =>
(match x4 with
| .inl d7 =>
 some d7
| .inr d8 =>
 some (-1))
theorem slices_IndexFunc_HelloRoute_HelloRoute_impl_HelloEnd_learn_1_c {a0:(List HelloRoute)} {r:Int} (h:slices_IndexFunc_HelloRoute_HelloRoute_impl_HelloEnd_learn_1_m a0=some r):PureC Tryz.prog 144 [.d (slD HelloRoute.enc a0),.fn 145 []] (.d (.int .i64 r)) []:=by
  refine pureC_x tOk (fn:=Tryz.f144) (c:=codeOf Tryz.f144) rfl rfl ?_;unfold slices_IndexFunc_HelloRoute_HelloRoute_impl_HelloEnd_learn_1_m at h;(conv=>whnf);refine seq_in tOk ?_;(conv=>whnf);obtain ⟨x4,hx4,h⟩:=bd_some h;refine loop_m tOk hx4 (fun s1=>⟨0,19,[(0,.d (slD HelloRoute.enc a0)),(1,.fn 145 []),(7,.d (.int .i64 ((a0.length:Nat):Int))),(8,.d (.int .i64 s1))],[],[],[]⟩) ?_ ?_
  · exact leX []
  · clear hx4;intro s1 y2 g3 hy2;(conv=>whnf);refine seq_in tOk ?_;(conv=>whnf);refine andI g3 (fun _ g3=>?_) (fun _ g3=>?_)
    · (conv=>whnf);refine seq_in tOk ?_;(conv=>whnf);refine gdI g3 (fun g3=>?_);(conv=>whnf);obtain ⟨x6,hx6,g3⟩:=bd_some g3;refine cC 0 (impl_HelloEnd_learn_1_c hx6) ?_;clear hx6;(conv=>whnf);refine andI g3 (fun _ g3=>?_) (fun _ g3=>?_)
      · (conv=>whnf);obtain rfl:=Option.some.inj g3;obtain rfl:=hy2 _ rfl;obtain rfl:=Option.some.inj h;exact lfP []
      · (conv=>whnf);obtain rfl:=Option.some.inj g3;exact ⟨_,rfl,leX []⟩
    · (conv=>whnf);obtain rfl:=Option.some.inj g3;obtain rfl:=hy2 _ rfl;obtain rfl:=Option.some.inj h;exact lfP []
noncomputable def slices_Delete_HelloRoute_HelloRoute_m (a0:(List HelloRoute)) (a1:Int) (a2:Int):Option ((List HelloRoute)) :=
 gd (0≤a1∧a1≤a2∧a2≤a0.length) <|
 some (delL a0 a1.toNat a2.toNat)
theorem slices_Delete_HelloRoute_HelloRoute_c {a0:(List HelloRoute)} {a1:Int} {a2:Int} {r:(List HelloRoute)} (h:slices_Delete_HelloRoute_HelloRoute_m a0 a1 a2=some r):EffC Tryz.prog 128 [.osl 9000 0 a0.length,.d (.int .i64 a1),.d (.int .i64 a2)] [(9000,.arr 94 5 a0.length (rows HelloRoute.enc a0))] (.osl 5001 0 r.length) [(5001,.arr 94 5 r.length (rows HelloRoute.enc r))]:=by
  unfold slices_Delete_HelloRoute_HelloRoute_m at h;have L:LDel Tryz.prog ⟨fun x=>match x with | 45=>128 | _=>0,fun x=>match x with | 0=>0 | 3=>3 | 4=>4 | 22=>39 | 23=>94 | _=>0,fun x=>x⟩ 5 (.agg #[.int .i64 0,.int .i64 0,.int .i64 0,.int .i64 0,.bool false]):=⟨by kernel_rfl,⟨Tryz.f128.name,by kernel_rfl,by kernel_rfl⟩,by kernel_rfl,fun w=>by kernel_rfl,fun w=>by kernel_rfl,fun w=>by kernel_rfl,by kernel_rfl,fun w=>by kernel_rfl,fun w=>by kernel_rfl,fun w=>by kernel_rfl,by kernel_rfl,fun w=>by kernel_rfl,fun w=>by kernel_rfl,fun w=>by kernel_rfl,by kernel_rfl,fun w=>by kernel_rfl,fun w=>by kernel_rfl,fun w=>by kernel_rfl,⟨_,rfl,rfl⟩,fun w=>by kernel_rfl,fun w=>by kernel_rfl,by kernel_rfl,fun u hu=>List.all_eq_true.1 (by kernel_rfl:(List.all (Value.cells (.agg #[.int .i64 0,.int .i64 0,.int .i64 0,.int .i64 0,.bool false])).toList Value.oneCell')=true) u hu⟩;obtain ⟨g,h⟩:=gd_some h;obtain rfl:=Option.some.inj h;have k:=effC_del (t:=94) (enc:=HelloRoute.enc) L (canOf (fn:=Tryz.f128) (c:=codeOf Tryz.f128) rfl rfl (by kernel_rfl)) (fun _=>rfl) (xs:=a0) (i:=a1.toNat) (j:=a2.toNat) (by omega) (by omega);rw [show ((a1.toNat:Nat):Int)=a1 by omega,show ((a2.toNat:Nat):Int)=a2 by omega] at k;exact k
noncomputable def slices_Insert_HelloRoute_HelloRoute_m (a0:(List HelloRoute)) (a1:Int) (a2:(List HelloRoute)):Option ((List HelloRoute)) :=
 gd ((0≤a1∧a1≤a0.length)∧0<a2.length∧(a0.length+a2.length)*(40+1)≤70368744177664) <|
 some (insL a0 a1.toNat a2)
theorem slices_Insert_HelloRoute_HelloRoute_c {a0:(List HelloRoute)} {a1:Int} {a2:(List HelloRoute)} {r:(List HelloRoute)} (h:slices_Insert_HelloRoute_HelloRoute_m a0 a1 a2=some r):EffC Tryz.prog 146 [.osl 9000 0 a0.length,.d (.int .i64 a1),.osl 9001 0 a2.length] [(9000,.arr 94 5 a0.length (rows HelloRoute.enc a0)),(9001,.arr 94 5 a2.length (rows HelloRoute.enc a2))] (.osl 5001 0 r.length) [(5001,.arr 94 5 r.length (rows HelloRoute.enc r))]:=by
  unfold slices_Insert_HelloRoute_HelloRoute_m at h;have L:LIns Tryz.prog ⟨fun x=>match x with | 22=>146 | 29=>154 | 30=>155 | _=>0,fun x=>match x with | 0=>0 | 3=>3 | 4=>4 | 9=>94 | 24=>39 | _=>0,fun x=>x⟩ 5 40 (.agg #[.int .i64 0,.int .i64 0,.int .i64 0,.int .i64 0,.bool false]):=⟨by kernel_rfl,⟨Tryz.f146.name,by kernel_rfl,by kernel_rfl⟩,⟨Tryz.f154,by kernel_rfl,by kernel_rfl,by kernel_rfl,by kernel_rfl,by kernel_rfl⟩,by kernel_rfl,fun w=>by kernel_rfl,fun w=>by kernel_rfl,fun w=>by kernel_rfl,by kernel_rfl,fun w=>by kernel_rfl,fun w=>by kernel_rfl,fun w=>by kernel_rfl,by kernel_rfl,fun w=>by kernel_rfl,fun w=>by kernel_rfl,fun w=>by kernel_rfl,by kernel_rfl,fun w=>by kernel_rfl,fun w=>by kernel_rfl,fun w=>by kernel_rfl,⟨_,rfl,rfl,rfl,rfl⟩,fun w=>by kernel_rfl,by kernel_rfl,fun u hu=>List.all_eq_true.1 (by kernel_rfl:(List.all (Value.cells (.agg #[.int .i64 0,.int .i64 0,.int .i64 0,.int .i64 0,.bool false])).toList Value.oneCell')=true) u hu,by decide⟩;obtain ⟨g,h⟩:=gd_some h;obtain rfl:=Option.some.inj h;have k:=effC_ins (t:=94) (enc:=HelloRoute.enc) L (canOf (fn:=Tryz.f146) (c:=codeOf Tryz.f146) rfl rfl (by kernel_rfl)) (fun _=>rfl) (xs:=a0) (ys:=a2) (i:=a1.toNat) (by omega) g.2.1 g.2.2;rw [show ((a1.toNat:Nat):Int)=a1 by omega] at k;exact k
noncomputable def impl_HelloEnd_learn_m (a0:HelloEnd) (a1:HelloEntry):Option (Bool × HelloEnd) :=
 bd (impl_HelloEntry_prefix_m a1) fun x1 =>
 bd (impl_HelloEnd_findRoute_m a0 x1) fun x2 =>
(if x2.2=true then
 gd ((0:Int)≤x2.1∧x2.1<((a0.Heard.length:Nat):Int)) <|
 some (true,{ a0 with Heard:=a0.Heard.set x2.1.toNat (⟨a1,false⟩:HelloRoute) })
else
 bd (α:=(List HelloRoute) ⊕ Unit) ((if (((a0.Heard.length:Nat):Int) == 16)=true then
 bd (slices_IndexFunc_HelloRoute_HelloRoute_impl_HelloEnd_learn_1_m a0.Heard) fun x7 =>
(if (decide (x7<0))=true then
 some (.inr ())
else
 bd (slices_Delete_HelloRoute_HelloRoute_m a0.Heard x7 (IntKind.i64.wrap (x7+1))) fun x8 =>
 some (.inl x8))
else
 some (.inl a0.Heard))) fun x4 =>
(match x4 with
| .inl d6 =>
 bd (impl_HelloEntry_prefix_m a1) fun x9 =>
 bd (impl_HelloEnd_findRoute_m ({ a0 with Heard:=d6 }) x9) fun x10 =>
 bd (slices_Insert_HelloRoute_HelloRoute_m d6 x10.1 ([(⟨a1,false⟩:HelloRoute)]:List HelloRoute)) fun x11 =>
 some (true,{ a0 with Heard:=x11 })
| .inr d12 =>
 some (false,a0)))
theorem impl_HelloEnd_learn_c {a0:HelloEnd} {a1:HelloEntry} {r:Bool × HelloEnd} (h:impl_HelloEnd_learn_m a0 a1=some r):EffC Tryz.prog 126 [.ref 9000 0 0,.agg [.d (.int .i64 a1.Addr),.d (.int .i64 a1.Len),.d (.int .i64 a1.Cost),.d (.int .i64 a1.Label)]] [(9000,.box 41 [.d (.int .i64 a0.Name),.d (.int .i64 a0.Peer),.d (slD HelloKey.enc a0.Keys),.d (.int .i64 a0.Boot),.d (slD HelloEntry.enc a0.Want),.d (.int .i64 a0.Turn),.d (.int .i64 a0.PeerBoot),.d (.int .i64 a0.PeerTurn),.d (.bool a0.Up),.d (.int .i64 a0.Left),.d (.int .i64 a0.Num),.d (.int .i64 a0.Under.Kind),.d (.int .i64 a0.Under.Entry.Addr),.d (.int .i64 a0.Under.Entry.Len),.d (.int .i64 a0.Under.Entry.Cost),.d (.int .i64 a0.Under.Entry.Label),.d (slD HelloEntry.enc a0.Told),.d (.bool a0.All),.d (.int .i64 a0.Got),.d (.bool a0.Full),.osl 9001 0 a0.Heard.length,.d (.int .i64 a0.Keep)]),(9001,.arr 94 5 a0.Heard.length (rows HelloRoute.enc a0.Heard))] (.d (.bool r.1)) [(9000,.box 41 [.d (.int .i64 a0.Name),.d (.int .i64 a0.Peer),.d (slD HelloKey.enc a0.Keys),.d (.int .i64 a0.Boot),.d (slD HelloEntry.enc a0.Want),.d (.int .i64 a0.Turn),.d (.int .i64 a0.PeerBoot),.d (.int .i64 a0.PeerTurn),.d (.bool a0.Up),.d (.int .i64 a0.Left),.d (.int .i64 a0.Num),.d (.int .i64 a0.Under.Kind),.d (.int .i64 a0.Under.Entry.Addr),.d (.int .i64 a0.Under.Entry.Len),.d (.int .i64 a0.Under.Entry.Cost),.d (.int .i64 a0.Under.Entry.Label),.d (slD HelloEntry.enc a0.Told),.d (.bool a0.All),.d (.int .i64 a0.Got),.d (.bool a0.Full),.osl 5001 0 r.2.Heard.length,.d (.int .i64 a0.Keep)]),(5001,.arr 94 5 r.2.Heard.length (rows HelloRoute.enc r.2.Heard))]:=by
  refine effC_x tOk (fn:=Tryz.f126) (c:=codeOf Tryz.f126) rfl rfl ?_;unfold impl_HelloEnd_learn_m at h;(conv=>whnf);refine seq_in tOk ?_;(conv=>whnf);obtain ⟨x1,hx1,h⟩:=bd_some h;refine cC 0 (impl_HelloEntry_prefix_c hx1) ?_;clear hx1;(conv=>whnf);obtain ⟨x2,hx2,h⟩:=bd_some h;refine cC 0 (impl_HelloEnd_findRoute_c hx2) ?_;clear hx2;(conv=>whnf);refine andI h (fun _ h=>?_) (fun _ h=>?_)
  · (conv=>whnf);obtain ⟨g3,h⟩:=gd_some h;refine draw_u tOk [] 8 [] [0,1,3,7,0,0,32,127] [255] ?_;(conv=>whnf);refine And.intro g3 ?_;clear g3;(conv=>whnf);refine And.intro (by kernel_rfl) ?_;(conv=>whnf);refine ⟨rows HelloRoute.enc (a0.Heard.set x2.1.toNat (⟨a1,false⟩:HelloRoute)),store_rows' lenA rfl,?_⟩;(conv=>whnf);obtain rfl:=Option.some.inj h;exact lfE [.s [(5001,9001),(9001,5001)]]
  · (conv=>whnf);obtain ⟨x4,hx4,h⟩:=bd_some h;refine seq_join tOk (fun s5=>⟨0,69,[(0,.ref 9000 0 0),(3,.ref 3 0 0)],[],[(6001,.arr 94 5 s5.length (rows HelloRoute.enc s5)),(3,.box 36 [.d (.int .i64 a1.Addr),.d (.int .i64 a1.Len),.d (.int .i64 a1.Cost),.d (.int .i64 a1.Label)]),(9000,.box 41 [.d (.int .i64 a0.Name),.d (.int .i64 a0.Peer),.d (slD HelloKey.enc a0.Keys),.d (.int .i64 a0.Boot),.d (slD HelloEntry.enc a0.Want),.d (.int .i64 a0.Turn),.d (.int .i64 a0.PeerBoot),.d (.int .i64 a0.PeerTurn),.d (.bool a0.Up),.d (.int .i64 a0.Left),.d (.int .i64 a0.Num),.d (.int .i64 a0.Under.Kind),.d (.int .i64 a0.Under.Entry.Addr),.d (.int .i64 a0.Under.Entry.Len),.d (.int .i64 a0.Under.Entry.Cost),.d (.int .i64 a0.Under.Entry.Label),.d (slD HelloEntry.enc a0.Told),.d (.bool a0.All),.d (.int .i64 a0.Got),.d (.bool a0.Full),.osl 6001 0 s5.length,.d (.int .i64 a0.Keep)])],[⟨[(0,.ref 9000 0 0)],[]⟩]⟩) (fun s5=>x4=.inl s5) ?_ ?_
    · (conv=>whnf);refine andI hx4 (fun _ hx4=>?_) (fun _ hx4=>?_)
      · (conv=>whnf);obtain ⟨x7,hx7,hx4⟩:=bd_some hx4;refine cC 0 (slices_IndexFunc_HelloRoute_HelloRoute_impl_HelloEnd_learn_1_c hx7) ?_;clear hx7;(conv=>whnf);refine seq_in tOk ?_;(conv=>whnf);refine andI hx4 (fun _ hx4=>?_) (fun _ hx4=>?_)
        · (conv=>whnf);obtain rfl:=Option.some.inj hx4;obtain rfl:=Option.some.inj h;exact lfE [.s [(5001,9001),(9001,5001)]]
        · (conv=>whnf);obtain ⟨x8,hx8,hx4⟩:=bd_some hx4;refine cE [(9000,9001)] 1000 (slices_Delete_HelloRoute_HelloRoute_c hx8) ?_;(conv=>whnf);obtain rfl:=Option.some.inj hx4;exact ⟨_,rfl,leX []⟩
      · (conv=>whnf);obtain rfl:=Option.some.inj hx4;exact ⟨_,rfl,leX [.s [(6001,9001),(9001,6001)]]⟩
    · intro d6 hdd6;subst hdd6;(conv=>whnf);obtain ⟨x9,hx9,h⟩:=bd_some h;refine cC 0 (impl_HelloEntry_prefix_c hx9) ?_;clear hx9;(conv=>whnf);obtain ⟨x10,hx10,h⟩:=bd_some h;refine cC 0 (impl_HelloEnd_findRoute_c hx10) ?_;clear hx10;(conv=>whnf);obtain ⟨x11,hx11,h⟩:=bd_some h;refine draw_t tOk [.a 8 [] (.osl 65 0 (([(⟨a1,false⟩:HelloRoute)]:List HelloRoute).length)) [(65,.arr 94 5 (([(⟨a1,false⟩:HelloRoute)]:List HelloRoute).length) (rows HelloRoute.enc ([(⟨a1,false⟩:HelloRoute)]:List HelloRoute)))],.e 9 [(6001,.arr 94 5 d6.length (rows HelloRoute.enc d6)),(65,.arr 94 5 (([(⟨a1,false⟩:HelloRoute)]:List HelloRoute).length) (rows HelloRoute.enc ([(⟨a1,false⟩:HelloRoute)]:List HelloRoute)))] (.osl 7001 0 x11.length) [(7001,.arr 94 5 x11.length (rows HelloRoute.enc x11))] []] 12 [] [0,0,2,6,14,0,0,64,192,510,1023,2047] [4095] [6001] ?_;(conv=>whnf);refine And.intro (by (conv=>whnf); exact bldS (enc:=HelloRoute.enc) ([(⟨a1,false⟩:HelloRoute)]:List HelloRoute) ⟨rfl,rfl⟩) ?_;(conv=>whnf);refine And.intro (eD [(9000,6001),(9001,65)] 2000 (slices_Insert_HelloRoute_HelloRoute_c hx11)) ?_;(conv=>whnf);refine And.intro (by kernel_rfl) ?_;(conv=>whnf);obtain rfl:=Option.some.inj h;exact lfE [.s [(5001,7001),(7001,5001)]]
noncomputable def impl_HelloEnd_dropStale_1_m (a0:HelloRoute):Option (Bool) :=
 some a0.Stale
theorem impl_HelloEnd_dropStale_1_c {a0:HelloRoute} {r:Bool} (h:impl_HelloEnd_dropStale_1_m a0=some r):PureC Tryz.prog 136 [.agg [.d (.int .i64 a0.Entry.Addr),.d (.int .i64 a0.Entry.Len),.d (.int .i64 a0.Entry.Cost),.d (.int .i64 a0.Entry.Label),.d (.bool a0.Stale)]] (.d (.bool r)) []:=by
  refine pureC_x tOk (fn:=Tryz.f136) (c:=codeOf Tryz.f136) rfl rfl ?_;unfold impl_HelloEnd_dropStale_1_m at h;(conv=>whnf);obtain rfl:=Option.some.inj h;exact lfP []
noncomputable def slices_IndexFunc_HelloRoute_HelloRoute_impl_HelloEnd_dropStale_1_m (a0:(List HelloRoute)):Option (Int) :=
 bd (lp (σ:=Int) (β:=(Int ⊕ Unit)) (fun s1 =>
(if (decide (s1<((a0.length:Nat):Int)))=true then
 gd ((0:Int)≤s1∧s1<((a0.length:Nat):Int)) <|
 bd (impl_HelloEnd_dropStale_1_m (⟨((a0.getD s1.toNat default).Entry),(a0.getD s1.toNat default).Stale⟩:HelloRoute)) fun x6 =>
(if x6=true then
 some (.inr (.inl s1))
else
 some (.inl (IntKind.i64.wrap (s1+1))))
else
 some (.inr (.inr ())))) 0) fun x4 =>
(match x4 with
| .inl d7 =>
 some d7
| .inr d8 =>
 some (-1))
theorem slices_IndexFunc_HelloRoute_HelloRoute_impl_HelloEnd_dropStale_1_c {a0:(List HelloRoute)} {r:Int} (h:slices_IndexFunc_HelloRoute_HelloRoute_impl_HelloEnd_dropStale_1_m a0=some r):PureC Tryz.prog 144 [.d (slD HelloRoute.enc a0),.fn 136 []] (.d (.int .i64 r)) []:=by
  refine pureC_x tOk (fn:=Tryz.f144) (c:=codeOf Tryz.f144) rfl rfl ?_;unfold slices_IndexFunc_HelloRoute_HelloRoute_impl_HelloEnd_dropStale_1_m at h;(conv=>whnf);refine seq_in tOk ?_;(conv=>whnf);obtain ⟨x4,hx4,h⟩:=bd_some h;refine loop_m tOk hx4 (fun s1=>⟨0,19,[(0,.d (slD HelloRoute.enc a0)),(1,.fn 136 []),(7,.d (.int .i64 ((a0.length:Nat):Int))),(8,.d (.int .i64 s1))],[],[],[]⟩) ?_ ?_
  · exact leX []
  · clear hx4;intro s1 y2 g3 hy2;(conv=>whnf);refine seq_in tOk ?_;(conv=>whnf);refine andI g3 (fun _ g3=>?_) (fun _ g3=>?_)
    · (conv=>whnf);refine seq_in tOk ?_;(conv=>whnf);refine gdI g3 (fun g3=>?_);(conv=>whnf);obtain ⟨x6,hx6,g3⟩:=bd_some g3;refine cC 0 (impl_HelloEnd_dropStale_1_c hx6) ?_;clear hx6;(conv=>whnf);refine andI g3 (fun _ g3=>?_) (fun _ g3=>?_)
      · (conv=>whnf);obtain rfl:=Option.some.inj g3;obtain rfl:=hy2 _ rfl;obtain rfl:=Option.some.inj h;exact lfP []
      · (conv=>whnf);obtain rfl:=Option.some.inj g3;exact ⟨_,rfl,leX []⟩
    · (conv=>whnf);obtain rfl:=Option.some.inj g3;obtain rfl:=hy2 _ rfl;obtain rfl:=Option.some.inj h;exact lfP []
noncomputable def slices_DeleteFunc_HelloRoute_HelloRoute_impl_HelloEnd_dropStale_1_o00_m (a0:(List HelloRoute)):Option ((List HelloRoute)) :=
 bd (slices_IndexFunc_HelloRoute_HelloRoute_impl_HelloEnd_dropStale_1_m a0) fun x1 =>
(if (x1 == (-1))=true then
 some a0
else
 bd (lp (σ:=List HelloRoute × Int × Int) (β:=(Nat × Int × (List HelloRoute))) (fun s2 =>
(if (decide (s2.2.2<((s2.1.length:Nat):Int)))=true then
 gd ((0:Int)≤s2.2.2∧s2.2.2<((s2.1.length:Nat):Int)) <|
 bd (impl_HelloEnd_dropStale_1_m (⟨((s2.1.getD s2.2.2.toNat default).Entry),(s2.1.getD s2.2.2.toNat default).Stale⟩:HelloRoute)) fun x7 =>
(if (!x7)=true then
 gd ((0:Int)≤s2.2.1∧s2.2.1<((s2.1.length:Nat):Int)) <|
 bd (some (s2.1.set s2.2.1.toNat (⟨((s2.1.getD s2.2.2.toNat default).Entry),(s2.1.getD s2.2.2.toNat default).Stale⟩:HelloRoute))) fun x9 =>
 some (.inl (x9,IntKind.i64.wrap (s2.2.1+1),IntKind.i64.wrap (s2.2.2+1)))
else
 some (.inl (s2.1,s2.2.1,IntKind.i64.wrap (s2.2.2+1))))
else
 some (.inr (s2.1.length,s2.2.1,s2.1)))) (a0,x1,IntKind.i64.wrap (x1+1))) fun x5 =>
 gd ((0:Int)≤x5.2.1∧x5.2.1≤((x5.1:Nat):Int)∧((x5.1:Nat):Int)≤((x5.1:Nat):Int)) <|
 gd ((0:Int)≤(0:Int)∧(0:Int)≤x5.2.1∧x5.2.1≤((x5.1:Nat):Int)) <|
 some ((clrL x5.2.2 x5.2.1.toNat (dsub ((x5.1:Nat):Int) x5.2.1)).take x5.2.1.toNat))
theorem slices_DeleteFunc_HelloRoute_HelloRoute_impl_HelloEnd_dropStale_1_o00_c {a0:(List HelloRoute)} {r:(List HelloRoute)} (h:slices_DeleteFunc_HelloRoute_HelloRoute_impl_HelloEnd_dropStale_1_o00_m a0=some r):EffC Tryz.prog 135 [.osl 9000 0 a0.length,.fn 136 []] [(9000,.arr 94 5 a0.length (rows HelloRoute.enc a0))] (.osl 5001 0 r.length) [(5001,.arr 94 5 r.length (rows HelloRoute.enc r))]:=by
  refine effC_x tOk (fn:=Tryz.f135) (c:=codeOf Tryz.f135) rfl rfl ?_;unfold slices_DeleteFunc_HelloRoute_HelloRoute_impl_HelloEnd_dropStale_1_o00_m at h;(conv=>whnf);obtain ⟨x1,hx1,h⟩:=bd_some h;refine cC 0 (slices_IndexFunc_HelloRoute_HelloRoute_impl_HelloEnd_dropStale_1_c hx1) ?_;clear hx1;(conv=>whnf);refine seq_in tOk ?_;(conv=>whnf);refine andI h (fun _ h=>?_) (fun _ h=>?_)
  · (conv=>whnf);obtain rfl:=Option.some.inj h;exact lfE [.s [(5001,9000),(9000,5001)]]
  · (conv=>whnf);refine seq_in tOk ?_;(conv=>whnf);obtain ⟨x5,hx5,h⟩:=bd_some h;refine loop_m tOk hx5 (fun s2=>⟨0,42,[(0,.osl 9000 0 s2.1.length),(1,.fn 136 []),(5,.d (.int .i64 s2.2.1)),(6,.d (.int .i64 s2.2.2))],[],[(9000,.arr 94 5 s2.1.length (rows HelloRoute.enc s2.1))],[⟨[],[]⟩]⟩) ?_ ?_
    · exact leX []
    · clear hx5;intro s2 y3 g4 hy3;(conv=>whnf);refine seq_in tOk ?_;(conv=>whnf);refine andI g4 (fun _ g4=>?_) (fun _ g4=>?_)
      · (conv=>whnf);refine seq_in tOk ?_;(conv=>whnf);refine gdI g4 (fun g4=>?_);(conv=>whnf);obtain ⟨x7,hx7,g4⟩:=bd_some g4;refine cC 0 (impl_HelloEnd_dropStale_1_c hx7) ?_;clear hx7;(conv=>whnf);refine andI g4 (fun _ g4=>?_) (fun _ g4=>?_)
        · (conv=>whnf);refine gdI g4 (fun g4=>?_);(conv=>whnf);obtain ⟨x9,hx9,hlx9,g4⟩:=bd_set g4;refine setS (enc:=HelloRoute.enc) hx9 ?_;(conv=>whnf);obtain rfl:=Option.some.inj g4;exact ⟨_,rfl,leX []⟩
        · (conv=>whnf);obtain rfl:=Option.some.inj g4;exact ⟨_,rfl,leX []⟩
      · (conv=>whnf);obtain rfl:=Option.some.inj g4;obtain rfl:=hy3 _ rfl;dsimp only at h;obtain ⟨g11,h⟩:=gd_some h;refine And.intro g11 ?_;(conv=>whnf);refine ⟨rows HelloRoute.enc (clrL (s2.1.length,s2.2.1,s2.1).2.2 (s2.1.length,s2.2.1,s2.1).2.1.toNat (dsub (((s2.1.length,s2.2.1,s2.1).1:Nat):Int) (s2.1.length,s2.2.1,s2.1).2.1)),clr_rows lenA rfl,?_⟩;(conv=>whnf);obtain ⟨g12,h⟩:=gd_some h;refine And.intro g12 ?_;(conv=>whnf);obtain rfl:=Option.some.inj h;exact lfE [.c 4,.s [(5001,9000),(9000,5001)]]
noncomputable def impl_HelloEnd_dropStale_m (a0:HelloEnd):Option (HelloEnd) :=
 bd (slices_DeleteFunc_HelloRoute_HelloRoute_impl_HelloEnd_dropStale_1_o00_m a0.Heard) fun x1 =>
 some ({ a0 with Heard:=x1 })
theorem impl_HelloEnd_dropStale_c {a0:HelloEnd} {r:HelloEnd} (h:impl_HelloEnd_dropStale_m a0=some r):EffC Tryz.prog 100 [.ref 9000 0 0] [(9000,.box 41 [.d (.int .i64 a0.Name),.d (.int .i64 a0.Peer),.d (slD HelloKey.enc a0.Keys),.d (.int .i64 a0.Boot),.d (slD HelloEntry.enc a0.Want),.d (.int .i64 a0.Turn),.d (.int .i64 a0.PeerBoot),.d (.int .i64 a0.PeerTurn),.d (.bool a0.Up),.d (.int .i64 a0.Left),.d (.int .i64 a0.Num),.d (.int .i64 a0.Under.Kind),.d (.int .i64 a0.Under.Entry.Addr),.d (.int .i64 a0.Under.Entry.Len),.d (.int .i64 a0.Under.Entry.Cost),.d (.int .i64 a0.Under.Entry.Label),.d (slD HelloEntry.enc a0.Told),.d (.bool a0.All),.d (.int .i64 a0.Got),.d (.bool a0.Full),.osl 9001 0 a0.Heard.length,.d (.int .i64 a0.Keep)]),(9001,.arr 94 5 a0.Heard.length (rows HelloRoute.enc a0.Heard))] (.tup []) [(9000,.box 41 [.d (.int .i64 a0.Name),.d (.int .i64 a0.Peer),.d (slD HelloKey.enc a0.Keys),.d (.int .i64 a0.Boot),.d (slD HelloEntry.enc a0.Want),.d (.int .i64 a0.Turn),.d (.int .i64 a0.PeerBoot),.d (.int .i64 a0.PeerTurn),.d (.bool a0.Up),.d (.int .i64 a0.Left),.d (.int .i64 a0.Num),.d (.int .i64 a0.Under.Kind),.d (.int .i64 a0.Under.Entry.Addr),.d (.int .i64 a0.Under.Entry.Len),.d (.int .i64 a0.Under.Entry.Cost),.d (.int .i64 a0.Under.Entry.Label),.d (slD HelloEntry.enc a0.Told),.d (.bool a0.All),.d (.int .i64 a0.Got),.d (.bool a0.Full),.osl 5001 0 r.Heard.length,.d (.int .i64 a0.Keep)]),(5001,.arr 94 5 r.Heard.length (rows HelloRoute.enc r.Heard))]:=by
  refine effC_x tOk (fn:=Tryz.f100) (c:=codeOf Tryz.f100) rfl rfl ?_;unfold impl_HelloEnd_dropStale_m at h;(conv=>whnf);obtain ⟨x1,hx1,h⟩:=bd_some h;refine cE [(9000,9001)] 1000 (slices_DeleteFunc_HelloRoute_HelloRoute_impl_HelloEnd_dropStale_1_o00_c hx1) ?_;(conv=>whnf);obtain rfl:=Option.some.inj h;exact lfE [.s [(5001,6001),(6001,5001)]]
noncomputable def impl_HelloEnd_take_m (a0:HelloEnd) (a1:HelloChange):Option (Bool × HelloEnd) :=
(if (a1.Kind == 1)=true then
 bd (impl_HelloEnd_learn_m a0 a1.Entry) fun x1 =>
 some (x1.1,{ a0 with Heard:=x1.2.Heard })
else
(if (a1.Kind == 2)=true then
 bd (impl_HelloEntry_prefix_m a1.Entry) fun x2 =>
 bd (impl_HelloEnd_findRoute_m a0 x2) fun x3 =>
(if x3.2=true then
 bd (slices_Delete_HelloRoute_HelloRoute_m a0.Heard x3.1 (IntKind.i64.wrap (x3.1+1))) fun x4 =>
 some (true,{ a0 with Heard:=x4 })
else
 some (true,a0))
else
(if (a1.Kind == 3)=true then
 bd (impl_HelloEnd_dropStale_m a0) fun x5 =>
 some (true,{ a0 with Full:=true,Heard:=x5.Heard })
else
 some (true,a0))))
theorem impl_HelloEnd_take_c {a0:HelloEnd} {a1:HelloChange} {r:Bool × HelloEnd} (h:impl_HelloEnd_take_m a0 a1=some r):EffC Tryz.prog 92 [.ref 9000 0 0,.agg [.d (.int .i64 a1.Kind),.d (.int .i64 a1.Entry.Addr),.d (.int .i64 a1.Entry.Len),.d (.int .i64 a1.Entry.Cost),.d (.int .i64 a1.Entry.Label)]] [(9000,.box 41 [.d (.int .i64 a0.Name),.d (.int .i64 a0.Peer),.d (slD HelloKey.enc a0.Keys),.d (.int .i64 a0.Boot),.d (slD HelloEntry.enc a0.Want),.d (.int .i64 a0.Turn),.d (.int .i64 a0.PeerBoot),.d (.int .i64 a0.PeerTurn),.d (.bool a0.Up),.d (.int .i64 a0.Left),.d (.int .i64 a0.Num),.d (.int .i64 a0.Under.Kind),.d (.int .i64 a0.Under.Entry.Addr),.d (.int .i64 a0.Under.Entry.Len),.d (.int .i64 a0.Under.Entry.Cost),.d (.int .i64 a0.Under.Entry.Label),.d (slD HelloEntry.enc a0.Told),.d (.bool a0.All),.d (.int .i64 a0.Got),.d (.bool a0.Full),.osl 9001 0 a0.Heard.length,.d (.int .i64 a0.Keep)]),(9001,.arr 94 5 a0.Heard.length (rows HelloRoute.enc a0.Heard))] (.d (.bool r.1)) [(9000,.box 41 [.d (.int .i64 a0.Name),.d (.int .i64 a0.Peer),.d (slD HelloKey.enc a0.Keys),.d (.int .i64 a0.Boot),.d (slD HelloEntry.enc a0.Want),.d (.int .i64 a0.Turn),.d (.int .i64 a0.PeerBoot),.d (.int .i64 a0.PeerTurn),.d (.bool a0.Up),.d (.int .i64 a0.Left),.d (.int .i64 a0.Num),.d (.int .i64 a0.Under.Kind),.d (.int .i64 a0.Under.Entry.Addr),.d (.int .i64 a0.Under.Entry.Len),.d (.int .i64 a0.Under.Entry.Cost),.d (.int .i64 a0.Under.Entry.Label),.d (slD HelloEntry.enc a0.Told),.d (.bool a0.All),.d (.int .i64 a0.Got),.d (.bool r.2.Full),.osl 5001 0 r.2.Heard.length,.d (.int .i64 a0.Keep)]),(5001,.arr 94 5 r.2.Heard.length (rows HelloRoute.enc r.2.Heard))]:=by
  refine effC_x tOk (fn:=Tryz.f92) (c:=codeOf Tryz.f92) rfl rfl ?_;unfold impl_HelloEnd_take_m at h;(conv=>whnf);refine seq_in tOk ?_;(conv=>whnf);refine andI h (fun _ h=>?_) (fun _ h=>?_)
  · (conv=>whnf);obtain ⟨x1,hx1,h⟩:=bd_some h;refine cE [(9000,9000),(9001,9001)] 1000 (impl_HelloEnd_learn_c hx1) ?_;(conv=>whnf);obtain rfl:=Option.some.inj h;exact lfE [.s [(5001,6001),(6001,5001)]]
  · (conv=>whnf);refine andI h (fun _ h=>?_) (fun _ h=>?_)
    · (conv=>whnf);obtain ⟨x2,hx2,h⟩:=bd_some h;refine cC 0 (impl_HelloEntry_prefix_c hx2) ?_;clear hx2;(conv=>whnf);obtain ⟨x3,hx3,h⟩:=bd_some h;refine cC 0 (impl_HelloEnd_findRoute_c hx3) ?_;clear hx3;(conv=>whnf);refine andI h (fun _ h=>?_) (fun _ h=>?_)
      · (conv=>whnf);obtain ⟨x4,hx4,h⟩:=bd_some h;refine cE [(9000,9001)] 1000 (slices_Delete_HelloRoute_HelloRoute_c hx4) ?_;(conv=>whnf);obtain rfl:=Option.some.inj h;exact lfE [.s [(5001,6001),(6001,5001)]]
      · (conv=>whnf);obtain rfl:=Option.some.inj h;exact lfE [.s [(5001,9001),(9001,5001)]]
    · (conv=>whnf);refine andI h (fun _ h=>?_) (fun _ h=>?_)
      · (conv=>whnf);obtain ⟨x5,hx5,h⟩:=bd_some h;refine cE [(9000,9000),(9001,9001)] 1000 (impl_HelloEnd_dropStale_c hx5) ?_;(conv=>whnf);obtain rfl:=Option.some.inj h;exact lfE [.s [(5001,6001),(6001,5001)]]
      · (conv=>whnf);obtain rfl:=Option.some.inj h;exact lfE [.s [(5001,9001),(9001,5001)]]
noncomputable def impl_HelloEnd_answered_r020_m (a0:HelloEnd):Option (HelloEnd) :=
 bd (α:=Bool) ((if (a0.Under.Kind == 3)=true then
 some true
else
 some a0.All)) fun x1 =>
 bd (impl_changed_m a0.Told a0.Under) fun x4 =>
 some ({ a0 with Under:=(⟨0,(⟨0,0,0,0⟩:HelloEntry)⟩:HelloChange),Told:=x4,All:=x1 })
theorem impl_HelloEnd_answered_r020_c {a0:HelloEnd} {r:HelloEnd} (h:impl_HelloEnd_answered_r020_m a0=some r):EffC Tryz.prog 91 [.ref 9000 0 0] [(9000,.box 41 [.d (.int .i64 a0.Name),.d (.int .i64 a0.Peer),.d (slD HelloKey.enc a0.Keys),.d (.int .i64 a0.Boot),.d (slD HelloEntry.enc a0.Want),.d (.int .i64 a0.Turn),.d (.int .i64 a0.PeerBoot),.d (.int .i64 a0.PeerTurn),.d (.bool a0.Up),.d (.int .i64 a0.Left),.d (.int .i64 a0.Num),.d (.int .i64 a0.Under.Kind),.d (.int .i64 a0.Under.Entry.Addr),.d (.int .i64 a0.Under.Entry.Len),.d (.int .i64 a0.Under.Entry.Cost),.d (.int .i64 a0.Under.Entry.Label),.d (slD HelloEntry.enc a0.Told),.d (.bool a0.All),.d (.int .i64 a0.Got),.d (.bool a0.Full),.osl 9001 0 a0.Heard.length,.d (.int .i64 a0.Keep)]),(9001,.arr 94 5 a0.Heard.length (rows HelloRoute.enc a0.Heard))] (.tup []) [(9000,.box 41 [.d (.int .i64 a0.Name),.d (.int .i64 a0.Peer),.d (slD HelloKey.enc a0.Keys),.d (.int .i64 a0.Boot),.d (slD HelloEntry.enc a0.Want),.d (.int .i64 a0.Turn),.d (.int .i64 a0.PeerBoot),.d (.int .i64 a0.PeerTurn),.d (.bool a0.Up),.d (.int .i64 a0.Left),.d (.int .i64 a0.Num),.d (.int .i64 r.Under.Kind),.d (.int .i64 r.Under.Entry.Addr),.d (.int .i64 r.Under.Entry.Len),.d (.int .i64 r.Under.Entry.Cost),.d (.int .i64 r.Under.Entry.Label),.d (slD HelloEntry.enc r.Told),.d (.bool r.All),.d (.int .i64 a0.Got),.d (.bool a0.Full),.osl 5001 0 r.Heard.length,.d (.int .i64 a0.Keep)]),(5001,.arr 94 5 r.Heard.length (rows HelloRoute.enc r.Heard))]:=by
  refine effC_x tOk (fn:=Tryz.f91) (c:=codeOf Tryz.f91) rfl rfl ?_;unfold impl_HelloEnd_answered_r020_m at h;(conv=>whnf);obtain ⟨x1,hx1,h⟩:=bd_some h;refine seq_join tOk (fun s2=>⟨0,27,[(0,.ref 9000 0 0)],[],[(9000,.box 41 [.d (.int .i64 a0.Name),.d (.int .i64 a0.Peer),.d (slD HelloKey.enc a0.Keys),.d (.int .i64 a0.Boot),.d (slD HelloEntry.enc a0.Want),.d (.int .i64 a0.Turn),.d (.int .i64 a0.PeerBoot),.d (.int .i64 a0.PeerTurn),.d (.bool a0.Up),.d (.int .i64 a0.Left),.d (.int .i64 a0.Num),.d (.int .i64 a0.Under.Kind),.d (.int .i64 a0.Under.Entry.Addr),.d (.int .i64 a0.Under.Entry.Len),.d (.int .i64 a0.Under.Entry.Cost),.d (.int .i64 a0.Under.Entry.Label),.d (slD HelloEntry.enc a0.Told),.d (.bool s2),.d (.int .i64 a0.Got),.d (.bool a0.Full),.osl 9001 0 a0.Heard.length,.d (.int .i64 a0.Keep)]),(9001,.arr 94 5 a0.Heard.length (rows HelloRoute.enc a0.Heard))],[⟨[(0,.ref 9000 0 0)],[]⟩]⟩) (fun s2=>x1=s2) ?_ ?_
  · (conv=>whnf);refine andI hx1 (fun _ hx1=>?_) (fun _ hx1=>?_)
    · (conv=>whnf);obtain rfl:=Option.some.inj hx1;exact ⟨_,rfl,leX []⟩
    · (conv=>whnf);obtain rfl:=Option.some.inj hx1;exact ⟨_,rfl,leX []⟩
  · rintro _ rfl;(conv=>whnf);obtain ⟨x4,hx4,h⟩:=bd_some h;refine draw_u tOk [.u 9 1000 (.osl 5001 0 x4.length) [⟨5001,36,4,x4.length,rows HelloEntry.enc x4⟩]] 12 [] [0,0,2,6,14,0,32,96,224,510,1023,2047] [4095] ?_;(conv=>whnf);refine And.intro (callD_any (impl_changed_c hx4) (by kernel_rfl)) ?_;(conv=>whnf);refine And.intro (by kernel_rfl) ?_;(conv=>whnf);obtain rfl:=Option.some.inj h;exact lfE [.f [6001],.s [(5001,9001),(9001,5001)]]
noncomputable def impl_HelloEnd_hear_m (a0:HelloEnd) (a1:HelloWord):Option (HelloEnd) :=
 bd (impl_HelloEnd_isNew_m a0 a1) fun x1 =>
(if (!x1)=true then
 some a0
else
 bd (α:=List HelloRoute × Int × Int × Int × Int × Int × Int × List HelloEntry × Bool × Int × Bool × Int × Int × Bool) ((if (decide (a1.Boot > a0.PeerBoot))=true then
 bd (impl_HelloEnd_beginAnew_m a0) fun x5 =>
 some (x5.Heard,x5.Num,x5.Under.Kind,x5.Under.Entry.Addr,x5.Under.Entry.Len,x5.Under.Entry.Cost,x5.Under.Entry.Label,x5.Told,x5.All,x5.Got,x5.Full,x5.Keep,a1.Boot,x5.Up)
else
 some (a0.Heard,a0.Num,a0.Under.Kind,a0.Under.Entry.Addr,a0.Under.Entry.Len,a0.Under.Entry.Cost,a0.Under.Entry.Label,a0.Told,a0.All,a0.Got,a0.Full,a0.Keep,a0.PeerBoot,a0.Up))) fun x2 =>
(if (!(a1.Yours == a0.Boot))=true then
 some ({ a0 with PeerBoot:=x2.2.2.2.2.2.2.2.2.2.2.2.2.1,PeerTurn:=a1.Turn,Up:=(a1.Yours == a0.Boot),Left:=4,Num:=x2.2.1,Under:=(⟨x2.2.2.1,(⟨x2.2.2.2.1,x2.2.2.2.2.1,x2.2.2.2.2.2.1,x2.2.2.2.2.2.2.1⟩:HelloEntry)⟩:HelloChange),Told:=x2.2.2.2.2.2.2.2.1,All:=x2.2.2.2.2.2.2.2.2.1,Got:=x2.2.2.2.2.2.2.2.2.2.1,Full:=x2.2.2.2.2.2.2.2.2.2.2.1,Heard:=x2.1,Keep:=x2.2.2.2.2.2.2.2.2.2.2.2.1 })
else
 bd (α:=List HelloRoute × Int × Int × Int × Int × Int × List HelloEntry × Bool) ((if ((x2.2.2.1 != 0) && (a1.Heard == x2.2.1))=true then
 bd (impl_HelloEnd_answered_r020_m ({ a0 with PeerBoot:=x2.2.2.2.2.2.2.2.2.2.2.2.2.1,PeerTurn:=a1.Turn,Up:=(a1.Yours == a0.Boot),Left:=4,Num:=x2.2.1,Under:=(⟨x2.2.2.1,(⟨x2.2.2.2.1,x2.2.2.2.2.1,x2.2.2.2.2.2.1,x2.2.2.2.2.2.2.1⟩:HelloEntry)⟩:HelloChange),Told:=x2.2.2.2.2.2.2.2.1,All:=x2.2.2.2.2.2.2.2.2.1,Got:=x2.2.2.2.2.2.2.2.2.2.1,Full:=x2.2.2.2.2.2.2.2.2.2.2.1,Heard:=x2.1,Keep:=x2.2.2.2.2.2.2.2.2.2.2.2.1 })) fun x9 =>
 some (x9.Heard,x9.Under.Kind,x9.Under.Entry.Addr,x9.Under.Entry.Len,x9.Under.Entry.Cost,x9.Under.Entry.Label,x9.Told,x9.All)
else
 some (x2.1,x2.2.2.1,x2.2.2.2.1,x2.2.2.2.2.1,x2.2.2.2.2.2.1,x2.2.2.2.2.2.2.1,x2.2.2.2.2.2.2.2.1,x2.2.2.2.2.2.2.2.2.1))) fun x6 =>
 bd (α:=List HelloRoute × Int × Bool) ((if ((a1.Change.Kind != 0) && (a1.Num == (IntKind.i64.wrap (x2.2.2.2.2.2.2.2.2.2.1+1))))=true then
 bd (impl_HelloEnd_take_m ({ a0 with PeerBoot:=x2.2.2.2.2.2.2.2.2.2.2.2.2.1,PeerTurn:=a1.Turn,Up:=(a1.Yours == a0.Boot),Left:=4,Num:=x2.2.1,Under:=(⟨x6.2.1,(⟨x6.2.2.1,x6.2.2.2.1,x6.2.2.2.2.1,x6.2.2.2.2.2.1⟩:HelloEntry)⟩:HelloChange),Told:=x6.2.2.2.2.2.2.1,All:=x6.2.2.2.2.2.2.2,Got:=x2.2.2.2.2.2.2.2.2.2.1,Full:=x2.2.2.2.2.2.2.2.2.2.2.1,Heard:=x6.1,Keep:=x2.2.2.2.2.2.2.2.2.2.2.2.1 }) a1.Change) fun x14 =>
(if (((a1.Change.Kind != 0) && (a1.Num == (IntKind.i64.wrap (x2.2.2.2.2.2.2.2.2.2.1+1)))) && x14.1)=true then
 some (x14.2.Heard,a1.Num,x14.2.Full)
else
 some (x14.2.Heard,x2.2.2.2.2.2.2.2.2.2.1,x14.2.Full))
else
(if (((a1.Change.Kind != 0) && (a1.Num == (IntKind.i64.wrap (x2.2.2.2.2.2.2.2.2.2.1+1)))) && false)=true then
 some (x6.1,a1.Num,x2.2.2.2.2.2.2.2.2.2.2.1)
else
 some (x6.1,x2.2.2.2.2.2.2.2.2.2.1,x2.2.2.2.2.2.2.2.2.2.2.1)))) fun x10 =>
 bd (impl_anyStale_m x10.1) fun x15 =>
(if (!x15)=true then
 some ({ a0 with PeerBoot:=x2.2.2.2.2.2.2.2.2.2.2.2.2.1,PeerTurn:=a1.Turn,Up:=(a1.Yours == a0.Boot),Left:=4,Num:=x2.2.1,Under:=(⟨x6.2.1,(⟨x6.2.2.1,x6.2.2.2.1,x6.2.2.2.2.1,x6.2.2.2.2.2.1⟩:HelloEntry)⟩:HelloChange),Told:=x6.2.2.2.2.2.2.1,All:=x6.2.2.2.2.2.2.2,Got:=x10.2.1,Full:=x10.2.2,Heard:=x10.1,Keep:=0 })
else
 some ({ a0 with PeerBoot:=x2.2.2.2.2.2.2.2.2.2.2.2.2.1,PeerTurn:=a1.Turn,Up:=(a1.Yours == a0.Boot),Left:=4,Num:=x2.2.1,Under:=(⟨x6.2.1,(⟨x6.2.2.1,x6.2.2.2.1,x6.2.2.2.2.1,x6.2.2.2.2.2.1⟩:HelloEntry)⟩:HelloChange),Told:=x6.2.2.2.2.2.2.1,All:=x6.2.2.2.2.2.2.2,Got:=x10.2.1,Full:=x10.2.2,Heard:=x10.1,Keep:=x2.2.2.2.2.2.2.2.2.2.2.2.1 }))))
theorem impl_HelloEnd_hear_c {a0:HelloEnd} {a1:HelloWord} {r:HelloEnd} (h:impl_HelloEnd_hear_m a0 a1=some r):EffC Tryz.prog 38 [.ref 9000 0 0,.agg [.d (.int .i64 a1.From),.d (.int .i64 a1.To),.d (.int .i64 a1.Key),.d (.int .i64 a1.Boot),.d (.int .i64 a1.Yours),.d (.int .i64 a1.Turn),.d (.int .i64 a1.Num),.d (.int .i64 a1.Heard),.d (.int .i64 a1.Change.Kind),.d (.int .i64 a1.Change.Entry.Addr),.d (.int .i64 a1.Change.Entry.Len),.d (.int .i64 a1.Change.Entry.Cost),.d (.int .i64 a1.Change.Entry.Label),.d (.int .i64 a1.Sum)]] [(9000,.box 41 [.d (.int .i64 a0.Name),.d (.int .i64 a0.Peer),.d (slD HelloKey.enc a0.Keys),.d (.int .i64 a0.Boot),.d (slD HelloEntry.enc a0.Want),.d (.int .i64 a0.Turn),.d (.int .i64 a0.PeerBoot),.d (.int .i64 a0.PeerTurn),.d (.bool a0.Up),.d (.int .i64 a0.Left),.d (.int .i64 a0.Num),.d (.int .i64 a0.Under.Kind),.d (.int .i64 a0.Under.Entry.Addr),.d (.int .i64 a0.Under.Entry.Len),.d (.int .i64 a0.Under.Entry.Cost),.d (.int .i64 a0.Under.Entry.Label),.d (slD HelloEntry.enc a0.Told),.d (.bool a0.All),.d (.int .i64 a0.Got),.d (.bool a0.Full),.osl 9001 0 a0.Heard.length,.d (.int .i64 a0.Keep)]),(9001,.arr 94 5 a0.Heard.length (rows HelloRoute.enc a0.Heard))] (.tup []) [(9000,.box 41 [.d (.int .i64 a0.Name),.d (.int .i64 a0.Peer),.d (slD HelloKey.enc a0.Keys),.d (.int .i64 a0.Boot),.d (slD HelloEntry.enc a0.Want),.d (.int .i64 a0.Turn),.d (.int .i64 r.PeerBoot),.d (.int .i64 r.PeerTurn),.d (.bool r.Up),.d (.int .i64 r.Left),.d (.int .i64 r.Num),.d (.int .i64 r.Under.Kind),.d (.int .i64 r.Under.Entry.Addr),.d (.int .i64 r.Under.Entry.Len),.d (.int .i64 r.Under.Entry.Cost),.d (.int .i64 r.Under.Entry.Label),.d (slD HelloEntry.enc r.Told),.d (.bool r.All),.d (.int .i64 r.Got),.d (.bool r.Full),.osl 5001 0 r.Heard.length,.d (.int .i64 r.Keep)]),(5001,.arr 94 5 r.Heard.length (rows HelloRoute.enc r.Heard))]:=by
  refine effC_x tOk (fn:=Tryz.f38) (c:=codeOf Tryz.f38) rfl rfl ?_;unfold impl_HelloEnd_hear_m at h;(conv=>whnf);refine seq_in tOk ?_;(conv=>whnf);obtain ⟨x1,hx1,h⟩:=bd_some h;refine cC 0 (impl_HelloEnd_isNew_c hx1) ?_;clear hx1;(conv=>whnf);refine andI h (fun _ h=>?_) (fun _ h=>?_)
  · (conv=>whnf);obtain rfl:=Option.some.inj h;exact lfE [.s [(5001,9001),(9001,5001)]]
  · (conv=>whnf);obtain ⟨x2,hx2,h⟩:=bd_some h;refine seq_join tOk (fun s3=>⟨0,96,[(0,.ref 9000 0 0),(3,.ref 3 0 0)],[],[(6001,.arr 94 5 s3.1.length (rows HelloRoute.enc s3.1)),(3,.box 45 [.d (.int .i64 a1.From),.d (.int .i64 a1.To),.d (.int .i64 a1.Key),.d (.int .i64 a1.Boot),.d (.int .i64 a1.Yours),.d (.int .i64 a1.Turn),.d (.int .i64 a1.Num),.d (.int .i64 a1.Heard),.d (.int .i64 a1.Change.Kind),.d (.int .i64 a1.Change.Entry.Addr),.d (.int .i64 a1.Change.Entry.Len),.d (.int .i64 a1.Change.Entry.Cost),.d (.int .i64 a1.Change.Entry.Label),.d (.int .i64 a1.Sum)]),(9000,.box 41 [.d (.int .i64 a0.Name),.d (.int .i64 a0.Peer),.d (slD HelloKey.enc a0.Keys),.d (.int .i64 a0.Boot),.d (slD HelloEntry.enc a0.Want),.d (.int .i64 a0.Turn),.d (.int .i64 s3.2.2.2.2.2.2.2.2.2.2.2.2.1),.d (.int .i64 a0.PeerTurn),.d (.bool s3.2.2.2.2.2.2.2.2.2.2.2.2.2),.d (.int .i64 a0.Left),.d (.int .i64 s3.2.1),.d (.int .i64 s3.2.2.1),.d (.int .i64 s3.2.2.2.1),.d (.int .i64 s3.2.2.2.2.1),.d (.int .i64 s3.2.2.2.2.2.1),.d (.int .i64 s3.2.2.2.2.2.2.1),.d (slD HelloEntry.enc s3.2.2.2.2.2.2.2.1),.d (.bool s3.2.2.2.2.2.2.2.2.1),.d (.int .i64 s3.2.2.2.2.2.2.2.2.2.1),.d (.bool s3.2.2.2.2.2.2.2.2.2.2.1),.osl 6001 0 s3.1.length,.d (.int .i64 s3.2.2.2.2.2.2.2.2.2.2.2.1)])],[⟨[(0,.ref 9000 0 0)],[]⟩]⟩) (fun s3=>x2=s3) ?_ ?_
    · (conv=>whnf);refine draw_u tOk [] 7 [] [0,1,0,4,12,28,63] [] ?_;(conv=>whnf);refine And.intro (by kernel_rfl) ?_;(conv=>whnf);refine andI hx2 (fun _ hx2=>?_) (fun _ hx2=>?_)
      · (conv=>whnf);obtain ⟨x5,hx5,hx2⟩:=bd_some hx2;refine cE [(9000,9000),(9001,9001)] 1000 (impl_HelloEnd_beginAnew_c hx5) ?_;(conv=>whnf);obtain rfl:=Option.some.inj hx2;exact ⟨_,rfl,leX []⟩
      · (conv=>whnf);obtain rfl:=Option.some.inj hx2;exact ⟨_,rfl,leX [.s [(6001,9001),(9001,6001)]]⟩
    · rintro _ rfl;(conv=>whnf);refine draw_t tOk [.l 10 [(9000,.box 41 [.d (.int .i64 a0.Name),.d (.int .i64 a0.Peer),.d (slD HelloKey.enc a0.Keys),.d (.int .i64 a0.Boot),.d (slD HelloEntry.enc a0.Want),.d (.int .i64 a0.Turn),.d (.int .i64 x2.2.2.2.2.2.2.2.2.2.2.2.2.1),.d (.int .i64 a0.PeerTurn),.d (.bool x2.2.2.2.2.2.2.2.2.2.2.2.2.2),.d (.int .i64 a0.Left),.d (.int .i64 x2.2.1),.d (.int .i64 x2.2.2.1),.d (.int .i64 x2.2.2.2.1),.d (.int .i64 x2.2.2.2.2.1),.d (.int .i64 x2.2.2.2.2.2.1),.d (.int .i64 x2.2.2.2.2.2.2.1),.d (slD HelloEntry.enc x2.2.2.2.2.2.2.2.1),.d (.bool x2.2.2.2.2.2.2.2.2.1),.d (.int .i64 x2.2.2.2.2.2.2.2.2.2.1),.d (.bool x2.2.2.2.2.2.2.2.2.2.2.1),.osl 6001 0 x2.1.length,.d (.int .i64 x2.2.2.2.2.2.2.2.2.2.2.2.1)])] (.d (.int .i64 a0.Boot)),.a 14 [(9000,.box 41 [.d (.int .i64 a0.Name),.d (.int .i64 a0.Peer),.d (slD HelloKey.enc a0.Keys),.d (.int .i64 a0.Boot),.d (slD HelloEntry.enc a0.Want),.d (.int .i64 a0.Turn),.d (.int .i64 x2.2.2.2.2.2.2.2.2.2.2.2.2.1),.d (.int .i64 a0.PeerTurn),.d (.bool x2.2.2.2.2.2.2.2.2.2.2.2.2.2),.d (.int .i64 a0.Left),.d (.int .i64 x2.2.1),.d (.int .i64 x2.2.2.1),.d (.int .i64 x2.2.2.2.1),.d (.int .i64 x2.2.2.2.2.1),.d (.int .i64 x2.2.2.2.2.2.1),.d (.int .i64 x2.2.2.2.2.2.2.1),.d (slD HelloEntry.enc x2.2.2.2.2.2.2.2.1),.d (.bool x2.2.2.2.2.2.2.2.2.1),.d (.int .i64 x2.2.2.2.2.2.2.2.2.2.1),.d (.bool x2.2.2.2.2.2.2.2.2.2.2.1),.osl 6001 0 x2.1.length,.d (.int .i64 x2.2.2.2.2.2.2.2.2.2.2.2.1)])] (.any) [(9000,.box 41 [.d (.int .i64 a0.Name),.d (.int .i64 a0.Peer),.d (slD HelloKey.enc a0.Keys),.d (.int .i64 a0.Boot),.d (slD HelloEntry.enc a0.Want),.d (.int .i64 a0.Turn),.d (.int .i64 x2.2.2.2.2.2.2.2.2.2.2.2.2.1),.d (.int .i64 a1.Turn),.d (.bool x2.2.2.2.2.2.2.2.2.2.2.2.2.2),.d (.int .i64 a0.Left),.d (.int .i64 x2.2.1),.d (.int .i64 x2.2.2.1),.d (.int .i64 x2.2.2.2.1),.d (.int .i64 x2.2.2.2.2.1),.d (.int .i64 x2.2.2.2.2.2.1),.d (.int .i64 x2.2.2.2.2.2.2.1),.d (slD HelloEntry.enc x2.2.2.2.2.2.2.2.1),.d (.bool x2.2.2.2.2.2.2.2.2.1),.d (.int .i64 x2.2.2.2.2.2.2.2.2.2.1),.d (.bool x2.2.2.2.2.2.2.2.2.2.2.1),.osl 6001 0 x2.1.length,.d (.int .i64 x2.2.2.2.2.2.2.2.2.2.2.2.1)])],.a 17 [(9000,.box 41 [.d (.int .i64 a0.Name),.d (.int .i64 a0.Peer),.d (slD HelloKey.enc a0.Keys),.d (.int .i64 a0.Boot),.d (slD HelloEntry.enc a0.Want),.d (.int .i64 a0.Turn),.d (.int .i64 x2.2.2.2.2.2.2.2.2.2.2.2.2.1),.d (.int .i64 a1.Turn),.d (.bool x2.2.2.2.2.2.2.2.2.2.2.2.2.2),.d (.int .i64 a0.Left),.d (.int .i64 x2.2.1),.d (.int .i64 x2.2.2.1),.d (.int .i64 x2.2.2.2.1),.d (.int .i64 x2.2.2.2.2.1),.d (.int .i64 x2.2.2.2.2.2.1),.d (.int .i64 x2.2.2.2.2.2.2.1),.d (slD HelloEntry.enc x2.2.2.2.2.2.2.2.1),.d (.bool x2.2.2.2.2.2.2.2.2.1),.d (.int .i64 x2.2.2.2.2.2.2.2.2.2.1),.d (.bool x2.2.2.2.2.2.2.2.2.2.2.1),.osl 6001 0 x2.1.length,.d (.int .i64 x2.2.2.2.2.2.2.2.2.2.2.2.1)])] (.any) [(9000,.box 41 [.d (.int .i64 a0.Name),.d (.int .i64 a0.Peer),.d (slD HelloKey.enc a0.Keys),.d (.int .i64 a0.Boot),.d (slD HelloEntry.enc a0.Want),.d (.int .i64 a0.Turn),.d (.int .i64 x2.2.2.2.2.2.2.2.2.2.2.2.2.1),.d (.int .i64 a1.Turn),.d (.bool x2.2.2.2.2.2.2.2.2.2.2.2.2.2),.d (.int .i64 4),.d (.int .i64 x2.2.1),.d (.int .i64 x2.2.2.1),.d (.int .i64 x2.2.2.2.1),.d (.int .i64 x2.2.2.2.2.1),.d (.int .i64 x2.2.2.2.2.2.1),.d (.int .i64 x2.2.2.2.2.2.2.1),.d (slD HelloEntry.enc x2.2.2.2.2.2.2.2.1),.d (.bool x2.2.2.2.2.2.2.2.2.1),.d (.int .i64 x2.2.2.2.2.2.2.2.2.2.1),.d (.bool x2.2.2.2.2.2.2.2.2.2.2.1),.osl 6001 0 x2.1.length,.d (.int .i64 x2.2.2.2.2.2.2.2.2.2.2.2.1)])],.a 20 [(9000,.box 41 [.d (.int .i64 a0.Name),.d (.int .i64 a0.Peer),.d (slD HelloKey.enc a0.Keys),.d (.int .i64 a0.Boot),.d (slD HelloEntry.enc a0.Want),.d (.int .i64 a0.Turn),.d (.int .i64 x2.2.2.2.2.2.2.2.2.2.2.2.2.1),.d (.int .i64 a1.Turn),.d (.bool x2.2.2.2.2.2.2.2.2.2.2.2.2.2),.d (.int .i64 4),.d (.int .i64 x2.2.1),.d (.int .i64 x2.2.2.1),.d (.int .i64 x2.2.2.2.1),.d (.int .i64 x2.2.2.2.2.1),.d (.int .i64 x2.2.2.2.2.2.1),.d (.int .i64 x2.2.2.2.2.2.2.1),.d (slD HelloEntry.enc x2.2.2.2.2.2.2.2.1),.d (.bool x2.2.2.2.2.2.2.2.2.1),.d (.int .i64 x2.2.2.2.2.2.2.2.2.2.1),.d (.bool x2.2.2.2.2.2.2.2.2.2.2.1),.osl 6001 0 x2.1.length,.d (.int .i64 x2.2.2.2.2.2.2.2.2.2.2.2.1)])] (.any) [(9000,.box 41 [.d (.int .i64 a0.Name),.d (.int .i64 a0.Peer),.d (slD HelloKey.enc a0.Keys),.d (.int .i64 a0.Boot),.d (slD HelloEntry.enc a0.Want),.d (.int .i64 a0.Turn),.d (.int .i64 x2.2.2.2.2.2.2.2.2.2.2.2.2.1),.d (.int .i64 a1.Turn),.d (.bool (a1.Yours == a0.Boot)),.d (.int .i64 4),.d (.int .i64 x2.2.1),.d (.int .i64 x2.2.2.1),.d (.int .i64 x2.2.2.2.1),.d (.int .i64 x2.2.2.2.2.1),.d (.int .i64 x2.2.2.2.2.2.1),.d (.int .i64 x2.2.2.2.2.2.2.1),.d (slD HelloEntry.enc x2.2.2.2.2.2.2.2.1),.d (.bool x2.2.2.2.2.2.2.2.2.1),.d (.int .i64 x2.2.2.2.2.2.2.2.2.2.1),.d (.bool x2.2.2.2.2.2.2.2.2.2.2.1),.osl 6001 0 x2.1.length,.d (.int .i64 x2.2.2.2.2.2.2.2.2.2.2.2.1)])]] 21 [] [0,0,0,0,8,0,32,0,128,384,896,2016,1945,6041,14233,30619,63387,128923,262143,524287,1048575] [] [9000] ?_;(conv=>whnf);refine And.intro (by (conv=>whnf); exact ⟨rfl,rfl⟩) ?_;(conv=>whnf);refine And.intro (by (conv=>whnf); exact ⟨rfl,rfl⟩) ?_;(conv=>whnf);refine And.intro (by (conv=>whnf); exact ⟨rfl,rfl⟩) ?_;(conv=>whnf);refine And.intro (by (conv=>whnf); exact ⟨rfl,rfl⟩) ?_;(conv=>whnf);refine And.intro (by kernel_rfl) ?_;(conv=>whnf);refine seq_in tOk ?_;(conv=>whnf);refine andI h (fun _ h=>?_) (fun _ h=>?_)
      · (conv=>whnf);obtain rfl:=Option.some.inj h;exact lfE [.s [(5001,6001),(6001,5001)]]
      · (conv=>whnf);obtain ⟨x6,hx6,h⟩:=bd_some h;refine seq_join tOk (fun s7=>⟨0,96,[(0,.ref 9000 0 0),(3,.ref 3 0 0)],[],[(7001,.arr 94 5 s7.1.length (rows HelloRoute.enc s7.1)),(3,.box 45 [.d (.int .i64 a1.From),.d (.int .i64 a1.To),.d (.int .i64 a1.Key),.d (.int .i64 a1.Boot),.d (.int .i64 a1.Yours),.d (.int .i64 a1.Turn),.d (.int .i64 a1.Num),.d (.int .i64 a1.Heard),.d (.int .i64 a1.Change.Kind),.d (.int .i64 a1.Change.Entry.Addr),.d (.int .i64 a1.Change.Entry.Len),.d (.int .i64 a1.Change.Entry.Cost),.d (.int .i64 a1.Change.Entry.Label),.d (.int .i64 a1.Sum)]),(9000,.box 41 [.d (.int .i64 a0.Name),.d (.int .i64 a0.Peer),.d (slD HelloKey.enc a0.Keys),.d (.int .i64 a0.Boot),.d (slD HelloEntry.enc a0.Want),.d (.int .i64 a0.Turn),.d (.int .i64 x2.2.2.2.2.2.2.2.2.2.2.2.2.1),.d (.int .i64 a1.Turn),.d (.bool (a1.Yours == a0.Boot)),.d (.int .i64 4),.d (.int .i64 x2.2.1),.d (.int .i64 s7.2.1),.d (.int .i64 s7.2.2.1),.d (.int .i64 s7.2.2.2.1),.d (.int .i64 s7.2.2.2.2.1),.d (.int .i64 s7.2.2.2.2.2.1),.d (slD HelloEntry.enc s7.2.2.2.2.2.2.1),.d (.bool s7.2.2.2.2.2.2.2),.d (.int .i64 x2.2.2.2.2.2.2.2.2.2.1),.d (.bool x2.2.2.2.2.2.2.2.2.2.2.1),.osl 7001 0 s7.1.length,.d (.int .i64 x2.2.2.2.2.2.2.2.2.2.2.2.1)])],[⟨[(0,.ref 9000 0 0)],[]⟩]⟩) (fun s7=>x6=s7) ?_ ?_
        · (conv=>whnf);refine draw_u tOk [] 15 [] [0,1,3,7,15,31,63,127,255,127,639,1663,3711,8191,16383] [] ?_;(conv=>whnf);refine And.intro (by kernel_rfl) ?_;(conv=>whnf);refine andI hx6 (fun _ hx6=>?_) (fun _ hx6=>?_)
          · (conv=>whnf);obtain ⟨x9,hx9,hx6⟩:=bd_some hx6;refine cE [(9000,9000),(9001,6001)] 2000 (impl_HelloEnd_answered_r020_c hx9) ?_;(conv=>whnf);obtain rfl:=Option.some.inj hx6;exact ⟨_,rfl,leX []⟩
          · (conv=>whnf);obtain rfl:=Option.some.inj hx6;exact ⟨_,rfl,leX [.s [(6001,7001),(7001,6001)]]⟩
        · rintro _ rfl;(conv=>whnf);obtain ⟨x10,hx10,h⟩:=bd_some h;refine seq_join tOk (fun s11=>⟨0,96,[(0,.ref 9000 0 0)],[],[(6001,.arr 94 5 s11.1.length (rows HelloRoute.enc s11.1)),(9000,.box 41 [.d (.int .i64 a0.Name),.d (.int .i64 a0.Peer),.d (slD HelloKey.enc a0.Keys),.d (.int .i64 a0.Boot),.d (slD HelloEntry.enc a0.Want),.d (.int .i64 a0.Turn),.d (.int .i64 x2.2.2.2.2.2.2.2.2.2.2.2.2.1),.d (.int .i64 a1.Turn),.d (.bool (a1.Yours == a0.Boot)),.d (.int .i64 4),.d (.int .i64 x2.2.1),.d (.int .i64 x6.2.1),.d (.int .i64 x6.2.2.1),.d (.int .i64 x6.2.2.2.1),.d (.int .i64 x6.2.2.2.2.1),.d (.int .i64 x6.2.2.2.2.2.1),.d (slD HelloEntry.enc x6.2.2.2.2.2.2.1),.d (.bool x6.2.2.2.2.2.2.2),.d (.int .i64 s11.2.1),.d (.bool s11.2.2),.osl 6001 0 s11.1.length,.d (.int .i64 x2.2.2.2.2.2.2.2.2.2.2.2.1)])],[⟨[(0,.ref 9000 0 0)],[]⟩]⟩) (fun s11=>x10=s11) ?_ ?_
          · (conv=>whnf);refine draw_u tOk [] 18 [] [0,1,3,7,15,31,63,31,159,415,927,1951,4095,8191,16383,32767,32767,98303] [262143,524287] ?_;(conv=>whnf);refine And.intro (by kernel_rfl) ?_;(conv=>whnf);refine spI hx10 (fun hb13 hx10=>?_) (fun hb13 hx10=>?_)
            · obtain ⟨x14,hx14,hx10⟩:=bd_some hx10;refine callG_t [(9000,9000),(9001,7001)] 1000 (impl_HelloEnd_take_c hx14) (by (conv=>whnf); exact fun q=>absurd (q.symm.trans hb13) (by decide)) ?_;(conv=>whnf);refine andI hx10 (fun _ hx10=>?_) (fun _ hx10=>?_)
              · (conv=>whnf);obtain rfl:=Option.some.inj hx10;exact ⟨_,rfl,leX []⟩
              · (conv=>whnf);obtain rfl:=Option.some.inj hx10;exact ⟨_,rfl,leX []⟩
            · refine callG_no (.d (.bool false)) ?_ (by (conv=>whnf); exact fun q=>absurd (hb13.symm.trans q) (by decide));(conv=>whnf);refine andI hx10 (fun _ hx10=>?_) (fun _ hx10=>?_)
              · (conv=>whnf);obtain rfl:=Option.some.inj hx10;exact ⟨_,rfl,leX [.s [(6001,7001),(7001,6001)]]⟩
              · (conv=>whnf);obtain rfl:=Option.some.inj hx10;exact ⟨_,rfl,leX [.s [(6001,7001),(7001,6001)]]⟩
          · rintro _ rfl;(conv=>whnf);obtain ⟨x15,hx15,h⟩:=bd_some h;refine cC 0 (impl_anyStale_c hx15) ?_;clear hx15;(conv=>whnf);refine andI h (fun _ h=>?_) (fun _ h=>?_)
            · (conv=>whnf);obtain rfl:=Option.some.inj h;exact lfE [.s [(5001,6001),(6001,5001)]]
            · (conv=>whnf);obtain rfl:=Option.some.inj h;exact lfE [.s [(5001,6001),(6001,5001)]]
noncomputable def impl_HelloHear_m (a0:HelloEnd) (a1:HelloWord):Option (HelloEnd) :=
 bd (impl_HelloEndOk_m a0) fun x1 =>
(if (!x1)=true then
 some (⟨0,0,[],0,[],0,0,0,false,0,0,(⟨0,(⟨0,0,0,0⟩:HelloEntry)⟩:HelloChange),[],false,0,false,[],0⟩:HelloEnd)
else
 bd (impl_copyEnd_m a0) fun x2 =>
 bd (impl_HelloEnd_hear_m x2 a1) fun x3 =>
 some ({ x3 with Name:=x2.Name,Peer:=x2.Peer,Keys:=x2.Keys,Boot:=x2.Boot,Want:=x2.Want,Turn:=x2.Turn }))
theorem impl_HelloHear_c {a0:HelloEnd} {a1:HelloWord} {r:HelloEnd} (h:impl_HelloHear_m a0 a1=some r):EffC Tryz.prog 11 [.agg [.d (.int .i64 a0.Name),.d (.int .i64 a0.Peer),.d (slD HelloKey.enc a0.Keys),.d (.int .i64 a0.Boot),.d (slD HelloEntry.enc a0.Want),.d (.int .i64 a0.Turn),.d (.int .i64 a0.PeerBoot),.d (.int .i64 a0.PeerTurn),.d (.bool a0.Up),.d (.int .i64 a0.Left),.d (.int .i64 a0.Num),.d (.int .i64 a0.Under.Kind),.d (.int .i64 a0.Under.Entry.Addr),.d (.int .i64 a0.Under.Entry.Len),.d (.int .i64 a0.Under.Entry.Cost),.d (.int .i64 a0.Under.Entry.Label),.d (slD HelloEntry.enc a0.Told),.d (.bool a0.All),.d (.int .i64 a0.Got),.d (.bool a0.Full),.d (slD HelloRoute.enc a0.Heard),.d (.int .i64 a0.Keep)],.agg [.d (.int .i64 a1.From),.d (.int .i64 a1.To),.d (.int .i64 a1.Key),.d (.int .i64 a1.Boot),.d (.int .i64 a1.Yours),.d (.int .i64 a1.Turn),.d (.int .i64 a1.Num),.d (.int .i64 a1.Heard),.d (.int .i64 a1.Change.Kind),.d (.int .i64 a1.Change.Entry.Addr),.d (.int .i64 a1.Change.Entry.Len),.d (.int .i64 a1.Change.Entry.Cost),.d (.int .i64 a1.Change.Entry.Label),.d (.int .i64 a1.Sum)]] [] (.agg [.d (.int .i64 r.Name),.d (.int .i64 r.Peer),.d (slD HelloKey.enc r.Keys),.d (.int .i64 r.Boot),.d (slD HelloEntry.enc r.Want),.d (.int .i64 r.Turn),.d (.int .i64 r.PeerBoot),.d (.int .i64 r.PeerTurn),.d (.bool r.Up),.d (.int .i64 r.Left),.d (.int .i64 r.Num),.d (.int .i64 r.Under.Kind),.d (.int .i64 r.Under.Entry.Addr),.d (.int .i64 r.Under.Entry.Len),.d (.int .i64 r.Under.Entry.Cost),.d (.int .i64 r.Under.Entry.Label),.d (slD HelloEntry.enc r.Told),.d (.bool r.All),.d (.int .i64 r.Got),.d (.bool r.Full),.osl 5001 0 r.Heard.length,.d (.int .i64 r.Keep)]) [(5001,.arr 94 5 r.Heard.length (rows HelloRoute.enc r.Heard))]:=by
  refine effC_x tOk (fn:=Tryz.f11) (c:=codeOf Tryz.f11) rfl rfl ?_;unfold impl_HelloHear_m at h;(conv=>whnf);refine seq_in tOk ?_;(conv=>whnf);obtain ⟨x1,hx1,h⟩:=bd_some h;refine cC 0 (impl_HelloEndOk_c hx1) ?_;clear hx1;(conv=>whnf);refine andI h (fun _ h=>?_) (fun _ h=>?_)
  · (conv=>whnf);obtain rfl:=Option.some.inj h;exact lfE [.k [2,3],.p 5001 94 5 (rows HelloRoute.enc ([]:List HelloRoute))]
  · (conv=>whnf);obtain ⟨x2,hx2,h⟩:=bd_some h;refine cC 1000 (impl_copyEnd_c hx2) ?_;clear hx2;(conv=>whnf);obtain ⟨x3,hx3,h⟩:=bd_some h;refine callFz [6001,6002,6003] ?_;(conv=>whnf);refine cE [(9000,5),(9001,6004)] 1000 (impl_HelloEnd_hear_c hx3) ?_;(conv=>whnf);obtain rfl:=Option.some.inj h;exact lfE [.s [(5001,6001),(6001,5001)]]
noncomputable def laws_whHas_m (a0:(List HelloEntry)) (a1:HelloEntry):Option (Bool) :=
 bd (lp (σ:=Int) (β:=(Unit ⊕ Unit)) (fun s1 =>
(if (decide (s1<((a0.length:Nat):Int)))=true then
 gd ((0:Int)≤s1∧s1<((a0.length:Nat):Int)) <|
(if ((((a0.getD s1.toNat default).Addr) == a1.Addr) && ((((a0.getD s1.toNat default).Len) == a1.Len) && ((((a0.getD s1.toNat default).Cost) == a1.Cost) && ((((a0.getD s1.toNat default).Label) == a1.Label) && true))))=true then
 some (.inr (.inl ()))
else
 some (.inl (IntKind.i64.wrap (s1+1))))
else
 some (.inr (.inr ())))) 0) fun x4 =>
(match x4 with
| .inl d6 =>
 some true
| .inr d7 =>
 some false)
theorem laws_whHas_c {a0:(List HelloEntry)} {a1:HelloEntry} {r:Bool} (h:laws_whHas_m a0 a1=some r):PureC Tryz.prog 27 [.d (slD HelloEntry.enc a0),.agg [.d (.int .i64 a1.Addr),.d (.int .i64 a1.Len),.d (.int .i64 a1.Cost),.d (.int .i64 a1.Label)]] (.d (.bool r)) []:=by
  refine pureC_x tOk (fn:=Tryz.f27) (c:=codeOf Tryz.f27) rfl rfl ?_;unfold laws_whHas_m at h;(conv=>whnf);refine seq_in tOk ?_;(conv=>whnf);obtain ⟨x4,hx4,h⟩:=bd_some h;refine loop_m tOk hx4 (fun s1=>⟨0,18,[(0,.d (slD HelloEntry.enc a0)),(3,.ref 3 0 0),(5,.d (.int .i64 s1))],[],[(3,.box 36 [.d (.int .i64 a1.Addr),.d (.int .i64 a1.Len),.d (.int .i64 a1.Cost),.d (.int .i64 a1.Label)])],[]⟩) ?_ ?_
  · exact leX []
  · clear hx4;intro s1 y2 g3 hy2;(conv=>whnf);refine seq_in tOk ?_;(conv=>whnf);refine andI g3 (fun _ g3=>?_) (fun _ g3=>?_)
    · (conv=>whnf);refine seq_in tOk ?_;(conv=>whnf);obtain ⟨g5,g3⟩:=gd_some g3;refine draw_u tOk [] 6 [] [0,0,3,7,0,31] [] ?_;(conv=>whnf);refine And.intro g5 ?_;clear g5;(conv=>whnf);refine And.intro (by kernel_rfl) ?_;(conv=>whnf);refine andI g3 (fun _ g3=>?_) (fun _ g3=>?_)
      · (conv=>whnf);obtain rfl:=Option.some.inj g3;obtain rfl:=hy2 _ rfl;obtain rfl:=Option.some.inj h;exact lfP []
      · (conv=>whnf);obtain rfl:=Option.some.inj g3;exact ⟨_,rfl,leX []⟩
    · (conv=>whnf);obtain rfl:=Option.some.inj g3;obtain rfl:=hy2 _ rfl;obtain rfl:=Option.some.inj h;exact lfP []
noncomputable def laws_FnHelloUse_m (a0:(List Int)):Option (Bool) :=
(if (decide (((a0.length:Nat):Int) > 1048576))=true then
 some true
else
 bd (spec_DrawHelloHear_m a0) fun x1 =>
 bd (impl_HelloUse_m x1.1) fun x2 =>
 bd (spec_HelloUse_m x1.1) fun x3 =>
 bd (laws_whTable_m x2 x3) fun x4 =>
(if (!x4)=true then
 some false
else
 bd (impl_HelloHear_m x1.1 x1.2) fun x5 =>
 bd (impl_HelloUse_m x5) fun x6 =>
 bd (spec_HelloHear_m x1.1 x1.2) fun x7 =>
 bd (spec_HelloUse_m x7) fun x8 =>
 bd (laws_whTable_m x6 x8) fun x9 =>
(if (!x9)=true then
 some false
else
 bd (lp (σ:=Int) (β:=(Unit ⊕ Unit)) (fun s10 =>
(if (decide (s10<((x6.length:Nat):Int)))=true then
 gd ((0:Int)≤s10∧s10<((x6.length:Nat):Int)) <|
 bd (laws_whHas_m x2 (x6.getD s10.toNat default)) fun x15 =>
 gd ((x1.2.Change.Kind != 1)=false→((!x15)=true→((0:Int)≤s10∧s10<((x6.length:Nat):Int)))) <|
(if ((!x15) && ((x1.2.Change.Kind != 1) || (!((((x6.getD s10.toNat default).Addr) == x1.2.Change.Entry.Addr) && ((((x6.getD s10.toNat default).Len) == x1.2.Change.Entry.Len) && ((((x6.getD s10.toNat default).Cost) == x1.2.Change.Entry.Cost) && ((((x6.getD s10.toNat default).Label) == x1.2.Change.Entry.Label) && true)))))))=true then
 some (.inr (.inl ()))
else
 some (.inl (IntKind.i64.wrap (s10+1))))
else
 some (.inr (.inr ())))) 0) fun x13 =>
(match x13 with
| .inl d17 =>
 some false
| .inr d18 =>
 bd (lp (σ:=Int) (β:=(Unit ⊕ Unit)) (fun s19 =>
(if (decide (s19<((x2.length:Nat):Int)))=true then
 gd ((0:Int)≤s19∧s19<((x2.length:Nat):Int)) <|
 gd ((((x2.getD s19.toNat default).Addr) == x1.2.Change.Entry.Addr)=true→((0:Int)≤s19∧s19<((x2.length:Nat):Int))) <|
 gd ((0:Int)≤s19∧s19<((x2.length:Nat):Int)) <|
 bd (laws_whHas_m x6 (x2.getD s19.toNat default)) fun x26 =>
(if ((((!x26) && (x1.2.Change.Kind != 3)) && ((x1.2.Change.Kind == 0) || (!((((x2.getD s19.toNat default).Addr) == x1.2.Change.Entry.Addr) && (((x2.getD s19.toNat default).Len) == x1.2.Change.Entry.Len))))) && (decide (((x2.length:Nat):Int)<16)))=true then
 some (.inr (.inl ()))
else
 some (.inl (IntKind.i64.wrap (s19+1))))
else
 some (.inr (.inr ())))) 0) fun x22 =>
(match x22 with
| .inl d27 =>
 some false
| .inr d28 =>
 some true)))))
theorem laws_FnHelloUse_c {a0:(List Int)} {r:Bool} (h:laws_FnHelloUse_m a0=some r):PureC Tryz.prog 6 [.d (slD encByte a0)] (.d (.bool r)) []:=by
  refine pureC_x tOk (fn:=Tryz.f6) (c:=codeOf Tryz.f6) rfl rfl ?_;unfold laws_FnHelloUse_m at h;(conv=>whnf);refine seq_in tOk ?_;(conv=>whnf);refine andI h (fun _ h=>?_) (fun _ h=>?_)
  · (conv=>whnf);obtain rfl:=Option.some.inj h;exact lfP []
  · (conv=>whnf);obtain ⟨x1,hx1,h⟩:=bd_some h;refine cE [] 0 (spec_DrawHelloHear_c hx1) ?_;(conv=>whnf);obtain ⟨x2,hx2,h⟩:=bd_some h;refine cC 1000 (impl_HelloUse_c hx2) ?_;clear hx2;(conv=>whnf);refine seq_in tOk ?_;(conv=>whnf);obtain ⟨x3,hx3,h⟩:=bd_some h;refine cC 2000 (spec_HelloUse_c hx3) ?_;clear hx3;(conv=>whnf);obtain ⟨x4,hx4,h⟩:=bd_some h;refine cC 0 (laws_whTable_c hx4) ?_;clear hx4;(conv=>whnf);refine andI h (fun _ h=>?_) (fun _ h=>?_)
    · (conv=>whnf);obtain rfl:=Option.some.inj h;exact lfP []
    · (conv=>whnf);obtain ⟨x5,hx5,h⟩:=bd_some h;refine cE [] 3000 (impl_HelloHear_c hx5) ?_;(conv=>whnf);obtain ⟨x6,hx6,h⟩:=bd_some h;refine cC 4000 (impl_HelloUse_c hx6) ?_;clear hx6;(conv=>whnf);refine seq_in tOk ?_;(conv=>whnf);obtain ⟨x7,hx7,h⟩:=bd_some h;refine cC 5000 (spec_HelloHear_c hx7) ?_;clear hx7;(conv=>whnf);obtain ⟨x8,hx8,h⟩:=bd_some h;refine cC 6000 (spec_HelloUse_c hx8) ?_;clear hx8;(conv=>whnf);obtain ⟨x9,hx9,h⟩:=bd_some h;refine cC 0 (laws_whTable_c hx9) ?_;clear hx9;(conv=>whnf);refine andI h (fun _ h=>?_) (fun _ h=>?_)
      · (conv=>whnf);obtain rfl:=Option.some.inj h;exact lfP []
      · (conv=>whnf);refine seq_in tOk ?_;(conv=>whnf);obtain ⟨x13,hx13,h⟩:=bd_some h;refine loop_m tOk hx13 (fun s10=>⟨0,121,[(4,.ref 4 0 0),(5,.osl 6001 0 x2.length),(6,.osl 9001 0 x6.length),(7,.d (.int .i64 s10))],[],[(9001,.arr 36 4 x6.length (rows HelloEntry.enc x6)),(6001,.arr 36 4 x2.length (rows HelloEntry.enc x2)),(4,.box 45 [.d (.int .i64 x1.2.From),.d (.int .i64 x1.2.To),.d (.int .i64 x1.2.Key),.d (.int .i64 x1.2.Boot),.d (.int .i64 x1.2.Yours),.d (.int .i64 x1.2.Turn),.d (.int .i64 x1.2.Num),.d (.int .i64 x1.2.Heard),.d (.int .i64 x1.2.Change.Kind),.d (.int .i64 x1.2.Change.Entry.Addr),.d (.int .i64 x1.2.Change.Entry.Len),.d (.int .i64 x1.2.Change.Entry.Cost),.d (.int .i64 x1.2.Change.Entry.Label),.d (.int .i64 x1.2.Sum)])],[]⟩) ?_ ?_
        · exact leX []
        · clear hx13;intro s10 y11 g12 hy11;(conv=>whnf);refine seq_in tOk ?_;(conv=>whnf);refine andI g12 (fun _ g12=>?_) (fun _ g12=>?_)
          · (conv=>whnf);refine seq_in tOk ?_;(conv=>whnf);obtain ⟨g14,g12⟩:=gd_some g12;obtain ⟨x15,hx15,g12⟩:=bd_some g12;obtain ⟨g16,g12⟩:=gd_some g12;refine draw_u tOk [.u 5 0 (.d (.bool x15)) []] 23 [] [0,0,0,6,14,31,63,127,255,511,1023,2047,4095,8191,8191,32767,65535,8191,139263,401407,1048575,2097151,4194303] [] ?_;(conv=>whnf);refine And.intro g14 ?_;clear g14;(conv=>whnf);refine And.intro (callD_any (laws_whHas_c hx15) (by kernel_rfl)) ?_;(conv=>whnf);refine And.intro g16 ?_;clear g16;(conv=>whnf);refine And.intro (by kernel_rfl) ?_;(conv=>whnf);refine andI g12 (fun _ g12=>?_) (fun _ g12=>?_)
            · (conv=>whnf);obtain rfl:=Option.some.inj g12;obtain rfl:=hy11 _ rfl;obtain rfl:=Option.some.inj h;exact lfP []
            · (conv=>whnf);obtain rfl:=Option.some.inj g12;exact ⟨_,rfl,leX []⟩
          · (conv=>whnf);obtain rfl:=Option.some.inj g12;obtain rfl:=hy11 _ rfl;refine seq_in tOk ?_;(conv=>whnf);obtain ⟨x22,hx22,h⟩:=bd_some h;refine loop_m tOk hx22 (fun s19=>⟨0,121,[(4,.ref 4 0 0),(5,.osl 6001 0 x2.length),(6,.osl 9001 0 x6.length),(8,.d (.int .i64 s19))],[],[(9001,.arr 36 4 x6.length (rows HelloEntry.enc x6)),(6001,.arr 36 4 x2.length (rows HelloEntry.enc x2)),(4,.box 45 [.d (.int .i64 x1.2.From),.d (.int .i64 x1.2.To),.d (.int .i64 x1.2.Key),.d (.int .i64 x1.2.Boot),.d (.int .i64 x1.2.Yours),.d (.int .i64 x1.2.Turn),.d (.int .i64 x1.2.Num),.d (.int .i64 x1.2.Heard),.d (.int .i64 x1.2.Change.Kind),.d (.int .i64 x1.2.Change.Entry.Addr),.d (.int .i64 x1.2.Change.Entry.Len),.d (.int .i64 x1.2.Change.Entry.Cost),.d (.int .i64 x1.2.Change.Entry.Label),.d (.int .i64 x1.2.Sum)])],[]⟩) ?_ ?_
            · exact leX []
            · clear hx22;intro s19 y20 g21 hy20;(conv=>whnf);refine seq_in tOk ?_;(conv=>whnf);refine andI g21 (fun _ g21=>?_) (fun _ g21=>?_)
              · (conv=>whnf);refine seq_in tOk ?_;(conv=>whnf);obtain ⟨g23,g21⟩:=gd_some g21;obtain ⟨g24,g21⟩:=gd_some g21;refine draw_u tOk [] 23 [] [0,0,3,7,15,0,32,96,224,511,1023,2047,2047,8191,16383,32767,2047,67583,198655,460799,1048575,2097151,4194303] [] ?_;(conv=>whnf);refine And.intro g23 ?_;clear g23;(conv=>whnf);refine And.intro g24 ?_;clear g24;(conv=>whnf);refine And.intro (by kernel_rfl) ?_;(conv=>whnf);refine gdI g21 (fun g21=>?_);(conv=>whnf);obtain ⟨x26,hx26,g21⟩:=bd_some g21;refine cC 0 (laws_whHas_c hx26) ?_;clear hx26;(conv=>whnf);refine andI g21 (fun _ g21=>?_) (fun _ g21=>?_)
                · (conv=>whnf);obtain rfl:=Option.some.inj g21;obtain rfl:=hy20 _ rfl;obtain rfl:=Option.some.inj h;exact lfP []
                · (conv=>whnf);obtain rfl:=Option.some.inj g21;exact ⟨_,rfl,leX []⟩
              · (conv=>whnf);obtain rfl:=Option.some.inj g21;obtain rfl:=hy20 _ rfl;obtain rfl:=Option.some.inj h;exact lfP []
end Go.Proofs.YtaoeomoepefojaaGreat
