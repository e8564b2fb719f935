/-
  What some of the program's functions compute: their models, and that the functions compute these; no condition.
-/
import Derived.Test.YtaoeomoepefojaaGreatTyz
import Derived.Test.YtaoeomoepefojaaGreatTbz
import Derived.Test.YtaoeomoepefojaaGreatAbz7
import Derived.Test.YtaoeomoepefojaaGreatKz4
set_option linter.all false
namespace Go.Proofs.YtaoeomoepefojaaGreat
open Go Go.Ab
set_option maxRecDepth 100000
set_option maxHeartbeats 40000000
noncomputable def impl_HelloEnd_heardOk_m (a0:HelloEnd):Option (Bool) :=
 bd (lp (σ:=Int) (β:=(Unit ⊕ Unit)) (fun s1 =>
(if (decide (s1<((a0.Heard.length:Nat):Int))) = true then
 gd ((0:Int)≤s1∧s1<((a0.Heard.length:Nat):Int)) <|
 bd (impl_HelloEntry_ok_m ((a0.Heard.getD s1.toNat default).Entry)) fun x6 =>
 gd ((decide (s1 > 0)) = true → (((!x6) || ((a0.Left == 0) && (!((a0.Heard.getD s1.toNat default).Stale)))) = false → ((0:Int)≤IntKind.i64.wrap (s1 - 1)∧IntKind.i64.wrap (s1 - 1)<((a0.Heard.length:Nat):Int)))) <|
 bd (gcall ((decide (s1 > 0)) = true∧((!x6) || ((a0.Left == 0) && (!((a0.Heard.getD s1.toNat default).Stale)))) = false) (impl_HelloEntry_prefix_m ((a0.Heard.getD ((IntKind.i64.wrap (s1 - 1)).toNat) default).Entry))) fun x8 =>
 bd (gcall ((decide (s1 > 0)) = true∧((!x6) || ((a0.Left == 0) && (!((a0.Heard.getD s1.toNat default).Stale)))) = false) (impl_HelloEntry_prefix_m ((a0.Heard.getD s1.toNat default).Entry))) fun x9 =>
 bd (gcall ((decide (s1 > 0)) = true∧((!x6) || ((a0.Left == 0) && (!((a0.Heard.getD s1.toNat default).Stale)))) = false) (impl_comparePrefix_m x8 x9)) fun x10 =>
(if (((!x6) || ((a0.Left == 0) && (!((a0.Heard.getD s1.toNat default).Stale)))) || ((decide (s1 > 0)) && (decide (x10 ≥ 0)))) = true then
 some (.inr (.inl ()))
else
 some (.inl (IntKind.i64.wrap (s1+1))))
else
 some (.inr (.inr ())))) 0) fun x4 =>
(match x4 with
| .inl d11 =>
 some false
| .inr d12 =>
 bd (gcall ((decide (((a0.Heard.length:Nat):Int)≤16)) = true) (impl_within_m a0.Keep 0 6)) fun x13 =>
 bd (gcall (((decide (((a0.Heard.length:Nat):Int)≤16)) && x13) = true) (impl_anyStale_m a0.Heard)) fun x14 =>
 some (((decide (((a0.Heard.length:Nat):Int)≤16)) && x13) && ((decide (a0.Keep > 0)) == x14)))
theorem impl_HelloEnd_heardOk_c {a0:HelloEnd} {r:Bool} (h:impl_HelloEnd_heardOk_m a0 = some r):PureC Tryz.prog 68 [.agg [.d (.int .i64 a0.Name),.d (.int .i64 a0.Peer),.d (slD HelloKey.enc a0.Keys),.d (.int .i64 a0.Boot),.d (slD HelloEntry.enc a0.Want),.d (.int .i64 a0.Turn),.d (.int .i64 a0.PeerBoot),.d (.int .i64 a0.PeerTurn),.d (.bool a0.Up),.d (.int .i64 a0.Left),.d (.int .i64 a0.Num),.d (.int .i64 a0.Under.Kind),.d (.int .i64 a0.Under.Entry.Addr),.d (.int .i64 a0.Under.Entry.Len),.d (.int .i64 a0.Under.Entry.Cost),.d (.int .i64 a0.Under.Entry.Label),.d (slD HelloEntry.enc a0.Told),.d (.bool a0.All),.d (.int .i64 a0.Got),.d (.bool a0.Full),.d (slD HelloRoute.enc a0.Heard),.d (.int .i64 a0.Keep)]] (.d (.bool r)) []:=by
  refine pureC_x tOk (fn:=Tryz.f68) (c:=codeOf Tryz.f68) rfl rfl ?_;unfold impl_HelloEnd_heardOk_m at h;(conv=>whnf);refine seq_in tOk ?_;(conv=>whnf);obtain ⟨x4,hx4,h⟩:=bd_some h;refine loop_m tOk hx4 (fun s1=>⟨0,65,[(1,.ref 1 0 0),(6,.d (slD HelloRoute.enc a0.Heard)),(7,.d (.int .i64 ((a0.Heard.length:Nat):Int))),(8,.d (.int .i64 s1))],[],[(1,.box 41 [.d (.int .i64 a0.Name),.d (.int .i64 a0.Peer),.d (slD HelloKey.enc a0.Keys),.d (.int .i64 a0.Boot),.d (slD HelloEntry.enc a0.Want),.d (.int .i64 a0.Turn),.d (.int .i64 a0.PeerBoot),.d (.int .i64 a0.PeerTurn),.d (.bool a0.Up),.d (.int .i64 a0.Left),.d (.int .i64 a0.Num),.d (.int .i64 a0.Under.Kind),.d (.int .i64 a0.Under.Entry.Addr),.d (.int .i64 a0.Under.Entry.Len),.d (.int .i64 a0.Under.Entry.Cost),.d (.int .i64 a0.Under.Entry.Label),.d (slD HelloEntry.enc a0.Told),.d (.bool a0.All),.d (.int .i64 a0.Got),.d (.bool a0.Full),.d (slD HelloRoute.enc a0.Heard),.d (.int .i64 a0.Keep)])],[]⟩) ?_ ?_
  · exact leX []
  · clear hx4;intro s1 y2 g3 hy2;(conv=>whnf);refine seq_in tOk ?_;(conv=>whnf);refine andI g3 (fun _ g3=>?_) (fun _ g3=>?_)
    · (conv=>whnf);refine seq_in tOk ?_;(conv=>whnf);refine gdI g3 (fun g3=>?_);(conv=>whnf);obtain ⟨x6,hx6,g3⟩:=bd_some g3;obtain ⟨g7,g3⟩:=gd_some g3;obtain ⟨x8,hx8,g3⟩:=bd_some g3;obtain ⟨x9,hx9,g3⟩:=bd_some g3;obtain ⟨x10,hx10,g3⟩:=bd_some g3;refine draw_u tOk [.u 2 0 (.d (.bool x6)) [],.u 25 0 (.agg [.d (.int .i64 x8.Addr),.d (.int .i64 x8.Len)]) [],.u 28 0 (.agg [.d (.int .i64 x9.Addr),.d (.int .i64 x9.Len)]) [],.u 29 0 (.d (.int .i64 x10)) []] 33 [] [0,1,3,7,15,31,63,127,255,511,1023,2047,4095,8191,16383,32767,65535,131071,262143,524287,262143,1310719,4194303,8388607,16777215,33554431,262143,67371007,268435455,536870911,1073741823,2147483647,4294967295] [] ?_;(conv=>whnf);refine And.intro (callD_any (impl_HelloEntry_ok_c hx6) (by kernel_rfl)) ?_;(conv=>whnf);refine And.intro g7 ?_;clear g7;(conv=>whnf);refine And.intro (callDG_if rfl rfl rfl rfl (by intro c0 c1; exact impl_HelloEntry_prefix_c (gcall_some hx8 ⟨c0,c1⟩))) ?_;(conv=>whnf);refine And.intro (callDG_if rfl rfl rfl rfl (by intro c0 c1; exact impl_HelloEntry_prefix_c (gcall_some hx9 ⟨c0,c1⟩))) ?_;(conv=>whnf);refine And.intro (callDG_if rfl rfl rfl rfl (by intro c0 c1; exact impl_comparePrefix_c (gcall_some hx10 ⟨c0,c1⟩))) ?_;(conv=>whnf);refine And.intro (by kernel_rfl) ?_;(conv=>whnf);refine andI g3 (fun _ g3=>?_) (fun _ g3=>?_)
      · (conv=>whnf);obtain rfl:=Option.some.inj g3;obtain rfl:=hy2 _ rfl;obtain rfl:=Option.some.inj h;exact lfP []
      · (conv=>whnf);obtain rfl:=Option.some.inj g3;exact ⟨_,rfl,leX []⟩
    · (conv=>whnf);obtain rfl:=Option.some.inj g3;obtain rfl:=hy2 _ rfl;obtain ⟨x13,hx13,h⟩:=bd_some h;obtain ⟨x14,hx14,h⟩:=bd_some h;refine draw_u tOk [.u 7 0 (.d (.bool x13)) [],.u 15 0 (.d (.bool x14)) []] 19 [] [0,1,3,7,15,31,63,127,255,511,1023,2047,4095,1023,9215,25599,65535,131071,262143] [] ?_;(conv=>whnf);refine And.intro (callDG_if rfl rfl rfl rfl (by intro c0; exact impl_within_c (gcall_some hx13 c0))) ?_;(conv=>whnf);refine And.intro (callDG_if rfl rfl rfl rfl (by intro c0; exact impl_anyStale_c (gcall_some hx14 c0))) ?_;(conv=>whnf);refine And.intro (by kernel_rfl) ?_;(conv=>whnf);obtain rfl:=Option.some.inj h;exact lfP []
noncomputable def impl_HelloEndOk_m (a0:HelloEnd):Option (Bool) :=
 bd (impl_within_m a0.Name 0 65535) fun x1 =>
 bd (gcall ((!x1) = false) (impl_within_m a0.Peer 0 65535)) fun x2 =>
 bd (gcall ((((!x1) || (!x2)) || (a0.Name == a0.Peer)) = false) (impl_HelloKeysOk_m a0.Keys)) fun x3 =>
(if ((((!x1) || (!x2)) || (a0.Name == a0.Peer)) || (!x3)) = true then
 some false
else
 bd (impl_within_m a0.Boot 1 1000) fun x4 =>
 bd (gcall ((!x4) = false) (impl_within_m a0.Turn 0 1000000)) fun x5 =>
 bd (gcall (((!x4) || (!x5)) = false) (impl_within_m a0.PeerTurn 0 1000000)) fun x6 =>
 bd (gcall ((((!x4) || (!x5)) || (!x6)) = false) (impl_within_m a0.Got 0 1000000)) fun x7 =>
(if ((((!x4) || (!x5)) || (!x6)) || (!x7)) = true then
 some false
else
 bd (impl_within_m a0.PeerBoot 0 999) fun x8 =>
(if ((!x8) || (!((a0.PeerBoot == 0) == (a0.PeerTurn == 0)))) = true then
 some false
else
 bd (impl_within_m a0.Left 0 4) fun x9 =>
(if (((!x9) || ((a0.PeerBoot == 0) && (a0.Left != 0))) || (a0.Up && (a0.Left == 0))) = true then
 some false
else
 bd (impl_within_m a0.Num 0 a0.Turn) fun x10 =>
 bd (gcall ((!x10) = false) (impl_HelloChange_ok_m a0.Under)) fun x11 =>
(if (((!x10) || (!x11)) || ((a0.Num == 0) && (a0.Under.Kind != 0))) = true then
 some false
else
 bd (impl_HelloTableOk_m a0.Want) fun x12 =>
 bd (gcall ((!x12) = false) (impl_HelloTableOk_m a0.Told)) fun x13 =>
 bd (gcall (((!x12) || (!x13)) = false) (impl_changed_fz_m a0.Told a0.Under)) fun x14 =>
 bd (gcall (((!x12) || (!x13)) = false) (impl_HelloTableOk_m x14)) fun x15 =>
(if (((!x12) || (!x13)) || (!x15)) = true then
 some false
else
 bd (impl_HelloEnd_heardOk_m a0) fun x16 =>
 some x16))))))
theorem impl_HelloEndOk_c {a0:HelloEnd} {r:Bool} (h:impl_HelloEndOk_m a0 = some r):PureC Tryz.prog 21 [.agg [.d (.int .i64 a0.Name),.d (.int .i64 a0.Peer),.d (slD HelloKey.enc a0.Keys),.d (.int .i64 a0.Boot),.d (slD HelloEntry.enc a0.Want),.d (.int .i64 a0.Turn),.d (.int .i64 a0.PeerBoot),.d (.int .i64 a0.PeerTurn),.d (.bool a0.Up),.d (.int .i64 a0.Left),.d (.int .i64 a0.Num),.d (.int .i64 a0.Under.Kind),.d (.int .i64 a0.Under.Entry.Addr),.d (.int .i64 a0.Under.Entry.Len),.d (.int .i64 a0.Under.Entry.Cost),.d (.int .i64 a0.Under.Entry.Label),.d (slD HelloEntry.enc a0.Told),.d (.bool a0.All),.d (.int .i64 a0.Got),.d (.bool a0.Full),.d (slD HelloRoute.enc a0.Heard),.d (.int .i64 a0.Keep)]] (.d (.bool r)) []:=by
  refine pureC_x tOk (fn:=Tryz.f21) (c:=codeOf Tryz.f21) rfl rfl ?_;unfold impl_HelloEndOk_m at h;(conv=>whnf);refine seq_in tOk ?_;(conv=>whnf);obtain ⟨x1,hx1,h⟩:=bd_some h;refine cC 0 (impl_within_c hx1) ?_;clear hx1;(conv=>whnf);obtain ⟨x2,hx2,h⟩:=bd_some h;refine cG (fun c0=>impl_within_c (gcall_some hx2 c0)) ?_;(conv=>whnf);obtain ⟨x3,hx3,h⟩:=bd_some h;refine cG (fun c0=>impl_HelloKeysOk_c (gcall_some hx3 c0)) ?_;(conv=>whnf);refine andI h (fun _ h=>?_) (fun _ h=>?_)
  · (conv=>whnf);obtain rfl:=Option.some.inj h;exact lfP []
  · (conv=>whnf);obtain ⟨x4,hx4,h⟩:=bd_some h;refine cC 0 (impl_within_c hx4) ?_;clear hx4;(conv=>whnf);obtain ⟨x5,hx5,h⟩:=bd_some h;refine cG (fun c0=>impl_within_c (gcall_some hx5 c0)) ?_;(conv=>whnf);obtain ⟨x6,hx6,h⟩:=bd_some h;refine cG (fun c0=>impl_within_c (gcall_some hx6 c0)) ?_;(conv=>whnf);obtain ⟨x7,hx7,h⟩:=bd_some h;refine cG (fun c0=>impl_within_c (gcall_some hx7 c0)) ?_;(conv=>whnf);refine andI h (fun _ h=>?_) (fun _ h=>?_)
    · (conv=>whnf);obtain rfl:=Option.some.inj h;exact lfP []
    · (conv=>whnf);obtain ⟨x8,hx8,h⟩:=bd_some h;refine cC 0 (impl_within_c hx8) ?_;clear hx8;(conv=>whnf);refine andI h (fun _ h=>?_) (fun _ h=>?_)
      · (conv=>whnf);obtain rfl:=Option.some.inj h;exact lfP []
      · (conv=>whnf);obtain ⟨x9,hx9,h⟩:=bd_some h;refine cC 0 (impl_within_c hx9) ?_;clear hx9;(conv=>whnf);refine andI h (fun _ h=>?_) (fun _ h=>?_)
        · (conv=>whnf);obtain rfl:=Option.some.inj h;exact lfP []
        · (conv=>whnf);obtain ⟨x10,hx10,h⟩:=bd_some h;refine cC 0 (impl_within_c hx10) ?_;clear hx10;(conv=>whnf);obtain ⟨x11,hx11,h⟩:=bd_some h;refine cG (fun c0=>impl_HelloChange_ok_c (gcall_some hx11 c0)) ?_;(conv=>whnf);refine andI h (fun _ h=>?_) (fun _ h=>?_)
          · (conv=>whnf);obtain rfl:=Option.some.inj h;exact lfP []
          · (conv=>whnf);obtain ⟨x12,hx12,h⟩:=bd_some h;refine cC 0 (impl_HelloTableOk_c hx12) ?_;clear hx12;(conv=>whnf);obtain ⟨x13,hx13,h⟩:=bd_some h;refine cG (fun c0=>impl_HelloTableOk_c (gcall_some hx13 c0)) ?_;(conv=>whnf);obtain ⟨x14,hx14,h⟩:=bd_some h;refine callG_e [] 0 rfl rfl rfl (by intro c0; exact impl_changed_fz_c (gcall_some hx14 c0)) argA inA rfl rfl (condN_of inA) ?_;(conv=>whnf);obtain ⟨x15,hx15,h⟩:=bd_some h;refine cG (fun c0=>impl_HelloTableOk_c (gcall_some hx15 c0)) ?_;(conv=>whnf);refine andI h (fun _ h=>?_) (fun _ h=>?_)
            · (conv=>whnf);obtain rfl:=Option.some.inj h;exact lfP []
            · (conv=>whnf);obtain ⟨x16,hx16,h⟩:=bd_some h;refine cC 0 (impl_HelloEnd_heardOk_c hx16) ?_;clear hx16;(conv=>whnf);obtain rfl:=Option.some.inj h;exact lfP []
noncomputable def impl_entriesOf_m (a0:(List HelloRoute)):Option ((List HelloEntry)) :=
 bd (lp (σ:=List HelloEntry × Int) (β:=(Nat × (List HelloEntry))) (fun s1 =>
(if (decide (s1.2<((a0.length:Nat):Int))) = true then
 gd ((0:Int)≤s1.2∧s1.2<((a0.length:Nat):Int)) <|
 gd (((s1.1.length)+(([((a0.getD s1.2.toNat default).Entry)]:List HelloEntry).length)) * (32+1)≤70368744177664) <|
 some (.inl ((s1.1 ++ ([((a0.getD s1.2.toNat default).Entry)]:List HelloEntry)),IntKind.i64.wrap (s1.2+1)))
else
 some (.inr (s1.1.length,s1.1)))) (([]:List HelloEntry),0)) fun x4 =>
 some x4.2
theorem impl_entriesOf_c {a0:(List HelloRoute)} {r:(List HelloEntry)} (h:impl_entriesOf_m a0 = some r):PureC Tryz.prog 51 [.d (slD HelloRoute.enc a0)] (.osl 5001 0 r.length) [⟨5001,36,4,r.length,rows HelloEntry.enc r⟩]:=by
  refine pureC_x tOk (fn:=Tryz.f51) (c:=codeOf Tryz.f51) rfl rfl ?_;unfold impl_entriesOf_m at h;(conv=>whnf);refine seq_in tOk ?_;(conv=>whnf);obtain ⟨x4,hx4,h⟩:=bd_some h;refine loop_m tOk hx4 (fun s1=>⟨0,20,[(3,.osl 7001 0 s1.1.length),(7,.d (slD HelloRoute.enc a0)),(8,.d (.int .i64 ((a0.length:Nat):Int))),(9,.d (.int .i64 s1.2))],[],[(7001,.arr 36 4 s1.1.length (rows HelloEntry.enc s1.1))],[]⟩) ?_ ?_
  · exact leX [.p 7001 36 4 (rows HelloEntry.enc ([]:List HelloEntry))]
  · clear hx4;intro s1 y2 g3 hy2;(conv=>whnf);refine seq_in tOk ?_;(conv=>whnf);refine andI g3 (fun _ g3=>?_) (fun _ g3=>?_)
    · (conv=>whnf);refine seq_in tOk ?_;(conv=>whnf);refine gdI g3 (fun g3=>?_);(conv=>whnf);refine bldS (enc:=HelloEntry.enc) ([((a0.getD s1.2.toNat default).Entry)]:List HelloEntry) ?_;(conv=>whnf);refine gdI g3 (fun g3=>?_);refine appS (enc:=HelloEntry.enc) (xs:=s1.1) (ys:=([((a0.getD s1.2.toNat default).Entry)]:List HelloEntry)) ?_;(conv=>whnf);obtain rfl:=Option.some.inj g3;exact ⟨_,rfl,leX []⟩
    · (conv=>whnf);obtain rfl:=Option.some.inj g3;obtain rfl:=hy2 _ rfl;obtain rfl:=Option.some.inj h;exact lfP [.s [(5001,7001),(7001,5001)]]
noncomputable def impl_HelloUse_m (a0:HelloEnd):Option ((List HelloEntry)) :=
 bd (impl_HelloEndOk_m a0) fun x1 =>
(if (!x1) = true then
 some []
else
 bd (impl_entriesOf_m a0.Heard) fun x2 =>
 some x2)
theorem impl_HelloUse_c {a0:HelloEnd} {r:(List HelloEntry)} (h:impl_HelloUse_m a0 = some r):PureC Tryz.prog 16 [.agg [.d (.int .i64 a0.Name),.d (.int .i64 a0.Peer),.d (slD HelloKey.enc a0.Keys),.d (.int .i64 a0.Boot),.d (slD HelloEntry.enc a0.Want),.d (.int .i64 a0.Turn),.d (.int .i64 a0.PeerBoot),.d (.int .i64 a0.PeerTurn),.d (.bool a0.Up),.d (.int .i64 a0.Left),.d (.int .i64 a0.Num),.d (.int .i64 a0.Under.Kind),.d (.int .i64 a0.Under.Entry.Addr),.d (.int .i64 a0.Under.Entry.Len),.d (.int .i64 a0.Under.Entry.Cost),.d (.int .i64 a0.Under.Entry.Label),.d (slD HelloEntry.enc a0.Told),.d (.bool a0.All),.d (.int .i64 a0.Got),.d (.bool a0.Full),.d (slD HelloRoute.enc a0.Heard),.d (.int .i64 a0.Keep)]] (.osl 5001 0 r.length) [⟨5001,36,4,r.length,rows HelloEntry.enc r⟩]:=by
  refine pureC_x tOk (fn:=Tryz.f16) (c:=codeOf Tryz.f16) rfl rfl ?_;unfold impl_HelloUse_m at h;(conv=>whnf);refine seq_in tOk ?_;(conv=>whnf);obtain ⟨x1,hx1,h⟩:=bd_some h;refine cC 0 (impl_HelloEndOk_c hx1) ?_;clear hx1;(conv=>whnf);refine andI h (fun _ h=>?_) (fun _ h=>?_)
  · (conv=>whnf);obtain rfl:=Option.some.inj h;exact lfP [.k [1],.p 5001 36 4 (rows HelloEntry.enc ([]:List HelloEntry))]
  · (conv=>whnf);obtain ⟨x2,hx2,h⟩:=bd_some h;refine cC 1000 (impl_entriesOf_c hx2) ?_;clear hx2;(conv=>whnf);obtain rfl:=Option.some.inj h;exact lfP [.s [(5001,6001),(6001,5001)]]
noncomputable def impl_clone_HelloKey_m (a0:(List HelloKey)):Option ((List HelloKey)) :=
 gd ((0:Int)≤0∧0≤((a0.length:Nat):Int)∧((a0.length:Nat):Int) * 16≤140737488355328∧((a0.length:Nat):Int)≤140737488355328) <|
 gd ((((List.replicate (0:Int).toNat (default:HelloKey)).length)+(a0.length)) * (16+1)≤70368744177664) <|
 some ((List.replicate (0:Int).toNat (default:HelloKey)) ++ a0)
theorem impl_clone_HelloKey_c {a0:(List HelloKey)} {r:(List HelloKey)} (h:impl_clone_HelloKey_m a0 = some r):PureC Tryz.prog 86 [.d (slD HelloKey.enc a0)] (.osl 5001 0 r.length) [⟨5001,90,2,r.length,rows HelloKey.enc r⟩]:=by
  refine pureC_x tOk (fn:=Tryz.f86) (c:=codeOf Tryz.f86) rfl rfl ?_;unfold impl_clone_HelloKey_m at h;(conv=>whnf);obtain ⟨g2,h⟩:=gd_some h;refine And.intro g2 ?_;clear g2;refine ⟨(List.replicate (0:Int).toNat (default:HelloKey)).length,rows HelloKey.enc (List.replicate (0:Int).toNat (default:HelloKey)),by simp,make_rows rfl,?_⟩;(conv=>whnf);refine gdI h (fun h=>?_);refine appS (enc:=HelloKey.enc) (xs:=(List.replicate (0:Int).toNat (default:HelloKey))) (ys:=a0) ?_;(conv=>whnf);obtain rfl:=Option.some.inj h;exact lfP [.s [(5,5001),(5001,5)]]
noncomputable def impl_clone_HelloRoute_m (a0:(List HelloRoute)):Option ((List HelloRoute)) :=
 gd ((0:Int)≤0∧0≤((a0.length:Nat):Int)∧((a0.length:Nat):Int) * 40≤140737488355328∧((a0.length:Nat):Int)≤140737488355328) <|
 gd ((((List.replicate (0:Int).toNat (default:HelloRoute)).length)+(a0.length)) * (40+1)≤70368744177664) <|
 some ((List.replicate (0:Int).toNat (default:HelloRoute)) ++ a0)
theorem impl_clone_HelloRoute_c {a0:(List HelloRoute)} {r:(List HelloRoute)} (h:impl_clone_HelloRoute_m a0 = some r):PureC Tryz.prog 88 [.d (slD HelloRoute.enc a0)] (.osl 5001 0 r.length) [⟨5001,94,5,r.length,rows HelloRoute.enc r⟩]:=by
  refine pureC_x tOk (fn:=Tryz.f88) (c:=codeOf Tryz.f88) rfl rfl ?_;unfold impl_clone_HelloRoute_m at h;(conv=>whnf);obtain ⟨g2,h⟩:=gd_some h;refine And.intro g2 ?_;clear g2;refine ⟨(List.replicate (0:Int).toNat (default:HelloRoute)).length,rows HelloRoute.enc (List.replicate (0:Int).toNat (default:HelloRoute)),by simp,make_rows rfl,?_⟩;(conv=>whnf);refine gdI h (fun h=>?_);refine appS (enc:=HelloRoute.enc) (xs:=(List.replicate (0:Int).toNat (default:HelloRoute))) (ys:=a0) ?_;(conv=>whnf);obtain rfl:=Option.some.inj h;exact lfP [.s [(5,5001),(5001,5)]]
noncomputable def impl_copyEnd_m (a0:HelloEnd):Option (HelloEnd) :=
 bd (impl_clone_HelloKey_m a0.Keys) fun x1 =>
 bd (impl_clone_HelloEntry_m a0.Want) fun x2 =>
 bd (impl_clone_HelloEntry_m a0.Told) fun x3 =>
 bd (impl_clone_HelloRoute_m a0.Heard) fun x4 =>
 some ({ a0 with Keys:=x1,Want:=x2,Told:=x3,Heard:=x4 })
theorem impl_copyEnd_c {a0:HelloEnd} {r:HelloEnd} (h:impl_copyEnd_m a0 = some r):PureC Tryz.prog 37 [.agg [.d (.int .i64 a0.Name),.d (.int .i64 a0.Peer),.d (slD HelloKey.enc a0.Keys),.d (.int .i64 a0.Boot),.d (slD HelloEntry.enc a0.Want),.d (.int .i64 a0.Turn),.d (.int .i64 a0.PeerBoot),.d (.int .i64 a0.PeerTurn),.d (.bool a0.Up),.d (.int .i64 a0.Left),.d (.int .i64 a0.Num),.d (.int .i64 a0.Under.Kind),.d (.int .i64 a0.Under.Entry.Addr),.d (.int .i64 a0.Under.Entry.Len),.d (.int .i64 a0.Under.Entry.Cost),.d (.int .i64 a0.Under.Entry.Label),.d (slD HelloEntry.enc a0.Told),.d (.bool a0.All),.d (.int .i64 a0.Got),.d (.bool a0.Full),.d (slD HelloRoute.enc a0.Heard),.d (.int .i64 a0.Keep)]] (.agg [.d (.int .i64 r.Name),.d (.int .i64 r.Peer),.osl 5001 0 r.Keys.length,.d (.int .i64 r.Boot),.osl 5002 0 r.Want.length,.d (.int .i64 r.Turn),.d (.int .i64 r.PeerBoot),.d (.int .i64 r.PeerTurn),.d (.bool r.Up),.d (.int .i64 r.Left),.d (.int .i64 r.Num),.d (.int .i64 r.Under.Kind),.d (.int .i64 r.Under.Entry.Addr),.d (.int .i64 r.Under.Entry.Len),.d (.int .i64 r.Under.Entry.Cost),.d (.int .i64 r.Under.Entry.Label),.osl 5003 0 r.Told.length,.d (.bool r.All),.d (.int .i64 r.Got),.d (.bool r.Full),.osl 5004 0 r.Heard.length,.d (.int .i64 r.Keep)]) [⟨5001,90,2,r.Keys.length,rows HelloKey.enc r.Keys⟩,⟨5002,36,4,r.Want.length,rows HelloEntry.enc r.Want⟩,⟨5003,36,4,r.Told.length,rows HelloEntry.enc r.Told⟩,⟨5004,94,5,r.Heard.length,rows HelloRoute.enc r.Heard⟩]:=by
  refine pureC_x tOk (fn:=Tryz.f37) (c:=codeOf Tryz.f37) rfl rfl ?_;unfold impl_copyEnd_m at h;(conv=>whnf);obtain ⟨x1,hx1,h⟩:=bd_some h;obtain ⟨x2,hx2,h⟩:=bd_some h;obtain ⟨x3,hx3,h⟩:=bd_some h;obtain ⟨x4,hx4,h⟩:=bd_some h;refine draw_u tOk [.u 2 1000 (.osl 5001 0 x1.length) [⟨5001,90,2,x1.length,rows HelloKey.enc x1⟩],.u 5 2000 (.osl 5001 0 x2.length) [⟨5001,36,4,x2.length,rows HelloEntry.enc x2⟩],.u 8 3000 (.osl 5001 0 x3.length) [⟨5001,36,4,x3.length,rows HelloEntry.enc x3⟩],.u 11 4000 (.osl 5001 0 x4.length) [⟨5001,94,5,x4.length,rows HelloRoute.enc x4⟩]] 13 [] [0,1,3,0,8,31,0,64,255,0,512,2047,1759] [8191,16383,32767,65535,131071,262143,524287] ?_;(conv=>whnf);refine And.intro (callD_any (impl_clone_HelloKey_c hx1) (by kernel_rfl)) ?_;(conv=>whnf);refine And.intro (callD_any (impl_clone_HelloEntry_c hx2) (by kernel_rfl)) ?_;(conv=>whnf);refine And.intro (callD_any (impl_clone_HelloEntry_c hx3) (by kernel_rfl)) ?_;(conv=>whnf);refine And.intro (callD_any (impl_clone_HelloRoute_c hx4) (by kernel_rfl)) ?_;(conv=>whnf);refine And.intro (by kernel_rfl) ?_;(conv=>whnf);obtain rfl:=Option.some.inj h;exact lfP [.s [(5001,6001),(5002,7001),(5003,8001),(5004,9001),(6001,5001),(7001,5002),(8001,5003),(9001,5004)]]
noncomputable def impl_HelloEnd_dropStale_1_m (a0:HelloRoute):Option (Bool) :=
 some a0.Stale
theorem impl_HelloEnd_dropStale_1_c {a0:HelloRoute} {r:Bool} (h:impl_HelloEnd_dropStale_1_m a0 = some r):PureC Tryz.prog 136 [.agg [.d (.int .i64 a0.Entry.Addr),.d (.int .i64 a0.Entry.Len),.d (.int .i64 a0.Entry.Cost),.d (.int .i64 a0.Entry.Label),.d (.bool a0.Stale)]] (.d (.bool r)) []:=by
  refine pureC_x tOk (fn:=Tryz.f136) (c:=codeOf Tryz.f136) rfl rfl ?_;unfold impl_HelloEnd_dropStale_1_m at h;(conv=>whnf);obtain rfl:=Option.some.inj h;exact lfP []
noncomputable def slices_IndexFunc_HelloRoute_HelloRoute_impl_HelloEnd_dropStale_1_m (a0:(List HelloRoute)):Option (Int) :=
 bd (lp (σ:=Int) (β:=(Int ⊕ Unit)) (fun s1 =>
(if (decide (s1<((a0.length:Nat):Int))) = true then
 gd ((0:Int)≤s1∧s1<((a0.length:Nat):Int)) <|
 bd (impl_HelloEnd_dropStale_1_m (⟨((a0.getD s1.toNat default).Entry),(a0.getD s1.toNat default).Stale⟩:HelloRoute)) fun x6 =>
(if x6 = true then
 some (.inr (.inl s1))
else
 some (.inl (IntKind.i64.wrap (s1+1))))
else
 some (.inr (.inr ())))) 0) fun x4 =>
(match x4 with
| .inl d7 =>
 some d7
| .inr d8 =>
 some (-1))
theorem slices_IndexFunc_HelloRoute_HelloRoute_impl_HelloEnd_dropStale_1_c {a0:(List HelloRoute)} {r:Int} (h:slices_IndexFunc_HelloRoute_HelloRoute_impl_HelloEnd_dropStale_1_m a0 = some r):PureC Tryz.prog 144 [.d (slD HelloRoute.enc a0),.fn 136 []] (.d (.int .i64 r)) []:=by
  refine pureC_x tOk (fn:=Tryz.f144) (c:=codeOf Tryz.f144) rfl rfl ?_;unfold slices_IndexFunc_HelloRoute_HelloRoute_impl_HelloEnd_dropStale_1_m at h;(conv=>whnf);refine seq_in tOk ?_;(conv=>whnf);obtain ⟨x4,hx4,h⟩:=bd_some h;refine loop_m tOk hx4 (fun s1=>⟨0,19,[(0,.d (slD HelloRoute.enc a0)),(1,.fn 136 []),(7,.d (.int .i64 ((a0.length:Nat):Int))),(8,.d (.int .i64 s1))],[],[],[]⟩) ?_ ?_
  · exact leX []
  · clear hx4;intro s1 y2 g3 hy2;(conv=>whnf);refine seq_in tOk ?_;(conv=>whnf);refine andI g3 (fun _ g3=>?_) (fun _ g3=>?_)
    · (conv=>whnf);refine seq_in tOk ?_;(conv=>whnf);refine gdI g3 (fun g3=>?_);(conv=>whnf);obtain ⟨x6,hx6,g3⟩:=bd_some g3;refine cC 0 (impl_HelloEnd_dropStale_1_c hx6) ?_;clear hx6;(conv=>whnf);refine andI g3 (fun _ g3=>?_) (fun _ g3=>?_)
      · (conv=>whnf);obtain rfl:=Option.some.inj g3;obtain rfl:=hy2 _ rfl;obtain rfl:=Option.some.inj h;exact lfP []
      · (conv=>whnf);obtain rfl:=Option.some.inj g3;exact ⟨_,rfl,leX []⟩
    · (conv=>whnf);obtain rfl:=Option.some.inj g3;obtain rfl:=hy2 _ rfl;obtain rfl:=Option.some.inj h;exact lfP []
noncomputable def slices_DeleteFunc_HelloRoute_HelloRoute_impl_HelloEnd_dropStale_1_o00_m (a0:(List HelloRoute)):Option ((List HelloRoute)) :=
 bd (slices_IndexFunc_HelloRoute_HelloRoute_impl_HelloEnd_dropStale_1_m a0) fun x1 =>
(if (x1 == (-1)) = true then
 some a0
else
 bd (lp (σ:=List HelloRoute × Int × Int) (β:=(Nat × Int × (List HelloRoute))) (fun s2 =>
(if (decide (s2.2.2<((s2.1.length:Nat):Int))) = true then
 gd ((0:Int)≤s2.2.2∧s2.2.2<((s2.1.length:Nat):Int)) <|
 bd (impl_HelloEnd_dropStale_1_m (⟨((s2.1.getD s2.2.2.toNat default).Entry),(s2.1.getD s2.2.2.toNat default).Stale⟩:HelloRoute)) fun x7 =>
(if (!x7) = true then
 gd ((0:Int)≤s2.2.1∧s2.2.1<((s2.1.length:Nat):Int)) <|
 bd (some (s2.1.set s2.2.1.toNat (⟨((s2.1.getD s2.2.2.toNat default).Entry),(s2.1.getD s2.2.2.toNat default).Stale⟩:HelloRoute))) fun x9 =>
 some (.inl (x9,IntKind.i64.wrap (s2.2.1+1),IntKind.i64.wrap (s2.2.2+1)))
else
 some (.inl (s2.1,s2.2.1,IntKind.i64.wrap (s2.2.2+1))))
else
 some (.inr (s2.1.length,s2.2.1,s2.1)))) (a0,x1,IntKind.i64.wrap (x1+1))) fun x5 =>
 gd ((0:Int)≤x5.2.1∧x5.2.1≤((x5.1:Nat):Int)∧((x5.1:Nat):Int)≤((x5.1:Nat):Int)) <|
 gd ((0:Int)≤(0:Int)∧(0:Int)≤x5.2.1∧x5.2.1≤((x5.1:Nat):Int)) <|
 some ((clrL x5.2.2 x5.2.1.toNat (dsub ((x5.1:Nat):Int) x5.2.1)).take x5.2.1.toNat))
theorem slices_DeleteFunc_HelloRoute_HelloRoute_impl_HelloEnd_dropStale_1_o00_c {a0:(List HelloRoute)} {r:(List HelloRoute)} (h:slices_DeleteFunc_HelloRoute_HelloRoute_impl_HelloEnd_dropStale_1_o00_m a0 = some r):EffC Tryz.prog 135 [.osl 9000 0 a0.length,.fn 136 []] [(9000,.arr 94 5 a0.length (rows HelloRoute.enc a0))] (.osl 5001 0 r.length) [(5001,.arr 94 5 r.length (rows HelloRoute.enc r))]:=by
  refine effC_x tOk (fn:=Tryz.f135) (c:=codeOf Tryz.f135) rfl rfl ?_;unfold slices_DeleteFunc_HelloRoute_HelloRoute_impl_HelloEnd_dropStale_1_o00_m at h;(conv=>whnf);obtain ⟨x1,hx1,h⟩:=bd_some h;refine cC 0 (slices_IndexFunc_HelloRoute_HelloRoute_impl_HelloEnd_dropStale_1_c hx1) ?_;clear hx1;(conv=>whnf);refine seq_in tOk ?_;(conv=>whnf);refine andI h (fun _ h=>?_) (fun _ h=>?_)
  · (conv=>whnf);obtain rfl:=Option.some.inj h;exact lfE [.s [(5001,9000),(9000,5001)]]
  · (conv=>whnf);refine seq_in tOk ?_;(conv=>whnf);obtain ⟨x5,hx5,h⟩:=bd_some h;refine loop_m tOk hx5 (fun s2=>⟨0,42,[(0,.osl 9000 0 s2.1.length),(1,.fn 136 []),(5,.d (.int .i64 s2.2.1)),(6,.d (.int .i64 s2.2.2))],[],[(9000,.arr 94 5 s2.1.length (rows HelloRoute.enc s2.1))],[⟨[],[]⟩]⟩) ?_ ?_
    · exact leX []
    · clear hx5;intro s2 y3 g4 hy3;(conv=>whnf);refine seq_in tOk ?_;(conv=>whnf);refine andI g4 (fun _ g4=>?_) (fun _ g4=>?_)
      · (conv=>whnf);refine seq_in tOk ?_;(conv=>whnf);refine gdI g4 (fun g4=>?_);(conv=>whnf);obtain ⟨x7,hx7,g4⟩:=bd_some g4;refine cC 0 (impl_HelloEnd_dropStale_1_c hx7) ?_;clear hx7;(conv=>whnf);refine andI g4 (fun _ g4=>?_) (fun _ g4=>?_)
        · (conv=>whnf);refine gdI g4 (fun g4=>?_);(conv=>whnf);obtain ⟨x9,hx9,hlx9,g4⟩:=bd_set g4;refine setS (enc:=HelloRoute.enc) hx9 ?_;(conv=>whnf);obtain rfl:=Option.some.inj g4;exact ⟨_,rfl,leX []⟩
        · (conv=>whnf);obtain rfl:=Option.some.inj g4;exact ⟨_,rfl,leX []⟩
      · (conv=>whnf);obtain rfl:=Option.some.inj g4;obtain rfl:=hy3 _ rfl;dsimp only at h;obtain ⟨g11,h⟩:=gd_some h;refine And.intro g11 ?_;(conv=>whnf);refine ⟨rows HelloRoute.enc (clrL (s2.1.length,s2.2.1,s2.1).2.2 (s2.1.length,s2.2.1,s2.1).2.1.toNat (dsub (((s2.1.length,s2.2.1,s2.1).1:Nat):Int) (s2.1.length,s2.2.1,s2.1).2.1)),clr_rows lenA rfl,?_⟩;(conv=>whnf);obtain ⟨g12,h⟩:=gd_some h;refine And.intro g12 ?_;(conv=>whnf);obtain rfl:=Option.some.inj h;exact lfE [.c 4,.s [(5001,9000),(9000,5001)]]
noncomputable def impl_HelloEnd_dropStale_m (a0:HelloEnd):Option (HelloEnd) :=
 bd (slices_DeleteFunc_HelloRoute_HelloRoute_impl_HelloEnd_dropStale_1_o00_m a0.Heard) fun x1 =>
 some ({ a0 with Heard:=x1 })
theorem impl_HelloEnd_dropStale_c {a0:HelloEnd} {r:HelloEnd} (h:impl_HelloEnd_dropStale_m a0 = some r):EffC Tryz.prog 100 [.ref 9000 0 0] [(9000,.box 41 [.d (.int .i64 a0.Name),.d (.int .i64 a0.Peer),.d (slD HelloKey.enc a0.Keys),.d (.int .i64 a0.Boot),.d (slD HelloEntry.enc a0.Want),.d (.int .i64 a0.Turn),.d (.int .i64 a0.PeerBoot),.d (.int .i64 a0.PeerTurn),.d (.bool a0.Up),.d (.int .i64 a0.Left),.d (.int .i64 a0.Num),.d (.int .i64 a0.Under.Kind),.d (.int .i64 a0.Under.Entry.Addr),.d (.int .i64 a0.Under.Entry.Len),.d (.int .i64 a0.Under.Entry.Cost),.d (.int .i64 a0.Under.Entry.Label),.d (slD HelloEntry.enc a0.Told),.d (.bool a0.All),.d (.int .i64 a0.Got),.d (.bool a0.Full),.osl 9001 0 a0.Heard.length,.d (.int .i64 a0.Keep)]),(9001,.arr 94 5 a0.Heard.length (rows HelloRoute.enc a0.Heard))] (.tup []) [(9000,.box 41 [.d (.int .i64 a0.Name),.d (.int .i64 a0.Peer),.d (slD HelloKey.enc a0.Keys),.d (.int .i64 a0.Boot),.d (slD HelloEntry.enc a0.Want),.d (.int .i64 a0.Turn),.d (.int .i64 a0.PeerBoot),.d (.int .i64 a0.PeerTurn),.d (.bool a0.Up),.d (.int .i64 a0.Left),.d (.int .i64 a0.Num),.d (.int .i64 a0.Under.Kind),.d (.int .i64 a0.Under.Entry.Addr),.d (.int .i64 a0.Under.Entry.Len),.d (.int .i64 a0.Under.Entry.Cost),.d (.int .i64 a0.Under.Entry.Label),.d (slD HelloEntry.enc a0.Told),.d (.bool a0.All),.d (.int .i64 a0.Got),.d (.bool a0.Full),.osl 5001 0 r.Heard.length,.d (.int .i64 a0.Keep)]),(5001,.arr 94 5 r.Heard.length (rows HelloRoute.enc r.Heard))]:=by
  refine effC_x tOk (fn:=Tryz.f100) (c:=codeOf Tryz.f100) rfl rfl ?_;unfold impl_HelloEnd_dropStale_m at h;(conv=>whnf);obtain ⟨x1,hx1,h⟩:=bd_some h;refine cE [(9000,9001)] 1000 (slices_DeleteFunc_HelloRoute_HelloRoute_impl_HelloEnd_dropStale_1_o00_c hx1) ?_;(conv=>whnf);obtain rfl:=Option.some.inj h;exact lfE [.s [(5001,6001),(6001,5001)]]
noncomputable def impl_HelloEnd_beginAnew_m (a0:HelloEnd):Option (HelloEnd) :=
 bd (lp (σ:=List HelloRoute × Int) (β:=(Nat × (List HelloRoute))) (fun s1 =>
(if (decide (s1.2<((a0.Heard.length:Nat):Int))) = true then
 gd ((0:Int)≤s1.2∧s1.2<((s1.1.length:Nat):Int)) <|
 some (.inl (s1.1.set s1.2.toNat (⟨((s1.1.getD s1.2.toNat default).Entry),true⟩:HelloRoute),IntKind.i64.wrap (s1.2+1)))
else
 some (.inr (s1.1.length,s1.1)))) (a0.Heard,0)) fun x4 =>
(if ((decide (((x4.1:Nat):Int) > 0)) && (a0.Keep == 0)) = true then
 some ({ a0 with Up:=false,Num:=0,Under:=(⟨0,(⟨0,0,0,0⟩:HelloEntry)⟩:HelloChange),Told:=[],All:=false,Got:=0,Full:=false,Heard:=x4.2,Keep:=6 })
else
 some ({ a0 with Up:=false,Num:=0,Under:=(⟨0,(⟨0,0,0,0⟩:HelloEntry)⟩:HelloChange),Told:=[],All:=false,Got:=0,Full:=false,Heard:=x4.2 }))
theorem impl_HelloEnd_beginAnew_c {a0:HelloEnd} {r:HelloEnd} (h:impl_HelloEnd_beginAnew_m a0 = some r):EffC Tryz.prog 90 [.ref 9000 0 0] [(9000,.box 41 [.d (.int .i64 a0.Name),.d (.int .i64 a0.Peer),.d (slD HelloKey.enc a0.Keys),.d (.int .i64 a0.Boot),.d (slD HelloEntry.enc a0.Want),.d (.int .i64 a0.Turn),.d (.int .i64 a0.PeerBoot),.d (.int .i64 a0.PeerTurn),.d (.bool a0.Up),.d (.int .i64 a0.Left),.d (.int .i64 a0.Num),.d (.int .i64 a0.Under.Kind),.d (.int .i64 a0.Under.Entry.Addr),.d (.int .i64 a0.Under.Entry.Len),.d (.int .i64 a0.Under.Entry.Cost),.d (.int .i64 a0.Under.Entry.Label),.d (slD HelloEntry.enc a0.Told),.d (.bool a0.All),.d (.int .i64 a0.Got),.d (.bool a0.Full),.osl 9001 0 a0.Heard.length,.d (.int .i64 a0.Keep)]),(9001,.arr 94 5 a0.Heard.length (rows HelloRoute.enc a0.Heard))] (.tup []) [(9000,.box 41 [.d (.int .i64 a0.Name),.d (.int .i64 a0.Peer),.d (slD HelloKey.enc a0.Keys),.d (.int .i64 a0.Boot),.d (slD HelloEntry.enc a0.Want),.d (.int .i64 a0.Turn),.d (.int .i64 a0.PeerBoot),.d (.int .i64 a0.PeerTurn),.d (.bool r.Up),.d (.int .i64 a0.Left),.d (.int .i64 r.Num),.d (.int .i64 r.Under.Kind),.d (.int .i64 r.Under.Entry.Addr),.d (.int .i64 r.Under.Entry.Len),.d (.int .i64 r.Under.Entry.Cost),.d (.int .i64 r.Under.Entry.Label),.d (slD HelloEntry.enc r.Told),.d (.bool r.All),.d (.int .i64 r.Got),.d (.bool r.Full),.osl 5001 0 r.Heard.length,.d (.int .i64 r.Keep)]),(5001,.arr 94 5 r.Heard.length (rows HelloRoute.enc r.Heard))]:=by
  refine effC_x tOk (fn:=Tryz.f90) (c:=codeOf Tryz.f90) rfl rfl ?_;unfold impl_HelloEnd_beginAnew_m at h;(conv=>whnf);refine seq_in tOk ?_;(conv=>whnf);obtain ⟨x4,hx4,h⟩:=bd_some h;refine loop_m tOk hx4 (fun s1=>⟨0,57,[(0,.ref 9000 0 0),(29,.d (.int .i64 ((a0.Heard.length:Nat):Int))),(30,.d (.int .i64 s1.2))],[],[(9000,.box 41 [.d (.int .i64 a0.Name),.d (.int .i64 a0.Peer),.d (slD HelloKey.enc a0.Keys),.d (.int .i64 a0.Boot),.d (slD HelloEntry.enc a0.Want),.d (.int .i64 a0.Turn),.d (.int .i64 a0.PeerBoot),.d (.int .i64 a0.PeerTurn),.d (.bool false),.d (.int .i64 a0.Left),.d (.int .i64 0),.d (.int .i64 0),.d (.int .i64 0),.d (.int .i64 0),.d (.int .i64 0),.d (.int .i64 0),.d (.nil),.d (.bool false),.d (.int .i64 0),.d (.bool false),.osl 9001 0 s1.1.length,.d (.int .i64 a0.Keep)]),(9001,.arr 94 5 s1.1.length (rows HelloRoute.enc s1.1))],[⟨[(0,.ref 9000 0 0)],[]⟩]⟩) ?_ ?_
  · exact leX []
  · clear hx4;intro s1 y2 g3 hy2;(conv=>whnf);refine seq_in tOk ?_;(conv=>whnf);refine andI g3 (fun _ g3=>?_) (fun _ g3=>?_)
    · (conv=>whnf);refine seq_in tOk ?_;(conv=>whnf);refine gdI g3 (fun g3=>?_);(conv=>whnf);refine ⟨rows HelloRoute.enc (s1.1.set s1.2.toNat (⟨((s1.1.getD s1.2.toNat default).Entry),true⟩:HelloRoute)),store_rows' lenA rfl,?_⟩;(conv=>whnf);obtain rfl:=Option.some.inj g3;exact ⟨_,rfl,leX []⟩
    · (conv=>whnf);obtain rfl:=Option.some.inj g3;obtain rfl:=hy2 _ rfl;refine andI h (fun _ h=>?_) (fun _ h=>?_)
      · (conv=>whnf);obtain rfl:=Option.some.inj h;exact lfE [.s [(5001,9001),(9001,5001)]]
      · (conv=>whnf);obtain rfl:=Option.some.inj h;exact lfE [.s [(5001,9001),(9001,5001)]]
noncomputable def impl_HelloEnd_nextLife_m (a0:HelloEnd):Option (HelloEnd) :=
 bd (impl_HelloEnd_beginAnew_m ({ a0 with Boot:=(if 1000<(IntKind.i64.wrap (a0.Boot+1)) then 1000 else IntKind.i64.wrap (a0.Boot+1)),Turn:=0,Left:=0 })) fun x1 =>
 some ({ x1 with Name:=a0.Name,Peer:=a0.Peer,Keys:=a0.Keys,Boot:=(if 1000<(IntKind.i64.wrap (a0.Boot+1)) then 1000 else IntKind.i64.wrap (a0.Boot+1)),Want:=a0.Want,Turn:=0,PeerBoot:=a0.PeerBoot,PeerTurn:=a0.PeerTurn,Left:=0 })
theorem impl_HelloEnd_nextLife_c {a0:HelloEnd} {r:HelloEnd} (h:impl_HelloEnd_nextLife_m a0 = some r):EffC Tryz.prog 101 [.ref 9000 0 0] [(9000,.box 41 [.d (.int .i64 a0.Name),.d (.int .i64 a0.Peer),.d (slD HelloKey.enc a0.Keys),.d (.int .i64 a0.Boot),.d (slD HelloEntry.enc a0.Want),.d (.int .i64 a0.Turn),.d (.int .i64 a0.PeerBoot),.d (.int .i64 a0.PeerTurn),.d (.bool a0.Up),.d (.int .i64 a0.Left),.d (.int .i64 a0.Num),.d (.int .i64 a0.Under.Kind),.d (.int .i64 a0.Under.Entry.Addr),.d (.int .i64 a0.Under.Entry.Len),.d (.int .i64 a0.Under.Entry.Cost),.d (.int .i64 a0.Under.Entry.Label),.d (slD HelloEntry.enc a0.Told),.d (.bool a0.All),.d (.int .i64 a0.Got),.d (.bool a0.Full),.osl 9001 0 a0.Heard.length,.d (.int .i64 a0.Keep)]),(9001,.arr 94 5 a0.Heard.length (rows HelloRoute.enc a0.Heard))] (.tup []) [(9000,.box 41 [.d (.int .i64 a0.Name),.d (.int .i64 a0.Peer),.d (slD HelloKey.enc a0.Keys),.d (.int .i64 r.Boot),.d (slD HelloEntry.enc a0.Want),.d (.int .i64 r.Turn),.d (.int .i64 a0.PeerBoot),.d (.int .i64 a0.PeerTurn),.d (.bool r.Up),.d (.int .i64 r.Left),.d (.int .i64 r.Num),.d (.int .i64 r.Under.Kind),.d (.int .i64 r.Under.Entry.Addr),.d (.int .i64 r.Under.Entry.Len),.d (.int .i64 r.Under.Entry.Cost),.d (.int .i64 r.Under.Entry.Label),.d (slD HelloEntry.enc r.Told),.d (.bool r.All),.d (.int .i64 r.Got),.d (.bool r.Full),.osl 5001 0 r.Heard.length,.d (.int .i64 r.Keep)]),(5001,.arr 94 5 r.Heard.length (rows HelloRoute.enc r.Heard))]:=by
  refine effC_x tOk (fn:=Tryz.f101) (c:=codeOf Tryz.f101) rfl rfl ?_;unfold impl_HelloEnd_nextLife_m at h;(conv=>whnf);obtain ⟨x1,hx1,h⟩:=bd_some h;refine cE [(9000,9000),(9001,9001)] 1000 (impl_HelloEnd_beginAnew_c hx1) ?_;(conv=>whnf);obtain rfl:=Option.some.inj h;exact lfE [.s [(5001,6001),(6001,5001)]]
noncomputable def impl_HelloEnd_tick_m (a0:HelloEnd):Option (HelloEnd) :=
 bd (α:=List HelloRoute × Int) ((if (decide (a0.Keep > 0)) = true then
(if ((IntKind.i64.wrap (a0.Keep - 1)) == 0) = true then
 bd (impl_HelloEnd_dropStale_m ({ a0 with Keep:=IntKind.i64.wrap (a0.Keep - 1) })) fun x4 =>
 some (x4.Heard,IntKind.i64.wrap (a0.Keep - 1))
else
 some (a0.Heard,IntKind.i64.wrap (a0.Keep - 1)))
else
 some (a0.Heard,a0.Keep))) fun x1 =>
(if (decide (a0.Left > 0)) = true then
(if ((IntKind.i64.wrap (a0.Left - 1)) == 0) = true then
 bd (impl_HelloEnd_nextLife_m ({ a0 with Left:=IntKind.i64.wrap (a0.Left - 1),Heard:=x1.1,Keep:=x1.2 })) fun x5 =>
 some ({ x5 with Name:=a0.Name,Peer:=a0.Peer,Keys:=a0.Keys,Want:=a0.Want,PeerBoot:=a0.PeerBoot,PeerTurn:=a0.PeerTurn })
else
 some ({ a0 with Left:=IntKind.i64.wrap (a0.Left - 1),Heard:=x1.1,Keep:=x1.2 }))
else
 some ({ a0 with Heard:=x1.1,Keep:=x1.2 }))
theorem impl_HelloEnd_tick_c {a0:HelloEnd} {r:HelloEnd} (h:impl_HelloEnd_tick_m a0 = some r):EffC Tryz.prog 52 [.ref 9000 0 0] [(9000,.box 41 [.d (.int .i64 a0.Name),.d (.int .i64 a0.Peer),.d (slD HelloKey.enc a0.Keys),.d (.int .i64 a0.Boot),.d (slD HelloEntry.enc a0.Want),.d (.int .i64 a0.Turn),.d (.int .i64 a0.PeerBoot),.d (.int .i64 a0.PeerTurn),.d (.bool a0.Up),.d (.int .i64 a0.Left),.d (.int .i64 a0.Num),.d (.int .i64 a0.Under.Kind),.d (.int .i64 a0.Under.Entry.Addr),.d (.int .i64 a0.Under.Entry.Len),.d (.int .i64 a0.Under.Entry.Cost),.d (.int .i64 a0.Under.Entry.Label),.d (slD HelloEntry.enc a0.Told),.d (.bool a0.All),.d (.int .i64 a0.Got),.d (.bool a0.Full),.osl 9001 0 a0.Heard.length,.d (.int .i64 a0.Keep)]),(9001,.arr 94 5 a0.Heard.length (rows HelloRoute.enc a0.Heard))] (.tup []) [(9000,.box 41 [.d (.int .i64 a0.Name),.d (.int .i64 a0.Peer),.d (slD HelloKey.enc a0.Keys),.d (.int .i64 r.Boot),.d (slD HelloEntry.enc a0.Want),.d (.int .i64 r.Turn),.d (.int .i64 a0.PeerBoot),.d (.int .i64 a0.PeerTurn),.d (.bool r.Up),.d (.int .i64 r.Left),.d (.int .i64 r.Num),.d (.int .i64 r.Under.Kind),.d (.int .i64 r.Under.Entry.Addr),.d (.int .i64 r.Under.Entry.Len),.d (.int .i64 r.Under.Entry.Cost),.d (.int .i64 r.Under.Entry.Label),.d (slD HelloEntry.enc r.Told),.d (.bool r.All),.d (.int .i64 r.Got),.d (.bool r.Full),.osl 5001 0 r.Heard.length,.d (.int .i64 r.Keep)]),(5001,.arr 94 5 r.Heard.length (rows HelloRoute.enc r.Heard))]:=by
  refine effC_x tOk (fn:=Tryz.f52) (c:=codeOf Tryz.f52) rfl rfl ?_;unfold impl_HelloEnd_tick_m at h;(conv=>whnf);obtain ⟨x1,hx1,h⟩:=bd_some h;refine seq_join tOk (fun s2=>⟨0,40,[(0,.ref 9000 0 0)],[],[(6001,.arr 94 5 s2.1.length (rows HelloRoute.enc s2.1)),(9000,.box 41 [.d (.int .i64 a0.Name),.d (.int .i64 a0.Peer),.d (slD HelloKey.enc a0.Keys),.d (.int .i64 a0.Boot),.d (slD HelloEntry.enc a0.Want),.d (.int .i64 a0.Turn),.d (.int .i64 a0.PeerBoot),.d (.int .i64 a0.PeerTurn),.d (.bool a0.Up),.d (.int .i64 a0.Left),.d (.int .i64 a0.Num),.d (.int .i64 a0.Under.Kind),.d (.int .i64 a0.Under.Entry.Addr),.d (.int .i64 a0.Under.Entry.Len),.d (.int .i64 a0.Under.Entry.Cost),.d (.int .i64 a0.Under.Entry.Label),.d (slD HelloEntry.enc a0.Told),.d (.bool a0.All),.d (.int .i64 a0.Got),.d (.bool a0.Full),.osl 6001 0 s2.1.length,.d (.int .i64 s2.2)])],[⟨[(0,.ref 9000 0 0)],[]⟩]⟩) (fun s2=>x1 = s2) ?_ ?_
  · (conv=>whnf);refine andI hx1 (fun _ hx1=>?_) (fun _ hx1=>?_)
    · (conv=>whnf);refine andI hx1 (fun _ hx1=>?_) (fun _ hx1=>?_)
      · (conv=>whnf);obtain ⟨x4,hx4,hx1⟩:=bd_some hx1;refine cE [(9000,9000),(9001,9001)] 1000 (impl_HelloEnd_dropStale_c hx4) ?_;(conv=>whnf);obtain rfl:=Option.some.inj hx1;exact ⟨_,rfl,leX []⟩
      · (conv=>whnf);obtain rfl:=Option.some.inj hx1;exact ⟨_,rfl,leX [.s [(6001,9001),(9001,6001)]]⟩
    · (conv=>whnf);obtain rfl:=Option.some.inj hx1;exact ⟨_,rfl,leX [.s [(6001,9001),(9001,6001)]]⟩
  · rintro _ rfl;(conv=>whnf);refine andI h (fun _ h=>?_) (fun _ h=>?_)
    · (conv=>whnf);refine andI h (fun _ h=>?_) (fun _ h=>?_)
      · (conv=>whnf);obtain ⟨x5,hx5,h⟩:=bd_some h;refine cE [(9000,9000),(9001,6001)] 2000 (impl_HelloEnd_nextLife_c hx5) ?_;(conv=>whnf);obtain rfl:=Option.some.inj h;exact lfE [.s [(5001,7001),(7001,5001)]]
      · (conv=>whnf);obtain rfl:=Option.some.inj h;exact lfE [.s [(5001,6001),(6001,5001)]]
    · (conv=>whnf);obtain rfl:=Option.some.inj h;exact lfE [.s [(5001,6001),(6001,5001)]]
noncomputable def impl_HelloTick_m (a0:HelloEnd):Option (HelloEnd) :=
 bd (impl_HelloEndOk_m a0) fun x1 =>
(if (!x1) = true then
 some (⟨0,0,[],0,[],0,0,0,false,0,0,(⟨0,(⟨0,0,0,0⟩:HelloEntry)⟩:HelloChange),[],false,0,false,[],0⟩:HelloEnd)
else
 bd (impl_copyEnd_m a0) fun x2 =>
 bd (impl_HelloEnd_tick_m x2) fun x3 =>
 some ({ x3 with Name:=x2.Name,Peer:=x2.Peer,Keys:=x2.Keys,Want:=x2.Want,PeerBoot:=x2.PeerBoot,PeerTurn:=x2.PeerTurn }))
theorem impl_HelloTick_c {a0:HelloEnd} {r:HelloEnd} (h:impl_HelloTick_m a0 = some r):EffC Tryz.prog 17 [.agg [.d (.int .i64 a0.Name),.d (.int .i64 a0.Peer),.d (slD HelloKey.enc a0.Keys),.d (.int .i64 a0.Boot),.d (slD HelloEntry.enc a0.Want),.d (.int .i64 a0.Turn),.d (.int .i64 a0.PeerBoot),.d (.int .i64 a0.PeerTurn),.d (.bool a0.Up),.d (.int .i64 a0.Left),.d (.int .i64 a0.Num),.d (.int .i64 a0.Under.Kind),.d (.int .i64 a0.Under.Entry.Addr),.d (.int .i64 a0.Under.Entry.Len),.d (.int .i64 a0.Under.Entry.Cost),.d (.int .i64 a0.Under.Entry.Label),.d (slD HelloEntry.enc a0.Told),.d (.bool a0.All),.d (.int .i64 a0.Got),.d (.bool a0.Full),.d (slD HelloRoute.enc a0.Heard),.d (.int .i64 a0.Keep)]] [] (.agg [.d (.int .i64 r.Name),.d (.int .i64 r.Peer),.d (slD HelloKey.enc r.Keys),.d (.int .i64 r.Boot),.d (slD HelloEntry.enc r.Want),.d (.int .i64 r.Turn),.d (.int .i64 r.PeerBoot),.d (.int .i64 r.PeerTurn),.d (.bool r.Up),.d (.int .i64 r.Left),.d (.int .i64 r.Num),.d (.int .i64 r.Under.Kind),.d (.int .i64 r.Under.Entry.Addr),.d (.int .i64 r.Under.Entry.Len),.d (.int .i64 r.Under.Entry.Cost),.d (.int .i64 r.Under.Entry.Label),.d (slD HelloEntry.enc r.Told),.d (.bool r.All),.d (.int .i64 r.Got),.d (.bool r.Full),.osl 5001 0 r.Heard.length,.d (.int .i64 r.Keep)]) [(5001,.arr 94 5 r.Heard.length (rows HelloRoute.enc r.Heard))]:=by
  refine effC_x tOk (fn:=Tryz.f17) (c:=codeOf Tryz.f17) rfl rfl ?_;unfold impl_HelloTick_m at h;(conv=>whnf);refine seq_in tOk ?_;(conv=>whnf);obtain ⟨x1,hx1,h⟩:=bd_some h;refine cC 0 (impl_HelloEndOk_c hx1) ?_;clear hx1;(conv=>whnf);refine andI h (fun _ h=>?_) (fun _ h=>?_)
  · (conv=>whnf);obtain rfl:=Option.some.inj h;exact lfE [.k [1],.p 5001 94 5 (rows HelloRoute.enc ([]:List HelloRoute))]
  · (conv=>whnf);obtain ⟨x2,hx2,h⟩:=bd_some h;refine cC 1000 (impl_copyEnd_c hx2) ?_;clear hx2;(conv=>whnf);obtain ⟨x3,hx3,h⟩:=bd_some h;refine callFz [6001,6002,6003] ?_;(conv=>whnf);refine cE [(9000,3),(9001,6004)] 1000 (impl_HelloEnd_tick_c hx3) ?_;(conv=>whnf);obtain rfl:=Option.some.inj h;exact lfE [.s [(5001,6001),(6001,5001)]]
noncomputable def laws_whKeys_m (a0:(List HelloKey)) (a1:(List HelloKey)):Option (Bool) :=
(if (((a0.length:Nat):Int) != ((a1.length:Nat):Int)) = true then
 some false
else
 bd (lp (σ:=Int) (β:=(Unit ⊕ Unit)) (fun s1 =>
(if (decide (s1<((a0.length:Nat):Int))) = true then
 gd ((0:Int)≤s1∧s1<((a0.length:Nat):Int)) <|
 gd ((0:Int)≤s1∧s1<((a1.length:Nat):Int)) <|
(if (!((((a0.getD s1.toNat default).Id) == ((a1.getD s1.toNat default).Id)) && ((((a0.getD s1.toNat default).Secret) == ((a1.getD s1.toNat default).Secret)) && true))) = true then
 some (.inr (.inl ()))
else
 some (.inl (IntKind.i64.wrap (s1+1))))
else
 some (.inr (.inr ())))) 0) fun x4 =>
(match x4 with
| .inl d7 =>
 some false
| .inr d8 =>
 some true))
theorem laws_whKeys_c {a0:(List HelloKey)} {a1:(List HelloKey)} {r:Bool} (h:laws_whKeys_m a0 a1 = some r):PureC Tryz.prog 53 [.d (slD HelloKey.enc a0),.d (slD HelloKey.enc a1)] (.d (.bool r)) []:=by
  refine pureC_x tOk (fn:=Tryz.f53) (c:=codeOf Tryz.f53) rfl rfl ?_;unfold laws_whKeys_m at h;(conv=>whnf);refine seq_in tOk ?_;(conv=>whnf);refine andI h (fun _ h=>?_) (fun _ h=>?_)
  · (conv=>whnf);obtain rfl:=Option.some.inj h;exact lfP []
  · (conv=>whnf);refine seq_in tOk ?_;(conv=>whnf);obtain ⟨x4,hx4,h⟩:=bd_some h;refine loop_m tOk hx4 (fun s1=>⟨0,26,[(0,.d (slD HelloKey.enc a0)),(1,.d (slD HelloKey.enc a1)),(5,.d (.int .i64 s1))],[],[],[]⟩) ?_ ?_
    · exact leX []
    · clear hx4;intro s1 y2 g3 hy2;(conv=>whnf);refine seq_in tOk ?_;(conv=>whnf);refine andI g3 (fun _ g3=>?_) (fun _ g3=>?_)
      · (conv=>whnf);refine seq_in tOk ?_;(conv=>whnf);obtain ⟨g5,g3⟩:=gd_some g3;obtain ⟨g6,g3⟩:=gd_some g3;refine draw_u tOk [] 9 [] [0,0,3,7,0,0,48,112,255] [] ?_;(conv=>whnf);refine And.intro g5 ?_;clear g5;(conv=>whnf);refine And.intro g6 ?_;clear g6;(conv=>whnf);refine And.intro (by kernel_rfl) ?_;(conv=>whnf);refine andI g3 (fun _ g3=>?_) (fun _ g3=>?_)
        · (conv=>whnf);obtain rfl:=Option.some.inj g3;obtain rfl:=hy2 _ rfl;obtain rfl:=Option.some.inj h;exact lfP []
        · (conv=>whnf);obtain rfl:=Option.some.inj g3;exact ⟨_,rfl,leX []⟩
      · (conv=>whnf);obtain rfl:=Option.some.inj g3;obtain rfl:=hy2 _ rfl;obtain rfl:=Option.some.inj h;exact lfP []
noncomputable def laws_whTable_m (a0:(List HelloEntry)) (a1:(List HelloEntry)):Option (Bool) :=
(if (((a0.length:Nat):Int) != ((a1.length:Nat):Int)) = true then
 some false
else
 bd (lp (σ:=Int) (β:=(Unit ⊕ Unit)) (fun s1 =>
(if (decide (s1<((a0.length:Nat):Int))) = true then
 gd ((0:Int)≤s1∧s1<((a0.length:Nat):Int)) <|
 gd ((0:Int)≤s1∧s1<((a1.length:Nat):Int)) <|
(if (!((((a0.getD s1.toNat default).Addr) == ((a1.getD s1.toNat default).Addr)) && ((((a0.getD s1.toNat default).Len) == ((a1.getD s1.toNat default).Len)) && ((((a0.getD s1.toNat default).Cost) == ((a1.getD s1.toNat default).Cost)) && ((((a0.getD s1.toNat default).Label) == ((a1.getD s1.toNat default).Label)) && true))))) = true then
 some (.inr (.inl ()))
else
 some (.inl (IntKind.i64.wrap (s1+1))))
else
 some (.inr (.inr ())))) 0) fun x4 =>
(match x4 with
| .inl d7 =>
 some false
| .inr d8 =>
 some true))
theorem laws_whTable_c {a0:(List HelloEntry)} {a1:(List HelloEntry)} {r:Bool} (h:laws_whTable_m a0 a1 = some r):PureC Tryz.prog 22 [.d (slD HelloEntry.enc a0),.d (slD HelloEntry.enc a1)] (.d (.bool r)) []:=by
  refine pureC_x tOk (fn:=Tryz.f22) (c:=codeOf Tryz.f22) rfl rfl ?_;unfold laws_whTable_m at h;(conv=>whnf);refine seq_in tOk ?_;(conv=>whnf);refine andI h (fun _ h=>?_) (fun _ h=>?_)
  · (conv=>whnf);obtain rfl:=Option.some.inj h;exact lfP []
  · (conv=>whnf);refine seq_in tOk ?_;(conv=>whnf);obtain ⟨x4,hx4,h⟩:=bd_some h;refine loop_m tOk hx4 (fun s1=>⟨0,26,[(0,.d (slD HelloEntry.enc a0)),(1,.d (slD HelloEntry.enc a1)),(5,.d (.int .i64 s1))],[],[],[]⟩) ?_ ?_
    · exact leX []
    · clear hx4;intro s1 y2 g3 hy2;(conv=>whnf);refine seq_in tOk ?_;(conv=>whnf);refine andI g3 (fun _ g3=>?_) (fun _ g3=>?_)
      · (conv=>whnf);refine seq_in tOk ?_;(conv=>whnf);obtain ⟨g5,g3⟩:=gd_some g3;obtain ⟨g6,g3⟩:=gd_some g3;refine draw_u tOk [] 9 [] [0,0,3,7,0,0,48,112,255] [] ?_;(conv=>whnf);refine And.intro g5 ?_;clear g5;(conv=>whnf);refine And.intro g6 ?_;clear g6;(conv=>whnf);refine And.intro (by kernel_rfl) ?_;(conv=>whnf);refine andI g3 (fun _ g3=>?_) (fun _ g3=>?_)
        · (conv=>whnf);obtain rfl:=Option.some.inj g3;obtain rfl:=hy2 _ rfl;obtain rfl:=Option.some.inj h;exact lfP []
        · (conv=>whnf);obtain rfl:=Option.some.inj g3;exact ⟨_,rfl,leX []⟩
      · (conv=>whnf);obtain rfl:=Option.some.inj g3;obtain rfl:=hy2 _ rfl;obtain rfl:=Option.some.inj h;exact lfP []
noncomputable def laws_whRoutes_m (a0:(List HelloRoute)) (a1:(List HelloRoute)):Option (Bool) :=
(if (((a0.length:Nat):Int) != ((a1.length:Nat):Int)) = true then
 some false
else
 bd (lp (σ:=Int) (β:=(Unit ⊕ Unit)) (fun s1 =>
(if (decide (s1<((a0.length:Nat):Int))) = true then
 gd ((0:Int)≤s1∧s1<((a0.length:Nat):Int)) <|
 gd ((0:Int)≤s1∧s1<((a1.length:Nat):Int)) <|
(if (!((((((a0.getD s1.toNat default).Entry).Addr) == (((a1.getD s1.toNat default).Entry).Addr)) && (((((a0.getD s1.toNat default).Entry).Len) == (((a1.getD s1.toNat default).Entry).Len)) && (((((a0.getD s1.toNat default).Entry).Cost) == (((a1.getD s1.toNat default).Entry).Cost)) && (((((a0.getD s1.toNat default).Entry).Label) == (((a1.getD s1.toNat default).Entry).Label)) && true)))) && ((((a0.getD s1.toNat default).Stale) == ((a1.getD s1.toNat default).Stale)) && true))) = true then
 some (.inr (.inl ()))
else
 some (.inl (IntKind.i64.wrap (s1+1))))
else
 some (.inr (.inr ())))) 0) fun x4 =>
(match x4 with
| .inl d7 =>
 some false
| .inr d8 =>
 some true))
theorem laws_whRoutes_c {a0:(List HelloRoute)} {a1:(List HelloRoute)} {r:Bool} (h:laws_whRoutes_m a0 a1 = some r):PureC Tryz.prog 54 [.d (slD HelloRoute.enc a0),.d (slD HelloRoute.enc a1)] (.d (.bool r)) []:=by
  refine pureC_x tOk (fn:=Tryz.f54) (c:=codeOf Tryz.f54) rfl rfl ?_;unfold laws_whRoutes_m at h;(conv=>whnf);refine seq_in tOk ?_;(conv=>whnf);refine andI h (fun _ h=>?_) (fun _ h=>?_)
  · (conv=>whnf);obtain rfl:=Option.some.inj h;exact lfP []
  · (conv=>whnf);refine seq_in tOk ?_;(conv=>whnf);obtain ⟨x4,hx4,h⟩:=bd_some h;refine loop_m tOk hx4 (fun s1=>⟨0,26,[(0,.d (slD HelloRoute.enc a0)),(1,.d (slD HelloRoute.enc a1)),(5,.d (.int .i64 s1))],[],[],[]⟩) ?_ ?_
    · exact leX []
    · clear hx4;intro s1 y2 g3 hy2;(conv=>whnf);refine seq_in tOk ?_;(conv=>whnf);refine andI g3 (fun _ g3=>?_) (fun _ g3=>?_)
      · (conv=>whnf);refine seq_in tOk ?_;(conv=>whnf);obtain ⟨g5,g3⟩:=gd_some g3;obtain ⟨g6,g3⟩:=gd_some g3;refine draw_u tOk [] 9 [] [0,0,3,7,0,0,48,112,255] [] ?_;(conv=>whnf);refine And.intro g5 ?_;clear g5;(conv=>whnf);refine And.intro g6 ?_;clear g6;(conv=>whnf);refine And.intro (by kernel_rfl) ?_;(conv=>whnf);refine andI g3 (fun _ g3=>?_) (fun _ g3=>?_)
        · (conv=>whnf);obtain rfl:=Option.some.inj g3;obtain rfl:=hy2 _ rfl;obtain rfl:=Option.some.inj h;exact lfP []
        · (conv=>whnf);obtain rfl:=Option.some.inj g3;exact ⟨_,rfl,leX []⟩
      · (conv=>whnf);obtain rfl:=Option.some.inj g3;obtain rfl:=hy2 _ rfl;obtain rfl:=Option.some.inj h;exact lfP []
noncomputable def laws_whEnd_m (a0:HelloEnd) (a1:HelloEnd):Option (Bool) :=
 bd (gcall (((a0.Name == a1.Name) && (a0.Peer == a1.Peer)) = true) (laws_whKeys_m a0.Keys a1.Keys)) fun x1 =>
 bd (gcall (((((a0.Name == a1.Name) && (a0.Peer == a1.Peer)) && x1) && (a0.Boot == a1.Boot)) = true) (laws_whTable_m a0.Want a1.Want)) fun x2 =>
 bd (gcall (((((((((((((a0.Name == a1.Name) && (a0.Peer == a1.Peer)) && x1) && (a0.Boot == a1.Boot)) && x2) && (a0.Turn == a1.Turn)) && (a0.PeerBoot == a1.PeerBoot)) && (a0.PeerTurn == a1.PeerTurn)) && (a0.Up == a1.Up)) && (a0.Left == a1.Left)) && (a0.Num == a1.Num)) && ((a0.Under.Kind == a1.Under.Kind) && (((a0.Under.Entry.Addr == a1.Under.Entry.Addr) && ((a0.Under.Entry.Len == a1.Under.Entry.Len) && ((a0.Under.Entry.Cost == a1.Under.Entry.Cost) && ((a0.Under.Entry.Label == a1.Under.Entry.Label) && true)))) && true))) = true) (laws_whTable_m a0.Told a1.Told)) fun x3 =>
 bd (gcall (((((((((((((((((a0.Name == a1.Name) && (a0.Peer == a1.Peer)) && x1) && (a0.Boot == a1.Boot)) && x2) && (a0.Turn == a1.Turn)) && (a0.PeerBoot == a1.PeerBoot)) && (a0.PeerTurn == a1.PeerTurn)) && (a0.Up == a1.Up)) && (a0.Left == a1.Left)) && (a0.Num == a1.Num)) && ((a0.Under.Kind == a1.Under.Kind) && (((a0.Under.Entry.Addr == a1.Under.Entry.Addr) && ((a0.Under.Entry.Len == a1.Under.Entry.Len) && ((a0.Under.Entry.Cost == a1.Under.Entry.Cost) && ((a0.Under.Entry.Label == a1.Under.Entry.Label) && true)))) && true))) && x3) && (a0.All == a1.All)) && (a0.Got == a1.Got)) && (a0.Full == a1.Full)) = true) (laws_whRoutes_m a0.Heard a1.Heard)) fun x4 =>
 some ((((((((((((((((((a0.Name == a1.Name) && (a0.Peer == a1.Peer)) && x1) && (a0.Boot == a1.Boot)) && x2) && (a0.Turn == a1.Turn)) && (a0.PeerBoot == a1.PeerBoot)) && (a0.PeerTurn == a1.PeerTurn)) && (a0.Up == a1.Up)) && (a0.Left == a1.Left)) && (a0.Num == a1.Num)) && ((a0.Under.Kind == a1.Under.Kind) && (((a0.Under.Entry.Addr == a1.Under.Entry.Addr) && ((a0.Under.Entry.Len == a1.Under.Entry.Len) && ((a0.Under.Entry.Cost == a1.Under.Entry.Cost) && ((a0.Under.Entry.Label == a1.Under.Entry.Label) && true)))) && true))) && x3) && (a0.All == a1.All)) && (a0.Got == a1.Got)) && (a0.Full == a1.Full)) && x4) && (a0.Keep == a1.Keep))
theorem laws_whEnd_c {a0:HelloEnd} {a1:HelloEnd} {r:Bool} (h:laws_whEnd_m a0 a1 = some r):PureC Tryz.prog 18 [.agg [.d (.int .i64 a0.Name),.d (.int .i64 a0.Peer),.d (slD HelloKey.enc a0.Keys),.d (.int .i64 a0.Boot),.d (slD HelloEntry.enc a0.Want),.d (.int .i64 a0.Turn),.d (.int .i64 a0.PeerBoot),.d (.int .i64 a0.PeerTurn),.d (.bool a0.Up),.d (.int .i64 a0.Left),.d (.int .i64 a0.Num),.d (.int .i64 a0.Under.Kind),.d (.int .i64 a0.Under.Entry.Addr),.d (.int .i64 a0.Under.Entry.Len),.d (.int .i64 a0.Under.Entry.Cost),.d (.int .i64 a0.Under.Entry.Label),.d (slD HelloEntry.enc a0.Told),.d (.bool a0.All),.d (.int .i64 a0.Got),.d (.bool a0.Full),.d (slD HelloRoute.enc a0.Heard),.d (.int .i64 a0.Keep)],.agg [.d (.int .i64 a1.Name),.d (.int .i64 a1.Peer),.d (slD HelloKey.enc a1.Keys),.d (.int .i64 a1.Boot),.d (slD HelloEntry.enc a1.Want),.d (.int .i64 a1.Turn),.d (.int .i64 a1.PeerBoot),.d (.int .i64 a1.PeerTurn),.d (.bool a1.Up),.d (.int .i64 a1.Left),.d (.int .i64 a1.Num),.d (.int .i64 a1.Under.Kind),.d (.int .i64 a1.Under.Entry.Addr),.d (.int .i64 a1.Under.Entry.Len),.d (.int .i64 a1.Under.Entry.Cost),.d (.int .i64 a1.Under.Entry.Label),.d (slD HelloEntry.enc a1.Told),.d (.bool a1.All),.d (.int .i64 a1.Got),.d (.bool a1.Full),.d (slD HelloRoute.enc a1.Heard),.d (.int .i64 a1.Keep)]] (.d (.bool r)) []:=by
  refine pureC_x tOk (fn:=Tryz.f18) (c:=codeOf Tryz.f18) rfl rfl ?_;unfold laws_whEnd_m at h;(conv=>whnf);obtain ⟨x1,hx1,h⟩:=bd_some h;refine cG (fun c0=>laws_whKeys_c (gcall_some hx1 c0)) ?_;(conv=>whnf);obtain ⟨x2,hx2,h⟩:=bd_some h;refine cG (fun c0=>laws_whTable_c (gcall_some hx2 c0)) ?_;(conv=>whnf);obtain ⟨x3,hx3,h⟩:=bd_some h;refine cG (fun c0=>laws_whTable_c (gcall_some hx3 c0)) ?_;(conv=>whnf);obtain ⟨x4,hx4,h⟩:=bd_some h;refine cG (fun c0=>laws_whRoutes_c (gcall_some hx4 c0)) ?_;(conv=>whnf);obtain rfl:=Option.some.inj h;exact lfP []
noncomputable def impl_HelloUse_fz_m (a0:HelloEnd):Option ((List HelloEntry)) :=
 bd (impl_HelloEndOk_m a0) fun x1 =>
(if (!x1) = true then
 some []
else
 bd (impl_entriesOf_m a0.Heard) fun x2 =>
 some x2)
theorem impl_HelloUse_fz_c {a0:HelloEnd} {r:(List HelloEntry)} (h:impl_HelloUse_fz_m a0 = some r):EffC Tryz.prog 16 [.agg [.d (.int .i64 a0.Name),.d (.int .i64 a0.Peer),.d (slD HelloKey.enc a0.Keys),.d (.int .i64 a0.Boot),.d (slD HelloEntry.enc a0.Want),.d (.int .i64 a0.Turn),.d (.int .i64 a0.PeerBoot),.d (.int .i64 a0.PeerTurn),.d (.bool a0.Up),.d (.int .i64 a0.Left),.d (.int .i64 a0.Num),.d (.int .i64 a0.Under.Kind),.d (.int .i64 a0.Under.Entry.Addr),.d (.int .i64 a0.Under.Entry.Len),.d (.int .i64 a0.Under.Entry.Cost),.d (.int .i64 a0.Under.Entry.Label),.d (slD HelloEntry.enc a0.Told),.d (.bool a0.All),.d (.int .i64 a0.Got),.d (.bool a0.Full),.d (slD HelloRoute.enc a0.Heard),.d (.int .i64 a0.Keep)]] [] (.d (slD HelloEntry.enc r)) []:=by
  refine effC_x tOk (fn:=Tryz.f16) (c:=codeOf Tryz.f16) rfl rfl ?_;unfold impl_HelloUse_fz_m at h;(conv=>whnf);refine seq_in tOk ?_;(conv=>whnf);obtain ⟨x1,hx1,h⟩:=bd_some h;refine cC 0 (impl_HelloEndOk_c hx1) ?_;clear hx1;(conv=>whnf);refine andI h (fun _ h=>?_) (fun _ h=>?_)
  · (conv=>whnf);obtain rfl:=Option.some.inj h;exact lfE []
  · (conv=>whnf);obtain ⟨x2,hx2,h⟩:=bd_some h;refine cC 1000 (impl_entriesOf_c hx2) ?_;clear hx2;(conv=>whnf);obtain rfl:=Option.some.inj h;exact lfE [.f [6001]]
noncomputable def laws_FnHelloForget_m (a0:(List Int)):Option (Bool) :=
(if (decide (((a0.length:Nat):Int) > 1048576)) = true then
 some true
else
 bd (spec_DrawHelloTick_m a0) fun x1 =>
 bd (impl_HelloUse_m x1) fun x2 =>
 bd (lp (σ:=Int × Int × Int × Int × Int × Int × Int × Int × List HelloEntry × Bool × Int × Bool × List HelloKey × List HelloRoute × Int × Int × List HelloEntry × Int × Int × Int × Bool × Int × Int) (β:=(Unit ⊕ (Int × Int × (List HelloKey) × Int × (List HelloEntry) × Int × Int × Int × Bool × Int × Int × Int × Int × Int × Int × Int × (List HelloEntry) × Bool × Int × Bool × (List HelloRoute) × Int))) (fun s3 =>
(if (decide (s3.2.2.2.2.2.2.2.2.2.2.2.2.2.2.2.2.2.2.2.2.2.2<10)) = true then
 bd (impl_HelloTick_m (⟨s3.1,s3.2.1,s3.2.2.2.2.2.2.2.2.2.2.2.2.1,s3.2.2.2.2.2.2.2.2.2.2.2.2.2.2.2.1,s3.2.2.2.2.2.2.2.2.2.2.2.2.2.2.2.2.1,s3.2.2.2.2.2.2.2.2.2.2.2.2.2.2.2.2.2.1,s3.2.2.2.2.2.2.2.2.2.2.2.2.2.2.2.2.2.2.1,s3.2.2.2.2.2.2.2.2.2.2.2.2.2.2.2.2.2.2.2.1,s3.2.2.2.2.2.2.2.2.2.2.2.2.2.2.2.2.2.2.2.2.1,s3.2.2.2.2.2.2.2.2.2.2.2.2.2.2.2.2.2.2.2.2.2.1,s3.2.2.1,(⟨s3.2.2.2.1,(⟨s3.2.2.2.2.1,s3.2.2.2.2.2.1,s3.2.2.2.2.2.2.1,s3.2.2.2.2.2.2.2.1⟩:HelloEntry)⟩:HelloChange),s3.2.2.2.2.2.2.2.2.1,s3.2.2.2.2.2.2.2.2.2.1,s3.2.2.2.2.2.2.2.2.2.2.1,s3.2.2.2.2.2.2.2.2.2.2.2.1,s3.2.2.2.2.2.2.2.2.2.2.2.2.2.1,s3.2.2.2.2.2.2.2.2.2.2.2.2.2.2.1⟩:HelloEnd)) fun x7 =>
 bd (spec_HelloTick_m (⟨s3.1,s3.2.1,s3.2.2.2.2.2.2.2.2.2.2.2.2.1,s3.2.2.2.2.2.2.2.2.2.2.2.2.2.2.2.1,s3.2.2.2.2.2.2.2.2.2.2.2.2.2.2.2.2.1,s3.2.2.2.2.2.2.2.2.2.2.2.2.2.2.2.2.2.1,s3.2.2.2.2.2.2.2.2.2.2.2.2.2.2.2.2.2.2.1,s3.2.2.2.2.2.2.2.2.2.2.2.2.2.2.2.2.2.2.2.1,s3.2.2.2.2.2.2.2.2.2.2.2.2.2.2.2.2.2.2.2.2.1,s3.2.2.2.2.2.2.2.2.2.2.2.2.2.2.2.2.2.2.2.2.2.1,s3.2.2.1,(⟨s3.2.2.2.1,(⟨s3.2.2.2.2.1,s3.2.2.2.2.2.1,s3.2.2.2.2.2.2.1,s3.2.2.2.2.2.2.2.1⟩:HelloEntry)⟩:HelloChange),s3.2.2.2.2.2.2.2.2.1,s3.2.2.2.2.2.2.2.2.2.1,s3.2.2.2.2.2.2.2.2.2.2.1,s3.2.2.2.2.2.2.2.2.2.2.2.1,s3.2.2.2.2.2.2.2.2.2.2.2.2.2.1,s3.2.2.2.2.2.2.2.2.2.2.2.2.2.2.1⟩:HelloEnd)) fun x8 =>
 bd (laws_whEnd_m x7 x8) fun x9 =>
 bd (gcall ((!x9) = false) (spec_HelloEndOk_m x1)) fun x10 =>
 bd (gcall (x10 = true∧(!x9) = false) (impl_HelloEndOk_m x7)) fun x11 =>
(if ((!x9) || (x10 && (!x11))) = true then
 some (.inr (.inl ()))
else
 bd (gcall (((decide (s3.2.2.2.2.2.2.2.2.2.2.2.2.2.2.2.2.2.2.2.2.2.2<4)) && (x1.Keep == 0)) = true) (impl_HelloUse_fz_m x7)) fun x12 =>
 bd (gcall (((decide (s3.2.2.2.2.2.2.2.2.2.2.2.2.2.2.2.2.2.2.2.2.2.2<4)) && (x1.Keep == 0)) = true) (laws_whTable_m x12 x2)) fun x13 =>
(if (((decide (s3.2.2.2.2.2.2.2.2.2.2.2.2.2.2.2.2.2.2.2.2.2.2<4)) && (x1.Keep == 0)) && (!x13)) = true then
 some (.inr (.inl ()))
else
 some (.inl (x7.Name,x7.Peer,x7.Num,x7.Under.Kind,x7.Under.Entry.Addr,x7.Under.Entry.Len,x7.Under.Entry.Cost,x7.Under.Entry.Label,x7.Told,x7.All,x7.Got,x7.Full,x7.Keys,x7.Heard,x7.Keep,x7.Boot,x7.Want,x7.Turn,x7.PeerBoot,x7.PeerTurn,x7.Up,x7.Left,IntKind.i64.wrap (s3.2.2.2.2.2.2.2.2.2.2.2.2.2.2.2.2.2.2.2.2.2.2+1)))))
else
 some (.inr (.inr (s3.1,s3.2.1,s3.2.2.2.2.2.2.2.2.2.2.2.2.1,s3.2.2.2.2.2.2.2.2.2.2.2.2.2.2.2.1,s3.2.2.2.2.2.2.2.2.2.2.2.2.2.2.2.2.1,s3.2.2.2.2.2.2.2.2.2.2.2.2.2.2.2.2.2.1,s3.2.2.2.2.2.2.2.2.2.2.2.2.2.2.2.2.2.2.1,s3.2.2.2.2.2.2.2.2.2.2.2.2.2.2.2.2.2.2.2.1,s3.2.2.2.2.2.2.2.2.2.2.2.2.2.2.2.2.2.2.2.2.1,s3.2.2.2.2.2.2.2.2.2.2.2.2.2.2.2.2.2.2.2.2.2.1,s3.2.2.1,s3.2.2.2.1,s3.2.2.2.2.1,s3.2.2.2.2.2.1,s3.2.2.2.2.2.2.1,s3.2.2.2.2.2.2.2.1,s3.2.2.2.2.2.2.2.2.1,s3.2.2.2.2.2.2.2.2.2.1,s3.2.2.2.2.2.2.2.2.2.2.1,s3.2.2.2.2.2.2.2.2.2.2.2.1,s3.2.2.2.2.2.2.2.2.2.2.2.2.2.1,s3.2.2.2.2.2.2.2.2.2.2.2.2.2.2.1))))) (x1.Name,x1.Peer,x1.Num,x1.Under.Kind,x1.Under.Entry.Addr,x1.Under.Entry.Len,x1.Under.Entry.Cost,x1.Under.Entry.Label,x1.Told,x1.All,x1.Got,x1.Full,x1.Keys,x1.Heard,x1.Keep,x1.Boot,x1.Want,x1.Turn,x1.PeerBoot,x1.PeerTurn,x1.Up,x1.Left,0)) fun x6 =>
(match x6 with
| .inl d14 =>
 some false
| .inr d15 =>
 bd (impl_HelloUse_m (⟨d15.1,d15.2.1,d15.2.2.1,d15.2.2.2.1,d15.2.2.2.2.1,d15.2.2.2.2.2.1,d15.2.2.2.2.2.2.1,d15.2.2.2.2.2.2.2.1,d15.2.2.2.2.2.2.2.2.1,d15.2.2.2.2.2.2.2.2.2.1,d15.2.2.2.2.2.2.2.2.2.2.1,(⟨d15.2.2.2.2.2.2.2.2.2.2.2.1,(⟨d15.2.2.2.2.2.2.2.2.2.2.2.2.1,d15.2.2.2.2.2.2.2.2.2.2.2.2.2.1,d15.2.2.2.2.2.2.2.2.2.2.2.2.2.2.1,d15.2.2.2.2.2.2.2.2.2.2.2.2.2.2.2.1⟩:HelloEntry)⟩:HelloChange),d15.2.2.2.2.2.2.2.2.2.2.2.2.2.2.2.2.1,d15.2.2.2.2.2.2.2.2.2.2.2.2.2.2.2.2.2.1,d15.2.2.2.2.2.2.2.2.2.2.2.2.2.2.2.2.2.2.1,d15.2.2.2.2.2.2.2.2.2.2.2.2.2.2.2.2.2.2.2.1,d15.2.2.2.2.2.2.2.2.2.2.2.2.2.2.2.2.2.2.2.2.1,d15.2.2.2.2.2.2.2.2.2.2.2.2.2.2.2.2.2.2.2.2.2⟩:HelloEnd)) fun x16 =>
 some (((((x16.length:Nat):Int) == 0) && (!d15.2.2.2.2.2.2.2.2.1)) && (((d15.2.2.2.2.2.2.2.2.2.2.2.2.2.2.2.2.2.2.2.2.1.length:Nat):Int) == 0))))
theorem laws_FnHelloForget_c {a0:(List Int)} {r:Bool} (h:laws_FnHelloForget_m a0 = some r):PureC Tryz.prog 4 [.d (slD encByte a0)] (.d (.bool r)) []:=by
  refine pureC_x tOk (fn:=Tryz.f4) (c:=codeOf Tryz.f4) rfl rfl ?_;unfold laws_FnHelloForget_m at h;(conv=>whnf);refine seq_in tOk ?_;(conv=>whnf);refine andI h (fun _ h=>?_) (fun _ h=>?_)
  · (conv=>whnf);obtain rfl:=Option.some.inj h;exact lfP []
  · (conv=>whnf);obtain ⟨x1,hx1,h⟩:=bd_some h;refine cE [] 0 (spec_DrawHelloTick_c hx1) ?_;(conv=>whnf);obtain ⟨x2,hx2,h⟩:=bd_some h;refine cC 1000 (impl_HelloUse_c hx2) ?_;clear hx2;(conv=>whnf);refine seq_in tOk ?_;(conv=>whnf);obtain ⟨x6,hx6,h⟩:=bd_some h;refine loop_m tOk hx6 (fun s3=>⟨0,66,[(3,.ref 3 0 0),(4,.ref 4 0 0),(5,.osl 6001 0 x2.length),(6,.d (.int .i64 s3.2.2.2.2.2.2.2.2.2.2.2.2.2.2.2.2.2.2.2.2.2.2))],[],[(6001,.arr 36 4 x2.length (rows HelloEntry.enc x2)),(4,.box 41 [.d (.int .i64 s3.1),.d (.int .i64 s3.2.1),.d (slD HelloKey.enc s3.2.2.2.2.2.2.2.2.2.2.2.2.1),.d (.int .i64 s3.2.2.2.2.2.2.2.2.2.2.2.2.2.2.2.1),.d (slD HelloEntry.enc s3.2.2.2.2.2.2.2.2.2.2.2.2.2.2.2.2.1),.d (.int .i64 s3.2.2.2.2.2.2.2.2.2.2.2.2.2.2.2.2.2.1),.d (.int .i64 s3.2.2.2.2.2.2.2.2.2.2.2.2.2.2.2.2.2.2.1),.d (.int .i64 s3.2.2.2.2.2.2.2.2.2.2.2.2.2.2.2.2.2.2.2.1),.d (.bool s3.2.2.2.2.2.2.2.2.2.2.2.2.2.2.2.2.2.2.2.2.1),.d (.int .i64 s3.2.2.2.2.2.2.2.2.2.2.2.2.2.2.2.2.2.2.2.2.2.1),.d (.int .i64 s3.2.2.1),.d (.int .i64 s3.2.2.2.1),.d (.int .i64 s3.2.2.2.2.1),.d (.int .i64 s3.2.2.2.2.2.1),.d (.int .i64 s3.2.2.2.2.2.2.1),.d (.int .i64 s3.2.2.2.2.2.2.2.1),.d (slD HelloEntry.enc s3.2.2.2.2.2.2.2.2.1),.d (.bool s3.2.2.2.2.2.2.2.2.2.1),.d (.int .i64 s3.2.2.2.2.2.2.2.2.2.2.1),.d (.bool s3.2.2.2.2.2.2.2.2.2.2.2.1),.d (slD HelloRoute.enc s3.2.2.2.2.2.2.2.2.2.2.2.2.2.1),.d (.int .i64 s3.2.2.2.2.2.2.2.2.2.2.2.2.2.2.1)]),(3,.box 41 [.d (.int .i64 x1.Name),.d (.int .i64 x1.Peer),.d (slD HelloKey.enc x1.Keys),.d (.int .i64 x1.Boot),.d (slD HelloEntry.enc x1.Want),.d (.int .i64 x1.Turn),.d (.int .i64 x1.PeerBoot),.d (.int .i64 x1.PeerTurn),.d (.bool x1.Up),.d (.int .i64 x1.Left),.d (.int .i64 x1.Num),.d (.int .i64 x1.Under.Kind),.d (.int .i64 x1.Under.Entry.Addr),.d (.int .i64 x1.Under.Entry.Len),.d (.int .i64 x1.Under.Entry.Cost),.d (.int .i64 x1.Under.Entry.Label),.d (slD HelloEntry.enc x1.Told),.d (.bool x1.All),.d (.int .i64 x1.Got),.d (.bool x1.Full),.d (slD HelloRoute.enc x1.Heard),.d (.int .i64 x1.Keep)])],[]⟩) ?_ ?_
    · exact leX []
    · clear hx6;intro s3 y4 g5 hy4;(conv=>whnf);refine seq_in tOk ?_;(conv=>whnf);refine andI g5 (fun _ g5=>?_) (fun _ g5=>?_)
      · (conv=>whnf);refine seq_in tOk ?_;(conv=>whnf);obtain ⟨x7,hx7,g5⟩:=bd_some g5;refine cE [] 2000 (impl_HelloTick_c hx7) ?_;(conv=>whnf);refine seq_in tOk ?_;(conv=>whnf);obtain ⟨x8,hx8,g5⟩:=bd_some g5;obtain ⟨x9,hx9,g5⟩:=bd_some g5;obtain ⟨x10,hx10,g5⟩:=bd_some g5;obtain ⟨x11,hx11,g5⟩:=bd_some g5;refine drawFz [7001] ?_;(conv=>whnf);refine draw_u tOk [.u 2 3000 (.agg [.d (.int .i64 x8.Name),.d (.int .i64 x8.Peer),.osl 5001 0 x8.Keys.length,.d (.int .i64 x8.Boot),.osl 5002 0 x8.Want.length,.d (.int .i64 x8.Turn),.d (.int .i64 x8.PeerBoot),.d (.int .i64 x8.PeerTurn),.d (.bool x8.Up),.d (.int .i64 x8.Left),.d (.int .i64 x8.Num),.d (.int .i64 x8.Under.Kind),.d (.int .i64 x8.Under.Entry.Addr),.d (.int .i64 x8.Under.Entry.Len),.d (.int .i64 x8.Under.Entry.Cost),.d (.int .i64 x8.Under.Entry.Label),.osl 5003 0 x8.Told.length,.d (.bool x8.All),.d (.int .i64 x8.Got),.d (.bool x8.Full),.osl 5004 0 x8.Heard.length,.d (.int .i64 x8.Keep)]) [⟨5001,90,2,x8.Keys.length,rows HelloKey.enc x8.Keys⟩,⟨5002,36,4,x8.Want.length,rows HelloEntry.enc x8.Want⟩,⟨5003,36,4,x8.Told.length,rows HelloEntry.enc x8.Told⟩,⟨5004,94,5,x8.Heard.length,rows HelloRoute.enc x8.Heard⟩],.u 3 0 (.d (.bool x9)) [],.u 7 0 (.d (.bool x10)) [],.u 10 0 (.d (.bool x11)) []] 14 [] [0,0,2,7,15,31,63,127,255,511,1023,2047,4095,8191] [] ?_;(conv=>whnf);refine And.intro (callD_any (spec_HelloTick_c hx8) (by kernel_rfl)) ?_;(conv=>whnf);refine And.intro (callD_any (laws_whEnd_c hx9) (by kernel_rfl)) ?_;(conv=>whnf);refine And.intro (callDG_if rfl rfl rfl rfl (by intro c0; exact spec_HelloEndOk_c (gcall_some hx10 c0))) ?_;(conv=>whnf);refine And.intro (callDG_if rfl rfl rfl rfl (by intro c0 c1; exact impl_HelloEndOk_c (gcall_some hx11 ⟨c0,c1⟩))) ?_;(conv=>whnf);refine And.intro (by kernel_rfl) ?_;(conv=>whnf);refine andI g5 (fun _ g5=>?_) (fun _ g5=>?_)
        · (conv=>whnf);obtain rfl:=Option.some.inj g5;obtain rfl:=hy4 _ rfl;obtain rfl:=Option.some.inj h;exact lfP []
        · (conv=>whnf);obtain ⟨x12,hx12,g5⟩:=bd_some g5;refine callG_e [] 0 rfl rfl rfl (by intro c0; exact impl_HelloUse_fz_c (gcall_some hx12 c0)) argA inA rfl rfl (condN_of inA) ?_;(conv=>whnf);obtain ⟨x13,hx13,g5⟩:=bd_some g5;refine cG (fun c0=>laws_whTable_c (gcall_some hx13 c0)) ?_;(conv=>whnf);refine andI g5 (fun _ g5=>?_) (fun _ g5=>?_)
          · (conv=>whnf);obtain rfl:=Option.some.inj g5;obtain rfl:=hy4 _ rfl;obtain rfl:=Option.some.inj h;exact lfP []
          · (conv=>whnf);obtain rfl:=Option.some.inj g5;exact ⟨_,rfl,leX []⟩
      · (conv=>whnf);obtain rfl:=Option.some.inj g5;obtain rfl:=hy4 _ rfl;obtain ⟨x16,hx16,h⟩:=bd_some h;refine cC 2000 (impl_HelloUse_c hx16) ?_;clear hx16;(conv=>whnf);obtain rfl:=Option.some.inj h;exact lfP []
end Go.Proofs.YtaoeomoepefojaaGreat
