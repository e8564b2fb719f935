/-
  What some of the program's functions compute: their models, and that the functions compute these; no condition.
-/
import Derived.Test.YtfgmolljcgnafaaTyz
import Derived.Test.YtfgmolljcgnafaaTbz
import Derived.Test.YtfgmolljcgnafaaAbz7
import Derived.Test.YtfgmolljcgnafaaKz4
set_option linter.all false
namespace Go.Proofs.Ytfgmolljcgnafaa
open Go Go.Ab
set_option maxRecDepth 100000
set_option maxHeartbeats 4000000
noncomputable def impl_TreeWorld_uplink_m (a0:TreeWorld) (a1:Int) (a2:(List Int)):Option (Int × Int) :=
 bd (lp (σ:=Int × Int × Int) (β:=(Int × Int)) (fun s1 =>
(if (decide (s1.1<((a0.Links.length:Nat):Int))) = true then
 gd ((0:Int)≤s1.1∧s1.1<((a0.Links.length:Nat):Int)) <|
 bd (lp (σ:=Int × Int × Int) (β:=(Int × Int)) (fun s6 =>
(if (decide (s6.1<2)) = true then
 bd (impl_TreeWorld_bridgeAt_m a0 s1.1 (IntKind.i64.wrap (1 - s6.1))) fun x10 =>
 bd (impl_TreeWorld_open_m a0 s1.1) fun x11 =>
 bd (gcall ((!x11) = false) (impl_TreeWorld_bridgeAt_m a0 s1.1 s6.1)) fun x12 =>
 gd (((!x11) || (x12 != a1)) = false → ((0:Int)≤x10∧x10<((a2.length:Nat):Int))) <|
 gd (((!x11) || (x12 != a1)) = false → ((0:Int)≤a1∧a1<((a2.length:Nat):Int))) <|
(if (((!x11) || (x12 != a1)) || ((IntKind.i64.wrap ((a2.getD x10.toNat default)+((a0.Links.getD s1.1.toNat default).Cost))) != (a2.getD a1.toNat default))) = true then
 some (.inl (IntKind.i64.wrap (s6.1+1),s6.2.1,s6.2.2))
else
 gd ((decide (s6.2.1<0)) = false → ((0:Int)≤x10∧x10<((a0.Bridges.length:Nat):Int))) <|
 gd ((decide (s6.2.1<0)) = false → ((0:Int)≤s6.2.2∧s6.2.2<((a0.Bridges.length:Nat):Int))) <|
(if ((decide (s6.2.1<0)) || (decide (((a0.Bridges.getD x10.toNat default).Id)<((a0.Bridges.getD s6.2.2.toNat default).Id)))) = true then
 some (.inl (IntKind.i64.wrap (s6.1+1),s1.1,x10))
else
 some (.inl (IntKind.i64.wrap (s6.1+1),s6.2.1,s6.2.2))))
else
 some (.inr (s6.2.1,s6.2.2)))) (0,s1.2.1,s1.2.2)) fun x9 =>
 some (.inl (IntKind.i64.wrap (s1.1+1),x9.1,x9.2))
else
 some (.inr (s1.2.1,s1.2.2)))) (0,-1,-1)) fun x4 =>
 some (x4.1,x4.2)
theorem impl_TreeWorld_uplink_c {a0:TreeWorld} {a1:Int} {a2:(List Int)} {r:Int × Int} (h:impl_TreeWorld_uplink_m a0 a1 a2 = some r):PureC Try.prog 121 [.rp [slD TreeBridge.enc a0.Bridges,slD TreeLink.enc a0.Links,slD encInt a0.Down,slD TreeSlot.enc a0.AtA,slD TreeSlot.enc a0.AtB,slD TreeWord.enc a0.Radio],.d (.int .i64 a1),.d (slD encInt a2)] (.tup [.d (.int .i64 r.1),.d (.int .i64 r.2)]) []:=by
  refine pureC_x tOk (fn:=Try.f121) (c:=codeOf Try.f121) rfl rfl ?_;unfold impl_TreeWorld_uplink_m at h;(conv=>whnf);refine seq_in tOk ?_;(conv=>whnf);obtain ⟨x4,hx4,h⟩:=bd_some h;refine loop_m tOk hx4 (fun s1=>⟨0,85,[(0,.rp [slD TreeBridge.enc a0.Bridges,slD TreeLink.enc a0.Links,slD encInt a0.Down,slD TreeSlot.enc a0.AtA,slD TreeSlot.enc a0.AtB,slD TreeWord.enc a0.Radio]),(1,.d (.int .i64 a1)),(2,.d (slD encInt a2)),(8,.d (.int .i64 s1.2.1)),(9,.d (.int .i64 s1.2.2)),(17,.d (slD TreeLink.enc a0.Links)),(18,.d (.int .i64 ((a0.Links.length:Nat):Int))),(19,.d (.int .i64 s1.1))],[],[],[]⟩) ?_ ?_
  · exact leX []
  · clear hx4;intro s1 y2 g3 hy2;(conv=>whnf);refine seq_in tOk ?_;(conv=>whnf);refine andI g3 (fun _ g3=>?_) (fun _ g3=>?_)
    · (conv=>whnf);refine seq_in tOk ?_;(conv=>whnf);refine gdI g3 (fun g3=>?_);(conv=>whnf);obtain ⟨x9,hx9,g3⟩:=bd_some g3;refine loop_m tOk hx9 (fun s6=>⟨0,85,[(0,.rp [slD TreeBridge.enc a0.Bridges,slD TreeLink.enc a0.Links,slD encInt a0.Down,slD TreeSlot.enc a0.AtA,slD TreeSlot.enc a0.AtB,slD TreeWord.enc a0.Radio]),(1,.d (.int .i64 a1)),(2,.d (slD encInt a2)),(8,.d (.int .i64 s6.2.1)),(9,.d (.int .i64 s6.2.2)),(10,.d (.int .i64 s1.1)),(11,.ref 11 0 0),(17,.d (slD TreeLink.enc a0.Links)),(18,.d (.int .i64 ((a0.Links.length:Nat):Int))),(19,.d (.int .i64 s1.1)),(24,.d (.int .i64 s6.1))],[],[(11,.box 46 [.d (.int .i64 ((a0.Links.getD s1.1.toNat default).A)),.d (.int .i64 ((a0.Links.getD s1.1.toNat default).B)),.d (.int .i64 ((a0.Links.getD s1.1.toNat default).Cost))])],[]⟩) ?_ ?_
      · exact leX []
      · clear hx9;intro s6 y7 g8 hy7;(conv=>whnf);refine seq_in tOk ?_;(conv=>whnf);refine andI g8 (fun _ g8=>?_) (fun _ g8=>?_)
        · (conv=>whnf);refine seq_in tOk ?_;(conv=>whnf);obtain ⟨x10,hx10,g8⟩:=bd_some g8;refine cC 0 (impl_TreeWorld_bridgeAt_c hx10) ?_;clear hx10;(conv=>whnf);refine seq_in tOk ?_;(conv=>whnf);obtain ⟨x11,hx11,g8⟩:=bd_some g8;obtain ⟨x12,hx12,g8⟩:=bd_some g8;obtain ⟨g13,g8⟩:=gd_some g8;obtain ⟨g14,g8⟩:=gd_some g8;refine draw_u tOk [.u 2 0 (.d (.bool x11)) [],.u 8 0 (.d (.int .i64 x12)) []] 26 [] [0,0,3,7,15,31,31,31,255,31,1023,2047,4095,8191,8191,32767,65535,8191,139263,524287,8191,8191,3153919,7348223,16777215,33554431] [] ?_;(conv=>whnf);refine And.intro (callD_any (impl_TreeWorld_open_c hx11) (by kernel_rfl)) ?_;(conv=>whnf);refine And.intro (callDG_if rfl rfl rfl rfl (by intro c0; exact impl_TreeWorld_bridgeAt_c (gcall_some hx12 c0))) ?_;(conv=>whnf);refine And.intro g13 ?_;clear g13;(conv=>whnf);refine And.intro g14 ?_;clear g14;(conv=>whnf);refine And.intro (by kernel_rfl) ?_;(conv=>whnf);refine andI g8 (fun _ g8=>?_) (fun _ g8=>?_)
          · (conv=>whnf);obtain rfl:=Option.some.inj g8;exact ⟨_,rfl,leX []⟩
          · (conv=>whnf);obtain ⟨g15,g8⟩:=gd_some g8;obtain ⟨g16,g8⟩:=gd_some g8;refine draw_u tOk [] 21 [] [0,1,3,7,15,31,63,7,255,511,1023,7,2055,6151,14343,7,63495,129031,260103,524287,1048575] [] ?_;(conv=>whnf);refine And.intro g15 ?_;clear g15;(conv=>whnf);refine And.intro g16 ?_;clear g16;(conv=>whnf);refine And.intro (by kernel_rfl) ?_;(conv=>whnf);refine andI g8 (fun _ g8=>?_) (fun _ g8=>?_)
            · (conv=>whnf);obtain rfl:=Option.some.inj g8;exact ⟨_,rfl,leX []⟩
            · (conv=>whnf);obtain rfl:=Option.some.inj g8;exact ⟨_,rfl,leX []⟩
        · (conv=>whnf);obtain rfl:=Option.some.inj g8;obtain rfl:=hy7 _ rfl;obtain rfl:=Option.some.inj g3;exact ⟨_,rfl,leX []⟩
    · (conv=>whnf);obtain rfl:=Option.some.inj g3;obtain rfl:=hy2 _ rfl;obtain rfl:=Option.some.inj h;exact lfP []
noncomputable def spec_l84Up_m (a0:TreeWorld) (a1:(List Int)) (a2:Int):Option (Int) :=
 bd (lp (σ:=Int × Int × Int) (β:=(Int)) (fun s1 =>
(if (decide (s1.2.2<((a0.Links.length:Nat):Int))) = true then
 bd (spec_l82At_m a0 a2 s1.2.2) fun x5 =>
 bd (gcall ((decide (x5.2<0)) = false) (spec_l83Open_m a0 s1.2.2)) fun x6 =>
 gd (((decide (x5.2<0)) || (!x6)) = false → ((0:Int)≤x5.2∧x5.2<((a1.length:Nat):Int))) <|
 gd (((decide (x5.2<0)) || (!x6)) = false → ((0:Int)≤s1.2.2∧s1.2.2<((a0.Links.length:Nat):Int))) <|
 gd (((decide (x5.2<0)) || (!x6)) = false → ((0:Int)≤a2∧a2<((a1.length:Nat):Int))) <|
(if (((decide (x5.2<0)) || (!x6)) || ((IntKind.i64.wrap ((a1.getD x5.2.toNat default)+((a0.Links.getD s1.2.2.toNat default).Cost))) != (a1.getD a2.toNat default))) = true then
 some (.inl (s1.1,s1.2.1,IntKind.i64.wrap (s1.2.2+1)))
else
 gd ((decide (s1.1<0)) = false → ((0:Int)≤x5.2∧x5.2<((a0.Bridges.length:Nat):Int))) <|
(if ((decide (s1.1<0)) || (decide (((a0.Bridges.getD x5.2.toNat default).Id)<s1.2.1))) = true then
 gd ((0:Int)≤x5.2∧x5.2<((a0.Bridges.length:Nat):Int)) <|
 some (.inl (s1.2.2,(a0.Bridges.getD x5.2.toNat default).Id,IntKind.i64.wrap (s1.2.2+1)))
else
 some (.inl (s1.1,s1.2.1,IntKind.i64.wrap (s1.2.2+1)))))
else
 some (.inr s1.1))) (-1,0,0)) fun x4 =>
 some x4
theorem spec_l84Up_c {a0:TreeWorld} {a1:(List Int)} {a2:Int} {r:Int} (h:spec_l84Up_m a0 a1 a2 = some r):PureC Try.prog 78 [.agg [.d (slD TreeBridge.enc a0.Bridges),.d (slD TreeLink.enc a0.Links),.d (slD encInt a0.Down),.d (slD TreeSlot.enc a0.AtA),.d (slD TreeSlot.enc a0.AtB),.d (slD TreeWord.enc a0.Radio)],.d (slD encInt a1),.d (.int .i64 a2)] (.d (.int .i64 r)) []:=by
  refine pureC_x tOk (fn:=Try.f78) (c:=codeOf Try.f78) rfl rfl ?_;unfold spec_l84Up_m at h;(conv=>whnf);refine seq_in tOk ?_;(conv=>whnf);obtain ⟨x4,hx4,h⟩:=bd_some h;refine loop_m tOk hx4 (fun s1=>⟨0,72,[(1,.d (slD encInt a1)),(2,.d (.int .i64 a2)),(3,.ref 3 0 0),(7,.d (.int .i64 s1.1)),(8,.d (.int .i64 s1.2.1)),(9,.d (.int .i64 s1.2.2))],[],[(3,.box 29 [.d (slD TreeBridge.enc a0.Bridges),.d (slD TreeLink.enc a0.Links),.d (slD encInt a0.Down),.d (slD TreeSlot.enc a0.AtA),.d (slD TreeSlot.enc a0.AtB),.d (slD TreeWord.enc a0.Radio)])],[]⟩) ?_ ?_
  · exact leX []
  · clear hx4;intro s1 y2 g3 hy2;(conv=>whnf);refine seq_in tOk ?_;(conv=>whnf);refine andI g3 (fun _ g3=>?_) (fun _ g3=>?_)
    · (conv=>whnf);refine seq_in tOk ?_;(conv=>whnf);obtain ⟨x5,hx5,g3⟩:=bd_some g3;refine cC 0 (spec_l82At_c hx5) ?_;clear hx5;(conv=>whnf);refine seq_in tOk ?_;(conv=>whnf);obtain ⟨x6,hx6,g3⟩:=bd_some g3;obtain ⟨g7,g3⟩:=gd_some g3;obtain ⟨g8,g3⟩:=gd_some g3;obtain ⟨g9,g3⟩:=gd_some g3;refine draw_u tOk [.u 5 0 (.d (.bool x6)) []] 26 [] [0,1,3,7,7,31,63,127,255,511,511,2047,4095,511,8703,511,57855,123391,254463,524287,511,511,3146239,7340543,16777215,33554431] [] ?_;(conv=>whnf);refine And.intro (callDG_if rfl rfl rfl rfl (by intro c0; exact spec_l83Open_c (gcall_some hx6 c0))) ?_;(conv=>whnf);refine And.intro g7 ?_;clear g7;(conv=>whnf);refine And.intro g8 ?_;clear g8;(conv=>whnf);refine And.intro g9 ?_;clear g9;(conv=>whnf);refine And.intro (by kernel_rfl) ?_;(conv=>whnf);refine andI g3 (fun _ g3=>?_) (fun _ g3=>?_)
      · (conv=>whnf);obtain rfl:=Option.some.inj g3;exact ⟨_,rfl,leX []⟩
      · (conv=>whnf);refine gdI g3 (fun g3=>?_);(conv=>whnf);refine andI g3 (fun _ g3=>?_) (fun _ g3=>?_)
        · (conv=>whnf);refine gdI g3 (fun g3=>?_);(conv=>whnf);obtain rfl:=Option.some.inj g3;exact ⟨_,rfl,leX []⟩
        · (conv=>whnf);obtain rfl:=Option.some.inj g3;exact ⟨_,rfl,leX []⟩
    · (conv=>whnf);obtain rfl:=Option.some.inj g3;obtain rfl:=hy2 _ rfl;obtain rfl:=Option.some.inj h;exact lfP []
end Go.Proofs.Ytfgmolljcgnafaa
