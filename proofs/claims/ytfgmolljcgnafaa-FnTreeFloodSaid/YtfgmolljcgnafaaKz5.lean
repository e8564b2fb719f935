/-
  What some of the program's functions compute: their models, and that the functions compute these; no condition.
-/
import Derived.Test.YtfgmolljcgnafaaTyz
import Derived.Test.YtfgmolljcgnafaaTbz
import Derived.Test.YtfgmolljcgnafaaAbz7
import Derived.Test.YtfgmolljcgnafaaKz4
set_option linter.all false
namespace Go.Proofs.Ytfgmolljcgnafaa
open Go Go.Ab
set_option maxRecDepth 100000
set_option maxHeartbeats 4000000
noncomputable def spec_l84Up_m (a0:TreeWorld) (a1:(List Int)) (a2:Int):Option (Int) :=
bd (lp (σ:=Int × Int × Int) (β:=(Int)) (fun s1 =>
(if (decide (s1.2.2<((a0.Links.length:Nat):Int))) = true then
bd (spec_l82At_m a0 a2 s1.2.2) fun x5 =>
bd (gcall ((decide (x5.2<0)) = false) (spec_l83Open_m a0 s1.2.2)) fun x6 =>
gd (((decide (x5.2<0)) || (!x6)) = false → ((0:Int)≤x5.2∧x5.2<((a1.length:Nat):Int))) <|
gd (((decide (x5.2<0)) || (!x6)) = false → ((0:Int)≤s1.2.2∧s1.2.2<((a0.Links.length:Nat):Int))) <|
gd (((decide (x5.2<0)) || (!x6)) = false → ((0:Int)≤a2∧a2<((a1.length:Nat):Int))) <|
(if (((decide (x5.2<0)) || (!x6)) || ((IntKind.i64.wrap ((a1.getD x5.2.toNat default)+((a0.Links.getD s1.2.2.toNat default).Cost))) != (a1.getD a2.toNat default))) = true then
some (.inl (s1.1,s1.2.1,IntKind.i64.wrap (s1.2.2+1)))
else
gd ((decide (s1.1<0)) = false → ((0:Int)≤x5.2∧x5.2<((a0.Bridges.length:Nat):Int))) <|
(if ((decide (s1.1<0)) || (decide (((a0.Bridges.getD x5.2.toNat default).Id)<s1.2.1))) = true then
gd ((0:Int)≤x5.2∧x5.2<((a0.Bridges.length:Nat):Int)) <|
some (.inl (s1.2.2,(a0.Bridges.getD x5.2.toNat default).Id,IntKind.i64.wrap (s1.2.2+1)))
else
some (.inl (s1.1,s1.2.1,IntKind.i64.wrap (s1.2.2+1)))))
else
some (.inr s1.1))) (-1,0,0)) fun x4 =>
some x4
theorem spec_l84Up_c {a0:TreeWorld} {a1:(List Int)} {a2:Int} {r:Int} (h:spec_l84Up_m a0 a1 a2 = some r):PureC Try.prog 78 [.agg [.d (slD TreeBridge.enc a0.Bridges),.d (slD TreeLink.enc a0.Links),.d (slD encInt a0.Down),.d (slD TreeSlot.enc a0.AtA),.d (slD TreeSlot.enc a0.AtB),.d (slD TreeWord.enc a0.Radio)],.d (slD encInt a1),.d (.int .i64 a2)] (.d (.int .i64 r)) []:=by
  refine pureC_x tOk (fn:=Try.f78) (c:=codeOf Try.f78) rfl rfl ?_;unfold spec_l84Up_m at h;(conv=>whnf);refine seq_in tOk ?_;(conv=>whnf);obtain ⟨x4,hx4,h⟩:=bd_some h;refine loop_m tOk hx4 (fun s1=>⟨0,72,[(1,.d (slD encInt a1)),(2,.d (.int .i64 a2)),(3,.ref 3 0 0),(7,.d (.int .i64 s1.1)),(8,.d (.int .i64 s1.2.1)),(9,.d (.int .i64 s1.2.2))],[],[(3,.box 29 [.d (slD TreeBridge.enc a0.Bridges),.d (slD TreeLink.enc a0.Links),.d (slD encInt a0.Down),.d (slD TreeSlot.enc a0.AtA),.d (slD TreeSlot.enc a0.AtB),.d (slD TreeWord.enc a0.Radio)])],[]⟩) ?_ ?_
  · exact leX []
  · clear hx4;intro s1 y2 g3 hy2;(conv=>whnf);refine seq_in tOk ?_;(conv=>whnf);refine andI g3 (fun _ g3=>?_) (fun _ g3=>?_)
    · (conv=>whnf);refine seq_in tOk ?_;(conv=>whnf);obtain ⟨x5,hx5,g3⟩:=bd_some g3;refine cC 0 (spec_l82At_c hx5) ?_;clear hx5;(conv=>whnf);refine seq_in tOk ?_;(conv=>whnf);obtain ⟨x6,hx6,g3⟩:=bd_some g3;obtain ⟨g7,g3⟩:=gd_some g3;obtain ⟨g8,g3⟩:=gd_some g3;obtain ⟨g9,g3⟩:=gd_some g3;refine draw_u tOk [.u 5 0 (.d (.bool x6)) []] 26 [] [0,1,3,7,7,31,63,127,255,511,511,2047,4095,511,8703,511,57855,123391,254463,524287,511,511,3146239,7340543,16777215,33554431] [] ?_;(conv=>whnf);refine And.intro (callDG_if rfl rfl rfl rfl (by intro c0; exact spec_l83Open_c (gcall_some hx6 c0))) ?_;(conv=>whnf);refine And.intro g7 ?_;clear g7;(conv=>whnf);refine And.intro g8 ?_;clear g8;(conv=>whnf);refine And.intro g9 ?_;clear g9;(conv=>whnf);refine And.intro (by kernel_rfl) ?_;(conv=>whnf);refine andI g3 (fun _ g3=>?_) (fun _ g3=>?_)
      · (conv=>whnf);obtain rfl:=Option.some.inj g3;exact ⟨_,rfl,leX []⟩
      · (conv=>whnf);refine gdI g3 (fun g3=>?_);(conv=>whnf);refine andI g3 (fun _ g3=>?_) (fun _ g3=>?_)
        · (conv=>whnf);refine gdI g3 (fun g3=>?_);(conv=>whnf);obtain rfl:=Option.some.inj g3;exact ⟨_,rfl,leX []⟩
        · (conv=>whnf);obtain rfl:=Option.some.inj g3;exact ⟨_,rfl,leX []⟩
    · (conv=>whnf);obtain rfl:=Option.some.inj g3;obtain rfl:=hy2 _ rfl;obtain rfl:=Option.some.inj h;exact lfP []
end Go.Proofs.Ytfgmolljcgnafaa
