/-
  What some of the program's functions compute: their models, and that the functions compute these; no condition.
-/
import Derived.Test.YthgcnnkjojemdaaTyz
import Derived.Test.YthgcnnkjojemdaaTbz
import Derived.Test.YthgcnnkjojemdaaKz4
set_option linter.all false
namespace Go.Proofs.Ythgcnnkjojemdaa
open Go Go.Ab
set_option maxRecDepth 100000
set_option maxHeartbeats 4000000
noncomputable def laws_FnTreeBest_m (a0:(List Int)):Option (Bool) :=
(if (decide (((a0.length:Nat):Int) > 1048576)) = true then
 some true
else
 bd (spec_DrawTreeBest_m a0) fun x1 =>
 bd (impl_TreeBest_m x1) fun x2 =>
 bd (spec_TreeBest_m x1) fun x3 =>
 bd (laws_wtMinds_m x2 x3) fun x4 =>
(if (!x4) = true then
 some false
else
 bd (spec_TreeWorldOk_m x1) fun x5 =>
(if (!x5) = true then
 some (((x2.length:Nat):Int) == 0)
else
 bd (laws_wtAll_m x1) fun x6 =>
 bd (laws_wtHeads_m x1 x6) fun x7 =>
 bd (lp (σ:=Int) (β:=(Unit ⊕ Unit)) (fun s8 =>
(if (decide (s8<((x1.Bridges.length:Nat):Int))) = true then
 gd ((0:Int)≤s8∧s8<((x2.length:Nat):Int)) <|
 gd ((0:Int)≤s8∧s8<((x1.Bridges.length:Nat):Int)) <|
(if (!((x1.Bridges.getD s8.toNat default).Up)) = true then
(if (!((((((x2.getD s8.toNat default).Vector).Root) == 0) && (((((x2.getD s8.toNat default).Vector).Cost) == 0) && (((((x2.getD s8.toNat default).Vector).Age) == 0) && true))) && ((((x2.getD s8.toNat default).Link) == 0) && true))) = true then
 some (.inr (.inl ()))
else
 some (.inl (IntKind.i64.wrap (s8+1))))
else
 bd (lp (σ:=Int) (β:=(Unit ⊕ Unit)) (fun s14 =>
(if (decide (s14<((x1.Bridges.length:Nat):Int))) = true then
 gd ((0:Int)≤s14∧s14<((x1.Bridges.length:Nat):Int)) <|
 gd ((x1.Bridges.getD s14.toNat default).Up = true → ((0:Int)≤s14∧s14<((x7.1.length:Nat):Int))) <|
 gd ((x1.Bridges.getD s14.toNat default).Up = true → ((0:Int)≤s8∧s8<((x7.1.length:Nat):Int))) <|
 gd (((x1.Bridges.getD s14.toNat default).Up && ((x7.1.getD s14.toNat default) == (x7.1.getD s8.toNat default))) = true → ((0:Int)≤s14∧s14<((x1.Bridges.length:Nat):Int))) <|
 gd ((decide (((x1.Bridges.getD s14.toNat default).Id)<(((x2.getD s8.toNat default).Vector).Root))) = false → (((x1.Bridges.getD s14.toNat default).Up && ((x7.1.getD s14.toNat default) == (x7.1.getD s8.toNat default))) = true → ((0:Int)≤s14∧s14<((x2.length:Nat):Int)))) <|
(if (((x1.Bridges.getD s14.toNat default).Up && ((x7.1.getD s14.toNat default) == (x7.1.getD s8.toNat default))) && ((decide (((x1.Bridges.getD s14.toNat default).Id)<(((x2.getD s8.toNat default).Vector).Root))) || ((((x2.getD s14.toNat default).Vector).Root) != (((x2.getD s8.toNat default).Vector).Root)))) = true then
 some (.inr (.inl ()))
else
 some (.inl (IntKind.i64.wrap (s14+1))))
else
 some (.inr (.inr ())))) 0) fun x17 =>
(match x17 with
| .inl d23 =>
 some (.inr (.inl ()))
| .inr d24 =>
 gd ((0:Int)≤s8∧s8<((x1.Bridges.length:Nat):Int)) <|
(if ((!((decide (((x2.getD s8.toNat default).Link)<0)) == ((((x2.getD s8.toNat default).Vector).Root) == ((x1.Bridges.getD s8.toNat default).Id)))) || ((decide (((x2.getD s8.toNat default).Link)<0)) && ((((x2.getD s8.toNat default).Vector).Cost) != 0))) = true then
 some (.inr (.inl ()))
else
 bd (lp (σ:=Int) (β:=(Unit ⊕ Unit)) (fun s26 =>
(if (decide (s26<((x1.Links.length:Nat):Int))) = true then
 bd (laws_wtDown_m x1 s26) fun x30 =>
 gd (x30 = false → ((0:Int)≤s26∧s26<((x1.Links.length:Nat):Int))) <|
 gd ((((x1.Links.getD s26.toNat default).A) != s8) = true → (x30 = false → ((0:Int)≤s26∧s26<((x1.Links.length:Nat):Int)))) <|
(if (x30 || ((((x1.Links.getD s26.toNat default).A) != s8) && (((x1.Links.getD s26.toNat default).B) != s8))) = true then
 some (.inl (IntKind.i64.wrap (s26+1)))
else
 gd ((0:Int)≤s26∧s26<((x1.Links.length:Nat):Int)) <|
 gd ((0:Int)≤s26∧s26<((x1.Links.length:Nat):Int)) <|
 gd ((0:Int)≤IntKind.i64.wrap ((IntKind.i64.wrap (((x1.Links.getD s26.toNat default).A)+((x1.Links.getD s26.toNat default).B))) - s8)∧IntKind.i64.wrap ((IntKind.i64.wrap (((x1.Links.getD s26.toNat default).A)+((x1.Links.getD s26.toNat default).B))) - s8)<((x2.length:Nat):Int)) <|
 gd ((0:Int)≤s26∧s26<((x1.Links.length:Nat):Int)) <|
 gd ((s26 == ((x2.getD s8.toNat default).Link)) = true → ((decide ((IntKind.i64.wrap ((((x2.getD ((IntKind.i64.wrap ((IntKind.i64.wrap (((x1.Links.getD s26.toNat default).A)+((x1.Links.getD s26.toNat default).B))) - s8)).toNat) default).Vector).Cost)+((x1.Links.getD s26.toNat default).Cost)))<(((x2.getD s8.toNat default).Vector).Cost))) = false → ((0:Int)≤IntKind.i64.wrap ((IntKind.i64.wrap (((x1.Links.getD s26.toNat default).A)+((x1.Links.getD s26.toNat default).B))) - s8)∧IntKind.i64.wrap ((IntKind.i64.wrap (((x1.Links.getD s26.toNat default).A)+((x1.Links.getD s26.toNat default).B))) - s8)<((x2.length:Nat):Int)))) <|
 gd ((s26 == ((x2.getD s8.toNat default).Link)) = true → ((decide ((IntKind.i64.wrap ((((x2.getD ((IntKind.i64.wrap ((IntKind.i64.wrap (((x1.Links.getD s26.toNat default).A)+((x1.Links.getD s26.toNat default).B))) - s8)).toNat) default).Vector).Cost)+((x1.Links.getD s26.toNat default).Cost)))<(((x2.getD s8.toNat default).Vector).Cost))) = false → ((0:Int)≤s26∧s26<((x1.Links.length:Nat):Int)))) <|
 gd (((IntKind.i64.wrap ((((x2.getD ((IntKind.i64.wrap ((IntKind.i64.wrap (((x1.Links.getD s26.toNat default).A)+((x1.Links.getD s26.toNat default).B))) - s8)).toNat) default).Vector).Cost)+((x1.Links.getD s26.toNat default).Cost))) != (((x2.getD s8.toNat default).Vector).Cost)) = false → ((s26 == ((x2.getD s8.toNat default).Link)) = true → ((decide ((IntKind.i64.wrap ((((x2.getD ((IntKind.i64.wrap ((IntKind.i64.wrap (((x1.Links.getD s26.toNat default).A)+((x1.Links.getD s26.toNat default).B))) - s8)).toNat) default).Vector).Cost)+((x1.Links.getD s26.toNat default).Cost)))<(((x2.getD s8.toNat default).Vector).Cost))) = false → ((0:Int)≤IntKind.i64.wrap ((IntKind.i64.wrap (((x1.Links.getD s26.toNat default).A)+((x1.Links.getD s26.toNat default).B))) - s8)∧IntKind.i64.wrap ((IntKind.i64.wrap (((x1.Links.getD s26.toNat default).A)+((x1.Links.getD s26.toNat default).B))) - s8)<((x2.length:Nat):Int))))) <|
(if ((decide ((IntKind.i64.wrap ((((x2.getD ((IntKind.i64.wrap ((IntKind.i64.wrap (((x1.Links.getD s26.toNat default).A)+((x1.Links.getD s26.toNat default).B))) - s8)).toNat) default).Vector).Cost)+((x1.Links.getD s26.toNat default).Cost)))<(((x2.getD s8.toNat default).Vector).Cost))) || ((s26 == ((x2.getD s8.toNat default).Link)) && (((IntKind.i64.wrap ((((x2.getD ((IntKind.i64.wrap ((IntKind.i64.wrap (((x1.Links.getD s26.toNat default).A)+((x1.Links.getD s26.toNat default).B))) - s8)).toNat) default).Vector).Cost)+((x1.Links.getD s26.toNat default).Cost))) != (((x2.getD s8.toNat default).Vector).Cost)) || ((IntKind.i64.wrap ((((x2.getD ((IntKind.i64.wrap ((IntKind.i64.wrap (((x1.Links.getD s26.toNat default).A)+((x1.Links.getD s26.toNat default).B))) - s8)).toNat) default).Vector).Age)+1)) != (((x2.getD s8.toNat default).Vector).Age))))) = true then
 some (.inr (.inl ()))
else
 some (.inl (IntKind.i64.wrap (s26+1)))))
else
 some (.inr (.inr ())))) 0) fun x29 =>
(match x29 with
| .inl d40 =>
 some (.inr (.inl ()))
| .inr d41 =>
 some (.inl (IntKind.i64.wrap (s8+1)))))))
else
 some (.inr (.inr ())))) 0) fun x11 =>
(match x11 with
| .inl d42 =>
 some false
| .inr d43 =>
 bd (impl_TreeRight_m x1) fun x44 =>
 bd (spec_TreeRight_m x1) fun x45 =>
 some (x44 == x45)))))
theorem laws_FnTreeBest_c {a0:(List Int)} {r:Bool} (h:laws_FnTreeBest_m a0 = some r):PureC Try.prog 3 [.d (slD encByte a0)] (.d (.bool r)) []:=by
  refine pureC_x tOk (fn:=Try.f3) (c:=codeOf Try.f3) rfl rfl ?_;unfold laws_FnTreeBest_m at h;(conv=>whnf);refine seq_in tOk ?_;(conv=>whnf);refine andI h (fun _ h=>?_) (fun _ h=>?_)
  · (conv=>whnf);obtain rfl:=Option.some.inj h;exact lfP []
  · (conv=>whnf);obtain ⟨x1,hx1,h⟩:=bd_some h;refine cE [] 1000 (spec_DrawTreeBest_c hx1) ?_;(conv=>whnf);obtain ⟨x2,hx2,h⟩:=bd_some h;refine cC 2000 (impl_TreeBest_c hx2) ?_;clear hx2;(conv=>whnf);refine seq_in tOk ?_;(conv=>whnf);obtain ⟨x3,hx3,h⟩:=bd_some h;refine cC 3000 (spec_TreeBest_c hx3) ?_;clear hx3;(conv=>whnf);obtain ⟨x4,hx4,h⟩:=bd_some h;refine cC 0 (laws_wtMinds_c hx4) ?_;clear hx4;(conv=>whnf);refine andI h (fun _ h=>?_) (fun _ h=>?_)
    · (conv=>whnf);obtain rfl:=Option.some.inj h;exact lfP []
    · (conv=>whnf);refine seq_in tOk ?_;(conv=>whnf);obtain ⟨x5,hx5,h⟩:=bd_some h;refine cC 0 (spec_TreeWorldOk_c hx5) ?_;clear hx5;(conv=>whnf);refine andI h (fun _ h=>?_) (fun _ h=>?_)
      · (conv=>whnf);obtain rfl:=Option.some.inj h;exact lfP []
      · (conv=>whnf);obtain ⟨x6,hx6,h⟩:=bd_some h;obtain ⟨x7,hx7,h⟩:=bd_some h;refine draw_u tOk [.u 2 4000 (.osl 5001 0 x6.length) [⟨5001,3,1,x6.length,rows encInt x6⟩],.u 3 5000 (.tup [.osl 5001 0 x7.1.length,.d (.bool x7.2)]) [⟨5001,3,1,x7.1.length,rows encInt x7.1⟩]] 9 [] [0,0,2,7,15,31,31,63,255] [] ?_;(conv=>whnf);refine And.intro (callD_any (laws_wtAll_c hx6) (by kernel_rfl)) ?_;(conv=>whnf);refine And.intro (callD_any (laws_wtHeads_c hx7) (by kernel_rfl)) ?_;(conv=>whnf);refine And.intro (by kernel_rfl) ?_;(conv=>whnf);refine seq_in tOk ?_;(conv=>whnf);obtain ⟨x11,hx11,h⟩:=bd_some h;refine loop_m tOk hx11 (fun s8=>⟨0,236,[(3,.ref 3 0 0),(4,.osl 7001 0 x2.length),(5,.osl 10001 0 x7.1.length),(7,.d (.int .i64 s8))],[],[(10001,.arr 3 1 x7.1.length (rows encInt x7.1)),(7001,.arr 41 4 x2.length (rows TreeMind.enc x2)),(3,.box 29 [.d (slD TreeBridge.enc x1.Bridges),.d (slD TreeLink.enc x1.Links),.d (slD encInt x1.Down),.d (slD TreeSlot.enc x1.AtA),.d (slD TreeSlot.enc x1.AtB),.osl 6001 0 x1.Radio.length]),(6001,.arr 76 5 x1.Radio.length (rows TreeWord.enc x1.Radio))],[]⟩) ?_ ?_
        · exact leX []
        · clear hx11;intro s8 y9 g10 hy9;(conv=>whnf);refine seq_in tOk ?_;(conv=>whnf);refine andI g10 (fun _ g10=>?_) (fun _ g10=>?_)
          · (conv=>whnf);refine seq_in tOk ?_;(conv=>whnf);refine gdI g10 (fun g10=>?_);(conv=>whnf);refine seq_in tOk ?_;(conv=>whnf);refine gdI g10 (fun g10=>?_);(conv=>whnf);refine andI g10 (fun _ g10=>?_) (fun _ g10=>?_)
            · (conv=>whnf);refine seq_in tOk ?_;(conv=>whnf);refine andI g10 (fun _ g10=>?_) (fun _ g10=>?_)
              · (conv=>whnf);obtain rfl:=Option.some.inj g10;obtain rfl:=hy9 _ rfl;obtain rfl:=Option.some.inj h;exact lfP []
              · (conv=>whnf);obtain rfl:=Option.some.inj g10;exact ⟨_,rfl,leX []⟩
            · (conv=>whnf);refine seq_in tOk ?_;(conv=>whnf);obtain ⟨x17,hx17,g10⟩:=bd_some g10;refine loop_m tOk hx17 (fun s14=>⟨0,236,[(3,.ref 3 0 0),(4,.osl 7001 0 x2.length),(5,.osl 10001 0 x7.1.length),(7,.d (.int .i64 s8)),(8,.ref 8 0 0),(9,.d (.int .i64 s14))],[],[(8,.box 41 [.d (.int .i64 (((x2.getD s8.toNat default).Vector).Root)),.d (.int .i64 (((x2.getD s8.toNat default).Vector).Cost)),.d (.int .i64 (((x2.getD s8.toNat default).Vector).Age)),.d (.int .i64 ((x2.getD s8.toNat default).Link))]),(10001,.arr 3 1 x7.1.length (rows encInt x7.1)),(7001,.arr 41 4 x2.length (rows TreeMind.enc x2)),(3,.box 29 [.d (slD TreeBridge.enc x1.Bridges),.d (slD TreeLink.enc x1.Links),.d (slD encInt x1.Down),.d (slD TreeSlot.enc x1.AtA),.d (slD TreeSlot.enc x1.AtB),.osl 6001 0 x1.Radio.length]),(6001,.arr 76 5 x1.Radio.length (rows TreeWord.enc x1.Radio))],[]⟩) ?_ ?_
              · exact leX []
              · clear hx17;intro s14 y15 g16 hy15;(conv=>whnf);refine seq_in tOk ?_;(conv=>whnf);refine andI g16 (fun _ g16=>?_) (fun _ g16=>?_)
                · (conv=>whnf);refine seq_in tOk ?_;(conv=>whnf);obtain ⟨g18,g16⟩:=gd_some g16;obtain ⟨g19,g16⟩:=gd_some g16;obtain ⟨g20,g16⟩:=gd_some g16;obtain ⟨g21,g16⟩:=gd_some g16;obtain ⟨g22,g16⟩:=gd_some g16;refine draw_u tOk [] 41 [] [0,1,0,7,15,31,63,127,127,511,1023,127,127,6271,14463,32767,65535,131071,262143,524287,262143,2097151,4194303,8388607,262143,17039359,50593791,134217727,268435455,536870911,536870911,2147483647,4294967295,8589934591,17179869183,536870911,34896609279,103616086015,274877906943,549755813887,1099511627775] [] ?_;(conv=>whnf);refine And.intro g18 ?_;clear g18;(conv=>whnf);refine And.intro g19 ?_;clear g19;(conv=>whnf);refine And.intro g20 ?_;clear g20;(conv=>whnf);refine And.intro g21 ?_;clear g21;(conv=>whnf);refine And.intro g22 ?_;clear g22;(conv=>whnf);refine And.intro (by kernel_rfl) ?_;(conv=>whnf);refine andI g16 (fun _ g16=>?_) (fun _ g16=>?_)
                  · (conv=>whnf);obtain rfl:=Option.some.inj g16;obtain rfl:=hy15 _ rfl;obtain rfl:=Option.some.inj g10;obtain rfl:=hy9 _ rfl;obtain rfl:=Option.some.inj h;exact lfP []
                  · (conv=>whnf);obtain rfl:=Option.some.inj g16;exact ⟨_,rfl,leX []⟩
                · (conv=>whnf);obtain rfl:=Option.some.inj g16;obtain rfl:=hy15 _ rfl;refine seq_in tOk ?_;(conv=>whnf);obtain ⟨g25,g10⟩:=gd_some g10;refine draw_u tOk [] 25 [] [0,1,3,0,8,24,0,64,0,448,960,1984,4088,8191,16383,32767,65535,131071,262143,524287,1048575,2097151,4194303,8388607,16777215] [] ?_;(conv=>whnf);refine And.intro g25 ?_;clear g25;(conv=>whnf);refine And.intro (by kernel_rfl) ?_;(conv=>whnf);refine andI g10 (fun _ g10=>?_) (fun _ g10=>?_)
                  · (conv=>whnf);obtain rfl:=Option.some.inj g10;obtain rfl:=hy9 _ rfl;obtain rfl:=Option.some.inj h;exact lfP []
                  · (conv=>whnf);obtain ⟨x29,hx29,g10⟩:=bd_some g10;refine loop_m tOk hx29 (fun s26=>⟨0,236,[(3,.ref 3 0 0),(4,.osl 7001 0 x2.length),(5,.osl 10001 0 x7.1.length),(7,.d (.int .i64 s8)),(8,.ref 8 0 0),(10,.d (.int .i64 s26))],[],[(8,.box 41 [.d (.int .i64 (((x2.getD s8.toNat default).Vector).Root)),.d (.int .i64 (((x2.getD s8.toNat default).Vector).Cost)),.d (.int .i64 (((x2.getD s8.toNat default).Vector).Age)),.d (.int .i64 ((x2.getD s8.toNat default).Link))]),(10001,.arr 3 1 x7.1.length (rows encInt x7.1)),(7001,.arr 41 4 x2.length (rows TreeMind.enc x2)),(3,.box 29 [.d (slD TreeBridge.enc x1.Bridges),.d (slD TreeLink.enc x1.Links),.d (slD encInt x1.Down),.d (slD TreeSlot.enc x1.AtA),.d (slD TreeSlot.enc x1.AtB),.osl 6001 0 x1.Radio.length]),(6001,.arr 76 5 x1.Radio.length (rows TreeWord.enc x1.Radio))],[]⟩) ?_ ?_
                    · exact leX []
                    · clear hx29;intro s26 y27 g28 hy27;(conv=>whnf);refine seq_in tOk ?_;(conv=>whnf);refine andI g28 (fun _ g28=>?_) (fun _ g28=>?_)
                      · (conv=>whnf);refine seq_in tOk ?_;(conv=>whnf);refine seq_in tOk ?_;(conv=>whnf);obtain ⟨x30,hx30,g28⟩:=bd_some g28;refine cC 0 (laws_wtDown_c hx30) ?_;clear hx30;(conv=>whnf);refine gdI g28 (fun g28=>?_);(conv=>whnf);refine gdI g28 (fun g28=>?_);(conv=>whnf);refine andI g28 (fun _ g28=>?_) (fun _ g28=>?_)
                        · (conv=>whnf);obtain rfl:=Option.some.inj g28;exact ⟨_,rfl,leX []⟩
                        · (conv=>whnf);obtain ⟨g33,g28⟩:=gd_some g28;obtain ⟨g34,g28⟩:=gd_some g28;refine draw_u tOk [] 16 [] [0,1,0,7,15,31,0,64,0,448,960,1984,4095,0,16383,32767] [] ?_;(conv=>whnf);refine And.intro g33 ?_;clear g33;(conv=>whnf);refine And.intro g34 ?_;clear g34;(conv=>whnf);refine And.intro (by kernel_rfl) ?_;(conv=>whnf);obtain ⟨g35,g28⟩:=gd_some g28;obtain ⟨g36,g28⟩:=gd_some g28;obtain ⟨g37,g28⟩:=gd_some g28;obtain ⟨g38,g28⟩:=gd_some g28;obtain ⟨g39,g28⟩:=gd_some g28;refine draw_u tOk [] 55 [] [0,0,3,7,15,31,0,64,0,448,960,1984,4095,0,8192,24576,65535,131071,262143,262143,786431,2097151,4194303,8388607,8388607,33554431,67108863,134217727,268435455,8388607,545259519,8388607,3766484991,8061452287,16651386879,34359738367,8388607,68727865343,206166818815,549755813887,1099511627775,2199023255551,2199023255551,8796093022207,17592186044415,35184372088831,70368744177663,140737488355327,2199023255551,283673999966207,846623953387519,2251799813685247,4503599627370495,9007199254740991,18014398509481983] [] ?_;(conv=>whnf);refine And.intro g35 ?_;clear g35;(conv=>whnf);refine And.intro g36 ?_;clear g36;(conv=>whnf);refine And.intro g37 ?_;clear g37;(conv=>whnf);refine And.intro g38 ?_;clear g38;(conv=>whnf);refine And.intro g39 ?_;clear g39;(conv=>whnf);refine And.intro (by kernel_rfl) ?_;(conv=>whnf);refine andI g28 (fun _ g28=>?_) (fun _ g28=>?_)
                          · (conv=>whnf);obtain rfl:=Option.some.inj g28;obtain rfl:=hy27 _ rfl;obtain rfl:=Option.some.inj g10;obtain rfl:=hy9 _ rfl;obtain rfl:=Option.some.inj h;exact lfP []
                          · (conv=>whnf);obtain rfl:=Option.some.inj g28;exact ⟨_,rfl,leX []⟩
                      · (conv=>whnf);obtain rfl:=Option.some.inj g28;obtain rfl:=hy27 _ rfl;obtain rfl:=Option.some.inj g10;exact ⟨_,rfl,leX []⟩
          · (conv=>whnf);obtain rfl:=Option.some.inj g10;obtain rfl:=hy9 _ rfl;obtain ⟨x44,hx44,h⟩:=bd_some h;obtain ⟨x45,hx45,h⟩:=bd_some h;refine draw_u tOk [.u 1 0 (.d (.bool x44)) [],.u 3 0 (.d (.bool x45)) []] 6 [] [0,1,0,7,15,31] [] ?_;(conv=>whnf);refine And.intro (callD_any (impl_TreeRight_c hx44) (by kernel_rfl)) ?_;(conv=>whnf);refine And.intro (callD_any (spec_TreeRight_c hx45) (by kernel_rfl)) ?_;(conv=>whnf);refine And.intro (by kernel_rfl) ?_;(conv=>whnf);obtain rfl:=Option.some.inj h;exact lfP []
end Go.Proofs.Ythgcnnkjojemdaa
