/-
  What some of the program's functions compute: their models, and that the functions compute these; no condition.
-/
import Derived.Test.YthgcnnkjojemdaaTyz
import Derived.Test.YthgcnnkjojemdaaTbz
import Derived.Test.YthgcnnkjojemdaaAbz7
import Derived.Test.YthgcnnkjojemdaaKz3
set_option linter.all false
namespace Go.Proofs.Ythgcnnkjojemdaa
open Go Go.Ab
set_option maxRecDepth 100000
set_option maxHeartbeats 4000000
noncomputable def laws_FnTreeStep_m (a0:(List Int)):Option (Bool) :=
(if (decide (((a0.length:Nat):Int) > 1048576)) = true then
 some true
else
 bd (spec_DrawTreeEvents_m a0) fun x1 =>
 bd (lp (σ:=List TreeBridge × List TreeLink × List Int × List TreeSlot × List TreeSlot × List TreeWord × Int) (β:=(Unit ⊕ ((List TreeBridge) × (List TreeLink) × (List Int) × (List TreeSlot) × (List TreeSlot) × (List TreeWord)))) (fun s2 =>
(if (decide (s2.2.2.2.2.2.2<((x1.2.length:Nat):Int))) = true then
 gd ((0:Int)≤s2.2.2.2.2.2.2∧s2.2.2.2.2.2.2<((x1.2.length:Nat):Int)) <|
 bd (impl_TreeStep_m (⟨s2.1,s2.2.1,s2.2.2.1,s2.2.2.2.1,s2.2.2.2.2.1,s2.2.2.2.2.2.1⟩:TreeWorld) (x1.2.getD s2.2.2.2.2.2.2.toNat default)) fun x7 =>
 gd ((0:Int)≤s2.2.2.2.2.2.2∧s2.2.2.2.2.2.2<((x1.2.length:Nat):Int)) <|
 bd (spec_TreeStep_m (⟨s2.1,s2.2.1,s2.2.2.1,s2.2.2.2.1,s2.2.2.2.2.1,s2.2.2.2.2.2.1⟩:TreeWorld) (x1.2.getD s2.2.2.2.2.2.2.toNat default)) fun x9 =>
 bd (laws_wtWorld_m x7 x9) fun x10 =>
 bd (gcall ((!x10) = false) (impl_TreeWorldOk_m x7)) fun x11 =>
(if ((!x10) || (!x11)) = true then
 some (.inr (.inl ()))
else
 gd ((0:Int)≤s2.2.2.2.2.2.2∧s2.2.2.2.2.2.2<((x1.2.length:Nat):Int)) <|
 bd (lp (σ:=Int) (β:=(Unit ⊕ Unit)) (fun s13 =>
(if (decide (s13<((x7.Bridges.length:Nat):Int))) = true then
 gd ((0:Int)≤s13∧s13<((x7.Bridges.length:Nat):Int)) <|
 gd ((0:Int)≤s13∧s13<((s2.1.length:Nat):Int)) <|
(if ((!(((((((x7.Bridges.getD s13.toNat default).Mind).Vector).Root) == ((((s2.1.getD s13.toNat default).Mind).Vector).Root)) && ((((((x7.Bridges.getD s13.toNat default).Mind).Vector).Cost) == ((((s2.1.getD s13.toNat default).Mind).Vector).Cost)) && ((((((x7.Bridges.getD s13.toNat default).Mind).Vector).Age) == ((((s2.1.getD s13.toNat default).Mind).Vector).Age)) && true))) && (((((x7.Bridges.getD s13.toNat default).Mind).Link) == (((s2.1.getD s13.toNat default).Mind).Link)) && true))) && ((((((x1.2.getD s2.2.2.2.2.2.2.toNat default).Kind) == 1) || (((x1.2.getD s2.2.2.2.2.2.2.toNat default).Kind) == 3)) || (((x1.2.getD s2.2.2.2.2.2.2.toNat default).Kind) == 4)) || (((x1.2.getD s2.2.2.2.2.2.2.toNat default).Kind) == 9))) = true then
 some (.inr (.inl ()))
else
 gd ((0:Int)≤s13∧s13<((x7.Bridges.length:Nat):Int)) <|
 gd ((x7.Bridges.getD s13.toNat default).Up = true → ((0:Int)≤s13∧s13<((x7.Bridges.length:Nat):Int))) <|
 bd (gcall ((x7.Bridges.getD s13.toNat default).Up = true) (spec_TreeThink_m x7 s13)) fun x21 =>
(if ((x7.Bridges.getD s13.toNat default).Up && (!(((((((x7.Bridges.getD s13.toNat default).Mind).Vector).Root) == x21.Vector.Root) && ((((((x7.Bridges.getD s13.toNat default).Mind).Vector).Cost) == x21.Vector.Cost) && ((((((x7.Bridges.getD s13.toNat default).Mind).Vector).Age) == x21.Vector.Age) && true))) && (((((x7.Bridges.getD s13.toNat default).Mind).Link) == x21.Link) && true)))) = true then
 some (.inr (.inl ()))
else
 some (.inl (IntKind.i64.wrap (s13+1)))))
else
 some (.inr (.inr ())))) 0) fun x16 =>
(match x16 with
| .inl d22 =>
 some (.inr (.inl ()))
| .inr d23 =>
 some (.inl (x7.Bridges,x7.Links,x7.Down,x7.AtA,x7.AtB,x7.Radio,IntKind.i64.wrap (s2.2.2.2.2.2.2+1)))))
else
 some (.inr (.inr (s2.1,s2.2.1,s2.2.2.1,s2.2.2.2.1,s2.2.2.2.2.1,s2.2.2.2.2.2.1))))) (x1.1.Bridges,x1.1.Links,x1.1.Down,x1.1.AtA,x1.1.AtB,x1.1.Radio,0)) fun x5 =>
(match x5 with
| .inl d24 =>
 some false
| .inr d25 =>
 some (decide (((d25.1.length:Nat):Int) > 0))))
theorem laws_FnTreeStep_c {a0:(List Int)} {r:Bool} (h:laws_FnTreeStep_m a0 = some r):PureC Try.prog 4 [.d (slD encByte a0)] (.d (.bool r)) []:=by
  refine pureC_x tOk (fn:=Try.f4) (c:=codeOf Try.f4) rfl rfl ?_;unfold laws_FnTreeStep_m at h;(conv=>whnf);refine seq_in tOk ?_;(conv=>whnf);refine andI h (fun _ h=>?_) (fun _ h=>?_)
  · (conv=>whnf);obtain rfl:=Option.some.inj h;exact lfP []
  · (conv=>whnf);obtain ⟨x1,hx1,h⟩:=bd_some h;refine cE [] 1000 (spec_DrawTreeEvents_c hx1) ?_;(conv=>whnf);refine seq_in tOk ?_;(conv=>whnf);obtain ⟨x5,hx5,h⟩:=bd_some h;refine loop_m tOk hx5 (fun s2=>⟨0,113,[(3,.ref 3 0 0),(4,.osl 6001 0 x1.2.length),(5,.d (.int .i64 s2.2.2.2.2.2.2))],[],[(3,.box 29 [.d (slD TreeBridge.enc s2.1),.d (slD TreeLink.enc s2.2.1),.d (slD encInt s2.2.2.1),.d (slD TreeSlot.enc s2.2.2.2.1),.d (slD TreeSlot.enc s2.2.2.2.2.1),.d (slD TreeWord.enc s2.2.2.2.2.2.1)]),(6001,.arr 53 3 x1.2.length (rows TreeEvent.enc x1.2))],[]⟩) ?_ ?_
    · exact leX []
    · clear hx5;intro s2 y3 g4 hy3;(conv=>whnf);refine seq_in tOk ?_;(conv=>whnf);refine andI g4 (fun _ g4=>?_) (fun _ g4=>?_)
      · (conv=>whnf);refine seq_in tOk ?_;(conv=>whnf);obtain ⟨g6,g4⟩:=gd_some g4;obtain ⟨x7,hx7,g4⟩:=bd_some g4;refine draw_t tOk [.e 5 [] (.agg [.d (slD TreeBridge.enc x7.Bridges),.d (slD TreeLink.enc x7.Links),.d (slD encInt x7.Down),.d (slD TreeSlot.enc x7.AtA),.d (slD TreeSlot.enc x7.AtB),.d (slD TreeWord.enc x7.Radio)]) [] []] 7 [] [0,0,0,6,14,31,0] [127] [] ?_;(conv=>whnf);refine And.intro g6 ?_;clear g6;(conv=>whnf);refine And.intro (eD [] 0 (impl_TreeStep_c hx7)) ?_;(conv=>whnf);refine And.intro (by kernel_rfl) ?_;(conv=>whnf);refine seq_in tOk ?_;(conv=>whnf);obtain ⟨g8,g4⟩:=gd_some g4;obtain ⟨x9,hx9,g4⟩:=bd_some g4;obtain ⟨x10,hx10,g4⟩:=bd_some g4;obtain ⟨x11,hx11,g4⟩:=bd_some g4;refine draw_u tOk [.u 6 2000 (.agg [.osl 5001 0 x9.Bridges.length,.osl 5002 0 x9.Links.length,.osl 5003 0 x9.Down.length,.osl 5004 0 x9.AtA.length,.osl 5005 0 x9.AtB.length,.osl 5006 0 x9.Radio.length]) [⟨5001,43,6,x9.Bridges.length,rows TreeBridge.enc x9.Bridges⟩,⟨5002,46,3,x9.Links.length,rows TreeLink.enc x9.Links⟩,⟨5003,3,1,x9.Down.length,rows encInt x9.Down⟩,⟨5004,107,4,x9.AtA.length,rows TreeSlot.enc x9.AtA⟩,⟨5005,107,4,x9.AtB.length,rows TreeSlot.enc x9.AtB⟩,⟨5006,76,5,x9.Radio.length,rows TreeWord.enc x9.Radio⟩],.u 7 0 (.d (.bool x10)) [],.u 11 0 (.d (.bool x11)) []] 14 [] [0,0,0,0,12,28,62,127,255,511,1023,2047,4095,8191] [] ?_;(conv=>whnf);refine And.intro g8 ?_;clear g8;(conv=>whnf);refine And.intro (callD_any (spec_TreeStep_c hx9) (by kernel_rfl)) ?_;(conv=>whnf);refine And.intro (callD_any (laws_wtWorld_c hx10) (by kernel_rfl)) ?_;(conv=>whnf);refine And.intro (callDG_if rfl rfl rfl rfl (by intro c0; exact impl_TreeWorldOk_c (gcall_some hx11 c0))) ?_;(conv=>whnf);refine And.intro (by kernel_rfl) ?_;(conv=>whnf);refine andI g4 (fun _ g4=>?_) (fun _ g4=>?_)
        · (conv=>whnf);obtain rfl:=Option.some.inj g4;obtain rfl:=hy3 _ rfl;obtain rfl:=Option.some.inj h;exact lfP []
        · (conv=>whnf);refine gdI g4 (fun g4=>?_);(conv=>whnf);refine seq_in tOk ?_;(conv=>whnf);obtain ⟨x16,hx16,g4⟩:=bd_some g4;refine loop_m tOk hx16 (fun s13=>⟨0,113,[(3,.ref 3 0 0),(4,.osl 6001 0 x1.2.length),(5,.d (.int .i64 s2.2.2.2.2.2.2)),(6,.ref 6 0 0),(7,.ref 7 0 0),(8,.d (.int .i64 s13))],[],[(7,.box 53 [.d (.int .i64 ((x1.2.getD s2.2.2.2.2.2.2.toNat default).Kind)),.d (.int .i64 ((x1.2.getD s2.2.2.2.2.2.2.toNat default).At)),.d (.int .i64 ((x1.2.getD s2.2.2.2.2.2.2.toNat default).End))]),(6,.box 29 [.d (slD TreeBridge.enc x7.Bridges),.d (slD TreeLink.enc x7.Links),.d (slD encInt x7.Down),.d (slD TreeSlot.enc x7.AtA),.d (slD TreeSlot.enc x7.AtB),.d (slD TreeWord.enc x7.Radio)]),(3,.box 29 [.d (slD TreeBridge.enc s2.1),.d (slD TreeLink.enc s2.2.1),.d (slD encInt s2.2.2.1),.d (slD TreeSlot.enc s2.2.2.2.1),.d (slD TreeSlot.enc s2.2.2.2.2.1),.d (slD TreeWord.enc s2.2.2.2.2.2.1)]),(6001,.arr 53 3 x1.2.length (rows TreeEvent.enc x1.2))],[]⟩) ?_ ?_
          · exact leX []
          · clear hx16;intro s13 y14 g15 hy14;(conv=>whnf);refine seq_in tOk ?_;(conv=>whnf);refine andI g15 (fun _ g15=>?_) (fun _ g15=>?_)
            · (conv=>whnf);refine seq_in tOk ?_;(conv=>whnf);obtain ⟨g17,g15⟩:=gd_some g15;obtain ⟨g18,g15⟩:=gd_some g15;refine draw_u tOk [] 14 [] [0,1,0,7,15,31,0,64,0,448,960,1984,4095,8191] [] ?_;(conv=>whnf);refine And.intro g17 ?_;clear g17;(conv=>whnf);refine And.intro g18 ?_;clear g18;(conv=>whnf);refine And.intro (by kernel_rfl) ?_;(conv=>whnf);refine seq_in tOk ?_;(conv=>whnf);refine andI g15 (fun _ g15=>?_) (fun _ g15=>?_)
              · (conv=>whnf);obtain rfl:=Option.some.inj g15;obtain rfl:=hy14 _ rfl;obtain rfl:=Option.some.inj g4;obtain rfl:=hy3 _ rfl;obtain rfl:=Option.some.inj h;exact lfP []
              · (conv=>whnf);obtain ⟨g19,g15⟩:=gd_some g15;obtain ⟨g20,g15⟩:=gd_some g15;obtain ⟨x21,hx21,g15⟩:=bd_some g15;refine draw_u tOk [.u 15 0 (.agg [.d (.int .i64 x21.Vector.Root),.d (.int .i64 x21.Vector.Cost),.d (.int .i64 x21.Vector.Age),.d (.int .i64 x21.Link)]) []] 18 [] [0,1,0,7,15,31,63,127,255,127,1023,2047,4095,127,127,24703,65535,131071] [] ?_;(conv=>whnf);refine And.intro g19 ?_;clear g19;(conv=>whnf);refine And.intro g20 ?_;clear g20;(conv=>whnf);refine And.intro (callDG_if rfl rfl rfl rfl (by intro c0; exact spec_TreeThink_c (gcall_some hx21 c0))) ?_;(conv=>whnf);refine And.intro (by kernel_rfl) ?_;(conv=>whnf);refine andI g15 (fun _ g15=>?_) (fun _ g15=>?_)
                · (conv=>whnf);obtain rfl:=Option.some.inj g15;obtain rfl:=hy14 _ rfl;obtain rfl:=Option.some.inj g4;obtain rfl:=hy3 _ rfl;obtain rfl:=Option.some.inj h;exact lfP []
                · (conv=>whnf);obtain rfl:=Option.some.inj g15;exact ⟨_,rfl,leX []⟩
            · (conv=>whnf);obtain rfl:=Option.some.inj g15;obtain rfl:=hy14 _ rfl;obtain rfl:=Option.some.inj g4;exact ⟨_,rfl,leX []⟩
      · (conv=>whnf);obtain rfl:=Option.some.inj g4;obtain rfl:=hy3 _ rfl;obtain rfl:=Option.some.inj h;exact lfP []
end Go.Proofs.Ythgcnnkjojemdaa
