/-
  What some of the program's functions compute: their models, and that the functions compute these; no condition.
-/
import Derived.Test.YtfgmolljcgnafaaTyz
import Derived.Test.YtfgmolljcgnafaaTbz
import Derived.Test.YtfgmolljcgnafaaAbz7
import Derived.Test.YtfgmolljcgnafaaKz4
set_option linter.all false
namespace Go.Proofs.Ytfgmolljcgnafaa
open Go Go.Ab
set_option maxRecDepth 100000
set_option maxHeartbeats 4000000
noncomputable def laws_FnTreeTop_m (a0:(List Int)) (a1:(List Int)):Option (Bool) :=
(if ((decide (((a0.length:Nat):Int) > 1048576)) || (decide (((a1.length:Nat):Int) > 1048576))) = true then
 some true
else
 bd (spec_DrawTreeAny_m a0) fun x1 =>
 gd ((12:Int) ≠ 0) <|
 bd (impl_TreeCalm_m x1 32 ((((a1.length:Nat):Int):Int).tmod 12)) fun x3 =>
 bd (impl_TreeRight_m x3) fun x4 =>
(if ((!x4) || (((x3.Bridges.length:Nat):Int) == 0)) = true then
 some false
else
 bd (lp (σ:=List TreeBridge × List TreeSlot × List TreeSlot × List TreeWord × List TreeLink × List Int × Int) (β:=(Unit ⊕ (Nat × (List TreeLink) × (List Int) × Nat × Nat × Nat × (List TreeBridge) × (List TreeSlot) × (List TreeSlot) × (List TreeWord)))) (fun s5 =>
(if (decide (s5.2.2.2.2.2.2<3)) = true then
 bd (impl_TreeBest_m (⟨s5.1,s5.2.2.2.2.1,s5.2.2.2.2.2.1,s5.2.1,s5.2.2.1,s5.2.2.2.1⟩:TreeWorld)) fun x9 =>
 bd (lp (σ:=Int) (β:=(Unit ⊕ Unit)) (fun s10 =>
(if (decide (s10<((s5.1.length:Nat):Int))) = true then
 gd ((0:Int)≤s10∧s10<((s5.1.length:Nat):Int)) <|
 gd ((0:Int)≤s10∧s10<((x9.length:Nat):Int)) <|
(if (!(((((((s5.1.getD s10.toNat default).Mind).Vector).Root) == (((x9.getD s10.toNat default).Vector).Root)) && ((((((s5.1.getD s10.toNat default).Mind).Vector).Cost) == (((x9.getD s10.toNat default).Vector).Cost)) && ((((((s5.1.getD s10.toNat default).Mind).Vector).Age) == (((x9.getD s10.toNat default).Vector).Age)) && true))) && (((((s5.1.getD s10.toNat default).Mind).Link) == ((x9.getD s10.toNat default).Link)) && true))) = true then
 some (.inr (.inl ()))
else
 some (.inl (IntKind.i64.wrap (s10+1))))
else
 some (.inr (.inr ())))) 0) fun x13 =>
(match x13 with
| .inl d16 =>
 some (.inr (.inl ()))
| .inr d17 =>
 bd (impl_TreePasses_m (⟨s5.1,s5.2.2.2.2.1,s5.2.2.2.2.2.1,s5.2.1,s5.2.2.1,s5.2.2.2.1⟩:TreeWorld)) fun x18 =>
 bd (laws_wtHeads_m (⟨s5.1,s5.2.2.2.2.1,s5.2.2.2.2.2.1,s5.2.1,s5.2.2.1,s5.2.2.2.1⟩:TreeWorld) x18) fun x19 =>
 bd (laws_wtAll_m (⟨s5.1,s5.2.2.2.2.1,s5.2.2.2.2.2.1,s5.2.1,s5.2.2.1,s5.2.2.2.1⟩:TreeWorld)) fun x20 =>
 bd (laws_wtHeads_m (⟨s5.1,s5.2.2.2.2.1,s5.2.2.2.2.2.1,s5.2.1,s5.2.2.1,s5.2.2.2.1⟩:TreeWorld) x20) fun x21 =>
 bd (gcall ((!x19.2) = false) (laws_wtInts_m x19.1 x21.1)) fun x22 =>
(if ((!x19.2) || (!x22)) = true then
 some (.inr (.inl ()))
else
 bd (impl_TreeCalm_m (⟨s5.1,s5.2.2.2.2.1,s5.2.2.2.2.2.1,s5.2.1,s5.2.2.1,s5.2.2.2.1⟩:TreeWorld) 1 s5.2.2.2.2.2.2) fun x23 =>
 some (.inl (x23.Bridges,x23.AtA,x23.AtB,x23.Radio,x23.Links,x23.Down,IntKind.i64.wrap (s5.2.2.2.2.2.2+1)))))
else
 some (.inr (.inr (s5.1.length,s5.2.2.2.2.1,s5.2.2.2.2.2.1,s5.2.1.length,s5.2.2.1.length,s5.2.2.2.1.length,s5.1,s5.2.1,s5.2.2.1,s5.2.2.2.1))))) (x3.Bridges,x3.AtA,x3.AtB,x3.Radio,x3.Links,x3.Down,0)) fun x8 =>
(match x8 with
| .inl d24 =>
 some false
| .inr d25 =>
 bd (impl_TreeRight_m (⟨d25.2.2.2.2.2.2.1,d25.2.1,d25.2.2.1,d25.2.2.2.2.2.2.2.1,d25.2.2.2.2.2.2.2.2.1,d25.2.2.2.2.2.2.2.2.2⟩:TreeWorld)) fun x26 =>
 some x26)))
theorem laws_FnTreeTop_c {a0:(List Int)} {a1:(List Int)} {r:Bool} (h:laws_FnTreeTop_m a0 a1 = some r):PureC Try.prog 6 [.d (slD encByte a0),.d (slD encByte a1)] (.d (.bool r)) []:=by
  refine pureC_x tOk (fn:=Try.f6) (c:=codeOf Try.f6) rfl rfl ?_;unfold laws_FnTreeTop_m at h;(conv=>whnf);refine seq_in tOk ?_;(conv=>whnf);refine andI h (fun _ h=>?_) (fun _ h=>?_)
  · (conv=>whnf);obtain rfl:=Option.some.inj h;exact lfP []
  · (conv=>whnf);obtain ⟨x1,hx1,h⟩:=bd_some h;refine cE [] 1000 (spec_DrawTreeAny_c hx1) ?_;(conv=>whnf);refine gdI h (fun h=>?_);(conv=>whnf);obtain ⟨x3,hx3,h⟩:=bd_some h;refine callFz [6001] ?_;(conv=>whnf);refine cE [] 1000 (impl_TreeCalm_c hx3) ?_;(conv=>whnf);refine seq_in tOk ?_;(conv=>whnf);obtain ⟨x4,hx4,h⟩:=bd_some h;refine cC 0 (impl_TreeRight_c hx4) ?_;clear hx4;(conv=>whnf);refine andI h (fun _ h=>?_) (fun _ h=>?_)
    · (conv=>whnf);obtain rfl:=Option.some.inj h;exact lfP []
    · (conv=>whnf);refine seq_in tOk ?_;(conv=>whnf);obtain ⟨x8,hx8,h⟩:=bd_some h;refine loop_m tOk hx8 (fun s5=>⟨0,87,[(5,.ref 5 0 0),(6,.d (.int .i64 s5.2.2.2.2.2.2))],[],[(5,.box 29 [.osl 6001 0 s5.1.length,.d (slD TreeLink.enc s5.2.2.2.2.1),.d (slD encInt s5.2.2.2.2.2.1),.osl 6002 0 s5.2.1.length,.osl 6003 0 s5.2.2.1.length,.osl 6004 0 s5.2.2.2.1.length]),(6001,.arr 43 6 s5.1.length (rows TreeBridge.enc s5.1)),(6002,.arr 107 4 s5.2.1.length (rows TreeSlot.enc s5.2.1)),(6003,.arr 107 4 s5.2.2.1.length (rows TreeSlot.enc s5.2.2.1)),(6004,.arr 76 5 s5.2.2.2.1.length (rows TreeWord.enc s5.2.2.2.1))],[]⟩) ?_ ?_
      · exact leX []
      · clear hx8;intro s5 y6 g7 hy6;(conv=>whnf);refine seq_in tOk ?_;(conv=>whnf);refine andI g7 (fun _ g7=>?_) (fun _ g7=>?_)
        · (conv=>whnf);refine seq_in tOk ?_;(conv=>whnf);obtain ⟨x9,hx9,g7⟩:=bd_some g7;refine cC 2000 (impl_TreeBest_c hx9) ?_;clear hx9;(conv=>whnf);refine seq_in tOk ?_;(conv=>whnf);obtain ⟨x13,hx13,g7⟩:=bd_some g7;refine loop_m tOk hx13 (fun s10=>⟨0,87,[(5,.ref 5 0 0),(6,.d (.int .i64 s5.2.2.2.2.2.2)),(7,.osl 7001 0 x9.length),(8,.d (.int .i64 s10))],[],[(7001,.arr 41 4 x9.length (rows TreeMind.enc x9)),(5,.box 29 [.osl 6001 0 s5.1.length,.d (slD TreeLink.enc s5.2.2.2.2.1),.d (slD encInt s5.2.2.2.2.2.1),.osl 6002 0 s5.2.1.length,.osl 6003 0 s5.2.2.1.length,.osl 6004 0 s5.2.2.2.1.length]),(6001,.arr 43 6 s5.1.length (rows TreeBridge.enc s5.1)),(6002,.arr 107 4 s5.2.1.length (rows TreeSlot.enc s5.2.1)),(6003,.arr 107 4 s5.2.2.1.length (rows TreeSlot.enc s5.2.2.1)),(6004,.arr 76 5 s5.2.2.2.1.length (rows TreeWord.enc s5.2.2.2.1))],[]⟩) ?_ ?_
          · exact leX []
          · clear hx13;intro s10 y11 g12 hy11;(conv=>whnf);refine seq_in tOk ?_;(conv=>whnf);refine andI g12 (fun _ g12=>?_) (fun _ g12=>?_)
            · (conv=>whnf);refine seq_in tOk ?_;(conv=>whnf);obtain ⟨g14,g12⟩:=gd_some g12;obtain ⟨g15,g12⟩:=gd_some g12;refine draw_u tOk [] 11 [] [0,1,0,7,15,31,0,0,192,448,1023] [] ?_;(conv=>whnf);refine And.intro g14 ?_;clear g14;(conv=>whnf);refine And.intro g15 ?_;clear g15;(conv=>whnf);refine And.intro (by kernel_rfl) ?_;(conv=>whnf);refine andI g12 (fun _ g12=>?_) (fun _ g12=>?_)
              · (conv=>whnf);obtain rfl:=Option.some.inj g12;obtain rfl:=hy11 _ rfl;obtain rfl:=Option.some.inj g7;obtain rfl:=hy6 _ rfl;obtain rfl:=Option.some.inj h;exact lfP []
              · (conv=>whnf);obtain rfl:=Option.some.inj g12;exact ⟨_,rfl,leX []⟩
            · (conv=>whnf);obtain rfl:=Option.some.inj g12;obtain rfl:=hy11 _ rfl;obtain ⟨x18,hx18,g7⟩:=bd_some g7;obtain ⟨x19,hx19,g7⟩:=bd_some g7;refine draw_u tOk [.u 2 3000 (.osl 5001 0 x18.length) [⟨5001,3,1,x18.length,rows encInt x18⟩],.u 3 4000 (.tup [.osl 5001 0 x19.1.length,.d (.bool x19.2)]) [⟨5001,3,1,x19.1.length,rows encInt x19.1⟩]] 9 [] [0,0,2,7,15,31,31,63,255] [] ?_;(conv=>whnf);refine And.intro (callD_any (impl_TreePasses_c hx18) (by kernel_rfl)) ?_;(conv=>whnf);refine And.intro (callD_any (laws_wtHeads_c hx19) (by kernel_rfl)) ?_;(conv=>whnf);refine And.intro (by kernel_rfl) ?_;(conv=>whnf);obtain ⟨x20,hx20,g7⟩:=bd_some g7;obtain ⟨x21,hx21,g7⟩:=bd_some g7;refine draw_u tOk [.u 2 5000 (.osl 5001 0 x20.length) [⟨5001,3,1,x20.length,rows encInt x20⟩],.u 3 6000 (.tup [.osl 5001 0 x21.1.length,.d (.bool x21.2)]) [⟨5001,3,1,x21.1.length,rows encInt x21.1⟩]] 9 [] [0,0,2,7,15,31,31,63,255] [] ?_;(conv=>whnf);refine And.intro (callD_any (laws_wtAll_c hx20) (by kernel_rfl)) ?_;(conv=>whnf);refine And.intro (callD_any (laws_wtHeads_c hx21) (by kernel_rfl)) ?_;(conv=>whnf);refine And.intro (by kernel_rfl) ?_;(conv=>whnf);refine seq_in tOk ?_;(conv=>whnf);obtain ⟨x22,hx22,g7⟩:=bd_some g7;refine callG_m rfl rfl rfl rfl rfl rfl (by intro c0; exact laws_wtInts_c (gcall_some hx22 c0)) ?_;(conv=>whnf);refine andI g7 (fun _ g7=>?_) (fun _ g7=>?_)
              · (conv=>whnf);obtain rfl:=Option.some.inj g7;obtain rfl:=hy6 _ rfl;obtain rfl:=Option.some.inj h;exact lfP []
              · (conv=>whnf);obtain ⟨x23,hx23,g7⟩:=bd_some g7;refine callFz [6001,6002,6003,6004] ?_;(conv=>whnf);refine cE [] 1000 (impl_TreeCalm_c hx23) ?_;(conv=>whnf);obtain rfl:=Option.some.inj g7;exact ⟨_,rfl,leX []⟩
        · (conv=>whnf);obtain rfl:=Option.some.inj g7;obtain rfl:=hy6 _ rfl;obtain ⟨x26,hx26,h⟩:=bd_some h;refine callW (args1:=[.agg [.d (.sl (s5.1.length,s5.2.2.2.2.1,s5.2.2.2.2.2.1,s5.2.1.length,s5.2.2.1.length,s5.2.2.2.1.length,s5.1,s5.2.1,s5.2.2.1,s5.2.2.2.1).1 (rows TreeBridge.enc (s5.1.length,s5.2.2.2.2.1,s5.2.2.2.2.2.1,s5.2.1.length,s5.2.2.1.length,s5.2.2.2.1.length,s5.1,s5.2.1,s5.2.2.1,s5.2.2.2.1).2.2.2.2.2.2.1)),.d (slD TreeLink.enc (s5.1.length,s5.2.2.2.2.1,s5.2.2.2.2.2.1,s5.2.1.length,s5.2.2.1.length,s5.2.2.2.1.length,s5.1,s5.2.1,s5.2.2.1,s5.2.2.2.1).2.1),.d (slD encInt (s5.1.length,s5.2.2.2.2.1,s5.2.2.2.2.2.1,s5.2.1.length,s5.2.2.1.length,s5.2.2.2.1.length,s5.1,s5.2.1,s5.2.2.1,s5.2.2.2.1).2.2.1),.d (.sl (s5.1.length,s5.2.2.2.2.1,s5.2.2.2.2.2.1,s5.2.1.length,s5.2.2.1.length,s5.2.2.2.1.length,s5.1,s5.2.1,s5.2.2.1,s5.2.2.2.1).2.2.2.1 (rows TreeSlot.enc (s5.1.length,s5.2.2.2.2.1,s5.2.2.2.2.2.1,s5.2.1.length,s5.2.2.1.length,s5.2.2.2.1.length,s5.1,s5.2.1,s5.2.2.1,s5.2.2.2.1).2.2.2.2.2.2.2.1)),.d (.sl (s5.1.length,s5.2.2.2.2.1,s5.2.2.2.2.2.1,s5.2.1.length,s5.2.2.1.length,s5.2.2.2.1.length,s5.1,s5.2.1,s5.2.2.1,s5.2.2.2.1).2.2.2.2.1 (rows TreeSlot.enc (s5.1.length,s5.2.2.2.2.1,s5.2.2.2.2.2.1,s5.2.1.length,s5.2.2.1.length,s5.2.2.2.1.length,s5.1,s5.2.1,s5.2.2.1,s5.2.2.2.1).2.2.2.2.2.2.2.2.1)),.d (.sl (s5.1.length,s5.2.2.2.2.1,s5.2.2.2.2.2.1,s5.2.1.length,s5.2.2.1.length,s5.2.2.2.1.length,s5.1,s5.2.1,s5.2.2.1,s5.2.2.2.1).2.2.2.2.2.1 (rows TreeWord.enc (s5.1.length,s5.2.2.2.2.1,s5.2.2.2.2.2.1,s5.2.1.length,s5.2.2.1.length,s5.2.2.2.1.length,s5.1,s5.2.1,s5.2.2.1,s5.2.2.2.1).2.2.2.2.2.2.2.2.2))]]) 0 (impl_TreeRight_c hx26) (by kernel_rfl) argA (by kernel_rfl) ?_;(conv=>whnf);obtain rfl:=Option.some.inj h;exact lfP []
noncomputable def spec_l84Relax_m (a0:(List Int)) (a1:Int) (a2:Int) (a3:Int):Option ((List Int)) :=
 gd ((0:Int)≤a1∧a1<((a0.length:Nat):Int)) <|
 gd ((decide ((a0.getD a1.toNat default) ≥ 0)) = true → ((0:Int)≤a2∧a2<((a0.length:Nat):Int))) <|
 gd ((decide ((a0.getD a2.toNat default)<0)) = false → ((decide ((a0.getD a1.toNat default) ≥ 0)) = true → ((0:Int)≤a2∧a2<((a0.length:Nat):Int)))) <|
 gd ((decide ((a0.getD a2.toNat default)<0)) = false → ((decide ((a0.getD a1.toNat default) ≥ 0)) = true → ((0:Int)≤a1∧a1<((a0.length:Nat):Int)))) <|
(if ((decide ((a0.getD a1.toNat default) ≥ 0)) && ((decide ((a0.getD a2.toNat default)<0)) || (decide ((a0.getD a2.toNat default) > (IntKind.i64.wrap ((a0.getD a1.toNat default)+a3)))))) = true then
 gd ((0:Int)≤a1∧a1<((a0.length:Nat):Int)) <|
 gd ((0:Int)≤a2∧a2<((a0.length:Nat):Int)) <|
 some (a0.set a2.toNat (IntKind.i64.wrap ((a0.getD a1.toNat default)+a3)))
else
 some a0)
theorem spec_l84Relax_c {a0:(List Int)} {a1:Int} {a2:Int} {a3:Int} {r:(List Int)} (h:spec_l84Relax_m a0 a1 a2 a3 = some r):EffC Try.prog 122 [.osl 9000 0 a0.length,.d (.int .i64 a1),.d (.int .i64 a2),.d (.int .i64 a3)] [(9000,.arr 3 1 a0.length (rows encInt a0))] (.osl 5001 0 r.length) [(5001,.arr 3 1 r.length (rows encInt r))]:=by
  refine effC_x tOk (fn:=Try.f122) (c:=codeOf Try.f122) rfl rfl ?_;unfold spec_l84Relax_m at h;(conv=>whnf);refine seq_in tOk ?_;(conv=>whnf);obtain ⟨g1,h⟩:=gd_some h;obtain ⟨g2,h⟩:=gd_some h;obtain ⟨g3,h⟩:=gd_some h;obtain ⟨g4,h⟩:=gd_some h;refine draw_u tOk [] 25 [] [0,0,3,7,15,31,63,63,255,511,1023,2047,4095,4095,16383,32767,4095,4095,200703,462847,4095,2035711,4194303,8388607,16777215] [] ?_;(conv=>whnf);refine And.intro g1 ?_;clear g1;(conv=>whnf);refine And.intro g2 ?_;clear g2;(conv=>whnf);refine And.intro g3 ?_;clear g3;(conv=>whnf);refine And.intro g4 ?_;clear g4;(conv=>whnf);refine And.intro (by kernel_rfl) ?_;(conv=>whnf);refine andI h (fun _ h=>?_) (fun _ h=>?_)
  · (conv=>whnf);refine gdI h (fun h=>?_);(conv=>whnf);refine gdI h (fun h=>?_);(conv=>whnf);refine ⟨rows encInt (a0.set a2.toNat (IntKind.i64.wrap ((a0.getD a1.toNat default)+a3))),store_rows' lenA rfl,?_⟩;(conv=>whnf);obtain rfl:=Option.some.inj h;exact lfE [.s [(5001,9000),(9000,5001)]]
  · (conv=>whnf);obtain rfl:=Option.some.inj h;exact lfE [.s [(5001,9000),(9000,5001)]]
noncomputable def spec_l84Costs_m (a0:TreeWorld) (a1:Int):Option ((List Int)) :=
 gd ((0:Int)≤((a0.Bridges.length:Nat):Int)∧((a0.Bridges.length:Nat):Int)≤((a0.Bridges.length:Nat):Int)∧((a0.Bridges.length:Nat):Int) * 8≤140737488355328∧((a0.Bridges.length:Nat):Int)≤140737488355328) <|
 bd (lp (σ:=List Int × Int) (β:=(Nat × (List Int))) (fun s1 =>
(if (decide (s1.2<((s1.1.length:Nat):Int))) = true then
 gd ((0:Int)≤s1.2∧s1.2<((s1.1.length:Nat):Int)) <|
 some (.inl (s1.1.set s1.2.toNat (-1),IntKind.i64.wrap (s1.2+1)))
else
 some (.inr (s1.1.length,s1.1)))) ((List.replicate (((a0.Bridges.length:Nat):Int):Int).toNat (default:Int)),0)) fun x4 =>
 gd ((0:Int)≤a1∧a1<((x4.1:Nat):Int)) <|
 bd (lp (σ:=List Int × Int) (β:=(Nat × (List Int))) (fun s8 =>
(if (decide (s8.2<((s8.1.length:Nat):Int))) = true then
 bd (lp (σ:=List Int × Int) (β:=(Nat × (List Int))) (fun s12 =>
(if (decide (s12.2<((a0.Links.length:Nat):Int))) = true then
 bd (spec_l83Open_m a0 s12.2) fun x16 =>
(if x16 = true then
 gd ((0:Int)≤s12.2∧s12.2<((a0.Links.length:Nat):Int)) <|
 gd ((0:Int)≤s12.2∧s12.2<((a0.Links.length:Nat):Int)) <|
 gd ((0:Int)≤s12.2∧s12.2<((a0.Links.length:Nat):Int)) <|
 bd (spec_l84Relax_m s12.1 ((a0.Links.getD s12.2.toNat default).A) ((a0.Links.getD s12.2.toNat default).B) ((a0.Links.getD s12.2.toNat default).Cost)) fun x20 =>
 gd ((0:Int)≤s12.2∧s12.2<((a0.Links.length:Nat):Int)) <|
 gd ((0:Int)≤s12.2∧s12.2<((a0.Links.length:Nat):Int)) <|
 gd ((0:Int)≤s12.2∧s12.2<((a0.Links.length:Nat):Int)) <|
 bd (spec_l84Relax_m x20 ((a0.Links.getD s12.2.toNat default).B) ((a0.Links.getD s12.2.toNat default).A) ((a0.Links.getD s12.2.toNat default).Cost)) fun x24 =>
 some (.inl (x24,IntKind.i64.wrap (s12.2+1)))
else
 some (.inl (s12.1,IntKind.i64.wrap (s12.2+1))))
else
 some (.inr (s12.1.length,s12.1)))) (s8.1,0)) fun x15 =>
 some (.inl (x15.2,IntKind.i64.wrap (s8.2+1)))
else
 some (.inr (s8.1.length,s8.1)))) (x4.2.set a1.toNat 0,0)) fun x11 =>
 some x11.2
theorem spec_l84Costs_c {a0:TreeWorld} {a1:Int} {r:(List Int)} (h:spec_l84Costs_m a0 a1 = some r):PureC Try.prog 77 [.agg [.d (slD TreeBridge.enc a0.Bridges),.d (slD TreeLink.enc a0.Links),.d (slD encInt a0.Down),.d (slD TreeSlot.enc a0.AtA),.d (slD TreeSlot.enc a0.AtB),.d (slD TreeWord.enc a0.Radio)],.d (.int .i64 a1)] (.osl 5001 0 r.length) [⟨5001,3,1,r.length,rows encInt r⟩]:=by
  refine pureC_x tOk (fn:=Try.f77) (c:=codeOf Try.f77) rfl rfl ?_;unfold spec_l84Costs_m at h;(conv=>whnf);obtain ⟨g27,h⟩:=gd_some h;refine And.intro g27 ?_;clear g27;refine ⟨(List.replicate (((a0.Bridges.length:Nat):Int):Int).toNat (default:Int)).length,rows encInt (List.replicate (((a0.Bridges.length:Nat):Int):Int).toNat (default:Int)),by simp,make_rows rfl,?_⟩;(conv=>whnf);refine seq_in tOk ?_;(conv=>whnf);obtain ⟨x4,hx4,h⟩:=bd_some h;refine loop_m tOk hx4 (fun s1=>⟨0,82,[(1,.d (.int .i64 a1)),(2,.ref 2 0 0),(5,.osl 12 0 s1.1.length),(6,.d (.int .i64 s1.2))],[],[(12,.arr 3 1 s1.1.length (rows encInt s1.1)),(2,.box 29 [.d (slD TreeBridge.enc a0.Bridges),.d (slD TreeLink.enc a0.Links),.d (slD encInt a0.Down),.d (slD TreeSlot.enc a0.AtA),.d (slD TreeSlot.enc a0.AtB),.d (slD TreeWord.enc a0.Radio)])],[]⟩) ?_ ?_
  · exact leX []
  · clear hx4;intro s1 y2 g3 hy2;(conv=>whnf);refine seq_in tOk ?_;(conv=>whnf);refine andI g3 (fun _ g3=>?_) (fun _ g3=>?_)
    · (conv=>whnf);refine seq_in tOk ?_;(conv=>whnf);refine gdI g3 (fun g3=>?_);(conv=>whnf);refine ⟨rows encInt (s1.1.set s1.2.toNat (-1)),store_rows' lenA rfl,?_⟩;(conv=>whnf);obtain rfl:=Option.some.inj g3;exact ⟨_,rfl,leX []⟩
    · (conv=>whnf);obtain rfl:=Option.some.inj g3;obtain rfl:=hy2 _ rfl;refine gdI h (fun h=>?_);(conv=>whnf);refine ⟨rows encInt ((s1.1.length,s1.1).2.set a1.toNat 0),store_rows' lenA rfl,?_⟩;(conv=>whnf);refine seq_in tOk ?_;(conv=>whnf);obtain ⟨x11,hx11,h⟩:=bd_some h;refine loop_m tOk hx11 (fun s8=>⟨0,82,[(2,.ref 2 0 0),(5,.osl 12 0 s8.1.length),(7,.d (.int .i64 s8.2))],[],[(12,.arr 3 1 s8.1.length (rows encInt s8.1)),(2,.box 29 [.d (slD TreeBridge.enc a0.Bridges),.d (slD TreeLink.enc a0.Links),.d (slD encInt a0.Down),.d (slD TreeSlot.enc a0.AtA),.d (slD TreeSlot.enc a0.AtB),.d (slD TreeWord.enc a0.Radio)])],[]⟩) ?_ ?_
      · exact leX []
      · clear hx11;intro s8 y9 g10 hy9;(conv=>whnf);refine seq_in tOk ?_;(conv=>whnf);refine andI g10 (fun _ g10=>?_) (fun _ g10=>?_)
        · (conv=>whnf);refine seq_in tOk ?_;(conv=>whnf);obtain ⟨x15,hx15,g10⟩:=bd_some g10;refine loop_m tOk hx15 (fun s12=>⟨0,82,[(2,.ref 2 0 0),(5,.osl 12 0 s12.1.length),(7,.d (.int .i64 s8.2)),(8,.d (.int .i64 s12.2))],[],[(12,.arr 3 1 s12.1.length (rows encInt s12.1)),(2,.box 29 [.d (slD TreeBridge.enc a0.Bridges),.d (slD TreeLink.enc a0.Links),.d (slD encInt a0.Down),.d (slD TreeSlot.enc a0.AtA),.d (slD TreeSlot.enc a0.AtB),.d (slD TreeWord.enc a0.Radio)])],[]⟩) ?_ ?_
          · exact leX []
          · clear hx15;intro s12 y13 g14 hy13;(conv=>whnf);refine seq_in tOk ?_;(conv=>whnf);refine andI g14 (fun _ g14=>?_) (fun _ g14=>?_)
            · (conv=>whnf);refine seq_in tOk ?_;(conv=>whnf);obtain ⟨x16,hx16,g14⟩:=bd_some g14;refine cC 0 (spec_l83Open_c hx16) ?_;clear hx16;(conv=>whnf);refine andI g14 (fun _ g14=>?_) (fun _ g14=>?_)
              · (conv=>whnf);obtain ⟨g17,g14⟩:=gd_some g14;obtain ⟨g18,g14⟩:=gd_some g14;obtain ⟨g19,g14⟩:=gd_some g14;obtain ⟨x20,hx20,g14⟩:=bd_some g14;refine draw_t tOk [.e 19 [(12,.arr 3 1 s12.1.length (rows encInt s12.1))] (.osl 6001 0 x20.length) [(6001,.arr 3 1 x20.length (rows encInt x20))] []] 20 [] [0,0,2,0,14,30,62,0,128,0,896,1920,3968,0,8192,0,57344,122880,253952,524287] [1048575] [12] ?_;(conv=>whnf);refine And.intro g17 ?_;clear g17;(conv=>whnf);refine And.intro g18 ?_;clear g18;(conv=>whnf);refine And.intro g19 ?_;clear g19;(conv=>whnf);refine And.intro (eD [(9000,12)] 1000 (spec_l84Relax_c hx20)) ?_;(conv=>whnf);refine And.intro (by kernel_rfl) ?_;(conv=>whnf);obtain ⟨g21,g14⟩:=gd_some g14;obtain ⟨g22,g14⟩:=gd_some g14;obtain ⟨g23,g14⟩:=gd_some g14;obtain ⟨x24,hx24,g14⟩:=bd_some g14;refine draw_t tOk [.e 19 [(6001,.arr 3 1 x20.length (rows encInt x20))] (.osl 7001 0 x24.length) [(7001,.arr 3 1 x24.length (rows encInt x24))] []] 20 [] [0,0,2,0,14,30,62,0,128,0,896,1920,3968,0,8192,0,57344,122880,253952,524287] [1048575] [6001] ?_;(conv=>whnf);refine And.intro g21 ?_;clear g21;(conv=>whnf);refine And.intro g22 ?_;clear g22;(conv=>whnf);refine And.intro g23 ?_;clear g23;(conv=>whnf);refine And.intro (eD [(9000,6001)] 2000 (spec_l84Relax_c hx24)) ?_;(conv=>whnf);refine And.intro (by kernel_rfl) ?_;(conv=>whnf);obtain rfl:=Option.some.inj g14;exact ⟨_,rfl,leX [.s [(12,7001),(7001,12)]]⟩
              · (conv=>whnf);obtain rfl:=Option.some.inj g14;exact ⟨_,rfl,leX []⟩
            · (conv=>whnf);obtain rfl:=Option.some.inj g14;obtain rfl:=hy13 _ rfl;obtain rfl:=Option.some.inj g10;exact ⟨_,rfl,leX []⟩
        · (conv=>whnf);obtain rfl:=Option.some.inj g10;obtain rfl:=hy9 _ rfl;obtain rfl:=Option.some.inj h;exact lfP [.s [(12,5001),(5001,12)]]
noncomputable def spec_l84Root_m (a0:TreeWorld) (a1:Int):Option (Int) :=
 bd (spec_l84Costs_m a0 a1) fun x1 =>
 bd (lp (σ:=Int × Int) (β:=(Int)) (fun s2 =>
(if (decide (s2.2<((x1.length:Nat):Int))) = true then
 gd ((0:Int)≤s2.2∧s2.2<((x1.length:Nat):Int)) <|
 gd ((decide ((x1.getD s2.2.toNat default) ≥ 0)) = true → ((0:Int)≤s2.2∧s2.2<((a0.Bridges.length:Nat):Int))) <|
 gd ((decide ((x1.getD s2.2.toNat default) ≥ 0)) = true → ((0:Int)≤s2.1∧s2.1<((a0.Bridges.length:Nat):Int))) <|
(if ((decide ((x1.getD s2.2.toNat default) ≥ 0)) && (decide (((a0.Bridges.getD s2.2.toNat default).Id)<((a0.Bridges.getD s2.1.toNat default).Id)))) = true then
 some (.inl (s2.2,IntKind.i64.wrap (s2.2+1)))
else
 some (.inl (s2.1,IntKind.i64.wrap (s2.2+1))))
else
 some (.inr s2.1))) (a1,0)) fun x5 =>
 some x5
theorem spec_l84Root_c {a0:TreeWorld} {a1:Int} {r:Int} (h:spec_l84Root_m a0 a1 = some r):PureC Try.prog 76 [.agg [.d (slD TreeBridge.enc a0.Bridges),.d (slD TreeLink.enc a0.Links),.d (slD encInt a0.Down),.d (slD TreeSlot.enc a0.AtA),.d (slD TreeSlot.enc a0.AtB),.d (slD TreeWord.enc a0.Radio)],.d (.int .i64 a1)] (.d (.int .i64 r)) []:=by
  refine pureC_x tOk (fn:=Try.f76) (c:=codeOf Try.f76) rfl rfl ?_;unfold spec_l84Root_m at h;(conv=>whnf);obtain ⟨x1,hx1,h⟩:=bd_some h;refine cC 1000 (spec_l84Costs_c hx1) ?_;clear hx1;(conv=>whnf);refine seq_in tOk ?_;(conv=>whnf);obtain ⟨x5,hx5,h⟩:=bd_some h;refine loop_m tOk hx5 (fun s2=>⟨0,40,[(2,.ref 2 0 0),(5,.osl 6001 0 x1.length),(6,.d (.int .i64 s2.1)),(7,.d (.int .i64 s2.2))],[],[(6001,.arr 3 1 x1.length (rows encInt x1)),(2,.box 29 [.d (slD TreeBridge.enc a0.Bridges),.d (slD TreeLink.enc a0.Links),.d (slD encInt a0.Down),.d (slD TreeSlot.enc a0.AtA),.d (slD TreeSlot.enc a0.AtB),.d (slD TreeWord.enc a0.Radio)])],[]⟩) ?_ ?_
  · exact leX []
  · clear hx5;intro s2 y3 g4 hy3;(conv=>whnf);refine seq_in tOk ?_;(conv=>whnf);refine andI g4 (fun _ g4=>?_) (fun _ g4=>?_)
    · (conv=>whnf);refine seq_in tOk ?_;(conv=>whnf);obtain ⟨g6,g4⟩:=gd_some g4;obtain ⟨g7,g4⟩:=gd_some g4;obtain ⟨g8,g4⟩:=gd_some g4;refine draw_u tOk [] 20 [] [0,0,3,7,15,31,63,127,63,511,1023,2047,63,4159,63,28735,61503,127039,262143,524287] [] ?_;(conv=>whnf);refine And.intro g6 ?_;clear g6;(conv=>whnf);refine And.intro g7 ?_;clear g7;(conv=>whnf);refine And.intro g8 ?_;clear g8;(conv=>whnf);refine And.intro (by kernel_rfl) ?_;(conv=>whnf);refine andI g4 (fun _ g4=>?_) (fun _ g4=>?_)
      · (conv=>whnf);obtain rfl:=Option.some.inj g4;exact ⟨_,rfl,leX []⟩
      · (conv=>whnf);obtain rfl:=Option.some.inj g4;exact ⟨_,rfl,leX []⟩
    · (conv=>whnf);obtain rfl:=Option.some.inj g4;obtain rfl:=hy3 _ rfl;obtain rfl:=Option.some.inj h;exact lfP []
noncomputable def spec_l84Up_m (a0:TreeWorld) (a1:(List Int)) (a2:Int):Option (Int) :=
 bd (lp (σ:=Int × Int × Int) (β:=(Int)) (fun s1 =>
(if (decide (s1.2.2<((a0.Links.length:Nat):Int))) = true then
 bd (spec_l82At_m a0 a2 s1.2.2) fun x5 =>
 bd (gcall ((decide (x5.2<0)) = false) (spec_l83Open_m a0 s1.2.2)) fun x6 =>
 gd (((decide (x5.2<0)) || (!x6)) = false → ((0:Int)≤x5.2∧x5.2<((a1.length:Nat):Int))) <|
 gd (((decide (x5.2<0)) || (!x6)) = false → ((0:Int)≤s1.2.2∧s1.2.2<((a0.Links.length:Nat):Int))) <|
 gd (((decide (x5.2<0)) || (!x6)) = false → ((0:Int)≤a2∧a2<((a1.length:Nat):Int))) <|
(if (((decide (x5.2<0)) || (!x6)) || ((IntKind.i64.wrap ((a1.getD x5.2.toNat default)+((a0.Links.getD s1.2.2.toNat default).Cost))) != (a1.getD a2.toNat default))) = true then
 some (.inl (s1.1,s1.2.1,IntKind.i64.wrap (s1.2.2+1)))
else
 gd ((decide (s1.1<0)) = false → ((0:Int)≤x5.2∧x5.2<((a0.Bridges.length:Nat):Int))) <|
(if ((decide (s1.1<0)) || (decide (((a0.Bridges.getD x5.2.toNat default).Id)<s1.2.1))) = true then
 gd ((0:Int)≤x5.2∧x5.2<((a0.Bridges.length:Nat):Int)) <|
 some (.inl (s1.2.2,(a0.Bridges.getD x5.2.toNat default).Id,IntKind.i64.wrap (s1.2.2+1)))
else
 some (.inl (s1.1,s1.2.1,IntKind.i64.wrap (s1.2.2+1)))))
else
 some (.inr s1.1))) (-1,0,0)) fun x4 =>
 some x4
theorem spec_l84Up_c {a0:TreeWorld} {a1:(List Int)} {a2:Int} {r:Int} (h:spec_l84Up_m a0 a1 a2 = some r):PureC Try.prog 78 [.agg [.d (slD TreeBridge.enc a0.Bridges),.d (slD TreeLink.enc a0.Links),.d (slD encInt a0.Down),.d (slD TreeSlot.enc a0.AtA),.d (slD TreeSlot.enc a0.AtB),.d (slD TreeWord.enc a0.Radio)],.d (slD encInt a1),.d (.int .i64 a2)] (.d (.int .i64 r)) []:=by
  refine pureC_x tOk (fn:=Try.f78) (c:=codeOf Try.f78) rfl rfl ?_;unfold spec_l84Up_m at h;(conv=>whnf);refine seq_in tOk ?_;(conv=>whnf);obtain ⟨x4,hx4,h⟩:=bd_some h;refine loop_m tOk hx4 (fun s1=>⟨0,72,[(1,.d (slD encInt a1)),(2,.d (.int .i64 a2)),(3,.ref 3 0 0),(7,.d (.int .i64 s1.1)),(8,.d (.int .i64 s1.2.1)),(9,.d (.int .i64 s1.2.2))],[],[(3,.box 29 [.d (slD TreeBridge.enc a0.Bridges),.d (slD TreeLink.enc a0.Links),.d (slD encInt a0.Down),.d (slD TreeSlot.enc a0.AtA),.d (slD TreeSlot.enc a0.AtB),.d (slD TreeWord.enc a0.Radio)])],[]⟩) ?_ ?_
  · exact leX []
  · clear hx4;intro s1 y2 g3 hy2;(conv=>whnf);refine seq_in tOk ?_;(conv=>whnf);refine andI g3 (fun _ g3=>?_) (fun _ g3=>?_)
    · (conv=>whnf);refine seq_in tOk ?_;(conv=>whnf);obtain ⟨x5,hx5,g3⟩:=bd_some g3;refine cC 0 (spec_l82At_c hx5) ?_;clear hx5;(conv=>whnf);refine seq_in tOk ?_;(conv=>whnf);obtain ⟨x6,hx6,g3⟩:=bd_some g3;obtain ⟨g7,g3⟩:=gd_some g3;obtain ⟨g8,g3⟩:=gd_some g3;obtain ⟨g9,g3⟩:=gd_some g3;refine draw_u tOk [.u 5 0 (.d (.bool x6)) []] 26 [] [0,1,3,7,7,31,63,127,255,511,511,2047,4095,511,8703,511,57855,123391,254463,524287,511,511,3146239,7340543,16777215,33554431] [] ?_;(conv=>whnf);refine And.intro (callDG_if rfl rfl rfl rfl (by intro c0; exact spec_l83Open_c (gcall_some hx6 c0))) ?_;(conv=>whnf);refine And.intro g7 ?_;clear g7;(conv=>whnf);refine And.intro g8 ?_;clear g8;(conv=>whnf);refine And.intro g9 ?_;clear g9;(conv=>whnf);refine And.intro (by kernel_rfl) ?_;(conv=>whnf);refine andI g3 (fun _ g3=>?_) (fun _ g3=>?_)
      · (conv=>whnf);obtain rfl:=Option.some.inj g3;exact ⟨_,rfl,leX []⟩
      · (conv=>whnf);refine gdI g3 (fun g3=>?_);(conv=>whnf);refine andI g3 (fun _ g3=>?_) (fun _ g3=>?_)
        · (conv=>whnf);refine gdI g3 (fun g3=>?_);(conv=>whnf);obtain rfl:=Option.some.inj g3;exact ⟨_,rfl,leX []⟩
        · (conv=>whnf);obtain rfl:=Option.some.inj g3;exact ⟨_,rfl,leX []⟩
    · (conv=>whnf);obtain rfl:=Option.some.inj g3;obtain rfl:=hy2 _ rfl;obtain rfl:=Option.some.inj h;exact lfP []
noncomputable def spec_l84Mind_m (a0:TreeWorld) (a1:Int):Option (TreeMind) :=
 bd (spec_l84Root_m a0 a1) fun x1 =>
 bd (spec_l84Costs_m a0 x1) fun x2 =>
 gd ((0:Int)≤x1∧x1<((a0.Bridges.length:Nat):Int)) <|
 gd ((0:Int)≤a1∧a1<((x2.length:Nat):Int)) <|
 bd (α:=Int) ((if (a1 != x1) = true then
 bd (spec_l84Up_m a0 x2 a1) fun x8 =>
 some x8
else
 some (-1))) fun x5 =>
 bd (lp (σ:=Int × Int) (β:=(Int)) (fun s9 =>
(if ((s9.2 != x1) && (decide (s9.1<((a0.Bridges.length:Nat):Int)))) = true then
 bd (spec_l84Up_m a0 x2 s9.2) fun x13 =>
 bd (spec_l82At_m a0 s9.2 x13) fun x14 =>
 some (.inl (IntKind.i64.wrap (s9.1+1),x14.2))
else
 some (.inr s9.1))) (0,a1)) fun x12 =>
 some (⟨(⟨(a0.Bridges.getD x1.toNat default).Id,(x2.getD a1.toNat default),x12⟩:TreeVector),x5⟩:TreeMind)
theorem spec_l84Mind_c {a0:TreeWorld} {a1:Int} {r:TreeMind} (h:spec_l84Mind_m a0 a1 = some r):PureC Try.prog 35 [.agg [.d (slD TreeBridge.enc a0.Bridges),.d (slD TreeLink.enc a0.Links),.d (slD encInt a0.Down),.d (slD TreeSlot.enc a0.AtA),.d (slD TreeSlot.enc a0.AtB),.d (slD TreeWord.enc a0.Radio)],.d (.int .i64 a1)] (.agg [.d (.int .i64 r.Vector.Root),.d (.int .i64 r.Vector.Cost),.d (.int .i64 r.Vector.Age),.d (.int .i64 r.Link)]) []:=by
  refine pureC_x tOk (fn:=Try.f35) (c:=codeOf Try.f35) rfl rfl ?_;unfold spec_l84Mind_m at h;(conv=>whnf);obtain ⟨x1,hx1,h⟩:=bd_some h;refine cC 0 (spec_l84Root_c hx1) ?_;clear hx1;(conv=>whnf);obtain ⟨x2,hx2,h⟩:=bd_some h;refine cC 1000 (spec_l84Costs_c hx2) ?_;clear hx2;(conv=>whnf);obtain ⟨g3,h⟩:=gd_some h;obtain ⟨g4,h⟩:=gd_some h;refine draw_u tOk [] 13 [] [0,1,0,7,15,31,0,0,192,448,1023,2047,0] [8191] ?_;(conv=>whnf);refine And.intro g3 ?_;clear g3;(conv=>whnf);refine And.intro g4 ?_;clear g4;(conv=>whnf);refine And.intro (by kernel_rfl) ?_;(conv=>whnf);obtain ⟨x5,hx5,h⟩:=bd_some h;refine seq_join tOk (fun s6=>⟨0,67,[(1,.d (.int .i64 a1)),(2,.ref 2 0 0),(4,.ref 4 0 0),(5,.d (.int .i64 x1)),(6,.osl 6001 0 x2.length),(7,.ref 7 0 0)],[],[(7,.box 41 [.d (.int .i64 ((a0.Bridges.getD x1.toNat default).Id)),.d (.int .i64 (x2.getD a1.toNat default)),.d (.int .i64 0),.d (.int .i64 s6)]),(6001,.arr 3 1 x2.length (rows encInt x2)),(4,.box 41 [.d (.int .i64 0),.d (.int .i64 0),.d (.int .i64 0),.d (.int .i64 0)]),(2,.box 29 [.d (slD TreeBridge.enc a0.Bridges),.d (slD TreeLink.enc a0.Links),.d (slD encInt a0.Down),.d (slD TreeSlot.enc a0.AtA),.d (slD TreeSlot.enc a0.AtB),.d (slD TreeWord.enc a0.Radio)])],[]⟩) (fun s6=>x5 = s6) ?_ ?_
  · (conv=>whnf);refine andI hx5 (fun _ hx5=>?_) (fun _ hx5=>?_)
    · (conv=>whnf);obtain ⟨x8,hx8,hx5⟩:=bd_some hx5;refine cC 0 (spec_l84Up_c hx8) ?_;clear hx8;(conv=>whnf);obtain rfl:=Option.some.inj hx5;exact ⟨_,rfl,leX []⟩
    · (conv=>whnf);obtain rfl:=Option.some.inj hx5;exact ⟨_,rfl,leX []⟩
  · rintro _ rfl;(conv=>whnf);refine seq_in tOk ?_;(conv=>whnf);obtain ⟨x12,hx12,h⟩:=bd_some h;refine loop_m tOk hx12 (fun s9=>⟨0,67,[(2,.ref 2 0 0),(4,.ref 4 0 0),(5,.d (.int .i64 x1)),(6,.osl 6001 0 x2.length),(7,.ref 7 0 0),(8,.d (.int .i64 s9.2))],[],[(7,.box 41 [.d (.int .i64 ((a0.Bridges.getD x1.toNat default).Id)),.d (.int .i64 (x2.getD a1.toNat default)),.d (.int .i64 s9.1),.d (.int .i64 x5)]),(6001,.arr 3 1 x2.length (rows encInt x2)),(4,.box 41 [.d (.int .i64 0),.d (.int .i64 0),.d (.int .i64 0),.d (.int .i64 0)]),(2,.box 29 [.d (slD TreeBridge.enc a0.Bridges),.d (slD TreeLink.enc a0.Links),.d (slD encInt a0.Down),.d (slD TreeSlot.enc a0.AtA),.d (slD TreeSlot.enc a0.AtB),.d (slD TreeWord.enc a0.Radio)])],[]⟩) ?_ ?_
    · exact leX []
    · clear hx12;intro s9 y10 g11 hy10;(conv=>whnf);refine seq_in tOk ?_;(conv=>whnf);refine andI g11 (fun _ g11=>?_) (fun _ g11=>?_)
      · (conv=>whnf);obtain ⟨x13,hx13,g11⟩:=bd_some g11;refine cC 0 (spec_l84Up_c hx13) ?_;clear hx13;(conv=>whnf);obtain ⟨x14,hx14,g11⟩:=bd_some g11;refine cC 0 (spec_l82At_c hx14) ?_;clear hx14;(conv=>whnf);obtain rfl:=Option.some.inj g11;exact ⟨_,rfl,leX []⟩
      · (conv=>whnf);obtain rfl:=Option.some.inj g11;obtain rfl:=hy10 _ rfl;obtain rfl:=Option.some.inj h;exact lfP []
end Go.Proofs.Ytfgmolljcgnafaa
