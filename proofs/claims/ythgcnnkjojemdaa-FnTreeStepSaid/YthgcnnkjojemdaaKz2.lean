/-
  What some of the program's functions compute: their models, and that the functions compute these; no condition.
-/
import Derived.Test.YthgcnnkjojemdaaTyz
import Derived.Test.YthgcnnkjojemdaaTbz
import Derived.Test.YthgcnnkjojemdaaAbz7
import Derived.Test.YthgcnnkjojemdaaKz1
set_option linter.all false
namespace Go.Proofs.Ythgcnnkjojemdaa
open Go Go.Ab
set_option maxRecDepth 100000
set_option maxHeartbeats 4000000
noncomputable def spec_l83Tick_m (a0:TreeWorld):Option (TreeWorld) :=
 bd (lp (σ:=List TreeSlot × List TreeSlot × Int) (β:=(Nat × Nat × (List TreeSlot) × (List TreeSlot))) (fun s1 =>
(if (decide (s1.2.2<((a0.Links.length:Nat):Int))) = true then
 gd ((0:Int)≤s1.2.2∧s1.2.2<((s1.1.length:Nat):Int)) <|
 bd (spec_l83Older_m (⟨((s1.1.getD s1.2.2.toNat default).Vector),(s1.1.getD s1.2.2.toNat default).Left⟩:TreeSlot)) fun x6 =>
 gd ((0:Int)≤s1.2.2∧s1.2.2<((s1.1.length:Nat):Int)) <|
 gd ((0:Int)≤s1.2.2∧s1.2.2<((s1.2.1.length:Nat):Int)) <|
 bd (spec_l83Older_m (⟨((s1.2.1.getD s1.2.2.toNat default).Vector),(s1.2.1.getD s1.2.2.toNat default).Left⟩:TreeSlot)) fun x9 =>
 gd ((0:Int)≤s1.2.2∧s1.2.2<((s1.2.1.length:Nat):Int)) <|
 some (.inl (s1.1.set s1.2.2.toNat x6,s1.2.1.set s1.2.2.toNat x9,IntKind.i64.wrap (s1.2.2+1)))
else
 some (.inr (s1.1.length,s1.2.1.length,s1.1,s1.2.1)))) (a0.AtA,a0.AtB,0)) fun x4 =>
 bd (lp (σ:=List TreeBridge × List TreeLink × List Int × List TreeSlot × List TreeSlot × List TreeWord × Int) (β:=(Nat × (List TreeLink) × (List Int) × (List TreeSlot) × (List TreeSlot) × (List TreeWord) × (List TreeBridge))) (fun s12 =>
(if (decide (s12.2.2.2.2.2.2<((s12.1.length:Nat):Int))) = true then
 bd (spec_l83Thinks_m (⟨s12.1,s12.2.1,s12.2.2.1,s12.2.2.2.1,s12.2.2.2.2.1,s12.2.2.2.2.2.1⟩:TreeWorld) s12.2.2.2.2.2.2) fun x16 =>
 some (.inl (x16.Bridges,x16.Links,x16.Down,x16.AtA,x16.AtB,x16.Radio,IntKind.i64.wrap (s12.2.2.2.2.2.2+1)))
else
 some (.inr (s12.1.length,s12.2.1,s12.2.2.1,s12.2.2.2.1,s12.2.2.2.2.1,s12.2.2.2.2.2.1,s12.1)))) (a0.Bridges,a0.Links,a0.Down,x4.2.2.1,x4.2.2.2,a0.Radio,0)) fun x15 =>
 some (⟨x15.2.2.2.2.2.2,x15.2.1,x15.2.2.1,x15.2.2.2.1,x15.2.2.2.2.1,x15.2.2.2.2.2.1⟩:TreeWorld)
theorem spec_l83Tick_c {a0:TreeWorld} {r:TreeWorld} (h:spec_l83Tick_m a0 = some r):EffC Try.prog 101 [.agg [.osl 9000 0 a0.Bridges.length,.d (slD TreeLink.enc a0.Links),.d (slD encInt a0.Down),.osl 9001 0 a0.AtA.length,.osl 9002 0 a0.AtB.length,.d (slD TreeWord.enc a0.Radio)]] [(9000,.arr 43 6 a0.Bridges.length (rows TreeBridge.enc a0.Bridges)),(9001,.arr 107 4 a0.AtA.length (rows TreeSlot.enc a0.AtA)),(9002,.arr 107 4 a0.AtB.length (rows TreeSlot.enc a0.AtB))] (.agg [.osl 5001 0 r.Bridges.length,.d (slD TreeLink.enc r.Links),.d (slD encInt r.Down),.d (slD TreeSlot.enc r.AtA),.d (slD TreeSlot.enc r.AtB),.d (slD TreeWord.enc r.Radio)]) [(5001,.arr 43 6 r.Bridges.length (rows TreeBridge.enc r.Bridges))]:=by
  refine effC_x tOk (fn:=Try.f101) (c:=codeOf Try.f101) rfl rfl ?_;unfold spec_l83Tick_m at h;(conv=>whnf);refine seq_in tOk ?_;(conv=>whnf);obtain ⟨x4,hx4,h⟩:=bd_some h;refine loop_m tOk hx4 (fun s1=>⟨0,43,[(1,.ref 1 0 0),(2,.ref 2 0 0),(3,.d (.int .i64 s1.2.2))],[],[(2,.box 29 [.d (.nil),.d (.nil),.d (.nil),.d (.nil),.d (.nil),.d (.nil)]),(1,.box 29 [.osl 9000 0 a0.Bridges.length,.d (slD TreeLink.enc a0.Links),.d (slD encInt a0.Down),.osl 9001 0 s1.1.length,.osl 9002 0 s1.2.1.length,.d (slD TreeWord.enc a0.Radio)]),(9000,.arr 43 6 a0.Bridges.length (rows TreeBridge.enc a0.Bridges)),(9001,.arr 107 4 s1.1.length (rows TreeSlot.enc s1.1)),(9002,.arr 107 4 s1.2.1.length (rows TreeSlot.enc s1.2.1))],[⟨[],[]⟩]⟩) ?_ ?_
  · exact leX []
  · clear hx4;intro s1 y2 g3 hy2;(conv=>whnf);refine seq_in tOk ?_;(conv=>whnf);refine andI g3 (fun _ g3=>?_) (fun _ g3=>?_)
    · (conv=>whnf);refine seq_in tOk ?_;(conv=>whnf);obtain ⟨g5,g3⟩:=gd_some g3;obtain ⟨x6,hx6,g3⟩:=bd_some g3;obtain ⟨g7,g3⟩:=gd_some g3;refine draw_u tOk [.u 8 0 (.agg [.d (.int .i64 x6.Vector.Root),.d (.int .i64 x6.Vector.Cost),.d (.int .i64 x6.Vector.Age),.d (.int .i64 x6.Left)]) []] 10 [] [0,1,0,0,8,0,56,120,248,511] [1023] ?_;(conv=>whnf);refine And.intro g5 ?_;clear g5;(conv=>whnf);refine And.intro (callD_any (spec_l83Older_c hx6) (by kernel_rfl)) ?_;(conv=>whnf);refine And.intro g7 ?_;clear g7;(conv=>whnf);refine And.intro (by kernel_rfl) ?_;(conv=>whnf);refine ⟨rows TreeSlot.enc (s1.1.set s1.2.2.toNat x6),store_rows' lenA rfl,?_⟩;(conv=>whnf);obtain ⟨g8,g3⟩:=gd_some g3;obtain ⟨x9,hx9,g3⟩:=bd_some g3;obtain ⟨g10,g3⟩:=gd_some g3;refine draw_u tOk [.u 8 0 (.agg [.d (.int .i64 x9.Vector.Root),.d (.int .i64 x9.Vector.Cost),.d (.int .i64 x9.Vector.Age),.d (.int .i64 x9.Left)]) []] 10 [] [0,1,0,0,8,0,56,120,248,511] [1023] ?_;(conv=>whnf);refine And.intro g8 ?_;clear g8;(conv=>whnf);refine And.intro (callD_any (spec_l83Older_c hx9) (by kernel_rfl)) ?_;(conv=>whnf);refine And.intro g10 ?_;clear g10;(conv=>whnf);refine And.intro (by kernel_rfl) ?_;(conv=>whnf);refine ⟨rows TreeSlot.enc (s1.2.1.set s1.2.2.toNat x9),store_rows' lenA rfl,?_⟩;(conv=>whnf);obtain rfl:=Option.some.inj g3;exact ⟨_,rfl,leX []⟩
    · (conv=>whnf);obtain rfl:=Option.some.inj g3;obtain rfl:=hy2 _ rfl;refine seq_in tOk ?_;(conv=>whnf);obtain ⟨x15,hx15,h⟩:=bd_some h;refine loop_m tOk hx15 (fun s12=>⟨0,43,[(1,.ref 1 0 0),(2,.ref 2 0 0),(4,.d (.int .i64 s12.2.2.2.2.2.2))],[],[(2,.box 29 [.d (.nil),.d (.nil),.d (.nil),.d (.nil),.d (.nil),.d (.nil)]),(1,.box 29 [.osl 9000 0 s12.1.length,.d (slD TreeLink.enc s12.2.1),.d (slD encInt s12.2.2.1),.d (slD TreeSlot.enc s12.2.2.2.1),.d (slD TreeSlot.enc s12.2.2.2.2.1),.d (slD TreeWord.enc s12.2.2.2.2.2.1)]),(9000,.arr 43 6 s12.1.length (rows TreeBridge.enc s12.1))],[⟨[],[]⟩]⟩) ?_ ?_
      · exact leX [.f [9001,9002]]
      · clear hx15;intro s12 y13 g14 hy13;(conv=>whnf);refine seq_in tOk ?_;(conv=>whnf);refine andI g14 (fun _ g14=>?_) (fun _ g14=>?_)
        · (conv=>whnf);refine seq_in tOk ?_;(conv=>whnf);obtain ⟨x16,hx16,g14⟩:=bd_some g14;refine cE [(9000,9000)] 1000 (spec_l83Thinks_c hx16) ?_;(conv=>whnf);obtain rfl:=Option.some.inj g14;exact ⟨_,rfl,leX [.s [(6001,9000),(9000,6001)]]⟩
        · (conv=>whnf);obtain rfl:=Option.some.inj g14;obtain rfl:=hy13 _ rfl;obtain rfl:=Option.some.inj h;exact lfE [.s [(5001,9000),(9000,5001)]]
noncomputable def spec_l83Bridge_m (a0:TreeWorld) (a1:TreeEvent):Option (TreeWorld) :=
 bd (spec_l81In_m a1.At 0 (IntKind.i64.wrap (((a0.Bridges.length:Nat):Int) - 1))) fun x1 =>
(if (!x1) = true then
 some a0
else
 gd ((0:Int)≤a1.At∧a1.At<((a0.Bridges.length:Nat):Int)) <|
(if (a1.Kind == 7) = true then
(if (!((a0.Bridges.getD a1.At.toNat default).Up)) = true then
 bd (spec_l82Self_m ((a0.Bridges.getD a1.At.toNat default).Id)) fun x3 =>
 gd ((0:Int)≤a1.At∧a1.At<((a0.Bridges.length:Nat):Int)) <|
 bd (some (a0.Bridges.set a1.At.toNat (⟨(a0.Bridges.getD a1.At.toNat default).Id,true,x3⟩:TreeBridge))) fun x5 =>
 some ({ a0 with Bridges:=x5 })
else
 some a0)
else
 gd ((0:Int)≤a1.At∧a1.At<((a0.Bridges.length:Nat):Int)) <|
 bd (some (a0.Bridges.set a1.At.toNat (⟨(a0.Bridges.getD a1.At.toNat default).Id,false,(⟨(⟨0,0,0⟩:TreeVector),0⟩:TreeMind)⟩:TreeBridge))) fun x7 =>
 bd (lp (σ:=List TreeSlot × List TreeSlot × Int) (β:=(Nat × Nat × (List TreeSlot) × (List TreeSlot))) (fun s8 =>
(if (decide (s8.2.2<((a0.Links.length:Nat):Int))) = true then
 bd (α:=List TreeSlot) (gd ((0:Int)≤s8.2.2∧s8.2.2<((a0.Links.length:Nat):Int)) <|
(if (((a0.Links.getD s8.2.2.toNat default).A) == a1.At) = true then
 gd ((0:Int)≤s8.2.2∧s8.2.2<((s8.1.length:Nat):Int)) <|
 some (s8.1.set s8.2.2.toNat (⟨(⟨0,0,0⟩:TreeVector),0⟩:TreeSlot))
else
 some s8.1)) fun x12 =>
 gd ((0:Int)≤s8.2.2∧s8.2.2<((a0.Links.length:Nat):Int)) <|
(if (((a0.Links.getD s8.2.2.toNat default).B) == a1.At) = true then
 gd ((0:Int)≤s8.2.2∧s8.2.2<((s8.2.1.length:Nat):Int)) <|
 some (.inl (x12,s8.2.1.set s8.2.2.toNat (⟨(⟨0,0,0⟩:TreeVector),0⟩:TreeSlot),IntKind.i64.wrap (s8.2.2+1)))
else
 some (.inl (x12,s8.2.1,IntKind.i64.wrap (s8.2.2+1))))
else
 some (.inr (s8.1.length,s8.2.1.length,s8.1,s8.2.1)))) (a0.AtA,a0.AtB,0)) fun x11 =>
 some ({ a0 with Bridges:=x7,AtA:=x11.2.2.1,AtB:=x11.2.2.2 })))
theorem spec_l83Bridge_c {a0:TreeWorld} {a1:TreeEvent} {r:TreeWorld} (h:spec_l83Bridge_m a0 a1 = some r):EffC Try.prog 102 [.agg [.osl 9000 0 a0.Bridges.length,.d (slD TreeLink.enc a0.Links),.d (slD encInt a0.Down),.osl 9001 0 a0.AtA.length,.osl 9002 0 a0.AtB.length,.d (slD TreeWord.enc a0.Radio)],.agg [.d (.int .i64 a1.Kind),.d (.int .i64 a1.At),.d (.int .i64 a1.End)]] [(9000,.arr 43 6 a0.Bridges.length (rows TreeBridge.enc a0.Bridges)),(9001,.arr 107 4 a0.AtA.length (rows TreeSlot.enc a0.AtA)),(9002,.arr 107 4 a0.AtB.length (rows TreeSlot.enc a0.AtB))] (.agg [.d (slD TreeBridge.enc r.Bridges),.d (slD TreeLink.enc r.Links),.d (slD encInt r.Down),.d (slD TreeSlot.enc r.AtA),.d (slD TreeSlot.enc r.AtB),.d (slD TreeWord.enc r.Radio)]) []:=by
  refine effC_x tOk (fn:=Try.f102) (c:=codeOf Try.f102) rfl rfl ?_;unfold spec_l83Bridge_m at h;(conv=>whnf);refine seq_in tOk ?_;(conv=>whnf);obtain ⟨x1,hx1,h⟩:=bd_some h;refine cC 0 (spec_l81In_c hx1) ?_;clear hx1;(conv=>whnf);refine andI h (fun _ h=>?_) (fun _ h=>?_)
  · (conv=>whnf);obtain rfl:=Option.some.inj h;exact lfE [.f [9000,9001,9002]]
  · (conv=>whnf);refine gdI h (fun h=>?_);(conv=>whnf);refine seq_in tOk ?_;(conv=>whnf);refine andI h (fun _ h=>?_) (fun _ h=>?_)
    · (conv=>whnf);refine seq_in tOk ?_;(conv=>whnf);refine andI h (fun _ h=>?_) (fun _ h=>?_)
      · (conv=>whnf);obtain ⟨x3,hx3,h⟩:=bd_some h;obtain ⟨g4,h⟩:=gd_some h;refine draw_u tOk [.u 8 0 (.agg [.d (.int .i64 x3.Vector.Root),.d (.int .i64 x3.Vector.Cost),.d (.int .i64 x3.Vector.Age),.d (.int .i64 x3.Link)]) []] 11 [] [0,1,0,4,0,16,0,64,192,496,1023] [2047] ?_;(conv=>whnf);refine And.intro (callD_any (spec_l82Self_c hx3) (by kernel_rfl)) ?_;(conv=>whnf);refine And.intro g4 ?_;clear g4;(conv=>whnf);refine And.intro (by kernel_rfl) ?_;(conv=>whnf);obtain ⟨x5,hx5,hlx5,h⟩:=bd_set h;refine setS (enc:=TreeBridge.enc) hx5 ?_;(conv=>whnf);obtain rfl:=Option.some.inj h;exact lfE [.f [9000,9001,9002]]
      · (conv=>whnf);obtain rfl:=Option.some.inj h;exact lfE [.f [9000,9001,9002]]
    · (conv=>whnf);refine gdI h (fun h=>?_);(conv=>whnf);obtain ⟨x7,hx7,hlx7,h⟩:=bd_set h;refine setS (enc:=TreeBridge.enc) hx7 ?_;(conv=>whnf);refine seq_in tOk ?_;(conv=>whnf);obtain ⟨x11,hx11,h⟩:=bd_some h;refine loop_m tOk hx11 (fun s8=>⟨0,84,[(2,.ref 2 0 0),(3,.ref 3 0 0),(4,.ref 4 0 0),(6,.d (.int .i64 s8.2.2))],[],[(4,.box 29 [.d (.nil),.d (.nil),.d (.nil),.d (.nil),.d (.nil),.d (.nil)]),(3,.box 53 [.d (.int .i64 a1.Kind),.d (.int .i64 a1.At),.d (.int .i64 a1.End)]),(2,.box 29 [.osl 9000 0 a0.Bridges.length,.d (slD TreeLink.enc a0.Links),.d (slD encInt a0.Down),.osl 9001 0 s8.1.length,.osl 9002 0 s8.2.1.length,.d (slD TreeWord.enc a0.Radio)]),(9000,.arr 43 6 a0.Bridges.length (rows TreeBridge.enc x7)),(9001,.arr 107 4 s8.1.length (rows TreeSlot.enc s8.1)),(9002,.arr 107 4 s8.2.1.length (rows TreeSlot.enc s8.2.1))],[⟨[],[]⟩]⟩) ?_ ?_
      · exact leX []
      · clear hx11;intro s8 y9 g10 hy9;(conv=>whnf);refine seq_in tOk ?_;(conv=>whnf);refine andI g10 (fun _ g10=>?_) (fun _ g10=>?_)
        · (conv=>whnf);refine seq_in tOk ?_;(conv=>whnf);obtain ⟨x12,hx12,g10⟩:=bd_some g10;refine seq_join tOk (fun s13=>⟨0,84,[(2,.ref 2 0 0),(3,.ref 3 0 0),(4,.ref 4 0 0),(6,.d (.int .i64 s8.2.2))],[],[(4,.box 29 [.d (.nil),.d (.nil),.d (.nil),.d (.nil),.d (.nil),.d (.nil)]),(3,.box 53 [.d (.int .i64 a1.Kind),.d (.int .i64 a1.At),.d (.int .i64 a1.End)]),(2,.box 29 [.osl 9000 0 a0.Bridges.length,.d (slD TreeLink.enc a0.Links),.d (slD encInt a0.Down),.osl 9001 0 s13.length,.osl 9002 0 s8.2.1.length,.d (slD TreeWord.enc a0.Radio)]),(9000,.arr 43 6 a0.Bridges.length (rows TreeBridge.enc x7)),(9001,.arr 107 4 s13.length (rows TreeSlot.enc s13)),(9002,.arr 107 4 s8.2.1.length (rows TreeSlot.enc s8.2.1))],[⟨[],[]⟩]⟩) (fun s13=>x12 = s13) ?_ ?_
          · (conv=>whnf);obtain ⟨g15,hx12⟩:=gd_some hx12;refine draw_u tOk [] 9 [] [0,1,0,7,15,31,0,64,255] [] ?_;(conv=>whnf);refine And.intro g15 ?_;clear g15;(conv=>whnf);refine And.intro (by kernel_rfl) ?_;(conv=>whnf);refine andI hx12 (fun _ hx12=>?_) (fun _ hx12=>?_)
            · (conv=>whnf);refine gdI hx12 (fun hx12=>?_);(conv=>whnf);refine ⟨rows TreeSlot.enc (s8.1.set s8.2.2.toNat (⟨(⟨0,0,0⟩:TreeVector),0⟩:TreeSlot)),store_rows' lenA rfl,?_⟩;(conv=>whnf);obtain rfl:=Option.some.inj hx12;exact ⟨_,rfl,leX []⟩
            · (conv=>whnf);obtain rfl:=Option.some.inj hx12;exact ⟨_,rfl,leX []⟩
          · rintro _ rfl;(conv=>whnf);obtain ⟨g17,g10⟩:=gd_some g10;refine draw_u tOk [] 9 [] [0,1,0,7,15,31,0,64,255] [] ?_;(conv=>whnf);refine And.intro g17 ?_;clear g17;(conv=>whnf);refine And.intro (by kernel_rfl) ?_;(conv=>whnf);refine andI g10 (fun _ g10=>?_) (fun _ g10=>?_)
            · (conv=>whnf);refine gdI g10 (fun g10=>?_);(conv=>whnf);refine ⟨rows TreeSlot.enc (s8.2.1.set s8.2.2.toNat (⟨(⟨0,0,0⟩:TreeVector),0⟩:TreeSlot)),store_rows' lenA rfl,?_⟩;(conv=>whnf);obtain rfl:=Option.some.inj g10;exact ⟨_,rfl,leX []⟩
            · (conv=>whnf);obtain rfl:=Option.some.inj g10;exact ⟨_,rfl,leX []⟩
        · (conv=>whnf);obtain rfl:=Option.some.inj g10;obtain rfl:=hy9 _ rfl;obtain rfl:=Option.some.inj h;exact lfE [.f [9000,9001,9002]]
noncomputable def spec_l83Forget_m (a0:TreeWorld) (a1:Int) (a2:Int):Option (TreeWorld) :=
 bd (α:=List TreeSlot × List TreeSlot) ((if (a2 == 0) = true then
 gd ((0:Int)≤a1∧a1<((a0.AtA.length:Nat):Int)) <|
 some (a0.AtA.set a1.toNat (⟨(⟨0,0,0⟩:TreeVector),0⟩:TreeSlot),a0.AtB)
else
 gd ((0:Int)≤a1∧a1<((a0.AtB.length:Nat):Int)) <|
 some (a0.AtA,a0.AtB.set a1.toNat (⟨(⟨0,0,0⟩:TreeVector),0⟩:TreeSlot)))) fun x1 =>
 bd (spec_l83End_m ({ a0 with AtA:=x1.1,AtB:=x1.2 }) a1 a2) fun x6 =>
 bd (spec_l83Thinks_m ({ a0 with AtA:=x1.1,AtB:=x1.2 }) x6) fun x7 =>
 some x7
theorem spec_l83Forget_c {a0:TreeWorld} {a1:Int} {a2:Int} {r:TreeWorld} (h:spec_l83Forget_m a0 a1 a2 = some r):EffC Try.prog 132 [.agg [.osl 9000 0 a0.Bridges.length,.d (slD TreeLink.enc a0.Links),.d (slD encInt a0.Down),.osl 9001 0 a0.AtA.length,.osl 9002 0 a0.AtB.length,.d (slD TreeWord.enc a0.Radio)],.d (.int .i64 a1),.d (.int .i64 a2)] [(9000,.arr 43 6 a0.Bridges.length (rows TreeBridge.enc a0.Bridges)),(9001,.arr 107 4 a0.AtA.length (rows TreeSlot.enc a0.AtA)),(9002,.arr 107 4 a0.AtB.length (rows TreeSlot.enc a0.AtB))] (.agg [.osl 5001 0 r.Bridges.length,.d (slD TreeLink.enc r.Links),.d (slD encInt r.Down),.d (slD TreeSlot.enc r.AtA),.d (slD TreeSlot.enc r.AtB),.d (slD TreeWord.enc r.Radio)]) [(5001,.arr 43 6 r.Bridges.length (rows TreeBridge.enc r.Bridges))]:=by
  refine effC_x tOk (fn:=Try.f132) (c:=codeOf Try.f132) rfl rfl ?_;unfold spec_l83Forget_m at h;(conv=>whnf);obtain ⟨x1,hx1,h⟩:=bd_some h;refine seq_join tOk (fun s2=>⟨0,25,[(1,.d (.int .i64 a1)),(2,.d (.int .i64 a2)),(3,.ref 3 0 0),(6,.ref 6 0 0)],[],[(6,.box 29 [.d (.nil),.d (.nil),.d (.nil),.d (.nil),.d (.nil),.d (.nil)]),(3,.box 29 [.osl 9000 0 a0.Bridges.length,.d (slD TreeLink.enc a0.Links),.d (slD encInt a0.Down),.osl 9001 0 s2.1.length,.osl 9002 0 s2.2.length,.d (slD TreeWord.enc a0.Radio)]),(9000,.arr 43 6 a0.Bridges.length (rows TreeBridge.enc a0.Bridges)),(9001,.arr 107 4 s2.1.length (rows TreeSlot.enc s2.1)),(9002,.arr 107 4 s2.2.length (rows TreeSlot.enc s2.2))],[⟨[],[]⟩]⟩) (fun s2=>x1 = s2) ?_ ?_
  · (conv=>whnf);refine andI hx1 (fun _ hx1=>?_) (fun _ hx1=>?_)
    · (conv=>whnf);refine gdI hx1 (fun hx1=>?_);(conv=>whnf);refine ⟨rows TreeSlot.enc (a0.AtA.set a1.toNat (⟨(⟨0,0,0⟩:TreeVector),0⟩:TreeSlot)),store_rows' lenA rfl,?_⟩;(conv=>whnf);obtain rfl:=Option.some.inj hx1;exact ⟨_,rfl,leX []⟩
    · (conv=>whnf);refine gdI hx1 (fun hx1=>?_);(conv=>whnf);refine ⟨rows TreeSlot.enc (a0.AtB.set a1.toNat (⟨(⟨0,0,0⟩:TreeVector),0⟩:TreeSlot)),store_rows' lenA rfl,?_⟩;(conv=>whnf);obtain rfl:=Option.some.inj hx1;exact ⟨_,rfl,leX []⟩
  · rintro _ rfl;(conv=>whnf);obtain ⟨x6,hx6,h⟩:=bd_some h;obtain ⟨x7,hx7,h⟩:=bd_some h;refine drawFz [9001,9002] ?_;(conv=>whnf);refine draw_t tOk [.r 4 [(9000,.arr 43 6 a0.Bridges.length (rows TreeBridge.enc a0.Bridges))] (.d (.int .i64 x6)) [],.e 5 [(9000,.arr 43 6 a0.Bridges.length (rows TreeBridge.enc a0.Bridges))] (.agg [.osl 6001 0 x7.Bridges.length,.d (slD TreeLink.enc x7.Links),.d (slD encInt x7.Down),.d (slD TreeSlot.enc x7.AtA),.d (slD TreeSlot.enc x7.AtB),.d (slD TreeWord.enc x7.Radio)]) [(6001,.arr 43 6 x7.Bridges.length (rows TreeBridge.enc x7.Bridges))] []] 6 [] [0,0,0,0,14,31] [63] [9000] ?_;(conv=>whnf);refine And.intro (eD [(9000,9000)] 0 ((spec_l83End_c hx6).effV (args:=[.agg [.osl 9000 0 a0.Bridges.length,.d (slD TreeLink.enc a0.Links),.d (slD encInt a0.Down),.d (slD TreeSlot.enc x1.1),.d (slD TreeSlot.enc x1.2),.d (slD TreeWord.enc a0.Radio)],.d (.int .i64 a1),.d (.int .i64 a2)]) (bs:=[(9000,.arr 43 6 a0.Bridges.length (rows TreeBridge.enc a0.Bridges))]) rfl (by kernel_rfl) rfl rfl rfl)) ?_;(conv=>whnf);refine And.intro (eD [(9000,9000)] 1000 (spec_l83Thinks_c hx7)) ?_;(conv=>whnf);refine And.intro (by kernel_rfl) ?_;(conv=>whnf);obtain rfl:=Option.some.inj h;exact lfE [.s [(5001,6001),(6001,5001)]]
noncomputable def spec_l83Thinks_o03_04_m (a0:TreeWorld) (a1:Int):Option (TreeWorld) :=
 gd ((0:Int)≤a1∧a1<((a0.Bridges.length:Nat):Int)) <|
(if (a0.Bridges.getD a1.toNat default).Up = true then
 bd (spec_l82Think_m a0 a1) fun x2 =>
 gd ((0:Int)≤a1∧a1<((a0.Bridges.length:Nat):Int)) <|
 some ({ a0 with Bridges:=a0.Bridges.set a1.toNat ({ (a0.Bridges.getD a1.toNat default) with Mind:=x2 }) })
else
 some a0)
theorem spec_l83Thinks_o03_04_c {a0:TreeWorld} {a1:Int} {r:TreeWorld} (h:spec_l83Thinks_o03_04_m a0 a1 = some r):EffC Try.prog 131 [.agg [.osl 9000 0 a0.Bridges.length,.d (slD TreeLink.enc a0.Links),.d (slD encInt a0.Down),.osl 9001 0 a0.AtA.length,.osl 9002 0 a0.AtB.length,.d (slD TreeWord.enc a0.Radio)],.d (.int .i64 a1)] [(9000,.arr 43 6 a0.Bridges.length (rows TreeBridge.enc a0.Bridges)),(9001,.arr 107 4 a0.AtA.length (rows TreeSlot.enc a0.AtA)),(9002,.arr 107 4 a0.AtB.length (rows TreeSlot.enc a0.AtB))] (.agg [.osl 5001 0 r.Bridges.length,.d (slD TreeLink.enc r.Links),.d (slD encInt r.Down),.osl 5002 0 r.AtA.length,.osl 5003 0 r.AtB.length,.d (slD TreeWord.enc r.Radio)]) [(5001,.arr 43 6 r.Bridges.length (rows TreeBridge.enc r.Bridges)),(5002,.arr 107 4 r.AtA.length (rows TreeSlot.enc r.AtA)),(5003,.arr 107 4 r.AtB.length (rows TreeSlot.enc r.AtB))]:=by
  refine effC_x tOk (fn:=Try.f131) (c:=codeOf Try.f131) rfl rfl ?_;unfold spec_l83Thinks_o03_04_m at h;(conv=>whnf);refine seq_in tOk ?_;(conv=>whnf);refine gdI h (fun h=>?_);(conv=>whnf);refine andI h (fun _ h=>?_) (fun _ h=>?_)
  · (conv=>whnf);obtain ⟨x2,hx2,h⟩:=bd_some h;obtain ⟨g3,h⟩:=gd_some h;refine draw_u tOk [.u 5 0 (.agg [.d (.int .i64 x2.Vector.Root),.d (.int .i64 x2.Vector.Cost),.d (.int .i64 x2.Vector.Age),.d (.int .i64 x2.Link)]) []] 8 [] [0,1,0,0,0,24,63,127] [255] ?_;(conv=>whnf);refine And.intro (callD_any (spec_l82Think_c hx2) (by kernel_rfl)) ?_;(conv=>whnf);refine And.intro g3 ?_;clear g3;(conv=>whnf);refine And.intro (by kernel_rfl) ?_;(conv=>whnf);refine ⟨rows TreeBridge.enc (a0.Bridges.set a1.toNat ({ (a0.Bridges.getD a1.toNat default) with Mind:=x2 })),store_rows' lenA rfl,?_⟩;(conv=>whnf);obtain rfl:=Option.some.inj h;exact lfE [.s [(5001,9000),(5002,9001),(5003,9002),(9000,5001),(9001,5002),(9002,5003)]]
  · (conv=>whnf);obtain rfl:=Option.some.inj h;exact lfE [.s [(5001,9000),(5002,9001),(5003,9002),(9000,5001),(9001,5002),(9002,5003)]]
noncomputable def spec_l83Forget_o03_04_m (a0:TreeWorld) (a1:Int) (a2:Int):Option (TreeWorld) :=
 bd (α:=List TreeSlot × List TreeSlot) ((if (a2 == 0) = true then
 gd ((0:Int)≤a1∧a1<((a0.AtA.length:Nat):Int)) <|
 some (a0.AtA.set a1.toNat (⟨(⟨0,0,0⟩:TreeVector),0⟩:TreeSlot),a0.AtB)
else
 gd ((0:Int)≤a1∧a1<((a0.AtB.length:Nat):Int)) <|
 some (a0.AtA,a0.AtB.set a1.toNat (⟨(⟨0,0,0⟩:TreeVector),0⟩:TreeSlot)))) fun x1 =>
 bd (spec_l83End_m ({ a0 with AtA:=x1.1,AtB:=x1.2 }) a1 a2) fun x6 =>
 bd (spec_l83Thinks_o03_04_m ({ a0 with AtA:=x1.1,AtB:=x1.2 }) x6) fun x7 =>
 some x7
theorem spec_l83Forget_o03_04_c {a0:TreeWorld} {a1:Int} {a2:Int} {r:TreeWorld} (h:spec_l83Forget_o03_04_m a0 a1 a2 = some r):EffC Try.prog 132 [.agg [.osl 9000 0 a0.Bridges.length,.d (slD TreeLink.enc a0.Links),.d (slD encInt a0.Down),.osl 9001 0 a0.AtA.length,.osl 9002 0 a0.AtB.length,.d (slD TreeWord.enc a0.Radio)],.d (.int .i64 a1),.d (.int .i64 a2)] [(9000,.arr 43 6 a0.Bridges.length (rows TreeBridge.enc a0.Bridges)),(9001,.arr 107 4 a0.AtA.length (rows TreeSlot.enc a0.AtA)),(9002,.arr 107 4 a0.AtB.length (rows TreeSlot.enc a0.AtB))] (.agg [.osl 5001 0 r.Bridges.length,.d (slD TreeLink.enc r.Links),.d (slD encInt r.Down),.osl 5002 0 r.AtA.length,.osl 5003 0 r.AtB.length,.d (slD TreeWord.enc r.Radio)]) [(5001,.arr 43 6 r.Bridges.length (rows TreeBridge.enc r.Bridges)),(5002,.arr 107 4 r.AtA.length (rows TreeSlot.enc r.AtA)),(5003,.arr 107 4 r.AtB.length (rows TreeSlot.enc r.AtB))]:=by
  refine effC_x tOk (fn:=Try.f132) (c:=codeOf Try.f132) rfl rfl ?_;unfold spec_l83Forget_o03_04_m at h;(conv=>whnf);obtain ⟨x1,hx1,h⟩:=bd_some h;refine seq_join tOk (fun s2=>⟨0,25,[(1,.d (.int .i64 a1)),(2,.d (.int .i64 a2)),(3,.ref 3 0 0),(6,.ref 6 0 0)],[],[(6,.box 29 [.d (.nil),.d (.nil),.d (.nil),.d (.nil),.d (.nil),.d (.nil)]),(3,.box 29 [.osl 9000 0 a0.Bridges.length,.d (slD TreeLink.enc a0.Links),.d (slD encInt a0.Down),.osl 9001 0 s2.1.length,.osl 9002 0 s2.2.length,.d (slD TreeWord.enc a0.Radio)]),(9000,.arr 43 6 a0.Bridges.length (rows TreeBridge.enc a0.Bridges)),(9001,.arr 107 4 s2.1.length (rows TreeSlot.enc s2.1)),(9002,.arr 107 4 s2.2.length (rows TreeSlot.enc s2.2))],[⟨[],[]⟩]⟩) (fun s2=>x1 = s2) ?_ ?_
  · (conv=>whnf);refine andI hx1 (fun _ hx1=>?_) (fun _ hx1=>?_)
    · (conv=>whnf);refine gdI hx1 (fun hx1=>?_);(conv=>whnf);refine ⟨rows TreeSlot.enc (a0.AtA.set a1.toNat (⟨(⟨0,0,0⟩:TreeVector),0⟩:TreeSlot)),store_rows' lenA rfl,?_⟩;(conv=>whnf);obtain rfl:=Option.some.inj hx1;exact ⟨_,rfl,leX []⟩
    · (conv=>whnf);refine gdI hx1 (fun hx1=>?_);(conv=>whnf);refine ⟨rows TreeSlot.enc (a0.AtB.set a1.toNat (⟨(⟨0,0,0⟩:TreeVector),0⟩:TreeSlot)),store_rows' lenA rfl,?_⟩;(conv=>whnf);obtain rfl:=Option.some.inj hx1;exact ⟨_,rfl,leX []⟩
  · rintro _ rfl;(conv=>whnf);obtain ⟨x6,hx6,h⟩:=bd_some h;obtain ⟨x7,hx7,h⟩:=bd_some h;refine draw_t tOk [.r 4 [(9000,.arr 43 6 a0.Bridges.length (rows TreeBridge.enc a0.Bridges)),(9001,.arr 107 4 x1.1.length (rows TreeSlot.enc x1.1)),(9002,.arr 107 4 x1.2.length (rows TreeSlot.enc x1.2))] (.d (.int .i64 x6)) [],.e 5 [(9000,.arr 43 6 a0.Bridges.length (rows TreeBridge.enc a0.Bridges)),(9001,.arr 107 4 x1.1.length (rows TreeSlot.enc x1.1)),(9002,.arr 107 4 x1.2.length (rows TreeSlot.enc x1.2))] (.agg [.osl 6001 0 x7.Bridges.length,.d (slD TreeLink.enc x7.Links),.d (slD encInt x7.Down),.osl 6002 0 x7.AtA.length,.osl 6003 0 x7.AtB.length,.d (slD TreeWord.enc x7.Radio)]) [(6001,.arr 43 6 x7.Bridges.length (rows TreeBridge.enc x7.Bridges)),(6002,.arr 107 4 x7.AtA.length (rows TreeSlot.enc x7.AtA)),(6003,.arr 107 4 x7.AtB.length (rows TreeSlot.enc x7.AtB))] []] 6 [] [0,0,0,0,14,31] [63] [9000,9001,9002] ?_;(conv=>whnf);refine And.intro (eD [(9000,9000),(9001,9001),(9002,9002)] 0 ((spec_l83End_c hx6).effV (args:=[.agg [.osl 9000 0 a0.Bridges.length,.d (slD TreeLink.enc a0.Links),.d (slD encInt a0.Down),.osl 9001 0 x1.1.length,.osl 9002 0 x1.2.length,.d (slD TreeWord.enc a0.Radio)],.d (.int .i64 a1),.d (.int .i64 a2)]) (bs:=[(9000,.arr 43 6 a0.Bridges.length (rows TreeBridge.enc a0.Bridges)),(9001,.arr 107 4 x1.1.length (rows TreeSlot.enc x1.1)),(9002,.arr 107 4 x1.2.length (rows TreeSlot.enc x1.2))]) rfl (by kernel_rfl) rfl rfl rfl)) ?_;(conv=>whnf);refine And.intro (eD [(9000,9000),(9001,9001),(9002,9002)] 1000 (spec_l83Thinks_o03_04_c hx7)) ?_;(conv=>whnf);refine And.intro (by kernel_rfl) ?_;(conv=>whnf);obtain rfl:=Option.some.inj h;exact lfE [.s [(5001,6001),(5002,6002),(5003,6003),(6001,5001),(6002,5002),(6003,5003)]]
noncomputable def spec_l83Link_m (a0:TreeWorld) (a1:TreeEvent):Option (TreeWorld) :=
 bd (spec_l81In_m a1.At 0 (IntKind.i64.wrap (((a0.Links.length:Nat):Int) - 1))) fun x1 =>
(if (!x1) = true then
 some a0
else
 bd (lp (σ:=List Int × Int) (β:=(Nat × Int × (List Int))) (fun s2 =>
 gd ((decide (s2.2<((a0.Down.length:Nat):Int))) = true → ((0:Int)≤s2.2∧s2.2<((a0.Down.length:Nat):Int))) <|
(if ((decide (s2.2<((a0.Down.length:Nat):Int))) && (decide ((a0.Down.getD s2.2.toNat default)<a1.At))) = true then
 gd ((0:Int)≤s2.2∧s2.2<((a0.Down.length:Nat):Int)) <|
 gd (((s2.1.length)+(([(a0.Down.getD s2.2.toNat default)]:List Int).length)) * (8+1)≤70368744177664) <|
 some (.inl ((s2.1 ++ ([(a0.Down.getD s2.2.toNat default)]:List Int)),IntKind.i64.wrap (s2.2+1)))
else
 some (.inr (s2.1.length,s2.2,s2.1)))) (([]:List Int),0)) fun x5 =>
 bd (α:=List Int) ((if (a1.Kind == 8) = true then
 gd (((x5.1)+(([a1.At]:List Int).length)) * (8+1)≤70368744177664) <|
 some (x5.2.2 ++ ([a1.At]:List Int))
else
 some x5.2.2)) fun x10 =>
 bd (lp (σ:=List Int × Int) (β:=(Nat × (List Int))) (fun s14 =>
(if (decide (s14.2<((a0.Down.length:Nat):Int))) = true then
 gd ((0:Int)≤s14.2∧s14.2<((a0.Down.length:Nat):Int)) <|
(if ((a0.Down.getD s14.2.toNat default) != a1.At) = true then
 gd ((0:Int)≤s14.2∧s14.2<((a0.Down.length:Nat):Int)) <|
 gd (((s14.1.length)+(([(a0.Down.getD s14.2.toNat default)]:List Int).length)) * (8+1)≤70368744177664) <|
 some (.inl ((s14.1 ++ ([(a0.Down.getD s14.2.toNat default)]:List Int)),IntKind.i64.wrap (s14.2+1)))
else
 some (.inl (s14.1,IntKind.i64.wrap (s14.2+1))))
else
 some (.inr (s14.1.length,s14.1)))) (x10,x5.2.1)) fun x17 =>
(if (a1.Kind == 8) = true then
 bd (spec_l83Forget_o03_04_m ({ a0 with Down:=x17.2 }) a1.At 0) fun x22 =>
 bd (spec_l83Forget_m x22 a1.At 1) fun x23 =>
 some x23
else
 some ({ a0 with Down:=x17.2 })))
theorem spec_l83Link_c {a0:TreeWorld} {a1:TreeEvent} {r:TreeWorld} (h:spec_l83Link_m a0 a1 = some r):EffC Try.prog 103 [.agg [.osl 9000 0 a0.Bridges.length,.d (slD TreeLink.enc a0.Links),.d (slD encInt a0.Down),.osl 9001 0 a0.AtA.length,.osl 9002 0 a0.AtB.length,.d (slD TreeWord.enc a0.Radio)],.agg [.d (.int .i64 a1.Kind),.d (.int .i64 a1.At),.d (.int .i64 a1.End)]] [(9000,.arr 43 6 a0.Bridges.length (rows TreeBridge.enc a0.Bridges)),(9001,.arr 107 4 a0.AtA.length (rows TreeSlot.enc a0.AtA)),(9002,.arr 107 4 a0.AtB.length (rows TreeSlot.enc a0.AtB))] (.agg [.d (slD TreeBridge.enc r.Bridges),.d (slD TreeLink.enc r.Links),.d (slD encInt r.Down),.d (slD TreeSlot.enc r.AtA),.d (slD TreeSlot.enc r.AtB),.d (slD TreeWord.enc r.Radio)]) []:=by
  refine effC_x tOk (fn:=Try.f103) (c:=codeOf Try.f103) rfl rfl ?_;unfold spec_l83Link_m at h;(conv=>whnf);refine seq_in tOk ?_;(conv=>whnf);obtain ⟨x1,hx1,h⟩:=bd_some h;refine cC 0 (spec_l81In_c hx1) ?_;clear hx1;(conv=>whnf);refine andI h (fun _ h=>?_) (fun _ h=>?_)
  · (conv=>whnf);obtain rfl:=Option.some.inj h;exact lfE [.f [9000,9001,9002]]
  · (conv=>whnf);refine seq_in tOk ?_;(conv=>whnf);obtain ⟨x5,hx5,h⟩:=bd_some h;refine loop_m tOk hx5 (fun s2=>⟨0,86,[(2,.ref 2 0 0),(3,.ref 3 0 0),(4,.ref 4 0 0),(5,.osl 7001 0 s2.1.length),(6,.d (.int .i64 s2.2))],[],[(7001,.arr 3 1 s2.1.length (rows encInt s2.1)),(4,.box 29 [.d (.nil),.d (.nil),.d (.nil),.d (.nil),.d (.nil),.d (.nil)]),(3,.box 53 [.d (.int .i64 a1.Kind),.d (.int .i64 a1.At),.d (.int .i64 a1.End)]),(2,.box 29 [.osl 9000 0 a0.Bridges.length,.d (slD TreeLink.enc a0.Links),.d (slD encInt a0.Down),.osl 9001 0 a0.AtA.length,.osl 9002 0 a0.AtB.length,.d (slD TreeWord.enc a0.Radio)]),(9000,.arr 43 6 a0.Bridges.length (rows TreeBridge.enc a0.Bridges)),(9001,.arr 107 4 a0.AtA.length (rows TreeSlot.enc a0.AtA)),(9002,.arr 107 4 a0.AtB.length (rows TreeSlot.enc a0.AtB))],[⟨[],[]⟩]⟩) ?_ ?_
    · exact leX [.p 7001 3 1 (rows encInt ([]:List Int))]
    · clear hx5;intro s2 y3 g4 hy3;(conv=>whnf);refine seq_in tOk ?_;(conv=>whnf);obtain ⟨g6,g4⟩:=gd_some g4;refine draw_u tOk [] 15 [] [0,0,2,6,15,31,63,127,63,511,1023,63,2111,8191,16383] [] ?_;(conv=>whnf);refine And.intro g6 ?_;clear g6;(conv=>whnf);refine And.intro (by kernel_rfl) ?_;(conv=>whnf);refine andI g4 (fun _ g4=>?_) (fun _ g4=>?_)
      · (conv=>whnf);refine gdI g4 (fun g4=>?_);(conv=>whnf);refine bldS (enc:=encInt) ([(a0.Down.getD s2.2.toNat default)]:List Int) ?_;(conv=>whnf);refine gdI g4 (fun g4=>?_);refine appS (enc:=encInt) (xs:=s2.1) (ys:=([(a0.Down.getD s2.2.toNat default)]:List Int)) ?_;(conv=>whnf);obtain rfl:=Option.some.inj g4;exact ⟨_,rfl,leX []⟩
      · (conv=>whnf);obtain rfl:=Option.some.inj g4;obtain rfl:=hy3 _ rfl;obtain ⟨x10,hx10,h⟩:=bd_some h;refine seq_join tOk (fun s11=>⟨0,86,[(2,.ref 2 0 0),(3,.ref 3 0 0),(4,.ref 4 0 0),(5,.osl 7001 0 s11.length),(6,.d (.int .i64 (s2.1.length,s2.2,s2.1).2.1))],[],[(7001,.arr 3 1 s11.length (rows encInt s11)),(4,.box 29 [.d (.nil),.d (.nil),.d (.nil),.d (.nil),.d (.nil),.d (.nil)]),(3,.box 53 [.d (.int .i64 a1.Kind),.d (.int .i64 a1.At),.d (.int .i64 a1.End)]),(2,.box 29 [.osl 9000 0 a0.Bridges.length,.d (slD TreeLink.enc a0.Links),.d (slD encInt a0.Down),.osl 9001 0 a0.AtA.length,.osl 9002 0 a0.AtB.length,.d (slD TreeWord.enc a0.Radio)]),(9000,.arr 43 6 a0.Bridges.length (rows TreeBridge.enc a0.Bridges)),(9001,.arr 107 4 a0.AtA.length (rows TreeSlot.enc a0.AtA)),(9002,.arr 107 4 a0.AtB.length (rows TreeSlot.enc a0.AtB))],[⟨[],[]⟩]⟩) (fun s11=>x10 = s11) ?_ ?_
        · (conv=>whnf);refine andI hx10 (fun _ hx10=>?_) (fun _ hx10=>?_)
          · (conv=>whnf);refine bldS (enc:=encInt) ([a1.At]:List Int) ?_;(conv=>whnf);refine gdI hx10 (fun hx10=>?_);refine appS (enc:=encInt) (xs:=(s2.1.length,s2.2,s2.1).2.2) (ys:=([a1.At]:List Int)) ?_;(conv=>whnf);obtain rfl:=Option.some.inj hx10;exact ⟨_,rfl,leX []⟩
          · (conv=>whnf);obtain rfl:=Option.some.inj hx10;exact ⟨_,rfl,leX []⟩
        · rintro _ rfl;(conv=>whnf);refine seq_in tOk ?_;(conv=>whnf);obtain ⟨x17,hx17,h⟩:=bd_some h;refine loop_m tOk hx17 (fun s14=>⟨0,86,[(2,.ref 2 0 0),(3,.ref 3 0 0),(4,.ref 4 0 0),(5,.osl 7001 0 s14.1.length),(6,.d (.int .i64 s14.2))],[],[(7001,.arr 3 1 s14.1.length (rows encInt s14.1)),(4,.box 29 [.d (.nil),.d (.nil),.d (.nil),.d (.nil),.d (.nil),.d (.nil)]),(3,.box 53 [.d (.int .i64 a1.Kind),.d (.int .i64 a1.At),.d (.int .i64 a1.End)]),(2,.box 29 [.osl 9000 0 a0.Bridges.length,.d (slD TreeLink.enc a0.Links),.d (slD encInt a0.Down),.osl 9001 0 a0.AtA.length,.osl 9002 0 a0.AtB.length,.d (slD TreeWord.enc a0.Radio)]),(9000,.arr 43 6 a0.Bridges.length (rows TreeBridge.enc a0.Bridges)),(9001,.arr 107 4 a0.AtA.length (rows TreeSlot.enc a0.AtA)),(9002,.arr 107 4 a0.AtB.length (rows TreeSlot.enc a0.AtB))],[⟨[],[]⟩]⟩) ?_ ?_
          · exact leX []
          · clear hx17;intro s14 y15 g16 hy15;(conv=>whnf);refine seq_in tOk ?_;(conv=>whnf);refine andI g16 (fun _ g16=>?_) (fun _ g16=>?_)
            · (conv=>whnf);refine seq_in tOk ?_;(conv=>whnf);obtain ⟨g18,g16⟩:=gd_some g16;refine draw_u tOk [] 8 [] [0,1,0,7,15,0,32,127] [] ?_;(conv=>whnf);refine And.intro g18 ?_;clear g18;(conv=>whnf);refine And.intro (by kernel_rfl) ?_;(conv=>whnf);refine andI g16 (fun _ g16=>?_) (fun _ g16=>?_)
              · (conv=>whnf);refine gdI g16 (fun g16=>?_);(conv=>whnf);refine bldS (enc:=encInt) ([(a0.Down.getD s14.2.toNat default)]:List Int) ?_;(conv=>whnf);refine gdI g16 (fun g16=>?_);refine appS (enc:=encInt) (xs:=s14.1) (ys:=([(a0.Down.getD s14.2.toNat default)]:List Int)) ?_;(conv=>whnf);obtain rfl:=Option.some.inj g16;exact ⟨_,rfl,leX []⟩
              · (conv=>whnf);obtain rfl:=Option.some.inj g16;exact ⟨_,rfl,leX []⟩
            · (conv=>whnf);obtain rfl:=Option.some.inj g16;obtain rfl:=hy15 _ rfl;refine seq_in tOk ?_;(conv=>whnf);refine andI h (fun _ h=>?_) (fun _ h=>?_)
              · (conv=>whnf);obtain ⟨x22,hx22,h⟩:=bd_some h;obtain ⟨x23,hx23,h⟩:=bd_some h;refine drawFz [7001] ?_;(conv=>whnf);refine draw_t tOk [.e 3 [(9000,.arr 43 6 a0.Bridges.length (rows TreeBridge.enc a0.Bridges)),(9001,.arr 107 4 a0.AtA.length (rows TreeSlot.enc a0.AtA)),(9002,.arr 107 4 a0.AtB.length (rows TreeSlot.enc a0.AtB))] (.agg [.osl 6001 0 x22.Bridges.length,.d (slD TreeLink.enc x22.Links),.d (slD encInt x22.Down),.osl 6002 0 x22.AtA.length,.osl 6003 0 x22.AtB.length,.d (slD TreeWord.enc x22.Radio)]) [] [(6001,.arr 43 6 x22.Bridges.length (rows TreeBridge.enc x22.Bridges)),(6002,.arr 107 4 x22.AtA.length (rows TreeSlot.enc x22.AtA)),(6003,.arr 107 4 x22.AtB.length (rows TreeSlot.enc x22.AtB))],.e 6 [(6001,.arr 43 6 x22.Bridges.length (rows TreeBridge.enc x22.Bridges)),(6002,.arr 107 4 x22.AtA.length (rows TreeSlot.enc x22.AtA)),(6003,.arr 107 4 x22.AtB.length (rows TreeSlot.enc x22.AtB))] (.agg [.osl 7001 0 x23.Bridges.length,.d (slD TreeLink.enc x23.Links),.d (slD encInt x23.Down),.d (slD TreeSlot.enc x23.AtA),.d (slD TreeSlot.enc x23.AtB),.d (slD TreeWord.enc x23.Radio)]) [(7001,.arr 43 6 x23.Bridges.length (rows TreeBridge.enc x23.Bridges))] []] 7 [] [0,0,2,7,0,16,63] [127] [9000,9001,9002] ?_;(conv=>whnf);refine And.intro (eH [(9000,9000),(9001,9001),(9002,9002)] 1000 (spec_l83Forget_o03_04_c hx22)) ?_;(conv=>whnf);refine And.intro (eD [(9000,6001),(9001,6002),(9002,6003)] 2000 (spec_l83Forget_c hx23)) ?_;(conv=>whnf);refine And.intro (by kernel_rfl) ?_;(conv=>whnf);obtain rfl:=Option.some.inj h;exact lfE [.f [7001]]
              · (conv=>whnf);obtain rfl:=Option.some.inj h;exact lfE [.f [7001,9000,9001,9002]]
noncomputable def spec_l83Do_m (a0:TreeWorld) (a1:TreeEvent):Option (TreeWorld) :=
(if (a1.Kind == 1) = true then
 bd (spec_l83Say_m a0 a1) fun x1 =>
 some x1
else
 bd (α:=Bool) ((if (a1.Kind == 2) = true then
 some (a1.Kind == 2)
else
(if (a1.Kind == 3) = true then
 some (a1.Kind == 3)
else
 some (a1.Kind == 4)))) fun x2 =>
(if x2 = true then
 bd (spec_l83Words_m a0 a1) fun x5 =>
 some x5
else
(if (a1.Kind == 5) = true then
 bd (spec_l83Tick_m a0) fun x6 =>
 some x6
else
 bd (α:=Bool) ((if (a1.Kind == 6) = true then
 some (a1.Kind == 6)
else
 some (a1.Kind == 7))) fun x7 =>
(if x7 = true then
 bd (spec_l83Bridge_m a0 a1) fun x10 =>
 some x10
else
(if (a1.Kind == 8) = true then
(if (a1.Kind == 8) = true then
 bd (spec_l83Link_m a0 a1) fun x11 =>
 some x11
else
 some a0)
else
(if (a1.Kind == 9) = true then
 bd (spec_l83Link_m a0 a1) fun x12 =>
 some x12
else
 some a0))))))
theorem spec_l83Do_c {a0:TreeWorld} {a1:TreeEvent} {r:TreeWorld} (h:spec_l83Do_m a0 a1 = some r):EffC Try.prog 52 [.agg [.osl 9000 0 a0.Bridges.length,.d (slD TreeLink.enc a0.Links),.d (slD encInt a0.Down),.osl 9001 0 a0.AtA.length,.osl 9002 0 a0.AtB.length,.osl 9003 0 a0.Radio.length],.agg [.d (.int .i64 a1.Kind),.d (.int .i64 a1.At),.d (.int .i64 a1.End)]] [(9000,.arr 43 6 a0.Bridges.length (rows TreeBridge.enc a0.Bridges)),(9001,.arr 107 4 a0.AtA.length (rows TreeSlot.enc a0.AtA)),(9002,.arr 107 4 a0.AtB.length (rows TreeSlot.enc a0.AtB)),(9003,.arr 76 5 a0.Radio.length (rows TreeWord.enc a0.Radio))] (.agg [.d (slD TreeBridge.enc r.Bridges),.d (slD TreeLink.enc r.Links),.d (slD encInt r.Down),.d (slD TreeSlot.enc r.AtA),.d (slD TreeSlot.enc r.AtB),.d (slD TreeWord.enc r.Radio)]) []:=by
  refine effC_x tOk (fn:=Try.f52) (c:=codeOf Try.f52) rfl rfl ?_;unfold spec_l83Do_m at h;(conv=>whnf);refine seq_in tOk ?_;(conv=>whnf);refine andI h (fun _ h=>?_) (fun _ h=>?_)
  · (conv=>whnf);obtain ⟨x1,hx1,h⟩:=bd_some h;refine callFz [9000,9001,9002] ?_;(conv=>whnf);refine cE [(9000,9003)] 0 (spec_l83Say_c hx1) ?_;(conv=>whnf);obtain rfl:=Option.some.inj h;exact lfE []
  · (conv=>whnf);obtain ⟨x2,hx2,h⟩:=bd_some h;refine seq_join tOk (fun s3=>⟨0,36,[(2,.ref 2 0 0),(3,.ref 3 0 0),(4,.ref 4 0 0),(6,.d (.int .i64 a1.Kind)),(12,.d (.bool s3))],[],[(4,.box 29 [.d (.nil),.d (.nil),.d (.nil),.d (.nil),.d (.nil),.d (.nil)]),(3,.box 53 [.d (.int .i64 a1.Kind),.d (.int .i64 a1.At),.d (.int .i64 a1.End)]),(2,.box 29 [.osl 9000 0 a0.Bridges.length,.d (slD TreeLink.enc a0.Links),.d (slD encInt a0.Down),.osl 9001 0 a0.AtA.length,.osl 9002 0 a0.AtB.length,.osl 9003 0 a0.Radio.length]),(9000,.arr 43 6 a0.Bridges.length (rows TreeBridge.enc a0.Bridges)),(9001,.arr 107 4 a0.AtA.length (rows TreeSlot.enc a0.AtA)),(9002,.arr 107 4 a0.AtB.length (rows TreeSlot.enc a0.AtB)),(9003,.arr 76 5 a0.Radio.length (rows TreeWord.enc a0.Radio))],[⟨[],[]⟩]⟩) (fun s3=>x2 = s3) ?_ ?_
    · (conv=>whnf);refine andI hx2 (fun _ hx2=>?_) (fun _ hx2=>?_)
      · (conv=>whnf);obtain rfl:=Option.some.inj hx2;exact ⟨_,rfl,leX []⟩
      · (conv=>whnf);refine andI hx2 (fun _ hx2=>?_) (fun _ hx2=>?_)
        · (conv=>whnf);obtain rfl:=Option.some.inj hx2;exact ⟨_,rfl,leX []⟩
        · (conv=>whnf);obtain rfl:=Option.some.inj hx2;exact ⟨_,rfl,leX []⟩
    · rintro _ rfl;(conv=>whnf);refine andI h (fun _ h=>?_) (fun _ h=>?_)
      · (conv=>whnf);obtain ⟨x5,hx5,h⟩:=bd_some h;refine cE [(9000,9000),(9001,9001),(9002,9002),(9003,9003)] 0 (spec_l83Words_c hx5) ?_;(conv=>whnf);obtain rfl:=Option.some.inj h;exact lfE []
      · (conv=>whnf);refine andI h (fun _ h=>?_) (fun _ h=>?_)
        · (conv=>whnf);obtain ⟨x6,hx6,h⟩:=bd_some h;refine callFz [9003] ?_;(conv=>whnf);refine cE [(9000,9000),(9001,9001),(9002,9002)] 1000 (spec_l83Tick_c hx6) ?_;(conv=>whnf);obtain rfl:=Option.some.inj h;exact lfE [.f [6001]]
        · (conv=>whnf);obtain ⟨x7,hx7,h⟩:=bd_some h;refine seq_join tOk (fun s8=>⟨0,36,[(2,.ref 2 0 0),(3,.ref 3 0 0),(4,.ref 4 0 0),(6,.d (.int .i64 a1.Kind)),(23,.d (.bool s8))],[],[(4,.box 29 [.d (.nil),.d (.nil),.d (.nil),.d (.nil),.d (.nil),.d (.nil)]),(3,.box 53 [.d (.int .i64 a1.Kind),.d (.int .i64 a1.At),.d (.int .i64 a1.End)]),(2,.box 29 [.osl 9000 0 a0.Bridges.length,.d (slD TreeLink.enc a0.Links),.d (slD encInt a0.Down),.osl 9001 0 a0.AtA.length,.osl 9002 0 a0.AtB.length,.osl 9003 0 a0.Radio.length]),(9000,.arr 43 6 a0.Bridges.length (rows TreeBridge.enc a0.Bridges)),(9001,.arr 107 4 a0.AtA.length (rows TreeSlot.enc a0.AtA)),(9002,.arr 107 4 a0.AtB.length (rows TreeSlot.enc a0.AtB)),(9003,.arr 76 5 a0.Radio.length (rows TreeWord.enc a0.Radio))],[⟨[],[]⟩]⟩) (fun s8=>x7 = s8) ?_ ?_
          · (conv=>whnf);refine andI hx7 (fun _ hx7=>?_) (fun _ hx7=>?_)
            · (conv=>whnf);obtain rfl:=Option.some.inj hx7;exact ⟨_,rfl,leX []⟩
            · (conv=>whnf);obtain rfl:=Option.some.inj hx7;exact ⟨_,rfl,leX []⟩
          · rintro _ rfl;(conv=>whnf);refine andI h (fun _ h=>?_) (fun _ h=>?_)
            · (conv=>whnf);obtain ⟨x10,hx10,h⟩:=bd_some h;refine callFz [9003] ?_;(conv=>whnf);refine cE [(9000,9000),(9001,9001),(9002,9002)] 0 (spec_l83Bridge_c hx10) ?_;(conv=>whnf);obtain rfl:=Option.some.inj h;exact lfE []
            · (conv=>whnf);refine seq_in tOk ?_;(conv=>whnf);refine andI h (fun _ h=>?_) (fun _ h=>?_)
              · (conv=>whnf);refine andI h (fun _ h=>?_) (fun _ h=>?_)
                · (conv=>whnf);obtain ⟨x11,hx11,h⟩:=bd_some h;refine callFz [9003] ?_;(conv=>whnf);refine cE [(9000,9000),(9001,9001),(9002,9002)] 0 (spec_l83Link_c hx11) ?_;(conv=>whnf);obtain rfl:=Option.some.inj h;exact lfE []
                · (conv=>whnf);obtain rfl:=Option.some.inj h;exact lfE [.f [9000,9001,9002,9003]]
              · (conv=>whnf);refine andI h (fun _ h=>?_) (fun _ h=>?_)
                · (conv=>whnf);obtain ⟨x12,hx12,h⟩:=bd_some h;refine callFz [9003] ?_;(conv=>whnf);refine cE [(9000,9000),(9001,9001),(9002,9002)] 0 (spec_l83Link_c hx12) ?_;(conv=>whnf);obtain rfl:=Option.some.inj h;exact lfE []
                · (conv=>whnf);obtain rfl:=Option.some.inj h;exact lfE [.f [9000,9001,9002,9003]]
noncomputable def spec_l82Copy_o01f_02f_m (a0:TreeWorld):Option (TreeWorld) :=
 gd (((0)+(a0.Bridges.length)) * (48+1)≤70368744177664) <|
 gd (((0)+(a0.Links.length)) * (24+1)≤70368744177664) <|
 gd (((0)+(a0.Down.length)) * (8+1)≤70368744177664) <|
 gd (((0)+(a0.AtA.length)) * (32+1)≤70368744177664) <|
 gd (((0)+(a0.AtB.length)) * (32+1)≤70368744177664) <|
 gd (((0)+(a0.Radio.length)) * (40+1)≤70368744177664) <|
 some a0
theorem spec_l82Copy_o01f_02f_c {a0:TreeWorld} {r:TreeWorld} (h:spec_l82Copy_o01f_02f_m a0 = some r):EffC Try.prog 51 [.agg [.d (slD TreeBridge.enc a0.Bridges),.d (slD TreeLink.enc a0.Links),.d (slD encInt a0.Down),.d (slD TreeSlot.enc a0.AtA),.d (slD TreeSlot.enc a0.AtB),.d (slD TreeWord.enc a0.Radio)]] [] (.agg [.osl 5001 0 r.Bridges.length,.d (slD TreeLink.enc r.Links),.d (slD encInt r.Down),.osl 5002 0 r.AtA.length,.osl 5003 0 r.AtB.length,.osl 5004 0 r.Radio.length]) [(5001,.arr 43 6 r.Bridges.length (rows TreeBridge.enc r.Bridges)),(5002,.arr 107 4 r.AtA.length (rows TreeSlot.enc r.AtA)),(5003,.arr 107 4 r.AtB.length (rows TreeSlot.enc r.AtB)),(5004,.arr 76 5 r.Radio.length (rows TreeWord.enc r.Radio))]:=by
  refine effC_x tOk (fn:=Try.f51) (c:=codeOf Try.f51) rfl rfl ?_;unfold spec_l82Copy_o01f_02f_m at h;(conv=>whnf);obtain ⟨g1,h⟩:=gd_some h;obtain ⟨g2,h⟩:=gd_some h;obtain ⟨g3,h⟩:=gd_some h;obtain ⟨g4,h⟩:=gd_some h;obtain ⟨g5,h⟩:=gd_some h;obtain ⟨g6,h⟩:=gd_some h;refine draw_u tOk [] 25 [] [0,0,2,7,0,0,32,127,0,0,512,2047,0,0,8192,32767,0,0,131072,524287,0,0,2097152,8388607,16777215] [33554431] ?_;(conv=>whnf);refine And.intro g1 ?_;clear g1;refine appN (enc:=TreeBridge.enc) (ys:=a0.Bridges) ?_;(conv=>whnf);refine And.intro g2 ?_;clear g2;refine appN (enc:=TreeLink.enc) (ys:=a0.Links) ?_;(conv=>whnf);refine And.intro g3 ?_;clear g3;refine appN (enc:=encInt) (ys:=a0.Down) ?_;(conv=>whnf);refine And.intro g4 ?_;clear g4;refine appN (enc:=TreeSlot.enc) (ys:=a0.AtA) ?_;(conv=>whnf);refine And.intro g5 ?_;clear g5;refine appN (enc:=TreeSlot.enc) (ys:=a0.AtB) ?_;(conv=>whnf);refine And.intro g6 ?_;clear g6;refine appN (enc:=TreeWord.enc) (ys:=a0.Radio) ?_;(conv=>whnf);refine And.intro (by kernel_rfl) ?_;(conv=>whnf);obtain rfl:=Option.some.inj h;exact lfE [.f [10,14],.s [(6,5001),(18,5002),(22,5003),(26,5004),(5001,6),(5002,18),(5003,22),(5004,26)]]
noncomputable def spec_TreeStep_m (a0:TreeWorld) (a1:TreeEvent):Option (TreeWorld) :=
 bd (spec_TreeWorldOk_m a0) fun x1 =>
(if (!x1) = true then
 some (⟨[],[],[],[],[],[]⟩:TreeWorld)
else
 bd (spec_l82Copy_o01f_02f_m a0) fun x2 =>
 bd (spec_l83Do_m x2 a1) fun x3 =>
 bd (spec_l82Copy_m x3) fun x4 =>
 some x4)
theorem spec_TreeStep_c {a0:TreeWorld} {a1:TreeEvent} {r:TreeWorld} (h:spec_TreeStep_m a0 a1 = some r):PureC Try.prog 21 [.agg [.d (slD TreeBridge.enc a0.Bridges),.d (slD TreeLink.enc a0.Links),.d (slD encInt a0.Down),.d (slD TreeSlot.enc a0.AtA),.d (slD TreeSlot.enc a0.AtB),.d (slD TreeWord.enc a0.Radio)],.agg [.d (.int .i64 a1.Kind),.d (.int .i64 a1.At),.d (.int .i64 a1.End)]] (.agg [.osl 5001 0 r.Bridges.length,.osl 5002 0 r.Links.length,.osl 5003 0 r.Down.length,.osl 5004 0 r.AtA.length,.osl 5005 0 r.AtB.length,.osl 5006 0 r.Radio.length]) [⟨5001,43,6,r.Bridges.length,rows TreeBridge.enc r.Bridges⟩,⟨5002,46,3,r.Links.length,rows TreeLink.enc r.Links⟩,⟨5003,3,1,r.Down.length,rows encInt r.Down⟩,⟨5004,107,4,r.AtA.length,rows TreeSlot.enc r.AtA⟩,⟨5005,107,4,r.AtB.length,rows TreeSlot.enc r.AtB⟩,⟨5006,76,5,r.Radio.length,rows TreeWord.enc r.Radio⟩]:=by
  refine pureC_x tOk (fn:=Try.f21) (c:=codeOf Try.f21) rfl rfl ?_;unfold spec_TreeStep_m at h;(conv=>whnf);refine seq_in tOk ?_;(conv=>whnf);obtain ⟨x1,hx1,h⟩:=bd_some h;refine cC 0 (spec_TreeWorldOk_c hx1) ?_;clear hx1;(conv=>whnf);refine andI h (fun _ h=>?_) (fun _ h=>?_)
  · (conv=>whnf);obtain rfl:=Option.some.inj h;exact lfP [.k [2,3],.p 5001 43 6 (rows TreeBridge.enc ([]:List TreeBridge)),.p 5002 46 3 (rows TreeLink.enc ([]:List TreeLink)),.p 5003 3 1 (rows encInt ([]:List Int)),.p 5004 107 4 (rows TreeSlot.enc ([]:List TreeSlot)),.p 5005 107 4 (rows TreeSlot.enc ([]:List TreeSlot)),.p 5006 76 5 (rows TreeWord.enc ([]:List TreeWord))]
  · (conv=>whnf);obtain ⟨x2,hx2,h⟩:=bd_some h;obtain ⟨x3,hx3,h⟩:=bd_some h;obtain ⟨x4,hx4,h⟩:=bd_some h;refine draw_t tOk [.e 1 [] (.agg [.osl 6001 0 x2.Bridges.length,.d (slD TreeLink.enc x2.Links),.d (slD encInt x2.Down),.osl 6002 0 x2.AtA.length,.osl 6003 0 x2.AtB.length,.osl 6004 0 x2.Radio.length]) [] [(6001,.arr 43 6 x2.Bridges.length (rows TreeBridge.enc x2.Bridges)),(6002,.arr 107 4 x2.AtA.length (rows TreeSlot.enc x2.AtA)),(6003,.arr 107 4 x2.AtB.length (rows TreeSlot.enc x2.AtB)),(6004,.arr 76 5 x2.Radio.length (rows TreeWord.enc x2.Radio))],.e 3 [(6001,.arr 43 6 x2.Bridges.length (rows TreeBridge.enc x2.Bridges)),(6002,.arr 107 4 x2.AtA.length (rows TreeSlot.enc x2.AtA)),(6003,.arr 107 4 x2.AtB.length (rows TreeSlot.enc x2.AtB)),(6004,.arr 76 5 x2.Radio.length (rows TreeWord.enc x2.Radio))] (.agg [.d (slD TreeBridge.enc x3.Bridges),.d (slD TreeLink.enc x3.Links),.d (slD encInt x3.Down),.d (slD TreeSlot.enc x3.AtA),.d (slD TreeSlot.enc x3.AtB),.d (slD TreeWord.enc x3.Radio)]) [] [],.u 4 2000 (.agg [.osl 5001 0 x4.Bridges.length,.osl 5002 0 x4.Links.length,.osl 5003 0 x4.Down.length,.osl 5004 0 x4.AtA.length,.osl 5005 0 x4.AtB.length,.osl 5006 0 x4.Radio.length]) [⟨5001,43,6,x4.Bridges.length,rows TreeBridge.enc x4.Bridges⟩,⟨5002,46,3,x4.Links.length,rows TreeLink.enc x4.Links⟩,⟨5003,3,1,x4.Down.length,rows encInt x4.Down⟩,⟨5004,107,4,x4.AtA.length,rows TreeSlot.enc x4.AtA⟩,⟨5005,107,4,x4.AtB.length,rows TreeSlot.enc x4.AtB⟩,⟨5006,76,5,x4.Radio.length,rows TreeWord.enc x4.Radio⟩]] 5 [] [0,1,0,7,15] [31] [] ?_;(conv=>whnf);refine And.intro (eH [] 1000 (spec_l82Copy_o01f_02f_c hx2)) ?_;(conv=>whnf);refine And.intro (eD [(9000,6001),(9001,6002),(9002,6003),(9003,6004)] 0 (spec_l83Do_c hx3)) ?_;(conv=>whnf);refine And.intro (callD_any (spec_l82Copy_c hx4) (by kernel_rfl)) ?_;(conv=>whnf);refine And.intro (by kernel_rfl) ?_;(conv=>whnf);obtain rfl:=Option.some.inj h;exact lfP [.s [(5001,7001),(5002,7002),(5003,7003),(5004,7004),(5005,7005),(5006,7006),(7001,5001),(7002,5002),(7003,5003),(7004,5004),(7005,5005),(7006,5006)]]
noncomputable def spec_DrawTreeEvents_m (a0:(List Int)):Option (TreeWorld × (List TreeEvent)) :=
 bd (spec_l81Open_m a0) fun x1 =>
 bd (spec_l85Start_m x1) fun x2 =>
 bd (spec_l81Rd_pick_m (⟨x1.b,x2.2.p⟩:l81Rd) 40) fun x3 =>
 bd (lp (σ:=List TreeEvent × List TreeBridge × List TreeLink × List Int × List TreeSlot × List TreeSlot × List TreeWord × Int × Int) (β:=(Nat × (List TreeEvent))) (fun s4 =>
(if (decide (s4.2.2.2.2.2.2.2.2 > 0)) = true then
 bd (spec_l85Event_m (⟨x1.b,s4.2.2.2.2.2.2.2.1⟩:l81Rd) (⟨s4.2.1,s4.2.2.1,s4.2.2.2.1,s4.2.2.2.2.1,s4.2.2.2.2.2.1,s4.2.2.2.2.2.2.1⟩:TreeWorld)) fun x8 =>
 bd (spec_TreeStep_m (⟨s4.2.1,s4.2.2.1,s4.2.2.2.1,s4.2.2.2.2.1,s4.2.2.2.2.2.1,s4.2.2.2.2.2.2.1⟩:TreeWorld) x8.1) fun x9 =>
 gd (((s4.1.length)+(([x8.1]:List TreeEvent).length)) * (24+1)≤70368744177664) <|
 some (.inl ((s4.1 ++ ([x8.1]:List TreeEvent)),x9.Bridges,x9.Links,x9.Down,x9.AtA,x9.AtB,x9.Radio,x8.2.p,IntKind.i64.wrap (s4.2.2.2.2.2.2.2.2 - 1)))
else
 some (.inr (s4.1.length,s4.1)))) (([]:List TreeEvent),x2.1.Bridges,x2.1.Links,x2.1.Down,x2.1.AtA,x2.1.AtB,x2.1.Radio,x3.2.p,IntKind.i64.wrap (4+x3.1))) fun x7 =>
 some (x2.1,x7.2)
theorem spec_DrawTreeEvents_c {a0:(List Int)} {r:TreeWorld × (List TreeEvent)} (h:spec_DrawTreeEvents_m a0 = some r):EffC Try.prog 18 [.d (slD encByte a0)] [] (.tup [.agg [.d (slD TreeBridge.enc r.1.Bridges),.d (slD TreeLink.enc r.1.Links),.d (slD encInt r.1.Down),.d (slD TreeSlot.enc r.1.AtA),.d (slD TreeSlot.enc r.1.AtB),.d (slD TreeWord.enc r.1.Radio)],.osl 5001 0 r.2.length]) [(5001,.arr 53 3 r.2.length (rows TreeEvent.enc r.2))]:=by
  refine effC_x tOk (fn:=Try.f18) (c:=codeOf Try.f18) rfl rfl ?_;unfold spec_DrawTreeEvents_m at h;(conv=>whnf);obtain ⟨x1,hx1,h⟩:=bd_some h;refine cE [] 1000 (spec_l81Open_c hx1) ?_;(conv=>whnf);obtain ⟨x2,hx2,h⟩:=bd_some h;refine cE [(9000,6001)] 2000 (spec_l85Start_c hx2) ?_;(conv=>whnf);refine seq_in tOk ?_;(conv=>whnf);obtain ⟨x3,hx3,h⟩:=bd_some h;refine cE [(9000,6001)] 0 (spec_l81Rd_pick_c hx3) ?_;(conv=>whnf);obtain ⟨x7,hx7,h⟩:=bd_some h;refine loop_m tOk hx7 (fun s4=>⟨0,35,[(2,.ref 2 0 0),(4,.ref 6001 0 0),(5,.ref 5 0 0),(6,.ref 6 0 0),(7,.osl 7001 0 s4.1.length),(8,.d (.int .i64 s4.2.2.2.2.2.2.2.2))],[],[(7001,.arr 53 3 s4.1.length (rows TreeEvent.enc s4.1)),(6,.box 29 [.d (slD TreeBridge.enc s4.2.1),.d (slD TreeLink.enc s4.2.2.1),.d (slD encInt s4.2.2.2.1),.d (slD TreeSlot.enc s4.2.2.2.2.1),.d (slD TreeSlot.enc s4.2.2.2.2.2.1),.d (slD TreeWord.enc s4.2.2.2.2.2.2.1)]),(5,.box 29 [.d (slD TreeBridge.enc x2.1.Bridges),.d (slD TreeLink.enc x2.1.Links),.d (slD encInt x2.1.Down),.d (slD TreeSlot.enc x2.1.AtA),.d (slD TreeSlot.enc x2.1.AtB),.d (slD TreeWord.enc x2.1.Radio)]),(6001,.box 97 [.d (slD encByte x1.b),.d (.int .i64 s4.2.2.2.2.2.2.2.1)]),(2,.box 29 [.d (.nil),.d (.nil),.d (.nil),.d (.nil),.d (.nil),.d (.nil)])],[⟨[],[]⟩]⟩) ?_ ?_
  · exact leX [.f [7001,7002,7003,7004,7005,7006],.p 7001 53 3 (rows TreeEvent.enc ([]:List TreeEvent))]
  · clear hx7;intro s4 y5 g6 hy5;(conv=>whnf);refine seq_in tOk ?_;(conv=>whnf);refine andI g6 (fun _ g6=>?_) (fun _ g6=>?_)
    · (conv=>whnf);refine seq_in tOk ?_;(conv=>whnf);obtain ⟨x8,hx8,g6⟩:=bd_some g6;refine cE [(9000,6001)] 0 (spec_l85Event_c hx8) ?_;(conv=>whnf);obtain ⟨x9,hx9,g6⟩:=bd_some g6;refine cC 3000 (spec_TreeStep_c hx9) ?_;clear hx9;(conv=>whnf);refine bldS (enc:=TreeEvent.enc) ([x8.1]:List TreeEvent) ?_;(conv=>whnf);refine gdI g6 (fun g6=>?_);refine appS (enc:=TreeEvent.enc) (xs:=s4.1) (ys:=([x8.1]:List TreeEvent)) ?_;(conv=>whnf);obtain rfl:=Option.some.inj g6;exact ⟨_,rfl,leX [.f [8001,8002,8003,8004,8005,8006]]⟩
    · (conv=>whnf);obtain rfl:=Option.some.inj g6;obtain rfl:=hy5 _ rfl;obtain rfl:=Option.some.inj h;exact lfE [.s [(5001,7001),(7001,5001)]]
noncomputable def impl_within_m (a0:Int) (a1:Int) (a2:Int):Option (Bool) :=
 some ((decide (a1≤a0)) && (decide (a0≤a2)))
theorem impl_within_c {a0:Int} {a1:Int} {a2:Int} {r:Bool} (h:impl_within_m a0 a1 a2 = some r):PureC Try.prog 59 [.d (.int .i64 a0),.d (.int .i64 a1),.d (.int .i64 a2)] (.d (.bool r)) []:=by
  refine pureC_x tOk (fn:=Try.f59) (c:=codeOf Try.f59) rfl rfl ?_;unfold impl_within_m at h;(conv=>whnf);obtain rfl:=Option.some.inj h;exact lfP []
noncomputable def impl_TreeLinksOk_m (a0:Int) (a1:(List TreeLink)):Option (Bool) :=
 bd (lp (σ:=Int) (β:=(Unit ⊕ Unit)) (fun s1 =>
(if (decide (s1<((a1.length:Nat):Int))) = true then
 gd ((0:Int)≤s1∧s1<((a1.length:Nat):Int)) <|
 bd (gcall ((((decide (((a1.getD s1.toNat default).A)<0)) || (decide (((a1.getD s1.toNat default).A) ≥ ((a1.getD s1.toNat default).B)))) || (decide (((a1.getD s1.toNat default).B) ≥ a0))) = false) (impl_within_m ((a1.getD s1.toNat default).Cost) 1 50)) fun x6 =>
(if ((((decide (((a1.getD s1.toNat default).A)<0)) || (decide (((a1.getD s1.toNat default).A) ≥ ((a1.getD s1.toNat default).B)))) || (decide (((a1.getD s1.toNat default).B) ≥ a0))) || (!x6)) = true then
 some (.inr (.inl ()))
else
 some (.inl (IntKind.i64.wrap (s1+1))))
else
 some (.inr (.inr ())))) 0) fun x4 =>
(match x4 with
| .inl d7 =>
 some false
| .inr d8 =>
 bd (impl_within_m a0 1 8) fun x9 =>
 some (x9 && (decide (((a1.length:Nat):Int)≤12))))
theorem impl_TreeLinksOk_c {a0:Int} {a1:(List TreeLink)} {r:Bool} (h:impl_TreeLinksOk_m a0 a1 = some r):PureC Try.prog 53 [.d (.int .i64 a0),.d (slD TreeLink.enc a1)] (.d (.bool r)) []:=by
  refine pureC_x tOk (fn:=Try.f53) (c:=codeOf Try.f53) rfl rfl ?_;unfold impl_TreeLinksOk_m at h;(conv=>whnf);refine seq_in tOk ?_;(conv=>whnf);obtain ⟨x4,hx4,h⟩:=bd_some h;refine loop_m tOk hx4 (fun s1=>⟨0,43,[(0,.d (.int .i64 a0)),(1,.d (slD TreeLink.enc a1)),(7,.d (slD TreeLink.enc a1)),(8,.d (.int .i64 ((a1.length:Nat):Int))),(9,.d (.int .i64 s1))],[],[],[]⟩) ?_ ?_
  · exact leX []
  · clear hx4;intro s1 y2 g3 hy2;(conv=>whnf);refine seq_in tOk ?_;(conv=>whnf);refine andI g3 (fun _ g3=>?_) (fun _ g3=>?_)
    · (conv=>whnf);refine seq_in tOk ?_;(conv=>whnf);refine gdI g3 (fun g3=>?_);(conv=>whnf);obtain ⟨x6,hx6,g3⟩:=bd_some g3;refine callG_m rfl rfl rfl rfl rfl rfl (by intro c0; exact impl_within_c (gcall_some hx6 c0)) ?_;(conv=>whnf);refine andI g3 (fun _ g3=>?_) (fun _ g3=>?_)
      · (conv=>whnf);obtain rfl:=Option.some.inj g3;obtain rfl:=hy2 _ rfl;obtain rfl:=Option.some.inj h;exact lfP []
      · (conv=>whnf);obtain rfl:=Option.some.inj g3;exact ⟨_,rfl,leX []⟩
    · (conv=>whnf);obtain rfl:=Option.some.inj g3;obtain rfl:=hy2 _ rfl;obtain ⟨x9,hx9,h⟩:=bd_some h;refine cC 0 (impl_within_c hx9) ?_;clear hx9;(conv=>whnf);obtain rfl:=Option.some.inj h;exact lfP []
noncomputable def impl_TreeWorld_bridgesOk_1_m (a0:TreeBridge) (a1:TreeBridge):Option (Bool) :=
 some (a0.Id == a1.Id)
theorem impl_TreeWorld_bridgesOk_1_c {a0:TreeBridge} {a1:TreeBridge} {r:Bool} (h:impl_TreeWorld_bridgesOk_1_m a0 a1 = some r):PureC Try.prog 105 [.agg [.d (.int .i64 a0.Id),.d (.bool a0.Up),.d (.int .i64 a0.Mind.Vector.Root),.d (.int .i64 a0.Mind.Vector.Cost),.d (.int .i64 a0.Mind.Vector.Age),.d (.int .i64 a0.Mind.Link)],.rp [.int .i64 a1.Id,.bool a1.Up,.int .i64 a1.Mind.Vector.Root,.int .i64 a1.Mind.Vector.Cost,.int .i64 a1.Mind.Vector.Age,.int .i64 a1.Mind.Link]] (.d (.bool r)) []:=by
  refine pureC_x tOk (fn:=Try.f105) (c:=codeOf Try.f105) rfl rfl ?_;unfold impl_TreeWorld_bridgesOk_1_m at h;(conv=>whnf);obtain rfl:=Option.some.inj h;exact lfP []
noncomputable def slices_IndexFunc_TreeBridge_TreeBridge_impl_TreeWorld_bridgesOk_1_m (a0:(List TreeBridge)) (a1c0:TreeBridge):Option (Int) :=
 bd (lp (σ:=Int) (β:=(Int ⊕ Unit)) (fun s1 =>
(if (decide (s1<((a0.length:Nat):Int))) = true then
 gd ((0:Int)≤s1∧s1<((a0.length:Nat):Int)) <|
 bd (impl_TreeWorld_bridgesOk_1_m ({ (a0.getD s1.toNat default) with Mind:=(⟨(((a0.getD s1.toNat default).Mind).Vector),((a0.getD s1.toNat default).Mind).Link⟩:TreeMind) }) a1c0) fun x6 =>
(if x6 = true then
 some (.inr (.inl s1))
else
 some (.inl (IntKind.i64.wrap (s1+1))))
else
 some (.inr (.inr ())))) 0) fun x4 =>
(match x4 with
| .inl d7 =>
 some d7
| .inr d8 =>
 some (-1))
theorem slices_IndexFunc_TreeBridge_TreeBridge_impl_TreeWorld_bridgesOk_1_c {a0:(List TreeBridge)} {a1c0:TreeBridge} {r:Int} (h:slices_IndexFunc_TreeBridge_TreeBridge_impl_TreeWorld_bridgesOk_1_m a0 a1c0 = some r):PureC Try.prog 133 [.d (slD TreeBridge.enc a0),.fn 105 [.rp [.int .i64 a1c0.Id,.bool a1c0.Up,.int .i64 a1c0.Mind.Vector.Root,.int .i64 a1c0.Mind.Vector.Cost,.int .i64 a1c0.Mind.Vector.Age,.int .i64 a1c0.Mind.Link]]] (.d (.int .i64 r)) []:=by
  refine pureC_x tOk (fn:=Try.f133) (c:=codeOf Try.f133) rfl rfl ?_;unfold slices_IndexFunc_TreeBridge_TreeBridge_impl_TreeWorld_bridgesOk_1_m at h;(conv=>whnf);refine seq_in tOk ?_;(conv=>whnf);obtain ⟨x4,hx4,h⟩:=bd_some h;refine loop_m tOk hx4 (fun s1=>⟨0,19,[(0,.d (slD TreeBridge.enc a0)),(1,.fn 105 [.rp [.int .i64 a1c0.Id,.bool a1c0.Up,.int .i64 a1c0.Mind.Vector.Root,.int .i64 a1c0.Mind.Vector.Cost,.int .i64 a1c0.Mind.Vector.Age,.int .i64 a1c0.Mind.Link]]),(7,.d (.int .i64 ((a0.length:Nat):Int))),(8,.d (.int .i64 s1))],[],[],[]⟩) ?_ ?_
  · exact leX []
  · clear hx4;intro s1 y2 g3 hy2;(conv=>whnf);refine seq_in tOk ?_;(conv=>whnf);refine andI g3 (fun _ g3=>?_) (fun _ g3=>?_)
    · (conv=>whnf);refine seq_in tOk ?_;(conv=>whnf);refine gdI g3 (fun g3=>?_);(conv=>whnf);obtain ⟨x6,hx6,g3⟩:=bd_some g3;refine cC 0 (impl_TreeWorld_bridgesOk_1_c hx6) ?_;clear hx6;(conv=>whnf);refine andI g3 (fun _ g3=>?_) (fun _ g3=>?_)
      · (conv=>whnf);obtain rfl:=Option.some.inj g3;obtain rfl:=hy2 _ rfl;obtain rfl:=Option.some.inj h;exact lfP []
      · (conv=>whnf);obtain rfl:=Option.some.inj g3;exact ⟨_,rfl,leX []⟩
    · (conv=>whnf);obtain rfl:=Option.some.inj g3;obtain rfl:=hy2 _ rfl;obtain rfl:=Option.some.inj h;exact lfP []
noncomputable def slices_ContainsFunc_TreeBridge_TreeBridge_impl_TreeWorld_bridgesOk_1_m (a0:(List TreeBridge)) (a1c0:TreeBridge):Option (Bool) :=
 bd (slices_IndexFunc_TreeBridge_TreeBridge_impl_TreeWorld_bridgesOk_1_m a0 a1c0) fun x1 =>
 some (decide (x1 ≥ 0))
theorem slices_ContainsFunc_TreeBridge_TreeBridge_impl_TreeWorld_bridgesOk_1_c {a0:(List TreeBridge)} {a1c0:TreeBridge} {r:Bool} (h:slices_ContainsFunc_TreeBridge_TreeBridge_impl_TreeWorld_bridgesOk_1_m a0 a1c0 = some r):PureC Try.prog 104 [.d (slD TreeBridge.enc a0),.fn 105 [.rp [.int .i64 a1c0.Id,.bool a1c0.Up,.int .i64 a1c0.Mind.Vector.Root,.int .i64 a1c0.Mind.Vector.Cost,.int .i64 a1c0.Mind.Vector.Age,.int .i64 a1c0.Mind.Link]]] (.d (.bool r)) []:=by
  refine pureC_x tOk (fn:=Try.f104) (c:=codeOf Try.f104) rfl rfl ?_;unfold slices_ContainsFunc_TreeBridge_TreeBridge_impl_TreeWorld_bridgesOk_1_m at h;(conv=>whnf);obtain ⟨x1,hx1,h⟩:=bd_some h;refine cC 0 (slices_IndexFunc_TreeBridge_TreeBridge_impl_TreeWorld_bridgesOk_1_c hx1) ?_;clear hx1;(conv=>whnf);obtain rfl:=Option.some.inj h;exact lfP []
noncomputable def impl_TreeVector_nothing_m (a0:TreeVector):Option (Bool) :=
 some ((a0.Root == 0) && ((a0.Cost == 0) && ((a0.Age == 0) && true)))
theorem impl_TreeVector_nothing_c {a0:TreeVector} {r:Bool} (h:impl_TreeVector_nothing_m a0 = some r):PureC Try.prog 61 [.agg [.d (.int .i64 a0.Root),.d (.int .i64 a0.Cost),.d (.int .i64 a0.Age)]] (.d (.bool r)) []:=by
  refine pureC_x tOk (fn:=Try.f61) (c:=codeOf Try.f61) rfl rfl ?_;unfold impl_TreeVector_nothing_m at h;(conv=>whnf);obtain rfl:=Option.some.inj h;exact lfP []
noncomputable def impl_TreeVectorOk_m (a0:TreeVector):Option (Bool) :=
 bd (impl_TreeVector_nothing_m a0) fun x1 =>
 bd (gcall (x1 = false) (impl_within_m a0.Root 1 1000)) fun x2 =>
 bd (gcall (x2 = true∧x1 = false) (impl_within_m a0.Cost 0 1000)) fun x3 =>
 bd (gcall ((x2 && x3) = true∧x1 = false) (impl_within_m a0.Age 0 10)) fun x4 =>
 some (x1 || ((x2 && x3) && x4))
theorem impl_TreeVectorOk_c {a0:TreeVector} {r:Bool} (h:impl_TreeVectorOk_m a0 = some r):PureC Try.prog 60 [.agg [.d (.int .i64 a0.Root),.d (.int .i64 a0.Cost),.d (.int .i64 a0.Age)]] (.d (.bool r)) []:=by
  refine pureC_x tOk (fn:=Try.f60) (c:=codeOf Try.f60) rfl rfl ?_;unfold impl_TreeVectorOk_m at h;(conv=>whnf);obtain ⟨x1,hx1,h⟩:=bd_some h;refine cC 0 (impl_TreeVector_nothing_c hx1) ?_;clear hx1;(conv=>whnf);obtain ⟨x2,hx2,h⟩:=bd_some h;refine callG_m rfl rfl rfl rfl rfl rfl (by intro c0; exact impl_within_c (gcall_some hx2 c0)) ?_;(conv=>whnf);obtain ⟨x3,hx3,h⟩:=bd_some h;refine callG_m rfl rfl rfl rfl rfl rfl (by intro c0 c1; exact impl_within_c (gcall_some hx3 ⟨c0,c1⟩)) ?_;(conv=>whnf);obtain ⟨x4,hx4,h⟩:=bd_some h;refine callG_m rfl rfl rfl rfl rfl rfl (by intro c0 c1; exact impl_within_c (gcall_some hx4 ⟨c0,c1⟩)) ?_;(conv=>whnf);obtain rfl:=Option.some.inj h;exact lfP []
noncomputable def impl_TreeWorld_bridgesOk_m (a0:TreeWorld):Option (Bool) :=
 bd (lp (σ:=Int) (β:=(Unit ⊕ Unit)) (fun s1 =>
(if (decide (s1<((a0.Bridges.length:Nat):Int))) = true then
 gd ((0:Int)≤s1∧s1<((a0.Bridges.length:Nat):Int)) <|
 bd (impl_within_m ((a0.Bridges.getD s1.toNat default).Id) 1 1000) fun x6 =>
 gd ((!x6) = false → ((0:Int)≤(0:Int)∧(0:Int)≤s1∧s1≤((a0.Bridges.length:Nat):Int))) <|
 bd (gcall ((!x6) = false) (slices_ContainsFunc_TreeBridge_TreeBridge_impl_TreeWorld_bridgesOk_1_m (a0.Bridges.take s1.toNat) ({ (a0.Bridges.getD s1.toNat default) with Mind:=(⟨(((a0.Bridges.getD s1.toNat default).Mind).Vector),((a0.Bridges.getD s1.toNat default).Mind).Link⟩:TreeMind) }))) fun x8 =>
(if ((!x6) || x8) = true then
 some (.inr (.inl ()))
else
 bd (gcall ((a0.Bridges.getD s1.toNat default).Up = true) (impl_TreeVectorOk_m (((a0.Bridges.getD s1.toNat default).Mind).Vector))) fun x9 =>
 bd (gcall ((!x9) = false∧(a0.Bridges.getD s1.toNat default).Up = true) (impl_TreeVector_nothing_m (((a0.Bridges.getD s1.toNat default).Mind).Vector))) fun x10 =>
 bd (gcall (((!x9) || x10) = false∧(a0.Bridges.getD s1.toNat default).Up = true) (impl_within_m (((a0.Bridges.getD s1.toNat default).Mind).Link) (-1) (IntKind.i64.wrap (((a0.Links.length:Nat):Int) - 1)))) fun x11 =>
(if (((a0.Bridges.getD s1.toNat default).Up && (((!x9) || x10) || (!x11))) || ((!((a0.Bridges.getD s1.toNat default).Up)) && (!(((((((a0.Bridges.getD s1.toNat default).Mind).Vector).Root) == 0) && ((((((a0.Bridges.getD s1.toNat default).Mind).Vector).Cost) == 0) && ((((((a0.Bridges.getD s1.toNat default).Mind).Vector).Age) == 0) && true))) && (((((a0.Bridges.getD s1.toNat default).Mind).Link) == 0) && true))))) = true then
 some (.inr (.inl ()))
else
 some (.inl (IntKind.i64.wrap (s1+1)))))
else
 some (.inr (.inr ())))) 0) fun x4 =>
(match x4 with
| .inl d12 =>
 some false
| .inr d13 =>
 some true)
theorem impl_TreeWorld_bridgesOk_c {a0:TreeWorld} {r:Bool} (h:impl_TreeWorld_bridgesOk_m a0 = some r):PureC Try.prog 54 [.rp [slD TreeBridge.enc a0.Bridges,slD TreeLink.enc a0.Links,slD encInt a0.Down,slD TreeSlot.enc a0.AtA,slD TreeSlot.enc a0.AtB,slD TreeWord.enc a0.Radio]] (.d (.bool r)) []:=by
  refine pureC_x tOk (fn:=Try.f54) (c:=codeOf Try.f54) rfl rfl ?_;unfold impl_TreeWorld_bridgesOk_m at h;(conv=>whnf);refine seq_in tOk ?_;(conv=>whnf);obtain ⟨x4,hx4,h⟩:=bd_some h;refine loop_m tOk hx4 (fun s1=>⟨0,69,[(0,.rp [slD TreeBridge.enc a0.Bridges,slD TreeLink.enc a0.Links,slD encInt a0.Down,slD TreeSlot.enc a0.AtA,slD TreeSlot.enc a0.AtB,slD TreeWord.enc a0.Radio]),(9,.d (slD TreeBridge.enc a0.Bridges)),(10,.d (.int .i64 ((a0.Bridges.length:Nat):Int))),(11,.d (.int .i64 s1))],[],[],[]⟩) ?_ ?_
  · exact leX []
  · clear hx4;intro s1 y2 g3 hy2;(conv=>whnf);refine seq_in tOk ?_;(conv=>whnf);refine andI g3 (fun _ g3=>?_) (fun _ g3=>?_)
    · (conv=>whnf);refine seq_in tOk ?_;(conv=>whnf);refine gdI g3 (fun g3=>?_);(conv=>whnf);refine seq_in tOk ?_;(conv=>whnf);obtain ⟨x6,hx6,g3⟩:=bd_some g3;refine cC 0 (impl_within_c hx6) ?_;clear hx6;(conv=>whnf);obtain ⟨g7,g3⟩:=gd_some g3;refine And.intro (by intro c0; exact ⟨g7 c0,.inr rfl⟩) ?_;(conv=>whnf);obtain ⟨x8,hx8,g3⟩:=bd_some g3;refine callG_m rfl rfl rfl rfl rfl rfl (by intro c0; have q0:=g7 c0; exact (slices_ContainsFunc_TreeBridge_TreeBridge_impl_TreeWorld_bridgesOk_1_c (gcall_some hx8 c0)).le argA) ?_;(conv=>whnf);refine andI g3 (fun _ g3=>?_) (fun _ g3=>?_)
      · (conv=>whnf);obtain rfl:=Option.some.inj g3;obtain rfl:=hy2 _ rfl;obtain rfl:=Option.some.inj h;exact lfP []
      · (conv=>whnf);obtain ⟨x9,hx9,g3⟩:=bd_some g3;obtain ⟨x10,hx10,g3⟩:=bd_some g3;obtain ⟨x11,hx11,g3⟩:=bd_some g3;refine draw_u tOk [.u 4 0 (.d (.bool x9)) [],.u 8 0 (.d (.bool x10)) [],.u 20 0 (.d (.bool x11)) []] 35 [] [0,1,3,7,15,31,63,127,255,511,1023,2047,4095,8191,2047,18431,51199,116735,247807,509951,1048575,2097151,4194303,8388607,16777215,33554431,67108863,134217727,268435455,536870911,1073741823,536870911,4294967295,8589934591,17179869183] [] ?_;(conv=>whnf);refine And.intro (callDG_if rfl rfl rfl rfl (by intro c0; exact impl_TreeVectorOk_c (gcall_some hx9 c0))) ?_;(conv=>whnf);refine And.intro (callDG_if rfl rfl rfl rfl (by intro c0 c1; exact impl_TreeVector_nothing_c (gcall_some hx10 ⟨c0,c1⟩))) ?_;(conv=>whnf);refine And.intro (callDG_if rfl rfl rfl rfl (by intro c0 c1; exact impl_within_c (gcall_some hx11 ⟨c0,c1⟩))) ?_;(conv=>whnf);refine And.intro (by kernel_rfl) ?_;(conv=>whnf);refine andI g3 (fun _ g3=>?_) (fun _ g3=>?_)
        · (conv=>whnf);obtain rfl:=Option.some.inj g3;obtain rfl:=hy2 _ rfl;obtain rfl:=Option.some.inj h;exact lfP []
        · (conv=>whnf);obtain rfl:=Option.some.inj g3;exact ⟨_,rfl,leX []⟩
    · (conv=>whnf);obtain rfl:=Option.some.inj g3;obtain rfl:=hy2 _ rfl;obtain rfl:=Option.some.inj h;exact lfP []
noncomputable def impl_TreeWorld_isLink_m (a0:TreeWorld) (a1:Int):Option (Bool) :=
 bd (impl_within_m a1 0 (IntKind.i64.wrap (((a0.Links.length:Nat):Int) - 1))) fun x1 =>
 some x1
theorem impl_TreeWorld_isLink_c {a0:TreeWorld} {a1:Int} {r:Bool} (h:impl_TreeWorld_isLink_m a0 a1 = some r):PureC Try.prog 55 [.rp [slD TreeBridge.enc a0.Bridges,slD TreeLink.enc a0.Links,slD encInt a0.Down,slD TreeSlot.enc a0.AtA,slD TreeSlot.enc a0.AtB,slD TreeWord.enc a0.Radio],.d (.int .i64 a1)] (.d (.bool r)) []:=by
  refine pureC_x tOk (fn:=Try.f55) (c:=codeOf Try.f55) rfl rfl ?_;unfold impl_TreeWorld_isLink_m at h;(conv=>whnf);obtain ⟨x1,hx1,h⟩:=bd_some h;refine cC 0 (impl_within_c hx1) ?_;clear hx1;(conv=>whnf);obtain rfl:=Option.some.inj h;exact lfP []
noncomputable def impl_TreeWorld_slot_m (a0:TreeWorld) (a1:Int) (a2:Int):Option (TreeSlot) :=
(if (a2 == 0) = true then
 gd ((0:Int)≤a1∧a1<((a0.AtA.length:Nat):Int)) <|
 some (⟨((a0.AtA.getD a1.toNat default).Vector),(a0.AtA.getD a1.toNat default).Left⟩:TreeSlot)
else
 gd ((0:Int)≤a1∧a1<((a0.AtB.length:Nat):Int)) <|
 some (⟨((a0.AtB.getD a1.toNat default).Vector),(a0.AtB.getD a1.toNat default).Left⟩:TreeSlot))
theorem impl_TreeWorld_slot_c {a0:TreeWorld} {a1:Int} {a2:Int} {r:TreeSlot} (h:impl_TreeWorld_slot_m a0 a1 a2 = some r):EffC Try.prog 93 [.rp [slD TreeBridge.enc a0.Bridges,slD TreeLink.enc a0.Links,slD encInt a0.Down,slD TreeSlot.enc a0.AtA,slD TreeSlot.enc a0.AtB,slD TreeWord.enc a0.Radio],.d (.int .i64 a1),.d (.int .i64 a2)] [] (.rp [.int .i64 r.Vector.Root,.int .i64 r.Vector.Cost,.int .i64 r.Vector.Age,.int .i64 r.Left]) []:=by
  refine effC_x tOk (fn:=Try.f93) (c:=codeOf Try.f93) rfl rfl ?_;unfold impl_TreeWorld_slot_m at h;(conv=>whnf);refine seq_in tOk ?_;(conv=>whnf);refine andI h (fun _ h=>?_) (fun _ h=>?_)
  · (conv=>whnf);refine gdI h (fun h=>?_);(conv=>whnf);obtain rfl:=Option.some.inj h;exact lfE []
  · (conv=>whnf);refine gdI h (fun h=>?_);(conv=>whnf);obtain rfl:=Option.some.inj h;exact lfE []
noncomputable def slices_Index_int_int_m (a0:(List Int)) (a1:Int):Option (Int) :=
 bd (lp (σ:=Int) (β:=(Int ⊕ Unit)) (fun s1 =>
(if (decide (s1<((a0.length:Nat):Int))) = true then
 gd ((0:Int)≤s1∧s1<((a0.length:Nat):Int)) <|
(if (a1 == (a0.getD s1.toNat default)) = true then
 some (.inr (.inl s1))
else
 some (.inl (IntKind.i64.wrap (s1+1))))
else
 some (.inr (.inr ())))) 0) fun x4 =>
(match x4 with
| .inl d6 =>
 some d6
| .inr d7 =>
 some (-1))
theorem slices_Index_int_int_c {a0:(List Int)} {a1:Int} {r:Int} (h:slices_Index_int_int_m a0 a1 = some r):PureC Try.prog 140 [.d (slD encInt a0),.d (.int .i64 a1)] (.d (.int .i64 r)) []:=by
  refine pureC_x tOk (fn:=Try.f140) (c:=codeOf Try.f140) rfl rfl ?_;unfold slices_Index_int_int_m at h;(conv=>whnf);refine seq_in tOk ?_;(conv=>whnf);obtain ⟨x4,hx4,h⟩:=bd_some h;refine loop_m tOk hx4 (fun s1=>⟨0,19,[(0,.d (slD encInt a0)),(1,.d (.int .i64 a1)),(7,.d (.int .i64 ((a0.length:Nat):Int))),(8,.d (.int .i64 s1))],[],[],[]⟩) ?_ ?_
  · exact leX []
  · clear hx4;intro s1 y2 g3 hy2;(conv=>whnf);refine seq_in tOk ?_;(conv=>whnf);refine andI g3 (fun _ g3=>?_) (fun _ g3=>?_)
    · (conv=>whnf);refine seq_in tOk ?_;(conv=>whnf);refine gdI g3 (fun g3=>?_);(conv=>whnf);refine andI g3 (fun _ g3=>?_) (fun _ g3=>?_)
      · (conv=>whnf);obtain rfl:=Option.some.inj g3;obtain rfl:=hy2 _ rfl;obtain rfl:=Option.some.inj h;exact lfP []
      · (conv=>whnf);obtain rfl:=Option.some.inj g3;exact ⟨_,rfl,leX []⟩
    · (conv=>whnf);obtain rfl:=Option.some.inj g3;obtain rfl:=hy2 _ rfl;obtain rfl:=Option.some.inj h;exact lfP []
noncomputable def slices_Contains_int_int_m (a0:(List Int)) (a1:Int):Option (Bool) :=
 bd (slices_Index_int_int_m a0 a1) fun x1 =>
 some (decide (x1 ≥ 0))
theorem slices_Contains_int_int_c {a0:(List Int)} {a1:Int} {r:Bool} (h:slices_Contains_int_int_m a0 a1 = some r):PureC Try.prog 134 [.d (slD encInt a0),.d (.int .i64 a1)] (.d (.bool r)) []:=by
  refine pureC_x tOk (fn:=Try.f134) (c:=codeOf Try.f134) rfl rfl ?_;unfold slices_Contains_int_int_m at h;(conv=>whnf);obtain ⟨x1,hx1,h⟩:=bd_some h;refine cC 0 (slices_Index_int_int_c hx1) ?_;clear hx1;(conv=>whnf);obtain rfl:=Option.some.inj h;exact lfP []
noncomputable def impl_TreeWorld_isDown_m (a0:TreeWorld) (a1:Int):Option (Bool) :=
 bd (slices_Contains_int_int_m a0.Down a1) fun x1 =>
 some x1
theorem impl_TreeWorld_isDown_c {a0:TreeWorld} {a1:Int} {r:Bool} (h:impl_TreeWorld_isDown_m a0 a1 = some r):PureC Try.prog 106 [.rp [slD TreeBridge.enc a0.Bridges,slD TreeLink.enc a0.Links,slD encInt a0.Down,slD TreeSlot.enc a0.AtA,slD TreeSlot.enc a0.AtB,slD TreeWord.enc a0.Radio],.d (.int .i64 a1)] (.d (.bool r)) []:=by
  refine pureC_x tOk (fn:=Try.f106) (c:=codeOf Try.f106) rfl rfl ?_;unfold impl_TreeWorld_isDown_m at h;(conv=>whnf);obtain ⟨x1,hx1,h⟩:=bd_some h;refine cC 0 (slices_Contains_int_int_c hx1) ?_;clear hx1;(conv=>whnf);obtain rfl:=Option.some.inj h;exact lfP []
noncomputable def impl_TreeWorld_bridgeAt_m (a0:TreeWorld) (a1:Int) (a2:Int):Option (Int) :=
(if (a2 == 0) = true then
 gd ((0:Int)≤a1∧a1<((a0.Links.length:Nat):Int)) <|
 some ((a0.Links.getD a1.toNat default).A)
else
 gd ((0:Int)≤a1∧a1<((a0.Links.length:Nat):Int)) <|
 some ((a0.Links.getD a1.toNat default).B))
theorem impl_TreeWorld_bridgeAt_c {a0:TreeWorld} {a1:Int} {a2:Int} {r:Int} (h:impl_TreeWorld_bridgeAt_m a0 a1 a2 = some r):PureC Try.prog 71 [.rp [slD TreeBridge.enc a0.Bridges,slD TreeLink.enc a0.Links,slD encInt a0.Down,slD TreeSlot.enc a0.AtA,slD TreeSlot.enc a0.AtB,slD TreeWord.enc a0.Radio],.d (.int .i64 a1),.d (.int .i64 a2)] (.d (.int .i64 r)) []:=by
  refine pureC_x tOk (fn:=Try.f71) (c:=codeOf Try.f71) rfl rfl ?_;unfold impl_TreeWorld_bridgeAt_m at h;(conv=>whnf);refine seq_in tOk ?_;(conv=>whnf);refine andI h (fun _ h=>?_) (fun _ h=>?_)
  · (conv=>whnf);refine gdI h (fun h=>?_);(conv=>whnf);obtain rfl:=Option.some.inj h;exact lfP []
  · (conv=>whnf);refine gdI h (fun h=>?_);(conv=>whnf);obtain rfl:=Option.some.inj h;exact lfP []
noncomputable def impl_TreeWorld_slotOk_m (a0:TreeWorld) (a1:Int) (a2:Int):Option (Bool) :=
 bd (impl_TreeWorld_slot_m a0 a1 a2) fun x1 =>
 bd (impl_TreeVectorOk_m x1.Vector) fun x2 =>
 bd (gcall ((!x2) = false) (impl_within_m x1.Left 0 3)) fun x3 =>
 bd (gcall (((!x2) || (!x3)) = false) (impl_TreeVector_nothing_m x1.Vector)) fun x4 =>
(if (((!x2) || (!x3)) || (!((x1.Left == 0) == x4))) = true then
 some false
else
 bd (impl_TreeVector_nothing_m x1.Vector) fun x5 =>
 bd (gcall (x5 = false) (impl_TreeWorld_isDown_m a0 a1)) fun x6 =>
 bd (gcall ((!x6) = true∧x5 = false) (impl_TreeWorld_bridgeAt_m a0 a1 a2)) fun x7 =>
 gd ((!x6) = true → (x5 = false → ((0:Int)≤x7∧x7<((a0.Bridges.length:Nat):Int)))) <|
 some (x5 || ((!x6) && (a0.Bridges.getD x7.toNat default).Up)))
theorem impl_TreeWorld_slotOk_c {a0:TreeWorld} {a1:Int} {a2:Int} {r:Bool} (h:impl_TreeWorld_slotOk_m a0 a1 a2 = some r):PureC Try.prog 56 [.rp [slD TreeBridge.enc a0.Bridges,slD TreeLink.enc a0.Links,slD encInt a0.Down,slD TreeSlot.enc a0.AtA,slD TreeSlot.enc a0.AtB,slD TreeWord.enc a0.Radio],.d (.int .i64 a1),.d (.int .i64 a2)] (.d (.bool r)) []:=by
  refine pureC_x tOk (fn:=Try.f56) (c:=codeOf Try.f56) rfl rfl ?_;unfold impl_TreeWorld_slotOk_m at h;(conv=>whnf);obtain ⟨x1,hx1,h⟩:=bd_some h;refine cE [] 0 (impl_TreeWorld_slot_c hx1) ?_;(conv=>whnf);refine seq_in tOk ?_;(conv=>whnf);obtain ⟨x2,hx2,h⟩:=bd_some h;obtain ⟨x3,hx3,h⟩:=bd_some h;obtain ⟨x4,hx4,h⟩:=bd_some h;refine draw_u tOk [.u 2 0 (.d (.bool x2)) [],.u 7 0 (.d (.bool x3)) [],.u 16 0 (.d (.bool x4)) []] 19 [] [0,1,3,7,15,31,63,127,255,511,1023,2047,4095,8191,2047,18431,51199,131071,262143] [] ?_;(conv=>whnf);refine And.intro (callD_any (impl_TreeVectorOk_c hx2) (by kernel_rfl)) ?_;(conv=>whnf);refine And.intro (callDG_if rfl rfl rfl rfl (by intro c0; exact impl_within_c (gcall_some hx3 c0))) ?_;(conv=>whnf);refine And.intro (callDG_if rfl rfl rfl rfl (by intro c0; exact impl_TreeVector_nothing_c (gcall_some hx4 c0))) ?_;(conv=>whnf);refine And.intro (by kernel_rfl) ?_;(conv=>whnf);refine andI h (fun _ h=>?_) (fun _ h=>?_)
  · (conv=>whnf);obtain rfl:=Option.some.inj h;exact lfP []
  · (conv=>whnf);obtain ⟨x5,hx5,h⟩:=bd_some h;obtain ⟨x6,hx6,h⟩:=bd_some h;obtain ⟨x7,hx7,h⟩:=bd_some h;obtain ⟨g8,h⟩:=gd_some h;refine draw_u tOk [.u 2 0 (.d (.bool x5)) [],.u 6 0 (.d (.bool x6)) [],.u 16 0 (.d (.int .i64 x7)) []] 23 [] [0,1,3,7,15,15,63,127,255,511,1023,2047,4095,511,511,511,57855,131071,262143,524287,1048575,2097151,4194303] [] ?_;(conv=>whnf);refine And.intro (callD_any (impl_TreeVector_nothing_c hx5) (by kernel_rfl)) ?_;(conv=>whnf);refine And.intro (callDG_if rfl rfl rfl rfl (by intro c0; exact impl_TreeWorld_isDown_c (gcall_some hx6 c0))) ?_;(conv=>whnf);refine And.intro (callDG_if rfl rfl rfl rfl (by intro c0 c1; exact impl_TreeWorld_bridgeAt_c (gcall_some hx7 ⟨c0,c1⟩))) ?_;(conv=>whnf);refine And.intro g8 ?_;clear g8;(conv=>whnf);refine And.intro (by kernel_rfl) ?_;(conv=>whnf);obtain rfl:=Option.some.inj h;exact lfP []
noncomputable def impl_TreeWorldOk_1_m (a0:TreeWord) (a1:TreeWorld):Option (Bool) :=
 bd (impl_TreeWorld_isLink_m a1 a0.Link) fun x1 =>
 bd (gcall ((!x1) = false) (impl_within_m a0.End 0 1)) fun x2 =>
 bd (gcall (((!x1) || (!x2)) = false) (impl_TreeVectorOk_m a0.Vector)) fun x3 =>
 bd (gcall ((((!x1) || (!x2)) || (!x3)) = false) (impl_TreeVector_nothing_m a0.Vector)) fun x4 =>
 some ((((!x1) || (!x2)) || (!x3)) || x4)
theorem impl_TreeWorldOk_1_c {a0:TreeWord} {a1:TreeWorld} {r:Bool} (h:impl_TreeWorldOk_1_m a0 a1 = some r):PureC Try.prog 58 [.agg [.d (.int .i64 a0.Link),.d (.int .i64 a0.End),.d (.int .i64 a0.Vector.Root),.d (.int .i64 a0.Vector.Cost),.d (.int .i64 a0.Vector.Age)],.rp [slD TreeBridge.enc a1.Bridges,slD TreeLink.enc a1.Links,slD encInt a1.Down,slD TreeSlot.enc a1.AtA,slD TreeSlot.enc a1.AtB,slD TreeWord.enc a1.Radio]] (.d (.bool r)) []:=by
  refine pureC_x tOk (fn:=Try.f58) (c:=codeOf Try.f58) rfl rfl ?_;unfold impl_TreeWorldOk_1_m at h;(conv=>whnf);obtain ⟨x1,hx1,h⟩:=bd_some h;refine cC 0 (impl_TreeWorld_isLink_c hx1) ?_;clear hx1;(conv=>whnf);obtain ⟨x2,hx2,h⟩:=bd_some h;refine callG_m rfl rfl rfl rfl rfl rfl (by intro c0; exact impl_within_c (gcall_some hx2 c0)) ?_;(conv=>whnf);obtain ⟨x3,hx3,h⟩:=bd_some h;refine callG_m rfl rfl rfl rfl rfl rfl (by intro c0; exact impl_TreeVectorOk_c (gcall_some hx3 c0)) ?_;(conv=>whnf);obtain ⟨x4,hx4,h⟩:=bd_some h;refine callG_m rfl rfl rfl rfl rfl rfl (by intro c0; exact impl_TreeVector_nothing_c (gcall_some hx4 c0)) ?_;(conv=>whnf);obtain rfl:=Option.some.inj h;exact lfP []
noncomputable def slices_IndexFunc_TreeWord_TreeWord_impl_TreeWorldOk_1_m (a0:(List TreeWord)) (a1c0:TreeWorld):Option (Int) :=
 bd (lp (σ:=Int) (β:=(Int ⊕ Unit)) (fun s1 =>
(if (decide (s1<((a0.length:Nat):Int))) = true then
 gd ((0:Int)≤s1∧s1<((a0.length:Nat):Int)) <|
 bd (impl_TreeWorldOk_1_m ({ (a0.getD s1.toNat default) with Vector:=((a0.getD s1.toNat default).Vector) }) a1c0) fun x6 =>
(if x6 = true then
 some (.inr (.inl s1))
else
 some (.inl (IntKind.i64.wrap (s1+1))))
else
 some (.inr (.inr ())))) 0) fun x4 =>
(match x4 with
| .inl d7 =>
 some d7
| .inr d8 =>
 some (-1))
theorem slices_IndexFunc_TreeWord_TreeWord_impl_TreeWorldOk_1_c {a0:(List TreeWord)} {a1c0:TreeWorld} {r:Int} (h:slices_IndexFunc_TreeWord_TreeWord_impl_TreeWorldOk_1_m a0 a1c0 = some r):PureC Try.prog 107 [.d (slD TreeWord.enc a0),.fn 58 [.rp [slD TreeBridge.enc a1c0.Bridges,slD TreeLink.enc a1c0.Links,slD encInt a1c0.Down,slD TreeSlot.enc a1c0.AtA,slD TreeSlot.enc a1c0.AtB,slD TreeWord.enc a1c0.Radio]]] (.d (.int .i64 r)) []:=by
  refine pureC_x tOk (fn:=Try.f107) (c:=codeOf Try.f107) rfl rfl ?_;unfold slices_IndexFunc_TreeWord_TreeWord_impl_TreeWorldOk_1_m at h;(conv=>whnf);refine seq_in tOk ?_;(conv=>whnf);obtain ⟨x4,hx4,h⟩:=bd_some h;refine loop_m tOk hx4 (fun s1=>⟨0,19,[(0,.d (slD TreeWord.enc a0)),(1,.fn 58 [.rp [slD TreeBridge.enc a1c0.Bridges,slD TreeLink.enc a1c0.Links,slD encInt a1c0.Down,slD TreeSlot.enc a1c0.AtA,slD TreeSlot.enc a1c0.AtB,slD TreeWord.enc a1c0.Radio]]),(7,.d (.int .i64 ((a0.length:Nat):Int))),(8,.d (.int .i64 s1))],[],[],[]⟩) ?_ ?_
  · exact leX []
  · clear hx4;intro s1 y2 g3 hy2;(conv=>whnf);refine seq_in tOk ?_;(conv=>whnf);refine andI g3 (fun _ g3=>?_) (fun _ g3=>?_)
    · (conv=>whnf);refine seq_in tOk ?_;(conv=>whnf);refine gdI g3 (fun g3=>?_);(conv=>whnf);obtain ⟨x6,hx6,g3⟩:=bd_some g3;refine cC 0 (impl_TreeWorldOk_1_c hx6) ?_;clear hx6;(conv=>whnf);refine andI g3 (fun _ g3=>?_) (fun _ g3=>?_)
      · (conv=>whnf);obtain rfl:=Option.some.inj g3;obtain rfl:=hy2 _ rfl;obtain rfl:=Option.some.inj h;exact lfP []
      · (conv=>whnf);obtain rfl:=Option.some.inj g3;exact ⟨_,rfl,leX []⟩
    · (conv=>whnf);obtain rfl:=Option.some.inj g3;obtain rfl:=hy2 _ rfl;obtain rfl:=Option.some.inj h;exact lfP []
noncomputable def slices_ContainsFunc_TreeWord_TreeWord_impl_TreeWorldOk_1_m (a0:(List TreeWord)) (a1c0:TreeWorld):Option (Bool) :=
 bd (slices_IndexFunc_TreeWord_TreeWord_impl_TreeWorldOk_1_m a0 a1c0) fun x1 =>
 some (decide (x1 ≥ 0))
theorem slices_ContainsFunc_TreeWord_TreeWord_impl_TreeWorldOk_1_c {a0:(List TreeWord)} {a1c0:TreeWorld} {r:Bool} (h:slices_ContainsFunc_TreeWord_TreeWord_impl_TreeWorldOk_1_m a0 a1c0 = some r):PureC Try.prog 57 [.d (slD TreeWord.enc a0),.fn 58 [.rp [slD TreeBridge.enc a1c0.Bridges,slD TreeLink.enc a1c0.Links,slD encInt a1c0.Down,slD TreeSlot.enc a1c0.AtA,slD TreeSlot.enc a1c0.AtB,slD TreeWord.enc a1c0.Radio]]] (.d (.bool r)) []:=by
  refine pureC_x tOk (fn:=Try.f57) (c:=codeOf Try.f57) rfl rfl ?_;unfold slices_ContainsFunc_TreeWord_TreeWord_impl_TreeWorldOk_1_m at h;(conv=>whnf);obtain ⟨x1,hx1,h⟩:=bd_some h;refine cC 0 (slices_IndexFunc_TreeWord_TreeWord_impl_TreeWorldOk_1_c hx1) ?_;clear hx1;(conv=>whnf);obtain rfl:=Option.some.inj h;exact lfP []
noncomputable def impl_TreeWorldOk_m (a0:TreeWorld):Option (Bool) :=
 bd (impl_TreeLinksOk_m ((a0.Bridges.length:Nat):Int) a0.Links) fun x1 =>
 bd (gcall ((!x1) = false) (impl_TreeWorld_bridgesOk_m a0)) fun x2 =>
(if (((((!x1) || (!x2)) || (((a0.AtA.length:Nat):Int) != ((a0.Links.length:Nat):Int))) || (((a0.AtB.length:Nat):Int) != ((a0.Links.length:Nat):Int))) || (decide (((a0.Radio.length:Nat):Int) > 12))) = true then
 some false
else
 bd (lp (σ:=Int) (β:=(Unit ⊕ Unit)) (fun s3 =>
(if (decide (s3<((a0.Down.length:Nat):Int))) = true then
 gd ((0:Int)≤s3∧s3<((a0.Down.length:Nat):Int)) <|
 bd (impl_TreeWorld_isLink_m a0 (a0.Down.getD s3.toNat default)) fun x8 =>
 gd ((decide (s3 > 0)) = true → ((!x8) = false → ((0:Int)≤IntKind.i64.wrap (s3 - 1)∧IntKind.i64.wrap (s3 - 1)<((a0.Down.length:Nat):Int)))) <|
(if ((!x8) || ((decide (s3 > 0)) && (decide ((a0.Down.getD ((IntKind.i64.wrap (s3 - 1)).toNat) default) ≥ (a0.Down.getD s3.toNat default))))) = true then
 some (.inr (.inl ()))
else
 some (.inl (IntKind.i64.wrap (s3+1))))
else
 some (.inr (.inr ())))) 0) fun x6 =>
(match x6 with
| .inl d10 =>
 some false
| .inr d11 =>
 bd (lp (σ:=Int) (β:=(Unit ⊕ Unit)) (fun s12 =>
(if (decide (s12<((a0.Links.length:Nat):Int))) = true then
 bd (impl_TreeWorld_slotOk_m a0 s12 0) fun x16 =>
 bd (gcall ((!x16) = false) (impl_TreeWorld_slotOk_m a0 s12 1)) fun x17 =>
(if ((!x16) || (!x17)) = true then
 some (.inr (.inl ()))
else
 some (.inl (IntKind.i64.wrap (s12+1))))
else
 some (.inr (.inr ())))) 0) fun x15 =>
(match x15 with
| .inl d18 =>
 some false
| .inr d19 =>
 bd (slices_ContainsFunc_TreeWord_TreeWord_impl_TreeWorldOk_1_m a0.Radio a0) fun x20 =>
 some (!x20))))
theorem impl_TreeWorldOk_c {a0:TreeWorld} {r:Bool} (h:impl_TreeWorldOk_m a0 = some r):PureC Try.prog 22 [.agg [.d (slD TreeBridge.enc a0.Bridges),.d (slD TreeLink.enc a0.Links),.d (slD encInt a0.Down),.d (slD TreeSlot.enc a0.AtA),.d (slD TreeSlot.enc a0.AtB),.d (slD TreeWord.enc a0.Radio)]] (.d (.bool r)) []:=by
  refine pureC_x tOk (fn:=Try.f22) (c:=codeOf Try.f22) rfl rfl ?_;unfold impl_TreeWorldOk_m at h;(conv=>whnf);refine seq_in tOk ?_;(conv=>whnf);obtain ⟨x1,hx1,h⟩:=bd_some h;refine cC 0 (impl_TreeLinksOk_c hx1) ?_;clear hx1;(conv=>whnf);obtain ⟨x2,hx2,h⟩:=bd_some h;refine callG_m rfl rfl rfl rfl rfl rfl (by intro c0; exact impl_TreeWorld_bridgesOk_c (gcall_some hx2 c0)) ?_;(conv=>whnf);refine andI h (fun _ h=>?_) (fun _ h=>?_)
  · (conv=>whnf);obtain rfl:=Option.some.inj h;exact lfP []
  · (conv=>whnf);refine seq_in tOk ?_;(conv=>whnf);obtain ⟨x6,hx6,h⟩:=bd_some h;refine loop_m tOk hx6 (fun s3=>⟨0,87,[(1,.ref 1 0 0),(42,.d (slD encInt a0.Down)),(43,.d (.int .i64 ((a0.Down.length:Nat):Int))),(44,.d (.int .i64 s3))],[],[(1,.box 29 [.d (slD TreeBridge.enc a0.Bridges),.d (slD TreeLink.enc a0.Links),.d (slD encInt a0.Down),.d (slD TreeSlot.enc a0.AtA),.d (slD TreeSlot.enc a0.AtB),.d (slD TreeWord.enc a0.Radio)])],[]⟩) ?_ ?_
    · exact leX []
    · clear hx6;intro s3 y4 g5 hy4;(conv=>whnf);refine seq_in tOk ?_;(conv=>whnf);refine andI g5 (fun _ g5=>?_) (fun _ g5=>?_)
      · (conv=>whnf);refine seq_in tOk ?_;(conv=>whnf);refine gdI g5 (fun g5=>?_);(conv=>whnf);obtain ⟨x8,hx8,g5⟩:=bd_some g5;refine cC 0 (impl_TreeWorld_isLink_c hx8) ?_;clear hx8;(conv=>whnf);refine gdI g5 (fun g5=>?_);(conv=>whnf);refine andI g5 (fun _ g5=>?_) (fun _ g5=>?_)
        · (conv=>whnf);obtain rfl:=Option.some.inj g5;obtain rfl:=hy4 _ rfl;obtain rfl:=Option.some.inj h;exact lfP []
        · (conv=>whnf);obtain rfl:=Option.some.inj g5;exact ⟨_,rfl,leX []⟩
      · (conv=>whnf);obtain rfl:=Option.some.inj g5;obtain rfl:=hy4 _ rfl;refine seq_in tOk ?_;(conv=>whnf);obtain ⟨x15,hx15,h⟩:=bd_some h;refine loop_m tOk hx15 (fun s12=>⟨0,87,[(1,.ref 1 0 0),(69,.d (.int .i64 ((a0.Links.length:Nat):Int))),(70,.d (.int .i64 s12))],[],[(1,.box 29 [.d (slD TreeBridge.enc a0.Bridges),.d (slD TreeLink.enc a0.Links),.d (slD encInt a0.Down),.d (slD TreeSlot.enc a0.AtA),.d (slD TreeSlot.enc a0.AtB),.d (slD TreeWord.enc a0.Radio)])],[]⟩) ?_ ?_
        · exact leX []
        · clear hx15;intro s12 y13 g14 hy13;(conv=>whnf);refine seq_in tOk ?_;(conv=>whnf);refine andI g14 (fun _ g14=>?_) (fun _ g14=>?_)
          · (conv=>whnf);refine seq_in tOk ?_;(conv=>whnf);obtain ⟨x16,hx16,g14⟩:=bd_some g14;refine cC 0 (impl_TreeWorld_slotOk_c hx16) ?_;clear hx16;(conv=>whnf);obtain ⟨x17,hx17,g14⟩:=bd_some g14;refine callG_m rfl rfl rfl rfl rfl rfl (by intro c0; exact impl_TreeWorld_slotOk_c (gcall_some hx17 c0)) ?_;(conv=>whnf);refine andI g14 (fun _ g14=>?_) (fun _ g14=>?_)
            · (conv=>whnf);obtain rfl:=Option.some.inj g14;obtain rfl:=hy13 _ rfl;obtain rfl:=Option.some.inj h;exact lfP []
            · (conv=>whnf);obtain rfl:=Option.some.inj g14;exact ⟨_,rfl,leX []⟩
          · (conv=>whnf);obtain rfl:=Option.some.inj g14;obtain rfl:=hy13 _ rfl;obtain ⟨x20,hx20,h⟩:=bd_some h;refine cC 0 (slices_ContainsFunc_TreeWord_TreeWord_impl_TreeWorldOk_1_c hx20) ?_;clear hx20;(conv=>whnf);obtain rfl:=Option.some.inj h;exact lfP []
noncomputable def impl_clone_TreeBridge_m (a0:(List TreeBridge)):Option ((List TreeBridge)) :=
 gd ((0:Int)≤0∧0≤((a0.length:Nat):Int)∧((a0.length:Nat):Int) * 48≤140737488355328∧((a0.length:Nat):Int)≤140737488355328) <|
 gd ((((List.replicate (0:Int).toNat (default:TreeBridge)).length)+(a0.length)) * (48+1)≤70368744177664) <|
 some ((List.replicate (0:Int).toNat (default:TreeBridge)) ++ a0)
theorem impl_clone_TreeBridge_c {a0:(List TreeBridge)} {r:(List TreeBridge)} (h:impl_clone_TreeBridge_m a0 = some r):PureC Try.prog 86 [.d (slD TreeBridge.enc a0)] (.osl 5001 0 r.length) [⟨5001,43,6,r.length,rows TreeBridge.enc r⟩]:=by
  refine pureC_x tOk (fn:=Try.f86) (c:=codeOf Try.f86) rfl rfl ?_;unfold impl_clone_TreeBridge_m at h;(conv=>whnf);obtain ⟨g2,h⟩:=gd_some h;refine And.intro g2 ?_;clear g2;refine ⟨(List.replicate (0:Int).toNat (default:TreeBridge)).length,rows TreeBridge.enc (List.replicate (0:Int).toNat (default:TreeBridge)),by simp,make_rows rfl,?_⟩;(conv=>whnf);refine gdI h (fun h=>?_);refine appS (enc:=TreeBridge.enc) (xs:=(List.replicate (0:Int).toNat (default:TreeBridge))) (ys:=a0) ?_;(conv=>whnf);obtain rfl:=Option.some.inj h;exact lfP [.s [(5,5001),(5001,5)]]
noncomputable def impl_clone_TreeLink_m (a0:(List TreeLink)):Option ((List TreeLink)) :=
 gd ((0:Int)≤0∧0≤((a0.length:Nat):Int)∧((a0.length:Nat):Int) * 24≤140737488355328∧((a0.length:Nat):Int)≤140737488355328) <|
 gd ((((List.replicate (0:Int).toNat (default:TreeLink)).length)+(a0.length)) * (24+1)≤70368744177664) <|
 some ((List.replicate (0:Int).toNat (default:TreeLink)) ++ a0)
theorem impl_clone_TreeLink_c {a0:(List TreeLink)} {r:(List TreeLink)} (h:impl_clone_TreeLink_m a0 = some r):PureC Try.prog 87 [.d (slD TreeLink.enc a0)] (.osl 5001 0 r.length) [⟨5001,46,3,r.length,rows TreeLink.enc r⟩]:=by
  refine pureC_x tOk (fn:=Try.f87) (c:=codeOf Try.f87) rfl rfl ?_;unfold impl_clone_TreeLink_m at h;(conv=>whnf);obtain ⟨g2,h⟩:=gd_some h;refine And.intro g2 ?_;clear g2;refine ⟨(List.replicate (0:Int).toNat (default:TreeLink)).length,rows TreeLink.enc (List.replicate (0:Int).toNat (default:TreeLink)),by simp,make_rows rfl,?_⟩;(conv=>whnf);refine gdI h (fun h=>?_);refine appS (enc:=TreeLink.enc) (xs:=(List.replicate (0:Int).toNat (default:TreeLink))) (ys:=a0) ?_;(conv=>whnf);obtain rfl:=Option.some.inj h;exact lfP [.s [(5,5001),(5001,5)]]
noncomputable def impl_clone_int_m (a0:(List Int)):Option ((List Int)) :=
 gd ((0:Int)≤0∧0≤((a0.length:Nat):Int)∧((a0.length:Nat):Int) * 8≤140737488355328∧((a0.length:Nat):Int)≤140737488355328) <|
 gd ((((List.replicate (0:Int).toNat (default:Int)).length)+(a0.length)) * (8+1)≤70368744177664) <|
 some ((List.replicate (0:Int).toNat (default:Int)) ++ a0)
theorem impl_clone_int_c {a0:(List Int)} {r:(List Int)} (h:impl_clone_int_m a0 = some r):PureC Try.prog 88 [.d (slD encInt a0)] (.osl 5001 0 r.length) [⟨5001,3,1,r.length,rows encInt r⟩]:=by
  refine pureC_x tOk (fn:=Try.f88) (c:=codeOf Try.f88) rfl rfl ?_;unfold impl_clone_int_m at h;(conv=>whnf);obtain ⟨g2,h⟩:=gd_some h;refine And.intro g2 ?_;clear g2;refine ⟨(List.replicate (0:Int).toNat (default:Int)).length,rows encInt (List.replicate (0:Int).toNat (default:Int)),by simp,make_rows rfl,?_⟩;(conv=>whnf);refine gdI h (fun h=>?_);refine appS (enc:=encInt) (xs:=(List.replicate (0:Int).toNat (default:Int))) (ys:=a0) ?_;(conv=>whnf);obtain rfl:=Option.some.inj h;exact lfP [.s [(5,5001),(5001,5)]]
noncomputable def impl_clone_TreeSlot_m (a0:(List TreeSlot)):Option ((List TreeSlot)) :=
 gd ((0:Int)≤0∧0≤((a0.length:Nat):Int)∧((a0.length:Nat):Int) * 32≤140737488355328∧((a0.length:Nat):Int)≤140737488355328) <|
 gd ((((List.replicate (0:Int).toNat (default:TreeSlot)).length)+(a0.length)) * (32+1)≤70368744177664) <|
 some ((List.replicate (0:Int).toNat (default:TreeSlot)) ++ a0)
theorem impl_clone_TreeSlot_c {a0:(List TreeSlot)} {r:(List TreeSlot)} (h:impl_clone_TreeSlot_m a0 = some r):PureC Try.prog 89 [.d (slD TreeSlot.enc a0)] (.osl 5001 0 r.length) [⟨5001,107,4,r.length,rows TreeSlot.enc r⟩]:=by
  refine pureC_x tOk (fn:=Try.f89) (c:=codeOf Try.f89) rfl rfl ?_;unfold impl_clone_TreeSlot_m at h;(conv=>whnf);obtain ⟨g2,h⟩:=gd_some h;refine And.intro g2 ?_;clear g2;refine ⟨(List.replicate (0:Int).toNat (default:TreeSlot)).length,rows TreeSlot.enc (List.replicate (0:Int).toNat (default:TreeSlot)),by simp,make_rows rfl,?_⟩;(conv=>whnf);refine gdI h (fun h=>?_);refine appS (enc:=TreeSlot.enc) (xs:=(List.replicate (0:Int).toNat (default:TreeSlot))) (ys:=a0) ?_;(conv=>whnf);obtain rfl:=Option.some.inj h;exact lfP [.s [(5,5001),(5001,5)]]
noncomputable def impl_clone_TreeWord_m (a0:(List TreeWord)):Option ((List TreeWord)) :=
 gd ((0:Int)≤0∧0≤((a0.length:Nat):Int)∧((a0.length:Nat):Int) * 40≤140737488355328∧((a0.length:Nat):Int)≤140737488355328) <|
 gd ((((List.replicate (0:Int).toNat (default:TreeWord)).length)+(a0.length)) * (40+1)≤70368744177664) <|
 some ((List.replicate (0:Int).toNat (default:TreeWord)) ++ a0)
theorem impl_clone_TreeWord_c {a0:(List TreeWord)} {r:(List TreeWord)} (h:impl_clone_TreeWord_m a0 = some r):PureC Try.prog 90 [.d (slD TreeWord.enc a0)] (.osl 5001 0 r.length) [⟨5001,76,5,r.length,rows TreeWord.enc r⟩]:=by
  refine pureC_x tOk (fn:=Try.f90) (c:=codeOf Try.f90) rfl rfl ?_;unfold impl_clone_TreeWord_m at h;(conv=>whnf);obtain ⟨g2,h⟩:=gd_some h;refine And.intro g2 ?_;clear g2;refine ⟨(List.replicate (0:Int).toNat (default:TreeWord)).length,rows TreeWord.enc (List.replicate (0:Int).toNat (default:TreeWord)),by simp,make_rows rfl,?_⟩;(conv=>whnf);refine gdI h (fun h=>?_);refine appS (enc:=TreeWord.enc) (xs:=(List.replicate (0:Int).toNat (default:TreeWord))) (ys:=a0) ?_;(conv=>whnf);obtain rfl:=Option.some.inj h;exact lfP [.s [(5,5001),(5001,5)]]
noncomputable def impl_copyTree_m (a0:TreeWorld):Option (TreeWorld) :=
 bd (impl_clone_TreeBridge_m a0.Bridges) fun x1 =>
 bd (impl_clone_TreeLink_m a0.Links) fun x2 =>
 bd (impl_clone_int_m a0.Down) fun x3 =>
 bd (impl_clone_TreeSlot_m a0.AtA) fun x4 =>
 bd (impl_clone_TreeSlot_m a0.AtB) fun x5 =>
 bd (impl_clone_TreeWord_m a0.Radio) fun x6 =>
 some (⟨x1,x2,x3,x4,x5,x6⟩:TreeWorld)
theorem impl_copyTree_c {a0:TreeWorld} {r:TreeWorld} (h:impl_copyTree_m a0 = some r):PureC Try.prog 45 [.agg [.d (slD TreeBridge.enc a0.Bridges),.d (slD TreeLink.enc a0.Links),.d (slD encInt a0.Down),.d (slD TreeSlot.enc a0.AtA),.d (slD TreeSlot.enc a0.AtB),.d (slD TreeWord.enc a0.Radio)]] (.agg [.osl 5001 0 r.Bridges.length,.osl 5002 0 r.Links.length,.osl 5003 0 r.Down.length,.osl 5004 0 r.AtA.length,.osl 5005 0 r.AtB.length,.osl 5006 0 r.Radio.length]) [⟨5001,43,6,r.Bridges.length,rows TreeBridge.enc r.Bridges⟩,⟨5002,46,3,r.Links.length,rows TreeLink.enc r.Links⟩,⟨5003,3,1,r.Down.length,rows encInt r.Down⟩,⟨5004,107,4,r.AtA.length,rows TreeSlot.enc r.AtA⟩,⟨5005,107,4,r.AtB.length,rows TreeSlot.enc r.AtB⟩,⟨5006,76,5,r.Radio.length,rows TreeWord.enc r.Radio⟩]:=by
  refine pureC_x tOk (fn:=Try.f45) (c:=codeOf Try.f45) rfl rfl ?_;unfold impl_copyTree_m at h;(conv=>whnf);obtain ⟨x1,hx1,h⟩:=bd_some h;obtain ⟨x2,hx2,h⟩:=bd_some h;obtain ⟨x3,hx3,h⟩:=bd_some h;obtain ⟨x4,hx4,h⟩:=bd_some h;obtain ⟨x5,hx5,h⟩:=bd_some h;obtain ⟨x6,hx6,h⟩:=bd_some h;refine draw_u tOk [.u 2 1000 (.osl 5001 0 x1.length) [⟨5001,43,6,x1.length,rows TreeBridge.enc x1⟩],.u 5 2000 (.osl 5001 0 x2.length) [⟨5001,46,3,x2.length,rows TreeLink.enc x2⟩],.u 8 3000 (.osl 5001 0 x3.length) [⟨5001,3,1,x3.length,rows encInt x3⟩],.u 11 4000 (.osl 5001 0 x4.length) [⟨5001,107,4,x4.length,rows TreeSlot.enc x4⟩],.u 14 5000 (.osl 5001 0 x5.length) [⟨5001,107,4,x5.length,rows TreeSlot.enc x5⟩],.u 17 6000 (.osl 5001 0 x6.length) [⟨5001,76,5,x6.length,rows TreeWord.enc x6⟩]] 19 [] [0,1,3,0,8,31,0,64,255,0,512,2047,0,4096,16383,0,32768,131071,262143] [524287] ?_;(conv=>whnf);refine And.intro (callD_any (impl_clone_TreeBridge_c hx1) (by kernel_rfl)) ?_;(conv=>whnf);refine And.intro (callD_any (impl_clone_TreeLink_c hx2) (by kernel_rfl)) ?_;(conv=>whnf);refine And.intro (callD_any (impl_clone_int_c hx3) (by kernel_rfl)) ?_;(conv=>whnf);refine And.intro (callD_any (impl_clone_TreeSlot_c hx4) (by kernel_rfl)) ?_;(conv=>whnf);refine And.intro (callD_any (impl_clone_TreeSlot_c hx5) (by kernel_rfl)) ?_;(conv=>whnf);refine And.intro (callD_any (impl_clone_TreeWord_c hx6) (by kernel_rfl)) ?_;(conv=>whnf);refine And.intro (by kernel_rfl) ?_;(conv=>whnf);obtain rfl:=Option.some.inj h;exact lfP [.s [(5001,6001),(5002,7001),(5003,8001),(5004,9001),(5005,10001),(5006,11001),(6001,5001),(7001,5002),(8001,5003),(9001,5004),(10001,5005),(11001,5006)]]
noncomputable def impl_TreeWorld_put_m (a0:TreeWorld) (a1:TreeWord):Option (TreeWorld) :=
(if (decide (((a0.Radio.length:Nat):Int)<12)) = true then
 gd (((a0.Radio.length)+(([a1]:List TreeWord).length)) * (40+1)≤70368744177664) <|
 some ({ a0 with Radio:=(a0.Radio ++ ([a1]:List TreeWord)) })
else
 some a0)
theorem impl_TreeWorld_put_c {a0:TreeWorld} {a1:TreeWord} {r:TreeWorld} (h:impl_TreeWorld_put_m a0 a1 = some r):EffC Try.prog 91 [.ref 9000 0 0,.agg [.d (.int .i64 a1.Link),.d (.int .i64 a1.End),.d (.int .i64 a1.Vector.Root),.d (.int .i64 a1.Vector.Cost),.d (.int .i64 a1.Vector.Age)]] [(9000,.box 29 [.d (slD TreeBridge.enc a0.Bridges),.d (slD TreeLink.enc a0.Links),.d (slD encInt a0.Down),.d (slD TreeSlot.enc a0.AtA),.d (slD TreeSlot.enc a0.AtB),.osl 9001 0 a0.Radio.length]),(9001,.arr 76 5 a0.Radio.length (rows TreeWord.enc a0.Radio))] (.tup []) [(9000,.box 29 [.d (slD TreeBridge.enc a0.Bridges),.d (slD TreeLink.enc a0.Links),.d (slD encInt a0.Down),.d (slD TreeSlot.enc a0.AtA),.d (slD TreeSlot.enc a0.AtB),.osl 5001 0 r.Radio.length]),(5001,.arr 76 5 r.Radio.length (rows TreeWord.enc r.Radio))]:=by
  refine effC_x tOk (fn:=Try.f91) (c:=codeOf Try.f91) rfl rfl ?_;unfold impl_TreeWorld_put_m at h;(conv=>whnf);refine andI h (fun _ h=>?_) (fun _ h=>?_)
  · (conv=>whnf);obtain ⟨g1,h⟩:=gd_some h;refine draw_t tOk [.a 7 [(9001,.arr 76 5 a0.Radio.length (rows TreeWord.enc a0.Radio))] (.osl 17 0 ((a0.Radio ++ ([a1]:List TreeWord)).length)) [(17,.arr 76 5 ((a0.Radio ++ ([a1]:List TreeWord)).length) (rows TreeWord.enc (a0.Radio ++ ([a1]:List TreeWord))))]] 10 [] [0,0,2,6,14,0,32,126,255,511] [1023] [9001] ?_;(conv=>whnf);refine bldS (enc:=TreeWord.enc) ([a1]:List TreeWord) ?_;(conv=>whnf);refine And.intro (by (conv=>whnf); exact ⟨g1,appS (enc:=TreeWord.enc) (xs:=a0.Radio) (ys:=([a1]:List TreeWord)) ⟨rfl,rfl⟩⟩) ?_;(conv=>whnf);refine And.intro (by kernel_rfl) ?_;(conv=>whnf);obtain rfl:=Option.some.inj h;exact lfE [.s [(17,5001),(5001,17)]]
  · (conv=>whnf);obtain rfl:=Option.some.inj h;exact lfE [.s [(5001,9001),(9001,5001)]]
noncomputable def slices_Delete_TreeWord_TreeWord_m (a0:(List TreeWord)) (a1:Int) (a2:Int):Option ((List TreeWord)) :=
 gd (0≤a1∧a1≤a2∧a2≤a0.length) <|
 some (delL a0 a1.toNat a2.toNat)
theorem slices_Delete_TreeWord_TreeWord_c {a0:(List TreeWord)} {a1:Int} {a2:Int} {r:(List TreeWord)} (h:slices_Delete_TreeWord_TreeWord_m a0 a1 a2 = some r):EffC Try.prog 92 [.osl 9000 0 a0.length,.d (.int .i64 a1),.d (.int .i64 a2)] [(9000,.arr 76 5 a0.length (rows TreeWord.enc a0))] (.osl 5001 0 r.length) [(5001,.arr 76 5 r.length (rows TreeWord.enc r))]:=by
  unfold slices_Delete_TreeWord_TreeWord_m at h;have L:LDel Try.prog ⟨fun x=>match x with | 45=>92 | _=>0,fun x=>match x with | 0=>0 | 3=>3 | 4=>4 | 22=>27 | 23=>76 | _=>0,fun x=>x⟩ 5 (.agg #[.int .i64 0,.int .i64 0,.int .i64 0,.int .i64 0,.int .i64 0]):=⟨by kernel_rfl,⟨Try.f92.name,by kernel_rfl,by kernel_rfl⟩,by kernel_rfl,fun w=>by kernel_rfl,fun w=>by kernel_rfl,fun w=>by kernel_rfl,by kernel_rfl,fun w=>by kernel_rfl,fun w=>by kernel_rfl,fun w=>by kernel_rfl,by kernel_rfl,fun w=>by kernel_rfl,fun w=>by kernel_rfl,fun w=>by kernel_rfl,by kernel_rfl,fun w=>by kernel_rfl,fun w=>by kernel_rfl,fun w=>by kernel_rfl,⟨_,rfl,rfl⟩,fun w=>by kernel_rfl,fun w=>by kernel_rfl,by kernel_rfl,fun u hu=>List.all_eq_true.1 (by kernel_rfl:(List.all (Value.cells (.agg #[.int .i64 0,.int .i64 0,.int .i64 0,.int .i64 0,.int .i64 0])).toList Value.oneCell') = true) u hu⟩;obtain ⟨g,h⟩:=gd_some h;obtain rfl:=Option.some.inj h;have k:=effC_del (t:=76) (enc:=TreeWord.enc) L (canOf (fn:=Try.f92) (c:=codeOf Try.f92) rfl rfl (by kernel_rfl)) (fun _=>rfl) (xs:=a0) (i:=a1.toNat) (j:=a2.toNat) (by omega) (by omega);rw [show ((a1.toNat:Nat):Int) = a1 by omega,show ((a2.toNat:Nat):Int) = a2 by omega] at k;exact k
noncomputable def impl_selfMind_m (a0:Int):Option (TreeMind) :=
 some (⟨(⟨a0,0,0⟩:TreeVector),-1⟩:TreeMind)
theorem impl_selfMind_c {a0:Int} {r:TreeMind} (h:impl_selfMind_m a0 = some r):PureC Try.prog 95 [.d (.int .i64 a0)] (.agg [.d (.int .i64 r.Vector.Root),.d (.int .i64 r.Vector.Cost),.d (.int .i64 r.Vector.Age),.d (.int .i64 r.Link)]) []:=by
  refine pureC_x tOk (fn:=Try.f95) (c:=codeOf Try.f95) rfl rfl ?_;unfold impl_selfMind_m at h;(conv=>whnf);obtain rfl:=Option.some.inj h;exact lfP []
noncomputable def impl_TreeVector_compare_m (a0:TreeVector) (a1:TreeVector):Option (Int) :=
(if (a0.Root != a1.Root) = true then
 some (IntKind.i64.wrap (a0.Root - a1.Root))
else
 some (IntKind.i64.wrap (a0.Cost - a1.Cost)))
theorem impl_TreeVector_compare_c {a0:TreeVector} {a1:TreeVector} {r:Int} (h:impl_TreeVector_compare_m a0 a1 = some r):PureC Try.prog 136 [.agg [.d (.int .i64 a0.Root),.d (.int .i64 a0.Cost),.d (.int .i64 a0.Age)],.agg [.d (.int .i64 a1.Root),.d (.int .i64 a1.Cost),.d (.int .i64 a1.Age)]] (.d (.int .i64 r)) []:=by
  refine pureC_x tOk (fn:=Try.f136) (c:=codeOf Try.f136) rfl rfl ?_;unfold impl_TreeVector_compare_m at h;(conv=>whnf);refine seq_in tOk ?_;(conv=>whnf);refine andI h (fun _ h=>?_) (fun _ h=>?_)
  · (conv=>whnf);obtain rfl:=Option.some.inj h;exact lfP []
  · (conv=>whnf);obtain rfl:=Option.some.inj h;exact lfP []
end Go.Proofs.Ythgcnnkjojemdaa
