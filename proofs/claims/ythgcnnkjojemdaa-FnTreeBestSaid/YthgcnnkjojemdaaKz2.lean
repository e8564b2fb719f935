/-
  What some of the program's functions compute: their models, and that the functions compute these; no condition.
-/
import Derived.Test.YthgcnnkjojemdaaTyz
import Derived.Test.YthgcnnkjojemdaaTbz
import Derived.Test.YthgcnnkjojemdaaKz1
set_option linter.all false
namespace Go.Proofs.Ythgcnnkjojemdaa
open Go Go.Ab
set_option maxRecDepth 100000
set_option maxHeartbeats 4000000
noncomputable def spec_l83Open_m (a0:TreeWorld) (a1:Int):Option (Bool) :=
 bd (spec_l82Has_m a0.Down a1) fun x1 =>
 gd ((!x1) = true → ((0:Int)≤a1∧a1<((a0.Links.length:Nat):Int))) <|
 gd ((!x1) = true → ((0:Int)≤(a0.Links.getD a1.toNat default).A∧(a0.Links.getD a1.toNat default).A<((a0.Bridges.length:Nat):Int))) <|
 gd (((!x1) && (a0.Bridges.getD (((a0.Links.getD a1.toNat default).A).toNat) default).Up) = true → ((0:Int)≤a1∧a1<((a0.Links.length:Nat):Int))) <|
 gd (((!x1) && (a0.Bridges.getD (((a0.Links.getD a1.toNat default).A).toNat) default).Up) = true → ((0:Int)≤(a0.Links.getD a1.toNat default).B∧(a0.Links.getD a1.toNat default).B<((a0.Bridges.length:Nat):Int))) <|
 some (((!x1) && (a0.Bridges.getD (((a0.Links.getD a1.toNat default).A).toNat) default).Up) && (a0.Bridges.getD (((a0.Links.getD a1.toNat default).B).toNat) default).Up)
theorem spec_l83Open_c {a0:TreeWorld} {a1:Int} {r:Bool} (h:spec_l83Open_m a0 a1 = some r):PureC Try.prog 111 [.agg [.d (slD TreeBridge.enc a0.Bridges),.d (slD TreeLink.enc a0.Links),.d (slD encInt a0.Down),.d (slD TreeSlot.enc a0.AtA),.d (slD TreeSlot.enc a0.AtB),.d (slD TreeWord.enc a0.Radio)],.d (.int .i64 a1)] (.d (.bool r)) []:=by
  refine pureC_x tOk (fn:=Try.f111) (c:=codeOf Try.f111) rfl rfl ?_;unfold spec_l83Open_m at h;(conv=>whnf);obtain ⟨x1,hx1,h⟩:=bd_some h;obtain ⟨g2,h⟩:=gd_some h;obtain ⟨g3,h⟩:=gd_some h;obtain ⟨g4,h⟩:=gd_some h;obtain ⟨g5,h⟩:=gd_some h;refine draw_u tOk [.u 3 0 (.d (.bool x1)) []] 32 [] [0,1,0,7,15,31,63,127,63,319,63,1855,3903,7999,16383,32767,65535,131071,262143,524287,1048575,524287,2621439,524287,15204351,31981567,65535999,134217727,268435455,536870911,1073741823,2147483647] [] ?_;(conv=>whnf);refine And.intro (callD_any (spec_l82Has_c hx1) (by kernel_rfl)) ?_;(conv=>whnf);refine And.intro g2 ?_;clear g2;(conv=>whnf);refine And.intro g3 ?_;clear g3;(conv=>whnf);refine And.intro g4 ?_;clear g4;(conv=>whnf);refine And.intro g5 ?_;clear g5;(conv=>whnf);refine And.intro (by kernel_rfl) ?_;(conv=>whnf);obtain rfl:=Option.some.inj h;exact lfP []
noncomputable def spec_l83Word_m (a0:TreeWorld) (a1:Int) (a2:Int):Option (TreeWord) :=
 bd (spec_l83End_m a0 a1 (IntKind.i64.wrap (1 - a2))) fun x1 =>
 gd ((0:Int)≤x1∧x1<((a0.Bridges.length:Nat):Int)) <|
 some (⟨a1,a2,(((a0.Bridges.getD x1.toNat default).Mind).Vector)⟩:TreeWord)
theorem spec_l83Word_c {a0:TreeWorld} {a1:Int} {a2:Int} {r:TreeWord} (h:spec_l83Word_m a0 a1 a2 = some r):PureC Try.prog 113 [.agg [.d (slD TreeBridge.enc a0.Bridges),.d (slD TreeLink.enc a0.Links),.d (slD encInt a0.Down),.d (slD TreeSlot.enc a0.AtA),.d (slD TreeSlot.enc a0.AtB),.d (slD TreeWord.enc a0.Radio)],.d (.int .i64 a1),.d (.int .i64 a2)] (.agg [.d (.int .i64 r.Link),.d (.int .i64 r.End),.d (.int .i64 r.Vector.Root),.d (.int .i64 r.Vector.Cost),.d (.int .i64 r.Vector.Age)]) []:=by
  refine pureC_x tOk (fn:=Try.f113) (c:=codeOf Try.f113) rfl rfl ?_;unfold spec_l83Word_m at h;(conv=>whnf);obtain ⟨x1,hx1,h⟩:=bd_some h;obtain ⟨g2,h⟩:=gd_some h;refine draw_u tOk [.u 8 0 (.d (.int .i64 x1)) []] 14 [] [0,0,0,4,0,0,0,64,240,508,1020,2044,4092,8191] [16383] ?_;(conv=>whnf);refine And.intro (callD_any (spec_l83End_c hx1) (by kernel_rfl)) ?_;(conv=>whnf);refine And.intro g2 ?_;clear g2;(conv=>whnf);refine And.intro (by kernel_rfl) ?_;(conv=>whnf);obtain rfl:=Option.some.inj h;exact lfP []
noncomputable def spec_l83Older_m (a0:TreeSlot):Option (TreeSlot) :=
(if (decide (a0.Left≤1)) = true then
 some (⟨(⟨0,0,0⟩:TreeVector),0⟩:TreeSlot)
else
 some (⟨a0.Vector,IntKind.i64.wrap (a0.Left - 1)⟩:TreeSlot))
theorem spec_l83Older_c {a0:TreeSlot} {r:TreeSlot} (h:spec_l83Older_m a0 = some r):PureC Try.prog 130 [.agg [.d (.int .i64 a0.Vector.Root),.d (.int .i64 a0.Vector.Cost),.d (.int .i64 a0.Vector.Age),.d (.int .i64 a0.Left)]] (.agg [.d (.int .i64 r.Vector.Root),.d (.int .i64 r.Vector.Cost),.d (.int .i64 r.Vector.Age),.d (.int .i64 r.Left)]) []:=by
  refine pureC_x tOk (fn:=Try.f130) (c:=codeOf Try.f130) rfl rfl ?_;unfold spec_l83Older_m at h;(conv=>whnf);refine seq_in tOk ?_;(conv=>whnf);refine andI h (fun _ h=>?_) (fun _ h=>?_)
  · (conv=>whnf);obtain rfl:=Option.some.inj h;exact lfP []
  · (conv=>whnf);obtain rfl:=Option.some.inj h;exact lfP []
noncomputable def spec_l83Tick_m (a0:TreeWorld):Option (TreeWorld) :=
 bd (lp (σ:=List TreeSlot × List TreeSlot × Int) (β:=(Nat × Nat × (List TreeSlot) × (List TreeSlot))) (fun s1 =>
(if (decide (s1.2.2<((a0.Links.length:Nat):Int))) = true then
 gd ((0:Int)≤s1.2.2∧s1.2.2<((s1.1.length:Nat):Int)) <|
 bd (spec_l83Older_m (⟨((s1.1.getD s1.2.2.toNat default).Vector),(s1.1.getD s1.2.2.toNat default).Left⟩:TreeSlot)) fun x6 =>
 gd ((0:Int)≤s1.2.2∧s1.2.2<((s1.1.length:Nat):Int)) <|
 gd ((0:Int)≤s1.2.2∧s1.2.2<((s1.2.1.length:Nat):Int)) <|
 bd (spec_l83Older_m (⟨((s1.2.1.getD s1.2.2.toNat default).Vector),(s1.2.1.getD s1.2.2.toNat default).Left⟩:TreeSlot)) fun x9 =>
 gd ((0:Int)≤s1.2.2∧s1.2.2<((s1.2.1.length:Nat):Int)) <|
 some (.inl (s1.1.set s1.2.2.toNat x6,s1.2.1.set s1.2.2.toNat x9,IntKind.i64.wrap (s1.2.2+1)))
else
 some (.inr (s1.1.length,s1.2.1.length,s1.1,s1.2.1)))) (a0.AtA,a0.AtB,0)) fun x4 =>
 bd (lp (σ:=List TreeBridge × List TreeLink × List Int × List TreeSlot × List TreeSlot × List TreeWord × Int) (β:=(Nat × (List TreeLink) × (List Int) × (List TreeSlot) × (List TreeSlot) × (List TreeWord) × (List TreeBridge))) (fun s12 =>
(if (decide (s12.2.2.2.2.2.2<((s12.1.length:Nat):Int))) = true then
 bd (spec_l83Thinks_m (⟨s12.1,s12.2.1,s12.2.2.1,s12.2.2.2.1,s12.2.2.2.2.1,s12.2.2.2.2.2.1⟩:TreeWorld) s12.2.2.2.2.2.2) fun x16 =>
 some (.inl (x16.Bridges,x16.Links,x16.Down,x16.AtA,x16.AtB,x16.Radio,IntKind.i64.wrap (s12.2.2.2.2.2.2+1)))
else
 some (.inr (s12.1.length,s12.2.1,s12.2.2.1,s12.2.2.2.1,s12.2.2.2.2.1,s12.2.2.2.2.2.1,s12.1)))) (a0.Bridges,a0.Links,a0.Down,x4.2.2.1,x4.2.2.2,a0.Radio,0)) fun x15 =>
 some (⟨x15.2.2.2.2.2.2,x15.2.1,x15.2.2.1,x15.2.2.2.1,x15.2.2.2.2.1,x15.2.2.2.2.2.1⟩:TreeWorld)
theorem spec_l83Tick_c {a0:TreeWorld} {r:TreeWorld} (h:spec_l83Tick_m a0 = some r):EffC Try.prog 101 [.agg [.osl 9000 0 a0.Bridges.length,.d (slD TreeLink.enc a0.Links),.d (slD encInt a0.Down),.osl 9001 0 a0.AtA.length,.osl 9002 0 a0.AtB.length,.d (slD TreeWord.enc a0.Radio)]] [(9000,.arr 43 6 a0.Bridges.length (rows TreeBridge.enc a0.Bridges)),(9001,.arr 107 4 a0.AtA.length (rows TreeSlot.enc a0.AtA)),(9002,.arr 107 4 a0.AtB.length (rows TreeSlot.enc a0.AtB))] (.agg [.osl 5001 0 r.Bridges.length,.d (slD TreeLink.enc r.Links),.d (slD encInt r.Down),.d (slD TreeSlot.enc r.AtA),.d (slD TreeSlot.enc r.AtB),.d (slD TreeWord.enc r.Radio)]) [(5001,.arr 43 6 r.Bridges.length (rows TreeBridge.enc r.Bridges))]:=by
  refine effC_x tOk (fn:=Try.f101) (c:=codeOf Try.f101) rfl rfl ?_;unfold spec_l83Tick_m at h;(conv=>whnf);refine seq_in tOk ?_;(conv=>whnf);obtain ⟨x4,hx4,h⟩:=bd_some h;refine loop_m tOk hx4 (fun s1=>⟨0,43,[(1,.ref 1 0 0),(2,.ref 2 0 0),(3,.d (.int .i64 s1.2.2))],[],[(2,.box 29 [.d (.nil),.d (.nil),.d (.nil),.d (.nil),.d (.nil),.d (.nil)]),(1,.box 29 [.osl 9000 0 a0.Bridges.length,.d (slD TreeLink.enc a0.Links),.d (slD encInt a0.Down),.osl 9001 0 s1.1.length,.osl 9002 0 s1.2.1.length,.d (slD TreeWord.enc a0.Radio)]),(9000,.arr 43 6 a0.Bridges.length (rows TreeBridge.enc a0.Bridges)),(9001,.arr 107 4 s1.1.length (rows TreeSlot.enc s1.1)),(9002,.arr 107 4 s1.2.1.length (rows TreeSlot.enc s1.2.1))],[⟨[],[]⟩]⟩) ?_ ?_
  · exact leX []
  · clear hx4;intro s1 y2 g3 hy2;(conv=>whnf);refine seq_in tOk ?_;(conv=>whnf);refine andI g3 (fun _ g3=>?_) (fun _ g3=>?_)
    · (conv=>whnf);refine seq_in tOk ?_;(conv=>whnf);obtain ⟨g5,g3⟩:=gd_some g3;obtain ⟨x6,hx6,g3⟩:=bd_some g3;obtain ⟨g7,g3⟩:=gd_some g3;refine draw_u tOk [.u 8 0 (.agg [.d (.int .i64 x6.Vector.Root),.d (.int .i64 x6.Vector.Cost),.d (.int .i64 x6.Vector.Age),.d (.int .i64 x6.Left)]) []] 10 [] [0,1,0,0,8,0,56,120,248,511] [1023] ?_;(conv=>whnf);refine And.intro g5 ?_;clear g5;(conv=>whnf);refine And.intro (callD_any (spec_l83Older_c hx6) (by kernel_rfl)) ?_;(conv=>whnf);refine And.intro g7 ?_;clear g7;(conv=>whnf);refine And.intro (by kernel_rfl) ?_;(conv=>whnf);refine ⟨rows TreeSlot.enc (s1.1.set s1.2.2.toNat x6),store_rows' lenA rfl,?_⟩;(conv=>whnf);obtain ⟨g8,g3⟩:=gd_some g3;obtain ⟨x9,hx9,g3⟩:=bd_some g3;obtain ⟨g10,g3⟩:=gd_some g3;refine draw_u tOk [.u 8 0 (.agg [.d (.int .i64 x9.Vector.Root),.d (.int .i64 x9.Vector.Cost),.d (.int .i64 x9.Vector.Age),.d (.int .i64 x9.Left)]) []] 10 [] [0,1,0,0,8,0,56,120,248,511] [1023] ?_;(conv=>whnf);refine And.intro g8 ?_;clear g8;(conv=>whnf);refine And.intro (callD_any (spec_l83Older_c hx9) (by kernel_rfl)) ?_;(conv=>whnf);refine And.intro g10 ?_;clear g10;(conv=>whnf);refine And.intro (by kernel_rfl) ?_;(conv=>whnf);refine ⟨rows TreeSlot.enc (s1.2.1.set s1.2.2.toNat x9),store_rows' lenA rfl,?_⟩;(conv=>whnf);obtain rfl:=Option.some.inj g3;exact ⟨_,rfl,leX []⟩
    · (conv=>whnf);obtain rfl:=Option.some.inj g3;obtain rfl:=hy2 _ rfl;refine seq_in tOk ?_;(conv=>whnf);obtain ⟨x15,hx15,h⟩:=bd_some h;refine loop_m tOk hx15 (fun s12=>⟨0,43,[(1,.ref 1 0 0),(2,.ref 2 0 0),(4,.d (.int .i64 s12.2.2.2.2.2.2))],[],[(2,.box 29 [.d (.nil),.d (.nil),.d (.nil),.d (.nil),.d (.nil),.d (.nil)]),(1,.box 29 [.osl 9000 0 s12.1.length,.d (slD TreeLink.enc s12.2.1),.d (slD encInt s12.2.2.1),.d (slD TreeSlot.enc s12.2.2.2.1),.d (slD TreeSlot.enc s12.2.2.2.2.1),.d (slD TreeWord.enc s12.2.2.2.2.2.1)]),(9000,.arr 43 6 s12.1.length (rows TreeBridge.enc s12.1))],[⟨[],[]⟩]⟩) ?_ ?_
      · exact leX [.f [9001,9002]]
      · clear hx15;intro s12 y13 g14 hy13;(conv=>whnf);refine seq_in tOk ?_;(conv=>whnf);refine andI g14 (fun _ g14=>?_) (fun _ g14=>?_)
        · (conv=>whnf);refine seq_in tOk ?_;(conv=>whnf);obtain ⟨x16,hx16,g14⟩:=bd_some g14;refine cE [(9000,9000)] 1000 (spec_l83Thinks_c hx16) ?_;(conv=>whnf);obtain rfl:=Option.some.inj g14;exact ⟨_,rfl,leX [.s [(6001,9000),(9000,6001)]]⟩
        · (conv=>whnf);obtain rfl:=Option.some.inj g14;obtain rfl:=hy13 _ rfl;obtain rfl:=Option.some.inj h;exact lfE [.s [(5001,9000),(9000,5001)]]
noncomputable def spec_l82Copy_o03_04_05_m (a0:TreeWorld):Option (TreeWorld) :=
 gd (((0)+(a0.Bridges.length)) * (48+1)≤70368744177664) <|
 gd (((0)+(a0.Links.length)) * (24+1)≤70368744177664) <|
 gd (((0)+(a0.Down.length)) * (8+1)≤70368744177664) <|
 gd (((0)+(a0.AtA.length)) * (32+1)≤70368744177664) <|
 gd (((0)+(a0.AtB.length)) * (32+1)≤70368744177664) <|
 gd (((0)+(a0.Radio.length)) * (40+1)≤70368744177664) <|
 some a0
theorem spec_l82Copy_o03_04_05_c {a0:TreeWorld} {r:TreeWorld} (h:spec_l82Copy_o03_04_05_m a0 = some r):EffC Try.prog 51 [.agg [.d (slD TreeBridge.enc a0.Bridges),.d (slD TreeLink.enc a0.Links),.d (slD encInt a0.Down),.d (slD TreeSlot.enc a0.AtA),.d (slD TreeSlot.enc a0.AtB),.d (slD TreeWord.enc a0.Radio)]] [] (.agg [.osl 5001 0 r.Bridges.length,.osl 5002 0 r.Links.length,.osl 5003 0 r.Down.length,.osl 5004 0 r.AtA.length,.osl 5005 0 r.AtB.length,.osl 5006 0 r.Radio.length]) [(5001,.arr 43 6 r.Bridges.length (rows TreeBridge.enc r.Bridges)),(5002,.arr 46 3 r.Links.length (rows TreeLink.enc r.Links)),(5003,.arr 3 1 r.Down.length (rows encInt r.Down)),(5004,.arr 107 4 r.AtA.length (rows TreeSlot.enc r.AtA)),(5005,.arr 107 4 r.AtB.length (rows TreeSlot.enc r.AtB)),(5006,.arr 76 5 r.Radio.length (rows TreeWord.enc r.Radio))]:=by
  have k:spec_l82Copy_m a0 = some r:=h;exact PureC.eff (spec_l82Copy_c k) rfl rfl
noncomputable def spec_l83Thinks_r03_04_05_m (a0:TreeWorld) (a1:Int):Option (TreeWorld) :=
 gd ((0:Int)≤a1∧a1<((a0.Bridges.length:Nat):Int)) <|
(if (a0.Bridges.getD a1.toNat default).Up = true then
 bd (spec_l82Think_m a0 a1) fun x2 =>
 gd ((0:Int)≤a1∧a1<((a0.Bridges.length:Nat):Int)) <|
 some ({ a0 with Bridges:=a0.Bridges.set a1.toNat ({ (a0.Bridges.getD a1.toNat default) with Mind:=x2 }) })
else
 some a0)
theorem spec_l83Thinks_r03_04_05_c {a0:TreeWorld} {a1:Int} {r:TreeWorld} (h:spec_l83Thinks_r03_04_05_m a0 a1 = some r):EffC Try.prog 131 [.agg [.osl 9000 0 a0.Bridges.length,.d (slD TreeLink.enc a0.Links),.d (slD encInt a0.Down),.osl 9001 0 a0.AtA.length,.osl 9002 0 a0.AtB.length,.osl 9003 0 a0.Radio.length],.d (.int .i64 a1)] [(9000,.arr 43 6 a0.Bridges.length (rows TreeBridge.enc a0.Bridges)),(9001,.arr 107 4 a0.AtA.length (rows TreeSlot.enc a0.AtA)),(9002,.arr 107 4 a0.AtB.length (rows TreeSlot.enc a0.AtB)),(9003,.arr 76 5 a0.Radio.length (rows TreeWord.enc a0.Radio))] (.agg [.osl 5001 0 r.Bridges.length,.d (slD TreeLink.enc r.Links),.d (slD encInt r.Down),.osl 5002 0 r.AtA.length,.osl 5003 0 r.AtB.length,.osl 5004 0 r.Radio.length]) [(5001,.arr 43 6 r.Bridges.length (rows TreeBridge.enc r.Bridges)),(5002,.arr 107 4 r.AtA.length (rows TreeSlot.enc r.AtA)),(5003,.arr 107 4 r.AtB.length (rows TreeSlot.enc r.AtB)),(5004,.arr 76 5 r.Radio.length (rows TreeWord.enc r.Radio))]:=by
  refine effC_x tOk (fn:=Try.f131) (c:=codeOf Try.f131) rfl rfl ?_;unfold spec_l83Thinks_r03_04_05_m at h;(conv=>whnf);refine seq_in tOk ?_;(conv=>whnf);refine gdI h (fun h=>?_);(conv=>whnf);refine andI h (fun _ h=>?_) (fun _ h=>?_)
  · (conv=>whnf);obtain ⟨x2,hx2,h⟩:=bd_some h;obtain ⟨g3,h⟩:=gd_some h;refine draw_u tOk [.u 5 0 (.agg [.d (.int .i64 x2.Vector.Root),.d (.int .i64 x2.Vector.Cost),.d (.int .i64 x2.Vector.Age),.d (.int .i64 x2.Link)]) []] 8 [] [0,1,0,0,0,24,63,127] [255] ?_;(conv=>whnf);refine And.intro (callD_any (spec_l82Think_c hx2) (by kernel_rfl)) ?_;(conv=>whnf);refine And.intro g3 ?_;clear g3;(conv=>whnf);refine And.intro (by kernel_rfl) ?_;(conv=>whnf);refine ⟨rows TreeBridge.enc (a0.Bridges.set a1.toNat ({ (a0.Bridges.getD a1.toNat default) with Mind:=x2 })),store_rows' lenA rfl,?_⟩;(conv=>whnf);obtain rfl:=Option.some.inj h;exact lfE [.s [(5001,9000),(5002,9001),(5003,9002),(5004,9003),(9000,5001),(9001,5002),(9002,5003),(9003,5004)]]
  · (conv=>whnf);obtain rfl:=Option.some.inj h;exact lfE [.s [(5001,9000),(5002,9001),(5003,9002),(5004,9003),(9000,5001),(9001,5002),(9002,5003),(9003,5004)]]
noncomputable def spec_l83Tick_o03_04_05_m (a0:TreeWorld):Option (TreeWorld) :=
 bd (lp (σ:=List TreeSlot × List TreeSlot × Int) (β:=(Nat × Nat × (List TreeSlot) × (List TreeSlot))) (fun s1 =>
(if (decide (s1.2.2<((a0.Links.length:Nat):Int))) = true then
 gd ((0:Int)≤s1.2.2∧s1.2.2<((s1.1.length:Nat):Int)) <|
 bd (spec_l83Older_m (⟨((s1.1.getD s1.2.2.toNat default).Vector),(s1.1.getD s1.2.2.toNat default).Left⟩:TreeSlot)) fun x6 =>
 gd ((0:Int)≤s1.2.2∧s1.2.2<((s1.1.length:Nat):Int)) <|
 gd ((0:Int)≤s1.2.2∧s1.2.2<((s1.2.1.length:Nat):Int)) <|
 bd (spec_l83Older_m (⟨((s1.2.1.getD s1.2.2.toNat default).Vector),(s1.2.1.getD s1.2.2.toNat default).Left⟩:TreeSlot)) fun x9 =>
 gd ((0:Int)≤s1.2.2∧s1.2.2<((s1.2.1.length:Nat):Int)) <|
 some (.inl (s1.1.set s1.2.2.toNat x6,s1.2.1.set s1.2.2.toNat x9,IntKind.i64.wrap (s1.2.2+1)))
else
 some (.inr (s1.1.length,s1.2.1.length,s1.1,s1.2.1)))) (a0.AtA,a0.AtB,0)) fun x4 =>
 bd (lp (σ:=List TreeBridge × List TreeSlot × List TreeSlot × List TreeWord × List TreeLink × List Int × Int) (β:=(Nat × (List TreeLink) × (List Int) × Nat × Nat × Nat × (List TreeBridge) × (List TreeSlot) × (List TreeSlot) × (List TreeWord))) (fun s12 =>
(if (decide (s12.2.2.2.2.2.2<((s12.1.length:Nat):Int))) = true then
 bd (spec_l83Thinks_r03_04_05_m (⟨s12.1,s12.2.2.2.2.1,s12.2.2.2.2.2.1,s12.2.1,s12.2.2.1,s12.2.2.2.1⟩:TreeWorld) s12.2.2.2.2.2.2) fun x16 =>
 some (.inl (x16.Bridges,x16.AtA,x16.AtB,x16.Radio,x16.Links,x16.Down,IntKind.i64.wrap (s12.2.2.2.2.2.2+1)))
else
 some (.inr (s12.1.length,s12.2.2.2.2.1,s12.2.2.2.2.2.1,s12.2.1.length,s12.2.2.1.length,s12.2.2.2.1.length,s12.1,s12.2.1,s12.2.2.1,s12.2.2.2.1)))) (a0.Bridges,x4.2.2.1,x4.2.2.2,a0.Radio,a0.Links,a0.Down,0)) fun x15 =>
 some (⟨x15.2.2.2.2.2.2.1,x15.2.1,x15.2.2.1,x15.2.2.2.2.2.2.2.1,x15.2.2.2.2.2.2.2.2.1,x15.2.2.2.2.2.2.2.2.2⟩:TreeWorld)
theorem spec_l83Tick_o03_04_05_c {a0:TreeWorld} {r:TreeWorld} (h:spec_l83Tick_o03_04_05_m a0 = some r):EffC Try.prog 101 [.agg [.osl 9000 0 a0.Bridges.length,.d (slD TreeLink.enc a0.Links),.d (slD encInt a0.Down),.osl 9001 0 a0.AtA.length,.osl 9002 0 a0.AtB.length,.osl 9003 0 a0.Radio.length]] [(9000,.arr 43 6 a0.Bridges.length (rows TreeBridge.enc a0.Bridges)),(9001,.arr 107 4 a0.AtA.length (rows TreeSlot.enc a0.AtA)),(9002,.arr 107 4 a0.AtB.length (rows TreeSlot.enc a0.AtB)),(9003,.arr 76 5 a0.Radio.length (rows TreeWord.enc a0.Radio))] (.agg [.osl 5001 0 r.Bridges.length,.d (slD TreeLink.enc r.Links),.d (slD encInt r.Down),.osl 5002 0 r.AtA.length,.osl 5003 0 r.AtB.length,.osl 5004 0 r.Radio.length]) [(5001,.arr 43 6 r.Bridges.length (rows TreeBridge.enc r.Bridges)),(5002,.arr 107 4 r.AtA.length (rows TreeSlot.enc r.AtA)),(5003,.arr 107 4 r.AtB.length (rows TreeSlot.enc r.AtB)),(5004,.arr 76 5 r.Radio.length (rows TreeWord.enc r.Radio))]:=by
  refine effC_x tOk (fn:=Try.f101) (c:=codeOf Try.f101) rfl rfl ?_;unfold spec_l83Tick_o03_04_05_m at h;(conv=>whnf);refine seq_in tOk ?_;(conv=>whnf);obtain ⟨x4,hx4,h⟩:=bd_some h;refine loop_m tOk hx4 (fun s1=>⟨0,43,[(1,.ref 1 0 0),(2,.ref 2 0 0),(3,.d (.int .i64 s1.2.2))],[],[(2,.box 29 [.d (.nil),.d (.nil),.d (.nil),.d (.nil),.d (.nil),.d (.nil)]),(1,.box 29 [.osl 9000 0 a0.Bridges.length,.d (slD TreeLink.enc a0.Links),.d (slD encInt a0.Down),.osl 9001 0 s1.1.length,.osl 9002 0 s1.2.1.length,.osl 9003 0 a0.Radio.length]),(9000,.arr 43 6 a0.Bridges.length (rows TreeBridge.enc a0.Bridges)),(9001,.arr 107 4 s1.1.length (rows TreeSlot.enc s1.1)),(9002,.arr 107 4 s1.2.1.length (rows TreeSlot.enc s1.2.1)),(9003,.arr 76 5 a0.Radio.length (rows TreeWord.enc a0.Radio))],[⟨[],[]⟩]⟩) ?_ ?_
  · exact leX []
  · clear hx4;intro s1 y2 g3 hy2;(conv=>whnf);refine seq_in tOk ?_;(conv=>whnf);refine andI g3 (fun _ g3=>?_) (fun _ g3=>?_)
    · (conv=>whnf);refine seq_in tOk ?_;(conv=>whnf);obtain ⟨g5,g3⟩:=gd_some g3;obtain ⟨x6,hx6,g3⟩:=bd_some g3;obtain ⟨g7,g3⟩:=gd_some g3;refine draw_u tOk [.u 8 0 (.agg [.d (.int .i64 x6.Vector.Root),.d (.int .i64 x6.Vector.Cost),.d (.int .i64 x6.Vector.Age),.d (.int .i64 x6.Left)]) []] 10 [] [0,1,0,0,8,0,56,120,248,511] [1023] ?_;(conv=>whnf);refine And.intro g5 ?_;clear g5;(conv=>whnf);refine And.intro (callD_any (spec_l83Older_c hx6) (by kernel_rfl)) ?_;(conv=>whnf);refine And.intro g7 ?_;clear g7;(conv=>whnf);refine And.intro (by kernel_rfl) ?_;(conv=>whnf);refine ⟨rows TreeSlot.enc (s1.1.set s1.2.2.toNat x6),store_rows' lenA rfl,?_⟩;(conv=>whnf);obtain ⟨g8,g3⟩:=gd_some g3;obtain ⟨x9,hx9,g3⟩:=bd_some g3;obtain ⟨g10,g3⟩:=gd_some g3;refine draw_u tOk [.u 8 0 (.agg [.d (.int .i64 x9.Vector.Root),.d (.int .i64 x9.Vector.Cost),.d (.int .i64 x9.Vector.Age),.d (.int .i64 x9.Left)]) []] 10 [] [0,1,0,0,8,0,56,120,248,511] [1023] ?_;(conv=>whnf);refine And.intro g8 ?_;clear g8;(conv=>whnf);refine And.intro (callD_any (spec_l83Older_c hx9) (by kernel_rfl)) ?_;(conv=>whnf);refine And.intro g10 ?_;clear g10;(conv=>whnf);refine And.intro (by kernel_rfl) ?_;(conv=>whnf);refine ⟨rows TreeSlot.enc (s1.2.1.set s1.2.2.toNat x9),store_rows' lenA rfl,?_⟩;(conv=>whnf);obtain rfl:=Option.some.inj g3;exact ⟨_,rfl,leX []⟩
    · (conv=>whnf);obtain rfl:=Option.some.inj g3;obtain rfl:=hy2 _ rfl;refine seq_in tOk ?_;(conv=>whnf);obtain ⟨x15,hx15,h⟩:=bd_some h;refine loop_m tOk hx15 (fun s12=>⟨0,43,[(1,.ref 1 0 0),(2,.ref 2 0 0),(4,.d (.int .i64 s12.2.2.2.2.2.2))],[],[(2,.box 29 [.d (.nil),.d (.nil),.d (.nil),.d (.nil),.d (.nil),.d (.nil)]),(1,.box 29 [.osl 9000 0 s12.1.length,.d (slD TreeLink.enc s12.2.2.2.2.1),.d (slD encInt s12.2.2.2.2.2.1),.osl 9001 0 s12.2.1.length,.osl 9002 0 s12.2.2.1.length,.osl 9003 0 s12.2.2.2.1.length]),(9000,.arr 43 6 s12.1.length (rows TreeBridge.enc s12.1)),(9001,.arr 107 4 s12.2.1.length (rows TreeSlot.enc s12.2.1)),(9002,.arr 107 4 s12.2.2.1.length (rows TreeSlot.enc s12.2.2.1)),(9003,.arr 76 5 s12.2.2.2.1.length (rows TreeWord.enc s12.2.2.2.1))],[⟨[],[]⟩]⟩) ?_ ?_
      · exact leX []
      · clear hx15;intro s12 y13 g14 hy13;(conv=>whnf);refine seq_in tOk ?_;(conv=>whnf);refine andI g14 (fun _ g14=>?_) (fun _ g14=>?_)
        · (conv=>whnf);refine seq_in tOk ?_;(conv=>whnf);obtain ⟨x16,hx16,g14⟩:=bd_some g14;refine cE [(9000,9000),(9001,9001),(9002,9002),(9003,9003)] 1000 (spec_l83Thinks_r03_04_05_c hx16) ?_;(conv=>whnf);obtain rfl:=Option.some.inj g14;exact ⟨_,rfl,leX [.s [(6001,9000),(6002,9001),(6003,9002),(6004,9003),(9000,6001),(9001,6002),(9002,6003),(9003,6004)]]⟩
        · (conv=>whnf);obtain rfl:=Option.some.inj g14;obtain rfl:=hy13 _ rfl;obtain rfl:=Option.some.inj h;exact lfE [.s [(5001,9000),(5002,9001),(5003,9002),(5004,9003),(9000,5001),(9001,5002),(9002,5003),(9003,5004)]]
noncomputable def spec_l83Round_o03_04_05_m (a0:TreeWorld) (a1:Int):Option (TreeWorld) :=
 bd (lp (σ:=List TreeBridge × List TreeSlot × List TreeSlot × List TreeWord × List TreeLink × List Int) (β:=(Nat × (List TreeLink) × (List Int) × Nat × Nat × Nat × (List TreeBridge) × (List TreeSlot) × (List TreeSlot) × (List TreeWord))) (fun s1 =>
(if (decide (((s1.2.2.2.1.length:Nat):Int) > 0)) = true then
 bd (spec_l83Words_o00_03_04_05_m (⟨s1.1,s1.2.2.2.2.1,s1.2.2.2.2.2,s1.2.1,s1.2.2.1,s1.2.2.2.1⟩:TreeWorld) (⟨2,0,0⟩:TreeEvent)) fun x5 =>
 some (.inl (x5.Bridges,x5.AtA,x5.AtB,x5.Radio,x5.Links,x5.Down))
else
 some (.inr (s1.1.length,s1.2.2.2.2.1,s1.2.2.2.2.2,s1.2.1.length,s1.2.2.1.length,s1.2.2.2.1.length,s1.1,s1.2.1,s1.2.2.1,s1.2.2.2.1)))) (a0.Bridges,a0.AtA,a0.AtB,a0.Radio,a0.Links,a0.Down)) fun x4 =>
 bd (lp (σ:=List TreeBridge × List TreeSlot × List TreeSlot × List TreeWord × List TreeLink × List Int × Int) (β:=(Nat × (List TreeLink) × (List Int) × Nat × Nat × Nat × (List TreeBridge) × (List TreeSlot) × (List TreeSlot) × (List TreeWord))) (fun s7 =>
(if (decide (s7.2.2.2.2.2.2<((x4.2.1.length:Nat):Int))) = true then
 gd ((((x4.2.1.length:Nat):Int):Int) ≠ 0) <|
 bd (spec_l83Open_m (⟨s7.1,s7.2.2.2.2.1,s7.2.2.2.2.2.1,s7.2.1,s7.2.2.1,s7.2.2.2.1⟩:TreeWorld) ((IntKind.i64.wrap (s7.2.2.2.2.2.2+a1):Int).tmod ((x4.2.1.length:Nat):Int))) fun x12 =>
(if x12 = true then
 bd (spec_l83Word_m (⟨s7.1,s7.2.2.2.2.1,s7.2.2.2.2.2.1,s7.2.1,s7.2.2.1,s7.2.2.2.1⟩:TreeWorld) ((IntKind.i64.wrap (s7.2.2.2.2.2.2+a1):Int).tmod ((x4.2.1.length:Nat):Int)) 0) fun x13 =>
 bd (spec_l83Hear_o00_03_04_05_m (⟨s7.1,s7.2.2.2.2.1,s7.2.2.2.2.2.1,s7.2.1,s7.2.2.1,s7.2.2.2.1⟩:TreeWorld) x13) fun x14 =>
 bd (spec_l83Word_m x14 ((IntKind.i64.wrap (s7.2.2.2.2.2.2+a1):Int).tmod ((x4.2.1.length:Nat):Int)) 1) fun x15 =>
 bd (spec_l83Hear_o00_03_04_05_m x14 x15) fun x16 =>
 some (.inl (x16.Bridges,x16.AtA,x16.AtB,x16.Radio,x16.Links,x16.Down,IntKind.i64.wrap (s7.2.2.2.2.2.2+1)))
else
 some (.inl (s7.1,s7.2.1,s7.2.2.1,s7.2.2.2.1,s7.2.2.2.2.1,s7.2.2.2.2.2.1,IntKind.i64.wrap (s7.2.2.2.2.2.2+1))))
else
 some (.inr (s7.1.length,s7.2.2.2.2.1,s7.2.2.2.2.2.1,s7.2.1.length,s7.2.2.1.length,s7.2.2.2.1.length,s7.1,s7.2.1,s7.2.2.1,s7.2.2.2.1)))) (x4.2.2.2.2.2.2.1,x4.2.2.2.2.2.2.2.1,x4.2.2.2.2.2.2.2.2.1,x4.2.2.2.2.2.2.2.2.2,x4.2.1,x4.2.2.1,0)) fun x10 =>
 bd (spec_l83Tick_o03_04_05_m (⟨x10.2.2.2.2.2.2.1,x10.2.1,x10.2.2.1,x10.2.2.2.2.2.2.2.1,x10.2.2.2.2.2.2.2.2.1,x10.2.2.2.2.2.2.2.2.2⟩:TreeWorld)) fun x18 =>
 some x18
theorem spec_l83Round_o03_04_05_c {a0:TreeWorld} {a1:Int} {r:TreeWorld} (h:spec_l83Round_o03_04_05_m a0 a1 = some r):EffC Try.prog 67 [.agg [.osl 9000 0 a0.Bridges.length,.d (slD TreeLink.enc a0.Links),.d (slD encInt a0.Down),.osl 9001 0 a0.AtA.length,.osl 9002 0 a0.AtB.length,.osl 9003 0 a0.Radio.length],.d (.int .i64 a1)] [(9000,.arr 43 6 a0.Bridges.length (rows TreeBridge.enc a0.Bridges)),(9001,.arr 107 4 a0.AtA.length (rows TreeSlot.enc a0.AtA)),(9002,.arr 107 4 a0.AtB.length (rows TreeSlot.enc a0.AtB)),(9003,.arr 76 5 a0.Radio.length (rows TreeWord.enc a0.Radio))] (.agg [.osl 5001 0 r.Bridges.length,.d (slD TreeLink.enc r.Links),.d (slD encInt r.Down),.osl 5002 0 r.AtA.length,.osl 5003 0 r.AtB.length,.osl 5004 0 r.Radio.length]) [(5001,.arr 43 6 r.Bridges.length (rows TreeBridge.enc r.Bridges)),(5002,.arr 107 4 r.AtA.length (rows TreeSlot.enc r.AtA)),(5003,.arr 107 4 r.AtB.length (rows TreeSlot.enc r.AtB)),(5004,.arr 76 5 r.Radio.length (rows TreeWord.enc r.Radio))]:=by
  refine effC_x tOk (fn:=Try.f67) (c:=codeOf Try.f67) rfl rfl ?_;unfold spec_l83Round_o03_04_05_m at h;(conv=>whnf);refine seq_in tOk ?_;(conv=>whnf);obtain ⟨x4,hx4,h⟩:=bd_some h;refine loop_m tOk hx4 (fun s1=>⟨0,43,[(1,.d (.int .i64 a1)),(2,.ref 2 0 0),(4,.ref 4 0 0)],[],[(4,.box 29 [.d (.nil),.d (.nil),.d (.nil),.d (.nil),.d (.nil),.d (.nil)]),(2,.box 29 [.osl 9000 0 s1.1.length,.d (slD TreeLink.enc s1.2.2.2.2.1),.d (slD encInt s1.2.2.2.2.2),.osl 9001 0 s1.2.1.length,.osl 9002 0 s1.2.2.1.length,.osl 9003 0 s1.2.2.2.1.length]),(9000,.arr 43 6 s1.1.length (rows TreeBridge.enc s1.1)),(9001,.arr 107 4 s1.2.1.length (rows TreeSlot.enc s1.2.1)),(9002,.arr 107 4 s1.2.2.1.length (rows TreeSlot.enc s1.2.2.1)),(9003,.arr 76 5 s1.2.2.2.1.length (rows TreeWord.enc s1.2.2.2.1))],[⟨[],[]⟩]⟩) ?_ ?_
  · exact leX []
  · clear hx4;intro s1 y2 g3 hy2;(conv=>whnf);refine seq_in tOk ?_;(conv=>whnf);refine andI g3 (fun _ g3=>?_) (fun _ g3=>?_)
    · (conv=>whnf);obtain ⟨x5,hx5,g3⟩:=bd_some g3;refine cE [(9000,9000),(9001,9001),(9002,9002),(9003,9003)] 1000 (spec_l83Words_o00_03_04_05_c hx5) ?_;(conv=>whnf);obtain rfl:=Option.some.inj g3;exact ⟨_,rfl,leX [.s [(6001,9000),(6002,9001),(6003,9002),(6004,9003),(9000,6001),(9001,6002),(9002,6003),(9003,6004)]]⟩
    · (conv=>whnf);obtain rfl:=Option.some.inj g3;obtain rfl:=hy2 _ rfl;refine seq_in tOk ?_;(conv=>whnf);obtain ⟨x10,hx10,h⟩:=bd_some h;refine loop_m tOk hx10 (fun s7=>⟨0,43,[(1,.d (.int .i64 a1)),(2,.ref 2 0 0),(4,.ref 4 0 0),(5,.d (.int .i64 (((s1.1.length,s1.2.2.2.2.1,s1.2.2.2.2.2,s1.2.1.length,s1.2.2.1.length,s1.2.2.2.1.length,s1.1,s1.2.1,s1.2.2.1,s1.2.2.2.1).2.1.length:Nat):Int))),(6,.d (.int .i64 s7.2.2.2.2.2.2))],[],[(4,.box 29 [.d (.nil),.d (.nil),.d (.nil),.d (.nil),.d (.nil),.d (.nil)]),(2,.box 29 [.osl 9000 0 s7.1.length,.d (slD TreeLink.enc s7.2.2.2.2.1),.d (slD encInt s7.2.2.2.2.2.1),.osl 9001 0 s7.2.1.length,.osl 9002 0 s7.2.2.1.length,.osl 9003 0 s7.2.2.2.1.length]),(9000,.arr 43 6 s7.1.length (rows TreeBridge.enc s7.1)),(9001,.arr 107 4 s7.2.1.length (rows TreeSlot.enc s7.2.1)),(9002,.arr 107 4 s7.2.2.1.length (rows TreeSlot.enc s7.2.2.1)),(9003,.arr 76 5 s7.2.2.2.1.length (rows TreeWord.enc s7.2.2.2.1))],[⟨[],[]⟩]⟩) ?_ ?_
      · exact leX []
      · clear hx10;intro s7 y8 g9 hy8;(conv=>whnf);refine seq_in tOk ?_;(conv=>whnf);refine andI g9 (fun _ g9=>?_) (fun _ g9=>?_)
        · (conv=>whnf);refine seq_in tOk ?_;(conv=>whnf);refine gdI g9 (fun g9=>?_);(conv=>whnf);obtain ⟨x12,hx12,g9⟩:=bd_some g9;refine cC 0 (spec_l83Open_c hx12) ?_;clear hx12;(conv=>whnf);refine andI g9 (fun _ g9=>?_) (fun _ g9=>?_)
          · (conv=>whnf);obtain ⟨x13,hx13,g9⟩:=bd_some g9;obtain ⟨x14,hx14,g9⟩:=bd_some g9;refine draw_t tOk [.r 3 [(9000,.arr 43 6 s7.1.length (rows TreeBridge.enc s7.1)),(9001,.arr 107 4 s7.2.1.length (rows TreeSlot.enc s7.2.1)),(9002,.arr 107 4 s7.2.2.1.length (rows TreeSlot.enc s7.2.2.1)),(9003,.arr 76 5 s7.2.2.2.1.length (rows TreeWord.enc s7.2.2.2.1))] (.agg [.d (.int .i64 x13.Link),.d (.int .i64 x13.End),.d (.int .i64 x13.Vector.Root),.d (.int .i64 x13.Vector.Cost),.d (.int .i64 x13.Vector.Age)]) [],.e 4 [(9000,.arr 43 6 s7.1.length (rows TreeBridge.enc s7.1)),(9001,.arr 107 4 s7.2.1.length (rows TreeSlot.enc s7.2.1)),(9002,.arr 107 4 s7.2.2.1.length (rows TreeSlot.enc s7.2.2.1)),(9003,.arr 76 5 s7.2.2.2.1.length (rows TreeWord.enc s7.2.2.2.1))] (.agg [.osl 6001 0 x14.Bridges.length,.d (slD TreeLink.enc x14.Links),.d (slD encInt x14.Down),.osl 6002 0 x14.AtA.length,.osl 6003 0 x14.AtB.length,.osl 6004 0 x14.Radio.length]) [(6001,.arr 43 6 x14.Bridges.length (rows TreeBridge.enc x14.Bridges)),(6002,.arr 107 4 x14.AtA.length (rows TreeSlot.enc x14.AtA)),(6003,.arr 107 4 x14.AtB.length (rows TreeSlot.enc x14.AtB)),(6004,.arr 76 5 x14.Radio.length (rows TreeWord.enc x14.Radio))] []] 5 [] [0,0,0,6,15] [31] [9000,9001,9002,9003] ?_;(conv=>whnf);refine And.intro (eD [(9000,9000),(9001,9001),(9002,9002),(9003,9003)] 0 ((spec_l83Word_c hx13).effV (args:=[.agg [.osl 9000 0 s7.1.length,.d (slD TreeLink.enc s7.2.2.2.2.1),.d (slD encInt s7.2.2.2.2.2.1),.osl 9001 0 s7.2.1.length,.osl 9002 0 s7.2.2.1.length,.osl 9003 0 s7.2.2.2.1.length],.d (.int .i64 ((IntKind.i64.wrap (s7.2.2.2.2.2.2+a1):Int).tmod (((s1.1.length,s1.2.2.2.2.1,s1.2.2.2.2.2,s1.2.1.length,s1.2.2.1.length,s1.2.2.2.1.length,s1.1,s1.2.1,s1.2.2.1,s1.2.2.2.1).2.1.length:Nat):Int))),.d (.int .i64 0)]) (bs:=[(9000,.arr 43 6 s7.1.length (rows TreeBridge.enc s7.1)),(9001,.arr 107 4 s7.2.1.length (rows TreeSlot.enc s7.2.1)),(9002,.arr 107 4 s7.2.2.1.length (rows TreeSlot.enc s7.2.2.1)),(9003,.arr 76 5 s7.2.2.2.1.length (rows TreeWord.enc s7.2.2.2.1))]) rfl (by kernel_rfl) rfl rfl rfl)) ?_;(conv=>whnf);refine And.intro (eD [(9000,9000),(9001,9001),(9002,9002),(9003,9003)] 1000 (spec_l83Hear_o00_03_04_05_c hx14)) ?_;(conv=>whnf);refine And.intro (by kernel_rfl) ?_;(conv=>whnf);obtain ⟨x15,hx15,g9⟩:=bd_some g9;obtain ⟨x16,hx16,g9⟩:=bd_some g9;refine draw_t tOk [.r 3 [(6001,.arr 43 6 x14.Bridges.length (rows TreeBridge.enc x14.Bridges)),(6002,.arr 107 4 x14.AtA.length (rows TreeSlot.enc x14.AtA)),(6003,.arr 107 4 x14.AtB.length (rows TreeSlot.enc x14.AtB)),(6004,.arr 76 5 x14.Radio.length (rows TreeWord.enc x14.Radio))] (.agg [.d (.int .i64 x15.Link),.d (.int .i64 x15.End),.d (.int .i64 x15.Vector.Root),.d (.int .i64 x15.Vector.Cost),.d (.int .i64 x15.Vector.Age)]) [],.e 4 [(6001,.arr 43 6 x14.Bridges.length (rows TreeBridge.enc x14.Bridges)),(6002,.arr 107 4 x14.AtA.length (rows TreeSlot.enc x14.AtA)),(6003,.arr 107 4 x14.AtB.length (rows TreeSlot.enc x14.AtB)),(6004,.arr 76 5 x14.Radio.length (rows TreeWord.enc x14.Radio))] (.agg [.osl 7001 0 x16.Bridges.length,.d (slD TreeLink.enc x16.Links),.d (slD encInt x16.Down),.osl 7002 0 x16.AtA.length,.osl 7003 0 x16.AtB.length,.osl 7004 0 x16.Radio.length]) [(7001,.arr 43 6 x16.Bridges.length (rows TreeBridge.enc x16.Bridges)),(7002,.arr 107 4 x16.AtA.length (rows TreeSlot.enc x16.AtA)),(7003,.arr 107 4 x16.AtB.length (rows TreeSlot.enc x16.AtB)),(7004,.arr 76 5 x16.Radio.length (rows TreeWord.enc x16.Radio))] []] 5 [] [0,0,0,6,15] [31] [6001,6002,6003,6004] ?_;(conv=>whnf);refine And.intro (eD [(6001,6001),(6002,6002),(6003,6003),(6004,6004)] 0 ((spec_l83Word_c hx15).effV (args:=[.agg [.osl 6001 0 x14.Bridges.length,.d (slD TreeLink.enc x14.Links),.d (slD encInt x14.Down),.osl 6002 0 x14.AtA.length,.osl 6003 0 x14.AtB.length,.osl 6004 0 x14.Radio.length],.d (.int .i64 ((IntKind.i64.wrap (s7.2.2.2.2.2.2+a1):Int).tmod (((s1.1.length,s1.2.2.2.2.1,s1.2.2.2.2.2,s1.2.1.length,s1.2.2.1.length,s1.2.2.2.1.length,s1.1,s1.2.1,s1.2.2.1,s1.2.2.2.1).2.1.length:Nat):Int))),.d (.int .i64 1)]) (bs:=[(6001,.arr 43 6 x14.Bridges.length (rows TreeBridge.enc x14.Bridges)),(6002,.arr 107 4 x14.AtA.length (rows TreeSlot.enc x14.AtA)),(6003,.arr 107 4 x14.AtB.length (rows TreeSlot.enc x14.AtB)),(6004,.arr 76 5 x14.Radio.length (rows TreeWord.enc x14.Radio))]) rfl (by kernel_rfl) rfl rfl rfl)) ?_;(conv=>whnf);refine And.intro (eD [(9000,6001),(9001,6002),(9002,6003),(9003,6004)] 2000 (spec_l83Hear_o00_03_04_05_c hx16)) ?_;(conv=>whnf);refine And.intro (by kernel_rfl) ?_;(conv=>whnf);obtain rfl:=Option.some.inj g9;exact ⟨_,rfl,leX [.s [(7001,9000),(7002,9001),(7003,9002),(7004,9003),(9000,7001),(9001,7002),(9002,7003),(9003,7004)]]⟩
          · (conv=>whnf);obtain rfl:=Option.some.inj g9;exact ⟨_,rfl,leX []⟩
        · (conv=>whnf);obtain rfl:=Option.some.inj g9;obtain rfl:=hy8 _ rfl;obtain ⟨x18,hx18,h⟩:=bd_some h;refine cE [(9000,9000),(9001,9001),(9002,9002),(9003,9003)] 1000 (spec_l83Tick_o03_04_05_c hx18) ?_;(conv=>whnf);obtain rfl:=Option.some.inj h;exact lfE [.s [(5001,6001),(5002,6002),(5003,6003),(5004,6004),(6001,5001),(6002,5002),(6003,5003),(6004,5004)]]
noncomputable def spec_TreeCalm_m (a0:TreeWorld) (a1:Int) (a2:Int):Option (TreeWorld) :=
 bd (spec_TreeWorldOk_m a0) fun x1 =>
(if (!x1) = true then
 some (⟨[],[],[],[],[],[]⟩:TreeWorld)
else
 bd (spec_l82Copy_o03_04_05_m a0) fun x2 =>
 bd (α:=Int) ((if ((decide (a2 > 0)) && (decide (((a0.Links.length:Nat):Int) > 0))) = true then
 gd ((((a0.Links.length:Nat):Int):Int) ≠ 0) <|
 some ((a2:Int).tmod ((a0.Links.length:Nat):Int))
else
 some 0)) fun x3 =>
 bd (lp (σ:=List TreeBridge × List TreeSlot × List TreeSlot × List TreeWord × List TreeLink × List Int × Int) (β:=(Nat × (List TreeLink) × (List Int) × Nat × Nat × Nat × (List TreeBridge) × (List TreeSlot) × (List TreeSlot) × (List TreeWord))) (fun s7 =>
(if ((decide (s7.2.2.2.2.2.2<a1)) && (decide (s7.2.2.2.2.2.2<60))) = true then
 bd (spec_l83Round_o03_04_05_m (⟨s7.1,s7.2.2.2.2.1,s7.2.2.2.2.2.1,s7.2.1,s7.2.2.1,s7.2.2.2.1⟩:TreeWorld) x3) fun x11 =>
 some (.inl (x11.Bridges,x11.AtA,x11.AtB,x11.Radio,x11.Links,x11.Down,IntKind.i64.wrap (s7.2.2.2.2.2.2+1)))
else
 some (.inr (s7.1.length,s7.2.2.2.2.1,s7.2.2.2.2.2.1,s7.2.1.length,s7.2.2.1.length,s7.2.2.2.1.length,s7.1,s7.2.1,s7.2.2.1,s7.2.2.2.1)))) (x2.Bridges,x2.AtA,x2.AtB,x2.Radio,x2.Links,x2.Down,0)) fun x10 =>
 bd (spec_l82Copy_m (⟨x10.2.2.2.2.2.2.1,x10.2.1,x10.2.2.1,x10.2.2.2.2.2.2.2.1,x10.2.2.2.2.2.2.2.2.1,x10.2.2.2.2.2.2.2.2.2⟩:TreeWorld)) fun x13 =>
 some x13)
theorem spec_TreeCalm_c {a0:TreeWorld} {a1:Int} {a2:Int} {r:TreeWorld} (h:spec_TreeCalm_m a0 a1 a2 = some r):PureC Try.prog 26 [.agg [.d (slD TreeBridge.enc a0.Bridges),.d (slD TreeLink.enc a0.Links),.d (slD encInt a0.Down),.d (slD TreeSlot.enc a0.AtA),.d (slD TreeSlot.enc a0.AtB),.d (slD TreeWord.enc a0.Radio)],.d (.int .i64 a1),.d (.int .i64 a2)] (.agg [.osl 5001 0 r.Bridges.length,.osl 5002 0 r.Links.length,.osl 5003 0 r.Down.length,.osl 5004 0 r.AtA.length,.osl 5005 0 r.AtB.length,.osl 5006 0 r.Radio.length]) [⟨5001,43,6,r.Bridges.length,rows TreeBridge.enc r.Bridges⟩,⟨5002,46,3,r.Links.length,rows TreeLink.enc r.Links⟩,⟨5003,3,1,r.Down.length,rows encInt r.Down⟩,⟨5004,107,4,r.AtA.length,rows TreeSlot.enc r.AtA⟩,⟨5005,107,4,r.AtB.length,rows TreeSlot.enc r.AtB⟩,⟨5006,76,5,r.Radio.length,rows TreeWord.enc r.Radio⟩]:=by
  refine pureC_x tOk (fn:=Try.f26) (c:=codeOf Try.f26) rfl rfl ?_;unfold spec_TreeCalm_m at h;(conv=>whnf);refine seq_in tOk ?_;(conv=>whnf);obtain ⟨x1,hx1,h⟩:=bd_some h;refine cC 0 (spec_TreeWorldOk_c hx1) ?_;clear hx1;(conv=>whnf);refine andI h (fun _ h=>?_) (fun _ h=>?_)
  · (conv=>whnf);obtain rfl:=Option.some.inj h;exact lfP [.k [3],.p 5001 43 6 (rows TreeBridge.enc ([]:List TreeBridge)),.p 5002 46 3 (rows TreeLink.enc ([]:List TreeLink)),.p 5003 3 1 (rows encInt ([]:List Int)),.p 5004 107 4 (rows TreeSlot.enc ([]:List TreeSlot)),.p 5005 107 4 (rows TreeSlot.enc ([]:List TreeSlot)),.p 5006 76 5 (rows TreeWord.enc ([]:List TreeWord))]
  · (conv=>whnf);obtain ⟨x2,hx2,h⟩:=bd_some h;refine cE [] 1000 (spec_l82Copy_o03_04_05_c hx2) ?_;(conv=>whnf);obtain ⟨x3,hx3,h⟩:=bd_some h;refine seq_join tOk (fun s4=>⟨0,43,[(1,.d (.int .i64 a1)),(6,.ref 6 0 0),(7,.ref 7 0 0),(8,.d (.int .i64 s4))],[],[(7,.box 29 [.osl 6001 0 x2.Bridges.length,.osl 6002 0 x2.Links.length,.osl 6003 0 x2.Down.length,.osl 6004 0 x2.AtA.length,.osl 6005 0 x2.AtB.length,.osl 6006 0 x2.Radio.length]),(6001,.arr 43 6 x2.Bridges.length (rows TreeBridge.enc x2.Bridges)),(6002,.arr 46 3 x2.Links.length (rows TreeLink.enc x2.Links)),(6003,.arr 3 1 x2.Down.length (rows encInt x2.Down)),(6004,.arr 107 4 x2.AtA.length (rows TreeSlot.enc x2.AtA)),(6005,.arr 107 4 x2.AtB.length (rows TreeSlot.enc x2.AtB)),(6006,.arr 76 5 x2.Radio.length (rows TreeWord.enc x2.Radio)),(6,.box 29 [.d (.nil),.d (.nil),.d (.nil),.d (.nil),.d (.nil),.d (.nil)])],[]⟩) (fun s4=>x3 = s4) ?_ ?_
    · (conv=>whnf);refine andI hx3 (fun _ hx3=>?_) (fun _ hx3=>?_)
      · (conv=>whnf);refine gdI hx3 (fun hx3=>?_);(conv=>whnf);obtain rfl:=Option.some.inj hx3;exact ⟨_,rfl,leX []⟩
      · (conv=>whnf);obtain rfl:=Option.some.inj hx3;exact ⟨_,rfl,leX []⟩
    · rintro _ rfl;(conv=>whnf);refine seq_in tOk ?_;(conv=>whnf);obtain ⟨x10,hx10,h⟩:=bd_some h;refine loop_m tOk hx10 (fun s7=>⟨0,43,[(1,.d (.int .i64 a1)),(6,.ref 6 0 0),(7,.ref 7 0 0),(8,.d (.int .i64 x3)),(9,.d (.int .i64 s7.2.2.2.2.2.2))],[],[(7,.box 29 [.osl 6001 0 s7.1.length,.d (slD TreeLink.enc s7.2.2.2.2.1),.d (slD encInt s7.2.2.2.2.2.1),.osl 6004 0 s7.2.1.length,.osl 6005 0 s7.2.2.1.length,.osl 6006 0 s7.2.2.2.1.length]),(6001,.arr 43 6 s7.1.length (rows TreeBridge.enc s7.1)),(6004,.arr 107 4 s7.2.1.length (rows TreeSlot.enc s7.2.1)),(6005,.arr 107 4 s7.2.2.1.length (rows TreeSlot.enc s7.2.2.1)),(6006,.arr 76 5 s7.2.2.2.1.length (rows TreeWord.enc s7.2.2.2.1)),(6,.box 29 [.d (.nil),.d (.nil),.d (.nil),.d (.nil),.d (.nil),.d (.nil)])],[]⟩) ?_ ?_
      · exact leX [.f [6002,6003]]
      · clear hx10;intro s7 y8 g9 hy8;(conv=>whnf);refine seq_in tOk ?_;(conv=>whnf);refine andI g9 (fun _ g9=>?_) (fun _ g9=>?_)
        · (conv=>whnf);refine seq_in tOk ?_;(conv=>whnf);obtain ⟨x11,hx11,g9⟩:=bd_some g9;refine cE [(9000,6001),(9001,6004),(9002,6005),(9003,6006)] 2000 (spec_l83Round_o03_04_05_c hx11) ?_;(conv=>whnf);obtain rfl:=Option.some.inj g9;exact ⟨_,rfl,leX [.s [(6001,7001),(6004,7002),(6005,7003),(6006,7004),(7001,6001),(7002,6004),(7003,6005),(7004,6006)]]⟩
        · (conv=>whnf);obtain rfl:=Option.some.inj g9;obtain rfl:=hy8 _ rfl;obtain ⟨x13,hx13,h⟩:=bd_some h;refine callW (args1:=[.agg [.d (.sl (s7.1.length,s7.2.2.2.2.1,s7.2.2.2.2.2.1,s7.2.1.length,s7.2.2.1.length,s7.2.2.2.1.length,s7.1,s7.2.1,s7.2.2.1,s7.2.2.2.1).1 (rows TreeBridge.enc (s7.1.length,s7.2.2.2.2.1,s7.2.2.2.2.2.1,s7.2.1.length,s7.2.2.1.length,s7.2.2.2.1.length,s7.1,s7.2.1,s7.2.2.1,s7.2.2.2.1).2.2.2.2.2.2.1)),.d (slD TreeLink.enc (s7.1.length,s7.2.2.2.2.1,s7.2.2.2.2.2.1,s7.2.1.length,s7.2.2.1.length,s7.2.2.2.1.length,s7.1,s7.2.1,s7.2.2.1,s7.2.2.2.1).2.1),.d (slD encInt (s7.1.length,s7.2.2.2.2.1,s7.2.2.2.2.2.1,s7.2.1.length,s7.2.2.1.length,s7.2.2.2.1.length,s7.1,s7.2.1,s7.2.2.1,s7.2.2.2.1).2.2.1),.d (.sl (s7.1.length,s7.2.2.2.2.1,s7.2.2.2.2.2.1,s7.2.1.length,s7.2.2.1.length,s7.2.2.2.1.length,s7.1,s7.2.1,s7.2.2.1,s7.2.2.2.1).2.2.2.1 (rows TreeSlot.enc (s7.1.length,s7.2.2.2.2.1,s7.2.2.2.2.2.1,s7.2.1.length,s7.2.2.1.length,s7.2.2.2.1.length,s7.1,s7.2.1,s7.2.2.1,s7.2.2.2.1).2.2.2.2.2.2.2.1)),.d (.sl (s7.1.length,s7.2.2.2.2.1,s7.2.2.2.2.2.1,s7.2.1.length,s7.2.2.1.length,s7.2.2.2.1.length,s7.1,s7.2.1,s7.2.2.1,s7.2.2.2.1).2.2.2.2.1 (rows TreeSlot.enc (s7.1.length,s7.2.2.2.2.1,s7.2.2.2.2.2.1,s7.2.1.length,s7.2.2.1.length,s7.2.2.2.1.length,s7.1,s7.2.1,s7.2.2.1,s7.2.2.2.1).2.2.2.2.2.2.2.2.1)),.d (.sl (s7.1.length,s7.2.2.2.2.1,s7.2.2.2.2.2.1,s7.2.1.length,s7.2.2.1.length,s7.2.2.2.1.length,s7.1,s7.2.1,s7.2.2.1,s7.2.2.2.1).2.2.2.2.2.1 (rows TreeWord.enc (s7.1.length,s7.2.2.2.2.1,s7.2.2.2.2.2.1,s7.2.1.length,s7.2.2.1.length,s7.2.2.2.1.length,s7.1,s7.2.1,s7.2.2.1,s7.2.2.2.1).2.2.2.2.2.2.2.2.2))]]) 2000 (spec_l82Copy_c hx13) (by kernel_rfl) argA (by kernel_rfl) ?_;(conv=>whnf);obtain rfl:=Option.some.inj h;exact lfP [.s [(5001,7001),(5002,7002),(5003,7003),(5004,7004),(5005,7005),(5006,7006),(7001,5001),(7002,5002),(7003,5003),(7004,5004),(7005,5005),(7006,5006)]]
noncomputable def spec_l85Event_m (a0:l81Rd) (a1:TreeWorld):Option (TreeEvent × l81Rd) :=
 bd (α:=Int × Int) ((if (decide (((a1.Links.length:Nat):Int) > 0)) = true then
 bd (spec_l81Rd_pick_m a0 ((a1.Links.length:Nat):Int)) fun x4 =>
 some (x4.2.p,x4.1)
else
 some (a0.p,0))) fun x1 =>
 bd (spec_l81Rd_pick_m (⟨a0.b,x1.1⟩:l81Rd) 16) fun x5 =>
 bd (α:=Bool) ((if (x5.1 == 0) = true then
 some (x5.1 == 0)
else
(if (x5.1 == 1) = true then
 some (x5.1 == 1)
else
(if (x5.1 == 2) = true then
 some (x5.1 == 2)
else
(if (x5.1 == 3) = true then
 some (x5.1 == 3)
else
 some (x5.1 == 4)))))) fun x6 =>
(if x6 = true then
 bd (spec_l81Rd_pick_m (⟨a0.b,x5.2.p⟩:l81Rd) 2) fun x9 =>
 some ((⟨1,x1.2,x9.1⟩:TreeEvent),(⟨a0.b,x9.2.p⟩:l81Rd))
else
 bd (α:=Bool) ((if (x5.1 == 5) = true then
 some (x5.1 == 5)
else
(if (x5.1 == 6) = true then
 some (x5.1 == 6)
else
(if (x5.1 == 7) = true then
 some (x5.1 == 7)
else
 some (x5.1 == 8))))) fun x10 =>
(if x10 = true then
 bd (spec_l81Rd_pick_m (⟨a0.b,x5.2.p⟩:l81Rd) (IntKind.i64.wrap (((a1.Radio.length:Nat):Int)+1))) fun x13 =>
 some ((⟨2,x13.1,0⟩:TreeEvent),(⟨a0.b,x13.2.p⟩:l81Rd))
else
(if (x5.1 == 9) = true then
 bd (spec_l81Rd_pick_m (⟨a0.b,x5.2.p⟩:l81Rd) (IntKind.i64.wrap (((a1.Radio.length:Nat):Int)+1))) fun x14 =>
 some ((⟨3,x14.1,0⟩:TreeEvent),(⟨a0.b,x14.2.p⟩:l81Rd))
else
(if (x5.1 == 10) = true then
 bd (spec_l81Rd_pick_m (⟨a0.b,x5.2.p⟩:l81Rd) (IntKind.i64.wrap (((a1.Radio.length:Nat):Int)+1))) fun x15 =>
 some ((⟨4,x15.1,0⟩:TreeEvent),(⟨a0.b,x15.2.p⟩:l81Rd))
else
(if (x5.1 == 11) = true then
 some ((⟨5,0,0⟩:TreeEvent),(⟨a0.b,x5.2.p⟩:l81Rd))
else
(if (x5.1 == 12) = true then
 bd (spec_l81Rd_pick_m (⟨a0.b,x5.2.p⟩:l81Rd) 2) fun x16 =>
(if (x16.1 == 0) = true then
 bd (spec_l81Rd_pick_m (⟨a0.b,x16.2.p⟩:l81Rd) ((a1.Bridges.length:Nat):Int)) fun x17 =>
 some ((⟨6,x17.1,0⟩:TreeEvent),(⟨a0.b,x17.2.p⟩:l81Rd))
else
 bd (spec_l81Rd_pick_m (⟨a0.b,x16.2.p⟩:l81Rd) ((a1.Bridges.length:Nat):Int)) fun x18 =>
 some ((⟨7,x18.1,0⟩:TreeEvent),(⟨a0.b,x18.2.p⟩:l81Rd)))
else
(if (x5.1 == 13) = true then
 bd (spec_l81Rd_pick_m (⟨a0.b,x5.2.p⟩:l81Rd) ((a1.Bridges.length:Nat):Int)) fun x19 =>
 some ((⟨7,x19.1,0⟩:TreeEvent),(⟨a0.b,x19.2.p⟩:l81Rd))
else
(if (x5.1 == 14) = true then
 some ((⟨8,x1.2,0⟩:TreeEvent),(⟨a0.b,x5.2.p⟩:l81Rd))
else
 some ((⟨9,x1.2,0⟩:TreeEvent),(⟨a0.b,x5.2.p⟩:l81Rd))))))))))
theorem spec_l85Event_c {a0:l81Rd} {a1:TreeWorld} {r:TreeEvent × l81Rd} (h:spec_l85Event_m a0 a1 = some r):EffC Try.prog 44 [.ref 9000 0 0,.agg [.d (slD TreeBridge.enc a1.Bridges),.d (slD TreeLink.enc a1.Links),.d (slD encInt a1.Down),.d (slD TreeSlot.enc a1.AtA),.d (slD TreeSlot.enc a1.AtB),.d (slD TreeWord.enc a1.Radio)]] [(9000,.box 97 [.d (slD encByte a0.b),.d (.int .i64 a0.p)])] (.agg [.d (.int .i64 r.1.Kind),.d (.int .i64 r.1.At),.d (.int .i64 r.1.End)]) [(9000,.box 97 [.d (slD encByte a0.b),.d (.int .i64 r.2.p)])]:=by
  refine effC_x tOk (fn:=Try.f44) (c:=codeOf Try.f44) rfl rfl ?_;unfold spec_l85Event_m at h;(conv=>whnf);obtain ⟨x1,hx1,h⟩:=bd_some h;refine seq_join tOk (fun s2=>⟨0,91,[(0,.ref 9000 0 0),(3,.ref 3 0 0),(4,.ref 4 0 0),(5,.d (.int .i64 s2.2))],[],[(4,.box 53 [.d (.int .i64 0),.d (.int .i64 0),.d (.int .i64 0)]),(3,.box 29 [.d (slD TreeBridge.enc a1.Bridges),.d (slD TreeLink.enc a1.Links),.d (slD encInt a1.Down),.d (slD TreeSlot.enc a1.AtA),.d (slD TreeSlot.enc a1.AtB),.d (slD TreeWord.enc a1.Radio)]),(9000,.box 97 [.d (slD encByte a0.b),.d (.int .i64 s2.1)])],[⟨[(0,.ref 9000 0 0)],[]⟩]⟩) (fun s2=>x1 = s2) ?_ ?_
  · (conv=>whnf);refine andI hx1 (fun _ hx1=>?_) (fun _ hx1=>?_)
    · (conv=>whnf);obtain ⟨x4,hx4,hx1⟩:=bd_some hx1;refine cE [(9000,9000)] 0 (spec_l81Rd_pick_c hx4) ?_;(conv=>whnf);obtain rfl:=Option.some.inj hx1;exact ⟨_,rfl,leX []⟩
    · (conv=>whnf);obtain rfl:=Option.some.inj hx1;exact ⟨_,rfl,leX []⟩
  · rintro _ rfl;(conv=>whnf);refine seq_in tOk ?_;(conv=>whnf);obtain ⟨x5,hx5,h⟩:=bd_some h;refine cE [(9000,9000)] 0 (spec_l81Rd_pick_c hx5) ?_;(conv=>whnf);obtain ⟨x6,hx6,h⟩:=bd_some h;refine seq_join tOk (fun s7=>⟨0,91,[(0,.ref 9000 0 0),(3,.ref 3 0 0),(4,.ref 4 0 0),(5,.d (.int .i64 x1.2)),(16,.d (.int .i64 x5.1)),(17,.d (.bool s7))],[],[(4,.box 53 [.d (.int .i64 0),.d (.int .i64 0),.d (.int .i64 0)]),(3,.box 29 [.d (slD TreeBridge.enc a1.Bridges),.d (slD TreeLink.enc a1.Links),.d (slD encInt a1.Down),.d (slD TreeSlot.enc a1.AtA),.d (slD TreeSlot.enc a1.AtB),.d (slD TreeWord.enc a1.Radio)]),(9000,.box 97 [.d (slD encByte a0.b),.d (.int .i64 x5.2.p)])],[⟨[(0,.ref 9000 0 0)],[]⟩]⟩) (fun s7=>x6 = s7) ?_ ?_
    · (conv=>whnf);refine andI hx6 (fun _ hx6=>?_) (fun _ hx6=>?_)
      · (conv=>whnf);obtain rfl:=Option.some.inj hx6;exact ⟨_,rfl,leX []⟩
      · (conv=>whnf);refine andI hx6 (fun _ hx6=>?_) (fun _ hx6=>?_)
        · (conv=>whnf);obtain rfl:=Option.some.inj hx6;exact ⟨_,rfl,leX []⟩
        · (conv=>whnf);refine andI hx6 (fun _ hx6=>?_) (fun _ hx6=>?_)
          · (conv=>whnf);obtain rfl:=Option.some.inj hx6;exact ⟨_,rfl,leX []⟩
          · (conv=>whnf);refine andI hx6 (fun _ hx6=>?_) (fun _ hx6=>?_)
            · (conv=>whnf);obtain rfl:=Option.some.inj hx6;exact ⟨_,rfl,leX []⟩
            · (conv=>whnf);obtain rfl:=Option.some.inj hx6;exact ⟨_,rfl,leX []⟩
    · rintro _ rfl;(conv=>whnf);refine andI h (fun _ h=>?_) (fun _ h=>?_)
      · (conv=>whnf);obtain ⟨x9,hx9,h⟩:=bd_some h;refine cE [(9000,9000)] 0 (spec_l81Rd_pick_c hx9) ?_;(conv=>whnf);obtain rfl:=Option.some.inj h;exact lfE []
      · (conv=>whnf);obtain ⟨x10,hx10,h⟩:=bd_some h;refine seq_join tOk (fun s11=>⟨0,91,[(0,.ref 9000 0 0),(3,.ref 3 0 0),(4,.ref 4 0 0),(5,.d (.int .i64 x1.2)),(16,.d (.int .i64 x5.1)),(27,.d (.bool s11))],[],[(4,.box 53 [.d (.int .i64 0),.d (.int .i64 0),.d (.int .i64 0)]),(3,.box 29 [.d (slD TreeBridge.enc a1.Bridges),.d (slD TreeLink.enc a1.Links),.d (slD encInt a1.Down),.d (slD TreeSlot.enc a1.AtA),.d (slD TreeSlot.enc a1.AtB),.d (slD TreeWord.enc a1.Radio)]),(9000,.box 97 [.d (slD encByte a0.b),.d (.int .i64 x5.2.p)])],[⟨[(0,.ref 9000 0 0)],[]⟩]⟩) (fun s11=>x10 = s11) ?_ ?_
        · (conv=>whnf);refine andI hx10 (fun _ hx10=>?_) (fun _ hx10=>?_)
          · (conv=>whnf);obtain rfl:=Option.some.inj hx10;exact ⟨_,rfl,leX []⟩
          · (conv=>whnf);refine andI hx10 (fun _ hx10=>?_) (fun _ hx10=>?_)
            · (conv=>whnf);obtain rfl:=Option.some.inj hx10;exact ⟨_,rfl,leX []⟩
            · (conv=>whnf);refine andI hx10 (fun _ hx10=>?_) (fun _ hx10=>?_)
              · (conv=>whnf);obtain rfl:=Option.some.inj hx10;exact ⟨_,rfl,leX []⟩
              · (conv=>whnf);obtain rfl:=Option.some.inj hx10;exact ⟨_,rfl,leX []⟩
        · rintro _ rfl;(conv=>whnf);refine andI h (fun _ h=>?_) (fun _ h=>?_)
          · (conv=>whnf);obtain ⟨x13,hx13,h⟩:=bd_some h;refine cE [(9000,9000)] 0 (spec_l81Rd_pick_c hx13) ?_;(conv=>whnf);obtain rfl:=Option.some.inj h;exact lfE []
          · (conv=>whnf);refine andI h (fun _ h=>?_) (fun _ h=>?_)
            · (conv=>whnf);obtain ⟨x14,hx14,h⟩:=bd_some h;refine cE [(9000,9000)] 0 (spec_l81Rd_pick_c hx14) ?_;(conv=>whnf);obtain rfl:=Option.some.inj h;exact lfE []
            · (conv=>whnf);refine andI h (fun _ h=>?_) (fun _ h=>?_)
              · (conv=>whnf);obtain ⟨x15,hx15,h⟩:=bd_some h;refine cE [(9000,9000)] 0 (spec_l81Rd_pick_c hx15) ?_;(conv=>whnf);obtain rfl:=Option.some.inj h;exact lfE []
              · (conv=>whnf);refine andI h (fun _ h=>?_) (fun _ h=>?_)
                · (conv=>whnf);obtain rfl:=Option.some.inj h;exact lfE []
                · (conv=>whnf);refine andI h (fun _ h=>?_) (fun _ h=>?_)
                  · (conv=>whnf);refine seq_in tOk ?_;(conv=>whnf);obtain ⟨x16,hx16,h⟩:=bd_some h;refine cE [(9000,9000)] 0 (spec_l81Rd_pick_c hx16) ?_;(conv=>whnf);refine andI h (fun _ h=>?_) (fun _ h=>?_)
                    · (conv=>whnf);obtain ⟨x17,hx17,h⟩:=bd_some h;refine cE [(9000,9000)] 0 (spec_l81Rd_pick_c hx17) ?_;(conv=>whnf);obtain rfl:=Option.some.inj h;exact lfE []
                    · (conv=>whnf);obtain ⟨x18,hx18,h⟩:=bd_some h;refine cE [(9000,9000)] 0 (spec_l81Rd_pick_c hx18) ?_;(conv=>whnf);obtain rfl:=Option.some.inj h;exact lfE []
                  · (conv=>whnf);refine andI h (fun _ h=>?_) (fun _ h=>?_)
                    · (conv=>whnf);obtain ⟨x19,hx19,h⟩:=bd_some h;refine cE [(9000,9000)] 0 (spec_l81Rd_pick_c hx19) ?_;(conv=>whnf);obtain rfl:=Option.some.inj h;exact lfE []
                    · (conv=>whnf);refine andI h (fun _ h=>?_) (fun _ h=>?_)
                      · (conv=>whnf);obtain rfl:=Option.some.inj h;exact lfE []
                      · (conv=>whnf);obtain rfl:=Option.some.inj h;exact lfE []
noncomputable def spec_l83Say_m (a0:TreeWorld) (a1:TreeEvent):Option (TreeWorld) :=
 bd (spec_l81In_m a1.At 0 (IntKind.i64.wrap (((a0.Links.length:Nat):Int) - 1))) fun x1 =>
 bd (gcall ((!x1) = false) (spec_l81In_m a1.End 0 1)) fun x2 =>
 bd (gcall (((!x1) || (!x2)) = false) (spec_l83Open_m a0 a1.At)) fun x3 =>
(if (((!x1) || (!x2)) || (!x3)) = true then
 some a0
else
 bd (spec_l83Word_m a0 a1.At a1.End) fun x4 =>
 bd (spec_l83Put_m a0 x4) fun x5 =>
 some x5)
theorem spec_l83Say_c {a0:TreeWorld} {a1:TreeEvent} {r:TreeWorld} (h:spec_l83Say_m a0 a1 = some r):EffC Try.prog 99 [.agg [.d (slD TreeBridge.enc a0.Bridges),.d (slD TreeLink.enc a0.Links),.d (slD encInt a0.Down),.d (slD TreeSlot.enc a0.AtA),.d (slD TreeSlot.enc a0.AtB),.osl 9000 0 a0.Radio.length],.agg [.d (.int .i64 a1.Kind),.d (.int .i64 a1.At),.d (.int .i64 a1.End)]] [(9000,.arr 76 5 a0.Radio.length (rows TreeWord.enc a0.Radio))] (.agg [.d (slD TreeBridge.enc r.Bridges),.d (slD TreeLink.enc r.Links),.d (slD encInt r.Down),.d (slD TreeSlot.enc r.AtA),.d (slD TreeSlot.enc r.AtB),.d (slD TreeWord.enc r.Radio)]) []:=by
  refine effC_x tOk (fn:=Try.f99) (c:=codeOf Try.f99) rfl rfl ?_;unfold spec_l83Say_m at h;(conv=>whnf);refine seq_in tOk ?_;(conv=>whnf);obtain ⟨x1,hx1,h⟩:=bd_some h;refine cC 0 (spec_l81In_c hx1) ?_;clear hx1;(conv=>whnf);obtain ⟨x2,hx2,h⟩:=bd_some h;refine callG_m rfl rfl rfl rfl rfl rfl (by intro c0; exact spec_l81In_c (gcall_some hx2 c0)) ?_;(conv=>whnf);obtain ⟨x3,hx3,h⟩:=bd_some h;refine callG_m rfl rfl rfl rfl rfl rfl (by intro c0; exact spec_l83Open_c (gcall_some hx3 c0)) ?_;(conv=>whnf);refine andI h (fun _ h=>?_) (fun _ h=>?_)
  · (conv=>whnf);obtain rfl:=Option.some.inj h;exact lfE [.f [9000]]
  · (conv=>whnf);obtain ⟨x4,hx4,h⟩:=bd_some h;obtain ⟨x5,hx5,h⟩:=bd_some h;refine draw_t tOk [.r 6 [(9000,.arr 76 5 a0.Radio.length (rows TreeWord.enc a0.Radio))] (.agg [.d (.int .i64 x4.Link),.d (.int .i64 x4.End),.d (.int .i64 x4.Vector.Root),.d (.int .i64 x4.Vector.Cost),.d (.int .i64 x4.Vector.Age)]) [],.e 7 [(9000,.arr 76 5 a0.Radio.length (rows TreeWord.enc a0.Radio))] (.agg [.d (slD TreeBridge.enc x5.Bridges),.d (slD TreeLink.enc x5.Links),.d (slD encInt x5.Down),.d (slD TreeSlot.enc x5.AtA),.d (slD TreeSlot.enc x5.AtB),.osl 6001 0 x5.Radio.length]) [(6001,.arr 76 5 x5.Radio.length (rows TreeWord.enc x5.Radio))] []] 8 [] [0,0,0,4,0,16,62,127] [255] [9000] ?_;(conv=>whnf);refine And.intro (eD [(9000,9000)] 0 ((spec_l83Word_c hx4).effV (args:=[.agg [.d (slD TreeBridge.enc a0.Bridges),.d (slD TreeLink.enc a0.Links),.d (slD encInt a0.Down),.d (slD TreeSlot.enc a0.AtA),.d (slD TreeSlot.enc a0.AtB),.osl 9000 0 a0.Radio.length],.d (.int .i64 a1.At),.d (.int .i64 a1.End)]) (bs:=[(9000,.arr 76 5 a0.Radio.length (rows TreeWord.enc a0.Radio))]) rfl (by kernel_rfl) rfl rfl rfl)) ?_;(conv=>whnf);refine And.intro (eD [(9000,9000)] 1000 (spec_l83Put_c hx5)) ?_;(conv=>whnf);refine And.intro (by kernel_rfl) ?_;(conv=>whnf);obtain rfl:=Option.some.inj h;exact lfE [.f [6001]]
noncomputable def spec_l83Bridge_m (a0:TreeWorld) (a1:TreeEvent):Option (TreeWorld) :=
 bd (spec_l81In_m a1.At 0 (IntKind.i64.wrap (((a0.Bridges.length:Nat):Int) - 1))) fun x1 =>
(if (!x1) = true then
 some a0
else
 gd ((0:Int)≤a1.At∧a1.At<((a0.Bridges.length:Nat):Int)) <|
(if (a1.Kind == 7) = true then
(if (!((a0.Bridges.getD a1.At.toNat default).Up)) = true then
 bd (spec_l82Self_m ((a0.Bridges.getD a1.At.toNat default).Id)) fun x3 =>
 gd ((0:Int)≤a1.At∧a1.At<((a0.Bridges.length:Nat):Int)) <|
 bd (some (a0.Bridges.set a1.At.toNat (⟨(a0.Bridges.getD a1.At.toNat default).Id,true,x3⟩:TreeBridge))) fun x5 =>
 some ({ a0 with Bridges:=x5 })
else
 some a0)
else
 gd ((0:Int)≤a1.At∧a1.At<((a0.Bridges.length:Nat):Int)) <|
 bd (some (a0.Bridges.set a1.At.toNat (⟨(a0.Bridges.getD a1.At.toNat default).Id,false,(⟨(⟨0,0,0⟩:TreeVector),0⟩:TreeMind)⟩:TreeBridge))) fun x7 =>
 bd (lp (σ:=List TreeSlot × List TreeSlot × Int) (β:=(Nat × Nat × (List TreeSlot) × (List TreeSlot))) (fun s8 =>
(if (decide (s8.2.2<((a0.Links.length:Nat):Int))) = true then
 bd (α:=List TreeSlot) (gd ((0:Int)≤s8.2.2∧s8.2.2<((a0.Links.length:Nat):Int)) <|
(if (((a0.Links.getD s8.2.2.toNat default).A) == a1.At) = true then
 gd ((0:Int)≤s8.2.2∧s8.2.2<((s8.1.length:Nat):Int)) <|
 some (s8.1.set s8.2.2.toNat (⟨(⟨0,0,0⟩:TreeVector),0⟩:TreeSlot))
else
 some s8.1)) fun x12 =>
 gd ((0:Int)≤s8.2.2∧s8.2.2<((a0.Links.length:Nat):Int)) <|
(if (((a0.Links.getD s8.2.2.toNat default).B) == a1.At) = true then
 gd ((0:Int)≤s8.2.2∧s8.2.2<((s8.2.1.length:Nat):Int)) <|
 some (.inl (x12,s8.2.1.set s8.2.2.toNat (⟨(⟨0,0,0⟩:TreeVector),0⟩:TreeSlot),IntKind.i64.wrap (s8.2.2+1)))
else
 some (.inl (x12,s8.2.1,IntKind.i64.wrap (s8.2.2+1))))
else
 some (.inr (s8.1.length,s8.2.1.length,s8.1,s8.2.1)))) (a0.AtA,a0.AtB,0)) fun x11 =>
 some ({ a0 with Bridges:=x7,AtA:=x11.2.2.1,AtB:=x11.2.2.2 })))
theorem spec_l83Bridge_c {a0:TreeWorld} {a1:TreeEvent} {r:TreeWorld} (h:spec_l83Bridge_m a0 a1 = some r):EffC Try.prog 102 [.agg [.osl 9000 0 a0.Bridges.length,.d (slD TreeLink.enc a0.Links),.d (slD encInt a0.Down),.osl 9001 0 a0.AtA.length,.osl 9002 0 a0.AtB.length,.d (slD TreeWord.enc a0.Radio)],.agg [.d (.int .i64 a1.Kind),.d (.int .i64 a1.At),.d (.int .i64 a1.End)]] [(9000,.arr 43 6 a0.Bridges.length (rows TreeBridge.enc a0.Bridges)),(9001,.arr 107 4 a0.AtA.length (rows TreeSlot.enc a0.AtA)),(9002,.arr 107 4 a0.AtB.length (rows TreeSlot.enc a0.AtB))] (.agg [.d (slD TreeBridge.enc r.Bridges),.d (slD TreeLink.enc r.Links),.d (slD encInt r.Down),.d (slD TreeSlot.enc r.AtA),.d (slD TreeSlot.enc r.AtB),.d (slD TreeWord.enc r.Radio)]) []:=by
  refine effC_x tOk (fn:=Try.f102) (c:=codeOf Try.f102) rfl rfl ?_;unfold spec_l83Bridge_m at h;(conv=>whnf);refine seq_in tOk ?_;(conv=>whnf);obtain ⟨x1,hx1,h⟩:=bd_some h;refine cC 0 (spec_l81In_c hx1) ?_;clear hx1;(conv=>whnf);refine andI h (fun _ h=>?_) (fun _ h=>?_)
  · (conv=>whnf);obtain rfl:=Option.some.inj h;exact lfE [.f [9000,9001,9002]]
  · (conv=>whnf);refine gdI h (fun h=>?_);(conv=>whnf);refine seq_in tOk ?_;(conv=>whnf);refine andI h (fun _ h=>?_) (fun _ h=>?_)
    · (conv=>whnf);refine seq_in tOk ?_;(conv=>whnf);refine andI h (fun _ h=>?_) (fun _ h=>?_)
      · (conv=>whnf);obtain ⟨x3,hx3,h⟩:=bd_some h;obtain ⟨g4,h⟩:=gd_some h;refine draw_u tOk [.u 8 0 (.agg [.d (.int .i64 x3.Vector.Root),.d (.int .i64 x3.Vector.Cost),.d (.int .i64 x3.Vector.Age),.d (.int .i64 x3.Link)]) []] 11 [] [0,1,0,4,0,16,0,64,192,496,1023] [2047] ?_;(conv=>whnf);refine And.intro (callD_any (spec_l82Self_c hx3) (by kernel_rfl)) ?_;(conv=>whnf);refine And.intro g4 ?_;clear g4;(conv=>whnf);refine And.intro (by kernel_rfl) ?_;(conv=>whnf);obtain ⟨x5,hx5,hlx5,h⟩:=bd_set h;refine setS (enc:=TreeBridge.enc) hx5 ?_;(conv=>whnf);obtain rfl:=Option.some.inj h;exact lfE [.f [9000,9001,9002]]
      · (conv=>whnf);obtain rfl:=Option.some.inj h;exact lfE [.f [9000,9001,9002]]
    · (conv=>whnf);refine gdI h (fun h=>?_);(conv=>whnf);obtain ⟨x7,hx7,hlx7,h⟩:=bd_set h;refine setS (enc:=TreeBridge.enc) hx7 ?_;(conv=>whnf);refine seq_in tOk ?_;(conv=>whnf);obtain ⟨x11,hx11,h⟩:=bd_some h;refine loop_m tOk hx11 (fun s8=>⟨0,84,[(2,.ref 2 0 0),(3,.ref 3 0 0),(4,.ref 4 0 0),(6,.d (.int .i64 s8.2.2))],[],[(4,.box 29 [.d (.nil),.d (.nil),.d (.nil),.d (.nil),.d (.nil),.d (.nil)]),(3,.box 53 [.d (.int .i64 a1.Kind),.d (.int .i64 a1.At),.d (.int .i64 a1.End)]),(2,.box 29 [.osl 9000 0 a0.Bridges.length,.d (slD TreeLink.enc a0.Links),.d (slD encInt a0.Down),.osl 9001 0 s8.1.length,.osl 9002 0 s8.2.1.length,.d (slD TreeWord.enc a0.Radio)]),(9000,.arr 43 6 a0.Bridges.length (rows TreeBridge.enc x7)),(9001,.arr 107 4 s8.1.length (rows TreeSlot.enc s8.1)),(9002,.arr 107 4 s8.2.1.length (rows TreeSlot.enc s8.2.1))],[⟨[],[]⟩]⟩) ?_ ?_
      · exact leX []
      · clear hx11;intro s8 y9 g10 hy9;(conv=>whnf);refine seq_in tOk ?_;(conv=>whnf);refine andI g10 (fun _ g10=>?_) (fun _ g10=>?_)
        · (conv=>whnf);refine seq_in tOk ?_;(conv=>whnf);obtain ⟨x12,hx12,g10⟩:=bd_some g10;refine seq_join tOk (fun s13=>⟨0,84,[(2,.ref 2 0 0),(3,.ref 3 0 0),(4,.ref 4 0 0),(6,.d (.int .i64 s8.2.2))],[],[(4,.box 29 [.d (.nil),.d (.nil),.d (.nil),.d (.nil),.d (.nil),.d (.nil)]),(3,.box 53 [.d (.int .i64 a1.Kind),.d (.int .i64 a1.At),.d (.int .i64 a1.End)]),(2,.box 29 [.osl 9000 0 a0.Bridges.length,.d (slD TreeLink.enc a0.Links),.d (slD encInt a0.Down),.osl 9001 0 s13.length,.osl 9002 0 s8.2.1.length,.d (slD TreeWord.enc a0.Radio)]),(9000,.arr 43 6 a0.Bridges.length (rows TreeBridge.enc x7)),(9001,.arr 107 4 s13.length (rows TreeSlot.enc s13)),(9002,.arr 107 4 s8.2.1.length (rows TreeSlot.enc s8.2.1))],[⟨[],[]⟩]⟩) (fun s13=>x12 = s13) ?_ ?_
          · (conv=>whnf);obtain ⟨g15,hx12⟩:=gd_some hx12;refine draw_u tOk [] 9 [] [0,1,0,7,15,31,0,64,255] [] ?_;(conv=>whnf);refine And.intro g15 ?_;clear g15;(conv=>whnf);refine And.intro (by kernel_rfl) ?_;(conv=>whnf);refine andI hx12 (fun _ hx12=>?_) (fun _ hx12=>?_)
            · (conv=>whnf);refine gdI hx12 (fun hx12=>?_);(conv=>whnf);refine ⟨rows TreeSlot.enc (s8.1.set s8.2.2.toNat (⟨(⟨0,0,0⟩:TreeVector),0⟩:TreeSlot)),store_rows' lenA rfl,?_⟩;(conv=>whnf);obtain rfl:=Option.some.inj hx12;exact ⟨_,rfl,leX []⟩
            · (conv=>whnf);obtain rfl:=Option.some.inj hx12;exact ⟨_,rfl,leX []⟩
          · rintro _ rfl;(conv=>whnf);obtain ⟨g17,g10⟩:=gd_some g10;refine draw_u tOk [] 9 [] [0,1,0,7,15,31,0,64,255] [] ?_;(conv=>whnf);refine And.intro g17 ?_;clear g17;(conv=>whnf);refine And.intro (by kernel_rfl) ?_;(conv=>whnf);refine andI g10 (fun _ g10=>?_) (fun _ g10=>?_)
            · (conv=>whnf);refine gdI g10 (fun g10=>?_);(conv=>whnf);refine ⟨rows TreeSlot.enc (s8.2.1.set s8.2.2.toNat (⟨(⟨0,0,0⟩:TreeVector),0⟩:TreeSlot)),store_rows' lenA rfl,?_⟩;(conv=>whnf);obtain rfl:=Option.some.inj g10;exact ⟨_,rfl,leX []⟩
            · (conv=>whnf);obtain rfl:=Option.some.inj g10;exact ⟨_,rfl,leX []⟩
        · (conv=>whnf);obtain rfl:=Option.some.inj g10;obtain rfl:=hy9 _ rfl;obtain rfl:=Option.some.inj h;exact lfE [.f [9000,9001,9002]]
noncomputable def spec_l83Forget_m (a0:TreeWorld) (a1:Int) (a2:Int):Option (TreeWorld) :=
 bd (α:=List TreeSlot × List TreeSlot) ((if (a2 == 0) = true then
 gd ((0:Int)≤a1∧a1<((a0.AtA.length:Nat):Int)) <|
 some (a0.AtA.set a1.toNat (⟨(⟨0,0,0⟩:TreeVector),0⟩:TreeSlot),a0.AtB)
else
 gd ((0:Int)≤a1∧a1<((a0.AtB.length:Nat):Int)) <|
 some (a0.AtA,a0.AtB.set a1.toNat (⟨(⟨0,0,0⟩:TreeVector),0⟩:TreeSlot)))) fun x1 =>
 bd (spec_l83End_m ({ a0 with AtA:=x1.1,AtB:=x1.2 }) a1 a2) fun x6 =>
 bd (spec_l83Thinks_m ({ a0 with AtA:=x1.1,AtB:=x1.2 }) x6) fun x7 =>
 some x7
theorem spec_l83Forget_c {a0:TreeWorld} {a1:Int} {a2:Int} {r:TreeWorld} (h:spec_l83Forget_m a0 a1 a2 = some r):EffC Try.prog 132 [.agg [.osl 9000 0 a0.Bridges.length,.d (slD TreeLink.enc a0.Links),.d (slD encInt a0.Down),.osl 9001 0 a0.AtA.length,.osl 9002 0 a0.AtB.length,.d (slD TreeWord.enc a0.Radio)],.d (.int .i64 a1),.d (.int .i64 a2)] [(9000,.arr 43 6 a0.Bridges.length (rows TreeBridge.enc a0.Bridges)),(9001,.arr 107 4 a0.AtA.length (rows TreeSlot.enc a0.AtA)),(9002,.arr 107 4 a0.AtB.length (rows TreeSlot.enc a0.AtB))] (.agg [.osl 5001 0 r.Bridges.length,.d (slD TreeLink.enc r.Links),.d (slD encInt r.Down),.d (slD TreeSlot.enc r.AtA),.d (slD TreeSlot.enc r.AtB),.d (slD TreeWord.enc r.Radio)]) [(5001,.arr 43 6 r.Bridges.length (rows TreeBridge.enc r.Bridges))]:=by
  refine effC_x tOk (fn:=Try.f132) (c:=codeOf Try.f132) rfl rfl ?_;unfold spec_l83Forget_m at h;(conv=>whnf);obtain ⟨x1,hx1,h⟩:=bd_some h;refine seq_join tOk (fun s2=>⟨0,25,[(1,.d (.int .i64 a1)),(2,.d (.int .i64 a2)),(3,.ref 3 0 0),(6,.ref 6 0 0)],[],[(6,.box 29 [.d (.nil),.d (.nil),.d (.nil),.d (.nil),.d (.nil),.d (.nil)]),(3,.box 29 [.osl 9000 0 a0.Bridges.length,.d (slD TreeLink.enc a0.Links),.d (slD encInt a0.Down),.osl 9001 0 s2.1.length,.osl 9002 0 s2.2.length,.d (slD TreeWord.enc a0.Radio)]),(9000,.arr 43 6 a0.Bridges.length (rows TreeBridge.enc a0.Bridges)),(9001,.arr 107 4 s2.1.length (rows TreeSlot.enc s2.1)),(9002,.arr 107 4 s2.2.length (rows TreeSlot.enc s2.2))],[⟨[],[]⟩]⟩) (fun s2=>x1 = s2) ?_ ?_
  · (conv=>whnf);refine andI hx1 (fun _ hx1=>?_) (fun _ hx1=>?_)
    · (conv=>whnf);refine gdI hx1 (fun hx1=>?_);(conv=>whnf);refine ⟨rows TreeSlot.enc (a0.AtA.set a1.toNat (⟨(⟨0,0,0⟩:TreeVector),0⟩:TreeSlot)),store_rows' lenA rfl,?_⟩;(conv=>whnf);obtain rfl:=Option.some.inj hx1;exact ⟨_,rfl,leX []⟩
    · (conv=>whnf);refine gdI hx1 (fun hx1=>?_);(conv=>whnf);refine ⟨rows TreeSlot.enc (a0.AtB.set a1.toNat (⟨(⟨0,0,0⟩:TreeVector),0⟩:TreeSlot)),store_rows' lenA rfl,?_⟩;(conv=>whnf);obtain rfl:=Option.some.inj hx1;exact ⟨_,rfl,leX []⟩
  · rintro _ rfl;(conv=>whnf);obtain ⟨x6,hx6,h⟩:=bd_some h;obtain ⟨x7,hx7,h⟩:=bd_some h;refine drawFz [9001,9002] ?_;(conv=>whnf);refine draw_t tOk [.r 4 [(9000,.arr 43 6 a0.Bridges.length (rows TreeBridge.enc a0.Bridges))] (.d (.int .i64 x6)) [],.e 5 [(9000,.arr 43 6 a0.Bridges.length (rows TreeBridge.enc a0.Bridges))] (.agg [.osl 6001 0 x7.Bridges.length,.d (slD TreeLink.enc x7.Links),.d (slD encInt x7.Down),.d (slD TreeSlot.enc x7.AtA),.d (slD TreeSlot.enc x7.AtB),.d (slD TreeWord.enc x7.Radio)]) [(6001,.arr 43 6 x7.Bridges.length (rows TreeBridge.enc x7.Bridges))] []] 6 [] [0,0,0,0,14,31] [63] [9000] ?_;(conv=>whnf);refine And.intro (eD [(9000,9000)] 0 ((spec_l83End_c hx6).effV (args:=[.agg [.osl 9000 0 a0.Bridges.length,.d (slD TreeLink.enc a0.Links),.d (slD encInt a0.Down),.d (slD TreeSlot.enc x1.1),.d (slD TreeSlot.enc x1.2),.d (slD TreeWord.enc a0.Radio)],.d (.int .i64 a1),.d (.int .i64 a2)]) (bs:=[(9000,.arr 43 6 a0.Bridges.length (rows TreeBridge.enc a0.Bridges))]) rfl (by kernel_rfl) rfl rfl rfl)) ?_;(conv=>whnf);refine And.intro (eD [(9000,9000)] 1000 (spec_l83Thinks_c hx7)) ?_;(conv=>whnf);refine And.intro (by kernel_rfl) ?_;(conv=>whnf);obtain rfl:=Option.some.inj h;exact lfE [.s [(5001,6001),(6001,5001)]]
noncomputable def spec_l83Forget_o03_04_m (a0:TreeWorld) (a1:Int) (a2:Int):Option (TreeWorld) :=
 bd (α:=List TreeSlot × List TreeSlot) ((if (a2 == 0) = true then
 gd ((0:Int)≤a1∧a1<((a0.AtA.length:Nat):Int)) <|
 some (a0.AtA.set a1.toNat (⟨(⟨0,0,0⟩:TreeVector),0⟩:TreeSlot),a0.AtB)
else
 gd ((0:Int)≤a1∧a1<((a0.AtB.length:Nat):Int)) <|
 some (a0.AtA,a0.AtB.set a1.toNat (⟨(⟨0,0,0⟩:TreeVector),0⟩:TreeSlot)))) fun x1 =>
 bd (spec_l83End_m ({ a0 with AtA:=x1.1,AtB:=x1.2 }) a1 a2) fun x6 =>
 bd (spec_l83Thinks_o03_04_m ({ a0 with AtA:=x1.1,AtB:=x1.2 }) x6) fun x7 =>
 some x7
theorem spec_l83Forget_o03_04_c {a0:TreeWorld} {a1:Int} {a2:Int} {r:TreeWorld} (h:spec_l83Forget_o03_04_m a0 a1 a2 = some r):EffC Try.prog 132 [.agg [.osl 9000 0 a0.Bridges.length,.d (slD TreeLink.enc a0.Links),.d (slD encInt a0.Down),.osl 9001 0 a0.AtA.length,.osl 9002 0 a0.AtB.length,.d (slD TreeWord.enc a0.Radio)],.d (.int .i64 a1),.d (.int .i64 a2)] [(9000,.arr 43 6 a0.Bridges.length (rows TreeBridge.enc a0.Bridges)),(9001,.arr 107 4 a0.AtA.length (rows TreeSlot.enc a0.AtA)),(9002,.arr 107 4 a0.AtB.length (rows TreeSlot.enc a0.AtB))] (.agg [.osl 5001 0 r.Bridges.length,.d (slD TreeLink.enc r.Links),.d (slD encInt r.Down),.osl 5002 0 r.AtA.length,.osl 5003 0 r.AtB.length,.d (slD TreeWord.enc r.Radio)]) [(5001,.arr 43 6 r.Bridges.length (rows TreeBridge.enc r.Bridges)),(5002,.arr 107 4 r.AtA.length (rows TreeSlot.enc r.AtA)),(5003,.arr 107 4 r.AtB.length (rows TreeSlot.enc r.AtB))]:=by
  refine effC_x tOk (fn:=Try.f132) (c:=codeOf Try.f132) rfl rfl ?_;unfold spec_l83Forget_o03_04_m at h;(conv=>whnf);obtain ⟨x1,hx1,h⟩:=bd_some h;refine seq_join tOk (fun s2=>⟨0,25,[(1,.d (.int .i64 a1)),(2,.d (.int .i64 a2)),(3,.ref 3 0 0),(6,.ref 6 0 0)],[],[(6,.box 29 [.d (.nil),.d (.nil),.d (.nil),.d (.nil),.d (.nil),.d (.nil)]),(3,.box 29 [.osl 9000 0 a0.Bridges.length,.d (slD TreeLink.enc a0.Links),.d (slD encInt a0.Down),.osl 9001 0 s2.1.length,.osl 9002 0 s2.2.length,.d (slD TreeWord.enc a0.Radio)]),(9000,.arr 43 6 a0.Bridges.length (rows TreeBridge.enc a0.Bridges)),(9001,.arr 107 4 s2.1.length (rows TreeSlot.enc s2.1)),(9002,.arr 107 4 s2.2.length (rows TreeSlot.enc s2.2))],[⟨[],[]⟩]⟩) (fun s2=>x1 = s2) ?_ ?_
  · (conv=>whnf);refine andI hx1 (fun _ hx1=>?_) (fun _ hx1=>?_)
    · (conv=>whnf);refine gdI hx1 (fun hx1=>?_);(conv=>whnf);refine ⟨rows TreeSlot.enc (a0.AtA.set a1.toNat (⟨(⟨0,0,0⟩:TreeVector),0⟩:TreeSlot)),store_rows' lenA rfl,?_⟩;(conv=>whnf);obtain rfl:=Option.some.inj hx1;exact ⟨_,rfl,leX []⟩
    · (conv=>whnf);refine gdI hx1 (fun hx1=>?_);(conv=>whnf);refine ⟨rows TreeSlot.enc (a0.AtB.set a1.toNat (⟨(⟨0,0,0⟩:TreeVector),0⟩:TreeSlot)),store_rows' lenA rfl,?_⟩;(conv=>whnf);obtain rfl:=Option.some.inj hx1;exact ⟨_,rfl,leX []⟩
  · rintro _ rfl;(conv=>whnf);obtain ⟨x6,hx6,h⟩:=bd_some h;obtain ⟨x7,hx7,h⟩:=bd_some h;refine draw_t tOk [.r 4 [(9000,.arr 43 6 a0.Bridges.length (rows TreeBridge.enc a0.Bridges)),(9001,.arr 107 4 x1.1.length (rows TreeSlot.enc x1.1)),(9002,.arr 107 4 x1.2.length (rows TreeSlot.enc x1.2))] (.d (.int .i64 x6)) [],.e 5 [(9000,.arr 43 6 a0.Bridges.length (rows TreeBridge.enc a0.Bridges)),(9001,.arr 107 4 x1.1.length (rows TreeSlot.enc x1.1)),(9002,.arr 107 4 x1.2.length (rows TreeSlot.enc x1.2))] (.agg [.osl 6001 0 x7.Bridges.length,.d (slD TreeLink.enc x7.Links),.d (slD encInt x7.Down),.osl 6002 0 x7.AtA.length,.osl 6003 0 x7.AtB.length,.d (slD TreeWord.enc x7.Radio)]) [(6001,.arr 43 6 x7.Bridges.length (rows TreeBridge.enc x7.Bridges)),(6002,.arr 107 4 x7.AtA.length (rows TreeSlot.enc x7.AtA)),(6003,.arr 107 4 x7.AtB.length (rows TreeSlot.enc x7.AtB))] []] 6 [] [0,0,0,0,14,31] [63] [9000,9001,9002] ?_;(conv=>whnf);refine And.intro (eD [(9000,9000),(9001,9001),(9002,9002)] 0 ((spec_l83End_c hx6).effV (args:=[.agg [.osl 9000 0 a0.Bridges.length,.d (slD TreeLink.enc a0.Links),.d (slD encInt a0.Down),.osl 9001 0 x1.1.length,.osl 9002 0 x1.2.length,.d (slD TreeWord.enc a0.Radio)],.d (.int .i64 a1),.d (.int .i64 a2)]) (bs:=[(9000,.arr 43 6 a0.Bridges.length (rows TreeBridge.enc a0.Bridges)),(9001,.arr 107 4 x1.1.length (rows TreeSlot.enc x1.1)),(9002,.arr 107 4 x1.2.length (rows TreeSlot.enc x1.2))]) rfl (by kernel_rfl) rfl rfl rfl)) ?_;(conv=>whnf);refine And.intro (eD [(9000,9000),(9001,9001),(9002,9002)] 1000 (spec_l83Thinks_o03_04_c hx7)) ?_;(conv=>whnf);refine And.intro (by kernel_rfl) ?_;(conv=>whnf);obtain rfl:=Option.some.inj h;exact lfE [.s [(5001,6001),(5002,6002),(5003,6003),(6001,5001),(6002,5002),(6003,5003)]]
noncomputable def spec_l83Link_m (a0:TreeWorld) (a1:TreeEvent):Option (TreeWorld) :=
 bd (spec_l81In_m a1.At 0 (IntKind.i64.wrap (((a0.Links.length:Nat):Int) - 1))) fun x1 =>
(if (!x1) = true then
 some a0
else
 bd (lp (σ:=List Int × Int) (β:=(Nat × Int × (List Int))) (fun s2 =>
 gd ((decide (s2.2<((a0.Down.length:Nat):Int))) = true → ((0:Int)≤s2.2∧s2.2<((a0.Down.length:Nat):Int))) <|
(if ((decide (s2.2<((a0.Down.length:Nat):Int))) && (decide ((a0.Down.getD s2.2.toNat default)<a1.At))) = true then
 gd ((0:Int)≤s2.2∧s2.2<((a0.Down.length:Nat):Int)) <|
 gd (((s2.1.length)+(([(a0.Down.getD s2.2.toNat default)]:List Int).length)) * (8+1)≤70368744177664) <|
 some (.inl ((s2.1 ++ ([(a0.Down.getD s2.2.toNat default)]:List Int)),IntKind.i64.wrap (s2.2+1)))
else
 some (.inr (s2.1.length,s2.2,s2.1)))) (([]:List Int),0)) fun x5 =>
 bd (α:=List Int) ((if (a1.Kind == 8) = true then
 gd (((x5.1)+(([a1.At]:List Int).length)) * (8+1)≤70368744177664) <|
 some (x5.2.2 ++ ([a1.At]:List Int))
else
 some x5.2.2)) fun x10 =>
 bd (lp (σ:=List Int × Int) (β:=(Nat × (List Int))) (fun s14 =>
(if (decide (s14.2<((a0.Down.length:Nat):Int))) = true then
 gd ((0:Int)≤s14.2∧s14.2<((a0.Down.length:Nat):Int)) <|
(if ((a0.Down.getD s14.2.toNat default) != a1.At) = true then
 gd ((0:Int)≤s14.2∧s14.2<((a0.Down.length:Nat):Int)) <|
 gd (((s14.1.length)+(([(a0.Down.getD s14.2.toNat default)]:List Int).length)) * (8+1)≤70368744177664) <|
 some (.inl ((s14.1 ++ ([(a0.Down.getD s14.2.toNat default)]:List Int)),IntKind.i64.wrap (s14.2+1)))
else
 some (.inl (s14.1,IntKind.i64.wrap (s14.2+1))))
else
 some (.inr (s14.1.length,s14.1)))) (x10,x5.2.1)) fun x17 =>
(if (a1.Kind == 8) = true then
 bd (spec_l83Forget_o03_04_m ({ a0 with Down:=x17.2 }) a1.At 0) fun x22 =>
 bd (spec_l83Forget_m x22 a1.At 1) fun x23 =>
 some x23
else
 some ({ a0 with Down:=x17.2 })))
theorem spec_l83Link_c {a0:TreeWorld} {a1:TreeEvent} {r:TreeWorld} (h:spec_l83Link_m a0 a1 = some r):EffC Try.prog 103 [.agg [.osl 9000 0 a0.Bridges.length,.d (slD TreeLink.enc a0.Links),.d (slD encInt a0.Down),.osl 9001 0 a0.AtA.length,.osl 9002 0 a0.AtB.length,.d (slD TreeWord.enc a0.Radio)],.agg [.d (.int .i64 a1.Kind),.d (.int .i64 a1.At),.d (.int .i64 a1.End)]] [(9000,.arr 43 6 a0.Bridges.length (rows TreeBridge.enc a0.Bridges)),(9001,.arr 107 4 a0.AtA.length (rows TreeSlot.enc a0.AtA)),(9002,.arr 107 4 a0.AtB.length (rows TreeSlot.enc a0.AtB))] (.agg [.d (slD TreeBridge.enc r.Bridges),.d (slD TreeLink.enc r.Links),.d (slD encInt r.Down),.d (slD TreeSlot.enc r.AtA),.d (slD TreeSlot.enc r.AtB),.d (slD TreeWord.enc r.Radio)]) []:=by
  refine effC_x tOk (fn:=Try.f103) (c:=codeOf Try.f103) rfl rfl ?_;unfold spec_l83Link_m at h;(conv=>whnf);refine seq_in tOk ?_;(conv=>whnf);obtain ⟨x1,hx1,h⟩:=bd_some h;refine cC 0 (spec_l81In_c hx1) ?_;clear hx1;(conv=>whnf);refine andI h (fun _ h=>?_) (fun _ h=>?_)
  · (conv=>whnf);obtain rfl:=Option.some.inj h;exact lfE [.f [9000,9001,9002]]
  · (conv=>whnf);refine seq_in tOk ?_;(conv=>whnf);obtain ⟨x5,hx5,h⟩:=bd_some h;refine loop_m tOk hx5 (fun s2=>⟨0,86,[(2,.ref 2 0 0),(3,.ref 3 0 0),(4,.ref 4 0 0),(5,.osl 7001 0 s2.1.length),(6,.d (.int .i64 s2.2))],[],[(7001,.arr 3 1 s2.1.length (rows encInt s2.1)),(4,.box 29 [.d (.nil),.d (.nil),.d (.nil),.d (.nil),.d (.nil),.d (.nil)]),(3,.box 53 [.d (.int .i64 a1.Kind),.d (.int .i64 a1.At),.d (.int .i64 a1.End)]),(2,.box 29 [.osl 9000 0 a0.Bridges.length,.d (slD TreeLink.enc a0.Links),.d (slD encInt a0.Down),.osl 9001 0 a0.AtA.length,.osl 9002 0 a0.AtB.length,.d (slD TreeWord.enc a0.Radio)]),(9000,.arr 43 6 a0.Bridges.length (rows TreeBridge.enc a0.Bridges)),(9001,.arr 107 4 a0.AtA.length (rows TreeSlot.enc a0.AtA)),(9002,.arr 107 4 a0.AtB.length (rows TreeSlot.enc a0.AtB))],[⟨[],[]⟩]⟩) ?_ ?_
    · exact leX [.p 7001 3 1 (rows encInt ([]:List Int))]
    · clear hx5;intro s2 y3 g4 hy3;(conv=>whnf);refine seq_in tOk ?_;(conv=>whnf);obtain ⟨g6,g4⟩:=gd_some g4;refine draw_u tOk [] 15 [] [0,0,2,6,15,31,63,127,63,511,1023,63,2111,8191,16383] [] ?_;(conv=>whnf);refine And.intro g6 ?_;clear g6;(conv=>whnf);refine And.intro (by kernel_rfl) ?_;(conv=>whnf);refine andI g4 (fun _ g4=>?_) (fun _ g4=>?_)
      · (conv=>whnf);refine gdI g4 (fun g4=>?_);(conv=>whnf);refine bldS (enc:=encInt) ([(a0.Down.getD s2.2.toNat default)]:List Int) ?_;(conv=>whnf);refine gdI g4 (fun g4=>?_);refine appS (enc:=encInt) (xs:=s2.1) (ys:=([(a0.Down.getD s2.2.toNat default)]:List Int)) ?_;(conv=>whnf);obtain rfl:=Option.some.inj g4;exact ⟨_,rfl,leX []⟩
      · (conv=>whnf);obtain rfl:=Option.some.inj g4;obtain rfl:=hy3 _ rfl;obtain ⟨x10,hx10,h⟩:=bd_some h;refine seq_join tOk (fun s11=>⟨0,86,[(2,.ref 2 0 0),(3,.ref 3 0 0),(4,.ref 4 0 0),(5,.osl 7001 0 s11.length),(6,.d (.int .i64 (s2.1.length,s2.2,s2.1).2.1))],[],[(7001,.arr 3 1 s11.length (rows encInt s11)),(4,.box 29 [.d (.nil),.d (.nil),.d (.nil),.d (.nil),.d (.nil),.d (.nil)]),(3,.box 53 [.d (.int .i64 a1.Kind),.d (.int .i64 a1.At),.d (.int .i64 a1.End)]),(2,.box 29 [.osl 9000 0 a0.Bridges.length,.d (slD TreeLink.enc a0.Links),.d (slD encInt a0.Down),.osl 9001 0 a0.AtA.length,.osl 9002 0 a0.AtB.length,.d (slD TreeWord.enc a0.Radio)]),(9000,.arr 43 6 a0.Bridges.length (rows TreeBridge.enc a0.Bridges)),(9001,.arr 107 4 a0.AtA.length (rows TreeSlot.enc a0.AtA)),(9002,.arr 107 4 a0.AtB.length (rows TreeSlot.enc a0.AtB))],[⟨[],[]⟩]⟩) (fun s11=>x10 = s11) ?_ ?_
        · (conv=>whnf);refine andI hx10 (fun _ hx10=>?_) (fun _ hx10=>?_)
          · (conv=>whnf);refine bldS (enc:=encInt) ([a1.At]:List Int) ?_;(conv=>whnf);refine gdI hx10 (fun hx10=>?_);refine appS (enc:=encInt) (xs:=(s2.1.length,s2.2,s2.1).2.2) (ys:=([a1.At]:List Int)) ?_;(conv=>whnf);obtain rfl:=Option.some.inj hx10;exact ⟨_,rfl,leX []⟩
          · (conv=>whnf);obtain rfl:=Option.some.inj hx10;exact ⟨_,rfl,leX []⟩
        · rintro _ rfl;(conv=>whnf);refine seq_in tOk ?_;(conv=>whnf);obtain ⟨x17,hx17,h⟩:=bd_some h;refine loop_m tOk hx17 (fun s14=>⟨0,86,[(2,.ref 2 0 0),(3,.ref 3 0 0),(4,.ref 4 0 0),(5,.osl 7001 0 s14.1.length),(6,.d (.int .i64 s14.2))],[],[(7001,.arr 3 1 s14.1.length (rows encInt s14.1)),(4,.box 29 [.d (.nil),.d (.nil),.d (.nil),.d (.nil),.d (.nil),.d (.nil)]),(3,.box 53 [.d (.int .i64 a1.Kind),.d (.int .i64 a1.At),.d (.int .i64 a1.End)]),(2,.box 29 [.osl 9000 0 a0.Bridges.length,.d (slD TreeLink.enc a0.Links),.d (slD encInt a0.Down),.osl 9001 0 a0.AtA.length,.osl 9002 0 a0.AtB.length,.d (slD TreeWord.enc a0.Radio)]),(9000,.arr 43 6 a0.Bridges.length (rows TreeBridge.enc a0.Bridges)),(9001,.arr 107 4 a0.AtA.length (rows TreeSlot.enc a0.AtA)),(9002,.arr 107 4 a0.AtB.length (rows TreeSlot.enc a0.AtB))],[⟨[],[]⟩]⟩) ?_ ?_
          · exact leX []
          · clear hx17;intro s14 y15 g16 hy15;(conv=>whnf);refine seq_in tOk ?_;(conv=>whnf);refine andI g16 (fun _ g16=>?_) (fun _ g16=>?_)
            · (conv=>whnf);refine seq_in tOk ?_;(conv=>whnf);obtain ⟨g18,g16⟩:=gd_some g16;refine draw_u tOk [] 8 [] [0,1,0,7,15,0,32,127] [] ?_;(conv=>whnf);refine And.intro g18 ?_;clear g18;(conv=>whnf);refine And.intro (by kernel_rfl) ?_;(conv=>whnf);refine andI g16 (fun _ g16=>?_) (fun _ g16=>?_)
              · (conv=>whnf);refine gdI g16 (fun g16=>?_);(conv=>whnf);refine bldS (enc:=encInt) ([(a0.Down.getD s14.2.toNat default)]:List Int) ?_;(conv=>whnf);refine gdI g16 (fun g16=>?_);refine appS (enc:=encInt) (xs:=s14.1) (ys:=([(a0.Down.getD s14.2.toNat default)]:List Int)) ?_;(conv=>whnf);obtain rfl:=Option.some.inj g16;exact ⟨_,rfl,leX []⟩
              · (conv=>whnf);obtain rfl:=Option.some.inj g16;exact ⟨_,rfl,leX []⟩
            · (conv=>whnf);obtain rfl:=Option.some.inj g16;obtain rfl:=hy15 _ rfl;refine seq_in tOk ?_;(conv=>whnf);refine andI h (fun _ h=>?_) (fun _ h=>?_)
              · (conv=>whnf);obtain ⟨x22,hx22,h⟩:=bd_some h;obtain ⟨x23,hx23,h⟩:=bd_some h;refine drawFz [7001] ?_;(conv=>whnf);refine draw_t tOk [.e 3 [(9000,.arr 43 6 a0.Bridges.length (rows TreeBridge.enc a0.Bridges)),(9001,.arr 107 4 a0.AtA.length (rows TreeSlot.enc a0.AtA)),(9002,.arr 107 4 a0.AtB.length (rows TreeSlot.enc a0.AtB))] (.agg [.osl 6001 0 x22.Bridges.length,.d (slD TreeLink.enc x22.Links),.d (slD encInt x22.Down),.osl 6002 0 x22.AtA.length,.osl 6003 0 x22.AtB.length,.d (slD TreeWord.enc x22.Radio)]) [] [(6001,.arr 43 6 x22.Bridges.length (rows TreeBridge.enc x22.Bridges)),(6002,.arr 107 4 x22.AtA.length (rows TreeSlot.enc x22.AtA)),(6003,.arr 107 4 x22.AtB.length (rows TreeSlot.enc x22.AtB))],.e 6 [(6001,.arr 43 6 x22.Bridges.length (rows TreeBridge.enc x22.Bridges)),(6002,.arr 107 4 x22.AtA.length (rows TreeSlot.enc x22.AtA)),(6003,.arr 107 4 x22.AtB.length (rows TreeSlot.enc x22.AtB))] (.agg [.osl 7001 0 x23.Bridges.length,.d (slD TreeLink.enc x23.Links),.d (slD encInt x23.Down),.d (slD TreeSlot.enc x23.AtA),.d (slD TreeSlot.enc x23.AtB),.d (slD TreeWord.enc x23.Radio)]) [(7001,.arr 43 6 x23.Bridges.length (rows TreeBridge.enc x23.Bridges))] []] 7 [] [0,0,2,7,0,16,63] [127] [9000,9001,9002] ?_;(conv=>whnf);refine And.intro (eH [(9000,9000),(9001,9001),(9002,9002)] 1000 (spec_l83Forget_o03_04_c hx22)) ?_;(conv=>whnf);refine And.intro (eD [(9000,6001),(9001,6002),(9002,6003)] 2000 (spec_l83Forget_c hx23)) ?_;(conv=>whnf);refine And.intro (by kernel_rfl) ?_;(conv=>whnf);obtain rfl:=Option.some.inj h;exact lfE [.f [7001]]
              · (conv=>whnf);obtain rfl:=Option.some.inj h;exact lfE [.f [7001,9000,9001,9002]]
noncomputable def spec_l83Do_m (a0:TreeWorld) (a1:TreeEvent):Option (TreeWorld) :=
(if (a1.Kind == 1) = true then
 bd (spec_l83Say_m a0 a1) fun x1 =>
 some x1
else
 bd (α:=Bool) ((if (a1.Kind == 2) = true then
 some (a1.Kind == 2)
else
(if (a1.Kind == 3) = true then
 some (a1.Kind == 3)
else
 some (a1.Kind == 4)))) fun x2 =>
(if x2 = true then
 bd (spec_l83Words_m a0 a1) fun x5 =>
 some x5
else
(if (a1.Kind == 5) = true then
 bd (spec_l83Tick_m a0) fun x6 =>
 some x6
else
 bd (α:=Bool) ((if (a1.Kind == 6) = true then
 some (a1.Kind == 6)
else
 some (a1.Kind == 7))) fun x7 =>
(if x7 = true then
 bd (spec_l83Bridge_m a0 a1) fun x10 =>
 some x10
else
(if (a1.Kind == 8) = true then
(if (a1.Kind == 8) = true then
 bd (spec_l83Link_m a0 a1) fun x11 =>
 some x11
else
 some a0)
else
(if (a1.Kind == 9) = true then
 bd (spec_l83Link_m a0 a1) fun x12 =>
 some x12
else
 some a0))))))
theorem spec_l83Do_c {a0:TreeWorld} {a1:TreeEvent} {r:TreeWorld} (h:spec_l83Do_m a0 a1 = some r):EffC Try.prog 52 [.agg [.osl 9000 0 a0.Bridges.length,.d (slD TreeLink.enc a0.Links),.d (slD encInt a0.Down),.osl 9001 0 a0.AtA.length,.osl 9002 0 a0.AtB.length,.osl 9003 0 a0.Radio.length],.agg [.d (.int .i64 a1.Kind),.d (.int .i64 a1.At),.d (.int .i64 a1.End)]] [(9000,.arr 43 6 a0.Bridges.length (rows TreeBridge.enc a0.Bridges)),(9001,.arr 107 4 a0.AtA.length (rows TreeSlot.enc a0.AtA)),(9002,.arr 107 4 a0.AtB.length (rows TreeSlot.enc a0.AtB)),(9003,.arr 76 5 a0.Radio.length (rows TreeWord.enc a0.Radio))] (.agg [.d (slD TreeBridge.enc r.Bridges),.d (slD TreeLink.enc r.Links),.d (slD encInt r.Down),.d (slD TreeSlot.enc r.AtA),.d (slD TreeSlot.enc r.AtB),.d (slD TreeWord.enc r.Radio)]) []:=by
  refine effC_x tOk (fn:=Try.f52) (c:=codeOf Try.f52) rfl rfl ?_;unfold spec_l83Do_m at h;(conv=>whnf);refine seq_in tOk ?_;(conv=>whnf);refine andI h (fun _ h=>?_) (fun _ h=>?_)
  · (conv=>whnf);obtain ⟨x1,hx1,h⟩:=bd_some h;refine callFz [9000,9001,9002] ?_;(conv=>whnf);refine cE [(9000,9003)] 0 (spec_l83Say_c hx1) ?_;(conv=>whnf);obtain rfl:=Option.some.inj h;exact lfE []
  · (conv=>whnf);obtain ⟨x2,hx2,h⟩:=bd_some h;refine seq_join tOk (fun s3=>⟨0,36,[(2,.ref 2 0 0),(3,.ref 3 0 0),(4,.ref 4 0 0),(6,.d (.int .i64 a1.Kind)),(12,.d (.bool s3))],[],[(4,.box 29 [.d (.nil),.d (.nil),.d (.nil),.d (.nil),.d (.nil),.d (.nil)]),(3,.box 53 [.d (.int .i64 a1.Kind),.d (.int .i64 a1.At),.d (.int .i64 a1.End)]),(2,.box 29 [.osl 9000 0 a0.Bridges.length,.d (slD TreeLink.enc a0.Links),.d (slD encInt a0.Down),.osl 9001 0 a0.AtA.length,.osl 9002 0 a0.AtB.length,.osl 9003 0 a0.Radio.length]),(9000,.arr 43 6 a0.Bridges.length (rows TreeBridge.enc a0.Bridges)),(9001,.arr 107 4 a0.AtA.length (rows TreeSlot.enc a0.AtA)),(9002,.arr 107 4 a0.AtB.length (rows TreeSlot.enc a0.AtB)),(9003,.arr 76 5 a0.Radio.length (rows TreeWord.enc a0.Radio))],[⟨[],[]⟩]⟩) (fun s3=>x2 = s3) ?_ ?_
    · (conv=>whnf);refine andI hx2 (fun _ hx2=>?_) (fun _ hx2=>?_)
      · (conv=>whnf);obtain rfl:=Option.some.inj hx2;exact ⟨_,rfl,leX []⟩
      · (conv=>whnf);refine andI hx2 (fun _ hx2=>?_) (fun _ hx2=>?_)
        · (conv=>whnf);obtain rfl:=Option.some.inj hx2;exact ⟨_,rfl,leX []⟩
        · (conv=>whnf);obtain rfl:=Option.some.inj hx2;exact ⟨_,rfl,leX []⟩
    · rintro _ rfl;(conv=>whnf);refine andI h (fun _ h=>?_) (fun _ h=>?_)
      · (conv=>whnf);obtain ⟨x5,hx5,h⟩:=bd_some h;refine cE [(9000,9000),(9001,9001),(9002,9002),(9003,9003)] 0 (spec_l83Words_c hx5) ?_;(conv=>whnf);obtain rfl:=Option.some.inj h;exact lfE []
      · (conv=>whnf);refine andI h (fun _ h=>?_) (fun _ h=>?_)
        · (conv=>whnf);obtain ⟨x6,hx6,h⟩:=bd_some h;refine callFz [9003] ?_;(conv=>whnf);refine cE [(9000,9000),(9001,9001),(9002,9002)] 1000 (spec_l83Tick_c hx6) ?_;(conv=>whnf);obtain rfl:=Option.some.inj h;exact lfE [.f [6001]]
        · (conv=>whnf);obtain ⟨x7,hx7,h⟩:=bd_some h;refine seq_join tOk (fun s8=>⟨0,36,[(2,.ref 2 0 0),(3,.ref 3 0 0),(4,.ref 4 0 0),(6,.d (.int .i64 a1.Kind)),(23,.d (.bool s8))],[],[(4,.box 29 [.d (.nil),.d (.nil),.d (.nil),.d (.nil),.d (.nil),.d (.nil)]),(3,.box 53 [.d (.int .i64 a1.Kind),.d (.int .i64 a1.At),.d (.int .i64 a1.End)]),(2,.box 29 [.osl 9000 0 a0.Bridges.length,.d (slD TreeLink.enc a0.Links),.d (slD encInt a0.Down),.osl 9001 0 a0.AtA.length,.osl 9002 0 a0.AtB.length,.osl 9003 0 a0.Radio.length]),(9000,.arr 43 6 a0.Bridges.length (rows TreeBridge.enc a0.Bridges)),(9001,.arr 107 4 a0.AtA.length (rows TreeSlot.enc a0.AtA)),(9002,.arr 107 4 a0.AtB.length (rows TreeSlot.enc a0.AtB)),(9003,.arr 76 5 a0.Radio.length (rows TreeWord.enc a0.Radio))],[⟨[],[]⟩]⟩) (fun s8=>x7 = s8) ?_ ?_
          · (conv=>whnf);refine andI hx7 (fun _ hx7=>?_) (fun _ hx7=>?_)
            · (conv=>whnf);obtain rfl:=Option.some.inj hx7;exact ⟨_,rfl,leX []⟩
            · (conv=>whnf);obtain rfl:=Option.some.inj hx7;exact ⟨_,rfl,leX []⟩
          · rintro _ rfl;(conv=>whnf);refine andI h (fun _ h=>?_) (fun _ h=>?_)
            · (conv=>whnf);obtain ⟨x10,hx10,h⟩:=bd_some h;refine callFz [9003] ?_;(conv=>whnf);refine cE [(9000,9000),(9001,9001),(9002,9002)] 0 (spec_l83Bridge_c hx10) ?_;(conv=>whnf);obtain rfl:=Option.some.inj h;exact lfE []
            · (conv=>whnf);refine seq_in tOk ?_;(conv=>whnf);refine andI h (fun _ h=>?_) (fun _ h=>?_)
              · (conv=>whnf);refine andI h (fun _ h=>?_) (fun _ h=>?_)
                · (conv=>whnf);obtain ⟨x11,hx11,h⟩:=bd_some h;refine callFz [9003] ?_;(conv=>whnf);refine cE [(9000,9000),(9001,9001),(9002,9002)] 0 (spec_l83Link_c hx11) ?_;(conv=>whnf);obtain rfl:=Option.some.inj h;exact lfE []
                · (conv=>whnf);obtain rfl:=Option.some.inj h;exact lfE [.f [9000,9001,9002,9003]]
              · (conv=>whnf);refine andI h (fun _ h=>?_) (fun _ h=>?_)
                · (conv=>whnf);obtain ⟨x12,hx12,h⟩:=bd_some h;refine callFz [9003] ?_;(conv=>whnf);refine cE [(9000,9000),(9001,9001),(9002,9002)] 0 (spec_l83Link_c hx12) ?_;(conv=>whnf);obtain rfl:=Option.some.inj h;exact lfE []
                · (conv=>whnf);obtain rfl:=Option.some.inj h;exact lfE [.f [9000,9001,9002,9003]]
noncomputable def spec_l82Copy_o01f_02f_m (a0:TreeWorld):Option (TreeWorld) :=
 gd (((0)+(a0.Bridges.length)) * (48+1)≤70368744177664) <|
 gd (((0)+(a0.Links.length)) * (24+1)≤70368744177664) <|
 gd (((0)+(a0.Down.length)) * (8+1)≤70368744177664) <|
 gd (((0)+(a0.AtA.length)) * (32+1)≤70368744177664) <|
 gd (((0)+(a0.AtB.length)) * (32+1)≤70368744177664) <|
 gd (((0)+(a0.Radio.length)) * (40+1)≤70368744177664) <|
 some a0
theorem spec_l82Copy_o01f_02f_c {a0:TreeWorld} {r:TreeWorld} (h:spec_l82Copy_o01f_02f_m a0 = some r):EffC Try.prog 51 [.agg [.d (slD TreeBridge.enc a0.Bridges),.d (slD TreeLink.enc a0.Links),.d (slD encInt a0.Down),.d (slD TreeSlot.enc a0.AtA),.d (slD TreeSlot.enc a0.AtB),.d (slD TreeWord.enc a0.Radio)]] [] (.agg [.osl 5001 0 r.Bridges.length,.d (slD TreeLink.enc r.Links),.d (slD encInt r.Down),.osl 5002 0 r.AtA.length,.osl 5003 0 r.AtB.length,.osl 5004 0 r.Radio.length]) [(5001,.arr 43 6 r.Bridges.length (rows TreeBridge.enc r.Bridges)),(5002,.arr 107 4 r.AtA.length (rows TreeSlot.enc r.AtA)),(5003,.arr 107 4 r.AtB.length (rows TreeSlot.enc r.AtB)),(5004,.arr 76 5 r.Radio.length (rows TreeWord.enc r.Radio))]:=by
  refine effC_x tOk (fn:=Try.f51) (c:=codeOf Try.f51) rfl rfl ?_;unfold spec_l82Copy_o01f_02f_m at h;(conv=>whnf);obtain ⟨g1,h⟩:=gd_some h;obtain ⟨g2,h⟩:=gd_some h;obtain ⟨g3,h⟩:=gd_some h;obtain ⟨g4,h⟩:=gd_some h;obtain ⟨g5,h⟩:=gd_some h;obtain ⟨g6,h⟩:=gd_some h;refine draw_u tOk [] 25 [] [0,0,2,7,0,0,32,127,0,0,512,2047,0,0,8192,32767,0,0,131072,524287,0,0,2097152,8388607,16777215] [33554431] ?_;(conv=>whnf);refine And.intro g1 ?_;clear g1;refine appN (enc:=TreeBridge.enc) (ys:=a0.Bridges) ?_;(conv=>whnf);refine And.intro g2 ?_;clear g2;refine appN (enc:=TreeLink.enc) (ys:=a0.Links) ?_;(conv=>whnf);refine And.intro g3 ?_;clear g3;refine appN (enc:=encInt) (ys:=a0.Down) ?_;(conv=>whnf);refine And.intro g4 ?_;clear g4;refine appN (enc:=TreeSlot.enc) (ys:=a0.AtA) ?_;(conv=>whnf);refine And.intro g5 ?_;clear g5;refine appN (enc:=TreeSlot.enc) (ys:=a0.AtB) ?_;(conv=>whnf);refine And.intro g6 ?_;clear g6;refine appN (enc:=TreeWord.enc) (ys:=a0.Radio) ?_;(conv=>whnf);refine And.intro (by kernel_rfl) ?_;(conv=>whnf);obtain rfl:=Option.some.inj h;exact lfE [.f [10,14],.s [(6,5001),(18,5002),(22,5003),(26,5004),(5001,6),(5002,18),(5003,22),(5004,26)]]
noncomputable def spec_TreeStep_m (a0:TreeWorld) (a1:TreeEvent):Option (TreeWorld) :=
 bd (spec_TreeWorldOk_m a0) fun x1 =>
(if (!x1) = true then
 some (⟨[],[],[],[],[],[]⟩:TreeWorld)
else
 bd (spec_l82Copy_o01f_02f_m a0) fun x2 =>
 bd (spec_l83Do_m x2 a1) fun x3 =>
 bd (spec_l82Copy_m x3) fun x4 =>
 some x4)
theorem spec_TreeStep_c {a0:TreeWorld} {a1:TreeEvent} {r:TreeWorld} (h:spec_TreeStep_m a0 a1 = some r):PureC Try.prog 21 [.agg [.d (slD TreeBridge.enc a0.Bridges),.d (slD TreeLink.enc a0.Links),.d (slD encInt a0.Down),.d (slD TreeSlot.enc a0.AtA),.d (slD TreeSlot.enc a0.AtB),.d (slD TreeWord.enc a0.Radio)],.agg [.d (.int .i64 a1.Kind),.d (.int .i64 a1.At),.d (.int .i64 a1.End)]] (.agg [.osl 5001 0 r.Bridges.length,.osl 5002 0 r.Links.length,.osl 5003 0 r.Down.length,.osl 5004 0 r.AtA.length,.osl 5005 0 r.AtB.length,.osl 5006 0 r.Radio.length]) [⟨5001,43,6,r.Bridges.length,rows TreeBridge.enc r.Bridges⟩,⟨5002,46,3,r.Links.length,rows TreeLink.enc r.Links⟩,⟨5003,3,1,r.Down.length,rows encInt r.Down⟩,⟨5004,107,4,r.AtA.length,rows TreeSlot.enc r.AtA⟩,⟨5005,107,4,r.AtB.length,rows TreeSlot.enc r.AtB⟩,⟨5006,76,5,r.Radio.length,rows TreeWord.enc r.Radio⟩]:=by
  refine pureC_x tOk (fn:=Try.f21) (c:=codeOf Try.f21) rfl rfl ?_;unfold spec_TreeStep_m at h;(conv=>whnf);refine seq_in tOk ?_;(conv=>whnf);obtain ⟨x1,hx1,h⟩:=bd_some h;refine cC 0 (spec_TreeWorldOk_c hx1) ?_;clear hx1;(conv=>whnf);refine andI h (fun _ h=>?_) (fun _ h=>?_)
  · (conv=>whnf);obtain rfl:=Option.some.inj h;exact lfP [.k [2,3],.p 5001 43 6 (rows TreeBridge.enc ([]:List TreeBridge)),.p 5002 46 3 (rows TreeLink.enc ([]:List TreeLink)),.p 5003 3 1 (rows encInt ([]:List Int)),.p 5004 107 4 (rows TreeSlot.enc ([]:List TreeSlot)),.p 5005 107 4 (rows TreeSlot.enc ([]:List TreeSlot)),.p 5006 76 5 (rows TreeWord.enc ([]:List TreeWord))]
  · (conv=>whnf);obtain ⟨x2,hx2,h⟩:=bd_some h;obtain ⟨x3,hx3,h⟩:=bd_some h;obtain ⟨x4,hx4,h⟩:=bd_some h;refine draw_t tOk [.e 1 [] (.agg [.osl 6001 0 x2.Bridges.length,.d (slD TreeLink.enc x2.Links),.d (slD encInt x2.Down),.osl 6002 0 x2.AtA.length,.osl 6003 0 x2.AtB.length,.osl 6004 0 x2.Radio.length]) [] [(6001,.arr 43 6 x2.Bridges.length (rows TreeBridge.enc x2.Bridges)),(6002,.arr 107 4 x2.AtA.length (rows TreeSlot.enc x2.AtA)),(6003,.arr 107 4 x2.AtB.length (rows TreeSlot.enc x2.AtB)),(6004,.arr 76 5 x2.Radio.length (rows TreeWord.enc x2.Radio))],.e 3 [(6001,.arr 43 6 x2.Bridges.length (rows TreeBridge.enc x2.Bridges)),(6002,.arr 107 4 x2.AtA.length (rows TreeSlot.enc x2.AtA)),(6003,.arr 107 4 x2.AtB.length (rows TreeSlot.enc x2.AtB)),(6004,.arr 76 5 x2.Radio.length (rows TreeWord.enc x2.Radio))] (.agg [.d (slD TreeBridge.enc x3.Bridges),.d (slD TreeLink.enc x3.Links),.d (slD encInt x3.Down),.d (slD TreeSlot.enc x3.AtA),.d (slD TreeSlot.enc x3.AtB),.d (slD TreeWord.enc x3.Radio)]) [] [],.u 4 2000 (.agg [.osl 5001 0 x4.Bridges.length,.osl 5002 0 x4.Links.length,.osl 5003 0 x4.Down.length,.osl 5004 0 x4.AtA.length,.osl 5005 0 x4.AtB.length,.osl 5006 0 x4.Radio.length]) [⟨5001,43,6,x4.Bridges.length,rows TreeBridge.enc x4.Bridges⟩,⟨5002,46,3,x4.Links.length,rows TreeLink.enc x4.Links⟩,⟨5003,3,1,x4.Down.length,rows encInt x4.Down⟩,⟨5004,107,4,x4.AtA.length,rows TreeSlot.enc x4.AtA⟩,⟨5005,107,4,x4.AtB.length,rows TreeSlot.enc x4.AtB⟩,⟨5006,76,5,x4.Radio.length,rows TreeWord.enc x4.Radio⟩]] 5 [] [0,1,0,7,15] [31] [] ?_;(conv=>whnf);refine And.intro (eH [] 1000 (spec_l82Copy_o01f_02f_c hx2)) ?_;(conv=>whnf);refine And.intro (eD [(9000,6001),(9001,6002),(9002,6003),(9003,6004)] 0 (spec_l83Do_c hx3)) ?_;(conv=>whnf);refine And.intro (callD_any (spec_l82Copy_c hx4) (by kernel_rfl)) ?_;(conv=>whnf);refine And.intro (by kernel_rfl) ?_;(conv=>whnf);obtain rfl:=Option.some.inj h;exact lfP [.s [(5001,7001),(5002,7002),(5003,7003),(5004,7004),(5005,7005),(5006,7006),(7001,5001),(7002,5002),(7003,5003),(7004,5004),(7005,5005),(7006,5006)]]
noncomputable def spec_l85Vector_r10_13_14_15_m (a0:l81Rd) (a1:TreeWorld):Option (TreeVector × l81Rd × TreeWorld) :=
 bd (spec_l81Rd_pick_m a0 ((a1.Bridges.length:Nat):Int)) fun x1 =>
 gd ((0:Int)≤x1.1∧x1.1<((a1.Bridges.length:Nat):Int)) <|
 bd (α:=Int × Int) (bd (spec_l81Rd_pick_m (⟨a0.b,x1.2.p⟩:l81Rd) 2) fun x6 =>
(if (x6.1 == 0) = true then
 bd (spec_l81Rd_pick_m (⟨a0.b,x6.2.p⟩:l81Rd) 4) fun x7 =>
 gd ((0:Int)≤x7.1∧x7.1<((([1,2,3,1000]:List Int).length:Nat):Int)) <|
 some (x7.2.p,(([1,2,3,1000]:List Int).getD x7.1.toNat default))
else
 some (x6.2.p,(a1.Bridges.getD x1.1.toNat default).Id))) fun x3 =>
 bd (spec_l81Rd_pick_m (⟨a0.b,x3.1⟩:l81Rd) 6) fun x9 =>
 gd ((0:Int)≤x9.1∧x9.1<((([0,1,2,9,100,1000]:List Int).length:Nat):Int)) <|
 bd (spec_l81Rd_pick_m (⟨a0.b,x9.2.p⟩:l81Rd) 11) fun x11 =>
 some ((⟨x3.2,(([0,1,2,9,100,1000]:List Int).getD x9.1.toNat default),x11.1⟩:TreeVector),(⟨a0.b,x11.2.p⟩:l81Rd),a1)
theorem spec_l85Vector_r10_13_14_15_c {a0:l81Rd} {a1:TreeWorld} {r:TreeVector × l81Rd × TreeWorld} (h:spec_l85Vector_r10_13_14_15_m a0 a1 = some r):EffC Try.prog 118 [.ref 9000 0 0,.agg [.osl 9001 0 a1.Bridges.length,.d (slD TreeLink.enc a1.Links),.d (slD encInt a1.Down),.osl 9002 0 a1.AtA.length,.osl 9003 0 a1.AtB.length,.osl 9004 0 a1.Radio.length]] [(9000,.box 97 [.d (slD encByte a0.b),.d (.int .i64 a0.p)]),(9001,.arr 43 6 a1.Bridges.length (rows TreeBridge.enc a1.Bridges)),(9002,.arr 107 4 a1.AtA.length (rows TreeSlot.enc a1.AtA)),(9003,.arr 107 4 a1.AtB.length (rows TreeSlot.enc a1.AtB)),(9004,.arr 76 5 a1.Radio.length (rows TreeWord.enc a1.Radio))] (.agg [.d (.int .i64 r.1.Root),.d (.int .i64 r.1.Cost),.d (.int .i64 r.1.Age)]) [(9000,.box 97 [.d (slD encByte a0.b),.d (.int .i64 r.2.1.p)]),(9001,.arr 43 6 a1.Bridges.length (rows TreeBridge.enc r.2.2.Bridges)),(9002,.arr 107 4 a1.AtA.length (rows TreeSlot.enc r.2.2.AtA)),(9003,.arr 107 4 a1.AtB.length (rows TreeSlot.enc r.2.2.AtB)),(9004,.arr 76 5 a1.Radio.length (rows TreeWord.enc r.2.2.Radio))]:=by
  refine effC_x tOk (fn:=Try.f118) (c:=codeOf Try.f118) rfl rfl ?_;unfold spec_l85Vector_r10_13_14_15_m at h;(conv=>whnf);obtain ⟨x1,hx1,h⟩:=bd_some h;obtain ⟨g2,h⟩:=gd_some h;refine draw_t tOk [.e 6 [(9000,.box 97 [.d (slD encByte a0.b),.d (.int .i64 a0.p)])] (.d (.int .i64 x1.1)) [] [(9000,.box 97 [.d (slD encByte a0.b),.d (.int .i64 x1.2.p)])]] 11 [] [0,1,0,0,8,24,60,127,255,511,1023] [] [9000] ?_;(conv=>whnf);refine And.intro (eD [(9000,9000)] 0 (spec_l81Rd_pick_c hx1)) ?_;(conv=>whnf);refine And.intro g2 ?_;clear g2;(conv=>whnf);refine And.intro (by kernel_rfl) ?_;(conv=>whnf);obtain ⟨x3,hx3,h⟩:=bd_some h;refine seq_join tOk (fun s4=>⟨0,33,[(0,.ref 9000 0 0),(4,.ref 4 0 0),(5,.d (.int .i64 s4.2))],[],[(4,.box 39 [.d (.int .i64 0),.d (.int .i64 0),.d (.int .i64 0)]),(9000,.box 97 [.d (slD encByte a0.b),.d (.int .i64 s4.1)]),(9001,.arr 43 6 a1.Bridges.length (rows TreeBridge.enc a1.Bridges)),(9002,.arr 107 4 a1.AtA.length (rows TreeSlot.enc a1.AtA)),(9003,.arr 107 4 a1.AtB.length (rows TreeSlot.enc a1.AtB)),(9004,.arr 76 5 a1.Radio.length (rows TreeWord.enc a1.Radio))],[⟨[(0,.ref 9000 0 0),(1,.osl 9001 0 a1.Bridges.length),(2,.osl 9002 0 a1.AtA.length),(3,.osl 9003 0 a1.AtB.length),(4,.osl 9004 0 a1.Radio.length)],[]⟩]⟩) (fun s4=>x3 = s4) ?_ ?_
  · (conv=>whnf);obtain ⟨x6,hx6,hx3⟩:=bd_some hx3;refine cE [(9000,9000)] 0 (spec_l81Rd_pick_c hx6) ?_;(conv=>whnf);refine andI hx3 (fun _ hx3=>?_) (fun _ hx3=>?_)
    · (conv=>whnf);refine bldS (enc:=encInt) ([1,2,3,1000]:List Int) ?_;(conv=>whnf);obtain ⟨x7,hx7,hx3⟩:=bd_some hx3;refine cE [(9000,9000)] 0 (spec_l81Rd_pick_c hx7) ?_;(conv=>whnf);refine gdI hx3 (fun hx3=>?_);(conv=>whnf);obtain rfl:=Option.some.inj hx3;exact ⟨_,rfl,leX []⟩
    · (conv=>whnf);obtain rfl:=Option.some.inj hx3;exact ⟨_,rfl,leX []⟩
  · rintro _ rfl;(conv=>whnf);obtain ⟨x9,hx9,h⟩:=bd_some h;obtain ⟨g10,h⟩:=gd_some h;obtain ⟨x11,hx11,h⟩:=bd_some h;refine draw_t tOk [.e 3 [(9000,.box 97 [.d (slD encByte a0.b),.d (.int .i64 x3.1)])] (.d (.int .i64 x9.1)) [] [(9000,.box 97 [.d (slD encByte a0.b),.d (.int .i64 x9.2.p)])],.e 7 [(9000,.box 97 [.d (slD encByte a0.b),.d (.int .i64 x9.2.p)])] (.d (.int .i64 x11.1)) [] [(9000,.box 97 [.d (slD encByte a0.b),.d (.int .i64 x11.2.p)])]] 9 [] [0,0,0,4,14,30,0,76,255] [511] [9000] ?_;(conv=>whnf);refine bldS (enc:=encInt) ([0,1,2,9,100,1000]:List Int) ?_;(conv=>whnf);refine And.intro (eD [(9000,9000)] 0 (spec_l81Rd_pick_c hx9)) ?_;(conv=>whnf);refine And.intro g10 ?_;clear g10;(conv=>whnf);refine And.intro (eD [(9000,9000)] 0 (spec_l81Rd_pick_c hx11)) ?_;(conv=>whnf);refine And.intro (by kernel_rfl) ?_;(conv=>whnf);obtain rfl:=Option.some.inj h;exact lfE []
noncomputable def spec_l82Copy_o00_03_05_m (a0:TreeWorld):Option (TreeWorld) :=
 gd (((0)+(a0.Bridges.length)) * (48+1)≤70368744177664) <|
 gd (((0)+(a0.Links.length)) * (24+1)≤70368744177664) <|
 gd (((0)+(a0.Down.length)) * (8+1)≤70368744177664) <|
 gd (((0)+(a0.AtA.length)) * (32+1)≤70368744177664) <|
 gd (((0)+(a0.AtB.length)) * (32+1)≤70368744177664) <|
 gd (((0)+(a0.Radio.length)) * (40+1)≤70368744177664) <|
 some a0
theorem spec_l82Copy_o00_03_05_c {a0:TreeWorld} {r:TreeWorld} (h:spec_l82Copy_o00_03_05_m a0 = some r):EffC Try.prog 51 [.agg [.d (slD TreeBridge.enc a0.Bridges),.d (slD TreeLink.enc a0.Links),.d (slD encInt a0.Down),.d (slD TreeSlot.enc a0.AtA),.d (slD TreeSlot.enc a0.AtB),.d (slD TreeWord.enc a0.Radio)]] [] (.agg [.osl 5001 0 r.Bridges.length,.osl 5002 0 r.Links.length,.osl 5003 0 r.Down.length,.osl 5004 0 r.AtA.length,.osl 5005 0 r.AtB.length,.osl 5006 0 r.Radio.length]) [(5001,.arr 43 6 r.Bridges.length (rows TreeBridge.enc r.Bridges)),(5002,.arr 46 3 r.Links.length (rows TreeLink.enc r.Links)),(5003,.arr 3 1 r.Down.length (rows encInt r.Down)),(5004,.arr 107 4 r.AtA.length (rows TreeSlot.enc r.AtA)),(5005,.arr 107 4 r.AtB.length (rows TreeSlot.enc r.AtB)),(5006,.arr 76 5 r.Radio.length (rows TreeWord.enc r.Radio))]:=by
  have k:spec_l82Copy_m a0 = some r:=h;exact PureC.eff (spec_l82Copy_c k) rfl rfl
end Go.Proofs.Ythgcnnkjojemdaa
