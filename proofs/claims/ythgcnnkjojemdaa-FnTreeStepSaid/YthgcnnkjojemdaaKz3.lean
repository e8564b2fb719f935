/-
  What some of the program's functions compute: their models, and that the functions compute these; no condition.
-/
import Derived.Test.YthgcnnkjojemdaaTyz
import Derived.Test.YthgcnnkjojemdaaTbz
import Derived.Test.YthgcnnkjojemdaaAbz7
import Derived.Test.YthgcnnkjojemdaaKz2
set_option linter.all false
namespace Go.Proofs.Ythgcnnkjojemdaa
open Go Go.Ab
set_option maxRecDepth 100000
set_option maxHeartbeats 4000000
noncomputable def impl_TreeWorld_think_m (a0:TreeWorld) (a1:Int):Option (TreeMind) :=
 gd ((0:Int)≤a1∧a1<((a0.Bridges.length:Nat):Int)) <|
 bd (impl_selfMind_m ((a0.Bridges.getD a1.toNat default).Id)) fun x2 =>
 bd (lp (σ:=Int × Int × Int × Int × Int × Int) (β:=(Int × Int × Int × Int)) (fun s3 =>
(if (decide (s3.2.2.2.2.1<((a0.Links.length:Nat):Int))) = true then
 gd ((0:Int)≤s3.2.2.2.2.1∧s3.2.2.2.2.1<((a0.Links.length:Nat):Int)) <|
 bd (lp (σ:=Int × Int × Int × Int × Int × Int) (β:=(Int × Int × Int × Int × Int)) (fun s8 =>
(if (decide (s8.2.2.2.2.1<2)) = true then
 bd (impl_TreeWorld_slot_m a0 s3.2.2.2.2.1 s8.2.2.2.2.1) fun x12 =>
 bd (impl_TreeWorld_bridgeAt_m a0 s3.2.2.2.2.1 s8.2.2.2.2.1) fun x13 =>
 bd (gcall ((x13 != a1) = false) (impl_TreeVector_nothing_m x12.Vector)) fun x14 =>
(if ((((x13 != a1) || x14) || (decide (x12.Vector.Age ≥ 10))) || (decide ((IntKind.i64.wrap (x12.Vector.Cost+((a0.Links.getD s3.2.2.2.2.1.toNat default).Cost))) > 1000))) = true then
 some (.inl (s8.1,s8.2.1,s8.2.2.1,s8.2.2.2.1,IntKind.i64.wrap (s8.2.2.2.2.1+1),s8.2.2.2.2.2))
else
 bd (impl_TreeWorld_bridgeAt_m a0 s3.2.2.2.2.1 (IntKind.i64.wrap (1 - s8.2.2.2.2.1))) fun x15 =>
 gd ((0:Int)≤x15∧x15<((a0.Bridges.length:Nat):Int)) <|
 bd (impl_TreeVector_compare_m (⟨x12.Vector.Root,IntKind.i64.wrap (x12.Vector.Cost+((a0.Links.getD s3.2.2.2.2.1.toNat default).Cost)),IntKind.i64.wrap (x12.Vector.Age+1)⟩:TreeVector) (⟨s8.1,s8.2.1,s8.2.2.1⟩:TreeVector)) fun x17 =>
(if ((decide (x17<0)) || ((x17 == 0) && (decide (((a0.Bridges.getD x15.toNat default).Id)<s8.2.2.2.2.2)))) = true then
 some (.inl (x12.Vector.Root,IntKind.i64.wrap (x12.Vector.Cost+((a0.Links.getD s3.2.2.2.2.1.toNat default).Cost)),IntKind.i64.wrap (x12.Vector.Age+1),s3.2.2.2.2.1,IntKind.i64.wrap (s8.2.2.2.2.1+1),(a0.Bridges.getD x15.toNat default).Id))
else
 some (.inl (s8.1,s8.2.1,s8.2.2.1,s8.2.2.2.1,IntKind.i64.wrap (s8.2.2.2.2.1+1),s8.2.2.2.2.2))))
else
 some (.inr (s8.2.2.2.2.2,s8.1,s8.2.1,s8.2.2.1,s8.2.2.2.1)))) (s3.1,s3.2.1,s3.2.2.1,s3.2.2.2.1,0,s3.2.2.2.2.2)) fun x11 =>
 some (.inl (x11.2.1,x11.2.2.1,x11.2.2.2.1,x11.2.2.2.2,IntKind.i64.wrap (s3.2.2.2.2.1+1),x11.1))
else
 some (.inr (s3.1,s3.2.1,s3.2.2.1,s3.2.2.2.1)))) (x2.Vector.Root,x2.Vector.Cost,x2.Vector.Age,x2.Link,0,0)) fun x6 =>
 some (⟨(⟨x6.1,x6.2.1,x6.2.2.1⟩:TreeVector),x6.2.2.2⟩:TreeMind)
theorem impl_TreeWorld_think_c {a0:TreeWorld} {a1:Int} {r:TreeMind} (h:impl_TreeWorld_think_m a0 a1 = some r):PureC Try.prog 123 [.rp [slD TreeBridge.enc a0.Bridges,slD TreeLink.enc a0.Links,slD encInt a0.Down,slD TreeSlot.enc a0.AtA,slD TreeSlot.enc a0.AtB,slD TreeWord.enc a0.Radio],.d (.int .i64 a1)] (.agg [.d (.int .i64 r.Vector.Root),.d (.int .i64 r.Vector.Cost),.d (.int .i64 r.Vector.Age),.d (.int .i64 r.Link)]) []:=by
  refine pureC_x tOk (fn:=Try.f123) (c:=codeOf Try.f123) rfl rfl ?_;unfold impl_TreeWorld_think_m at h;(conv=>whnf);refine gdI h (fun h=>?_);(conv=>whnf);obtain ⟨x2,hx2,h⟩:=bd_some h;refine cC 0 (impl_selfMind_c hx2) ?_;clear hx2;(conv=>whnf);refine seq_in tOk ?_;(conv=>whnf);obtain ⟨x6,hx6,h⟩:=bd_some h;refine loop_m tOk hx6 (fun s3=>⟨0,110,[(0,.rp [slD TreeBridge.enc a0.Bridges,slD TreeLink.enc a0.Links,slD encInt a0.Down,slD TreeSlot.enc a0.AtA,slD TreeSlot.enc a0.AtB,slD TreeWord.enc a0.Radio]),(1,.d (.int .i64 a1)),(4,.ref 4 0 0),(5,.ref 5 0 0),(6,.d (.int .i64 s3.2.2.2.2.2)),(25,.d (slD TreeLink.enc a0.Links)),(26,.d (.int .i64 ((a0.Links.length:Nat):Int))),(27,.d (.int .i64 s3.2.2.2.2.1))],[],[(5,.box 41 [.d (.int .i64 s3.1),.d (.int .i64 s3.2.1),.d (.int .i64 s3.2.2.1),.d (.int .i64 s3.2.2.2.1)]),(4,.box 41 [.d (.int .i64 0),.d (.int .i64 0),.d (.int .i64 0),.d (.int .i64 0)])],[]⟩) ?_ ?_
  · exact leX []
  · clear hx6;intro s3 y4 g5 hy4;(conv=>whnf);refine seq_in tOk ?_;(conv=>whnf);refine andI g5 (fun _ g5=>?_) (fun _ g5=>?_)
    · (conv=>whnf);refine seq_in tOk ?_;(conv=>whnf);refine gdI g5 (fun g5=>?_);(conv=>whnf);obtain ⟨x11,hx11,g5⟩:=bd_some g5;refine loop_m tOk hx11 (fun s8=>⟨0,110,[(0,.rp [slD TreeBridge.enc a0.Bridges,slD TreeLink.enc a0.Links,slD encInt a0.Down,slD TreeSlot.enc a0.AtA,slD TreeSlot.enc a0.AtB,slD TreeWord.enc a0.Radio]),(1,.d (.int .i64 a1)),(4,.ref 4 0 0),(5,.ref 5 0 0),(6,.d (.int .i64 s8.2.2.2.2.2)),(7,.d (.int .i64 s3.2.2.2.2.1)),(8,.ref 8 0 0),(25,.d (slD TreeLink.enc a0.Links)),(26,.d (.int .i64 ((a0.Links.length:Nat):Int))),(27,.d (.int .i64 s3.2.2.2.2.1)),(32,.d (.int .i64 s8.2.2.2.2.1))],[],[(8,.box 46 [.d (.int .i64 ((a0.Links.getD s3.2.2.2.2.1.toNat default).A)),.d (.int .i64 ((a0.Links.getD s3.2.2.2.2.1.toNat default).B)),.d (.int .i64 ((a0.Links.getD s3.2.2.2.2.1.toNat default).Cost))]),(5,.box 41 [.d (.int .i64 s8.1),.d (.int .i64 s8.2.1),.d (.int .i64 s8.2.2.1),.d (.int .i64 s8.2.2.2.1)]),(4,.box 41 [.d (.int .i64 0),.d (.int .i64 0),.d (.int .i64 0),.d (.int .i64 0)])],[]⟩) ?_ ?_
      · exact leX []
      · clear hx11;intro s8 y9 g10 hy9;(conv=>whnf);refine seq_in tOk ?_;(conv=>whnf);refine andI g10 (fun _ g10=>?_) (fun _ g10=>?_)
        · (conv=>whnf);refine seq_in tOk ?_;(conv=>whnf);obtain ⟨x12,hx12,g10⟩:=bd_some g10;refine cE [] 0 (impl_TreeWorld_slot_c hx12) ?_;(conv=>whnf);refine seq_in tOk ?_;(conv=>whnf);obtain ⟨x13,hx13,g10⟩:=bd_some g10;refine cC 0 (impl_TreeWorld_bridgeAt_c hx13) ?_;clear hx13;(conv=>whnf);obtain ⟨x14,hx14,g10⟩:=bd_some g10;refine callG_m rfl rfl rfl rfl rfl rfl (by intro c0; exact impl_TreeVector_nothing_c (gcall_some hx14 c0)) ?_;(conv=>whnf);refine andI g10 (fun _ g10=>?_) (fun _ g10=>?_)
          · (conv=>whnf);obtain rfl:=Option.some.inj g10;exact ⟨_,rfl,leX []⟩
          · (conv=>whnf);obtain ⟨x15,hx15,g10⟩:=bd_some g10;obtain ⟨g16,g10⟩:=gd_some g10;refine draw_u tOk [.u 8 0 (.d (.int .i64 x15)) []] 13 [] [0,1,3,7,0,0,0,64,240,511,1023,2047,4095] [] ?_;(conv=>whnf);refine And.intro (callD_any (impl_TreeWorld_bridgeAt_c hx15) (by kernel_rfl)) ?_;(conv=>whnf);refine And.intro g16 ?_;clear g16;(conv=>whnf);refine And.intro (by kernel_rfl) ?_;(conv=>whnf);obtain ⟨x17,hx17,g10⟩:=bd_some g10;refine cC 0 (impl_TreeVector_compare_c hx17) ?_;clear hx17;(conv=>whnf);refine andI g10 (fun _ g10=>?_) (fun _ g10=>?_)
            · (conv=>whnf);obtain rfl:=Option.some.inj g10;exact ⟨_,rfl,leX []⟩
            · (conv=>whnf);obtain rfl:=Option.some.inj g10;exact ⟨_,rfl,leX []⟩
        · (conv=>whnf);obtain rfl:=Option.some.inj g10;obtain rfl:=hy9 _ rfl;obtain rfl:=Option.some.inj g5;exact ⟨_,rfl,leX []⟩
    · (conv=>whnf);obtain rfl:=Option.some.inj g5;obtain rfl:=hy4 _ rfl;obtain rfl:=Option.some.inj h;exact lfP []
noncomputable def impl_TreeWorld_rethink_m (a0:TreeWorld) (a1:Int):Option (TreeWorld) :=
 gd ((0:Int)≤a1∧a1<((a0.Bridges.length:Nat):Int)) <|
(if (a0.Bridges.getD a1.toNat default).Up = true then
 bd (impl_TreeWorld_think_m a0 a1) fun x2 =>
 gd ((0:Int)≤a1∧a1<((a0.Bridges.length:Nat):Int)) <|
 some ({ a0 with Bridges:=a0.Bridges.set a1.toNat ({ (a0.Bridges.getD a1.toNat default) with Mind:=x2 }) })
else
 some a0)
theorem impl_TreeWorld_rethink_c {a0:TreeWorld} {a1:Int} {r:TreeWorld} (h:impl_TreeWorld_rethink_m a0 a1 = some r):EffC Try.prog 94 [.ref 9000 0 0,.d (.int .i64 a1)] [(9000,.box 29 [.osl 9001 0 a0.Bridges.length,.d (slD TreeLink.enc a0.Links),.d (slD encInt a0.Down),.d (slD TreeSlot.enc a0.AtA),.d (slD TreeSlot.enc a0.AtB),.d (slD TreeWord.enc a0.Radio)]),(9001,.arr 43 6 a0.Bridges.length (rows TreeBridge.enc a0.Bridges))] (.tup []) [(9000,.box 29 [.osl 5001 0 r.Bridges.length,.d (slD TreeLink.enc a0.Links),.d (slD encInt a0.Down),.d (slD TreeSlot.enc a0.AtA),.d (slD TreeSlot.enc a0.AtB),.d (slD TreeWord.enc a0.Radio)]),(5001,.arr 43 6 r.Bridges.length (rows TreeBridge.enc r.Bridges))]:=by
  refine effC_x tOk (fn:=Try.f94) (c:=codeOf Try.f94) rfl rfl ?_;unfold impl_TreeWorld_rethink_m at h;(conv=>whnf);refine gdI h (fun h=>?_);(conv=>whnf);refine andI h (fun _ h=>?_) (fun _ h=>?_)
  · (conv=>whnf);obtain ⟨x2,hx2,h⟩:=bd_some h;obtain ⟨g3,h⟩:=gd_some h;refine draw_u tOk [.u 7 0 (.agg [.d (.int .i64 x2.Vector.Root),.d (.int .i64 x2.Vector.Cost),.d (.int .i64 x2.Vector.Age),.d (.int .i64 x2.Link)]) []] 10 [] [0,1,3,7,0,0,0,96,255,511] [1023] ?_;(conv=>whnf);refine And.intro (callD_any (impl_TreeWorld_think_c hx2) (by kernel_rfl)) ?_;(conv=>whnf);refine And.intro g3 ?_;clear g3;(conv=>whnf);refine And.intro (by kernel_rfl) ?_;(conv=>whnf);refine ⟨rows TreeBridge.enc (a0.Bridges.set a1.toNat ({ (a0.Bridges.getD a1.toNat default) with Mind:=x2 })),store_rows' lenA rfl,?_⟩;(conv=>whnf);obtain rfl:=Option.some.inj h;exact lfE [.s [(5001,9001),(9001,5001)]]
  · (conv=>whnf);obtain rfl:=Option.some.inj h;exact lfE [.s [(5001,9001),(9001,5001)]]
noncomputable def impl_TreeWorld_slot_r00_at_s1_m (a0:TreeWorld) (a1:Int) (a2:Int):Option (Nat × TreeWorld) :=
 gd ((0:Int)≤a1∧a1<((a0.AtA.length:Nat):Int)) <|
 some (a1.toNat,a0)
theorem impl_TreeWorld_slot_r00_at_s1_c {a0:TreeWorld} {a1:Int} {a2:Int} (e:(a2 == 0) = true) {r:Nat × TreeWorld} (h:impl_TreeWorld_slot_r00_at_s1_m a0 a1 a2 = some r):EffC Try.prog 93 [.ref 9000 0 0,.d (.int .i64 a1),.d (.int .i64 a2)] [(9000,.box 29 [.osl 9001 0 a0.Bridges.length,.d (slD TreeLink.enc a0.Links),.d (slD encInt a0.Down),.osl 9002 0 a0.AtA.length,.d (slD TreeSlot.enc a0.AtB),.d (slD TreeWord.enc a0.Radio)]),(9001,.arr 43 6 a0.Bridges.length (rows TreeBridge.enc a0.Bridges)),(9002,.arr 107 4 a0.AtA.length (rows TreeSlot.enc a0.AtA))] (.ref 5002 r.1 0) [(9000,.box 29 [.osl 5001 0 r.2.Bridges.length,.d (slD TreeLink.enc a0.Links),.d (slD encInt a0.Down),.osl 5002 0 r.2.AtA.length,.d (slD TreeSlot.enc a0.AtB),.d (slD TreeWord.enc a0.Radio)]),(5001,.arr 43 6 r.2.Bridges.length (rows TreeBridge.enc r.2.Bridges)),(5002,.arr 107 4 r.2.AtA.length (rows TreeSlot.enc r.2.AtA))]:=by
  refine effC_x tOk (fn:=Try.f93) (c:=codeOf Try.f93) rfl rfl ?_;unfold impl_TreeWorld_slot_r00_at_s1_m at h;(conv=>whnf);refine seq_in tOk ?_;(conv=>whnf);refine And.intro (fun _=>?_) (fun q=>absurd (e.symm.trans q) (by decide));(conv=>whnf);refine gdI h (fun h=>?_);(conv=>whnf);obtain rfl:=Option.some.inj h;exact lfE [.s [(5001,9001),(5002,9002),(9001,5001),(9002,5002)]]
noncomputable def impl_TreeWorld_slot_r00_at_s0_m (a0:TreeWorld) (a1:Int) (a2:Int):Option (Nat × TreeWorld) :=
 gd ((0:Int)≤a1∧a1<((a0.AtB.length:Nat):Int)) <|
 some (a1.toNat,a0)
theorem impl_TreeWorld_slot_r00_at_s0_c {a0:TreeWorld} {a1:Int} {a2:Int} (e:(a2 == 0) = false) {r:Nat × TreeWorld} (h:impl_TreeWorld_slot_r00_at_s0_m a0 a1 a2 = some r):EffC Try.prog 93 [.ref 9000 0 0,.d (.int .i64 a1),.d (.int .i64 a2)] [(9000,.box 29 [.osl 9001 0 a0.Bridges.length,.d (slD TreeLink.enc a0.Links),.d (slD encInt a0.Down),.d (slD TreeSlot.enc a0.AtA),.osl 9002 0 a0.AtB.length,.d (slD TreeWord.enc a0.Radio)]),(9001,.arr 43 6 a0.Bridges.length (rows TreeBridge.enc a0.Bridges)),(9002,.arr 107 4 a0.AtB.length (rows TreeSlot.enc a0.AtB))] (.ref 5002 r.1 0) [(9000,.box 29 [.osl 5001 0 r.2.Bridges.length,.d (slD TreeLink.enc a0.Links),.d (slD encInt a0.Down),.d (slD TreeSlot.enc a0.AtA),.osl 5002 0 r.2.AtB.length,.d (slD TreeWord.enc a0.Radio)]),(5001,.arr 43 6 r.2.Bridges.length (rows TreeBridge.enc r.2.Bridges)),(5002,.arr 107 4 r.2.AtB.length (rows TreeSlot.enc r.2.AtB))]:=by
  refine effC_x tOk (fn:=Try.f93) (c:=codeOf Try.f93) rfl rfl ?_;unfold impl_TreeWorld_slot_r00_at_s0_m at h;(conv=>whnf);refine seq_in tOk ?_;(conv=>whnf);refine And.intro (fun q=>absurd (e.symm.trans q) (by decide)) (fun _=>?_);(conv=>whnf);refine gdI h (fun h=>?_);(conv=>whnf);obtain rfl:=Option.some.inj h;exact lfE [.s [(5001,9001),(5002,9002),(9001,5001),(9002,5002)]]
noncomputable def impl_TreeWorld_hear_m (a0:TreeWorld) (a1:Int) (a2:Int) (a3:TreeVector):Option (TreeWorld) :=
 bd (impl_TreeWorld_bridgeAt_m a0 a1 a2) fun x1 =>
 bd (impl_TreeWorld_isDown_m a0 a1) fun x2 =>
 gd (x2 = false → ((0:Int)≤x1∧x1<((a0.Bridges.length:Nat):Int))) <|
(if (x2 || (!((a0.Bridges.getD x1.toNat default).Up))) = true then
 some a0
else
(if (a2 == 0) = true then
 bd (impl_TreeWorld_slot_r00_at_s1_m a0 a1 a2) fun x5 =>
 bd (impl_TreeWorld_rethink_m ({ a0 with Bridges:=x5.2.Bridges,AtA:=x5.2.AtA.set x5.1 (⟨a3,3⟩:TreeSlot) }) x1) fun x6 =>
 some ({ a0 with Bridges:=x6.Bridges,AtA:=x5.2.AtA.set x5.1 (⟨a3,3⟩:TreeSlot) })
else
 bd (impl_TreeWorld_slot_r00_at_s0_m a0 a1 a2) fun x7 =>
 bd (impl_TreeWorld_rethink_m ({ a0 with Bridges:=x7.2.Bridges,AtB:=x7.2.AtB.set x7.1 (⟨a3,3⟩:TreeSlot) }) x1) fun x8 =>
 some ({ a0 with Bridges:=x8.Bridges,AtB:=x7.2.AtB.set x7.1 (⟨a3,3⟩:TreeSlot) })))
theorem impl_TreeWorld_hear_c {a0:TreeWorld} {a1:Int} {a2:Int} {a3:TreeVector} {r:TreeWorld} (h:impl_TreeWorld_hear_m a0 a1 a2 a3 = some r):EffC Try.prog 65 [.ref 9000 0 0,.d (.int .i64 a1),.d (.int .i64 a2),.agg [.d (.int .i64 a3.Root),.d (.int .i64 a3.Cost),.d (.int .i64 a3.Age)]] [(9000,.box 29 [.osl 9001 0 a0.Bridges.length,.d (slD TreeLink.enc a0.Links),.d (slD encInt a0.Down),.osl 9002 0 a0.AtA.length,.osl 9003 0 a0.AtB.length,.d (slD TreeWord.enc a0.Radio)]),(9001,.arr 43 6 a0.Bridges.length (rows TreeBridge.enc a0.Bridges)),(9002,.arr 107 4 a0.AtA.length (rows TreeSlot.enc a0.AtA)),(9003,.arr 107 4 a0.AtB.length (rows TreeSlot.enc a0.AtB))] (.tup []) [(9000,.box 29 [.osl 5001 0 r.Bridges.length,.d (slD TreeLink.enc a0.Links),.d (slD encInt a0.Down),.d (slD TreeSlot.enc r.AtA),.d (slD TreeSlot.enc r.AtB),.d (slD TreeWord.enc a0.Radio)]),(5001,.arr 43 6 r.Bridges.length (rows TreeBridge.enc r.Bridges))]:=by
  refine effC_x tOk (fn:=Try.f65) (c:=codeOf Try.f65) rfl rfl ?_;unfold impl_TreeWorld_hear_m at h;(conv=>whnf);obtain ⟨x1,hx1,h⟩:=bd_some h;refine cC 0 (impl_TreeWorld_bridgeAt_c hx1) ?_;clear hx1;(conv=>whnf);refine seq_in tOk ?_;(conv=>whnf);obtain ⟨x2,hx2,h⟩:=bd_some h;refine cC 0 (impl_TreeWorld_isDown_c hx2) ?_;clear hx2;(conv=>whnf);refine gdI h (fun h=>?_);(conv=>whnf);refine andI h (fun _ h=>?_) (fun _ h=>?_)
  · (conv=>whnf);obtain rfl:=Option.some.inj h;exact lfE [.f [9002,9003],.s [(5001,9001),(9001,5001)]]
  · (conv=>whnf);refine spI h (fun e4 h=>?_) (fun e4 h=>?_)
    · obtain ⟨x5,hx5,h⟩:=bd_some h;refine drawFz [9003] ?_;(conv=>whnf);refine draw_t tOk [.e 3 [(9000,.box 29 [.osl 9001 0 a0.Bridges.length,.d (slD TreeLink.enc a0.Links),.d (slD encInt a0.Down),.osl 9002 0 a0.AtA.length,.d (slD TreeSlot.enc a0.AtB),.d (slD TreeWord.enc a0.Radio)]),(9001,.arr 43 6 a0.Bridges.length (rows TreeBridge.enc a0.Bridges)),(9002,.arr 107 4 a0.AtA.length (rows TreeSlot.enc a0.AtA))] (.ref 6002 x5.1 0) [] [(6001,.arr 43 6 x5.2.Bridges.length (rows TreeBridge.enc x5.2.Bridges)),(6002,.arr 107 4 x5.2.AtA.length (rows TreeSlot.enc x5.2.AtA)),(9000,.box 29 [.osl 6001 0 x5.2.Bridges.length,.d (slD TreeLink.enc a0.Links),.d (slD encInt a0.Down),.osl 6002 0 x5.2.AtA.length,.d (slD TreeSlot.enc a0.AtB),.d (slD TreeWord.enc a0.Radio)])]] 7 [] [0,0,0,7,0,16,63] [127] [9000,9001,9002] ?_;(conv=>whnf);refine And.intro (eH [(9000,9000),(9001,9001),(9002,9002)] 1000 (impl_TreeWorld_slot_r00_at_s1_c e4 hx5)) ?_;(conv=>whnf);refine And.intro (by kernel_rfl) ?_;(conv=>whnf);refine ⟨rows TreeSlot.enc (x5.2.AtA.set x5.1 (⟨a3,3⟩:TreeSlot)),store_rows' lenA rfl,?_⟩;(conv=>whnf);obtain ⟨x6,hx6,h⟩:=bd_some h;refine callFz [6002] ?_;(conv=>whnf);refine cE [(9000,9000),(9001,6001)] 2000 (impl_TreeWorld_rethink_c hx6) ?_;(conv=>whnf);obtain rfl:=Option.some.inj h;exact lfE [.s [(5001,7001),(7001,5001)]]
    · obtain ⟨x7,hx7,h⟩:=bd_some h;refine drawFz [9002] ?_;(conv=>whnf);refine draw_t tOk [.e 3 [(9000,.box 29 [.osl 9001 0 a0.Bridges.length,.d (slD TreeLink.enc a0.Links),.d (slD encInt a0.Down),.d (slD TreeSlot.enc a0.AtA),.osl 9003 0 a0.AtB.length,.d (slD TreeWord.enc a0.Radio)]),(9001,.arr 43 6 a0.Bridges.length (rows TreeBridge.enc a0.Bridges)),(9003,.arr 107 4 a0.AtB.length (rows TreeSlot.enc a0.AtB))] (.ref 6002 x7.1 0) [] [(6001,.arr 43 6 x7.2.Bridges.length (rows TreeBridge.enc x7.2.Bridges)),(6002,.arr 107 4 x7.2.AtB.length (rows TreeSlot.enc x7.2.AtB)),(9000,.box 29 [.osl 6001 0 x7.2.Bridges.length,.d (slD TreeLink.enc a0.Links),.d (slD encInt a0.Down),.d (slD TreeSlot.enc a0.AtA),.osl 6002 0 x7.2.AtB.length,.d (slD TreeWord.enc a0.Radio)])]] 7 [] [0,0,0,7,0,16,63] [127] [9000,9001,9003] ?_;(conv=>whnf);refine And.intro (eH [(9000,9000),(9001,9001),(9002,9003)] 1000 (impl_TreeWorld_slot_r00_at_s0_c e4 hx7)) ?_;(conv=>whnf);refine And.intro (by kernel_rfl) ?_;(conv=>whnf);refine ⟨rows TreeSlot.enc (x7.2.AtB.set x7.1 (⟨a3,3⟩:TreeSlot)),store_rows' lenA rfl,?_⟩;(conv=>whnf);obtain ⟨x8,hx8,h⟩:=bd_some h;refine callFz [6002] ?_;(conv=>whnf);refine cE [(9000,9000),(9001,6001)] 2000 (impl_TreeWorld_rethink_c hx8) ?_;(conv=>whnf);obtain rfl:=Option.some.inj h;exact lfE [.s [(5001,7001),(7001,5001)]]
noncomputable def impl_TreeWorld_onWord_m (a0:TreeWorld) (a1:Int) (a2:Int):Option (TreeWorld) :=
 bd (impl_within_m a2 0 (IntKind.i64.wrap (((a0.Radio.length:Nat):Int) - 1))) fun x1 =>
(if (!x1) = true then
 some a0
else
 gd ((0:Int)≤a2∧a2<((a0.Radio.length:Nat):Int)) <|
(if (a1 == 3) = true then
 bd (impl_TreeWorld_put_m a0 ({ (a0.Radio.getD a2.toNat default) with Vector:=((a0.Radio.getD a2.toNat default).Vector) })) fun x3 =>
 some ({ a0 with Radio:=x3.Radio })
else
 bd (slices_Delete_TreeWord_TreeWord_m a0.Radio a2 (IntKind.i64.wrap (a2+1))) fun x4 =>
(if (a1 == 2) = true then
 bd (impl_TreeWorld_hear_m ({ a0 with Radio:=x4 }) ((a0.Radio.getD a2.toNat default).Link) ((a0.Radio.getD a2.toNat default).End) ((a0.Radio.getD a2.toNat default).Vector)) fun x5 =>
 some ({ x5 with Links:=a0.Links,Down:=a0.Down,Radio:=x4 })
else
 some ({ a0 with Radio:=x4 }))))
theorem impl_TreeWorld_onWord_c {a0:TreeWorld} {a1:Int} {a2:Int} {r:TreeWorld} (h:impl_TreeWorld_onWord_m a0 a1 a2 = some r):EffC Try.prog 46 [.ref 9000 0 0,.d (.int .i64 a1),.d (.int .i64 a2)] [(9000,.box 29 [.osl 9001 0 a0.Bridges.length,.d (slD TreeLink.enc a0.Links),.d (slD encInt a0.Down),.osl 9002 0 a0.AtA.length,.osl 9003 0 a0.AtB.length,.osl 9004 0 a0.Radio.length]),(9001,.arr 43 6 a0.Bridges.length (rows TreeBridge.enc a0.Bridges)),(9002,.arr 107 4 a0.AtA.length (rows TreeSlot.enc a0.AtA)),(9003,.arr 107 4 a0.AtB.length (rows TreeSlot.enc a0.AtB)),(9004,.arr 76 5 a0.Radio.length (rows TreeWord.enc a0.Radio))] (.tup []) [(9000,.box 29 [.d (slD TreeBridge.enc r.Bridges),.d (slD TreeLink.enc a0.Links),.d (slD encInt a0.Down),.d (slD TreeSlot.enc r.AtA),.d (slD TreeSlot.enc r.AtB),.d (slD TreeWord.enc r.Radio)])]:=by
  refine effC_x tOk (fn:=Try.f46) (c:=codeOf Try.f46) rfl rfl ?_;unfold impl_TreeWorld_onWord_m at h;(conv=>whnf);refine seq_in tOk ?_;(conv=>whnf);obtain ⟨x1,hx1,h⟩:=bd_some h;refine cC 0 (impl_within_c hx1) ?_;clear hx1;(conv=>whnf);refine andI h (fun _ h=>?_) (fun _ h=>?_)
  · (conv=>whnf);obtain rfl:=Option.some.inj h;exact lfE [.f [9001,9002,9003,9004]]
  · (conv=>whnf);refine gdI h (fun h=>?_);(conv=>whnf);refine seq_in tOk ?_;(conv=>whnf);refine andI h (fun _ h=>?_) (fun _ h=>?_)
    · (conv=>whnf);obtain ⟨x3,hx3,h⟩:=bd_some h;refine callFz [9001,9002,9003] ?_;(conv=>whnf);refine cE [(9000,9000),(9001,9004)] 1000 (impl_TreeWorld_put_c hx3) ?_;(conv=>whnf);obtain rfl:=Option.some.inj h;exact lfE [.f [6001]]
    · (conv=>whnf);obtain ⟨x4,hx4,h⟩:=bd_some h;refine cE [(9000,9004)] 1000 (slices_Delete_TreeWord_TreeWord_c hx4) ?_;(conv=>whnf);refine andI h (fun _ h=>?_) (fun _ h=>?_)
      · (conv=>whnf);obtain ⟨x5,hx5,h⟩:=bd_some h;refine callFz [6001] ?_;(conv=>whnf);refine cE [(9000,9000),(9001,9001),(9002,9002),(9003,9003)] 1000 (impl_TreeWorld_hear_c hx5) ?_;(conv=>whnf);obtain rfl:=Option.some.inj h;exact lfE [.f [6001]]
      · (conv=>whnf);obtain rfl:=Option.some.inj h;exact lfE [.f [6001,9001,9002,9003]]
noncomputable def impl_TreeWorld_slot_r03_04_at_s1_m (a0:TreeWorld) (a1:Int) (a2:Int):Option (Nat × TreeWorld) :=
 gd ((0:Int)≤a1∧a1<((a0.AtA.length:Nat):Int)) <|
 some (a1.toNat,a0)
theorem impl_TreeWorld_slot_r03_04_at_s1_c {a0:TreeWorld} {a1:Int} {a2:Int} (e:(a2 == 0) = true) {r:Nat × TreeWorld} (h:impl_TreeWorld_slot_r03_04_at_s1_m a0 a1 a2 = some r):EffC Try.prog 93 [.ref 9000 0 0,.d (.int .i64 a1),.d (.int .i64 a2)] [(9000,.box 29 [.d (slD TreeBridge.enc a0.Bridges),.d (slD TreeLink.enc a0.Links),.d (slD encInt a0.Down),.osl 9001 0 a0.AtA.length,.osl 9002 0 a0.AtB.length,.d (slD TreeWord.enc a0.Radio)]),(9001,.arr 107 4 a0.AtA.length (rows TreeSlot.enc a0.AtA)),(9002,.arr 107 4 a0.AtB.length (rows TreeSlot.enc a0.AtB))] (.ref 5001 r.1 0) [(9000,.box 29 [.d (slD TreeBridge.enc a0.Bridges),.d (slD TreeLink.enc a0.Links),.d (slD encInt a0.Down),.osl 5001 0 r.2.AtA.length,.osl 5002 0 r.2.AtB.length,.d (slD TreeWord.enc a0.Radio)]),(5001,.arr 107 4 r.2.AtA.length (rows TreeSlot.enc r.2.AtA)),(5002,.arr 107 4 r.2.AtB.length (rows TreeSlot.enc r.2.AtB))]:=by
  refine effC_x tOk (fn:=Try.f93) (c:=codeOf Try.f93) rfl rfl ?_;unfold impl_TreeWorld_slot_r03_04_at_s1_m at h;(conv=>whnf);refine seq_in tOk ?_;(conv=>whnf);refine And.intro (fun _=>?_) (fun q=>absurd (e.symm.trans q) (by decide));(conv=>whnf);refine gdI h (fun h=>?_);(conv=>whnf);obtain rfl:=Option.some.inj h;exact lfE [.s [(5001,9001),(5002,9002),(9001,5001),(9002,5002)]]
noncomputable def impl_TreeWorld_slot_r03_04_at_s0_m (a0:TreeWorld) (a1:Int) (a2:Int):Option (Nat × TreeWorld) :=
 gd ((0:Int)≤a1∧a1<((a0.AtB.length:Nat):Int)) <|
 some (a1.toNat,a0)
theorem impl_TreeWorld_slot_r03_04_at_s0_c {a0:TreeWorld} {a1:Int} {a2:Int} (e:(a2 == 0) = false) {r:Nat × TreeWorld} (h:impl_TreeWorld_slot_r03_04_at_s0_m a0 a1 a2 = some r):EffC Try.prog 93 [.ref 9000 0 0,.d (.int .i64 a1),.d (.int .i64 a2)] [(9000,.box 29 [.d (slD TreeBridge.enc a0.Bridges),.d (slD TreeLink.enc a0.Links),.d (slD encInt a0.Down),.osl 9001 0 a0.AtA.length,.osl 9002 0 a0.AtB.length,.d (slD TreeWord.enc a0.Radio)]),(9001,.arr 107 4 a0.AtA.length (rows TreeSlot.enc a0.AtA)),(9002,.arr 107 4 a0.AtB.length (rows TreeSlot.enc a0.AtB))] (.ref 5002 r.1 0) [(9000,.box 29 [.d (slD TreeBridge.enc a0.Bridges),.d (slD TreeLink.enc a0.Links),.d (slD encInt a0.Down),.osl 5001 0 r.2.AtA.length,.osl 5002 0 r.2.AtB.length,.d (slD TreeWord.enc a0.Radio)]),(5001,.arr 107 4 r.2.AtA.length (rows TreeSlot.enc r.2.AtA)),(5002,.arr 107 4 r.2.AtB.length (rows TreeSlot.enc r.2.AtB))]:=by
  refine effC_x tOk (fn:=Try.f93) (c:=codeOf Try.f93) rfl rfl ?_;unfold impl_TreeWorld_slot_r03_04_at_s0_m at h;(conv=>whnf);refine seq_in tOk ?_;(conv=>whnf);refine And.intro (fun q=>absurd (e.symm.trans q) (by decide)) (fun _=>?_);(conv=>whnf);refine gdI h (fun h=>?_);(conv=>whnf);obtain rfl:=Option.some.inj h;exact lfE [.s [(5001,9001),(5002,9002),(9001,5001),(9002,5002)]]
noncomputable def impl_TreeWorld_slot_r00_03_04_at_s1_m (a0:TreeWorld) (a1:Int) (a2:Int):Option (Nat × TreeWorld) :=
 gd ((0:Int)≤a1∧a1<((a0.AtA.length:Nat):Int)) <|
 some (a1.toNat,a0)
theorem impl_TreeWorld_slot_r00_03_04_at_s1_c {a0:TreeWorld} {a1:Int} {a2:Int} (e:(a2 == 0) = true) {r:Nat × TreeWorld} (h:impl_TreeWorld_slot_r00_03_04_at_s1_m a0 a1 a2 = some r):EffC Try.prog 93 [.ref 9000 0 0,.d (.int .i64 a1),.d (.int .i64 a2)] [(9000,.box 29 [.osl 9001 0 a0.Bridges.length,.d (slD TreeLink.enc a0.Links),.d (slD encInt a0.Down),.osl 9002 0 a0.AtA.length,.osl 9003 0 a0.AtB.length,.d (slD TreeWord.enc a0.Radio)]),(9001,.arr 43 6 a0.Bridges.length (rows TreeBridge.enc a0.Bridges)),(9002,.arr 107 4 a0.AtA.length (rows TreeSlot.enc a0.AtA)),(9003,.arr 107 4 a0.AtB.length (rows TreeSlot.enc a0.AtB))] (.ref 5002 r.1 0) [(9000,.box 29 [.osl 5001 0 r.2.Bridges.length,.d (slD TreeLink.enc a0.Links),.d (slD encInt a0.Down),.osl 5002 0 r.2.AtA.length,.osl 5003 0 r.2.AtB.length,.d (slD TreeWord.enc a0.Radio)]),(5001,.arr 43 6 r.2.Bridges.length (rows TreeBridge.enc r.2.Bridges)),(5002,.arr 107 4 r.2.AtA.length (rows TreeSlot.enc r.2.AtA)),(5003,.arr 107 4 r.2.AtB.length (rows TreeSlot.enc r.2.AtB))]:=by
  refine effC_x tOk (fn:=Try.f93) (c:=codeOf Try.f93) rfl rfl ?_;unfold impl_TreeWorld_slot_r00_03_04_at_s1_m at h;(conv=>whnf);refine seq_in tOk ?_;(conv=>whnf);refine And.intro (fun _=>?_) (fun q=>absurd (e.symm.trans q) (by decide));(conv=>whnf);refine gdI h (fun h=>?_);(conv=>whnf);obtain rfl:=Option.some.inj h;exact lfE [.s [(5001,9001),(5002,9002),(5003,9003),(9001,5001),(9002,5002),(9003,5003)]]
noncomputable def impl_TreeWorld_slot_r00_03_04_at_s0_m (a0:TreeWorld) (a1:Int) (a2:Int):Option (Nat × TreeWorld) :=
 gd ((0:Int)≤a1∧a1<((a0.AtB.length:Nat):Int)) <|
 some (a1.toNat,a0)
theorem impl_TreeWorld_slot_r00_03_04_at_s0_c {a0:TreeWorld} {a1:Int} {a2:Int} (e:(a2 == 0) = false) {r:Nat × TreeWorld} (h:impl_TreeWorld_slot_r00_03_04_at_s0_m a0 a1 a2 = some r):EffC Try.prog 93 [.ref 9000 0 0,.d (.int .i64 a1),.d (.int .i64 a2)] [(9000,.box 29 [.osl 9001 0 a0.Bridges.length,.d (slD TreeLink.enc a0.Links),.d (slD encInt a0.Down),.osl 9002 0 a0.AtA.length,.osl 9003 0 a0.AtB.length,.d (slD TreeWord.enc a0.Radio)]),(9001,.arr 43 6 a0.Bridges.length (rows TreeBridge.enc a0.Bridges)),(9002,.arr 107 4 a0.AtA.length (rows TreeSlot.enc a0.AtA)),(9003,.arr 107 4 a0.AtB.length (rows TreeSlot.enc a0.AtB))] (.ref 5003 r.1 0) [(9000,.box 29 [.osl 5001 0 r.2.Bridges.length,.d (slD TreeLink.enc a0.Links),.d (slD encInt a0.Down),.osl 5002 0 r.2.AtA.length,.osl 5003 0 r.2.AtB.length,.d (slD TreeWord.enc a0.Radio)]),(5001,.arr 43 6 r.2.Bridges.length (rows TreeBridge.enc r.2.Bridges)),(5002,.arr 107 4 r.2.AtA.length (rows TreeSlot.enc r.2.AtA)),(5003,.arr 107 4 r.2.AtB.length (rows TreeSlot.enc r.2.AtB))]:=by
  refine effC_x tOk (fn:=Try.f93) (c:=codeOf Try.f93) rfl rfl ?_;unfold impl_TreeWorld_slot_r00_03_04_at_s0_m at h;(conv=>whnf);refine seq_in tOk ?_;(conv=>whnf);refine And.intro (fun q=>absurd (e.symm.trans q) (by decide)) (fun _=>?_);(conv=>whnf);refine gdI h (fun h=>?_);(conv=>whnf);obtain rfl:=Option.some.inj h;exact lfE [.s [(5001,9001),(5002,9002),(5003,9003),(9001,5001),(9002,5002),(9003,5003)]]
noncomputable def impl_TreeWorld_rethink_r03_m (a0:TreeWorld) (a1:Int):Option (TreeWorld) :=
 gd ((0:Int)≤a1∧a1<((a0.Bridges.length:Nat):Int)) <|
(if (a0.Bridges.getD a1.toNat default).Up = true then
 bd (impl_TreeWorld_think_m a0 a1) fun x2 =>
 gd ((0:Int)≤a1∧a1<((a0.Bridges.length:Nat):Int)) <|
 some ({ a0 with Bridges:=a0.Bridges.set a1.toNat ({ (a0.Bridges.getD a1.toNat default) with Mind:=x2 }) })
else
 some a0)
theorem impl_TreeWorld_rethink_r03_c {a0:TreeWorld} {a1:Int} {r:TreeWorld} (h:impl_TreeWorld_rethink_r03_m a0 a1 = some r):EffC Try.prog 94 [.ref 9000 0 0,.d (.int .i64 a1)] [(9000,.box 29 [.osl 9001 0 a0.Bridges.length,.d (slD TreeLink.enc a0.Links),.d (slD encInt a0.Down),.osl 9002 0 a0.AtA.length,.d (slD TreeSlot.enc a0.AtB),.d (slD TreeWord.enc a0.Radio)]),(9001,.arr 43 6 a0.Bridges.length (rows TreeBridge.enc a0.Bridges)),(9002,.arr 107 4 a0.AtA.length (rows TreeSlot.enc a0.AtA))] (.tup []) [(9000,.box 29 [.osl 5001 0 r.Bridges.length,.d (slD TreeLink.enc a0.Links),.d (slD encInt a0.Down),.osl 5002 0 r.AtA.length,.d (slD TreeSlot.enc a0.AtB),.d (slD TreeWord.enc a0.Radio)]),(5001,.arr 43 6 r.Bridges.length (rows TreeBridge.enc r.Bridges)),(5002,.arr 107 4 r.AtA.length (rows TreeSlot.enc r.AtA))]:=by
  refine effC_x tOk (fn:=Try.f94) (c:=codeOf Try.f94) rfl rfl ?_;unfold impl_TreeWorld_rethink_r03_m at h;(conv=>whnf);refine gdI h (fun h=>?_);(conv=>whnf);refine andI h (fun _ h=>?_) (fun _ h=>?_)
  · (conv=>whnf);obtain ⟨x2,hx2,h⟩:=bd_some h;obtain ⟨g3,h⟩:=gd_some h;refine draw_u tOk [.u 7 0 (.agg [.d (.int .i64 x2.Vector.Root),.d (.int .i64 x2.Vector.Cost),.d (.int .i64 x2.Vector.Age),.d (.int .i64 x2.Link)]) []] 10 [] [0,1,3,7,0,0,0,96,255,511] [1023] ?_;(conv=>whnf);refine And.intro (callD_any (impl_TreeWorld_think_c hx2) (by kernel_rfl)) ?_;(conv=>whnf);refine And.intro g3 ?_;clear g3;(conv=>whnf);refine And.intro (by kernel_rfl) ?_;(conv=>whnf);refine ⟨rows TreeBridge.enc (a0.Bridges.set a1.toNat ({ (a0.Bridges.getD a1.toNat default) with Mind:=x2 })),store_rows' lenA rfl,?_⟩;(conv=>whnf);obtain rfl:=Option.some.inj h;exact lfE [.s [(5001,9001),(5002,9002),(9001,5001),(9002,5002)]]
  · (conv=>whnf);obtain rfl:=Option.some.inj h;exact lfE [.s [(5001,9001),(5002,9002),(9001,5001),(9002,5002)]]
noncomputable def impl_TreeWorld_tick_m (a0:TreeWorld):Option (TreeWorld) :=
 bd (lp (σ:=List TreeBridge × List TreeSlot × List TreeSlot × Int) (β:=(Nat × Nat × Nat × (List TreeBridge) × (List TreeSlot) × (List TreeSlot))) (fun s1 =>
(if (decide (s1.2.2.2<((a0.Links.length:Nat):Int))) = true then
 bd (lp (σ:=List TreeBridge × List TreeSlot × List TreeSlot × Int) (β:=(Nat × Nat × Nat × (List TreeBridge) × (List TreeSlot) × (List TreeSlot))) (fun s5 =>
(if (decide (s5.2.2.2<2)) = true then
(if (s5.2.2.2 == 0) = true then
 bd (impl_TreeWorld_slot_r00_03_04_at_s1_m ({ a0 with Bridges:=s5.1,AtA:=s5.2.1,AtB:=s5.2.2.1 }) s1.2.2.2 s5.2.2.2) fun x10 =>
 bd (some (x10.2.AtA.set x10.1 (⟨((x10.2.AtA.getD x10.1 default).Vector),(if (IntKind.i64.wrap (((x10.2.AtA.getD x10.1 default).Left) - 1)) > 0 then IntKind.i64.wrap (((x10.2.AtA.getD x10.1 default).Left) - 1) else 0)⟩:TreeSlot))) fun x11 =>
(if (((x11.getD x10.1 default).Left) == 0) = true then
 some (.inl (x10.2.Bridges,x11.set x10.1 (⟨(⟨0,0,0⟩:TreeVector),0⟩:TreeSlot),x10.2.AtB,IntKind.i64.wrap (s5.2.2.2+1)))
else
 some (.inl (x10.2.Bridges,x11,x10.2.AtB,IntKind.i64.wrap (s5.2.2.2+1))))
else
 bd (impl_TreeWorld_slot_r00_03_04_at_s0_m ({ a0 with Bridges:=s5.1,AtA:=s5.2.1,AtB:=s5.2.2.1 }) s1.2.2.2 s5.2.2.2) fun x12 =>
 bd (some (x12.2.AtB.set x12.1 (⟨((x12.2.AtB.getD x12.1 default).Vector),(if (IntKind.i64.wrap (((x12.2.AtB.getD x12.1 default).Left) - 1)) > 0 then IntKind.i64.wrap (((x12.2.AtB.getD x12.1 default).Left) - 1) else 0)⟩:TreeSlot))) fun x13 =>
(if (((x13.getD x12.1 default).Left) == 0) = true then
 some (.inl (x12.2.Bridges,x12.2.AtA,x13.set x12.1 (⟨(⟨0,0,0⟩:TreeVector),0⟩:TreeSlot),IntKind.i64.wrap (s5.2.2.2+1)))
else
 some (.inl (x12.2.Bridges,x12.2.AtA,x13,IntKind.i64.wrap (s5.2.2.2+1)))))
else
 some (.inr (s5.1.length,s5.2.1.length,s5.2.2.1.length,s5.1,s5.2.1,s5.2.2.1)))) (s1.1,s1.2.1,s1.2.2.1,0)) fun x8 =>
 some (.inl (x8.2.2.2.1,x8.2.2.2.2.1,x8.2.2.2.2.2,IntKind.i64.wrap (s1.2.2.2+1)))
else
 some (.inr (s1.1.length,s1.2.1.length,s1.2.2.1.length,s1.1,s1.2.1,s1.2.2.1)))) (a0.Bridges,a0.AtA,a0.AtB,0)) fun x4 =>
 bd (lp (σ:=List TreeBridge × List TreeSlot × Int) (β:=(Nat × Nat × (List TreeBridge) × (List TreeSlot))) (fun s16 =>
(if (decide (s16.2.2<((x4.1:Nat):Int))) = true then
 bd (impl_TreeWorld_rethink_r03_m ({ a0 with Bridges:=s16.1,AtA:=s16.2.1,AtB:=x4.2.2.2.2.2 }) s16.2.2) fun x20 =>
 some (.inl (x20.Bridges,x20.AtA,IntKind.i64.wrap (s16.2.2+1)))
else
 some (.inr (s16.1.length,s16.2.1.length,s16.1,s16.2.1)))) (x4.2.2.2.1,x4.2.2.2.2.1,0)) fun x19 =>
 some ({ a0 with Bridges:=x19.2.2.1,AtA:=x19.2.2.2,AtB:=x4.2.2.2.2.2 })
theorem impl_TreeWorld_tick_c {a0:TreeWorld} {r:TreeWorld} (h:impl_TreeWorld_tick_m a0 = some r):EffC Try.prog 47 [.ref 9000 0 0] [(9000,.box 29 [.osl 9001 0 a0.Bridges.length,.d (slD TreeLink.enc a0.Links),.d (slD encInt a0.Down),.osl 9002 0 a0.AtA.length,.osl 9003 0 a0.AtB.length,.d (slD TreeWord.enc a0.Radio)]),(9001,.arr 43 6 a0.Bridges.length (rows TreeBridge.enc a0.Bridges)),(9002,.arr 107 4 a0.AtA.length (rows TreeSlot.enc a0.AtA)),(9003,.arr 107 4 a0.AtB.length (rows TreeSlot.enc a0.AtB))] (.tup []) [(9000,.box 29 [.osl 5001 0 r.Bridges.length,.d (slD TreeLink.enc a0.Links),.d (slD encInt a0.Down),.osl 5002 0 r.AtA.length,.d (slD TreeSlot.enc r.AtB),.d (slD TreeWord.enc a0.Radio)]),(5001,.arr 43 6 r.Bridges.length (rows TreeBridge.enc r.Bridges)),(5002,.arr 107 4 r.AtA.length (rows TreeSlot.enc r.AtA))]:=by
  refine effC_x tOk (fn:=Try.f47) (c:=codeOf Try.f47) rfl rfl ?_;unfold impl_TreeWorld_tick_m at h;(conv=>whnf);refine seq_in tOk ?_;(conv=>whnf);obtain ⟨x4,hx4,h⟩:=bd_some h;refine loop_m tOk hx4 (fun s1=>⟨0,52,[(0,.ref 9000 0 0),(10,.d (.int .i64 ((a0.Links.length:Nat):Int))),(11,.d (.int .i64 s1.2.2.2))],[],[(9000,.box 29 [.osl 9001 0 s1.1.length,.d (slD TreeLink.enc a0.Links),.d (slD encInt a0.Down),.osl 9002 0 s1.2.1.length,.osl 9003 0 s1.2.2.1.length,.d (slD TreeWord.enc a0.Radio)]),(9001,.arr 43 6 s1.1.length (rows TreeBridge.enc s1.1)),(9002,.arr 107 4 s1.2.1.length (rows TreeSlot.enc s1.2.1)),(9003,.arr 107 4 s1.2.2.1.length (rows TreeSlot.enc s1.2.2.1))],[⟨[(0,.ref 9000 0 0)],[]⟩]⟩) ?_ ?_
  · exact leX []
  · clear hx4;intro s1 y2 g3 hy2;(conv=>whnf);refine seq_in tOk ?_;(conv=>whnf);refine andI g3 (fun _ g3=>?_) (fun _ g3=>?_)
    · (conv=>whnf);refine seq_in tOk ?_;(conv=>whnf);obtain ⟨x8,hx8,g3⟩:=bd_some g3;refine loop_m tOk hx8 (fun s5=>⟨0,52,[(0,.ref 9000 0 0),(2,.d (.int .i64 s1.2.2.2)),(10,.d (.int .i64 ((a0.Links.length:Nat):Int))),(11,.d (.int .i64 s1.2.2.2)),(14,.d (.int .i64 s5.2.2.2))],[],[(9000,.box 29 [.osl 9001 0 s5.1.length,.d (slD TreeLink.enc a0.Links),.d (slD encInt a0.Down),.osl 9002 0 s5.2.1.length,.osl 9003 0 s5.2.2.1.length,.d (slD TreeWord.enc a0.Radio)]),(9001,.arr 43 6 s5.1.length (rows TreeBridge.enc s5.1)),(9002,.arr 107 4 s5.2.1.length (rows TreeSlot.enc s5.2.1)),(9003,.arr 107 4 s5.2.2.1.length (rows TreeSlot.enc s5.2.2.1))],[⟨[(0,.ref 9000 0 0)],[]⟩]⟩) ?_ ?_
      · exact leX []
      · clear hx8;intro s5 y6 g7 hy6;(conv=>whnf);refine seq_in tOk ?_;(conv=>whnf);refine andI g7 (fun _ g7=>?_) (fun _ g7=>?_)
        · (conv=>whnf);refine seq_in tOk ?_;(conv=>whnf);refine spI g7 (fun e9 g7=>?_) (fun e9 g7=>?_)
          · obtain ⟨x10,hx10,g7⟩:=bd_some g7;refine cE [(9000,9000),(9001,9001),(9002,9002),(9003,9003)] 1000 (impl_TreeWorld_slot_r00_03_04_at_s1_c e9 hx10) ?_;(conv=>whnf);obtain ⟨x11,hx11,hlx11,g7⟩:=bd_set g7;refine setS (enc:=TreeSlot.enc) hx11 ?_;(conv=>whnf);refine andI g7 (fun _ g7=>?_) (fun _ g7=>?_)
            · (conv=>whnf);refine ⟨rows TreeSlot.enc (x11.set x10.1 (⟨(⟨0,0,0⟩:TreeVector),0⟩:TreeSlot)),store_rows' lenA rfl,?_⟩;(conv=>whnf);obtain rfl:=Option.some.inj g7;exact ⟨_,rfl,leX [.s [(6001,9001),(6002,9002),(6003,9003),(9001,6001),(9002,6002),(9003,6003)]]⟩
            · (conv=>whnf);obtain rfl:=Option.some.inj g7;exact ⟨_,rfl,leX [.s [(6001,9001),(6002,9002),(6003,9003),(9001,6001),(9002,6002),(9003,6003)]]⟩
          · obtain ⟨x12,hx12,g7⟩:=bd_some g7;refine cE [(9000,9000),(9001,9001),(9002,9002),(9003,9003)] 1000 (impl_TreeWorld_slot_r00_03_04_at_s0_c e9 hx12) ?_;(conv=>whnf);obtain ⟨x13,hx13,hlx13,g7⟩:=bd_set g7;refine setS (enc:=TreeSlot.enc) hx13 ?_;(conv=>whnf);refine andI g7 (fun _ g7=>?_) (fun _ g7=>?_)
            · (conv=>whnf);refine ⟨rows TreeSlot.enc (x13.set x12.1 (⟨(⟨0,0,0⟩:TreeVector),0⟩:TreeSlot)),store_rows' lenA rfl,?_⟩;(conv=>whnf);obtain rfl:=Option.some.inj g7;exact ⟨_,rfl,leX [.s [(6001,9001),(6002,9002),(6003,9003),(9001,6001),(9002,6002),(9003,6003)]]⟩
            · (conv=>whnf);obtain rfl:=Option.some.inj g7;exact ⟨_,rfl,leX [.s [(6001,9001),(6002,9002),(6003,9003),(9001,6001),(9002,6002),(9003,6003)]]⟩
        · (conv=>whnf);obtain rfl:=Option.some.inj g7;obtain rfl:=hy6 _ rfl;obtain rfl:=Option.some.inj g3;exact ⟨_,rfl,leX []⟩
    · (conv=>whnf);obtain rfl:=Option.some.inj g3;obtain rfl:=hy2 _ rfl;obtain ⟨x19,hx19,h⟩:=bd_some h;refine loop_m tOk hx19 (fun s16=>⟨0,52,[(0,.ref 9000 0 0),(44,.d (.int .i64 (((s1.1.length,s1.2.1.length,s1.2.2.1.length,s1.1,s1.2.1,s1.2.2.1).1:Nat):Int))),(45,.d (.int .i64 s16.2.2))],[],[(9000,.box 29 [.osl 9001 0 s16.1.length,.d (slD TreeLink.enc a0.Links),.d (slD encInt a0.Down),.osl 9002 0 s16.2.1.length,.d (slD TreeSlot.enc (s1.1.length,s1.2.1.length,s1.2.2.1.length,s1.1,s1.2.1,s1.2.2.1).2.2.2.2.2),.d (slD TreeWord.enc a0.Radio)]),(9001,.arr 43 6 s16.1.length (rows TreeBridge.enc s16.1)),(9002,.arr 107 4 s16.2.1.length (rows TreeSlot.enc s16.2.1))],[⟨[(0,.ref 9000 0 0)],[]⟩]⟩) ?_ ?_
      · exact leX [.f [9003]]
      · clear hx19;intro s16 y17 g18 hy17;(conv=>whnf);refine seq_in tOk ?_;(conv=>whnf);refine andI g18 (fun _ g18=>?_) (fun _ g18=>?_)
        · (conv=>whnf);refine seq_in tOk ?_;(conv=>whnf);obtain ⟨x20,hx20,g18⟩:=bd_some g18;refine cE [(9000,9000),(9001,9001),(9002,9002)] 1000 (impl_TreeWorld_rethink_r03_c hx20) ?_;(conv=>whnf);obtain rfl:=Option.some.inj g18;exact ⟨_,rfl,leX [.s [(6001,9001),(6002,9002),(9001,6001),(9002,6002)]]⟩
        · (conv=>whnf);obtain rfl:=Option.some.inj g18;obtain rfl:=hy17 _ rfl;obtain rfl:=Option.some.inj h;exact lfE [.s [(5001,9001),(5002,9002),(9001,5001),(9002,5002)]]
noncomputable def impl_TreeWorld_onBridge_m (a0:TreeWorld) (a1:Int) (a2:Int):Option (TreeWorld) :=
 bd (impl_within_m a2 0 (IntKind.i64.wrap (((a0.Bridges.length:Nat):Int) - 1))) fun x1 =>
(if (!x1) = true then
 some a0
else
 gd ((0:Int)≤a2∧a2<((a0.Bridges.length:Nat):Int)) <|
(if (a1 == 7) = true then
(if (!((a0.Bridges.getD a2.toNat default).Up)) = true then
 bd (impl_selfMind_m ((a0.Bridges.getD a2.toNat default).Id)) fun x3 =>
 bd (some (a0.Bridges.set a2.toNat (⟨(a0.Bridges.getD a2.toNat default).Id,true,(⟨(((a0.Bridges.getD a2.toNat default).Mind).Vector),((a0.Bridges.getD a2.toNat default).Mind).Link⟩:TreeMind)⟩:TreeBridge))) fun x4 =>
 some ({ a0 with Bridges:=x4.set a2.toNat ({ (x4.getD a2.toNat default) with Mind:=x3 }) })
else
 some a0)
else
 bd (some (a0.Bridges.set a2.toNat (⟨(a0.Bridges.getD a2.toNat default).Id,false,(⟨(((a0.Bridges.getD a2.toNat default).Mind).Vector),((a0.Bridges.getD a2.toNat default).Mind).Link⟩:TreeMind)⟩:TreeBridge))) fun x5 =>
 bd (some (x5.set a2.toNat ({ (x5.getD a2.toNat default) with Mind:=(⟨(⟨0,0,0⟩:TreeVector),0⟩:TreeMind) }))) fun x6 =>
 bd (lp (σ:=List TreeSlot × List TreeSlot × Int) (β:=(Nat × Nat × (List TreeSlot) × (List TreeSlot))) (fun s7 =>
(if (decide (s7.2.2<((a0.Links.length:Nat):Int))) = true then
 bd (lp (σ:=List TreeSlot × List TreeSlot × Int) (β:=(Nat × Nat × (List TreeSlot) × (List TreeSlot))) (fun s11 =>
(if (decide (s11.2.2<2)) = true then
 bd (impl_TreeWorld_bridgeAt_m ({ a0 with Bridges:=x6,AtA:=s11.1,AtB:=s11.2.1 }) s7.2.2 s11.2.2) fun x15 =>
(if (x15 == a2) = true then
(if (s11.2.2 == 0) = true then
 bd (impl_TreeWorld_slot_r03_04_at_s1_m ({ a0 with Bridges:=x6,AtA:=s11.1,AtB:=s11.2.1 }) s7.2.2 s11.2.2) fun x17 =>
 some (.inl (x17.2.AtA.set x17.1 (⟨(⟨0,0,0⟩:TreeVector),0⟩:TreeSlot),x17.2.AtB,IntKind.i64.wrap (s11.2.2+1)))
else
 bd (impl_TreeWorld_slot_r03_04_at_s0_m ({ a0 with Bridges:=x6,AtA:=s11.1,AtB:=s11.2.1 }) s7.2.2 s11.2.2) fun x18 =>
 some (.inl (x18.2.AtA,x18.2.AtB.set x18.1 (⟨(⟨0,0,0⟩:TreeVector),0⟩:TreeSlot),IntKind.i64.wrap (s11.2.2+1))))
else
 some (.inl (s11.1,s11.2.1,IntKind.i64.wrap (s11.2.2+1))))
else
 some (.inr (s11.1.length,s11.2.1.length,s11.1,s11.2.1)))) (s7.1,s7.2.1,0)) fun x14 =>
 some (.inl (x14.2.2.1,x14.2.2.2,IntKind.i64.wrap (s7.2.2+1)))
else
 some (.inr (s7.1.length,s7.2.1.length,s7.1,s7.2.1)))) (a0.AtA,a0.AtB,0)) fun x10 =>
 some ({ a0 with Bridges:=x6,AtA:=x10.2.2.1,AtB:=x10.2.2.2 })))
theorem impl_TreeWorld_onBridge_c {a0:TreeWorld} {a1:Int} {a2:Int} {r:TreeWorld} (h:impl_TreeWorld_onBridge_m a0 a1 a2 = some r):EffC Try.prog 48 [.ref 9000 0 0,.d (.int .i64 a1),.d (.int .i64 a2)] [(9000,.box 29 [.osl 9001 0 a0.Bridges.length,.d (slD TreeLink.enc a0.Links),.d (slD encInt a0.Down),.osl 9002 0 a0.AtA.length,.osl 9003 0 a0.AtB.length,.d (slD TreeWord.enc a0.Radio)]),(9001,.arr 43 6 a0.Bridges.length (rows TreeBridge.enc a0.Bridges)),(9002,.arr 107 4 a0.AtA.length (rows TreeSlot.enc a0.AtA)),(9003,.arr 107 4 a0.AtB.length (rows TreeSlot.enc a0.AtB))] (.tup []) [(9000,.box 29 [.d (slD TreeBridge.enc r.Bridges),.d (slD TreeLink.enc a0.Links),.d (slD encInt a0.Down),.osl 5001 0 r.AtA.length,.osl 5002 0 r.AtB.length,.d (slD TreeWord.enc a0.Radio)]),(5001,.arr 107 4 r.AtA.length (rows TreeSlot.enc r.AtA)),(5002,.arr 107 4 r.AtB.length (rows TreeSlot.enc r.AtB))]:=by
  refine effC_x tOk (fn:=Try.f48) (c:=codeOf Try.f48) rfl rfl ?_;unfold impl_TreeWorld_onBridge_m at h;(conv=>whnf);refine seq_in tOk ?_;(conv=>whnf);obtain ⟨x1,hx1,h⟩:=bd_some h;refine cC 0 (impl_within_c hx1) ?_;clear hx1;(conv=>whnf);refine andI h (fun _ h=>?_) (fun _ h=>?_)
  · (conv=>whnf);obtain rfl:=Option.some.inj h;exact lfE [.f [9001],.s [(5001,9002),(5002,9003),(9002,5001),(9003,5002)]]
  · (conv=>whnf);refine gdI h (fun h=>?_);(conv=>whnf);refine seq_in tOk ?_;(conv=>whnf);refine andI h (fun _ h=>?_) (fun _ h=>?_)
    · (conv=>whnf);refine seq_in tOk ?_;(conv=>whnf);refine andI h (fun _ h=>?_) (fun _ h=>?_)
      · (conv=>whnf);obtain ⟨x3,hx3,h⟩:=bd_some h;refine cC 0 (impl_selfMind_c hx3) ?_;clear hx3;(conv=>whnf);obtain ⟨x4,hx4,hlx4,h⟩:=bd_set h;refine setS (enc:=TreeBridge.enc) hx4 ?_;(conv=>whnf);refine ⟨rows TreeBridge.enc (x4.set a2.toNat ({ (x4.getD a2.toNat default) with Mind:=x3 })),store_rows' lenA rfl,?_⟩;(conv=>whnf);obtain rfl:=Option.some.inj h;exact lfE [.f [9001],.s [(5001,9002),(5002,9003),(9002,5001),(9003,5002)]]
      · (conv=>whnf);obtain rfl:=Option.some.inj h;exact lfE [.f [9001],.s [(5001,9002),(5002,9003),(9002,5001),(9003,5002)]]
    · (conv=>whnf);obtain ⟨x5,hx5,hlx5,h⟩:=bd_set h;refine setS (enc:=TreeBridge.enc) hx5 ?_;(conv=>whnf);obtain ⟨x6,hx6,hlx6,h⟩:=bd_set h;refine setS (enc:=TreeBridge.enc) hx6 ?_;(conv=>whnf);obtain ⟨x10,hx10,h⟩:=bd_some h;refine loop_m tOk hx10 (fun s7=>⟨0,74,[(0,.ref 9000 0 0),(2,.d (.int .i64 a2)),(53,.d (.int .i64 ((a0.Links.length:Nat):Int))),(54,.d (.int .i64 s7.2.2))],[],[(9000,.box 29 [.d (slD TreeBridge.enc x6),.d (slD TreeLink.enc a0.Links),.d (slD encInt a0.Down),.osl 9002 0 s7.1.length,.osl 9003 0 s7.2.1.length,.d (slD TreeWord.enc a0.Radio)]),(9002,.arr 107 4 s7.1.length (rows TreeSlot.enc s7.1)),(9003,.arr 107 4 s7.2.1.length (rows TreeSlot.enc s7.2.1))],[⟨[(0,.ref 9000 0 0)],[]⟩]⟩) ?_ ?_
      · exact leX [.f [9001]]
      · clear hx10;intro s7 y8 g9 hy8;(conv=>whnf);refine seq_in tOk ?_;(conv=>whnf);refine andI g9 (fun _ g9=>?_) (fun _ g9=>?_)
        · (conv=>whnf);refine seq_in tOk ?_;(conv=>whnf);obtain ⟨x14,hx14,g9⟩:=bd_some g9;refine loop_m tOk hx14 (fun s11=>⟨0,74,[(0,.ref 9000 0 0),(2,.d (.int .i64 a2)),(7,.d (.int .i64 s7.2.2)),(53,.d (.int .i64 ((a0.Links.length:Nat):Int))),(54,.d (.int .i64 s7.2.2)),(57,.d (.int .i64 s11.2.2))],[],[(9000,.box 29 [.d (slD TreeBridge.enc x6),.d (slD TreeLink.enc a0.Links),.d (slD encInt a0.Down),.osl 9002 0 s11.1.length,.osl 9003 0 s11.2.1.length,.d (slD TreeWord.enc a0.Radio)]),(9002,.arr 107 4 s11.1.length (rows TreeSlot.enc s11.1)),(9003,.arr 107 4 s11.2.1.length (rows TreeSlot.enc s11.2.1))],[⟨[(0,.ref 9000 0 0)],[]⟩]⟩) ?_ ?_
          · exact leX []
          · clear hx14;intro s11 y12 g13 hy12;(conv=>whnf);refine seq_in tOk ?_;(conv=>whnf);refine andI g13 (fun _ g13=>?_) (fun _ g13=>?_)
            · (conv=>whnf);refine seq_in tOk ?_;(conv=>whnf);obtain ⟨x15,hx15,g13⟩:=bd_some g13;refine cC 0 (impl_TreeWorld_bridgeAt_c hx15) ?_;clear hx15;(conv=>whnf);refine andI g13 (fun _ g13=>?_) (fun _ g13=>?_)
              · (conv=>whnf);refine spI g13 (fun e16 g13=>?_) (fun e16 g13=>?_)
                · obtain ⟨x17,hx17,g13⟩:=bd_some g13;refine cE [(9000,9000),(9001,9002),(9002,9003)] 1000 (impl_TreeWorld_slot_r03_04_at_s1_c e16 hx17) ?_;(conv=>whnf);refine ⟨rows TreeSlot.enc (x17.2.AtA.set x17.1 (⟨(⟨0,0,0⟩:TreeVector),0⟩:TreeSlot)),store_rows' lenA rfl,?_⟩;(conv=>whnf);obtain rfl:=Option.some.inj g13;exact ⟨_,rfl,leX [.s [(6001,9002),(6002,9003),(9002,6001),(9003,6002)]]⟩
                · obtain ⟨x18,hx18,g13⟩:=bd_some g13;refine cE [(9000,9000),(9001,9002),(9002,9003)] 1000 (impl_TreeWorld_slot_r03_04_at_s0_c e16 hx18) ?_;(conv=>whnf);refine ⟨rows TreeSlot.enc (x18.2.AtB.set x18.1 (⟨(⟨0,0,0⟩:TreeVector),0⟩:TreeSlot)),store_rows' lenA rfl,?_⟩;(conv=>whnf);obtain rfl:=Option.some.inj g13;exact ⟨_,rfl,leX [.s [(6001,9002),(6002,9003),(9002,6001),(9003,6002)]]⟩
              · (conv=>whnf);obtain rfl:=Option.some.inj g13;exact ⟨_,rfl,leX []⟩
            · (conv=>whnf);obtain rfl:=Option.some.inj g13;obtain rfl:=hy12 _ rfl;obtain rfl:=Option.some.inj g9;exact ⟨_,rfl,leX []⟩
        · (conv=>whnf);obtain rfl:=Option.some.inj g9;obtain rfl:=hy8 _ rfl;obtain rfl:=Option.some.inj h;exact lfE [.s [(5001,9002),(5002,9003),(9002,5001),(9003,5002)]]
noncomputable def cmp_isNaN_int_m (a0:Int):Option (Bool) :=
 some (a0 != a0)
theorem cmp_isNaN_int_c {a0:Int} {r:Bool} (h:cmp_isNaN_int_m a0 = some r):PureC Try.prog 138 [.d (.int .i64 a0)] (.d (.bool r)) []:=by
  refine pureC_x tOk (fn:=Try.f138) (c:=codeOf Try.f138) rfl rfl ?_;unfold cmp_isNaN_int_m at h;(conv=>whnf);obtain rfl:=Option.some.inj h;exact lfP []
noncomputable def cmp_Less_int_m (a0:Int) (a1:Int):Option (Bool) :=
 bd (cmp_isNaN_int_m a0) fun x1 =>
 bd (gcall (x1 = true) (cmp_isNaN_int_m a1)) fun x2 =>
 some ((x1 && (!x2)) || (decide (a0<a1)))
theorem cmp_Less_int_c {a0:Int} {a1:Int} {r:Bool} (h:cmp_Less_int_m a0 a1 = some r):PureC Try.prog 124 [.d (.int .i64 a0),.d (.int .i64 a1)] (.d (.bool r)) []:=by
  refine pureC_x tOk (fn:=Try.f124) (c:=codeOf Try.f124) rfl rfl ?_;unfold cmp_Less_int_m at h;(conv=>whnf);obtain ⟨x1,hx1,h⟩:=bd_some h;refine cC 0 (cmp_isNaN_int_c hx1) ?_;clear hx1;(conv=>whnf);obtain ⟨x2,hx2,h⟩:=bd_some h;refine callG_m rfl rfl rfl rfl rfl rfl (by intro c0; exact cmp_isNaN_int_c (gcall_some hx2 c0)) ?_;(conv=>whnf);obtain rfl:=Option.some.inj h;exact lfP []
noncomputable def slices_isNaN_int_m (a0:Int):Option (Bool) :=
 some (a0 != a0)
theorem slices_isNaN_int_c {a0:Int} {r:Bool} (h:slices_isNaN_int_m a0 = some r):PureC Try.prog 125 [.d (.int .i64 a0)] (.d (.bool r)) []:=by
  refine pureC_x tOk (fn:=Try.f125) (c:=codeOf Try.f125) rfl rfl ?_;unfold slices_isNaN_int_m at h;(conv=>whnf);obtain rfl:=Option.some.inj h;exact lfP []
noncomputable def slices_BinarySearch_int_int_m (a0:(List Int)) (a1:Int):Option (Int × Bool) :=
 bd (lp (σ:=Int × Int) (β:=(Int)) (fun s1 =>
(if (decide (s1.1<s1.2)) = true then
 gd ((0:Int)≤1) <|
 gd ((0:Int)≤IntKind.i64.wrap ((IntKind.u64.wrap (IntKind.i64.wrap (s1.1+s1.2)):Int).fdiv (2 ^ min (1:Int).toNat IntKind.u64.bits))∧IntKind.i64.wrap ((IntKind.u64.wrap (IntKind.i64.wrap (s1.1+s1.2)):Int).fdiv (2 ^ min (1:Int).toNat IntKind.u64.bits))<((a0.length:Nat):Int)) <|
 bd (cmp_Less_int_m (a0.getD ((IntKind.i64.wrap ((IntKind.u64.wrap (IntKind.i64.wrap (s1.1+s1.2)):Int).fdiv (2 ^ min (1:Int).toNat IntKind.u64.bits))).toNat) default) a1) fun x7 =>
(if x7 = true then
 some (.inl (IntKind.i64.wrap ((IntKind.i64.wrap ((IntKind.u64.wrap (IntKind.i64.wrap (s1.1+s1.2)):Int).fdiv (2 ^ min (1:Int).toNat IntKind.u64.bits)))+1),s1.2))
else
 some (.inl (s1.1,IntKind.i64.wrap ((IntKind.u64.wrap (IntKind.i64.wrap (s1.1+s1.2)):Int).fdiv (2 ^ min (1:Int).toNat IntKind.u64.bits)))))
else
 some (.inr s1.1))) (0,((a0.length:Nat):Int))) fun x4 =>
 gd ((decide (x4<((a0.length:Nat):Int))) = true → ((0:Int)≤x4∧x4<((a0.length:Nat):Int))) <|
 gd (((a0.getD x4.toNat default) == a1) = false → ((decide (x4<((a0.length:Nat):Int))) = true → ((0:Int)≤x4∧x4<((a0.length:Nat):Int)))) <|
 bd (gcall (((a0.getD x4.toNat default) == a1) = false∧(decide (x4<((a0.length:Nat):Int))) = true) (slices_isNaN_int_m (a0.getD x4.toNat default))) fun x11 =>
 bd (gcall (x11 = true∧((a0.getD x4.toNat default) == a1) = false∧(decide (x4<((a0.length:Nat):Int))) = true) (slices_isNaN_int_m a1)) fun x12 =>
 some (x4,((decide (x4<((a0.length:Nat):Int))) && (((a0.getD x4.toNat default) == a1) || (x11 && x12))))
theorem slices_BinarySearch_int_int_c {a0:(List Int)} {a1:Int} {r:Int × Bool} (h:slices_BinarySearch_int_int_m a0 a1 = some r):PureC Try.prog 96 [.d (slD encInt a0),.d (.int .i64 a1)] (.tup [.d (.int .i64 r.1),.d (.bool r.2)]) []:=by
  refine pureC_x tOk (fn:=Try.f96) (c:=codeOf Try.f96) rfl rfl ?_;unfold slices_BinarySearch_int_int_m at h;(conv=>whnf);refine seq_in tOk ?_;(conv=>whnf);obtain ⟨x4,hx4,h⟩:=bd_some h;refine loop_m tOk hx4 (fun s1=>⟨0,54,[(0,.d (slD encInt a0)),(1,.d (.int .i64 a1)),(6,.d (.int .i64 ((a0.length:Nat):Int))),(7,.d (.int .i64 s1.1)),(8,.d (.int .i64 s1.2))],[],[],[]⟩) ?_ ?_
  · exact leX []
  · clear hx4;intro s1 y2 g3 hy2;(conv=>whnf);refine seq_in tOk ?_;(conv=>whnf);refine andI g3 (fun _ g3=>?_) (fun _ g3=>?_)
    · (conv=>whnf);refine gdI g3 (fun g3=>?_);(conv=>whnf);refine gdI g3 (fun g3=>?_);(conv=>whnf);obtain ⟨x7,hx7,g3⟩:=bd_some g3;refine cC 0 (cmp_Less_int_c hx7) ?_;clear hx7;(conv=>whnf);refine andI g3 (fun _ g3=>?_) (fun _ g3=>?_)
      · (conv=>whnf);obtain rfl:=Option.some.inj g3;exact ⟨_,rfl,leX []⟩
      · (conv=>whnf);obtain rfl:=Option.some.inj g3;exact ⟨_,rfl,leX []⟩
    · (conv=>whnf);obtain rfl:=Option.some.inj g3;obtain rfl:=hy2 _ rfl;refine gdI h (fun h=>?_);(conv=>whnf);refine gdI h (fun h=>?_);(conv=>whnf);obtain ⟨x11,hx11,h⟩:=bd_some h;refine callG_m rfl rfl rfl rfl rfl rfl (by intro c0 c1; exact slices_isNaN_int_c (gcall_some hx11 ⟨c0,c1⟩)) ?_;(conv=>whnf);obtain ⟨x12,hx12,h⟩:=bd_some h;refine callG_m rfl rfl rfl rfl rfl rfl (by intro c0 c1 c2; exact slices_isNaN_int_c (gcall_some hx12 ⟨c0,c1,c2⟩)) ?_;(conv=>whnf);obtain rfl:=Option.some.inj h;exact lfP []
noncomputable def impl_TreeWorld_open_m (a0:TreeWorld) (a1:Int):Option (Bool) :=
 gd ((0:Int)≤a1∧a1<((a0.Links.length:Nat):Int)) <|
 bd (impl_TreeWorld_isDown_m a0 a1) fun x2 =>
 gd ((!x2) = true → ((0:Int)≤(a0.Links.getD a1.toNat default).A∧(a0.Links.getD a1.toNat default).A<((a0.Bridges.length:Nat):Int))) <|
 gd (((!x2) && (a0.Bridges.getD (((a0.Links.getD a1.toNat default).A).toNat) default).Up) = true → ((0:Int)≤(a0.Links.getD a1.toNat default).B∧(a0.Links.getD a1.toNat default).B<((a0.Bridges.length:Nat):Int))) <|
 some (((!x2) && (a0.Bridges.getD (((a0.Links.getD a1.toNat default).A).toNat) default).Up) && (a0.Bridges.getD (((a0.Links.getD a1.toNat default).B).toNat) default).Up)
theorem impl_TreeWorld_open_c {a0:TreeWorld} {a1:Int} {r:Bool} (h:impl_TreeWorld_open_m a0 a1 = some r):PureC Try.prog 64 [.rp [slD TreeBridge.enc a0.Bridges,slD TreeLink.enc a0.Links,slD encInt a0.Down,slD TreeSlot.enc a0.AtA,slD TreeSlot.enc a0.AtB,slD TreeWord.enc a0.Radio],.d (.int .i64 a1)] (.d (.bool r)) []:=by
  refine pureC_x tOk (fn:=Try.f64) (c:=codeOf Try.f64) rfl rfl ?_;unfold impl_TreeWorld_open_m at h;(conv=>whnf);refine gdI h (fun h=>?_);(conv=>whnf);obtain ⟨x2,hx2,h⟩:=bd_some h;obtain ⟨g3,h⟩:=gd_some h;obtain ⟨g4,h⟩:=gd_some h;refine draw_u tOk [.u 2 0 (.d (.bool x2)) []] 27 [] [0,0,3,7,15,31,63,127,255,31,543,2047,4095,8191,16383,32767,65535,131071,262143,524287,65535,1114111,4194303,8388607,16777215,33554431,67108863] [] ?_;(conv=>whnf);refine And.intro (callD_any (impl_TreeWorld_isDown_c hx2) (by kernel_rfl)) ?_;(conv=>whnf);refine And.intro g3 ?_;clear g3;(conv=>whnf);refine And.intro g4 ?_;clear g4;(conv=>whnf);refine And.intro (by kernel_rfl) ?_;(conv=>whnf);obtain rfl:=Option.some.inj h;exact lfP []
noncomputable def impl_TreeWorld_told_m (a0:TreeWorld) (a1:Int) (a2:Int):Option (TreeVector) :=
 bd (impl_TreeWorld_bridgeAt_m a0 a1 (IntKind.i64.wrap (1 - a2))) fun x1 =>
 gd ((0:Int)≤x1∧x1<((a0.Bridges.length:Nat):Int)) <|
 some (((a0.Bridges.getD x1.toNat default).Mind).Vector)
theorem impl_TreeWorld_told_c {a0:TreeWorld} {a1:Int} {a2:Int} {r:TreeVector} (h:impl_TreeWorld_told_m a0 a1 a2 = some r):PureC Try.prog 66 [.rp [slD TreeBridge.enc a0.Bridges,slD TreeLink.enc a0.Links,slD encInt a0.Down,slD TreeSlot.enc a0.AtA,slD TreeSlot.enc a0.AtB,slD TreeWord.enc a0.Radio],.d (.int .i64 a1),.d (.int .i64 a2)] (.agg [.d (.int .i64 r.Root),.d (.int .i64 r.Cost),.d (.int .i64 r.Age)]) []:=by
  refine pureC_x tOk (fn:=Try.f66) (c:=codeOf Try.f66) rfl rfl ?_;unfold impl_TreeWorld_told_m at h;(conv=>whnf);obtain ⟨x1,hx1,h⟩:=bd_some h;obtain ⟨g2,h⟩:=gd_some h;refine draw_u tOk [.u 8 0 (.d (.int .i64 x1)) []] 13 [] [0,1,3,7,0,0,0,64,240,511,1023,2047,4095] [8191] ?_;(conv=>whnf);refine And.intro (callD_any (impl_TreeWorld_bridgeAt_c hx1) (by kernel_rfl)) ?_;(conv=>whnf);refine And.intro g2 ?_;clear g2;(conv=>whnf);refine And.intro (by kernel_rfl) ?_;(conv=>whnf);obtain rfl:=Option.some.inj h;exact lfP []
noncomputable def slices_Insert_int_int_m (a0:(List Int)) (a1:Int) (a2:(List Int)):Option ((List Int)) :=
 gd ((0≤a1∧a1≤a0.length)∧0<a2.length∧(a0.length+a2.length) * (8+1)≤70368744177664) <|
 some (insL a0 a1.toNat a2)
theorem slices_Insert_int_int_c {a0:(List Int)} {a1:Int} {a2:(List Int)} {r:(List Int)} (h:slices_Insert_int_int_m a0 a1 a2 = some r):EffC Try.prog 97 [.osl 9000 0 a0.length,.d (.int .i64 a1),.osl 9001 0 a2.length] [(9000,.arr 3 1 a0.length (rows encInt a0)),(9001,.arr 3 1 a2.length (rows encInt a2))] (.osl 5001 0 r.length) [(5001,.arr 3 1 r.length (rows encInt r))]:=by
  unfold slices_Insert_int_int_m at h;have L:LIns Try.prog ⟨fun x=>match x with | 22=>97 | 29=>126 | 30=>127 | _=>0,fun x=>match x with | 0=>0 | 3=>3 | 4=>4 | 9=>3 | 24=>25 | _=>0,fun x=>x⟩ 1 8 (.int .i64 0):=⟨by kernel_rfl,⟨Try.f97.name,by kernel_rfl,by kernel_rfl⟩,⟨Try.f126,by kernel_rfl,by kernel_rfl,by kernel_rfl,by kernel_rfl,by kernel_rfl⟩,by kernel_rfl,fun w=>by kernel_rfl,fun w=>by kernel_rfl,fun w=>by kernel_rfl,by kernel_rfl,fun w=>by kernel_rfl,fun w=>by kernel_rfl,fun w=>by kernel_rfl,by kernel_rfl,fun w=>by kernel_rfl,fun w=>by kernel_rfl,fun w=>by kernel_rfl,by kernel_rfl,fun w=>by kernel_rfl,fun w=>by kernel_rfl,fun w=>by kernel_rfl,⟨_,rfl,rfl,rfl,rfl⟩,fun w=>by kernel_rfl,by kernel_rfl,fun u hu=>List.all_eq_true.1 (by kernel_rfl:(List.all (Value.cells (.int .i64 0)).toList Value.oneCell') = true) u hu,by decide⟩;obtain ⟨g,h⟩:=gd_some h;obtain rfl:=Option.some.inj h;have k:=effC_ins (t:=3) (enc:=encInt) L (canOf (fn:=Try.f97) (c:=codeOf Try.f97) rfl rfl (by kernel_rfl)) (fun _=>rfl) (xs:=a0) (ys:=a2) (i:=a1.toNat) (by omega) g.2.1 g.2.2;rw [show ((a1.toNat:Nat):Int) = a1 by omega] at k;exact k
noncomputable def impl_TreeWorld_put_r03_04_m (a0:TreeWorld) (a1:TreeWord):Option (TreeWorld) :=
(if (decide (((a0.Radio.length:Nat):Int)<12)) = true then
 gd (((a0.Radio.length)+(([a1]:List TreeWord).length)) * (40+1)≤70368744177664) <|
 some ({ a0 with Radio:=(a0.Radio ++ ([a1]:List TreeWord)) })
else
 some a0)
theorem impl_TreeWorld_put_r03_04_c {a0:TreeWorld} {a1:TreeWord} {r:TreeWorld} (h:impl_TreeWorld_put_r03_04_m a0 a1 = some r):EffC Try.prog 91 [.ref 9000 0 0,.agg [.d (.int .i64 a1.Link),.d (.int .i64 a1.End),.d (.int .i64 a1.Vector.Root),.d (.int .i64 a1.Vector.Cost),.d (.int .i64 a1.Vector.Age)]] [(9000,.box 29 [.d (slD TreeBridge.enc a0.Bridges),.d (slD TreeLink.enc a0.Links),.d (slD encInt a0.Down),.osl 9001 0 a0.AtA.length,.osl 9002 0 a0.AtB.length,.osl 9003 0 a0.Radio.length]),(9001,.arr 107 4 a0.AtA.length (rows TreeSlot.enc a0.AtA)),(9002,.arr 107 4 a0.AtB.length (rows TreeSlot.enc a0.AtB)),(9003,.arr 76 5 a0.Radio.length (rows TreeWord.enc a0.Radio))] (.tup []) [(9000,.box 29 [.d (slD TreeBridge.enc a0.Bridges),.d (slD TreeLink.enc a0.Links),.d (slD encInt a0.Down),.osl 5001 0 r.AtA.length,.osl 5002 0 r.AtB.length,.osl 5003 0 r.Radio.length]),(5001,.arr 107 4 r.AtA.length (rows TreeSlot.enc r.AtA)),(5002,.arr 107 4 r.AtB.length (rows TreeSlot.enc r.AtB)),(5003,.arr 76 5 r.Radio.length (rows TreeWord.enc r.Radio))]:=by
  refine effC_x tOk (fn:=Try.f91) (c:=codeOf Try.f91) rfl rfl ?_;unfold impl_TreeWorld_put_r03_04_m at h;(conv=>whnf);refine andI h (fun _ h=>?_) (fun _ h=>?_)
  · (conv=>whnf);obtain ⟨g1,h⟩:=gd_some h;refine draw_t tOk [.a 7 [(9003,.arr 76 5 a0.Radio.length (rows TreeWord.enc a0.Radio))] (.osl 17 0 ((a0.Radio ++ ([a1]:List TreeWord)).length)) [(17,.arr 76 5 ((a0.Radio ++ ([a1]:List TreeWord)).length) (rows TreeWord.enc (a0.Radio ++ ([a1]:List TreeWord))))]] 10 [] [0,0,2,6,14,0,32,126,255,511] [1023] [9003] ?_;(conv=>whnf);refine bldS (enc:=TreeWord.enc) ([a1]:List TreeWord) ?_;(conv=>whnf);refine And.intro (by (conv=>whnf); exact ⟨g1,appS (enc:=TreeWord.enc) (xs:=a0.Radio) (ys:=([a1]:List TreeWord)) ⟨rfl,rfl⟩⟩) ?_;(conv=>whnf);refine And.intro (by kernel_rfl) ?_;(conv=>whnf);obtain rfl:=Option.some.inj h;exact lfE [.s [(17,5003),(5001,9001),(5002,9002),(5003,17),(9001,5001),(9002,5002)]]
  · (conv=>whnf);obtain rfl:=Option.some.inj h;exact lfE [.s [(5001,9001),(5002,9002),(5003,9003),(9001,5001),(9002,5002),(9003,5003)]]
noncomputable def impl_TreeWorld_rethink_r03_04_m (a0:TreeWorld) (a1:Int):Option (TreeWorld) :=
 gd ((0:Int)≤a1∧a1<((a0.Bridges.length:Nat):Int)) <|
(if (a0.Bridges.getD a1.toNat default).Up = true then
 bd (impl_TreeWorld_think_m a0 a1) fun x2 =>
 gd ((0:Int)≤a1∧a1<((a0.Bridges.length:Nat):Int)) <|
 some ({ a0 with Bridges:=a0.Bridges.set a1.toNat ({ (a0.Bridges.getD a1.toNat default) with Mind:=x2 }) })
else
 some a0)
theorem impl_TreeWorld_rethink_r03_04_c {a0:TreeWorld} {a1:Int} {r:TreeWorld} (h:impl_TreeWorld_rethink_r03_04_m a0 a1 = some r):EffC Try.prog 94 [.ref 9000 0 0,.d (.int .i64 a1)] [(9000,.box 29 [.osl 9001 0 a0.Bridges.length,.d (slD TreeLink.enc a0.Links),.d (slD encInt a0.Down),.osl 9002 0 a0.AtA.length,.osl 9003 0 a0.AtB.length,.d (slD TreeWord.enc a0.Radio)]),(9001,.arr 43 6 a0.Bridges.length (rows TreeBridge.enc a0.Bridges)),(9002,.arr 107 4 a0.AtA.length (rows TreeSlot.enc a0.AtA)),(9003,.arr 107 4 a0.AtB.length (rows TreeSlot.enc a0.AtB))] (.tup []) [(9000,.box 29 [.osl 5001 0 r.Bridges.length,.d (slD TreeLink.enc a0.Links),.d (slD encInt a0.Down),.osl 5002 0 r.AtA.length,.osl 5003 0 r.AtB.length,.d (slD TreeWord.enc a0.Radio)]),(5001,.arr 43 6 r.Bridges.length (rows TreeBridge.enc r.Bridges)),(5002,.arr 107 4 r.AtA.length (rows TreeSlot.enc r.AtA)),(5003,.arr 107 4 r.AtB.length (rows TreeSlot.enc r.AtB))]:=by
  refine effC_x tOk (fn:=Try.f94) (c:=codeOf Try.f94) rfl rfl ?_;unfold impl_TreeWorld_rethink_r03_04_m at h;(conv=>whnf);refine gdI h (fun h=>?_);(conv=>whnf);refine andI h (fun _ h=>?_) (fun _ h=>?_)
  · (conv=>whnf);obtain ⟨x2,hx2,h⟩:=bd_some h;obtain ⟨g3,h⟩:=gd_some h;refine draw_u tOk [.u 7 0 (.agg [.d (.int .i64 x2.Vector.Root),.d (.int .i64 x2.Vector.Cost),.d (.int .i64 x2.Vector.Age),.d (.int .i64 x2.Link)]) []] 10 [] [0,1,3,7,0,0,0,96,255,511] [1023] ?_;(conv=>whnf);refine And.intro (callD_any (impl_TreeWorld_think_c hx2) (by kernel_rfl)) ?_;(conv=>whnf);refine And.intro g3 ?_;clear g3;(conv=>whnf);refine And.intro (by kernel_rfl) ?_;(conv=>whnf);refine ⟨rows TreeBridge.enc (a0.Bridges.set a1.toNat ({ (a0.Bridges.getD a1.toNat default) with Mind:=x2 })),store_rows' lenA rfl,?_⟩;(conv=>whnf);obtain rfl:=Option.some.inj h;exact lfE [.s [(5001,9001),(5002,9002),(5003,9003),(9001,5001),(9002,5002),(9003,5003)]]
  · (conv=>whnf);obtain rfl:=Option.some.inj h;exact lfE [.s [(5001,9001),(5002,9002),(5003,9003),(9001,5001),(9002,5002),(9003,5003)]]
noncomputable def slices_Delete_int_int_m (a0:(List Int)) (a1:Int) (a2:Int):Option ((List Int)) :=
 gd (0≤a1∧a1≤a2∧a2≤a0.length) <|
 some (delL a0 a1.toNat a2.toNat)
theorem slices_Delete_int_int_c {a0:(List Int)} {a1:Int} {a2:Int} {r:(List Int)} (h:slices_Delete_int_int_m a0 a1 a2 = some r):EffC Try.prog 98 [.osl 9000 0 a0.length,.d (.int .i64 a1),.d (.int .i64 a2)] [(9000,.arr 3 1 a0.length (rows encInt a0))] (.osl 5001 0 r.length) [(5001,.arr 3 1 r.length (rows encInt r))]:=by
  unfold slices_Delete_int_int_m at h;have L:LDel Try.prog ⟨fun x=>match x with | 45=>98 | _=>0,fun x=>match x with | 0=>0 | 3=>3 | 4=>4 | 22=>25 | 23=>3 | _=>0,fun x=>x⟩ 1 (.int .i64 0):=⟨by kernel_rfl,⟨Try.f98.name,by kernel_rfl,by kernel_rfl⟩,by kernel_rfl,fun w=>by kernel_rfl,fun w=>by kernel_rfl,fun w=>by kernel_rfl,by kernel_rfl,fun w=>by kernel_rfl,fun w=>by kernel_rfl,fun w=>by kernel_rfl,by kernel_rfl,fun w=>by kernel_rfl,fun w=>by kernel_rfl,fun w=>by kernel_rfl,by kernel_rfl,fun w=>by kernel_rfl,fun w=>by kernel_rfl,fun w=>by kernel_rfl,⟨_,rfl,rfl⟩,fun w=>by kernel_rfl,fun w=>by kernel_rfl,by kernel_rfl,fun u hu=>List.all_eq_true.1 (by kernel_rfl:(List.all (Value.cells (.int .i64 0)).toList Value.oneCell') = true) u hu⟩;obtain ⟨g,h⟩:=gd_some h;obtain rfl:=Option.some.inj h;have k:=effC_del (t:=3) (enc:=encInt) L (canOf (fn:=Try.f98) (c:=codeOf Try.f98) rfl rfl (by kernel_rfl)) (fun _=>rfl) (xs:=a0) (i:=a1.toNat) (j:=a2.toNat) (by omega) (by omega);rw [show ((a1.toNat:Nat):Int) = a1 by omega,show ((a2.toNat:Nat):Int) = a2 by omega] at k;exact k
noncomputable def impl_TreeWorld_onLink_m (a0:TreeWorld) (a1:TreeEvent):Option (TreeWorld) :=
 bd (impl_TreeWorld_isLink_m a0 a1.At) fun x1 =>
(if (!x1) = true then
 some a0
else
 bd (slices_BinarySearch_int_int_m a0.Down a1.At) fun x2 =>
(if (a1.Kind == 1) = true then
 bd (impl_within_m a1.End 0 1) fun x3 =>
 bd (gcall (x3 = true) (impl_TreeWorld_open_m a0 a1.At)) fun x4 =>
(if (x3 && x4) = true then
 bd (impl_TreeWorld_told_m a0 a1.At a1.End) fun x5 =>
 bd (impl_TreeWorld_put_r03_04_m a0 (⟨a1.At,a1.End,x5⟩:TreeWord)) fun x6 =>
 some ({ a0 with AtA:=x6.AtA,AtB:=x6.AtB,Radio:=x6.Radio })
else
 some a0)
else
(if (a1.Kind == 8) = true then
 bd (α:=List Int) ((if (!x2.2) = true then
 bd (slices_Insert_int_int_m a0.Down x2.1 ([a1.At]:List Int)) fun x10 =>
 some x10
else
 some a0.Down)) fun x7 =>
 bd (lp (σ:=List TreeBridge × List TreeSlot × List TreeSlot × Int) (β:=(Nat × Nat × Nat × (List TreeBridge) × (List TreeSlot) × (List TreeSlot))) (fun s11 =>
(if (decide (s11.2.2.2<2)) = true then
(if (s11.2.2.2 == 0) = true then
 bd (impl_TreeWorld_slot_r00_03_04_at_s1_m ({ a0 with Bridges:=s11.1,Down:=x7,AtA:=s11.2.1,AtB:=s11.2.2.1 }) a1.At s11.2.2.2) fun x16 =>
 bd (impl_TreeWorld_bridgeAt_m ({ x16.2 with Links:=a0.Links,Down:=x7,AtA:=x16.2.AtA.set x16.1 (⟨(⟨0,0,0⟩:TreeVector),0⟩:TreeSlot),Radio:=a0.Radio }) a1.At s11.2.2.2) fun x17 =>
 bd (impl_TreeWorld_rethink_r03_04_m ({ x16.2 with Links:=a0.Links,Down:=x7,AtA:=x16.2.AtA.set x16.1 (⟨(⟨0,0,0⟩:TreeVector),0⟩:TreeSlot),Radio:=a0.Radio }) x17) fun x18 =>
 some (.inl (x18.Bridges,x18.AtA,x18.AtB,IntKind.i64.wrap (s11.2.2.2+1)))
else
 bd (impl_TreeWorld_slot_r00_03_04_at_s0_m ({ a0 with Bridges:=s11.1,Down:=x7,AtA:=s11.2.1,AtB:=s11.2.2.1 }) a1.At s11.2.2.2) fun x19 =>
 bd (impl_TreeWorld_bridgeAt_m ({ x19.2 with Links:=a0.Links,Down:=x7,AtB:=x19.2.AtB.set x19.1 (⟨(⟨0,0,0⟩:TreeVector),0⟩:TreeSlot),Radio:=a0.Radio }) a1.At s11.2.2.2) fun x20 =>
 bd (impl_TreeWorld_rethink_r03_04_m ({ x19.2 with Links:=a0.Links,Down:=x7,AtB:=x19.2.AtB.set x19.1 (⟨(⟨0,0,0⟩:TreeVector),0⟩:TreeSlot),Radio:=a0.Radio }) x20) fun x21 =>
 some (.inl (x21.Bridges,x21.AtA,x21.AtB,IntKind.i64.wrap (s11.2.2.2+1))))
else
 some (.inr (s11.1.length,s11.2.1.length,s11.2.2.1.length,s11.1,s11.2.1,s11.2.2.1)))) (a0.Bridges,a0.AtA,a0.AtB,0)) fun x14 =>
 some ({ a0 with Bridges:=x14.2.2.2.1,Down:=x7,AtA:=x14.2.2.2.2.1,AtB:=x14.2.2.2.2.2 })
else
(if (a1.Kind == 9) = true then
(if x2.2 = true then
 bd (slices_Delete_int_int_m a0.Down x2.1 (IntKind.i64.wrap (x2.1+1))) fun x23 =>
 some ({ a0 with Down:=x23 })
else
 some a0)
else
 some a0))))
theorem impl_TreeWorld_onLink_c {a0:TreeWorld} {a1:TreeEvent} {r:TreeWorld} (h:impl_TreeWorld_onLink_m a0 a1 = some r):EffC Try.prog 49 [.ref 9000 0 0,.agg [.d (.int .i64 a1.Kind),.d (.int .i64 a1.At),.d (.int .i64 a1.End)]] [(9000,.box 29 [.osl 9001 0 a0.Bridges.length,.d (slD TreeLink.enc a0.Links),.osl 9002 0 a0.Down.length,.osl 9003 0 a0.AtA.length,.osl 9004 0 a0.AtB.length,.osl 9005 0 a0.Radio.length]),(9001,.arr 43 6 a0.Bridges.length (rows TreeBridge.enc a0.Bridges)),(9002,.arr 3 1 a0.Down.length (rows encInt a0.Down)),(9003,.arr 107 4 a0.AtA.length (rows TreeSlot.enc a0.AtA)),(9004,.arr 107 4 a0.AtB.length (rows TreeSlot.enc a0.AtB)),(9005,.arr 76 5 a0.Radio.length (rows TreeWord.enc a0.Radio))] (.tup []) [(9000,.box 29 [.d (slD TreeBridge.enc r.Bridges),.d (slD TreeLink.enc a0.Links),.d (slD encInt r.Down),.d (slD TreeSlot.enc r.AtA),.d (slD TreeSlot.enc r.AtB),.d (slD TreeWord.enc r.Radio)])]:=by
  refine effC_x tOk (fn:=Try.f49) (c:=codeOf Try.f49) rfl rfl ?_;unfold impl_TreeWorld_onLink_m at h;(conv=>whnf);refine seq_in tOk ?_;(conv=>whnf);obtain ⟨x1,hx1,h⟩:=bd_some h;refine cC 0 (impl_TreeWorld_isLink_c hx1) ?_;clear hx1;(conv=>whnf);refine andI h (fun _ h=>?_) (fun _ h=>?_)
  · (conv=>whnf);obtain rfl:=Option.some.inj h;exact lfE [.f [9001,9002,9003,9004,9005]]
  · (conv=>whnf);obtain ⟨x2,hx2,h⟩:=bd_some h;refine draw_u tOk [.u 6 0 (.tup [.d (.int .i64 x2.1),.d (.bool x2.2)]) []] 12 [] [0,1,3,7,0,16,63,127,255,255,511,2047] [] ?_;(conv=>whnf);refine And.intro (callD_any (slices_BinarySearch_int_int_c hx2) (by kernel_rfl)) ?_;(conv=>whnf);refine And.intro (by kernel_rfl) ?_;(conv=>whnf);refine andI h (fun _ h=>?_) (fun _ h=>?_)
    · (conv=>whnf);obtain ⟨x3,hx3,h⟩:=bd_some h;refine cC 0 (impl_within_c hx3) ?_;clear hx3;(conv=>whnf);obtain ⟨x4,hx4,h⟩:=bd_some h;refine callG_m rfl rfl rfl rfl rfl rfl (by intro c0; exact impl_TreeWorld_open_c (gcall_some hx4 c0)) ?_;(conv=>whnf);refine andI h (fun _ h=>?_) (fun _ h=>?_)
      · (conv=>whnf);obtain ⟨x5,hx5,h⟩:=bd_some h;obtain ⟨x6,hx6,h⟩:=bd_some h;refine drawFz [9001,9002] ?_;(conv=>whnf);refine draw_t tOk [.r 10 [(9000,.box 29 [.d (slD TreeBridge.enc a0.Bridges),.d (slD TreeLink.enc a0.Links),.d (slD encInt a0.Down),.osl 9003 0 a0.AtA.length,.osl 9004 0 a0.AtB.length,.osl 9005 0 a0.Radio.length]),(9003,.arr 107 4 a0.AtA.length (rows TreeSlot.enc a0.AtA)),(9004,.arr 107 4 a0.AtB.length (rows TreeSlot.enc a0.AtB)),(9005,.arr 76 5 a0.Radio.length (rows TreeWord.enc a0.Radio))] (.agg [.d (.int .i64 x5.Root),.d (.int .i64 x5.Cost),.d (.int .i64 x5.Age)]) [],.e 12 [(9000,.box 29 [.d (slD TreeBridge.enc a0.Bridges),.d (slD TreeLink.enc a0.Links),.d (slD encInt a0.Down),.osl 9003 0 a0.AtA.length,.osl 9004 0 a0.AtB.length,.osl 9005 0 a0.Radio.length]),(9003,.arr 107 4 a0.AtA.length (rows TreeSlot.enc a0.AtA)),(9004,.arr 107 4 a0.AtB.length (rows TreeSlot.enc a0.AtB)),(9005,.arr 76 5 a0.Radio.length (rows TreeWord.enc a0.Radio))] (.tup []) [] [(6001,.arr 107 4 x6.AtA.length (rows TreeSlot.enc x6.AtA)),(6002,.arr 107 4 x6.AtB.length (rows TreeSlot.enc x6.AtB)),(6003,.arr 76 5 x6.Radio.length (rows TreeWord.enc x6.Radio)),(9000,.box 29 [.d (slD TreeBridge.enc a0.Bridges),.d (slD TreeLink.enc a0.Links),.d (slD encInt a0.Down),.osl 6001 0 x6.AtA.length,.osl 6002 0 x6.AtB.length,.osl 6003 0 x6.Radio.length])]] 13 [] [0,0,2,0,8,0,0,64,0,256,992,2046,4095] [] [9000,9003,9004,9005] ?_;(conv=>whnf);refine And.intro (eD [(9000,9000),(9003,9003),(9004,9004),(9005,9005)] 0 ((impl_TreeWorld_told_c hx5).effV (args:=[.ref 9000 0 0,.d (.int .i64 a1.At),.d (.int .i64 a1.End)]) (bs:=[(9000,.box 29 [.d (slD TreeBridge.enc a0.Bridges),.d (slD TreeLink.enc a0.Links),.d (slD encInt a0.Down),.osl 9003 0 a0.AtA.length,.osl 9004 0 a0.AtB.length,.osl 9005 0 a0.Radio.length]),(9003,.arr 107 4 a0.AtA.length (rows TreeSlot.enc a0.AtA)),(9004,.arr 107 4 a0.AtB.length (rows TreeSlot.enc a0.AtB)),(9005,.arr 76 5 a0.Radio.length (rows TreeWord.enc a0.Radio))]) rfl (by kernel_rfl) rfl rfl rfl)) ?_;(conv=>whnf);refine And.intro (eH [(9000,9000),(9001,9003),(9002,9004),(9003,9005)] 1000 (impl_TreeWorld_put_r03_04_c hx6)) ?_;(conv=>whnf);refine And.intro (by kernel_rfl) ?_;(conv=>whnf);obtain rfl:=Option.some.inj h;exact lfE [.f [6001,6002,6003]]
      · (conv=>whnf);obtain rfl:=Option.some.inj h;exact lfE [.f [9001,9002,9003,9004,9005]]
    · (conv=>whnf);refine andI h (fun _ h=>?_) (fun _ h=>?_)
      · (conv=>whnf);obtain ⟨x7,hx7,h⟩:=bd_some h;refine seq_join tOk (fun s8=>⟨0,96,[(0,.ref 9000 0 0),(3,.ref 3 0 0)],[],[(6001,.arr 3 1 s8.length (rows encInt s8)),(3,.box 53 [.d (.int .i64 a1.Kind),.d (.int .i64 a1.At),.d (.int .i64 a1.End)]),(9000,.box 29 [.osl 9001 0 a0.Bridges.length,.d (slD TreeLink.enc a0.Links),.osl 6001 0 s8.length,.osl 9003 0 a0.AtA.length,.osl 9004 0 a0.AtB.length,.osl 9005 0 a0.Radio.length]),(9001,.arr 43 6 a0.Bridges.length (rows TreeBridge.enc a0.Bridges)),(9003,.arr 107 4 a0.AtA.length (rows TreeSlot.enc a0.AtA)),(9004,.arr 107 4 a0.AtB.length (rows TreeSlot.enc a0.AtB)),(9005,.arr 76 5 a0.Radio.length (rows TreeWord.enc a0.Radio))],[⟨[(0,.ref 9000 0 0)],[]⟩]⟩) (fun s8=>x7 = s8) ?_ ?_
        · (conv=>whnf);refine andI hx7 (fun _ hx7=>?_) (fun _ hx7=>?_)
          · (conv=>whnf);obtain ⟨x10,hx10,hx7⟩:=bd_some hx7;refine draw_t tOk [.a 8 [] (.osl 60 0 (([a1.At]:List Int).length)) [(60,.arr 3 1 (([a1.At]:List Int).length) (rows encInt ([a1.At]:List Int)))],.e 9 [(9002,.arr 3 1 a0.Down.length (rows encInt a0.Down)),(60,.arr 3 1 (([a1.At]:List Int).length) (rows encInt ([a1.At]:List Int)))] (.osl 6001 0 x10.length) [(6001,.arr 3 1 x10.length (rows encInt x10))] []] 12 [] [0,0,2,6,14,0,0,64,192,510,1023,2047] [4095] [9002] ?_;(conv=>whnf);refine And.intro (by (conv=>whnf); exact bldS (enc:=encInt) ([a1.At]:List Int) ⟨rfl,rfl⟩) ?_;(conv=>whnf);refine And.intro (eD [(9000,9002),(9001,60)] 1000 (slices_Insert_int_int_c hx10)) ?_;(conv=>whnf);refine And.intro (by kernel_rfl) ?_;(conv=>whnf);obtain rfl:=Option.some.inj hx7;exact ⟨_,rfl,leX []⟩
          · (conv=>whnf);obtain rfl:=Option.some.inj hx7;exact ⟨_,rfl,leX [.s [(6001,9002),(9002,6001)]]⟩
        · rintro _ rfl;(conv=>whnf);obtain ⟨x14,hx14,h⟩:=bd_some h;refine loop_m tOk hx14 (fun s11=>⟨0,96,[(0,.ref 9000 0 0),(3,.ref 3 0 0),(64,.d (.int .i64 s11.2.2.2))],[],[(3,.box 53 [.d (.int .i64 a1.Kind),.d (.int .i64 a1.At),.d (.int .i64 a1.End)]),(9000,.box 29 [.osl 9001 0 s11.1.length,.d (slD TreeLink.enc a0.Links),.d (slD encInt x7),.osl 9003 0 s11.2.1.length,.osl 9004 0 s11.2.2.1.length,.d (slD TreeWord.enc a0.Radio)]),(9001,.arr 43 6 s11.1.length (rows TreeBridge.enc s11.1)),(9003,.arr 107 4 s11.2.1.length (rows TreeSlot.enc s11.2.1)),(9004,.arr 107 4 s11.2.2.1.length (rows TreeSlot.enc s11.2.2.1))],[⟨[(0,.ref 9000 0 0)],[]⟩]⟩) ?_ ?_
          · exact leX [.f [6001,9005]]
          · clear hx14;intro s11 y12 g13 hy12;(conv=>whnf);refine seq_in tOk ?_;(conv=>whnf);refine andI g13 (fun _ g13=>?_) (fun _ g13=>?_)
            · (conv=>whnf);refine seq_in tOk ?_;(conv=>whnf);refine spI g13 (fun e15 g13=>?_) (fun e15 g13=>?_)
              · obtain ⟨x16,hx16,g13⟩:=bd_some g13;refine cE [(9000,9000),(9001,9001),(9002,9003),(9003,9004)] 1000 (impl_TreeWorld_slot_r00_03_04_at_s1_c e15 hx16) ?_;(conv=>whnf);refine ⟨rows TreeSlot.enc (x16.2.AtA.set x16.1 (⟨(⟨0,0,0⟩:TreeVector),0⟩:TreeSlot)),store_rows' lenA rfl,?_⟩;(conv=>whnf);obtain ⟨x17,hx17,g13⟩:=bd_some g13;refine callW 0 (impl_TreeWorld_bridgeAt_c hx17) rfl argA rfl ?_;(conv=>whnf);obtain ⟨x18,hx18,g13⟩:=bd_some g13;refine cE [(9000,9000),(9001,6001),(9002,6002),(9003,6003)] 2000 (impl_TreeWorld_rethink_r03_04_c hx18) ?_;(conv=>whnf);obtain rfl:=Option.some.inj g13;exact ⟨_,rfl,leX [.s [(7001,9001),(7002,9003),(7003,9004),(9001,7001),(9003,7002),(9004,7003)]]⟩
              · obtain ⟨x19,hx19,g13⟩:=bd_some g13;refine cE [(9000,9000),(9001,9001),(9002,9003),(9003,9004)] 1000 (impl_TreeWorld_slot_r00_03_04_at_s0_c e15 hx19) ?_;(conv=>whnf);refine ⟨rows TreeSlot.enc (x19.2.AtB.set x19.1 (⟨(⟨0,0,0⟩:TreeVector),0⟩:TreeSlot)),store_rows' lenA rfl,?_⟩;(conv=>whnf);obtain ⟨x20,hx20,g13⟩:=bd_some g13;refine callW 0 (impl_TreeWorld_bridgeAt_c hx20) rfl argA rfl ?_;(conv=>whnf);obtain ⟨x21,hx21,g13⟩:=bd_some g13;refine cE [(9000,9000),(9001,6001),(9002,6002),(9003,6003)] 2000 (impl_TreeWorld_rethink_r03_04_c hx21) ?_;(conv=>whnf);obtain rfl:=Option.some.inj g13;exact ⟨_,rfl,leX [.s [(7001,9001),(7002,9003),(7003,9004),(9001,7001),(9003,7002),(9004,7003)]]⟩
            · (conv=>whnf);obtain rfl:=Option.some.inj g13;obtain rfl:=hy12 _ rfl;obtain rfl:=Option.some.inj h;exact lfE [.f [9001,9003,9004]]
      · (conv=>whnf);refine andI h (fun _ h=>?_) (fun _ h=>?_)
        · (conv=>whnf);refine andI h (fun _ h=>?_) (fun _ h=>?_)
          · (conv=>whnf);obtain ⟨x23,hx23,h⟩:=bd_some h;refine cE [(9000,9002)] 1000 (slices_Delete_int_int_c hx23) ?_;(conv=>whnf);obtain rfl:=Option.some.inj h;exact lfE [.f [6001,9001,9003,9004,9005]]
          · (conv=>whnf);obtain rfl:=Option.some.inj h;exact lfE [.f [9001,9002,9003,9004,9005]]
        · (conv=>whnf);obtain rfl:=Option.some.inj h;exact lfE [.f [9001,9002,9003,9004,9005]]
noncomputable def impl_TreeStep_m (a0:TreeWorld) (a1:TreeEvent):Option (TreeWorld) :=
 bd (impl_TreeWorldOk_m a0) fun x1 =>
(if (!x1) = true then
 some (⟨[],[],[],[],[],[]⟩:TreeWorld)
else
 bd (impl_copyTree_m a0) fun x2 =>
 bd (α:=Bool) ((if (a1.Kind == 2) = true then
 some (a1.Kind == 2)
else
(if (a1.Kind == 3) = true then
 some (a1.Kind == 3)
else
 some (a1.Kind == 4)))) fun x3 =>
(if x3 = true then
 bd (impl_TreeWorld_onWord_m x2 a1.Kind a1.At) fun x6 =>
 some ({ x6 with Links:=x2.Links,Down:=x2.Down })
else
(if (a1.Kind == 5) = true then
 bd (impl_TreeWorld_tick_m x2) fun x7 =>
 some ({ x7 with Links:=x2.Links,Down:=x2.Down,Radio:=x2.Radio })
else
 bd (α:=Bool) ((if (a1.Kind == 6) = true then
 some (a1.Kind == 6)
else
 some (a1.Kind == 7))) fun x8 =>
(if x8 = true then
 bd (impl_TreeWorld_onBridge_m x2 a1.Kind a1.At) fun x11 =>
 some ({ x11 with Links:=x2.Links,Down:=x2.Down,Radio:=x2.Radio })
else
 bd (impl_TreeWorld_onLink_m x2 a1) fun x12 =>
 some ({ x12 with Links:=x2.Links })))))
theorem impl_TreeStep_c {a0:TreeWorld} {a1:TreeEvent} {r:TreeWorld} (h:impl_TreeStep_m a0 a1 = some r):EffC Try.prog 19 [.agg [.d (slD TreeBridge.enc a0.Bridges),.d (slD TreeLink.enc a0.Links),.d (slD encInt a0.Down),.d (slD TreeSlot.enc a0.AtA),.d (slD TreeSlot.enc a0.AtB),.d (slD TreeWord.enc a0.Radio)],.agg [.d (.int .i64 a1.Kind),.d (.int .i64 a1.At),.d (.int .i64 a1.End)]] [] (.agg [.d (slD TreeBridge.enc r.Bridges),.d (slD TreeLink.enc r.Links),.d (slD encInt r.Down),.d (slD TreeSlot.enc r.AtA),.d (slD TreeSlot.enc r.AtB),.d (slD TreeWord.enc r.Radio)]) []:=by
  refine effC_x tOk (fn:=Try.f19) (c:=codeOf Try.f19) rfl rfl ?_;unfold impl_TreeStep_m at h;(conv=>whnf);refine seq_in tOk ?_;(conv=>whnf);obtain ⟨x1,hx1,h⟩:=bd_some h;refine cC 0 (impl_TreeWorldOk_c hx1) ?_;clear hx1;(conv=>whnf);refine andI h (fun _ h=>?_) (fun _ h=>?_)
  · (conv=>whnf);obtain rfl:=Option.some.inj h;exact lfE []
  · (conv=>whnf);obtain ⟨x2,hx2,h⟩:=bd_some h;refine cC 1000 (impl_copyTree_c hx2) ?_;clear hx2;(conv=>whnf);refine seq_in tOk ?_;(conv=>whnf);obtain ⟨x3,hx3,h⟩:=bd_some h;refine seq_join tOk (fun s4=>⟨0,37,[(3,.ref 3 0 0),(4,.ref 4 0 0),(5,.ref 5 0 0),(13,.d (.int .i64 a1.Kind)),(16,.d (.bool s4))],[],[(5,.box 29 [.osl 6001 0 x2.Bridges.length,.osl 6002 0 x2.Links.length,.osl 6003 0 x2.Down.length,.osl 6004 0 x2.AtA.length,.osl 6005 0 x2.AtB.length,.osl 6006 0 x2.Radio.length]),(6006,.arr 76 5 x2.Radio.length (rows TreeWord.enc x2.Radio)),(6005,.arr 107 4 x2.AtB.length (rows TreeSlot.enc x2.AtB)),(6004,.arr 107 4 x2.AtA.length (rows TreeSlot.enc x2.AtA)),(6003,.arr 3 1 x2.Down.length (rows encInt x2.Down)),(6002,.arr 46 3 x2.Links.length (rows TreeLink.enc x2.Links)),(6001,.arr 43 6 x2.Bridges.length (rows TreeBridge.enc x2.Bridges)),(4,.box 29 [.d (.nil),.d (.nil),.d (.nil),.d (.nil),.d (.nil),.d (.nil)]),(3,.box 53 [.d (.int .i64 a1.Kind),.d (.int .i64 a1.At),.d (.int .i64 a1.End)])],[⟨[],[]⟩]⟩) (fun s4=>x3 = s4) ?_ ?_
    · (conv=>whnf);refine andI hx3 (fun _ hx3=>?_) (fun _ hx3=>?_)
      · (conv=>whnf);obtain rfl:=Option.some.inj hx3;exact ⟨_,rfl,leX []⟩
      · (conv=>whnf);refine andI hx3 (fun _ hx3=>?_) (fun _ hx3=>?_)
        · (conv=>whnf);obtain rfl:=Option.some.inj hx3;exact ⟨_,rfl,leX []⟩
        · (conv=>whnf);obtain rfl:=Option.some.inj hx3;exact ⟨_,rfl,leX []⟩
    · rintro _ rfl;(conv=>whnf);refine andI h (fun _ h=>?_) (fun _ h=>?_)
      · (conv=>whnf);obtain ⟨x6,hx6,h⟩:=bd_some h;refine callFz [6002,6003] ?_;(conv=>whnf);refine cE [(9000,5),(9001,6001),(9002,6004),(9003,6005),(9004,6006)] 0 (impl_TreeWorld_onWord_c hx6) ?_;(conv=>whnf);obtain rfl:=Option.some.inj h;exact lfE []
      · (conv=>whnf);refine andI h (fun _ h=>?_) (fun _ h=>?_)
        · (conv=>whnf);obtain ⟨x7,hx7,h⟩:=bd_some h;refine callFz [6002,6003,6006] ?_;(conv=>whnf);refine cE [(9000,5),(9001,6001),(9002,6004),(9003,6005)] 2000 (impl_TreeWorld_tick_c hx7) ?_;(conv=>whnf);obtain rfl:=Option.some.inj h;exact lfE [.f [7001,7002]]
        · (conv=>whnf);obtain ⟨x8,hx8,h⟩:=bd_some h;refine seq_join tOk (fun s9=>⟨0,37,[(3,.ref 3 0 0),(4,.ref 4 0 0),(5,.ref 5 0 0),(28,.d (.bool s9))],[],[(5,.box 29 [.osl 6001 0 x2.Bridges.length,.osl 6002 0 x2.Links.length,.osl 6003 0 x2.Down.length,.osl 6004 0 x2.AtA.length,.osl 6005 0 x2.AtB.length,.osl 6006 0 x2.Radio.length]),(6006,.arr 76 5 x2.Radio.length (rows TreeWord.enc x2.Radio)),(6005,.arr 107 4 x2.AtB.length (rows TreeSlot.enc x2.AtB)),(6004,.arr 107 4 x2.AtA.length (rows TreeSlot.enc x2.AtA)),(6003,.arr 3 1 x2.Down.length (rows encInt x2.Down)),(6002,.arr 46 3 x2.Links.length (rows TreeLink.enc x2.Links)),(6001,.arr 43 6 x2.Bridges.length (rows TreeBridge.enc x2.Bridges)),(4,.box 29 [.d (.nil),.d (.nil),.d (.nil),.d (.nil),.d (.nil),.d (.nil)]),(3,.box 53 [.d (.int .i64 a1.Kind),.d (.int .i64 a1.At),.d (.int .i64 a1.End)])],[⟨[],[]⟩]⟩) (fun s9=>x8 = s9) ?_ ?_
          · (conv=>whnf);refine andI hx8 (fun _ hx8=>?_) (fun _ hx8=>?_)
            · (conv=>whnf);obtain rfl:=Option.some.inj hx8;exact ⟨_,rfl,leX []⟩
            · (conv=>whnf);obtain rfl:=Option.some.inj hx8;exact ⟨_,rfl,leX []⟩
          · rintro _ rfl;(conv=>whnf);refine andI h (fun _ h=>?_) (fun _ h=>?_)
            · (conv=>whnf);obtain ⟨x11,hx11,h⟩:=bd_some h;refine callFz [6002,6003,6006] ?_;(conv=>whnf);refine cE [(9000,5),(9001,6001),(9002,6004),(9003,6005)] 2000 (impl_TreeWorld_onBridge_c hx11) ?_;(conv=>whnf);obtain rfl:=Option.some.inj h;exact lfE [.f [7001,7002]]
            · (conv=>whnf);obtain ⟨x12,hx12,h⟩:=bd_some h;refine callFz [6002] ?_;(conv=>whnf);refine cE [(9000,5),(9001,6001),(9002,6003),(9003,6004),(9004,6005),(9005,6006)] 0 (impl_TreeWorld_onLink_c hx12) ?_;(conv=>whnf);obtain rfl:=Option.some.inj h;exact lfE []
noncomputable def laws_wtInts_m (a0:(List Int)) (a1:(List Int)):Option (Bool) :=
(if (((a0.length:Nat):Int) != ((a1.length:Nat):Int)) = true then
 some false
else
 bd (lp (σ:=Int) (β:=(Unit ⊕ Unit)) (fun s1 =>
(if (decide (s1<((a0.length:Nat):Int))) = true then
 gd ((0:Int)≤s1∧s1<((a0.length:Nat):Int)) <|
 gd ((0:Int)≤s1∧s1<((a1.length:Nat):Int)) <|
(if ((a0.getD s1.toNat default) != (a1.getD s1.toNat default)) = true then
 some (.inr (.inl ()))
else
 some (.inl (IntKind.i64.wrap (s1+1))))
else
 some (.inr (.inr ())))) 0) fun x4 =>
(match x4 with
| .inl d7 =>
 some false
| .inr d8 =>
 some true))
theorem laws_wtInts_c {a0:(List Int)} {a1:(List Int)} {r:Bool} (h:laws_wtInts_m a0 a1 = some r):PureC Try.prog 29 [.d (slD encInt a0),.d (slD encInt a1)] (.d (.bool r)) []:=by
  refine pureC_x tOk (fn:=Try.f29) (c:=codeOf Try.f29) rfl rfl ?_;unfold laws_wtInts_m at h;(conv=>whnf);refine seq_in tOk ?_;(conv=>whnf);refine andI h (fun _ h=>?_) (fun _ h=>?_)
  · (conv=>whnf);obtain rfl:=Option.some.inj h;exact lfP []
  · (conv=>whnf);refine seq_in tOk ?_;(conv=>whnf);obtain ⟨x4,hx4,h⟩:=bd_some h;refine loop_m tOk hx4 (fun s1=>⟨0,26,[(0,.d (slD encInt a0)),(1,.d (slD encInt a1)),(5,.d (.int .i64 s1))],[],[],[]⟩) ?_ ?_
    · exact leX []
    · clear hx4;intro s1 y2 g3 hy2;(conv=>whnf);refine seq_in tOk ?_;(conv=>whnf);refine andI g3 (fun _ g3=>?_) (fun _ g3=>?_)
      · (conv=>whnf);refine seq_in tOk ?_;(conv=>whnf);obtain ⟨g5,g3⟩:=gd_some g3;obtain ⟨g6,g3⟩:=gd_some g3;refine draw_u tOk [] 9 [] [0,0,3,7,0,0,48,112,255] [] ?_;(conv=>whnf);refine And.intro g5 ?_;clear g5;(conv=>whnf);refine And.intro g6 ?_;clear g6;(conv=>whnf);refine And.intro (by kernel_rfl) ?_;(conv=>whnf);refine andI g3 (fun _ g3=>?_) (fun _ g3=>?_)
        · (conv=>whnf);obtain rfl:=Option.some.inj g3;obtain rfl:=hy2 _ rfl;obtain rfl:=Option.some.inj h;exact lfP []
        · (conv=>whnf);obtain rfl:=Option.some.inj g3;exact ⟨_,rfl,leX []⟩
      · (conv=>whnf);obtain rfl:=Option.some.inj g3;obtain rfl:=hy2 _ rfl;obtain rfl:=Option.some.inj h;exact lfP []
noncomputable def laws_wtSlots_m (a0:(List TreeSlot)) (a1:(List TreeSlot)):Option (Bool) :=
(if (((a0.length:Nat):Int) != ((a1.length:Nat):Int)) = true then
 some false
else
 bd (lp (σ:=Int) (β:=(Unit ⊕ Unit)) (fun s1 =>
(if (decide (s1<((a0.length:Nat):Int))) = true then
 gd ((0:Int)≤s1∧s1<((a0.length:Nat):Int)) <|
 gd ((0:Int)≤s1∧s1<((a1.length:Nat):Int)) <|
(if (!((((((a0.getD s1.toNat default).Vector).Root) == (((a1.getD s1.toNat default).Vector).Root)) && (((((a0.getD s1.toNat default).Vector).Cost) == (((a1.getD s1.toNat default).Vector).Cost)) && (((((a0.getD s1.toNat default).Vector).Age) == (((a1.getD s1.toNat default).Vector).Age)) && true))) && ((((a0.getD s1.toNat default).Left) == ((a1.getD s1.toNat default).Left)) && true))) = true then
 some (.inr (.inl ()))
else
 some (.inl (IntKind.i64.wrap (s1+1))))
else
 some (.inr (.inr ())))) 0) fun x4 =>
(match x4 with
| .inl d7 =>
 some false
| .inr d8 =>
 some true))
theorem laws_wtSlots_c {a0:(List TreeSlot)} {a1:(List TreeSlot)} {r:Bool} (h:laws_wtSlots_m a0 a1 = some r):PureC Try.prog 50 [.d (slD TreeSlot.enc a0),.d (slD TreeSlot.enc a1)] (.d (.bool r)) []:=by
  refine pureC_x tOk (fn:=Try.f50) (c:=codeOf Try.f50) rfl rfl ?_;unfold laws_wtSlots_m at h;(conv=>whnf);refine seq_in tOk ?_;(conv=>whnf);refine andI h (fun _ h=>?_) (fun _ h=>?_)
  · (conv=>whnf);obtain rfl:=Option.some.inj h;exact lfP []
  · (conv=>whnf);refine seq_in tOk ?_;(conv=>whnf);obtain ⟨x4,hx4,h⟩:=bd_some h;refine loop_m tOk hx4 (fun s1=>⟨0,26,[(0,.d (slD TreeSlot.enc a0)),(1,.d (slD TreeSlot.enc a1)),(5,.d (.int .i64 s1))],[],[],[]⟩) ?_ ?_
    · exact leX []
    · clear hx4;intro s1 y2 g3 hy2;(conv=>whnf);refine seq_in tOk ?_;(conv=>whnf);refine andI g3 (fun _ g3=>?_) (fun _ g3=>?_)
      · (conv=>whnf);refine seq_in tOk ?_;(conv=>whnf);obtain ⟨g5,g3⟩:=gd_some g3;obtain ⟨g6,g3⟩:=gd_some g3;refine draw_u tOk [] 9 [] [0,0,3,7,0,0,48,112,255] [] ?_;(conv=>whnf);refine And.intro g5 ?_;clear g5;(conv=>whnf);refine And.intro g6 ?_;clear g6;(conv=>whnf);refine And.intro (by kernel_rfl) ?_;(conv=>whnf);refine andI g3 (fun _ g3=>?_) (fun _ g3=>?_)
        · (conv=>whnf);obtain rfl:=Option.some.inj g3;obtain rfl:=hy2 _ rfl;obtain rfl:=Option.some.inj h;exact lfP []
        · (conv=>whnf);obtain rfl:=Option.some.inj g3;exact ⟨_,rfl,leX []⟩
      · (conv=>whnf);obtain rfl:=Option.some.inj g3;obtain rfl:=hy2 _ rfl;obtain rfl:=Option.some.inj h;exact lfP []
noncomputable def laws_wtWorld_m (a0:TreeWorld) (a1:TreeWorld):Option (Bool) :=
 bd (gcall (((((a0.Bridges.length:Nat):Int) != ((a1.Bridges.length:Nat):Int)) || (((a0.Links.length:Nat):Int) != ((a1.Links.length:Nat):Int))) = false) (laws_wtInts_m a0.Down a1.Down)) fun x1 =>
 bd (gcall ((((((a0.Bridges.length:Nat):Int) != ((a1.Bridges.length:Nat):Int)) || (((a0.Links.length:Nat):Int) != ((a1.Links.length:Nat):Int))) || (!x1)) = false) (laws_wtSlots_m a0.AtA a1.AtA)) fun x2 =>
 bd (gcall (((((((a0.Bridges.length:Nat):Int) != ((a1.Bridges.length:Nat):Int)) || (((a0.Links.length:Nat):Int) != ((a1.Links.length:Nat):Int))) || (!x1)) || (!x2)) = false) (laws_wtSlots_m a0.AtB a1.AtB)) fun x3 =>
(if ((((((((a0.Bridges.length:Nat):Int) != ((a1.Bridges.length:Nat):Int)) || (((a0.Links.length:Nat):Int) != ((a1.Links.length:Nat):Int))) || (!x1)) || (!x2)) || (!x3)) || (((a0.Radio.length:Nat):Int) != ((a1.Radio.length:Nat):Int))) = true then
 some false
else
 bd (lp (σ:=Int) (β:=(Unit ⊕ Unit)) (fun s4 =>
(if (decide (s4<((a0.Bridges.length:Nat):Int))) = true then
 gd ((0:Int)≤s4∧s4<((a0.Bridges.length:Nat):Int)) <|
 gd ((0:Int)≤s4∧s4<((a1.Bridges.length:Nat):Int)) <|
(if (!((((a0.Bridges.getD s4.toNat default).Id) == ((a1.Bridges.getD s4.toNat default).Id)) && ((((a0.Bridges.getD s4.toNat default).Up) == ((a1.Bridges.getD s4.toNat default).Up)) && ((((((((a0.Bridges.getD s4.toNat default).Mind).Vector).Root) == ((((a1.Bridges.getD s4.toNat default).Mind).Vector).Root)) && ((((((a0.Bridges.getD s4.toNat default).Mind).Vector).Cost) == ((((a1.Bridges.getD s4.toNat default).Mind).Vector).Cost)) && ((((((a0.Bridges.getD s4.toNat default).Mind).Vector).Age) == ((((a1.Bridges.getD s4.toNat default).Mind).Vector).Age)) && true))) && (((((a0.Bridges.getD s4.toNat default).Mind).Link) == (((a1.Bridges.getD s4.toNat default).Mind).Link)) && true)) && true)))) = true then
 some (.inr (.inl ()))
else
 some (.inl (IntKind.i64.wrap (s4+1))))
else
 some (.inr (.inr ())))) 0) fun x7 =>
(match x7 with
| .inl d10 =>
 some false
| .inr d11 =>
 bd (lp (σ:=Int) (β:=(Unit ⊕ Unit)) (fun s12 =>
(if (decide (s12<((a0.Links.length:Nat):Int))) = true then
 gd ((0:Int)≤s12∧s12<((a0.Links.length:Nat):Int)) <|
 gd ((0:Int)≤s12∧s12<((a1.Links.length:Nat):Int)) <|
(if (!((((a0.Links.getD s12.toNat default).A) == ((a1.Links.getD s12.toNat default).A)) && ((((a0.Links.getD s12.toNat default).B) == ((a1.Links.getD s12.toNat default).B)) && ((((a0.Links.getD s12.toNat default).Cost) == ((a1.Links.getD s12.toNat default).Cost)) && true)))) = true then
 some (.inr (.inl ()))
else
 some (.inl (IntKind.i64.wrap (s12+1))))
else
 some (.inr (.inr ())))) 0) fun x15 =>
(match x15 with
| .inl d18 =>
 some false
| .inr d19 =>
 bd (lp (σ:=Int) (β:=(Unit ⊕ Unit)) (fun s20 =>
(if (decide (s20<((a0.Radio.length:Nat):Int))) = true then
 gd ((0:Int)≤s20∧s20<((a0.Radio.length:Nat):Int)) <|
 gd ((0:Int)≤s20∧s20<((a1.Radio.length:Nat):Int)) <|
(if (!((((a0.Radio.getD s20.toNat default).Link) == ((a1.Radio.getD s20.toNat default).Link)) && ((((a0.Radio.getD s20.toNat default).End) == ((a1.Radio.getD s20.toNat default).End)) && ((((((a0.Radio.getD s20.toNat default).Vector).Root) == (((a1.Radio.getD s20.toNat default).Vector).Root)) && (((((a0.Radio.getD s20.toNat default).Vector).Cost) == (((a1.Radio.getD s20.toNat default).Vector).Cost)) && (((((a0.Radio.getD s20.toNat default).Vector).Age) == (((a1.Radio.getD s20.toNat default).Vector).Age)) && true))) && true)))) = true then
 some (.inr (.inl ()))
else
 some (.inl (IntKind.i64.wrap (s20+1))))
else
 some (.inr (.inr ())))) 0) fun x23 =>
(match x23 with
| .inl d26 =>
 some false
| .inr d27 =>
 some true))))
theorem laws_wtWorld_c {a0:TreeWorld} {a1:TreeWorld} {r:Bool} (h:laws_wtWorld_m a0 a1 = some r):PureC Try.prog 20 [.agg [.d (slD TreeBridge.enc a0.Bridges),.d (slD TreeLink.enc a0.Links),.d (slD encInt a0.Down),.d (slD TreeSlot.enc a0.AtA),.d (slD TreeSlot.enc a0.AtB),.d (slD TreeWord.enc a0.Radio)],.agg [.d (slD TreeBridge.enc a1.Bridges),.d (slD TreeLink.enc a1.Links),.d (slD encInt a1.Down),.d (slD TreeSlot.enc a1.AtA),.d (slD TreeSlot.enc a1.AtB),.d (slD TreeWord.enc a1.Radio)]] (.d (.bool r)) []:=by
  refine pureC_x tOk (fn:=Try.f20) (c:=codeOf Try.f20) rfl rfl ?_;unfold laws_wtWorld_m at h;(conv=>whnf);refine seq_in tOk ?_;(conv=>whnf);obtain ⟨x1,hx1,h⟩:=bd_some h;refine callG_m rfl rfl rfl rfl rfl rfl (by intro c0; exact laws_wtInts_c (gcall_some hx1 c0)) ?_;(conv=>whnf);obtain ⟨x2,hx2,h⟩:=bd_some h;refine callG_m rfl rfl rfl rfl rfl rfl (by intro c0; exact laws_wtSlots_c (gcall_some hx2 c0)) ?_;(conv=>whnf);obtain ⟨x3,hx3,h⟩:=bd_some h;refine callG_m rfl rfl rfl rfl rfl rfl (by intro c0; exact laws_wtSlots_c (gcall_some hx3 c0)) ?_;(conv=>whnf);refine andI h (fun _ h=>?_) (fun _ h=>?_)
  · (conv=>whnf);obtain rfl:=Option.some.inj h;exact lfP []
  · (conv=>whnf);refine seq_in tOk ?_;(conv=>whnf);obtain ⟨x7,hx7,h⟩:=bd_some h;refine loop_m tOk hx7 (fun s4=>⟨0,111,[(2,.ref 2 0 0),(3,.ref 3 0 0),(5,.d (.int .i64 s4))],[],[(3,.box 29 [.d (slD TreeBridge.enc a1.Bridges),.d (slD TreeLink.enc a1.Links),.d (slD encInt a1.Down),.d (slD TreeSlot.enc a1.AtA),.d (slD TreeSlot.enc a1.AtB),.d (slD TreeWord.enc a1.Radio)]),(2,.box 29 [.d (slD TreeBridge.enc a0.Bridges),.d (slD TreeLink.enc a0.Links),.d (slD encInt a0.Down),.d (slD TreeSlot.enc a0.AtA),.d (slD TreeSlot.enc a0.AtB),.d (slD TreeWord.enc a0.Radio)])],[]⟩) ?_ ?_
    · exact leX []
    · clear hx7;intro s4 y5 g6 hy5;(conv=>whnf);refine seq_in tOk ?_;(conv=>whnf);refine andI g6 (fun _ g6=>?_) (fun _ g6=>?_)
      · (conv=>whnf);refine seq_in tOk ?_;(conv=>whnf);obtain ⟨g8,g6⟩:=gd_some g6;obtain ⟨g9,g6⟩:=gd_some g6;refine draw_u tOk [] 11 [] [0,1,0,7,15,0,32,0,224,480,1023] [] ?_;(conv=>whnf);refine And.intro g8 ?_;clear g8;(conv=>whnf);refine And.intro g9 ?_;clear g9;(conv=>whnf);refine And.intro (by kernel_rfl) ?_;(conv=>whnf);refine andI g6 (fun _ g6=>?_) (fun _ g6=>?_)
        · (conv=>whnf);obtain rfl:=Option.some.inj g6;obtain rfl:=hy5 _ rfl;obtain rfl:=Option.some.inj h;exact lfP []
        · (conv=>whnf);obtain rfl:=Option.some.inj g6;exact ⟨_,rfl,leX []⟩
      · (conv=>whnf);obtain rfl:=Option.some.inj g6;obtain rfl:=hy5 _ rfl;refine seq_in tOk ?_;(conv=>whnf);obtain ⟨x15,hx15,h⟩:=bd_some h;refine loop_m tOk hx15 (fun s12=>⟨0,111,[(2,.ref 2 0 0),(3,.ref 3 0 0),(6,.d (.int .i64 s12))],[],[(3,.box 29 [.d (slD TreeBridge.enc a1.Bridges),.d (slD TreeLink.enc a1.Links),.d (slD encInt a1.Down),.d (slD TreeSlot.enc a1.AtA),.d (slD TreeSlot.enc a1.AtB),.d (slD TreeWord.enc a1.Radio)]),(2,.box 29 [.d (slD TreeBridge.enc a0.Bridges),.d (slD TreeLink.enc a0.Links),.d (slD encInt a0.Down),.d (slD TreeSlot.enc a0.AtA),.d (slD TreeSlot.enc a0.AtB),.d (slD TreeWord.enc a0.Radio)])],[]⟩) ?_ ?_
        · exact leX []
        · clear hx15;intro s12 y13 g14 hy13;(conv=>whnf);refine seq_in tOk ?_;(conv=>whnf);refine andI g14 (fun _ g14=>?_) (fun _ g14=>?_)
          · (conv=>whnf);refine seq_in tOk ?_;(conv=>whnf);obtain ⟨g16,g14⟩:=gd_some g14;obtain ⟨g17,g14⟩:=gd_some g14;refine draw_u tOk [] 11 [] [0,1,0,7,15,0,32,0,224,480,1023] [] ?_;(conv=>whnf);refine And.intro g16 ?_;clear g16;(conv=>whnf);refine And.intro g17 ?_;clear g17;(conv=>whnf);refine And.intro (by kernel_rfl) ?_;(conv=>whnf);refine andI g14 (fun _ g14=>?_) (fun _ g14=>?_)
            · (conv=>whnf);obtain rfl:=Option.some.inj g14;obtain rfl:=hy13 _ rfl;obtain rfl:=Option.some.inj h;exact lfP []
            · (conv=>whnf);obtain rfl:=Option.some.inj g14;exact ⟨_,rfl,leX []⟩
          · (conv=>whnf);obtain rfl:=Option.some.inj g14;obtain rfl:=hy13 _ rfl;refine seq_in tOk ?_;(conv=>whnf);obtain ⟨x23,hx23,h⟩:=bd_some h;refine loop_m tOk hx23 (fun s20=>⟨0,111,[(2,.ref 2 0 0),(3,.ref 3 0 0),(7,.d (.int .i64 s20))],[],[(3,.box 29 [.d (slD TreeBridge.enc a1.Bridges),.d (slD TreeLink.enc a1.Links),.d (slD encInt a1.Down),.d (slD TreeSlot.enc a1.AtA),.d (slD TreeSlot.enc a1.AtB),.d (slD TreeWord.enc a1.Radio)]),(2,.box 29 [.d (slD TreeBridge.enc a0.Bridges),.d (slD TreeLink.enc a0.Links),.d (slD encInt a0.Down),.d (slD TreeSlot.enc a0.AtA),.d (slD TreeSlot.enc a0.AtB),.d (slD TreeWord.enc a0.Radio)])],[]⟩) ?_ ?_
            · exact leX []
            · clear hx23;intro s20 y21 g22 hy21;(conv=>whnf);refine seq_in tOk ?_;(conv=>whnf);refine andI g22 (fun _ g22=>?_) (fun _ g22=>?_)
              · (conv=>whnf);refine seq_in tOk ?_;(conv=>whnf);obtain ⟨g24,g22⟩:=gd_some g22;obtain ⟨g25,g22⟩:=gd_some g22;refine draw_u tOk [] 11 [] [0,1,0,7,15,0,32,0,224,480,1023] [] ?_;(conv=>whnf);refine And.intro g24 ?_;clear g24;(conv=>whnf);refine And.intro g25 ?_;clear g25;(conv=>whnf);refine And.intro (by kernel_rfl) ?_;(conv=>whnf);refine andI g22 (fun _ g22=>?_) (fun _ g22=>?_)
                · (conv=>whnf);obtain rfl:=Option.some.inj g22;obtain rfl:=hy21 _ rfl;obtain rfl:=Option.some.inj h;exact lfP []
                · (conv=>whnf);obtain rfl:=Option.some.inj g22;exact ⟨_,rfl,leX []⟩
              · (conv=>whnf);obtain rfl:=Option.some.inj g22;obtain rfl:=hy21 _ rfl;obtain rfl:=Option.some.inj h;exact lfP []
noncomputable def spec_TreeThink_m (a0:TreeWorld) (a1:Int):Option (TreeMind) :=
 bd (spec_TreeWorldOk_m a0) fun x1 =>
 bd (gcall ((!x1) = false) (spec_l81In_m a1 0 (IntKind.i64.wrap (((a0.Bridges.length:Nat):Int) - 1)))) fun x2 =>
 gd (((!x1) || (!x2)) = false → ((0:Int)≤a1∧a1<((a0.Bridges.length:Nat):Int))) <|
(if (((!x1) || (!x2)) || (!((a0.Bridges.getD a1.toNat default).Up))) = true then
 some (⟨(⟨0,0,0⟩:TreeVector),0⟩:TreeMind)
else
 bd (spec_l82Think_m a0 a1) fun x4 =>
 some x4)
theorem spec_TreeThink_c {a0:TreeWorld} {a1:Int} {r:TreeMind} (h:spec_TreeThink_m a0 a1 = some r):PureC Try.prog 23 [.agg [.d (slD TreeBridge.enc a0.Bridges),.d (slD TreeLink.enc a0.Links),.d (slD encInt a0.Down),.d (slD TreeSlot.enc a0.AtA),.d (slD TreeSlot.enc a0.AtB),.d (slD TreeWord.enc a0.Radio)],.d (.int .i64 a1)] (.agg [.d (.int .i64 r.Vector.Root),.d (.int .i64 r.Vector.Cost),.d (.int .i64 r.Vector.Age),.d (.int .i64 r.Link)]) []:=by
  refine pureC_x tOk (fn:=Try.f23) (c:=codeOf Try.f23) rfl rfl ?_;unfold spec_TreeThink_m at h;(conv=>whnf);refine seq_in tOk ?_;(conv=>whnf);obtain ⟨x1,hx1,h⟩:=bd_some h;refine cC 0 (spec_TreeWorldOk_c hx1) ?_;clear hx1;(conv=>whnf);obtain ⟨x2,hx2,h⟩:=bd_some h;refine callG_m rfl rfl rfl rfl rfl rfl (by intro c0; exact spec_l81In_c (gcall_some hx2 c0)) ?_;(conv=>whnf);refine gdI h (fun h=>?_);(conv=>whnf);refine andI h (fun _ h=>?_) (fun _ h=>?_)
  · (conv=>whnf);obtain rfl:=Option.some.inj h;exact lfP []
  · (conv=>whnf);obtain ⟨x4,hx4,h⟩:=bd_some h;refine cC 0 (spec_l82Think_c hx4) ?_;clear hx4;(conv=>whnf);obtain rfl:=Option.some.inj h;exact lfP []
end Go.Proofs.Ythgcnnkjojemdaa
