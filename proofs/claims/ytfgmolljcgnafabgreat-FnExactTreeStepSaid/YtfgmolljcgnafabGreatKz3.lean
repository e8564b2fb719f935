/-
  What some of the program's functions compute: their models, and that the functions compute these; no condition.
-/
import Derived.Test.YtfgmolljcgnafabGreatTyz
import Derived.Test.YtfgmolljcgnafabGreatTbz
import Derived.Test.YtfgmolljcgnafabGreatAbz7
import Derived.Test.YtfgmolljcgnafabGreatKz2
set_option linter.all false
namespace Go.Proofs.YtfgmolljcgnafabGreat
open Go Go.Ab
set_option maxRecDepth 100000
set_option maxHeartbeats 40000000
noncomputable def impl_TreeWorld_rethink_r01_02_03_04_05_m (a0:TreeWorld) (a1:Int):Option (TreeWorld) :=
 gd ((0:Int)≤a1∧a1<((a0.Bridges.length:Nat):Int)) <|
(if (a0.Bridges.getD a1.toNat default).Up = true then
 bd (impl_TreeWorld_think_m a0 a1) fun x2 =>
 gd ((0:Int)≤a1∧a1<((a0.Bridges.length:Nat):Int)) <|
 some ({ a0 with Bridges:=a0.Bridges.set a1.toNat ({ (a0.Bridges.getD a1.toNat default) with Mind:=x2 }) })
else
 some a0)
theorem impl_TreeWorld_rethink_r01_02_03_04_05_c {a0:TreeWorld} {a1:Int} {r:TreeWorld} (h:impl_TreeWorld_rethink_r01_02_03_04_05_m a0 a1 = some r):EffC Tryz.prog 86 [.ref 9000 0 0,.d (.int .i64 a1)] [(9000,.box 29 [.osl 9001 0 a0.Bridges.length,.osl 9002 0 a0.Links.length,.osl 9003 0 a0.Down.length,.osl 9004 0 a0.AtA.length,.osl 9005 0 a0.AtB.length,.osl 9006 0 a0.Radio.length]),(9001,.arr 42 6 a0.Bridges.length (rows TreeBridge.enc a0.Bridges)),(9002,.arr 66 3 a0.Links.length (rows TreeLink.enc a0.Links)),(9003,.arr 3 1 a0.Down.length (rows encInt a0.Down)),(9004,.arr 113 4 a0.AtA.length (rows TreeSlot.enc a0.AtA)),(9005,.arr 113 4 a0.AtB.length (rows TreeSlot.enc a0.AtB)),(9006,.arr 107 5 a0.Radio.length (rows TreeWord.enc a0.Radio))] (.tup []) [(9000,.box 29 [.osl 5001 0 r.Bridges.length,.osl 5002 0 r.Links.length,.osl 5003 0 r.Down.length,.osl 5004 0 r.AtA.length,.osl 5005 0 r.AtB.length,.osl 5006 0 r.Radio.length]),(5001,.arr 42 6 r.Bridges.length (rows TreeBridge.enc r.Bridges)),(5002,.arr 66 3 r.Links.length (rows TreeLink.enc r.Links)),(5003,.arr 3 1 r.Down.length (rows encInt r.Down)),(5004,.arr 113 4 r.AtA.length (rows TreeSlot.enc r.AtA)),(5005,.arr 113 4 r.AtB.length (rows TreeSlot.enc r.AtB)),(5006,.arr 107 5 r.Radio.length (rows TreeWord.enc r.Radio))]:=by
  refine effC_x tOk (fn:=Tryz.f86) (c:=codeOf Tryz.f86) rfl rfl ?_;unfold impl_TreeWorld_rethink_r01_02_03_04_05_m at h;(conv=>whnf);refine gdI h (fun h=>?_);(conv=>whnf);refine andI h (fun _ h=>?_) (fun _ h=>?_)
  · (conv=>whnf);obtain ⟨x2,hx2,h⟩:=bd_some h;obtain ⟨g3,h⟩:=gd_some h;refine draw_u tOk [.u 7 0 (.agg [.d (.int .i64 x2.Vector.Root),.d (.int .i64 x2.Vector.Cost),.d (.int .i64 x2.Vector.Age),.d (.int .i64 x2.Link)]) []] 10 [] [0,1,3,7,0,0,0,96,255,511] [1023] ?_;(conv=>whnf);refine And.intro (callD_any (impl_TreeWorld_think_c hx2) (by kernel_rfl)) ?_;(conv=>whnf);refine And.intro g3 ?_;clear g3;(conv=>whnf);refine And.intro (by kernel_rfl) ?_;(conv=>whnf);refine ⟨rows TreeBridge.enc (a0.Bridges.set a1.toNat ({ (a0.Bridges.getD a1.toNat default) with Mind:=x2 })),store_rows' lenA rfl,?_⟩;(conv=>whnf);obtain rfl:=Option.some.inj h;exact lfE [.s [(5001,9001),(5002,9002),(5003,9003),(5004,9004),(5005,9005),(5006,9006),(9001,5001),(9002,5002),(9003,5003),(9004,5004),(9005,5005),(9006,5006)]]
  · (conv=>whnf);obtain rfl:=Option.some.inj h;exact lfE [.s [(5001,9001),(5002,9002),(5003,9003),(5004,9004),(5005,9005),(5006,9006),(9001,5001),(9002,5002),(9003,5003),(9004,5004),(9005,5005),(9006,5006)]]
noncomputable def impl_TreeWorld_slot_r00_01_02_03_04_05_at_s1_m (a0:TreeWorld) (a1:Int) (a2:Int):Option (Nat × TreeWorld) :=
 gd ((0:Int)≤a1∧a1<((a0.AtA.length:Nat):Int)) <|
 some (a1.toNat,a0)
theorem impl_TreeWorld_slot_r00_01_02_03_04_05_at_s1_c {a0:TreeWorld} {a1:Int} {a2:Int} (e:(a2 == 0) = true) {r:Nat × TreeWorld} (h:impl_TreeWorld_slot_r00_01_02_03_04_05_at_s1_m a0 a1 a2 = some r):EffC Tryz.prog 85 [.ref 9000 0 0,.d (.int .i64 a1),.d (.int .i64 a2)] [(9000,.box 29 [.osl 9001 0 a0.Bridges.length,.osl 9002 0 a0.Links.length,.osl 9003 0 a0.Down.length,.osl 9004 0 a0.AtA.length,.osl 9005 0 a0.AtB.length,.osl 9006 0 a0.Radio.length]),(9001,.arr 42 6 a0.Bridges.length (rows TreeBridge.enc a0.Bridges)),(9002,.arr 66 3 a0.Links.length (rows TreeLink.enc a0.Links)),(9003,.arr 3 1 a0.Down.length (rows encInt a0.Down)),(9004,.arr 113 4 a0.AtA.length (rows TreeSlot.enc a0.AtA)),(9005,.arr 113 4 a0.AtB.length (rows TreeSlot.enc a0.AtB)),(9006,.arr 107 5 a0.Radio.length (rows TreeWord.enc a0.Radio))] (.ref 5004 r.1 0) [(9000,.box 29 [.osl 5001 0 r.2.Bridges.length,.osl 5002 0 r.2.Links.length,.osl 5003 0 r.2.Down.length,.osl 5004 0 r.2.AtA.length,.osl 5005 0 r.2.AtB.length,.osl 5006 0 r.2.Radio.length]),(5001,.arr 42 6 r.2.Bridges.length (rows TreeBridge.enc r.2.Bridges)),(5002,.arr 66 3 r.2.Links.length (rows TreeLink.enc r.2.Links)),(5003,.arr 3 1 r.2.Down.length (rows encInt r.2.Down)),(5004,.arr 113 4 r.2.AtA.length (rows TreeSlot.enc r.2.AtA)),(5005,.arr 113 4 r.2.AtB.length (rows TreeSlot.enc r.2.AtB)),(5006,.arr 107 5 r.2.Radio.length (rows TreeWord.enc r.2.Radio))]:=by
  refine effC_x tOk (fn:=Tryz.f85) (c:=codeOf Tryz.f85) rfl rfl ?_;unfold impl_TreeWorld_slot_r00_01_02_03_04_05_at_s1_m at h;(conv=>whnf);refine seq_in tOk ?_;(conv=>whnf);refine And.intro (fun _=>?_) (fun q=>absurd (e.symm.trans q) (by decide));(conv=>whnf);refine gdI h (fun h=>?_);(conv=>whnf);obtain rfl:=Option.some.inj h;exact lfE [.s [(5001,9001),(5002,9002),(5003,9003),(5004,9004),(5005,9005),(5006,9006),(9001,5001),(9002,5002),(9003,5003),(9004,5004),(9005,5005),(9006,5006)]]
noncomputable def impl_TreeWorld_slot_r00_01_02_03_04_05_at_s0_m (a0:TreeWorld) (a1:Int) (a2:Int):Option (Nat × TreeWorld) :=
 gd ((0:Int)≤a1∧a1<((a0.AtB.length:Nat):Int)) <|
 some (a1.toNat,a0)
theorem impl_TreeWorld_slot_r00_01_02_03_04_05_at_s0_c {a0:TreeWorld} {a1:Int} {a2:Int} (e:(a2 == 0) = false) {r:Nat × TreeWorld} (h:impl_TreeWorld_slot_r00_01_02_03_04_05_at_s0_m a0 a1 a2 = some r):EffC Tryz.prog 85 [.ref 9000 0 0,.d (.int .i64 a1),.d (.int .i64 a2)] [(9000,.box 29 [.osl 9001 0 a0.Bridges.length,.osl 9002 0 a0.Links.length,.osl 9003 0 a0.Down.length,.osl 9004 0 a0.AtA.length,.osl 9005 0 a0.AtB.length,.osl 9006 0 a0.Radio.length]),(9001,.arr 42 6 a0.Bridges.length (rows TreeBridge.enc a0.Bridges)),(9002,.arr 66 3 a0.Links.length (rows TreeLink.enc a0.Links)),(9003,.arr 3 1 a0.Down.length (rows encInt a0.Down)),(9004,.arr 113 4 a0.AtA.length (rows TreeSlot.enc a0.AtA)),(9005,.arr 113 4 a0.AtB.length (rows TreeSlot.enc a0.AtB)),(9006,.arr 107 5 a0.Radio.length (rows TreeWord.enc a0.Radio))] (.ref 5005 r.1 0) [(9000,.box 29 [.osl 5001 0 r.2.Bridges.length,.osl 5002 0 r.2.Links.length,.osl 5003 0 r.2.Down.length,.osl 5004 0 r.2.AtA.length,.osl 5005 0 r.2.AtB.length,.osl 5006 0 r.2.Radio.length]),(5001,.arr 42 6 r.2.Bridges.length (rows TreeBridge.enc r.2.Bridges)),(5002,.arr 66 3 r.2.Links.length (rows TreeLink.enc r.2.Links)),(5003,.arr 3 1 r.2.Down.length (rows encInt r.2.Down)),(5004,.arr 113 4 r.2.AtA.length (rows TreeSlot.enc r.2.AtA)),(5005,.arr 113 4 r.2.AtB.length (rows TreeSlot.enc r.2.AtB)),(5006,.arr 107 5 r.2.Radio.length (rows TreeWord.enc r.2.Radio))]:=by
  refine effC_x tOk (fn:=Tryz.f85) (c:=codeOf Tryz.f85) rfl rfl ?_;unfold impl_TreeWorld_slot_r00_01_02_03_04_05_at_s0_m at h;(conv=>whnf);refine seq_in tOk ?_;(conv=>whnf);refine And.intro (fun q=>absurd (e.symm.trans q) (by decide)) (fun _=>?_);(conv=>whnf);refine gdI h (fun h=>?_);(conv=>whnf);obtain rfl:=Option.some.inj h;exact lfE [.s [(5001,9001),(5002,9002),(5003,9003),(5004,9004),(5005,9005),(5006,9006),(9001,5001),(9002,5002),(9003,5003),(9004,5004),(9005,5005),(9006,5006)]]
noncomputable def impl_TreeWorld_hear_r01_02_05_k01_02_03_04_05_m (a0:TreeWorld) (a1:Int) (a2:Int) (a3:TreeVector):Option (TreeWorld) :=
 bd (impl_TreeWorld_bridgeAt_m a0 a1 a2) fun x1 =>
 bd (impl_TreeWorld_isDown_m a0 a1) fun x2 =>
 gd (x2 = false → ((0:Int)≤x1∧x1<((a0.Bridges.length:Nat):Int))) <|
(if (x2 || (!((a0.Bridges.getD x1.toNat default).Up))) = true then
 some a0
else
(if (a2 == 0) = true then
 bd (impl_TreeWorld_slot_r00_01_02_03_04_05_at_s1_m a0 a1 a2) fun x5 =>
 bd (impl_TreeWorld_rethink_r01_02_03_04_05_m ({ x5.2 with AtA:=x5.2.AtA.set x5.1 (⟨a3,3⟩:TreeSlot) }) x1) fun x6 =>
 some x6
else
 bd (impl_TreeWorld_slot_r00_01_02_03_04_05_at_s0_m a0 a1 a2) fun x7 =>
 bd (impl_TreeWorld_rethink_r01_02_03_04_05_m ({ x7.2 with AtB:=x7.2.AtB.set x7.1 (⟨a3,3⟩:TreeSlot) }) x1) fun x8 =>
 some x8))
theorem impl_TreeWorld_hear_r01_02_05_k01_02_03_04_05_c {a0:TreeWorld} {a1:Int} {a2:Int} {a3:TreeVector} {r:TreeWorld} (h:impl_TreeWorld_hear_r01_02_05_k01_02_03_04_05_m a0 a1 a2 a3 = some r):EffC Tryz.prog 32 [.ref 9000 0 0,.d (.int .i64 a1),.d (.int .i64 a2),.agg [.d (.int .i64 a3.Root),.d (.int .i64 a3.Cost),.d (.int .i64 a3.Age)]] [(9000,.box 29 [.osl 9001 0 a0.Bridges.length,.osl 9002 0 a0.Links.length,.osl 9003 0 a0.Down.length,.osl 9004 0 a0.AtA.length,.osl 9005 0 a0.AtB.length,.osl 9006 0 a0.Radio.length]),(9001,.arr 42 6 a0.Bridges.length (rows TreeBridge.enc a0.Bridges)),(9002,.arr 66 3 a0.Links.length (rows TreeLink.enc a0.Links)),(9003,.arr 3 1 a0.Down.length (rows encInt a0.Down)),(9004,.arr 113 4 a0.AtA.length (rows TreeSlot.enc a0.AtA)),(9005,.arr 113 4 a0.AtB.length (rows TreeSlot.enc a0.AtB)),(9006,.arr 107 5 a0.Radio.length (rows TreeWord.enc a0.Radio))] (.tup []) [(9000,.box 29 [.osl 5001 0 r.Bridges.length,.osl 5002 0 r.Links.length,.osl 5003 0 r.Down.length,.osl 5004 0 r.AtA.length,.osl 5005 0 r.AtB.length,.osl 5006 0 r.Radio.length]),(5001,.arr 42 6 r.Bridges.length (rows TreeBridge.enc r.Bridges)),(5002,.arr 66 3 r.Links.length (rows TreeLink.enc r.Links)),(5003,.arr 3 1 r.Down.length (rows encInt r.Down)),(5004,.arr 113 4 r.AtA.length (rows TreeSlot.enc r.AtA)),(5005,.arr 113 4 r.AtB.length (rows TreeSlot.enc r.AtB)),(5006,.arr 107 5 r.Radio.length (rows TreeWord.enc r.Radio))]:=by
  refine effC_x tOk (fn:=Tryz.f32) (c:=codeOf Tryz.f32) rfl rfl ?_;unfold impl_TreeWorld_hear_r01_02_05_k01_02_03_04_05_m at h;(conv=>whnf);obtain ⟨x1,hx1,h⟩:=bd_some h;refine cC 0 (impl_TreeWorld_bridgeAt_c hx1) ?_;clear hx1;(conv=>whnf);refine seq_in tOk ?_;(conv=>whnf);obtain ⟨x2,hx2,h⟩:=bd_some h;refine cC 0 (impl_TreeWorld_isDown_c hx2) ?_;clear hx2;(conv=>whnf);refine gdI h (fun h=>?_);(conv=>whnf);refine andI h (fun _ h=>?_) (fun _ h=>?_)
  · (conv=>whnf);obtain rfl:=Option.some.inj h;exact lfE [.s [(5001,9001),(5002,9002),(5003,9003),(5004,9004),(5005,9005),(5006,9006),(9001,5001),(9002,5002),(9003,5003),(9004,5004),(9005,5005),(9006,5006)]]
  · (conv=>whnf);refine spI h (fun e4 h=>?_) (fun e4 h=>?_)
    · obtain ⟨x5,hx5,h⟩:=bd_some h;refine draw_t tOk [.e 3 [(9000,.box 29 [.osl 9001 0 a0.Bridges.length,.osl 9002 0 a0.Links.length,.osl 9003 0 a0.Down.length,.osl 9004 0 a0.AtA.length,.osl 9005 0 a0.AtB.length,.osl 9006 0 a0.Radio.length]),(9001,.arr 42 6 a0.Bridges.length (rows TreeBridge.enc a0.Bridges)),(9002,.arr 66 3 a0.Links.length (rows TreeLink.enc a0.Links)),(9003,.arr 3 1 a0.Down.length (rows encInt a0.Down)),(9004,.arr 113 4 a0.AtA.length (rows TreeSlot.enc a0.AtA)),(9005,.arr 113 4 a0.AtB.length (rows TreeSlot.enc a0.AtB)),(9006,.arr 107 5 a0.Radio.length (rows TreeWord.enc a0.Radio))] (.ref 6004 x5.1 0) [] [(6001,.arr 42 6 x5.2.Bridges.length (rows TreeBridge.enc x5.2.Bridges)),(6002,.arr 66 3 x5.2.Links.length (rows TreeLink.enc x5.2.Links)),(6003,.arr 3 1 x5.2.Down.length (rows encInt x5.2.Down)),(6004,.arr 113 4 x5.2.AtA.length (rows TreeSlot.enc x5.2.AtA)),(6005,.arr 113 4 x5.2.AtB.length (rows TreeSlot.enc x5.2.AtB)),(6006,.arr 107 5 x5.2.Radio.length (rows TreeWord.enc x5.2.Radio)),(9000,.box 29 [.osl 6001 0 x5.2.Bridges.length,.osl 6002 0 x5.2.Links.length,.osl 6003 0 x5.2.Down.length,.osl 6004 0 x5.2.AtA.length,.osl 6005 0 x5.2.AtB.length,.osl 6006 0 x5.2.Radio.length])]] 7 [] [0,0,0,7,0,16,63] [127] [9000,9001,9002,9003,9004,9005,9006] ?_;(conv=>whnf);refine And.intro (eH [(9000,9000),(9001,9001),(9002,9002),(9003,9003),(9004,9004),(9005,9005),(9006,9006)] 1000 (impl_TreeWorld_slot_r00_01_02_03_04_05_at_s1_c e4 hx5)) ?_;(conv=>whnf);refine And.intro (by kernel_rfl) ?_;(conv=>whnf);refine ⟨rows TreeSlot.enc (x5.2.AtA.set x5.1 (⟨a3,3⟩:TreeSlot)),store_rows' lenA rfl,?_⟩;(conv=>whnf);obtain ⟨x6,hx6,h⟩:=bd_some h;refine cE2 [(9000,9000),(9001,6001),(9002,6002),(9003,6003),(9004,6004),(9005,6005),(9006,6006)] 2000 (impl_TreeWorld_rethink_r01_02_03_04_05_c hx6) ?_;(conv=>whnf);obtain rfl:=Option.some.inj h;exact lfE [.s [(5001,7001),(5002,7002),(5003,7003),(5004,7004),(5005,7005),(5006,7006),(7001,5001),(7002,5002),(7003,5003),(7004,5004),(7005,5005),(7006,5006)]]
    · obtain ⟨x7,hx7,h⟩:=bd_some h;refine draw_t tOk [.e 3 [(9000,.box 29 [.osl 9001 0 a0.Bridges.length,.osl 9002 0 a0.Links.length,.osl 9003 0 a0.Down.length,.osl 9004 0 a0.AtA.length,.osl 9005 0 a0.AtB.length,.osl 9006 0 a0.Radio.length]),(9001,.arr 42 6 a0.Bridges.length (rows TreeBridge.enc a0.Bridges)),(9002,.arr 66 3 a0.Links.length (rows TreeLink.enc a0.Links)),(9003,.arr 3 1 a0.Down.length (rows encInt a0.Down)),(9004,.arr 113 4 a0.AtA.length (rows TreeSlot.enc a0.AtA)),(9005,.arr 113 4 a0.AtB.length (rows TreeSlot.enc a0.AtB)),(9006,.arr 107 5 a0.Radio.length (rows TreeWord.enc a0.Radio))] (.ref 6005 x7.1 0) [] [(6001,.arr 42 6 x7.2.Bridges.length (rows TreeBridge.enc x7.2.Bridges)),(6002,.arr 66 3 x7.2.Links.length (rows TreeLink.enc x7.2.Links)),(6003,.arr 3 1 x7.2.Down.length (rows encInt x7.2.Down)),(6004,.arr 113 4 x7.2.AtA.length (rows TreeSlot.enc x7.2.AtA)),(6005,.arr 113 4 x7.2.AtB.length (rows TreeSlot.enc x7.2.AtB)),(6006,.arr 107 5 x7.2.Radio.length (rows TreeWord.enc x7.2.Radio)),(9000,.box 29 [.osl 6001 0 x7.2.Bridges.length,.osl 6002 0 x7.2.Links.length,.osl 6003 0 x7.2.Down.length,.osl 6004 0 x7.2.AtA.length,.osl 6005 0 x7.2.AtB.length,.osl 6006 0 x7.2.Radio.length])]] 7 [] [0,0,0,7,0,16,63] [127] [9000,9001,9002,9003,9004,9005,9006] ?_;(conv=>whnf);refine And.intro (eH [(9000,9000),(9001,9001),(9002,9002),(9003,9003),(9004,9004),(9005,9005),(9006,9006)] 1000 (impl_TreeWorld_slot_r00_01_02_03_04_05_at_s0_c e4 hx7)) ?_;(conv=>whnf);refine And.intro (by kernel_rfl) ?_;(conv=>whnf);refine ⟨rows TreeSlot.enc (x7.2.AtB.set x7.1 (⟨a3,3⟩:TreeSlot)),store_rows' lenA rfl,?_⟩;(conv=>whnf);obtain ⟨x8,hx8,h⟩:=bd_some h;refine cE2 [(9000,9000),(9001,6001),(9002,6002),(9003,6003),(9004,6004),(9005,6005),(9006,6006)] 2000 (impl_TreeWorld_rethink_r01_02_03_04_05_c hx8) ?_;(conv=>whnf);obtain rfl:=Option.some.inj h;exact lfE [.s [(5001,7001),(5002,7002),(5003,7003),(5004,7004),(5005,7005),(5006,7006),(7001,5001),(7002,5002),(7003,5003),(7004,5004),(7005,5005),(7006,5006)]]
noncomputable def impl_TreeWorld_onWord_r01_02_k00_01_02_03_04_05_m (a0:TreeWorld) (a1:Int) (a2:Int):Option (TreeWorld) :=
 bd (impl_within_m a2 0 (IntKind.i64.wrap (((a0.Radio.length:Nat):Int) - 1))) fun x1 =>
(if (!x1) = true then
 some a0
else
 gd ((0:Int)≤a2∧a2<((a0.Radio.length:Nat):Int)) <|
(if (a1 == 3) = true then
 bd (impl_TreeWorld_put_r00_01_02_03_04_m a0 ({ (a0.Radio.getD a2.toNat default) with Vector:=((a0.Radio.getD a2.toNat default).Vector) })) fun x3 =>
 some x3
else
 bd (slices_Delete_TreeWord_TreeWord_m a0.Radio a2 (IntKind.i64.wrap (a2+1))) fun x4 =>
(if (a1 == 2) = true then
 bd (impl_TreeWorld_hear_r01_02_05_k01_02_03_04_05_m ({ a0 with Radio:=x4 }) ((a0.Radio.getD a2.toNat default).Link) ((a0.Radio.getD a2.toNat default).End) ((a0.Radio.getD a2.toNat default).Vector)) fun x5 =>
 some x5
else
 some ({ a0 with Radio:=x4 }))))
theorem impl_TreeWorld_onWord_r01_02_k00_01_02_03_04_05_c {a0:TreeWorld} {a1:Int} {a2:Int} {r:TreeWorld} (h:impl_TreeWorld_onWord_r01_02_k00_01_02_03_04_05_m a0 a1 a2 = some r):EffC Tryz.prog 27 [.ref 9000 0 0,.d (.int .i64 a1),.d (.int .i64 a2)] [(9000,.box 29 [.osl 9001 0 a0.Bridges.length,.osl 9002 0 a0.Links.length,.osl 9003 0 a0.Down.length,.osl 9004 0 a0.AtA.length,.osl 9005 0 a0.AtB.length,.osl 9006 0 a0.Radio.length]),(9001,.arr 42 6 a0.Bridges.length (rows TreeBridge.enc a0.Bridges)),(9002,.arr 66 3 a0.Links.length (rows TreeLink.enc a0.Links)),(9003,.arr 3 1 a0.Down.length (rows encInt a0.Down)),(9004,.arr 113 4 a0.AtA.length (rows TreeSlot.enc a0.AtA)),(9005,.arr 113 4 a0.AtB.length (rows TreeSlot.enc a0.AtB)),(9006,.arr 107 5 a0.Radio.length (rows TreeWord.enc a0.Radio))] (.tup []) [(9000,.box 29 [.osl 5001 0 r.Bridges.length,.osl 5002 0 r.Links.length,.osl 5003 0 r.Down.length,.osl 5004 0 r.AtA.length,.osl 5005 0 r.AtB.length,.osl 5006 0 r.Radio.length]),(5001,.arr 42 6 r.Bridges.length (rows TreeBridge.enc r.Bridges)),(5002,.arr 66 3 r.Links.length (rows TreeLink.enc r.Links)),(5003,.arr 3 1 r.Down.length (rows encInt r.Down)),(5004,.arr 113 4 r.AtA.length (rows TreeSlot.enc r.AtA)),(5005,.arr 113 4 r.AtB.length (rows TreeSlot.enc r.AtB)),(5006,.arr 107 5 r.Radio.length (rows TreeWord.enc r.Radio))]:=by
  refine effC_x tOk (fn:=Tryz.f27) (c:=codeOf Tryz.f27) rfl rfl ?_;unfold impl_TreeWorld_onWord_r01_02_k00_01_02_03_04_05_m at h;(conv=>whnf);refine seq_in tOk ?_;(conv=>whnf);obtain ⟨x1,hx1,h⟩:=bd_some h;refine cC 0 (impl_within_c hx1) ?_;clear hx1;(conv=>whnf);refine andI h (fun _ h=>?_) (fun _ h=>?_)
  · (conv=>whnf);obtain rfl:=Option.some.inj h;exact lfE [.s [(5001,9001),(5002,9002),(5003,9003),(5004,9004),(5005,9005),(5006,9006),(9001,5001),(9002,5002),(9003,5003),(9004,5004),(9005,5005),(9006,5006)]]
  · (conv=>whnf);refine gdI h (fun h=>?_);(conv=>whnf);refine seq_in tOk ?_;(conv=>whnf);refine andI h (fun _ h=>?_) (fun _ h=>?_)
    · (conv=>whnf);obtain ⟨x3,hx3,h⟩:=bd_some h;refine cE2 [(9000,9000),(9001,9001),(9002,9002),(9003,9003),(9004,9004),(9005,9005),(9006,9006)] 1000 (impl_TreeWorld_put_r00_01_02_03_04_c hx3) ?_;(conv=>whnf);obtain rfl:=Option.some.inj h;exact lfE [.s [(5001,6001),(5002,6002),(5003,6003),(5004,6004),(5005,6005),(5006,6006),(6001,5001),(6002,5002),(6003,5003),(6004,5004),(6005,5005),(6006,5006)]]
    · (conv=>whnf);obtain ⟨x4,hx4,h⟩:=bd_some h;refine cE [(9000,9006)] 1000 (slices_Delete_TreeWord_TreeWord_c hx4) ?_;(conv=>whnf);refine andI h (fun _ h=>?_) (fun _ h=>?_)
      · (conv=>whnf);obtain ⟨x5,hx5,h⟩:=bd_some h;refine cE2 [(9000,9000),(9001,9001),(9002,9002),(9003,9003),(9004,9004),(9005,9005),(9006,6001)] 2000 (impl_TreeWorld_hear_r01_02_05_k01_02_03_04_05_c hx5) ?_;(conv=>whnf);obtain rfl:=Option.some.inj h;exact lfE [.s [(5001,7001),(5002,7002),(5003,7003),(5004,7004),(5005,7005),(5006,7006),(7001,5001),(7002,5002),(7003,5003),(7004,5004),(7005,5005),(7006,5006)]]
      · (conv=>whnf);obtain rfl:=Option.some.inj h;exact lfE [.s [(5001,9001),(5002,9002),(5003,9003),(5004,9004),(5005,9005),(5006,6001),(6001,5006),(9001,5001),(9002,5002),(9003,5003),(9004,5004),(9005,5005)]]
noncomputable def impl_TreeWorld_tick_r01_02_05_k04_m (a0:TreeWorld):Option (TreeWorld) :=
 bd (lp (σ:=List TreeBridge × List TreeLink × List Int × List TreeSlot × List TreeSlot × List TreeWord × Int) (β:=(Nat × Nat × Nat × Nat × Nat × Nat × (List TreeBridge) × (List TreeLink) × (List Int) × (List TreeSlot) × (List TreeSlot) × (List TreeWord))) (fun s1 =>
(if (decide (s1.2.2.2.2.2.2<((a0.Links.length:Nat):Int))) = true then
 bd (lp (σ:=List TreeBridge × List TreeLink × List Int × List TreeSlot × List TreeSlot × List TreeWord × Int) (β:=(Nat × Nat × Nat × Nat × Nat × Nat × (List TreeBridge) × (List TreeLink) × (List Int) × (List TreeSlot) × (List TreeSlot) × (List TreeWord))) (fun s5 =>
(if (decide (s5.2.2.2.2.2.2<2)) = true then
(if (s5.2.2.2.2.2.2 == 0) = true then
 bd (impl_TreeWorld_slot_r00_01_02_03_04_05_at_s1_m (⟨s5.1,s5.2.1,s5.2.2.1,s5.2.2.2.1,s5.2.2.2.2.1,s5.2.2.2.2.2.1⟩:TreeWorld) s1.2.2.2.2.2.2 s5.2.2.2.2.2.2) fun x10 =>
 bd (some (x10.2.AtA.set x10.1 (⟨((x10.2.AtA.getD x10.1 default).Vector),(if (IntKind.i64.wrap (((x10.2.AtA.getD x10.1 default).Left) - 1)) > 0 then IntKind.i64.wrap (((x10.2.AtA.getD x10.1 default).Left) - 1) else 0)⟩:TreeSlot))) fun x11 =>
(if (((x11.getD x10.1 default).Left) == 0) = true then
 some (.inl (x10.2.Bridges,x10.2.Links,x10.2.Down,x11.set x10.1 (⟨(⟨0,0,0⟩:TreeVector),0⟩:TreeSlot),x10.2.AtB,x10.2.Radio,IntKind.i64.wrap (s5.2.2.2.2.2.2+1)))
else
 some (.inl (x10.2.Bridges,x10.2.Links,x10.2.Down,x11,x10.2.AtB,x10.2.Radio,IntKind.i64.wrap (s5.2.2.2.2.2.2+1))))
else
 bd (impl_TreeWorld_slot_r00_01_02_03_04_05_at_s0_m (⟨s5.1,s5.2.1,s5.2.2.1,s5.2.2.2.1,s5.2.2.2.2.1,s5.2.2.2.2.2.1⟩:TreeWorld) s1.2.2.2.2.2.2 s5.2.2.2.2.2.2) fun x12 =>
 bd (some (x12.2.AtB.set x12.1 (⟨((x12.2.AtB.getD x12.1 default).Vector),(if (IntKind.i64.wrap (((x12.2.AtB.getD x12.1 default).Left) - 1)) > 0 then IntKind.i64.wrap (((x12.2.AtB.getD x12.1 default).Left) - 1) else 0)⟩:TreeSlot))) fun x13 =>
(if (((x13.getD x12.1 default).Left) == 0) = true then
 some (.inl (x12.2.Bridges,x12.2.Links,x12.2.Down,x12.2.AtA,x13.set x12.1 (⟨(⟨0,0,0⟩:TreeVector),0⟩:TreeSlot),x12.2.Radio,IntKind.i64.wrap (s5.2.2.2.2.2.2+1)))
else
 some (.inl (x12.2.Bridges,x12.2.Links,x12.2.Down,x12.2.AtA,x13,x12.2.Radio,IntKind.i64.wrap (s5.2.2.2.2.2.2+1)))))
else
 some (.inr (s5.1.length,s5.2.1.length,s5.2.2.1.length,s5.2.2.2.1.length,s5.2.2.2.2.1.length,s5.2.2.2.2.2.1.length,s5.1,s5.2.1,s5.2.2.1,s5.2.2.2.1,s5.2.2.2.2.1,s5.2.2.2.2.2.1)))) (s1.1,s1.2.1,s1.2.2.1,s1.2.2.2.1,s1.2.2.2.2.1,s1.2.2.2.2.2.1,0)) fun x8 =>
 some (.inl (x8.2.2.2.2.2.2.1,x8.2.2.2.2.2.2.2.1,x8.2.2.2.2.2.2.2.2.1,x8.2.2.2.2.2.2.2.2.2.1,x8.2.2.2.2.2.2.2.2.2.2.1,x8.2.2.2.2.2.2.2.2.2.2.2,IntKind.i64.wrap (s1.2.2.2.2.2.2+1)))
else
 some (.inr (s1.1.length,s1.2.1.length,s1.2.2.1.length,s1.2.2.2.1.length,s1.2.2.2.2.1.length,s1.2.2.2.2.2.1.length,s1.1,s1.2.1,s1.2.2.1,s1.2.2.2.1,s1.2.2.2.2.1,s1.2.2.2.2.2.1)))) (a0.Bridges,a0.Links,a0.Down,a0.AtA,a0.AtB,a0.Radio,0)) fun x4 =>
 bd (lp (σ:=List TreeBridge × List TreeLink × List Int × List TreeSlot × List TreeSlot × List TreeWord × Int) (β:=(Nat × Nat × Nat × Nat × Nat × Nat × (List TreeBridge) × (List TreeLink) × (List Int) × (List TreeSlot) × (List TreeSlot) × (List TreeWord))) (fun s16 =>
(if (decide (s16.2.2.2.2.2.2<((x4.1:Nat):Int))) = true then
 bd (impl_TreeWorld_rethink_r01_02_03_04_05_m (⟨s16.1,s16.2.1,s16.2.2.1,s16.2.2.2.1,s16.2.2.2.2.1,s16.2.2.2.2.2.1⟩:TreeWorld) s16.2.2.2.2.2.2) fun x20 =>
 some (.inl (x20.Bridges,x20.Links,x20.Down,x20.AtA,x20.AtB,x20.Radio,IntKind.i64.wrap (s16.2.2.2.2.2.2+1)))
else
 some (.inr (s16.1.length,s16.2.1.length,s16.2.2.1.length,s16.2.2.2.1.length,s16.2.2.2.2.1.length,s16.2.2.2.2.2.1.length,s16.1,s16.2.1,s16.2.2.1,s16.2.2.2.1,s16.2.2.2.2.1,s16.2.2.2.2.2.1)))) (x4.2.2.2.2.2.2.1,x4.2.2.2.2.2.2.2.1,x4.2.2.2.2.2.2.2.2.1,x4.2.2.2.2.2.2.2.2.2.1,x4.2.2.2.2.2.2.2.2.2.2.1,x4.2.2.2.2.2.2.2.2.2.2.2,0)) fun x19 =>
 some (⟨x19.2.2.2.2.2.2.1,x19.2.2.2.2.2.2.2.1,x19.2.2.2.2.2.2.2.2.1,x19.2.2.2.2.2.2.2.2.2.1,x19.2.2.2.2.2.2.2.2.2.2.1,x19.2.2.2.2.2.2.2.2.2.2.2⟩:TreeWorld)
theorem impl_TreeWorld_tick_r01_02_05_k04_c {a0:TreeWorld} {r:TreeWorld} (h:impl_TreeWorld_tick_r01_02_05_k04_m a0 = some r):EffC Tryz.prog 28 [.ref 9000 0 0] [(9000,.box 29 [.osl 9001 0 a0.Bridges.length,.osl 9002 0 a0.Links.length,.osl 9003 0 a0.Down.length,.osl 9004 0 a0.AtA.length,.osl 9005 0 a0.AtB.length,.osl 9006 0 a0.Radio.length]),(9001,.arr 42 6 a0.Bridges.length (rows TreeBridge.enc a0.Bridges)),(9002,.arr 66 3 a0.Links.length (rows TreeLink.enc a0.Links)),(9003,.arr 3 1 a0.Down.length (rows encInt a0.Down)),(9004,.arr 113 4 a0.AtA.length (rows TreeSlot.enc a0.AtA)),(9005,.arr 113 4 a0.AtB.length (rows TreeSlot.enc a0.AtB)),(9006,.arr 107 5 a0.Radio.length (rows TreeWord.enc a0.Radio))] (.tup []) [(9000,.box 29 [.osl 5001 0 r.Bridges.length,.osl 5002 0 r.Links.length,.osl 5003 0 r.Down.length,.osl 5004 0 r.AtA.length,.osl 5005 0 r.AtB.length,.osl 5006 0 r.Radio.length]),(5001,.arr 42 6 r.Bridges.length (rows TreeBridge.enc r.Bridges)),(5002,.arr 66 3 r.Links.length (rows TreeLink.enc r.Links)),(5003,.arr 3 1 r.Down.length (rows encInt r.Down)),(5004,.arr 113 4 r.AtA.length (rows TreeSlot.enc r.AtA)),(5005,.arr 113 4 r.AtB.length (rows TreeSlot.enc r.AtB)),(5006,.arr 107 5 r.Radio.length (rows TreeWord.enc r.Radio))]:=by
  refine effC_x tOk (fn:=Tryz.f28) (c:=codeOf Tryz.f28) rfl rfl ?_;unfold impl_TreeWorld_tick_r01_02_05_k04_m at h;(conv=>whnf);refine seq_in tOk ?_;(conv=>whnf);obtain ⟨x4,hx4,h⟩:=bd_some h;refine loop_m tOk hx4 (fun s1=>⟨0,52,[(0,.ref 9000 0 0),(10,.d (.int .i64 ((a0.Links.length:Nat):Int))),(11,.d (.int .i64 s1.2.2.2.2.2.2))],[],[(9000,.box 29 [.osl 9001 0 s1.1.length,.osl 9002 0 s1.2.1.length,.osl 9003 0 s1.2.2.1.length,.osl 9004 0 s1.2.2.2.1.length,.osl 9005 0 s1.2.2.2.2.1.length,.osl 9006 0 s1.2.2.2.2.2.1.length]),(9001,.arr 42 6 s1.1.length (rows TreeBridge.enc s1.1)),(9002,.arr 66 3 s1.2.1.length (rows TreeLink.enc s1.2.1)),(9003,.arr 3 1 s1.2.2.1.length (rows encInt s1.2.2.1)),(9004,.arr 113 4 s1.2.2.2.1.length (rows TreeSlot.enc s1.2.2.2.1)),(9005,.arr 113 4 s1.2.2.2.2.1.length (rows TreeSlot.enc s1.2.2.2.2.1)),(9006,.arr 107 5 s1.2.2.2.2.2.1.length (rows TreeWord.enc s1.2.2.2.2.2.1))],[⟨[(0,.ref 9000 0 0)],[]⟩]⟩) ?_ ?_
  · exact leX []
  · clear hx4;intro s1 y2 g3 hy2;(conv=>whnf);refine seq_in tOk ?_;(conv=>whnf);refine andI g3 (fun _ g3=>?_) (fun _ g3=>?_)
    · (conv=>whnf);refine seq_in tOk ?_;(conv=>whnf);obtain ⟨x8,hx8,g3⟩:=bd_some g3;refine loop_m tOk hx8 (fun s5=>⟨0,52,[(0,.ref 9000 0 0),(2,.d (.int .i64 s1.2.2.2.2.2.2)),(10,.d (.int .i64 ((a0.Links.length:Nat):Int))),(11,.d (.int .i64 s1.2.2.2.2.2.2)),(14,.d (.int .i64 s5.2.2.2.2.2.2))],[],[(9000,.box 29 [.osl 9001 0 s5.1.length,.osl 9002 0 s5.2.1.length,.osl 9003 0 s5.2.2.1.length,.osl 9004 0 s5.2.2.2.1.length,.osl 9005 0 s5.2.2.2.2.1.length,.osl 9006 0 s5.2.2.2.2.2.1.length]),(9001,.arr 42 6 s5.1.length (rows TreeBridge.enc s5.1)),(9002,.arr 66 3 s5.2.1.length (rows TreeLink.enc s5.2.1)),(9003,.arr 3 1 s5.2.2.1.length (rows encInt s5.2.2.1)),(9004,.arr 113 4 s5.2.2.2.1.length (rows TreeSlot.enc s5.2.2.2.1)),(9005,.arr 113 4 s5.2.2.2.2.1.length (rows TreeSlot.enc s5.2.2.2.2.1)),(9006,.arr 107 5 s5.2.2.2.2.2.1.length (rows TreeWord.enc s5.2.2.2.2.2.1))],[⟨[(0,.ref 9000 0 0)],[]⟩]⟩) ?_ ?_
      · exact leX []
      · clear hx8;intro s5 y6 g7 hy6;(conv=>whnf);refine seq_in tOk ?_;(conv=>whnf);refine andI g7 (fun _ g7=>?_) (fun _ g7=>?_)
        · (conv=>whnf);refine seq_in tOk ?_;(conv=>whnf);refine spI g7 (fun e9 g7=>?_) (fun e9 g7=>?_)
          · obtain ⟨x10,hx10,g7⟩:=bd_some g7;refine cE2 [(9000,9000),(9001,9001),(9002,9002),(9003,9003),(9004,9004),(9005,9005),(9006,9006)] 1000 (impl_TreeWorld_slot_r00_01_02_03_04_05_at_s1_c e9 hx10) ?_;(conv=>whnf);obtain ⟨x11,hx11,hlx11,g7⟩:=bd_set g7;refine setS (enc:=TreeSlot.enc) hx11 ?_;(conv=>whnf);refine andI g7 (fun _ g7=>?_) (fun _ g7=>?_)
            · (conv=>whnf);refine ⟨rows TreeSlot.enc (x11.set x10.1 (⟨(⟨0,0,0⟩:TreeVector),0⟩:TreeSlot)),store_rows' lenA rfl,?_⟩;(conv=>whnf);obtain rfl:=Option.some.inj g7;exact ⟨_,rfl,leX [.s [(6001,9001),(6002,9002),(6003,9003),(6004,9004),(6005,9005),(6006,9006),(9001,6001),(9002,6002),(9003,6003),(9004,6004),(9005,6005),(9006,6006)]]⟩
            · (conv=>whnf);obtain rfl:=Option.some.inj g7;exact ⟨_,rfl,leX [.s [(6001,9001),(6002,9002),(6003,9003),(6004,9004),(6005,9005),(6006,9006),(9001,6001),(9002,6002),(9003,6003),(9004,6004),(9005,6005),(9006,6006)]]⟩
          · obtain ⟨x12,hx12,g7⟩:=bd_some g7;refine cE2 [(9000,9000),(9001,9001),(9002,9002),(9003,9003),(9004,9004),(9005,9005),(9006,9006)] 1000 (impl_TreeWorld_slot_r00_01_02_03_04_05_at_s0_c e9 hx12) ?_;(conv=>whnf);obtain ⟨x13,hx13,hlx13,g7⟩:=bd_set g7;refine setS (enc:=TreeSlot.enc) hx13 ?_;(conv=>whnf);refine andI g7 (fun _ g7=>?_) (fun _ g7=>?_)
            · (conv=>whnf);refine ⟨rows TreeSlot.enc (x13.set x12.1 (⟨(⟨0,0,0⟩:TreeVector),0⟩:TreeSlot)),store_rows' lenA rfl,?_⟩;(conv=>whnf);obtain rfl:=Option.some.inj g7;exact ⟨_,rfl,leX [.s [(6001,9001),(6002,9002),(6003,9003),(6004,9004),(6005,9005),(6006,9006),(9001,6001),(9002,6002),(9003,6003),(9004,6004),(9005,6005),(9006,6006)]]⟩
            · (conv=>whnf);obtain rfl:=Option.some.inj g7;exact ⟨_,rfl,leX [.s [(6001,9001),(6002,9002),(6003,9003),(6004,9004),(6005,9005),(6006,9006),(9001,6001),(9002,6002),(9003,6003),(9004,6004),(9005,6005),(9006,6006)]]⟩
        · (conv=>whnf);obtain rfl:=Option.some.inj g7;obtain rfl:=hy6 _ rfl;obtain rfl:=Option.some.inj g3;exact ⟨_,rfl,leX []⟩
    · (conv=>whnf);obtain rfl:=Option.some.inj g3;obtain rfl:=hy2 _ rfl;obtain ⟨x19,hx19,h⟩:=bd_some h;refine loop_m tOk hx19 (fun s16=>⟨0,52,[(0,.ref 9000 0 0),(44,.d (.int .i64 (((s1.1.length,s1.2.1.length,s1.2.2.1.length,s1.2.2.2.1.length,s1.2.2.2.2.1.length,s1.2.2.2.2.2.1.length,s1.1,s1.2.1,s1.2.2.1,s1.2.2.2.1,s1.2.2.2.2.1,s1.2.2.2.2.2.1).1:Nat):Int))),(45,.d (.int .i64 s16.2.2.2.2.2.2))],[],[(9000,.box 29 [.osl 9001 0 s16.1.length,.osl 9002 0 s16.2.1.length,.osl 9003 0 s16.2.2.1.length,.osl 9004 0 s16.2.2.2.1.length,.osl 9005 0 s16.2.2.2.2.1.length,.osl 9006 0 s16.2.2.2.2.2.1.length]),(9001,.arr 42 6 s16.1.length (rows TreeBridge.enc s16.1)),(9002,.arr 66 3 s16.2.1.length (rows TreeLink.enc s16.2.1)),(9003,.arr 3 1 s16.2.2.1.length (rows encInt s16.2.2.1)),(9004,.arr 113 4 s16.2.2.2.1.length (rows TreeSlot.enc s16.2.2.2.1)),(9005,.arr 113 4 s16.2.2.2.2.1.length (rows TreeSlot.enc s16.2.2.2.2.1)),(9006,.arr 107 5 s16.2.2.2.2.2.1.length (rows TreeWord.enc s16.2.2.2.2.2.1))],[⟨[(0,.ref 9000 0 0)],[]⟩]⟩) ?_ ?_
      · exact leX []
      · clear hx19;intro s16 y17 g18 hy17;(conv=>whnf);refine seq_in tOk ?_;(conv=>whnf);refine andI g18 (fun _ g18=>?_) (fun _ g18=>?_)
        · (conv=>whnf);refine seq_in tOk ?_;(conv=>whnf);obtain ⟨x20,hx20,g18⟩:=bd_some g18;refine cE2 [(9000,9000),(9001,9001),(9002,9002),(9003,9003),(9004,9004),(9005,9005),(9006,9006)] 1000 (impl_TreeWorld_rethink_r01_02_03_04_05_c hx20) ?_;(conv=>whnf);obtain rfl:=Option.some.inj g18;exact ⟨_,rfl,leX [.s [(6001,9001),(6002,9002),(6003,9003),(6004,9004),(6005,9005),(6006,9006),(9001,6001),(9002,6002),(9003,6003),(9004,6004),(9005,6005),(9006,6006)]]⟩
        · (conv=>whnf);obtain rfl:=Option.some.inj g18;obtain rfl:=hy17 _ rfl;obtain rfl:=Option.some.inj h;exact lfE [.s [(5001,9001),(5002,9002),(5003,9003),(5004,9004),(5005,9005),(5006,9006),(9001,5001),(9002,5002),(9003,5003),(9004,5004),(9005,5005),(9006,5006)]]
noncomputable def impl_TreeWorld_onBridge_r01_02_05_k00_m (a0:TreeWorld) (a1:Int) (a2:Int):Option (TreeWorld) :=
 bd (impl_within_m a2 0 (IntKind.i64.wrap (((a0.Bridges.length:Nat):Int) - 1))) fun x1 =>
(if (!x1) = true then
 some a0
else
 gd ((0:Int)≤a2∧a2<((a0.Bridges.length:Nat):Int)) <|
(if (a1 == 7) = true then
(if (!((a0.Bridges.getD a2.toNat default).Up)) = true then
 bd (impl_selfMind_m ((a0.Bridges.getD a2.toNat default).Id)) fun x3 =>
 bd (some (a0.Bridges.set a2.toNat (⟨(a0.Bridges.getD a2.toNat default).Id,true,(⟨(((a0.Bridges.getD a2.toNat default).Mind).Vector),((a0.Bridges.getD a2.toNat default).Mind).Link⟩:TreeMind)⟩:TreeBridge))) fun x4 =>
 some ({ a0 with Bridges:=x4.set a2.toNat ({ (x4.getD a2.toNat default) with Mind:=x3 }) })
else
 some a0)
else
 bd (some (a0.Bridges.set a2.toNat (⟨(a0.Bridges.getD a2.toNat default).Id,false,(⟨(((a0.Bridges.getD a2.toNat default).Mind).Vector),((a0.Bridges.getD a2.toNat default).Mind).Link⟩:TreeMind)⟩:TreeBridge))) fun x5 =>
 bd (some (x5.set a2.toNat ({ (x5.getD a2.toNat default) with Mind:=(⟨(⟨0,0,0⟩:TreeVector),0⟩:TreeMind) }))) fun x6 =>
 bd (lp (σ:=List TreeBridge × List TreeLink × List Int × List TreeSlot × List TreeSlot × List TreeWord × Int) (β:=(Nat × Nat × Nat × Nat × Nat × Nat × (List TreeBridge) × (List TreeLink) × (List Int) × (List TreeSlot) × (List TreeSlot) × (List TreeWord))) (fun s7 =>
(if (decide (s7.2.2.2.2.2.2<((a0.Links.length:Nat):Int))) = true then
 bd (lp (σ:=List TreeBridge × List TreeLink × List Int × List TreeSlot × List TreeSlot × List TreeWord × Int) (β:=(Nat × Nat × Nat × Nat × Nat × Nat × (List TreeBridge) × (List TreeLink) × (List Int) × (List TreeSlot) × (List TreeSlot) × (List TreeWord))) (fun s11 =>
(if (decide (s11.2.2.2.2.2.2<2)) = true then
 bd (impl_TreeWorld_bridgeAt_m (⟨s11.1,s11.2.1,s11.2.2.1,s11.2.2.2.1,s11.2.2.2.2.1,s11.2.2.2.2.2.1⟩:TreeWorld) s7.2.2.2.2.2.2 s11.2.2.2.2.2.2) fun x15 =>
(if (x15 == a2) = true then
(if (s11.2.2.2.2.2.2 == 0) = true then
 bd (impl_TreeWorld_slot_r00_01_02_03_04_05_at_s1_m (⟨s11.1,s11.2.1,s11.2.2.1,s11.2.2.2.1,s11.2.2.2.2.1,s11.2.2.2.2.2.1⟩:TreeWorld) s7.2.2.2.2.2.2 s11.2.2.2.2.2.2) fun x17 =>
 some (.inl (x17.2.Bridges,x17.2.Links,x17.2.Down,x17.2.AtA.set x17.1 (⟨(⟨0,0,0⟩:TreeVector),0⟩:TreeSlot),x17.2.AtB,x17.2.Radio,IntKind.i64.wrap (s11.2.2.2.2.2.2+1)))
else
 bd (impl_TreeWorld_slot_r00_01_02_03_04_05_at_s0_m (⟨s11.1,s11.2.1,s11.2.2.1,s11.2.2.2.1,s11.2.2.2.2.1,s11.2.2.2.2.2.1⟩:TreeWorld) s7.2.2.2.2.2.2 s11.2.2.2.2.2.2) fun x18 =>
 some (.inl (x18.2.Bridges,x18.2.Links,x18.2.Down,x18.2.AtA,x18.2.AtB.set x18.1 (⟨(⟨0,0,0⟩:TreeVector),0⟩:TreeSlot),x18.2.Radio,IntKind.i64.wrap (s11.2.2.2.2.2.2+1))))
else
 some (.inl (s11.1,s11.2.1,s11.2.2.1,s11.2.2.2.1,s11.2.2.2.2.1,s11.2.2.2.2.2.1,IntKind.i64.wrap (s11.2.2.2.2.2.2+1))))
else
 some (.inr (s11.1.length,s11.2.1.length,s11.2.2.1.length,s11.2.2.2.1.length,s11.2.2.2.2.1.length,s11.2.2.2.2.2.1.length,s11.1,s11.2.1,s11.2.2.1,s11.2.2.2.1,s11.2.2.2.2.1,s11.2.2.2.2.2.1)))) (s7.1,s7.2.1,s7.2.2.1,s7.2.2.2.1,s7.2.2.2.2.1,s7.2.2.2.2.2.1,0)) fun x14 =>
 some (.inl (x14.2.2.2.2.2.2.1,x14.2.2.2.2.2.2.2.1,x14.2.2.2.2.2.2.2.2.1,x14.2.2.2.2.2.2.2.2.2.1,x14.2.2.2.2.2.2.2.2.2.2.1,x14.2.2.2.2.2.2.2.2.2.2.2,IntKind.i64.wrap (s7.2.2.2.2.2.2+1)))
else
 some (.inr (s7.1.length,s7.2.1.length,s7.2.2.1.length,s7.2.2.2.1.length,s7.2.2.2.2.1.length,s7.2.2.2.2.2.1.length,s7.1,s7.2.1,s7.2.2.1,s7.2.2.2.1,s7.2.2.2.2.1,s7.2.2.2.2.2.1)))) (x6,a0.Links,a0.Down,a0.AtA,a0.AtB,a0.Radio,0)) fun x10 =>
 some (⟨x10.2.2.2.2.2.2.1,x10.2.2.2.2.2.2.2.1,x10.2.2.2.2.2.2.2.2.1,x10.2.2.2.2.2.2.2.2.2.1,x10.2.2.2.2.2.2.2.2.2.2.1,x10.2.2.2.2.2.2.2.2.2.2.2⟩:TreeWorld)))
theorem impl_TreeWorld_onBridge_r01_02_05_k00_c {a0:TreeWorld} {a1:Int} {a2:Int} {r:TreeWorld} (h:impl_TreeWorld_onBridge_r01_02_05_k00_m a0 a1 a2 = some r):EffC Tryz.prog 29 [.ref 9000 0 0,.d (.int .i64 a1),.d (.int .i64 a2)] [(9000,.box 29 [.osl 9001 0 a0.Bridges.length,.osl 9002 0 a0.Links.length,.osl 9003 0 a0.Down.length,.osl 9004 0 a0.AtA.length,.osl 9005 0 a0.AtB.length,.osl 9006 0 a0.Radio.length]),(9001,.arr 42 6 a0.Bridges.length (rows TreeBridge.enc a0.Bridges)),(9002,.arr 66 3 a0.Links.length (rows TreeLink.enc a0.Links)),(9003,.arr 3 1 a0.Down.length (rows encInt a0.Down)),(9004,.arr 113 4 a0.AtA.length (rows TreeSlot.enc a0.AtA)),(9005,.arr 113 4 a0.AtB.length (rows TreeSlot.enc a0.AtB)),(9006,.arr 107 5 a0.Radio.length (rows TreeWord.enc a0.Radio))] (.tup []) [(9000,.box 29 [.osl 5001 0 r.Bridges.length,.osl 5002 0 r.Links.length,.osl 5003 0 r.Down.length,.osl 5004 0 r.AtA.length,.osl 5005 0 r.AtB.length,.osl 5006 0 r.Radio.length]),(5001,.arr 42 6 r.Bridges.length (rows TreeBridge.enc r.Bridges)),(5002,.arr 66 3 r.Links.length (rows TreeLink.enc r.Links)),(5003,.arr 3 1 r.Down.length (rows encInt r.Down)),(5004,.arr 113 4 r.AtA.length (rows TreeSlot.enc r.AtA)),(5005,.arr 113 4 r.AtB.length (rows TreeSlot.enc r.AtB)),(5006,.arr 107 5 r.Radio.length (rows TreeWord.enc r.Radio))]:=by
  refine effC_x tOk (fn:=Tryz.f29) (c:=codeOf Tryz.f29) rfl rfl ?_;unfold impl_TreeWorld_onBridge_r01_02_05_k00_m at h;(conv=>whnf);refine seq_in tOk ?_;(conv=>whnf);obtain ⟨x1,hx1,h⟩:=bd_some h;refine cC 0 (impl_within_c hx1) ?_;clear hx1;(conv=>whnf);refine andI h (fun _ h=>?_) (fun _ h=>?_)
  · (conv=>whnf);obtain rfl:=Option.some.inj h;exact lfE [.s [(5001,9001),(5002,9002),(5003,9003),(5004,9004),(5005,9005),(5006,9006),(9001,5001),(9002,5002),(9003,5003),(9004,5004),(9005,5005),(9006,5006)]]
  · (conv=>whnf);refine gdI h (fun h=>?_);(conv=>whnf);refine seq_in tOk ?_;(conv=>whnf);refine andI h (fun _ h=>?_) (fun _ h=>?_)
    · (conv=>whnf);refine seq_in tOk ?_;(conv=>whnf);refine andI h (fun _ h=>?_) (fun _ h=>?_)
      · (conv=>whnf);obtain ⟨x3,hx3,h⟩:=bd_some h;refine cC 0 (impl_selfMind_c hx3) ?_;clear hx3;(conv=>whnf);obtain ⟨x4,hx4,hlx4,h⟩:=bd_set h;refine setS (enc:=TreeBridge.enc) hx4 ?_;(conv=>whnf);refine ⟨rows TreeBridge.enc (x4.set a2.toNat ({ (x4.getD a2.toNat default) with Mind:=x3 })),store_rows' lenA rfl,?_⟩;(conv=>whnf);obtain rfl:=Option.some.inj h;exact lfE [.s [(5001,9001),(5002,9002),(5003,9003),(5004,9004),(5005,9005),(5006,9006),(9001,5001),(9002,5002),(9003,5003),(9004,5004),(9005,5005),(9006,5006)]]
      · (conv=>whnf);obtain rfl:=Option.some.inj h;exact lfE [.s [(5001,9001),(5002,9002),(5003,9003),(5004,9004),(5005,9005),(5006,9006),(9001,5001),(9002,5002),(9003,5003),(9004,5004),(9005,5005),(9006,5006)]]
    · (conv=>whnf);obtain ⟨x5,hx5,hlx5,h⟩:=bd_set h;refine setS (enc:=TreeBridge.enc) hx5 ?_;(conv=>whnf);obtain ⟨x6,hx6,hlx6,h⟩:=bd_set h;refine setS (enc:=TreeBridge.enc) hx6 ?_;(conv=>whnf);obtain ⟨x10,hx10,h⟩:=bd_some h;refine loop_m tOk hx10 (fun s7=>⟨0,74,[(0,.ref 9000 0 0),(2,.d (.int .i64 a2)),(53,.d (.int .i64 ((a0.Links.length:Nat):Int))),(54,.d (.int .i64 s7.2.2.2.2.2.2))],[],[(9000,.box 29 [.osl 9001 0 s7.1.length,.osl 9002 0 s7.2.1.length,.osl 9003 0 s7.2.2.1.length,.osl 9004 0 s7.2.2.2.1.length,.osl 9005 0 s7.2.2.2.2.1.length,.osl 9006 0 s7.2.2.2.2.2.1.length]),(9001,.arr 42 6 s7.1.length (rows TreeBridge.enc s7.1)),(9002,.arr 66 3 s7.2.1.length (rows TreeLink.enc s7.2.1)),(9003,.arr 3 1 s7.2.2.1.length (rows encInt s7.2.2.1)),(9004,.arr 113 4 s7.2.2.2.1.length (rows TreeSlot.enc s7.2.2.2.1)),(9005,.arr 113 4 s7.2.2.2.2.1.length (rows TreeSlot.enc s7.2.2.2.2.1)),(9006,.arr 107 5 s7.2.2.2.2.2.1.length (rows TreeWord.enc s7.2.2.2.2.2.1))],[⟨[(0,.ref 9000 0 0)],[]⟩]⟩) ?_ ?_
      · exact leX []
      · clear hx10;intro s7 y8 g9 hy8;(conv=>whnf);refine seq_in tOk ?_;(conv=>whnf);refine andI g9 (fun _ g9=>?_) (fun _ g9=>?_)
        · (conv=>whnf);refine seq_in tOk ?_;(conv=>whnf);obtain ⟨x14,hx14,g9⟩:=bd_some g9;refine loop_m tOk hx14 (fun s11=>⟨0,74,[(0,.ref 9000 0 0),(2,.d (.int .i64 a2)),(7,.d (.int .i64 s7.2.2.2.2.2.2)),(53,.d (.int .i64 ((a0.Links.length:Nat):Int))),(54,.d (.int .i64 s7.2.2.2.2.2.2)),(57,.d (.int .i64 s11.2.2.2.2.2.2))],[],[(9000,.box 29 [.osl 9001 0 s11.1.length,.osl 9002 0 s11.2.1.length,.osl 9003 0 s11.2.2.1.length,.osl 9004 0 s11.2.2.2.1.length,.osl 9005 0 s11.2.2.2.2.1.length,.osl 9006 0 s11.2.2.2.2.2.1.length]),(9001,.arr 42 6 s11.1.length (rows TreeBridge.enc s11.1)),(9002,.arr 66 3 s11.2.1.length (rows TreeLink.enc s11.2.1)),(9003,.arr 3 1 s11.2.2.1.length (rows encInt s11.2.2.1)),(9004,.arr 113 4 s11.2.2.2.1.length (rows TreeSlot.enc s11.2.2.2.1)),(9005,.arr 113 4 s11.2.2.2.2.1.length (rows TreeSlot.enc s11.2.2.2.2.1)),(9006,.arr 107 5 s11.2.2.2.2.2.1.length (rows TreeWord.enc s11.2.2.2.2.2.1))],[⟨[(0,.ref 9000 0 0)],[]⟩]⟩) ?_ ?_
          · exact leX []
          · clear hx14;intro s11 y12 g13 hy12;(conv=>whnf);refine seq_in tOk ?_;(conv=>whnf);refine andI g13 (fun _ g13=>?_) (fun _ g13=>?_)
            · (conv=>whnf);refine seq_in tOk ?_;(conv=>whnf);obtain ⟨x15,hx15,g13⟩:=bd_some g13;refine cC 0 (impl_TreeWorld_bridgeAt_c hx15) ?_;clear hx15;(conv=>whnf);refine andI g13 (fun _ g13=>?_) (fun _ g13=>?_)
              · (conv=>whnf);refine spI g13 (fun e16 g13=>?_) (fun e16 g13=>?_)
                · obtain ⟨x17,hx17,g13⟩:=bd_some g13;refine cE2 [(9000,9000),(9001,9001),(9002,9002),(9003,9003),(9004,9004),(9005,9005),(9006,9006)] 1000 (impl_TreeWorld_slot_r00_01_02_03_04_05_at_s1_c e16 hx17) ?_;(conv=>whnf);refine ⟨rows TreeSlot.enc (x17.2.AtA.set x17.1 (⟨(⟨0,0,0⟩:TreeVector),0⟩:TreeSlot)),store_rows' lenA rfl,?_⟩;(conv=>whnf);obtain rfl:=Option.some.inj g13;exact ⟨_,rfl,leX [.s [(6001,9001),(6002,9002),(6003,9003),(6004,9004),(6005,9005),(6006,9006),(9001,6001),(9002,6002),(9003,6003),(9004,6004),(9005,6005),(9006,6006)]]⟩
                · obtain ⟨x18,hx18,g13⟩:=bd_some g13;refine cE2 [(9000,9000),(9001,9001),(9002,9002),(9003,9003),(9004,9004),(9005,9005),(9006,9006)] 1000 (impl_TreeWorld_slot_r00_01_02_03_04_05_at_s0_c e16 hx18) ?_;(conv=>whnf);refine ⟨rows TreeSlot.enc (x18.2.AtB.set x18.1 (⟨(⟨0,0,0⟩:TreeVector),0⟩:TreeSlot)),store_rows' lenA rfl,?_⟩;(conv=>whnf);obtain rfl:=Option.some.inj g13;exact ⟨_,rfl,leX [.s [(6001,9001),(6002,9002),(6003,9003),(6004,9004),(6005,9005),(6006,9006),(9001,6001),(9002,6002),(9003,6003),(9004,6004),(9005,6005),(9006,6006)]]⟩
              · (conv=>whnf);obtain rfl:=Option.some.inj g13;exact ⟨_,rfl,leX []⟩
            · (conv=>whnf);obtain rfl:=Option.some.inj g13;obtain rfl:=hy12 _ rfl;obtain rfl:=Option.some.inj g9;exact ⟨_,rfl,leX []⟩
        · (conv=>whnf);obtain rfl:=Option.some.inj g9;obtain rfl:=hy8 _ rfl;obtain rfl:=Option.some.inj h;exact lfE [.s [(5001,9001),(5002,9002),(5003,9003),(5004,9004),(5005,9005),(5006,9006),(9001,5001),(9002,5002),(9003,5003),(9004,5004),(9005,5005),(9006,5006)]]
noncomputable def impl_TreeWorld_onLink_r01_k00_01_02_03_04_05_m (a0:TreeWorld) (a1:TreeEvent):Option (TreeWorld) :=
 bd (impl_TreeWorld_isLink_m a0 a1.At) fun x1 =>
(if (!x1) = true then
 some a0
else
 bd (slices_BinarySearch_int_int_m a0.Down a1.At) fun x2 =>
(if (a1.Kind == 1) = true then
 bd (impl_within_m a1.End 0 1) fun x3 =>
 bd (gcall (x3 = true) (impl_TreeWorld_open_m a0 a1.At)) fun x4 =>
(if (x3 && x4) = true then
 bd (impl_TreeWorld_told_m a0 a1.At a1.End) fun x5 =>
 bd (impl_TreeWorld_put_r00_01_02_03_04_m a0 (⟨a1.At,a1.End,x5⟩:TreeWord)) fun x6 =>
 some x6
else
 some a0)
else
(if (a1.Kind == 8) = true then
 bd (α:=List Int) ((if (!x2.2) = true then
 bd (slices_Insert_int_int_m a0.Down x2.1 ([a1.At]:List Int)) fun x10 =>
 some x10
else
 some a0.Down)) fun x7 =>
 bd (lp (σ:=List Int × List TreeBridge × List TreeLink × List TreeSlot × List TreeSlot × List TreeWord × Int) (β:=((List Int) × Nat × Nat × Nat × Nat × Nat × Nat × (List TreeBridge) × (List TreeLink) × (List TreeSlot) × (List TreeSlot) × (List TreeWord))) (fun s11 =>
(if (decide (s11.2.2.2.2.2.2<2)) = true then
(if (s11.2.2.2.2.2.2 == 0) = true then
 bd (impl_TreeWorld_slot_r00_01_02_03_04_05_at_s1_m (⟨s11.2.1,s11.2.2.1,s11.1,s11.2.2.2.1,s11.2.2.2.2.1,s11.2.2.2.2.2.1⟩:TreeWorld) a1.At s11.2.2.2.2.2.2) fun x16 =>
 bd (impl_TreeWorld_bridgeAt_m ({ x16.2 with AtA:=x16.2.AtA.set x16.1 (⟨(⟨0,0,0⟩:TreeVector),0⟩:TreeSlot) }) a1.At s11.2.2.2.2.2.2) fun x17 =>
 bd (impl_TreeWorld_rethink_r01_02_03_04_05_m ({ x16.2 with AtA:=x16.2.AtA.set x16.1 (⟨(⟨0,0,0⟩:TreeVector),0⟩:TreeSlot) }) x17) fun x18 =>
 some (.inl (x18.Down,x18.Bridges,x18.Links,x18.AtA,x18.AtB,x18.Radio,IntKind.i64.wrap (s11.2.2.2.2.2.2+1)))
else
 bd (impl_TreeWorld_slot_r00_01_02_03_04_05_at_s0_m (⟨s11.2.1,s11.2.2.1,s11.1,s11.2.2.2.1,s11.2.2.2.2.1,s11.2.2.2.2.2.1⟩:TreeWorld) a1.At s11.2.2.2.2.2.2) fun x19 =>
 bd (impl_TreeWorld_bridgeAt_m ({ x19.2 with AtB:=x19.2.AtB.set x19.1 (⟨(⟨0,0,0⟩:TreeVector),0⟩:TreeSlot) }) a1.At s11.2.2.2.2.2.2) fun x20 =>
 bd (impl_TreeWorld_rethink_r01_02_03_04_05_m ({ x19.2 with AtB:=x19.2.AtB.set x19.1 (⟨(⟨0,0,0⟩:TreeVector),0⟩:TreeSlot) }) x20) fun x21 =>
 some (.inl (x21.Down,x21.Bridges,x21.Links,x21.AtA,x21.AtB,x21.Radio,IntKind.i64.wrap (s11.2.2.2.2.2.2+1))))
else
 some (.inr (s11.1,s11.1.length,s11.2.1.length,s11.2.2.1.length,s11.2.2.2.1.length,s11.2.2.2.2.1.length,s11.2.2.2.2.2.1.length,s11.2.1,s11.2.2.1,s11.2.2.2.1,s11.2.2.2.2.1,s11.2.2.2.2.2.1)))) (x7,a0.Bridges,a0.Links,a0.AtA,a0.AtB,a0.Radio,0)) fun x14 =>
 some (⟨x14.2.2.2.2.2.2.2.1,x14.2.2.2.2.2.2.2.2.1,x14.1,x14.2.2.2.2.2.2.2.2.2.1,x14.2.2.2.2.2.2.2.2.2.2.1,x14.2.2.2.2.2.2.2.2.2.2.2⟩:TreeWorld)
else
(if (a1.Kind == 9) = true then
(if x2.2 = true then
 bd (slices_Delete_int_int_m a0.Down x2.1 (IntKind.i64.wrap (x2.1+1))) fun x23 =>
 some ({ a0 with Down:=x23 })
else
 some a0)
else
 some a0))))
theorem impl_TreeWorld_onLink_r01_k00_01_02_03_04_05_c {a0:TreeWorld} {a1:TreeEvent} {r:TreeWorld} (h:impl_TreeWorld_onLink_r01_k00_01_02_03_04_05_m a0 a1 = some r):EffC Tryz.prog 30 [.ref 9000 0 0,.agg [.d (.int .i64 a1.Kind),.d (.int .i64 a1.At),.d (.int .i64 a1.End)]] [(9000,.box 29 [.osl 9001 0 a0.Bridges.length,.osl 9002 0 a0.Links.length,.osl 9003 0 a0.Down.length,.osl 9004 0 a0.AtA.length,.osl 9005 0 a0.AtB.length,.osl 9006 0 a0.Radio.length]),(9001,.arr 42 6 a0.Bridges.length (rows TreeBridge.enc a0.Bridges)),(9002,.arr 66 3 a0.Links.length (rows TreeLink.enc a0.Links)),(9003,.arr 3 1 a0.Down.length (rows encInt a0.Down)),(9004,.arr 113 4 a0.AtA.length (rows TreeSlot.enc a0.AtA)),(9005,.arr 113 4 a0.AtB.length (rows TreeSlot.enc a0.AtB)),(9006,.arr 107 5 a0.Radio.length (rows TreeWord.enc a0.Radio))] (.tup []) [(9000,.box 29 [.osl 5001 0 r.Bridges.length,.osl 5002 0 r.Links.length,.osl 5003 0 r.Down.length,.osl 5004 0 r.AtA.length,.osl 5005 0 r.AtB.length,.osl 5006 0 r.Radio.length]),(5001,.arr 42 6 r.Bridges.length (rows TreeBridge.enc r.Bridges)),(5002,.arr 66 3 r.Links.length (rows TreeLink.enc r.Links)),(5003,.arr 3 1 r.Down.length (rows encInt r.Down)),(5004,.arr 113 4 r.AtA.length (rows TreeSlot.enc r.AtA)),(5005,.arr 113 4 r.AtB.length (rows TreeSlot.enc r.AtB)),(5006,.arr 107 5 r.Radio.length (rows TreeWord.enc r.Radio))]:=by
  refine effC_x tOk (fn:=Tryz.f30) (c:=codeOf Tryz.f30) rfl rfl ?_;unfold impl_TreeWorld_onLink_r01_k00_01_02_03_04_05_m at h;(conv=>whnf);refine seq_in tOk ?_;(conv=>whnf);obtain ⟨x1,hx1,h⟩:=bd_some h;refine cC 0 (impl_TreeWorld_isLink_c hx1) ?_;clear hx1;(conv=>whnf);refine andI h (fun _ h=>?_) (fun _ h=>?_)
  · (conv=>whnf);obtain rfl:=Option.some.inj h;exact lfE [.s [(5001,9001),(5002,9002),(5003,9003),(5004,9004),(5005,9005),(5006,9006),(9001,5001),(9002,5002),(9003,5003),(9004,5004),(9005,5005),(9006,5006)]]
  · (conv=>whnf);obtain ⟨x2,hx2,h⟩:=bd_some h;refine draw_u tOk [.u 6 0 (.tup [.d (.int .i64 x2.1),.d (.bool x2.2)]) []] 12 [] [0,1,3,7,0,16,63,127,255,255,511,2047] [] ?_;(conv=>whnf);refine And.intro (callD_any (slices_BinarySearch_int_int_c hx2) (by kernel_rfl)) ?_;(conv=>whnf);refine And.intro (by kernel_rfl) ?_;(conv=>whnf);refine andI h (fun _ h=>?_) (fun _ h=>?_)
    · (conv=>whnf);obtain ⟨x3,hx3,h⟩:=bd_some h;refine cC 0 (impl_within_c hx3) ?_;clear hx3;(conv=>whnf);obtain ⟨x4,hx4,h⟩:=bd_some h;refine cG (fun c0=>impl_TreeWorld_open_c (gcall_some hx4 c0)) ?_;(conv=>whnf);refine andI h (fun _ h=>?_) (fun _ h=>?_)
      · (conv=>whnf);obtain ⟨x5,hx5,h⟩:=bd_some h;obtain ⟨x6,hx6,h⟩:=bd_some h;refine draw_t tOk [.r 10 [(9000,.box 29 [.osl 9001 0 a0.Bridges.length,.osl 9002 0 a0.Links.length,.osl 9003 0 a0.Down.length,.osl 9004 0 a0.AtA.length,.osl 9005 0 a0.AtB.length,.osl 9006 0 a0.Radio.length]),(9001,.arr 42 6 a0.Bridges.length (rows TreeBridge.enc a0.Bridges)),(9002,.arr 66 3 a0.Links.length (rows TreeLink.enc a0.Links)),(9003,.arr 3 1 a0.Down.length (rows encInt a0.Down)),(9004,.arr 113 4 a0.AtA.length (rows TreeSlot.enc a0.AtA)),(9005,.arr 113 4 a0.AtB.length (rows TreeSlot.enc a0.AtB)),(9006,.arr 107 5 a0.Radio.length (rows TreeWord.enc a0.Radio))] (.agg [.d (.int .i64 x5.Root),.d (.int .i64 x5.Cost),.d (.int .i64 x5.Age)]) [],.e 12 [(9000,.box 29 [.osl 9001 0 a0.Bridges.length,.osl 9002 0 a0.Links.length,.osl 9003 0 a0.Down.length,.osl 9004 0 a0.AtA.length,.osl 9005 0 a0.AtB.length,.osl 9006 0 a0.Radio.length]),(9001,.arr 42 6 a0.Bridges.length (rows TreeBridge.enc a0.Bridges)),(9002,.arr 66 3 a0.Links.length (rows TreeLink.enc a0.Links)),(9003,.arr 3 1 a0.Down.length (rows encInt a0.Down)),(9004,.arr 113 4 a0.AtA.length (rows TreeSlot.enc a0.AtA)),(9005,.arr 113 4 a0.AtB.length (rows TreeSlot.enc a0.AtB)),(9006,.arr 107 5 a0.Radio.length (rows TreeWord.enc a0.Radio))] (.tup []) [] [(6001,.arr 42 6 x6.Bridges.length (rows TreeBridge.enc x6.Bridges)),(6002,.arr 66 3 x6.Links.length (rows TreeLink.enc x6.Links)),(6003,.arr 3 1 x6.Down.length (rows encInt x6.Down)),(6004,.arr 113 4 x6.AtA.length (rows TreeSlot.enc x6.AtA)),(6005,.arr 113 4 x6.AtB.length (rows TreeSlot.enc x6.AtB)),(6006,.arr 107 5 x6.Radio.length (rows TreeWord.enc x6.Radio)),(9000,.box 29 [.osl 6001 0 x6.Bridges.length,.osl 6002 0 x6.Links.length,.osl 6003 0 x6.Down.length,.osl 6004 0 x6.AtA.length,.osl 6005 0 x6.AtB.length,.osl 6006 0 x6.Radio.length])]] 13 [] [0,0,2,0,8,0,0,64,0,256,992,2046,4095] [] [9000,9001,9002,9003,9004,9005,9006] ?_;(conv=>whnf);refine And.intro (eD [(9000,9000),(9001,9001),(9002,9002),(9003,9003),(9004,9004),(9005,9005),(9006,9006)] 0 ((impl_TreeWorld_told_c hx5).effV (args:=[.ref 9000 0 0,.d (.int .i64 a1.At),.d (.int .i64 a1.End)]) (bs:=[(9000,.box 29 [.osl 9001 0 a0.Bridges.length,.osl 9002 0 a0.Links.length,.osl 9003 0 a0.Down.length,.osl 9004 0 a0.AtA.length,.osl 9005 0 a0.AtB.length,.osl 9006 0 a0.Radio.length]),(9001,.arr 42 6 a0.Bridges.length (rows TreeBridge.enc a0.Bridges)),(9002,.arr 66 3 a0.Links.length (rows TreeLink.enc a0.Links)),(9003,.arr 3 1 a0.Down.length (rows encInt a0.Down)),(9004,.arr 113 4 a0.AtA.length (rows TreeSlot.enc a0.AtA)),(9005,.arr 113 4 a0.AtB.length (rows TreeSlot.enc a0.AtB)),(9006,.arr 107 5 a0.Radio.length (rows TreeWord.enc a0.Radio))]) rfl (by kernel_rfl) rfl rfl rfl)) ?_;(conv=>whnf);refine And.intro (eH [(9000,9000),(9001,9001),(9002,9002),(9003,9003),(9004,9004),(9005,9005),(9006,9006)] 1000 (impl_TreeWorld_put_r00_01_02_03_04_c hx6)) ?_;(conv=>whnf);refine And.intro (by kernel_rfl) ?_;(conv=>whnf);obtain rfl:=Option.some.inj h;exact lfE [.s [(5001,6001),(5002,6002),(5003,6003),(5004,6004),(5005,6005),(5006,6006),(6001,5001),(6002,5002),(6003,5003),(6004,5004),(6005,5005),(6006,5006)]]
      · (conv=>whnf);obtain rfl:=Option.some.inj h;exact lfE [.s [(5001,9001),(5002,9002),(5003,9003),(5004,9004),(5005,9005),(5006,9006),(9001,5001),(9002,5002),(9003,5003),(9004,5004),(9005,5005),(9006,5006)]]
    · (conv=>whnf);refine andI h (fun _ h=>?_) (fun _ h=>?_)
      · (conv=>whnf);obtain ⟨x7,hx7,h⟩:=bd_some h;refine seq_join tOk (fun s8=>⟨0,96,[(0,.ref 9000 0 0),(3,.ref 3 0 0)],[],[(6001,.arr 3 1 s8.length (rows encInt s8)),(3,.box 36 [.d (.int .i64 a1.Kind),.d (.int .i64 a1.At),.d (.int .i64 a1.End)]),(9000,.box 29 [.osl 9001 0 a0.Bridges.length,.osl 9002 0 a0.Links.length,.osl 6001 0 s8.length,.osl 9004 0 a0.AtA.length,.osl 9005 0 a0.AtB.length,.osl 9006 0 a0.Radio.length]),(9001,.arr 42 6 a0.Bridges.length (rows TreeBridge.enc a0.Bridges)),(9002,.arr 66 3 a0.Links.length (rows TreeLink.enc a0.Links)),(9004,.arr 113 4 a0.AtA.length (rows TreeSlot.enc a0.AtA)),(9005,.arr 113 4 a0.AtB.length (rows TreeSlot.enc a0.AtB)),(9006,.arr 107 5 a0.Radio.length (rows TreeWord.enc a0.Radio))],[⟨[(0,.ref 9000 0 0)],[]⟩]⟩) (fun s8=>x7 = s8) ?_ ?_
        · (conv=>whnf);refine andI hx7 (fun _ hx7=>?_) (fun _ hx7=>?_)
          · (conv=>whnf);obtain ⟨x10,hx10,hx7⟩:=bd_some hx7;refine draw_t tOk [.a 8 [] (.osl 60 0 (([a1.At]:List Int).length)) [(60,.arr 3 1 (([a1.At]:List Int).length) (rows encInt ([a1.At]:List Int)))],.e 9 [(9003,.arr 3 1 a0.Down.length (rows encInt a0.Down)),(60,.arr 3 1 (([a1.At]:List Int).length) (rows encInt ([a1.At]:List Int)))] (.osl 6001 0 x10.length) [(6001,.arr 3 1 x10.length (rows encInt x10))] []] 12 [] [0,0,2,6,14,0,0,64,192,510,1023,2047] [4095] [9003] ?_;(conv=>whnf);refine And.intro (by (conv=>whnf); exact bldS (enc:=encInt) ([a1.At]:List Int) ⟨rfl,rfl⟩) ?_;(conv=>whnf);refine And.intro (eD [(9000,9003),(9001,60)] 1000 (slices_Insert_int_int_c hx10)) ?_;(conv=>whnf);refine And.intro (by kernel_rfl) ?_;(conv=>whnf);obtain rfl:=Option.some.inj hx7;exact ⟨_,rfl,leX []⟩
          · (conv=>whnf);obtain rfl:=Option.some.inj hx7;exact ⟨_,rfl,leX [.s [(6001,9003),(9003,6001)]]⟩
        · rintro _ rfl;(conv=>whnf);obtain ⟨x14,hx14,h⟩:=bd_some h;refine loop_m tOk hx14 (fun s11=>⟨0,96,[(0,.ref 9000 0 0),(3,.ref 3 0 0),(64,.d (.int .i64 s11.2.2.2.2.2.2))],[],[(6001,.arr 3 1 s11.1.length (rows encInt s11.1)),(3,.box 36 [.d (.int .i64 a1.Kind),.d (.int .i64 a1.At),.d (.int .i64 a1.End)]),(9000,.box 29 [.osl 9001 0 s11.2.1.length,.osl 9002 0 s11.2.2.1.length,.osl 6001 0 s11.1.length,.osl 9004 0 s11.2.2.2.1.length,.osl 9005 0 s11.2.2.2.2.1.length,.osl 9006 0 s11.2.2.2.2.2.1.length]),(9001,.arr 42 6 s11.2.1.length (rows TreeBridge.enc s11.2.1)),(9002,.arr 66 3 s11.2.2.1.length (rows TreeLink.enc s11.2.2.1)),(9004,.arr 113 4 s11.2.2.2.1.length (rows TreeSlot.enc s11.2.2.2.1)),(9005,.arr 113 4 s11.2.2.2.2.1.length (rows TreeSlot.enc s11.2.2.2.2.1)),(9006,.arr 107 5 s11.2.2.2.2.2.1.length (rows TreeWord.enc s11.2.2.2.2.2.1))],[⟨[(0,.ref 9000 0 0)],[]⟩]⟩) ?_ ?_
          · exact leX []
          · clear hx14;intro s11 y12 g13 hy12;(conv=>whnf);refine seq_in tOk ?_;(conv=>whnf);refine andI g13 (fun _ g13=>?_) (fun _ g13=>?_)
            · (conv=>whnf);refine seq_in tOk ?_;(conv=>whnf);refine spI g13 (fun e15 g13=>?_) (fun e15 g13=>?_)
              · obtain ⟨x16,hx16,g13⟩:=bd_some g13;refine cE2 [(9000,9000),(9001,9001),(9002,9002),(9003,6001),(9004,9004),(9005,9005),(9006,9006)] 2000 (impl_TreeWorld_slot_r00_01_02_03_04_05_at_s1_c e15 hx16) ?_;(conv=>whnf);refine ⟨rows TreeSlot.enc (x16.2.AtA.set x16.1 (⟨(⟨0,0,0⟩:TreeVector),0⟩:TreeSlot)),store_rows' lenA rfl,?_⟩;(conv=>whnf);obtain ⟨x17,hx17,g13⟩:=bd_some g13;refine callW 0 (impl_TreeWorld_bridgeAt_c hx17) rfl argA rfl ?_;(conv=>whnf);obtain ⟨x18,hx18,g13⟩:=bd_some g13;refine cE2 [(9000,9000),(9001,7001),(9002,7002),(9003,7003),(9004,7004),(9005,7005),(9006,7006)] 1000 (impl_TreeWorld_rethink_r01_02_03_04_05_c hx18) ?_;(conv=>whnf);obtain rfl:=Option.some.inj g13;exact ⟨_,rfl,leX [.s [(6001,9001),(6002,9002),(6003,6001),(6004,9004),(6005,9005),(6006,9006),(9001,6003),(9002,6002),(9004,6004),(9005,6005),(9006,6006)]]⟩
              · obtain ⟨x19,hx19,g13⟩:=bd_some g13;refine cE2 [(9000,9000),(9001,9001),(9002,9002),(9003,6001),(9004,9004),(9005,9005),(9006,9006)] 2000 (impl_TreeWorld_slot_r00_01_02_03_04_05_at_s0_c e15 hx19) ?_;(conv=>whnf);refine ⟨rows TreeSlot.enc (x19.2.AtB.set x19.1 (⟨(⟨0,0,0⟩:TreeVector),0⟩:TreeSlot)),store_rows' lenA rfl,?_⟩;(conv=>whnf);obtain ⟨x20,hx20,g13⟩:=bd_some g13;refine callW 0 (impl_TreeWorld_bridgeAt_c hx20) rfl argA rfl ?_;(conv=>whnf);obtain ⟨x21,hx21,g13⟩:=bd_some g13;refine cE2 [(9000,9000),(9001,7001),(9002,7002),(9003,7003),(9004,7004),(9005,7005),(9006,7006)] 1000 (impl_TreeWorld_rethink_r01_02_03_04_05_c hx21) ?_;(conv=>whnf);obtain rfl:=Option.some.inj g13;exact ⟨_,rfl,leX [.s [(6001,9001),(6002,9002),(6003,6001),(6004,9004),(6005,9005),(6006,9006),(9001,6003),(9002,6002),(9004,6004),(9005,6005),(9006,6006)]]⟩
            · (conv=>whnf);obtain rfl:=Option.some.inj g13;obtain rfl:=hy12 _ rfl;obtain rfl:=Option.some.inj h;exact lfE [.s [(5001,9001),(5002,9002),(5003,6001),(5004,9004),(5005,9005),(5006,9006),(6001,5003),(9001,5001),(9002,5002),(9004,5004),(9005,5005),(9006,5006)]]
      · (conv=>whnf);refine andI h (fun _ h=>?_) (fun _ h=>?_)
        · (conv=>whnf);refine andI h (fun _ h=>?_) (fun _ h=>?_)
          · (conv=>whnf);obtain ⟨x23,hx23,h⟩:=bd_some h;refine cE [(9000,9003)] 1000 (slices_Delete_int_int_c hx23) ?_;(conv=>whnf);obtain rfl:=Option.some.inj h;exact lfE [.s [(5001,9001),(5002,9002),(5003,6001),(5004,9004),(5005,9005),(5006,9006),(6001,5003),(9001,5001),(9002,5002),(9004,5004),(9005,5005),(9006,5006)]]
          · (conv=>whnf);obtain rfl:=Option.some.inj h;exact lfE [.s [(5001,9001),(5002,9002),(5003,9003),(5004,9004),(5005,9005),(5006,9006),(9001,5001),(9002,5002),(9003,5003),(9004,5004),(9005,5005),(9006,5006)]]
        · (conv=>whnf);obtain rfl:=Option.some.inj h;exact lfE [.s [(5001,9001),(5002,9002),(5003,9003),(5004,9004),(5005,9005),(5006,9006),(9001,5001),(9002,5002),(9003,5003),(9004,5004),(9005,5005),(9006,5006)]]
noncomputable def impl_TreeStep_pu_o00_01_02_03_04_05_m (a0:TreeWorld) (a1:TreeEvent):Option (TreeWorld) :=
 bd (impl_TreeWorldOk_m a0) fun x1 =>
(if (!x1) = true then
 some (⟨[],[],[],[],[],[]⟩:TreeWorld)
else
 bd (impl_copyTree_m a0) fun x2 =>
 bd (α:=Bool) ((if (a1.Kind == 2) = true then
 some (a1.Kind == 2)
else
(if (a1.Kind == 3) = true then
 some (a1.Kind == 3)
else
 some (a1.Kind == 4)))) fun x3 =>
(if x3 = true then
 bd (impl_TreeWorld_onWord_r01_02_k00_01_02_03_04_05_m x2 a1.Kind a1.At) fun x6 =>
 some x6
else
(if (a1.Kind == 5) = true then
 bd (impl_TreeWorld_tick_r01_02_05_k04_m x2) fun x7 =>
 some x7
else
 bd (α:=Bool) ((if (a1.Kind == 6) = true then
 some (a1.Kind == 6)
else
 some (a1.Kind == 7))) fun x8 =>
(if x8 = true then
 bd (impl_TreeWorld_onBridge_r01_02_05_k00_m x2 a1.Kind a1.At) fun x11 =>
 some x11
else
 bd (impl_TreeWorld_onLink_r01_k00_01_02_03_04_05_m x2 a1) fun x12 =>
 some x12))))
theorem impl_TreeStep_pu_o00_01_02_03_04_05_c {a0:TreeWorld} {a1:TreeEvent} {r:TreeWorld} (h:impl_TreeStep_pu_o00_01_02_03_04_05_m a0 a1 = some r):PureC Tryz.prog 8 [.agg [.d (slD TreeBridge.enc a0.Bridges),.d (slD TreeLink.enc a0.Links),.d (slD encInt a0.Down),.d (slD TreeSlot.enc a0.AtA),.d (slD TreeSlot.enc a0.AtB),.d (slD TreeWord.enc a0.Radio)],.agg [.d (.int .i64 a1.Kind),.d (.int .i64 a1.At),.d (.int .i64 a1.End)]] (.agg [.osl 5001 0 r.Bridges.length,.osl 5002 0 r.Links.length,.osl 5003 0 r.Down.length,.osl 5004 0 r.AtA.length,.osl 5005 0 r.AtB.length,.osl 5006 0 r.Radio.length]) [⟨5001,42,6,r.Bridges.length,rows TreeBridge.enc r.Bridges⟩,⟨5002,66,3,r.Links.length,rows TreeLink.enc r.Links⟩,⟨5003,3,1,r.Down.length,rows encInt r.Down⟩,⟨5004,113,4,r.AtA.length,rows TreeSlot.enc r.AtA⟩,⟨5005,113,4,r.AtB.length,rows TreeSlot.enc r.AtB⟩,⟨5006,107,5,r.Radio.length,rows TreeWord.enc r.Radio⟩]:=by
  refine EffC.pure (M:=[(5001,.arr 42 6 r.Bridges.length (rows TreeBridge.enc r.Bridges)),(5002,.arr 66 3 r.Links.length (rows TreeLink.enc r.Links)),(5003,.arr 3 1 r.Down.length (rows encInt r.Down)),(5004,.arr 113 4 r.AtA.length (rows TreeSlot.enc r.AtA)),(5005,.arr 113 4 r.AtB.length (rows TreeSlot.enc r.AtB)),(5006,.arr 107 5 r.Radio.length (rows TreeWord.enc r.Radio))]) ?_;refine effC_x tOk (fn:=Tryz.f8) (c:=codeOf Tryz.f8) rfl rfl ?_;unfold impl_TreeStep_pu_o00_01_02_03_04_05_m at h;(conv=>whnf);refine seq_in tOk ?_;(conv=>whnf);obtain ⟨x1,hx1,h⟩:=bd_some h;refine cC 0 (impl_TreeWorldOk_c hx1) ?_;clear hx1;(conv=>whnf);refine andI h (fun _ h=>?_) (fun _ h=>?_)
  · (conv=>whnf);obtain rfl:=Option.some.inj h;exact lfE [.k [2,3],.p 5001 42 6 (rows TreeBridge.enc ([]:List TreeBridge)),.p 5002 66 3 (rows TreeLink.enc ([]:List TreeLink)),.p 5003 3 1 (rows encInt ([]:List Int)),.p 5004 113 4 (rows TreeSlot.enc ([]:List TreeSlot)),.p 5005 113 4 (rows TreeSlot.enc ([]:List TreeSlot)),.p 5006 107 5 (rows TreeWord.enc ([]:List TreeWord))]
  · (conv=>whnf);obtain ⟨x2,hx2,h⟩:=bd_some h;refine cC 1000 (impl_copyTree_c hx2) ?_;clear hx2;(conv=>whnf);refine seq_in tOk ?_;(conv=>whnf);obtain ⟨x3,hx3,h⟩:=bd_some h;refine seq_join tOk (fun s4=>⟨0,37,[(3,.ref 3 0 0),(4,.ref 4 0 0),(5,.ref 5 0 0),(13,.d (.int .i64 a1.Kind)),(16,.d (.bool s4))],[],[(5,.box 29 [.osl 6001 0 x2.Bridges.length,.osl 6002 0 x2.Links.length,.osl 6003 0 x2.Down.length,.osl 6004 0 x2.AtA.length,.osl 6005 0 x2.AtB.length,.osl 6006 0 x2.Radio.length]),(6006,.arr 107 5 x2.Radio.length (rows TreeWord.enc x2.Radio)),(6005,.arr 113 4 x2.AtB.length (rows TreeSlot.enc x2.AtB)),(6004,.arr 113 4 x2.AtA.length (rows TreeSlot.enc x2.AtA)),(6003,.arr 3 1 x2.Down.length (rows encInt x2.Down)),(6002,.arr 66 3 x2.Links.length (rows TreeLink.enc x2.Links)),(6001,.arr 42 6 x2.Bridges.length (rows TreeBridge.enc x2.Bridges)),(4,.box 29 [.d (.nil),.d (.nil),.d (.nil),.d (.nil),.d (.nil),.d (.nil)]),(3,.box 36 [.d (.int .i64 a1.Kind),.d (.int .i64 a1.At),.d (.int .i64 a1.End)])],[⟨[],[]⟩]⟩) (fun s4=>x3 = s4) ?_ ?_
    · (conv=>whnf);refine andI hx3 (fun _ hx3=>?_) (fun _ hx3=>?_)
      · (conv=>whnf);obtain rfl:=Option.some.inj hx3;exact ⟨_,rfl,leX []⟩
      · (conv=>whnf);refine andI hx3 (fun _ hx3=>?_) (fun _ hx3=>?_)
        · (conv=>whnf);obtain rfl:=Option.some.inj hx3;exact ⟨_,rfl,leX []⟩
        · (conv=>whnf);obtain rfl:=Option.some.inj hx3;exact ⟨_,rfl,leX []⟩
    · rintro _ rfl;(conv=>whnf);refine andI h (fun _ h=>?_) (fun _ h=>?_)
      · (conv=>whnf);obtain ⟨x6,hx6,h⟩:=bd_some h;refine cE2 [(9000,5),(9001,6001),(9002,6002),(9003,6003),(9004,6004),(9005,6005),(9006,6006)] 2000 (impl_TreeWorld_onWord_r01_02_k00_01_02_03_04_05_c hx6) ?_;(conv=>whnf);obtain rfl:=Option.some.inj h;exact lfE [.s [(5001,7001),(5002,7002),(5003,7003),(5004,7004),(5005,7005),(5006,7006),(7001,5001),(7002,5002),(7003,5003),(7004,5004),(7005,5005),(7006,5006)]]
      · (conv=>whnf);refine andI h (fun _ h=>?_) (fun _ h=>?_)
        · (conv=>whnf);obtain ⟨x7,hx7,h⟩:=bd_some h;refine cE2 [(9000,5),(9001,6001),(9002,6002),(9003,6003),(9004,6004),(9005,6005),(9006,6006)] 2000 (impl_TreeWorld_tick_r01_02_05_k04_c hx7) ?_;(conv=>whnf);obtain rfl:=Option.some.inj h;exact lfE [.s [(5001,7001),(5002,7002),(5003,7003),(5004,7004),(5005,7005),(5006,7006),(7001,5001),(7002,5002),(7003,5003),(7004,5004),(7005,5005),(7006,5006)]]
        · (conv=>whnf);obtain ⟨x8,hx8,h⟩:=bd_some h;refine seq_join tOk (fun s9=>⟨0,37,[(3,.ref 3 0 0),(4,.ref 4 0 0),(5,.ref 5 0 0),(28,.d (.bool s9))],[],[(5,.box 29 [.osl 6001 0 x2.Bridges.length,.osl 6002 0 x2.Links.length,.osl 6003 0 x2.Down.length,.osl 6004 0 x2.AtA.length,.osl 6005 0 x2.AtB.length,.osl 6006 0 x2.Radio.length]),(6006,.arr 107 5 x2.Radio.length (rows TreeWord.enc x2.Radio)),(6005,.arr 113 4 x2.AtB.length (rows TreeSlot.enc x2.AtB)),(6004,.arr 113 4 x2.AtA.length (rows TreeSlot.enc x2.AtA)),(6003,.arr 3 1 x2.Down.length (rows encInt x2.Down)),(6002,.arr 66 3 x2.Links.length (rows TreeLink.enc x2.Links)),(6001,.arr 42 6 x2.Bridges.length (rows TreeBridge.enc x2.Bridges)),(4,.box 29 [.d (.nil),.d (.nil),.d (.nil),.d (.nil),.d (.nil),.d (.nil)]),(3,.box 36 [.d (.int .i64 a1.Kind),.d (.int .i64 a1.At),.d (.int .i64 a1.End)])],[⟨[],[]⟩]⟩) (fun s9=>x8 = s9) ?_ ?_
          · (conv=>whnf);refine andI hx8 (fun _ hx8=>?_) (fun _ hx8=>?_)
            · (conv=>whnf);obtain rfl:=Option.some.inj hx8;exact ⟨_,rfl,leX []⟩
            · (conv=>whnf);obtain rfl:=Option.some.inj hx8;exact ⟨_,rfl,leX []⟩
          · rintro _ rfl;(conv=>whnf);refine andI h (fun _ h=>?_) (fun _ h=>?_)
            · (conv=>whnf);obtain ⟨x11,hx11,h⟩:=bd_some h;refine cE2 [(9000,5),(9001,6001),(9002,6002),(9003,6003),(9004,6004),(9005,6005),(9006,6006)] 2000 (impl_TreeWorld_onBridge_r01_02_05_k00_c hx11) ?_;(conv=>whnf);obtain rfl:=Option.some.inj h;exact lfE [.s [(5001,7001),(5002,7002),(5003,7003),(5004,7004),(5005,7005),(5006,7006),(7001,5001),(7002,5002),(7003,5003),(7004,5004),(7005,5005),(7006,5006)]]
            · (conv=>whnf);obtain ⟨x12,hx12,h⟩:=bd_some h;refine cE2 [(9000,5),(9001,6001),(9002,6002),(9003,6003),(9004,6004),(9005,6005),(9006,6006)] 2000 (impl_TreeWorld_onLink_r01_k00_01_02_03_04_05_c hx12) ?_;(conv=>whnf);obtain rfl:=Option.some.inj h;exact lfE [.s [(5001,7001),(5002,7002),(5003,7003),(5004,7004),(5005,7005),(5006,7006),(7001,5001),(7002,5002),(7003,5003),(7004,5004),(7005,5005),(7006,5006)]]
noncomputable def laws_eqTreeVector_m (a0:TreeVector) (a1:TreeVector):Option (Bool) :=
(if (a0.Root != a1.Root) = true then
 some false
else
(if (a0.Cost != a1.Cost) = true then
 some false
else
(if (a0.Age != a1.Age) = true then
 some false
else
 some true)))
theorem laws_eqTreeVector_c {a0:TreeVector} {a1:TreeVector} {r:Bool} (h:laws_eqTreeVector_m a0 a1 = some r):PureC Tryz.prog 145 [.agg [.d (.int .i64 a0.Root),.d (.int .i64 a0.Cost),.d (.int .i64 a0.Age)],.agg [.d (.int .i64 a1.Root),.d (.int .i64 a1.Cost),.d (.int .i64 a1.Age)]] (.d (.bool r)) []:=by
  refine pureC_x tOk (fn:=Tryz.f145) (c:=codeOf Tryz.f145) rfl rfl ?_;unfold laws_eqTreeVector_m at h;(conv=>whnf);refine seq_in tOk ?_;(conv=>whnf);refine andI h (fun _ h=>?_) (fun _ h=>?_)
  · (conv=>whnf);obtain rfl:=Option.some.inj h;exact lfP []
  · (conv=>whnf);refine seq_in tOk ?_;(conv=>whnf);refine andI h (fun _ h=>?_) (fun _ h=>?_)
    · (conv=>whnf);obtain rfl:=Option.some.inj h;exact lfP []
    · (conv=>whnf);refine seq_in tOk ?_;(conv=>whnf);refine andI h (fun _ h=>?_) (fun _ h=>?_)
      · (conv=>whnf);obtain rfl:=Option.some.inj h;exact lfP []
      · (conv=>whnf);obtain rfl:=Option.some.inj h;exact lfP []
noncomputable def laws_eqTreeMind_m (a0:TreeMind) (a1:TreeMind):Option (Bool) :=
 bd (laws_eqTreeVector_m a0.Vector a1.Vector) fun x1 =>
(if (!x1) = true then
 some false
else
(if (a0.Link != a1.Link) = true then
 some false
else
 some true))
theorem laws_eqTreeMind_c {a0:TreeMind} {a1:TreeMind} {r:Bool} (h:laws_eqTreeMind_m a0 a1 = some r):PureC Tryz.prog 144 [.agg [.d (.int .i64 a0.Vector.Root),.d (.int .i64 a0.Vector.Cost),.d (.int .i64 a0.Vector.Age),.d (.int .i64 a0.Link)],.agg [.d (.int .i64 a1.Vector.Root),.d (.int .i64 a1.Vector.Cost),.d (.int .i64 a1.Vector.Age),.d (.int .i64 a1.Link)]] (.d (.bool r)) []:=by
  refine pureC_x tOk (fn:=Tryz.f144) (c:=codeOf Tryz.f144) rfl rfl ?_;unfold laws_eqTreeMind_m at h;(conv=>whnf);refine seq_in tOk ?_;(conv=>whnf);obtain ⟨x1,hx1,h⟩:=bd_some h;refine cC 0 (laws_eqTreeVector_c hx1) ?_;clear hx1;(conv=>whnf);refine andI h (fun _ h=>?_) (fun _ h=>?_)
  · (conv=>whnf);obtain rfl:=Option.some.inj h;exact lfP []
  · (conv=>whnf);refine seq_in tOk ?_;(conv=>whnf);refine andI h (fun _ h=>?_) (fun _ h=>?_)
    · (conv=>whnf);obtain rfl:=Option.some.inj h;exact lfP []
    · (conv=>whnf);obtain rfl:=Option.some.inj h;exact lfP []
noncomputable def laws_eqTreeBridge_m (a0:TreeBridge) (a1:TreeBridge):Option (Bool) :=
(if (a0.Id != a1.Id) = true then
 some false
else
(if (!(a0.Up == a1.Up)) = true then
 some false
else
 bd (laws_eqTreeMind_m a0.Mind a1.Mind) fun x1 =>
(if (!x1) = true then
 some false
else
 some true)))
theorem laws_eqTreeBridge_c {a0:TreeBridge} {a1:TreeBridge} {r:Bool} (h:laws_eqTreeBridge_m a0 a1 = some r):PureC Tryz.prog 107 [.agg [.d (.int .i64 a0.Id),.d (.bool a0.Up),.d (.int .i64 a0.Mind.Vector.Root),.d (.int .i64 a0.Mind.Vector.Cost),.d (.int .i64 a0.Mind.Vector.Age),.d (.int .i64 a0.Mind.Link)],.agg [.d (.int .i64 a1.Id),.d (.bool a1.Up),.d (.int .i64 a1.Mind.Vector.Root),.d (.int .i64 a1.Mind.Vector.Cost),.d (.int .i64 a1.Mind.Vector.Age),.d (.int .i64 a1.Mind.Link)]] (.d (.bool r)) []:=by
  refine pureC_x tOk (fn:=Tryz.f107) (c:=codeOf Tryz.f107) rfl rfl ?_;unfold laws_eqTreeBridge_m at h;(conv=>whnf);refine seq_in tOk ?_;(conv=>whnf);refine andI h (fun _ h=>?_) (fun _ h=>?_)
  · (conv=>whnf);obtain rfl:=Option.some.inj h;exact lfP []
  · (conv=>whnf);refine seq_in tOk ?_;(conv=>whnf);refine andI h (fun _ h=>?_) (fun _ h=>?_)
    · (conv=>whnf);obtain rfl:=Option.some.inj h;exact lfP []
    · (conv=>whnf);refine seq_in tOk ?_;(conv=>whnf);obtain ⟨x1,hx1,h⟩:=bd_some h;refine cC 0 (laws_eqTreeMind_c hx1) ?_;clear hx1;(conv=>whnf);refine andI h (fun _ h=>?_) (fun _ h=>?_)
      · (conv=>whnf);obtain rfl:=Option.some.inj h;exact lfP []
      · (conv=>whnf);obtain rfl:=Option.some.inj h;exact lfP []
noncomputable def laws_eqTreeBridgeS_m (a0:(List TreeBridge)) (a1:(List TreeBridge)):Option (Bool) :=
(if (((a0.length:Nat):Int) != ((a1.length:Nat):Int)) = true then
 some false
else
 bd (lp (σ:=Int) (β:=(Unit ⊕ Unit)) (fun s1 =>
(if (decide (s1<((a0.length:Nat):Int))) = true then
 gd ((0:Int)≤s1∧s1<((a0.length:Nat):Int)) <|
 gd ((0:Int)≤s1∧s1<((a1.length:Nat):Int)) <|
 bd (laws_eqTreeBridge_m ({ (a0.getD s1.toNat default) with Mind:=(⟨(((a0.getD s1.toNat default).Mind).Vector),((a0.getD s1.toNat default).Mind).Link⟩:TreeMind) }) ({ (a1.getD s1.toNat default) with Mind:=(⟨(((a1.getD s1.toNat default).Mind).Vector),((a1.getD s1.toNat default).Mind).Link⟩:TreeMind) })) fun x7 =>
(if (!x7) = true then
 some (.inr (.inl ()))
else
 some (.inl (IntKind.i64.wrap (s1+1))))
else
 some (.inr (.inr ())))) 0) fun x4 =>
(match x4 with
| .inl d8 =>
 some false
| .inr d9 =>
 some true))
theorem laws_eqTreeBridgeS_c {a0:(List TreeBridge)} {a1:(List TreeBridge)} {r:Bool} (h:laws_eqTreeBridgeS_m a0 a1 = some r):PureC Tryz.prog 51 [.d (slD TreeBridge.enc a0),.d (slD TreeBridge.enc a1)] (.d (.bool r)) []:=by
  refine pureC_x tOk (fn:=Tryz.f51) (c:=codeOf Tryz.f51) rfl rfl ?_;unfold laws_eqTreeBridgeS_m at h;(conv=>whnf);refine seq_in tOk ?_;(conv=>whnf);refine andI h (fun _ h=>?_) (fun _ h=>?_)
  · (conv=>whnf);obtain rfl:=Option.some.inj h;exact lfP []
  · (conv=>whnf);refine seq_in tOk ?_;(conv=>whnf);obtain ⟨x4,hx4,h⟩:=bd_some h;refine loop_m tOk hx4 (fun s1=>⟨0,27,[(0,.d (slD TreeBridge.enc a0)),(1,.d (slD TreeBridge.enc a1)),(5,.d (.int .i64 s1))],[],[],[]⟩) ?_ ?_
    · exact leX []
    · clear hx4;intro s1 y2 g3 hy2;(conv=>whnf);refine seq_in tOk ?_;(conv=>whnf);refine andI g3 (fun _ g3=>?_) (fun _ g3=>?_)
      · (conv=>whnf);refine seq_in tOk ?_;(conv=>whnf);obtain ⟨g5,g3⟩:=gd_some g3;obtain ⟨g6,g3⟩:=gd_some g3;obtain ⟨x7,hx7,g3⟩:=bd_some g3;refine draw_u tOk [.u 8 0 (.d (.bool x7)) []] 10 [] [0,0,3,7,0,0,48,112,255,511] [] ?_;(conv=>whnf);refine And.intro g5 ?_;clear g5;(conv=>whnf);refine And.intro g6 ?_;clear g6;(conv=>whnf);refine And.intro (callD_any (laws_eqTreeBridge_c hx7) (by kernel_rfl)) ?_;(conv=>whnf);refine And.intro (by kernel_rfl) ?_;(conv=>whnf);refine andI g3 (fun _ g3=>?_) (fun _ g3=>?_)
        · (conv=>whnf);obtain rfl:=Option.some.inj g3;obtain rfl:=hy2 _ rfl;obtain rfl:=Option.some.inj h;exact lfP []
        · (conv=>whnf);obtain rfl:=Option.some.inj g3;exact ⟨_,rfl,leX []⟩
      · (conv=>whnf);obtain rfl:=Option.some.inj g3;obtain rfl:=hy2 _ rfl;obtain rfl:=Option.some.inj h;exact lfP []
noncomputable def laws_eqTreeLink_m (a0:TreeLink) (a1:TreeLink):Option (Bool) :=
(if (a0.A != a1.A) = true then
 some false
else
(if (a0.B != a1.B) = true then
 some false
else
(if (a0.Cost != a1.Cost) = true then
 some false
else
 some true)))
theorem laws_eqTreeLink_c {a0:TreeLink} {a1:TreeLink} {r:Bool} (h:laws_eqTreeLink_m a0 a1 = some r):PureC Tryz.prog 108 [.agg [.d (.int .i64 a0.A),.d (.int .i64 a0.B),.d (.int .i64 a0.Cost)],.agg [.d (.int .i64 a1.A),.d (.int .i64 a1.B),.d (.int .i64 a1.Cost)]] (.d (.bool r)) []:=by
  refine pureC_x tOk (fn:=Tryz.f108) (c:=codeOf Tryz.f108) rfl rfl ?_;unfold laws_eqTreeLink_m at h;(conv=>whnf);refine seq_in tOk ?_;(conv=>whnf);refine andI h (fun _ h=>?_) (fun _ h=>?_)
  · (conv=>whnf);obtain rfl:=Option.some.inj h;exact lfP []
  · (conv=>whnf);refine seq_in tOk ?_;(conv=>whnf);refine andI h (fun _ h=>?_) (fun _ h=>?_)
    · (conv=>whnf);obtain rfl:=Option.some.inj h;exact lfP []
    · (conv=>whnf);refine seq_in tOk ?_;(conv=>whnf);refine andI h (fun _ h=>?_) (fun _ h=>?_)
      · (conv=>whnf);obtain rfl:=Option.some.inj h;exact lfP []
      · (conv=>whnf);obtain rfl:=Option.some.inj h;exact lfP []
noncomputable def laws_eqTreeLinkS_m (a0:(List TreeLink)) (a1:(List TreeLink)):Option (Bool) :=
(if (((a0.length:Nat):Int) != ((a1.length:Nat):Int)) = true then
 some false
else
 bd (lp (σ:=Int) (β:=(Unit ⊕ Unit)) (fun s1 =>
(if (decide (s1<((a0.length:Nat):Int))) = true then
 gd ((0:Int)≤s1∧s1<((a0.length:Nat):Int)) <|
 gd ((0:Int)≤s1∧s1<((a1.length:Nat):Int)) <|
 bd (laws_eqTreeLink_m (a0.getD s1.toNat default) (a1.getD s1.toNat default)) fun x7 =>
(if (!x7) = true then
 some (.inr (.inl ()))
else
 some (.inl (IntKind.i64.wrap (s1+1))))
else
 some (.inr (.inr ())))) 0) fun x4 =>
(match x4 with
| .inl d8 =>
 some false
| .inr d9 =>
 some true))
theorem laws_eqTreeLinkS_c {a0:(List TreeLink)} {a1:(List TreeLink)} {r:Bool} (h:laws_eqTreeLinkS_m a0 a1 = some r):PureC Tryz.prog 52 [.d (slD TreeLink.enc a0),.d (slD TreeLink.enc a1)] (.d (.bool r)) []:=by
  refine pureC_x tOk (fn:=Tryz.f52) (c:=codeOf Tryz.f52) rfl rfl ?_;unfold laws_eqTreeLinkS_m at h;(conv=>whnf);refine seq_in tOk ?_;(conv=>whnf);refine andI h (fun _ h=>?_) (fun _ h=>?_)
  · (conv=>whnf);obtain rfl:=Option.some.inj h;exact lfP []
  · (conv=>whnf);refine seq_in tOk ?_;(conv=>whnf);obtain ⟨x4,hx4,h⟩:=bd_some h;refine loop_m tOk hx4 (fun s1=>⟨0,27,[(0,.d (slD TreeLink.enc a0)),(1,.d (slD TreeLink.enc a1)),(5,.d (.int .i64 s1))],[],[],[]⟩) ?_ ?_
    · exact leX []
    · clear hx4;intro s1 y2 g3 hy2;(conv=>whnf);refine seq_in tOk ?_;(conv=>whnf);refine andI g3 (fun _ g3=>?_) (fun _ g3=>?_)
      · (conv=>whnf);refine seq_in tOk ?_;(conv=>whnf);obtain ⟨g5,g3⟩:=gd_some g3;obtain ⟨g6,g3⟩:=gd_some g3;obtain ⟨x7,hx7,g3⟩:=bd_some g3;refine draw_u tOk [.u 8 0 (.d (.bool x7)) []] 10 [] [0,0,3,7,0,0,48,112,255,511] [] ?_;(conv=>whnf);refine And.intro g5 ?_;clear g5;(conv=>whnf);refine And.intro g6 ?_;clear g6;(conv=>whnf);refine And.intro (callD_any (laws_eqTreeLink_c hx7) (by kernel_rfl)) ?_;(conv=>whnf);refine And.intro (by kernel_rfl) ?_;(conv=>whnf);refine andI g3 (fun _ g3=>?_) (fun _ g3=>?_)
        · (conv=>whnf);obtain rfl:=Option.some.inj g3;obtain rfl:=hy2 _ rfl;obtain rfl:=Option.some.inj h;exact lfP []
        · (conv=>whnf);obtain rfl:=Option.some.inj g3;exact ⟨_,rfl,leX []⟩
      · (conv=>whnf);obtain rfl:=Option.some.inj g3;obtain rfl:=hy2 _ rfl;obtain rfl:=Option.some.inj h;exact lfP []
noncomputable def laws_eqIntS_m (a0:(List Int)) (a1:(List Int)):Option (Bool) :=
(if (((a0.length:Nat):Int) != ((a1.length:Nat):Int)) = true then
 some false
else
 bd (lp (σ:=Int) (β:=(Unit ⊕ Unit)) (fun s1 =>
(if (decide (s1<((a0.length:Nat):Int))) = true then
 gd ((0:Int)≤s1∧s1<((a0.length:Nat):Int)) <|
 gd ((0:Int)≤s1∧s1<((a1.length:Nat):Int)) <|
(if ((a0.getD s1.toNat default) != (a1.getD s1.toNat default)) = true then
 some (.inr (.inl ()))
else
 some (.inl (IntKind.i64.wrap (s1+1))))
else
 some (.inr (.inr ())))) 0) fun x4 =>
(match x4 with
| .inl d7 =>
 some false
| .inr d8 =>
 some true))
theorem laws_eqIntS_c {a0:(List Int)} {a1:(List Int)} {r:Bool} (h:laws_eqIntS_m a0 a1 = some r):PureC Tryz.prog 53 [.d (slD encInt a0),.d (slD encInt a1)] (.d (.bool r)) []:=by
  refine pureC_x tOk (fn:=Tryz.f53) (c:=codeOf Tryz.f53) rfl rfl ?_;unfold laws_eqIntS_m at h;(conv=>whnf);refine seq_in tOk ?_;(conv=>whnf);refine andI h (fun _ h=>?_) (fun _ h=>?_)
  · (conv=>whnf);obtain rfl:=Option.some.inj h;exact lfP []
  · (conv=>whnf);refine seq_in tOk ?_;(conv=>whnf);obtain ⟨x4,hx4,h⟩:=bd_some h;refine loop_m tOk hx4 (fun s1=>⟨0,26,[(0,.d (slD encInt a0)),(1,.d (slD encInt a1)),(5,.d (.int .i64 s1))],[],[],[]⟩) ?_ ?_
    · exact leX []
    · clear hx4;intro s1 y2 g3 hy2;(conv=>whnf);refine seq_in tOk ?_;(conv=>whnf);refine andI g3 (fun _ g3=>?_) (fun _ g3=>?_)
      · (conv=>whnf);refine seq_in tOk ?_;(conv=>whnf);obtain ⟨g5,g3⟩:=gd_some g3;obtain ⟨g6,g3⟩:=gd_some g3;refine draw_u tOk [] 9 [] [0,0,3,7,0,0,48,112,255] [] ?_;(conv=>whnf);refine And.intro g5 ?_;clear g5;(conv=>whnf);refine And.intro g6 ?_;clear g6;(conv=>whnf);refine And.intro (by kernel_rfl) ?_;(conv=>whnf);refine andI g3 (fun _ g3=>?_) (fun _ g3=>?_)
        · (conv=>whnf);obtain rfl:=Option.some.inj g3;obtain rfl:=hy2 _ rfl;obtain rfl:=Option.some.inj h;exact lfP []
        · (conv=>whnf);obtain rfl:=Option.some.inj g3;exact ⟨_,rfl,leX []⟩
      · (conv=>whnf);obtain rfl:=Option.some.inj g3;obtain rfl:=hy2 _ rfl;obtain rfl:=Option.some.inj h;exact lfP []
noncomputable def laws_eqTreeSlot_m (a0:TreeSlot) (a1:TreeSlot):Option (Bool) :=
 bd (laws_eqTreeVector_m a0.Vector a1.Vector) fun x1 =>
(if (!x1) = true then
 some false
else
(if (a0.Left != a1.Left) = true then
 some false
else
 some true))
theorem laws_eqTreeSlot_c {a0:TreeSlot} {a1:TreeSlot} {r:Bool} (h:laws_eqTreeSlot_m a0 a1 = some r):PureC Tryz.prog 109 [.agg [.d (.int .i64 a0.Vector.Root),.d (.int .i64 a0.Vector.Cost),.d (.int .i64 a0.Vector.Age),.d (.int .i64 a0.Left)],.agg [.d (.int .i64 a1.Vector.Root),.d (.int .i64 a1.Vector.Cost),.d (.int .i64 a1.Vector.Age),.d (.int .i64 a1.Left)]] (.d (.bool r)) []:=by
  refine pureC_x tOk (fn:=Tryz.f109) (c:=codeOf Tryz.f109) rfl rfl ?_;unfold laws_eqTreeSlot_m at h;(conv=>whnf);refine seq_in tOk ?_;(conv=>whnf);obtain ⟨x1,hx1,h⟩:=bd_some h;refine cC 0 (laws_eqTreeVector_c hx1) ?_;clear hx1;(conv=>whnf);refine andI h (fun _ h=>?_) (fun _ h=>?_)
  · (conv=>whnf);obtain rfl:=Option.some.inj h;exact lfP []
  · (conv=>whnf);refine seq_in tOk ?_;(conv=>whnf);refine andI h (fun _ h=>?_) (fun _ h=>?_)
    · (conv=>whnf);obtain rfl:=Option.some.inj h;exact lfP []
    · (conv=>whnf);obtain rfl:=Option.some.inj h;exact lfP []
noncomputable def laws_eqTreeSlotS_m (a0:(List TreeSlot)) (a1:(List TreeSlot)):Option (Bool) :=
(if (((a0.length:Nat):Int) != ((a1.length:Nat):Int)) = true then
 some false
else
 bd (lp (σ:=Int) (β:=(Unit ⊕ Unit)) (fun s1 =>
(if (decide (s1<((a0.length:Nat):Int))) = true then
 gd ((0:Int)≤s1∧s1<((a0.length:Nat):Int)) <|
 gd ((0:Int)≤s1∧s1<((a1.length:Nat):Int)) <|
 bd (laws_eqTreeSlot_m (⟨((a0.getD s1.toNat default).Vector),(a0.getD s1.toNat default).Left⟩:TreeSlot) (⟨((a1.getD s1.toNat default).Vector),(a1.getD s1.toNat default).Left⟩:TreeSlot)) fun x7 =>
(if (!x7) = true then
 some (.inr (.inl ()))
else
 some (.inl (IntKind.i64.wrap (s1+1))))
else
 some (.inr (.inr ())))) 0) fun x4 =>
(match x4 with
| .inl d8 =>
 some false
| .inr d9 =>
 some true))
theorem laws_eqTreeSlotS_c {a0:(List TreeSlot)} {a1:(List TreeSlot)} {r:Bool} (h:laws_eqTreeSlotS_m a0 a1 = some r):PureC Tryz.prog 54 [.d (slD TreeSlot.enc a0),.d (slD TreeSlot.enc a1)] (.d (.bool r)) []:=by
  refine pureC_x tOk (fn:=Tryz.f54) (c:=codeOf Tryz.f54) rfl rfl ?_;unfold laws_eqTreeSlotS_m at h;(conv=>whnf);refine seq_in tOk ?_;(conv=>whnf);refine andI h (fun _ h=>?_) (fun _ h=>?_)
  · (conv=>whnf);obtain rfl:=Option.some.inj h;exact lfP []
  · (conv=>whnf);refine seq_in tOk ?_;(conv=>whnf);obtain ⟨x4,hx4,h⟩:=bd_some h;refine loop_m tOk hx4 (fun s1=>⟨0,27,[(0,.d (slD TreeSlot.enc a0)),(1,.d (slD TreeSlot.enc a1)),(5,.d (.int .i64 s1))],[],[],[]⟩) ?_ ?_
    · exact leX []
    · clear hx4;intro s1 y2 g3 hy2;(conv=>whnf);refine seq_in tOk ?_;(conv=>whnf);refine andI g3 (fun _ g3=>?_) (fun _ g3=>?_)
      · (conv=>whnf);refine seq_in tOk ?_;(conv=>whnf);obtain ⟨g5,g3⟩:=gd_some g3;obtain ⟨g6,g3⟩:=gd_some g3;obtain ⟨x7,hx7,g3⟩:=bd_some g3;refine draw_u tOk [.u 8 0 (.d (.bool x7)) []] 10 [] [0,0,3,7,0,0,48,112,255,511] [] ?_;(conv=>whnf);refine And.intro g5 ?_;clear g5;(conv=>whnf);refine And.intro g6 ?_;clear g6;(conv=>whnf);refine And.intro (callD_any (laws_eqTreeSlot_c hx7) (by kernel_rfl)) ?_;(conv=>whnf);refine And.intro (by kernel_rfl) ?_;(conv=>whnf);refine andI g3 (fun _ g3=>?_) (fun _ g3=>?_)
        · (conv=>whnf);obtain rfl:=Option.some.inj g3;obtain rfl:=hy2 _ rfl;obtain rfl:=Option.some.inj h;exact lfP []
        · (conv=>whnf);obtain rfl:=Option.some.inj g3;exact ⟨_,rfl,leX []⟩
      · (conv=>whnf);obtain rfl:=Option.some.inj g3;obtain rfl:=hy2 _ rfl;obtain rfl:=Option.some.inj h;exact lfP []
noncomputable def laws_eqTreeWord_m (a0:TreeWord) (a1:TreeWord):Option (Bool) :=
(if (a0.Link != a1.Link) = true then
 some false
else
(if (a0.End != a1.End) = true then
 some false
else
 bd (laws_eqTreeVector_m a0.Vector a1.Vector) fun x1 =>
(if (!x1) = true then
 some false
else
 some true)))
theorem laws_eqTreeWord_c {a0:TreeWord} {a1:TreeWord} {r:Bool} (h:laws_eqTreeWord_m a0 a1 = some r):PureC Tryz.prog 110 [.agg [.d (.int .i64 a0.Link),.d (.int .i64 a0.End),.d (.int .i64 a0.Vector.Root),.d (.int .i64 a0.Vector.Cost),.d (.int .i64 a0.Vector.Age)],.agg [.d (.int .i64 a1.Link),.d (.int .i64 a1.End),.d (.int .i64 a1.Vector.Root),.d (.int .i64 a1.Vector.Cost),.d (.int .i64 a1.Vector.Age)]] (.d (.bool r)) []:=by
  refine pureC_x tOk (fn:=Tryz.f110) (c:=codeOf Tryz.f110) rfl rfl ?_;unfold laws_eqTreeWord_m at h;(conv=>whnf);refine seq_in tOk ?_;(conv=>whnf);refine andI h (fun _ h=>?_) (fun _ h=>?_)
  · (conv=>whnf);obtain rfl:=Option.some.inj h;exact lfP []
  · (conv=>whnf);refine seq_in tOk ?_;(conv=>whnf);refine andI h (fun _ h=>?_) (fun _ h=>?_)
    · (conv=>whnf);obtain rfl:=Option.some.inj h;exact lfP []
    · (conv=>whnf);refine seq_in tOk ?_;(conv=>whnf);obtain ⟨x1,hx1,h⟩:=bd_some h;refine cC 0 (laws_eqTreeVector_c hx1) ?_;clear hx1;(conv=>whnf);refine andI h (fun _ h=>?_) (fun _ h=>?_)
      · (conv=>whnf);obtain rfl:=Option.some.inj h;exact lfP []
      · (conv=>whnf);obtain rfl:=Option.some.inj h;exact lfP []
noncomputable def laws_eqTreeWordS_m (a0:(List TreeWord)) (a1:(List TreeWord)):Option (Bool) :=
(if (((a0.length:Nat):Int) != ((a1.length:Nat):Int)) = true then
 some false
else
 bd (lp (σ:=Int) (β:=(Unit ⊕ Unit)) (fun s1 =>
(if (decide (s1<((a0.length:Nat):Int))) = true then
 gd ((0:Int)≤s1∧s1<((a0.length:Nat):Int)) <|
 gd ((0:Int)≤s1∧s1<((a1.length:Nat):Int)) <|
 bd (laws_eqTreeWord_m ({ (a0.getD s1.toNat default) with Vector:=((a0.getD s1.toNat default).Vector) }) ({ (a1.getD s1.toNat default) with Vector:=((a1.getD s1.toNat default).Vector) })) fun x7 =>
(if (!x7) = true then
 some (.inr (.inl ()))
else
 some (.inl (IntKind.i64.wrap (s1+1))))
else
 some (.inr (.inr ())))) 0) fun x4 =>
(match x4 with
| .inl d8 =>
 some false
| .inr d9 =>
 some true))
theorem laws_eqTreeWordS_c {a0:(List TreeWord)} {a1:(List TreeWord)} {r:Bool} (h:laws_eqTreeWordS_m a0 a1 = some r):PureC Tryz.prog 55 [.d (slD TreeWord.enc a0),.d (slD TreeWord.enc a1)] (.d (.bool r)) []:=by
  refine pureC_x tOk (fn:=Tryz.f55) (c:=codeOf Tryz.f55) rfl rfl ?_;unfold laws_eqTreeWordS_m at h;(conv=>whnf);refine seq_in tOk ?_;(conv=>whnf);refine andI h (fun _ h=>?_) (fun _ h=>?_)
  · (conv=>whnf);obtain rfl:=Option.some.inj h;exact lfP []
  · (conv=>whnf);refine seq_in tOk ?_;(conv=>whnf);obtain ⟨x4,hx4,h⟩:=bd_some h;refine loop_m tOk hx4 (fun s1=>⟨0,27,[(0,.d (slD TreeWord.enc a0)),(1,.d (slD TreeWord.enc a1)),(5,.d (.int .i64 s1))],[],[],[]⟩) ?_ ?_
    · exact leX []
    · clear hx4;intro s1 y2 g3 hy2;(conv=>whnf);refine seq_in tOk ?_;(conv=>whnf);refine andI g3 (fun _ g3=>?_) (fun _ g3=>?_)
      · (conv=>whnf);refine seq_in tOk ?_;(conv=>whnf);obtain ⟨g5,g3⟩:=gd_some g3;obtain ⟨g6,g3⟩:=gd_some g3;obtain ⟨x7,hx7,g3⟩:=bd_some g3;refine draw_u tOk [.u 8 0 (.d (.bool x7)) []] 10 [] [0,0,3,7,0,0,48,112,255,511] [] ?_;(conv=>whnf);refine And.intro g5 ?_;clear g5;(conv=>whnf);refine And.intro g6 ?_;clear g6;(conv=>whnf);refine And.intro (callD_any (laws_eqTreeWord_c hx7) (by kernel_rfl)) ?_;(conv=>whnf);refine And.intro (by kernel_rfl) ?_;(conv=>whnf);refine andI g3 (fun _ g3=>?_) (fun _ g3=>?_)
        · (conv=>whnf);obtain rfl:=Option.some.inj g3;obtain rfl:=hy2 _ rfl;obtain rfl:=Option.some.inj h;exact lfP []
        · (conv=>whnf);obtain rfl:=Option.some.inj g3;exact ⟨_,rfl,leX []⟩
      · (conv=>whnf);obtain rfl:=Option.some.inj g3;obtain rfl:=hy2 _ rfl;obtain rfl:=Option.some.inj h;exact lfP []
noncomputable def laws_eqTreeWorld_m (a0:TreeWorld) (a1:TreeWorld):Option (Bool) :=
 bd (laws_eqTreeBridgeS_m a0.Bridges a1.Bridges) fun x1 =>
(if (!x1) = true then
 some false
else
 bd (laws_eqTreeLinkS_m a0.Links a1.Links) fun x2 =>
(if (!x2) = true then
 some false
else
 bd (laws_eqIntS_m a0.Down a1.Down) fun x3 =>
(if (!x3) = true then
 some false
else
 bd (laws_eqTreeSlotS_m a0.AtA a1.AtA) fun x4 =>
(if (!x4) = true then
 some false
else
 bd (laws_eqTreeSlotS_m a0.AtB a1.AtB) fun x5 =>
(if (!x5) = true then
 some false
else
 bd (laws_eqTreeWordS_m a0.Radio a1.Radio) fun x6 =>
(if (!x6) = true then
 some false
else
 some true))))))
theorem laws_eqTreeWorld_c {a0:TreeWorld} {a1:TreeWorld} {r:Bool} (h:laws_eqTreeWorld_m a0 a1 = some r):PureC Tryz.prog 17 [.agg [.d (slD TreeBridge.enc a0.Bridges),.d (slD TreeLink.enc a0.Links),.d (slD encInt a0.Down),.d (slD TreeSlot.enc a0.AtA),.d (slD TreeSlot.enc a0.AtB),.d (slD TreeWord.enc a0.Radio)],.agg [.d (slD TreeBridge.enc a1.Bridges),.d (slD TreeLink.enc a1.Links),.d (slD encInt a1.Down),.d (slD TreeSlot.enc a1.AtA),.d (slD TreeSlot.enc a1.AtB),.d (slD TreeWord.enc a1.Radio)]] (.d (.bool r)) []:=by
  refine pureC_x tOk (fn:=Tryz.f17) (c:=codeOf Tryz.f17) rfl rfl ?_;unfold laws_eqTreeWorld_m at h;(conv=>whnf);refine seq_in tOk ?_;(conv=>whnf);obtain ⟨x1,hx1,h⟩:=bd_some h;refine cC 0 (laws_eqTreeBridgeS_c hx1) ?_;clear hx1;(conv=>whnf);refine andI h (fun _ h=>?_) (fun _ h=>?_)
  · (conv=>whnf);obtain rfl:=Option.some.inj h;exact lfP []
  · (conv=>whnf);refine seq_in tOk ?_;(conv=>whnf);obtain ⟨x2,hx2,h⟩:=bd_some h;refine cC 0 (laws_eqTreeLinkS_c hx2) ?_;clear hx2;(conv=>whnf);refine andI h (fun _ h=>?_) (fun _ h=>?_)
    · (conv=>whnf);obtain rfl:=Option.some.inj h;exact lfP []
    · (conv=>whnf);refine seq_in tOk ?_;(conv=>whnf);obtain ⟨x3,hx3,h⟩:=bd_some h;refine cC 0 (laws_eqIntS_c hx3) ?_;clear hx3;(conv=>whnf);refine andI h (fun _ h=>?_) (fun _ h=>?_)
      · (conv=>whnf);obtain rfl:=Option.some.inj h;exact lfP []
      · (conv=>whnf);refine seq_in tOk ?_;(conv=>whnf);obtain ⟨x4,hx4,h⟩:=bd_some h;refine cC 0 (laws_eqTreeSlotS_c hx4) ?_;clear hx4;(conv=>whnf);refine andI h (fun _ h=>?_) (fun _ h=>?_)
        · (conv=>whnf);obtain rfl:=Option.some.inj h;exact lfP []
        · (conv=>whnf);refine seq_in tOk ?_;(conv=>whnf);obtain ⟨x5,hx5,h⟩:=bd_some h;refine cC 0 (laws_eqTreeSlotS_c hx5) ?_;clear hx5;(conv=>whnf);refine andI h (fun _ h=>?_) (fun _ h=>?_)
          · (conv=>whnf);obtain rfl:=Option.some.inj h;exact lfP []
          · (conv=>whnf);refine seq_in tOk ?_;(conv=>whnf);obtain ⟨x6,hx6,h⟩:=bd_some h;refine cC 0 (laws_eqTreeWordS_c hx6) ?_;clear hx6;(conv=>whnf);refine andI h (fun _ h=>?_) (fun _ h=>?_)
            · (conv=>whnf);obtain rfl:=Option.some.inj h;exact lfP []
            · (conv=>whnf);obtain rfl:=Option.some.inj h;exact lfP []
noncomputable def laws_markTreeBridgeS_m (a0:(List TreeBridge)) (a1:Int):Option (Int × (List TreeBridge)) :=
 bd (lp (σ:=List TreeBridge × Int × Int) (β:=(Int × (List TreeBridge) × Nat)) (fun s1 =>
(if (decide (s1.2.2<((s1.1.length:Nat):Int))) = true then
 gd ((0:Int)≤s1.2.2∧s1.2.2<((s1.1.length:Nat):Int)) <|
 bd (some (s1.1.set s1.2.2.toNat (⟨s1.2.1,(s1.1.getD s1.2.2.toNat default).Up,(⟨(((s1.1.getD s1.2.2.toNat default).Mind).Vector),((s1.1.getD s1.2.2.toNat default).Mind).Link⟩:TreeMind)⟩:TreeBridge))) fun x6 =>
 gd ((3:Int) ≠ 0) <|
 gd ((0:Int)≤s1.2.2∧s1.2.2<((s1.1.length:Nat):Int)) <|
 bd (some (x6.set s1.2.2.toNat (⟨(x6.getD s1.2.2.toNat default).Id,(((IntKind.i64.wrap (s1.2.1+1):Int).tmod 3) == 0),(⟨(((x6.getD s1.2.2.toNat default).Mind).Vector),((x6.getD s1.2.2.toNat default).Mind).Link⟩:TreeMind)⟩:TreeBridge))) fun x9 =>
 gd ((0:Int)≤s1.2.2∧s1.2.2<((s1.1.length:Nat):Int)) <|
 bd (some (x9.set s1.2.2.toNat ({ (x9.getD s1.2.2.toNat default) with Mind:=(⟨{ (((x9.getD s1.2.2.toNat default).Mind).Vector) with Root:=IntKind.i64.wrap ((IntKind.i64.wrap (s1.2.1+1))+1) },((x9.getD s1.2.2.toNat default).Mind).Link⟩:TreeMind) }))) fun x11 =>
 gd ((0:Int)≤s1.2.2∧s1.2.2<((s1.1.length:Nat):Int)) <|
 bd (some (x11.set s1.2.2.toNat ({ (x11.getD s1.2.2.toNat default) with Mind:=(⟨{ (((x11.getD s1.2.2.toNat default).Mind).Vector) with Cost:=IntKind.i64.wrap ((IntKind.i64.wrap ((IntKind.i64.wrap (s1.2.1+1))+1))+1) },((x11.getD s1.2.2.toNat default).Mind).Link⟩:TreeMind) }))) fun x13 =>
 gd ((0:Int)≤s1.2.2∧s1.2.2<((s1.1.length:Nat):Int)) <|
 bd (some (x13.set s1.2.2.toNat ({ (x13.getD s1.2.2.toNat default) with Mind:=(⟨{ (((x13.getD s1.2.2.toNat default).Mind).Vector) with Age:=IntKind.i64.wrap ((IntKind.i64.wrap ((IntKind.i64.wrap ((IntKind.i64.wrap (s1.2.1+1))+1))+1))+1) },((x13.getD s1.2.2.toNat default).Mind).Link⟩:TreeMind) }))) fun x15 =>
 gd ((0:Int)≤s1.2.2∧s1.2.2<((s1.1.length:Nat):Int)) <|
 bd (some (x15.set s1.2.2.toNat ({ (x15.getD s1.2.2.toNat default) with Mind:=(⟨(((x15.getD s1.2.2.toNat default).Mind).Vector),IntKind.i64.wrap ((IntKind.i64.wrap ((IntKind.i64.wrap ((IntKind.i64.wrap ((IntKind.i64.wrap (s1.2.1+1))+1))+1))+1))+1)⟩:TreeMind) }))) fun x17 =>
 some (.inl (x17,IntKind.i64.wrap ((IntKind.i64.wrap ((IntKind.i64.wrap ((IntKind.i64.wrap ((IntKind.i64.wrap ((IntKind.i64.wrap (s1.2.1+1))+1))+1))+1))+1))+1),IntKind.i64.wrap (s1.2.2+1)))
else
 some (.inr (s1.2.1,s1.1,s1.1.length)))) (a0,a1,0)) fun x4 =>
 gd (x4.2.2 = a0.length) <|
 some (x4.1,x4.2.1)
theorem laws_markTreeBridgeS_c {a0:(List TreeBridge)} {a1:Int} {r:Int × (List TreeBridge)} (h:laws_markTreeBridgeS_m a0 a1 = some r):EffC Tryz.prog 56 [.osl 9000 0 a0.length,.d (.int .i64 a1)] [(9000,.arr 42 6 a0.length (rows TreeBridge.enc a0))] (.d (.int .i64 r.1)) [(9000,.arr 42 6 a0.length (rows TreeBridge.enc r.2))]:=by
  refine effC_x tOk (fn:=Tryz.f56) (c:=codeOf Tryz.f56) rfl rfl ?_;unfold laws_markTreeBridgeS_m at h;(conv=>whnf);refine seq_in tOk ?_;(conv=>whnf);obtain ⟨x4,hx4,h⟩:=bd_some h;refine loop_m tOk hx4 (fun s1=>⟨0,64,[(0,.osl 9000 0 s1.1.length),(1,.d (.int .i64 s1.2.1)),(5,.d (.int .i64 s1.2.2))],[],[(9000,.arr 42 6 s1.1.length (rows TreeBridge.enc s1.1))],[⟨[(0,.osl 9000 0 s1.1.length)],[]⟩]⟩) ?_ ?_
  · exact leX []
  · clear hx4;intro s1 y2 g3 hy2;(conv=>whnf);refine seq_in tOk ?_;(conv=>whnf);refine andI g3 (fun _ g3=>?_) (fun _ g3=>?_)
    · (conv=>whnf);refine seq_in tOk ?_;(conv=>whnf);refine gdI g3 (fun g3=>?_);(conv=>whnf);obtain ⟨x6,hx6,hlx6,g3⟩:=bd_set g3;refine setS (enc:=TreeBridge.enc) hx6 ?_;(conv=>whnf);refine gdI g3 (fun g3=>?_);(conv=>whnf);refine gdI g3 (fun g3=>?_);(conv=>whnf);obtain ⟨x9,hx9,hlx9,g3⟩:=bd_set g3;refine setS (enc:=TreeBridge.enc) hx9 ?_;(conv=>whnf);refine gdI g3 (fun g3=>?_);(conv=>whnf);obtain ⟨x11,hx11,hlx11,g3⟩:=bd_set g3;refine setS (enc:=TreeBridge.enc) hx11 ?_;(conv=>whnf);refine gdI g3 (fun g3=>?_);(conv=>whnf);obtain ⟨x13,hx13,hlx13,g3⟩:=bd_set g3;refine setS (enc:=TreeBridge.enc) hx13 ?_;(conv=>whnf);refine gdI g3 (fun g3=>?_);(conv=>whnf);obtain ⟨x15,hx15,hlx15,g3⟩:=bd_set g3;refine setS (enc:=TreeBridge.enc) hx15 ?_;(conv=>whnf);refine gdI g3 (fun g3=>?_);(conv=>whnf);obtain ⟨x17,hx17,hlx17,g3⟩:=bd_set g3;refine setS (enc:=TreeBridge.enc) hx17 ?_;(conv=>whnf);obtain rfl:=Option.some.inj g3;exact ⟨_,rfl,leX []⟩
    · (conv=>whnf);obtain rfl:=Option.some.inj g3;obtain rfl:=hy2 _ rfl;obtain ⟨g19,h⟩:=gd_some h;obtain rfl:=Option.some.inj h;exact lfE []
noncomputable def laws_markTreeLinkS_m (a0:(List TreeLink)) (a1:Int):Option (Int × (List TreeLink)) :=
 bd (lp (σ:=List TreeLink × Int × Int) (β:=(Int × (List TreeLink) × Nat)) (fun s1 =>
(if (decide (s1.2.2<((s1.1.length:Nat):Int))) = true then
 gd ((0:Int)≤s1.2.2∧s1.2.2<((s1.1.length:Nat):Int)) <|
 gd ((0:Int)≤s1.2.2∧s1.2.2<((s1.1.length:Nat):Int)) <|
 bd (some ((s1.1.set s1.2.2.toNat ({ (s1.1.getD s1.2.2.toNat default) with A:=s1.2.1 })).set s1.2.2.toNat ({ ((s1.1.set s1.2.2.toNat ({ (s1.1.getD s1.2.2.toNat default) with A:=s1.2.1 })).getD s1.2.2.toNat default) with B:=IntKind.i64.wrap (s1.2.1+1) }))) fun x7 =>
 gd ((0:Int)≤s1.2.2∧s1.2.2<((s1.1.length:Nat):Int)) <|
 bd (some (x7.set s1.2.2.toNat ({ (x7.getD s1.2.2.toNat default) with Cost:=IntKind.i64.wrap ((IntKind.i64.wrap (s1.2.1+1))+1) }))) fun x9 =>
 some (.inl (x9,IntKind.i64.wrap ((IntKind.i64.wrap ((IntKind.i64.wrap (s1.2.1+1))+1))+1),IntKind.i64.wrap (s1.2.2+1)))
else
 some (.inr (s1.2.1,s1.1,s1.1.length)))) (a0,a1,0)) fun x4 =>
 gd (x4.2.2 = a0.length) <|
 some (x4.1,x4.2.1)
theorem laws_markTreeLinkS_c {a0:(List TreeLink)} {a1:Int} {r:Int × (List TreeLink)} (h:laws_markTreeLinkS_m a0 a1 = some r):EffC Tryz.prog 57 [.osl 9000 0 a0.length,.d (.int .i64 a1)] [(9000,.arr 66 3 a0.length (rows TreeLink.enc a0))] (.d (.int .i64 r.1)) [(9000,.arr 66 3 a0.length (rows TreeLink.enc r.2))]:=by
  refine effC_x tOk (fn:=Tryz.f57) (c:=codeOf Tryz.f57) rfl rfl ?_;unfold laws_markTreeLinkS_m at h;(conv=>whnf);refine seq_in tOk ?_;(conv=>whnf);obtain ⟨x4,hx4,h⟩:=bd_some h;refine loop_m tOk hx4 (fun s1=>⟨0,34,[(0,.osl 9000 0 s1.1.length),(1,.d (.int .i64 s1.2.1)),(5,.d (.int .i64 s1.2.2))],[],[(9000,.arr 66 3 s1.1.length (rows TreeLink.enc s1.1))],[⟨[(0,.osl 9000 0 s1.1.length)],[]⟩]⟩) ?_ ?_
  · exact leX []
  · clear hx4;intro s1 y2 g3 hy2;(conv=>whnf);refine seq_in tOk ?_;(conv=>whnf);refine andI g3 (fun _ g3=>?_) (fun _ g3=>?_)
    · (conv=>whnf);refine seq_in tOk ?_;(conv=>whnf);refine gdI g3 (fun g3=>?_);(conv=>whnf);refine ⟨rows TreeLink.enc (s1.1.set s1.2.2.toNat ({ (s1.1.getD s1.2.2.toNat default) with A:=s1.2.1 })),store_rows' lenA rfl,?_⟩;(conv=>whnf);refine gdI g3 (fun g3=>?_);(conv=>whnf);obtain ⟨x7,hx7,hlx7,g3⟩:=bd_set g3
      try simp only [List.length_set] at hlx7
      refine setS (enc:=TreeLink.enc) hx7 ?_;(conv=>whnf);refine gdI g3 (fun g3=>?_);(conv=>whnf);obtain ⟨x9,hx9,hlx9,g3⟩:=bd_set g3;refine setS (enc:=TreeLink.enc) hx9 ?_;(conv=>whnf);obtain rfl:=Option.some.inj g3;exact ⟨_,rfl,leX []⟩
    · (conv=>whnf);obtain rfl:=Option.some.inj g3;obtain rfl:=hy2 _ rfl;obtain ⟨g11,h⟩:=gd_some h;obtain rfl:=Option.some.inj h;exact lfE []
noncomputable def laws_markIntS_m (a0:(List Int)) (a1:Int):Option (Int × (List Int)) :=
 bd (lp (σ:=List Int × Int × Int) (β:=(Int × (List Int) × Nat)) (fun s1 =>
(if (decide (s1.2.2<((s1.1.length:Nat):Int))) = true then
 gd ((0:Int)≤s1.2.2∧s1.2.2<((s1.1.length:Nat):Int)) <|
 some (.inl (s1.1.set s1.2.2.toNat s1.2.1,IntKind.i64.wrap (s1.2.1+1),IntKind.i64.wrap (s1.2.2+1)))
else
 some (.inr (s1.2.1,s1.1,s1.1.length)))) (a0,a1,0)) fun x4 =>
 gd (x4.2.2 = a0.length) <|
 some (x4.1,x4.2.1)
theorem laws_markIntS_c {a0:(List Int)} {a1:Int} {r:Int × (List Int)} (h:laws_markIntS_m a0 a1 = some r):EffC Tryz.prog 58 [.osl 9000 0 a0.length,.d (.int .i64 a1)] [(9000,.arr 3 1 a0.length (rows encInt a0))] (.d (.int .i64 r.1)) [(9000,.arr 3 1 a0.length (rows encInt r.2))]:=by
  refine effC_x tOk (fn:=Tryz.f58) (c:=codeOf Tryz.f58) rfl rfl ?_;unfold laws_markIntS_m at h;(conv=>whnf);refine seq_in tOk ?_;(conv=>whnf);obtain ⟨x4,hx4,h⟩:=bd_some h;refine loop_m tOk hx4 (fun s1=>⟨0,19,[(0,.osl 9000 0 s1.1.length),(1,.d (.int .i64 s1.2.1)),(5,.d (.int .i64 s1.2.2))],[],[(9000,.arr 3 1 s1.1.length (rows encInt s1.1))],[⟨[(0,.osl 9000 0 s1.1.length)],[]⟩]⟩) ?_ ?_
  · exact leX []
  · clear hx4;intro s1 y2 g3 hy2;(conv=>whnf);refine seq_in tOk ?_;(conv=>whnf);refine andI g3 (fun _ g3=>?_) (fun _ g3=>?_)
    · (conv=>whnf);refine seq_in tOk ?_;(conv=>whnf);refine gdI g3 (fun g3=>?_);(conv=>whnf);refine ⟨rows encInt (s1.1.set s1.2.2.toNat s1.2.1),store_rows' lenA rfl,?_⟩;(conv=>whnf);obtain rfl:=Option.some.inj g3;exact ⟨_,rfl,leX []⟩
    · (conv=>whnf);obtain rfl:=Option.some.inj g3;obtain rfl:=hy2 _ rfl;obtain ⟨g7,h⟩:=gd_some h;obtain rfl:=Option.some.inj h;exact lfE []
noncomputable def laws_markTreeSlotS_m (a0:(List TreeSlot)) (a1:Int):Option (Int × (List TreeSlot)) :=
 bd (lp (σ:=List TreeSlot × Int × Int) (β:=(Int × (List TreeSlot) × Nat)) (fun s1 =>
(if (decide (s1.2.2<((s1.1.length:Nat):Int))) = true then
 gd ((0:Int)≤s1.2.2∧s1.2.2<((s1.1.length:Nat):Int)) <|
 bd (some (s1.1.set s1.2.2.toNat (⟨{ ((s1.1.getD s1.2.2.toNat default).Vector) with Root:=s1.2.1 },(s1.1.getD s1.2.2.toNat default).Left⟩:TreeSlot))) fun x6 =>
 gd ((0:Int)≤s1.2.2∧s1.2.2<((s1.1.length:Nat):Int)) <|
 bd (some (x6.set s1.2.2.toNat (⟨{ ((x6.getD s1.2.2.toNat default).Vector) with Cost:=IntKind.i64.wrap (s1.2.1+1) },(x6.getD s1.2.2.toNat default).Left⟩:TreeSlot))) fun x8 =>
 gd ((0:Int)≤s1.2.2∧s1.2.2<((s1.1.length:Nat):Int)) <|
 bd (some (x8.set s1.2.2.toNat (⟨{ ((x8.getD s1.2.2.toNat default).Vector) with Age:=IntKind.i64.wrap ((IntKind.i64.wrap (s1.2.1+1))+1) },(x8.getD s1.2.2.toNat default).Left⟩:TreeSlot))) fun x10 =>
 gd ((0:Int)≤s1.2.2∧s1.2.2<((s1.1.length:Nat):Int)) <|
 bd (some (x10.set s1.2.2.toNat (⟨((x10.getD s1.2.2.toNat default).Vector),IntKind.i64.wrap ((IntKind.i64.wrap ((IntKind.i64.wrap (s1.2.1+1))+1))+1)⟩:TreeSlot))) fun x12 =>
 some (.inl (x12,IntKind.i64.wrap ((IntKind.i64.wrap ((IntKind.i64.wrap ((IntKind.i64.wrap (s1.2.1+1))+1))+1))+1),IntKind.i64.wrap (s1.2.2+1)))
else
 some (.inr (s1.2.1,s1.1,s1.1.length)))) (a0,a1,0)) fun x4 =>
 gd (x4.2.2 = a0.length) <|
 some (x4.1,x4.2.1)
theorem laws_markTreeSlotS_c {a0:(List TreeSlot)} {a1:Int} {r:Int × (List TreeSlot)} (h:laws_markTreeSlotS_m a0 a1 = some r):EffC Tryz.prog 59 [.osl 9000 0 a0.length,.d (.int .i64 a1)] [(9000,.arr 113 4 a0.length (rows TreeSlot.enc a0))] (.d (.int .i64 r.1)) [(9000,.arr 113 4 a0.length (rows TreeSlot.enc r.2))]:=by
  refine effC_x tOk (fn:=Tryz.f59) (c:=codeOf Tryz.f59) rfl rfl ?_;unfold laws_markTreeSlotS_m at h;(conv=>whnf);refine seq_in tOk ?_;(conv=>whnf);obtain ⟨x4,hx4,h⟩:=bd_some h;refine loop_m tOk hx4 (fun s1=>⟨0,44,[(0,.osl 9000 0 s1.1.length),(1,.d (.int .i64 s1.2.1)),(5,.d (.int .i64 s1.2.2))],[],[(9000,.arr 113 4 s1.1.length (rows TreeSlot.enc s1.1))],[⟨[(0,.osl 9000 0 s1.1.length)],[]⟩]⟩) ?_ ?_
  · exact leX []
  · clear hx4;intro s1 y2 g3 hy2;(conv=>whnf);refine seq_in tOk ?_;(conv=>whnf);refine andI g3 (fun _ g3=>?_) (fun _ g3=>?_)
    · (conv=>whnf);refine seq_in tOk ?_;(conv=>whnf);refine gdI g3 (fun g3=>?_);(conv=>whnf);obtain ⟨x6,hx6,hlx6,g3⟩:=bd_set g3;refine setS (enc:=TreeSlot.enc) hx6 ?_;(conv=>whnf);refine gdI g3 (fun g3=>?_);(conv=>whnf);obtain ⟨x8,hx8,hlx8,g3⟩:=bd_set g3;refine setS (enc:=TreeSlot.enc) hx8 ?_;(conv=>whnf);refine gdI g3 (fun g3=>?_);(conv=>whnf);obtain ⟨x10,hx10,hlx10,g3⟩:=bd_set g3;refine setS (enc:=TreeSlot.enc) hx10 ?_;(conv=>whnf);refine gdI g3 (fun g3=>?_);(conv=>whnf);obtain ⟨x12,hx12,hlx12,g3⟩:=bd_set g3;refine setS (enc:=TreeSlot.enc) hx12 ?_;(conv=>whnf);obtain rfl:=Option.some.inj g3;exact ⟨_,rfl,leX []⟩
    · (conv=>whnf);obtain rfl:=Option.some.inj g3;obtain rfl:=hy2 _ rfl;obtain ⟨g14,h⟩:=gd_some h;obtain rfl:=Option.some.inj h;exact lfE []
end Go.Proofs.YtfgmolljcgnafabGreat
