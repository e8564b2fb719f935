/-
  What some of the program's functions compute: their models, and that the functions compute these; no condition.
-/
import Derived.Test.YtfgmolljcgnafaaGreatTyz
import Derived.Test.YtfgmolljcgnafaaGreatTbz
import Derived.Test.YtfgmolljcgnafaaGreatAbz7
import Derived.Test.YtfgmolljcgnafaaGreatKz2
set_option linter.all false
namespace Go.Proofs.YtfgmolljcgnafaaGreat
open Go Go.Ab
set_option maxRecDepth 100000
set_option maxHeartbeats 40000000
noncomputable def impl_TreeWorld_hear_r01_02_05_k01_02_03_04_05_m (a0:TreeWorld) (a1:Int) (a2:Int) (a3:TreeVector):Option (TreeWorld) :=
 bd (impl_TreeWorld_bridgeAt_m a0 a1 a2) fun x1 =>
 bd (impl_TreeWorld_isDown_m a0 a1) fun x2 =>
 gd (x2 = false → ((0:Int)≤x1∧x1<((a0.Bridges.length:Nat):Int))) <|
(if (x2 || (!((a0.Bridges.getD x1.toNat default).Up))) = true then
 some a0
else
(if (a2 == 0) = true then
 bd (impl_TreeWorld_slot_r00_01_02_03_04_05_at_s1_m a0 a1 a2) fun x5 =>
 bd (impl_TreeWorld_rethink_r01_02_03_04_05_m ({ x5.2 with AtA:=x5.2.AtA.set x5.1 (⟨a3,3⟩:TreeSlot) }) x1) fun x6 =>
 some x6
else
 bd (impl_TreeWorld_slot_r00_01_02_03_04_05_at_s0_m a0 a1 a2) fun x7 =>
 bd (impl_TreeWorld_rethink_r01_02_03_04_05_m ({ x7.2 with AtB:=x7.2.AtB.set x7.1 (⟨a3,3⟩:TreeSlot) }) x1) fun x8 =>
 some x8))
theorem impl_TreeWorld_hear_r01_02_05_k01_02_03_04_05_c {a0:TreeWorld} {a1:Int} {a2:Int} {a3:TreeVector} {r:TreeWorld} (h:impl_TreeWorld_hear_r01_02_05_k01_02_03_04_05_m a0 a1 a2 a3 = some r):EffC Tryz.prog 28 [.ref 9000 0 0,.d (.int .i64 a1),.d (.int .i64 a2),.agg [.d (.int .i64 a3.Root),.d (.int .i64 a3.Cost),.d (.int .i64 a3.Age)]] [(9000,.box 35 [.osl 9001 0 a0.Bridges.length,.osl 9002 0 a0.Links.length,.osl 9003 0 a0.Down.length,.osl 9004 0 a0.AtA.length,.osl 9005 0 a0.AtB.length,.osl 9006 0 a0.Radio.length]),(9001,.arr 81 6 a0.Bridges.length (rows TreeBridge.enc a0.Bridges)),(9002,.arr 89 3 a0.Links.length (rows TreeLink.enc a0.Links)),(9003,.arr 3 1 a0.Down.length (rows encInt a0.Down)),(9004,.arr 93 4 a0.AtA.length (rows TreeSlot.enc a0.AtA)),(9005,.arr 93 4 a0.AtB.length (rows TreeSlot.enc a0.AtB)),(9006,.arr 76 5 a0.Radio.length (rows TreeWord.enc a0.Radio))] (.tup []) [(9000,.box 35 [.osl 5001 0 r.Bridges.length,.osl 5002 0 r.Links.length,.osl 5003 0 r.Down.length,.osl 5004 0 r.AtA.length,.osl 5005 0 r.AtB.length,.osl 5006 0 r.Radio.length]),(5001,.arr 81 6 r.Bridges.length (rows TreeBridge.enc r.Bridges)),(5002,.arr 89 3 r.Links.length (rows TreeLink.enc r.Links)),(5003,.arr 3 1 r.Down.length (rows encInt r.Down)),(5004,.arr 93 4 r.AtA.length (rows TreeSlot.enc r.AtA)),(5005,.arr 93 4 r.AtB.length (rows TreeSlot.enc r.AtB)),(5006,.arr 76 5 r.Radio.length (rows TreeWord.enc r.Radio))]:=by
  refine effC_x tOk (fn:=Tryz.f28) (c:=codeOf Tryz.f28) rfl rfl ?_;unfold impl_TreeWorld_hear_r01_02_05_k01_02_03_04_05_m at h;(conv=>whnf);obtain ⟨x1,hx1,h⟩:=bd_some h;refine cC 0 (impl_TreeWorld_bridgeAt_c hx1) ?_;clear hx1;(conv=>whnf);refine seq_in tOk ?_;(conv=>whnf);obtain ⟨x2,hx2,h⟩:=bd_some h;refine cC 0 (impl_TreeWorld_isDown_c hx2) ?_;clear hx2;(conv=>whnf);refine gdI h (fun h=>?_);(conv=>whnf);refine andI h (fun _ h=>?_) (fun _ h=>?_)
  · (conv=>whnf);obtain rfl:=Option.some.inj h;exact lfE [.s [(5001,9001),(5002,9002),(5003,9003),(5004,9004),(5005,9005),(5006,9006),(9001,5001),(9002,5002),(9003,5003),(9004,5004),(9005,5005),(9006,5006)]]
  · (conv=>whnf);refine spI h (fun e4 h=>?_) (fun e4 h=>?_)
    · obtain ⟨x5,hx5,h⟩:=bd_some h;refine draw_t tOk [.e 3 [(9000,.box 35 [.osl 9001 0 a0.Bridges.length,.osl 9002 0 a0.Links.length,.osl 9003 0 a0.Down.length,.osl 9004 0 a0.AtA.length,.osl 9005 0 a0.AtB.length,.osl 9006 0 a0.Radio.length]),(9001,.arr 81 6 a0.Bridges.length (rows TreeBridge.enc a0.Bridges)),(9002,.arr 89 3 a0.Links.length (rows TreeLink.enc a0.Links)),(9003,.arr 3 1 a0.Down.length (rows encInt a0.Down)),(9004,.arr 93 4 a0.AtA.length (rows TreeSlot.enc a0.AtA)),(9005,.arr 93 4 a0.AtB.length (rows TreeSlot.enc a0.AtB)),(9006,.arr 76 5 a0.Radio.length (rows TreeWord.enc a0.Radio))] (.ref 6004 x5.1 0) [] [(6001,.arr 81 6 x5.2.Bridges.length (rows TreeBridge.enc x5.2.Bridges)),(6002,.arr 89 3 x5.2.Links.length (rows TreeLink.enc x5.2.Links)),(6003,.arr 3 1 x5.2.Down.length (rows encInt x5.2.Down)),(6004,.arr 93 4 x5.2.AtA.length (rows TreeSlot.enc x5.2.AtA)),(6005,.arr 93 4 x5.2.AtB.length (rows TreeSlot.enc x5.2.AtB)),(6006,.arr 76 5 x5.2.Radio.length (rows TreeWord.enc x5.2.Radio)),(9000,.box 35 [.osl 6001 0 x5.2.Bridges.length,.osl 6002 0 x5.2.Links.length,.osl 6003 0 x5.2.Down.length,.osl 6004 0 x5.2.AtA.length,.osl 6005 0 x5.2.AtB.length,.osl 6006 0 x5.2.Radio.length])]] 7 [] [0,0,0,7,0,16,63] [127] [9000,9001,9002,9003,9004,9005,9006] ?_;(conv=>whnf);refine And.intro (eH [(9000,9000),(9001,9001),(9002,9002),(9003,9003),(9004,9004),(9005,9005),(9006,9006)] 1000 (impl_TreeWorld_slot_r00_01_02_03_04_05_at_s1_c e4 hx5)) ?_;(conv=>whnf);refine And.intro (by kernel_rfl) ?_;(conv=>whnf);refine ⟨rows TreeSlot.enc (x5.2.AtA.set x5.1 (⟨a3,3⟩:TreeSlot)),store_rows' lenA rfl,?_⟩;(conv=>whnf);obtain ⟨x6,hx6,h⟩:=bd_some h;refine cE2 [(9000,9000),(9001,6001),(9002,6002),(9003,6003),(9004,6004),(9005,6005),(9006,6006)] 2000 (impl_TreeWorld_rethink_r01_02_03_04_05_c hx6) ?_;(conv=>whnf);obtain rfl:=Option.some.inj h;exact lfE [.s [(5001,7001),(5002,7002),(5003,7003),(5004,7004),(5005,7005),(5006,7006),(7001,5001),(7002,5002),(7003,5003),(7004,5004),(7005,5005),(7006,5006)]]
    · obtain ⟨x7,hx7,h⟩:=bd_some h;refine draw_t tOk [.e 3 [(9000,.box 35 [.osl 9001 0 a0.Bridges.length,.osl 9002 0 a0.Links.length,.osl 9003 0 a0.Down.length,.osl 9004 0 a0.AtA.length,.osl 9005 0 a0.AtB.length,.osl 9006 0 a0.Radio.length]),(9001,.arr 81 6 a0.Bridges.length (rows TreeBridge.enc a0.Bridges)),(9002,.arr 89 3 a0.Links.length (rows TreeLink.enc a0.Links)),(9003,.arr 3 1 a0.Down.length (rows encInt a0.Down)),(9004,.arr 93 4 a0.AtA.length (rows TreeSlot.enc a0.AtA)),(9005,.arr 93 4 a0.AtB.length (rows TreeSlot.enc a0.AtB)),(9006,.arr 76 5 a0.Radio.length (rows TreeWord.enc a0.Radio))] (.ref 6005 x7.1 0) [] [(6001,.arr 81 6 x7.2.Bridges.length (rows TreeBridge.enc x7.2.Bridges)),(6002,.arr 89 3 x7.2.Links.length (rows TreeLink.enc x7.2.Links)),(6003,.arr 3 1 x7.2.Down.length (rows encInt x7.2.Down)),(6004,.arr 93 4 x7.2.AtA.length (rows TreeSlot.enc x7.2.AtA)),(6005,.arr 93 4 x7.2.AtB.length (rows TreeSlot.enc x7.2.AtB)),(6006,.arr 76 5 x7.2.Radio.length (rows TreeWord.enc x7.2.Radio)),(9000,.box 35 [.osl 6001 0 x7.2.Bridges.length,.osl 6002 0 x7.2.Links.length,.osl 6003 0 x7.2.Down.length,.osl 6004 0 x7.2.AtA.length,.osl 6005 0 x7.2.AtB.length,.osl 6006 0 x7.2.Radio.length])]] 7 [] [0,0,0,7,0,16,63] [127] [9000,9001,9002,9003,9004,9005,9006] ?_;(conv=>whnf);refine And.intro (eH [(9000,9000),(9001,9001),(9002,9002),(9003,9003),(9004,9004),(9005,9005),(9006,9006)] 1000 (impl_TreeWorld_slot_r00_01_02_03_04_05_at_s0_c e4 hx7)) ?_;(conv=>whnf);refine And.intro (by kernel_rfl) ?_;(conv=>whnf);refine ⟨rows TreeSlot.enc (x7.2.AtB.set x7.1 (⟨a3,3⟩:TreeSlot)),store_rows' lenA rfl,?_⟩;(conv=>whnf);obtain ⟨x8,hx8,h⟩:=bd_some h;refine cE2 [(9000,9000),(9001,6001),(9002,6002),(9003,6003),(9004,6004),(9005,6005),(9006,6006)] 2000 (impl_TreeWorld_rethink_r01_02_03_04_05_c hx8) ?_;(conv=>whnf);obtain rfl:=Option.some.inj h;exact lfE [.s [(5001,7001),(5002,7002),(5003,7003),(5004,7004),(5005,7005),(5006,7006),(7001,5001),(7002,5002),(7003,5003),(7004,5004),(7005,5005),(7006,5006)]]
noncomputable def impl_TreeWorld_onWord_r01_02_k00_01_02_03_04_05_m (a0:TreeWorld) (a1:Int) (a2:Int):Option (TreeWorld) :=
 bd (impl_within_m a2 0 (IntKind.i64.wrap (((a0.Radio.length:Nat):Int) - 1))) fun x1 =>
(if (!x1) = true then
 some a0
else
 gd ((0:Int)≤a2∧a2<((a0.Radio.length:Nat):Int)) <|
(if (a1 == 3) = true then
 bd (impl_TreeWorld_put_r00_01_02_03_04_m a0 ({ (a0.Radio.getD a2.toNat default) with Vector:=((a0.Radio.getD a2.toNat default).Vector) })) fun x3 =>
 some x3
else
 bd (slices_Delete_TreeWord_TreeWord_m a0.Radio a2 (IntKind.i64.wrap (a2+1))) fun x4 =>
(if (a1 == 2) = true then
 bd (impl_TreeWorld_hear_r01_02_05_k01_02_03_04_05_m ({ a0 with Radio:=x4 }) ((a0.Radio.getD a2.toNat default).Link) ((a0.Radio.getD a2.toNat default).End) ((a0.Radio.getD a2.toNat default).Vector)) fun x5 =>
 some x5
else
 some ({ a0 with Radio:=x4 }))))
theorem impl_TreeWorld_onWord_r01_02_k00_01_02_03_04_05_c {a0:TreeWorld} {a1:Int} {a2:Int} {r:TreeWorld} (h:impl_TreeWorld_onWord_r01_02_k00_01_02_03_04_05_m a0 a1 a2 = some r):EffC Tryz.prog 26 [.ref 9000 0 0,.d (.int .i64 a1),.d (.int .i64 a2)] [(9000,.box 35 [.osl 9001 0 a0.Bridges.length,.osl 9002 0 a0.Links.length,.osl 9003 0 a0.Down.length,.osl 9004 0 a0.AtA.length,.osl 9005 0 a0.AtB.length,.osl 9006 0 a0.Radio.length]),(9001,.arr 81 6 a0.Bridges.length (rows TreeBridge.enc a0.Bridges)),(9002,.arr 89 3 a0.Links.length (rows TreeLink.enc a0.Links)),(9003,.arr 3 1 a0.Down.length (rows encInt a0.Down)),(9004,.arr 93 4 a0.AtA.length (rows TreeSlot.enc a0.AtA)),(9005,.arr 93 4 a0.AtB.length (rows TreeSlot.enc a0.AtB)),(9006,.arr 76 5 a0.Radio.length (rows TreeWord.enc a0.Radio))] (.tup []) [(9000,.box 35 [.osl 5001 0 r.Bridges.length,.osl 5002 0 r.Links.length,.osl 5003 0 r.Down.length,.osl 5004 0 r.AtA.length,.osl 5005 0 r.AtB.length,.osl 5006 0 r.Radio.length]),(5001,.arr 81 6 r.Bridges.length (rows TreeBridge.enc r.Bridges)),(5002,.arr 89 3 r.Links.length (rows TreeLink.enc r.Links)),(5003,.arr 3 1 r.Down.length (rows encInt r.Down)),(5004,.arr 93 4 r.AtA.length (rows TreeSlot.enc r.AtA)),(5005,.arr 93 4 r.AtB.length (rows TreeSlot.enc r.AtB)),(5006,.arr 76 5 r.Radio.length (rows TreeWord.enc r.Radio))]:=by
  refine effC_x tOk (fn:=Tryz.f26) (c:=codeOf Tryz.f26) rfl rfl ?_;unfold impl_TreeWorld_onWord_r01_02_k00_01_02_03_04_05_m at h;(conv=>whnf);refine seq_in tOk ?_;(conv=>whnf);obtain ⟨x1,hx1,h⟩:=bd_some h;refine cC 0 (impl_within_c hx1) ?_;clear hx1;(conv=>whnf);refine andI h (fun _ h=>?_) (fun _ h=>?_)
  · (conv=>whnf);obtain rfl:=Option.some.inj h;exact lfE [.s [(5001,9001),(5002,9002),(5003,9003),(5004,9004),(5005,9005),(5006,9006),(9001,5001),(9002,5002),(9003,5003),(9004,5004),(9005,5005),(9006,5006)]]
  · (conv=>whnf);refine gdI h (fun h=>?_);(conv=>whnf);refine seq_in tOk ?_;(conv=>whnf);refine andI h (fun _ h=>?_) (fun _ h=>?_)
    · (conv=>whnf);obtain ⟨x3,hx3,h⟩:=bd_some h;refine cE2 [(9000,9000),(9001,9001),(9002,9002),(9003,9003),(9004,9004),(9005,9005),(9006,9006)] 1000 (impl_TreeWorld_put_r00_01_02_03_04_c hx3) ?_;(conv=>whnf);obtain rfl:=Option.some.inj h;exact lfE [.s [(5001,6001),(5002,6002),(5003,6003),(5004,6004),(5005,6005),(5006,6006),(6001,5001),(6002,5002),(6003,5003),(6004,5004),(6005,5005),(6006,5006)]]
    · (conv=>whnf);obtain ⟨x4,hx4,h⟩:=bd_some h;refine cE [(9000,9006)] 1000 (slices_Delete_TreeWord_TreeWord_c hx4) ?_;(conv=>whnf);refine andI h (fun _ h=>?_) (fun _ h=>?_)
      · (conv=>whnf);obtain ⟨x5,hx5,h⟩:=bd_some h;refine cE2 [(9000,9000),(9001,9001),(9002,9002),(9003,9003),(9004,9004),(9005,9005),(9006,6001)] 2000 (impl_TreeWorld_hear_r01_02_05_k01_02_03_04_05_c hx5) ?_;(conv=>whnf);obtain rfl:=Option.some.inj h;exact lfE [.s [(5001,7001),(5002,7002),(5003,7003),(5004,7004),(5005,7005),(5006,7006),(7001,5001),(7002,5002),(7003,5003),(7004,5004),(7005,5005),(7006,5006)]]
      · (conv=>whnf);obtain rfl:=Option.some.inj h;exact lfE [.s [(5001,9001),(5002,9002),(5003,9003),(5004,9004),(5005,9005),(5006,6001),(6001,5006),(9001,5001),(9002,5002),(9003,5003),(9004,5004),(9005,5005)]]
noncomputable def impl_TreeWorld_tick_r01_02_05_k04_m (a0:TreeWorld):Option (TreeWorld) :=
 bd (lp (σ:=List TreeBridge × List TreeLink × List Int × List TreeSlot × List TreeSlot × List TreeWord × Int) (β:=(Nat × Nat × Nat × Nat × Nat × Nat × (List TreeBridge) × (List TreeLink) × (List Int) × (List TreeSlot) × (List TreeSlot) × (List TreeWord))) (fun s1 =>
(if (decide (s1.2.2.2.2.2.2<((a0.Links.length:Nat):Int))) = true then
 bd (lp (σ:=List TreeBridge × List TreeLink × List Int × List TreeSlot × List TreeSlot × List TreeWord × Int) (β:=(Nat × Nat × Nat × Nat × Nat × Nat × (List TreeBridge) × (List TreeLink) × (List Int) × (List TreeSlot) × (List TreeSlot) × (List TreeWord))) (fun s5 =>
(if (decide (s5.2.2.2.2.2.2<2)) = true then
(if (s5.2.2.2.2.2.2 == 0) = true then
 bd (impl_TreeWorld_slot_r00_01_02_03_04_05_at_s1_m (⟨s5.1,s5.2.1,s5.2.2.1,s5.2.2.2.1,s5.2.2.2.2.1,s5.2.2.2.2.2.1⟩:TreeWorld) s1.2.2.2.2.2.2 s5.2.2.2.2.2.2) fun x10 =>
 bd (some (x10.2.AtA.set x10.1 (⟨((x10.2.AtA.getD x10.1 default).Vector),(if (IntKind.i64.wrap (((x10.2.AtA.getD x10.1 default).Left) - 1)) > 0 then IntKind.i64.wrap (((x10.2.AtA.getD x10.1 default).Left) - 1) else 0)⟩:TreeSlot))) fun x11 =>
(if (((x11.getD x10.1 default).Left) == 0) = true then
 some (.inl (x10.2.Bridges,x10.2.Links,x10.2.Down,x11.set x10.1 (⟨(⟨0,0,0⟩:TreeVector),0⟩:TreeSlot),x10.2.AtB,x10.2.Radio,IntKind.i64.wrap (s5.2.2.2.2.2.2+1)))
else
 some (.inl (x10.2.Bridges,x10.2.Links,x10.2.Down,x11,x10.2.AtB,x10.2.Radio,IntKind.i64.wrap (s5.2.2.2.2.2.2+1))))
else
 bd (impl_TreeWorld_slot_r00_01_02_03_04_05_at_s0_m (⟨s5.1,s5.2.1,s5.2.2.1,s5.2.2.2.1,s5.2.2.2.2.1,s5.2.2.2.2.2.1⟩:TreeWorld) s1.2.2.2.2.2.2 s5.2.2.2.2.2.2) fun x12 =>
 bd (some (x12.2.AtB.set x12.1 (⟨((x12.2.AtB.getD x12.1 default).Vector),(if (IntKind.i64.wrap (((x12.2.AtB.getD x12.1 default).Left) - 1)) > 0 then IntKind.i64.wrap (((x12.2.AtB.getD x12.1 default).Left) - 1) else 0)⟩:TreeSlot))) fun x13 =>
(if (((x13.getD x12.1 default).Left) == 0) = true then
 some (.inl (x12.2.Bridges,x12.2.Links,x12.2.Down,x12.2.AtA,x13.set x12.1 (⟨(⟨0,0,0⟩:TreeVector),0⟩:TreeSlot),x12.2.Radio,IntKind.i64.wrap (s5.2.2.2.2.2.2+1)))
else
 some (.inl (x12.2.Bridges,x12.2.Links,x12.2.Down,x12.2.AtA,x13,x12.2.Radio,IntKind.i64.wrap (s5.2.2.2.2.2.2+1)))))
else
 some (.inr (s5.1.length,s5.2.1.length,s5.2.2.1.length,s5.2.2.2.1.length,s5.2.2.2.2.1.length,s5.2.2.2.2.2.1.length,s5.1,s5.2.1,s5.2.2.1,s5.2.2.2.1,s5.2.2.2.2.1,s5.2.2.2.2.2.1)))) (s1.1,s1.2.1,s1.2.2.1,s1.2.2.2.1,s1.2.2.2.2.1,s1.2.2.2.2.2.1,0)) fun x8 =>
 some (.inl (x8.2.2.2.2.2.2.1,x8.2.2.2.2.2.2.2.1,x8.2.2.2.2.2.2.2.2.1,x8.2.2.2.2.2.2.2.2.2.1,x8.2.2.2.2.2.2.2.2.2.2.1,x8.2.2.2.2.2.2.2.2.2.2.2,IntKind.i64.wrap (s1.2.2.2.2.2.2+1)))
else
 some (.inr (s1.1.length,s1.2.1.length,s1.2.2.1.length,s1.2.2.2.1.length,s1.2.2.2.2.1.length,s1.2.2.2.2.2.1.length,s1.1,s1.2.1,s1.2.2.1,s1.2.2.2.1,s1.2.2.2.2.1,s1.2.2.2.2.2.1)))) (a0.Bridges,a0.Links,a0.Down,a0.AtA,a0.AtB,a0.Radio,0)) fun x4 =>
 bd (lp (σ:=List TreeBridge × List TreeLink × List Int × List TreeSlot × List TreeSlot × List TreeWord × Int) (β:=(Nat × Nat × Nat × Nat × Nat × Nat × (List TreeBridge) × (List TreeLink) × (List Int) × (List TreeSlot) × (List TreeSlot) × (List TreeWord))) (fun s16 =>
(if (decide (s16.2.2.2.2.2.2<((x4.1:Nat):Int))) = true then
 bd (impl_TreeWorld_rethink_r01_02_03_04_05_m (⟨s16.1,s16.2.1,s16.2.2.1,s16.2.2.2.1,s16.2.2.2.2.1,s16.2.2.2.2.2.1⟩:TreeWorld) s16.2.2.2.2.2.2) fun x20 =>
 some (.inl (x20.Bridges,x20.Links,x20.Down,x20.AtA,x20.AtB,x20.Radio,IntKind.i64.wrap (s16.2.2.2.2.2.2+1)))
else
 some (.inr (s16.1.length,s16.2.1.length,s16.2.2.1.length,s16.2.2.2.1.length,s16.2.2.2.2.1.length,s16.2.2.2.2.2.1.length,s16.1,s16.2.1,s16.2.2.1,s16.2.2.2.1,s16.2.2.2.2.1,s16.2.2.2.2.2.1)))) (x4.2.2.2.2.2.2.1,x4.2.2.2.2.2.2.2.1,x4.2.2.2.2.2.2.2.2.1,x4.2.2.2.2.2.2.2.2.2.1,x4.2.2.2.2.2.2.2.2.2.2.1,x4.2.2.2.2.2.2.2.2.2.2.2,0)) fun x19 =>
 some (⟨x19.2.2.2.2.2.2.1,x19.2.2.2.2.2.2.2.1,x19.2.2.2.2.2.2.2.2.1,x19.2.2.2.2.2.2.2.2.2.1,x19.2.2.2.2.2.2.2.2.2.2.1,x19.2.2.2.2.2.2.2.2.2.2.2⟩:TreeWorld)
theorem impl_TreeWorld_tick_r01_02_05_k04_c {a0:TreeWorld} {r:TreeWorld} (h:impl_TreeWorld_tick_r01_02_05_k04_m a0 = some r):EffC Tryz.prog 30 [.ref 9000 0 0] [(9000,.box 35 [.osl 9001 0 a0.Bridges.length,.osl 9002 0 a0.Links.length,.osl 9003 0 a0.Down.length,.osl 9004 0 a0.AtA.length,.osl 9005 0 a0.AtB.length,.osl 9006 0 a0.Radio.length]),(9001,.arr 81 6 a0.Bridges.length (rows TreeBridge.enc a0.Bridges)),(9002,.arr 89 3 a0.Links.length (rows TreeLink.enc a0.Links)),(9003,.arr 3 1 a0.Down.length (rows encInt a0.Down)),(9004,.arr 93 4 a0.AtA.length (rows TreeSlot.enc a0.AtA)),(9005,.arr 93 4 a0.AtB.length (rows TreeSlot.enc a0.AtB)),(9006,.arr 76 5 a0.Radio.length (rows TreeWord.enc a0.Radio))] (.tup []) [(9000,.box 35 [.osl 5001 0 r.Bridges.length,.osl 5002 0 r.Links.length,.osl 5003 0 r.Down.length,.osl 5004 0 r.AtA.length,.osl 5005 0 r.AtB.length,.osl 5006 0 r.Radio.length]),(5001,.arr 81 6 r.Bridges.length (rows TreeBridge.enc r.Bridges)),(5002,.arr 89 3 r.Links.length (rows TreeLink.enc r.Links)),(5003,.arr 3 1 r.Down.length (rows encInt r.Down)),(5004,.arr 93 4 r.AtA.length (rows TreeSlot.enc r.AtA)),(5005,.arr 93 4 r.AtB.length (rows TreeSlot.enc r.AtB)),(5006,.arr 76 5 r.Radio.length (rows TreeWord.enc r.Radio))]:=by
  refine effC_x tOk (fn:=Tryz.f30) (c:=codeOf Tryz.f30) rfl rfl ?_;unfold impl_TreeWorld_tick_r01_02_05_k04_m at h;(conv=>whnf);refine seq_in tOk ?_;(conv=>whnf);obtain ⟨x4,hx4,h⟩:=bd_some h;refine loop_m tOk hx4 (fun s1=>⟨0,52,[(0,.ref 9000 0 0),(10,.d (.int .i64 ((a0.Links.length:Nat):Int))),(11,.d (.int .i64 s1.2.2.2.2.2.2))],[],[(9000,.box 35 [.osl 9001 0 s1.1.length,.osl 9002 0 s1.2.1.length,.osl 9003 0 s1.2.2.1.length,.osl 9004 0 s1.2.2.2.1.length,.osl 9005 0 s1.2.2.2.2.1.length,.osl 9006 0 s1.2.2.2.2.2.1.length]),(9001,.arr 81 6 s1.1.length (rows TreeBridge.enc s1.1)),(9002,.arr 89 3 s1.2.1.length (rows TreeLink.enc s1.2.1)),(9003,.arr 3 1 s1.2.2.1.length (rows encInt s1.2.2.1)),(9004,.arr 93 4 s1.2.2.2.1.length (rows TreeSlot.enc s1.2.2.2.1)),(9005,.arr 93 4 s1.2.2.2.2.1.length (rows TreeSlot.enc s1.2.2.2.2.1)),(9006,.arr 76 5 s1.2.2.2.2.2.1.length (rows TreeWord.enc s1.2.2.2.2.2.1))],[⟨[(0,.ref 9000 0 0)],[]⟩]⟩) ?_ ?_
  · exact leX []
  · clear hx4;intro s1 y2 g3 hy2;(conv=>whnf);refine seq_in tOk ?_;(conv=>whnf);refine andI g3 (fun _ g3=>?_) (fun _ g3=>?_)
    · (conv=>whnf);refine seq_in tOk ?_;(conv=>whnf);obtain ⟨x8,hx8,g3⟩:=bd_some g3;refine loop_m tOk hx8 (fun s5=>⟨0,52,[(0,.ref 9000 0 0),(2,.d (.int .i64 s1.2.2.2.2.2.2)),(10,.d (.int .i64 ((a0.Links.length:Nat):Int))),(11,.d (.int .i64 s1.2.2.2.2.2.2)),(14,.d (.int .i64 s5.2.2.2.2.2.2))],[],[(9000,.box 35 [.osl 9001 0 s5.1.length,.osl 9002 0 s5.2.1.length,.osl 9003 0 s5.2.2.1.length,.osl 9004 0 s5.2.2.2.1.length,.osl 9005 0 s5.2.2.2.2.1.length,.osl 9006 0 s5.2.2.2.2.2.1.length]),(9001,.arr 81 6 s5.1.length (rows TreeBridge.enc s5.1)),(9002,.arr 89 3 s5.2.1.length (rows TreeLink.enc s5.2.1)),(9003,.arr 3 1 s5.2.2.1.length (rows encInt s5.2.2.1)),(9004,.arr 93 4 s5.2.2.2.1.length (rows TreeSlot.enc s5.2.2.2.1)),(9005,.arr 93 4 s5.2.2.2.2.1.length (rows TreeSlot.enc s5.2.2.2.2.1)),(9006,.arr 76 5 s5.2.2.2.2.2.1.length (rows TreeWord.enc s5.2.2.2.2.2.1))],[⟨[(0,.ref 9000 0 0)],[]⟩]⟩) ?_ ?_
      · exact leX []
      · clear hx8;intro s5 y6 g7 hy6;(conv=>whnf);refine seq_in tOk ?_;(conv=>whnf);refine andI g7 (fun _ g7=>?_) (fun _ g7=>?_)
        · (conv=>whnf);refine seq_in tOk ?_;(conv=>whnf);refine spI g7 (fun e9 g7=>?_) (fun e9 g7=>?_)
          · obtain ⟨x10,hx10,g7⟩:=bd_some g7;refine cE2 [(9000,9000),(9001,9001),(9002,9002),(9003,9003),(9004,9004),(9005,9005),(9006,9006)] 1000 (impl_TreeWorld_slot_r00_01_02_03_04_05_at_s1_c e9 hx10) ?_;(conv=>whnf);obtain ⟨x11,hx11,hlx11,g7⟩:=bd_set g7;refine setS (enc:=TreeSlot.enc) hx11 ?_;(conv=>whnf);refine andI g7 (fun _ g7=>?_) (fun _ g7=>?_)
            · (conv=>whnf);refine ⟨rows TreeSlot.enc (x11.set x10.1 (⟨(⟨0,0,0⟩:TreeVector),0⟩:TreeSlot)),store_rows' lenA rfl,?_⟩;(conv=>whnf);obtain rfl:=Option.some.inj g7;exact ⟨_,rfl,leX [.s [(6001,9001),(6002,9002),(6003,9003),(6004,9004),(6005,9005),(6006,9006),(9001,6001),(9002,6002),(9003,6003),(9004,6004),(9005,6005),(9006,6006)]]⟩
            · (conv=>whnf);obtain rfl:=Option.some.inj g7;exact ⟨_,rfl,leX [.s [(6001,9001),(6002,9002),(6003,9003),(6004,9004),(6005,9005),(6006,9006),(9001,6001),(9002,6002),(9003,6003),(9004,6004),(9005,6005),(9006,6006)]]⟩
          · obtain ⟨x12,hx12,g7⟩:=bd_some g7;refine cE2 [(9000,9000),(9001,9001),(9002,9002),(9003,9003),(9004,9004),(9005,9005),(9006,9006)] 1000 (impl_TreeWorld_slot_r00_01_02_03_04_05_at_s0_c e9 hx12) ?_;(conv=>whnf);obtain ⟨x13,hx13,hlx13,g7⟩:=bd_set g7;refine setS (enc:=TreeSlot.enc) hx13 ?_;(conv=>whnf);refine andI g7 (fun _ g7=>?_) (fun _ g7=>?_)
            · (conv=>whnf);refine ⟨rows TreeSlot.enc (x13.set x12.1 (⟨(⟨0,0,0⟩:TreeVector),0⟩:TreeSlot)),store_rows' lenA rfl,?_⟩;(conv=>whnf);obtain rfl:=Option.some.inj g7;exact ⟨_,rfl,leX [.s [(6001,9001),(6002,9002),(6003,9003),(6004,9004),(6005,9005),(6006,9006),(9001,6001),(9002,6002),(9003,6003),(9004,6004),(9005,6005),(9006,6006)]]⟩
            · (conv=>whnf);obtain rfl:=Option.some.inj g7;exact ⟨_,rfl,leX [.s [(6001,9001),(6002,9002),(6003,9003),(6004,9004),(6005,9005),(6006,9006),(9001,6001),(9002,6002),(9003,6003),(9004,6004),(9005,6005),(9006,6006)]]⟩
        · (conv=>whnf);obtain rfl:=Option.some.inj g7;obtain rfl:=hy6 _ rfl;obtain rfl:=Option.some.inj g3;exact ⟨_,rfl,leX []⟩
    · (conv=>whnf);obtain rfl:=Option.some.inj g3;obtain rfl:=hy2 _ rfl;obtain ⟨x19,hx19,h⟩:=bd_some h;refine loop_m tOk hx19 (fun s16=>⟨0,52,[(0,.ref 9000 0 0),(44,.d (.int .i64 (((s1.1.length,s1.2.1.length,s1.2.2.1.length,s1.2.2.2.1.length,s1.2.2.2.2.1.length,s1.2.2.2.2.2.1.length,s1.1,s1.2.1,s1.2.2.1,s1.2.2.2.1,s1.2.2.2.2.1,s1.2.2.2.2.2.1).1:Nat):Int))),(45,.d (.int .i64 s16.2.2.2.2.2.2))],[],[(9000,.box 35 [.osl 9001 0 s16.1.length,.osl 9002 0 s16.2.1.length,.osl 9003 0 s16.2.2.1.length,.osl 9004 0 s16.2.2.2.1.length,.osl 9005 0 s16.2.2.2.2.1.length,.osl 9006 0 s16.2.2.2.2.2.1.length]),(9001,.arr 81 6 s16.1.length (rows TreeBridge.enc s16.1)),(9002,.arr 89 3 s16.2.1.length (rows TreeLink.enc s16.2.1)),(9003,.arr 3 1 s16.2.2.1.length (rows encInt s16.2.2.1)),(9004,.arr 93 4 s16.2.2.2.1.length (rows TreeSlot.enc s16.2.2.2.1)),(9005,.arr 93 4 s16.2.2.2.2.1.length (rows TreeSlot.enc s16.2.2.2.2.1)),(9006,.arr 76 5 s16.2.2.2.2.2.1.length (rows TreeWord.enc s16.2.2.2.2.2.1))],[⟨[(0,.ref 9000 0 0)],[]⟩]⟩) ?_ ?_
      · exact leX []
      · clear hx19;intro s16 y17 g18 hy17;(conv=>whnf);refine seq_in tOk ?_;(conv=>whnf);refine andI g18 (fun _ g18=>?_) (fun _ g18=>?_)
        · (conv=>whnf);refine seq_in tOk ?_;(conv=>whnf);obtain ⟨x20,hx20,g18⟩:=bd_some g18;refine cE2 [(9000,9000),(9001,9001),(9002,9002),(9003,9003),(9004,9004),(9005,9005),(9006,9006)] 1000 (impl_TreeWorld_rethink_r01_02_03_04_05_c hx20) ?_;(conv=>whnf);obtain rfl:=Option.some.inj g18;exact ⟨_,rfl,leX [.s [(6001,9001),(6002,9002),(6003,9003),(6004,9004),(6005,9005),(6006,9006),(9001,6001),(9002,6002),(9003,6003),(9004,6004),(9005,6005),(9006,6006)]]⟩
        · (conv=>whnf);obtain rfl:=Option.some.inj g18;obtain rfl:=hy17 _ rfl;obtain rfl:=Option.some.inj h;exact lfE [.s [(5001,9001),(5002,9002),(5003,9003),(5004,9004),(5005,9005),(5006,9006),(9001,5001),(9002,5002),(9003,5003),(9004,5004),(9005,5005),(9006,5006)]]
noncomputable def impl_TreeCalm_pu_o00_01_02_03_04_05_m (a0:TreeWorld) (a1:Int) (a2:Int):Option (TreeWorld) :=
 bd (impl_TreeWorldOk_m a0) fun x1 =>
(if (!x1) = true then
 some (⟨[],[],[],[],[],[]⟩:TreeWorld)
else
 bd (impl_copyTree_o00_01_02_03_04_05_m a0) fun x2 =>
 bd (lp (σ:=List TreeBridge × List TreeLink × List Int × List TreeSlot × List TreeSlot × List TreeWord × Int) (β:=(Nat × Nat × Nat × Nat × Nat × Nat × (List TreeBridge) × (List TreeLink) × (List Int) × (List TreeSlot) × (List TreeSlot) × (List TreeWord))) (fun s3 =>
(if (decide (s3.2.2.2.2.2.2<(if 60<(if 0 > a1 then 0 else a1) then 60 else (if 0 > a1 then 0 else a1)))) = true then
 bd (lp (σ:=List TreeBridge × List TreeLink × List Int × List TreeSlot × List TreeSlot × List TreeWord) (β:=(Nat × Nat × Nat × Nat × Nat × Nat × (List TreeBridge) × (List TreeLink) × (List Int) × (List TreeSlot) × (List TreeSlot) × (List TreeWord))) (fun s7 =>
(if (decide (((s7.2.2.2.2.2.length:Nat):Int) > 0)) = true then
 bd (impl_TreeWorld_onWord_r01_02_k00_01_02_03_04_05_m (⟨s7.1,s7.2.1,s7.2.2.1,s7.2.2.2.1,s7.2.2.2.2.1,s7.2.2.2.2.2⟩:TreeWorld) 2 0) fun x11 =>
 some (.inl (x11.Bridges,x11.Links,x11.Down,x11.AtA,x11.AtB,x11.Radio))
else
 some (.inr (s7.1.length,s7.2.1.length,s7.2.2.1.length,s7.2.2.2.1.length,s7.2.2.2.2.1.length,s7.2.2.2.2.2.length,s7.1,s7.2.1,s7.2.2.1,s7.2.2.2.1,s7.2.2.2.2.1,s7.2.2.2.2.2)))) (s3.1,s3.2.1,s3.2.2.1,s3.2.2.2.1,s3.2.2.2.2.1,s3.2.2.2.2.2.1)) fun x10 =>
 bd (lp (σ:=List TreeBridge × List TreeLink × List Int × List TreeSlot × List TreeSlot × List TreeWord × Int) (β:=(Nat × Nat × Nat × Nat × Nat × Nat × (List TreeBridge) × (List TreeLink) × (List Int) × (List TreeSlot) × (List TreeSlot) × (List TreeWord))) (fun s13 =>
(if (decide (s13.2.2.2.2.2.2<((a0.Links.length:Nat):Int))) = true then
 gd ((((a0.Links.length:Nat):Int):Int) ≠ 0) <|
 gd ((((a0.Links.length:Nat):Int):Int) ≠ 0) <|
 bd (impl_TreeWorld_open_m (⟨s13.1,s13.2.1,s13.2.2.1,s13.2.2.2.1,s13.2.2.2.2.1,s13.2.2.2.2.2.1⟩:TreeWorld) ((IntKind.i64.wrap ((((if 0 > a2 then 0 else a2):Int).tmod ((a0.Links.length:Nat):Int))+s13.2.2.2.2.2.2):Int).tmod ((a0.Links.length:Nat):Int))) fun x19 =>
(if x19 = true then
 bd (impl_TreeWorld_told_m (⟨s13.1,s13.2.1,s13.2.2.1,s13.2.2.2.1,s13.2.2.2.2.1,s13.2.2.2.2.2.1⟩:TreeWorld) ((IntKind.i64.wrap ((((if 0 > a2 then 0 else a2):Int).tmod ((a0.Links.length:Nat):Int))+s13.2.2.2.2.2.2):Int).tmod ((a0.Links.length:Nat):Int)) 0) fun x20 =>
 bd (impl_TreeWorld_hear_r01_02_05_k01_02_03_04_05_m (⟨s13.1,s13.2.1,s13.2.2.1,s13.2.2.2.1,s13.2.2.2.2.1,s13.2.2.2.2.2.1⟩:TreeWorld) ((IntKind.i64.wrap ((((if 0 > a2 then 0 else a2):Int).tmod ((a0.Links.length:Nat):Int))+s13.2.2.2.2.2.2):Int).tmod ((a0.Links.length:Nat):Int)) 0 x20) fun x21 =>
 bd (impl_TreeWorld_told_m x21 ((IntKind.i64.wrap ((((if 0 > a2 then 0 else a2):Int).tmod ((a0.Links.length:Nat):Int))+s13.2.2.2.2.2.2):Int).tmod ((a0.Links.length:Nat):Int)) 1) fun x22 =>
 bd (impl_TreeWorld_hear_r01_02_05_k01_02_03_04_05_m x21 ((IntKind.i64.wrap ((((if 0 > a2 then 0 else a2):Int).tmod ((a0.Links.length:Nat):Int))+s13.2.2.2.2.2.2):Int).tmod ((a0.Links.length:Nat):Int)) 1 x22) fun x23 =>
 some (.inl (x23.Bridges,x23.Links,x23.Down,x23.AtA,x23.AtB,x23.Radio,IntKind.i64.wrap (s13.2.2.2.2.2.2+1)))
else
 some (.inl (s13.1,s13.2.1,s13.2.2.1,s13.2.2.2.1,s13.2.2.2.2.1,s13.2.2.2.2.2.1,IntKind.i64.wrap (s13.2.2.2.2.2.2+1))))
else
 some (.inr (s13.1.length,s13.2.1.length,s13.2.2.1.length,s13.2.2.2.1.length,s13.2.2.2.2.1.length,s13.2.2.2.2.2.1.length,s13.1,s13.2.1,s13.2.2.1,s13.2.2.2.1,s13.2.2.2.2.1,s13.2.2.2.2.2.1)))) (x10.2.2.2.2.2.2.1,x10.2.2.2.2.2.2.2.1,x10.2.2.2.2.2.2.2.2.1,x10.2.2.2.2.2.2.2.2.2.1,x10.2.2.2.2.2.2.2.2.2.2.1,x10.2.2.2.2.2.2.2.2.2.2.2,0)) fun x16 =>
 bd (impl_TreeWorld_tick_r01_02_05_k04_m (⟨x16.2.2.2.2.2.2.1,x16.2.2.2.2.2.2.2.1,x16.2.2.2.2.2.2.2.2.1,x16.2.2.2.2.2.2.2.2.2.1,x16.2.2.2.2.2.2.2.2.2.2.1,x16.2.2.2.2.2.2.2.2.2.2.2⟩:TreeWorld)) fun x25 =>
 some (.inl (x25.Bridges,x25.Links,x25.Down,x25.AtA,x25.AtB,x25.Radio,IntKind.i64.wrap (s3.2.2.2.2.2.2+1)))
else
 some (.inr (s3.1.length,s3.2.1.length,s3.2.2.1.length,s3.2.2.2.1.length,s3.2.2.2.2.1.length,s3.2.2.2.2.2.1.length,s3.1,s3.2.1,s3.2.2.1,s3.2.2.2.1,s3.2.2.2.2.1,s3.2.2.2.2.2.1)))) (x2.Bridges,x2.Links,x2.Down,x2.AtA,x2.AtB,x2.Radio,0)) fun x6 =>
 some (⟨x6.2.2.2.2.2.2.1,x6.2.2.2.2.2.2.2.1,x6.2.2.2.2.2.2.2.2.1,x6.2.2.2.2.2.2.2.2.2.1,x6.2.2.2.2.2.2.2.2.2.2.1,x6.2.2.2.2.2.2.2.2.2.2.2⟩:TreeWorld))
theorem impl_TreeCalm_pu_o00_01_02_03_04_05_c {a0:TreeWorld} {a1:Int} {a2:Int} {r:TreeWorld} (h:impl_TreeCalm_pu_o00_01_02_03_04_05_m a0 a1 a2 = some r):PureC Tryz.prog 7 [.agg [.d (slD TreeBridge.enc a0.Bridges),.d (slD TreeLink.enc a0.Links),.d (slD encInt a0.Down),.d (slD TreeSlot.enc a0.AtA),.d (slD TreeSlot.enc a0.AtB),.d (slD TreeWord.enc a0.Radio)],.d (.int .i64 a1),.d (.int .i64 a2)] (.agg [.osl 5001 0 r.Bridges.length,.osl 5002 0 r.Links.length,.osl 5003 0 r.Down.length,.osl 5004 0 r.AtA.length,.osl 5005 0 r.AtB.length,.osl 5006 0 r.Radio.length]) [⟨5001,81,6,r.Bridges.length,rows TreeBridge.enc r.Bridges⟩,⟨5002,89,3,r.Links.length,rows TreeLink.enc r.Links⟩,⟨5003,3,1,r.Down.length,rows encInt r.Down⟩,⟨5004,93,4,r.AtA.length,rows TreeSlot.enc r.AtA⟩,⟨5005,93,4,r.AtB.length,rows TreeSlot.enc r.AtB⟩,⟨5006,76,5,r.Radio.length,rows TreeWord.enc r.Radio⟩]:=by
  refine EffC.pure (M:=[(5001,.arr 81 6 r.Bridges.length (rows TreeBridge.enc r.Bridges)),(5002,.arr 89 3 r.Links.length (rows TreeLink.enc r.Links)),(5003,.arr 3 1 r.Down.length (rows encInt r.Down)),(5004,.arr 93 4 r.AtA.length (rows TreeSlot.enc r.AtA)),(5005,.arr 93 4 r.AtB.length (rows TreeSlot.enc r.AtB)),(5006,.arr 76 5 r.Radio.length (rows TreeWord.enc r.Radio))]) ?_;refine effC_x tOk (fn:=Tryz.f7) (c:=codeOf Tryz.f7) rfl rfl ?_;unfold impl_TreeCalm_pu_o00_01_02_03_04_05_m at h;(conv=>whnf);refine seq_in tOk ?_;(conv=>whnf);obtain ⟨x1,hx1,h⟩:=bd_some h;refine cC 0 (impl_TreeWorldOk_c hx1) ?_;clear hx1;(conv=>whnf);refine andI h (fun _ h=>?_) (fun _ h=>?_)
  · (conv=>whnf);obtain rfl:=Option.some.inj h;exact lfE [.k [3],.p 5001 81 6 (rows TreeBridge.enc ([]:List TreeBridge)),.p 5002 89 3 (rows TreeLink.enc ([]:List TreeLink)),.p 5003 3 1 (rows encInt ([]:List Int)),.p 5004 93 4 (rows TreeSlot.enc ([]:List TreeSlot)),.p 5005 93 4 (rows TreeSlot.enc ([]:List TreeSlot)),.p 5006 76 5 (rows TreeWord.enc ([]:List TreeWord))]
  · (conv=>whnf);obtain ⟨x2,hx2,h⟩:=bd_some h;refine cE [] 1000 (impl_copyTree_o00_01_02_03_04_05_c hx2) ?_;(conv=>whnf);refine seq_in tOk ?_;(conv=>whnf);obtain ⟨x6,hx6,h⟩:=bd_some h;refine loop_m tOk hx6 (fun s3=>⟨0,56,[(2,.d (.int .i64 a2)),(6,.ref 6 0 0),(7,.ref 7 0 0),(8,.d (.int .i64 ((a0.Links.length:Nat):Int))),(22,.d (.int .i64 (if 60<(if 0 > a1 then 0 else a1) then 60 else (if 0 > a1 then 0 else a1)))),(23,.d (.int .i64 s3.2.2.2.2.2.2))],[],[(7,.box 35 [.osl 6001 0 s3.1.length,.osl 6002 0 s3.2.1.length,.osl 6003 0 s3.2.2.1.length,.osl 6004 0 s3.2.2.2.1.length,.osl 6005 0 s3.2.2.2.2.1.length,.osl 6006 0 s3.2.2.2.2.2.1.length]),(6001,.arr 81 6 s3.1.length (rows TreeBridge.enc s3.1)),(6002,.arr 89 3 s3.2.1.length (rows TreeLink.enc s3.2.1)),(6003,.arr 3 1 s3.2.2.1.length (rows encInt s3.2.2.1)),(6004,.arr 93 4 s3.2.2.2.1.length (rows TreeSlot.enc s3.2.2.2.1)),(6005,.arr 93 4 s3.2.2.2.2.1.length (rows TreeSlot.enc s3.2.2.2.2.1)),(6006,.arr 76 5 s3.2.2.2.2.2.1.length (rows TreeWord.enc s3.2.2.2.2.2.1)),(6,.box 35 [.d (.nil),.d (.nil),.d (.nil),.d (.nil),.d (.nil),.d (.nil)])],[⟨[],[]⟩]⟩) ?_ ?_
    · exact leX []
    · clear hx6;intro s3 y4 g5 hy4;(conv=>whnf);refine seq_in tOk ?_;(conv=>whnf);refine andI g5 (fun _ g5=>?_) (fun _ g5=>?_)
      · (conv=>whnf);refine seq_in tOk ?_;(conv=>whnf);refine seq_in tOk ?_;(conv=>whnf);obtain ⟨x10,hx10,g5⟩:=bd_some g5;refine loop_m tOk hx10 (fun s7=>⟨0,56,[(2,.d (.int .i64 a2)),(6,.ref 6 0 0),(7,.ref 7 0 0),(8,.d (.int .i64 ((a0.Links.length:Nat):Int))),(22,.d (.int .i64 (if 60<(if 0 > a1 then 0 else a1) then 60 else (if 0 > a1 then 0 else a1)))),(23,.d (.int .i64 s3.2.2.2.2.2.2))],[],[(7,.box 35 [.osl 6001 0 s7.1.length,.osl 6002 0 s7.2.1.length,.osl 6003 0 s7.2.2.1.length,.osl 6004 0 s7.2.2.2.1.length,.osl 6005 0 s7.2.2.2.2.1.length,.osl 6006 0 s7.2.2.2.2.2.length]),(6001,.arr 81 6 s7.1.length (rows TreeBridge.enc s7.1)),(6002,.arr 89 3 s7.2.1.length (rows TreeLink.enc s7.2.1)),(6003,.arr 3 1 s7.2.2.1.length (rows encInt s7.2.2.1)),(6004,.arr 93 4 s7.2.2.2.1.length (rows TreeSlot.enc s7.2.2.2.1)),(6005,.arr 93 4 s7.2.2.2.2.1.length (rows TreeSlot.enc s7.2.2.2.2.1)),(6006,.arr 76 5 s7.2.2.2.2.2.length (rows TreeWord.enc s7.2.2.2.2.2)),(6,.box 35 [.d (.nil),.d (.nil),.d (.nil),.d (.nil),.d (.nil),.d (.nil)])],[⟨[],[]⟩]⟩) ?_ ?_
        · exact leX []
        · clear hx10;intro s7 y8 g9 hy8;(conv=>whnf);refine seq_in tOk ?_;(conv=>whnf);refine andI g9 (fun _ g9=>?_) (fun _ g9=>?_)
          · (conv=>whnf);obtain ⟨x11,hx11,g9⟩:=bd_some g9;refine cE2 [(9000,7),(9001,6001),(9002,6002),(9003,6003),(9004,6004),(9005,6005),(9006,6006)] 2000 (impl_TreeWorld_onWord_r01_02_k00_01_02_03_04_05_c hx11) ?_;(conv=>whnf);obtain rfl:=Option.some.inj g9;exact ⟨_,rfl,leX [.s [(6001,7001),(6002,7002),(6003,7003),(6004,7004),(6005,7005),(6006,7006),(7001,6001),(7002,6002),(7003,6003),(7004,6004),(7005,6005),(7006,6006)]]⟩
          · (conv=>whnf);obtain rfl:=Option.some.inj g9;obtain rfl:=hy8 _ rfl;refine seq_in tOk ?_;(conv=>whnf);obtain ⟨x16,hx16,g5⟩:=bd_some g5;refine loop_m tOk hx16 (fun s13=>⟨0,56,[(2,.d (.int .i64 a2)),(6,.ref 6 0 0),(7,.ref 7 0 0),(8,.d (.int .i64 ((a0.Links.length:Nat):Int))),(22,.d (.int .i64 (if 60<(if 0 > a1 then 0 else a1) then 60 else (if 0 > a1 then 0 else a1)))),(23,.d (.int .i64 s3.2.2.2.2.2.2)),(30,.d (.int .i64 ((a0.Links.length:Nat):Int))),(31,.d (.int .i64 s13.2.2.2.2.2.2))],[],[(7,.box 35 [.osl 6001 0 s13.1.length,.osl 6002 0 s13.2.1.length,.osl 6003 0 s13.2.2.1.length,.osl 6004 0 s13.2.2.2.1.length,.osl 6005 0 s13.2.2.2.2.1.length,.osl 6006 0 s13.2.2.2.2.2.1.length]),(6001,.arr 81 6 s13.1.length (rows TreeBridge.enc s13.1)),(6002,.arr 89 3 s13.2.1.length (rows TreeLink.enc s13.2.1)),(6003,.arr 3 1 s13.2.2.1.length (rows encInt s13.2.2.1)),(6004,.arr 93 4 s13.2.2.2.1.length (rows TreeSlot.enc s13.2.2.2.1)),(6005,.arr 93 4 s13.2.2.2.2.1.length (rows TreeSlot.enc s13.2.2.2.2.1)),(6006,.arr 76 5 s13.2.2.2.2.2.1.length (rows TreeWord.enc s13.2.2.2.2.2.1)),(6,.box 35 [.d (.nil),.d (.nil),.d (.nil),.d (.nil),.d (.nil),.d (.nil)])],[⟨[],[]⟩]⟩) ?_ ?_
            · exact leX []
            · clear hx16;intro s13 y14 g15 hy14;(conv=>whnf);refine seq_in tOk ?_;(conv=>whnf);refine andI g15 (fun _ g15=>?_) (fun _ g15=>?_)
              · (conv=>whnf);refine seq_in tOk ?_;(conv=>whnf);refine gdI g15 (fun g15=>?_);(conv=>whnf);refine gdI g15 (fun g15=>?_);(conv=>whnf);obtain ⟨x19,hx19,g15⟩:=bd_some g15;refine cC 0 (impl_TreeWorld_open_c hx19) ?_;clear hx19;(conv=>whnf);refine andI g15 (fun _ g15=>?_) (fun _ g15=>?_)
                · (conv=>whnf);obtain ⟨x20,hx20,g15⟩:=bd_some g15;refine cC 0 (impl_TreeWorld_told_c hx20) ?_;clear hx20;(conv=>whnf);obtain ⟨x21,hx21,g15⟩:=bd_some g15;refine cE2 [(9000,7),(9001,6001),(9002,6002),(9003,6003),(9004,6004),(9005,6005),(9006,6006)] 2000 (impl_TreeWorld_hear_r01_02_05_k01_02_03_04_05_c hx21) ?_;(conv=>whnf);obtain ⟨x22,hx22,g15⟩:=bd_some g15;refine cC 0 (impl_TreeWorld_told_c hx22) ?_;clear hx22;(conv=>whnf);obtain ⟨x23,hx23,g15⟩:=bd_some g15;refine cE2 [(9000,7),(9001,7001),(9002,7002),(9003,7003),(9004,7004),(9005,7005),(9006,7006)] 1000 (impl_TreeWorld_hear_r01_02_05_k01_02_03_04_05_c hx23) ?_;(conv=>whnf);obtain rfl:=Option.some.inj g15;exact ⟨_,rfl,leX []⟩
                · (conv=>whnf);obtain rfl:=Option.some.inj g15;exact ⟨_,rfl,leX []⟩
              · (conv=>whnf);obtain rfl:=Option.some.inj g15;obtain rfl:=hy14 _ rfl;obtain ⟨x25,hx25,g5⟩:=bd_some g5;refine cE2 [(9000,7),(9001,6001),(9002,6002),(9003,6003),(9004,6004),(9005,6005),(9006,6006)] 2000 (impl_TreeWorld_tick_r01_02_05_k04_c hx25) ?_;(conv=>whnf);obtain rfl:=Option.some.inj g5;exact ⟨_,rfl,leX [.s [(6001,7001),(6002,7002),(6003,7003),(6004,7004),(6005,7005),(6006,7006),(7001,6001),(7002,6002),(7003,6003),(7004,6004),(7005,6005),(7006,6006)]]⟩
      · (conv=>whnf);obtain rfl:=Option.some.inj g5;obtain rfl:=hy4 _ rfl;obtain rfl:=Option.some.inj h;exact lfE [.s [(5001,6001),(5002,6002),(5003,6003),(5004,6004),(5005,6005),(5006,6006),(6001,5001),(6002,5002),(6003,5003),(6004,5004),(6005,5005),(6006,5006)]]
noncomputable def laws_eqTreeVector_m (a0:TreeVector) (a1:TreeVector):Option (Bool) :=
(if (a0.Root != a1.Root) = true then
 some false
else
(if (a0.Cost != a1.Cost) = true then
 some false
else
(if (a0.Age != a1.Age) = true then
 some false
else
 some true)))
theorem laws_eqTreeVector_c {a0:TreeVector} {a1:TreeVector} {r:Bool} (h:laws_eqTreeVector_m a0 a1 = some r):PureC Tryz.prog 100 [.agg [.d (.int .i64 a0.Root),.d (.int .i64 a0.Cost),.d (.int .i64 a0.Age)],.agg [.d (.int .i64 a1.Root),.d (.int .i64 a1.Cost),.d (.int .i64 a1.Age)]] (.d (.bool r)) []:=by
  refine pureC_x tOk (fn:=Tryz.f100) (c:=codeOf Tryz.f100) rfl rfl ?_;unfold laws_eqTreeVector_m at h;(conv=>whnf);refine seq_in tOk ?_;(conv=>whnf);refine andI h (fun _ h=>?_) (fun _ h=>?_)
  · (conv=>whnf);obtain rfl:=Option.some.inj h;exact lfP []
  · (conv=>whnf);refine seq_in tOk ?_;(conv=>whnf);refine andI h (fun _ h=>?_) (fun _ h=>?_)
    · (conv=>whnf);obtain rfl:=Option.some.inj h;exact lfP []
    · (conv=>whnf);refine seq_in tOk ?_;(conv=>whnf);refine andI h (fun _ h=>?_) (fun _ h=>?_)
      · (conv=>whnf);obtain rfl:=Option.some.inj h;exact lfP []
      · (conv=>whnf);obtain rfl:=Option.some.inj h;exact lfP []
noncomputable def laws_eqTreeMind_m (a0:TreeMind) (a1:TreeMind):Option (Bool) :=
 bd (laws_eqTreeVector_m a0.Vector a1.Vector) fun x1 =>
(if (!x1) = true then
 some false
else
(if (a0.Link != a1.Link) = true then
 some false
else
 some true))
theorem laws_eqTreeMind_c {a0:TreeMind} {a1:TreeMind} {r:Bool} (h:laws_eqTreeMind_m a0 a1 = some r):PureC Tryz.prog 99 [.agg [.d (.int .i64 a0.Vector.Root),.d (.int .i64 a0.Vector.Cost),.d (.int .i64 a0.Vector.Age),.d (.int .i64 a0.Link)],.agg [.d (.int .i64 a1.Vector.Root),.d (.int .i64 a1.Vector.Cost),.d (.int .i64 a1.Vector.Age),.d (.int .i64 a1.Link)]] (.d (.bool r)) []:=by
  refine pureC_x tOk (fn:=Tryz.f99) (c:=codeOf Tryz.f99) rfl rfl ?_;unfold laws_eqTreeMind_m at h;(conv=>whnf);refine seq_in tOk ?_;(conv=>whnf);obtain ⟨x1,hx1,h⟩:=bd_some h;refine cC 0 (laws_eqTreeVector_c hx1) ?_;clear hx1;(conv=>whnf);refine andI h (fun _ h=>?_) (fun _ h=>?_)
  · (conv=>whnf);obtain rfl:=Option.some.inj h;exact lfP []
  · (conv=>whnf);refine seq_in tOk ?_;(conv=>whnf);refine andI h (fun _ h=>?_) (fun _ h=>?_)
    · (conv=>whnf);obtain rfl:=Option.some.inj h;exact lfP []
    · (conv=>whnf);obtain rfl:=Option.some.inj h;exact lfP []
noncomputable def laws_eqTreeBridge_m (a0:TreeBridge) (a1:TreeBridge):Option (Bool) :=
(if (a0.Id != a1.Id) = true then
 some false
else
(if (!(a0.Up == a1.Up)) = true then
 some false
else
 bd (laws_eqTreeMind_m a0.Mind a1.Mind) fun x1 =>
(if (!x1) = true then
 some false
else
 some true)))
theorem laws_eqTreeBridge_c {a0:TreeBridge} {a1:TreeBridge} {r:Bool} (h:laws_eqTreeBridge_m a0 a1 = some r):PureC Tryz.prog 79 [.agg [.d (.int .i64 a0.Id),.d (.bool a0.Up),.d (.int .i64 a0.Mind.Vector.Root),.d (.int .i64 a0.Mind.Vector.Cost),.d (.int .i64 a0.Mind.Vector.Age),.d (.int .i64 a0.Mind.Link)],.agg [.d (.int .i64 a1.Id),.d (.bool a1.Up),.d (.int .i64 a1.Mind.Vector.Root),.d (.int .i64 a1.Mind.Vector.Cost),.d (.int .i64 a1.Mind.Vector.Age),.d (.int .i64 a1.Mind.Link)]] (.d (.bool r)) []:=by
  refine pureC_x tOk (fn:=Tryz.f79) (c:=codeOf Tryz.f79) rfl rfl ?_;unfold laws_eqTreeBridge_m at h;(conv=>whnf);refine seq_in tOk ?_;(conv=>whnf);refine andI h (fun _ h=>?_) (fun _ h=>?_)
  · (conv=>whnf);obtain rfl:=Option.some.inj h;exact lfP []
  · (conv=>whnf);refine seq_in tOk ?_;(conv=>whnf);refine andI h (fun _ h=>?_) (fun _ h=>?_)
    · (conv=>whnf);obtain rfl:=Option.some.inj h;exact lfP []
    · (conv=>whnf);refine seq_in tOk ?_;(conv=>whnf);obtain ⟨x1,hx1,h⟩:=bd_some h;refine cC 0 (laws_eqTreeMind_c hx1) ?_;clear hx1;(conv=>whnf);refine andI h (fun _ h=>?_) (fun _ h=>?_)
      · (conv=>whnf);obtain rfl:=Option.some.inj h;exact lfP []
      · (conv=>whnf);obtain rfl:=Option.some.inj h;exact lfP []
noncomputable def laws_eqTreeBridgeS_m (a0:(List TreeBridge)) (a1:(List TreeBridge)):Option (Bool) :=
(if (((a0.length:Nat):Int) != ((a1.length:Nat):Int)) = true then
 some false
else
 bd (lp (σ:=Int) (β:=(Unit ⊕ Unit)) (fun s1 =>
(if (decide (s1<((a0.length:Nat):Int))) = true then
 gd ((0:Int)≤s1∧s1<((a0.length:Nat):Int)) <|
 gd ((0:Int)≤s1∧s1<((a1.length:Nat):Int)) <|
 bd (laws_eqTreeBridge_m ({ (a0.getD s1.toNat default) with Mind:=(⟨(((a0.getD s1.toNat default).Mind).Vector),((a0.getD s1.toNat default).Mind).Link⟩:TreeMind) }) ({ (a1.getD s1.toNat default) with Mind:=(⟨(((a1.getD s1.toNat default).Mind).Vector),((a1.getD s1.toNat default).Mind).Link⟩:TreeMind) })) fun x7 =>
(if (!x7) = true then
 some (.inr (.inl ()))
else
 some (.inl (IntKind.i64.wrap (s1+1))))
else
 some (.inr (.inr ())))) 0) fun x4 =>
(match x4 with
| .inl d8 =>
 some false
| .inr d9 =>
 some true))
theorem laws_eqTreeBridgeS_c {a0:(List TreeBridge)} {a1:(List TreeBridge)} {r:Bool} (h:laws_eqTreeBridgeS_m a0 a1 = some r):PureC Tryz.prog 31 [.d (slD TreeBridge.enc a0),.d (slD TreeBridge.enc a1)] (.d (.bool r)) []:=by
  refine pureC_x tOk (fn:=Tryz.f31) (c:=codeOf Tryz.f31) rfl rfl ?_;unfold laws_eqTreeBridgeS_m at h;(conv=>whnf);refine seq_in tOk ?_;(conv=>whnf);refine andI h (fun _ h=>?_) (fun _ h=>?_)
  · (conv=>whnf);obtain rfl:=Option.some.inj h;exact lfP []
  · (conv=>whnf);refine seq_in tOk ?_;(conv=>whnf);obtain ⟨x4,hx4,h⟩:=bd_some h;refine loop_m tOk hx4 (fun s1=>⟨0,27,[(0,.d (slD TreeBridge.enc a0)),(1,.d (slD TreeBridge.enc a1)),(5,.d (.int .i64 s1))],[],[],[]⟩) ?_ ?_
    · exact leX []
    · clear hx4;intro s1 y2 g3 hy2;(conv=>whnf);refine seq_in tOk ?_;(conv=>whnf);refine andI g3 (fun _ g3=>?_) (fun _ g3=>?_)
      · (conv=>whnf);refine seq_in tOk ?_;(conv=>whnf);obtain ⟨g5,g3⟩:=gd_some g3;obtain ⟨g6,g3⟩:=gd_some g3;obtain ⟨x7,hx7,g3⟩:=bd_some g3;refine draw_u tOk [.u 8 0 (.d (.bool x7)) []] 10 [] [0,0,3,7,0,0,48,112,255,511] [] ?_;(conv=>whnf);refine And.intro g5 ?_;clear g5;(conv=>whnf);refine And.intro g6 ?_;clear g6;(conv=>whnf);refine And.intro (callD_any (laws_eqTreeBridge_c hx7) (by kernel_rfl)) ?_;(conv=>whnf);refine And.intro (by kernel_rfl) ?_;(conv=>whnf);refine andI g3 (fun _ g3=>?_) (fun _ g3=>?_)
        · (conv=>whnf);obtain rfl:=Option.some.inj g3;obtain rfl:=hy2 _ rfl;obtain rfl:=Option.some.inj h;exact lfP []
        · (conv=>whnf);obtain rfl:=Option.some.inj g3;exact ⟨_,rfl,leX []⟩
      · (conv=>whnf);obtain rfl:=Option.some.inj g3;obtain rfl:=hy2 _ rfl;obtain rfl:=Option.some.inj h;exact lfP []
noncomputable def laws_eqTreeLink_m (a0:TreeLink) (a1:TreeLink):Option (Bool) :=
(if (a0.A != a1.A) = true then
 some false
else
(if (a0.B != a1.B) = true then
 some false
else
(if (a0.Cost != a1.Cost) = true then
 some false
else
 some true)))
theorem laws_eqTreeLink_c {a0:TreeLink} {a1:TreeLink} {r:Bool} (h:laws_eqTreeLink_m a0 a1 = some r):PureC Tryz.prog 80 [.agg [.d (.int .i64 a0.A),.d (.int .i64 a0.B),.d (.int .i64 a0.Cost)],.agg [.d (.int .i64 a1.A),.d (.int .i64 a1.B),.d (.int .i64 a1.Cost)]] (.d (.bool r)) []:=by
  refine pureC_x tOk (fn:=Tryz.f80) (c:=codeOf Tryz.f80) rfl rfl ?_;unfold laws_eqTreeLink_m at h;(conv=>whnf);refine seq_in tOk ?_;(conv=>whnf);refine andI h (fun _ h=>?_) (fun _ h=>?_)
  · (conv=>whnf);obtain rfl:=Option.some.inj h;exact lfP []
  · (conv=>whnf);refine seq_in tOk ?_;(conv=>whnf);refine andI h (fun _ h=>?_) (fun _ h=>?_)
    · (conv=>whnf);obtain rfl:=Option.some.inj h;exact lfP []
    · (conv=>whnf);refine seq_in tOk ?_;(conv=>whnf);refine andI h (fun _ h=>?_) (fun _ h=>?_)
      · (conv=>whnf);obtain rfl:=Option.some.inj h;exact lfP []
      · (conv=>whnf);obtain rfl:=Option.some.inj h;exact lfP []
noncomputable def laws_eqTreeLinkS_m (a0:(List TreeLink)) (a1:(List TreeLink)):Option (Bool) :=
(if (((a0.length:Nat):Int) != ((a1.length:Nat):Int)) = true then
 some false
else
 bd (lp (σ:=Int) (β:=(Unit ⊕ Unit)) (fun s1 =>
(if (decide (s1<((a0.length:Nat):Int))) = true then
 gd ((0:Int)≤s1∧s1<((a0.length:Nat):Int)) <|
 gd ((0:Int)≤s1∧s1<((a1.length:Nat):Int)) <|
 bd (laws_eqTreeLink_m (a0.getD s1.toNat default) (a1.getD s1.toNat default)) fun x7 =>
(if (!x7) = true then
 some (.inr (.inl ()))
else
 some (.inl (IntKind.i64.wrap (s1+1))))
else
 some (.inr (.inr ())))) 0) fun x4 =>
(match x4 with
| .inl d8 =>
 some false
| .inr d9 =>
 some true))
theorem laws_eqTreeLinkS_c {a0:(List TreeLink)} {a1:(List TreeLink)} {r:Bool} (h:laws_eqTreeLinkS_m a0 a1 = some r):PureC Tryz.prog 32 [.d (slD TreeLink.enc a0),.d (slD TreeLink.enc a1)] (.d (.bool r)) []:=by
  refine pureC_x tOk (fn:=Tryz.f32) (c:=codeOf Tryz.f32) rfl rfl ?_;unfold laws_eqTreeLinkS_m at h;(conv=>whnf);refine seq_in tOk ?_;(conv=>whnf);refine andI h (fun _ h=>?_) (fun _ h=>?_)
  · (conv=>whnf);obtain rfl:=Option.some.inj h;exact lfP []
  · (conv=>whnf);refine seq_in tOk ?_;(conv=>whnf);obtain ⟨x4,hx4,h⟩:=bd_some h;refine loop_m tOk hx4 (fun s1=>⟨0,27,[(0,.d (slD TreeLink.enc a0)),(1,.d (slD TreeLink.enc a1)),(5,.d (.int .i64 s1))],[],[],[]⟩) ?_ ?_
    · exact leX []
    · clear hx4;intro s1 y2 g3 hy2;(conv=>whnf);refine seq_in tOk ?_;(conv=>whnf);refine andI g3 (fun _ g3=>?_) (fun _ g3=>?_)
      · (conv=>whnf);refine seq_in tOk ?_;(conv=>whnf);obtain ⟨g5,g3⟩:=gd_some g3;obtain ⟨g6,g3⟩:=gd_some g3;obtain ⟨x7,hx7,g3⟩:=bd_some g3;refine draw_u tOk [.u 8 0 (.d (.bool x7)) []] 10 [] [0,0,3,7,0,0,48,112,255,511] [] ?_;(conv=>whnf);refine And.intro g5 ?_;clear g5;(conv=>whnf);refine And.intro g6 ?_;clear g6;(conv=>whnf);refine And.intro (callD_any (laws_eqTreeLink_c hx7) (by kernel_rfl)) ?_;(conv=>whnf);refine And.intro (by kernel_rfl) ?_;(conv=>whnf);refine andI g3 (fun _ g3=>?_) (fun _ g3=>?_)
        · (conv=>whnf);obtain rfl:=Option.some.inj g3;obtain rfl:=hy2 _ rfl;obtain rfl:=Option.some.inj h;exact lfP []
        · (conv=>whnf);obtain rfl:=Option.some.inj g3;exact ⟨_,rfl,leX []⟩
      · (conv=>whnf);obtain rfl:=Option.some.inj g3;obtain rfl:=hy2 _ rfl;obtain rfl:=Option.some.inj h;exact lfP []
noncomputable def laws_eqIntS_m (a0:(List Int)) (a1:(List Int)):Option (Bool) :=
(if (((a0.length:Nat):Int) != ((a1.length:Nat):Int)) = true then
 some false
else
 bd (lp (σ:=Int) (β:=(Unit ⊕ Unit)) (fun s1 =>
(if (decide (s1<((a0.length:Nat):Int))) = true then
 gd ((0:Int)≤s1∧s1<((a0.length:Nat):Int)) <|
 gd ((0:Int)≤s1∧s1<((a1.length:Nat):Int)) <|
(if ((a0.getD s1.toNat default) != (a1.getD s1.toNat default)) = true then
 some (.inr (.inl ()))
else
 some (.inl (IntKind.i64.wrap (s1+1))))
else
 some (.inr (.inr ())))) 0) fun x4 =>
(match x4 with
| .inl d7 =>
 some false
| .inr d8 =>
 some true))
theorem laws_eqIntS_c {a0:(List Int)} {a1:(List Int)} {r:Bool} (h:laws_eqIntS_m a0 a1 = some r):PureC Tryz.prog 33 [.d (slD encInt a0),.d (slD encInt a1)] (.d (.bool r)) []:=by
  refine pureC_x tOk (fn:=Tryz.f33) (c:=codeOf Tryz.f33) rfl rfl ?_;unfold laws_eqIntS_m at h;(conv=>whnf);refine seq_in tOk ?_;(conv=>whnf);refine andI h (fun _ h=>?_) (fun _ h=>?_)
  · (conv=>whnf);obtain rfl:=Option.some.inj h;exact lfP []
  · (conv=>whnf);refine seq_in tOk ?_;(conv=>whnf);obtain ⟨x4,hx4,h⟩:=bd_some h;refine loop_m tOk hx4 (fun s1=>⟨0,26,[(0,.d (slD encInt a0)),(1,.d (slD encInt a1)),(5,.d (.int .i64 s1))],[],[],[]⟩) ?_ ?_
    · exact leX []
    · clear hx4;intro s1 y2 g3 hy2;(conv=>whnf);refine seq_in tOk ?_;(conv=>whnf);refine andI g3 (fun _ g3=>?_) (fun _ g3=>?_)
      · (conv=>whnf);refine seq_in tOk ?_;(conv=>whnf);obtain ⟨g5,g3⟩:=gd_some g3;obtain ⟨g6,g3⟩:=gd_some g3;refine draw_u tOk [] 9 [] [0,0,3,7,0,0,48,112,255] [] ?_;(conv=>whnf);refine And.intro g5 ?_;clear g5;(conv=>whnf);refine And.intro g6 ?_;clear g6;(conv=>whnf);refine And.intro (by kernel_rfl) ?_;(conv=>whnf);refine andI g3 (fun _ g3=>?_) (fun _ g3=>?_)
        · (conv=>whnf);obtain rfl:=Option.some.inj g3;obtain rfl:=hy2 _ rfl;obtain rfl:=Option.some.inj h;exact lfP []
        · (conv=>whnf);obtain rfl:=Option.some.inj g3;exact ⟨_,rfl,leX []⟩
      · (conv=>whnf);obtain rfl:=Option.some.inj g3;obtain rfl:=hy2 _ rfl;obtain rfl:=Option.some.inj h;exact lfP []
noncomputable def laws_eqTreeSlot_m (a0:TreeSlot) (a1:TreeSlot):Option (Bool) :=
 bd (laws_eqTreeVector_m a0.Vector a1.Vector) fun x1 =>
(if (!x1) = true then
 some false
else
(if (a0.Left != a1.Left) = true then
 some false
else
 some true))
theorem laws_eqTreeSlot_c {a0:TreeSlot} {a1:TreeSlot} {r:Bool} (h:laws_eqTreeSlot_m a0 a1 = some r):PureC Tryz.prog 81 [.agg [.d (.int .i64 a0.Vector.Root),.d (.int .i64 a0.Vector.Cost),.d (.int .i64 a0.Vector.Age),.d (.int .i64 a0.Left)],.agg [.d (.int .i64 a1.Vector.Root),.d (.int .i64 a1.Vector.Cost),.d (.int .i64 a1.Vector.Age),.d (.int .i64 a1.Left)]] (.d (.bool r)) []:=by
  refine pureC_x tOk (fn:=Tryz.f81) (c:=codeOf Tryz.f81) rfl rfl ?_;unfold laws_eqTreeSlot_m at h;(conv=>whnf);refine seq_in tOk ?_;(conv=>whnf);obtain ⟨x1,hx1,h⟩:=bd_some h;refine cC 0 (laws_eqTreeVector_c hx1) ?_;clear hx1;(conv=>whnf);refine andI h (fun _ h=>?_) (fun _ h=>?_)
  · (conv=>whnf);obtain rfl:=Option.some.inj h;exact lfP []
  · (conv=>whnf);refine seq_in tOk ?_;(conv=>whnf);refine andI h (fun _ h=>?_) (fun _ h=>?_)
    · (conv=>whnf);obtain rfl:=Option.some.inj h;exact lfP []
    · (conv=>whnf);obtain rfl:=Option.some.inj h;exact lfP []
noncomputable def laws_eqTreeSlotS_m (a0:(List TreeSlot)) (a1:(List TreeSlot)):Option (Bool) :=
(if (((a0.length:Nat):Int) != ((a1.length:Nat):Int)) = true then
 some false
else
 bd (lp (σ:=Int) (β:=(Unit ⊕ Unit)) (fun s1 =>
(if (decide (s1<((a0.length:Nat):Int))) = true then
 gd ((0:Int)≤s1∧s1<((a0.length:Nat):Int)) <|
 gd ((0:Int)≤s1∧s1<((a1.length:Nat):Int)) <|
 bd (laws_eqTreeSlot_m (⟨((a0.getD s1.toNat default).Vector),(a0.getD s1.toNat default).Left⟩:TreeSlot) (⟨((a1.getD s1.toNat default).Vector),(a1.getD s1.toNat default).Left⟩:TreeSlot)) fun x7 =>
(if (!x7) = true then
 some (.inr (.inl ()))
else
 some (.inl (IntKind.i64.wrap (s1+1))))
else
 some (.inr (.inr ())))) 0) fun x4 =>
(match x4 with
| .inl d8 =>
 some false
| .inr d9 =>
 some true))
theorem laws_eqTreeSlotS_c {a0:(List TreeSlot)} {a1:(List TreeSlot)} {r:Bool} (h:laws_eqTreeSlotS_m a0 a1 = some r):PureC Tryz.prog 34 [.d (slD TreeSlot.enc a0),.d (slD TreeSlot.enc a1)] (.d (.bool r)) []:=by
  refine pureC_x tOk (fn:=Tryz.f34) (c:=codeOf Tryz.f34) rfl rfl ?_;unfold laws_eqTreeSlotS_m at h;(conv=>whnf);refine seq_in tOk ?_;(conv=>whnf);refine andI h (fun _ h=>?_) (fun _ h=>?_)
  · (conv=>whnf);obtain rfl:=Option.some.inj h;exact lfP []
  · (conv=>whnf);refine seq_in tOk ?_;(conv=>whnf);obtain ⟨x4,hx4,h⟩:=bd_some h;refine loop_m tOk hx4 (fun s1=>⟨0,27,[(0,.d (slD TreeSlot.enc a0)),(1,.d (slD TreeSlot.enc a1)),(5,.d (.int .i64 s1))],[],[],[]⟩) ?_ ?_
    · exact leX []
    · clear hx4;intro s1 y2 g3 hy2;(conv=>whnf);refine seq_in tOk ?_;(conv=>whnf);refine andI g3 (fun _ g3=>?_) (fun _ g3=>?_)
      · (conv=>whnf);refine seq_in tOk ?_;(conv=>whnf);obtain ⟨g5,g3⟩:=gd_some g3;obtain ⟨g6,g3⟩:=gd_some g3;obtain ⟨x7,hx7,g3⟩:=bd_some g3;refine draw_u tOk [.u 8 0 (.d (.bool x7)) []] 10 [] [0,0,3,7,0,0,48,112,255,511] [] ?_;(conv=>whnf);refine And.intro g5 ?_;clear g5;(conv=>whnf);refine And.intro g6 ?_;clear g6;(conv=>whnf);refine And.intro (callD_any (laws_eqTreeSlot_c hx7) (by kernel_rfl)) ?_;(conv=>whnf);refine And.intro (by kernel_rfl) ?_;(conv=>whnf);refine andI g3 (fun _ g3=>?_) (fun _ g3=>?_)
        · (conv=>whnf);obtain rfl:=Option.some.inj g3;obtain rfl:=hy2 _ rfl;obtain rfl:=Option.some.inj h;exact lfP []
        · (conv=>whnf);obtain rfl:=Option.some.inj g3;exact ⟨_,rfl,leX []⟩
      · (conv=>whnf);obtain rfl:=Option.some.inj g3;obtain rfl:=hy2 _ rfl;obtain rfl:=Option.some.inj h;exact lfP []
noncomputable def laws_eqTreeWord_m (a0:TreeWord) (a1:TreeWord):Option (Bool) :=
(if (a0.Link != a1.Link) = true then
 some false
else
(if (a0.End != a1.End) = true then
 some false
else
 bd (laws_eqTreeVector_m a0.Vector a1.Vector) fun x1 =>
(if (!x1) = true then
 some false
else
 some true)))
theorem laws_eqTreeWord_c {a0:TreeWord} {a1:TreeWord} {r:Bool} (h:laws_eqTreeWord_m a0 a1 = some r):PureC Tryz.prog 82 [.agg [.d (.int .i64 a0.Link),.d (.int .i64 a0.End),.d (.int .i64 a0.Vector.Root),.d (.int .i64 a0.Vector.Cost),.d (.int .i64 a0.Vector.Age)],.agg [.d (.int .i64 a1.Link),.d (.int .i64 a1.End),.d (.int .i64 a1.Vector.Root),.d (.int .i64 a1.Vector.Cost),.d (.int .i64 a1.Vector.Age)]] (.d (.bool r)) []:=by
  refine pureC_x tOk (fn:=Tryz.f82) (c:=codeOf Tryz.f82) rfl rfl ?_;unfold laws_eqTreeWord_m at h;(conv=>whnf);refine seq_in tOk ?_;(conv=>whnf);refine andI h (fun _ h=>?_) (fun _ h=>?_)
  · (conv=>whnf);obtain rfl:=Option.some.inj h;exact lfP []
  · (conv=>whnf);refine seq_in tOk ?_;(conv=>whnf);refine andI h (fun _ h=>?_) (fun _ h=>?_)
    · (conv=>whnf);obtain rfl:=Option.some.inj h;exact lfP []
    · (conv=>whnf);refine seq_in tOk ?_;(conv=>whnf);obtain ⟨x1,hx1,h⟩:=bd_some h;refine cC 0 (laws_eqTreeVector_c hx1) ?_;clear hx1;(conv=>whnf);refine andI h (fun _ h=>?_) (fun _ h=>?_)
      · (conv=>whnf);obtain rfl:=Option.some.inj h;exact lfP []
      · (conv=>whnf);obtain rfl:=Option.some.inj h;exact lfP []
noncomputable def laws_eqTreeWordS_m (a0:(List TreeWord)) (a1:(List TreeWord)):Option (Bool) :=
(if (((a0.length:Nat):Int) != ((a1.length:Nat):Int)) = true then
 some false
else
 bd (lp (σ:=Int) (β:=(Unit ⊕ Unit)) (fun s1 =>
(if (decide (s1<((a0.length:Nat):Int))) = true then
 gd ((0:Int)≤s1∧s1<((a0.length:Nat):Int)) <|
 gd ((0:Int)≤s1∧s1<((a1.length:Nat):Int)) <|
 bd (laws_eqTreeWord_m ({ (a0.getD s1.toNat default) with Vector:=((a0.getD s1.toNat default).Vector) }) ({ (a1.getD s1.toNat default) with Vector:=((a1.getD s1.toNat default).Vector) })) fun x7 =>
(if (!x7) = true then
 some (.inr (.inl ()))
else
 some (.inl (IntKind.i64.wrap (s1+1))))
else
 some (.inr (.inr ())))) 0) fun x4 =>
(match x4 with
| .inl d8 =>
 some false
| .inr d9 =>
 some true))
theorem laws_eqTreeWordS_c {a0:(List TreeWord)} {a1:(List TreeWord)} {r:Bool} (h:laws_eqTreeWordS_m a0 a1 = some r):PureC Tryz.prog 35 [.d (slD TreeWord.enc a0),.d (slD TreeWord.enc a1)] (.d (.bool r)) []:=by
  refine pureC_x tOk (fn:=Tryz.f35) (c:=codeOf Tryz.f35) rfl rfl ?_;unfold laws_eqTreeWordS_m at h;(conv=>whnf);refine seq_in tOk ?_;(conv=>whnf);refine andI h (fun _ h=>?_) (fun _ h=>?_)
  · (conv=>whnf);obtain rfl:=Option.some.inj h;exact lfP []
  · (conv=>whnf);refine seq_in tOk ?_;(conv=>whnf);obtain ⟨x4,hx4,h⟩:=bd_some h;refine loop_m tOk hx4 (fun s1=>⟨0,27,[(0,.d (slD TreeWord.enc a0)),(1,.d (slD TreeWord.enc a1)),(5,.d (.int .i64 s1))],[],[],[]⟩) ?_ ?_
    · exact leX []
    · clear hx4;intro s1 y2 g3 hy2;(conv=>whnf);refine seq_in tOk ?_;(conv=>whnf);refine andI g3 (fun _ g3=>?_) (fun _ g3=>?_)
      · (conv=>whnf);refine seq_in tOk ?_;(conv=>whnf);obtain ⟨g5,g3⟩:=gd_some g3;obtain ⟨g6,g3⟩:=gd_some g3;obtain ⟨x7,hx7,g3⟩:=bd_some g3;refine draw_u tOk [.u 8 0 (.d (.bool x7)) []] 10 [] [0,0,3,7,0,0,48,112,255,511] [] ?_;(conv=>whnf);refine And.intro g5 ?_;clear g5;(conv=>whnf);refine And.intro g6 ?_;clear g6;(conv=>whnf);refine And.intro (callD_any (laws_eqTreeWord_c hx7) (by kernel_rfl)) ?_;(conv=>whnf);refine And.intro (by kernel_rfl) ?_;(conv=>whnf);refine andI g3 (fun _ g3=>?_) (fun _ g3=>?_)
        · (conv=>whnf);obtain rfl:=Option.some.inj g3;obtain rfl:=hy2 _ rfl;obtain rfl:=Option.some.inj h;exact lfP []
        · (conv=>whnf);obtain rfl:=Option.some.inj g3;exact ⟨_,rfl,leX []⟩
      · (conv=>whnf);obtain rfl:=Option.some.inj g3;obtain rfl:=hy2 _ rfl;obtain rfl:=Option.some.inj h;exact lfP []
noncomputable def laws_eqTreeWorld_m (a0:TreeWorld) (a1:TreeWorld):Option (Bool) :=
 bd (laws_eqTreeBridgeS_m a0.Bridges a1.Bridges) fun x1 =>
(if (!x1) = true then
 some false
else
 bd (laws_eqTreeLinkS_m a0.Links a1.Links) fun x2 =>
(if (!x2) = true then
 some false
else
 bd (laws_eqIntS_m a0.Down a1.Down) fun x3 =>
(if (!x3) = true then
 some false
else
 bd (laws_eqTreeSlotS_m a0.AtA a1.AtA) fun x4 =>
(if (!x4) = true then
 some false
else
 bd (laws_eqTreeSlotS_m a0.AtB a1.AtB) fun x5 =>
(if (!x5) = true then
 some false
else
 bd (laws_eqTreeWordS_m a0.Radio a1.Radio) fun x6 =>
(if (!x6) = true then
 some false
else
 some true))))))
theorem laws_eqTreeWorld_c {a0:TreeWorld} {a1:TreeWorld} {r:Bool} (h:laws_eqTreeWorld_m a0 a1 = some r):PureC Tryz.prog 8 [.agg [.d (slD TreeBridge.enc a0.Bridges),.d (slD TreeLink.enc a0.Links),.d (slD encInt a0.Down),.d (slD TreeSlot.enc a0.AtA),.d (slD TreeSlot.enc a0.AtB),.d (slD TreeWord.enc a0.Radio)],.agg [.d (slD TreeBridge.enc a1.Bridges),.d (slD TreeLink.enc a1.Links),.d (slD encInt a1.Down),.d (slD TreeSlot.enc a1.AtA),.d (slD TreeSlot.enc a1.AtB),.d (slD TreeWord.enc a1.Radio)]] (.d (.bool r)) []:=by
  refine pureC_x tOk (fn:=Tryz.f8) (c:=codeOf Tryz.f8) rfl rfl ?_;unfold laws_eqTreeWorld_m at h;(conv=>whnf);refine seq_in tOk ?_;(conv=>whnf);obtain ⟨x1,hx1,h⟩:=bd_some h;refine cC 0 (laws_eqTreeBridgeS_c hx1) ?_;clear hx1;(conv=>whnf);refine andI h (fun _ h=>?_) (fun _ h=>?_)
  · (conv=>whnf);obtain rfl:=Option.some.inj h;exact lfP []
  · (conv=>whnf);refine seq_in tOk ?_;(conv=>whnf);obtain ⟨x2,hx2,h⟩:=bd_some h;refine cC 0 (laws_eqTreeLinkS_c hx2) ?_;clear hx2;(conv=>whnf);refine andI h (fun _ h=>?_) (fun _ h=>?_)
    · (conv=>whnf);obtain rfl:=Option.some.inj h;exact lfP []
    · (conv=>whnf);refine seq_in tOk ?_;(conv=>whnf);obtain ⟨x3,hx3,h⟩:=bd_some h;refine cC 0 (laws_eqIntS_c hx3) ?_;clear hx3;(conv=>whnf);refine andI h (fun _ h=>?_) (fun _ h=>?_)
      · (conv=>whnf);obtain rfl:=Option.some.inj h;exact lfP []
      · (conv=>whnf);refine seq_in tOk ?_;(conv=>whnf);obtain ⟨x4,hx4,h⟩:=bd_some h;refine cC 0 (laws_eqTreeSlotS_c hx4) ?_;clear hx4;(conv=>whnf);refine andI h (fun _ h=>?_) (fun _ h=>?_)
        · (conv=>whnf);obtain rfl:=Option.some.inj h;exact lfP []
        · (conv=>whnf);refine seq_in tOk ?_;(conv=>whnf);obtain ⟨x5,hx5,h⟩:=bd_some h;refine cC 0 (laws_eqTreeSlotS_c hx5) ?_;clear hx5;(conv=>whnf);refine andI h (fun _ h=>?_) (fun _ h=>?_)
          · (conv=>whnf);obtain rfl:=Option.some.inj h;exact lfP []
          · (conv=>whnf);refine seq_in tOk ?_;(conv=>whnf);obtain ⟨x6,hx6,h⟩:=bd_some h;refine cC 0 (laws_eqTreeWordS_c hx6) ?_;clear hx6;(conv=>whnf);refine andI h (fun _ h=>?_) (fun _ h=>?_)
            · (conv=>whnf);obtain rfl:=Option.some.inj h;exact lfP []
            · (conv=>whnf);obtain rfl:=Option.some.inj h;exact lfP []
noncomputable def laws_markTreeBridgeS_m (a0:(List TreeBridge)) (a1:Int):Option (Int × (List TreeBridge)) :=
 bd (lp (σ:=List TreeBridge × Int × Int) (β:=(Int × (List TreeBridge) × Nat)) (fun s1 =>
(if (decide (s1.2.2<((s1.1.length:Nat):Int))) = true then
 gd ((0:Int)≤s1.2.2∧s1.2.2<((s1.1.length:Nat):Int)) <|
 bd (some (s1.1.set s1.2.2.toNat (⟨s1.2.1,(s1.1.getD s1.2.2.toNat default).Up,(⟨(((s1.1.getD s1.2.2.toNat default).Mind).Vector),((s1.1.getD s1.2.2.toNat default).Mind).Link⟩:TreeMind)⟩:TreeBridge))) fun x6 =>
 gd ((3:Int) ≠ 0) <|
 gd ((0:Int)≤s1.2.2∧s1.2.2<((s1.1.length:Nat):Int)) <|
 bd (some (x6.set s1.2.2.toNat (⟨(x6.getD s1.2.2.toNat default).Id,(((IntKind.i64.wrap (s1.2.1+1):Int).tmod 3) == 0),(⟨(((x6.getD s1.2.2.toNat default).Mind).Vector),((x6.getD s1.2.2.toNat default).Mind).Link⟩:TreeMind)⟩:TreeBridge))) fun x9 =>
 gd ((0:Int)≤s1.2.2∧s1.2.2<((s1.1.length:Nat):Int)) <|
 bd (some (x9.set s1.2.2.toNat ({ (x9.getD s1.2.2.toNat default) with Mind:=(⟨{ (((x9.getD s1.2.2.toNat default).Mind).Vector) with Root:=IntKind.i64.wrap ((IntKind.i64.wrap (s1.2.1+1))+1) },((x9.getD s1.2.2.toNat default).Mind).Link⟩:TreeMind) }))) fun x11 =>
 gd ((0:Int)≤s1.2.2∧s1.2.2<((s1.1.length:Nat):Int)) <|
 bd (some (x11.set s1.2.2.toNat ({ (x11.getD s1.2.2.toNat default) with Mind:=(⟨{ (((x11.getD s1.2.2.toNat default).Mind).Vector) with Cost:=IntKind.i64.wrap ((IntKind.i64.wrap ((IntKind.i64.wrap (s1.2.1+1))+1))+1) },((x11.getD s1.2.2.toNat default).Mind).Link⟩:TreeMind) }))) fun x13 =>
 gd ((0:Int)≤s1.2.2∧s1.2.2<((s1.1.length:Nat):Int)) <|
 bd (some (x13.set s1.2.2.toNat ({ (x13.getD s1.2.2.toNat default) with Mind:=(⟨{ (((x13.getD s1.2.2.toNat default).Mind).Vector) with Age:=IntKind.i64.wrap ((IntKind.i64.wrap ((IntKind.i64.wrap ((IntKind.i64.wrap (s1.2.1+1))+1))+1))+1) },((x13.getD s1.2.2.toNat default).Mind).Link⟩:TreeMind) }))) fun x15 =>
 gd ((0:Int)≤s1.2.2∧s1.2.2<((s1.1.length:Nat):Int)) <|
 bd (some (x15.set s1.2.2.toNat ({ (x15.getD s1.2.2.toNat default) with Mind:=(⟨(((x15.getD s1.2.2.toNat default).Mind).Vector),IntKind.i64.wrap ((IntKind.i64.wrap ((IntKind.i64.wrap ((IntKind.i64.wrap ((IntKind.i64.wrap (s1.2.1+1))+1))+1))+1))+1)⟩:TreeMind) }))) fun x17 =>
 some (.inl (x17,IntKind.i64.wrap ((IntKind.i64.wrap ((IntKind.i64.wrap ((IntKind.i64.wrap ((IntKind.i64.wrap ((IntKind.i64.wrap (s1.2.1+1))+1))+1))+1))+1))+1),IntKind.i64.wrap (s1.2.2+1)))
else
 some (.inr (s1.2.1,s1.1,s1.1.length)))) (a0,a1,0)) fun x4 =>
 gd (x4.2.2 = a0.length) <|
 some (x4.1,x4.2.1)
theorem laws_markTreeBridgeS_c {a0:(List TreeBridge)} {a1:Int} {r:Int × (List TreeBridge)} (h:laws_markTreeBridgeS_m a0 a1 = some r):EffC Tryz.prog 36 [.osl 9000 0 a0.length,.d (.int .i64 a1)] [(9000,.arr 81 6 a0.length (rows TreeBridge.enc a0))] (.d (.int .i64 r.1)) [(9000,.arr 81 6 a0.length (rows TreeBridge.enc r.2))]:=by
  refine effC_x tOk (fn:=Tryz.f36) (c:=codeOf Tryz.f36) rfl rfl ?_;unfold laws_markTreeBridgeS_m at h;(conv=>whnf);refine seq_in tOk ?_;(conv=>whnf);obtain ⟨x4,hx4,h⟩:=bd_some h;refine loop_m tOk hx4 (fun s1=>⟨0,64,[(0,.osl 9000 0 s1.1.length),(1,.d (.int .i64 s1.2.1)),(5,.d (.int .i64 s1.2.2))],[],[(9000,.arr 81 6 s1.1.length (rows TreeBridge.enc s1.1))],[⟨[(0,.osl 9000 0 s1.1.length)],[]⟩]⟩) ?_ ?_
  · exact leX []
  · clear hx4;intro s1 y2 g3 hy2;(conv=>whnf);refine seq_in tOk ?_;(conv=>whnf);refine andI g3 (fun _ g3=>?_) (fun _ g3=>?_)
    · (conv=>whnf);refine seq_in tOk ?_;(conv=>whnf);refine gdI g3 (fun g3=>?_);(conv=>whnf);obtain ⟨x6,hx6,hlx6,g3⟩:=bd_set g3;refine setS (enc:=TreeBridge.enc) hx6 ?_;(conv=>whnf);refine gdI g3 (fun g3=>?_);(conv=>whnf);refine gdI g3 (fun g3=>?_);(conv=>whnf);obtain ⟨x9,hx9,hlx9,g3⟩:=bd_set g3;refine setS (enc:=TreeBridge.enc) hx9 ?_;(conv=>whnf);refine gdI g3 (fun g3=>?_);(conv=>whnf);obtain ⟨x11,hx11,hlx11,g3⟩:=bd_set g3;refine setS (enc:=TreeBridge.enc) hx11 ?_;(conv=>whnf);refine gdI g3 (fun g3=>?_);(conv=>whnf);obtain ⟨x13,hx13,hlx13,g3⟩:=bd_set g3;refine setS (enc:=TreeBridge.enc) hx13 ?_;(conv=>whnf);refine gdI g3 (fun g3=>?_);(conv=>whnf);obtain ⟨x15,hx15,hlx15,g3⟩:=bd_set g3;refine setS (enc:=TreeBridge.enc) hx15 ?_;(conv=>whnf);refine gdI g3 (fun g3=>?_);(conv=>whnf);obtain ⟨x17,hx17,hlx17,g3⟩:=bd_set g3;refine setS (enc:=TreeBridge.enc) hx17 ?_;(conv=>whnf);obtain rfl:=Option.some.inj g3;exact ⟨_,rfl,leX []⟩
    · (conv=>whnf);obtain rfl:=Option.some.inj g3;obtain rfl:=hy2 _ rfl;obtain ⟨g19,h⟩:=gd_some h;obtain rfl:=Option.some.inj h;exact lfE []
noncomputable def laws_markTreeLinkS_m (a0:(List TreeLink)) (a1:Int):Option (Int × (List TreeLink)) :=
 bd (lp (σ:=List TreeLink × Int × Int) (β:=(Int × (List TreeLink) × Nat)) (fun s1 =>
(if (decide (s1.2.2<((s1.1.length:Nat):Int))) = true then
 gd ((0:Int)≤s1.2.2∧s1.2.2<((s1.1.length:Nat):Int)) <|
 gd ((0:Int)≤s1.2.2∧s1.2.2<((s1.1.length:Nat):Int)) <|
 bd (some ((s1.1.set s1.2.2.toNat ({ (s1.1.getD s1.2.2.toNat default) with A:=s1.2.1 })).set s1.2.2.toNat ({ ((s1.1.set s1.2.2.toNat ({ (s1.1.getD s1.2.2.toNat default) with A:=s1.2.1 })).getD s1.2.2.toNat default) with B:=IntKind.i64.wrap (s1.2.1+1) }))) fun x7 =>
 gd ((0:Int)≤s1.2.2∧s1.2.2<((s1.1.length:Nat):Int)) <|
 bd (some (x7.set s1.2.2.toNat ({ (x7.getD s1.2.2.toNat default) with Cost:=IntKind.i64.wrap ((IntKind.i64.wrap (s1.2.1+1))+1) }))) fun x9 =>
 some (.inl (x9,IntKind.i64.wrap ((IntKind.i64.wrap ((IntKind.i64.wrap (s1.2.1+1))+1))+1),IntKind.i64.wrap (s1.2.2+1)))
else
 some (.inr (s1.2.1,s1.1,s1.1.length)))) (a0,a1,0)) fun x4 =>
 gd (x4.2.2 = a0.length) <|
 some (x4.1,x4.2.1)
theorem laws_markTreeLinkS_c {a0:(List TreeLink)} {a1:Int} {r:Int × (List TreeLink)} (h:laws_markTreeLinkS_m a0 a1 = some r):EffC Tryz.prog 37 [.osl 9000 0 a0.length,.d (.int .i64 a1)] [(9000,.arr 89 3 a0.length (rows TreeLink.enc a0))] (.d (.int .i64 r.1)) [(9000,.arr 89 3 a0.length (rows TreeLink.enc r.2))]:=by
  refine effC_x tOk (fn:=Tryz.f37) (c:=codeOf Tryz.f37) rfl rfl ?_;unfold laws_markTreeLinkS_m at h;(conv=>whnf);refine seq_in tOk ?_;(conv=>whnf);obtain ⟨x4,hx4,h⟩:=bd_some h;refine loop_m tOk hx4 (fun s1=>⟨0,34,[(0,.osl 9000 0 s1.1.length),(1,.d (.int .i64 s1.2.1)),(5,.d (.int .i64 s1.2.2))],[],[(9000,.arr 89 3 s1.1.length (rows TreeLink.enc s1.1))],[⟨[(0,.osl 9000 0 s1.1.length)],[]⟩]⟩) ?_ ?_
  · exact leX []
  · clear hx4;intro s1 y2 g3 hy2;(conv=>whnf);refine seq_in tOk ?_;(conv=>whnf);refine andI g3 (fun _ g3=>?_) (fun _ g3=>?_)
    · (conv=>whnf);refine seq_in tOk ?_;(conv=>whnf);refine gdI g3 (fun g3=>?_);(conv=>whnf);refine ⟨rows TreeLink.enc (s1.1.set s1.2.2.toNat ({ (s1.1.getD s1.2.2.toNat default) with A:=s1.2.1 })),store_rows' lenA rfl,?_⟩;(conv=>whnf);refine gdI g3 (fun g3=>?_);(conv=>whnf);obtain ⟨x7,hx7,hlx7,g3⟩:=bd_set g3
      try simp only [List.length_set] at hlx7
      refine setS (enc:=TreeLink.enc) hx7 ?_;(conv=>whnf);refine gdI g3 (fun g3=>?_);(conv=>whnf);obtain ⟨x9,hx9,hlx9,g3⟩:=bd_set g3;refine setS (enc:=TreeLink.enc) hx9 ?_;(conv=>whnf);obtain rfl:=Option.some.inj g3;exact ⟨_,rfl,leX []⟩
    · (conv=>whnf);obtain rfl:=Option.some.inj g3;obtain rfl:=hy2 _ rfl;obtain ⟨g11,h⟩:=gd_some h;obtain rfl:=Option.some.inj h;exact lfE []
noncomputable def laws_markIntS_m (a0:(List Int)) (a1:Int):Option (Int × (List Int)) :=
 bd (lp (σ:=List Int × Int × Int) (β:=(Int × (List Int) × Nat)) (fun s1 =>
(if (decide (s1.2.2<((s1.1.length:Nat):Int))) = true then
 gd ((0:Int)≤s1.2.2∧s1.2.2<((s1.1.length:Nat):Int)) <|
 some (.inl (s1.1.set s1.2.2.toNat s1.2.1,IntKind.i64.wrap (s1.2.1+1),IntKind.i64.wrap (s1.2.2+1)))
else
 some (.inr (s1.2.1,s1.1,s1.1.length)))) (a0,a1,0)) fun x4 =>
 gd (x4.2.2 = a0.length) <|
 some (x4.1,x4.2.1)
theorem laws_markIntS_c {a0:(List Int)} {a1:Int} {r:Int × (List Int)} (h:laws_markIntS_m a0 a1 = some r):EffC Tryz.prog 38 [.osl 9000 0 a0.length,.d (.int .i64 a1)] [(9000,.arr 3 1 a0.length (rows encInt a0))] (.d (.int .i64 r.1)) [(9000,.arr 3 1 a0.length (rows encInt r.2))]:=by
  refine effC_x tOk (fn:=Tryz.f38) (c:=codeOf Tryz.f38) rfl rfl ?_;unfold laws_markIntS_m at h;(conv=>whnf);refine seq_in tOk ?_;(conv=>whnf);obtain ⟨x4,hx4,h⟩:=bd_some h;refine loop_m tOk hx4 (fun s1=>⟨0,19,[(0,.osl 9000 0 s1.1.length),(1,.d (.int .i64 s1.2.1)),(5,.d (.int .i64 s1.2.2))],[],[(9000,.arr 3 1 s1.1.length (rows encInt s1.1))],[⟨[(0,.osl 9000 0 s1.1.length)],[]⟩]⟩) ?_ ?_
  · exact leX []
  · clear hx4;intro s1 y2 g3 hy2;(conv=>whnf);refine seq_in tOk ?_;(conv=>whnf);refine andI g3 (fun _ g3=>?_) (fun _ g3=>?_)
    · (conv=>whnf);refine seq_in tOk ?_;(conv=>whnf);refine gdI g3 (fun g3=>?_);(conv=>whnf);refine ⟨rows encInt (s1.1.set s1.2.2.toNat s1.2.1),store_rows' lenA rfl,?_⟩;(conv=>whnf);obtain rfl:=Option.some.inj g3;exact ⟨_,rfl,leX []⟩
    · (conv=>whnf);obtain rfl:=Option.some.inj g3;obtain rfl:=hy2 _ rfl;obtain ⟨g7,h⟩:=gd_some h;obtain rfl:=Option.some.inj h;exact lfE []
noncomputable def laws_markTreeSlotS_m (a0:(List TreeSlot)) (a1:Int):Option (Int × (List TreeSlot)) :=
 bd (lp (σ:=List TreeSlot × Int × Int) (β:=(Int × (List TreeSlot) × Nat)) (fun s1 =>
(if (decide (s1.2.2<((s1.1.length:Nat):Int))) = true then
 gd ((0:Int)≤s1.2.2∧s1.2.2<((s1.1.length:Nat):Int)) <|
 bd (some (s1.1.set s1.2.2.toNat (⟨{ ((s1.1.getD s1.2.2.toNat default).Vector) with Root:=s1.2.1 },(s1.1.getD s1.2.2.toNat default).Left⟩:TreeSlot))) fun x6 =>
 gd ((0:Int)≤s1.2.2∧s1.2.2<((s1.1.length:Nat):Int)) <|
 bd (some (x6.set s1.2.2.toNat (⟨{ ((x6.getD s1.2.2.toNat default).Vector) with Cost:=IntKind.i64.wrap (s1.2.1+1) },(x6.getD s1.2.2.toNat default).Left⟩:TreeSlot))) fun x8 =>
 gd ((0:Int)≤s1.2.2∧s1.2.2<((s1.1.length:Nat):Int)) <|
 bd (some (x8.set s1.2.2.toNat (⟨{ ((x8.getD s1.2.2.toNat default).Vector) with Age:=IntKind.i64.wrap ((IntKind.i64.wrap (s1.2.1+1))+1) },(x8.getD s1.2.2.toNat default).Left⟩:TreeSlot))) fun x10 =>
 gd ((0:Int)≤s1.2.2∧s1.2.2<((s1.1.length:Nat):Int)) <|
 bd (some (x10.set s1.2.2.toNat (⟨((x10.getD s1.2.2.toNat default).Vector),IntKind.i64.wrap ((IntKind.i64.wrap ((IntKind.i64.wrap (s1.2.1+1))+1))+1)⟩:TreeSlot))) fun x12 =>
 some (.inl (x12,IntKind.i64.wrap ((IntKind.i64.wrap ((IntKind.i64.wrap ((IntKind.i64.wrap (s1.2.1+1))+1))+1))+1),IntKind.i64.wrap (s1.2.2+1)))
else
 some (.inr (s1.2.1,s1.1,s1.1.length)))) (a0,a1,0)) fun x4 =>
 gd (x4.2.2 = a0.length) <|
 some (x4.1,x4.2.1)
theorem laws_markTreeSlotS_c {a0:(List TreeSlot)} {a1:Int} {r:Int × (List TreeSlot)} (h:laws_markTreeSlotS_m a0 a1 = some r):EffC Tryz.prog 39 [.osl 9000 0 a0.length,.d (.int .i64 a1)] [(9000,.arr 93 4 a0.length (rows TreeSlot.enc a0))] (.d (.int .i64 r.1)) [(9000,.arr 93 4 a0.length (rows TreeSlot.enc r.2))]:=by
  refine effC_x tOk (fn:=Tryz.f39) (c:=codeOf Tryz.f39) rfl rfl ?_;unfold laws_markTreeSlotS_m at h;(conv=>whnf);refine seq_in tOk ?_;(conv=>whnf);obtain ⟨x4,hx4,h⟩:=bd_some h;refine loop_m tOk hx4 (fun s1=>⟨0,44,[(0,.osl 9000 0 s1.1.length),(1,.d (.int .i64 s1.2.1)),(5,.d (.int .i64 s1.2.2))],[],[(9000,.arr 93 4 s1.1.length (rows TreeSlot.enc s1.1))],[⟨[(0,.osl 9000 0 s1.1.length)],[]⟩]⟩) ?_ ?_
  · exact leX []
  · clear hx4;intro s1 y2 g3 hy2;(conv=>whnf);refine seq_in tOk ?_;(conv=>whnf);refine andI g3 (fun _ g3=>?_) (fun _ g3=>?_)
    · (conv=>whnf);refine seq_in tOk ?_;(conv=>whnf);refine gdI g3 (fun g3=>?_);(conv=>whnf);obtain ⟨x6,hx6,hlx6,g3⟩:=bd_set g3;refine setS (enc:=TreeSlot.enc) hx6 ?_;(conv=>whnf);refine gdI g3 (fun g3=>?_);(conv=>whnf);obtain ⟨x8,hx8,hlx8,g3⟩:=bd_set g3;refine setS (enc:=TreeSlot.enc) hx8 ?_;(conv=>whnf);refine gdI g3 (fun g3=>?_);(conv=>whnf);obtain ⟨x10,hx10,hlx10,g3⟩:=bd_set g3;refine setS (enc:=TreeSlot.enc) hx10 ?_;(conv=>whnf);refine gdI g3 (fun g3=>?_);(conv=>whnf);obtain ⟨x12,hx12,hlx12,g3⟩:=bd_set g3;refine setS (enc:=TreeSlot.enc) hx12 ?_;(conv=>whnf);obtain rfl:=Option.some.inj g3;exact ⟨_,rfl,leX []⟩
    · (conv=>whnf);obtain rfl:=Option.some.inj g3;obtain rfl:=hy2 _ rfl;obtain ⟨g14,h⟩:=gd_some h;obtain rfl:=Option.some.inj h;exact lfE []
noncomputable def laws_markTreeWordS_m (a0:(List TreeWord)) (a1:Int):Option (Int × (List TreeWord)) :=
 bd (lp (σ:=List TreeWord × Int × Int) (β:=(Int × (List TreeWord) × Nat)) (fun s1 =>
(if (decide (s1.2.2<((s1.1.length:Nat):Int))) = true then
 gd ((0:Int)≤s1.2.2∧s1.2.2<((s1.1.length:Nat):Int)) <|
 bd (some (s1.1.set s1.2.2.toNat (⟨s1.2.1,(s1.1.getD s1.2.2.toNat default).End,((s1.1.getD s1.2.2.toNat default).Vector)⟩:TreeWord))) fun x6 =>
 gd ((0:Int)≤s1.2.2∧s1.2.2<((s1.1.length:Nat):Int)) <|
 bd (some (x6.set s1.2.2.toNat (⟨(x6.getD s1.2.2.toNat default).Link,IntKind.i64.wrap (s1.2.1+1),((x6.getD s1.2.2.toNat default).Vector)⟩:TreeWord))) fun x8 =>
 gd ((0:Int)≤s1.2.2∧s1.2.2<((s1.1.length:Nat):Int)) <|
 bd (some (x8.set s1.2.2.toNat ({ (x8.getD s1.2.2.toNat default) with Vector:={ ((x8.getD s1.2.2.toNat default).Vector) with Root:=IntKind.i64.wrap ((IntKind.i64.wrap (s1.2.1+1))+1) } }))) fun x10 =>
 gd ((0:Int)≤s1.2.2∧s1.2.2<((s1.1.length:Nat):Int)) <|
 bd (some (x10.set s1.2.2.toNat ({ (x10.getD s1.2.2.toNat default) with Vector:={ ((x10.getD s1.2.2.toNat default).Vector) with Cost:=IntKind.i64.wrap ((IntKind.i64.wrap ((IntKind.i64.wrap (s1.2.1+1))+1))+1) } }))) fun x12 =>
 gd ((0:Int)≤s1.2.2∧s1.2.2<((s1.1.length:Nat):Int)) <|
 bd (some (x12.set s1.2.2.toNat ({ (x12.getD s1.2.2.toNat default) with Vector:={ ((x12.getD s1.2.2.toNat default).Vector) with Age:=IntKind.i64.wrap ((IntKind.i64.wrap ((IntKind.i64.wrap ((IntKind.i64.wrap (s1.2.1+1))+1))+1))+1) } }))) fun x14 =>
 some (.inl (x14,IntKind.i64.wrap ((IntKind.i64.wrap ((IntKind.i64.wrap ((IntKind.i64.wrap ((IntKind.i64.wrap (s1.2.1+1))+1))+1))+1))+1),IntKind.i64.wrap (s1.2.2+1)))
else
 some (.inr (s1.2.1,s1.1,s1.1.length)))) (a0,a1,0)) fun x4 =>
 gd (x4.2.2 = a0.length) <|
 some (x4.1,x4.2.1)
theorem laws_markTreeWordS_c {a0:(List TreeWord)} {a1:Int} {r:Int × (List TreeWord)} (h:laws_markTreeWordS_m a0 a1 = some r):EffC Tryz.prog 40 [.osl 9000 0 a0.length,.d (.int .i64 a1)] [(9000,.arr 76 5 a0.length (rows TreeWord.enc a0))] (.d (.int .i64 r.1)) [(9000,.arr 76 5 a0.length (rows TreeWord.enc r.2))]:=by
  refine effC_x tOk (fn:=Tryz.f40) (c:=codeOf Tryz.f40) rfl rfl ?_;unfold laws_markTreeWordS_m at h;(conv=>whnf);refine seq_in tOk ?_;(conv=>whnf);obtain ⟨x4,hx4,h⟩:=bd_some h;refine loop_m tOk hx4 (fun s1=>⟨0,51,[(0,.osl 9000 0 s1.1.length),(1,.d (.int .i64 s1.2.1)),(5,.d (.int .i64 s1.2.2))],[],[(9000,.arr 76 5 s1.1.length (rows TreeWord.enc s1.1))],[⟨[(0,.osl 9000 0 s1.1.length)],[]⟩]⟩) ?_ ?_
  · exact leX []
  · clear hx4;intro s1 y2 g3 hy2;(conv=>whnf);refine seq_in tOk ?_;(conv=>whnf);refine andI g3 (fun _ g3=>?_) (fun _ g3=>?_)
    · (conv=>whnf);refine seq_in tOk ?_;(conv=>whnf);refine gdI g3 (fun g3=>?_);(conv=>whnf);obtain ⟨x6,hx6,hlx6,g3⟩:=bd_set g3;refine setS (enc:=TreeWord.enc) hx6 ?_;(conv=>whnf);refine gdI g3 (fun g3=>?_);(conv=>whnf);obtain ⟨x8,hx8,hlx8,g3⟩:=bd_set g3;refine setS (enc:=TreeWord.enc) hx8 ?_;(conv=>whnf);refine gdI g3 (fun g3=>?_);(conv=>whnf);obtain ⟨x10,hx10,hlx10,g3⟩:=bd_set g3;refine setS (enc:=TreeWord.enc) hx10 ?_;(conv=>whnf);refine gdI g3 (fun g3=>?_);(conv=>whnf);obtain ⟨x12,hx12,hlx12,g3⟩:=bd_set g3;refine setS (enc:=TreeWord.enc) hx12 ?_;(conv=>whnf);refine gdI g3 (fun g3=>?_);(conv=>whnf);obtain ⟨x14,hx14,hlx14,g3⟩:=bd_set g3;refine setS (enc:=TreeWord.enc) hx14 ?_;(conv=>whnf);obtain rfl:=Option.some.inj g3;exact ⟨_,rfl,leX []⟩
    · (conv=>whnf);obtain rfl:=Option.some.inj g3;obtain rfl:=hy2 _ rfl;obtain ⟨g16,h⟩:=gd_some h;obtain rfl:=Option.some.inj h;exact lfE []
noncomputable def laws_markTreeWorld_m (a0:TreeWorld) (a1:Int):Option (Int × TreeWorld) :=
 bd (laws_markTreeBridgeS_m a0.Bridges a1) fun x1 =>
 gd (x1.2.length = a0.Bridges.length) <|
 bd (laws_markTreeLinkS_m a0.Links x1.1) fun x2 =>
 gd (x2.2.length = a0.Links.length) <|
 bd (laws_markIntS_m a0.Down x2.1) fun x3 =>
 gd (x3.2.length = a0.Down.length) <|
 bd (laws_markTreeSlotS_m a0.AtA x3.1) fun x4 =>
 gd (x4.2.length = a0.AtA.length) <|
 bd (laws_markTreeSlotS_m a0.AtB x4.1) fun x5 =>
 gd (x5.2.length = a0.AtB.length) <|
 bd (laws_markTreeWordS_m a0.Radio x5.1) fun x6 =>
 gd (x6.2.length = a0.Radio.length) <|
 some (x6.1,(⟨x1.2,x2.2,x3.2,x4.2,x5.2,x6.2⟩:TreeWorld))
theorem laws_markTreeWorld_c {a0:TreeWorld} {a1:Int} {r:Int × TreeWorld} (h:laws_markTreeWorld_m a0 a1 = some r):EffC Tryz.prog 9 [.agg [.osl 9000 0 a0.Bridges.length,.osl 9001 0 a0.Links.length,.osl 9002 0 a0.Down.length,.osl 9003 0 a0.AtA.length,.osl 9004 0 a0.AtB.length,.osl 9005 0 a0.Radio.length],.d (.int .i64 a1)] [(9000,.arr 81 6 a0.Bridges.length (rows TreeBridge.enc a0.Bridges)),(9001,.arr 89 3 a0.Links.length (rows TreeLink.enc a0.Links)),(9002,.arr 3 1 a0.Down.length (rows encInt a0.Down)),(9003,.arr 93 4 a0.AtA.length (rows TreeSlot.enc a0.AtA)),(9004,.arr 93 4 a0.AtB.length (rows TreeSlot.enc a0.AtB)),(9005,.arr 76 5 a0.Radio.length (rows TreeWord.enc a0.Radio))] (.d (.int .i64 r.1)) [(9000,.arr 81 6 a0.Bridges.length (rows TreeBridge.enc r.2.Bridges)),(9001,.arr 89 3 a0.Links.length (rows TreeLink.enc r.2.Links)),(9002,.arr 3 1 a0.Down.length (rows encInt r.2.Down)),(9003,.arr 93 4 a0.AtA.length (rows TreeSlot.enc r.2.AtA)),(9004,.arr 93 4 a0.AtB.length (rows TreeSlot.enc r.2.AtB)),(9005,.arr 76 5 a0.Radio.length (rows TreeWord.enc r.2.Radio))]:=by
  refine effC_x tOk (fn:=Tryz.f9) (c:=codeOf Tryz.f9) rfl rfl ?_;unfold laws_markTreeWorld_m at h;(conv=>whnf);obtain ⟨x1,hx1,h⟩:=bd_some h;obtain ⟨g12,h⟩:=gd_some h;refine cE [(9000,9000)] 0 (laws_markTreeBridgeS_c hx1) ?_;(conv=>whnf);obtain ⟨x2,hx2,h⟩:=bd_some h;obtain ⟨g11,h⟩:=gd_some h;refine cE [(9000,9001)] 0 (laws_markTreeLinkS_c hx2) ?_;(conv=>whnf);obtain ⟨x3,hx3,h⟩:=bd_some h;obtain ⟨g10,h⟩:=gd_some h;refine cE [(9000,9002)] 0 (laws_markIntS_c hx3) ?_;(conv=>whnf);obtain ⟨x4,hx4,h⟩:=bd_some h;obtain ⟨g9,h⟩:=gd_some h;refine cE [(9000,9003)] 0 (laws_markTreeSlotS_c hx4) ?_;(conv=>whnf);obtain ⟨x5,hx5,h⟩:=bd_some h;obtain ⟨g8,h⟩:=gd_some h;refine cE [(9000,9004)] 0 (laws_markTreeSlotS_c hx5) ?_;(conv=>whnf);obtain ⟨x6,hx6,h⟩:=bd_some h;obtain ⟨g7,h⟩:=gd_some h;refine cE [(9000,9005)] 0 (laws_markTreeWordS_c hx6) ?_;(conv=>whnf);obtain rfl:=Option.some.inj h;exact lfE []
noncomputable def laws_heldTreeBridgeS_m (a0:(List TreeBridge)) (a1:Int):Option (Int) :=
 bd (lp (σ:=Int × Int) (β:=(Unit ⊕ Int)) (fun s1 =>
(if (decide (s1.2<((a0.length:Nat):Int))) = true then
 gd ((0:Int)≤s1.2∧s1.2<((a0.length:Nat):Int)) <|
(if (((a0.getD s1.2.toNat default).Id) != s1.1) = true then
 some (.inr (.inl ()))
else
 gd ((0:Int)≤s1.2∧s1.2<((a0.length:Nat):Int)) <|
 gd ((3:Int) ≠ 0) <|
(if (!(((a0.getD s1.2.toNat default).Up) == (((IntKind.i64.wrap (s1.1+1):Int).tmod 3) == 0))) = true then
 some (.inr (.inl ()))
else
 gd ((0:Int)≤s1.2∧s1.2<((a0.length:Nat):Int)) <|
(if (((((a0.getD s1.2.toNat default).Mind).Vector).Root) != (IntKind.i64.wrap ((IntKind.i64.wrap (s1.1+1))+1))) = true then
 some (.inr (.inl ()))
else
 gd ((0:Int)≤s1.2∧s1.2<((a0.length:Nat):Int)) <|
(if (((((a0.getD s1.2.toNat default).Mind).Vector).Cost) != (IntKind.i64.wrap ((IntKind.i64.wrap ((IntKind.i64.wrap (s1.1+1))+1))+1))) = true then
 some (.inr (.inl ()))
else
 gd ((0:Int)≤s1.2∧s1.2<((a0.length:Nat):Int)) <|
(if (((((a0.getD s1.2.toNat default).Mind).Vector).Age) != (IntKind.i64.wrap ((IntKind.i64.wrap ((IntKind.i64.wrap ((IntKind.i64.wrap (s1.1+1))+1))+1))+1))) = true then
 some (.inr (.inl ()))
else
 gd ((0:Int)≤s1.2∧s1.2<((a0.length:Nat):Int)) <|
(if ((((a0.getD s1.2.toNat default).Mind).Link) != (IntKind.i64.wrap ((IntKind.i64.wrap ((IntKind.i64.wrap ((IntKind.i64.wrap ((IntKind.i64.wrap (s1.1+1))+1))+1))+1))+1))) = true then
 some (.inr (.inl ()))
else
 some (.inl (IntKind.i64.wrap ((IntKind.i64.wrap ((IntKind.i64.wrap ((IntKind.i64.wrap ((IntKind.i64.wrap ((IntKind.i64.wrap (s1.1+1))+1))+1))+1))+1))+1),IntKind.i64.wrap (s1.2+1)))))))))
else
 some (.inr (.inr s1.1)))) (a1,0)) fun x4 =>
(match x4 with
| .inl d12 =>
 some (-1)
| .inr d13 =>
 some d13)
theorem laws_heldTreeBridgeS_c {a0:(List TreeBridge)} {a1:Int} {r:Int} (h:laws_heldTreeBridgeS_m a0 a1 = some r):PureC Tryz.prog 41 [.d (slD TreeBridge.enc a0),.d (.int .i64 a1)] (.d (.int .i64 r)) []:=by
  refine pureC_x tOk (fn:=Tryz.f41) (c:=codeOf Tryz.f41) rfl rfl ?_;unfold laws_heldTreeBridgeS_m at h;(conv=>whnf);refine seq_in tOk ?_;(conv=>whnf);obtain ⟨x4,hx4,h⟩:=bd_some h;refine loop_m tOk hx4 (fun s1=>⟨0,76,[(0,.d (slD TreeBridge.enc a0)),(1,.d (.int .i64 s1.1)),(5,.d (.int .i64 s1.2))],[],[],[]⟩) ?_ ?_
  · exact leX []
  · clear hx4;intro s1 y2 g3 hy2;(conv=>whnf);refine seq_in tOk ?_;(conv=>whnf);refine andI g3 (fun _ g3=>?_) (fun _ g3=>?_)
    · (conv=>whnf);refine seq_in tOk ?_;(conv=>whnf);refine seq_in tOk ?_;(conv=>whnf);refine gdI g3 (fun g3=>?_);(conv=>whnf);refine andI g3 (fun _ g3=>?_) (fun _ g3=>?_)
      · (conv=>whnf);obtain rfl:=Option.some.inj g3;obtain rfl:=hy2 _ rfl;obtain rfl:=Option.some.inj h;exact lfP []
      · (conv=>whnf);refine seq_in tOk ?_;(conv=>whnf);refine gdI g3 (fun g3=>?_);(conv=>whnf);refine gdI g3 (fun g3=>?_);(conv=>whnf);refine andI g3 (fun _ g3=>?_) (fun _ g3=>?_)
        · (conv=>whnf);obtain rfl:=Option.some.inj g3;obtain rfl:=hy2 _ rfl;obtain rfl:=Option.some.inj h;exact lfP []
        · (conv=>whnf);refine seq_in tOk ?_;(conv=>whnf);refine gdI g3 (fun g3=>?_);(conv=>whnf);refine andI g3 (fun _ g3=>?_) (fun _ g3=>?_)
          · (conv=>whnf);obtain rfl:=Option.some.inj g3;obtain rfl:=hy2 _ rfl;obtain rfl:=Option.some.inj h;exact lfP []
          · (conv=>whnf);refine seq_in tOk ?_;(conv=>whnf);refine gdI g3 (fun g3=>?_);(conv=>whnf);refine andI g3 (fun _ g3=>?_) (fun _ g3=>?_)
            · (conv=>whnf);obtain rfl:=Option.some.inj g3;obtain rfl:=hy2 _ rfl;obtain rfl:=Option.some.inj h;exact lfP []
            · (conv=>whnf);refine seq_in tOk ?_;(conv=>whnf);refine gdI g3 (fun g3=>?_);(conv=>whnf);refine andI g3 (fun _ g3=>?_) (fun _ g3=>?_)
              · (conv=>whnf);obtain rfl:=Option.some.inj g3;obtain rfl:=hy2 _ rfl;obtain rfl:=Option.some.inj h;exact lfP []
              · (conv=>whnf);refine seq_in tOk ?_;(conv=>whnf);refine gdI g3 (fun g3=>?_);(conv=>whnf);refine andI g3 (fun _ g3=>?_) (fun _ g3=>?_)
                · (conv=>whnf);obtain rfl:=Option.some.inj g3;obtain rfl:=hy2 _ rfl;obtain rfl:=Option.some.inj h;exact lfP []
                · (conv=>whnf);obtain rfl:=Option.some.inj g3;exact ⟨_,rfl,leX []⟩
    · (conv=>whnf);obtain rfl:=Option.some.inj g3;obtain rfl:=hy2 _ rfl;obtain rfl:=Option.some.inj h;exact lfP []
noncomputable def laws_heldTreeLinkS_m (a0:(List TreeLink)) (a1:Int):Option (Int) :=
 bd (lp (σ:=Int × Int) (β:=(Unit ⊕ Int)) (fun s1 =>
(if (decide (s1.2<((a0.length:Nat):Int))) = true then
 gd ((0:Int)≤s1.2∧s1.2<((a0.length:Nat):Int)) <|
(if (((a0.getD s1.2.toNat default).A) != s1.1) = true then
 some (.inr (.inl ()))
else
 gd ((0:Int)≤s1.2∧s1.2<((a0.length:Nat):Int)) <|
(if (((a0.getD s1.2.toNat default).B) != (IntKind.i64.wrap (s1.1+1))) = true then
 some (.inr (.inl ()))
else
 gd ((0:Int)≤s1.2∧s1.2<((a0.length:Nat):Int)) <|
(if (((a0.getD s1.2.toNat default).Cost) != (IntKind.i64.wrap ((IntKind.i64.wrap (s1.1+1))+1))) = true then
 some (.inr (.inl ()))
else
 some (.inl (IntKind.i64.wrap ((IntKind.i64.wrap ((IntKind.i64.wrap (s1.1+1))+1))+1),IntKind.i64.wrap (s1.2+1))))))
else
 some (.inr (.inr s1.1)))) (a1,0)) fun x4 =>
(match x4 with
| .inl d8 =>
 some (-1)
| .inr d9 =>
 some d9)
theorem laws_heldTreeLinkS_c {a0:(List TreeLink)} {a1:Int} {r:Int} (h:laws_heldTreeLinkS_m a0 a1 = some r):PureC Tryz.prog 42 [.d (slD TreeLink.enc a0),.d (.int .i64 a1)] (.d (.int .i64 r)) []:=by
  refine pureC_x tOk (fn:=Tryz.f42) (c:=codeOf Tryz.f42) rfl rfl ?_;unfold laws_heldTreeLinkS_m at h;(conv=>whnf);refine seq_in tOk ?_;(conv=>whnf);obtain ⟨x4,hx4,h⟩:=bd_some h;refine loop_m tOk hx4 (fun s1=>⟨0,40,[(0,.d (slD TreeLink.enc a0)),(1,.d (.int .i64 s1.1)),(5,.d (.int .i64 s1.2))],[],[],[]⟩) ?_ ?_
  · exact leX []
  · clear hx4;intro s1 y2 g3 hy2;(conv=>whnf);refine seq_in tOk ?_;(conv=>whnf);refine andI g3 (fun _ g3=>?_) (fun _ g3=>?_)
    · (conv=>whnf);refine seq_in tOk ?_;(conv=>whnf);refine seq_in tOk ?_;(conv=>whnf);refine gdI g3 (fun g3=>?_);(conv=>whnf);refine andI g3 (fun _ g3=>?_) (fun _ g3=>?_)
      · (conv=>whnf);obtain rfl:=Option.some.inj g3;obtain rfl:=hy2 _ rfl;obtain rfl:=Option.some.inj h;exact lfP []
      · (conv=>whnf);refine seq_in tOk ?_;(conv=>whnf);refine gdI g3 (fun g3=>?_);(conv=>whnf);refine andI g3 (fun _ g3=>?_) (fun _ g3=>?_)
        · (conv=>whnf);obtain rfl:=Option.some.inj g3;obtain rfl:=hy2 _ rfl;obtain rfl:=Option.some.inj h;exact lfP []
        · (conv=>whnf);refine seq_in tOk ?_;(conv=>whnf);refine gdI g3 (fun g3=>?_);(conv=>whnf);refine andI g3 (fun _ g3=>?_) (fun _ g3=>?_)
          · (conv=>whnf);obtain rfl:=Option.some.inj g3;obtain rfl:=hy2 _ rfl;obtain rfl:=Option.some.inj h;exact lfP []
          · (conv=>whnf);obtain rfl:=Option.some.inj g3;exact ⟨_,rfl,leX []⟩
    · (conv=>whnf);obtain rfl:=Option.some.inj g3;obtain rfl:=hy2 _ rfl;obtain rfl:=Option.some.inj h;exact lfP []
noncomputable def laws_heldIntS_m (a0:(List Int)) (a1:Int):Option (Int) :=
 bd (lp (σ:=Int × Int) (β:=(Unit ⊕ Int)) (fun s1 =>
(if (decide (s1.2<((a0.length:Nat):Int))) = true then
 gd ((0:Int)≤s1.2∧s1.2<((a0.length:Nat):Int)) <|
(if ((a0.getD s1.2.toNat default) != s1.1) = true then
 some (.inr (.inl ()))
else
 some (.inl (IntKind.i64.wrap (s1.1+1),IntKind.i64.wrap (s1.2+1))))
else
 some (.inr (.inr s1.1)))) (a1,0)) fun x4 =>
(match x4 with
| .inl d6 =>
 some (-1)
| .inr d7 =>
 some d7)
theorem laws_heldIntS_c {a0:(List Int)} {a1:Int} {r:Int} (h:laws_heldIntS_m a0 a1 = some r):PureC Tryz.prog 43 [.d (slD encInt a0),.d (.int .i64 a1)] (.d (.int .i64 r)) []:=by
  refine pureC_x tOk (fn:=Tryz.f43) (c:=codeOf Tryz.f43) rfl rfl ?_;unfold laws_heldIntS_m at h;(conv=>whnf);refine seq_in tOk ?_;(conv=>whnf);obtain ⟨x4,hx4,h⟩:=bd_some h;refine loop_m tOk hx4 (fun s1=>⟨0,21,[(0,.d (slD encInt a0)),(1,.d (.int .i64 s1.1)),(5,.d (.int .i64 s1.2))],[],[],[]⟩) ?_ ?_
  · exact leX []
  · clear hx4;intro s1 y2 g3 hy2;(conv=>whnf);refine seq_in tOk ?_;(conv=>whnf);refine andI g3 (fun _ g3=>?_) (fun _ g3=>?_)
    · (conv=>whnf);refine seq_in tOk ?_;(conv=>whnf);refine seq_in tOk ?_;(conv=>whnf);refine gdI g3 (fun g3=>?_);(conv=>whnf);refine andI g3 (fun _ g3=>?_) (fun _ g3=>?_)
      · (conv=>whnf);obtain rfl:=Option.some.inj g3;obtain rfl:=hy2 _ rfl;obtain rfl:=Option.some.inj h;exact lfP []
      · (conv=>whnf);obtain rfl:=Option.some.inj g3;exact ⟨_,rfl,leX []⟩
    · (conv=>whnf);obtain rfl:=Option.some.inj g3;obtain rfl:=hy2 _ rfl;obtain rfl:=Option.some.inj h;exact lfP []
noncomputable def laws_heldTreeSlotS_m (a0:(List TreeSlot)) (a1:Int):Option (Int) :=
 bd (lp (σ:=Int × Int) (β:=(Unit ⊕ Int)) (fun s1 =>
(if (decide (s1.2<((a0.length:Nat):Int))) = true then
 gd ((0:Int)≤s1.2∧s1.2<((a0.length:Nat):Int)) <|
(if ((((a0.getD s1.2.toNat default).Vector).Root) != s1.1) = true then
 some (.inr (.inl ()))
else
 gd ((0:Int)≤s1.2∧s1.2<((a0.length:Nat):Int)) <|
(if ((((a0.getD s1.2.toNat default).Vector).Cost) != (IntKind.i64.wrap (s1.1+1))) = true then
 some (.inr (.inl ()))
else
 gd ((0:Int)≤s1.2∧s1.2<((a0.length:Nat):Int)) <|
(if ((((a0.getD s1.2.toNat default).Vector).Age) != (IntKind.i64.wrap ((IntKind.i64.wrap (s1.1+1))+1))) = true then
 some (.inr (.inl ()))
else
 gd ((0:Int)≤s1.2∧s1.2<((a0.length:Nat):Int)) <|
(if (((a0.getD s1.2.toNat default).Left) != (IntKind.i64.wrap ((IntKind.i64.wrap ((IntKind.i64.wrap (s1.1+1))+1))+1))) = true then
 some (.inr (.inl ()))
else
 some (.inl (IntKind.i64.wrap ((IntKind.i64.wrap ((IntKind.i64.wrap ((IntKind.i64.wrap (s1.1+1))+1))+1))+1),IntKind.i64.wrap (s1.2+1)))))))
else
 some (.inr (.inr s1.1)))) (a1,0)) fun x4 =>
(match x4 with
| .inl d9 =>
 some (-1)
| .inr d10 =>
 some d10)
theorem laws_heldTreeSlotS_c {a0:(List TreeSlot)} {a1:Int} {r:Int} (h:laws_heldTreeSlotS_m a0 a1 = some r):PureC Tryz.prog 44 [.d (slD TreeSlot.enc a0),.d (.int .i64 a1)] (.d (.int .i64 r)) []:=by
  refine pureC_x tOk (fn:=Tryz.f44) (c:=codeOf Tryz.f44) rfl rfl ?_;unfold laws_heldTreeSlotS_m at h;(conv=>whnf);refine seq_in tOk ?_;(conv=>whnf);obtain ⟨x4,hx4,h⟩:=bd_some h;refine loop_m tOk hx4 (fun s1=>⟨0,52,[(0,.d (slD TreeSlot.enc a0)),(1,.d (.int .i64 s1.1)),(5,.d (.int .i64 s1.2))],[],[],[]⟩) ?_ ?_
  · exact leX []
  · clear hx4;intro s1 y2 g3 hy2;(conv=>whnf);refine seq_in tOk ?_;(conv=>whnf);refine andI g3 (fun _ g3=>?_) (fun _ g3=>?_)
    · (conv=>whnf);refine seq_in tOk ?_;(conv=>whnf);refine seq_in tOk ?_;(conv=>whnf);refine gdI g3 (fun g3=>?_);(conv=>whnf);refine andI g3 (fun _ g3=>?_) (fun _ g3=>?_)
      · (conv=>whnf);obtain rfl:=Option.some.inj g3;obtain rfl:=hy2 _ rfl;obtain rfl:=Option.some.inj h;exact lfP []
      · (conv=>whnf);refine seq_in tOk ?_;(conv=>whnf);refine gdI g3 (fun g3=>?_);(conv=>whnf);refine andI g3 (fun _ g3=>?_) (fun _ g3=>?_)
        · (conv=>whnf);obtain rfl:=Option.some.inj g3;obtain rfl:=hy2 _ rfl;obtain rfl:=Option.some.inj h;exact lfP []
        · (conv=>whnf);refine seq_in tOk ?_;(conv=>whnf);refine gdI g3 (fun g3=>?_);(conv=>whnf);refine andI g3 (fun _ g3=>?_) (fun _ g3=>?_)
          · (conv=>whnf);obtain rfl:=Option.some.inj g3;obtain rfl:=hy2 _ rfl;obtain rfl:=Option.some.inj h;exact lfP []
          · (conv=>whnf);refine seq_in tOk ?_;(conv=>whnf);refine gdI g3 (fun g3=>?_);(conv=>whnf);refine andI g3 (fun _ g3=>?_) (fun _ g3=>?_)
            · (conv=>whnf);obtain rfl:=Option.some.inj g3;obtain rfl:=hy2 _ rfl;obtain rfl:=Option.some.inj h;exact lfP []
            · (conv=>whnf);obtain rfl:=Option.some.inj g3;exact ⟨_,rfl,leX []⟩
    · (conv=>whnf);obtain rfl:=Option.some.inj g3;obtain rfl:=hy2 _ rfl;obtain rfl:=Option.some.inj h;exact lfP []
noncomputable def laws_heldTreeWordS_m (a0:(List TreeWord)) (a1:Int):Option (Int) :=
 bd (lp (σ:=Int × Int) (β:=(Unit ⊕ Int)) (fun s1 =>
(if (decide (s1.2<((a0.length:Nat):Int))) = true then
 gd ((0:Int)≤s1.2∧s1.2<((a0.length:Nat):Int)) <|
(if (((a0.getD s1.2.toNat default).Link) != s1.1) = true then
 some (.inr (.inl ()))
else
 gd ((0:Int)≤s1.2∧s1.2<((a0.length:Nat):Int)) <|
(if (((a0.getD s1.2.toNat default).End) != (IntKind.i64.wrap (s1.1+1))) = true then
 some (.inr (.inl ()))
else
 gd ((0:Int)≤s1.2∧s1.2<((a0.length:Nat):Int)) <|
(if ((((a0.getD s1.2.toNat default).Vector).Root) != (IntKind.i64.wrap ((IntKind.i64.wrap (s1.1+1))+1))) = true then
 some (.inr (.inl ()))
else
 gd ((0:Int)≤s1.2∧s1.2<((a0.length:Nat):Int)) <|
(if ((((a0.getD s1.2.toNat default).Vector).Cost) != (IntKind.i64.wrap ((IntKind.i64.wrap ((IntKind.i64.wrap (s1.1+1))+1))+1))) = true then
 some (.inr (.inl ()))
else
 gd ((0:Int)≤s1.2∧s1.2<((a0.length:Nat):Int)) <|
(if ((((a0.getD s1.2.toNat default).Vector).Age) != (IntKind.i64.wrap ((IntKind.i64.wrap ((IntKind.i64.wrap ((IntKind.i64.wrap (s1.1+1))+1))+1))+1))) = true then
 some (.inr (.inl ()))
else
 some (.inl (IntKind.i64.wrap ((IntKind.i64.wrap ((IntKind.i64.wrap ((IntKind.i64.wrap ((IntKind.i64.wrap (s1.1+1))+1))+1))+1))+1),IntKind.i64.wrap (s1.2+1))))))))
else
 some (.inr (.inr s1.1)))) (a1,0)) fun x4 =>
(match x4 with
| .inl d10 =>
 some (-1)
| .inr d11 =>
 some d11)
theorem laws_heldTreeWordS_c {a0:(List TreeWord)} {a1:Int} {r:Int} (h:laws_heldTreeWordS_m a0 a1 = some r):PureC Tryz.prog 45 [.d (slD TreeWord.enc a0),.d (.int .i64 a1)] (.d (.int .i64 r)) []:=by
  refine pureC_x tOk (fn:=Tryz.f45) (c:=codeOf Tryz.f45) rfl rfl ?_;unfold laws_heldTreeWordS_m at h;(conv=>whnf);refine seq_in tOk ?_;(conv=>whnf);obtain ⟨x4,hx4,h⟩:=bd_some h;refine loop_m tOk hx4 (fun s1=>⟨0,61,[(0,.d (slD TreeWord.enc a0)),(1,.d (.int .i64 s1.1)),(5,.d (.int .i64 s1.2))],[],[],[]⟩) ?_ ?_
  · exact leX []
  · clear hx4;intro s1 y2 g3 hy2;(conv=>whnf);refine seq_in tOk ?_;(conv=>whnf);refine andI g3 (fun _ g3=>?_) (fun _ g3=>?_)
    · (conv=>whnf);refine seq_in tOk ?_;(conv=>whnf);refine seq_in tOk ?_;(conv=>whnf);refine gdI g3 (fun g3=>?_);(conv=>whnf);refine andI g3 (fun _ g3=>?_) (fun _ g3=>?_)
      · (conv=>whnf);obtain rfl:=Option.some.inj g3;obtain rfl:=hy2 _ rfl;obtain rfl:=Option.some.inj h;exact lfP []
      · (conv=>whnf);refine seq_in tOk ?_;(conv=>whnf);refine gdI g3 (fun g3=>?_);(conv=>whnf);refine andI g3 (fun _ g3=>?_) (fun _ g3=>?_)
        · (conv=>whnf);obtain rfl:=Option.some.inj g3;obtain rfl:=hy2 _ rfl;obtain rfl:=Option.some.inj h;exact lfP []
        · (conv=>whnf);refine seq_in tOk ?_;(conv=>whnf);refine gdI g3 (fun g3=>?_);(conv=>whnf);refine andI g3 (fun _ g3=>?_) (fun _ g3=>?_)
          · (conv=>whnf);obtain rfl:=Option.some.inj g3;obtain rfl:=hy2 _ rfl;obtain rfl:=Option.some.inj h;exact lfP []
          · (conv=>whnf);refine seq_in tOk ?_;(conv=>whnf);refine gdI g3 (fun g3=>?_);(conv=>whnf);refine andI g3 (fun _ g3=>?_) (fun _ g3=>?_)
            · (conv=>whnf);obtain rfl:=Option.some.inj g3;obtain rfl:=hy2 _ rfl;obtain rfl:=Option.some.inj h;exact lfP []
            · (conv=>whnf);refine seq_in tOk ?_;(conv=>whnf);refine gdI g3 (fun g3=>?_);(conv=>whnf);refine andI g3 (fun _ g3=>?_) (fun _ g3=>?_)
              · (conv=>whnf);obtain rfl:=Option.some.inj g3;obtain rfl:=hy2 _ rfl;obtain rfl:=Option.some.inj h;exact lfP []
              · (conv=>whnf);obtain rfl:=Option.some.inj g3;exact ⟨_,rfl,leX []⟩
    · (conv=>whnf);obtain rfl:=Option.some.inj g3;obtain rfl:=hy2 _ rfl;obtain rfl:=Option.some.inj h;exact lfP []
noncomputable def laws_heldTreeWorld_m (a0:TreeWorld) (a1:Int):Option (Int) :=
 bd (laws_heldTreeBridgeS_m a0.Bridges a1) fun x1 =>
(if (decide (x1<0)) = true then
 some (-1)
else
 bd (laws_heldTreeLinkS_m a0.Links x1) fun x2 =>
(if (decide (x2<0)) = true then
 some (-1)
else
 bd (laws_heldIntS_m a0.Down x2) fun x3 =>
(if (decide (x3<0)) = true then
 some (-1)
else
 bd (laws_heldTreeSlotS_m a0.AtA x3) fun x4 =>
(if (decide (x4<0)) = true then
 some (-1)
else
 bd (laws_heldTreeSlotS_m a0.AtB x4) fun x5 =>
(if (decide (x5<0)) = true then
 some (-1)
else
 bd (laws_heldTreeWordS_m a0.Radio x5) fun x6 =>
(if (decide (x6<0)) = true then
 some (-1)
else
 some x6))))))
theorem laws_heldTreeWorld_c {a0:TreeWorld} {a1:Int} {r:Int} (h:laws_heldTreeWorld_m a0 a1 = some r):PureC Tryz.prog 10 [.agg [.d (slD TreeBridge.enc a0.Bridges),.d (slD TreeLink.enc a0.Links),.d (slD encInt a0.Down),.d (slD TreeSlot.enc a0.AtA),.d (slD TreeSlot.enc a0.AtB),.d (slD TreeWord.enc a0.Radio)],.d (.int .i64 a1)] (.d (.int .i64 r)) []:=by
  refine pureC_x tOk (fn:=Tryz.f10) (c:=codeOf Tryz.f10) rfl rfl ?_;unfold laws_heldTreeWorld_m at h;(conv=>whnf);obtain ⟨x1,hx1,h⟩:=bd_some h;refine cC 0 (laws_heldTreeBridgeS_c hx1) ?_;clear hx1;(conv=>whnf);refine seq_in tOk ?_;(conv=>whnf);refine andI h (fun _ h=>?_) (fun _ h=>?_)
  · (conv=>whnf);obtain rfl:=Option.some.inj h;exact lfP []
  · (conv=>whnf);obtain ⟨x2,hx2,h⟩:=bd_some h;refine cC 0 (laws_heldTreeLinkS_c hx2) ?_;clear hx2;(conv=>whnf);refine seq_in tOk ?_;(conv=>whnf);refine andI h (fun _ h=>?_) (fun _ h=>?_)
    · (conv=>whnf);obtain rfl:=Option.some.inj h;exact lfP []
    · (conv=>whnf);obtain ⟨x3,hx3,h⟩:=bd_some h;refine cC 0 (laws_heldIntS_c hx3) ?_;clear hx3;(conv=>whnf);refine seq_in tOk ?_;(conv=>whnf);refine andI h (fun _ h=>?_) (fun _ h=>?_)
      · (conv=>whnf);obtain rfl:=Option.some.inj h;exact lfP []
      · (conv=>whnf);obtain ⟨x4,hx4,h⟩:=bd_some h;refine cC 0 (laws_heldTreeSlotS_c hx4) ?_;clear hx4;(conv=>whnf);refine seq_in tOk ?_;(conv=>whnf);refine andI h (fun _ h=>?_) (fun _ h=>?_)
        · (conv=>whnf);obtain rfl:=Option.some.inj h;exact lfP []
        · (conv=>whnf);obtain ⟨x5,hx5,h⟩:=bd_some h;refine cC 0 (laws_heldTreeSlotS_c hx5) ?_;clear hx5;(conv=>whnf);refine seq_in tOk ?_;(conv=>whnf);refine andI h (fun _ h=>?_) (fun _ h=>?_)
          · (conv=>whnf);obtain rfl:=Option.some.inj h;exact lfP []
          · (conv=>whnf);obtain ⟨x6,hx6,h⟩:=bd_some h;refine cC 0 (laws_heldTreeWordS_c hx6) ?_;clear hx6;(conv=>whnf);refine seq_in tOk ?_;(conv=>whnf);refine andI h (fun _ h=>?_) (fun _ h=>?_)
            · (conv=>whnf);obtain rfl:=Option.some.inj h;exact lfP []
            · (conv=>whnf);obtain rfl:=Option.some.inj h;exact lfP []
end Go.Proofs.YtfgmolljcgnafaaGreat
