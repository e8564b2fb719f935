/-
  What some of the program's functions compute: their models, and that the functions compute these; no condition.
-/
import Derived.Test.YtejhbiefhpgjeaaGreatTyz
import Derived.Test.YtejhbiefhpgjeaaGreatTbz
import Derived.Test.YtejhbiefhpgjeaaGreatAbz7
import Derived.Test.YtejhbiefhpgjeaaGreatKz4
set_option linter.all false
namespace Go.Proofs.YtejhbiefhpgjeaaGreat
open Go Go.Ab
set_option maxRecDepth 100000
set_option maxHeartbeats 40000000
noncomputable def impl_TreeWorld_tick_r05_k04_m (a0:TreeWorld):Option (TreeWorld) :=
 bd (lp (σ:=List TreeBridge × List TreeSlot × List TreeSlot × List TreeWord × Int) (β:=(Nat × Nat × Nat × Nat × (List TreeBridge) × (List TreeSlot) × (List TreeSlot) × (List TreeWord))) (fun s1 =>
(if (decide (s1.2.2.2.2<((a0.Links.length:Nat):Int)))=true then
 bd (lp (σ:=List TreeBridge × List TreeSlot × List TreeSlot × List TreeWord × Int) (β:=(Nat × Nat × Nat × Nat × (List TreeBridge) × (List TreeSlot) × (List TreeSlot) × (List TreeWord))) (fun s5 =>
(if (decide (s5.2.2.2.2<2))=true then
(if (s5.2.2.2.2 == 0)=true then
 bd (impl_TreeWorld_slot_r00_03_04_05_at_s1_m ({ a0 with Bridges:=s5.1,AtA:=s5.2.1,AtB:=s5.2.2.1,Radio:=s5.2.2.2.1 }) s1.2.2.2.2 s5.2.2.2.2) fun x10 =>
 bd (some (x10.2.AtA.set x10.1 (⟨((x10.2.AtA.getD x10.1 default).Vector),(if (IntKind.i64.wrap (((x10.2.AtA.getD x10.1 default).Left) - 1)) > 0 then IntKind.i64.wrap (((x10.2.AtA.getD x10.1 default).Left) - 1) else 0)⟩:TreeSlot))) fun x11 =>
(if (((x11.getD x10.1 default).Left) == 0)=true then
 some (.inl (x10.2.Bridges,x11.set x10.1 (⟨(⟨0,0,0⟩:TreeVector),0⟩:TreeSlot),x10.2.AtB,x10.2.Radio,IntKind.i64.wrap (s5.2.2.2.2+1)))
else
 some (.inl (x10.2.Bridges,x11,x10.2.AtB,x10.2.Radio,IntKind.i64.wrap (s5.2.2.2.2+1))))
else
 bd (impl_TreeWorld_slot_r00_03_04_05_at_s0_m ({ a0 with Bridges:=s5.1,AtA:=s5.2.1,AtB:=s5.2.2.1,Radio:=s5.2.2.2.1 }) s1.2.2.2.2 s5.2.2.2.2) fun x12 =>
 bd (some (x12.2.AtB.set x12.1 (⟨((x12.2.AtB.getD x12.1 default).Vector),(if (IntKind.i64.wrap (((x12.2.AtB.getD x12.1 default).Left) - 1)) > 0 then IntKind.i64.wrap (((x12.2.AtB.getD x12.1 default).Left) - 1) else 0)⟩:TreeSlot))) fun x13 =>
(if (((x13.getD x12.1 default).Left) == 0)=true then
 some (.inl (x12.2.Bridges,x12.2.AtA,x13.set x12.1 (⟨(⟨0,0,0⟩:TreeVector),0⟩:TreeSlot),x12.2.Radio,IntKind.i64.wrap (s5.2.2.2.2+1)))
else
 some (.inl (x12.2.Bridges,x12.2.AtA,x13,x12.2.Radio,IntKind.i64.wrap (s5.2.2.2.2+1)))))
else
 some (.inr (s5.1.length,s5.2.1.length,s5.2.2.1.length,s5.2.2.2.1.length,s5.1,s5.2.1,s5.2.2.1,s5.2.2.2.1)))) (s1.1,s1.2.1,s1.2.2.1,s1.2.2.2.1,0)) fun x8 =>
 some (.inl (x8.2.2.2.2.1,x8.2.2.2.2.2.1,x8.2.2.2.2.2.2.1,x8.2.2.2.2.2.2.2,IntKind.i64.wrap (s1.2.2.2.2+1)))
else
 some (.inr (s1.1.length,s1.2.1.length,s1.2.2.1.length,s1.2.2.2.1.length,s1.1,s1.2.1,s1.2.2.1,s1.2.2.2.1)))) (a0.Bridges,a0.AtA,a0.AtB,a0.Radio,0)) fun x4 =>
 bd (lp (σ:=List TreeBridge × List TreeSlot × List TreeSlot × List TreeWord × Int) (β:=(Nat × Nat × Nat × Nat × (List TreeBridge) × (List TreeSlot) × (List TreeSlot) × (List TreeWord))) (fun s16 =>
(if (decide (s16.2.2.2.2<((x4.1:Nat):Int)))=true then
 bd (impl_TreeWorld_rethink_r03_04_05_m ({ a0 with Bridges:=s16.1,AtA:=s16.2.1,AtB:=s16.2.2.1,Radio:=s16.2.2.2.1 }) s16.2.2.2.2) fun x20 =>
 some (.inl (x20.Bridges,x20.AtA,x20.AtB,x20.Radio,IntKind.i64.wrap (s16.2.2.2.2+1)))
else
 some (.inr (s16.1.length,s16.2.1.length,s16.2.2.1.length,s16.2.2.2.1.length,s16.1,s16.2.1,s16.2.2.1,s16.2.2.2.1)))) (x4.2.2.2.2.1,x4.2.2.2.2.2.1,x4.2.2.2.2.2.2.1,x4.2.2.2.2.2.2.2,0)) fun x19 =>
 some ({ a0 with Bridges:=x19.2.2.2.2.1,AtA:=x19.2.2.2.2.2.1,AtB:=x19.2.2.2.2.2.2.1,Radio:=x19.2.2.2.2.2.2.2 })
theorem impl_TreeWorld_tick_r05_k04_c {a0:TreeWorld} {r:TreeWorld} (h:impl_TreeWorld_tick_r05_k04_m a0=some r):EffC Tryz.prog 20 [.ref 9000 0 0] [(9000,.box 29 [.osl 9001 0 a0.Bridges.length,.d (slD TreeLink.enc a0.Links),.d (slD encInt a0.Down),.osl 9002 0 a0.AtA.length,.osl 9003 0 a0.AtB.length,.osl 9004 0 a0.Radio.length]),(9001,.arr 42 6 a0.Bridges.length (rows TreeBridge.enc a0.Bridges)),(9002,.arr 83 4 a0.AtA.length (rows TreeSlot.enc a0.AtA)),(9003,.arr 83 4 a0.AtB.length (rows TreeSlot.enc a0.AtB)),(9004,.arr 76 5 a0.Radio.length (rows TreeWord.enc a0.Radio))] (.tup []) [(9000,.box 29 [.osl 5001 0 r.Bridges.length,.d (slD TreeLink.enc a0.Links),.d (slD encInt a0.Down),.osl 5002 0 r.AtA.length,.osl 5003 0 r.AtB.length,.osl 5004 0 r.Radio.length]),(5001,.arr 42 6 r.Bridges.length (rows TreeBridge.enc r.Bridges)),(5002,.arr 83 4 r.AtA.length (rows TreeSlot.enc r.AtA)),(5003,.arr 83 4 r.AtB.length (rows TreeSlot.enc r.AtB)),(5004,.arr 76 5 r.Radio.length (rows TreeWord.enc r.Radio))]:=by
  refine effC_x tOk (fn:=Tryz.f20) (c:=codeOf Tryz.f20) rfl rfl ?_;unfold impl_TreeWorld_tick_r05_k04_m at h;(conv=>whnf);refine seq_in tOk ?_;(conv=>whnf);obtain ⟨x4,hx4,h⟩:=bd_some h;refine loop_m tOk hx4 (fun s1=>⟨0,52,[(0,.ref 9000 0 0),(10,.d (.int .i64 ((a0.Links.length:Nat):Int))),(11,.d (.int .i64 s1.2.2.2.2))],[],[(9000,.box 29 [.osl 9001 0 s1.1.length,.d (slD TreeLink.enc a0.Links),.d (slD encInt a0.Down),.osl 9002 0 s1.2.1.length,.osl 9003 0 s1.2.2.1.length,.osl 9004 0 s1.2.2.2.1.length]),(9001,.arr 42 6 s1.1.length (rows TreeBridge.enc s1.1)),(9002,.arr 83 4 s1.2.1.length (rows TreeSlot.enc s1.2.1)),(9003,.arr 83 4 s1.2.2.1.length (rows TreeSlot.enc s1.2.2.1)),(9004,.arr 76 5 s1.2.2.2.1.length (rows TreeWord.enc s1.2.2.2.1))],[⟨[(0,.ref 9000 0 0)],[]⟩]⟩) ?_ ?_
  · exact leX []
  · clear hx4;intro s1 y2 g3 hy2;(conv=>whnf);refine seq_in tOk ?_;(conv=>whnf);refine andI g3 (fun _ g3=>?_) (fun _ g3=>?_)
    · (conv=>whnf);refine seq_in tOk ?_;(conv=>whnf);obtain ⟨x8,hx8,g3⟩:=bd_some g3;refine loop_m tOk hx8 (fun s5=>⟨0,52,[(0,.ref 9000 0 0),(2,.d (.int .i64 s1.2.2.2.2)),(10,.d (.int .i64 ((a0.Links.length:Nat):Int))),(11,.d (.int .i64 s1.2.2.2.2)),(14,.d (.int .i64 s5.2.2.2.2))],[],[(9000,.box 29 [.osl 9001 0 s5.1.length,.d (slD TreeLink.enc a0.Links),.d (slD encInt a0.Down),.osl 9002 0 s5.2.1.length,.osl 9003 0 s5.2.2.1.length,.osl 9004 0 s5.2.2.2.1.length]),(9001,.arr 42 6 s5.1.length (rows TreeBridge.enc s5.1)),(9002,.arr 83 4 s5.2.1.length (rows TreeSlot.enc s5.2.1)),(9003,.arr 83 4 s5.2.2.1.length (rows TreeSlot.enc s5.2.2.1)),(9004,.arr 76 5 s5.2.2.2.1.length (rows TreeWord.enc s5.2.2.2.1))],[⟨[(0,.ref 9000 0 0)],[]⟩]⟩) ?_ ?_
      · exact leX []
      · clear hx8;intro s5 y6 g7 hy6;(conv=>whnf);refine seq_in tOk ?_;(conv=>whnf);refine andI g7 (fun _ g7=>?_) (fun _ g7=>?_)
        · (conv=>whnf);refine seq_in tOk ?_;(conv=>whnf);refine spI g7 (fun e9 g7=>?_) (fun e9 g7=>?_)
          · obtain ⟨x10,hx10,g7⟩:=bd_some g7;refine cE [(9000,9000),(9001,9001),(9002,9002),(9003,9003),(9004,9004)] 1000 (impl_TreeWorld_slot_r00_03_04_05_at_s1_c e9 hx10) ?_;(conv=>whnf);obtain ⟨x11,hx11,hlx11,g7⟩:=bd_set g7;refine setS (enc:=TreeSlot.enc) hx11 ?_;(conv=>whnf);refine andI g7 (fun _ g7=>?_) (fun _ g7=>?_)
            · (conv=>whnf);refine ⟨rows TreeSlot.enc (x11.set x10.1 (⟨(⟨0,0,0⟩:TreeVector),0⟩:TreeSlot)),store_rows' lenA rfl,?_⟩;(conv=>whnf);obtain rfl:=Option.some.inj g7;exact ⟨_,rfl,leX [.s [(6001,9001),(6002,9002),(6003,9003),(6004,9004),(9001,6001),(9002,6002),(9003,6003),(9004,6004)]]⟩
            · (conv=>whnf);obtain rfl:=Option.some.inj g7;exact ⟨_,rfl,leX [.s [(6001,9001),(6002,9002),(6003,9003),(6004,9004),(9001,6001),(9002,6002),(9003,6003),(9004,6004)]]⟩
          · obtain ⟨x12,hx12,g7⟩:=bd_some g7;refine cE [(9000,9000),(9001,9001),(9002,9002),(9003,9003),(9004,9004)] 1000 (impl_TreeWorld_slot_r00_03_04_05_at_s0_c e9 hx12) ?_;(conv=>whnf);obtain ⟨x13,hx13,hlx13,g7⟩:=bd_set g7;refine setS (enc:=TreeSlot.enc) hx13 ?_;(conv=>whnf);refine andI g7 (fun _ g7=>?_) (fun _ g7=>?_)
            · (conv=>whnf);refine ⟨rows TreeSlot.enc (x13.set x12.1 (⟨(⟨0,0,0⟩:TreeVector),0⟩:TreeSlot)),store_rows' lenA rfl,?_⟩;(conv=>whnf);obtain rfl:=Option.some.inj g7;exact ⟨_,rfl,leX [.s [(6001,9001),(6002,9002),(6003,9003),(6004,9004),(9001,6001),(9002,6002),(9003,6003),(9004,6004)]]⟩
            · (conv=>whnf);obtain rfl:=Option.some.inj g7;exact ⟨_,rfl,leX [.s [(6001,9001),(6002,9002),(6003,9003),(6004,9004),(9001,6001),(9002,6002),(9003,6003),(9004,6004)]]⟩
        · (conv=>whnf);obtain rfl:=Option.some.inj g7;obtain rfl:=hy6 _ rfl;obtain rfl:=Option.some.inj g3;exact ⟨_,rfl,leX []⟩
    · (conv=>whnf);obtain rfl:=Option.some.inj g3;obtain rfl:=hy2 _ rfl;obtain ⟨x19,hx19,h⟩:=bd_some h;refine loop_m tOk hx19 (fun s16=>⟨0,52,[(0,.ref 9000 0 0),(44,.d (.int .i64 (((s1.1.length,s1.2.1.length,s1.2.2.1.length,s1.2.2.2.1.length,s1.1,s1.2.1,s1.2.2.1,s1.2.2.2.1).1:Nat):Int))),(45,.d (.int .i64 s16.2.2.2.2))],[],[(9000,.box 29 [.osl 9001 0 s16.1.length,.d (slD TreeLink.enc a0.Links),.d (slD encInt a0.Down),.osl 9002 0 s16.2.1.length,.osl 9003 0 s16.2.2.1.length,.osl 9004 0 s16.2.2.2.1.length]),(9001,.arr 42 6 s16.1.length (rows TreeBridge.enc s16.1)),(9002,.arr 83 4 s16.2.1.length (rows TreeSlot.enc s16.2.1)),(9003,.arr 83 4 s16.2.2.1.length (rows TreeSlot.enc s16.2.2.1)),(9004,.arr 76 5 s16.2.2.2.1.length (rows TreeWord.enc s16.2.2.2.1))],[⟨[(0,.ref 9000 0 0)],[]⟩]⟩) ?_ ?_
      · exact leX []
      · clear hx19;intro s16 y17 g18 hy17;(conv=>whnf);refine seq_in tOk ?_;(conv=>whnf);refine andI g18 (fun _ g18=>?_) (fun _ g18=>?_)
        · (conv=>whnf);refine seq_in tOk ?_;(conv=>whnf);obtain ⟨x20,hx20,g18⟩:=bd_some g18;refine cE [(9000,9000),(9001,9001),(9002,9002),(9003,9003),(9004,9004)] 1000 (impl_TreeWorld_rethink_r03_04_05_c hx20) ?_;(conv=>whnf);obtain rfl:=Option.some.inj g18;exact ⟨_,rfl,leX [.s [(6001,9001),(6002,9002),(6003,9003),(6004,9004),(9001,6001),(9002,6002),(9003,6003),(9004,6004)]]⟩
        · (conv=>whnf);obtain rfl:=Option.some.inj g18;obtain rfl:=hy17 _ rfl;obtain rfl:=Option.some.inj h;exact lfE [.s [(5001,9001),(5002,9002),(5003,9003),(5004,9004),(9001,5001),(9002,5002),(9003,5003),(9004,5004)]]
noncomputable def impl_TreeCalm_m (a0:TreeWorld) (a1:Int) (a2:Int):Option (TreeWorld) :=
 bd (impl_TreeWorldOk_m a0) fun x1 =>
(if (!x1)=true then
 some (⟨[],[],[],[],[],[]⟩:TreeWorld)
else
 bd (impl_copyTree_o00_03_04_05_m a0) fun x2 =>
 bd (lp (σ:=List TreeBridge × List TreeSlot × List TreeSlot × List TreeWord × Int) (β:=(Nat × Nat × Nat × Nat × (List TreeBridge) × (List TreeSlot) × (List TreeSlot) × (List TreeWord))) (fun s3 =>
(if (decide (s3.2.2.2.2<(if 60<(if 0 > a1 then 0 else a1) then 60 else (if 0 > a1 then 0 else a1))))=true then
 bd (lp (σ:=List TreeBridge × List TreeSlot × List TreeSlot × List TreeWord) (β:=(Nat × Nat × Nat × Nat × (List TreeBridge) × (List TreeSlot) × (List TreeSlot) × (List TreeWord))) (fun s7 =>
(if (decide (((s7.2.2.2.length:Nat):Int) > 0))=true then
 bd (impl_TreeWorld_onWord_k00_03_04_05_m ({ x2 with Bridges:=s7.1,AtA:=s7.2.1,AtB:=s7.2.2.1,Radio:=s7.2.2.2 }) 2 0) fun x11 =>
 some (.inl (x11.Bridges,x11.AtA,x11.AtB,x11.Radio))
else
 some (.inr (s7.1.length,s7.2.1.length,s7.2.2.1.length,s7.2.2.2.length,s7.1,s7.2.1,s7.2.2.1,s7.2.2.2)))) (s3.1,s3.2.1,s3.2.2.1,s3.2.2.2.1)) fun x10 =>
 bd (lp (σ:=List TreeBridge × List TreeSlot × List TreeSlot × List TreeWord × Int) (β:=(Nat × Nat × Nat × Nat × (List TreeBridge) × (List TreeSlot) × (List TreeSlot) × (List TreeWord))) (fun s13 =>
(if (decide (s13.2.2.2.2<((a0.Links.length:Nat):Int)))=true then
 gd ((((a0.Links.length:Nat):Int):Int) ≠ 0) <|
 gd ((((a0.Links.length:Nat):Int):Int) ≠ 0) <|
 bd (impl_TreeWorld_open_m ({ x2 with Bridges:=s13.1,AtA:=s13.2.1,AtB:=s13.2.2.1,Radio:=s13.2.2.2.1 }) ((IntKind.i64.wrap ((((if 0 > a2 then 0 else a2):Int).tmod ((a0.Links.length:Nat):Int))+s13.2.2.2.2):Int).tmod ((a0.Links.length:Nat):Int))) fun x19 =>
(if x19=true then
 bd (impl_TreeWorld_told_m ({ x2 with Bridges:=s13.1,AtA:=s13.2.1,AtB:=s13.2.2.1,Radio:=s13.2.2.2.1 }) ((IntKind.i64.wrap ((((if 0 > a2 then 0 else a2):Int).tmod ((a0.Links.length:Nat):Int))+s13.2.2.2.2):Int).tmod ((a0.Links.length:Nat):Int)) 0) fun x20 =>
 bd (impl_TreeWorld_hear_r05_k03_04_05_m ({ x2 with Bridges:=s13.1,AtA:=s13.2.1,AtB:=s13.2.2.1,Radio:=s13.2.2.2.1 }) ((IntKind.i64.wrap ((((if 0 > a2 then 0 else a2):Int).tmod ((a0.Links.length:Nat):Int))+s13.2.2.2.2):Int).tmod ((a0.Links.length:Nat):Int)) 0 x20) fun x21 =>
 bd (impl_TreeWorld_told_m ({ x21 with Links:=x2.Links,Down:=x2.Down }) ((IntKind.i64.wrap ((((if 0 > a2 then 0 else a2):Int).tmod ((a0.Links.length:Nat):Int))+s13.2.2.2.2):Int).tmod ((a0.Links.length:Nat):Int)) 1) fun x22 =>
 bd (impl_TreeWorld_hear_r05_k03_04_05_m ({ x21 with Links:=x2.Links,Down:=x2.Down }) ((IntKind.i64.wrap ((((if 0 > a2 then 0 else a2):Int).tmod ((a0.Links.length:Nat):Int))+s13.2.2.2.2):Int).tmod ((a0.Links.length:Nat):Int)) 1 x22) fun x23 =>
 some (.inl (x23.Bridges,x23.AtA,x23.AtB,x23.Radio,IntKind.i64.wrap (s13.2.2.2.2+1)))
else
 some (.inl (s13.1,s13.2.1,s13.2.2.1,s13.2.2.2.1,IntKind.i64.wrap (s13.2.2.2.2+1))))
else
 some (.inr (s13.1.length,s13.2.1.length,s13.2.2.1.length,s13.2.2.2.1.length,s13.1,s13.2.1,s13.2.2.1,s13.2.2.2.1)))) (x10.2.2.2.2.1,x10.2.2.2.2.2.1,x10.2.2.2.2.2.2.1,x10.2.2.2.2.2.2.2,0)) fun x16 =>
 bd (impl_TreeWorld_tick_r05_k04_m ({ x2 with Bridges:=x16.2.2.2.2.1,AtA:=x16.2.2.2.2.2.1,AtB:=x16.2.2.2.2.2.2.1,Radio:=x16.2.2.2.2.2.2.2 })) fun x25 =>
 some (.inl (x25.Bridges,x25.AtA,x25.AtB,x25.Radio,IntKind.i64.wrap (s3.2.2.2.2+1)))
else
 some (.inr (s3.1.length,s3.2.1.length,s3.2.2.1.length,s3.2.2.2.1.length,s3.1,s3.2.1,s3.2.2.1,s3.2.2.2.1)))) (x2.Bridges,x2.AtA,x2.AtB,x2.Radio,0)) fun x6 =>
 some ({ x2 with Bridges:=x6.2.2.2.2.1,AtA:=x6.2.2.2.2.2.1,AtB:=x6.2.2.2.2.2.2.1,Radio:=x6.2.2.2.2.2.2.2 }))
theorem impl_TreeCalm_c {a0:TreeWorld} {a1:Int} {a2:Int} {r:TreeWorld} (h:impl_TreeCalm_m a0 a1 a2=some r):EffC Tryz.prog 8 [.agg [.d (slD TreeBridge.enc a0.Bridges),.d (slD TreeLink.enc a0.Links),.d (slD encInt a0.Down),.d (slD TreeSlot.enc a0.AtA),.d (slD TreeSlot.enc a0.AtB),.d (slD TreeWord.enc a0.Radio)],.d (.int .i64 a1),.d (.int .i64 a2)] [] (.agg [.osl 5001 0 r.Bridges.length,.d (slD TreeLink.enc r.Links),.d (slD encInt r.Down),.osl 5002 0 r.AtA.length,.osl 5003 0 r.AtB.length,.osl 5004 0 r.Radio.length]) [(5001,.arr 42 6 r.Bridges.length (rows TreeBridge.enc r.Bridges)),(5002,.arr 83 4 r.AtA.length (rows TreeSlot.enc r.AtA)),(5003,.arr 83 4 r.AtB.length (rows TreeSlot.enc r.AtB)),(5004,.arr 76 5 r.Radio.length (rows TreeWord.enc r.Radio))]:=by
  refine effC_x tOk (fn:=Tryz.f8) (c:=codeOf Tryz.f8) rfl rfl ?_;unfold impl_TreeCalm_m at h;(conv=>whnf);refine seq_in tOk ?_;(conv=>whnf);obtain ⟨x1,hx1,h⟩:=bd_some h;refine cC 0 (impl_TreeWorldOk_c hx1) ?_;clear hx1;(conv=>whnf);refine andI h (fun _ h=>?_) (fun _ h=>?_)
  · (conv=>whnf);obtain rfl:=Option.some.inj h;exact lfE [.k [3],.p 5001 42 6 (rows TreeBridge.enc ([]:List TreeBridge)),.p 5002 83 4 (rows TreeSlot.enc ([]:List TreeSlot)),.p 5003 83 4 (rows TreeSlot.enc ([]:List TreeSlot)),.p 5004 76 5 (rows TreeWord.enc ([]:List TreeWord))]
  · (conv=>whnf);obtain ⟨x2,hx2,h⟩:=bd_some h;refine cE [] 1000 (impl_copyTree_o00_03_04_05_c hx2) ?_;(conv=>whnf);refine seq_in tOk ?_;(conv=>whnf);obtain ⟨x6,hx6,h⟩:=bd_some h;refine loop_m tOk hx6 (fun s3=>⟨0,56,[(2,.d (.int .i64 a2)),(6,.ref 6 0 0),(7,.ref 7 0 0),(8,.d (.int .i64 ((a0.Links.length:Nat):Int))),(22,.d (.int .i64 (if 60<(if 0 > a1 then 0 else a1) then 60 else (if 0 > a1 then 0 else a1)))),(23,.d (.int .i64 s3.2.2.2.2))],[],[(7,.box 29 [.osl 6001 0 s3.1.length,.d (slD TreeLink.enc x2.Links),.d (slD encInt x2.Down),.osl 6004 0 s3.2.1.length,.osl 6005 0 s3.2.2.1.length,.osl 6006 0 s3.2.2.2.1.length]),(6001,.arr 42 6 s3.1.length (rows TreeBridge.enc s3.1)),(6004,.arr 83 4 s3.2.1.length (rows TreeSlot.enc s3.2.1)),(6005,.arr 83 4 s3.2.2.1.length (rows TreeSlot.enc s3.2.2.1)),(6006,.arr 76 5 s3.2.2.2.1.length (rows TreeWord.enc s3.2.2.2.1)),(6,.box 29 [.d (.nil),.d (.nil),.d (.nil),.d (.nil),.d (.nil),.d (.nil)])],[⟨[],[]⟩]⟩) ?_ ?_
    · exact leX [.f [6002,6003]]
    · clear hx6;intro s3 y4 g5 hy4;(conv=>whnf);refine seq_in tOk ?_;(conv=>whnf);refine andI g5 (fun _ g5=>?_) (fun _ g5=>?_)
      · (conv=>whnf);refine seq_in tOk ?_;(conv=>whnf);refine seq_in tOk ?_;(conv=>whnf);obtain ⟨x10,hx10,g5⟩:=bd_some g5;refine loop_m tOk hx10 (fun s7=>⟨0,56,[(2,.d (.int .i64 a2)),(6,.ref 6 0 0),(7,.ref 7 0 0),(8,.d (.int .i64 ((a0.Links.length:Nat):Int))),(22,.d (.int .i64 (if 60<(if 0 > a1 then 0 else a1) then 60 else (if 0 > a1 then 0 else a1)))),(23,.d (.int .i64 s3.2.2.2.2))],[],[(7,.box 29 [.osl 6001 0 s7.1.length,.d (slD TreeLink.enc x2.Links),.d (slD encInt x2.Down),.osl 6004 0 s7.2.1.length,.osl 6005 0 s7.2.2.1.length,.osl 6006 0 s7.2.2.2.length]),(6001,.arr 42 6 s7.1.length (rows TreeBridge.enc s7.1)),(6004,.arr 83 4 s7.2.1.length (rows TreeSlot.enc s7.2.1)),(6005,.arr 83 4 s7.2.2.1.length (rows TreeSlot.enc s7.2.2.1)),(6006,.arr 76 5 s7.2.2.2.length (rows TreeWord.enc s7.2.2.2)),(6,.box 29 [.d (.nil),.d (.nil),.d (.nil),.d (.nil),.d (.nil),.d (.nil)])],[⟨[],[]⟩]⟩) ?_ ?_
        · exact leX []
        · clear hx10;intro s7 y8 g9 hy8;(conv=>whnf);refine seq_in tOk ?_;(conv=>whnf);refine andI g9 (fun _ g9=>?_) (fun _ g9=>?_)
          · (conv=>whnf);obtain ⟨x11,hx11,g9⟩:=bd_some g9;refine cE [(9000,7),(9001,6001),(9002,6004),(9003,6005),(9004,6006)] 2000 (impl_TreeWorld_onWord_k00_03_04_05_c hx11) ?_;(conv=>whnf);obtain rfl:=Option.some.inj g9;exact ⟨_,rfl,leX [.s [(6001,7001),(6004,7002),(6005,7003),(6006,7004),(7001,6001),(7002,6004),(7003,6005),(7004,6006)]]⟩
          · (conv=>whnf);obtain rfl:=Option.some.inj g9;obtain rfl:=hy8 _ rfl;refine seq_in tOk ?_;(conv=>whnf);obtain ⟨x16,hx16,g5⟩:=bd_some g5;refine loop_m tOk hx16 (fun s13=>⟨0,56,[(2,.d (.int .i64 a2)),(6,.ref 6 0 0),(7,.ref 7 0 0),(8,.d (.int .i64 ((a0.Links.length:Nat):Int))),(22,.d (.int .i64 (if 60<(if 0 > a1 then 0 else a1) then 60 else (if 0 > a1 then 0 else a1)))),(23,.d (.int .i64 s3.2.2.2.2)),(30,.d (.int .i64 ((a0.Links.length:Nat):Int))),(31,.d (.int .i64 s13.2.2.2.2))],[],[(7,.box 29 [.osl 6001 0 s13.1.length,.d (slD TreeLink.enc x2.Links),.d (slD encInt x2.Down),.osl 6004 0 s13.2.1.length,.osl 6005 0 s13.2.2.1.length,.osl 6006 0 s13.2.2.2.1.length]),(6001,.arr 42 6 s13.1.length (rows TreeBridge.enc s13.1)),(6004,.arr 83 4 s13.2.1.length (rows TreeSlot.enc s13.2.1)),(6005,.arr 83 4 s13.2.2.1.length (rows TreeSlot.enc s13.2.2.1)),(6006,.arr 76 5 s13.2.2.2.1.length (rows TreeWord.enc s13.2.2.2.1)),(6,.box 29 [.d (.nil),.d (.nil),.d (.nil),.d (.nil),.d (.nil),.d (.nil)])],[⟨[],[]⟩]⟩) ?_ ?_
            · exact leX []
            · clear hx16;intro s13 y14 g15 hy14;(conv=>whnf);refine seq_in tOk ?_;(conv=>whnf);refine andI g15 (fun _ g15=>?_) (fun _ g15=>?_)
              · (conv=>whnf);refine seq_in tOk ?_;(conv=>whnf);refine gdI g15 (fun g15=>?_);(conv=>whnf);refine gdI g15 (fun g15=>?_);(conv=>whnf);obtain ⟨x19,hx19,g15⟩:=bd_some g15;refine cC 0 (impl_TreeWorld_open_c hx19) ?_;clear hx19;(conv=>whnf);refine andI g15 (fun _ g15=>?_) (fun _ g15=>?_)
                · (conv=>whnf);obtain ⟨x20,hx20,g15⟩:=bd_some g15;refine cC 0 (impl_TreeWorld_told_c hx20) ?_;clear hx20;(conv=>whnf);obtain ⟨x21,hx21,g15⟩:=bd_some g15;refine cE [(9000,7),(9001,6001),(9002,6004),(9003,6005),(9004,6006)] 2000 (impl_TreeWorld_hear_r05_k03_04_05_c hx21) ?_;(conv=>whnf);obtain ⟨x22,hx22,g15⟩:=bd_some g15;refine cC 0 (impl_TreeWorld_told_c hx22) ?_;clear hx22;(conv=>whnf);obtain ⟨x23,hx23,g15⟩:=bd_some g15;refine cE [(9000,7),(9001,7001),(9002,7002),(9003,7003),(9004,7004)] 1000 (impl_TreeWorld_hear_r05_k03_04_05_c hx23) ?_;(conv=>whnf);obtain rfl:=Option.some.inj g15;exact ⟨_,rfl,leX [.s [(6002,6004),(6003,6005),(6004,6006),(6005,6003),(6006,6002)]]⟩
                · (conv=>whnf);obtain rfl:=Option.some.inj g15;exact ⟨_,rfl,leX []⟩
              · (conv=>whnf);obtain rfl:=Option.some.inj g15;obtain rfl:=hy14 _ rfl;obtain ⟨x25,hx25,g5⟩:=bd_some g5;refine cE [(9000,7),(9001,6001),(9002,6004),(9003,6005),(9004,6006)] 2000 (impl_TreeWorld_tick_r05_k04_c hx25) ?_;(conv=>whnf);obtain rfl:=Option.some.inj g5;exact ⟨_,rfl,leX [.s [(6001,7001),(6004,7002),(6005,7003),(6006,7004),(7001,6001),(7002,6004),(7003,6005),(7004,6006)]]⟩
      · (conv=>whnf);obtain rfl:=Option.some.inj g5;obtain rfl:=hy4 _ rfl;obtain rfl:=Option.some.inj h;exact lfE [.s [(5001,6001),(5002,6004),(5003,6005),(5004,6006),(6001,5001),(6004,5002),(6005,5003),(6006,5004)]]
noncomputable def impl_TreeWorld_lets_m (a0:TreeWorld) (a1:Int) (a2:Int):Option (Bool) :=
 bd (impl_TreeWorld_bridgeAt_m a0 a1 a2) fun x1 =>
 gd ((0:Int)≤x1∧x1<((a0.Bridges.length:Nat):Int)) <|
 bd (impl_TreeWorld_bridgeAt_m a0 a1 (IntKind.i64.wrap (1 - a2))) fun x3 =>
 gd ((0:Int)≤x3∧x3<((a0.Bridges.length:Nat):Int)) <|
 bd (impl_TreeWorld_slot_m a0 a1 a2) fun x5 =>
 bd (gcall (((((a0.Bridges.getD x1.toNat default).Mind).Link) == a1)=false) (impl_TreeVector_nothing_m x5.Vector)) fun x6 =>
(if (((((a0.Bridges.getD x1.toNat default).Mind).Link) == a1) || x6)=true then
 some true
else
 bd (impl_TreeVector_compare_m (((a0.Bridges.getD x1.toNat default).Mind).Vector) x5.Vector) fun x7 =>
 some ((decide (x7<0)) || ((x7 == 0) && (decide (((a0.Bridges.getD x1.toNat default).Id)<((a0.Bridges.getD x3.toNat default).Id))))))
theorem impl_TreeWorld_lets_c {a0:TreeWorld} {a1:Int} {a2:Int} {r:Bool} (h:impl_TreeWorld_lets_m a0 a1 a2=some r):PureC Tryz.prog 57 [.rp [slD TreeBridge.enc a0.Bridges,slD TreeLink.enc a0.Links,slD encInt a0.Down,slD TreeSlot.enc a0.AtA,slD TreeSlot.enc a0.AtB,slD TreeWord.enc a0.Radio],.d (.int .i64 a1),.d (.int .i64 a2)] (.d (.bool r)) []:=by
  refine pureC_x tOk (fn:=Tryz.f57) (c:=codeOf Tryz.f57) rfl rfl ?_;unfold impl_TreeWorld_lets_m at h;(conv=>whnf);obtain ⟨x1,hx1,h⟩:=bd_some h;obtain ⟨g2,h⟩:=gd_some h;obtain ⟨x3,hx3,h⟩:=bd_some h;obtain ⟨g4,h⟩:=gd_some h;refine draw_t tOk [.u 7 0 (.d (.int .i64 x1)) [],.u 18 0 (.d (.int .i64 x3)) [],.a 21 [] (.ref 7 0 0) [(7,.box 42 [.d (.int .i64 0),.d (.bool false),.d (.int .i64 0),.d (.int .i64 0),.d (.int .i64 0),.d (.int .i64 0)])],.a 22 [] (.ref 8 0 0) [(8,.box 42 [.d (.int .i64 0),.d (.bool false),.d (.int .i64 0),.d (.int .i64 0),.d (.int .i64 0),.d (.int .i64 0)])],.a 23 [(7,.box 42 [.d (.int .i64 0),.d (.bool false),.d (.int .i64 0),.d (.int .i64 0),.d (.int .i64 0),.d (.int .i64 0)])] (.any) [(7,.box 42 [.d (.int .i64 ((a0.Bridges.getD x1.toNat default).Id)),.d (.bool ((a0.Bridges.getD x1.toNat default).Up)),.d (.int .i64 ((((a0.Bridges.getD x1.toNat default).Mind).Vector).Root)),.d (.int .i64 ((((a0.Bridges.getD x1.toNat default).Mind).Vector).Cost)),.d (.int .i64 ((((a0.Bridges.getD x1.toNat default).Mind).Vector).Age)),.d (.int .i64 (((a0.Bridges.getD x1.toNat default).Mind).Link))])],.a 24 [(8,.box 42 [.d (.int .i64 0),.d (.bool false),.d (.int .i64 0),.d (.int .i64 0),.d (.int .i64 0),.d (.int .i64 0)])] (.any) [(8,.box 42 [.d (.int .i64 ((a0.Bridges.getD x3.toNat default).Id)),.d (.bool ((a0.Bridges.getD x3.toNat default).Up)),.d (.int .i64 ((((a0.Bridges.getD x3.toNat default).Mind).Vector).Root)),.d (.int .i64 ((((a0.Bridges.getD x3.toNat default).Mind).Vector).Cost)),.d (.int .i64 ((((a0.Bridges.getD x3.toNat default).Mind).Vector).Age)),.d (.int .i64 (((a0.Bridges.getD x3.toNat default).Mind).Link))])]] 25 [] [0,1,3,7,0,0,0,112,255,511,0,1024,3072,7168,0,0,0,65536,246000,523504,1047792,0,0,6800383,16777215] [] [] ?_;(conv=>whnf);refine And.intro (callD_any (impl_TreeWorld_bridgeAt_c hx1) (by kernel_rfl)) ?_;(conv=>whnf);refine And.intro g2 ?_;clear g2;(conv=>whnf);refine And.intro (callD_any (impl_TreeWorld_bridgeAt_c hx3) (by kernel_rfl)) ?_;(conv=>whnf);refine And.intro g4 ?_;clear g4;(conv=>whnf);refine And.intro (by (conv=>whnf); exact ⟨rfl,rfl⟩) ?_;(conv=>whnf);refine And.intro (by (conv=>whnf); exact ⟨rfl,rfl⟩) ?_;(conv=>whnf);refine And.intro (by (conv=>whnf); exact ⟨rfl,rfl⟩) ?_;(conv=>whnf);refine And.intro (by (conv=>whnf); exact ⟨rfl,rfl⟩) ?_;(conv=>whnf);refine And.intro (by kernel_rfl) ?_;(conv=>whnf);obtain ⟨x5,hx5,h⟩:=bd_some h;refine cE [] 0 (impl_TreeWorld_slot_c hx5) ?_;(conv=>whnf);refine seq_in tOk ?_;(conv=>whnf);obtain ⟨x6,hx6,h⟩:=bd_some h;refine cG (fun c0=>impl_TreeVector_nothing_c (gcall_some hx6 c0)) ?_;(conv=>whnf);refine andI h (fun _ h=>?_) (fun _ h=>?_)
  · (conv=>whnf);obtain rfl:=Option.some.inj h;exact lfP []
  · (conv=>whnf);obtain ⟨x7,hx7,h⟩:=bd_some h;refine cC 0 (impl_TreeVector_compare_c hx7) ?_;clear hx7;(conv=>whnf);obtain rfl:=Option.some.inj h;exact lfP []
noncomputable def impl_TreeWorld_passes_m (a0:TreeWorld):Option ((List Int)) :=
 bd (lp (σ:=List Int × Int) (β:=(Nat × (List Int))) (fun s1 =>
(if (decide (s1.2<((a0.Links.length:Nat):Int)))=true then
 bd (impl_TreeWorld_open_m a0 s1.2) fun x5 =>
 bd (gcall (x5=true) (impl_TreeWorld_lets_m a0 s1.2 0)) fun x6 =>
 bd (gcall ((x5 && x6)=true) (impl_TreeWorld_lets_m a0 s1.2 1)) fun x7 =>
(if ((x5 && x6) && x7)=true then
 gd (((s1.1.length)+(([s1.2]:List Int).length))*(8+1)≤70368744177664) <|
 some (.inl ((s1.1 ++ ([s1.2]:List Int)),IntKind.i64.wrap (s1.2+1)))
else
 some (.inl (s1.1,IntKind.i64.wrap (s1.2+1))))
else
 some (.inr (s1.1.length,s1.1)))) (([]:List Int),0)) fun x4 =>
 some x4.2
theorem impl_TreeWorld_passes_c {a0:TreeWorld} {r:(List Int)} (h:impl_TreeWorld_passes_m a0=some r):PureC Tryz.prog 26 [.rp [slD TreeBridge.enc a0.Bridges,slD TreeLink.enc a0.Links,slD encInt a0.Down,slD TreeSlot.enc a0.AtA,slD TreeSlot.enc a0.AtB,slD TreeWord.enc a0.Radio]] (.osl 5001 0 r.length) [⟨5001,3,1,r.length,rows encInt r⟩]:=by
  refine pureC_x tOk (fn:=Tryz.f26) (c:=codeOf Tryz.f26) rfl rfl ?_;unfold impl_TreeWorld_passes_m at h;(conv=>whnf);refine seq_in tOk ?_;(conv=>whnf);obtain ⟨x4,hx4,h⟩:=bd_some h;refine loop_m tOk hx4 (fun s1=>⟨0,33,[(0,.rp [slD TreeBridge.enc a0.Bridges,slD TreeLink.enc a0.Links,slD encInt a0.Down,slD TreeSlot.enc a0.AtA,slD TreeSlot.enc a0.AtB,slD TreeWord.enc a0.Radio]),(3,.osl 7001 0 s1.1.length),(10,.d (.int .i64 ((a0.Links.length:Nat):Int))),(11,.d (.int .i64 s1.2))],[],[(7001,.arr 3 1 s1.1.length (rows encInt s1.1))],[]⟩) ?_ ?_
  · exact leX [.p 7001 3 1 (rows encInt ([]:List Int))]
  · clear hx4;intro s1 y2 g3 hy2;(conv=>whnf);refine seq_in tOk ?_;(conv=>whnf);refine andI g3 (fun _ g3=>?_) (fun _ g3=>?_)
    · (conv=>whnf);refine seq_in tOk ?_;(conv=>whnf);obtain ⟨x5,hx5,g3⟩:=bd_some g3;refine cC 0 (impl_TreeWorld_open_c hx5) ?_;clear hx5;(conv=>whnf);obtain ⟨x6,hx6,g3⟩:=bd_some g3;refine cG (fun c0=>impl_TreeWorld_lets_c (gcall_some hx6 c0)) ?_;(conv=>whnf);obtain ⟨x7,hx7,g3⟩:=bd_some g3;refine cG (fun c0=>impl_TreeWorld_lets_c (gcall_some hx7 c0)) ?_;(conv=>whnf);refine andI g3 (fun _ g3=>?_) (fun _ g3=>?_)
      · (conv=>whnf);refine bldS (enc:=encInt) ([s1.2]:List Int) ?_;(conv=>whnf);refine gdI g3 (fun g3=>?_);refine appS (enc:=encInt) (xs:=s1.1) (ys:=([s1.2]:List Int)) ?_;(conv=>whnf);obtain rfl:=Option.some.inj g3;exact ⟨_,rfl,leX []⟩
      · (conv=>whnf);obtain rfl:=Option.some.inj g3;exact ⟨_,rfl,leX []⟩
    · (conv=>whnf);obtain rfl:=Option.some.inj g3;obtain rfl:=hy2 _ rfl;obtain rfl:=Option.some.inj h;exact lfP [.s [(5001,7001),(7001,5001)]]
noncomputable def impl_TreePasses_m (a0:TreeWorld):Option ((List Int)) :=
 bd (impl_TreeWorldOk_m a0) fun x1 =>
(if (!x1)=true then
 some []
else
 bd (impl_TreeWorld_passes_m a0) fun x2 =>
 some x2)
theorem impl_TreePasses_c {a0:TreeWorld} {r:(List Int)} (h:impl_TreePasses_m a0=some r):PureC Tryz.prog 10 [.agg [.d (slD TreeBridge.enc a0.Bridges),.d (slD TreeLink.enc a0.Links),.d (slD encInt a0.Down),.d (slD TreeSlot.enc a0.AtA),.d (slD TreeSlot.enc a0.AtB),.d (slD TreeWord.enc a0.Radio)]] (.osl 5001 0 r.length) [⟨5001,3,1,r.length,rows encInt r⟩]:=by
  refine pureC_x tOk (fn:=Tryz.f10) (c:=codeOf Tryz.f10) rfl rfl ?_;unfold impl_TreePasses_m at h;(conv=>whnf);refine seq_in tOk ?_;(conv=>whnf);obtain ⟨x1,hx1,h⟩:=bd_some h;refine cC 0 (impl_TreeWorldOk_c hx1) ?_;clear hx1;(conv=>whnf);refine andI h (fun _ h=>?_) (fun _ h=>?_)
  · (conv=>whnf);obtain rfl:=Option.some.inj h;exact lfP [.k [1],.p 5001 3 1 (rows encInt ([]:List Int))]
  · (conv=>whnf);obtain ⟨x2,hx2,h⟩:=bd_some h;refine cC 1000 (impl_TreeWorld_passes_c hx2) ?_;clear hx2;(conv=>whnf);obtain rfl:=Option.some.inj h;exact lfP [.s [(5001,6001),(6001,5001)]]
noncomputable def laws_wtInts_m (a0:(List Int)) (a1:(List Int)):Option (Bool) :=
(if (((a0.length:Nat):Int) != ((a1.length:Nat):Int))=true then
 some false
else
 bd (lp (σ:=Int) (β:=(Unit ⊕ Unit)) (fun s1 =>
(if (decide (s1<((a0.length:Nat):Int)))=true then
 gd ((0:Int)≤s1∧s1<((a0.length:Nat):Int)) <|
 gd ((0:Int)≤s1∧s1<((a1.length:Nat):Int)) <|
(if ((a0.getD s1.toNat default) != (a1.getD s1.toNat default))=true then
 some (.inr (.inl ()))
else
 some (.inl (IntKind.i64.wrap (s1+1))))
else
 some (.inr (.inr ())))) 0) fun x4 =>
(match x4 with
| .inl d7 =>
 some false
| .inr d8 =>
 some true))
theorem laws_wtInts_c {a0:(List Int)} {a1:(List Int)} {r:Bool} (h:laws_wtInts_m a0 a1=some r):PureC Tryz.prog 9 [.d (slD encInt a0),.d (slD encInt a1)] (.d (.bool r)) []:=by
  refine pureC_x tOk (fn:=Tryz.f9) (c:=codeOf Tryz.f9) rfl rfl ?_;unfold laws_wtInts_m at h;(conv=>whnf);refine seq_in tOk ?_;(conv=>whnf);refine andI h (fun _ h=>?_) (fun _ h=>?_)
  · (conv=>whnf);obtain rfl:=Option.some.inj h;exact lfP []
  · (conv=>whnf);refine seq_in tOk ?_;(conv=>whnf);obtain ⟨x4,hx4,h⟩:=bd_some h;refine loop_m tOk hx4 (fun s1=>⟨0,26,[(0,.d (slD encInt a0)),(1,.d (slD encInt a1)),(5,.d (.int .i64 s1))],[],[],[]⟩) ?_ ?_
    · exact leX []
    · clear hx4;intro s1 y2 g3 hy2;(conv=>whnf);refine seq_in tOk ?_;(conv=>whnf);refine andI g3 (fun _ g3=>?_) (fun _ g3=>?_)
      · (conv=>whnf);refine seq_in tOk ?_;(conv=>whnf);obtain ⟨g5,g3⟩:=gd_some g3;obtain ⟨g6,g3⟩:=gd_some g3;refine draw_u tOk [] 9 [] [0,0,3,7,0,0,48,112,255] [] ?_;(conv=>whnf);refine And.intro g5 ?_;clear g5;(conv=>whnf);refine And.intro g6 ?_;clear g6;(conv=>whnf);refine And.intro (by kernel_rfl) ?_;(conv=>whnf);refine andI g3 (fun _ g3=>?_) (fun _ g3=>?_)
        · (conv=>whnf);obtain rfl:=Option.some.inj g3;obtain rfl:=hy2 _ rfl;obtain rfl:=Option.some.inj h;exact lfP []
        · (conv=>whnf);obtain rfl:=Option.some.inj g3;exact ⟨_,rfl,leX []⟩
      · (conv=>whnf);obtain rfl:=Option.some.inj g3;obtain rfl:=hy2 _ rfl;obtain rfl:=Option.some.inj h;exact lfP []
noncomputable def impl_TreeWorld_root_m (a0:TreeWorld) (a1:Int):Option (Int) :=
 gd ((0:Int)≤((a0.Bridges.length:Nat):Int)∧((a0.Bridges.length:Nat):Int)≤((a0.Bridges.length:Nat):Int)∧((a0.Bridges.length:Nat):Int)*1≤140737488355328∧((a0.Bridges.length:Nat):Int)≤140737488355328) <|
 gd ((0:Int)≤a1∧a1<(((List.replicate (((a0.Bridges.length:Nat):Int):Int).toNat (default:Bool)).length:Nat):Int)) <|
 bd (some ((List.replicate (((a0.Bridges.length:Nat):Int):Int).toNat (default:Bool)).set a1.toNat true)) fun x2 =>
 bd (lp (σ:=List Bool × Int) (β:=(Nat × (List Bool))) (fun s3 =>
(if (decide (s3.2<((a0.Bridges.length:Nat):Int)))=true then
 bd (lp (σ:=List Bool × Int) (β:=(Nat × (List Bool))) (fun s7 =>
(if (decide (s7.2<((a0.Links.length:Nat):Int)))=true then
 gd ((0:Int)≤s7.2∧s7.2<((a0.Links.length:Nat):Int)) <|
 bd (impl_TreeWorld_open_m a0 s7.2) fun x12 =>
 gd (x12=true→((0:Int)≤(a0.Links.getD s7.2.toNat default).A∧(a0.Links.getD s7.2.toNat default).A<((s7.1.length:Nat):Int))) <|
 gd ((s7.1.getD (((a0.Links.getD s7.2.toNat default).A).toNat) default)=false→(x12=true→((0:Int)≤(a0.Links.getD s7.2.toNat default).B∧(a0.Links.getD s7.2.toNat default).B<((s7.1.length:Nat):Int)))) <|
(if (x12 && ((s7.1.getD (((a0.Links.getD s7.2.toNat default).A).toNat) default) || (s7.1.getD (((a0.Links.getD s7.2.toNat default).B).toNat) default)))=true then
 gd ((0:Int)≤(a0.Links.getD s7.2.toNat default).A∧(a0.Links.getD s7.2.toNat default).A<((s7.1.length:Nat):Int)) <|
 bd (some (s7.1.set (((a0.Links.getD s7.2.toNat default).A).toNat) true)) fun x16 =>
 gd ((0:Int)≤(a0.Links.getD s7.2.toNat default).B∧(a0.Links.getD s7.2.toNat default).B<((s7.1.length:Nat):Int)) <|
 bd (some (x16.set (((a0.Links.getD s7.2.toNat default).B).toNat) true)) fun x18 =>
 some (.inl (x18,IntKind.i64.wrap (s7.2+1)))
else
 some (.inl (s7.1,IntKind.i64.wrap (s7.2+1))))
else
 some (.inr (s7.1.length,s7.1)))) (s3.1,0)) fun x10 =>
 some (.inl (x10.2,IntKind.i64.wrap (s3.2+1)))
else
 some (.inr (s3.1.length,s3.1)))) (x2,0)) fun x6 =>
 bd (lp (σ:=Int × Int) (β:=(Int)) (fun s21 =>
(if (decide (s21.1<((x6.1:Nat):Int)))=true then
 gd ((0:Int)≤s21.1∧s21.1<((x6.1:Nat):Int)) <|
 gd ((x6.2.getD s21.1.toNat default)=true→((0:Int)≤s21.1∧s21.1<((a0.Bridges.length:Nat):Int))) <|
 gd ((x6.2.getD s21.1.toNat default)=true→((0:Int)≤s21.2∧s21.2<((a0.Bridges.length:Nat):Int))) <|
(if ((x6.2.getD s21.1.toNat default) && (decide (((a0.Bridges.getD s21.1.toNat default).Id)<((a0.Bridges.getD s21.2.toNat default).Id))))=true then
 some (.inl (IntKind.i64.wrap (s21.1+1),s21.1))
else
 some (.inl (IntKind.i64.wrap (s21.1+1),s21.2)))
else
 some (.inr s21.2))) (0,a1)) fun x24 =>
 some x24
theorem impl_TreeWorld_root_c {a0:TreeWorld} {a1:Int} {r:Int} (h:impl_TreeWorld_root_m a0 a1=some r):PureC Tryz.prog 78 [.rp [slD TreeBridge.enc a0.Bridges,slD TreeLink.enc a0.Links,slD encInt a0.Down,slD TreeSlot.enc a0.AtA,slD TreeSlot.enc a0.AtB,slD TreeWord.enc a0.Radio],.d (.int .i64 a1)] (.d (.int .i64 r)) []:=by
  refine pureC_x tOk (fn:=Tryz.f78) (c:=codeOf Tryz.f78) rfl rfl ?_;unfold impl_TreeWorld_root_m at h;(conv=>whnf);obtain ⟨g29,h⟩:=gd_some h;refine And.intro g29 ?_;clear g29;refine ⟨(List.replicate (((a0.Bridges.length:Nat):Int):Int).toNat (default:Bool)).length,rows encBool (List.replicate (((a0.Bridges.length:Nat):Int):Int).toNat (default:Bool)),by simp,make_rows rfl,?_⟩;(conv=>whnf);refine gdI h (fun h=>?_);(conv=>whnf);obtain ⟨x2,hx2,hlx2,h⟩:=bd_set h;have hlx2n:=hlx2
  try simp only [List.length_replicate,Int.toNat_natCast] at hlx2n
  refine setS (enc:=encBool) hx2 ?_;(conv=>whnf);refine seq_in tOk ?_;(conv=>whnf);obtain ⟨x6,hx6,h⟩:=bd_some h;refine loop_m tOk hx6 (fun s3=>⟨0,95,[(0,.rp [slD TreeBridge.enc a0.Bridges,slD TreeLink.enc a0.Links,slD encInt a0.Down,slD TreeSlot.enc a0.AtA,slD TreeSlot.enc a0.AtB,slD TreeWord.enc a0.Radio]),(1,.d (.int .i64 a1)),(5,.osl 16 0 s3.1.length),(24,.d (.int .i64 ((a0.Bridges.length:Nat):Int))),(25,.d (.int .i64 s3.2))],[],[(16,.arr 4 1 s3.1.length (rows encBool s3.1))],[]⟩) ?_ ?_
  · exact leX []
  · clear hx6;intro s3 y4 g5 hy4;(conv=>whnf);refine seq_in tOk ?_;(conv=>whnf);refine andI g5 (fun _ g5=>?_) (fun _ g5=>?_)
    · (conv=>whnf);refine seq_in tOk ?_;(conv=>whnf);obtain ⟨x10,hx10,g5⟩:=bd_some g5;refine loop_m tOk hx10 (fun s7=>⟨0,95,[(0,.rp [slD TreeBridge.enc a0.Bridges,slD TreeLink.enc a0.Links,slD encInt a0.Down,slD TreeSlot.enc a0.AtA,slD TreeSlot.enc a0.AtB,slD TreeWord.enc a0.Radio]),(1,.d (.int .i64 a1)),(5,.osl 16 0 s7.1.length),(24,.d (.int .i64 ((a0.Bridges.length:Nat):Int))),(25,.d (.int .i64 s3.2)),(30,.d (slD TreeLink.enc a0.Links)),(31,.d (.int .i64 ((a0.Links.length:Nat):Int))),(32,.d (.int .i64 s7.2))],[],[(16,.arr 4 1 s7.1.length (rows encBool s7.1))],[]⟩) ?_ ?_
      · exact leX []
      · clear hx10;intro s7 y8 g9 hy8;(conv=>whnf);refine seq_in tOk ?_;(conv=>whnf);refine andI g9 (fun _ g9=>?_) (fun _ g9=>?_)
        · (conv=>whnf);refine seq_in tOk ?_;(conv=>whnf);refine gdI g9 (fun g9=>?_);(conv=>whnf);obtain ⟨x12,hx12,g9⟩:=bd_some g9;refine cC 0 (impl_TreeWorld_open_c hx12) ?_;clear hx12;(conv=>whnf);refine gdI g9 (fun g9=>?_);(conv=>whnf);refine gdI g9 (fun g9=>?_);(conv=>whnf);refine andI g9 (fun _ g9=>?_) (fun _ g9=>?_)
          · (conv=>whnf);obtain ⟨g15,g9⟩:=gd_some g9;obtain ⟨x16,hx16,hlx16,g9⟩:=bd_set g9;obtain ⟨g17,g9⟩:=gd_some g9;obtain ⟨x18,hx18,hlx18,g9⟩:=bd_set g9;refine draw_t tOk [.l 6 [(16,.arr 4 1 s7.1.length (rows encBool s7.1))] (.ref 16 (((a0.Links.getD s7.2.toNat default).A).toNat) 0),.a 7 [(16,.arr 4 1 s7.1.length (rows encBool s7.1))] (.any) [(16,.arr 4 1 s7.1.length (rows encBool x16))],.l 8 [(16,.arr 4 1 s7.1.length (rows encBool x16))] (.ref 16 (((a0.Links.getD s7.2.toNat default).B).toNat) 0),.a 9 [(16,.arr 4 1 s7.1.length (rows encBool x16))] (.any) [(16,.arr 4 1 s7.1.length (rows encBool x18))]] 10 [] [0,0,2,0,0,16,7,71,255,511] [] [16] ?_;(conv=>whnf);refine And.intro (by (conv=>whnf); exact ⟨g15,rfl,rfl⟩) ?_;(conv=>whnf);refine And.intro (by (conv=>whnf); exact setS (enc:=encBool) hx16 ⟨rfl,rfl⟩) ?_;(conv=>whnf);refine And.intro (by (conv=>whnf); exact ⟨g17,rfl,rfl⟩) ?_;(conv=>whnf);refine And.intro (by (conv=>whnf); exact setS (enc:=encBool) hx18 ⟨rfl,rfl⟩) ?_;(conv=>whnf);refine And.intro (by kernel_rfl) ?_;(conv=>whnf);obtain rfl:=Option.some.inj g9;exact ⟨_,rfl,leX []⟩
          · (conv=>whnf);obtain rfl:=Option.some.inj g9;exact ⟨_,rfl,leX []⟩
        · (conv=>whnf);obtain rfl:=Option.some.inj g9;obtain rfl:=hy8 _ rfl;obtain rfl:=Option.some.inj g5;exact ⟨_,rfl,leX []⟩
    · (conv=>whnf);obtain rfl:=Option.some.inj g5;obtain rfl:=hy4 _ rfl;refine seq_in tOk ?_;(conv=>whnf);obtain ⟨x24,hx24,h⟩:=bd_some h;refine loop_m tOk hx24 (fun s21=>⟨0,95,[(0,.rp [slD TreeBridge.enc a0.Bridges,slD TreeLink.enc a0.Links,slD encInt a0.Down,slD TreeSlot.enc a0.AtA,slD TreeSlot.enc a0.AtB,slD TreeWord.enc a0.Radio]),(8,.d (.int .i64 s21.2)),(65,.osl 16 0 (s3.1.length,s3.1).1),(66,.d (.int .i64 (((s3.1.length,s3.1).1:Nat):Int))),(67,.d (.int .i64 s21.1))],[],[(16,.arr 4 1 (s3.1.length,s3.1).1 (rows encBool (s3.1.length,s3.1).2))],[]⟩) ?_ ?_
      · exact leX []
      · clear hx24;intro s21 y22 g23 hy22;(conv=>whnf);refine seq_in tOk ?_;(conv=>whnf);refine andI g23 (fun _ g23=>?_) (fun _ g23=>?_)
        · (conv=>whnf);refine seq_in tOk ?_;(conv=>whnf);refine gdI g23 (fun g23=>?_);(conv=>whnf);obtain ⟨g26,g23⟩:=gd_some g23;obtain ⟨g27,g23⟩:=gd_some g23;refine draw_u tOk [] 20 [] [0,1,3,7,15,31,3,127,255,511,3,1027,3075,7171,3,31747,64515,130051,262143,524287] [] ?_;(conv=>whnf);refine And.intro g26 ?_;clear g26;(conv=>whnf);refine And.intro g27 ?_;clear g27;(conv=>whnf);refine And.intro (by kernel_rfl) ?_;(conv=>whnf);refine andI g23 (fun _ g23=>?_) (fun _ g23=>?_)
          · (conv=>whnf);obtain rfl:=Option.some.inj g23;exact ⟨_,rfl,leX []⟩
          · (conv=>whnf);obtain rfl:=Option.some.inj g23;exact ⟨_,rfl,leX []⟩
        · (conv=>whnf);obtain rfl:=Option.some.inj g23;obtain rfl:=hy22 _ rfl;obtain rfl:=Option.some.inj h;exact lfP []
noncomputable def impl_TreeWorld_costs_m (a0:TreeWorld) (a1:Int):Option ((List Int)) :=
 gd ((0:Int)≤((a0.Bridges.length:Nat):Int)∧((a0.Bridges.length:Nat):Int)≤((a0.Bridges.length:Nat):Int)∧((a0.Bridges.length:Nat):Int)*8≤140737488355328∧((a0.Bridges.length:Nat):Int)≤140737488355328) <|
 bd (lp (σ:=List Int × Int) (β:=(Nat × (List Int))) (fun s1 =>
(if (decide (s1.2<(((List.replicate (((a0.Bridges.length:Nat):Int):Int).toNat (default:Int)).length:Nat):Int)))=true then
 gd ((0:Int)≤s1.2∧s1.2<((s1.1.length:Nat):Int)) <|
 some (.inl (s1.1.set s1.2.toNat 1073741824,IntKind.i64.wrap (s1.2+1)))
else
 some (.inr (s1.1.length,s1.1)))) ((List.replicate (((a0.Bridges.length:Nat):Int):Int).toNat (default:Int)),0)) fun x4 =>
 gd ((0:Int)≤a1∧a1<((x4.1:Nat):Int)) <|
 bd (lp (σ:=List Int × Int) (β:=(Nat × (List Int))) (fun s8 =>
(if (decide (s8.2<((a0.Bridges.length:Nat):Int)))=true then
 bd (lp (σ:=List Int × Int) (β:=(Nat × (List Int))) (fun s12 =>
(if (decide (s12.2<((a0.Links.length:Nat):Int)))=true then
 gd ((0:Int)≤s12.2∧s12.2<((a0.Links.length:Nat):Int)) <|
 bd (impl_TreeWorld_open_m a0 s12.2) fun x17 =>
(if x17=true then
 gd ((0:Int)≤(a0.Links.getD s12.2.toNat default).A∧(a0.Links.getD s12.2.toNat default).A<((s12.1.length:Nat):Int)) <|
 gd ((0:Int)≤(a0.Links.getD s12.2.toNat default).B∧(a0.Links.getD s12.2.toNat default).B<((s12.1.length:Nat):Int)) <|
 gd ((0:Int)≤(a0.Links.getD s12.2.toNat default).A∧(a0.Links.getD s12.2.toNat default).A<((s12.1.length:Nat):Int)) <|
 bd (some (s12.1.set (((a0.Links.getD s12.2.toNat default).A).toNat) (if (IntKind.i64.wrap ((s12.1.getD (((a0.Links.getD s12.2.toNat default).B).toNat) default)+((a0.Links.getD s12.2.toNat default).Cost)))<(s12.1.getD (((a0.Links.getD s12.2.toNat default).A).toNat) default) then IntKind.i64.wrap ((s12.1.getD (((a0.Links.getD s12.2.toNat default).B).toNat) default)+((a0.Links.getD s12.2.toNat default).Cost)) else (s12.1.getD (((a0.Links.getD s12.2.toNat default).A).toNat) default)))) fun x21 =>
 gd ((0:Int)≤(a0.Links.getD s12.2.toNat default).B∧(a0.Links.getD s12.2.toNat default).B<((s12.1.length:Nat):Int)) <|
 gd ((0:Int)≤(a0.Links.getD s12.2.toNat default).A∧(a0.Links.getD s12.2.toNat default).A<((s12.1.length:Nat):Int)) <|
 gd ((0:Int)≤(a0.Links.getD s12.2.toNat default).B∧(a0.Links.getD s12.2.toNat default).B<((s12.1.length:Nat):Int)) <|
 bd (some (x21.set (((a0.Links.getD s12.2.toNat default).B).toNat) (if (IntKind.i64.wrap ((x21.getD (((a0.Links.getD s12.2.toNat default).A).toNat) default)+((a0.Links.getD s12.2.toNat default).Cost)))<(x21.getD (((a0.Links.getD s12.2.toNat default).B).toNat) default) then IntKind.i64.wrap ((x21.getD (((a0.Links.getD s12.2.toNat default).A).toNat) default)+((a0.Links.getD s12.2.toNat default).Cost)) else (x21.getD (((a0.Links.getD s12.2.toNat default).B).toNat) default)))) fun x25 =>
 some (.inl (x25,IntKind.i64.wrap (s12.2+1)))
else
 some (.inl (s12.1,IntKind.i64.wrap (s12.2+1))))
else
 some (.inr (s12.1.length,s12.1)))) (s8.1,0)) fun x15 =>
 some (.inl (x15.2,IntKind.i64.wrap (s8.2+1)))
else
 some (.inr (s8.1.length,s8.1)))) (x4.2.set a1.toNat 0,0)) fun x11 =>
 some x11.2
theorem impl_TreeWorld_costs_c {a0:TreeWorld} {a1:Int} {r:(List Int)} (h:impl_TreeWorld_costs_m a0 a1=some r):PureC Tryz.prog 79 [.rp [slD TreeBridge.enc a0.Bridges,slD TreeLink.enc a0.Links,slD encInt a0.Down,slD TreeSlot.enc a0.AtA,slD TreeSlot.enc a0.AtB,slD TreeWord.enc a0.Radio],.d (.int .i64 a1)] (.osl 5001 0 r.length) [⟨5001,3,1,r.length,rows encInt r⟩]:=by
  refine pureC_x tOk (fn:=Tryz.f79) (c:=codeOf Tryz.f79) rfl rfl ?_;unfold impl_TreeWorld_costs_m at h;(conv=>whnf);obtain ⟨g28,h⟩:=gd_some h;refine And.intro g28 ?_;clear g28;refine ⟨(List.replicate (((a0.Bridges.length:Nat):Int):Int).toNat (default:Int)).length,rows encInt (List.replicate (((a0.Bridges.length:Nat):Int):Int).toNat (default:Int)),by simp,make_rows rfl,?_⟩;(conv=>whnf);refine seq_in tOk ?_;(conv=>whnf);obtain ⟨x4,hx4,h⟩:=bd_some h;refine loop_m tOk hx4 (fun s1=>⟨0,86,[(0,.rp [slD TreeBridge.enc a0.Bridges,slD TreeLink.enc a0.Links,slD encInt a0.Down,slD TreeSlot.enc a0.AtA,slD TreeSlot.enc a0.AtB,slD TreeWord.enc a0.Radio]),(1,.d (.int .i64 a1)),(5,.osl 14 0 s1.1.length),(16,.d (.int .i64 (((List.replicate (((a0.Bridges.length:Nat):Int):Int).toNat (default:Int)).length:Nat):Int))),(17,.d (.int .i64 s1.2))],[],[(14,.arr 3 1 s1.1.length (rows encInt s1.1))],[]⟩) ?_ ?_
  · exact leX []
  · clear hx4;intro s1 y2 g3 hy2;(conv=>whnf);refine seq_in tOk ?_;(conv=>whnf);refine andI g3 (fun _ g3=>?_) (fun _ g3=>?_)
    · (conv=>whnf);refine seq_in tOk ?_;(conv=>whnf);refine gdI g3 (fun g3=>?_);(conv=>whnf);refine ⟨rows encInt (s1.1.set s1.2.toNat 1073741824),store_rows' lenA rfl,?_⟩;(conv=>whnf);obtain rfl:=Option.some.inj g3;exact ⟨_,rfl,leX []⟩
    · (conv=>whnf);obtain rfl:=Option.some.inj g3;obtain rfl:=hy2 _ rfl;refine gdI h (fun h=>?_);(conv=>whnf);refine ⟨rows encInt ((s1.1.length,s1.1).2.set a1.toNat 0),store_rows' lenA rfl,?_⟩;(conv=>whnf);refine seq_in tOk ?_;(conv=>whnf);obtain ⟨x11,hx11,h⟩:=bd_some h;refine loop_m tOk hx11 (fun s8=>⟨0,86,[(0,.rp [slD TreeBridge.enc a0.Bridges,slD TreeLink.enc a0.Links,slD encInt a0.Down,slD TreeSlot.enc a0.AtA,slD TreeSlot.enc a0.AtB,slD TreeWord.enc a0.Radio]),(5,.osl 14 0 s8.1.length),(31,.d (.int .i64 ((a0.Bridges.length:Nat):Int))),(32,.d (.int .i64 s8.2))],[],[(14,.arr 3 1 s8.1.length (rows encInt s8.1))],[]⟩) ?_ ?_
      · exact leX []
      · clear hx11;intro s8 y9 g10 hy9;(conv=>whnf);refine seq_in tOk ?_;(conv=>whnf);refine andI g10 (fun _ g10=>?_) (fun _ g10=>?_)
        · (conv=>whnf);refine seq_in tOk ?_;(conv=>whnf);obtain ⟨x15,hx15,g10⟩:=bd_some g10;refine loop_m tOk hx15 (fun s12=>⟨0,86,[(0,.rp [slD TreeBridge.enc a0.Bridges,slD TreeLink.enc a0.Links,slD encInt a0.Down,slD TreeSlot.enc a0.AtA,slD TreeSlot.enc a0.AtB,slD TreeWord.enc a0.Radio]),(5,.osl 14 0 s12.1.length),(31,.d (.int .i64 ((a0.Bridges.length:Nat):Int))),(32,.d (.int .i64 s8.2)),(37,.d (slD TreeLink.enc a0.Links)),(38,.d (.int .i64 ((a0.Links.length:Nat):Int))),(39,.d (.int .i64 s12.2))],[],[(14,.arr 3 1 s12.1.length (rows encInt s12.1))],[]⟩) ?_ ?_
          · exact leX []
          · clear hx15;intro s12 y13 g14 hy13;(conv=>whnf);refine seq_in tOk ?_;(conv=>whnf);refine andI g14 (fun _ g14=>?_) (fun _ g14=>?_)
            · (conv=>whnf);refine seq_in tOk ?_;(conv=>whnf);refine gdI g14 (fun g14=>?_);(conv=>whnf);obtain ⟨x17,hx17,g14⟩:=bd_some g14;refine cC 0 (impl_TreeWorld_open_c hx17) ?_;clear hx17;(conv=>whnf);refine andI g14 (fun _ g14=>?_) (fun _ g14=>?_)
              · (conv=>whnf);obtain ⟨g18,g14⟩:=gd_some g14;obtain ⟨g19,g14⟩:=gd_some g14;obtain ⟨g20,g14⟩:=gd_some g14;refine draw_u tOk [] 18 [] [0,0,2,0,0,16,56,120,0,0,512,1792,3840,0,8192,32512,65528,131071] [262143] ?_;(conv=>whnf);refine And.intro g18 ?_;clear g18;(conv=>whnf);refine And.intro g19 ?_;clear g19;(conv=>whnf);refine And.intro g20 ?_;clear g20;(conv=>whnf);refine And.intro (by kernel_rfl) ?_;(conv=>whnf);obtain ⟨x21,hx21,hlx21,g14⟩:=bd_set g14;refine setS (enc:=encInt) hx21 ?_;(conv=>whnf);obtain ⟨g22,g14⟩:=gd_some g14;obtain ⟨g23,g14⟩:=gd_some g14;obtain ⟨g24,g14⟩:=gd_some g14;refine draw_u tOk [] 18 [] [0,0,2,0,0,16,56,120,0,0,512,1792,3840,0,8192,32512,65528,131071] [262143] ?_;(conv=>whnf);refine And.intro g22 ?_;clear g22;(conv=>whnf);refine And.intro g23 ?_;clear g23;(conv=>whnf);refine And.intro g24 ?_;clear g24;(conv=>whnf);refine And.intro (by kernel_rfl) ?_;(conv=>whnf);obtain ⟨x25,hx25,hlx25,g14⟩:=bd_set g14;refine setS (enc:=encInt) hx25 ?_;(conv=>whnf);obtain rfl:=Option.some.inj g14;exact ⟨_,rfl,leX []⟩
              · (conv=>whnf);obtain rfl:=Option.some.inj g14;exact ⟨_,rfl,leX []⟩
            · (conv=>whnf);obtain rfl:=Option.some.inj g14;obtain rfl:=hy13 _ rfl;obtain rfl:=Option.some.inj g10;exact ⟨_,rfl,leX []⟩
        · (conv=>whnf);obtain rfl:=Option.some.inj g10;obtain rfl:=hy9 _ rfl;obtain rfl:=Option.some.inj h;exact lfP [.s [(14,5001),(5001,14)]]
noncomputable def impl_TreeWorld_uplink_m (a0:TreeWorld) (a1:Int) (a2:(List Int)):Option (Int × Int) :=
 bd (lp (σ:=Int × Int × Int) (β:=(Int × Int)) (fun s1 =>
(if (decide (s1.1<((a0.Links.length:Nat):Int)))=true then
 gd ((0:Int)≤s1.1∧s1.1<((a0.Links.length:Nat):Int)) <|
 bd (lp (σ:=Int × Int × Int) (β:=(Int × Int)) (fun s6 =>
(if (decide (s6.1<2))=true then
 bd (impl_TreeWorld_bridgeAt_m a0 s1.1 (IntKind.i64.wrap (1 - s6.1))) fun x10 =>
 bd (impl_TreeWorld_open_m a0 s1.1) fun x11 =>
 bd (gcall ((!x11)=false) (impl_TreeWorld_bridgeAt_m a0 s1.1 s6.1)) fun x12 =>
 gd (((!x11) || (x12 != a1))=false→((0:Int)≤x10∧x10<((a2.length:Nat):Int))) <|
 gd (((!x11) || (x12 != a1))=false→((0:Int)≤a1∧a1<((a2.length:Nat):Int))) <|
(if (((!x11) || (x12 != a1)) || ((IntKind.i64.wrap ((a2.getD x10.toNat default)+((a0.Links.getD s1.1.toNat default).Cost))) != (a2.getD a1.toNat default)))=true then
 some (.inl (IntKind.i64.wrap (s6.1+1),s6.2.1,s6.2.2))
else
 gd ((decide (s6.2.1<0))=false→((0:Int)≤x10∧x10<((a0.Bridges.length:Nat):Int))) <|
 gd ((decide (s6.2.1<0))=false→((0:Int)≤s6.2.2∧s6.2.2<((a0.Bridges.length:Nat):Int))) <|
(if ((decide (s6.2.1<0)) || (decide (((a0.Bridges.getD x10.toNat default).Id)<((a0.Bridges.getD s6.2.2.toNat default).Id))))=true then
 some (.inl (IntKind.i64.wrap (s6.1+1),s1.1,x10))
else
 some (.inl (IntKind.i64.wrap (s6.1+1),s6.2.1,s6.2.2))))
else
 some (.inr (s6.2.1,s6.2.2)))) (0,s1.2.1,s1.2.2)) fun x9 =>
 some (.inl (IntKind.i64.wrap (s1.1+1),x9.1,x9.2))
else
 some (.inr (s1.2.1,s1.2.2)))) (0,-1,-1)) fun x4 =>
 some (x4.1,x4.2)
theorem impl_TreeWorld_uplink_c {a0:TreeWorld} {a1:Int} {a2:(List Int)} {r:Int × Int} (h:impl_TreeWorld_uplink_m a0 a1 a2=some r):PureC Tryz.prog 80 [.rp [slD TreeBridge.enc a0.Bridges,slD TreeLink.enc a0.Links,slD encInt a0.Down,slD TreeSlot.enc a0.AtA,slD TreeSlot.enc a0.AtB,slD TreeWord.enc a0.Radio],.d (.int .i64 a1),.d (slD encInt a2)] (.tup [.d (.int .i64 r.1),.d (.int .i64 r.2)]) []:=by
  refine pureC_x tOk (fn:=Tryz.f80) (c:=codeOf Tryz.f80) rfl rfl ?_;unfold impl_TreeWorld_uplink_m at h;(conv=>whnf);refine seq_in tOk ?_;(conv=>whnf);obtain ⟨x4,hx4,h⟩:=bd_some h;refine loop_m tOk hx4 (fun s1=>⟨0,85,[(0,.rp [slD TreeBridge.enc a0.Bridges,slD TreeLink.enc a0.Links,slD encInt a0.Down,slD TreeSlot.enc a0.AtA,slD TreeSlot.enc a0.AtB,slD TreeWord.enc a0.Radio]),(1,.d (.int .i64 a1)),(2,.d (slD encInt a2)),(8,.d (.int .i64 s1.2.1)),(9,.d (.int .i64 s1.2.2)),(17,.d (slD TreeLink.enc a0.Links)),(18,.d (.int .i64 ((a0.Links.length:Nat):Int))),(19,.d (.int .i64 s1.1))],[],[],[]⟩) ?_ ?_
  · exact leX []
  · clear hx4;intro s1 y2 g3 hy2;(conv=>whnf);refine seq_in tOk ?_;(conv=>whnf);refine andI g3 (fun _ g3=>?_) (fun _ g3=>?_)
    · (conv=>whnf);refine seq_in tOk ?_;(conv=>whnf);refine gdI g3 (fun g3=>?_);(conv=>whnf);obtain ⟨x9,hx9,g3⟩:=bd_some g3;refine loop_m tOk hx9 (fun s6=>⟨0,85,[(0,.rp [slD TreeBridge.enc a0.Bridges,slD TreeLink.enc a0.Links,slD encInt a0.Down,slD TreeSlot.enc a0.AtA,slD TreeSlot.enc a0.AtB,slD TreeWord.enc a0.Radio]),(1,.d (.int .i64 a1)),(2,.d (slD encInt a2)),(8,.d (.int .i64 s6.2.1)),(9,.d (.int .i64 s6.2.2)),(10,.d (.int .i64 s1.1)),(11,.ref 11 0 0),(17,.d (slD TreeLink.enc a0.Links)),(18,.d (.int .i64 ((a0.Links.length:Nat):Int))),(19,.d (.int .i64 s1.1)),(24,.d (.int .i64 s6.1))],[],[(11,.box 53 [.d (.int .i64 ((a0.Links.getD s1.1.toNat default).A)),.d (.int .i64 ((a0.Links.getD s1.1.toNat default).B)),.d (.int .i64 ((a0.Links.getD s1.1.toNat default).Cost))])],[]⟩) ?_ ?_
      · exact leX []
      · clear hx9;intro s6 y7 g8 hy7;(conv=>whnf);refine seq_in tOk ?_;(conv=>whnf);refine andI g8 (fun _ g8=>?_) (fun _ g8=>?_)
        · (conv=>whnf);refine seq_in tOk ?_;(conv=>whnf);obtain ⟨x10,hx10,g8⟩:=bd_some g8;refine cC 0 (impl_TreeWorld_bridgeAt_c hx10) ?_;clear hx10;(conv=>whnf);refine seq_in tOk ?_;(conv=>whnf);obtain ⟨x11,hx11,g8⟩:=bd_some g8;obtain ⟨x12,hx12,g8⟩:=bd_some g8;obtain ⟨g13,g8⟩:=gd_some g8;obtain ⟨g14,g8⟩:=gd_some g8;refine draw_u tOk [.u 2 0 (.d (.bool x11)) [],.u 8 0 (.d (.int .i64 x12)) []] 26 [] [0,0,3,7,15,31,31,31,255,31,1023,2047,4095,8191,8191,32767,65535,8191,139263,524287,8191,8191,3153919,7348223,16777215,33554431] [] ?_;(conv=>whnf);refine And.intro (callD_any (impl_TreeWorld_open_c hx11) (by kernel_rfl)) ?_;(conv=>whnf);refine And.intro (callDG_if rfl rfl rfl rfl (by intro c0; exact impl_TreeWorld_bridgeAt_c (gcall_some hx12 c0))) ?_;(conv=>whnf);refine And.intro g13 ?_;clear g13;(conv=>whnf);refine And.intro g14 ?_;clear g14;(conv=>whnf);refine And.intro (by kernel_rfl) ?_;(conv=>whnf);refine andI g8 (fun _ g8=>?_) (fun _ g8=>?_)
          · (conv=>whnf);obtain rfl:=Option.some.inj g8;exact ⟨_,rfl,leX []⟩
          · (conv=>whnf);obtain ⟨g15,g8⟩:=gd_some g8;obtain ⟨g16,g8⟩:=gd_some g8;refine draw_u tOk [] 21 [] [0,1,3,7,15,31,63,7,255,511,1023,7,2055,6151,14343,7,63495,129031,260103,524287,1048575] [] ?_;(conv=>whnf);refine And.intro g15 ?_;clear g15;(conv=>whnf);refine And.intro g16 ?_;clear g16;(conv=>whnf);refine And.intro (by kernel_rfl) ?_;(conv=>whnf);refine andI g8 (fun _ g8=>?_) (fun _ g8=>?_)
            · (conv=>whnf);obtain rfl:=Option.some.inj g8;exact ⟨_,rfl,leX []⟩
            · (conv=>whnf);obtain rfl:=Option.some.inj g8;exact ⟨_,rfl,leX []⟩
        · (conv=>whnf);obtain rfl:=Option.some.inj g8;obtain rfl:=hy7 _ rfl;obtain rfl:=Option.some.inj g3;exact ⟨_,rfl,leX []⟩
    · (conv=>whnf);obtain rfl:=Option.some.inj g3;obtain rfl:=hy2 _ rfl;obtain rfl:=Option.some.inj h;exact lfP []
noncomputable def impl_TreeWorld_best_m (a0:TreeWorld) (a1:Int):Option (TreeMind) :=
 bd (impl_TreeWorld_root_m a0 a1) fun x1 =>
 bd (impl_TreeWorld_costs_m a0 x1) fun x2 =>
 gd ((0:Int)≤x1∧x1<((a0.Bridges.length:Nat):Int)) <|
 gd ((0:Int)≤a1∧a1<((x2.length:Nat):Int)) <|
 bd (lp (σ:=Int × Int × Int) (β:=(Int × Int)) (fun s5 =>
(if (s5.2.2 != x1)=true then
 bd (impl_TreeWorld_uplink_m a0 s5.2.2 x2) fun x9 =>
(if (s5.2.2 == a1)=true then
 some (.inl (IntKind.i64.wrap (s5.1+1),x9.1,x9.2))
else
 some (.inl (IntKind.i64.wrap (s5.1+1),s5.2.1,x9.2)))
else
 some (.inr (s5.1,s5.2.1)))) (0,-1,a1)) fun x8 =>
 some (⟨(⟨(a0.Bridges.getD x1.toNat default).Id,(x2.getD a1.toNat default),x8.1⟩:TreeVector),x8.2⟩:TreeMind)
theorem impl_TreeWorld_best_c {a0:TreeWorld} {a1:Int} {r:TreeMind} (h:impl_TreeWorld_best_m a0 a1=some r):PureC Tryz.prog 58 [.rp [slD TreeBridge.enc a0.Bridges,slD TreeLink.enc a0.Links,slD encInt a0.Down,slD TreeSlot.enc a0.AtA,slD TreeSlot.enc a0.AtB,slD TreeWord.enc a0.Radio],.d (.int .i64 a1)] (.agg [.d (.int .i64 r.Vector.Root),.d (.int .i64 r.Vector.Cost),.d (.int .i64 r.Vector.Age),.d (.int .i64 r.Link)]) []:=by
  refine pureC_x tOk (fn:=Tryz.f58) (c:=codeOf Tryz.f58) rfl rfl ?_;unfold impl_TreeWorld_best_m at h;(conv=>whnf);obtain ⟨x1,hx1,h⟩:=bd_some h;refine cC 0 (impl_TreeWorld_root_c hx1) ?_;clear hx1;(conv=>whnf);obtain ⟨x2,hx2,h⟩:=bd_some h;refine cC 1000 (impl_TreeWorld_costs_c hx2) ?_;clear hx2;(conv=>whnf);obtain ⟨g3,h⟩:=gd_some h;obtain ⟨g4,h⟩:=gd_some h;refine draw_u tOk [] 15 [] [0,1,3,7,0,31,63,127,0,0,768,1792,4095,8191,0] [32767] ?_;(conv=>whnf);refine And.intro g3 ?_;clear g3;(conv=>whnf);refine And.intro g4 ?_;clear g4;(conv=>whnf);refine And.intro (by kernel_rfl) ?_;(conv=>whnf);refine seq_in tOk ?_;(conv=>whnf);obtain ⟨x8,hx8,h⟩:=bd_some h;refine loop_m tOk hx8 (fun s5=>⟨0,55,[(0,.rp [slD TreeBridge.enc a0.Bridges,slD TreeLink.enc a0.Links,slD encInt a0.Down,slD TreeSlot.enc a0.AtA,slD TreeSlot.enc a0.AtB,slD TreeWord.enc a0.Radio]),(1,.d (.int .i64 a1)),(4,.ref 4 0 0),(5,.d (.int .i64 x1)),(6,.osl 6001 0 x2.length),(7,.ref 7 0 0),(8,.d (.int .i64 s5.2.2))],[],[(7,.box 40 [.d (.int .i64 ((a0.Bridges.getD x1.toNat default).Id)),.d (.int .i64 (x2.getD a1.toNat default)),.d (.int .i64 s5.1),.d (.int .i64 s5.2.1)]),(6001,.arr 3 1 x2.length (rows encInt x2)),(4,.box 40 [.d (.int .i64 0),.d (.int .i64 0),.d (.int .i64 0),.d (.int .i64 0)])],[]⟩) ?_ ?_
  · exact leX []
  · clear hx8;intro s5 y6 g7 hy6;(conv=>whnf);refine seq_in tOk ?_;(conv=>whnf);refine andI g7 (fun _ g7=>?_) (fun _ g7=>?_)
    · (conv=>whnf);obtain ⟨x9,hx9,g7⟩:=bd_some g7;refine cC 0 (impl_TreeWorld_uplink_c hx9) ?_;clear hx9;(conv=>whnf);refine seq_in tOk ?_;(conv=>whnf);refine andI g7 (fun _ g7=>?_) (fun _ g7=>?_)
      · (conv=>whnf);obtain rfl:=Option.some.inj g7;exact ⟨_,rfl,leX []⟩
      · (conv=>whnf);obtain rfl:=Option.some.inj g7;exact ⟨_,rfl,leX []⟩
    · (conv=>whnf);obtain rfl:=Option.some.inj g7;obtain rfl:=hy6 _ rfl;obtain rfl:=Option.some.inj h;exact lfP []
noncomputable def impl_TreeWorld_bests_m (a0:TreeWorld):Option ((List TreeMind)) :=
 bd (lp (σ:=List TreeMind × Int) (β:=(Nat × (List TreeMind))) (fun s1 =>
(if (decide (s1.2<((a0.Bridges.length:Nat):Int)))=true then
 gd ((0:Int)≤s1.2∧s1.2<((a0.Bridges.length:Nat):Int)) <|
(if (a0.Bridges.getD s1.2.toNat default).Up=true then
 bd (impl_TreeWorld_best_m a0 s1.2) fun x6 =>
 gd (((s1.1.length)+(([x6]:List TreeMind).length))*(32+1)≤70368744177664) <|
 some (.inl ((s1.1 ++ ([x6]:List TreeMind)),IntKind.i64.wrap (s1.2+1)))
else
 gd (((s1.1.length)+(([(⟨(⟨0,0,0⟩:TreeVector),0⟩:TreeMind)]:List TreeMind).length))*(32+1)≤70368744177664) <|
 some (.inl ((s1.1 ++ ([(⟨(⟨0,0,0⟩:TreeVector),0⟩:TreeMind)]:List TreeMind)),IntKind.i64.wrap (s1.2+1))))
else
 some (.inr (s1.1.length,s1.1)))) (([]:List TreeMind),0)) fun x4 =>
 some x4.2
theorem impl_TreeWorld_bests_c {a0:TreeWorld} {r:(List TreeMind)} (h:impl_TreeWorld_bests_m a0=some r):PureC Tryz.prog 28 [.rp [slD TreeBridge.enc a0.Bridges,slD TreeLink.enc a0.Links,slD encInt a0.Down,slD TreeSlot.enc a0.AtA,slD TreeSlot.enc a0.AtB,slD TreeWord.enc a0.Radio]] (.osl 5001 0 r.length) [⟨5001,40,4,r.length,rows TreeMind.enc r⟩]:=by
  refine pureC_x tOk (fn:=Tryz.f28) (c:=codeOf Tryz.f28) rfl rfl ?_;unfold impl_TreeWorld_bests_m at h;(conv=>whnf);refine seq_in tOk ?_;(conv=>whnf);obtain ⟨x4,hx4,h⟩:=bd_some h;refine loop_m tOk hx4 (fun s1=>⟨0,30,[(0,.rp [slD TreeBridge.enc a0.Bridges,slD TreeLink.enc a0.Links,slD encInt a0.Down,slD TreeSlot.enc a0.AtA,slD TreeSlot.enc a0.AtB,slD TreeWord.enc a0.Radio]),(3,.osl 7001 0 s1.1.length),(11,.d (slD TreeBridge.enc a0.Bridges)),(12,.d (.int .i64 ((a0.Bridges.length:Nat):Int))),(13,.d (.int .i64 s1.2))],[],[(7001,.arr 40 4 s1.1.length (rows TreeMind.enc s1.1))],[]⟩) ?_ ?_
  · exact leX [.p 7001 40 4 (rows TreeMind.enc ([]:List TreeMind))]
  · clear hx4;intro s1 y2 g3 hy2;(conv=>whnf);refine seq_in tOk ?_;(conv=>whnf);refine andI g3 (fun _ g3=>?_) (fun _ g3=>?_)
    · (conv=>whnf);refine seq_in tOk ?_;(conv=>whnf);refine gdI g3 (fun g3=>?_);(conv=>whnf);refine seq_in tOk ?_;(conv=>whnf);refine andI g3 (fun _ g3=>?_) (fun _ g3=>?_)
      · (conv=>whnf);obtain ⟨x6,hx6,g3⟩:=bd_some g3;refine cC 0 (impl_TreeWorld_best_c hx6) ?_;clear hx6;(conv=>whnf);refine bldS (enc:=TreeMind.enc) ([x6]:List TreeMind) ?_;(conv=>whnf);refine gdI g3 (fun g3=>?_);refine appS (enc:=TreeMind.enc) (xs:=s1.1) (ys:=([x6]:List TreeMind)) ?_;(conv=>whnf);obtain rfl:=Option.some.inj g3;exact ⟨_,rfl,leX []⟩
      · (conv=>whnf);refine bldS (enc:=TreeMind.enc) ([(⟨(⟨0,0,0⟩:TreeVector),0⟩:TreeMind)]:List TreeMind) ?_;(conv=>whnf);refine gdI g3 (fun g3=>?_);refine appS (enc:=TreeMind.enc) (xs:=s1.1) (ys:=([(⟨(⟨0,0,0⟩:TreeVector),0⟩:TreeMind)]:List TreeMind)) ?_;(conv=>whnf);obtain rfl:=Option.some.inj g3;exact ⟨_,rfl,leX []⟩
    · (conv=>whnf);obtain rfl:=Option.some.inj g3;obtain rfl:=hy2 _ rfl;obtain rfl:=Option.some.inj h;exact lfP [.s [(5001,7001),(7001,5001)]]
noncomputable def impl_TreeRight_1_m (a0:TreeBridge) (a1:TreeMind):Option (Bool) :=
 some (((a0.Mind.Vector.Root == a1.Vector.Root) && ((a0.Mind.Vector.Cost == a1.Vector.Cost) && ((a0.Mind.Vector.Age == a1.Vector.Age) && true))) && ((a0.Mind.Link == a1.Link) && true))
theorem impl_TreeRight_1_c {a0:TreeBridge} {a1:TreeMind} {r:Bool} (h:impl_TreeRight_1_m a0 a1=some r):PureC Tryz.prog 29 [.agg [.d (.int .i64 a0.Id),.d (.bool a0.Up),.d (.int .i64 a0.Mind.Vector.Root),.d (.int .i64 a0.Mind.Vector.Cost),.d (.int .i64 a0.Mind.Vector.Age),.d (.int .i64 a0.Mind.Link)],.agg [.d (.int .i64 a1.Vector.Root),.d (.int .i64 a1.Vector.Cost),.d (.int .i64 a1.Vector.Age),.d (.int .i64 a1.Link)]] (.d (.bool r)) []:=by
  refine pureC_x tOk (fn:=Tryz.f29) (c:=codeOf Tryz.f29) rfl rfl ?_;unfold impl_TreeRight_1_m at h;(conv=>whnf);obtain rfl:=Option.some.inj h;exact lfP []
noncomputable def slices_EqualFunc_TreeBridge_TreeMind_TreeBridge_TreeMind_impl_TreeRight_1_m (a0:(List TreeBridge)) (a1:(List TreeMind)):Option (Bool) :=
(if (((a0.length:Nat):Int) != ((a1.length:Nat):Int))=true then
 some false
else
 bd (lp (σ:=Int) (β:=(Unit ⊕ Unit)) (fun s1 =>
(if (decide (s1<((a0.length:Nat):Int)))=true then
 gd ((0:Int)≤s1∧s1<((a0.length:Nat):Int)) <|
 gd ((0:Int)≤s1∧s1<((a1.length:Nat):Int)) <|
 bd (impl_TreeRight_1_m ({ (a0.getD s1.toNat default) with Mind:=(⟨(((a0.getD s1.toNat default).Mind).Vector),((a0.getD s1.toNat default).Mind).Link⟩:TreeMind) }) (⟨((a1.getD s1.toNat default).Vector),(a1.getD s1.toNat default).Link⟩:TreeMind)) fun x7 =>
(if (!x7)=true then
 some (.inr (.inl ()))
else
 some (.inl (IntKind.i64.wrap (s1+1))))
else
 some (.inr (.inr ())))) 0) fun x4 =>
(match x4 with
| .inl d8 =>
 some false
| .inr d9 =>
 some true))
theorem slices_EqualFunc_TreeBridge_TreeMind_TreeBridge_TreeMind_impl_TreeRight_1_c {a0:(List TreeBridge)} {a1:(List TreeMind)} {r:Bool} (h:slices_EqualFunc_TreeBridge_TreeMind_TreeBridge_TreeMind_impl_TreeRight_1_m a0 a1=some r):PureC Tryz.prog 27 [.d (slD TreeBridge.enc a0),.d (slD TreeMind.enc a1),.fn 29 []] (.d (.bool r)) []:=by
  refine pureC_x tOk (fn:=Tryz.f27) (c:=codeOf Tryz.f27) rfl rfl ?_;unfold slices_EqualFunc_TreeBridge_TreeMind_TreeBridge_TreeMind_impl_TreeRight_1_m at h;(conv=>whnf);refine seq_in tOk ?_;(conv=>whnf);refine andI h (fun _ h=>?_) (fun _ h=>?_)
  · (conv=>whnf);obtain rfl:=Option.some.inj h;exact lfP []
  · (conv=>whnf);refine seq_in tOk ?_;(conv=>whnf);obtain ⟨x4,hx4,h⟩:=bd_some h;refine loop_m tOk hx4 (fun s1=>⟨0,32,[(1,.d (slD TreeMind.enc a1)),(2,.fn 29 []),(15,.d (slD TreeBridge.enc a0)),(16,.d (.int .i64 ((a0.length:Nat):Int))),(17,.d (.int .i64 s1))],[],[],[]⟩) ?_ ?_
    · exact leX []
    · clear hx4;intro s1 y2 g3 hy2;(conv=>whnf);refine seq_in tOk ?_;(conv=>whnf);refine andI g3 (fun _ g3=>?_) (fun _ g3=>?_)
      · (conv=>whnf);refine seq_in tOk ?_;(conv=>whnf);refine gdI g3 (fun g3=>?_);(conv=>whnf);refine gdI g3 (fun g3=>?_);(conv=>whnf);obtain ⟨x7,hx7,g3⟩:=bd_some g3;refine cC 0 (impl_TreeRight_1_c hx7) ?_;clear hx7;(conv=>whnf);refine andI g3 (fun _ g3=>?_) (fun _ g3=>?_)
        · (conv=>whnf);obtain rfl:=Option.some.inj g3;obtain rfl:=hy2 _ rfl;obtain rfl:=Option.some.inj h;exact lfP []
        · (conv=>whnf);obtain rfl:=Option.some.inj g3;exact ⟨_,rfl,leX []⟩
      · (conv=>whnf);obtain rfl:=Option.some.inj g3;obtain rfl:=hy2 _ rfl;obtain rfl:=Option.some.inj h;exact lfP []
noncomputable def impl_TreeRight_m (a0:TreeWorld):Option (Bool) :=
 bd (impl_TreeWorldOk_m a0) fun x1 =>
(if (!x1)=true then
 some false
else
 bd (impl_TreeWorld_bests_m a0) fun x2 =>
 bd (slices_EqualFunc_TreeBridge_TreeMind_TreeBridge_TreeMind_impl_TreeRight_1_m a0.Bridges x2) fun x3 =>
 some x3)
theorem impl_TreeRight_c {a0:TreeWorld} {r:Bool} (h:impl_TreeRight_m a0=some r):PureC Tryz.prog 11 [.agg [.d (slD TreeBridge.enc a0.Bridges),.d (slD TreeLink.enc a0.Links),.d (slD encInt a0.Down),.d (slD TreeSlot.enc a0.AtA),.d (slD TreeSlot.enc a0.AtB),.d (slD TreeWord.enc a0.Radio)]] (.d (.bool r)) []:=by
  refine pureC_x tOk (fn:=Tryz.f11) (c:=codeOf Tryz.f11) rfl rfl ?_;unfold impl_TreeRight_m at h;(conv=>whnf);refine seq_in tOk ?_;(conv=>whnf);obtain ⟨x1,hx1,h⟩:=bd_some h;refine cC 0 (impl_TreeWorldOk_c hx1) ?_;clear hx1;(conv=>whnf);refine andI h (fun _ h=>?_) (fun _ h=>?_)
  · (conv=>whnf);obtain rfl:=Option.some.inj h;exact lfP []
  · (conv=>whnf);obtain ⟨x2,hx2,h⟩:=bd_some h;obtain ⟨x3,hx3,h⟩:=bd_some h;refine draw_u tOk [.u 2 1000 (.osl 5001 0 x2.length) [⟨5001,40,4,x2.length,rows TreeMind.enc x2⟩],.u 3 0 (.d (.bool x3)) []] 5 [] [0,1,0,7,15] [] ?_;(conv=>whnf);refine And.intro (callD_any (impl_TreeWorld_bests_c hx2) (by kernel_rfl)) ?_;(conv=>whnf);refine And.intro (callD_any (slices_EqualFunc_TreeBridge_TreeMind_TreeBridge_TreeMind_impl_TreeRight_1_c hx3) (by kernel_rfl)) ?_;(conv=>whnf);refine And.intro (by kernel_rfl) ?_;(conv=>whnf);obtain rfl:=Option.some.inj h;exact lfP []
noncomputable def laws_FnTreeSame_m (a0:(List Int)) (a1:(List Int)):Option (Bool) :=
(if ((decide (((a0.length:Nat):Int) > 1048576)) || (decide (((a1.length:Nat):Int) > 1048576)))=true then
 some true
else
 bd (spec_DrawTreeAny_m a0) fun x1 =>
 bd (laws_wtIds_m x1) fun x2 =>
 bd (impl_TreeOpenWorld_m x2 x1.Links) fun x3 =>
(if (!x3.2)=true then
 some false
else
 bd (lp (σ:=List TreeBridge × List TreeLink × List Int × List TreeSlot × List TreeSlot × List TreeWord × Int) (β:=((List TreeBridge) × (List TreeLink) × (List Int) × (List TreeSlot) × (List TreeSlot) × (List TreeWord))) (fun s4 =>
(if (decide (s4.2.2.2.2.2.2<((x1.Down.length:Nat):Int)))=true then
 gd ((0:Int)≤s4.2.2.2.2.2.2∧s4.2.2.2.2.2.2<((x1.Down.length:Nat):Int)) <|
 bd (impl_TreeStep_m (⟨s4.1,s4.2.1,s4.2.2.1,s4.2.2.2.1,s4.2.2.2.2.1,s4.2.2.2.2.2.1⟩:TreeWorld) (⟨8,(x1.Down.getD s4.2.2.2.2.2.2.toNat default),0⟩:TreeEvent)) fun x9 =>
 some (.inl (x9.Bridges,x9.Links,x9.Down,x9.AtA,x9.AtB,x9.Radio,IntKind.i64.wrap (s4.2.2.2.2.2.2+1)))
else
 some (.inr (s4.1,s4.2.1,s4.2.2.1,s4.2.2.2.1,s4.2.2.2.2.1,s4.2.2.2.2.2.1)))) (x3.1.Bridges,x3.1.Links,x3.1.Down,x3.1.AtA,x3.1.AtB,x3.1.Radio,0)) fun x7 =>
 bd (lp (σ:=List TreeBridge × List TreeLink × List Int × List TreeSlot × List TreeSlot × List TreeWord × Int) (β:=((List TreeBridge) × (List TreeLink) × (List Int) × (List TreeSlot) × (List TreeSlot) × (List TreeWord))) (fun s11 =>
(if (decide (s11.2.2.2.2.2.2<((x1.Bridges.length:Nat):Int)))=true then
 gd ((0:Int)≤s11.2.2.2.2.2.2∧s11.2.2.2.2.2.2<((x1.Bridges.length:Nat):Int)) <|
(if (!((x1.Bridges.getD s11.2.2.2.2.2.2.toNat default).Up))=true then
 bd (impl_TreeStep_m (⟨s11.1,s11.2.1,s11.2.2.1,s11.2.2.2.1,s11.2.2.2.2.1,s11.2.2.2.2.2.1⟩:TreeWorld) (⟨6,s11.2.2.2.2.2.2,0⟩:TreeEvent)) fun x16 =>
 some (.inl (x16.Bridges,x16.Links,x16.Down,x16.AtA,x16.AtB,x16.Radio,IntKind.i64.wrap (s11.2.2.2.2.2.2+1)))
else
 some (.inl (s11.1,s11.2.1,s11.2.2.1,s11.2.2.2.1,s11.2.2.2.2.1,s11.2.2.2.2.2.1,IntKind.i64.wrap (s11.2.2.2.2.2.2+1))))
else
 some (.inr (s11.1,s11.2.1,s11.2.2.1,s11.2.2.2.1,s11.2.2.2.2.1,s11.2.2.2.2.2.1)))) (x7.1,x7.2.1,x7.2.2.1,x7.2.2.2.1,x7.2.2.2.2.1,x7.2.2.2.2.2,0)) fun x14 =>
 gd ((12:Int) ≠ 0) <|
 bd (impl_TreeCalm_m x1 32 ((((a1.length:Nat):Int):Int).tmod 12)) fun x19 =>
 gd ((12:Int) ≠ 0) <|
 bd (impl_TreeCalm_m (⟨x14.1,x14.2.1,x14.2.2.1,x14.2.2.2.1,x14.2.2.2.2.1,x14.2.2.2.2.2⟩:TreeWorld) 32 ((((a0.length:Nat):Int):Int).tmod 12)) fun x21 =>
 bd (lp (σ:=Int) (β:=(Unit ⊕ Unit)) (fun s22 =>
(if (decide (s22<((x19.Bridges.length:Nat):Int)))=true then
 gd ((0:Int)≤s22∧s22<((x19.Bridges.length:Nat):Int)) <|
 gd ((0:Int)≤s22∧s22<((x21.Bridges.length:Nat):Int)) <|
(if (!(((((((x19.Bridges.getD s22.toNat default).Mind).Vector).Root) == ((((x21.Bridges.getD s22.toNat default).Mind).Vector).Root)) && ((((((x19.Bridges.getD s22.toNat default).Mind).Vector).Cost) == ((((x21.Bridges.getD s22.toNat default).Mind).Vector).Cost)) && ((((((x19.Bridges.getD s22.toNat default).Mind).Vector).Age) == ((((x21.Bridges.getD s22.toNat default).Mind).Vector).Age)) && true))) && (((((x19.Bridges.getD s22.toNat default).Mind).Link) == (((x21.Bridges.getD s22.toNat default).Mind).Link)) && true)))=true then
 some (.inr (.inl ()))
else
 some (.inl (IntKind.i64.wrap (s22+1))))
else
 some (.inr (.inr ())))) 0) fun x25 =>
(match x25 with
| .inl d28 =>
 some false
| .inr d29 =>
 bd (impl_TreePasses_m x19) fun x30 =>
 bd (impl_TreePasses_m x21) fun x31 =>
 bd (laws_wtInts_m x30 x31) fun x32 =>
 bd (gcall (x32=true) (impl_TreeRight_m x21)) fun x33 =>
 some (x32 && x33))))
theorem laws_FnTreeSame_c {a0:(List Int)} {a1:(List Int)} {r:Bool} (h:laws_FnTreeSame_m a0 a1=some r):PureC Tryz.prog 3 [.d (slD encByte a0),.d (slD encByte a1)] (.d (.bool r)) []:=by
  refine pureC_x tOk (fn:=Tryz.f3) (c:=codeOf Tryz.f3) rfl rfl ?_;unfold laws_FnTreeSame_m at h;(conv=>whnf);refine seq_in tOk ?_;(conv=>whnf);refine andI h (fun _ h=>?_) (fun _ h=>?_)
  · (conv=>whnf);obtain rfl:=Option.some.inj h;exact lfP []
  · (conv=>whnf);obtain ⟨x1,hx1,h⟩:=bd_some h;refine cE [] 1000 (spec_DrawTreeAny_c hx1) ?_;(conv=>whnf);obtain ⟨x2,hx2,h⟩:=bd_some h;obtain ⟨x3,hx3,h⟩:=bd_some h;refine draw_u tOk [.u 1 2000 (.osl 5001 0 x2.length) [⟨5001,3,1,x2.length,rows encInt x2⟩],.u 4 3000 (.tup [.agg [.osl 5001 0 x3.1.Bridges.length,.osl 5002 0 x3.1.Links.length,.osl 5003 0 x3.1.Down.length,.osl 5004 0 x3.1.AtA.length,.osl 5005 0 x3.1.AtB.length,.osl 5006 0 x3.1.Radio.length],.d (.bool x3.2)]) [⟨5001,42,6,x3.1.Bridges.length,rows TreeBridge.enc x3.1.Bridges⟩,⟨5002,53,3,x3.1.Links.length,rows TreeLink.enc x3.1.Links⟩,⟨5003,3,1,x3.1.Down.length,rows encInt x3.1.Down⟩,⟨5004,83,4,x3.1.AtA.length,rows TreeSlot.enc x3.1.AtA⟩,⟨5005,83,4,x3.1.AtB.length,rows TreeSlot.enc x3.1.AtB⟩,⟨5006,76,5,x3.1.Radio.length,rows TreeWord.enc x3.1.Radio⟩]] 9 [7] [0,1,0,4,15,31,63,63,0] [383,1023] ?_;(conv=>whnf);refine And.intro (callD_any (laws_wtIds_c hx2) (by kernel_rfl)) ?_;(conv=>whnf);refine And.intro (callD_any (impl_TreeOpenWorld_c hx3) (by kernel_rfl)) ?_;(conv=>whnf);refine And.intro (by kernel_rfl) ?_;(conv=>whnf);refine seq_in tOk ?_;(conv=>whnf);refine andI h (fun _ h=>?_) (fun _ h=>?_)
    · (conv=>whnf);obtain rfl:=Option.some.inj h;exact lfP []
    · (conv=>whnf);refine seq_in tOk ?_;(conv=>whnf);obtain ⟨x7,hx7,h⟩:=bd_some h;refine loop_m tOk hx7 (fun s4=>⟨0,103,[(0,.d (slD encByte a0)),(1,.d (slD encByte a1)),(5,.ref 5 0 0),(6,.ref 6 0 0),(8,.d (.int .i64 s4.2.2.2.2.2.2))],[],[(6,.box 29 [.d (slD TreeBridge.enc s4.1),.d (slD TreeLink.enc s4.2.1),.d (slD encInt s4.2.2.1),.d (slD TreeSlot.enc s4.2.2.2.1),.d (slD TreeSlot.enc s4.2.2.2.2.1),.d (slD TreeWord.enc s4.2.2.2.2.2.1)]),(5,.box 29 [.d (slD TreeBridge.enc x1.Bridges),.d (slD TreeLink.enc x1.Links),.d (slD encInt x1.Down),.d (slD TreeSlot.enc x1.AtA),.d (slD TreeSlot.enc x1.AtB),.osl 6001 0 x1.Radio.length]),(6001,.arr 76 5 x1.Radio.length (rows TreeWord.enc x1.Radio))],[]⟩) ?_ ?_
      · exact leX [.f [8001,8002,8003,8004,8005,8006]]
      · clear hx7;intro s4 y5 g6 hy5;(conv=>whnf);refine seq_in tOk ?_;(conv=>whnf);refine andI g6 (fun _ g6=>?_) (fun _ g6=>?_)
        · (conv=>whnf);refine seq_in tOk ?_;(conv=>whnf);obtain ⟨g8,g6⟩:=gd_some g6;obtain ⟨x9,hx9,g6⟩:=bd_some g6;refine draw_t tOk [.e 7 [] (.agg [.d (slD TreeBridge.enc x9.Bridges),.d (slD TreeLink.enc x9.Links),.d (slD encInt x9.Down),.d (slD TreeSlot.enc x9.AtA),.d (slD TreeSlot.enc x9.AtB),.d (slD TreeWord.enc x9.Radio)]) [] []] 8 [] [0,0,2,0,14,30,62,127] [255] [] ?_;(conv=>whnf);refine And.intro g8 ?_;clear g8;(conv=>whnf);refine And.intro (eD [] 0 (impl_TreeStep_c hx9)) ?_;(conv=>whnf);refine And.intro (by kernel_rfl) ?_;(conv=>whnf);obtain rfl:=Option.some.inj g6;exact ⟨_,rfl,leX []⟩
        · (conv=>whnf);obtain rfl:=Option.some.inj g6;obtain rfl:=hy5 _ rfl;refine seq_in tOk ?_;(conv=>whnf);obtain ⟨x14,hx14,h⟩:=bd_some h;refine loop_m tOk hx14 (fun s11=>⟨0,103,[(0,.d (slD encByte a0)),(1,.d (slD encByte a1)),(5,.ref 5 0 0),(6,.ref 6 0 0),(9,.d (.int .i64 s11.2.2.2.2.2.2))],[],[(6,.box 29 [.d (slD TreeBridge.enc s11.1),.d (slD TreeLink.enc s11.2.1),.d (slD encInt s11.2.2.1),.d (slD TreeSlot.enc s11.2.2.2.1),.d (slD TreeSlot.enc s11.2.2.2.2.1),.d (slD TreeWord.enc s11.2.2.2.2.2.1)]),(5,.box 29 [.d (slD TreeBridge.enc x1.Bridges),.d (slD TreeLink.enc x1.Links),.d (slD encInt x1.Down),.d (slD TreeSlot.enc x1.AtA),.d (slD TreeSlot.enc x1.AtB),.osl 6001 0 x1.Radio.length]),(6001,.arr 76 5 x1.Radio.length (rows TreeWord.enc x1.Radio))],[]⟩) ?_ ?_
          · exact leX []
          · clear hx14;intro s11 y12 g13 hy12;(conv=>whnf);refine seq_in tOk ?_;(conv=>whnf);refine andI g13 (fun _ g13=>?_) (fun _ g13=>?_)
            · (conv=>whnf);refine seq_in tOk ?_;(conv=>whnf);refine gdI g13 (fun g13=>?_);(conv=>whnf);refine andI g13 (fun _ g13=>?_) (fun _ g13=>?_)
              · (conv=>whnf);obtain ⟨x16,hx16,g13⟩:=bd_some g13;refine cE [] 0 (impl_TreeStep_c hx16) ?_;(conv=>whnf);obtain rfl:=Option.some.inj g13;exact ⟨_,rfl,leX []⟩
              · (conv=>whnf);obtain rfl:=Option.some.inj g13;exact ⟨_,rfl,leX []⟩
            · (conv=>whnf);obtain rfl:=Option.some.inj g13;obtain rfl:=hy12 _ rfl;refine gdI h (fun h=>?_);(conv=>whnf);obtain ⟨x19,hx19,h⟩:=bd_some h;refine callFz [6001] ?_;(conv=>whnf);refine cE [] 1000 (impl_TreeCalm_c hx19) ?_;(conv=>whnf);refine gdI h (fun h=>?_);(conv=>whnf);obtain ⟨x21,hx21,h⟩:=bd_some h;refine cE [] 2000 (impl_TreeCalm_c hx21) ?_;(conv=>whnf);refine seq_in tOk ?_;(conv=>whnf);obtain ⟨x25,hx25,h⟩:=bd_some h;refine loop_m tOk hx25 (fun s22=>⟨0,103,[(5,.ref 5 0 0),(6,.ref 6 0 0),(10,.d (.int .i64 s22))],[],[(7001,.arr 42 6 x21.Bridges.length (rows TreeBridge.enc x21.Bridges)),(7002,.arr 83 4 x21.AtA.length (rows TreeSlot.enc x21.AtA)),(7003,.arr 83 4 x21.AtB.length (rows TreeSlot.enc x21.AtB)),(7004,.arr 76 5 x21.Radio.length (rows TreeWord.enc x21.Radio)),(6001,.arr 42 6 x19.Bridges.length (rows TreeBridge.enc x19.Bridges)),(6002,.arr 83 4 x19.AtA.length (rows TreeSlot.enc x19.AtA)),(6003,.arr 83 4 x19.AtB.length (rows TreeSlot.enc x19.AtB)),(6004,.arr 76 5 x19.Radio.length (rows TreeWord.enc x19.Radio)),(6,.box 29 [.osl 7001 0 x21.Bridges.length,.d (slD TreeLink.enc x21.Links),.d (slD encInt x21.Down),.osl 7002 0 x21.AtA.length,.osl 7003 0 x21.AtB.length,.osl 7004 0 x21.Radio.length]),(5,.box 29 [.osl 6001 0 x19.Bridges.length,.d (slD TreeLink.enc x19.Links),.d (slD encInt x19.Down),.osl 6002 0 x19.AtA.length,.osl 6003 0 x19.AtB.length,.osl 6004 0 x19.Radio.length])],[]⟩) ?_ ?_
              · exact leX []
              · clear hx25;intro s22 y23 g24 hy23;(conv=>whnf);refine seq_in tOk ?_;(conv=>whnf);refine andI g24 (fun _ g24=>?_) (fun _ g24=>?_)
                · (conv=>whnf);refine seq_in tOk ?_;(conv=>whnf);obtain ⟨g26,g24⟩:=gd_some g24;obtain ⟨g27,g24⟩:=gd_some g24;refine draw_u tOk [] 13 [] [0,1,0,7,15,31,0,64,0,448,960,1984,4095] [] ?_;(conv=>whnf);refine And.intro g26 ?_;clear g26;(conv=>whnf);refine And.intro g27 ?_;clear g27;(conv=>whnf);refine And.intro (by kernel_rfl) ?_;(conv=>whnf);refine andI g24 (fun _ g24=>?_) (fun _ g24=>?_)
                  · (conv=>whnf);obtain rfl:=Option.some.inj g24;obtain rfl:=hy23 _ rfl;obtain rfl:=Option.some.inj h;exact lfP []
                  · (conv=>whnf);obtain rfl:=Option.some.inj g24;exact ⟨_,rfl,leX []⟩
                · (conv=>whnf);obtain rfl:=Option.some.inj g24;obtain rfl:=hy23 _ rfl;obtain ⟨x30,hx30,h⟩:=bd_some h;obtain ⟨x31,hx31,h⟩:=bd_some h;obtain ⟨x32,hx32,h⟩:=bd_some h;obtain ⟨x33,hx33,h⟩:=bd_some h;refine draw_u tOk [.u 1 3000 (.osl 5001 0 x30.length) [⟨5001,3,1,x30.length,rows encInt x30⟩],.u 3 4000 (.osl 5001 0 x31.length) [⟨5001,3,1,x31.length,rows encInt x31⟩],.u 4 0 (.d (.bool x32)) [],.u 7 0 (.d (.bool x33)) []] 10 [] [0,1,0,7,15,31,63,127,255,511] [] ?_;(conv=>whnf);refine And.intro (callD_any (impl_TreePasses_c hx30) (by kernel_rfl)) ?_;(conv=>whnf);refine And.intro (callD_any (impl_TreePasses_c hx31) (by kernel_rfl)) ?_;(conv=>whnf);refine And.intro (callD_any (laws_wtInts_c hx32) (by kernel_rfl)) ?_;(conv=>whnf);refine And.intro (callDG_if rfl rfl rfl rfl (by intro c0; exact impl_TreeRight_c (gcall_some hx33 c0))) ?_;(conv=>whnf);refine And.intro (by kernel_rfl) ?_;(conv=>whnf);obtain rfl:=Option.some.inj h;exact lfP []
end Go.Proofs.YtejhbiefhpgjeaaGreat
